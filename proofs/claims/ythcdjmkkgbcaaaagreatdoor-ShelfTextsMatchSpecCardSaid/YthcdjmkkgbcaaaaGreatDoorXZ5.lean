/- Walks and laws over abstract values, merged by tools/merge.py. No statement of the seat. -/
import Derived.Shelf.Strings.Builder1
import Derived.Lib.AppendStr
import Derived.Lib.UnsafeStr
import Derived.WalkKit
import Derived.Ground.NamesProg
import Derived.Shelf.LaysM
import Derived.Shelf.Strconv.Itoa3
import Derived.Test.YthcdjmkkgbcaaaaGreatDoorProg
import Derived.Shelf.RegionOpenPlain
import Derived.Lib.ItoaLen
import Derived.Shelf.Strings.Cut
import Derived.Shelf.Strings.Split
import Derived.Shelf.Strconv.Atoi
import Derived.Lib.SlTrimSet
import Derived.Test.YthcdjmkkgbcaaaaGreatDoorXZ4

namespace Go.Proofs.YthcdjmkkgbcaaaaGreatDoor
open Go.RowKit
set_option linter.unusedVariables false

/-! Types. -/
namespace TyKE
theorem mt_134 : Tryz.prog.underlying 134 = some (.map 3 3) := by kernel_rfl
end TyKE
open TyH3 TyH4 TyH5 TyJ3 TyJ4 TyJ5 TyKA TyKB TyKC TyKD TyKE

/-- k steps by the map. -/
def idN (L : List (Int × Int)) (id : Int) : Nat → Int
  | 0 => id
  | k + 1 => (findG L (idN L id k)).getD 0
def ledP (l : List Thg) (L : List (Int × Int)) : Nat → Int → Option Int
  | 0, _ => none
  | n + 1, id => if thereB l id = true then some id else ledP l L n ((findG L id).getD 0)
theorem idN_shift (L : List (Int × Int)) (id : Int) : ∀ k, idN L ((findG L id).getD 0) k = idN L id (k + 1)
  | 0 => rfl
  | k + 1 => by show (findG L (idN L _ k)).getD 0 = _; rw [idN_shift L id k]; rfl
theorem ledP_hit {l : List Thg} {L : List (Int × Int)} : ∀ {n k : Nat} {id : Int}, k < n → (∀ j, j < k → thereB l (idN L id j) = false) → thereB l (idN L id k) = true → ledP l L n id = some (idN L id k)
  | 0, _, _, h, _, _ => by omega
  | n + 1, 0, id, _, _, h => if_pos h
  | n + 1, k + 1, id, hk, h, h2 => by
    have h0 := h 0 (by omega)
    show (if thereB l id = true then _ else _) = _
    rw [if_neg (by rw [show thereB l id = false from h0]; decide)]
    rw [ledP_hit (k := k) (by omega) (fun j hj => by rw [idN_shift]; exact h (j + 1) (by omega)) (by rw [idN_shift]; exact h2), idN_shift]
theorem ledP_no {l : List Thg} {L : List (Int × Int)} : ∀ {n : Nat} {id : Int}, (∀ j, j < n → thereB l (idN L id j) = false) → ledP l L n id = none
  | 0, _, _ => rfl
  | n + 1, id, h => by
    have h0 := h 0 (by omega)
    show (if thereB l id = true then _ else _) = _
    rw [if_neg (by rw [show thereB l id = false from h0]; decide)]
    exact ledP_no fun j hj => by rw [idN_shift]; exact h (j + 1) (by omega)
theorem led_hit {c : Ctl} : ∀ {n k : Nat} {id : Int}, k < n → (∀ j, j < k → thereB c.things (idN (mvL c.moved) id j) = false ∧ hasM c.moved (idN (mvL c.moved) id j) = true) → thereB c.things (idN (mvL c.moved) id k) = true → led c n id = some (idN (mvL c.moved) id k)
  | 0, _, _, h, _, _ => by omega
  | n + 1, 0, id, _, _, h => if_pos h
  | n + 1, k + 1, id, hk, h, h2 => by
    have h0 := h 0 (by omega)
    show (if thereB c.things id = true then _ else if hasM c.moved id = true then _ else _) = _
    rw [if_neg (by rw [show thereB c.things id = false from h0.1]; decide), if_pos (show hasM c.moved id = true from h0.2)]
    show led c n ((findG (mvL c.moved) id).getD 0) = _
    rw [led_hit (k := k) (by omega) (fun j hj => by rw [idN_shift]; exact h (j + 1) (by omega)) (by rw [idN_shift]; exact h2), idN_shift]
theorem led_gone {c : Ctl} : ∀ {n k : Nat} {id : Int}, k < n → (∀ j, j < k → thereB c.things (idN (mvL c.moved) id j) = false ∧ hasM c.moved (idN (mvL c.moved) id j) = true) → thereB c.things (idN (mvL c.moved) id k) = false → hasM c.moved (idN (mvL c.moved) id k) = false → led c n id = none
  | 0, _, _, h, _, _, _ => by omega
  | n + 1, 0, id, _, _, h, h2 => by
    show (if thereB c.things id = true then _ else if hasM c.moved id = true then _ else _) = _
    rw [if_neg (by rw [show thereB c.things id = false from h]; decide), if_neg (by rw [show hasM c.moved id = false from h2]; decide)]
  | n + 1, k + 1, id, hk, h, h2, h3 => by
    have h0 := h 0 (by omega)
    show (if thereB c.things id = true then _ else if hasM c.moved id = true then _ else _) = _
    rw [if_neg (by rw [show thereB c.things id = false from h0.1]; decide), if_pos (show hasM c.moved id = true from h0.2)]
    exact led_gone (k := k) (by omega) (fun j hj => by rw [show getM c.moved id = (findG (mvL c.moved) id).getD 0 from rfl, idN_shift]; exact h (j + 1) (by omega)) (by rw [show getM c.moved id = (findG (mvL c.moved) id).getD 0 from rfl, idN_shift]; exact h2) (by rw [show getM c.moved id = (findG (mvL c.moved) id).getD 0 from rfl, idN_shift]; exact h3)
theorem led_no {c : Ctl} : ∀ {n : Nat} {id : Int}, (∀ j, j < n → thereB c.things (idN (mvL c.moved) id j) = false ∧ hasM c.moved (idN (mvL c.moved) id j) = true) → led c n id = none
  | 0, _, _ => rfl
  | n + 1, id, h => by
    have h0 := h 0 (by omega)
    show (if thereB c.things id = true then _ else if hasM c.moved id = true then _ else _) = _
    rw [if_neg (by rw [show thereB c.things id = false from h0.1]; decide), if_pos (show hasM c.moved id = true from h0.2)]
    exact led_no fun j hj => by rw [show getM c.moved id = (findG (mvL c.moved) id).getD 0 from rfl, idN_shift]; exact h (j + 1) (by omega)
theorem ledP_zero {l : List Thg} {L : List (Int × Int)} (h0 : thereB l 0 = false) (hm : findG L 0 = none) : ∀ n, ledP l L n 0 = none
  | 0 => rfl
  | n + 1 => by
    show (if thereB l 0 = true then _ else _) = _
    rw [if_neg (by rw [h0]; decide), hm]
    exact ledP_zero h0 hm n
theorem ledP_same {c : Ctl} (h0 : thereB c.things 0 = false) (hm : hasM c.moved 0 = false) : ∀ n id, ledP c.things (mvL c.moved) n id = led c n id
  | 0, _ => rfl
  | n + 1, id => by
    have hm' : findG (mvL c.moved) 0 = none := by unfold hasM at hm; cases hq : findG (mvL c.moved) 0 with
      | none => rfl
      | some _ => rw [hq] at hm; cases hm
    show (if thereB c.things id = true then some id else ledP c.things (mvL c.moved) n ((findG (mvL c.moved) id).getD 0)) = (if thereB c.things id = true then _ else if hasM c.moved id = true then _ else _)
    by_cases h1 : thereB c.things id = true
    · rw [if_pos h1, if_pos h1]
    · rw [if_neg h1, if_neg h1]
      by_cases h2 : hasM c.moved id = true
      · rw [if_pos h2]; exact ledP_same h0 hm n _
      · rw [if_neg h2]
        unfold hasM at h2
        cases hq : findG (mvL c.moved) id with
        | some _ => rw [hq] at h2; exact absurd rfl h2
        | none => exact ledP_zero h0 hm' n
/-- The map of the numbers that moved. -/
def toL (m : List Mvd) : List (Int × Int) := m.foldl (fun L x => putG L x.src x.dst) []
theorem toL_next {m : List Mvd} {k : Nat} (hk : k < m.length) : toL (m.take (k + 1)) = putG (toL (m.take k)) m[k].src m[k].dst := by
  unfold toL
  rw [List.take_add_one, List.getElem?_eq_getElem hk, Option.toList_some, List.foldl_append]; rfl
theorem foldl_nk : ∀ (m : List Mvd) (L : List (Int × Int)), NkG L → NkG (m.foldl (fun L x => putG L x.src x.dst) L)
  | [], _, h => h
  | x :: m, L, h => foldl_nk m _ (putG_nk h _ _)
theorem toL_nk (m : List Mvd) : NkG (toL m) := foldl_nk m [] (by unfold NkG; exact List.Pairwise.nil)
theorem foldl_mem (P : Int × Int → Prop) : ∀ (m : List Mvd) (L : List (Int × Int)), (∀ x ∈ m, P (x.src, x.dst)) → (∀ p ∈ L, P p) → ∀ p ∈ m.foldl (fun L x => putG L x.src x.dst) L, P p
  | [], _, _, h => h
  | x :: m, L, h, h2 => foldl_mem P m _ (fun y hy => h y (List.mem_cons_of_mem _ hy)) fun p hp => by
    unfold putG at hp
    dsimp only at hp
    by_cases hh : hasG L x.src = true
    · rw [if_pos hh] at hp
      obtain ⟨q, hq, rfl⟩ := List.mem_map.1 hp
      by_cases h3 : q.1 = x.src
      · rw [if_pos h3]; exact h x List.mem_cons_self
      · rw [if_neg h3]; exact h2 q hq
    · rw [if_neg hh, List.mem_append, List.mem_singleton] at hp
      rcases hp with hp | hp
      · exact h2 p hp
      · rw [hp]; exact h x List.mem_cons_self
theorem toL_ok {m : List Mvd} (h : ∀ x ∈ m, i64 x.src ∧ i64 x.dst) : ∀ p ∈ toL m, i64 p.1 ∧ i64 p.2 := foldl_mem (fun p => i64 p.1 ∧ i64 p.2) m [] h fun p hp => by cases hp
theorem foldl_has : ∀ (m : List Mvd) (L : List (Int × Int)) (id : Int), hasG (m.foldl (fun L x => putG L x.src x.dst) L) id = (hasG L id || m.any fun x => decide (x.src = id))
  | [], L, id => by simp
  | x :: m, L, id => by
    rw [List.foldl_cons, foldl_has m _ id]
    have h1 : hasG (putG L x.src x.dst) id = (hasG L id || decide (x.src = id)) := by
      have e1 : hasG (putG L x.src x.dst) id = (findG (putG L x.src x.dst) id).isSome := by
        cases hq : findG (putG L x.src x.dst) id with
        | none => exact findG_none.1 hq
        | some v => cases hh : hasG (putG L x.src x.dst) id with
          | true => rfl
          | false => rw [findG_none.2 hh] at hq; cases hq
      have e2 : hasG L id = (findG L id).isSome := by
        cases hq : findG L id with
        | none => exact findG_none.1 hq
        | some v => cases hh : hasG L id with
          | true => rfl
          | false => rw [findG_none.2 hh] at hq; cases hq
      rw [e1, e2, findG_put]
      by_cases h : id = x.src
      · simp [h]
      · have : ¬ x.src = id := fun e => h e.symm
        simp [h, this]
    rw [h1]
    simp [Bool.or_assoc]
theorem isSome_has {κ β : Type} [DecidableEq κ] (L : List (κ × β)) (k : κ) : (findG L k).isSome = hasG L k := by
  cases hq : findG L k with
  | none => exact (findG_none.1 hq).symm
  | some v => cases hh : hasG L k with
    | true => rfl
    | false => rw [findG_none.2 hh] at hq; cases hq
theorem toL_has (m : List Mvd) (id : Int) : (findG (toL m) id).isSome = hasM m id := by
  rw [isSome_has]
  unfold toL
  rw [foldl_has]
  unfold hasM
  rw [isSome_has]
  simp [hasG, mvL]
  rfl
/-- Numbers that rise. -/
structure RisM (m : List Mvd) : Prop where
  rng : ∀ x ∈ m, 1 ≤ x.src ∧ x.src ≤ 1000000
  up : ∀ i j (hi : i < m.length) (hj : j < m.length), i < j → m[i].src < m[j].src
theorem mvF_0 {c : Ctl} {k : Nat} (hk : k < c.moved.length) (h : mvF c k = 0) : (1 ≤ c.moved[k].src ∧ c.moved[k].src ≤ 1000000) ∧ (∀ h0 : 0 < k, (c.moved[k-1]'(by omega)).src < c.moved[k].src) := by
  unfold mvF at h
  rw [dif_pos hk] at h
  by_cases h1 : c.moved[k].src < 1 ∨ 1000000 < c.moved[k].src
  · rw [if_pos h1] at h; omega
  · rw [if_neg h1] at h
    by_cases h2 : 0 < k ∧ c.moved[k].src ≤ (c.moved[k-1]'(by omega)).src
    · rw [if_pos h2] at h; omega
    · exact ⟨by omega, fun h0 => by
        have h3 : ¬ c.moved[k].src ≤ (c.moved[k-1]'(by omega)).src := fun h3 => h2 ⟨h0, h3⟩
        omega⟩
theorem risM_of {c : Ctl} (h : ffst (mvF c) c.moved.length = 0) : RisM c.moved := by
  have h0 := fun k (hk : k < c.moved.length) => mvF_0 hk (ffst_all _ h k hk)
  refine ⟨fun t ht => ?_, ?_⟩
  · obtain ⟨k, hk, rfl⟩ := List.mem_iff_getElem.1 ht
    exact (h0 k hk).1
  · intro i j hi hj hij
    induction j with
    | zero => omega
    | succ j ih =>
      have h1 := (h0 (j + 1) hj).2 (by omega)
      simp only [Nat.add_sub_cancel] at h1
      by_cases he : i = j
      · subst he; exact h1
      · have := ih (by omega) (by omega); omega
theorem toL_take {m : List Mvd} (h : RisM m) : ∀ k, k ≤ m.length → toL (m.take k) = mvL (m.take k)
  | 0, _ => by simp [toL, mvL]
  | k + 1, hk => by
    have hk' : k < m.length := by omega
    rw [toL_next hk', toL_take h k (by omega)]
    have hno : ¬ hasG (mvL (m.take k)) m[k].src = true := fun hh => by
      obtain ⟨p, hp, he⟩ := hasG_iff.1 hh
      unfold mvL at hp
      obtain ⟨t, ht, rfl⟩ := List.mem_map.1 hp
      obtain ⟨j, hj, rfl⟩ := List.mem_iff_getElem.1 ht
      rw [List.length_take] at hj
      rw [List.getElem_take] at he
      have := h.up j k (by omega) hk' (by omega)
      dsimp only at he
      omega
    unfold putG
    rw [if_neg hno]
    unfold mvL
    rw [List.take_add_one, List.getElem?_eq_getElem hk', Option.toList_some, List.map_append]
    rfl
theorem toL_ris {m : List Mvd} (h : RisM m) : toL m = mvL m := by
  have := toL_take h m.length (Nat.le_refl _)
  rwa [List.take_length] at this
theorem RisM.zero {m : List Mvd} (h : RisM m) : hasM m 0 = false := by
  unfold hasM
  rw [findM_none.2 fun x hx => by have := h.rng x hx; omega]
  rfl
theorem mvL_len (m : List Mvd) : (mvL m).length = m.length := List.length_map ..
theorem idN_ok {L : List (Int × Int)} (h : ∀ p ∈ L, i64 p.1 ∧ i64 p.2) {id : Int} (hi : i64 id) : ∀ k, i64 (idN L id k)
  | 0 => hi
  | k + 1 => by
    show i64 ((findG L (idN L id k)).getD 0)
    unfold findG
    cases hq : L.find? fun p => decide (p.1 = idN L id k) with
    | none => exact i64_0
    | some p => exact (h p (List.mem_of_find?_eq_some hq)).2
theorem get_to {L : List (Int × Int)} (h : NkG L) (id : Int) : MGet (toM L) (kI id) (.v (.int .i64 0)) (.v (.int .i64 ((findG L id).getD 0))) :=
  mgetG (kv := kI) (dv := dI) kI_inj h id _ _ (by cases findG L id <;> rfl)
theorem getok_to {L : List (Int × Int)} (h : NkG L) (id : Int) : MGetOk (toM L) (kI id) (.v (.int .i64 0)) (.v (.int .i64 ((findG L id).getD 0))) (findG L id).isSome :=
  mgetokG (kv := kI) (dv := dI) kI_inj h id _ _ (by cases findG L id <;> rfl)
theorem put_to {m : List Mvd} {k : Nat} (hk : k < m.length) : MPut (toM (toL (m.take k))) (kI m[k].src) (.v (.int .i64 m[k].dst)) (toM (toL (m.take (k + 1)))) := by
  rw [toL_next hk]
  exact mputG (kv := kI) (dv := dI) kI_inj (toL_nk _) m[k].src m[k].dst
theorem to_len (L : List (Int × Int)) : (toM L).length = L.length := by simp [toM, encG]
theorem th_next {l : List Thg} {L : List (Int × Int)} {id : Int} {k : Nat} (h : ∀ j, j < k → thereB l (idN L id j) = false) (h2 : thereB l (idN L id k) = false) : ∀ j, j < k + 1 → thereB l (idN L id j) = false := fun j hj => by
  by_cases he : j = k
  · subst he; exact h2
  · exact h j (by omega)
theorem thm_next {c : Ctl} {L : List (Int × Int)} {id : Int} {k : Nat} (h : ∀ j, j < k → thereB c.things (idN L id j) = false ∧ hasM c.moved (idN L id j) = true) (h2 : thereB c.things (idN L id k) = false) (h3 : hasM c.moved (idN L id k) = true) : ∀ j, j < k + 1 → thereB c.things (idN L id j) = false ∧ hasM c.moved (idN L id j) = true := fun j hj => by
  by_cases he : j = k
  · subst he; exact ⟨h2, h3⟩
  · exact h j (by omega)
theorem mvd_a {c : Ctl} {k : Nat} {n : Int} (hk : k < c.moved.length) (hf : ffst (mvF c) k = 0) (h2 : mvF c k = n) (hn : n ≠ 0) : mvdF c = n := by
  have h3 := ffst_hit hf (by rw [h2]; exact hn) _ hk
  unfold mvdF
  rw [h3, h2, if_pos hn]
theorem mvd_b {c : Ctl} (hf : ffst (mvF c) c.moved.length = 0) : mvdF c = ffst (lpF c) c.moved.length := if_neg (by rw [hf]; exact fun h => h rfl)
theorem lp_14 {c : Ctl} {k : Nat} (hk : k < c.moved.length) (h : (ledC c c.moved[k].src).isSome = false) : lpF c k = 14 := by unfold lpF; rw [dif_pos hk, if_pos h]
theorem lp_0 {c : Ctl} {k : Nat} (hk : k < c.moved.length) (h : (ledC c c.moved[k].src).isSome = true) : lpF c k = 0 := by unfold lpF; rw [dif_pos hk, if_neg (by rw [h]; decide)]
theorem mvd_c {c : Ctl} {k : Nat} (hf : ffst (mvF c) c.moved.length = 0) (hk : k < c.moved.length) (h : ffst (lpF c) k = 0) (h2 : (ledC c c.moved[k].src).isSome = false) : mvdF c = 14 := by
  rw [mvd_b hf, ffst_hit h (by rw [lp_14 hk h2]; decide) _ hk, lp_14 hk h2]

set_option maxRecDepth 100000 in
set_option maxHeartbeats 1000000 in
theorem c_found (l : List Thg) (L : List (Int × Int)) (id : Int) (hl : ∀ x ∈ l, ThgOk x) (hn : RisT l) (hL : ∀ p ∈ L, i64 p.1 ∧ i64 p.2) (hk0 : NkG L) (hi : i64 id) (hll : L.length ≤ 300) : ACall Tryz.prog 93 [.fm (idxM l), .fm (toM L), .v (.int .i64 id)] (.tup [.v (.int .i64 ((ledP l L (L.length + 1) id).getD 0)), .v (.bool (ledP l L (L.length + 1) id).isSome)]) := by
 refine acall_of (n := 27) (ds' := [.v (.int .i64 ((ledP l L (L.length + 1) id).getD 0)), .v (.bool (ledP l L (L.length + 1) id).isSome)]) Tryz.func93 rfl (by kernel_rfl) rfl [6, 7] rfl rfl ?_
 intro B w0 F0 fr
 refine .sr ?_
 refine .aA ?_
 refine .aA (.nil ?_)
 refine .seq ?_
 refine .sr ?_
 refine .mA ?_
 refine .sA (.lenF rfl mt_134 rfl) ?_
 rw [to_len]
 refine .sA (.add64 rfl rfl rfl (by omega) (by omega)) ?_
 refine .mA (.nil ?_)
 refine .block ?_
 refine .loop (G := Nat) (fun k => Env.of [(13, .d (.v (.int .i64 (k : Int)))), (12, .d (.v (.int .i64 ((L.length : Int) + 1)))), (2, .d (.v (.int .i64 (idN L id k)))), (0, .d (.fm (idxM l))), (1, .d (.fm (toM L)))]) (fun k => []) (fun k => k ≤ L.length + 1 ∧ ∀ j, j < k → thereB l (idN L id j) = false) (fun k => L.length + 1 - k) 0 ⟨Nat.zero_le _, fun j hj => by omega⟩ (Sub.less ⟨(SLe.of_eq rfl), SLe.refl _, (SLe.of_eq rfl), SLe.refl _, SLe.refl _, trivial⟩ (fun _ h => h)) ?_
 intro k hk
 refine .sr ?_
 refine .sA (.lss rfl rfl rfl) (.nil ?_)
 refine .seq ?_
 refine .cond rfl (fun h1 => ?_) (fun h1 => ?_)
 ·replace h1 := of_decide_eq_true h1
  have hlt : k < L.length + 1 := by omega
  refine .skip ?_
  refine .seq ?_
  refine .block ?_
  refine .seq ?_
  refine .sr ?_
  refine .mA ?_
  refine .mA ?_
  refine .sA (.lookupOkF (key := kI (idN L id k)) rfl mt_idx kd_int zt_thg zd_thg rfl rfl (DExact.v _) (kI_ok (idN_ok hL hi k)) (idxM_keys hl) _ (getok_idx hn.nk _)) ?_
  refine .mA ?_
  refine .sA (.extract rfl rfl rfl) ?_
  refine .sA (.extract rfl rfl rfl) ?_
  refine .alloc 101 rfl rfl rfl rfl zt_61 rfl rfl rfl ?_
  refine .store rfl rfl rfl sz_61 rfl (.head _) rfl rfl rfl (Nat.le_of_ble_eq_true rfl) ?_
  refine .freezeCells 8 (ds := (getT l (idN L id k)).ds) rfl (.head _) ?_
  refine .aA (.nil ?_)
  refine .sr ?_
  refine .mA (.nil ?_)
  refine .cond rfl (fun h2 => ?_) (fun h2 => ?_)
  ·skip
   rw [ledP_hit hlt hk.2 h2]
   refine .sr ?_
   refine .mA ?_
   refine .aA ?_
   refine .aA (.nil ?_)
   refine .ret ?_
   refine ⟨RetD.eq rfl ?_, RetD.eq rfl ?_, trivial⟩
   all_goals (rfl)
  have HN := th_next hk.2 h2
  refine .skip ?_
  refine .region ?_
  refine .mA ?_
  refine .mA ?_
  refine .sA (.lookupF (key := kI (idN L id k)) rfl mt_to kd_int zt_int zd_int rfl rfl (DExact.v _) (kI_ok (idN_ok hL hi k)) (toM_keys fun p hp => (hL p hp).1) (get_to hk0 _)) ?_
  refine .aA (.nil ?_)
  refine .region ?_
  refine .sA (.add64 rfl rfl rfl (by omega) (by omega)) ?_
  refine .mA (.nil ?_)
  refine ⟨k + 1, ⟨by omega, HN⟩, (by dsimp only; omega), Sub.less ⟨(SLe.of_eq rfl), SLe.refl _, (SLe.of_eq rfl), SLe.refl _, SLe.refl _, trivial⟩ (fun _ h => h)⟩
 replace h1 := of_decide_eq_false h1
 rw [ledP_no (fun j hj => hk.2 j (by omega))]
 refine .exit ?_
 refine .sr ?_
 refine .aA ?_
 refine .aA (.nil ?_)
 refine .ret ?_
 refine ⟨RetD.eq rfl ?_, RetD.eq rfl ?_, trivial⟩
 all_goals (rfl)

set_option maxRecDepth 100000 in
set_option maxHeartbeats 1000000 in
theorem c_find (c : Ctl) (id : Int) (hl : Lim c) : ACall Tryz.prog 101 [.agg c.ds, .v (.int .i64 id)] (.tup [.v (.int .i64 ((ledC c id).getD 0)), .v (.bool (ledC c id).isSome)]) := by
 refine acall_of (n := 34) (ds' := [.v (.int .i64 ((ledC c id).getD 0)), .v (.bool (ledC c id).isSome)]) Tryz.func101 rfl (by kernel_rfl) rfl [4, 5] rfl rfl ?_
 intro B w0 F0 fr
 have hl2 := hl.2
 refine .sr ?_
 refine .sA (.box rfl rfl rfl) ?_
 refine .aA ?_
 refine .aA (.nil ?_)
 refine .seq ?_
 refine .sr ?_
 refine .sA (.fieldAddr rfl fo_25_1 rfl) ?_
 refine .sA (.load rfl sc_23 rfl) ?_
 refine .sA (.lenSl rfl et_23.ht rfl) ?_
 rw [List.length_map]
 refine .sA (.add64 rfl rfl rfl (by omega) (by omega)) ?_
 refine .mA (.nil ?_)
 refine .block ?_
 refine .loop (G := Nat) (fun k => Env.of [(14, .d (.v (.int .i64 (k : Int)))), (13, .d (.v (.int .i64 ((c.moved.length : Int) + 1)))), (1, .d (.v (.int .i64 (idN (mvL c.moved) id k)))), (2, .d (.fp c.ds))]) (fun k => []) (fun k => k ≤ c.moved.length + 1 ∧ ∀ j, j < k → thereB c.things (idN (mvL c.moved) id j) = false ∧ hasM c.moved (idN (mvL c.moved) id j) = true) (fun k => c.moved.length + 1 - k) 0 ⟨Nat.zero_le _, fun j hj => by omega⟩ (Sub.less ⟨(SLe.of_eq rfl), SLe.refl _, (SLe.of_eq rfl), SLe.refl _, trivial⟩ (fun _ h => h)) ?_
 intro k hk
 refine .sr ?_
 refine .sA (.lss rfl rfl rfl) (.nil ?_)
 refine .seq ?_
 refine .cond rfl (fun h1 => ?_) (fun h1 => ?_)
 ·replace h1 := of_decide_eq_true h1
  have hlt : k < c.moved.length + 1 := by omega
  refine .skip ?_
  refine .seq ?_
  refine .block ?_
  refine .seq ?_
  refine .sr ?_
  refine .sA (.loadAgg rfl ag_25 rfl rfl) ?_
  refine .mA ?_
  refine .sA (.call rfl (.cons (.rfl' rfl) (.cons (.rfl' rfl) .nil)) (c_thing c _ hl.two)) ?_
  refine .mA ?_
  refine .sA (.extract rfl rfl rfl) ?_
  refine .sA (.extract rfl rfl rfl) ?_
  refine .alloc 101 rfl rfl rfl rfl zt_61 rfl rfl rfl ?_
  refine .store rfl rfl rfl sz_61 rfl (.head _) rfl rfl rfl (Nat.le_of_ble_eq_true rfl) ?_
  refine .freezeCells 6 (ds := (getT c.things (idN (mvL c.moved) id k)).ds) rfl (.head _) ?_
  refine .aA (.nil ?_)
  refine .sr ?_
  refine .mA (.nil ?_)
  refine .cond rfl (fun h2 => ?_) (fun h2 => ?_)
  ·skip
   rw [show ledC c id = _ from led_hit hlt hk.2 h2]
   refine .sr ?_
   refine .mA ?_
   refine .aA ?_
   refine .aA (.nil ?_)
   refine .ret ?_
   refine ⟨RetD.eq rfl ?_, RetD.eq rfl ?_, trivial⟩
   all_goals (rfl)
  have hth := h2
  refine .skip ?_
  refine .sr ?_
  refine .sA (.loadAgg rfl ag_25 rfl rfl) ?_
  refine .mA ?_
  refine .sA (.call rfl (.cons (.rfl' rfl) (.cons (.rfl' rfl) .nil)) (c_moved c _ hl.two)) ?_
  refine .mA ?_
  refine .sA (.extract rfl rfl rfl) ?_
  refine .sA (.extract rfl rfl rfl) ?_
  refine .aA ?_
  refine .aA (.nil ?_)
  refine .seq ?_
  refine .sr ?_
  refine .mA ?_
  refine .sA (.not rfl rfl) (.nil ?_)
  refine .cond rfl (fun h3 => ?_) (fun h3 => ?_)
  ·replace h3 := bnot_t h3
   rw [show ledC c id = none from led_gone hlt hk.2 hth h3]
   refine .sr ?_
   refine .aA ?_
   refine .aA (.nil ?_)
   refine .ret ?_
   refine ⟨RetD.eq rfl ?_, RetD.eq rfl ?_, trivial⟩
   all_goals (rfl)
  replace h3 := bnot_f h3
  have HN := thm_next hk.2 hth h3
  refine .skip ?_
  refine .region ?_
  refine .mA ?_
  refine .aA (.nil ?_)
  refine .region ?_
  refine .sA (.add64 rfl rfl rfl (by omega) (by omega)) ?_
  refine .mA (.nil ?_)
  refine ⟨k + 1, ⟨by omega, HN⟩, (by dsimp only; omega), Sub.less ⟨(SLe.of_eq rfl), SLe.refl _, (SLe.of_eq rfl), SLe.refl _, trivial⟩ (fun _ h => h)⟩
 replace h1 := of_decide_eq_false h1
 rw [show ledC c id = none from led_no (fun j hj => hk.2 j (by omega))]
 refine .exit ?_
 refine .sr ?_
 refine .aA ?_
 refine .aA (.nil ?_)
 refine .ret ?_
 refine ⟨RetD.eq rfl ?_, RetD.eq rfl ?_, trivial⟩
 all_goals (rfl)

end Go.Proofs.YthcdjmkkgbcaaaaGreatDoor

namespace Go.Proofs.YthcdjmkkgbcaaaaGreatDoor
open Go.RowKit
set_option linter.unusedVariables false

/-! Types. -/
namespace TyKF
end TyKF
open TyH3 TyH4 TyH5 TyJ3 TyJ4 TyJ5 TyKA TyKB TyKC TyKD TyKE TyKF

theorem led_ris {c : Ctl} (hr : RisT c.things) (hm : RisM c.moved) (n : Nat) (id : Int) : ledP c.things (mvL c.moved) n id = led c n id := ledP_same hr.zero hm.zero n id
theorem led_def (c : Ctl) (id : Int) : led c ((mvL c.moved).length + 1) id = ledC c id := by rw [mvL_len]; rfl

set_option maxRecDepth 100000 in
set_option maxHeartbeats 1000000 in
theorem c_pMvd (c : Ctl) (hl : Lim c) (hc : CtlOk c) (hr : RisT c.things) : ACall Tryz.prog 58 [.agg c.ds, .fm (idxM c.things)] (.v (.int .i64 (mvdF c))) := by
 refine acall_of (n := 111) (ds' := [.v (.int .i64 (mvdF c))]) Tryz.func58 rfl (by kernel_rfl) rfl [4] rfl rfl ?_
 intro B w0 F0 fr
 have hl2 := hl.2
 refine .sr ?_
 refine .sA (.box rfl rfl rfl) ?_
 refine .aA (.nil ?_)
 refine .sr ?_
 refine .makeMap 91 rfl rfl rfl rfl rfl ?_
 refine .sA (.assignO rfl rfl) (.nil ?_)
 refine .seq ?_
 refine .sr ?_
 refine .sA (.fieldAddr rfl fo_25_1 rfl) ?_
 refine .sA (.load rfl sc_23 rfl) ?_
 refine .sA (.lenSl rfl et_23.ht rfl) ?_
 refine .mA (.nil ?_)
 refine .block ?_
 refine .loop (G := Nat) (fun k => Env.of [(24, .d (.v (.int .i64 (k : Int)))), (22, .d (.sl (c.moved.map Mvd.ds))), (23, .d (.v (.int .i64 ((c.moved.map Mvd.ds).length : Int)))), (5, .own 91), (2, .d (.fp c.ds)), (1, .d (.fm (idxM c.things)))]) (fun k => [(91, .map (toM (toL (c.moved.take k))))]) (fun k => k ≤ c.moved.length) (fun k => c.moved.length - k) 0 (Nat.zero_le _) (Sub.less ⟨(SLe.of_eq rfl), SLe.refl _, SLe.refl _, SLe.refl _, SLe.refl _, SLe.refl _, trivial⟩ (map_1 rfl)) ?_
 intro k hk
 refine .sr ?_
 refine .sA (.lss rfl rfl rfl) (.nil ?_)
 refine .seq ?_
 refine .cond rfl (fun h1 => ?_) (fun h1 => ?_)
 ·replace h1 := of_decide_eq_true h1
  rw [List.length_map] at h1
  have hlt : k < c.moved.length := by omega
  have hbk := hc.moved _ (List.getElem_mem hlt)
  refine .skip ?_
  refine .seq ?_
  refine .block ?_
  refine .sr ?_
  refine .sA (.indexAddr rfl et_23 rfl rfl k rfl (at_lst hlt) rfl) ?_
  refine .sA (.loadAgg rfl ag_54 rfl rfl) ?_
  refine .alloc 102 rfl rfl rfl rfl zt_54 rfl rfl rfl ?_
  refine .store rfl rfl rfl sz_54 rfl (.head _) rfl rfl rfl (Nat.le_of_ble_eq_true rfl) ?_
  refine .freezeCells 7 (ds := c.moved[k].ds) rfl (.head _) (.nil ?_)
  refine .region ?_
  refine .sA (.moveO rfl rfl) ?_
  refine .sA (.fieldAddr rfl fo_54_0 rfl) ?_
  refine .sA (.load rfl sc_3 rfl) ?_
  refine .sA (.fieldAddr rfl fo_54_1 rfl) ?_
  refine .sA (.load rfl sc_3 rfl) ?_
  refine .eff rfl rfl (.mapUpdateX (key := kI c.moved[k].src) rfl rfl mt_to kd_int rfl (.head _) rfl (DExact.v _) rfl (kI_ok hbk.1) (toM_keys fun p hp => (toL_ok (fun x hx => hc.moved x (List.mem_of_mem_take hx)) p hp).1) (put_to hlt)) (.nil ?_)
  refine .region ?_
  refine .sA (.add64 rfl rfl rfl (by omega) (by omega)) ?_
  refine .mA (.nil ?_)
  refine ⟨k + 1, (by omega), (by dsimp only; omega), Sub.less ⟨(SLe.of_eq rfl), SLe.refl _, SLe.refl _, SLe.refl _, SLe.refl _, SLe.refl _, trivial⟩ (map_1 rfl)⟩
 replace h1 := of_decide_eq_false h1
 rw [List.length_map] at h1
 obtain rfl : k = c.moved.length := by omega
 rw [List.take_length]
 refine .exit ?_
 refine .seq ?_
 refine .seq ?_
 refine .freezeMap 5 rfl (.head _) ?_
 refine .region ?_
 refine .sA (.fieldAddr rfl fo_25_1 rfl) ?_
 refine .sA (.load rfl sc_23 rfl) ?_
 refine .sA (.lenSl rfl et_23.ht rfl) ?_
 refine .mA (.nil ?_)
 refine .block ?_
 refine .loop (G := Nat) (fun k => Env.of [(37, .d (.v (.int .i64 (k : Int)))), (35, .d (.sl (c.moved.map Mvd.ds))), (36, .d (.v (.int .i64 ((c.moved.map Mvd.ds).length : Int)))), (5, .d (.fm (toM (toL c.moved)))), (2, .d (.fp c.ds)), (1, .d (.fm (idxM c.things)))]) (fun k => []) (fun k => k ≤ c.moved.length ∧ ffst (mvF c) k = 0) (fun k => c.moved.length - k) 0 ⟨Nat.zero_le _, rfl⟩ (Sub.less ⟨(SLe.of_eq rfl), SLe.refl _, SLe.refl _, SLe.refl _, SLe.refl _, SLe.refl _, trivial⟩ (fun _ h => h)) ?_
 intro k hk
 refine .sr ?_
 refine .sA (.lss rfl rfl rfl) (.nil ?_)
 refine .seq ?_
 refine .cond rfl (fun h2 => ?_) (fun h2 => ?_)
 ·replace h2 := of_decide_eq_true h2
  rw [List.length_map] at h2
  have hlt : k < c.moved.length := by omega
  have hbk := hc.moved _ (List.getElem_mem hlt)
  refine .skip ?_
  refine .seq ?_
  refine .block ?_
  refine .sr ?_
  refine .mA ?_
  refine .sA (.indexAddr rfl et_23 rfl rfl k rfl (at_lst hlt) rfl) ?_
  refine .sA (.loadAgg rfl ag_54 rfl rfl) ?_
  refine .alloc 103 rfl rfl rfl rfl zt_54 rfl rfl rfl ?_
  refine .aA ?_
  refine .store rfl rfl rfl sz_54 rfl (.head _) rfl rfl rfl (Nat.le_of_ble_eq_true rfl) ?_
  refine .freezeCells 9 (ds := c.moved[k].ds) rfl (.head _) (.nil ?_)
  refine .seq ?_
  refine .sr ?_
  refine .sA (.fieldAddr rfl fo_54_0 rfl) ?_
  refine .sA (.load rfl sc_3 rfl) ?_
  refine .sA (.lss rfl rfl rfl) ?_
  refine .mA ?_
  refine .split 45 rfl (fun g3 => ?_) (fun g3 => ?_)
  ·replace g3 := of_decide_eq_true g3
   refine .pA ?_
   refine .pA ?_
   refine .pA ?_
   refine .sA (.pickT rfl rfl rfl) (.nil ?_)
   refine .cond rfl (fun _ => ?_) (fun h => nomatch h)
   refine .sr ?_
   refine .aA (.nil ?_)
   refine .ret ?_
   refine ⟨RetD.eq rfl ?_, trivial⟩
   all_goals (first | rw [HR] | rw [mvd_a hlt hk.2 (show mvF c k = 1 from by unfold mvF; rw [dif_pos hlt]; (first | (exfalso; omega) | ((repeat (first | rw [if_pos (by first | assumption | omega)] | rw [if_neg (by first | assumption | omega)])); first | done | rfl | omega | decide))) (by decide)] | rw [mvd_a hlt hk.2 (show mvF c k = 8 from by unfold mvF; rw [dif_pos hlt]; (first | (exfalso; omega) | ((repeat (first | rw [if_pos (by first | assumption | omega)] | rw [if_neg (by first | assumption | omega)])); first | done | rfl | omega | decide))) (by decide)] | rw [mvd_a hlt hk.2 (show mvF c k = 7 from by unfold mvF; rw [dif_pos hlt]; (first | (exfalso; omega) | ((repeat (first | rw [if_pos (by first | assumption | omega)] | rw [if_neg (by first | assumption | omega)])); first | done | rfl | omega | decide))) (by decide)] | rw [mvd_a hlt hk.2 (show mvF c k = 9 from by unfold mvF; rw [dif_pos hlt]; (first | (exfalso; omega) | ((repeat (first | rw [if_pos (by first | assumption | omega)] | rw [if_neg (by first | assumption | omega)])); first | done | rfl | omega | decide))) (by decide)])
  replace g3 := of_decide_eq_false g3
  refine .sG (.fieldAddr rfl fo_54_0 rfl) ?_
  refine .sG (.load rfl sc_3 rfl) ?_
  refine .sG (.gtr rfl rfl rfl) ?_
  refine .sA (.pickF rfl rfl rfl) (.nil ?_)
  refine .cond rfl (fun h4 => ?_) (fun h4 => ?_)
  ·replace h4 := of_decide_eq_true h4
   refine .sr ?_
   refine .aA (.nil ?_)
   refine .ret ?_
   refine ⟨RetD.eq rfl ?_, trivial⟩
   all_goals (first | rw [HR] | rw [mvd_a hlt hk.2 (show mvF c k = 1 from by unfold mvF; rw [dif_pos hlt]; (first | (exfalso; omega) | ((repeat (first | rw [if_pos (by first | assumption | omega)] | rw [if_neg (by first | assumption | omega)])); first | done | rfl | omega | decide))) (by decide)] | rw [mvd_a hlt hk.2 (show mvF c k = 8 from by unfold mvF; rw [dif_pos hlt]; (first | (exfalso; omega) | ((repeat (first | rw [if_pos (by first | assumption | omega)] | rw [if_neg (by first | assumption | omega)])); first | done | rfl | omega | decide))) (by decide)] | rw [mvd_a hlt hk.2 (show mvF c k = 7 from by unfold mvF; rw [dif_pos hlt]; (first | (exfalso; omega) | ((repeat (first | rw [if_pos (by first | assumption | omega)] | rw [if_neg (by first | assumption | omega)])); first | done | rfl | omega | decide))) (by decide)] | rw [mvd_a hlt hk.2 (show mvF c k = 9 from by unfold mvF; rw [dif_pos hlt]; (first | (exfalso; omega) | ((repeat (first | rw [if_pos (by first | assumption | omega)] | rw [if_neg (by first | assumption | omega)])); first | done | rfl | omega | decide))) (by decide)])
  replace h4 := of_decide_eq_false h4
  refine .skip ?_
  refine .seq ?_
  refine .seq ?_
  refine .draw (by kernel_rfl) (by kernel_rfl) ?_
  refine .sA (.moveD rfl rfl) ?_
  refine .sA (.gtr rfl rfl rfl) ?_
  refine .sA (.moveD rfl rfl) ?_
  refine .split 52 rfl (fun g5 => ?_) (fun g5 => ?_)
  ·replace g5 := of_decide_eq_true g5
   have hk0 : 0 < k := by omega
   refine .sG (.fieldAddr rfl fo_54_0 rfl) ?_
   refine .sG (.load rfl sc_3 rfl) ?_
   refine .sG (.fieldAddr rfl fo_25_1 rfl) ?_
   refine .sG (.load rfl sc_23 rfl) ?_
   refine .sG (.moveD rfl rfl) ?_
   refine .sG (.sub64 rfl rfl rfl (by omega) (by omega)) ?_
   refine .sG (.indexAddr rfl et_23 rfl rfl (k - 1) (by omega) (at_lst (by omega)) rfl) ?_
   refine .sG (.fieldAddr rfl fo_54_0 rfl) ?_
   refine .sG (.load rfl sc_3 rfl) ?_
   refine .sG (.leq rfl rfl rfl) ?_
   refine .sA (.pickT rfl rfl rfl) ?_
   refine .nil ?_
   refine .cond rfl (fun h6 => ?_) (fun h6 => ?_)
   ·replace h6 := of_decide_eq_true h6
    refine .sr ?_
    refine .aA (.nil ?_)
    refine .ret ?_
    refine ⟨RetD.eq rfl ?_, trivial⟩
    all_goals (first | rw [HR] | rw [mvd_a hlt hk.2 (show mvF c k = 1 from by unfold mvF; rw [dif_pos hlt]; (first | (exfalso; omega) | ((repeat (first | rw [if_pos (by first | assumption | omega)] | rw [if_neg (by first | assumption | omega)])); first | done | rfl | omega | decide))) (by decide)] | rw [mvd_a hlt hk.2 (show mvF c k = 8 from by unfold mvF; rw [dif_pos hlt]; (first | (exfalso; omega) | ((repeat (first | rw [if_pos (by first | assumption | omega)] | rw [if_neg (by first | assumption | omega)])); first | done | rfl | omega | decide))) (by decide)] | rw [mvd_a hlt hk.2 (show mvF c k = 7 from by unfold mvF; rw [dif_pos hlt]; (first | (exfalso; omega) | ((repeat (first | rw [if_pos (by first | assumption | omega)] | rw [if_neg (by first | assumption | omega)])); first | done | rfl | omega | decide))) (by decide)] | rw [mvd_a hlt hk.2 (show mvF c k = 9 from by unfold mvF; rw [dif_pos hlt]; (first | (exfalso; omega) | ((repeat (first | rw [if_pos (by first | assumption | omega)] | rw [if_neg (by first | assumption | omega)])); first | done | rfl | omega | decide))) (by decide)])
   replace h6 := of_decide_eq_false h6
   refine .skip ?_
   refine .seq ?_
   refine .sr ?_
   refine .mA ?_
   refine .sA (.fieldAddr rfl fo_54_0 rfl) ?_
   refine .sA (.load rfl sc_3 rfl) ?_
   refine .sA (.lookupOkF (key := kI c.moved[k].src) rfl mt_idx kd_int zt_thg zd_thg rfl rfl (DExact.v _) (kI_ok hbk.1) (idxM_keys hc.things) _ (getok_idx hr.nk _)) ?_
   refine .mA ?_
   refine .sA (.extract rfl rfl rfl) ?_
   refine .sA (.extract rfl rfl rfl) ?_
   refine .alloc 104 rfl rfl rfl rfl zt_61 rfl rfl rfl ?_
   refine .store rfl rfl rfl sz_61 rfl (.head _) rfl rfl rfl (Nat.le_of_ble_eq_true rfl) ?_
   refine .freezeCells 10 (ds := (getT c.things c.moved[k].src).ds) rfl (.head _) ?_
   refine .aA (.nil ?_)
   refine .sr ?_
   refine .mA (.nil ?_)
   refine .cond rfl (fun h7 => ?_) (fun h7 => ?_)
   ·skip
    have n7 := h7
    refine .sr ?_
    refine .aA (.nil ?_)
    refine .ret ?_
    refine ⟨RetD.eq rfl ?_, trivial⟩
    all_goals (first | rw [HR] | rw [mvd_a hlt hk.2 (show mvF c k = 1 from by unfold mvF; rw [dif_pos hlt]; (first | (exfalso; omega) | ((repeat (first | rw [if_pos (by first | assumption | omega)] | rw [if_neg (by first | assumption | omega)])); first | done | rfl | omega | decide))) (by decide)] | rw [mvd_a hlt hk.2 (show mvF c k = 8 from by unfold mvF; rw [dif_pos hlt]; (first | (exfalso; omega) | ((repeat (first | rw [if_pos (by first | assumption | omega)] | rw [if_neg (by first | assumption | omega)])); first | done | rfl | omega | decide))) (by decide)] | rw [mvd_a hlt hk.2 (show mvF c k = 7 from by unfold mvF; rw [dif_pos hlt]; (first | (exfalso; omega) | ((repeat (first | rw [if_pos (by first | assumption | omega)] | rw [if_neg (by first | assumption | omega)])); first | done | rfl | omega | decide))) (by decide)] | rw [mvd_a hlt hk.2 (show mvF c k = 9 from by unfold mvF; rw [dif_pos hlt]; (first | (exfalso; omega) | ((repeat (first | rw [if_pos (by first | assumption | omega)] | rw [if_neg (by first | assumption | omega)])); first | done | rfl | omega | decide))) (by decide)])
   have n7 : ¬ thereB c.things c.moved[k].src = true := by rw [h7]; decide
   refine .skip ?_
   refine .sr ?_
   refine .mA ?_
   refine .sA (.fieldAddr rfl fo_54_1 rfl) ?_
   refine .sA (.load rfl sc_3 rfl) ?_
   refine .sA (.lookupOkF (key := kI c.moved[k].dst) rfl mt_idx kd_int zt_thg zd_thg rfl rfl (DExact.v _) (kI_ok hbk.2) (idxM_keys hc.things) _ (getok_idx hr.nk _)) ?_
   refine .mA ?_
   refine .sA (.extract rfl rfl rfl) ?_
   refine .sA (.extract rfl rfl rfl) ?_
   refine .alloc 105 rfl rfl rfl rfl zt_61 rfl rfl rfl ?_
   refine .store rfl rfl rfl sz_61 rfl (.head _) rfl rfl rfl (Nat.le_of_ble_eq_true rfl) ?_
   refine .freezeCells 12 (ds := (getT c.things c.moved[k].dst).ds) rfl (.head _) ?_
   refine .aA (.nil ?_)
   refine .sr ?_
   refine .mA ?_
   refine .sA (.fieldAddr rfl fo_54_1 rfl) ?_
   refine .sA (.load rfl sc_3 rfl) ?_
   refine .sA (.lookupOkF (key := kI c.moved[k].dst) rfl mt_to kd_int zt_int zd_int rfl rfl (DExact.v _) (kI_ok hbk.2) (toM_keys fun p hp => (toL_ok hc.moved p hp).1) _ (getok_to (toL_nk _) _)) ?_
   rw [toL_has]
   refine .mA ?_
   refine .sA (.extract rfl rfl rfl) ?_
   refine .sA (.extract rfl rfl rfl) ?_
   refine .aA ?_
   refine .aA (.nil ?_)
   refine .sr ?_
   refine .mA ?_
   refine .sA (.not rfl rfl) ?_
   refine .mA ?_
   refine .split 88 rfl (fun g8 => ?_) (fun g8 => ?_)
   ·replace g8 := bnot_t g8
    have hnd := g8
    refine .sG (.moveD rfl rfl) ?_
    refine .sG (.not rfl rfl) ?_
    refine .sA (.pickT rfl rfl rfl) (.nil ?_)
    refine .cond rfl (fun h9 => ?_) (fun h9 => ?_)
    ·replace h9 := bnot_t h9
     have n9 := And.intro hnd h9
     refine .sr ?_
     refine .aA (.nil ?_)
     refine .ret ?_
     refine ⟨RetD.eq rfl ?_, trivial⟩
     all_goals (first | rw [HR] | rw [mvd_a hlt hk.2 (show mvF c k = 1 from by unfold mvF; rw [dif_pos hlt]; (first | (exfalso; omega) | ((repeat (first | rw [if_pos (by first | assumption | omega)] | rw [if_neg (by first | assumption | omega)])); first | done | rfl | omega | decide))) (by decide)] | rw [mvd_a hlt hk.2 (show mvF c k = 8 from by unfold mvF; rw [dif_pos hlt]; (first | (exfalso; omega) | ((repeat (first | rw [if_pos (by first | assumption | omega)] | rw [if_neg (by first | assumption | omega)])); first | done | rfl | omega | decide))) (by decide)] | rw [mvd_a hlt hk.2 (show mvF c k = 7 from by unfold mvF; rw [dif_pos hlt]; (first | (exfalso; omega) | ((repeat (first | rw [if_pos (by first | assumption | omega)] | rw [if_neg (by first | assumption | omega)])); first | done | rfl | omega | decide))) (by decide)] | rw [mvd_a hlt hk.2 (show mvF c k = 9 from by unfold mvF; rw [dif_pos hlt]; (first | (exfalso; omega) | ((repeat (first | rw [if_pos (by first | assumption | omega)] | rw [if_neg (by first | assumption | omega)])); first | done | rfl | omega | decide))) (by decide)])
    replace h9 := bnot_f h9
    have n9 : ¬ (thereB c.things c.moved[k].dst = false ∧ hasM c.moved c.moved[k].dst = false) := fun hh => by have q9 := hh.2; rw [h9] at q9; cases q9
    refine .skip ?_
    refine .region ?_
    refine .sA (.add64 rfl rfl rfl (by omega) (by omega)) ?_
    refine .mA (.nil ?_)
    refine ⟨k + 1, ⟨by omega, ffst_next hk.2 (show mvF c k = 0 from by unfold mvF; rw [dif_pos hlt]; (first | (exfalso; omega) | ((repeat (first | rw [if_pos (by first | assumption | omega)] | rw [if_neg (by first | assumption | omega)])); first | done | rfl | omega | decide)))⟩, (by dsimp only; omega), Sub.less ⟨(SLe.of_eq rfl), SLe.refl _, SLe.refl _, SLe.refl _, SLe.refl _, SLe.refl _, trivial⟩ (fun _ h => h)⟩
   replace g8 := bnot_f g8
   have n9 : ¬ (thereB c.things c.moved[k].dst = false ∧ hasM c.moved c.moved[k].dst = false) := fun hh => by have q9 := hh.1; rw [g8] at q9; cases q9
   refine .pA ?_
   refine .pA ?_
   refine .sA (.pickF rfl rfl rfl) (.nil ?_)
   refine .cond rfl (fun h => nomatch h) (fun _ => ?_)
   refine .skip ?_
   refine .region ?_
   refine .sA (.add64 rfl rfl rfl (by omega) (by omega)) ?_
   refine .mA (.nil ?_)
   refine ⟨k + 1, ⟨by omega, ffst_next hk.2 (show mvF c k = 0 from by unfold mvF; rw [dif_pos hlt]; (first | (exfalso; omega) | ((repeat (first | rw [if_pos (by first | assumption | omega)] | rw [if_neg (by first | assumption | omega)])); first | done | rfl | omega | decide)))⟩, (by dsimp only; omega), Sub.less ⟨(SLe.of_eq rfl), SLe.refl _, SLe.refl _, SLe.refl _, SLe.refl _, SLe.refl _, trivial⟩ (fun _ h => h)⟩
  replace g5 := of_decide_eq_false g5
  refine .pA ?_
  refine .pA ?_
  refine .pA ?_
  refine .pA ?_
  refine .pA ?_
  refine .pA ?_
  refine .pA ?_
  refine .pA ?_
  refine .pA ?_
  refine .pA ?_
  refine .sA (.pickF rfl rfl rfl) ?_
  refine .nil ?_
  refine .cond rfl (fun h => nomatch h) (fun _ => ?_)
  refine .skip ?_
  refine .seq ?_
  refine .sr ?_
  refine .mA ?_
  refine .sA (.fieldAddr rfl fo_54_0 rfl) ?_
  refine .sA (.load rfl sc_3 rfl) ?_
  refine .sA (.lookupOkF (key := kI c.moved[k].src) rfl mt_idx kd_int zt_thg zd_thg rfl rfl (DExact.v _) (kI_ok hbk.1) (idxM_keys hc.things) _ (getok_idx hr.nk _)) ?_
  refine .mA ?_
  refine .sA (.extract rfl rfl rfl) ?_
  refine .sA (.extract rfl rfl rfl) ?_
  refine .alloc 106 rfl rfl rfl rfl zt_61 rfl rfl rfl ?_
  refine .store rfl rfl rfl sz_61 rfl (.head _) rfl rfl rfl (Nat.le_of_ble_eq_true rfl) ?_
  refine .freezeCells 10 (ds := (getT c.things c.moved[k].src).ds) rfl (.head _) ?_
  refine .aA (.nil ?_)
  refine .sr ?_
  refine .mA (.nil ?_)
  refine .cond rfl (fun h10 => ?_) (fun h10 => ?_)
  ·skip
   have n7 := h10
   refine .sr ?_
   refine .aA (.nil ?_)
   refine .ret ?_
   refine ⟨RetD.eq rfl ?_, trivial⟩
   all_goals (first | rw [HR] | rw [mvd_a hlt hk.2 (show mvF c k = 1 from by unfold mvF; rw [dif_pos hlt]; (first | (exfalso; omega) | ((repeat (first | rw [if_pos (by first | assumption | omega)] | rw [if_neg (by first | assumption | omega)])); first | done | rfl | omega | decide))) (by decide)] | rw [mvd_a hlt hk.2 (show mvF c k = 8 from by unfold mvF; rw [dif_pos hlt]; (first | (exfalso; omega) | ((repeat (first | rw [if_pos (by first | assumption | omega)] | rw [if_neg (by first | assumption | omega)])); first | done | rfl | omega | decide))) (by decide)] | rw [mvd_a hlt hk.2 (show mvF c k = 7 from by unfold mvF; rw [dif_pos hlt]; (first | (exfalso; omega) | ((repeat (first | rw [if_pos (by first | assumption | omega)] | rw [if_neg (by first | assumption | omega)])); first | done | rfl | omega | decide))) (by decide)] | rw [mvd_a hlt hk.2 (show mvF c k = 9 from by unfold mvF; rw [dif_pos hlt]; (first | (exfalso; omega) | ((repeat (first | rw [if_pos (by first | assumption | omega)] | rw [if_neg (by first | assumption | omega)])); first | done | rfl | omega | decide))) (by decide)])
  have n7 : ¬ thereB c.things c.moved[k].src = true := by rw [h10]; decide
  refine .skip ?_
  refine .sr ?_
  refine .mA ?_
  refine .sA (.fieldAddr rfl fo_54_1 rfl) ?_
  refine .sA (.load rfl sc_3 rfl) ?_
  refine .sA (.lookupOkF (key := kI c.moved[k].dst) rfl mt_idx kd_int zt_thg zd_thg rfl rfl (DExact.v _) (kI_ok hbk.2) (idxM_keys hc.things) _ (getok_idx hr.nk _)) ?_
  refine .mA ?_
  refine .sA (.extract rfl rfl rfl) ?_
  refine .sA (.extract rfl rfl rfl) ?_
  refine .alloc 107 rfl rfl rfl rfl zt_61 rfl rfl rfl ?_
  refine .store rfl rfl rfl sz_61 rfl (.head _) rfl rfl rfl (Nat.le_of_ble_eq_true rfl) ?_
  refine .freezeCells 12 (ds := (getT c.things c.moved[k].dst).ds) rfl (.head _) ?_
  refine .aA (.nil ?_)
  refine .sr ?_
  refine .mA ?_
  refine .sA (.fieldAddr rfl fo_54_1 rfl) ?_
  refine .sA (.load rfl sc_3 rfl) ?_
  refine .sA (.lookupOkF (key := kI c.moved[k].dst) rfl mt_to kd_int zt_int zd_int rfl rfl (DExact.v _) (kI_ok hbk.2) (toM_keys fun p hp => (toL_ok hc.moved p hp).1) _ (getok_to (toL_nk _) _)) ?_
  rw [toL_has]
  refine .mA ?_
  refine .sA (.extract rfl rfl rfl) ?_
  refine .sA (.extract rfl rfl rfl) ?_
  refine .aA ?_
  refine .aA (.nil ?_)
  refine .sr ?_
  refine .mA ?_
  refine .sA (.not rfl rfl) ?_
  refine .mA ?_
  refine .split 88 rfl (fun g11 => ?_) (fun g11 => ?_)
  ·replace g11 := bnot_t g11
   have hnd := g11
   refine .sG (.moveD rfl rfl) ?_
   refine .sG (.not rfl rfl) ?_
   refine .sA (.pickT rfl rfl rfl) (.nil ?_)
   refine .cond rfl (fun h12 => ?_) (fun h12 => ?_)
   ·replace h12 := bnot_t h12
    have n9 := And.intro hnd h12
    refine .sr ?_
    refine .aA (.nil ?_)
    refine .ret ?_
    refine ⟨RetD.eq rfl ?_, trivial⟩
    all_goals (first | rw [HR] | rw [mvd_a hlt hk.2 (show mvF c k = 1 from by unfold mvF; rw [dif_pos hlt]; (first | (exfalso; omega) | ((repeat (first | rw [if_pos (by first | assumption | omega)] | rw [if_neg (by first | assumption | omega)])); first | done | rfl | omega | decide))) (by decide)] | rw [mvd_a hlt hk.2 (show mvF c k = 8 from by unfold mvF; rw [dif_pos hlt]; (first | (exfalso; omega) | ((repeat (first | rw [if_pos (by first | assumption | omega)] | rw [if_neg (by first | assumption | omega)])); first | done | rfl | omega | decide))) (by decide)] | rw [mvd_a hlt hk.2 (show mvF c k = 7 from by unfold mvF; rw [dif_pos hlt]; (first | (exfalso; omega) | ((repeat (first | rw [if_pos (by first | assumption | omega)] | rw [if_neg (by first | assumption | omega)])); first | done | rfl | omega | decide))) (by decide)] | rw [mvd_a hlt hk.2 (show mvF c k = 9 from by unfold mvF; rw [dif_pos hlt]; (first | (exfalso; omega) | ((repeat (first | rw [if_pos (by first | assumption | omega)] | rw [if_neg (by first | assumption | omega)])); first | done | rfl | omega | decide))) (by decide)])
   replace h12 := bnot_f h12
   have n9 : ¬ (thereB c.things c.moved[k].dst = false ∧ hasM c.moved c.moved[k].dst = false) := fun hh => by have q9 := hh.2; rw [h12] at q9; cases q9
   refine .skip ?_
   refine .region ?_
   refine .sA (.add64 rfl rfl rfl (by omega) (by omega)) ?_
   refine .mA (.nil ?_)
   refine ⟨k + 1, ⟨by omega, ffst_next hk.2 (show mvF c k = 0 from by unfold mvF; rw [dif_pos hlt]; (first | (exfalso; omega) | ((repeat (first | rw [if_pos (by first | assumption | omega)] | rw [if_neg (by first | assumption | omega)])); first | done | rfl | omega | decide)))⟩, (by dsimp only; omega), Sub.less ⟨(SLe.of_eq rfl), SLe.refl _, SLe.refl _, SLe.refl _, SLe.refl _, SLe.refl _, trivial⟩ (fun _ h => h)⟩
  replace g11 := bnot_f g11
  have n9 : ¬ (thereB c.things c.moved[k].dst = false ∧ hasM c.moved c.moved[k].dst = false) := fun hh => by have q9 := hh.1; rw [g11] at q9; cases q9
  refine .pA ?_
  refine .pA ?_
  refine .sA (.pickF rfl rfl rfl) (.nil ?_)
  refine .cond rfl (fun h => nomatch h) (fun _ => ?_)
  refine .skip ?_
  refine .region ?_
  refine .sA (.add64 rfl rfl rfl (by omega) (by omega)) ?_
  refine .mA (.nil ?_)
  refine ⟨k + 1, ⟨by omega, ffst_next hk.2 (show mvF c k = 0 from by unfold mvF; rw [dif_pos hlt]; (first | (exfalso; omega) | ((repeat (first | rw [if_pos (by first | assumption | omega)] | rw [if_neg (by first | assumption | omega)])); first | done | rfl | omega | decide)))⟩, (by dsimp only; omega), Sub.less ⟨(SLe.of_eq rfl), SLe.refl _, SLe.refl _, SLe.refl _, SLe.refl _, SLe.refl _, trivial⟩ (fun _ h => h)⟩
 replace h2 := of_decide_eq_false h2
 rw [List.length_map] at h2
 obtain rfl : k = c.moved.length := by omega
 have HF := hk.2
 have hm := risM_of HF
 rw [toL_ris hm]
 refine .exit ?_
 refine .seq ?_
 refine .sr ?_
 refine .sA (.fieldAddr rfl fo_25_1 rfl) ?_
 refine .sA (.load rfl sc_23 rfl) ?_
 refine .sA (.lenSl rfl et_23.ht rfl) ?_
 refine .mA (.nil ?_)
 refine .block ?_
 refine .loop (G := Nat) (fun k => Env.of [(96, .d (.v (.int .i64 (k : Int)))), (94, .d (.sl (c.moved.map Mvd.ds))), (95, .d (.v (.int .i64 ((c.moved.map Mvd.ds).length : Int)))), (5, .d (.fm (toM (mvL c.moved)))), (2, .d (.fp c.ds)), (1, .d (.fm (idxM c.things)))]) (fun k => []) (fun k => k ≤ c.moved.length ∧ ffst (lpF c) k = 0) (fun k => c.moved.length - k) 0 ⟨Nat.zero_le _, rfl⟩ (Sub.less ⟨(SLe.of_eq rfl), SLe.refl _, SLe.refl _, SLe.refl _, SLe.refl _, SLe.refl _, trivial⟩ (fun _ h => h)) ?_
 intro k hk
 refine .sr ?_
 refine .sA (.lss rfl rfl rfl) (.nil ?_)
 refine .seq ?_
 refine .cond rfl (fun h13 => ?_) (fun h13 => ?_)
 ·replace h13 := of_decide_eq_true h13
  rw [List.length_map] at h13
  have hlt : k < c.moved.length := by omega
  have hbk := hc.moved _ (List.getElem_mem hlt)
  refine .skip ?_
  refine .seq ?_
  refine .block ?_
  refine .sr ?_
  refine .sA (.indexAddr rfl et_23 rfl rfl k rfl (at_lst hlt) rfl) ?_
  refine .sA (.loadAgg rfl ag_54 rfl rfl) ?_
  refine .alloc 108 rfl rfl rfl rfl zt_54 rfl rfl rfl ?_
  refine .store rfl rfl rfl sz_54 rfl (.head _) rfl rfl rfl (Nat.le_of_ble_eq_true rfl) ?_
  refine .freezeCells 17 (ds := c.moved[k].ds) rfl (.head _) (.nil ?_)
  refine .sr ?_
  refine .mA ?_
  refine .mA ?_
  refine .sA (.fieldAddr rfl fo_54_0 rfl) ?_
  refine .sA (.load rfl sc_3 rfl) ?_
  refine .sA (.call rfl (.cons (.rfl' rfl) (.cons (.rfl' rfl) (.cons (.rfl' rfl) .nil))) (c_found _ _ _ hc.things hr (by rw [← toL_ris hm]; exact toL_ok hc.moved) (by rw [← toL_ris hm]; exact toL_nk _) hbk.1 (by rw [mvL_len]; exact hl2))) ?_
  refine .mA ?_
  refine .sA (.extract rfl rfl rfl) ?_
  refine .sA (.extract rfl rfl rfl) ?_
  refine .aA ?_
  refine .aA (.nil ?_)
  refine .sr ?_
  refine .mA ?_
  refine .sA (.not rfl rfl) (.nil ?_)
  refine .cond rfl (fun h14 => ?_) (fun h14 => ?_)
  ·replace h14 := bnot_t h14
   rw [led_ris hr hm, led_def] at h14
   have HR := mvd_c HF hlt hk.2 h14
   refine .sr ?_
   refine .aA (.nil ?_)
   refine .ret ?_
   refine ⟨RetD.eq rfl ?_, trivial⟩
   all_goals (first | rw [HR] | rw [mvd_a hlt hk.2 (show mvF c k = 1 from by unfold mvF; rw [dif_pos hlt]; (first | (exfalso; omega) | ((repeat (first | rw [if_pos (by first | assumption | omega)] | rw [if_neg (by first | assumption | omega)])); first | done | rfl | omega | decide))) (by decide)] | rw [mvd_a hlt hk.2 (show mvF c k = 8 from by unfold mvF; rw [dif_pos hlt]; (first | (exfalso; omega) | ((repeat (first | rw [if_pos (by first | assumption | omega)] | rw [if_neg (by first | assumption | omega)])); first | done | rfl | omega | decide))) (by decide)] | rw [mvd_a hlt hk.2 (show mvF c k = 7 from by unfold mvF; rw [dif_pos hlt]; (first | (exfalso; omega) | ((repeat (first | rw [if_pos (by first | assumption | omega)] | rw [if_neg (by first | assumption | omega)])); first | done | rfl | omega | decide))) (by decide)] | rw [mvd_a hlt hk.2 (show mvF c k = 9 from by unfold mvF; rw [dif_pos hlt]; (first | (exfalso; omega) | ((repeat (first | rw [if_pos (by first | assumption | omega)] | rw [if_neg (by first | assumption | omega)])); first | done | rfl | omega | decide))) (by decide)])
  replace h14 := bnot_f h14
  rw [led_ris hr hm, led_def] at h14
  have HN := lp_0 hlt h14
  refine .skip ?_
  refine .region ?_
  refine .sA (.add64 rfl rfl rfl (by omega) (by omega)) ?_
  refine .mA (.nil ?_)
  refine ⟨k + 1, ⟨by omega, ffst_next hk.2 HN⟩, (by dsimp only; omega), Sub.less ⟨(SLe.of_eq rfl), SLe.refl _, SLe.refl _, SLe.refl _, SLe.refl _, SLe.refl _, trivial⟩ (fun _ h => h)⟩
 replace h13 := of_decide_eq_false h13
 rw [List.length_map] at h13
 obtain rfl : k = c.moved.length := by omega
 have HR : mvdF c = 0 := by rw [mvd_b HF]; exact hk.2
 refine .exit ?_
 refine .sr ?_
 refine .aA (.nil ?_)
 refine .ret ?_
 refine ⟨RetD.eq rfl ?_, trivial⟩
 all_goals (first | rw [HR] | rw [mvd_a hlt hk.2 (show mvF c k = 1 from by unfold mvF; rw [dif_pos hlt]; (first | (exfalso; omega) | ((repeat (first | rw [if_pos (by first | assumption | omega)] | rw [if_neg (by first | assumption | omega)])); first | done | rfl | omega | decide))) (by decide)] | rw [mvd_a hlt hk.2 (show mvF c k = 8 from by unfold mvF; rw [dif_pos hlt]; (first | (exfalso; omega) | ((repeat (first | rw [if_pos (by first | assumption | omega)] | rw [if_neg (by first | assumption | omega)])); first | done | rfl | omega | decide))) (by decide)] | rw [mvd_a hlt hk.2 (show mvF c k = 7 from by unfold mvF; rw [dif_pos hlt]; (first | (exfalso; omega) | ((repeat (first | rw [if_pos (by first | assumption | omega)] | rw [if_neg (by first | assumption | omega)])); first | done | rfl | omega | decide))) (by decide)] | rw [mvd_a hlt hk.2 (show mvF c k = 9 from by unfold mvF; rw [dif_pos hlt]; (first | (exfalso; omega) | ((repeat (first | rw [if_pos (by first | assumption | omega)] | rw [if_neg (by first | assumption | omega)])); first | done | rfl | omega | decide))) (by decide)])

set_option maxRecDepth 100000 in
set_option maxHeartbeats 1000000 in
theorem c_rMvd (c : Ctl) (hl : Lim c) (hc : CtlOk c) (hr : RisT c.things) : ACall Tryz.prog 66 [.agg c.ds] (.v (.int .i64 (mvdF c))) := by
 refine acall_of (n := 91) (ds' := [.v (.int .i64 (mvdF c))]) Tryz.func66 rfl (by kernel_rfl) rfl [2] rfl rfl ?_
 intro B w0 F0 fr
 have hl2 := hl.2
 refine .sr ?_
 refine .sA (.box rfl rfl rfl) ?_
 refine .aA (.nil ?_)
 refine .seq ?_
 refine .sr ?_
 refine .sA (.fieldAddr rfl fo_25_1 rfl) ?_
 refine .sA (.load rfl sc_23 rfl) ?_
 refine .sA (.lenSl rfl et_23.ht rfl) ?_
 refine .mA (.nil ?_)
 refine .block ?_
 refine .loop (G := Nat) (fun k => Env.of [(18, .d (.v (.int .i64 (k : Int)))), (16, .d (.sl (c.moved.map Mvd.ds))), (17, .d (.v (.int .i64 ((c.moved.map Mvd.ds).length : Int)))), (1, .d (.fp c.ds))]) (fun k => []) (fun k => k ≤ c.moved.length ∧ ffst (mvF c) k = 0) (fun k => c.moved.length - k) 0 ⟨Nat.zero_le _, rfl⟩ (Sub.less ⟨(SLe.of_eq rfl), SLe.refl _, SLe.refl _, SLe.refl _, trivial⟩ (fun _ h => h)) ?_
 intro k hk
 refine .sr ?_
 refine .sA (.lss rfl rfl rfl) (.nil ?_)
 refine .seq ?_
 refine .cond rfl (fun h1 => ?_) (fun h1 => ?_)
 ·replace h1 := of_decide_eq_true h1
  rw [List.length_map] at h1
  have hlt : k < c.moved.length := by omega
  have hbk := hc.moved _ (List.getElem_mem hlt)
  refine .skip ?_
  refine .seq ?_
  refine .block ?_
  refine .sr ?_
  refine .mA ?_
  refine .sA (.indexAddr rfl et_23 rfl rfl k rfl (at_lst hlt) rfl) ?_
  refine .sA (.loadAgg rfl ag_54 rfl rfl) ?_
  refine .alloc 101 rfl rfl rfl rfl zt_54 rfl rfl rfl ?_
  refine .aA ?_
  refine .store rfl rfl rfl sz_54 rfl (.head _) rfl rfl rfl (Nat.le_of_ble_eq_true rfl) ?_
  refine .freezeCells 4 (ds := c.moved[k].ds) rfl (.head _) (.nil ?_)
  refine .sr ?_
  refine .sA (.loadAgg rfl ag_25 rfl rfl) ?_
  refine .sA (.fieldAddr rfl fo_54_0 rfl) ?_
  refine .sA (.load rfl sc_3 rfl) ?_
  refine .sA (.call rfl (.cons (.rfl' rfl) (.cons (.rfl' rfl) .nil)) (c_thing c _ hl.two)) ?_
  refine .mA ?_
  refine .sA (.extract rfl rfl rfl) ?_
  refine .sA (.extract rfl rfl rfl) ?_
  refine .alloc 102 rfl rfl rfl rfl zt_61 rfl rfl rfl ?_
  refine .store rfl rfl rfl sz_61 rfl (.head _) rfl rfl rfl (Nat.le_of_ble_eq_true rfl) ?_
  refine .freezeCells 5 (ds := (getT c.things c.moved[k].src).ds) rfl (.head _) ?_
  refine .aA (.nil ?_)
  refine .sr ?_
  refine .sA (.loadAgg rfl ag_25 rfl rfl) ?_
  refine .sA (.fieldAddr rfl fo_54_1 rfl) ?_
  refine .sA (.load rfl sc_3 rfl) ?_
  refine .sA (.call rfl (.cons (.rfl' rfl) (.cons (.rfl' rfl) .nil)) (c_thing c _ hl.two)) ?_
  refine .mA ?_
  refine .sA (.extract rfl rfl rfl) ?_
  refine .sA (.extract rfl rfl rfl) ?_
  refine .alloc 103 rfl rfl rfl rfl zt_61 rfl rfl rfl ?_
  refine .store rfl rfl rfl sz_61 rfl (.head _) rfl rfl rfl (Nat.le_of_ble_eq_true rfl) ?_
  refine .freezeCells 7 (ds := (getT c.things c.moved[k].dst).ds) rfl (.head _) ?_
  refine .aA (.nil ?_)
  refine .sr ?_
  refine .sA (.loadAgg rfl ag_25 rfl rfl) ?_
  refine .sA (.fieldAddr rfl fo_54_1 rfl) ?_
  refine .sA (.load rfl sc_3 rfl) ?_
  refine .sA (.call rfl (.cons (.rfl' rfl) (.cons (.rfl' rfl) .nil)) (c_moved c _ hl.two)) ?_
  refine .mA ?_
  refine .sA (.extract rfl rfl rfl) ?_
  refine .sA (.extract rfl rfl rfl) ?_
  refine .aA ?_
  refine .aA (.nil ?_)
  refine .block ?_
  refine .sr ?_
  refine .sA (.fieldAddr rfl fo_54_0 rfl) ?_
  refine .sA (.load rfl sc_3 rfl) ?_
  refine .sA (.call rfl (.cons (.rfl' rfl) (.cons (.rfl' rfl) (.cons (.rfl' rfl) .nil))) (c_rIn _ _ _)) ?_
  refine .sA (.not rfl rfl) ?_
  refine .aA (.nil ?_)
  refine .cond rfl (fun h2 => ?_) (fun h2 => ?_)
  ·replace h2 := bnot_t h2; replace h2 := of_decide_eq_false h2
   refine .sr ?_
   refine .aA (.nil ?_)
   refine .ret ?_
   refine ⟨RetD.eq rfl ?_, trivial⟩
   all_goals (first | rw [HR] | rw [mvd_a hlt hk.2 (show mvF c k = 1 from by unfold mvF; rw [dif_pos hlt]; (first | (exfalso; omega) | ((repeat (first | rw [if_pos (by first | assumption | omega)] | rw [if_neg (by first | assumption | omega)])); first | done | rfl | omega | decide))) (by decide)] | rw [mvd_a hlt hk.2 (show mvF c k = 8 from by unfold mvF; rw [dif_pos hlt]; (first | (exfalso; omega) | ((repeat (first | rw [if_pos (by first | assumption | omega)] | rw [if_neg (by first | assumption | omega)])); first | done | rfl | omega | decide))) (by decide)] | rw [mvd_a hlt hk.2 (show mvF c k = 7 from by unfold mvF; rw [dif_pos hlt]; (first | (exfalso; omega) | ((repeat (first | rw [if_pos (by first | assumption | omega)] | rw [if_neg (by first | assumption | omega)])); first | done | rfl | omega | decide))) (by decide)] | rw [mvd_a hlt hk.2 (show mvF c k = 9 from by unfold mvF; rw [dif_pos hlt]; (first | (exfalso; omega) | ((repeat (first | rw [if_pos (by first | assumption | omega)] | rw [if_neg (by first | assumption | omega)])); first | done | rfl | omega | decide))) (by decide)])
  replace h2 := bnot_f h2; replace h2 := of_decide_eq_true h2
  refine .seq ?_
  refine .draw (by kernel_rfl) (by kernel_rfl) ?_
  refine .sA (.moveD rfl rfl) ?_
  refine .sA (.gtr rfl rfl rfl) ?_
  refine .sA (.moveD rfl rfl) ?_
  refine .split 52 rfl (fun g3 => ?_) (fun g3 => ?_)
  ·replace g3 := of_decide_eq_true g3
   have hk0 : 0 < k := by omega
   refine .sG (.fieldAddr rfl fo_54_0 rfl) ?_
   refine .sG (.load rfl sc_3 rfl) ?_
   refine .sG (.fieldAddr rfl fo_25_1 rfl) ?_
   refine .sG (.load rfl sc_23 rfl) ?_
   refine .sG (.moveD rfl rfl) ?_
   refine .sG (.sub64 rfl rfl rfl (by omega) (by omega)) ?_
   refine .sG (.indexAddr rfl et_23 rfl rfl (k - 1) (by omega) (at_lst (by omega)) rfl) ?_
   refine .sG (.fieldAddr rfl fo_54_0 rfl) ?_
   refine .sG (.load rfl sc_3 rfl) ?_
   refine .sG (.leq rfl rfl rfl) ?_
   refine .sA (.pickT rfl rfl rfl) ?_
   refine .sA (.assignD rfl rfl) ?_
   refine .nil ?_
   refine .cond rfl (fun h4 => ?_) (fun h4 => ?_)
   ·replace h4 := of_decide_eq_true h4
    refine .sr ?_
    refine .aA (.nil ?_)
    refine .ret ?_
    refine ⟨RetD.eq rfl ?_, trivial⟩
    all_goals (first | rw [HR] | rw [mvd_a hlt hk.2 (show mvF c k = 1 from by unfold mvF; rw [dif_pos hlt]; (first | (exfalso; omega) | ((repeat (first | rw [if_pos (by first | assumption | omega)] | rw [if_neg (by first | assumption | omega)])); first | done | rfl | omega | decide))) (by decide)] | rw [mvd_a hlt hk.2 (show mvF c k = 8 from by unfold mvF; rw [dif_pos hlt]; (first | (exfalso; omega) | ((repeat (first | rw [if_pos (by first | assumption | omega)] | rw [if_neg (by first | assumption | omega)])); first | done | rfl | omega | decide))) (by decide)] | rw [mvd_a hlt hk.2 (show mvF c k = 7 from by unfold mvF; rw [dif_pos hlt]; (first | (exfalso; omega) | ((repeat (first | rw [if_pos (by first | assumption | omega)] | rw [if_neg (by first | assumption | omega)])); first | done | rfl | omega | decide))) (by decide)] | rw [mvd_a hlt hk.2 (show mvF c k = 9 from by unfold mvF; rw [dif_pos hlt]; (first | (exfalso; omega) | ((repeat (first | rw [if_pos (by first | assumption | omega)] | rw [if_neg (by first | assumption | omega)])); first | done | rfl | omega | decide))) (by decide)])
   replace h4 := of_decide_eq_false h4
   refine .sr ?_
   refine .mA ?_
   refine .aA (.nil ?_)
   refine .cond rfl (fun h5 => ?_) (fun h5 => ?_)
   ·skip
    have n7 := h5
    refine .sr ?_
    refine .aA (.nil ?_)
    refine .ret ?_
    refine ⟨RetD.eq rfl ?_, trivial⟩
    all_goals (first | rw [HR] | rw [mvd_a hlt hk.2 (show mvF c k = 1 from by unfold mvF; rw [dif_pos hlt]; (first | (exfalso; omega) | ((repeat (first | rw [if_pos (by first | assumption | omega)] | rw [if_neg (by first | assumption | omega)])); first | done | rfl | omega | decide))) (by decide)] | rw [mvd_a hlt hk.2 (show mvF c k = 8 from by unfold mvF; rw [dif_pos hlt]; (first | (exfalso; omega) | ((repeat (first | rw [if_pos (by first | assumption | omega)] | rw [if_neg (by first | assumption | omega)])); first | done | rfl | omega | decide))) (by decide)] | rw [mvd_a hlt hk.2 (show mvF c k = 7 from by unfold mvF; rw [dif_pos hlt]; (first | (exfalso; omega) | ((repeat (first | rw [if_pos (by first | assumption | omega)] | rw [if_neg (by first | assumption | omega)])); first | done | rfl | omega | decide))) (by decide)] | rw [mvd_a hlt hk.2 (show mvF c k = 9 from by unfold mvF; rw [dif_pos hlt]; (first | (exfalso; omega) | ((repeat (first | rw [if_pos (by first | assumption | omega)] | rw [if_neg (by first | assumption | omega)])); first | done | rfl | omega | decide))) (by decide)])
   have n7 : ¬ thereB c.things c.moved[k].src = true := by rw [h5]; decide
   refine .sr ?_
   refine .mA ?_
   refine .sA (.not rfl rfl) ?_
   refine .mA ?_
   refine .split 69 rfl (fun g6 => ?_) (fun g6 => ?_)
   ·replace g6 := bnot_t g6
    have hnd := g6
    refine .sG (.moveD rfl rfl) ?_
    refine .sG (.not rfl rfl) ?_
    refine .sA (.pickT rfl rfl rfl) ?_
    refine .aA (.nil ?_)
    refine .cond rfl (fun h7 => ?_) (fun h7 => ?_)
    ·replace h7 := bnot_t h7
     have n9 := And.intro hnd h7
     refine .sr ?_
     refine .aA (.nil ?_)
     refine .ret ?_
     refine ⟨RetD.eq rfl ?_, trivial⟩
     all_goals (first | rw [HR] | rw [mvd_a hlt hk.2 (show mvF c k = 1 from by unfold mvF; rw [dif_pos hlt]; (first | (exfalso; omega) | ((repeat (first | rw [if_pos (by first | assumption | omega)] | rw [if_neg (by first | assumption | omega)])); first | done | rfl | omega | decide))) (by decide)] | rw [mvd_a hlt hk.2 (show mvF c k = 8 from by unfold mvF; rw [dif_pos hlt]; (first | (exfalso; omega) | ((repeat (first | rw [if_pos (by first | assumption | omega)] | rw [if_neg (by first | assumption | omega)])); first | done | rfl | omega | decide))) (by decide)] | rw [mvd_a hlt hk.2 (show mvF c k = 7 from by unfold mvF; rw [dif_pos hlt]; (first | (exfalso; omega) | ((repeat (first | rw [if_pos (by first | assumption | omega)] | rw [if_neg (by first | assumption | omega)])); first | done | rfl | omega | decide))) (by decide)] | rw [mvd_a hlt hk.2 (show mvF c k = 9 from by unfold mvF; rw [dif_pos hlt]; (first | (exfalso; omega) | ((repeat (first | rw [if_pos (by first | assumption | omega)] | rw [if_neg (by first | assumption | omega)])); first | done | rfl | omega | decide))) (by decide)])
    replace h7 := bnot_f h7
    have n9 : ¬ (thereB c.things c.moved[k].dst = false ∧ hasM c.moved c.moved[k].dst = false) := fun hh => by have q9 := hh.2; rw [h7] at q9; cases q9
    refine .skip ?_
    refine .region ?_
    refine .sA (.add64 rfl rfl rfl (by omega) (by omega)) ?_
    refine .mA (.nil ?_)
    refine ⟨k + 1, ⟨by omega, ffst_next hk.2 (show mvF c k = 0 from by unfold mvF; rw [dif_pos hlt]; (first | (exfalso; omega) | ((repeat (first | rw [if_pos (by first | assumption | omega)] | rw [if_neg (by first | assumption | omega)])); first | done | rfl | omega | decide)))⟩, (by dsimp only; omega), Sub.less ⟨(SLe.of_eq rfl), SLe.refl _, SLe.refl _, SLe.refl _, trivial⟩ (fun _ h => h)⟩
   replace g6 := bnot_f g6
   have n9 : ¬ (thereB c.things c.moved[k].dst = false ∧ hasM c.moved c.moved[k].dst = false) := fun hh => by have q9 := hh.1; rw [g6] at q9; cases q9
   refine .pA ?_
   refine .pA ?_
   refine .sA (.pickF rfl rfl rfl) ?_
   refine .aA (.nil ?_)
   refine .cond rfl (fun h => nomatch h) (fun _ => ?_)
   refine .skip ?_
   refine .region ?_
   refine .sA (.add64 rfl rfl rfl (by omega) (by omega)) ?_
   refine .mA (.nil ?_)
   refine ⟨k + 1, ⟨by omega, ffst_next hk.2 (show mvF c k = 0 from by unfold mvF; rw [dif_pos hlt]; (first | (exfalso; omega) | ((repeat (first | rw [if_pos (by first | assumption | omega)] | rw [if_neg (by first | assumption | omega)])); first | done | rfl | omega | decide)))⟩, (by dsimp only; omega), Sub.less ⟨(SLe.of_eq rfl), SLe.refl _, SLe.refl _, SLe.refl _, trivial⟩ (fun _ h => h)⟩
  replace g3 := of_decide_eq_false g3
  refine .pA ?_
  refine .pA ?_
  refine .pA ?_
  refine .pA ?_
  refine .pA ?_
  refine .pA ?_
  refine .pA ?_
  refine .pA ?_
  refine .pA ?_
  refine .pA ?_
  refine .sA (.pickF rfl rfl rfl) ?_
  refine .sA (.assignD rfl rfl) ?_
  refine .nil ?_
  refine .cond rfl (fun h => nomatch h) (fun _ => ?_)
  refine .sr ?_
  refine .mA ?_
  refine .aA (.nil ?_)
  refine .cond rfl (fun h8 => ?_) (fun h8 => ?_)
  ·skip
   have n7 := h8
   refine .sr ?_
   refine .aA (.nil ?_)
   refine .ret ?_
   refine ⟨RetD.eq rfl ?_, trivial⟩
   all_goals (first | rw [HR] | rw [mvd_a hlt hk.2 (show mvF c k = 1 from by unfold mvF; rw [dif_pos hlt]; (first | (exfalso; omega) | ((repeat (first | rw [if_pos (by first | assumption | omega)] | rw [if_neg (by first | assumption | omega)])); first | done | rfl | omega | decide))) (by decide)] | rw [mvd_a hlt hk.2 (show mvF c k = 8 from by unfold mvF; rw [dif_pos hlt]; (first | (exfalso; omega) | ((repeat (first | rw [if_pos (by first | assumption | omega)] | rw [if_neg (by first | assumption | omega)])); first | done | rfl | omega | decide))) (by decide)] | rw [mvd_a hlt hk.2 (show mvF c k = 7 from by unfold mvF; rw [dif_pos hlt]; (first | (exfalso; omega) | ((repeat (first | rw [if_pos (by first | assumption | omega)] | rw [if_neg (by first | assumption | omega)])); first | done | rfl | omega | decide))) (by decide)] | rw [mvd_a hlt hk.2 (show mvF c k = 9 from by unfold mvF; rw [dif_pos hlt]; (first | (exfalso; omega) | ((repeat (first | rw [if_pos (by first | assumption | omega)] | rw [if_neg (by first | assumption | omega)])); first | done | rfl | omega | decide))) (by decide)])
  have n7 : ¬ thereB c.things c.moved[k].src = true := by rw [h8]; decide
  refine .sr ?_
  refine .mA ?_
  refine .sA (.not rfl rfl) ?_
  refine .mA ?_
  refine .split 69 rfl (fun g9 => ?_) (fun g9 => ?_)
  ·replace g9 := bnot_t g9
   have hnd := g9
   refine .sG (.moveD rfl rfl) ?_
   refine .sG (.not rfl rfl) ?_
   refine .sA (.pickT rfl rfl rfl) ?_
   refine .aA (.nil ?_)
   refine .cond rfl (fun h10 => ?_) (fun h10 => ?_)
   ·replace h10 := bnot_t h10
    have n9 := And.intro hnd h10
    refine .sr ?_
    refine .aA (.nil ?_)
    refine .ret ?_
    refine ⟨RetD.eq rfl ?_, trivial⟩
    all_goals (first | rw [HR] | rw [mvd_a hlt hk.2 (show mvF c k = 1 from by unfold mvF; rw [dif_pos hlt]; (first | (exfalso; omega) | ((repeat (first | rw [if_pos (by first | assumption | omega)] | rw [if_neg (by first | assumption | omega)])); first | done | rfl | omega | decide))) (by decide)] | rw [mvd_a hlt hk.2 (show mvF c k = 8 from by unfold mvF; rw [dif_pos hlt]; (first | (exfalso; omega) | ((repeat (first | rw [if_pos (by first | assumption | omega)] | rw [if_neg (by first | assumption | omega)])); first | done | rfl | omega | decide))) (by decide)] | rw [mvd_a hlt hk.2 (show mvF c k = 7 from by unfold mvF; rw [dif_pos hlt]; (first | (exfalso; omega) | ((repeat (first | rw [if_pos (by first | assumption | omega)] | rw [if_neg (by first | assumption | omega)])); first | done | rfl | omega | decide))) (by decide)] | rw [mvd_a hlt hk.2 (show mvF c k = 9 from by unfold mvF; rw [dif_pos hlt]; (first | (exfalso; omega) | ((repeat (first | rw [if_pos (by first | assumption | omega)] | rw [if_neg (by first | assumption | omega)])); first | done | rfl | omega | decide))) (by decide)])
   replace h10 := bnot_f h10
   have n9 : ¬ (thereB c.things c.moved[k].dst = false ∧ hasM c.moved c.moved[k].dst = false) := fun hh => by have q9 := hh.2; rw [h10] at q9; cases q9
   refine .skip ?_
   refine .region ?_
   refine .sA (.add64 rfl rfl rfl (by omega) (by omega)) ?_
   refine .mA (.nil ?_)
   refine ⟨k + 1, ⟨by omega, ffst_next hk.2 (show mvF c k = 0 from by unfold mvF; rw [dif_pos hlt]; (first | (exfalso; omega) | ((repeat (first | rw [if_pos (by first | assumption | omega)] | rw [if_neg (by first | assumption | omega)])); first | done | rfl | omega | decide)))⟩, (by dsimp only; omega), Sub.less ⟨(SLe.of_eq rfl), SLe.refl _, SLe.refl _, SLe.refl _, trivial⟩ (fun _ h => h)⟩
  replace g9 := bnot_f g9
  have n9 : ¬ (thereB c.things c.moved[k].dst = false ∧ hasM c.moved c.moved[k].dst = false) := fun hh => by have q9 := hh.1; rw [g9] at q9; cases q9
  refine .pA ?_
  refine .pA ?_
  refine .sA (.pickF rfl rfl rfl) ?_
  refine .aA (.nil ?_)
  refine .cond rfl (fun h => nomatch h) (fun _ => ?_)
  refine .skip ?_
  refine .region ?_
  refine .sA (.add64 rfl rfl rfl (by omega) (by omega)) ?_
  refine .mA (.nil ?_)
  refine ⟨k + 1, ⟨by omega, ffst_next hk.2 (show mvF c k = 0 from by unfold mvF; rw [dif_pos hlt]; (first | (exfalso; omega) | ((repeat (first | rw [if_pos (by first | assumption | omega)] | rw [if_neg (by first | assumption | omega)])); first | done | rfl | omega | decide)))⟩, (by dsimp only; omega), Sub.less ⟨(SLe.of_eq rfl), SLe.refl _, SLe.refl _, SLe.refl _, trivial⟩ (fun _ h => h)⟩
 replace h1 := of_decide_eq_false h1
 rw [List.length_map] at h1
 obtain rfl : k = c.moved.length := by omega
 have HF := hk.2
 refine .exit ?_
 refine .seq ?_
 refine .sr ?_
 refine .sA (.fieldAddr rfl fo_25_1 rfl) ?_
 refine .sA (.load rfl sc_23 rfl) ?_
 refine .sA (.lenSl rfl et_23.ht rfl) ?_
 refine .mA (.nil ?_)
 refine .block ?_
 refine .loop (G := Nat) (fun k => Env.of [(77, .d (.v (.int .i64 (k : Int)))), (75, .d (.sl (c.moved.map Mvd.ds))), (76, .d (.v (.int .i64 ((c.moved.map Mvd.ds).length : Int)))), (1, .d (.fp c.ds))]) (fun k => []) (fun k => k ≤ c.moved.length ∧ ffst (lpF c) k = 0) (fun k => c.moved.length - k) 0 ⟨Nat.zero_le _, rfl⟩ (Sub.less ⟨(SLe.of_eq rfl), SLe.refl _, SLe.refl _, SLe.refl _, trivial⟩ (fun _ h => h)) ?_
 intro k hk
 refine .sr ?_
 refine .sA (.lss rfl rfl rfl) (.nil ?_)
 refine .seq ?_
 refine .cond rfl (fun h11 => ?_) (fun h11 => ?_)
 ·replace h11 := of_decide_eq_true h11
  rw [List.length_map] at h11
  have hlt : k < c.moved.length := by omega
  have hbk := hc.moved _ (List.getElem_mem hlt)
  refine .skip ?_
  refine .seq ?_
  refine .block ?_
  refine .sr ?_
  refine .sA (.indexAddr rfl et_23 rfl rfl k rfl (at_lst hlt) rfl) ?_
  refine .sA (.loadAgg rfl ag_54 rfl rfl) ?_
  refine .alloc 104 rfl rfl rfl rfl zt_54 rfl rfl rfl ?_
  refine .store rfl rfl rfl sz_54 rfl (.head _) rfl rfl rfl (Nat.le_of_ble_eq_true rfl) ?_
  refine .freezeCells 12 (ds := c.moved[k].ds) rfl (.head _) (.nil ?_)
  refine .sr ?_
  refine .sA (.loadAgg rfl ag_25 rfl rfl) ?_
  refine .sA (.fieldAddr rfl fo_54_0 rfl) ?_
  refine .sA (.load rfl sc_3 rfl) ?_
  refine .sA (.call rfl (.cons (.rfl' rfl) (.cons (.rfl' rfl) .nil)) (c_find c _ hl)) ?_
  refine .mA ?_
  refine .sA (.extract rfl rfl rfl) ?_
  refine .sA (.extract rfl rfl rfl) ?_
  refine .aA ?_
  refine .aA (.nil ?_)
  refine .sr ?_
  refine .mA ?_
  refine .sA (.not rfl rfl) (.nil ?_)
  refine .cond rfl (fun h12 => ?_) (fun h12 => ?_)
  ·replace h12 := bnot_t h12
   have HR := mvd_c HF hlt hk.2 h12
   refine .sr ?_
   refine .aA (.nil ?_)
   refine .ret ?_
   refine ⟨RetD.eq rfl ?_, trivial⟩
   all_goals (first | rw [HR] | rw [mvd_a hlt hk.2 (show mvF c k = 1 from by unfold mvF; rw [dif_pos hlt]; (first | (exfalso; omega) | ((repeat (first | rw [if_pos (by first | assumption | omega)] | rw [if_neg (by first | assumption | omega)])); first | done | rfl | omega | decide))) (by decide)] | rw [mvd_a hlt hk.2 (show mvF c k = 8 from by unfold mvF; rw [dif_pos hlt]; (first | (exfalso; omega) | ((repeat (first | rw [if_pos (by first | assumption | omega)] | rw [if_neg (by first | assumption | omega)])); first | done | rfl | omega | decide))) (by decide)] | rw [mvd_a hlt hk.2 (show mvF c k = 7 from by unfold mvF; rw [dif_pos hlt]; (first | (exfalso; omega) | ((repeat (first | rw [if_pos (by first | assumption | omega)] | rw [if_neg (by first | assumption | omega)])); first | done | rfl | omega | decide))) (by decide)] | rw [mvd_a hlt hk.2 (show mvF c k = 9 from by unfold mvF; rw [dif_pos hlt]; (first | (exfalso; omega) | ((repeat (first | rw [if_pos (by first | assumption | omega)] | rw [if_neg (by first | assumption | omega)])); first | done | rfl | omega | decide))) (by decide)])
  replace h12 := bnot_f h12
  have HN := lp_0 hlt h12
  refine .skip ?_
  refine .region ?_
  refine .sA (.add64 rfl rfl rfl (by omega) (by omega)) ?_
  refine .mA (.nil ?_)
  refine ⟨k + 1, ⟨by omega, ffst_next hk.2 HN⟩, (by dsimp only; omega), Sub.less ⟨(SLe.of_eq rfl), SLe.refl _, SLe.refl _, SLe.refl _, trivial⟩ (fun _ h => h)⟩
 replace h11 := of_decide_eq_false h11
 rw [List.length_map] at h11
 obtain rfl : k = c.moved.length := by omega
 have HR : mvdF c = 0 := by rw [mvd_b HF]; exact hk.2
 refine .exit ?_
 refine .sr ?_
 refine .aA (.nil ?_)
 refine .ret ?_
 refine ⟨RetD.eq rfl ?_, trivial⟩
 all_goals (first | rw [HR] | rw [mvd_a hlt hk.2 (show mvF c k = 1 from by unfold mvF; rw [dif_pos hlt]; (first | (exfalso; omega) | ((repeat (first | rw [if_pos (by first | assumption | omega)] | rw [if_neg (by first | assumption | omega)])); first | done | rfl | omega | decide))) (by decide)] | rw [mvd_a hlt hk.2 (show mvF c k = 8 from by unfold mvF; rw [dif_pos hlt]; (first | (exfalso; omega) | ((repeat (first | rw [if_pos (by first | assumption | omega)] | rw [if_neg (by first | assumption | omega)])); first | done | rfl | omega | decide))) (by decide)] | rw [mvd_a hlt hk.2 (show mvF c k = 7 from by unfold mvF; rw [dif_pos hlt]; (first | (exfalso; omega) | ((repeat (first | rw [if_pos (by first | assumption | omega)] | rw [if_neg (by first | assumption | omega)])); first | done | rfl | omega | decide))) (by decide)] | rw [mvd_a hlt hk.2 (show mvF c k = 9 from by unfold mvF; rw [dif_pos hlt]; (first | (exfalso; omega) | ((repeat (first | rw [if_pos (by first | assumption | omega)] | rw [if_neg (by first | assumption | omega)])); first | done | rfl | omega | decide))) (by decide)])

end Go.Proofs.YthcdjmkkgbcaaaaGreatDoor

namespace Go.Proofs.YthcdjmkkgbcaaaaGreatDoor
open Go.RowKit
set_option linter.unusedVariables false

/-! Types. -/
namespace TyKG
theorem ag_105 : AggT Tryz.prog 105 2 := .of (by kernel_rfl)
theorem bu_105 : StructT Tryz.prog 105 (fun i => (#[(0, 1), (1, 1)] : Array (Nat × Nat))[i]?) [(.int .i64 0), (.string ⟨#[]⟩)] := .of (by kernel_rfl) (by kernel_rfl) (by decide)
theorem sz_105 : ∀ w, (sizeOf 105).run Tryz.prog w = .ok 2 w := SizeT.of (by kernel_rfl)
theorem zt_105 : (Tryz.prog.info? 105).bind (·.zero) = some (.agg #[(.int .i64 0), (.string ⟨#[]⟩)]) := by kernel_rfl
end TyKG
open TyH3 TyH4 TyH5 TyJ3 TyJ4 TyJ5 TyKA TyKB TyKC TyKD TyKE TyKF TyKG

theorem krow_C : (105 : TypeId) < Tryz.prog.types.size := of_decide_eq_true (by kernel_rfl)
theorem kwide_C : (match Tryz.prog.underlying 105 with | some (.array _ _) | some (.struct _) => true | _ => false) = true := by kernel_rfl
theorem klaid : laidOutB Tryz.prog = true := by kernel_rfl
set_option maxRecDepth 100000 in
theorem kd_C : Maps.Keyed Tryz.prog 105 := Maps.Keyed.of_law (deep_law_laid klaid (m := 3) (by omega) krow_C (by kernel_rfl) kwide_C)
def isStrT (o : Option TypeDesc) : Bool := match o with
  | some .string => true
  | _ => false
def isI64T (o : Option TypeDesc) : Bool := match o with
  | some (.int .i64) => true
  | _ => false
theorem isStrT_eq {o : Option TypeDesc} (h : isStrT o = true) : o = some .string := by
  unfold isStrT at h
  split at h
  · rfl
  · cases h
theorem isI64T_eq {o : Option TypeDesc} (h : isI64T o = true) : o = some (.int .i64) := by
  unfold isI64T at h
  split at h
  · rfl
  · cases h
def keyCB (P : Program) (k : TypeId) : Bool := match P.underlying k with
  | some (.struct fs) => (match fs.toList with
    | [f, g] => f.name != "_" && g.name != "_" && f.offset == 0 && g.offset == 1 && isI64T (P.underlying f.type) && isStrT (P.underlying g.type) && P.cellsOf f.type == 1 && P.cellsOf g.type == 1
    | _ => false) && P.cellsOf k == 2
  | _ => false
theorem keyC_ok' {P : Program} {k : TypeId} (h : keyCB P k = true) (hk : P.keyType k = true) (h0 : k < P.types.size) (s : ByteArray) (n : Int) (hs : s.size ≤ maxLen) (hn : (Lit.int .i64 n).wf = true) : ∃ l, keyOf P k (.agg #[.int .i64 n, .string s]) = some l := by
  unfold keyCB at h
  cases hu : P.underlying k with
  | none => rw [hu] at h; cases h
  | some td =>
    rw [hu] at h
    cases td <;> try (cases h; done)
    rename_i fs
    simp only [Bool.and_eq_true] at h
    obtain ⟨h1, h2⟩ := h
    cases hf : fs.toList with
    | nil => rw [hf] at h1; cases h1
    | cons f r =>
      cases r with
      | nil => rw [hf] at h1; cases h1
      | cons g r =>
        cases r with
        | cons _ _ => rw [hf] at h1; cases h1
        | nil =>
          rw [hf] at h1
          simp only [Bool.and_eq_true, beq_iff_eq] at h1 h2
          obtain ⟨⟨⟨⟨⟨⟨⟨a1, a2⟩, a3⟩, a4⟩, a5⟩, a6⟩, a7⟩, a8⟩ := h1
          have a5' := isI64T_eq a5
          have a6' := isStrT_eq a6
          obtain ⟨m, hm⟩ : ∃ m, P.types.size = m + 1 := ⟨P.types.size - 1, (Nat.sub_add_cancel (Nat.lt_of_le_of_lt (Nat.zero_le k) h0)).symm⟩
          have hall : fs.all (·.name != "_") = true := by
            rw [← Array.all_toList, hf]
            simp only [List.all_cons, List.all_nil, a1, a2, Bool.and_self]
          unfold keyOf
          rw [hu]
          simp only [hk, Value.formed, hu, h2, Bool.true_and]
          refine ⟨.string (keyBytes [.int .i64 n, .string s.data.toList]), ?_⟩
          have kf : P.keyLits (m + 1) f.type [.int .i64 n] = some [.int .i64 n] := by
            unfold Program.keyLits
            rw [a5']
            simp [hn]
          have kg : P.keyLits (m + 1) g.type [.string s] = some [.string s.data.toList] := by
            unfold Program.keyLits
            rw [a6']
            simp [hs]
          have c1 : (([Value.int .i64 n, .string s] : List Value).drop f.offset).take (P.cellsOf f.type) = [.int .i64 n] := by rw [a3, a7]; rfl
          have c2 : (([Value.int .i64 n, .string s] : List Value).drop g.offset).take (P.cellsOf g.type) = [.string s] := by rw [a4, a8]; rfl
          have hk2 : P.keyLits (m + 1 + 1) k [.int .i64 n, .string s] = some [.int .i64 n, .string s.data.toList] := by
            unfold Program.keyLits
            rw [hu]
            simp only [List.length_cons, List.length_nil, h2, hall, and_self, if_true, hf, List.mapM_cons, List.mapM_nil, c1, c2, kf, kg]
            rfl
          simp [Value.cells, hm, hk2]

abbrev KC := Int × ByteArray
def kC (p : KC) : Value := .agg #[.int .i64 p.1, .string p.2]
def dB (p : KC × Bool) : D := .v (.bool p.2)
theorem kC_ok {n : Int} {s : ByteArray} (h : i64 n) (hs : s.size ≤ maxLen) : ∃ l, keyOf Tryz.prog 105 (kC (n, s)) = some l := keyC_ok' (by kernel_rfl) (by kernel_rfl) krow_C s n hs (wf64 h)
theorem kC_inj {a b : KC} (h : kC a = kC b) : a = b := by
  unfold kC at h
  simp only [Value.agg.injEq] at h
  have h2 : [Value.int .i64 a.1, .string a.2] = [.int .i64 b.1, .string b.2] := congrArg Array.toList h
  simp at h2
  exact Prod.ext h2.1 h2.2
def seenM (L : List (KC × Bool)) : List (Value × D) := encG kC dB L
def seenL (l : List Thg) : List (KC × Bool) := l.foldl (fun L x => putG L (x.kind, x.code) true) []
theorem seenL_next {l : List Thg} {k : Nat} (hk : k < l.length) : seenL (l.take (k + 1)) = putG (seenL (l.take k)) (l[k].kind, l[k].code) true := by
  unfold seenL
  rw [List.take_add_one, List.getElem?_eq_getElem hk, Option.toList_some, List.foldl_append]; rfl
theorem foldC_nk : ∀ (l : List Thg) (L : List (KC × Bool)), NkG L → NkG (l.foldl (fun L x => putG L (x.kind, x.code) true) L)
  | [], _, h => h
  | _ :: l, _, h => foldC_nk l _ (putG_nk h _ _)
theorem seenL_nk (l : List Thg) : NkG (seenL l) := foldC_nk l [] List.Pairwise.nil
theorem foldC_get : ∀ (l : List Thg) (L : List (KC × Bool)) (k : Int) (c : ByteArray), (findG (l.foldl (fun L x => putG L (x.kind, x.code) true) L) (k, c)).getD false = ((findG L (k, c)).getD false || l.any fun x => decide (x.kind = k) && decide (x.code = c))
  | [], L, k, c => by simp
  | x :: l, L, k, c => by
    rw [List.foldl_cons, foldC_get l _ k c, findG_put, List.any_cons]
    by_cases h : (k, c) = (x.kind, x.code)
    · rw [if_pos h]
      obtain ⟨rfl, rfl⟩ := Prod.mk.inj h
      simp
    · rw [if_neg h]
      have : (decide (x.kind = k) && decide (x.code = c)) = false := by
        rw [Bool.eq_false_iff]
        intro hh
        rw [Bool.and_eq_true] at hh
        exact h (Prod.ext (of_decide_eq_true hh.1).symm (of_decide_eq_true hh.2).symm)
      rw [this, Bool.false_or]
theorem seen_tw (l : List Thg) (i : Nat) (t : Thg) : (findG (seenL (l.take i)) (t.kind, t.code)).getD false = twB l i t := by
  unfold seenL twB
  rw [foldC_get]
  simp [findG]
theorem foldC_mem (P : KC → Prop) : ∀ (l : List Thg) (L : List (KC × Bool)), (∀ x ∈ l, P (x.kind, x.code)) → (∀ p ∈ L, P p.1) → ∀ p ∈ l.foldl (fun L x => putG L (x.kind, x.code) true) L, P p.1
  | [], _, _, h => h
  | x :: l, L, h, h2 => foldC_mem P l _ (fun y hy => h y (List.mem_cons_of_mem _ hy)) fun p hp => by
    unfold putG at hp
    dsimp only at hp
    by_cases hh : hasG L (x.kind, x.code) = true
    · rw [if_pos hh] at hp
      obtain ⟨q, hq, rfl⟩ := List.mem_map.1 hp
      by_cases h3 : q.1 = (x.kind, x.code)
      · rw [if_pos h3]; exact h x List.mem_cons_self
      · rw [if_neg h3]; exact h2 q hq
    · rw [if_neg hh, List.mem_append, List.mem_singleton] at hp
      rcases hp with hp | hp
      · exact h2 p hp
      · rw [hp]; exact h x List.mem_cons_self
theorem seen_keys {l : List Thg} (h : ∀ x ∈ l, ThgOk x) (i : Nat) : ∀ p ∈ seenM (seenL (l.take i)), ∃ q, keyOf Tryz.prog 105 p.1 = some q := fun p hp => by
  unfold seenM encG at hp
  obtain ⟨q, hq, rfl⟩ := List.mem_map.1 hp
  have := foldC_mem (fun k => i64 k.1 ∧ k.2.size ≤ 9223372036854775807) (l.take i) [] (fun x hx => ⟨(h x (List.mem_of_mem_take hx)).kind, (h x (List.mem_of_mem_take hx)).code⟩) (fun p hp => by cases hp) q hq
  exact kC_ok this.1 this.2
theorem mt_seen : Tryz.prog.underlying 103 = some (.map 105 4) := by kernel_rfl
theorem zt_bool : (Tryz.prog.info? 4).bind (·.zero) = some (.bool false) := by kernel_rfl
theorem zd_bool (F : Nat → Prop) (w : World) : Rep F w (.bool false) (.v (.bool false)) := .v _
theorem get_seen (l : List Thg) (i : Nat) (t : Thg) : MGet (seenM (seenL (l.take i))) (kC (t.kind, t.code)) (.v (.bool false)) (.v (.bool (twB l i t))) := by
  rw [← seen_tw]
  exact mgetG (kv := kC) (dv := dB) kC_inj (seenL_nk _) _ _ _ (by cases findG (seenL (l.take i)) (t.kind, t.code) <;> rfl)
theorem put_seen {l : List Thg} {k : Nat} (hk : k < l.length) : MPut (seenM (seenL (l.take k))) (kC (l[k].kind, l[k].code)) (.v (.bool true)) (seenM (seenL (l.take (k + 1)))) := by
  rw [seenL_next hk]
  exact mputG (kv := kC) (dv := dB) kC_inj (seenL_nk _) (l[k].kind, l[k].code) true
theorem thg_parts {x : Thg} (h : thgF x = 0) : x.parts.length ≤ 50 := by
  unfold thgF at h
  by_cases h1 : kindB x.kind = false
  · rw [if_pos h1] at h; omega
  rw [if_neg h1] at h
  by_cases h2 : titleOk x.title = false
  · rw [if_pos h2] at h; omega
  rw [if_neg h2] at h
  by_cases h3 : ¬ x.code = ⟨#[]⟩ ∧ codeF x.kind x.code.data.toList ≠ 0
  · rw [if_pos h3] at h; exact absurd h h3.2
  rw [if_neg h3] at h
  by_cases h4 : x.since < 0 ∨ 200000 < x.since
  · rw [if_pos h4] at h; omega
  rw [if_neg h4] at h
  split at h
  · omega
  · split at h <;> omega
theorem parts_of {l : List Thg} (h : ffst (thF l) l.length = 0) {k : Nat} (hk : k < l.length) : l[k].parts.length ≤ 50 := thg_parts (thF_0 hk (ffst_all _ h k hk)).2.2
theorem lim_of {c : Ctl} (h : ¬ (300 < c.things.length ∨ 300 < c.moved.length)) : Lim c := ⟨by omega, by omega⟩
theorem chk_t {c : Ctl} {k : Nat} {n : Int} (hL : ¬ (300 < c.things.length ∨ 300 < c.moved.length)) (hk : k < c.things.length) (hf : ffst (thF c.things) k = 0) (h2 : thF c.things k = n) (hn : n ≠ 0) : chkF c = n := by
  have h3 := ffst_hit hf (by rw [h2]; exact hn) _ hk
  unfold chkF
  rw [if_neg hL, h3, h2, if_pos hn]
theorem chk_l {c : Ctl} {k : Nat} {n : Int} (hL : ¬ (300 < c.things.length ∨ 300 < c.moved.length)) (h1 : ffst (thF c.things) c.things.length = 0) (hk : k < c.things.length) (hf : ffst (lkF c.things) k = 0) (h2 : lkF c.things k = n) (hn : n ≠ 0) : chkF c = n := by
  have h3 := ffst_hit hf (by rw [h2]; exact hn) _ hk
  unfold chkF
  rw [if_neg hL, if_neg (by omega), h3, h2, if_pos hn]
theorem chk_m {c : Ctl} (hL : ¬ (300 < c.things.length ∨ 300 < c.moved.length)) (h1 : ffst (thF c.things) c.things.length = 0) (h2 : ffst (lkF c.things) c.things.length = 0) : chkF c = mvdF c := by
  unfold chkF
  rw [if_neg hL, if_neg (by omega), if_neg (by omega)]
/-! ## What a right catalogue is -/
structure CatOk (c : Ctl) : Prop where
  lim : Lim c
  ris : RisT c.things
  rism : RisM c.moved
  th : ∀ k (hk : k < c.things.length), thgF c.things[k] = 0
  lk : ∀ k (hk : k < c.things.length), linkF c.things c.things[k] = 0
  lp : ∀ x ∈ c.moved, (ledC c x.src).isSome = true
theorem catOk {c : Ctl} (h : chkF c = 0) : CatOk c := by
  unfold chkF at h
  by_cases hL : 300 < c.things.length ∨ 300 < c.moved.length
  · rw [if_pos hL] at h; omega
  rw [if_neg hL] at h
  by_cases h1 : ffst (thF c.things) c.things.length ≠ 0
  · rw [if_pos h1] at h; exact absurd h h1
  rw [if_neg h1] at h
  have h1 : ffst (thF c.things) c.things.length = 0 := by omega
  by_cases h2 : ffst (lkF c.things) c.things.length ≠ 0
  · rw [if_pos h2] at h; exact absurd h h2
  rw [if_neg h2] at h
  have h2 : ffst (lkF c.things) c.things.length = 0 := by omega
  unfold mvdF at h
  by_cases h3 : ffst (mvF c) c.moved.length ≠ 0
  · rw [if_pos h3] at h; exact absurd h h3
  rw [if_neg h3] at h
  have h3 : ffst (mvF c) c.moved.length = 0 := by omega
  refine ⟨lim_of hL, risT_of h1, risM_of h3, fun k hk => (thF_0 hk (ffst_all _ h1 k hk)).2.2, fun k hk => ?_, fun x hx => ?_⟩
  · have h4 := ffst_all _ h2 k hk
    unfold lkF at h4
    rw [dif_pos hk] at h4
    by_cases h5 : linkF c.things c.things[k] ≠ 0
    · rw [if_pos h5] at h4; exact absurd h4 h5
    · omega
  · obtain ⟨k, hk, rfl⟩ := List.mem_iff_getElem.1 hx
    have h4 := ffst_all _ h k hk
    unfold lpF at h4
    rw [dif_pos hk] at h4
    cases hq : (ledC c c.moved[k].src).isSome with
    | true => rfl
    | false => rw [hq, if_pos rfl] at h4; omega

set_option maxRecDepth 100000 in
set_option maxHeartbeats 1000000 in
theorem c_pChk (c : Ctl) (hc : CtlOk c) : ACallT Tryz.prog MaxT 20 [.agg c.ds] (.v (.int .i64 (chkF c))) := by
 refine acall_ofT (n := 93) (ds' := [.v (.int .i64 (chkF c))]) Tryz.func20 rfl (by kernel_rfl) rfl [2] rfl rfl ?_
 intro B w0 F0 hT
 have htl : (c.things.map Thg.ds).length = c.things.length := List.length_map ..
 have hml : (c.moved.map Mvd.ds).length = c.moved.length := List.length_map ..
 refine .sr ?_
 refine .sA (.box rfl rfl rfl) ?_
 refine .aA (.nil ?_)
 refine .seq ?_
 refine .sr ?_
 refine .sA (.fieldAddr rfl fo_25_0 rfl) ?_
 refine .sA (.load rfl sc_22 rfl) ?_
 refine .sA (.lenSl rfl et_22.ht rfl) ?_
 refine .sA (.gtr rfl rfl rfl) ?_
 refine .mA ?_
 refine .split 16 rfl (fun g1 => ?_) (fun g1 => ?_)
 ·replace g1 := of_decide_eq_true g1
  have HR : chkF c = 2 := if_pos (by omega)
  refine .pA ?_
  refine .pA ?_
  refine .pA ?_
  refine .pA ?_
  refine .sA (.pickT rfl rfl rfl) (.nil ?_)
  refine .cond rfl (fun _ => ?_) (fun h => nomatch h)
  refine .sr ?_
  refine .aA (.nil ?_)
  refine .ret ?_
  refine ⟨RetD.eq rfl ?_, trivial⟩
  all_goals (first | rfl | first | rw [HR] | rw [chk_t hL hlt hk.2 (show thF c.things k = 1 from by unfold thF; rw [dif_pos hlt]; (first | (exfalso; omega) | ((repeat (first | rw [if_pos (by first | assumption | omega)] | rw [if_neg (by first | assumption | omega)])); first | done | rfl | omega | decide))) (by decide)] | rw [chk_t hL hlt hk.2 (show thF c.things k = 8 from by unfold thF; rw [dif_pos hlt]; (first | (exfalso; omega) | ((repeat (first | rw [if_pos (by first | assumption | omega)] | rw [if_neg (by first | assumption | omega)])); first | done | rfl | omega | decide))) (by decide)])
 replace g1 := of_decide_eq_false g1
 refine .sG (.fieldAddr rfl fo_25_1 rfl) ?_
 refine .sG (.load rfl sc_23 rfl) ?_
 refine .sG (.lenSl rfl et_23.ht rfl) ?_
 refine .sG (.gtr rfl rfl rfl) ?_
 refine .sA (.pickF rfl rfl rfl) (.nil ?_)
 refine .cond rfl (fun h2 => ?_) (fun h2 => ?_)
 ·replace h2 := of_decide_eq_true h2
  have HR : chkF c = 2 := if_pos (by omega)
  refine .sr ?_
  refine .aA (.nil ?_)
  refine .ret ?_
  refine ⟨RetD.eq rfl ?_, trivial⟩
  all_goals (first | rfl | first | rw [HR] | rw [chk_t hL hlt hk.2 (show thF c.things k = 1 from by unfold thF; rw [dif_pos hlt]; (first | (exfalso; omega) | ((repeat (first | rw [if_pos (by first | assumption | omega)] | rw [if_neg (by first | assumption | omega)])); first | done | rfl | omega | decide))) (by decide)] | rw [chk_t hL hlt hk.2 (show thF c.things k = 8 from by unfold thF; rw [dif_pos hlt]; (first | (exfalso; omega) | ((repeat (first | rw [if_pos (by first | assumption | omega)] | rw [if_neg (by first | assumption | omega)])); first | done | rfl | omega | decide))) (by decide)])
 replace h2 := of_decide_eq_false h2
 have hL : ¬ (300 < c.things.length ∨ 300 < c.moved.length) := by omega
 have hLim := lim_of hL
 refine .skip ?_
 refine .seq ?_
 refine .sr ?_
 refine .sA (.fieldAddr rfl fo_25_0 rfl) ?_
 refine .sA (.load rfl sc_22 rfl) ?_
 refine .sA (.lenSl rfl et_22.ht rfl) ?_
 refine .mA (.nil ?_)
 refine .block ?_
 refine .loop (G := Nat) (fun k => Env.of [(25, .d (.v (.int .i64 (k : Int)))), (23, .d (.sl (c.things.map Thg.ds))), (24, .d (.v (.int .i64 ((c.things.map Thg.ds).length : Int)))), (1, .d (.fp c.ds))]) (fun k => []) (fun k => k ≤ c.things.length ∧ ffst (thF c.things) k = 0) (fun k => c.things.length - k) 0 ⟨Nat.zero_le _, rfl⟩ (Sub.less ⟨(SLe.of_eq rfl), SLe.refl _, SLe.refl _, SLe.refl _, trivial⟩ (fun _ h => h)) ?_
 intro k hk
 refine .sr ?_
 refine .sA (.lss rfl rfl rfl) (.nil ?_)
 refine .seq ?_
 refine .cond rfl (fun h3 => ?_) (fun h3 => ?_)
 ·replace h3 := of_decide_eq_true h3
  rw [List.length_map] at h3
  have hlt : k < c.things.length := by omega
  have hbk := hc.things _ (List.getElem_mem hlt)
  refine .skip ?_
  refine .seq ?_
  refine .block ?_
  refine .sr ?_
  refine .mA ?_
  refine .sA (.indexAddr rfl et_22 rfl rfl k rfl (at_lst hlt) rfl) ?_
  refine .sA (.loadAgg rfl ag_61 rfl rfl) ?_
  refine .alloc 101 rfl rfl rfl rfl zt_61 rfl rfl rfl ?_
  refine .aA ?_
  refine .store rfl rfl rfl sz_61 rfl (.head _) rfl rfl rfl (Nat.le_of_ble_eq_true rfl) ?_
  refine .freezeCells 4 (ds := c.things[k].ds) rfl (.head _) (.nil ?_)
  refine .seq ?_
  refine .sr ?_
  refine .sA (.fieldAddr rfl fo_61_0 rfl) ?_
  refine .sA (.load rfl sc_3 rfl) ?_
  refine .sA (.lss rfl rfl rfl) ?_
  refine .mA ?_
  refine .split 33 rfl (fun g4 => ?_) (fun g4 => ?_)
  ·replace g4 := of_decide_eq_true g4
   refine .pA ?_
   refine .pA ?_
   refine .pA ?_
   refine .sA (.pickT rfl rfl rfl) (.nil ?_)
   refine .cond rfl (fun _ => ?_) (fun h => nomatch h)
   refine .sr ?_
   refine .aA (.nil ?_)
   refine .ret ?_
   refine ⟨RetD.eq rfl ?_, trivial⟩
   all_goals (first | rfl | first | rw [HR] | rw [chk_t hL hlt hk.2 (show thF c.things k = 1 from by unfold thF; rw [dif_pos hlt]; (first | (exfalso; omega) | ((repeat (first | rw [if_pos (by first | assumption | omega)] | rw [if_neg (by first | assumption | omega)])); first | done | rfl | omega | decide))) (by decide)] | rw [chk_t hL hlt hk.2 (show thF c.things k = 8 from by unfold thF; rw [dif_pos hlt]; (first | (exfalso; omega) | ((repeat (first | rw [if_pos (by first | assumption | omega)] | rw [if_neg (by first | assumption | omega)])); first | done | rfl | omega | decide))) (by decide)])
  replace g4 := of_decide_eq_false g4
  refine .sG (.fieldAddr rfl fo_61_0 rfl) ?_
  refine .sG (.load rfl sc_3 rfl) ?_
  refine .sG (.gtr rfl rfl rfl) ?_
  refine .sA (.pickF rfl rfl rfl) (.nil ?_)
  refine .cond rfl (fun h5 => ?_) (fun h5 => ?_)
  ·replace h5 := of_decide_eq_true h5
   refine .sr ?_
   refine .aA (.nil ?_)
   refine .ret ?_
   refine ⟨RetD.eq rfl ?_, trivial⟩
   all_goals (first | rfl | first | rw [HR] | rw [chk_t hL hlt hk.2 (show thF c.things k = 1 from by unfold thF; rw [dif_pos hlt]; (first | (exfalso; omega) | ((repeat (first | rw [if_pos (by first | assumption | omega)] | rw [if_neg (by first | assumption | omega)])); first | done | rfl | omega | decide))) (by decide)] | rw [chk_t hL hlt hk.2 (show thF c.things k = 8 from by unfold thF; rw [dif_pos hlt]; (first | (exfalso; omega) | ((repeat (first | rw [if_pos (by first | assumption | omega)] | rw [if_neg (by first | assumption | omega)])); first | done | rfl | omega | decide))) (by decide)])
  replace h5 := of_decide_eq_false h5
  refine .skip ?_
  refine .seq ?_
  refine .seq ?_
  refine .draw (by kernel_rfl) (by kernel_rfl) ?_
  refine .sA (.moveD rfl rfl) ?_
  refine .sA (.gtr rfl rfl rfl) ?_
  refine .sA (.moveD rfl rfl) ?_
  refine .split 40 rfl (fun g6 => ?_) (fun g6 => ?_)
  ·replace g6 := of_decide_eq_true g6
   have hk0 : 0 < k := by omega
   refine .sG (.fieldAddr rfl fo_61_0 rfl) ?_
   refine .sG (.load rfl sc_3 rfl) ?_
   refine .sG (.fieldAddr rfl fo_25_0 rfl) ?_
   refine .sG (.load rfl sc_22 rfl) ?_
   refine .sG (.moveD rfl rfl) ?_
   refine .sG (.sub64 rfl rfl rfl (by omega) (by omega)) ?_
   refine .sG (.indexAddr rfl et_22 rfl rfl (k - 1) (by omega) (at_lst (by omega)) rfl) ?_
   refine .sG (.fieldAddr rfl fo_61_0 rfl) ?_
   refine .sG (.load rfl sc_3 rfl) ?_
   refine .sG (.leq rfl rfl rfl) ?_
   refine .sA (.pickT rfl rfl rfl) ?_
   refine .nil ?_
   refine .cond rfl (fun h7 => ?_) (fun h7 => ?_)
   ·replace h7 := of_decide_eq_true h7
    refine .sr ?_
    refine .aA (.nil ?_)
    refine .ret ?_
    refine ⟨RetD.eq rfl ?_, trivial⟩
    all_goals (first | rfl | first | rw [HR] | rw [chk_t hL hlt hk.2 (show thF c.things k = 1 from by unfold thF; rw [dif_pos hlt]; (first | (exfalso; omega) | ((repeat (first | rw [if_pos (by first | assumption | omega)] | rw [if_neg (by first | assumption | omega)])); first | done | rfl | omega | decide))) (by decide)] | rw [chk_t hL hlt hk.2 (show thF c.things k = 8 from by unfold thF; rw [dif_pos hlt]; (first | (exfalso; omega) | ((repeat (first | rw [if_pos (by first | assumption | omega)] | rw [if_neg (by first | assumption | omega)])); first | done | rfl | omega | decide))) (by decide)])
   replace h7 := of_decide_eq_false h7
   refine .skip ?_
   refine .sr ?_
   refine .sA (.loadAgg rfl ag_61 rfl rfl) ?_
   -- wants the world
   refine .callT rfl rfl rfl hT maxT_stays rfl (.cons (.rfl' rfl) .nil) (c_pThg _ hbk) ?_
   refine .aA (.nil ?_)
   refine .sr ?_
   refine .mA ?_
   refine .sA (.neq rfl rfl rfl) (.nil ?_)
   refine .cond rfl (fun h8 => ?_) (fun h8 => ?_)
   ·replace h8 := of_decide_eq_true h8
    have HT : chkF c = thgF c.things[k] := chk_t hL hlt hk.2 (show thF c.things k = _ from by unfold thF; rw [dif_pos hlt]; (first | (exfalso; omega) | ((repeat (first | rw [if_pos (by first | assumption | omega)] | rw [if_neg (by first | assumption | omega)])); first | done | rfl | omega | decide))) h8
    rw [HT]
    refine .sr ?_
    refine .mA ?_
    refine .aA (.nil ?_)
    refine .ret ?_
    refine ⟨RetD.eq rfl ?_, trivial⟩
    all_goals (first | rfl | first | rw [HR] | rw [chk_t hL hlt hk.2 (show thF c.things k = 1 from by unfold thF; rw [dif_pos hlt]; (first | (exfalso; omega) | ((repeat (first | rw [if_pos (by first | assumption | omega)] | rw [if_neg (by first | assumption | omega)])); first | done | rfl | omega | decide))) (by decide)] | rw [chk_t hL hlt hk.2 (show thF c.things k = 8 from by unfold thF; rw [dif_pos hlt]; (first | (exfalso; omega) | ((repeat (first | rw [if_pos (by first | assumption | omega)] | rw [if_neg (by first | assumption | omega)])); first | done | rfl | omega | decide))) (by decide)])
   replace h8 := of_decide_eq_false h8
   refine .skip ?_
   refine .region ?_
   refine .sA (.add64 rfl rfl rfl (by omega) (by omega)) ?_
   refine .mA (.nil ?_)
   refine ⟨k + 1, ⟨by omega, ffst_next hk.2 (show thF c.things k = 0 from by unfold thF; rw [dif_pos hlt]; (first | (exfalso; omega) | ((repeat (first | rw [if_pos (by first | assumption | omega)] | rw [if_neg (by first | assumption | omega)])); first | done | rfl | omega | decide)))⟩, (by dsimp only; omega), Sub.less ⟨(SLe.of_eq rfl), SLe.refl _, SLe.refl _, SLe.refl _, trivial⟩ (fun _ h => h)⟩
  replace g6 := of_decide_eq_false g6
  refine .pA ?_
  refine .pA ?_
  refine .pA ?_
  refine .pA ?_
  refine .pA ?_
  refine .pA ?_
  refine .pA ?_
  refine .pA ?_
  refine .pA ?_
  refine .pA ?_
  refine .sA (.pickF rfl rfl rfl) ?_
  refine .nil ?_
  refine .cond rfl (fun h => nomatch h) (fun _ => ?_)
  refine .skip ?_
  refine .sr ?_
  refine .sA (.loadAgg rfl ag_61 rfl rfl) ?_
  -- wants the world
  refine .callT rfl rfl rfl hT maxT_stays rfl (.cons (.rfl' rfl) .nil) (c_pThg _ hbk) ?_
  refine .aA (.nil ?_)
  refine .sr ?_
  refine .mA ?_
  refine .sA (.neq rfl rfl rfl) (.nil ?_)
  refine .cond rfl (fun h9 => ?_) (fun h9 => ?_)
  ·replace h9 := of_decide_eq_true h9
   have HT : chkF c = thgF c.things[k] := chk_t hL hlt hk.2 (show thF c.things k = _ from by unfold thF; rw [dif_pos hlt]; (first | (exfalso; omega) | ((repeat (first | rw [if_pos (by first | assumption | omega)] | rw [if_neg (by first | assumption | omega)])); first | done | rfl | omega | decide))) h9
   rw [HT]
   refine .sr ?_
   refine .mA ?_
   refine .aA (.nil ?_)
   refine .ret ?_
   refine ⟨RetD.eq rfl ?_, trivial⟩
   all_goals (first | rfl | first | rw [HR] | rw [chk_t hL hlt hk.2 (show thF c.things k = 1 from by unfold thF; rw [dif_pos hlt]; (first | (exfalso; omega) | ((repeat (first | rw [if_pos (by first | assumption | omega)] | rw [if_neg (by first | assumption | omega)])); first | done | rfl | omega | decide))) (by decide)] | rw [chk_t hL hlt hk.2 (show thF c.things k = 8 from by unfold thF; rw [dif_pos hlt]; (first | (exfalso; omega) | ((repeat (first | rw [if_pos (by first | assumption | omega)] | rw [if_neg (by first | assumption | omega)])); first | done | rfl | omega | decide))) (by decide)])
  replace h9 := of_decide_eq_false h9
  refine .skip ?_
  refine .region ?_
  refine .sA (.add64 rfl rfl rfl (by omega) (by omega)) ?_
  refine .mA (.nil ?_)
  refine ⟨k + 1, ⟨by omega, ffst_next hk.2 (show thF c.things k = 0 from by unfold thF; rw [dif_pos hlt]; (first | (exfalso; omega) | ((repeat (first | rw [if_pos (by first | assumption | omega)] | rw [if_neg (by first | assumption | omega)])); first | done | rfl | omega | decide)))⟩, (by dsimp only; omega), Sub.less ⟨(SLe.of_eq rfl), SLe.refl _, SLe.refl _, SLe.refl _, trivial⟩ (fun _ h => h)⟩
 replace h3 := of_decide_eq_false h3
 rw [List.length_map] at h3
 obtain rfl : k = c.things.length := by omega
 have HF1 := hk.2
 have hr := risT_of HF1
 refine .exit ?_
 refine .sr ?_
 refine .sA (.loadAgg rfl ag_25 rfl rfl) ?_
 refine .sA (.call rfl (.cons (.rfl' rfl) .nil) (c_idxOf c hLim hc hr)) ?_
 refine .aA (.nil ?_)
 refine .sr ?_
 refine .makeMap 92 rfl rfl rfl rfl rfl ?_
 refine .sA (.assignO rfl rfl) (.nil ?_)
 refine .seq ?_
 refine .sr ?_
 refine .sA (.fieldAddr rfl fo_25_0 rfl) ?_
 refine .sA (.load rfl sc_22 rfl) ?_
 refine .sA (.lenSl rfl et_22.ht rfl) ?_
 refine .mA (.nil ?_)
 refine .block ?_
 refine .loop (G := Nat) (fun k => Env.of [(64, .d (.v (.int .i64 (k : Int)))), (62, .d (.sl (c.things.map Thg.ds))), (63, .d (.v (.int .i64 ((c.things.map Thg.ds).length : Int)))), (6, .d (.fm (idxM c.things))), (7, .own 92), (1, .d (.fp c.ds))]) (fun k => [(92, .map (seenM (seenL (c.things.take k))))]) (fun k => k ≤ c.things.length ∧ ffst (lkF c.things) k = 0) (fun k => c.things.length - k) 0 ⟨Nat.zero_le _, rfl⟩ (Sub.less ⟨(SLe.of_eq rfl), SLe.refl _, SLe.refl _, SLe.refl _, SLe.refl _, SLe.refl _, trivial⟩ (map_1 rfl)) ?_
 intro k hk
 refine .sr ?_
 refine .sA (.lss rfl rfl rfl) (.nil ?_)
 refine .seq ?_
 refine .cond rfl (fun h10 => ?_) (fun h10 => ?_)
 ·replace h10 := of_decide_eq_true h10
  rw [List.length_map] at h10
  have hlt : k < c.things.length := by omega
  have hbk := hc.things _ (List.getElem_mem hlt)
  refine .skip ?_
  refine .seq ?_
  refine .block ?_
  refine .sr ?_
  refine .sA (.indexAddr rfl et_22 rfl rfl k rfl (at_lst hlt) rfl) ?_
  refine .sA (.loadAgg rfl ag_61 rfl rfl) ?_
  refine .alloc 103 rfl rfl rfl rfl zt_61 rfl rfl rfl ?_
  refine .store rfl rfl rfl sz_61 rfl (.head _) rfl rfl rfl (Nat.le_of_ble_eq_true rfl) ?_
  refine .freezeCells 9 (ds := c.things[k].ds) rfl (.head _) (.nil ?_)
  refine .seq ?_
  refine .sr ?_
  refine .mA ?_
  refine .sA (.loadAgg rfl ag_61 rfl rfl) ?_
  refine .sA (.call rfl (.cons (.rfl' rfl) (.cons (.rfl' rfl) .nil)) (c_pLink _ _ hc.things hr hbk hLim.1 (parts_of HF1 hlt))) ?_
  refine .aA (.nil ?_)
  refine .sr ?_
  refine .mA ?_
  refine .sA (.neq rfl rfl rfl) (.nil ?_)
  refine .cond rfl (fun h11 => ?_) (fun h11 => ?_)
  ·replace h11 := of_decide_eq_true h11
   have HT : chkF c = linkF c.things c.things[k] := chk_l hL HF1 hlt hk.2 (show lkF c.things k = _ from lk_p hlt rfl h11) h11
   rw [HT]
   refine .sr ?_
   refine .mA ?_
   refine .aA (.nil ?_)
   refine .ret ?_
   refine ⟨RetD.eq rfl ?_, trivial⟩
   all_goals (first | rfl | first | rw [HR] | rw [chk_t hL hlt hk.2 (show thF c.things k = 1 from by unfold thF; rw [dif_pos hlt]; (first | (exfalso; omega) | ((repeat (first | rw [if_pos (by first | assumption | omega)] | rw [if_neg (by first | assumption | omega)])); first | done | rfl | omega | decide))) (by decide)] | rw [chk_t hL hlt hk.2 (show thF c.things k = 8 from by unfold thF; rw [dif_pos hlt]; (first | (exfalso; omega) | ((repeat (first | rw [if_pos (by first | assumption | omega)] | rw [if_neg (by first | assumption | omega)])); first | done | rfl | omega | decide))) (by decide)])
  replace h11 := of_decide_eq_false h11
  have n0 : linkF c.things c.things[k] = 0 := by omega
  refine .skip ?_
  refine .sr ?_
  refine .sA (.fieldAddr rfl fo_61_1 rfl) ?_
  refine .sA (.load rfl sc_3 rfl) ?_
  refine .sA (.fieldAddr rfl fo_61_3 rfl) ?_
  refine .sA (.load rfl sc_9 rfl) ?_
  refine .sA (.build rfl bu_105 (.cons rfl rfl (.cons rfl rfl .nil)) rfl) ?_
  refine .alloc 104 rfl rfl rfl rfl zt_105 rfl rfl rfl ?_
  refine .store rfl rfl rfl sz_105 rfl (.head _) rfl rfl rfl (Nat.le_of_ble_eq_true rfl) ?_
  refine .freezeCells 11 (ds := [.v (.int .i64 c.things[k].kind), .v (.string c.things[k].code)]) rfl (.head _) (.nil ?_)
  refine .seq ?_
  refine .sr ?_
  refine .sA (.fieldAddr rfl fo_61_3 rfl) ?_
  refine .sA (.load rfl sc_9 rfl) ?_
  refine .sA (.sneq rfl rfl rfl) ?_
  refine .mA ?_
  refine .split 82 rfl (fun g12 => ?_) (fun g12 => ?_)
  ·replace g12 := of_decide_eq_true g12
   have hcn := g12
   refine .sG (.moveO rfl rfl) ?_
   refine .sG (.loadAgg rfl ag_105 rfl rfl) ?_
   refine .sG (.lookupX (key := kC (c.things[k].kind, c.things[k].code)) rfl mt_seen kd_C zt_bool zd_bool rfl (.head _) rfl (DExact.agg2 _ _) (kC_ok hbk.kind hbk.code) (seen_keys hc.things k) (get_seen _ _ _)) ?_
   refine .sA (.pickT rfl rfl rfl) (.nil ?_)
   refine .cond rfl (fun h13 => ?_) (fun h13 => ?_)
   ·skip
    have HR : chkF c = 7 := chk_l hL HF1 hlt hk.2 (lk_7 hlt n0 hcn h13) (by decide)
    refine .sr ?_
    refine .aA (.nil ?_)
    refine .ret ?_
    refine ⟨RetD.eq rfl ?_, trivial⟩
    all_goals (first | rfl | first | rw [HR] | rw [chk_t hL hlt hk.2 (show thF c.things k = 1 from by unfold thF; rw [dif_pos hlt]; (first | (exfalso; omega) | ((repeat (first | rw [if_pos (by first | assumption | omega)] | rw [if_neg (by first | assumption | omega)])); first | done | rfl | omega | decide))) (by decide)] | rw [chk_t hL hlt hk.2 (show thF c.things k = 8 from by unfold thF; rw [dif_pos hlt]; (first | (exfalso; omega) | ((repeat (first | rw [if_pos (by first | assumption | omega)] | rw [if_neg (by first | assumption | omega)])); first | done | rfl | omega | decide))) (by decide)])
   have n7 : ¬ (¬ c.things[k].code = ⟨#[]⟩ ∧ twB c.things k c.things[k] = true) := fun hh => by have q7 := hh.2; rw [h13] at q7; cases q7
   refine .skip ?_
   refine .region ?_
   refine .sA (.moveO rfl rfl) ?_
   refine .sA (.loadAgg rfl ag_105 rfl rfl) ?_
   refine .eff rfl rfl (.mapUpdateX (key := kC (c.things[k].kind, c.things[k].code)) rfl rfl mt_seen kd_C rfl (.head _) rfl (DExact.agg2 _ _) rfl (kC_ok hbk.kind hbk.code) (seen_keys hc.things k) (put_seen hlt)) (.nil ?_)
   refine .region ?_
   refine .sA (.add64 rfl rfl rfl (by omega) (by omega)) ?_
   refine .mA (.nil ?_)
   refine ⟨k + 1, ⟨by omega, ffst_next hk.2 (lk_0 hlt n0 n7)⟩, (by dsimp only; omega), Sub.less ⟨(SLe.of_eq rfl), SLe.refl _, SLe.refl _, SLe.refl _, SLe.refl _, SLe.refl _, trivial⟩ (map_1 rfl)⟩
  replace g12 := of_decide_eq_false g12
  have n7 : ¬ (¬ c.things[k].code = ⟨#[]⟩ ∧ twB c.things k c.things[k] = true) := fun hh => hh.1 (by first | exact g12 | exact Decidable.not_not.1 g12)
  refine .pA ?_
  refine .pA ?_
  refine .pA ?_
  refine .sA (.pickF rfl rfl rfl) (.nil ?_)
  refine .cond rfl (fun h => nomatch h) (fun _ => ?_)
  refine .skip ?_
  refine .region ?_
  refine .sA (.moveO rfl rfl) ?_
  refine .sA (.loadAgg rfl ag_105 rfl rfl) ?_
  refine .eff rfl rfl (.mapUpdateX (key := kC (c.things[k].kind, c.things[k].code)) rfl rfl mt_seen kd_C rfl (.head _) rfl (DExact.agg2 _ _) rfl (kC_ok hbk.kind hbk.code) (seen_keys hc.things k) (put_seen hlt)) (.nil ?_)
  refine .region ?_
  refine .sA (.add64 rfl rfl rfl (by omega) (by omega)) ?_
  refine .mA (.nil ?_)
  refine ⟨k + 1, ⟨by omega, ffst_next hk.2 (lk_0 hlt n0 n7)⟩, (by dsimp only; omega), Sub.less ⟨(SLe.of_eq rfl), SLe.refl _, SLe.refl _, SLe.refl _, SLe.refl _, SLe.refl _, trivial⟩ (map_1 rfl)⟩
 replace h10 := of_decide_eq_false h10
 rw [List.length_map] at h10
 obtain rfl : k = c.things.length := by omega
 have HR : chkF c = mvdF c := chk_m hL HF1 hk.2
 refine .exit ?_
 refine .sr ?_
 refine .sA (.loadAgg rfl ag_25 rfl rfl) ?_
 refine .mA ?_
 refine .sA (.call rfl (.cons (.rfl' rfl) (.cons (.rfl' rfl) .nil)) (c_pMvd c hLim hc hr)) ?_
 refine .aA (.nil ?_)
 refine .ret ?_
 refine ⟨RetD.eq rfl ?_, trivial⟩
 all_goals (first | rfl | first | rw [HR] | rw [chk_t hL hlt hk.2 (show thF c.things k = 1 from by unfold thF; rw [dif_pos hlt]; (first | (exfalso; omega) | ((repeat (first | rw [if_pos (by first | assumption | omega)] | rw [if_neg (by first | assumption | omega)])); first | done | rfl | omega | decide))) (by decide)] | rw [chk_t hL hlt hk.2 (show thF c.things k = 8 from by unfold thF; rw [dif_pos hlt]; (first | (exfalso; omega) | ((repeat (first | rw [if_pos (by first | assumption | omega)] | rw [if_neg (by first | assumption | omega)])); first | done | rfl | omega | decide))) (by decide)])

set_option maxRecDepth 100000 in
set_option maxHeartbeats 1000000 in
theorem c_rChk (c : Ctl) (hc : CtlOk c) : ACallT Tryz.prog MaxT 22 [.agg c.ds] (.v (.int .i64 (chkF c))) := by
 refine acall_ofT (n := 65) (ds' := [.v (.int .i64 (chkF c))]) Tryz.func22 rfl (by kernel_rfl) rfl [2] rfl rfl ?_
 intro B w0 F0 hT
 have htl : (c.things.map Thg.ds).length = c.things.length := List.length_map ..
 have hml : (c.moved.map Mvd.ds).length = c.moved.length := List.length_map ..
 refine .sr ?_
 refine .sA (.box rfl rfl rfl) ?_
 refine .aA (.nil ?_)
 refine .seq ?_
 refine .sr ?_
 refine .sA (.fieldAddr rfl fo_25_0 rfl) ?_
 refine .sA (.load rfl sc_22 rfl) ?_
 refine .sA (.lenSl rfl et_22.ht rfl) ?_
 refine .sA (.gtr rfl rfl rfl) ?_
 refine .mA ?_
 refine .split 12 rfl (fun g1 => ?_) (fun g1 => ?_)
 ·replace g1 := of_decide_eq_true g1
  have HR : chkF c = 2 := if_pos (by omega)
  refine .pA ?_
  refine .pA ?_
  refine .pA ?_
  refine .pA ?_
  refine .sA (.pickT rfl rfl rfl) (.nil ?_)
  refine .cond rfl (fun _ => ?_) (fun h => nomatch h)
  refine .sr ?_
  refine .aA (.nil ?_)
  refine .ret ?_
  refine ⟨RetD.eq rfl ?_, trivial⟩
  all_goals (first | rfl | first | rw [HR] | rw [chk_t hL hlt hk.2 (show thF c.things k = 1 from by unfold thF; rw [dif_pos hlt]; (first | (exfalso; omega) | ((repeat (first | rw [if_pos (by first | assumption | omega)] | rw [if_neg (by first | assumption | omega)])); first | done | rfl | omega | decide))) (by decide)] | rw [chk_t hL hlt hk.2 (show thF c.things k = 8 from by unfold thF; rw [dif_pos hlt]; (first | (exfalso; omega) | ((repeat (first | rw [if_pos (by first | assumption | omega)] | rw [if_neg (by first | assumption | omega)])); first | done | rfl | omega | decide))) (by decide)])
 replace g1 := of_decide_eq_false g1
 refine .sG (.fieldAddr rfl fo_25_1 rfl) ?_
 refine .sG (.load rfl sc_23 rfl) ?_
 refine .sG (.lenSl rfl et_23.ht rfl) ?_
 refine .sG (.gtr rfl rfl rfl) ?_
 refine .sA (.pickF rfl rfl rfl) (.nil ?_)
 refine .cond rfl (fun h2 => ?_) (fun h2 => ?_)
 ·replace h2 := of_decide_eq_true h2
  have HR : chkF c = 2 := if_pos (by omega)
  refine .sr ?_
  refine .aA (.nil ?_)
  refine .ret ?_
  refine ⟨RetD.eq rfl ?_, trivial⟩
  all_goals (first | rfl | first | rw [HR] | rw [chk_t hL hlt hk.2 (show thF c.things k = 1 from by unfold thF; rw [dif_pos hlt]; (first | (exfalso; omega) | ((repeat (first | rw [if_pos (by first | assumption | omega)] | rw [if_neg (by first | assumption | omega)])); first | done | rfl | omega | decide))) (by decide)] | rw [chk_t hL hlt hk.2 (show thF c.things k = 8 from by unfold thF; rw [dif_pos hlt]; (first | (exfalso; omega) | ((repeat (first | rw [if_pos (by first | assumption | omega)] | rw [if_neg (by first | assumption | omega)])); first | done | rfl | omega | decide))) (by decide)])
 replace h2 := of_decide_eq_false h2
 have hL : ¬ (300 < c.things.length ∨ 300 < c.moved.length) := by omega
 have hLim := lim_of hL
 refine .skip ?_
 refine .seq ?_
 refine .sr ?_
 refine .sA (.fieldAddr rfl fo_25_0 rfl) ?_
 refine .sA (.load rfl sc_22 rfl) ?_
 refine .sA (.lenSl rfl et_22.ht rfl) ?_
 refine .mA (.nil ?_)
 refine .block ?_
 refine .loop (G := Nat) (fun k => Env.of [(21, .d (.v (.int .i64 (k : Int)))), (19, .d (.sl (c.things.map Thg.ds))), (20, .d (.v (.int .i64 ((c.things.map Thg.ds).length : Int)))), (1, .d (.fp c.ds))]) (fun k => []) (fun k => k ≤ c.things.length ∧ ffst (thF c.things) k = 0) (fun k => c.things.length - k) 0 ⟨Nat.zero_le _, rfl⟩ (Sub.less ⟨(SLe.of_eq rfl), SLe.refl _, SLe.refl _, SLe.refl _, trivial⟩ (fun _ h => h)) ?_
 intro k hk
 refine .sr ?_
 refine .sA (.lss rfl rfl rfl) (.nil ?_)
 refine .seq ?_
 refine .cond rfl (fun h3 => ?_) (fun h3 => ?_)
 ·replace h3 := of_decide_eq_true h3
  rw [List.length_map] at h3
  have hlt : k < c.things.length := by omega
  have hbk := hc.things _ (List.getElem_mem hlt)
  refine .skip ?_
  refine .seq ?_
  refine .block ?_
  refine .sr ?_
  refine .mA ?_
  refine .sA (.indexAddr rfl et_22 rfl rfl k rfl (at_lst hlt) rfl) ?_
  refine .sA (.loadAgg rfl ag_61 rfl rfl) ?_
  refine .alloc 101 rfl rfl rfl rfl zt_61 rfl rfl rfl ?_
  refine .aA ?_
  refine .store rfl rfl rfl sz_61 rfl (.head _) rfl rfl rfl (Nat.le_of_ble_eq_true rfl) ?_
  refine .freezeCells 4 (ds := c.things[k].ds) rfl (.head _) (.nil ?_)
  refine .seq ?_
  refine .sr ?_
  refine .sA (.fieldAddr rfl fo_61_0 rfl) ?_
  refine .sA (.load rfl sc_3 rfl) ?_
  refine .sA (.call rfl (.cons (.rfl' rfl) (.cons (.rfl' rfl) (.cons (.rfl' rfl) .nil))) (c_rIn _ _ _)) ?_
  refine .sA (.not rfl rfl) (.nil ?_)
  refine .cond rfl (fun h4 => ?_) (fun h4 => ?_)
  ·replace h4 := bnot_t h4; replace h4 := of_decide_eq_false h4
   refine .sr ?_
   refine .aA (.nil ?_)
   refine .ret ?_
   refine ⟨RetD.eq rfl ?_, trivial⟩
   all_goals (first | rfl | first | rw [HR] | rw [chk_t hL hlt hk.2 (show thF c.things k = 1 from by unfold thF; rw [dif_pos hlt]; (first | (exfalso; omega) | ((repeat (first | rw [if_pos (by first | assumption | omega)] | rw [if_neg (by first | assumption | omega)])); first | done | rfl | omega | decide))) (by decide)] | rw [chk_t hL hlt hk.2 (show thF c.things k = 8 from by unfold thF; rw [dif_pos hlt]; (first | (exfalso; omega) | ((repeat (first | rw [if_pos (by first | assumption | omega)] | rw [if_neg (by first | assumption | omega)])); first | done | rfl | omega | decide))) (by decide)])
  replace h4 := bnot_f h4; replace h4 := of_decide_eq_true h4
  refine .skip ?_
  refine .seq ?_
  refine .seq ?_
  refine .draw (by kernel_rfl) (by kernel_rfl) ?_
  refine .sA (.moveD rfl rfl) ?_
  refine .sA (.gtr rfl rfl rfl) ?_
  refine .sA (.moveD rfl rfl) ?_
  refine .split 32 rfl (fun g5 => ?_) (fun g5 => ?_)
  ·replace g5 := of_decide_eq_true g5
   have hk0 : 0 < k := by omega
   refine .sG (.fieldAddr rfl fo_61_0 rfl) ?_
   refine .sG (.load rfl sc_3 rfl) ?_
   refine .sG (.fieldAddr rfl fo_25_0 rfl) ?_
   refine .sG (.load rfl sc_22 rfl) ?_
   refine .sG (.moveD rfl rfl) ?_
   refine .sG (.sub64 rfl rfl rfl (by omega) (by omega)) ?_
   refine .sG (.indexAddr rfl et_22 rfl rfl (k - 1) (by omega) (at_lst (by omega)) rfl) ?_
   refine .sG (.fieldAddr rfl fo_61_0 rfl) ?_
   refine .sG (.load rfl sc_3 rfl) ?_
   refine .sG (.leq rfl rfl rfl) ?_
   refine .sA (.pickT rfl rfl rfl) ?_
   refine .nil ?_
   refine .cond rfl (fun h6 => ?_) (fun h6 => ?_)
   ·replace h6 := of_decide_eq_true h6
    refine .sr ?_
    refine .aA (.nil ?_)
    refine .ret ?_
    refine ⟨RetD.eq rfl ?_, trivial⟩
    all_goals (first | rfl | first | rw [HR] | rw [chk_t hL hlt hk.2 (show thF c.things k = 1 from by unfold thF; rw [dif_pos hlt]; (first | (exfalso; omega) | ((repeat (first | rw [if_pos (by first | assumption | omega)] | rw [if_neg (by first | assumption | omega)])); first | done | rfl | omega | decide))) (by decide)] | rw [chk_t hL hlt hk.2 (show thF c.things k = 8 from by unfold thF; rw [dif_pos hlt]; (first | (exfalso; omega) | ((repeat (first | rw [if_pos (by first | assumption | omega)] | rw [if_neg (by first | assumption | omega)])); first | done | rfl | omega | decide))) (by decide)])
   replace h6 := of_decide_eq_false h6
   refine .skip ?_
   refine .sr ?_
   refine .sA (.loadAgg rfl ag_61 rfl rfl) ?_
   -- wants the world
   refine .callT rfl rfl rfl hT maxT_stays rfl (.cons (.rfl' rfl) .nil) (c_rThg _ hbk) ?_
   refine .aA (.nil ?_)
   refine .sr ?_
   refine .mA ?_
   refine .sA (.neq rfl rfl rfl) (.nil ?_)
   refine .cond rfl (fun h7 => ?_) (fun h7 => ?_)
   ·replace h7 := of_decide_eq_true h7
    have HT : chkF c = thgF c.things[k] := chk_t hL hlt hk.2 (show thF c.things k = _ from by unfold thF; rw [dif_pos hlt]; (first | (exfalso; omega) | ((repeat (first | rw [if_pos (by first | assumption | omega)] | rw [if_neg (by first | assumption | omega)])); first | done | rfl | omega | decide))) h7
    rw [HT]
    refine .sr ?_
    refine .mA ?_
    refine .aA (.nil ?_)
    refine .ret ?_
    refine ⟨RetD.eq rfl ?_, trivial⟩
    all_goals (first | rfl | first | rw [HR] | rw [chk_t hL hlt hk.2 (show thF c.things k = 1 from by unfold thF; rw [dif_pos hlt]; (first | (exfalso; omega) | ((repeat (first | rw [if_pos (by first | assumption | omega)] | rw [if_neg (by first | assumption | omega)])); first | done | rfl | omega | decide))) (by decide)] | rw [chk_t hL hlt hk.2 (show thF c.things k = 8 from by unfold thF; rw [dif_pos hlt]; (first | (exfalso; omega) | ((repeat (first | rw [if_pos (by first | assumption | omega)] | rw [if_neg (by first | assumption | omega)])); first | done | rfl | omega | decide))) (by decide)])
   replace h7 := of_decide_eq_false h7
   refine .skip ?_
   refine .region ?_
   refine .sA (.add64 rfl rfl rfl (by omega) (by omega)) ?_
   refine .mA (.nil ?_)
   refine ⟨k + 1, ⟨by omega, ffst_next hk.2 (show thF c.things k = 0 from by unfold thF; rw [dif_pos hlt]; (first | (exfalso; omega) | ((repeat (first | rw [if_pos (by first | assumption | omega)] | rw [if_neg (by first | assumption | omega)])); first | done | rfl | omega | decide)))⟩, (by dsimp only; omega), Sub.less ⟨(SLe.of_eq rfl), SLe.refl _, SLe.refl _, SLe.refl _, trivial⟩ (fun _ h => h)⟩
  replace g5 := of_decide_eq_false g5
  refine .pA ?_
  refine .pA ?_
  refine .pA ?_
  refine .pA ?_
  refine .pA ?_
  refine .pA ?_
  refine .pA ?_
  refine .pA ?_
  refine .pA ?_
  refine .pA ?_
  refine .sA (.pickF rfl rfl rfl) ?_
  refine .nil ?_
  refine .cond rfl (fun h => nomatch h) (fun _ => ?_)
  refine .skip ?_
  refine .sr ?_
  refine .sA (.loadAgg rfl ag_61 rfl rfl) ?_
  -- wants the world
  refine .callT rfl rfl rfl hT maxT_stays rfl (.cons (.rfl' rfl) .nil) (c_rThg _ hbk) ?_
  refine .aA (.nil ?_)
  refine .sr ?_
  refine .mA ?_
  refine .sA (.neq rfl rfl rfl) (.nil ?_)
  refine .cond rfl (fun h8 => ?_) (fun h8 => ?_)
  ·replace h8 := of_decide_eq_true h8
   have HT : chkF c = thgF c.things[k] := chk_t hL hlt hk.2 (show thF c.things k = _ from by unfold thF; rw [dif_pos hlt]; (first | (exfalso; omega) | ((repeat (first | rw [if_pos (by first | assumption | omega)] | rw [if_neg (by first | assumption | omega)])); first | done | rfl | omega | decide))) h8
   rw [HT]
   refine .sr ?_
   refine .mA ?_
   refine .aA (.nil ?_)
   refine .ret ?_
   refine ⟨RetD.eq rfl ?_, trivial⟩
   all_goals (first | rfl | first | rw [HR] | rw [chk_t hL hlt hk.2 (show thF c.things k = 1 from by unfold thF; rw [dif_pos hlt]; (first | (exfalso; omega) | ((repeat (first | rw [if_pos (by first | assumption | omega)] | rw [if_neg (by first | assumption | omega)])); first | done | rfl | omega | decide))) (by decide)] | rw [chk_t hL hlt hk.2 (show thF c.things k = 8 from by unfold thF; rw [dif_pos hlt]; (first | (exfalso; omega) | ((repeat (first | rw [if_pos (by first | assumption | omega)] | rw [if_neg (by first | assumption | omega)])); first | done | rfl | omega | decide))) (by decide)])
  replace h8 := of_decide_eq_false h8
  refine .skip ?_
  refine .region ?_
  refine .sA (.add64 rfl rfl rfl (by omega) (by omega)) ?_
  refine .mA (.nil ?_)
  refine ⟨k + 1, ⟨by omega, ffst_next hk.2 (show thF c.things k = 0 from by unfold thF; rw [dif_pos hlt]; (first | (exfalso; omega) | ((repeat (first | rw [if_pos (by first | assumption | omega)] | rw [if_neg (by first | assumption | omega)])); first | done | rfl | omega | decide)))⟩, (by dsimp only; omega), Sub.less ⟨(SLe.of_eq rfl), SLe.refl _, SLe.refl _, SLe.refl _, trivial⟩ (fun _ h => h)⟩
 replace h3 := of_decide_eq_false h3
 rw [List.length_map] at h3
 obtain rfl : k = c.things.length := by omega
 have HF1 := hk.2
 have hr := risT_of HF1
 refine .exit ?_
 refine .seq ?_
 refine .sr ?_
 refine .sA (.fieldAddr rfl fo_25_0 rfl) ?_
 refine .sA (.load rfl sc_22 rfl) ?_
 refine .sA (.lenSl rfl et_22.ht rfl) ?_
 refine .mA (.nil ?_)
 refine .block ?_
 refine .loop (G := Nat) (fun k => Env.of [(53, .d (.v (.int .i64 (k : Int)))), (52, .d (.v (.int .i64 ((c.things.map Thg.ds).length : Int)))), (1, .d (.fp c.ds))]) (fun k => []) (fun k => k ≤ c.things.length ∧ ffst (lkF c.things) k = 0) (fun k => c.things.length - k) 0 ⟨Nat.zero_le _, rfl⟩ (Sub.less ⟨(SLe.of_eq rfl), SLe.refl _, SLe.refl _, trivial⟩ (fun _ h => h)) ?_
 intro k hk
 refine .sr ?_
 refine .sA (.lss rfl rfl rfl) (.nil ?_)
 refine .seq ?_
 refine .cond rfl (fun h9 => ?_) (fun h9 => ?_)
 ·replace h9 := of_decide_eq_true h9
  rw [List.length_map] at h9
  have hlt : k < c.things.length := by omega
  have hbk := hc.things _ (List.getElem_mem hlt)
  refine .skip ?_
  refine .seq ?_
  refine .block ?_
  refine .sr ?_
  refine .mA ?_
  refine .aA (.nil ?_)
  refine .sr ?_
  refine .sA (.loadAgg rfl ag_25 rfl rfl) ?_
  refine .mA ?_
  refine .sA (.call rfl (.cons (.rfl' rfl) (.cons (.rfl' rfl) .nil)) (c_rLink c k hLim hr hlt (parts_of HF1 hlt))) ?_
  refine .aA (.nil ?_)
  refine .sr ?_
  refine .mA ?_
  refine .sA (.neq rfl rfl rfl) (.nil ?_)
  refine .cond rfl (fun h10 => ?_) (fun h10 => ?_)
  ·replace h10 := of_decide_eq_true h10
   have HT : chkF c = lkF c.things k := chk_l hL HF1 hlt hk.2 rfl h10
   rw [HT]
   refine .sr ?_
   refine .mA ?_
   refine .aA (.nil ?_)
   refine .ret ?_
   refine ⟨RetD.eq rfl ?_, trivial⟩
   all_goals (first | rfl | first | rw [HR] | rw [chk_t hL hlt hk.2 (show thF c.things k = 1 from by unfold thF; rw [dif_pos hlt]; (first | (exfalso; omega) | ((repeat (first | rw [if_pos (by first | assumption | omega)] | rw [if_neg (by first | assumption | omega)])); first | done | rfl | omega | decide))) (by decide)] | rw [chk_t hL hlt hk.2 (show thF c.things k = 8 from by unfold thF; rw [dif_pos hlt]; (first | (exfalso; omega) | ((repeat (first | rw [if_pos (by first | assumption | omega)] | rw [if_neg (by first | assumption | omega)])); first | done | rfl | omega | decide))) (by decide)])
  replace h10 := of_decide_eq_false h10
  have n0 : lkF c.things k = 0 := by omega
  refine .skip ?_
  refine .region ?_
  refine .sA (.add64 rfl rfl rfl (by omega) (by omega)) ?_
  refine .mA (.nil ?_)
  refine ⟨k + 1, ⟨by omega, ffst_next hk.2 n0⟩, (by dsimp only; omega), Sub.less ⟨(SLe.of_eq rfl), SLe.refl _, SLe.refl _, trivial⟩ (fun _ h => h)⟩
 replace h9 := of_decide_eq_false h9
 rw [List.length_map] at h9
 obtain rfl : k = c.things.length := by omega
 have HR : chkF c = mvdF c := chk_m hL HF1 hk.2
 refine .exit ?_
 refine .sr ?_
 refine .sA (.loadAgg rfl ag_25 rfl rfl) ?_
 refine .sA (.call rfl (.cons (.rfl' rfl) .nil) (c_rMvd c hLim hc hr)) ?_
 refine .aA (.nil ?_)
 refine .ret ?_
 refine ⟨RetD.eq rfl ?_, trivial⟩
 all_goals (first | rfl | first | rw [HR] | rw [chk_t hL hlt hk.2 (show thF c.things k = 1 from by unfold thF; rw [dif_pos hlt]; (first | (exfalso; omega) | ((repeat (first | rw [if_pos (by first | assumption | omega)] | rw [if_neg (by first | assumption | omega)])); first | done | rfl | omega | decide))) (by decide)] | rw [chk_t hL hlt hk.2 (show thF c.things k = 8 from by unfold thF; rw [dif_pos hlt]; (first | (exfalso; omega) | ((repeat (first | rw [if_pos (by first | assumption | omega)] | rw [if_neg (by first | assumption | omega)])); first | done | rfl | omega | decide))) (by decide)])

end Go.Proofs.YthcdjmkkgbcaaaaGreatDoor

namespace Go.Proofs.YthcdjmkkgbcaaaaGreatDoor
open Go.RowKit Go.Shelf Go.Lib
set_option linter.unusedVariables false
set_option linter.unusedSimpArgs false

/-- What the builder's first cell holds: nothing has been written, or its own address. -/
def bP (l : List UInt8) (id : Nat) : S := match l with
  | [] => .d (.v (.pointer none))
  | _ :: _ => .ptr id 0
/-- A builder that holds l: its two cells, its bytes. -/
def Bld (id r : Nat) (l : List UInt8) : Obs := [(id, .cellsT 59 [bP l id, .own r]), (r, .row 5 1 (l.map u8D))]
theorem cellB_turn (g o : Nat) (v : Value) (w : World) : Turn w (w.setCell ⟨g, o, none⟩ v) (some g) := by
  refine ⟨rfl, rfl, rfl, by simp [World.setCell], fun k _ hk => ?_⟩
  have : g ≠ k := fun h => hk (by rw [h])
  simp [World.setCell, Array.getElem?_modify, this]
theorem flat_bytes {xs : Nat → Nat → Value} {l : List UInt8} (h : ∀ i (h : i < l.length), xs i 0 = .int .u8 (l[i].toNat : Int)) : flat xs l.length 1 = byteCells l := by
  apply List.ext_getElem?
  intro p
  by_cases hp : p < l.length
  · have := flatten_get xs 1 l.length p 0 hp (by omega)
    rw [Nat.mul_one, Nat.add_zero] at this
    unfold flat
    rw [this, h p hp, byteCells, List.getElem?_map, List.getElem?_eq_getElem hp]; rfl
  · rw [List.getElem?_eq_none (by rw [flat_length]; omega), List.getElem?_eq_none (by rw [byteCells_length]; omega)]
/-- What the objects say of the world. -/
structure BldW (B : Nat) (F : Nat → Prop) (ρ : Nat → Value) (w : World) (id r : Nat) (l : List UInt8) (g : Nat) : Prop where
  ptr : ρ id = .pointer (some ⟨g, 0, none⟩)
  hB : B ≤ g
  nF : ¬ F g
  heap : w.heap[g]? = some (.cells #[if l = [] then .pointer none else .pointer (some ⟨g, 0, none⟩), ρ r] 59 (0, 0))
  own : w.ownsRow B 5 1 (ρ r) l.length (byteCells l)
  ne : blk (ρ r) ≠ some g
  nFr : ∀ b, blk (ρ r) = some b → ¬ F b
theorem bldW_of {B : Nat} {F : Nat → Prop} {ρ : Nat → Value} {w : World} {id r : Nat} {l : List UInt8} (hne : id ≠ r) (h : ObsOk B F ρ w (Bld id r l)) : ∃ g, BldW B F ρ w id r l g := by
  obtain ⟨g, cs, hρ, hBg, hF, hh, hcl, hcs⟩ := h.ok (id, _) (.head _)
  obtain ⟨xs, hown, hlen, hrep, hnF⟩ := h.ok (r, _) (.tail _ (.head _))
  dsimp only at hρ hown hnF
  obtain ⟨p, v, rfl⟩ : ∃ p v, cs = [p, v] := by
    match cs, hcl with
    | [p, v], _ => exact ⟨p, v, rfl⟩
  have h0 := (hcs 0 (by simp) (by simp)).2
  have h1 := (hcs 1 (by simp) (by simp)).2
  simp only [List.getElem_cons_zero, List.getElem_cons_succ] at h0 h1
  have hv : v = ρ r := by cases h1; rfl
  have hp : p = if l = [] then .pointer none else .pointer (some ⟨g, 0, none⟩) := by
    cases l with
    | nil => exact repS_v h0
    | cons x t => exact ptr_at h0 (by rw [hρ]; rfl)
  subst hv
  have hll : (l.map u8D).length = l.length := List.length_map ..
  rw [hll] at hown
  have hfl : flat xs l.length 1 = byteCells l := flat_bytes fun i hi => by
    have := (hrep i (by rw [hll]; exact hi) 0 (by simp [u8D])).2
    simp only [List.getElem_map, u8D, List.getElem_cons_zero] at this
    exact rep_v this
  refine ⟨g, hρ, hBg, hF, by rw [hh, hp], by rw [← hfl]; exact hown, fun he => ?_, hnF⟩
  exact h.apart (id, _) (.head _) (r, _) (.tail _ (.head _)) hne g (by dsimp only; rw [hρ]; rfl) he
theorem BldW.obs {B : Nat} {F : Nat → Prop} {ρ : Nat → Value} {w : World} {id r : Nat} {l : List UInt8} {g : Nat} (hne : id ≠ r) (h : BldW B F ρ w id r l g) : ObsOk B F ρ w (Bld id r l) := by
  have hll : (l.map u8D).length = l.length := List.length_map ..
  refine ⟨fun p hp => ?_, fun p hp q hq hpq b hb hb2 => ?_, fun p hp q hq hpq => ?_⟩
  · rcases List.mem_cons.1 hp with rfl | hp
    · refine ⟨g, [_, _], h.ptr, h.hB, h.nF, h.heap, rfl, fun j hj hj' => ?_⟩
      match j, hj with
      | 0, _ =>
        refine ⟨?_, ?_⟩
        · cases l <;> rfl
        · cases l with
          | nil => exact .d (.v _)
          | cons x t => exact .ptr id 0 g (by rw [h.ptr]; rfl)
      | 1, _ => exact ⟨by
          rcases h.own.2 with ⟨h2, _⟩ | ⟨_, _, _, h2, _⟩ <;> (show (ρ r).oneCell' = true; rw [h2]; rfl), .own r⟩
    · obtain rfl := List.mem_singleton.1 hp
      refine ⟨fun i _ => .int .u8 ((l.getD i 0).toNat : Int), ?_, fun i hi => by simp [u8D], fun i hi j hj => ?_, h.nFr⟩
      · rw [hll]
        have : flat (fun i _ => Value.int .u8 ((l.getD i 0).toNat : Int)) l.length 1 = byteCells l := flat_bytes fun i hi => by rw [List.getD_eq_getElem?_getD, List.getElem?_eq_getElem hi]; rfl
        show w.ownsRow B _ 1 (ρ r) l.length (flat _ l.length 1)
        rw [this]
        exact h.own
      · have hi' : i < l.length := by rw [← hll]; exact hi
        have hj0 : j = 0 := by
          have : j < 1 := by simpa [u8D] using hj
          omega
        subst hj0
        refine ⟨rfl, ?_⟩
        simp only [List.getElem_map, u8D, List.getElem_cons_zero]
        rw [List.getD_eq_getElem?_getD, List.getElem?_eq_getElem hi']
        exact .v _
  · rcases List.mem_cons.1 hp with rfl | hp <;> rcases List.mem_cons.1 hq with rfl | hq
    · exact hpq rfl
    · obtain rfl := List.mem_singleton.1 hq
      dsimp only at hb hb2
      rw [h.ptr] at hb
      have : b = g := by simp [blk] at hb; omega
      exact h.ne (this ▸ hb2)
    · obtain rfl := List.mem_singleton.1 hp
      dsimp only at hb hb2
      rw [h.ptr] at hb2
      have : b = g := by simp [blk] at hb2; omega
      exact h.ne (this ▸ hb)
    · obtain rfl := List.mem_singleton.1 hp
      obtain rfl := List.mem_singleton.1 hq
      exact hpq rfl
  · rcases List.mem_cons.1 hp with rfl | hp <;> rcases List.mem_cons.1 hq with rfl | hq
    · rfl
    · obtain rfl := List.mem_singleton.1 hq
      exact absurd hpq hne
    · obtain rfl := List.mem_singleton.1 hp
      exact absurd hpq.symm hne
    · obtain rfl := List.mem_singleton.1 hp
      obtain rfl := List.mem_singleton.1 hq
      rfl
/-! ## The library's code, in whatever world -/
theorem bldSz : (Tryz.prog.info? 59).map (·.size) = some 2 := by kernel_rfl
theorem ptrB : Tryz.prog.underlying 56 = some (.pointer 59) := by kernel_rfl
theorem unsP : Tryz.prog.underlying 140 = some .unsafePointer := by kernel_rfl
theorem sliB : Tryz.prog.underlying 57 = some (.slice 5) := by kernel_rfl
theorem strB : Tryz.prog.underlying 9 = some .string := by kernel_rfl
theorem infB : (Tryz.prog.info? 5).map (fun i => (i.zero, i.size, i.bytes)) = some (some (.int .u8 0), 1, 1) := by kernel_rfl
set_option maxHeartbeats 1000000 in
set_option maxRecDepth 100000 in
theorem copyUsed (b : Nat) (w : World) (h0 : w.cell? ⟨b, 0, none⟩ = some (.pointer (some ⟨b, 0, none⟩))) :
    Calls Tryz.prog 70 #[.pointer (some ⟨b, 0, none⟩)] w fun e w' => e = .returned (.tuple #[]) ∧ w' = w := by
  obtain ⟨j, hj, _⟩ := Option.map_eq_some_iff.1 bldSz
  go_enter Tryz.func70, Tryz.ntmps70
  go_wp2
  rw [Lib.run_neq_ptr_same w _ ptrB hj]
  go_wp2
  go_end0
  exact ⟨rfl, rfl⟩
set_option maxHeartbeats 1000000 in
set_option maxRecDepth 100000 in
theorem copyFresh (b : Nat) (w : World) (h0 : w.cell? ⟨b, 0, none⟩ = some (.pointer none)) (hsh : w.shape? b = some (59, 2)) (hfz : w.frozen? ⟨b, 0, none⟩ = false) :
    Calls Tryz.prog 70 #[.pointer (some ⟨b, 0, none⟩)] w fun e w' => e = .returned (.tuple #[]) ∧ w' = w.setCell ⟨b, 0, none⟩ (.pointer (some ⟨b, 0, none⟩)) := by
  obtain ⟨j, hj, hjs⟩ := Option.map_eq_some_iff.1 bldSz
  go_enter Tryz.func70, Tryz.ntmps70
  go_wp2
  rw [Lib.run_to_unsafe w ⟨b, 0, none⟩ ptrB unsP hj (by rw [hjs]; decide) hsh (Nat.zero_lt_succ 1)]
  simp only [Result.andThen]
  rw [Oper.upon_value]
  go_wp2
  rw [run_callFunc_extern Tryz.func104 (by kernel_rfl) (by kernel_rfl) (by kernel_rfl) (e := Extern.AbiNoEscape.same) (by kernel_rfl)]
  rw [Lib.run_noEscape]
  simp only [Result.andThen]
  rw [Oper.upon_value]
  go_wp2
  rw [Lib.run_from_unsafe w ⟨b, 0, none⟩ unsP ptrB hj hsh (by kernel_rfl)]
  simp only [Result.andThen]
  rw [Oper.upon_value]
  go_wp2
  go_end0
  exact ⟨rfl, rfl⟩
/-- append(b, s...) at what the call owns: the buffer stays, or is new. -/
theorem append_str_run {P : Program} (w : World) (base : Nat) (t u ty e : TypeId) (i : TypeInfo) (ht : P.underlying t = some (.slice e)) (hu : P.underlying u = some .string) (hi : P.info? e = some i) (hz : i.zero = some (.int .u8 0)) (hsize : i.size = 1) (hby : i.bytes = 1)
    (v : Value) (n : Nat) (xs : List Value) (hown : w.ownsRow base e 1 v n xs) (s : ByteArray) (hbytes : n + s.size ≤ 140737488355328) (hbase : base ≤ w.heap.size) :
    ∃ v' w', (Builtin.append_ #[t, u] ty #[v, .string s]).run P w = .ok v' w' ∧ w'.ownsRow base e 1 v' (n + s.size) (xs ++ strCells s) ∧ w.grownBy w' v.ownBlock ∧ (v'.ownBlock = v.ownBlock ∨ ∃ g, v'.ownBlock = some g ∧ w.heap.size ≤ g) := by
  have h63 : n + s.size ≤ maxLen := by unfold maxLen; omega
  obtain ⟨v', w', hr, h2, h3, h4⟩ := run_append_own_string (P := P) w base t u ty e i ht hu hi hz hsize hby v n xs hown s h63 hbytes hbase
  refine ⟨v', w', hr, h2, h3, ?_⟩
  have hxl : xs.length = n := by simpa using hown.1
  rcases hown.2 with ⟨rfl, rfl⟩ | ⟨g, cap, cur, rfl, hbg, hg, hnc, hcm, hcs, htake⟩
  · by_cases hm : s.size = 0
    · exact .inl (by rw [h4.2 ⟨rfl, hm⟩])
    · have hown2 : w.ownsRow w.heap.size e 1 (.slice none 0 0) 0 xs := ⟨hown.1, .inl ⟨rfl, rfl⟩⟩
      obtain ⟨v2, w2, hr2, h5, _, h6⟩ := run_append_own_string (P := P) w w.heap.size t u ty e i ht hu hi hz hsize hby _ 0 xs hown2 s h63 hbytes (Nat.le_refl _)
      rw [hr] at hr2
      injection hr2 with e1 e2
      subst e1
      rcases h5.2 with ⟨h7, _⟩ | ⟨g, cap, cur, h7, h8, _⟩
      · exact absurd (h4.1 h7).2 hm
      · exact .inr ⟨g, by rw [h7]; rfl, h8⟩
  · by_cases hroom : n + s.size ≤ cap
    · have hr2 := run_append_room_string (P := P) w t u ty e i ht hu hi hsize g n cap cur hg s hroom (by omega)
      rw [hr] at hr2
      injection hr2 with e1 e2
      exact .inl (by rw [e1]; rfl)
    · have holds : ∀ j u, xs[j]? = some u → w.cell? ((⟨g, 0, none⟩ : Addr).add j) = some u := hown.cells (g := g) rfl
      have hr2 := run_append_grow_string (P := P) w t u ty e i (.int .u8 0) ht hu hi hz ⟨g, 0, none⟩ n cap xs (by rw [hsize]; simpa using hxl) holds s (by omega) (by omega) (by rw [hby]; exact growslice_fits (by omega) (by omega))
      rw [hr] at hr2
      injection hr2 with e1 e2
      exact .inr ⟨w.heap.size, by rw [e1]; rfl, Nat.le_refl _⟩
theorem wpList_append_str {P : Program} (w : World) {ops : Array Oper} {rest : List Oper} {o : Oper} {a : Act} {Q : Exit → Act → World → Prop} (hgd : o.guard = none) (sl x : Operand) (t u : TypeId)
    (ho : o.op = .call { callee := .builtin .append, args := #[sl, x], argTypes := #[t, u] })
    (base : Nat) (e : TypeId) (i : TypeInfo) (ht : P.underlying t = some (.slice e)) (hu : P.underlying u = some .string) (hi : P.info? e = some i) (hz : i.zero = some (.int .u8 0)) (hsize : i.size = 1) (hby : i.bytes = 1)
    (v : Value) (n : Nat) (xs : List Value) (hs : a.eval sl = v) (hown : w.ownsRow base e 1 v n xs) (s : ByteArray) (hx : a.eval x = .string s) (hbytes : n + s.size ≤ 140737488355328) (hbase : base ≤ w.heap.size)
    (h : ∀ v' w', w'.ownsRow base e 1 v' (n + s.size) (xs ++ strCells s) → w.grownBy w' v.ownBlock → (v'.ownBlock = v.ownBlock ∨ ∃ g, v'.ownBlock = some g ∧ w.heap.size ≤ g) → wpList P ops Q rest (a.put o.dst v') w') : wpList P ops Q (o :: rest) a w := by
  refine wpList_plain hgd fun K hK => ?_
  obtain ⟨v', w', hr, h2, h3, h4⟩ := append_str_run (P := P) w base t u o.type e i ht hu hi hz hsize hby v n xs hown s hbytes hbase
  unfold Oper.wp execOp
  simp only [ho, resolve, invoke, builtin, Sem.run_bind, Sem.run_pure, Result.andThen_ok, List.map_toArray, List.map_cons, List.map_nil, hs, hx, hr]
  exact hK _ _ (h v' w' h2 h3 h4)
theorem own_blk {w : World} {B e size n : Nat} {v : Value} {xs : List Value} (h : w.ownsRow B e size v n xs) : v.ownBlock = blk v := by
  rcases h.2 with ⟨rfl, _⟩ | ⟨g, cap, cur, rfl, _⟩ <;> rfl
set_option maxHeartbeats 2000000 in
set_option maxRecDepth 100000 in
/-- WriteString at a builder that holds so many bytes: its own blocks alone turn. -/
theorem writeStr (B b : Nat) (v : Value) (n : Nat) (bs : List Value) (p : Value) (s : ByteArray) (w : World) (hp : p = .pointer none ∨ p = .pointer (some ⟨b, 0, none⟩)) (hbk : w.heap[b]? = some (.cells #[p, v] 59 (0, 0))) (hown : w.ownsRow B 5 1 v n bs) (hne : blk v ≠ some b) (hlen : n + s.size ≤ 140737488355328) (hBw : B ≤ w.heap.size) :
    Calls Tryz.prog 27 #[.pointer (some ⟨b, 0, none⟩), .string s] w fun e w' => e = .returned (.tuple #[.int .i64 s.size, .nilIface]) ∧ ∃ v', w'.heap[b]? = some (.cells #[.pointer (some ⟨b, 0, none⟩), v'] 59 (0, 0)) ∧ w'.ownsRow B 5 1 v' (n + s.size) (bs ++ strCells s) ∧
      (blk v' = blk v ∨ ∃ g, blk v' = some g ∧ w.heap.size ≤ g) ∧ w'.os = w.os ∧ w'.tape = w.tape ∧ w'.output = w.output ∧ w.heap.size ≤ w'.heap.size ∧ ∀ k, k < w.heap.size → k ≠ b → blk v ≠ some k → w'.heap[k]? = w.heap[k]? := by
  obtain ⟨i0, hi, hii⟩ := Option.map_eq_some_iff.1 infB
  simp only [Prod.mk.injEq] at hii
  obtain ⟨hz0, hz1, hz2⟩ := hii
  have hlt : b < w.heap.size := (Array.getElem?_eq_some_iff.1 hbk).1
  have hcc : Calls Tryz.prog 70 #[.pointer (some ⟨b, 0, none⟩)] w fun e w' => e = .returned (.tuple #[]) ∧ w'.heap[b]? = some (.cells #[.pointer (some ⟨b, 0, none⟩), v] 59 (0, 0)) ∧ Turn w w' (some b) := by
    rcases hp with rfl | rfl
    · refine (copyFresh b w (by rw [cell_of_row w b 0 _ _ _ hbk]; rfl) (by unfold World.shape?; rw [hbk]; rfl) (by unfold World.frozen?; rw [hbk]; simp)).mono ?_
      rintro e w' ⟨rfl, rfl⟩
      refine ⟨rfl, ?_, cellB_turn b 0 _ w⟩
      simp [World.setCell, Array.getElem?_modify, hbk]
    · refine (copyUsed b w (by rw [cell_of_row w b 0 _ _ _ hbk]; rfl)).mono ?_
      rintro e w' ⟨rfl, rfl⟩
      exact ⟨rfl, hbk, rfl, rfl, rfl, Nat.le_refl _, fun _ _ _ => rfl⟩
  go_enter Tryz.func27, Tryz.ntmps27
  go_wp2_with (go_at_call 70; refine hcc.mono ?_)
  rintro e w1 ⟨rfl, hb1, ht1⟩
  have hown1 : w1.ownsRow B 5 1 v n bs := ownsRow_turn hown ht1 (fun g hg he => hne (by rw [hg, ← Option.some.inj he]))
  have c0 : w1.cell? ⟨b, 0, none⟩ = some (.pointer (some ⟨b, 0, none⟩)) := by rw [cell_of_row w1 b 0 _ _ _ hb1]; rfl
  have c1 : w1.cell? ⟨b, 1, none⟩ = some v := by rw [cell_of_row w1 b 1 _ _ _ hb1]; rfl
  go_wp2_with (at_builtin; refine wpList_append_str _ rfl _ _ 57 9 rfl B 5 i0 sliB strB hi hz0 hz1 hz2 _ _ _ rfl hown1 s rfl ?c4 ?c5 ?_)
  case c4 => omega
  case c5 => exact Nat.le_trans hBw ht1.size
  intro v' w2 hown' hgrow hnew
  rw [own_blk hown1] at hgrow hnew
  rw [own_blk hown'] at hnew
  have hb2 : w2.heap[b]? = some (.cells #[.pointer (some ⟨b, 0, none⟩), v] 59 (0, 0)) := by
    rw [hgrow.block b (Nat.lt_of_lt_of_le hlt ht1.size) (fun e => hne e.symm)]
    exact hb1
  have d0 : w2.cell? ⟨b, 0, none⟩ = some (.pointer (some ⟨b, 0, none⟩)) := by rw [cell_of_row w2 b 0 _ _ _ hb2]; rfl
  have d1 : w2.cell? ⟨b, 1, none⟩ = some v := by rw [cell_of_row w2 b 1 _ _ _ hb2]; rfl
  have f1 : w2.frozen? ⟨b, 1, none⟩ = false := by unfold World.frozen?; rw [hb2]; simp
  obtain ⟨ao, n', cap, rfl⟩ : ∃ ao n' cap, v' = .slice ao n' cap := by
    rcases hown'.2 with ⟨hv, _⟩ | ⟨g, cap, cur, hv, _⟩
    · exact ⟨_, _, _, hv⟩
    · exact ⟨_, _, _, hv⟩
  have hnb : blk (.slice ao n' cap) ≠ some b := by
    rcases hnew with h | ⟨g, h, h2⟩
    · rw [h]; exact hne
    · rw [h]
      intro he
      have := Option.some.inj he
      have := ht1.size
      omega
  go_wp2
  go_ret2
  have ht2 := cellB_turn b 1 (.slice ao n' cap) w2
  refine ⟨rfl, .slice ao n' cap, ?_, ?_, ?_, ?_⟩
  · simp [World.setCell, Array.getElem?_modify, hb2]
  · exact ownsRow_turn hown' ht2 (fun g hg he => hnb (by rw [hg, ← Option.some.inj he]))
  · rcases hnew with h | ⟨g, h, h2⟩
    · exact .inl h
    · exact .inr ⟨g, h, Nat.le_trans ht1.size h2⟩
  · refine ⟨ht2.os.trans (hgrow.os.trans ht1.os), ht2.tape.trans (hgrow.tape.trans ht1.tape), ht2.output.trans (hgrow.output.trans ht1.output), Nat.le_trans ht1.size (Nat.le_trans hgrow.size ht2.size), fun k hk hkb hkv => ?_⟩
    have hk1 := Nat.lt_of_lt_of_le hk ht1.size
    rw [ht2.block k (Nat.lt_of_lt_of_le hk1 hgrow.size) (fun e => hkb (by have := Option.some.inj e; omega)), hgrow.block k hk1 (fun e => hkv e.symm), ht1.block k hk (fun e => hkb (by have := Option.some.inj e; omega))]
end Go.Proofs.YthcdjmkkgbcaaaaGreatDoor

namespace Go.Proofs
open Go.Shelf
def Tryz.l169_ren : Go.Shelf.Ren := ⟨fun | 169 => 32 | n => n, fun | 70 => 56 | 9 => 9 | 0 => 0 | 72 => 59 | 37 => 57 | 127 => 115 | 3 => 3 | 5 => 5 | n => n, fun | n => n⟩
def Tryz.l171_ren : Go.Shelf.Ren := ⟨fun | 171 => 26 | 243 => 69 | 246 => 103 | 283 => 148 | 284 => 149 | 285 => 150 | 286 => 151 | 129 => 117 | 317 => 179 | 318 => 180 | 319 => 181 | 320 => 182 | 337 => 194 | 338 => 195 | n => n, fun | 3 => 3 | 9 => 9 | 2 => 2 | 4 => 4 | 171 => 171 | 0 => 0 | 53 => 157 | 37 => 57 | 5 => 5 | 173 => 173 | 212 => 210 | 51 => 145 | 20 => 20 | 213 => 211 | 46 => 122 | 232 => 234 | 233 => 235 | n => n, fun | 17 => 3 | 18 => 8 | 19 => 9 | n => n⟩
theorem Tryz.l171 : Go.Proofs.LaysM.n171 Tryz.prog Tryz.l171_ren := {
  mixed := by kernel_rfl
  f129 := Tryz.func117.trans (congrArg some (by kernel_rfl))
  f171 := Tryz.func26.trans (congrArg some (by kernel_rfl))
  f243 := Tryz.func69.trans (congrArg some (by kernel_rfl))
  f246 := Tryz.func103.trans (congrArg some (by kernel_rfl))
  f283 := Tryz.func148.trans (congrArg some (by kernel_rfl))
  f284 := Tryz.func149.trans (congrArg some (by kernel_rfl))
  f285 := Tryz.func150.trans (congrArg some (by kernel_rfl))
  f286 := Tryz.func151.trans (congrArg some (by kernel_rfl))
  f317 := Tryz.func179.trans (congrArg some (by kernel_rfl))
  f318 := Tryz.func180.trans (congrArg some (by kernel_rfl))
  f319 := Tryz.func181.trans (congrArg some (by kernel_rfl))
  f320 := Tryz.func182.trans (congrArg some (by kernel_rfl))
  f337 := Tryz.func194.trans (congrArg some (by kernel_rfl))
  f338 := Tryz.func195.trans (congrArg some (by kernel_rfl))
  t0 := Tryz.underlying0
  a0 := Tryz.isAgg0
  z0 := Tryz.sizeOf0
  v0 := Tryz.zeroValue0
  t2 := Tryz.underlying2
  a2 := Tryz.isAgg2
  z2 := Tryz.sizeOf2
  v2 := Tryz.zeroValue2
  t3 := Tryz.underlying3
  a3 := Tryz.isAgg3
  z3 := Tryz.sizeOf3
  v3 := Tryz.zeroValue3
  t4 := Tryz.underlying4
  a4 := Tryz.isAgg4
  z4 := Tryz.sizeOf4
  v4 := Tryz.zeroValue4
  t5 := Tryz.underlying5
  a5 := Tryz.isAgg5
  z5 := Tryz.sizeOf5
  v5 := Tryz.zeroValue5
  t9 := Tryz.underlying9
  a9 := Tryz.isAgg9
  z9 := Tryz.sizeOf9
  v9 := Tryz.zeroValue9
  t20 := Tryz.underlying20
  a20 := Tryz.isAgg20
  z20 := Tryz.sizeOf20
  v20 := Tryz.zeroValue20
  t37 := Tryz.underlying57
  a37 := Tryz.isAgg57
  z37 := Tryz.sizeOf57
  v37 := Tryz.zeroValue57
  t46 := Tryz.underlying122
  a46 := Tryz.isAgg122
  z46 := Tryz.sizeOf122
  v46 := Tryz.zeroValue122
  t51 := Tryz.underlying145
  a51 := Tryz.isAgg145
  z51 := Tryz.sizeOf145
  v51 := Tryz.zeroValue145
  t53 := Tryz.underlying157
  a53 := Tryz.isAgg157
  z53 := Tryz.sizeOf157
  v53 := Tryz.zeroValue157
  t171 := Tryz.underlying171
  a171 := Tryz.isAgg171
  z171 := Tryz.sizeOf171
  v171 := Tryz.zeroValue171
  t173 := Tryz.underlying173
  a173 := Tryz.isAgg173
  z173 := Tryz.sizeOf173
  v173 := Tryz.zeroValue173
  t212 := Tryz.underlying210
  a212 := Tryz.isAgg210
  z212 := Tryz.sizeOf210
  v212 := Tryz.zeroValue210
  t213 := Tryz.underlying211
  a213 := Tryz.isAgg211
  z213 := Tryz.sizeOf211
  t232 := Tryz.underlying234
  a232 := Tryz.isAgg234
  z232 := Tryz.sizeOf234
  v232 := Tryz.zeroValue234
  t233 := Tryz.underlying235
  a233 := Tryz.isAgg235
  z233 := Tryz.sizeOf235
  v233 := Tryz.zeroValue235
  g17 := by kernel_rfl
  g18 := by kernel_rfl
  g19 := by kernel_rfl
  i0 := by kernel_rfl
  i2 := by kernel_rfl
  i3 := by kernel_rfl
  i4 := by kernel_rfl
  i5 := by kernel_rfl
  i9 := by kernel_rfl
  i20 := by kernel_rfl
  i37 := by kernel_rfl
  i46 := by kernel_rfl
  i51 := by kernel_rfl
  i53 := by kernel_rfl
  i171 := by kernel_rfl
  i173 := by kernel_rfl
  i212 := by kernel_rfl
  i232 := by kernel_rfl
  i233 := by kernel_rfl
  m17 := by kernel_rfl
  m18 := by kernel_rfl
  m19 := by kernel_rfl }
end Go.Proofs

namespace Go.Proofs.YthcdjmkkgbcaaaaGreatDoor
open Go.RowKit Go.Shelf Go.Lib
set_option linter.unusedVariables false
set_option linter.unusedSimpArgs false

theorem repSL_two {F : Nat → Prop} {ρ : Nat → Value} {w : World} {vs : List Value} {id : Nat} {x : Value} {g : Nat} (hρ : ρ id = .pointer (some ⟨g, 0, none⟩)) (h : RepSL F ρ w vs [.ptr id 0, .d (.v x)]) : vs = [.pointer (some ⟨g, 0, none⟩), x] := by
  obtain ⟨a, b, rfl⟩ : ∃ a b, vs = [a, b] := by
    match vs, h.1 with
    | [a, b], _ => exact ⟨a, b, rfl⟩
  have h0 := h.2 0 (by simp) (by simp)
  have h1 := h.2 1 (by simp) (by simp)
  simp only [List.getElem_cons_zero, List.getElem_cons_succ] at h0 h1
  rw [ptr_at h0 (by rw [hρ]; rfl), repS_v h1]
theorem repSL_ptr {F : Nat → Prop} {ρ : Nat → Value} {w : World} {vs : List Value} {id : Nat} {g : Nat} (hρ : ρ id = .pointer (some ⟨g, 0, none⟩)) (h : RepSL F ρ w vs [.ptr id 0]) : vs = [.pointer (some ⟨g, 0, none⟩)] := by
  obtain ⟨a, rfl⟩ : ∃ a, vs = [a] := by
    match vs, h.1 with
    | [a], _ => exact ⟨a, rfl⟩
  have h0 := h.2 0 (by simp) (by simp)
  simp only [List.getElem_cons_zero] at h0
  rw [ptr_at h0 (by rw [hρ]; rfl)]
theorem BldW.ownId {B : Nat} {F : Nat → Prop} {ρ : Nat → Value} {w : World} {id r : Nat} {l : List UInt8} {g : Nat} (h : BldW B F ρ w id r l g) : ownB (Bld id r l) ρ g := ⟨_, .head _, by dsimp only; rw [h.ptr]; rfl⟩
theorem Bld.ownR {ρ : Nat → Value} {id r : Nat} {l : List UInt8} {k : Nat} (h : blk (ρ r) = some k) : ownB (Bld id r l) ρ k := ⟨_, .tail _ (.head _), h⟩
/-- b.WriteString(s) -/
theorem c_ws (id r : Nat) (hne : id ≠ r) (l : List UInt8) (s : ByteArray) (h0 : 0 < s.size) (hlen : l.length + s.size ≤ 140737488355328) :
  XCall Tryz.prog 27 [.ptr id 0, .d (.v (.string s))] (Bld id r l) (Bld id r (l ++ s.data.toList)) (fun i => Nat.beq i r) (.tup [.v (.int .i64 (s.size : Int)), .v .nilIface]) := by
 refine ⟨.of Tryz.func27 (by kernel_rfl) rfl, fun F ρ B w vs hF hB hσ hv => ?_⟩
 obtain ⟨g, hb⟩ := bldW_of hne hσ
 obtain rfl := repSL_two hb.ptr hv
 have hgl : g < w.heap.size := (Array.getElem?_eq_some_iff.1 hb.heap).1
 have h := writeStr B g (ρ r) l.length (byteCells l) _ s w (by split; exact .inl rfl; exact .inr rfl) hb.heap hb.own hb.ne hlen hB
 refine h.mono fun e' w' ⟨he, v', h1, h2, h3, h4, h5, h6, h7, h8⟩ => ?_
 have hsl : (l ++ s.data.toList).length = l.length + s.size := by rw [List.length_append]; rfl
 have hnl : ¬ l ++ s.data.toList = [] := fun e => by rw [e] at hsl; simp at hsl; omega
 obtain ⟨ρ', hρ⟩ : ∃ ρ' : Nat → Value, ρ' = fun j => if j = r then v' else ρ j := ⟨_, rfl⟩
 have hrr : ρ' r = v' := by rw [hρ]; exact if_pos rfl
 have hri : ρ' id = ρ id := by rw [hρ]; exact if_neg hne
 have hW : BldW B F ρ' w' id r (l ++ s.data.toList) g := by
  refine ⟨by rw [hri]; exact hb.ptr, hb.hB, hb.nF, by rw [hrr, if_neg hnl]; exact h1, ?_, ?_, fun b hbb => ?_⟩
  ·rw [hrr, hsl, byteCells_append, ← strCells_eq]; exact h2
  ·rw [hrr]
   rcases h3 with h3 | ⟨k, h3, h9⟩
   ·rw [h3]; exact hb.ne
   rw [h3]
   intro e
   have := Option.some.inj e
   omega
  rw [hrr] at hbb
  rcases h3 with h3 | ⟨k, h3, h9⟩
  ·rw [h3] at hbb; exact hb.nFr b hbb
  rw [h3] at hbb
  have := Option.some.inj hbb
  intro hf
  have := hF b hf
  omega
 refine ⟨_, F, ρ', he, .tup [_, _] [_, _] rfl (fun i a b => by
  match i, a with
  | 0, _ => exact .v _
  | 1, _ => exact .v _), fun _ h => h, fun _ h => .inl h, fun b hf => Nat.lt_of_lt_of_le (hF b hf) h7, ⟨h4, h5, h6, h7, fun k hk hn => h8 k hk (fun e => hn (.inr (e ▸ hb.ownId))) (fun e => hn (.inr (Bld.ownR e)))⟩, hW.obs hne, fun p hp b hbb => ?_, fun i hi => ?_⟩
 ·rcases List.mem_cons.1 hp with rfl | hp
  ·dsimp only at hbb
   rw [hri, hb.ptr] at hbb
   simp [blk] at hbb
   subst hbb
   exact .inr hb.ownId
  obtain rfl := List.mem_singleton.1 hp
  dsimp only at hbb
  rw [hrr] at hbb
  rcases h3 with h3 | ⟨k, h3, h9⟩
  ·rw [h3] at hbb; exact .inr (Bld.ownR hbb)
  rw [h3] at hbb
  have := Option.some.inj hbb
  exact .inl (by omega)
 rw [hρ]; exact if_neg fun e => by rw [e] at hi; simp at hi
set_option maxHeartbeats 1000000 in
set_option maxRecDepth 100000 in
/-- String at a builder that holds something: its bytes are frozen. -/
theorem strOf (B b g cap : Nat) (p : Value) (l : List UInt8) (w : World) (h0 : l ≠ []) (hbk : w.heap[b]? = some (.cells #[p, .slice (some ⟨g, 0, none⟩) l.length cap] 59 (0, 0))) (cur : Array Value) (hg : w.heap[g]? = some (.cells cur 5 (0, 0))) (hnc : l.length ≤ cap) (hcm : cap ≤ maxLen) (hcs : cur.size = cap * 1)
    (hown : w.ownsRow B 5 1 (.slice (some ⟨g, 0, none⟩) l.length cap) l.length (byteCells l)) :
    Calls Tryz.prog 32 #[.pointer (some ⟨b, 0, none⟩)] w fun e w' => e = .returned (.string ⟨l.toArray⟩) ∧ w' = w.drew.freeze ⟨g, 0, none⟩ l.length := by
  have hl0 : l.length ≠ 0 := by simpa using h0
  have hmix : Tryz.prog.follows .mixedOrders = true := by kernel_rfl
  have c1 : w.drew.cell? ⟨b, 1, none⟩ = some (.slice (some ⟨g, 0, none⟩) l.length cap) := by
    rw [cell_of_row w.drew b 1 _ _ _ hbk]; rfl
  have hSD : (Builtin.unsafeSliceData_ #[57] 115 #[.slice (some ⟨g, 0, none⟩) l.length cap]).run Tryz.prog w.drew = .ok (.pointer (some ⟨g, 0, none⟩)) w.drew :=
    Lib.run_unsafeSliceData_row _ _ _ _ _ _ (by omega)
  have hUS : (Builtin.unsafeString_ #[115, 3] 9 #[.pointer (some ⟨g, 0, none⟩), .int .i64 l.length]).run Tryz.prog w.drew = .ok (.string ⟨l.toArray⟩) (w.drew.freeze ⟨g, 0, none⟩ l.length) := by
    refine Lib.run_unsafeString_row w.drew 115 3 9 5 (by kernel_rfl) (by kernel_rfl) g cur.size (by have hg' : w.drew.heap[g]? = some (.cells cur 5 (0, 0)) := hg; simp [World.shape?, hg']) l h0 (by omega) (by unfold maxLen at hcm; omega) ?_
    intro j x hx
    exact hown.cells (g := g) rfl j (.int .u8 x.toNat) (by simp [Lib.byteCells, hx])
  go_enter Tryz.func32, Tryz.ntmps32
  go_wp2
  go_region_o
  all_goals (go_wp2; go_ret; exact ⟨rfl, rfl⟩)
theorem freeze_turn (w : World) (g n : Nat) : Turn w (w.drew.freeze ⟨g, 0, none⟩ n) (some g) := by
  have hd : w.drew.heap = w.heap := rfl
  refine ⟨?_, ?_, ?_, ?_, fun k _ hk => ?_⟩
  · unfold World.freeze; split <;> rfl
  · unfold World.freeze; split <;> rfl
  · unfold World.freeze; split <;> rfl
  · unfold World.freeze; split
    · exact Nat.le_refl _
    · simp [hd]
  · have : g ≠ k := fun h => hk (by rw [h])
    unfold World.freeze; split
    · rfl
    · simp [Array.getElem?_modify, this, hd]
/-- b.String(), and the builder is used no more. -/
theorem c_bstr (id r : Nat) (hne : id ≠ r) (l : List UInt8) (h0 : l ≠ []) : XCall Tryz.prog 32 [.ptr id 0] (Bld id r l) [] (fun _ => false) (.v (.string ⟨l.toArray⟩)) := by
 refine ⟨.of Tryz.func32 (by kernel_rfl) rfl, fun F ρ B w vs hF hB hσ hv => ?_⟩
 obtain ⟨g, hb⟩ := bldW_of hne hσ
 obtain rfl := repSL_ptr hb.ptr hv
 have hbo := hb.own
 have hbh := hb.heap
 rcases hb.own.2 with ⟨_, h2⟩ | ⟨k, cap, cur, h2, h3, h4, h5, h6, h7, _⟩
 ·exact absurd (List.eq_nil_of_length_eq_zero h2) h0
 rw [h2] at hbo hbh
 refine (strOf B g k cap _ l w h0 hbh cur h4 h5 h6 h7 hbo).mono fun e' w' ⟨he, hw⟩ => ?_
 have ht : Turn w w' (some k) := hw ▸ freeze_turn w k l.length
 exact ⟨_, F, ρ, he, .v _, fun _ h => h, fun _ h => .inl h, fun b hf => Nat.lt_of_lt_of_le (hF b hf) ht.size, ⟨ht.os, ht.tape, ht.output, ht.size, fun j hj hn => ht.block j hj (fun e => hn (.inr (Bld.ownR (by rw [h2]; have := Option.some.inj e; subst this; rfl))))⟩, ⟨fun p hp => (nomatch hp), fun p hp => (nomatch hp), fun p hp => (nomatch hp)⟩, fun p hp => (nomatch hp), fun _ _ => rfl⟩
section
variable {cx : Cx} {ops : Array Oper} {o : Oper} {rest : List Oper} {e : Env} {σ : Obs} {Q : Post}
/-- var b strings.Builder -/
theorem AOps.allocB {dst : Nat} (id r : Nat) (hne : id ≠ r) (hP : cx.P = Tryz.prog) (hg : o.guard = none) (ht : o.dst = some dst) (hdn : Nat.blt dst cx.N = true) (ho : o.op = .alloc 59) (hid : Obs.fresh id σ = true) (hidr : Obs.fresh r σ = true)
    (k : AOps cx ops rest (((e.kill r).kill id).put (some dst) (.ptr id 0)) ((id, .cellsT 59 [bP [] id, .own r]) :: (r, .row 5 1 (([] : List UInt8).map u8D)) :: Obs.kill id (Obs.kill r σ)) Q) (hfx : cx.free id = true := by rfl) (hfr : cx.free r = true := by rfl) : AOps cx ops (o :: rest) e σ Q := by
  intro a w ⟨F, ρ, hr⟩
  -- the empty row
  have h1 := hr.turn (ρ' := fun j => if j = r then .slice none 0 0 else ρ j) (id := r) (ob := .row 5 1 []) (row := none) (w' := w) (F' := F) (fun j hj => by simp [hj])
    ⟨rfl, rfl, rfl, Nat.le_refl _, fun _ _ _ => rfl⟩ hfr (fun g hg => by simp at hg) (fun b hb => hb) (fun b hb => .inl hb) hr.lt
    ⟨fun _ _ => undef, by simp [World.ownsRow], fun i hi => by simp at hi, fun i hi => by simp at hi, fun g hg => by simp [blk] at hg⟩ (fun g hg => by simp [blk] at hg) ((r, .row 5 1 []) :: Obs.kill r σ) (fun p hp => by
      cases hp with
      | head => exact .inl rfl
      | tail _ hp => obtain ⟨q, hq, rfl⟩ := Obs.mem_kill hp; exact .inr ⟨q, hq, Obs.fresh_spec hidr q hq, rfl⟩)
  have hE : Ext F w F (w.alloc (.cells #[.pointer none, .slice none 0 0] 59)) := Ext.of_below hr.lt ((Below.refl _ _).alloc (Nat.le_refl _) _)
  have h2 := h1.turn (ρ' := fun j => if j = id then .pointer (some ⟨w.heap.size, 0, none⟩) else (fun j => if j = r then Value.slice none 0 0 else ρ j) j) (id := id) (ob := .cellsT 59 [bP [] id, .own r]) (row := none) (w' := w.alloc (.cells #[.pointer none, .slice none 0 0] 59)) (F' := F) (fun j hj => by simp [hj])
    ⟨hE.below.os, hE.below.tape, hE.below.output, hE.below.size, fun k hk _ => hE.below.block k hk⟩ hfx (fun g hg => by simp at hg) (fun b hb => hb) (fun b hb => .inl hb) hE.lt
    ⟨w.heap.size, [.pointer none, .slice none 0 0], by simp, hr.hB, fun hf => by have := hr.lt _ hf; omega, by simpa using heap_alloc_new w _, rfl, fun j hj hj' => by
      match j, hj with
      | 0, _ => exact ⟨rfl, .d (.v _)⟩
      | 1, _ =>
        refine ⟨rfl, ?_⟩
        have := RepS.own (F := F) (ρ := fun j => if j = id then Value.pointer (some ⟨w.heap.size, 0, none⟩) else (fun j => if j = r then Value.slice none 0 0 else ρ j) j) (w := w.alloc (.cells #[.pointer none, .slice none 0 0] 59)) r
        simpa [Ne.symm hne] using this⟩
    (fun g hg => by simp [blk] at hg; exact .inr (by omega)) ((id, .cellsT 59 [bP [] id, .own r]) :: (r, .row 5 1 (([] : List UInt8).map u8D)) :: Obs.kill id (Obs.kill r σ)) (fun p hp => by
      cases hp with
      | head => exact .inl rfl
      | tail _ hp =>
        cases hp with
        | head => exact .inr ⟨(r, .row 5 1 []), .head _, Ne.symm hne, rfl⟩
        | tail _ hp =>
          obtain ⟨q, hq, rfl⟩ := Obs.mem_kill hp
          obtain ⟨q2, hq2, rfl⟩ := Obs.mem_kill hq
          exact .inr ⟨(q2.1, q2.2.kill r), .tail _ hq, Obs.fresh_spec hid q2 hq2, rfl⟩)
  have h3 := h2.put (o := ⟨some dst, .ready 0, 0, "", #[], none⟩) (v := .pointer (some ⟨w.heap.size, 0, none⟩)) (s := .ptr id 0) (Ext.refl h2.lt) (.ptr id 0 w.heap.size (by simp [blk])) (by simpa [DstOk, Nat.blt_eq] using hdn)
  refine wpList_plain hg fun K hK => ?_
  have hz : (Tryz.prog.info? 59).bind (·.zero) = some (.agg #[.pointer none, .slice none 0 0]) := by kernel_rfl
  obtain ⟨i, hi, hzz⟩ := Option.bind_eq_some_iff.1 hz
  have hprog : (program : Sem Program).run cx.P w = .ok cx.P w := rfl
  rw [← hP] at hi
  unfold Oper.wp execOp
  simp only [ho, Instr.alloc, Sem.run_bind, zeroValue, typeInfo, hprog, Result.andThen_ok, hi, Sem.run_pure, hzz, newVar, newRow]
  have := k _ _ ⟨F, _, h3⟩
  rw [← ht] at this
  exact hK _ _ this
end
/-! ## strconv.Itoa -/
def itoaB (n : Int) : ByteArray := ⟨(Lib.itoa n).toArray⟩
def TabI (w : World) : Prop := Lib.TabIs Tryz.prog w "internal/strconv.uint64pow10" .u64 Lib.pow10Tab
theorem c_itoa (n : Int) (h0 : -9223372036854775808 ≤ n) (h1 : n ≤ 9223372036854775807) : ACallT Tryz.prog TabI 26 [.v (.int .i64 n)] (.v (.string (itoaB n))) :=
 ⟨.of Tryz.func26 (by kernel_rfl) rfl, fun F w vs hT hF hv => by
  rw [repL_v (us := [.int .i64 n]) hv]
  have h := Any.strconv_Itoa Tryz.l171 n h0 h1 w hT
  change Calls Tryz.prog 26 #[.int .i64 n] w _ at h
  refine h.mono fun e w' ⟨h1, k, os, h2⟩ => ?_
  subst h2
  exact ⟨_, F, h1, .v _, Ext.of_below hF ⟨rfl, rfl, rfl, by show w.heap.size ≤ (w.heap ++ os).size; rw [Array.size_append]; omega, fun i hi => by show (w.heap ++ os)[i]? = _; rw [Array.getElem?_append_left hi]⟩⟩⟩
/-! ## A fact about one block, inside calls that write what the caller owns -/
/-- What is so stays so while the block is what it was. -/
def StaysAt (g : Nat) (T : World → Prop) : Prop := (∀ w, T w → g < w.heap.size) ∧ ∀ w w', w'.heap[g]? = w.heap[g]? → T w → T w'
theorem StaysAt.stays {g : Nat} {T : World → Prop} (h : StaysAt g T) : Stays T := fun w w' k hT => h.2 w w' (k.block g (h.1 w hT) (by have := h.1 w hT; omega)) hT
abbrev gTabI : Nat := 3
theorem tabI_at : StaysAt gTabI TabI := by
  have hg : Tryz.prog.globalNamed "internal/strconv.uint64pow10" = some 3 := by kernel_rfl
  refine ⟨fun w h => ?_, fun w w' k h => ?_⟩
  · unfold TabI Lib.TabIs World.var? at h
    rw [hg] at h
    rcases Nat.lt_or_ge 3 w.heap.size with hl | hl
    · exact hl
    · simp only [Option.bind_some] at h
      rw [Array.getElem?_eq_none hl] at h; cases h
  · unfold TabI Lib.TabIs World.var? at h ⊢
    rw [hg] at h ⊢
    simp only [Option.bind_some] at h ⊢
    rw [k]; exact h
/-- T is so where cx begins, and its block is none that cx may write. -/
structure TC (g : Nat) (T : World → Prop) (cx : Cx) : Prop where
  at_ : StaysAt g T
  so : T cx.w0
  fr : ¬ cx.fr g
theorem TC.now {g : Nat} {T : World → Prop} {cx : Cx} (h : TC g T cx) {w : World} (k : Kept cx.fr cx.w0 w) : T w := h.at_.2 _ _ (k.block g (h.at_.1 _ h.so) h.fr) h.so
theorem TC.of {g : Nat} {T : World → Prop} {P : Program} {n B : Nat} {w0 : World} {F0 : Nat → Prop} {fx : Nat → Bool} {ρ0 : Nat → Value} (h : StaysAt g T) (hT : T w0) : TC g T ⟨P, n, B, w0, F0, fun b => w0.heap.size ≤ b, fx, ρ0⟩ := ⟨h, hT, fun k => by have := h.1 _ hT; omega⟩
theorem AOps.callTC {cx : Cx} {ops : Array Oper} {o : Oper} {rest : List Oper} {e : Env} {σ : Obs} {Q : Post} {g : Nat} {T : World → Prop} {f : FuncId} {xs : List Operand} {ts : Array TypeId} {ds : List D} {d : D} (hg : GW ops o e true) (hd : DstOk cx.N o)
    (ho : o.op = .call { callee := .value (.func f), args := xs.toArray, argTypes := ts }) (hT : TC g T cx) (ha : ArgsOk e xs ds) (h : ACallT cx.P T f ds d)
    (k : AOps cx ops rest (e.put o.dst (.d d)) σ Q) : AOps cx ops (o :: rest) e σ Q := by
  intro a w ⟨F, ρ, hr⟩
  have hw := hg.wanted (fun t _ => hr.env t)
  have h1 : RepL F w (xs.map a.eval) ds := ha.rep (ρ := ρ) fun t _ => hr.env t
  have h2 := h.2 F w _ (hT.now hr.below) hr.lt h1
  have h3 := h.1 (xs.map a.eval).toArray w
  have hx : (execOp a.eval o).run cx.P w = .ok (.enter f (xs.map a.eval).toArray) w := by
    unfold execOp
    simp only [ho, resolve, Deferred.ofValue, Act.eval, invoke, Sem.run_bind, Sem.run_pure, Result.andThen_ok]
    simpa using h3
  unfold wpList
  rw [if_pos hw]
  refine .inl ?_
  unfold Oper.wp
  rw [hx]
  refine h2.mono fun _ w' ⟨v, F', he, hv, hE⟩ => ?_
  subst he
  exact k _ _ ⟨F', ρ, hr.put hE (.d hv) hd⟩
/-- A region that draws its order, whose operations from k on wait for all before them: in the order of the text. -/
theorem AWP.drawTailK {cx : Cx} {id : Nat} {l : List Oper} {e : Env} {σ : Obs} {Q : Post} (k : Nat) (hm : cx.P.follows .mixedOrders = true) (hB : Region.lexB .any (l.take k).toArray = true) (hC : Region.chainB l.toArray k = true)
    (h : KRun cx (l.take k).toArray σ (l.take k) e (fun e => AOps cx l.toArray (l.drop k) e σ Q)) : AWP cx (.region id l.toArray true) e σ Q := by
  intro a w ⟨F, ρ, hr⟩
  simp only [Region.lexB, Bool.and_eq_true] at hB
  have hch := Chain.of hC
  have hkl : k ≤ l.length := by simpa using hch.le
  have h1 := anyK_lex (l.take k) 0 (Array.replicate (l.take k).toArray.size false) e (by simp) (by simpa using hB.2) h
  have h2 := wpAny_of_K (cx := cx) (ops := (l.take k).toArray) (Q := fun ex e σ => match ex with | .normal => AOps cx l.toArray (l.drop k) e σ Q | _ => False) (by simpa using KRun.dsts _ e h) _ _ e a _ ⟨F, ρ, hr.drew⟩ h1
  refine wp_region_any hm (wpAny_split hch (ops0 := (l.take k).toArray) (by simp; omega) (fun j hj => by simp [hj]) ?_ ?_ (l.take k).length _ _ _ _ _ (by simp; omega) (by simp) ?_ ?_ ?_ (by simp; omega) h2)
  · rintro a w ⟨e, σ, h3, h4⟩
    have := h3 a w h4
    simpa using this
  · rintro ex a w hne ⟨e, σ, h3, _⟩
    cases ex <;> first | exact absurd rfl hne | exact h3.elim
  · intro j hj d
    have h5 : j < l.length := by omega
    have h6 : j < min k l.length := by omega
    simp [Array.getD_eq_getD_getElem?, h5, h6]
  · intro j hj hj2
    have : j < l.length := by simpa using hj2
    simp [Array.getD_eq_getD_getElem?, this]
  · intro i o ho hi
    have : i < l.length := by simpa using (Array.getElem?_eq_some_iff.1 ho).1
    simp [Array.getD_eq_getD_getElem?, this] at hi
/-- Such a call, where T is so and its block is none of the caller's. -/
def XCallT (P : Program) (g : Nat) (T : World → Prop) (f : FuncId) (ss : List S) (σ σ' : Obs) (chg : Nat → Bool) (d : D) : Prop := Enters P f ∧
  ∀ (F : Nat → Prop) (ρ : Nat → Value) (B : Nat) (w : World) (vs : List Value), T w → ¬ ownB σ ρ g → (∀ b, F b → b < w.heap.size) → B ≤ w.heap.size → ObsOk B F ρ w σ → RepSL F ρ w vs ss →
    Calls P f vs.toArray w fun e w' => ∃ v F' ρ', e = .returned v ∧ Rep F' w' v d ∧ XEnd B F ρ w σ F' ρ' w' σ' chg
theorem xcallT_of {g : Nat} {T : World → Prop} {P : Program} {f : FuncId} {fn : Func} {c : Code} {n : Nat} {ss : List S} {σ σ' : Obs} {chg : Nat → Bool} {ds' : List D} (hf : P.funcs[f]? = some fn) (hb : fn.body = some c) (hn : (fn.name == "runtime.NumGoroutine") = false) (hN : fn.ntmps = n)
    (ts : List Nat) (hr : fn.results = (ts.map ResultVar.tmp).toArray) (hle' : Nat.ble ss.length n = true)
    (hs : StaysAt g T) (h : ∀ B w0 F0 fr ρ0, TC g T ⟨P, n, B, w0, F0, fr, fun i => !(chg i), ρ0⟩ → AWP ⟨P, n, B, w0, F0, fr, fun i => !(chg i), ρ0⟩ c (Env.argsS 0 ss) σ (RetX ts ds' σ')) : XCallT P g T f ss σ σ' chg (retOf ds') := by
  have hle : ss.length ≤ n := Nat.le_of_ble_eq_true hle'
  refine ⟨Enters.of hf hn (by rw [hb]; rfl), fun F ρ B w vs hT hgo hF hB hσ hv => ?_⟩
  refine calls_of_wp hf hb ?_
  have hR : R ⟨P, n, B, w, F, (fun b => w.heap.size ≤ b ∨ ownB σ ρ b), fun i => !(chg i), ρ⟩ (Env.argsS 0 ss) σ { tmps := vs.toArray ++ Array.replicate (fn.ntmps - vs.toArray.size) undef, defers := [] } w := by
    refine ⟨F, ρ, ?_, rfl, hF, fun b hb => hb, fun b hb => .inl hb, Kept.refl _ _, hB, fun t => ?_, hσ, fun b hb => .inl hb, fun p hp g hg => .inr ⟨p, hp, hg⟩, fun i _ => rfl⟩
    · simp [hN, hv.1]; omega
    · by_cases ht : t < ss.length
      · have := Env.argsS_get ss 0 t ht
        rw [Nat.zero_add] at this
        rw [this]
        have hvt : t < vs.length := by rw [hv.1]; exact ht
        have : (vs.toArray ++ Array.replicate (fn.ntmps - vs.toArray.size) undef).getD t undef = vs[t] := by
          rw [Array.getD_eq_getD_getElem?, Array.getElem?_append_left (by simpa using hvt)]
          simp [hvt]
        rw [this]
        exact hv.2 t hvt ht
      · have := Env.argsS_out ss 0 t (by omega)
        rw [Nat.zero_add] at this
        rw [this]
        exact .d (.any _)
  refine wp_mono (h _ _ _ _ _ ⟨hs, hT, fun k => k.elim (fun k => by have := hs.1 _ hT; omega) hgo⟩ _ _ hR) ?_
  rintro ex a w' ⟨e', σe, hq, F', ρ', hr'⟩
  have hres : (results fn a.tmps).run P w' = .ok (match ts.map fun t => a.tmps.getD t undef with | [x] => x | l => .tuple l.toArray) w' := by
    have key : ∀ (ts : List Nat), (List.mapM (fun r => match r with | .tmp t => pure (a.tmps.getD t undef) | .cell b t => do loadVar t (← asAddr (a.tmps.getD b undef))) (ts.map ResultVar.tmp) : Sem (List Value)).run P w' = .ok (ts.map fun t => a.tmps.getD t undef) w' := by
      intro ts
      induction ts with
      | nil => rfl
      | cons t ts ih =>
        rw [List.map_cons, List.mapM_cons, Sem.run_bind]
        simp only [Sem.run_pure, Result.andThen_ok, Sem.run_bind, ih, List.map_cons]
    unfold results
    rw [hr, Sem.run_bind]
    have h2 : (Array.mapM (fun r => match r with | ResultVar.tmp t => pure (a.tmps.getD t undef) | ResultVar.cell b t => do loadVar t (← asAddr (a.tmps.getD b undef))) (ts.map ResultVar.tmp).toArray : Sem (Array Value)).run P w' = .ok (ts.map fun t => a.tmps.getD t undef).toArray w' := by
      rw [List.mapM_toArray, Sem.run_map, key]
      rfl
    have h3 := h2
    refine (congrArg (fun r => Result.andThen r _) h3).trans ?_
    simp only [Result.andThen_ok]
    rcases ts with _ | ⟨t, _ | ⟨t2, ts⟩⟩ <;> rfl
  have hends : RetLX e' σe σ' ts ds' ∧ AllIn σe σ' → bodyPost P fn (fun e w' => ∃ v F' ρ', e = .returned v ∧ Rep F' w' v (retOf ds') ∧ XEnd B F ρ w σ F' ρ' w' σ' chg) .ret a w' := by
    rintro ⟨hq, hin⟩
    have hl := hq.rep hr'
    have hin := hin.mem
    refine ⟨hr'.defers, _, hres, _, endFX F' ρ' σe σ', ρ', rfl, ?_, ?_⟩
    · generalize (ts.map fun t => a.tmps.getD t undef) = vs' at hl
      obtain ⟨h1, h2⟩ := hl
      rcases ds' with _ | ⟨d, _ | ⟨d2, ds'⟩⟩
      · have : vs' = [] := List.eq_nil_of_length_eq_zero h1
        subst this
        exact .tup [] [] rfl (fun i h1 => absurd h1 (by simp))
      · rcases vs' with _ | ⟨x, _ | ⟨y, vs'⟩⟩ <;> simp at h1
        exact h2 0 (by simp) (by simp)
      · rcases vs' with _ | ⟨x, _ | ⟨y, vs'⟩⟩
        · simp at h1
        · simp at h1
        · exact .tup _ _ h1 h2
    · have hlt : ∀ b, endFX F' ρ' σe σ' b → b < w'.heap.size := by
        rintro b (hb | ⟨p, hp, _, hb⟩)
        · exact hr'.lt b hb
        · exact ((hr'.obs.ok p hp).blk_lt hb).2
      refine ⟨fun b hb => .inl (hr'.base b hb), ?_, hlt, hr'.below, ⟨fun p hp => ?_, fun p hp q hq => hr'.obs.apart p (hin p hp) q (hin q hq), fun p hp q hq => hr'.obs.uniq p (hin p hp) q (hin q hq)⟩, fun p hp => hr'.kown p (hin p hp), fun i hi => hr'.fixed i (by show (!(chg i)) = true; rw [hi]; rfl)⟩
      · rintro b (hb | ⟨p, hp, _, hb⟩)
        · exact hr'.new b hb
        · exact .inr (hr'.kown p hp b hb)
      · refine (hr'.obs.ok p (hin p hp)).more hr'.lt (fun b hb => .inl hb) ?_
        rintro g hg (hf | ⟨q, hq, hne, hb⟩)
        · exact (hr'.obs.ok p (hin p hp)).nF hg hf
        · exact hr'.obs.apart p (hin p hp) q hq (hne p hp) g hg hb
  cases ex with
  | ret => exact hends hq
  | normal => exact hends hq
  | exit id => exact hq.elim
  | goto l => exact hq.elim
  | panic c => exact hq.elim
  | outgrown => exact hq.elim

section
variable {cx : Cx} {ops : Array Oper} {o : Oper} {rest : List Oper} {e : Env} {σ : Obs} {Q : Post}
end
end Go.Proofs.YthcdjmkkgbcaaaaGreatDoor

namespace Go.Proofs.YthcdjmkkgbcaaaaGreatDoor
open Go.RowKit Go.Shelf Go.Lib
set_option linter.unusedVariables false
set_option linter.unusedSimpArgs false

def strL (l : List UInt8) : ByteArray := ⟨l.toArray⟩
theorem strL_size (l : List UInt8) : (strL l).size = l.length := by show l.toArray.size = _; simp
theorem strL_list (l : List UInt8) : (strL l).data.toList = l := by show l.toArray.toList = l; simp
set_option maxHeartbeats 1000000 in
set_option maxRecDepth 100000 in
theorem strNil (b : Nat) (p : Value) (w : World) (hbk : w.heap[b]? = some (.cells #[p, .slice none 0 0] 59 (0, 0))) :
    Calls Tryz.prog 32 #[.pointer (some ⟨b, 0, none⟩)] w fun e w' => e = .returned (.string .empty) ∧ Below w.heap.size w w' := by
  have hmix : Tryz.prog.follows .mixedOrders = true := by kernel_rfl
  have c1 : w.drew.cell? ⟨b, 1, none⟩ = some (.slice none 0 0) := by
    rw [cell_of_row w.drew b 1 _ _ _ hbk]; rfl
  have hSD : (Builtin.unsafeSliceData_ #[57] 115 #[.slice none 0 0]).run Tryz.prog w.drew = .ok (.pointer none) w.drew := Lib.run_unsafeSliceData_nil _ _ _ _ _
  have hUS : (Builtin.unsafeString_ #[115, 3] 9 #[.pointer none, .int .i64 0]).run Tryz.prog w.drew = .ok (.string .empty) w.drew := Lib.run_unsafeString_none _ _ _ _ _
  go_enter Tryz.func32, Tryz.ntmps32
  go_wp2
  go_region_o
  all_goals (go_wp2; go_ret; exact ⟨rfl, rfl, rfl, rfl, Nat.le_refl _, fun _ _ => rfl⟩)
set_option maxHeartbeats 1000000 in
set_option maxRecDepth 100000 in
theorem strCap (b g cap : Nat) (hc : cap ≠ 0) (p : Value) (w : World) (hbk : w.heap[b]? = some (.cells #[p, .slice (some ⟨g, 0, none⟩) 0 cap] 59 (0, 0))) :
    Calls Tryz.prog 32 #[.pointer (some ⟨b, 0, none⟩)] w fun e w' => e = .returned (.string .empty) ∧ Below w.heap.size w w' := by
  have hmix : Tryz.prog.follows .mixedOrders = true := by kernel_rfl
  have c1 : w.drew.cell? ⟨b, 1, none⟩ = some (.slice (some ⟨g, 0, none⟩) 0 cap) := by
    rw [cell_of_row w.drew b 1 _ _ _ hbk]; rfl
  have hSD : (Builtin.unsafeSliceData_ #[57] 115 #[.slice (some ⟨g, 0, none⟩) 0 cap]).run Tryz.prog w.drew = .ok (.pointer (some ⟨g, 0, none⟩)) w.drew := Lib.run_unsafeSliceData_row _ _ _ _ _ _ hc
  have hUS : (Builtin.unsafeString_ #[115, 3] 9 #[.pointer (some ⟨g, 0, none⟩), .int .i64 0]).run Tryz.prog w.drew = .ok (.string .empty) w.drew := Lib.run_unsafeString_none _ _ _ _ _
  go_enter Tryz.func32, Tryz.ntmps32
  go_wp2
  go_region_o
  all_goals (go_wp2; go_ret; exact ⟨rfl, rfl, rfl, rfl, Nat.le_refl _, fun _ _ => rfl⟩)
set_option maxHeartbeats 1000000 in
set_option maxRecDepth 100000 in
theorem strZero (b g : Nat) (sh : TypeId × Nat) (p : Value) (w : World) (hsh : w.shape? g = some sh) (hbk : w.heap[b]? = some (.cells #[p, .slice (some ⟨g, 0, none⟩) 0 0] 59 (0, 0))) :
    Calls Tryz.prog 32 #[.pointer (some ⟨b, 0, none⟩)] w fun e w' => e = .returned (.string .empty) ∧ Below w.heap.size w w' := by
  have hmix : Tryz.prog.follows .mixedOrders = true := by kernel_rfl
  have c1 : w.drew.cell? ⟨b, 1, none⟩ = some (.slice (some ⟨g, 0, none⟩) 0 0) := by
    rw [cell_of_row w.drew b 1 _ _ _ hbk]; rfl
  have hlt : b < w.heap.size := (Array.getElem?_eq_some_iff.1 hbk).1
  have hbl := (show Below w.heap.size w w from Below.refl _ _).alloc (Nat.le_refl _) (.view ⟨g, 0, none⟩ 5)
  have c2 : (w.alloc (.view ⟨g, 0, none⟩ 5)).cell? ⟨b, 1, none⟩ = some (.slice (some ⟨g, 0, none⟩) 0 0) := by
    rw [World.cell?_of_block (hbl.block b hlt), cell_of_row w b 1 _ _ _ hbk]; rfl
  have hSD : (Builtin.unsafeSliceData_ #[57] 115 #[.slice (some ⟨g, 0, none⟩) 0 0]).run Tryz.prog w.drew = .ok (.pointer (some ⟨w.drew.heap.size, 0, none⟩)) (w.drew.alloc (.view ⟨g, 0, none⟩ 5)) := Lib.run_unsafeSliceData_zero _ _ _ _ (by kernel_rfl) _ _ sh hsh
  have hUS : (Builtin.unsafeString_ #[115, 3] 9 #[.pointer (some ⟨w.heap.size, 0, none⟩), .int .i64 0]).run Tryz.prog (w.alloc (.view ⟨g, 0, none⟩ 5)).drew = .ok (.string .empty) (w.alloc (.view ⟨g, 0, none⟩ 5)).drew := Lib.run_unsafeString_none _ _ _ _ (some ⟨w.heap.size, 0, none⟩)
  go_enter Tryz.func32, Tryz.ntmps32
  go_wp2
  go_region_o
  all_goals (go_wp2; go_ret; exact ⟨rfl, hbl.os, hbl.tape, hbl.output, hbl.size, hbl.block⟩)
/-- b.String() where nothing was written. -/
theorem c_bstr0 (id r : Nat) (hne : id ≠ r) : XCall Tryz.prog 32 [.ptr id 0] (Bld id r []) [] (fun _ => false) (.v (.string ⟨#[]⟩)) := by
 refine ⟨.of Tryz.func32 (by kernel_rfl) rfl, fun F ρ B w vs hF hB hσ hv => ?_⟩
 obtain ⟨g, hb⟩ := bldW_of hne hσ
 obtain rfl := repSL_ptr hb.ptr hv
 have hbh := hb.heap
 have fin : Calls Tryz.prog 32 #[.pointer (some ⟨g, 0, none⟩)] w fun e w' => e = .returned (.string .empty) ∧ Below w.heap.size w w' := by
  rcases hb.own.2 with ⟨h2, _⟩ | ⟨k, cap, cur, h2, h3, h4, h5, h6, h7, _⟩
  ·rw [h2] at hbh
   exact strNil g _ w hbh
  rw [h2] at hbh
  by_cases hc : cap = 0
  ·subst hc
   exact strZero g k (_, _) _ w (by simp [World.shape?, h4]; exact ⟨rfl, rfl⟩) hbh
  exact strCap g k cap hc _ w hbh
 refine fin.mono fun e' w' ⟨he, hw⟩ => ?_
 exact ⟨_, F, ρ, he, .v _, fun _ h => h, fun _ h => .inl h, fun b hf => Nat.lt_of_lt_of_le (hF b hf) hw.size, ⟨hw.os, hw.tape, hw.output, hw.size, fun j hj _ => hw.block j hj⟩, ⟨fun p hp => (nomatch hp), fun p hp => (nomatch hp), fun p hp => (nomatch hp)⟩, fun p hp => (nomatch hp), fun _ _ => rfl⟩
/-- b.String(), whatever was written. -/
theorem c_bstrA (id r : Nat) (hne : id ≠ r) (l : List UInt8) : XCall Tryz.prog 32 [.ptr id 0] (Bld id r l) [] (fun _ => false) (.v (.string ⟨l.toArray⟩)) := by
 cases l with
 | nil => exact c_bstr0 id r hne
 | cons x l => exact c_bstr id r hne (x :: l) (by simp)
end Go.Proofs.YthcdjmkkgbcaaaaGreatDoor

namespace Go.Proofs
open Go.Shelf
def Tryz.l145_ren : Go.Shelf.Ren := ⟨fun | 145 => 18 | 220 => 50 | 219 => 84 | 217 => 129 | 225 => 130 | 224 => 131 | 267 => 132 | 266 => 164 | 314 => 165 | n => n, fun | 9 => 9 | 4 => 4 | 59 => 46 | 3 => 3 | 5 => 5 | 46 => 122 | 146 => 195 | 51 => 145 | n => n, fun | 1 => 2 | n => n⟩
theorem Tryz.l145 : Go.Proofs.Lays.n145 Tryz.prog Tryz.l145_ren := {
  mixed := by kernel_rfl
  f145 := Tryz.func18.trans (congrArg some (by kernel_rfl))
  f217 := Tryz.func129.trans (congrArg some (by kernel_rfl))
  f219 := Tryz.func84.trans (congrArg some (by kernel_rfl))
  f220 := Tryz.func50.trans (congrArg some (by kernel_rfl))
  f224 := Tryz.func131.trans (congrArg some (by kernel_rfl))
  f225 := Tryz.func130.trans (congrArg some (by kernel_rfl))
  f266 := Tryz.func164.trans (congrArg some (by kernel_rfl))
  f267 := Tryz.func132.trans (congrArg some (by kernel_rfl))
  f314 := Tryz.func165.trans (congrArg some (by kernel_rfl))
  t3 := Tryz.underlying3
  a3 := Tryz.isAgg3
  z3 := Tryz.sizeOf3
  v3 := Tryz.zeroValue3
  t4 := Tryz.underlying4
  a4 := Tryz.isAgg4
  z4 := Tryz.sizeOf4
  v4 := Tryz.zeroValue4
  t5 := Tryz.underlying5
  a5 := Tryz.isAgg5
  z5 := Tryz.sizeOf5
  v5 := Tryz.zeroValue5
  t9 := Tryz.underlying9
  a9 := Tryz.isAgg9
  z9 := Tryz.sizeOf9
  v9 := Tryz.zeroValue9
  t46 := Tryz.underlying122
  a46 := Tryz.isAgg122
  z46 := Tryz.sizeOf122
  v46 := Tryz.zeroValue122
  t51 := Tryz.underlying145
  a51 := Tryz.isAgg145
  z51 := Tryz.sizeOf145
  v51 := Tryz.zeroValue145
  t59 := Tryz.underlying46
  a59 := Tryz.isAgg46
  z59 := Tryz.sizeOf46
  v59 := Tryz.zeroValue46
  t146 := Tryz.underlying195
  a146 := Tryz.isAgg195
  z146 := Tryz.sizeOf195
  v146 := Tryz.zeroValue195
  g1 := by kernel_rfl }
def Tryz.l146_ren : Go.Shelf.Ren := ⟨fun | 146 => 53 | 221 => 87 | 268 => 135 | 138 => 136 | 143 => 137 | 195 => 175 | 197 => 176 | 218 => 177 | 219 => 84 | 260 => 193 | 217 => 129 | 225 => 130 | 224 => 131 | 267 => 132 | 266 => 164 | 314 => 165 | n => n, fun | 9 => 9 | 31 => 68 | 3 => 3 | 4 => 4 | 0 => 0 | 105 => 206 | 21 => 21 | 5 => 5 | 46 => 122 | 119 => 117 | 139 => 233 | 138 => 232 | 146 => 195 | 51 => 145 | n => n, fun | 1 => 2 | 3 => 6 | 4 => 7 | n => n⟩
theorem Tryz.l146 : Go.Proofs.Lays.n146 Tryz.prog Tryz.l146_ren := {
  mixed := by kernel_rfl
  f138 := Tryz.func136.trans (congrArg some (by kernel_rfl))
  f143 := Tryz.func137.trans (congrArg some (by kernel_rfl))
  f146 := Tryz.func53.trans (congrArg some (by kernel_rfl))
  f195 := Tryz.func175.trans (congrArg some (by kernel_rfl))
  f197 := Tryz.func176.trans (congrArg some (by kernel_rfl))
  f217 := Tryz.func129.trans (congrArg some (by kernel_rfl))
  f218 := Tryz.func177.trans (congrArg some (by kernel_rfl))
  f219 := Tryz.func84.trans (congrArg some (by kernel_rfl))
  f221 := Tryz.func87.trans (congrArg some (by kernel_rfl))
  f224 := Tryz.func131.trans (congrArg some (by kernel_rfl))
  f225 := Tryz.func130.trans (congrArg some (by kernel_rfl))
  f260 := Tryz.func193.trans (congrArg some (by kernel_rfl))
  f266 := Tryz.func164.trans (congrArg some (by kernel_rfl))
  f267 := Tryz.func132.trans (congrArg some (by kernel_rfl))
  f268 := Tryz.func135.trans (congrArg some (by kernel_rfl))
  f314 := Tryz.func165.trans (congrArg some (by kernel_rfl))
  t0 := Tryz.underlying0
  a0 := Tryz.isAgg0
  z0 := Tryz.sizeOf0
  v0 := Tryz.zeroValue0
  t3 := Tryz.underlying3
  a3 := Tryz.isAgg3
  z3 := Tryz.sizeOf3
  v3 := Tryz.zeroValue3
  t4 := Tryz.underlying4
  a4 := Tryz.isAgg4
  z4 := Tryz.sizeOf4
  v4 := Tryz.zeroValue4
  t5 := Tryz.underlying5
  a5 := Tryz.isAgg5
  z5 := Tryz.sizeOf5
  v5 := Tryz.zeroValue5
  t9 := Tryz.underlying9
  a9 := Tryz.isAgg9
  z9 := Tryz.sizeOf9
  v9 := Tryz.zeroValue9
  t21 := Tryz.underlying21
  a21 := Tryz.isAgg21
  z21 := Tryz.sizeOf21
  v21 := Tryz.zeroValue21
  t31 := Tryz.underlying68
  a31 := Tryz.isAgg68
  z31 := Tryz.sizeOf68
  v31 := Tryz.zeroValue68
  t46 := Tryz.underlying122
  a46 := Tryz.isAgg122
  z46 := Tryz.sizeOf122
  v46 := Tryz.zeroValue122
  t51 := Tryz.underlying145
  a51 := Tryz.isAgg145
  z51 := Tryz.sizeOf145
  v51 := Tryz.zeroValue145
  t105 := Tryz.underlying206
  a105 := Tryz.isAgg206
  z105 := Tryz.sizeOf206
  v105 := Tryz.zeroValue206
  t119 := Tryz.underlying117
  a119 := Tryz.isAgg117
  z119 := Tryz.sizeOf117
  t138 := Tryz.underlying232
  a138 := Tryz.isAgg232
  z138 := Tryz.sizeOf232
  v138 := Tryz.zeroValue232
  t139 := Tryz.underlying233
  a139 := Tryz.isAgg233
  z139 := Tryz.sizeOf233
  v139 := Tryz.zeroValue233
  t146 := Tryz.underlying195
  a146 := Tryz.isAgg195
  z146 := Tryz.sizeOf195
  v146 := Tryz.zeroValue195
  g1 := by kernel_rfl
  g3 := by kernel_rfl
  g4 := by kernel_rfl }
def Tryz.l147_ren : Go.Shelf.Ren := ⟨fun | 147 => 88 | 221 => 87 | 268 => 135 | 138 => 136 | 143 => 137 | 195 => 175 | 197 => 176 | 218 => 177 | 219 => 84 | 260 => 193 | 217 => 129 | 225 => 130 | 224 => 131 | 267 => 132 | 266 => 164 | 314 => 165 | n => n, fun | 9 => 9 | 3 => 3 | 31 => 68 | 4 => 4 | 0 => 0 | 105 => 206 | 21 => 21 | 5 => 5 | 46 => 122 | 119 => 117 | 139 => 233 | 138 => 232 | 146 => 195 | 51 => 145 | n => n, fun | 1 => 2 | 3 => 6 | 4 => 7 | n => n⟩
theorem Tryz.l147 : Go.Proofs.Lays.n147 Tryz.prog Tryz.l147_ren := {
  mixed := by kernel_rfl
  f138 := Tryz.func136.trans (congrArg some (by kernel_rfl))
  f143 := Tryz.func137.trans (congrArg some (by kernel_rfl))
  f147 := Tryz.func88.trans (congrArg some (by kernel_rfl))
  f195 := Tryz.func175.trans (congrArg some (by kernel_rfl))
  f197 := Tryz.func176.trans (congrArg some (by kernel_rfl))
  f217 := Tryz.func129.trans (congrArg some (by kernel_rfl))
  f218 := Tryz.func177.trans (congrArg some (by kernel_rfl))
  f219 := Tryz.func84.trans (congrArg some (by kernel_rfl))
  f221 := Tryz.func87.trans (congrArg some (by kernel_rfl))
  f224 := Tryz.func131.trans (congrArg some (by kernel_rfl))
  f225 := Tryz.func130.trans (congrArg some (by kernel_rfl))
  f260 := Tryz.func193.trans (congrArg some (by kernel_rfl))
  f266 := Tryz.func164.trans (congrArg some (by kernel_rfl))
  f267 := Tryz.func132.trans (congrArg some (by kernel_rfl))
  f268 := Tryz.func135.trans (congrArg some (by kernel_rfl))
  f314 := Tryz.func165.trans (congrArg some (by kernel_rfl))
  t0 := Tryz.underlying0
  a0 := Tryz.isAgg0
  z0 := Tryz.sizeOf0
  v0 := Tryz.zeroValue0
  t3 := Tryz.underlying3
  a3 := Tryz.isAgg3
  z3 := Tryz.sizeOf3
  v3 := Tryz.zeroValue3
  t4 := Tryz.underlying4
  a4 := Tryz.isAgg4
  z4 := Tryz.sizeOf4
  v4 := Tryz.zeroValue4
  t5 := Tryz.underlying5
  a5 := Tryz.isAgg5
  z5 := Tryz.sizeOf5
  v5 := Tryz.zeroValue5
  t9 := Tryz.underlying9
  a9 := Tryz.isAgg9
  z9 := Tryz.sizeOf9
  v9 := Tryz.zeroValue9
  t21 := Tryz.underlying21
  a21 := Tryz.isAgg21
  z21 := Tryz.sizeOf21
  v21 := Tryz.zeroValue21
  t31 := Tryz.underlying68
  a31 := Tryz.isAgg68
  z31 := Tryz.sizeOf68
  v31 := Tryz.zeroValue68
  t46 := Tryz.underlying122
  a46 := Tryz.isAgg122
  z46 := Tryz.sizeOf122
  v46 := Tryz.zeroValue122
  t51 := Tryz.underlying145
  a51 := Tryz.isAgg145
  z51 := Tryz.sizeOf145
  v51 := Tryz.zeroValue145
  t105 := Tryz.underlying206
  a105 := Tryz.isAgg206
  z105 := Tryz.sizeOf206
  v105 := Tryz.zeroValue206
  t119 := Tryz.underlying117
  a119 := Tryz.isAgg117
  z119 := Tryz.sizeOf117
  t138 := Tryz.underlying232
  a138 := Tryz.isAgg232
  z138 := Tryz.sizeOf232
  v138 := Tryz.zeroValue232
  t139 := Tryz.underlying233
  a139 := Tryz.isAgg233
  z139 := Tryz.sizeOf233
  v139 := Tryz.zeroValue233
  t146 := Tryz.underlying195
  a146 := Tryz.isAgg195
  z146 := Tryz.sizeOf195
  v146 := Tryz.zeroValue195
  g1 := by kernel_rfl
  g3 := by kernel_rfl
  g4 := by kernel_rfl }
def Tryz.l172_ren : Go.Shelf.Ren := ⟨fun | 172 => 134 | 244 => 173 | 245 => 174 | 247 => 188 | 279 => 189 | 280 => 190 | 281 => 191 | 282 => 192 | 287 => 198 | 316 => 199 | 171 => 26 | 205 => 200 | 321 => 202 | 322 => 203 | 243 => 69 | 246 => 103 | 283 => 148 | 284 => 149 | 285 => 150 | 286 => 151 | 129 => 117 | 317 => 179 | 318 => 180 | 319 => 181 | 320 => 182 | 337 => 194 | 338 => 195 | n => n, fun | 9 => 9 | 3 => 3 | 75 => 64 | 76 => 65 | 4 => 4 | 5 => 5 | 167 => 219 | 37 => 57 | 0 => 0 | 85 => 220 | 2 => 2 | 168 => 222 | 53 => 157 | 175 => 226 | 46 => 122 | 210 => 229 | 127 => 115 | 145 => 239 | 143 => 237 | 21 => 21 | 171 => 171 | 173 => 173 | 212 => 210 | 51 => 145 | 20 => 20 | 213 => 211 | 232 => 234 | 233 => 235 | 80 => 70 | n => n, fun | 15 => 4 | 16 => 5 | 17 => 3 | 18 => 8 | 19 => 9 | n => n⟩
theorem Tryz.l172 : Go.Proofs.Lays.n172 Tryz.prog Tryz.l172_ren := {
  mixed := by kernel_rfl
  f129 := Tryz.func117.trans (congrArg some (by kernel_rfl))
  f171 := Tryz.func26.trans (congrArg some (by kernel_rfl))
  f172 := Tryz.func134.trans (congrArg some (by kernel_rfl))
  f205 := Tryz.func200.trans (congrArg some (by kernel_rfl))
  f243 := Tryz.func69.trans (congrArg some (by kernel_rfl))
  f244 := Tryz.func173.trans (congrArg some (by kernel_rfl))
  f245 := Tryz.func174.trans (congrArg some (by kernel_rfl))
  f246 := Tryz.func103.trans (congrArg some (by kernel_rfl))
  f247 := Tryz.func188.trans (congrArg some (by kernel_rfl))
  f279 := Tryz.func189.trans (congrArg some (by kernel_rfl))
  f280 := Tryz.func190.trans (congrArg some (by kernel_rfl))
  f281 := Tryz.func191.trans (congrArg some (by kernel_rfl))
  f282 := Tryz.func192.trans (congrArg some (by kernel_rfl))
  f283 := Tryz.func148.trans (congrArg some (by kernel_rfl))
  f284 := Tryz.func149.trans (congrArg some (by kernel_rfl))
  f285 := Tryz.func150.trans (congrArg some (by kernel_rfl))
  f286 := Tryz.func151.trans (congrArg some (by kernel_rfl))
  f287 := Tryz.func198.trans (congrArg some (by kernel_rfl))
  f316 := Tryz.func199.trans (congrArg some (by kernel_rfl))
  f317 := Tryz.func179.trans (congrArg some (by kernel_rfl))
  f318 := Tryz.func180.trans (congrArg some (by kernel_rfl))
  f319 := Tryz.func181.trans (congrArg some (by kernel_rfl))
  f320 := Tryz.func182.trans (congrArg some (by kernel_rfl))
  f321 := Tryz.func202.trans (congrArg some (by kernel_rfl))
  f322 := Tryz.func203.trans (congrArg some (by kernel_rfl))
  f337 := Tryz.func194.trans (congrArg some (by kernel_rfl))
  f338 := Tryz.func195.trans (congrArg some (by kernel_rfl))
  t0 := Tryz.underlying0
  a0 := Tryz.isAgg0
  z0 := Tryz.sizeOf0
  v0 := Tryz.zeroValue0
  t2 := Tryz.underlying2
  a2 := Tryz.isAgg2
  z2 := Tryz.sizeOf2
  v2 := Tryz.zeroValue2
  t3 := Tryz.underlying3
  a3 := Tryz.isAgg3
  z3 := Tryz.sizeOf3
  v3 := Tryz.zeroValue3
  t4 := Tryz.underlying4
  a4 := Tryz.isAgg4
  z4 := Tryz.sizeOf4
  v4 := Tryz.zeroValue4
  t5 := Tryz.underlying5
  a5 := Tryz.isAgg5
  z5 := Tryz.sizeOf5
  v5 := Tryz.zeroValue5
  t9 := Tryz.underlying9
  a9 := Tryz.isAgg9
  z9 := Tryz.sizeOf9
  v9 := Tryz.zeroValue9
  t20 := Tryz.underlying20
  a20 := Tryz.isAgg20
  z20 := Tryz.sizeOf20
  v20 := Tryz.zeroValue20
  t21 := Tryz.underlying21
  a21 := Tryz.isAgg21
  z21 := Tryz.sizeOf21
  v21 := Tryz.zeroValue21
  t37 := Tryz.underlying57
  a37 := Tryz.isAgg57
  z37 := Tryz.sizeOf57
  v37 := Tryz.zeroValue57
  t46 := Tryz.underlying122
  a46 := Tryz.isAgg122
  z46 := Tryz.sizeOf122
  v46 := Tryz.zeroValue122
  t51 := Tryz.underlying145
  a51 := Tryz.isAgg145
  z51 := Tryz.sizeOf145
  v51 := Tryz.zeroValue145
  t53 := Tryz.underlying157
  a53 := Tryz.isAgg157
  z53 := Tryz.sizeOf157
  v53 := Tryz.zeroValue157
  t75 := Tryz.underlying64
  a75 := Tryz.isAgg64
  z75 := Tryz.sizeOf64
  v75 := Tryz.zeroValue64
  t76 := Tryz.underlying65
  a76 := Tryz.isAgg65
  z76 := Tryz.sizeOf65
  v76 := Tryz.zeroValue65
  t85 := Tryz.underlying220
  a85 := Tryz.isAgg220
  z85 := Tryz.sizeOf220
  v85 := Tryz.zeroValue220
  t127 := Tryz.underlying115
  a127 := Tryz.isAgg115
  z127 := Tryz.sizeOf115
  v127 := Tryz.zeroValue115
  t143 := Tryz.underlying237
  a143 := Tryz.isAgg237
  z143 := Tryz.sizeOf237
  v143 := Tryz.zeroValue237
  t145 := Tryz.underlying239
  a145 := Tryz.isAgg239
  z145 := Tryz.sizeOf239
  v145 := Tryz.zeroValue239
  t167 := Tryz.underlying219
  a167 := Tryz.isAgg219
  z167 := Tryz.sizeOf219
  v167 := Tryz.zeroValue219
  t168 := Tryz.underlying222
  a168 := Tryz.isAgg222
  z168 := Tryz.sizeOf222
  v168 := Tryz.zeroValue222
  t171 := Tryz.underlying171
  a171 := Tryz.isAgg171
  z171 := Tryz.sizeOf171
  v171 := Tryz.zeroValue171
  t173 := Tryz.underlying173
  a173 := Tryz.isAgg173
  z173 := Tryz.sizeOf173
  v173 := Tryz.zeroValue173
  t175 := Tryz.underlying226
  a175 := Tryz.isAgg226
  z175 := Tryz.sizeOf226
  v175 := Tryz.zeroValue226
  t210 := Tryz.underlying229
  a210 := Tryz.isAgg229
  z210 := Tryz.sizeOf229
  v210 := Tryz.zeroValue229
  t212 := Tryz.underlying210
  a212 := Tryz.isAgg210
  z212 := Tryz.sizeOf210
  v212 := Tryz.zeroValue210
  t213 := Tryz.underlying211
  a213 := Tryz.isAgg211
  z213 := Tryz.sizeOf211
  t232 := Tryz.underlying234
  a232 := Tryz.isAgg234
  z232 := Tryz.sizeOf234
  v232 := Tryz.zeroValue234
  t233 := Tryz.underlying235
  a233 := Tryz.isAgg235
  z233 := Tryz.sizeOf235
  v233 := Tryz.zeroValue235
  g15 := by kernel_rfl
  g16 := by kernel_rfl
  g17 := by kernel_rfl
  g18 := by kernel_rfl
  g19 := by kernel_rfl }
end Go.Proofs

namespace Go.Proofs.YthcdjmkkgbcaaaaGreatDoor
open Go.RowKit Go.Shelf
set_option linter.unusedVariables false
set_option linter.unusedSimpArgs false

/-! ## Plainly -/
/-- Cut at the first c. -/
def ct (c : UInt8) : List UInt8 → Option (List UInt8 × List UInt8)
  | [] => none
  | b :: l => if b = c then some ([], l) else (ct c l).map fun p => (b :: p.1, p.2)
/-- Cut at each c. -/
def spl (c : UInt8) : List UInt8 → List (List UInt8)
  | [] => [[]]
  | b :: l => if b = c then [] :: spl c l else match spl c l with
    | [] => [[b]]
    | x :: r => (b :: x) :: r
theorem spl_cons (c b : UInt8) (l : List UInt8) : spl c (b :: l) = if b = c then [] :: spl c l else match spl c l with
    | [] => [[b]]
    | x :: r => (b :: x) :: r := rfl
theorem ct_cons (c b : UInt8) (l : List UInt8) : ct c (b :: l) = if b = c then some ([], l) else (ct c l).map fun p => (b :: p.1, p.2) := rfl
theorem spl_ct (c : UInt8) : ∀ l, spl c l = match ct c l with | none => [l] | some p => p.1 :: spl c p.2
  | [] => rfl
  | b :: l => by
    have ih := spl_ct c l
    rw [spl_cons, ct_cons]
    by_cases h : b = c
    · rw [if_pos h, if_pos h]
    · rw [if_neg h, if_neg h, ih]
      cases ct c l with
      | none => rfl
      | some p => rfl
theorem ct_some {c : UInt8} : ∀ {l : List UInt8} {p : List UInt8 × List UInt8}, ct c l = some p → l = p.1 ++ c :: p.2
  | [], p, h => by simp [ct] at h
  | b :: l, p, h => by
    unfold ct at h
    by_cases hb : b = c
    · rw [if_pos hb] at h
      cases h
      rw [hb]; rfl
    · rw [if_neg hb] at h
      obtain ⟨q, hq, rfl⟩ := Option.map_eq_some_iff.1 h
      rw [ct_some hq]; rfl
theorem index_ct (c : UInt8) : ∀ l, Lib.index l [c] = match ct c l with | none => -1 | some p => (p.1.length : Int)
  | [] => rfl
  | b :: l => by
    have ih := index_ct c l
    unfold Lib.index ct
    by_cases h : b = c
    · subst h
      rw [if_pos (by simp [List.isPrefixOf]), if_pos rfl]; rfl
    · rw [if_neg (by simp [List.isPrefixOf, Ne.symm h]), if_neg h, ih]
      cases ct c l with
      | none => rfl
      | some p =>
        show (if ((p.1.length : Int) == -1) = true then (-1 : Int) else (p.1.length : Int) + 1) = ((p.1.length + 1 : Nat) : Int)
        rw [if_neg (by simp)]
        omega
theorem cut_ct (c : UInt8) (l : List UInt8) : Lib.cut l [c] = match ct c l with | none => (l, [], false) | some p => (p.1, p.2, true) := by
  unfold Lib.cut
  rw [index_ct]
  cases h : ct c l with
  | none => rfl
  | some p =>
    have h2 := ct_some h
    simp only
    rw [if_pos (by omega), Int.toNat_natCast]
    congr 1
    · rw [h2, List.take_left]
    · congr 1
      rw [h2]
      show List.drop (p.1.length + 1) (p.1 ++ c :: p.2) = p.2
      rw [List.drop_append]
      simp
theorem count_ct (c : UInt8) (l : List UInt8) : Lib.count l [c] = match ct c l with | none => 0 | some p => Lib.count p.2 [c] + 1 := by
  have hix := index_ct c l
  cases h : ct c l with
  | none => rw [h] at hix; exact Lib.count_miss hix
  | some p =>
    rw [h] at hix
    have h2 := ct_some h
    rw [Lib.count_hit (by simp) hix]
    have : List.drop (p.1.length + [c].length) l = p.2 := by
      rw [h2]
      show List.drop (p.1.length + 1) (p.1 ++ c :: p.2) = p.2
      rw [List.drop_append]
      simp
    rw [this]
    show _ = Lib.count p.2 [c] + 1
    omega
theorem splitK_spl (c : UInt8) : ∀ (k : Nat) (l : List UInt8), Lib.count l [c] = k → Lib.splitK [c] 0 k l = spl c l
  | 0, l, h => by
    rw [spl_ct]
    rw [count_ct] at h
    cases hc : ct c l with
    | none => rfl
    | some p => rw [hc] at h; simp at h
  | k + 1, l, h => by
    rw [spl_ct]
    have h0 := h
    rw [count_ct] at h
    have hix := index_ct c l
    cases hc : ct c l with
    | none => rw [hc] at h; simp at h
    | some p =>
      rw [hc] at h hix
      have h2 := ct_some hc
      unfold Lib.splitK
      rw [if_neg (by rw [hix]; simp), hix, Int.toNat_natCast]
      congr 1
      · rw [h2]; show List.take p.1.length _ = _; rw [List.take_left]
      · have : List.drop (p.1.length + [c].length) l = p.2 := by
          rw [h2]
          show List.drop (p.1.length + 1) (p.1 ++ c :: p.2) = p.2
          rw [List.drop_append]
          simp
        rw [this]
        exact splitK_spl c k p.2 (by simpa using h)
theorem spl_count (c : UInt8) (l : List UInt8) : (spl c l).length = Lib.count l [c] + 1 := by
  have : ∀ k l, Lib.count l [c] = k → (spl c l).length = k + 1 := by
    intro k
    induction k with
    | zero => intro l h; rw [← splitK_spl c 0 l h]; rfl
    | succ k ih =>
      intro l h
      rw [spl_ct]
      rw [count_ct] at h
      cases hc : ct c l with
      | none => rw [hc] at h; simp at h
      | some p => rw [hc] at h; rw [List.length_cons, ih p.2 (by simpa using h)]
  exact this _ l rfl
theorem spl_lens (c : UInt8) : ∀ l, ∀ x ∈ spl c l, x.length ≤ l.length
  | [], x, hx => by simp [spl] at hx; simp [hx]
  | b :: l, x, hx => by
    have ih := spl_lens c l
    unfold spl at hx
    split at hx
    · rcases List.mem_cons.1 hx with rfl | hx
      · simp
      · have := ih x hx; simp; omega
    · split at hx
      · simp at hx; simp [hx]
      · rename_i y r he
        rw [he] at ih
        rcases List.mem_cons.1 hx with rfl | hx
        · have := ih y (by simp); simp; omega
        · have := ih x (by simp [hx]); simp; omega
theorem spl_length_le (c : UInt8) : ∀ l, (spl c l).length ≤ l.length + 1
  | [] => by simp [spl]
  | b :: l => by
    have ih := spl_length_le c l
    unfold spl
    split
    · simp; omega
    · split
      · simp
      · rename_i y r he
        rw [he] at ih
        simp at ih ⊢; omega
/-- All bytes are among cs. -/
theorem dropW_nil {p : UInt8 → Bool} : ∀ {l : List UInt8}, l.dropWhile p = [] ↔ l.all p = true
  | [] => by simp
  | b :: l => by
    rw [List.dropWhile_cons]
    cases h : p b with
    | true => simp [h, dropW_nil (l := l)]
    | false => simp [h]
theorem dropW_hd {p : UInt8 → Bool} : ∀ {l : List UInt8} {x : UInt8} {t : List UInt8}, l.dropWhile p = x :: t → p x = false
  | [], x, t, h => by simp at h
  | b :: l, x, t, h => by
    rw [List.dropWhile_cons] at h
    cases hb : p b with
    | true => rw [hb] at h; exact dropW_hd (by simpa using h)
    | false =>
      rw [hb] at h
      simp at h
      rw [← h.1]; exact hb
theorem trimS_nil (l cs : List UInt8) : Lib.trimS l cs = [] ↔ l.all (cs.contains ·) = true := by
  unfold Lib.trimS Lib.trimLeftS Lib.trimRightS
  rw [dropW_nil]
  constructor
  · intro h
    cases hd : l.reverse.dropWhile (cs.contains ·) with
    | nil => rw [dropW_nil, List.all_reverse] at hd; exact hd
    | cons x t =>
      have h1 := dropW_hd hd
      rw [hd, List.all_reverse] at h
      simp only [List.all_cons, Bool.and_eq_true] at h
      rw [h.1] at h1
      simp at h1
  · intro h
    rw [List.all_reverse, dropW_nil.2 (by rw [List.all_reverse]; exact h)]; rfl
/-! ## The world's facts -/
/-- The library's variable holds some number. -/
theorem ACallT.imp {P : Program} {T T' : World → Prop} {f : FuncId} {ds : List D} {d : D} (h : ACallT P T f ds d) (hi : ∀ w, T' w → T w) : ACallT P T' f ds d := ⟨h.1, fun F w vs hT => h.2 F w vs (hi w hT)⟩
/-! ## The contracts -/
def pcD (l : List UInt8) : List D := [.v (.string (strL l))]
theorem below_drewN (w : World) (n : Nat) : Below w.heap.size w (w.drewN n) := ⟨rfl, rfl, rfl, Nat.le_refl _, fun _ _ => rfl⟩
theorem c_cutA (s : ByteArray) (c : UInt8) (hs : s.size < 4294967281) : ACallT Tryz.prog MaxT 18 [.v (.string s), .v (.string ⟨#[c]⟩)]
  (.tup [.v (.string (strL (Lib.cut s.data.toList [c]).1)), .v (.string (strL (Lib.cut s.data.toList [c]).2.1)), .v (.bool (Lib.cut s.data.toList [c]).2.2)]) :=
 ⟨.of Tryz.func18 (by kernel_rfl) rfl, fun F w vs hT hF hv => by
  rw [repL_v (us := [.string s, .string ⟨#[c]⟩]) hv]
  obtain ⟨m, hm⟩ := hT
  have h := Any.strings_Cut Tryz.l145 s ⟨#[c]⟩ m w hs hm
  change Calls Tryz.prog 18 #[.string s, .string ⟨#[c]⟩] w _ at h
  refine h.mono fun e w' ⟨h1, n, h2⟩ => ?_
  subst h2
  exact ⟨_, F, h1, .tup [_, _, _] [_, _, _] rfl (fun i h1 h2 => by
   match i, h1 with
   | 0, _ => exact .v _
   | 1, _ => exact .v _
   | 2, _ => exact .v _), Ext.of_below hF (below_drewN w n)⟩⟩
theorem c_cutP (s p : ByteArray) : ACall Tryz.prog 51 [.v (.string s), .v (.string p)] (.tup [.v (.string (strL (Lib.trimPrefix s.data.toList p.data.toList))), .v (.bool (Lib.hasPrefix s.data.toList p.data.toList))]) :=
 ⟨.of Tryz.func51 (by kernel_rfl) rfl, fun F w vs hF hv => by
  rw [repL_v (us := [.string s, .string p]) hv]
  have h := Any.strings_CutPrefix Tryz.l103 s p w
  change Calls Tryz.prog 51 #[.string s, .string p] w _ at h
  refine h.mono fun e w' ⟨h1, h2⟩ => ?_
  subst h2
  exact ⟨_, F, h1, .tup [_, _] [_, _] rfl (fun i h1 h2 => by
   match i, h1 with
   | 0, _ => exact .v _
   | 1, _ => exact .v _), Ext.refl hF⟩⟩
def dig10 : ByteArray := ⟨#[48, 49, 50, 51, 52, 53, 54, 55, 56, 57]⟩
theorem c_trimD (s : ByteArray) (hl : s.size ≤ 9223372036854775807) : ACall Tryz.prog 133 [.v (.string s), .v (.string dig10)] (.v (.string (strL (Lib.trimS s.data.toList dig10.data.toList)))) :=
 acall_exact (us := [_, _]) (.of Tryz.func133 (by kernel_rfl) rfl) fun w => by
  have h := Any.strings_Trim_laid Tryz.l160 (by kernel_rfl) s dig10 w hl (by decide) (by
   intro j b hb
   have : ∀ b ∈ dig10.data.toList, b.toNat < 128 := by decide
   exact this b (List.mem_of_getElem? hb))
  change Calls Tryz.prog 133 #[.string s, .string dig10] w _ at h
  exact h
theorem splitB_strL (c : UInt8) (s : ByteArray) : Lib.splitB ⟨#[c]⟩ 0 (Lib.countB s ⟨#[c]⟩) s = (spl c s.data.toList).map strL := by
  have h := Lib.splitB_data ⟨#[c]⟩ 0 (Lib.countB s ⟨#[c]⟩) s
  have h2 : Lib.splitK [c] 0 (Lib.countB s ⟨#[c]⟩) s.data.toList = spl c s.data.toList := splitK_spl c _ _ rfl
  have h3 := h.trans h2
  rw [← h3, List.map_map]
  have : (strL ∘ fun x : ByteArray => x.data.toList) = id := by funext x; cases x; rfl
  rw [this, List.map_id]
theorem c_split (s : ByteArray) (c : UInt8) (hs : s.size < 4294967281) : ACallT Tryz.prog MaxT 53 [.v (.string s), .v (.string ⟨#[c]⟩)] (.sl ((spl c s.data.toList).map pcD)) :=
 ⟨.of Tryz.func53 (by kernel_rfl) rfl, fun F w vs hT hF hv => by
  rw [repL_v (us := [.string s, .string ⟨#[c]⟩]) hv]
  obtain ⟨m, hm⟩ := hT
  have h := Any.strings_Split Tryz.l146 (by kernel_rfl) s ⟨#[c]⟩ m w hs hm (Nat.le_refl 1)
  change Calls Tryz.prog 53 #[.string s, .string ⟨#[c]⟩] w _ at h
  rw [splitB_strL] at h
  refine h.mono fun e w' ⟨h1, h2⟩ => ?_
  subst h2
  have hl : (spl c s.data.toList).length = Lib.countB s ⟨#[c]⟩ + 1 := spl_count c _
  have hll : ((spl c s.data.toList).map pcD).length = Lib.countB s ⟨#[c]⟩ + 1 := by rw [List.length_map, hl]
  have hsz : Lib.countB s ⟨#[c]⟩ ≤ s.size := by
   have := spl_length_le c s.data.toList
   rw [hl, ← Lib.size_eq] at this
   omega
  refine ⟨_, fun b => F b ∨ b = w.heap.size, h1, ?_, fun b hb => .inl hb, fun b hb => ?_, fun b hb => ?_, (Below.refl _ w).alloc (Nat.le_refl _) _⟩
  ·have := Rep.sl (F := fun b => F b ∨ b = w.heap.size) (w := w.alloc (.cells (List.map Value.string (List.map strL (spl c s.data.toList))).toArray (Tryz.l146_ren.t 9))) ⟨w.heap.size, 0, none⟩ (Lib.countB s ⟨#[c]⟩ + 1) 1 ((spl c s.data.toList).map pcD) (fun i _ => .string (strL ((spl c s.data.toList).getD i [])))
    (by omega) (by omega) (fun _ => .inr rfl) (fun i hi => by simp [pcD]) (fun i j hi hj => ?_) (fun i j _ _ => rfl) (fun i hi j hj => ?_)
   ·rw [hll] at this; exact this
   ·have hj0 : j = 0 := by omega
    subst hj0
    have hi' : i < (spl c s.data.toList).length := by simpa using hi
    have := cell_of_row (w.alloc (.cells (List.map Value.string (List.map strL (spl c s.data.toList))).toArray (Tryz.l146_ren.t 9))) w.heap.size i _ _ _ (by simpa using heap_alloc_new w _)
    rw [show (⟨w.heap.size, 0, none⟩ : Addr).add (i * 1 + 0) = ⟨w.heap.size, i, none⟩ by simp [Addr.add]; intro h; exact h.symm, this]
    simp [hi', List.getD_eq_getElem?_getD]
    try omega
   have hj0 : j = 0 := by simp [pcD] at hj; omega
   subst hj0
   have hi' : i < (spl c s.data.toList).length := by simpa using hi
   simp only [List.getElem_map, pcD, List.getElem_cons_zero]
   rw [List.getD_eq_getElem?_getD, List.getElem?_eq_getElem hi']
   exact .v _
  ·rcases hb with hb | rfl
   ·exact .inl hb
   exact .inr (Nat.le_refl _)
  rcases hb with hb | rfl
  ·have := hF b hb; simp; omega
  simp⟩
theorem below_bytesW (w : World) (e : TypeId) (s : ByteArray) : Below w.heap.size w (Lib.bytesWorld w e s) := ⟨rfl, rfl, rfl, by rw [Lib.bytesWorld_size]; omega, fun j hj => Lib.bytesWorld_at_old w e s j hj⟩
theorem c_atoi (s : ByteArray) (n : Int) (hl : s.size ≤ 18) (h : Lib.atoi s.data.toList = some n) : ACall Tryz.prog 134 [.v (.string s)] (.tup [.v (.int .i64 n), .v .nilIface]) :=
 ⟨.of Tryz.func134 (by kernel_rfl) rfl, fun F w vs hF hv => by
  rw [repL_v (us := [.string s]) hv]
  have h := Any.strconv_Atoi Tryz.l172 s n hl h w
  change Calls Tryz.prog 134 #[.string s] w _ at h
  refine h.mono fun e w' ⟨h1, t, h2⟩ => ?_
  subst h2
  exact ⟨_, F, h1, .tup [_, _] [_, _] rfl (fun i h1 h2 => by
   match i, h1 with
   | 0, _ => exact .v _
   | 1, _ => exact .v _), Ext.of_below hF (below_bytesW w _ t)⟩⟩
section
variable {P : Program} {B : Nat} {ops : Array Oper} {o : Oper} {e : Env} {σ : Obs}
/-- err == nil at a nil error. -/
theorem AOp.nilErr {t ty : TypeId} {x : Operand} {ms : Array (String × TypeId)} (ho : o.op = .binOp .eql t x (.const .nilIface) ty) (hu : P.underlying t = some (.interface ms)) (hx : e.ev x = .d (.v .nilIface)) : AOp P B ops o e σ (.d (.v (.bool true))) :=
  .bin (y := .const .nilIface) (u1 := .nilIface) (u2 := .nilIface) (u := .bool true) ho hx rfl fun w => by
    have h1 : (Op.equal t .nilIface .nilIface).run P w = .ok true w := by
      show (Op.equalIn (9999 + 1) t .nilIface .nilIface).run P w = _
      unfold Op.equalIn
      simp [run_underlying hu]
    simp [eqGuard, binOp, h1]
end
end Go.Proofs.YthcdjmkkgbcaaaaGreatDoor
