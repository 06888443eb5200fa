/- Walks and laws over abstract values, merged by tools/merge.py. No statement of the seat. -/
import Derived.Shelf.Spec.SlicesInsert
import Derived.Shelf.Spec.SlicesInsertGrow
import Derived.Test.YthcdjmkkgbcaaaaGreatDoorXW4

namespace Go.Proofs.YthcdjmkkgbcaaaaGreatDoor
open Go.RowKit
set_option linter.unusedVariables false

/-! Types. -/
namespace TyKE
theorem mt_134 : Tryz.prog.underlying 134 = some (.map 3 3) := by kernel_rfl
end TyKE
open TyH3 TyH4 TyH5 TyJ3 TyJ4 TyJ5 TyKA TyKB TyKC TyKD TyKE

/-- k steps by the map. -/
def idN (L : List (Int × Int)) (id : Int) : Nat → Int
  | 0 => id
  | k + 1 => (findG L (idN L id k)).getD 0
def ledP (l : List Thg) (L : List (Int × Int)) : Nat → Int → Option Int
  | 0, _ => none
  | n + 1, id => if thereB l id = true then some id else ledP l L n ((findG L id).getD 0)
theorem idN_shift (L : List (Int × Int)) (id : Int) : ∀ k, idN L ((findG L id).getD 0) k = idN L id (k + 1)
  | 0 => rfl
  | k + 1 => by show (findG L (idN L _ k)).getD 0 = _; rw [idN_shift L id k]; rfl
theorem ledP_hit {l : List Thg} {L : List (Int × Int)} : ∀ {n k : Nat} {id : Int}, k < n → (∀ j, j < k → thereB l (idN L id j) = false) → thereB l (idN L id k) = true → ledP l L n id = some (idN L id k)
  | 0, _, _, h, _, _ => by omega
  | n + 1, 0, id, _, _, h => if_pos h
  | n + 1, k + 1, id, hk, h, h2 => by
    have h0 := h 0 (by omega)
    show (if thereB l id = true then _ else _) = _
    rw [if_neg (by rw [show thereB l id = false from h0]; decide)]
    rw [ledP_hit (k := k) (by omega) (fun j hj => by rw [idN_shift]; exact h (j + 1) (by omega)) (by rw [idN_shift]; exact h2), idN_shift]
theorem ledP_no {l : List Thg} {L : List (Int × Int)} : ∀ {n : Nat} {id : Int}, (∀ j, j < n → thereB l (idN L id j) = false) → ledP l L n id = none
  | 0, _, _ => rfl
  | n + 1, id, h => by
    have h0 := h 0 (by omega)
    show (if thereB l id = true then _ else _) = _
    rw [if_neg (by rw [show thereB l id = false from h0]; decide)]
    exact ledP_no fun j hj => by rw [idN_shift]; exact h (j + 1) (by omega)
theorem led_hit {c : Ctl} : ∀ {n k : Nat} {id : Int}, k < n → (∀ j, j < k → thereB c.things (idN (mvL c.moved) id j) = false ∧ hasM c.moved (idN (mvL c.moved) id j) = true) → thereB c.things (idN (mvL c.moved) id k) = true → led c n id = some (idN (mvL c.moved) id k)
  | 0, _, _, h, _, _ => by omega
  | n + 1, 0, id, _, _, h => if_pos h
  | n + 1, k + 1, id, hk, h, h2 => by
    have h0 := h 0 (by omega)
    show (if thereB c.things id = true then _ else if hasM c.moved id = true then _ else _) = _
    rw [if_neg (by rw [show thereB c.things id = false from h0.1]; decide), if_pos (show hasM c.moved id = true from h0.2)]
    show led c n ((findG (mvL c.moved) id).getD 0) = _
    rw [led_hit (k := k) (by omega) (fun j hj => by rw [idN_shift]; exact h (j + 1) (by omega)) (by rw [idN_shift]; exact h2), idN_shift]
theorem led_gone {c : Ctl} : ∀ {n k : Nat} {id : Int}, k < n → (∀ j, j < k → thereB c.things (idN (mvL c.moved) id j) = false ∧ hasM c.moved (idN (mvL c.moved) id j) = true) → thereB c.things (idN (mvL c.moved) id k) = false → hasM c.moved (idN (mvL c.moved) id k) = false → led c n id = none
  | 0, _, _, h, _, _, _ => by omega
  | n + 1, 0, id, _, _, h, h2 => by
    show (if thereB c.things id = true then _ else if hasM c.moved id = true then _ else _) = _
    rw [if_neg (by rw [show thereB c.things id = false from h]; decide), if_neg (by rw [show hasM c.moved id = false from h2]; decide)]
  | n + 1, k + 1, id, hk, h, h2, h3 => by
    have h0 := h 0 (by omega)
    show (if thereB c.things id = true then _ else if hasM c.moved id = true then _ else _) = _
    rw [if_neg (by rw [show thereB c.things id = false from h0.1]; decide), if_pos (show hasM c.moved id = true from h0.2)]
    exact led_gone (k := k) (by omega) (fun j hj => by rw [show getM c.moved id = (findG (mvL c.moved) id).getD 0 from rfl, idN_shift]; exact h (j + 1) (by omega)) (by rw [show getM c.moved id = (findG (mvL c.moved) id).getD 0 from rfl, idN_shift]; exact h2) (by rw [show getM c.moved id = (findG (mvL c.moved) id).getD 0 from rfl, idN_shift]; exact h3)
theorem led_no {c : Ctl} : ∀ {n : Nat} {id : Int}, (∀ j, j < n → thereB c.things (idN (mvL c.moved) id j) = false ∧ hasM c.moved (idN (mvL c.moved) id j) = true) → led c n id = none
  | 0, _, _ => rfl
  | n + 1, id, h => by
    have h0 := h 0 (by omega)
    show (if thereB c.things id = true then _ else if hasM c.moved id = true then _ else _) = _
    rw [if_neg (by rw [show thereB c.things id = false from h0.1]; decide), if_pos (show hasM c.moved id = true from h0.2)]
    exact led_no fun j hj => by rw [show getM c.moved id = (findG (mvL c.moved) id).getD 0 from rfl, idN_shift]; exact h (j + 1) (by omega)
theorem ledP_zero {l : List Thg} {L : List (Int × Int)} (h0 : thereB l 0 = false) (hm : findG L 0 = none) : ∀ n, ledP l L n 0 = none
  | 0 => rfl
  | n + 1 => by
    show (if thereB l 0 = true then _ else _) = _
    rw [if_neg (by rw [h0]; decide), hm]
    exact ledP_zero h0 hm n
theorem ledP_same {c : Ctl} (h0 : thereB c.things 0 = false) (hm : hasM c.moved 0 = false) : ∀ n id, ledP c.things (mvL c.moved) n id = led c n id
  | 0, _ => rfl
  | n + 1, id => by
    have hm' : findG (mvL c.moved) 0 = none := by unfold hasM at hm; cases hq : findG (mvL c.moved) 0 with
      | none => rfl
      | some _ => rw [hq] at hm; cases hm
    show (if thereB c.things id = true then some id else ledP c.things (mvL c.moved) n ((findG (mvL c.moved) id).getD 0)) = (if thereB c.things id = true then _ else if hasM c.moved id = true then _ else _)
    by_cases h1 : thereB c.things id = true
    · rw [if_pos h1, if_pos h1]
    · rw [if_neg h1, if_neg h1]
      by_cases h2 : hasM c.moved id = true
      · rw [if_pos h2]; exact ledP_same h0 hm n _
      · rw [if_neg h2]
        unfold hasM at h2
        cases hq : findG (mvL c.moved) id with
        | some _ => rw [hq] at h2; exact absurd rfl h2
        | none => exact ledP_zero h0 hm' n
/-- The map of the numbers that moved. -/
def toL (m : List Mvd) : List (Int × Int) := m.foldl (fun L x => putG L x.src x.dst) []
theorem toL_next {m : List Mvd} {k : Nat} (hk : k < m.length) : toL (m.take (k + 1)) = putG (toL (m.take k)) m[k].src m[k].dst := by
  unfold toL
  rw [List.take_add_one, List.getElem?_eq_getElem hk, Option.toList_some, List.foldl_append]; rfl
theorem foldl_nk : ∀ (m : List Mvd) (L : List (Int × Int)), NkG L → NkG (m.foldl (fun L x => putG L x.src x.dst) L)
  | [], _, h => h
  | x :: m, L, h => foldl_nk m _ (putG_nk h _ _)
theorem toL_nk (m : List Mvd) : NkG (toL m) := foldl_nk m [] (by unfold NkG; exact List.Pairwise.nil)
theorem foldl_mem (P : Int × Int → Prop) : ∀ (m : List Mvd) (L : List (Int × Int)), (∀ x ∈ m, P (x.src, x.dst)) → (∀ p ∈ L, P p) → ∀ p ∈ m.foldl (fun L x => putG L x.src x.dst) L, P p
  | [], _, _, h => h
  | x :: m, L, h, h2 => foldl_mem P m _ (fun y hy => h y (List.mem_cons_of_mem _ hy)) fun p hp => by
    unfold putG at hp
    dsimp only at hp
    by_cases hh : hasG L x.src = true
    · rw [if_pos hh] at hp
      obtain ⟨q, hq, rfl⟩ := List.mem_map.1 hp
      by_cases h3 : q.1 = x.src
      · rw [if_pos h3]; exact h x List.mem_cons_self
      · rw [if_neg h3]; exact h2 q hq
    · rw [if_neg hh, List.mem_append, List.mem_singleton] at hp
      rcases hp with hp | hp
      · exact h2 p hp
      · rw [hp]; exact h x List.mem_cons_self
theorem toL_ok {m : List Mvd} (h : ∀ x ∈ m, i64 x.src ∧ i64 x.dst) : ∀ p ∈ toL m, i64 p.1 ∧ i64 p.2 := foldl_mem (fun p => i64 p.1 ∧ i64 p.2) m [] h fun p hp => by cases hp
theorem foldl_has : ∀ (m : List Mvd) (L : List (Int × Int)) (id : Int), hasG (m.foldl (fun L x => putG L x.src x.dst) L) id = (hasG L id || m.any fun x => decide (x.src = id))
  | [], L, id => by simp
  | x :: m, L, id => by
    rw [List.foldl_cons, foldl_has m _ id]
    have h1 : hasG (putG L x.src x.dst) id = (hasG L id || decide (x.src = id)) := by
      have e1 : hasG (putG L x.src x.dst) id = (findG (putG L x.src x.dst) id).isSome := by
        cases hq : findG (putG L x.src x.dst) id with
        | none => exact findG_none.1 hq
        | some v => cases hh : hasG (putG L x.src x.dst) id with
          | true => rfl
          | false => rw [findG_none.2 hh] at hq; cases hq
      have e2 : hasG L id = (findG L id).isSome := by
        cases hq : findG L id with
        | none => exact findG_none.1 hq
        | some v => cases hh : hasG L id with
          | true => rfl
          | false => rw [findG_none.2 hh] at hq; cases hq
      rw [e1, e2, findG_put]
      by_cases h : id = x.src
      · simp [h]
      · have : ¬ x.src = id := fun e => h e.symm
        simp [h, this]
    rw [h1]
    simp [Bool.or_assoc]
theorem isSome_has {κ β : Type} [DecidableEq κ] (L : List (κ × β)) (k : κ) : (findG L k).isSome = hasG L k := by
  cases hq : findG L k with
  | none => exact (findG_none.1 hq).symm
  | some v => cases hh : hasG L k with
    | true => rfl
    | false => rw [findG_none.2 hh] at hq; cases hq
theorem toL_has (m : List Mvd) (id : Int) : (findG (toL m) id).isSome = hasM m id := by
  rw [isSome_has]
  unfold toL
  rw [foldl_has]
  unfold hasM
  rw [isSome_has]
  simp [hasG, mvL]
  rfl
/-- Numbers that rise. -/
structure RisM (m : List Mvd) : Prop where
  rng : ∀ x ∈ m, 1 ≤ x.src ∧ x.src ≤ 1000000
  up : ∀ i j (hi : i < m.length) (hj : j < m.length), i < j → m[i].src < m[j].src
theorem mvF_0 {c : Ctl} {k : Nat} (hk : k < c.moved.length) (h : mvF c k = 0) : (1 ≤ c.moved[k].src ∧ c.moved[k].src ≤ 1000000) ∧ (∀ h0 : 0 < k, (c.moved[k-1]'(by omega)).src < c.moved[k].src) := by
  unfold mvF at h
  rw [dif_pos hk] at h
  by_cases h1 : c.moved[k].src < 1 ∨ 1000000 < c.moved[k].src
  · rw [if_pos h1] at h; omega
  · rw [if_neg h1] at h
    by_cases h2 : 0 < k ∧ c.moved[k].src ≤ (c.moved[k-1]'(by omega)).src
    · rw [if_pos h2] at h; omega
    · exact ⟨by omega, fun h0 => by
        have h3 : ¬ c.moved[k].src ≤ (c.moved[k-1]'(by omega)).src := fun h3 => h2 ⟨h0, h3⟩
        omega⟩
theorem risM_of {c : Ctl} (h : ffst (mvF c) c.moved.length = 0) : RisM c.moved := by
  have h0 := fun k (hk : k < c.moved.length) => mvF_0 hk (ffst_all _ h k hk)
  refine ⟨fun t ht => ?_, ?_⟩
  · obtain ⟨k, hk, rfl⟩ := List.mem_iff_getElem.1 ht
    exact (h0 k hk).1
  · intro i j hi hj hij
    induction j with
    | zero => omega
    | succ j ih =>
      have h1 := (h0 (j + 1) hj).2 (by omega)
      simp only [Nat.add_sub_cancel] at h1
      by_cases he : i = j
      · subst he; exact h1
      · have := ih (by omega) (by omega); omega
theorem toL_take {m : List Mvd} (h : RisM m) : ∀ k, k ≤ m.length → toL (m.take k) = mvL (m.take k)
  | 0, _ => by simp [toL, mvL]
  | k + 1, hk => by
    have hk' : k < m.length := by omega
    rw [toL_next hk', toL_take h k (by omega)]
    have hno : ¬ hasG (mvL (m.take k)) m[k].src = true := fun hh => by
      obtain ⟨p, hp, he⟩ := hasG_iff.1 hh
      unfold mvL at hp
      obtain ⟨t, ht, rfl⟩ := List.mem_map.1 hp
      obtain ⟨j, hj, rfl⟩ := List.mem_iff_getElem.1 ht
      rw [List.length_take] at hj
      rw [List.getElem_take] at he
      have := h.up j k (by omega) hk' (by omega)
      dsimp only at he
      omega
    unfold putG
    rw [if_neg hno]
    unfold mvL
    rw [List.take_add_one, List.getElem?_eq_getElem hk', Option.toList_some, List.map_append]
    rfl
theorem toL_ris {m : List Mvd} (h : RisM m) : toL m = mvL m := by
  have := toL_take h m.length (Nat.le_refl _)
  rwa [List.take_length] at this
theorem RisM.zero {m : List Mvd} (h : RisM m) : hasM m 0 = false := by
  unfold hasM
  rw [findM_none.2 fun x hx => by have := h.rng x hx; omega]
  rfl
theorem mvL_len (m : List Mvd) : (mvL m).length = m.length := List.length_map ..
theorem idN_ok {L : List (Int × Int)} (h : ∀ p ∈ L, i64 p.1 ∧ i64 p.2) {id : Int} (hi : i64 id) : ∀ k, i64 (idN L id k)
  | 0 => hi
  | k + 1 => by
    show i64 ((findG L (idN L id k)).getD 0)
    unfold findG
    cases hq : L.find? fun p => decide (p.1 = idN L id k) with
    | none => exact i64_0
    | some p => exact (h p (List.mem_of_find?_eq_some hq)).2
theorem get_to {L : List (Int × Int)} (h : NkG L) (id : Int) : MGet (toM L) (kI id) (.v (.int .i64 0)) (.v (.int .i64 ((findG L id).getD 0))) :=
  mgetG (kv := kI) (dv := dI) kI_inj h id _ _ (by cases findG L id <;> rfl)
theorem getok_to {L : List (Int × Int)} (h : NkG L) (id : Int) : MGetOk (toM L) (kI id) (.v (.int .i64 0)) (.v (.int .i64 ((findG L id).getD 0))) (findG L id).isSome :=
  mgetokG (kv := kI) (dv := dI) kI_inj h id _ _ (by cases findG L id <;> rfl)
theorem put_to {m : List Mvd} {k : Nat} (hk : k < m.length) : MPut (toM (toL (m.take k))) (kI m[k].src) (.v (.int .i64 m[k].dst)) (toM (toL (m.take (k + 1)))) := by
  rw [toL_next hk]
  exact mputG (kv := kI) (dv := dI) kI_inj (toL_nk _) m[k].src m[k].dst
theorem to_len (L : List (Int × Int)) : (toM L).length = L.length := by simp [toM, encG]
theorem th_next {l : List Thg} {L : List (Int × Int)} {id : Int} {k : Nat} (h : ∀ j, j < k → thereB l (idN L id j) = false) (h2 : thereB l (idN L id k) = false) : ∀ j, j < k + 1 → thereB l (idN L id j) = false := fun j hj => by
  by_cases he : j = k
  · subst he; exact h2
  · exact h j (by omega)
theorem thm_next {c : Ctl} {L : List (Int × Int)} {id : Int} {k : Nat} (h : ∀ j, j < k → thereB c.things (idN L id j) = false ∧ hasM c.moved (idN L id j) = true) (h2 : thereB c.things (idN L id k) = false) (h3 : hasM c.moved (idN L id k) = true) : ∀ j, j < k + 1 → thereB c.things (idN L id j) = false ∧ hasM c.moved (idN L id j) = true := fun j hj => by
  by_cases he : j = k
  · subst he; exact ⟨h2, h3⟩
  · exact h j (by omega)
theorem mvd_a {c : Ctl} {k : Nat} {n : Int} (hk : k < c.moved.length) (hf : ffst (mvF c) k = 0) (h2 : mvF c k = n) (hn : n ≠ 0) : mvdF c = n := by
  have h3 := ffst_hit hf (by rw [h2]; exact hn) _ hk
  unfold mvdF
  rw [h3, h2, if_pos hn]
theorem mvd_b {c : Ctl} (hf : ffst (mvF c) c.moved.length = 0) : mvdF c = ffst (lpF c) c.moved.length := if_neg (by rw [hf]; exact fun h => h rfl)
theorem lp_14 {c : Ctl} {k : Nat} (hk : k < c.moved.length) (h : (ledC c c.moved[k].src).isSome = false) : lpF c k = 14 := by unfold lpF; rw [dif_pos hk, if_pos h]
theorem lp_0 {c : Ctl} {k : Nat} (hk : k < c.moved.length) (h : (ledC c c.moved[k].src).isSome = true) : lpF c k = 0 := by unfold lpF; rw [dif_pos hk, if_neg (by rw [h]; decide)]
theorem mvd_c {c : Ctl} {k : Nat} (hf : ffst (mvF c) c.moved.length = 0) (hk : k < c.moved.length) (h : ffst (lpF c) k = 0) (h2 : (ledC c c.moved[k].src).isSome = false) : mvdF c = 14 := by
  rw [mvd_b hf, ffst_hit h (by rw [lp_14 hk h2]; decide) _ hk, lp_14 hk h2]

set_option maxRecDepth 100000 in
set_option maxHeartbeats 1000000 in
theorem c_found (l : List Thg) (L : List (Int × Int)) (id : Int) (hl : ∀ x ∈ l, ThgOk x) (hn : RisT l) (hL : ∀ p ∈ L, i64 p.1 ∧ i64 p.2) (hk0 : NkG L) (hi : i64 id) (hll : L.length ≤ 300) : ACall Tryz.prog 93 [.fm (idxM l), .fm (toM L), .v (.int .i64 id)] (.tup [.v (.int .i64 ((ledP l L (L.length + 1) id).getD 0)), .v (.bool (ledP l L (L.length + 1) id).isSome)]) := by
 refine acall_of (n := 27) (ds' := [.v (.int .i64 ((ledP l L (L.length + 1) id).getD 0)), .v (.bool (ledP l L (L.length + 1) id).isSome)]) Tryz.func93 rfl (by kernel_rfl) rfl [6, 7] rfl rfl ?_
 intro B w0 F0 fr
 refine .sr ?_
 refine .aA ?_
 refine .aA (.nil ?_)
 refine .seq ?_
 refine .sr ?_
 refine .mA ?_
 refine .sA (.lenF rfl mt_134 rfl) ?_
 rw [to_len]
 refine .sA (.add64 rfl rfl rfl (by omega) (by omega)) ?_
 refine .mA (.nil ?_)
 refine .block ?_
 refine .loop (G := Nat) (fun k => Env.of [(13, .d (.v (.int .i64 (k : Int)))), (12, .d (.v (.int .i64 ((L.length : Int) + 1)))), (2, .d (.v (.int .i64 (idN L id k)))), (0, .d (.fm (idxM l))), (1, .d (.fm (toM L)))]) (fun k => []) (fun k => k ≤ L.length + 1 ∧ ∀ j, j < k → thereB l (idN L id j) = false) (fun k => L.length + 1 - k) 0 ⟨Nat.zero_le _, fun j hj => by omega⟩ (Sub.less ⟨(SLe.of_eq rfl), SLe.refl _, (SLe.of_eq rfl), SLe.refl _, SLe.refl _, trivial⟩ (fun _ h => h)) ?_
 intro k hk
 refine .sr ?_
 refine .sA (.lss rfl rfl rfl) (.nil ?_)
 refine .seq ?_
 refine .cond rfl (fun h1 => ?_) (fun h1 => ?_)
 ·replace h1 := of_decide_eq_true h1
  have hlt : k < L.length + 1 := by omega
  refine .skip ?_
  refine .seq ?_
  refine .block ?_
  refine .seq ?_
  refine .sr ?_
  refine .mA ?_
  refine .mA ?_
  refine .sA (.lookupOkF (key := kI (idN L id k)) rfl mt_idx kd_int zt_thg zd_thg rfl rfl (DExact.v _) (kI_ok (idN_ok hL hi k)) (idxM_keys hl) _ (getok_idx hn.nk _)) ?_
  refine .mA ?_
  refine .sA (.extract rfl rfl rfl) ?_
  refine .sA (.extract rfl rfl rfl) ?_
  refine .alloc 101 rfl rfl rfl rfl zt_61 rfl rfl rfl ?_
  refine .store rfl rfl rfl sz_61 rfl (.head _) rfl rfl rfl (Nat.le_of_ble_eq_true rfl) ?_
  refine .freezeCells 8 (ds := (getT l (idN L id k)).ds) rfl (.head _) ?_
  refine .aA (.nil ?_)
  refine .sr ?_
  refine .mA (.nil ?_)
  refine .cond rfl (fun h2 => ?_) (fun h2 => ?_)
  ·skip
   rw [ledP_hit hlt hk.2 h2]
   refine .sr ?_
   refine .mA ?_
   refine .aA ?_
   refine .aA (.nil ?_)
   refine .ret ?_
   refine ⟨RetD.eq rfl ?_, RetD.eq rfl ?_, trivial⟩
   all_goals (rfl)
  have HN := th_next hk.2 h2
  refine .skip ?_
  refine .region ?_
  refine .mA ?_
  refine .mA ?_
  refine .sA (.lookupF (key := kI (idN L id k)) rfl mt_to kd_int zt_int zd_int rfl rfl (DExact.v _) (kI_ok (idN_ok hL hi k)) (toM_keys fun p hp => (hL p hp).1) (get_to hk0 _)) ?_
  refine .aA (.nil ?_)
  refine .region ?_
  refine .sA (.add64 rfl rfl rfl (by omega) (by omega)) ?_
  refine .mA (.nil ?_)
  refine ⟨k + 1, ⟨by omega, HN⟩, (by dsimp only; omega), Sub.less ⟨(SLe.of_eq rfl), SLe.refl _, (SLe.of_eq rfl), SLe.refl _, SLe.refl _, trivial⟩ (fun _ h => h)⟩
 replace h1 := of_decide_eq_false h1
 rw [ledP_no (fun j hj => hk.2 j (by omega))]
 refine .exit ?_
 refine .sr ?_
 refine .aA ?_
 refine .aA (.nil ?_)
 refine .ret ?_
 refine ⟨RetD.eq rfl ?_, RetD.eq rfl ?_, trivial⟩
 all_goals (rfl)

set_option maxRecDepth 100000 in
set_option maxHeartbeats 1000000 in
theorem c_find (c : Ctl) (id : Int) (hl : Lim c) : ACall Tryz.prog 101 [.agg c.ds, .v (.int .i64 id)] (.tup [.v (.int .i64 ((ledC c id).getD 0)), .v (.bool (ledC c id).isSome)]) := by
 refine acall_of (n := 34) (ds' := [.v (.int .i64 ((ledC c id).getD 0)), .v (.bool (ledC c id).isSome)]) Tryz.func101 rfl (by kernel_rfl) rfl [4, 5] rfl rfl ?_
 intro B w0 F0 fr
 have hl2 := hl.2
 refine .sr ?_
 refine .sA (.box rfl rfl rfl) ?_
 refine .aA ?_
 refine .aA (.nil ?_)
 refine .seq ?_
 refine .sr ?_
 refine .sA (.fieldAddr rfl fo_25_1 rfl) ?_
 refine .sA (.load rfl sc_23 rfl) ?_
 refine .sA (.lenSl rfl et_23.ht rfl) ?_
 rw [List.length_map]
 refine .sA (.add64 rfl rfl rfl (by omega) (by omega)) ?_
 refine .mA (.nil ?_)
 refine .block ?_
 refine .loop (G := Nat) (fun k => Env.of [(14, .d (.v (.int .i64 (k : Int)))), (13, .d (.v (.int .i64 ((c.moved.length : Int) + 1)))), (1, .d (.v (.int .i64 (idN (mvL c.moved) id k)))), (2, .d (.fp c.ds))]) (fun k => []) (fun k => k ≤ c.moved.length + 1 ∧ ∀ j, j < k → thereB c.things (idN (mvL c.moved) id j) = false ∧ hasM c.moved (idN (mvL c.moved) id j) = true) (fun k => c.moved.length + 1 - k) 0 ⟨Nat.zero_le _, fun j hj => by omega⟩ (Sub.less ⟨(SLe.of_eq rfl), SLe.refl _, (SLe.of_eq rfl), SLe.refl _, trivial⟩ (fun _ h => h)) ?_
 intro k hk
 refine .sr ?_
 refine .sA (.lss rfl rfl rfl) (.nil ?_)
 refine .seq ?_
 refine .cond rfl (fun h1 => ?_) (fun h1 => ?_)
 ·replace h1 := of_decide_eq_true h1
  have hlt : k < c.moved.length + 1 := by omega
  refine .skip ?_
  refine .seq ?_
  refine .block ?_
  refine .seq ?_
  refine .sr ?_
  refine .sA (.loadAgg rfl ag_25 rfl rfl) ?_
  refine .mA ?_
  refine .sA (.call rfl (.cons (.rfl' rfl) (.cons (.rfl' rfl) .nil)) (c_thing c _ hl.two)) ?_
  refine .mA ?_
  refine .sA (.extract rfl rfl rfl) ?_
  refine .sA (.extract rfl rfl rfl) ?_
  refine .alloc 101 rfl rfl rfl rfl zt_61 rfl rfl rfl ?_
  refine .store rfl rfl rfl sz_61 rfl (.head _) rfl rfl rfl (Nat.le_of_ble_eq_true rfl) ?_
  refine .freezeCells 6 (ds := (getT c.things (idN (mvL c.moved) id k)).ds) rfl (.head _) ?_
  refine .aA (.nil ?_)
  refine .sr ?_
  refine .mA (.nil ?_)
  refine .cond rfl (fun h2 => ?_) (fun h2 => ?_)
  ·skip
   rw [show ledC c id = _ from led_hit hlt hk.2 h2]
   refine .sr ?_
   refine .mA ?_
   refine .aA ?_
   refine .aA (.nil ?_)
   refine .ret ?_
   refine ⟨RetD.eq rfl ?_, RetD.eq rfl ?_, trivial⟩
   all_goals (rfl)
  have hth := h2
  refine .skip ?_
  refine .sr ?_
  refine .sA (.loadAgg rfl ag_25 rfl rfl) ?_
  refine .mA ?_
  refine .sA (.call rfl (.cons (.rfl' rfl) (.cons (.rfl' rfl) .nil)) (c_moved c _ hl.two)) ?_
  refine .mA ?_
  refine .sA (.extract rfl rfl rfl) ?_
  refine .sA (.extract rfl rfl rfl) ?_
  refine .aA ?_
  refine .aA (.nil ?_)
  refine .seq ?_
  refine .sr ?_
  refine .mA ?_
  refine .sA (.not rfl rfl) (.nil ?_)
  refine .cond rfl (fun h3 => ?_) (fun h3 => ?_)
  ·replace h3 := bnot_t h3
   rw [show ledC c id = none from led_gone hlt hk.2 hth h3]
   refine .sr ?_
   refine .aA ?_
   refine .aA (.nil ?_)
   refine .ret ?_
   refine ⟨RetD.eq rfl ?_, RetD.eq rfl ?_, trivial⟩
   all_goals (rfl)
  replace h3 := bnot_f h3
  have HN := thm_next hk.2 hth h3
  refine .skip ?_
  refine .region ?_
  refine .mA ?_
  refine .aA (.nil ?_)
  refine .region ?_
  refine .sA (.add64 rfl rfl rfl (by omega) (by omega)) ?_
  refine .mA (.nil ?_)
  refine ⟨k + 1, ⟨by omega, HN⟩, (by dsimp only; omega), Sub.less ⟨(SLe.of_eq rfl), SLe.refl _, (SLe.of_eq rfl), SLe.refl _, trivial⟩ (fun _ h => h)⟩
 replace h1 := of_decide_eq_false h1
 rw [show ledC c id = none from led_no (fun j hj => hk.2 j (by omega))]
 refine .exit ?_
 refine .sr ?_
 refine .aA ?_
 refine .aA (.nil ?_)
 refine .ret ?_
 refine ⟨RetD.eq rfl ?_, RetD.eq rfl ?_, trivial⟩
 all_goals (rfl)

end Go.Proofs.YthcdjmkkgbcaaaaGreatDoor

namespace Go.Proofs.YthcdjmkkgbcaaaaGreatDoor
open Go.RowKit
set_option linter.unusedVariables false

/-! Types. -/
namespace TyKF
end TyKF
open TyH3 TyH4 TyH5 TyJ3 TyJ4 TyJ5 TyKA TyKB TyKC TyKD TyKE TyKF

theorem led_ris {c : Ctl} (hr : RisT c.things) (hm : RisM c.moved) (n : Nat) (id : Int) : ledP c.things (mvL c.moved) n id = led c n id := ledP_same hr.zero hm.zero n id
theorem led_def (c : Ctl) (id : Int) : led c ((mvL c.moved).length + 1) id = ledC c id := by rw [mvL_len]; rfl

set_option maxRecDepth 100000 in
set_option maxHeartbeats 1000000 in
theorem c_pMvd (c : Ctl) (hl : Lim c) (hc : CtlOk c) (hr : RisT c.things) : ACall Tryz.prog 58 [.agg c.ds, .fm (idxM c.things)] (.v (.int .i64 (mvdF c))) := by
 refine acall_of (n := 111) (ds' := [.v (.int .i64 (mvdF c))]) Tryz.func58 rfl (by kernel_rfl) rfl [4] rfl rfl ?_
 intro B w0 F0 fr
 have hl2 := hl.2
 refine .sr ?_
 refine .sA (.box rfl rfl rfl) ?_
 refine .aA (.nil ?_)
 refine .sr ?_
 refine .makeMap 91 rfl rfl rfl rfl rfl ?_
 refine .sA (.assignO rfl rfl) (.nil ?_)
 refine .seq ?_
 refine .sr ?_
 refine .sA (.fieldAddr rfl fo_25_1 rfl) ?_
 refine .sA (.load rfl sc_23 rfl) ?_
 refine .sA (.lenSl rfl et_23.ht rfl) ?_
 refine .mA (.nil ?_)
 refine .block ?_
 refine .loop (G := Nat) (fun k => Env.of [(24, .d (.v (.int .i64 (k : Int)))), (22, .d (.sl (c.moved.map Mvd.ds))), (23, .d (.v (.int .i64 ((c.moved.map Mvd.ds).length : Int)))), (5, .own 91), (2, .d (.fp c.ds)), (1, .d (.fm (idxM c.things)))]) (fun k => [(91, .map (toM (toL (c.moved.take k))))]) (fun k => k ≤ c.moved.length) (fun k => c.moved.length - k) 0 (Nat.zero_le _) (Sub.less ⟨(SLe.of_eq rfl), SLe.refl _, SLe.refl _, SLe.refl _, SLe.refl _, SLe.refl _, trivial⟩ (map_1 rfl)) ?_
 intro k hk
 refine .sr ?_
 refine .sA (.lss rfl rfl rfl) (.nil ?_)
 refine .seq ?_
 refine .cond rfl (fun h1 => ?_) (fun h1 => ?_)
 ·replace h1 := of_decide_eq_true h1
  rw [List.length_map] at h1
  have hlt : k < c.moved.length := by omega
  have hbk := hc.moved _ (List.getElem_mem hlt)
  refine .skip ?_
  refine .seq ?_
  refine .block ?_
  refine .sr ?_
  refine .sA (.indexAddr rfl et_23 rfl rfl k rfl (at_lst hlt) rfl) ?_
  refine .sA (.loadAgg rfl ag_54 rfl rfl) ?_
  refine .alloc 102 rfl rfl rfl rfl zt_54 rfl rfl rfl ?_
  refine .store rfl rfl rfl sz_54 rfl (.head _) rfl rfl rfl (Nat.le_of_ble_eq_true rfl) ?_
  refine .freezeCells 7 (ds := c.moved[k].ds) rfl (.head _) (.nil ?_)
  refine .region ?_
  refine .sA (.moveO rfl rfl) ?_
  refine .sA (.fieldAddr rfl fo_54_0 rfl) ?_
  refine .sA (.load rfl sc_3 rfl) ?_
  refine .sA (.fieldAddr rfl fo_54_1 rfl) ?_
  refine .sA (.load rfl sc_3 rfl) ?_
  refine .eff rfl rfl (.mapUpdateX (key := kI c.moved[k].src) rfl rfl mt_to kd_int rfl (.head _) rfl (DExact.v _) rfl (kI_ok hbk.1) (toM_keys fun p hp => (toL_ok (fun x hx => hc.moved x (List.mem_of_mem_take hx)) p hp).1) (put_to hlt)) (.nil ?_)
  refine .region ?_
  refine .sA (.add64 rfl rfl rfl (by omega) (by omega)) ?_
  refine .mA (.nil ?_)
  refine ⟨k + 1, (by omega), (by dsimp only; omega), Sub.less ⟨(SLe.of_eq rfl), SLe.refl _, SLe.refl _, SLe.refl _, SLe.refl _, SLe.refl _, trivial⟩ (map_1 rfl)⟩
 replace h1 := of_decide_eq_false h1
 rw [List.length_map] at h1
 obtain rfl : k = c.moved.length := by omega
 rw [List.take_length]
 refine .exit ?_
 refine .seq ?_
 refine .seq ?_
 refine .freezeMap 5 rfl (.head _) ?_
 refine .region ?_
 refine .sA (.fieldAddr rfl fo_25_1 rfl) ?_
 refine .sA (.load rfl sc_23 rfl) ?_
 refine .sA (.lenSl rfl et_23.ht rfl) ?_
 refine .mA (.nil ?_)
 refine .block ?_
 refine .loop (G := Nat) (fun k => Env.of [(37, .d (.v (.int .i64 (k : Int)))), (35, .d (.sl (c.moved.map Mvd.ds))), (36, .d (.v (.int .i64 ((c.moved.map Mvd.ds).length : Int)))), (5, .d (.fm (toM (toL c.moved)))), (2, .d (.fp c.ds)), (1, .d (.fm (idxM c.things)))]) (fun k => []) (fun k => k ≤ c.moved.length ∧ ffst (mvF c) k = 0) (fun k => c.moved.length - k) 0 ⟨Nat.zero_le _, rfl⟩ (Sub.less ⟨(SLe.of_eq rfl), SLe.refl _, SLe.refl _, SLe.refl _, SLe.refl _, SLe.refl _, trivial⟩ (fun _ h => h)) ?_
 intro k hk
 refine .sr ?_
 refine .sA (.lss rfl rfl rfl) (.nil ?_)
 refine .seq ?_
 refine .cond rfl (fun h2 => ?_) (fun h2 => ?_)
 ·replace h2 := of_decide_eq_true h2
  rw [List.length_map] at h2
  have hlt : k < c.moved.length := by omega
  have hbk := hc.moved _ (List.getElem_mem hlt)
  refine .skip ?_
  refine .seq ?_
  refine .block ?_
  refine .sr ?_
  refine .mA ?_
  refine .sA (.indexAddr rfl et_23 rfl rfl k rfl (at_lst hlt) rfl) ?_
  refine .sA (.loadAgg rfl ag_54 rfl rfl) ?_
  refine .alloc 103 rfl rfl rfl rfl zt_54 rfl rfl rfl ?_
  refine .aA ?_
  refine .store rfl rfl rfl sz_54 rfl (.head _) rfl rfl rfl (Nat.le_of_ble_eq_true rfl) ?_
  refine .freezeCells 9 (ds := c.moved[k].ds) rfl (.head _) (.nil ?_)
  refine .seq ?_
  refine .sr ?_
  refine .sA (.fieldAddr rfl fo_54_0 rfl) ?_
  refine .sA (.load rfl sc_3 rfl) ?_
  refine .sA (.lss rfl rfl rfl) ?_
  refine .mA ?_
  refine .split 45 rfl (fun g3 => ?_) (fun g3 => ?_)
  ·replace g3 := of_decide_eq_true g3
   refine .pA ?_
   refine .pA ?_
   refine .pA ?_
   refine .sA (.pickT rfl rfl rfl) (.nil ?_)
   refine .cond rfl (fun _ => ?_) (fun h => nomatch h)
   refine .sr ?_
   refine .aA (.nil ?_)
   refine .ret ?_
   refine ⟨RetD.eq rfl ?_, trivial⟩
   all_goals (first | rw [HR] | rw [mvd_a hlt hk.2 (show mvF c k = 1 from by unfold mvF; rw [dif_pos hlt]; (first | (exfalso; omega) | ((repeat (first | rw [if_pos (by first | assumption | omega)] | rw [if_neg (by first | assumption | omega)])); first | done | rfl | omega | decide))) (by decide)] | rw [mvd_a hlt hk.2 (show mvF c k = 8 from by unfold mvF; rw [dif_pos hlt]; (first | (exfalso; omega) | ((repeat (first | rw [if_pos (by first | assumption | omega)] | rw [if_neg (by first | assumption | omega)])); first | done | rfl | omega | decide))) (by decide)] | rw [mvd_a hlt hk.2 (show mvF c k = 7 from by unfold mvF; rw [dif_pos hlt]; (first | (exfalso; omega) | ((repeat (first | rw [if_pos (by first | assumption | omega)] | rw [if_neg (by first | assumption | omega)])); first | done | rfl | omega | decide))) (by decide)] | rw [mvd_a hlt hk.2 (show mvF c k = 9 from by unfold mvF; rw [dif_pos hlt]; (first | (exfalso; omega) | ((repeat (first | rw [if_pos (by first | assumption | omega)] | rw [if_neg (by first | assumption | omega)])); first | done | rfl | omega | decide))) (by decide)])
  replace g3 := of_decide_eq_false g3
  refine .sG (.fieldAddr rfl fo_54_0 rfl) ?_
  refine .sG (.load rfl sc_3 rfl) ?_
  refine .sG (.gtr rfl rfl rfl) ?_
  refine .sA (.pickF rfl rfl rfl) (.nil ?_)
  refine .cond rfl (fun h4 => ?_) (fun h4 => ?_)
  ·replace h4 := of_decide_eq_true h4
   refine .sr ?_
   refine .aA (.nil ?_)
   refine .ret ?_
   refine ⟨RetD.eq rfl ?_, trivial⟩
   all_goals (first | rw [HR] | rw [mvd_a hlt hk.2 (show mvF c k = 1 from by unfold mvF; rw [dif_pos hlt]; (first | (exfalso; omega) | ((repeat (first | rw [if_pos (by first | assumption | omega)] | rw [if_neg (by first | assumption | omega)])); first | done | rfl | omega | decide))) (by decide)] | rw [mvd_a hlt hk.2 (show mvF c k = 8 from by unfold mvF; rw [dif_pos hlt]; (first | (exfalso; omega) | ((repeat (first | rw [if_pos (by first | assumption | omega)] | rw [if_neg (by first | assumption | omega)])); first | done | rfl | omega | decide))) (by decide)] | rw [mvd_a hlt hk.2 (show mvF c k = 7 from by unfold mvF; rw [dif_pos hlt]; (first | (exfalso; omega) | ((repeat (first | rw [if_pos (by first | assumption | omega)] | rw [if_neg (by first | assumption | omega)])); first | done | rfl | omega | decide))) (by decide)] | rw [mvd_a hlt hk.2 (show mvF c k = 9 from by unfold mvF; rw [dif_pos hlt]; (first | (exfalso; omega) | ((repeat (first | rw [if_pos (by first | assumption | omega)] | rw [if_neg (by first | assumption | omega)])); first | done | rfl | omega | decide))) (by decide)])
  replace h4 := of_decide_eq_false h4
  refine .skip ?_
  refine .seq ?_
  refine .seq ?_
  refine .draw (by kernel_rfl) (by kernel_rfl) ?_
  refine .sA (.moveD rfl rfl) ?_
  refine .sA (.gtr rfl rfl rfl) ?_
  refine .sA (.moveD rfl rfl) ?_
  refine .split 52 rfl (fun g5 => ?_) (fun g5 => ?_)
  ·replace g5 := of_decide_eq_true g5
   have hk0 : 0 < k := by omega
   refine .sG (.fieldAddr rfl fo_54_0 rfl) ?_
   refine .sG (.load rfl sc_3 rfl) ?_
   refine .sG (.fieldAddr rfl fo_25_1 rfl) ?_
   refine .sG (.load rfl sc_23 rfl) ?_
   refine .sG (.moveD rfl rfl) ?_
   refine .sG (.sub64 rfl rfl rfl (by omega) (by omega)) ?_
   refine .sG (.indexAddr rfl et_23 rfl rfl (k - 1) (by omega) (at_lst (by omega)) rfl) ?_
   refine .sG (.fieldAddr rfl fo_54_0 rfl) ?_
   refine .sG (.load rfl sc_3 rfl) ?_
   refine .sG (.leq rfl rfl rfl) ?_
   refine .sA (.pickT rfl rfl rfl) ?_
   refine .nil ?_
   refine .cond rfl (fun h6 => ?_) (fun h6 => ?_)
   ·replace h6 := of_decide_eq_true h6
    refine .sr ?_
    refine .aA (.nil ?_)
    refine .ret ?_
    refine ⟨RetD.eq rfl ?_, trivial⟩
    all_goals (first | rw [HR] | rw [mvd_a hlt hk.2 (show mvF c k = 1 from by unfold mvF; rw [dif_pos hlt]; (first | (exfalso; omega) | ((repeat (first | rw [if_pos (by first | assumption | omega)] | rw [if_neg (by first | assumption | omega)])); first | done | rfl | omega | decide))) (by decide)] | rw [mvd_a hlt hk.2 (show mvF c k = 8 from by unfold mvF; rw [dif_pos hlt]; (first | (exfalso; omega) | ((repeat (first | rw [if_pos (by first | assumption | omega)] | rw [if_neg (by first | assumption | omega)])); first | done | rfl | omega | decide))) (by decide)] | rw [mvd_a hlt hk.2 (show mvF c k = 7 from by unfold mvF; rw [dif_pos hlt]; (first | (exfalso; omega) | ((repeat (first | rw [if_pos (by first | assumption | omega)] | rw [if_neg (by first | assumption | omega)])); first | done | rfl | omega | decide))) (by decide)] | rw [mvd_a hlt hk.2 (show mvF c k = 9 from by unfold mvF; rw [dif_pos hlt]; (first | (exfalso; omega) | ((repeat (first | rw [if_pos (by first | assumption | omega)] | rw [if_neg (by first | assumption | omega)])); first | done | rfl | omega | decide))) (by decide)])
   replace h6 := of_decide_eq_false h6
   refine .skip ?_
   refine .seq ?_
   refine .sr ?_
   refine .mA ?_
   refine .sA (.fieldAddr rfl fo_54_0 rfl) ?_
   refine .sA (.load rfl sc_3 rfl) ?_
   refine .sA (.lookupOkF (key := kI c.moved[k].src) rfl mt_idx kd_int zt_thg zd_thg rfl rfl (DExact.v _) (kI_ok hbk.1) (idxM_keys hc.things) _ (getok_idx hr.nk _)) ?_
   refine .mA ?_
   refine .sA (.extract rfl rfl rfl) ?_
   refine .sA (.extract rfl rfl rfl) ?_
   refine .alloc 104 rfl rfl rfl rfl zt_61 rfl rfl rfl ?_
   refine .store rfl rfl rfl sz_61 rfl (.head _) rfl rfl rfl (Nat.le_of_ble_eq_true rfl) ?_
   refine .freezeCells 10 (ds := (getT c.things c.moved[k].src).ds) rfl (.head _) ?_
   refine .aA (.nil ?_)
   refine .sr ?_
   refine .mA (.nil ?_)
   refine .cond rfl (fun h7 => ?_) (fun h7 => ?_)
   ·skip
    have n7 := h7
    refine .sr ?_
    refine .aA (.nil ?_)
    refine .ret ?_
    refine ⟨RetD.eq rfl ?_, trivial⟩
    all_goals (first | rw [HR] | rw [mvd_a hlt hk.2 (show mvF c k = 1 from by unfold mvF; rw [dif_pos hlt]; (first | (exfalso; omega) | ((repeat (first | rw [if_pos (by first | assumption | omega)] | rw [if_neg (by first | assumption | omega)])); first | done | rfl | omega | decide))) (by decide)] | rw [mvd_a hlt hk.2 (show mvF c k = 8 from by unfold mvF; rw [dif_pos hlt]; (first | (exfalso; omega) | ((repeat (first | rw [if_pos (by first | assumption | omega)] | rw [if_neg (by first | assumption | omega)])); first | done | rfl | omega | decide))) (by decide)] | rw [mvd_a hlt hk.2 (show mvF c k = 7 from by unfold mvF; rw [dif_pos hlt]; (first | (exfalso; omega) | ((repeat (first | rw [if_pos (by first | assumption | omega)] | rw [if_neg (by first | assumption | omega)])); first | done | rfl | omega | decide))) (by decide)] | rw [mvd_a hlt hk.2 (show mvF c k = 9 from by unfold mvF; rw [dif_pos hlt]; (first | (exfalso; omega) | ((repeat (first | rw [if_pos (by first | assumption | omega)] | rw [if_neg (by first | assumption | omega)])); first | done | rfl | omega | decide))) (by decide)])
   have n7 : ¬ thereB c.things c.moved[k].src = true := by rw [h7]; decide
   refine .skip ?_
   refine .sr ?_
   refine .mA ?_
   refine .sA (.fieldAddr rfl fo_54_1 rfl) ?_
   refine .sA (.load rfl sc_3 rfl) ?_
   refine .sA (.lookupOkF (key := kI c.moved[k].dst) rfl mt_idx kd_int zt_thg zd_thg rfl rfl (DExact.v _) (kI_ok hbk.2) (idxM_keys hc.things) _ (getok_idx hr.nk _)) ?_
   refine .mA ?_
   refine .sA (.extract rfl rfl rfl) ?_
   refine .sA (.extract rfl rfl rfl) ?_
   refine .alloc 105 rfl rfl rfl rfl zt_61 rfl rfl rfl ?_
   refine .store rfl rfl rfl sz_61 rfl (.head _) rfl rfl rfl (Nat.le_of_ble_eq_true rfl) ?_
   refine .freezeCells 12 (ds := (getT c.things c.moved[k].dst).ds) rfl (.head _) ?_
   refine .aA (.nil ?_)
   refine .sr ?_
   refine .mA ?_
   refine .sA (.fieldAddr rfl fo_54_1 rfl) ?_
   refine .sA (.load rfl sc_3 rfl) ?_
   refine .sA (.lookupOkF (key := kI c.moved[k].dst) rfl mt_to kd_int zt_int zd_int rfl rfl (DExact.v _) (kI_ok hbk.2) (toM_keys fun p hp => (toL_ok hc.moved p hp).1) _ (getok_to (toL_nk _) _)) ?_
   rw [toL_has]
   refine .mA ?_
   refine .sA (.extract rfl rfl rfl) ?_
   refine .sA (.extract rfl rfl rfl) ?_
   refine .aA ?_
   refine .aA (.nil ?_)
   refine .sr ?_
   refine .mA ?_
   refine .sA (.not rfl rfl) ?_
   refine .mA ?_
   refine .split 88 rfl (fun g8 => ?_) (fun g8 => ?_)
   ·replace g8 := bnot_t g8
    have hnd := g8
    refine .sG (.moveD rfl rfl) ?_
    refine .sG (.not rfl rfl) ?_
    refine .sA (.pickT rfl rfl rfl) (.nil ?_)
    refine .cond rfl (fun h9 => ?_) (fun h9 => ?_)
    ·replace h9 := bnot_t h9
     have n9 := And.intro hnd h9
     refine .sr ?_
     refine .aA (.nil ?_)
     refine .ret ?_
     refine ⟨RetD.eq rfl ?_, trivial⟩
     all_goals (first | rw [HR] | rw [mvd_a hlt hk.2 (show mvF c k = 1 from by unfold mvF; rw [dif_pos hlt]; (first | (exfalso; omega) | ((repeat (first | rw [if_pos (by first | assumption | omega)] | rw [if_neg (by first | assumption | omega)])); first | done | rfl | omega | decide))) (by decide)] | rw [mvd_a hlt hk.2 (show mvF c k = 8 from by unfold mvF; rw [dif_pos hlt]; (first | (exfalso; omega) | ((repeat (first | rw [if_pos (by first | assumption | omega)] | rw [if_neg (by first | assumption | omega)])); first | done | rfl | omega | decide))) (by decide)] | rw [mvd_a hlt hk.2 (show mvF c k = 7 from by unfold mvF; rw [dif_pos hlt]; (first | (exfalso; omega) | ((repeat (first | rw [if_pos (by first | assumption | omega)] | rw [if_neg (by first | assumption | omega)])); first | done | rfl | omega | decide))) (by decide)] | rw [mvd_a hlt hk.2 (show mvF c k = 9 from by unfold mvF; rw [dif_pos hlt]; (first | (exfalso; omega) | ((repeat (first | rw [if_pos (by first | assumption | omega)] | rw [if_neg (by first | assumption | omega)])); first | done | rfl | omega | decide))) (by decide)])
    replace h9 := bnot_f h9
    have n9 : ¬ (thereB c.things c.moved[k].dst = false ∧ hasM c.moved c.moved[k].dst = false) := fun hh => by have q9 := hh.2; rw [h9] at q9; cases q9
    refine .skip ?_
    refine .region ?_
    refine .sA (.add64 rfl rfl rfl (by omega) (by omega)) ?_
    refine .mA (.nil ?_)
    refine ⟨k + 1, ⟨by omega, ffst_next hk.2 (show mvF c k = 0 from by unfold mvF; rw [dif_pos hlt]; (first | (exfalso; omega) | ((repeat (first | rw [if_pos (by first | assumption | omega)] | rw [if_neg (by first | assumption | omega)])); first | done | rfl | omega | decide)))⟩, (by dsimp only; omega), Sub.less ⟨(SLe.of_eq rfl), SLe.refl _, SLe.refl _, SLe.refl _, SLe.refl _, SLe.refl _, trivial⟩ (fun _ h => h)⟩
   replace g8 := bnot_f g8
   have n9 : ¬ (thereB c.things c.moved[k].dst = false ∧ hasM c.moved c.moved[k].dst = false) := fun hh => by have q9 := hh.1; rw [g8] at q9; cases q9
   refine .pA ?_
   refine .pA ?_
   refine .sA (.pickF rfl rfl rfl) (.nil ?_)
   refine .cond rfl (fun h => nomatch h) (fun _ => ?_)
   refine .skip ?_
   refine .region ?_
   refine .sA (.add64 rfl rfl rfl (by omega) (by omega)) ?_
   refine .mA (.nil ?_)
   refine ⟨k + 1, ⟨by omega, ffst_next hk.2 (show mvF c k = 0 from by unfold mvF; rw [dif_pos hlt]; (first | (exfalso; omega) | ((repeat (first | rw [if_pos (by first | assumption | omega)] | rw [if_neg (by first | assumption | omega)])); first | done | rfl | omega | decide)))⟩, (by dsimp only; omega), Sub.less ⟨(SLe.of_eq rfl), SLe.refl _, SLe.refl _, SLe.refl _, SLe.refl _, SLe.refl _, trivial⟩ (fun _ h => h)⟩
  replace g5 := of_decide_eq_false g5
  refine .pA ?_
  refine .pA ?_
  refine .pA ?_
  refine .pA ?_
  refine .pA ?_
  refine .pA ?_
  refine .pA ?_
  refine .pA ?_
  refine .pA ?_
  refine .pA ?_
  refine .sA (.pickF rfl rfl rfl) ?_
  refine .nil ?_
  refine .cond rfl (fun h => nomatch h) (fun _ => ?_)
  refine .skip ?_
  refine .seq ?_
  refine .sr ?_
  refine .mA ?_
  refine .sA (.fieldAddr rfl fo_54_0 rfl) ?_
  refine .sA (.load rfl sc_3 rfl) ?_
  refine .sA (.lookupOkF (key := kI c.moved[k].src) rfl mt_idx kd_int zt_thg zd_thg rfl rfl (DExact.v _) (kI_ok hbk.1) (idxM_keys hc.things) _ (getok_idx hr.nk _)) ?_
  refine .mA ?_
  refine .sA (.extract rfl rfl rfl) ?_
  refine .sA (.extract rfl rfl rfl) ?_
  refine .alloc 106 rfl rfl rfl rfl zt_61 rfl rfl rfl ?_
  refine .store rfl rfl rfl sz_61 rfl (.head _) rfl rfl rfl (Nat.le_of_ble_eq_true rfl) ?_
  refine .freezeCells 10 (ds := (getT c.things c.moved[k].src).ds) rfl (.head _) ?_
  refine .aA (.nil ?_)
  refine .sr ?_
  refine .mA (.nil ?_)
  refine .cond rfl (fun h10 => ?_) (fun h10 => ?_)
  ·skip
   have n7 := h10
   refine .sr ?_
   refine .aA (.nil ?_)
   refine .ret ?_
   refine ⟨RetD.eq rfl ?_, trivial⟩
   all_goals (first | rw [HR] | rw [mvd_a hlt hk.2 (show mvF c k = 1 from by unfold mvF; rw [dif_pos hlt]; (first | (exfalso; omega) | ((repeat (first | rw [if_pos (by first | assumption | omega)] | rw [if_neg (by first | assumption | omega)])); first | done | rfl | omega | decide))) (by decide)] | rw [mvd_a hlt hk.2 (show mvF c k = 8 from by unfold mvF; rw [dif_pos hlt]; (first | (exfalso; omega) | ((repeat (first | rw [if_pos (by first | assumption | omega)] | rw [if_neg (by first | assumption | omega)])); first | done | rfl | omega | decide))) (by decide)] | rw [mvd_a hlt hk.2 (show mvF c k = 7 from by unfold mvF; rw [dif_pos hlt]; (first | (exfalso; omega) | ((repeat (first | rw [if_pos (by first | assumption | omega)] | rw [if_neg (by first | assumption | omega)])); first | done | rfl | omega | decide))) (by decide)] | rw [mvd_a hlt hk.2 (show mvF c k = 9 from by unfold mvF; rw [dif_pos hlt]; (first | (exfalso; omega) | ((repeat (first | rw [if_pos (by first | assumption | omega)] | rw [if_neg (by first | assumption | omega)])); first | done | rfl | omega | decide))) (by decide)])
  have n7 : ¬ thereB c.things c.moved[k].src = true := by rw [h10]; decide
  refine .skip ?_
  refine .sr ?_
  refine .mA ?_
  refine .sA (.fieldAddr rfl fo_54_1 rfl) ?_
  refine .sA (.load rfl sc_3 rfl) ?_
  refine .sA (.lookupOkF (key := kI c.moved[k].dst) rfl mt_idx kd_int zt_thg zd_thg rfl rfl (DExact.v _) (kI_ok hbk.2) (idxM_keys hc.things) _ (getok_idx hr.nk _)) ?_
  refine .mA ?_
  refine .sA (.extract rfl rfl rfl) ?_
  refine .sA (.extract rfl rfl rfl) ?_
  refine .alloc 107 rfl rfl rfl rfl zt_61 rfl rfl rfl ?_
  refine .store rfl rfl rfl sz_61 rfl (.head _) rfl rfl rfl (Nat.le_of_ble_eq_true rfl) ?_
  refine .freezeCells 12 (ds := (getT c.things c.moved[k].dst).ds) rfl (.head _) ?_
  refine .aA (.nil ?_)
  refine .sr ?_
  refine .mA ?_
  refine .sA (.fieldAddr rfl fo_54_1 rfl) ?_
  refine .sA (.load rfl sc_3 rfl) ?_
  refine .sA (.lookupOkF (key := kI c.moved[k].dst) rfl mt_to kd_int zt_int zd_int rfl rfl (DExact.v _) (kI_ok hbk.2) (toM_keys fun p hp => (toL_ok hc.moved p hp).1) _ (getok_to (toL_nk _) _)) ?_
  rw [toL_has]
  refine .mA ?_
  refine .sA (.extract rfl rfl rfl) ?_
  refine .sA (.extract rfl rfl rfl) ?_
  refine .aA ?_
  refine .aA (.nil ?_)
  refine .sr ?_
  refine .mA ?_
  refine .sA (.not rfl rfl) ?_
  refine .mA ?_
  refine .split 88 rfl (fun g11 => ?_) (fun g11 => ?_)
  ·replace g11 := bnot_t g11
   have hnd := g11
   refine .sG (.moveD rfl rfl) ?_
   refine .sG (.not rfl rfl) ?_
   refine .sA (.pickT rfl rfl rfl) (.nil ?_)
   refine .cond rfl (fun h12 => ?_) (fun h12 => ?_)
   ·replace h12 := bnot_t h12
    have n9 := And.intro hnd h12
    refine .sr ?_
    refine .aA (.nil ?_)
    refine .ret ?_
    refine ⟨RetD.eq rfl ?_, trivial⟩
    all_goals (first | rw [HR] | rw [mvd_a hlt hk.2 (show mvF c k = 1 from by unfold mvF; rw [dif_pos hlt]; (first | (exfalso; omega) | ((repeat (first | rw [if_pos (by first | assumption | omega)] | rw [if_neg (by first | assumption | omega)])); first | done | rfl | omega | decide))) (by decide)] | rw [mvd_a hlt hk.2 (show mvF c k = 8 from by unfold mvF; rw [dif_pos hlt]; (first | (exfalso; omega) | ((repeat (first | rw [if_pos (by first | assumption | omega)] | rw [if_neg (by first | assumption | omega)])); first | done | rfl | omega | decide))) (by decide)] | rw [mvd_a hlt hk.2 (show mvF c k = 7 from by unfold mvF; rw [dif_pos hlt]; (first | (exfalso; omega) | ((repeat (first | rw [if_pos (by first | assumption | omega)] | rw [if_neg (by first | assumption | omega)])); first | done | rfl | omega | decide))) (by decide)] | rw [mvd_a hlt hk.2 (show mvF c k = 9 from by unfold mvF; rw [dif_pos hlt]; (first | (exfalso; omega) | ((repeat (first | rw [if_pos (by first | assumption | omega)] | rw [if_neg (by first | assumption | omega)])); first | done | rfl | omega | decide))) (by decide)])
   replace h12 := bnot_f h12
   have n9 : ¬ (thereB c.things c.moved[k].dst = false ∧ hasM c.moved c.moved[k].dst = false) := fun hh => by have q9 := hh.2; rw [h12] at q9; cases q9
   refine .skip ?_
   refine .region ?_
   refine .sA (.add64 rfl rfl rfl (by omega) (by omega)) ?_
   refine .mA (.nil ?_)
   refine ⟨k + 1, ⟨by omega, ffst_next hk.2 (show mvF c k = 0 from by unfold mvF; rw [dif_pos hlt]; (first | (exfalso; omega) | ((repeat (first | rw [if_pos (by first | assumption | omega)] | rw [if_neg (by first | assumption | omega)])); first | done | rfl | omega | decide)))⟩, (by dsimp only; omega), Sub.less ⟨(SLe.of_eq rfl), SLe.refl _, SLe.refl _, SLe.refl _, SLe.refl _, SLe.refl _, trivial⟩ (fun _ h => h)⟩
  replace g11 := bnot_f g11
  have n9 : ¬ (thereB c.things c.moved[k].dst = false ∧ hasM c.moved c.moved[k].dst = false) := fun hh => by have q9 := hh.1; rw [g11] at q9; cases q9
  refine .pA ?_
  refine .pA ?_
  refine .sA (.pickF rfl rfl rfl) (.nil ?_)
  refine .cond rfl (fun h => nomatch h) (fun _ => ?_)
  refine .skip ?_
  refine .region ?_
  refine .sA (.add64 rfl rfl rfl (by omega) (by omega)) ?_
  refine .mA (.nil ?_)
  refine ⟨k + 1, ⟨by omega, ffst_next hk.2 (show mvF c k = 0 from by unfold mvF; rw [dif_pos hlt]; (first | (exfalso; omega) | ((repeat (first | rw [if_pos (by first | assumption | omega)] | rw [if_neg (by first | assumption | omega)])); first | done | rfl | omega | decide)))⟩, (by dsimp only; omega), Sub.less ⟨(SLe.of_eq rfl), SLe.refl _, SLe.refl _, SLe.refl _, SLe.refl _, SLe.refl _, trivial⟩ (fun _ h => h)⟩
 replace h2 := of_decide_eq_false h2
 rw [List.length_map] at h2
 obtain rfl : k = c.moved.length := by omega
 have HF := hk.2
 have hm := risM_of HF
 rw [toL_ris hm]
 refine .exit ?_
 refine .seq ?_
 refine .sr ?_
 refine .sA (.fieldAddr rfl fo_25_1 rfl) ?_
 refine .sA (.load rfl sc_23 rfl) ?_
 refine .sA (.lenSl rfl et_23.ht rfl) ?_
 refine .mA (.nil ?_)
 refine .block ?_
 refine .loop (G := Nat) (fun k => Env.of [(96, .d (.v (.int .i64 (k : Int)))), (94, .d (.sl (c.moved.map Mvd.ds))), (95, .d (.v (.int .i64 ((c.moved.map Mvd.ds).length : Int)))), (5, .d (.fm (toM (mvL c.moved)))), (2, .d (.fp c.ds)), (1, .d (.fm (idxM c.things)))]) (fun k => []) (fun k => k ≤ c.moved.length ∧ ffst (lpF c) k = 0) (fun k => c.moved.length - k) 0 ⟨Nat.zero_le _, rfl⟩ (Sub.less ⟨(SLe.of_eq rfl), SLe.refl _, SLe.refl _, SLe.refl _, SLe.refl _, SLe.refl _, trivial⟩ (fun _ h => h)) ?_
 intro k hk
 refine .sr ?_
 refine .sA (.lss rfl rfl rfl) (.nil ?_)
 refine .seq ?_
 refine .cond rfl (fun h13 => ?_) (fun h13 => ?_)
 ·replace h13 := of_decide_eq_true h13
  rw [List.length_map] at h13
  have hlt : k < c.moved.length := by omega
  have hbk := hc.moved _ (List.getElem_mem hlt)
  refine .skip ?_
  refine .seq ?_
  refine .block ?_
  refine .sr ?_
  refine .sA (.indexAddr rfl et_23 rfl rfl k rfl (at_lst hlt) rfl) ?_
  refine .sA (.loadAgg rfl ag_54 rfl rfl) ?_
  refine .alloc 108 rfl rfl rfl rfl zt_54 rfl rfl rfl ?_
  refine .store rfl rfl rfl sz_54 rfl (.head _) rfl rfl rfl (Nat.le_of_ble_eq_true rfl) ?_
  refine .freezeCells 17 (ds := c.moved[k].ds) rfl (.head _) (.nil ?_)
  refine .sr ?_
  refine .mA ?_
  refine .mA ?_
  refine .sA (.fieldAddr rfl fo_54_0 rfl) ?_
  refine .sA (.load rfl sc_3 rfl) ?_
  refine .sA (.call rfl (.cons (.rfl' rfl) (.cons (.rfl' rfl) (.cons (.rfl' rfl) .nil))) (c_found _ _ _ hc.things hr (by rw [← toL_ris hm]; exact toL_ok hc.moved) (by rw [← toL_ris hm]; exact toL_nk _) hbk.1 (by rw [mvL_len]; exact hl2))) ?_
  refine .mA ?_
  refine .sA (.extract rfl rfl rfl) ?_
  refine .sA (.extract rfl rfl rfl) ?_
  refine .aA ?_
  refine .aA (.nil ?_)
  refine .sr ?_
  refine .mA ?_
  refine .sA (.not rfl rfl) (.nil ?_)
  refine .cond rfl (fun h14 => ?_) (fun h14 => ?_)
  ·replace h14 := bnot_t h14
   rw [led_ris hr hm, led_def] at h14
   have HR := mvd_c HF hlt hk.2 h14
   refine .sr ?_
   refine .aA (.nil ?_)
   refine .ret ?_
   refine ⟨RetD.eq rfl ?_, trivial⟩
   all_goals (first | rw [HR] | rw [mvd_a hlt hk.2 (show mvF c k = 1 from by unfold mvF; rw [dif_pos hlt]; (first | (exfalso; omega) | ((repeat (first | rw [if_pos (by first | assumption | omega)] | rw [if_neg (by first | assumption | omega)])); first | done | rfl | omega | decide))) (by decide)] | rw [mvd_a hlt hk.2 (show mvF c k = 8 from by unfold mvF; rw [dif_pos hlt]; (first | (exfalso; omega) | ((repeat (first | rw [if_pos (by first | assumption | omega)] | rw [if_neg (by first | assumption | omega)])); first | done | rfl | omega | decide))) (by decide)] | rw [mvd_a hlt hk.2 (show mvF c k = 7 from by unfold mvF; rw [dif_pos hlt]; (first | (exfalso; omega) | ((repeat (first | rw [if_pos (by first | assumption | omega)] | rw [if_neg (by first | assumption | omega)])); first | done | rfl | omega | decide))) (by decide)] | rw [mvd_a hlt hk.2 (show mvF c k = 9 from by unfold mvF; rw [dif_pos hlt]; (first | (exfalso; omega) | ((repeat (first | rw [if_pos (by first | assumption | omega)] | rw [if_neg (by first | assumption | omega)])); first | done | rfl | omega | decide))) (by decide)])
  replace h14 := bnot_f h14
  rw [led_ris hr hm, led_def] at h14
  have HN := lp_0 hlt h14
  refine .skip ?_
  refine .region ?_
  refine .sA (.add64 rfl rfl rfl (by omega) (by omega)) ?_
  refine .mA (.nil ?_)
  refine ⟨k + 1, ⟨by omega, ffst_next hk.2 HN⟩, (by dsimp only; omega), Sub.less ⟨(SLe.of_eq rfl), SLe.refl _, SLe.refl _, SLe.refl _, SLe.refl _, SLe.refl _, trivial⟩ (fun _ h => h)⟩
 replace h13 := of_decide_eq_false h13
 rw [List.length_map] at h13
 obtain rfl : k = c.moved.length := by omega
 have HR : mvdF c = 0 := by rw [mvd_b HF]; exact hk.2
 refine .exit ?_
 refine .sr ?_
 refine .aA (.nil ?_)
 refine .ret ?_
 refine ⟨RetD.eq rfl ?_, trivial⟩
 all_goals (first | rw [HR] | rw [mvd_a hlt hk.2 (show mvF c k = 1 from by unfold mvF; rw [dif_pos hlt]; (first | (exfalso; omega) | ((repeat (first | rw [if_pos (by first | assumption | omega)] | rw [if_neg (by first | assumption | omega)])); first | done | rfl | omega | decide))) (by decide)] | rw [mvd_a hlt hk.2 (show mvF c k = 8 from by unfold mvF; rw [dif_pos hlt]; (first | (exfalso; omega) | ((repeat (first | rw [if_pos (by first | assumption | omega)] | rw [if_neg (by first | assumption | omega)])); first | done | rfl | omega | decide))) (by decide)] | rw [mvd_a hlt hk.2 (show mvF c k = 7 from by unfold mvF; rw [dif_pos hlt]; (first | (exfalso; omega) | ((repeat (first | rw [if_pos (by first | assumption | omega)] | rw [if_neg (by first | assumption | omega)])); first | done | rfl | omega | decide))) (by decide)] | rw [mvd_a hlt hk.2 (show mvF c k = 9 from by unfold mvF; rw [dif_pos hlt]; (first | (exfalso; omega) | ((repeat (first | rw [if_pos (by first | assumption | omega)] | rw [if_neg (by first | assumption | omega)])); first | done | rfl | omega | decide))) (by decide)])

set_option maxRecDepth 100000 in
set_option maxHeartbeats 1000000 in
theorem c_rMvd (c : Ctl) (hl : Lim c) (hc : CtlOk c) (hr : RisT c.things) : ACall Tryz.prog 66 [.agg c.ds] (.v (.int .i64 (mvdF c))) := by
 refine acall_of (n := 91) (ds' := [.v (.int .i64 (mvdF c))]) Tryz.func66 rfl (by kernel_rfl) rfl [2] rfl rfl ?_
 intro B w0 F0 fr
 have hl2 := hl.2
 refine .sr ?_
 refine .sA (.box rfl rfl rfl) ?_
 refine .aA (.nil ?_)
 refine .seq ?_
 refine .sr ?_
 refine .sA (.fieldAddr rfl fo_25_1 rfl) ?_
 refine .sA (.load rfl sc_23 rfl) ?_
 refine .sA (.lenSl rfl et_23.ht rfl) ?_
 refine .mA (.nil ?_)
 refine .block ?_
 refine .loop (G := Nat) (fun k => Env.of [(18, .d (.v (.int .i64 (k : Int)))), (16, .d (.sl (c.moved.map Mvd.ds))), (17, .d (.v (.int .i64 ((c.moved.map Mvd.ds).length : Int)))), (1, .d (.fp c.ds))]) (fun k => []) (fun k => k ≤ c.moved.length ∧ ffst (mvF c) k = 0) (fun k => c.moved.length - k) 0 ⟨Nat.zero_le _, rfl⟩ (Sub.less ⟨(SLe.of_eq rfl), SLe.refl _, SLe.refl _, SLe.refl _, trivial⟩ (fun _ h => h)) ?_
 intro k hk
 refine .sr ?_
 refine .sA (.lss rfl rfl rfl) (.nil ?_)
 refine .seq ?_
 refine .cond rfl (fun h1 => ?_) (fun h1 => ?_)
 ·replace h1 := of_decide_eq_true h1
  rw [List.length_map] at h1
  have hlt : k < c.moved.length := by omega
  have hbk := hc.moved _ (List.getElem_mem hlt)
  refine .skip ?_
  refine .seq ?_
  refine .block ?_
  refine .sr ?_
  refine .mA ?_
  refine .sA (.indexAddr rfl et_23 rfl rfl k rfl (at_lst hlt) rfl) ?_
  refine .sA (.loadAgg rfl ag_54 rfl rfl) ?_
  refine .alloc 101 rfl rfl rfl rfl zt_54 rfl rfl rfl ?_
  refine .aA ?_
  refine .store rfl rfl rfl sz_54 rfl (.head _) rfl rfl rfl (Nat.le_of_ble_eq_true rfl) ?_
  refine .freezeCells 4 (ds := c.moved[k].ds) rfl (.head _) (.nil ?_)
  refine .sr ?_
  refine .sA (.loadAgg rfl ag_25 rfl rfl) ?_
  refine .sA (.fieldAddr rfl fo_54_0 rfl) ?_
  refine .sA (.load rfl sc_3 rfl) ?_
  refine .sA (.call rfl (.cons (.rfl' rfl) (.cons (.rfl' rfl) .nil)) (c_thing c _ hl.two)) ?_
  refine .mA ?_
  refine .sA (.extract rfl rfl rfl) ?_
  refine .sA (.extract rfl rfl rfl) ?_
  refine .alloc 102 rfl rfl rfl rfl zt_61 rfl rfl rfl ?_
  refine .store rfl rfl rfl sz_61 rfl (.head _) rfl rfl rfl (Nat.le_of_ble_eq_true rfl) ?_
  refine .freezeCells 5 (ds := (getT c.things c.moved[k].src).ds) rfl (.head _) ?_
  refine .aA (.nil ?_)
  refine .sr ?_
  refine .sA (.loadAgg rfl ag_25 rfl rfl) ?_
  refine .sA (.fieldAddr rfl fo_54_1 rfl) ?_
  refine .sA (.load rfl sc_3 rfl) ?_
  refine .sA (.call rfl (.cons (.rfl' rfl) (.cons (.rfl' rfl) .nil)) (c_thing c _ hl.two)) ?_
  refine .mA ?_
  refine .sA (.extract rfl rfl rfl) ?_
  refine .sA (.extract rfl rfl rfl) ?_
  refine .alloc 103 rfl rfl rfl rfl zt_61 rfl rfl rfl ?_
  refine .store rfl rfl rfl sz_61 rfl (.head _) rfl rfl rfl (Nat.le_of_ble_eq_true rfl) ?_
  refine .freezeCells 7 (ds := (getT c.things c.moved[k].dst).ds) rfl (.head _) ?_
  refine .aA (.nil ?_)
  refine .sr ?_
  refine .sA (.loadAgg rfl ag_25 rfl rfl) ?_
  refine .sA (.fieldAddr rfl fo_54_1 rfl) ?_
  refine .sA (.load rfl sc_3 rfl) ?_
  refine .sA (.call rfl (.cons (.rfl' rfl) (.cons (.rfl' rfl) .nil)) (c_moved c _ hl.two)) ?_
  refine .mA ?_
  refine .sA (.extract rfl rfl rfl) ?_
  refine .sA (.extract rfl rfl rfl) ?_
  refine .aA ?_
  refine .aA (.nil ?_)
  refine .block ?_
  refine .sr ?_
  refine .sA (.fieldAddr rfl fo_54_0 rfl) ?_
  refine .sA (.load rfl sc_3 rfl) ?_
  refine .sA (.call rfl (.cons (.rfl' rfl) (.cons (.rfl' rfl) (.cons (.rfl' rfl) .nil))) (c_rIn _ _ _)) ?_
  refine .sA (.not rfl rfl) ?_
  refine .aA (.nil ?_)
  refine .cond rfl (fun h2 => ?_) (fun h2 => ?_)
  ·replace h2 := bnot_t h2; replace h2 := of_decide_eq_false h2
   refine .sr ?_
   refine .aA (.nil ?_)
   refine .ret ?_
   refine ⟨RetD.eq rfl ?_, trivial⟩
   all_goals (first | rw [HR] | rw [mvd_a hlt hk.2 (show mvF c k = 1 from by unfold mvF; rw [dif_pos hlt]; (first | (exfalso; omega) | ((repeat (first | rw [if_pos (by first | assumption | omega)] | rw [if_neg (by first | assumption | omega)])); first | done | rfl | omega | decide))) (by decide)] | rw [mvd_a hlt hk.2 (show mvF c k = 8 from by unfold mvF; rw [dif_pos hlt]; (first | (exfalso; omega) | ((repeat (first | rw [if_pos (by first | assumption | omega)] | rw [if_neg (by first | assumption | omega)])); first | done | rfl | omega | decide))) (by decide)] | rw [mvd_a hlt hk.2 (show mvF c k = 7 from by unfold mvF; rw [dif_pos hlt]; (first | (exfalso; omega) | ((repeat (first | rw [if_pos (by first | assumption | omega)] | rw [if_neg (by first | assumption | omega)])); first | done | rfl | omega | decide))) (by decide)] | rw [mvd_a hlt hk.2 (show mvF c k = 9 from by unfold mvF; rw [dif_pos hlt]; (first | (exfalso; omega) | ((repeat (first | rw [if_pos (by first | assumption | omega)] | rw [if_neg (by first | assumption | omega)])); first | done | rfl | omega | decide))) (by decide)])
  replace h2 := bnot_f h2; replace h2 := of_decide_eq_true h2
  refine .seq ?_
  refine .draw (by kernel_rfl) (by kernel_rfl) ?_
  refine .sA (.moveD rfl rfl) ?_
  refine .sA (.gtr rfl rfl rfl) ?_
  refine .sA (.moveD rfl rfl) ?_
  refine .split 52 rfl (fun g3 => ?_) (fun g3 => ?_)
  ·replace g3 := of_decide_eq_true g3
   have hk0 : 0 < k := by omega
   refine .sG (.fieldAddr rfl fo_54_0 rfl) ?_
   refine .sG (.load rfl sc_3 rfl) ?_
   refine .sG (.fieldAddr rfl fo_25_1 rfl) ?_
   refine .sG (.load rfl sc_23 rfl) ?_
   refine .sG (.moveD rfl rfl) ?_
   refine .sG (.sub64 rfl rfl rfl (by omega) (by omega)) ?_
   refine .sG (.indexAddr rfl et_23 rfl rfl (k - 1) (by omega) (at_lst (by omega)) rfl) ?_
   refine .sG (.fieldAddr rfl fo_54_0 rfl) ?_
   refine .sG (.load rfl sc_3 rfl) ?_
   refine .sG (.leq rfl rfl rfl) ?_
   refine .sA (.pickT rfl rfl rfl) ?_
   refine .sA (.assignD rfl rfl) ?_
   refine .nil ?_
   refine .cond rfl (fun h4 => ?_) (fun h4 => ?_)
   ·replace h4 := of_decide_eq_true h4
    refine .sr ?_
    refine .aA (.nil ?_)
    refine .ret ?_
    refine ⟨RetD.eq rfl ?_, trivial⟩
    all_goals (first | rw [HR] | rw [mvd_a hlt hk.2 (show mvF c k = 1 from by unfold mvF; rw [dif_pos hlt]; (first | (exfalso; omega) | ((repeat (first | rw [if_pos (by first | assumption | omega)] | rw [if_neg (by first | assumption | omega)])); first | done | rfl | omega | decide))) (by decide)] | rw [mvd_a hlt hk.2 (show mvF c k = 8 from by unfold mvF; rw [dif_pos hlt]; (first | (exfalso; omega) | ((repeat (first | rw [if_pos (by first | assumption | omega)] | rw [if_neg (by first | assumption | omega)])); first | done | rfl | omega | decide))) (by decide)] | rw [mvd_a hlt hk.2 (show mvF c k = 7 from by unfold mvF; rw [dif_pos hlt]; (first | (exfalso; omega) | ((repeat (first | rw [if_pos (by first | assumption | omega)] | rw [if_neg (by first | assumption | omega)])); first | done | rfl | omega | decide))) (by decide)] | rw [mvd_a hlt hk.2 (show mvF c k = 9 from by unfold mvF; rw [dif_pos hlt]; (first | (exfalso; omega) | ((repeat (first | rw [if_pos (by first | assumption | omega)] | rw [if_neg (by first | assumption | omega)])); first | done | rfl | omega | decide))) (by decide)])
   replace h4 := of_decide_eq_false h4
   refine .sr ?_
   refine .mA ?_
   refine .aA (.nil ?_)
   refine .cond rfl (fun h5 => ?_) (fun h5 => ?_)
   ·skip
    have n7 := h5
    refine .sr ?_
    refine .aA (.nil ?_)
    refine .ret ?_
    refine ⟨RetD.eq rfl ?_, trivial⟩
    all_goals (first | rw [HR] | rw [mvd_a hlt hk.2 (show mvF c k = 1 from by unfold mvF; rw [dif_pos hlt]; (first | (exfalso; omega) | ((repeat (first | rw [if_pos (by first | assumption | omega)] | rw [if_neg (by first | assumption | omega)])); first | done | rfl | omega | decide))) (by decide)] | rw [mvd_a hlt hk.2 (show mvF c k = 8 from by unfold mvF; rw [dif_pos hlt]; (first | (exfalso; omega) | ((repeat (first | rw [if_pos (by first | assumption | omega)] | rw [if_neg (by first | assumption | omega)])); first | done | rfl | omega | decide))) (by decide)] | rw [mvd_a hlt hk.2 (show mvF c k = 7 from by unfold mvF; rw [dif_pos hlt]; (first | (exfalso; omega) | ((repeat (first | rw [if_pos (by first | assumption | omega)] | rw [if_neg (by first | assumption | omega)])); first | done | rfl | omega | decide))) (by decide)] | rw [mvd_a hlt hk.2 (show mvF c k = 9 from by unfold mvF; rw [dif_pos hlt]; (first | (exfalso; omega) | ((repeat (first | rw [if_pos (by first | assumption | omega)] | rw [if_neg (by first | assumption | omega)])); first | done | rfl | omega | decide))) (by decide)])
   have n7 : ¬ thereB c.things c.moved[k].src = true := by rw [h5]; decide
   refine .sr ?_
   refine .mA ?_
   refine .sA (.not rfl rfl) ?_
   refine .mA ?_
   refine .split 69 rfl (fun g6 => ?_) (fun g6 => ?_)
   ·replace g6 := bnot_t g6
    have hnd := g6
    refine .sG (.moveD rfl rfl) ?_
    refine .sG (.not rfl rfl) ?_
    refine .sA (.pickT rfl rfl rfl) ?_
    refine .aA (.nil ?_)
    refine .cond rfl (fun h7 => ?_) (fun h7 => ?_)
    ·replace h7 := bnot_t h7
     have n9 := And.intro hnd h7
     refine .sr ?_
     refine .aA (.nil ?_)
     refine .ret ?_
     refine ⟨RetD.eq rfl ?_, trivial⟩
     all_goals (first | rw [HR] | rw [mvd_a hlt hk.2 (show mvF c k = 1 from by unfold mvF; rw [dif_pos hlt]; (first | (exfalso; omega) | ((repeat (first | rw [if_pos (by first | assumption | omega)] | rw [if_neg (by first | assumption | omega)])); first | done | rfl | omega | decide))) (by decide)] | rw [mvd_a hlt hk.2 (show mvF c k = 8 from by unfold mvF; rw [dif_pos hlt]; (first | (exfalso; omega) | ((repeat (first | rw [if_pos (by first | assumption | omega)] | rw [if_neg (by first | assumption | omega)])); first | done | rfl | omega | decide))) (by decide)] | rw [mvd_a hlt hk.2 (show mvF c k = 7 from by unfold mvF; rw [dif_pos hlt]; (first | (exfalso; omega) | ((repeat (first | rw [if_pos (by first | assumption | omega)] | rw [if_neg (by first | assumption | omega)])); first | done | rfl | omega | decide))) (by decide)] | rw [mvd_a hlt hk.2 (show mvF c k = 9 from by unfold mvF; rw [dif_pos hlt]; (first | (exfalso; omega) | ((repeat (first | rw [if_pos (by first | assumption | omega)] | rw [if_neg (by first | assumption | omega)])); first | done | rfl | omega | decide))) (by decide)])
    replace h7 := bnot_f h7
    have n9 : ¬ (thereB c.things c.moved[k].dst = false ∧ hasM c.moved c.moved[k].dst = false) := fun hh => by have q9 := hh.2; rw [h7] at q9; cases q9
    refine .skip ?_
    refine .region ?_
    refine .sA (.add64 rfl rfl rfl (by omega) (by omega)) ?_
    refine .mA (.nil ?_)
    refine ⟨k + 1, ⟨by omega, ffst_next hk.2 (show mvF c k = 0 from by unfold mvF; rw [dif_pos hlt]; (first | (exfalso; omega) | ((repeat (first | rw [if_pos (by first | assumption | omega)] | rw [if_neg (by first | assumption | omega)])); first | done | rfl | omega | decide)))⟩, (by dsimp only; omega), Sub.less ⟨(SLe.of_eq rfl), SLe.refl _, SLe.refl _, SLe.refl _, trivial⟩ (fun _ h => h)⟩
   replace g6 := bnot_f g6
   have n9 : ¬ (thereB c.things c.moved[k].dst = false ∧ hasM c.moved c.moved[k].dst = false) := fun hh => by have q9 := hh.1; rw [g6] at q9; cases q9
   refine .pA ?_
   refine .pA ?_
   refine .sA (.pickF rfl rfl rfl) ?_
   refine .aA (.nil ?_)
   refine .cond rfl (fun h => nomatch h) (fun _ => ?_)
   refine .skip ?_
   refine .region ?_
   refine .sA (.add64 rfl rfl rfl (by omega) (by omega)) ?_
   refine .mA (.nil ?_)
   refine ⟨k + 1, ⟨by omega, ffst_next hk.2 (show mvF c k = 0 from by unfold mvF; rw [dif_pos hlt]; (first | (exfalso; omega) | ((repeat (first | rw [if_pos (by first | assumption | omega)] | rw [if_neg (by first | assumption | omega)])); first | done | rfl | omega | decide)))⟩, (by dsimp only; omega), Sub.less ⟨(SLe.of_eq rfl), SLe.refl _, SLe.refl _, SLe.refl _, trivial⟩ (fun _ h => h)⟩
  replace g3 := of_decide_eq_false g3
  refine .pA ?_
  refine .pA ?_
  refine .pA ?_
  refine .pA ?_
  refine .pA ?_
  refine .pA ?_
  refine .pA ?_
  refine .pA ?_
  refine .pA ?_
  refine .pA ?_
  refine .sA (.pickF rfl rfl rfl) ?_
  refine .sA (.assignD rfl rfl) ?_
  refine .nil ?_
  refine .cond rfl (fun h => nomatch h) (fun _ => ?_)
  refine .sr ?_
  refine .mA ?_
  refine .aA (.nil ?_)
  refine .cond rfl (fun h8 => ?_) (fun h8 => ?_)
  ·skip
   have n7 := h8
   refine .sr ?_
   refine .aA (.nil ?_)
   refine .ret ?_
   refine ⟨RetD.eq rfl ?_, trivial⟩
   all_goals (first | rw [HR] | rw [mvd_a hlt hk.2 (show mvF c k = 1 from by unfold mvF; rw [dif_pos hlt]; (first | (exfalso; omega) | ((repeat (first | rw [if_pos (by first | assumption | omega)] | rw [if_neg (by first | assumption | omega)])); first | done | rfl | omega | decide))) (by decide)] | rw [mvd_a hlt hk.2 (show mvF c k = 8 from by unfold mvF; rw [dif_pos hlt]; (first | (exfalso; omega) | ((repeat (first | rw [if_pos (by first | assumption | omega)] | rw [if_neg (by first | assumption | omega)])); first | done | rfl | omega | decide))) (by decide)] | rw [mvd_a hlt hk.2 (show mvF c k = 7 from by unfold mvF; rw [dif_pos hlt]; (first | (exfalso; omega) | ((repeat (first | rw [if_pos (by first | assumption | omega)] | rw [if_neg (by first | assumption | omega)])); first | done | rfl | omega | decide))) (by decide)] | rw [mvd_a hlt hk.2 (show mvF c k = 9 from by unfold mvF; rw [dif_pos hlt]; (first | (exfalso; omega) | ((repeat (first | rw [if_pos (by first | assumption | omega)] | rw [if_neg (by first | assumption | omega)])); first | done | rfl | omega | decide))) (by decide)])
  have n7 : ¬ thereB c.things c.moved[k].src = true := by rw [h8]; decide
  refine .sr ?_
  refine .mA ?_
  refine .sA (.not rfl rfl) ?_
  refine .mA ?_
  refine .split 69 rfl (fun g9 => ?_) (fun g9 => ?_)
  ·replace g9 := bnot_t g9
   have hnd := g9
   refine .sG (.moveD rfl rfl) ?_
   refine .sG (.not rfl rfl) ?_
   refine .sA (.pickT rfl rfl rfl) ?_
   refine .aA (.nil ?_)
   refine .cond rfl (fun h10 => ?_) (fun h10 => ?_)
   ·replace h10 := bnot_t h10
    have n9 := And.intro hnd h10
    refine .sr ?_
    refine .aA (.nil ?_)
    refine .ret ?_
    refine ⟨RetD.eq rfl ?_, trivial⟩
    all_goals (first | rw [HR] | rw [mvd_a hlt hk.2 (show mvF c k = 1 from by unfold mvF; rw [dif_pos hlt]; (first | (exfalso; omega) | ((repeat (first | rw [if_pos (by first | assumption | omega)] | rw [if_neg (by first | assumption | omega)])); first | done | rfl | omega | decide))) (by decide)] | rw [mvd_a hlt hk.2 (show mvF c k = 8 from by unfold mvF; rw [dif_pos hlt]; (first | (exfalso; omega) | ((repeat (first | rw [if_pos (by first | assumption | omega)] | rw [if_neg (by first | assumption | omega)])); first | done | rfl | omega | decide))) (by decide)] | rw [mvd_a hlt hk.2 (show mvF c k = 7 from by unfold mvF; rw [dif_pos hlt]; (first | (exfalso; omega) | ((repeat (first | rw [if_pos (by first | assumption | omega)] | rw [if_neg (by first | assumption | omega)])); first | done | rfl | omega | decide))) (by decide)] | rw [mvd_a hlt hk.2 (show mvF c k = 9 from by unfold mvF; rw [dif_pos hlt]; (first | (exfalso; omega) | ((repeat (first | rw [if_pos (by first | assumption | omega)] | rw [if_neg (by first | assumption | omega)])); first | done | rfl | omega | decide))) (by decide)])
   replace h10 := bnot_f h10
   have n9 : ¬ (thereB c.things c.moved[k].dst = false ∧ hasM c.moved c.moved[k].dst = false) := fun hh => by have q9 := hh.2; rw [h10] at q9; cases q9
   refine .skip ?_
   refine .region ?_
   refine .sA (.add64 rfl rfl rfl (by omega) (by omega)) ?_
   refine .mA (.nil ?_)
   refine ⟨k + 1, ⟨by omega, ffst_next hk.2 (show mvF c k = 0 from by unfold mvF; rw [dif_pos hlt]; (first | (exfalso; omega) | ((repeat (first | rw [if_pos (by first | assumption | omega)] | rw [if_neg (by first | assumption | omega)])); first | done | rfl | omega | decide)))⟩, (by dsimp only; omega), Sub.less ⟨(SLe.of_eq rfl), SLe.refl _, SLe.refl _, SLe.refl _, trivial⟩ (fun _ h => h)⟩
  replace g9 := bnot_f g9
  have n9 : ¬ (thereB c.things c.moved[k].dst = false ∧ hasM c.moved c.moved[k].dst = false) := fun hh => by have q9 := hh.1; rw [g9] at q9; cases q9
  refine .pA ?_
  refine .pA ?_
  refine .sA (.pickF rfl rfl rfl) ?_
  refine .aA (.nil ?_)
  refine .cond rfl (fun h => nomatch h) (fun _ => ?_)
  refine .skip ?_
  refine .region ?_
  refine .sA (.add64 rfl rfl rfl (by omega) (by omega)) ?_
  refine .mA (.nil ?_)
  refine ⟨k + 1, ⟨by omega, ffst_next hk.2 (show mvF c k = 0 from by unfold mvF; rw [dif_pos hlt]; (first | (exfalso; omega) | ((repeat (first | rw [if_pos (by first | assumption | omega)] | rw [if_neg (by first | assumption | omega)])); first | done | rfl | omega | decide)))⟩, (by dsimp only; omega), Sub.less ⟨(SLe.of_eq rfl), SLe.refl _, SLe.refl _, SLe.refl _, trivial⟩ (fun _ h => h)⟩
 replace h1 := of_decide_eq_false h1
 rw [List.length_map] at h1
 obtain rfl : k = c.moved.length := by omega
 have HF := hk.2
 refine .exit ?_
 refine .seq ?_
 refine .sr ?_
 refine .sA (.fieldAddr rfl fo_25_1 rfl) ?_
 refine .sA (.load rfl sc_23 rfl) ?_
 refine .sA (.lenSl rfl et_23.ht rfl) ?_
 refine .mA (.nil ?_)
 refine .block ?_
 refine .loop (G := Nat) (fun k => Env.of [(77, .d (.v (.int .i64 (k : Int)))), (75, .d (.sl (c.moved.map Mvd.ds))), (76, .d (.v (.int .i64 ((c.moved.map Mvd.ds).length : Int)))), (1, .d (.fp c.ds))]) (fun k => []) (fun k => k ≤ c.moved.length ∧ ffst (lpF c) k = 0) (fun k => c.moved.length - k) 0 ⟨Nat.zero_le _, rfl⟩ (Sub.less ⟨(SLe.of_eq rfl), SLe.refl _, SLe.refl _, SLe.refl _, trivial⟩ (fun _ h => h)) ?_
 intro k hk
 refine .sr ?_
 refine .sA (.lss rfl rfl rfl) (.nil ?_)
 refine .seq ?_
 refine .cond rfl (fun h11 => ?_) (fun h11 => ?_)
 ·replace h11 := of_decide_eq_true h11
  rw [List.length_map] at h11
  have hlt : k < c.moved.length := by omega
  have hbk := hc.moved _ (List.getElem_mem hlt)
  refine .skip ?_
  refine .seq ?_
  refine .block ?_
  refine .sr ?_
  refine .sA (.indexAddr rfl et_23 rfl rfl k rfl (at_lst hlt) rfl) ?_
  refine .sA (.loadAgg rfl ag_54 rfl rfl) ?_
  refine .alloc 104 rfl rfl rfl rfl zt_54 rfl rfl rfl ?_
  refine .store rfl rfl rfl sz_54 rfl (.head _) rfl rfl rfl (Nat.le_of_ble_eq_true rfl) ?_
  refine .freezeCells 12 (ds := c.moved[k].ds) rfl (.head _) (.nil ?_)
  refine .sr ?_
  refine .sA (.loadAgg rfl ag_25 rfl rfl) ?_
  refine .sA (.fieldAddr rfl fo_54_0 rfl) ?_
  refine .sA (.load rfl sc_3 rfl) ?_
  refine .sA (.call rfl (.cons (.rfl' rfl) (.cons (.rfl' rfl) .nil)) (c_find c _ hl)) ?_
  refine .mA ?_
  refine .sA (.extract rfl rfl rfl) ?_
  refine .sA (.extract rfl rfl rfl) ?_
  refine .aA ?_
  refine .aA (.nil ?_)
  refine .sr ?_
  refine .mA ?_
  refine .sA (.not rfl rfl) (.nil ?_)
  refine .cond rfl (fun h12 => ?_) (fun h12 => ?_)
  ·replace h12 := bnot_t h12
   have HR := mvd_c HF hlt hk.2 h12
   refine .sr ?_
   refine .aA (.nil ?_)
   refine .ret ?_
   refine ⟨RetD.eq rfl ?_, trivial⟩
   all_goals (first | rw [HR] | rw [mvd_a hlt hk.2 (show mvF c k = 1 from by unfold mvF; rw [dif_pos hlt]; (first | (exfalso; omega) | ((repeat (first | rw [if_pos (by first | assumption | omega)] | rw [if_neg (by first | assumption | omega)])); first | done | rfl | omega | decide))) (by decide)] | rw [mvd_a hlt hk.2 (show mvF c k = 8 from by unfold mvF; rw [dif_pos hlt]; (first | (exfalso; omega) | ((repeat (first | rw [if_pos (by first | assumption | omega)] | rw [if_neg (by first | assumption | omega)])); first | done | rfl | omega | decide))) (by decide)] | rw [mvd_a hlt hk.2 (show mvF c k = 7 from by unfold mvF; rw [dif_pos hlt]; (first | (exfalso; omega) | ((repeat (first | rw [if_pos (by first | assumption | omega)] | rw [if_neg (by first | assumption | omega)])); first | done | rfl | omega | decide))) (by decide)] | rw [mvd_a hlt hk.2 (show mvF c k = 9 from by unfold mvF; rw [dif_pos hlt]; (first | (exfalso; omega) | ((repeat (first | rw [if_pos (by first | assumption | omega)] | rw [if_neg (by first | assumption | omega)])); first | done | rfl | omega | decide))) (by decide)])
  replace h12 := bnot_f h12
  have HN := lp_0 hlt h12
  refine .skip ?_
  refine .region ?_
  refine .sA (.add64 rfl rfl rfl (by omega) (by omega)) ?_
  refine .mA (.nil ?_)
  refine ⟨k + 1, ⟨by omega, ffst_next hk.2 HN⟩, (by dsimp only; omega), Sub.less ⟨(SLe.of_eq rfl), SLe.refl _, SLe.refl _, SLe.refl _, trivial⟩ (fun _ h => h)⟩
 replace h11 := of_decide_eq_false h11
 rw [List.length_map] at h11
 obtain rfl : k = c.moved.length := by omega
 have HR : mvdF c = 0 := by rw [mvd_b HF]; exact hk.2
 refine .exit ?_
 refine .sr ?_
 refine .aA (.nil ?_)
 refine .ret ?_
 refine ⟨RetD.eq rfl ?_, trivial⟩
 all_goals (first | rw [HR] | rw [mvd_a hlt hk.2 (show mvF c k = 1 from by unfold mvF; rw [dif_pos hlt]; (first | (exfalso; omega) | ((repeat (first | rw [if_pos (by first | assumption | omega)] | rw [if_neg (by first | assumption | omega)])); first | done | rfl | omega | decide))) (by decide)] | rw [mvd_a hlt hk.2 (show mvF c k = 8 from by unfold mvF; rw [dif_pos hlt]; (first | (exfalso; omega) | ((repeat (first | rw [if_pos (by first | assumption | omega)] | rw [if_neg (by first | assumption | omega)])); first | done | rfl | omega | decide))) (by decide)] | rw [mvd_a hlt hk.2 (show mvF c k = 7 from by unfold mvF; rw [dif_pos hlt]; (first | (exfalso; omega) | ((repeat (first | rw [if_pos (by first | assumption | omega)] | rw [if_neg (by first | assumption | omega)])); first | done | rfl | omega | decide))) (by decide)] | rw [mvd_a hlt hk.2 (show mvF c k = 9 from by unfold mvF; rw [dif_pos hlt]; (first | (exfalso; omega) | ((repeat (first | rw [if_pos (by first | assumption | omega)] | rw [if_neg (by first | assumption | omega)])); first | done | rfl | omega | decide))) (by decide)])

end Go.Proofs.YthcdjmkkgbcaaaaGreatDoor

namespace Go.Proofs.YthcdjmkkgbcaaaaGreatDoor
open Go.RowKit
set_option linter.unusedVariables false

/-! Types. -/
namespace TyKG
theorem ag_105 : AggT Tryz.prog 105 2 := .of (by kernel_rfl)
theorem bu_105 : StructT Tryz.prog 105 (fun i => (#[(0, 1), (1, 1)] : Array (Nat × Nat))[i]?) [(.int .i64 0), (.string ⟨#[]⟩)] := .of (by kernel_rfl) (by kernel_rfl) (by decide)
theorem sz_105 : ∀ w, (sizeOf 105).run Tryz.prog w = .ok 2 w := SizeT.of (by kernel_rfl)
theorem zt_105 : (Tryz.prog.info? 105).bind (·.zero) = some (.agg #[(.int .i64 0), (.string ⟨#[]⟩)]) := by kernel_rfl
end TyKG
open TyH3 TyH4 TyH5 TyJ3 TyJ4 TyJ5 TyKA TyKB TyKC TyKD TyKE TyKF TyKG

theorem krow_C : (105 : TypeId) < Tryz.prog.types.size := of_decide_eq_true (by kernel_rfl)
theorem kwide_C : (match Tryz.prog.underlying 105 with | some (.array _ _) | some (.struct _) => true | _ => false) = true := by kernel_rfl
theorem klaid : laidOutB Tryz.prog = true := by kernel_rfl
set_option maxRecDepth 100000 in
theorem kd_C : Maps.Keyed Tryz.prog 105 := Maps.Keyed.of_law (deep_law_laid klaid (m := 3) (by omega) krow_C (by kernel_rfl) kwide_C)
def isStrT (o : Option TypeDesc) : Bool := match o with
  | some .string => true
  | _ => false
def isI64T (o : Option TypeDesc) : Bool := match o with
  | some (.int .i64) => true
  | _ => false
theorem isStrT_eq {o : Option TypeDesc} (h : isStrT o = true) : o = some .string := by
  unfold isStrT at h
  split at h
  · rfl
  · cases h
theorem isI64T_eq {o : Option TypeDesc} (h : isI64T o = true) : o = some (.int .i64) := by
  unfold isI64T at h
  split at h
  · rfl
  · cases h
def keyCB (P : Program) (k : TypeId) : Bool := match P.underlying k with
  | some (.struct fs) => (match fs.toList with
    | [f, g] => f.name != "_" && g.name != "_" && f.offset == 0 && g.offset == 1 && isI64T (P.underlying f.type) && isStrT (P.underlying g.type) && P.cellsOf f.type == 1 && P.cellsOf g.type == 1
    | _ => false) && P.cellsOf k == 2
  | _ => false
theorem keyC_ok' {P : Program} {k : TypeId} (h : keyCB P k = true) (hk : P.keyType k = true) (h0 : k < P.types.size) (s : ByteArray) (n : Int) (hs : s.size ≤ maxLen) (hn : (Lit.int .i64 n).wf = true) : ∃ l, keyOf P k (.agg #[.int .i64 n, .string s]) = some l := by
  unfold keyCB at h
  cases hu : P.underlying k with
  | none => rw [hu] at h; cases h
  | some td =>
    rw [hu] at h
    cases td <;> try (cases h; done)
    rename_i fs
    simp only [Bool.and_eq_true] at h
    obtain ⟨h1, h2⟩ := h
    cases hf : fs.toList with
    | nil => rw [hf] at h1; cases h1
    | cons f r =>
      cases r with
      | nil => rw [hf] at h1; cases h1
      | cons g r =>
        cases r with
        | cons _ _ => rw [hf] at h1; cases h1
        | nil =>
          rw [hf] at h1
          simp only [Bool.and_eq_true, beq_iff_eq] at h1 h2
          obtain ⟨⟨⟨⟨⟨⟨⟨a1, a2⟩, a3⟩, a4⟩, a5⟩, a6⟩, a7⟩, a8⟩ := h1
          have a5' := isI64T_eq a5
          have a6' := isStrT_eq a6
          obtain ⟨m, hm⟩ : ∃ m, P.types.size = m + 1 := ⟨P.types.size - 1, (Nat.sub_add_cancel (Nat.lt_of_le_of_lt (Nat.zero_le k) h0)).symm⟩
          have hall : fs.all (·.name != "_") = true := by
            rw [← Array.all_toList, hf]
            simp only [List.all_cons, List.all_nil, a1, a2, Bool.and_self]
          unfold keyOf
          rw [hu]
          simp only [hk, Value.formed, hu, h2, Bool.true_and]
          refine ⟨.string (keyBytes [.int .i64 n, .string s.data.toList]), ?_⟩
          have kf : P.keyLits (m + 1) f.type [.int .i64 n] = some [.int .i64 n] := by
            unfold Program.keyLits
            rw [a5']
            simp [hn]
          have kg : P.keyLits (m + 1) g.type [.string s] = some [.string s.data.toList] := by
            unfold Program.keyLits
            rw [a6']
            simp [hs]
          have c1 : (([Value.int .i64 n, .string s] : List Value).drop f.offset).take (P.cellsOf f.type) = [.int .i64 n] := by rw [a3, a7]; rfl
          have c2 : (([Value.int .i64 n, .string s] : List Value).drop g.offset).take (P.cellsOf g.type) = [.string s] := by rw [a4, a8]; rfl
          have hk2 : P.keyLits (m + 1 + 1) k [.int .i64 n, .string s] = some [.int .i64 n, .string s.data.toList] := by
            unfold Program.keyLits
            rw [hu]
            simp only [List.length_cons, List.length_nil, h2, hall, and_self, if_true, hf, List.mapM_cons, List.mapM_nil, c1, c2, kf, kg]
            rfl
          simp [Value.cells, hm, hk2]

abbrev KC := Int × ByteArray
def kC (p : KC) : Value := .agg #[.int .i64 p.1, .string p.2]
def dB (p : KC × Bool) : D := .v (.bool p.2)
theorem kC_ok {n : Int} {s : ByteArray} (h : i64 n) (hs : s.size ≤ maxLen) : ∃ l, keyOf Tryz.prog 105 (kC (n, s)) = some l := keyC_ok' (by kernel_rfl) (by kernel_rfl) krow_C s n hs (wf64 h)
theorem kC_inj {a b : KC} (h : kC a = kC b) : a = b := by
  unfold kC at h
  simp only [Value.agg.injEq] at h
  have h2 : [Value.int .i64 a.1, .string a.2] = [.int .i64 b.1, .string b.2] := congrArg Array.toList h
  simp at h2
  exact Prod.ext h2.1 h2.2
def seenM (L : List (KC × Bool)) : List (Value × D) := encG kC dB L
def seenL (l : List Thg) : List (KC × Bool) := l.foldl (fun L x => putG L (x.kind, x.code) true) []
theorem seenL_next {l : List Thg} {k : Nat} (hk : k < l.length) : seenL (l.take (k + 1)) = putG (seenL (l.take k)) (l[k].kind, l[k].code) true := by
  unfold seenL
  rw [List.take_add_one, List.getElem?_eq_getElem hk, Option.toList_some, List.foldl_append]; rfl
theorem foldC_nk : ∀ (l : List Thg) (L : List (KC × Bool)), NkG L → NkG (l.foldl (fun L x => putG L (x.kind, x.code) true) L)
  | [], _, h => h
  | _ :: l, _, h => foldC_nk l _ (putG_nk h _ _)
theorem seenL_nk (l : List Thg) : NkG (seenL l) := foldC_nk l [] List.Pairwise.nil
theorem foldC_get : ∀ (l : List Thg) (L : List (KC × Bool)) (k : Int) (c : ByteArray), (findG (l.foldl (fun L x => putG L (x.kind, x.code) true) L) (k, c)).getD false = ((findG L (k, c)).getD false || l.any fun x => decide (x.kind = k) && decide (x.code = c))
  | [], L, k, c => by simp
  | x :: l, L, k, c => by
    rw [List.foldl_cons, foldC_get l _ k c, findG_put, List.any_cons]
    by_cases h : (k, c) = (x.kind, x.code)
    · rw [if_pos h]
      obtain ⟨rfl, rfl⟩ := Prod.mk.inj h
      simp
    · rw [if_neg h]
      have : (decide (x.kind = k) && decide (x.code = c)) = false := by
        rw [Bool.eq_false_iff]
        intro hh
        rw [Bool.and_eq_true] at hh
        exact h (Prod.ext (of_decide_eq_true hh.1).symm (of_decide_eq_true hh.2).symm)
      rw [this, Bool.false_or]
theorem seen_tw (l : List Thg) (i : Nat) (t : Thg) : (findG (seenL (l.take i)) (t.kind, t.code)).getD false = twB l i t := by
  unfold seenL twB
  rw [foldC_get]
  simp [findG]
theorem foldC_mem (P : KC → Prop) : ∀ (l : List Thg) (L : List (KC × Bool)), (∀ x ∈ l, P (x.kind, x.code)) → (∀ p ∈ L, P p.1) → ∀ p ∈ l.foldl (fun L x => putG L (x.kind, x.code) true) L, P p.1
  | [], _, _, h => h
  | x :: l, L, h, h2 => foldC_mem P l _ (fun y hy => h y (List.mem_cons_of_mem _ hy)) fun p hp => by
    unfold putG at hp
    dsimp only at hp
    by_cases hh : hasG L (x.kind, x.code) = true
    · rw [if_pos hh] at hp
      obtain ⟨q, hq, rfl⟩ := List.mem_map.1 hp
      by_cases h3 : q.1 = (x.kind, x.code)
      · rw [if_pos h3]; exact h x List.mem_cons_self
      · rw [if_neg h3]; exact h2 q hq
    · rw [if_neg hh, List.mem_append, List.mem_singleton] at hp
      rcases hp with hp | hp
      · exact h2 p hp
      · rw [hp]; exact h x List.mem_cons_self
theorem seen_keys {l : List Thg} (h : ∀ x ∈ l, ThgOk x) (i : Nat) : ∀ p ∈ seenM (seenL (l.take i)), ∃ q, keyOf Tryz.prog 105 p.1 = some q := fun p hp => by
  unfold seenM encG at hp
  obtain ⟨q, hq, rfl⟩ := List.mem_map.1 hp
  have := foldC_mem (fun k => i64 k.1 ∧ k.2.size ≤ 9223372036854775807) (l.take i) [] (fun x hx => ⟨(h x (List.mem_of_mem_take hx)).kind, (h x (List.mem_of_mem_take hx)).code⟩) (fun p hp => by cases hp) q hq
  exact kC_ok this.1 this.2
theorem mt_seen : Tryz.prog.underlying 103 = some (.map 105 4) := by kernel_rfl
theorem zt_bool : (Tryz.prog.info? 4).bind (·.zero) = some (.bool false) := by kernel_rfl
theorem zd_bool (F : Nat → Prop) (w : World) : Rep F w (.bool false) (.v (.bool false)) := .v _
theorem get_seen (l : List Thg) (i : Nat) (t : Thg) : MGet (seenM (seenL (l.take i))) (kC (t.kind, t.code)) (.v (.bool false)) (.v (.bool (twB l i t))) := by
  rw [← seen_tw]
  exact mgetG (kv := kC) (dv := dB) kC_inj (seenL_nk _) _ _ _ (by cases findG (seenL (l.take i)) (t.kind, t.code) <;> rfl)
theorem put_seen {l : List Thg} {k : Nat} (hk : k < l.length) : MPut (seenM (seenL (l.take k))) (kC (l[k].kind, l[k].code)) (.v (.bool true)) (seenM (seenL (l.take (k + 1)))) := by
  rw [seenL_next hk]
  exact mputG (kv := kC) (dv := dB) kC_inj (seenL_nk _) (l[k].kind, l[k].code) true
theorem thg_parts {x : Thg} (h : thgF x = 0) : x.parts.length ≤ 50 := by
  unfold thgF at h
  by_cases h1 : kindB x.kind = false
  · rw [if_pos h1] at h; omega
  rw [if_neg h1] at h
  by_cases h2 : titleOk x.title = false
  · rw [if_pos h2] at h; omega
  rw [if_neg h2] at h
  by_cases h3 : ¬ x.code = ⟨#[]⟩ ∧ codeF x.kind x.code.data.toList ≠ 0
  · rw [if_pos h3] at h; exact absurd h h3.2
  rw [if_neg h3] at h
  by_cases h4 : x.since < 0 ∨ 200000 < x.since
  · rw [if_pos h4] at h; omega
  rw [if_neg h4] at h
  split at h
  · omega
  · split at h <;> omega
theorem parts_of {l : List Thg} (h : ffst (thF l) l.length = 0) {k : Nat} (hk : k < l.length) : l[k].parts.length ≤ 50 := thg_parts (thF_0 hk (ffst_all _ h k hk)).2.2
theorem lim_of {c : Ctl} (h : ¬ (300 < c.things.length ∨ 300 < c.moved.length)) : Lim c := ⟨by omega, by omega⟩
theorem chk_t {c : Ctl} {k : Nat} {n : Int} (hL : ¬ (300 < c.things.length ∨ 300 < c.moved.length)) (hk : k < c.things.length) (hf : ffst (thF c.things) k = 0) (h2 : thF c.things k = n) (hn : n ≠ 0) : chkF c = n := by
  have h3 := ffst_hit hf (by rw [h2]; exact hn) _ hk
  unfold chkF
  rw [if_neg hL, h3, h2, if_pos hn]
theorem chk_l {c : Ctl} {k : Nat} {n : Int} (hL : ¬ (300 < c.things.length ∨ 300 < c.moved.length)) (h1 : ffst (thF c.things) c.things.length = 0) (hk : k < c.things.length) (hf : ffst (lkF c.things) k = 0) (h2 : lkF c.things k = n) (hn : n ≠ 0) : chkF c = n := by
  have h3 := ffst_hit hf (by rw [h2]; exact hn) _ hk
  unfold chkF
  rw [if_neg hL, if_neg (by omega), h3, h2, if_pos hn]
theorem chk_m {c : Ctl} (hL : ¬ (300 < c.things.length ∨ 300 < c.moved.length)) (h1 : ffst (thF c.things) c.things.length = 0) (h2 : ffst (lkF c.things) c.things.length = 0) : chkF c = mvdF c := by
  unfold chkF
  rw [if_neg hL, if_neg (by omega), if_neg (by omega)]
/-! ## What a right catalogue is -/
structure CatOk (c : Ctl) : Prop where
  lim : Lim c
  ris : RisT c.things
  rism : RisM c.moved
  th : ∀ k (hk : k < c.things.length), thgF c.things[k] = 0
  lk : ∀ k (hk : k < c.things.length), linkF c.things c.things[k] = 0
  lp : ∀ x ∈ c.moved, (ledC c x.src).isSome = true
theorem catOk {c : Ctl} (h : chkF c = 0) : CatOk c := by
  unfold chkF at h
  by_cases hL : 300 < c.things.length ∨ 300 < c.moved.length
  · rw [if_pos hL] at h; omega
  rw [if_neg hL] at h
  by_cases h1 : ffst (thF c.things) c.things.length ≠ 0
  · rw [if_pos h1] at h; exact absurd h h1
  rw [if_neg h1] at h
  have h1 : ffst (thF c.things) c.things.length = 0 := by omega
  by_cases h2 : ffst (lkF c.things) c.things.length ≠ 0
  · rw [if_pos h2] at h; exact absurd h h2
  rw [if_neg h2] at h
  have h2 : ffst (lkF c.things) c.things.length = 0 := by omega
  unfold mvdF at h
  by_cases h3 : ffst (mvF c) c.moved.length ≠ 0
  · rw [if_pos h3] at h; exact absurd h h3
  rw [if_neg h3] at h
  have h3 : ffst (mvF c) c.moved.length = 0 := by omega
  refine ⟨lim_of hL, risT_of h1, risM_of h3, fun k hk => (thF_0 hk (ffst_all _ h1 k hk)).2.2, fun k hk => ?_, fun x hx => ?_⟩
  · have h4 := ffst_all _ h2 k hk
    unfold lkF at h4
    rw [dif_pos hk] at h4
    by_cases h5 : linkF c.things c.things[k] ≠ 0
    · rw [if_pos h5] at h4; exact absurd h4 h5
    · omega
  · obtain ⟨k, hk, rfl⟩ := List.mem_iff_getElem.1 hx
    have h4 := ffst_all _ h k hk
    unfold lpF at h4
    rw [dif_pos hk] at h4
    cases hq : (ledC c c.moved[k].src).isSome with
    | true => rfl
    | false => rw [hq, if_pos rfl] at h4; omega

set_option maxRecDepth 100000 in
set_option maxHeartbeats 1000000 in
theorem c_pChk (c : Ctl) (hc : CtlOk c) : ACallT Tryz.prog MaxT 20 [.agg c.ds] (.v (.int .i64 (chkF c))) := by
 refine acall_ofT (n := 93) (ds' := [.v (.int .i64 (chkF c))]) Tryz.func20 rfl (by kernel_rfl) rfl [2] rfl rfl ?_
 intro B w0 F0 hT
 have htl : (c.things.map Thg.ds).length = c.things.length := List.length_map ..
 have hml : (c.moved.map Mvd.ds).length = c.moved.length := List.length_map ..
 refine .sr ?_
 refine .sA (.box rfl rfl rfl) ?_
 refine .aA (.nil ?_)
 refine .seq ?_
 refine .sr ?_
 refine .sA (.fieldAddr rfl fo_25_0 rfl) ?_
 refine .sA (.load rfl sc_22 rfl) ?_
 refine .sA (.lenSl rfl et_22.ht rfl) ?_
 refine .sA (.gtr rfl rfl rfl) ?_
 refine .mA ?_
 refine .split 16 rfl (fun g1 => ?_) (fun g1 => ?_)
 ·replace g1 := of_decide_eq_true g1
  have HR : chkF c = 2 := if_pos (by omega)
  refine .pA ?_
  refine .pA ?_
  refine .pA ?_
  refine .pA ?_
  refine .sA (.pickT rfl rfl rfl) (.nil ?_)
  refine .cond rfl (fun _ => ?_) (fun h => nomatch h)
  refine .sr ?_
  refine .aA (.nil ?_)
  refine .ret ?_
  refine ⟨RetD.eq rfl ?_, trivial⟩
  all_goals (first | rfl | first | rw [HR] | rw [chk_t hL hlt hk.2 (show thF c.things k = 1 from by unfold thF; rw [dif_pos hlt]; (first | (exfalso; omega) | ((repeat (first | rw [if_pos (by first | assumption | omega)] | rw [if_neg (by first | assumption | omega)])); first | done | rfl | omega | decide))) (by decide)] | rw [chk_t hL hlt hk.2 (show thF c.things k = 8 from by unfold thF; rw [dif_pos hlt]; (first | (exfalso; omega) | ((repeat (first | rw [if_pos (by first | assumption | omega)] | rw [if_neg (by first | assumption | omega)])); first | done | rfl | omega | decide))) (by decide)])
 replace g1 := of_decide_eq_false g1
 refine .sG (.fieldAddr rfl fo_25_1 rfl) ?_
 refine .sG (.load rfl sc_23 rfl) ?_
 refine .sG (.lenSl rfl et_23.ht rfl) ?_
 refine .sG (.gtr rfl rfl rfl) ?_
 refine .sA (.pickF rfl rfl rfl) (.nil ?_)
 refine .cond rfl (fun h2 => ?_) (fun h2 => ?_)
 ·replace h2 := of_decide_eq_true h2
  have HR : chkF c = 2 := if_pos (by omega)
  refine .sr ?_
  refine .aA (.nil ?_)
  refine .ret ?_
  refine ⟨RetD.eq rfl ?_, trivial⟩
  all_goals (first | rfl | first | rw [HR] | rw [chk_t hL hlt hk.2 (show thF c.things k = 1 from by unfold thF; rw [dif_pos hlt]; (first | (exfalso; omega) | ((repeat (first | rw [if_pos (by first | assumption | omega)] | rw [if_neg (by first | assumption | omega)])); first | done | rfl | omega | decide))) (by decide)] | rw [chk_t hL hlt hk.2 (show thF c.things k = 8 from by unfold thF; rw [dif_pos hlt]; (first | (exfalso; omega) | ((repeat (first | rw [if_pos (by first | assumption | omega)] | rw [if_neg (by first | assumption | omega)])); first | done | rfl | omega | decide))) (by decide)])
 replace h2 := of_decide_eq_false h2
 have hL : ¬ (300 < c.things.length ∨ 300 < c.moved.length) := by omega
 have hLim := lim_of hL
 refine .skip ?_
 refine .seq ?_
 refine .sr ?_
 refine .sA (.fieldAddr rfl fo_25_0 rfl) ?_
 refine .sA (.load rfl sc_22 rfl) ?_
 refine .sA (.lenSl rfl et_22.ht rfl) ?_
 refine .mA (.nil ?_)
 refine .block ?_
 refine .loop (G := Nat) (fun k => Env.of [(25, .d (.v (.int .i64 (k : Int)))), (23, .d (.sl (c.things.map Thg.ds))), (24, .d (.v (.int .i64 ((c.things.map Thg.ds).length : Int)))), (1, .d (.fp c.ds))]) (fun k => []) (fun k => k ≤ c.things.length ∧ ffst (thF c.things) k = 0) (fun k => c.things.length - k) 0 ⟨Nat.zero_le _, rfl⟩ (Sub.less ⟨(SLe.of_eq rfl), SLe.refl _, SLe.refl _, SLe.refl _, trivial⟩ (fun _ h => h)) ?_
 intro k hk
 refine .sr ?_
 refine .sA (.lss rfl rfl rfl) (.nil ?_)
 refine .seq ?_
 refine .cond rfl (fun h3 => ?_) (fun h3 => ?_)
 ·replace h3 := of_decide_eq_true h3
  rw [List.length_map] at h3
  have hlt : k < c.things.length := by omega
  have hbk := hc.things _ (List.getElem_mem hlt)
  refine .skip ?_
  refine .seq ?_
  refine .block ?_
  refine .sr ?_
  refine .mA ?_
  refine .sA (.indexAddr rfl et_22 rfl rfl k rfl (at_lst hlt) rfl) ?_
  refine .sA (.loadAgg rfl ag_61 rfl rfl) ?_
  refine .alloc 101 rfl rfl rfl rfl zt_61 rfl rfl rfl ?_
  refine .aA ?_
  refine .store rfl rfl rfl sz_61 rfl (.head _) rfl rfl rfl (Nat.le_of_ble_eq_true rfl) ?_
  refine .freezeCells 4 (ds := c.things[k].ds) rfl (.head _) (.nil ?_)
  refine .seq ?_
  refine .sr ?_
  refine .sA (.fieldAddr rfl fo_61_0 rfl) ?_
  refine .sA (.load rfl sc_3 rfl) ?_
  refine .sA (.lss rfl rfl rfl) ?_
  refine .mA ?_
  refine .split 33 rfl (fun g4 => ?_) (fun g4 => ?_)
  ·replace g4 := of_decide_eq_true g4
   refine .pA ?_
   refine .pA ?_
   refine .pA ?_
   refine .sA (.pickT rfl rfl rfl) (.nil ?_)
   refine .cond rfl (fun _ => ?_) (fun h => nomatch h)
   refine .sr ?_
   refine .aA (.nil ?_)
   refine .ret ?_
   refine ⟨RetD.eq rfl ?_, trivial⟩
   all_goals (first | rfl | first | rw [HR] | rw [chk_t hL hlt hk.2 (show thF c.things k = 1 from by unfold thF; rw [dif_pos hlt]; (first | (exfalso; omega) | ((repeat (first | rw [if_pos (by first | assumption | omega)] | rw [if_neg (by first | assumption | omega)])); first | done | rfl | omega | decide))) (by decide)] | rw [chk_t hL hlt hk.2 (show thF c.things k = 8 from by unfold thF; rw [dif_pos hlt]; (first | (exfalso; omega) | ((repeat (first | rw [if_pos (by first | assumption | omega)] | rw [if_neg (by first | assumption | omega)])); first | done | rfl | omega | decide))) (by decide)])
  replace g4 := of_decide_eq_false g4
  refine .sG (.fieldAddr rfl fo_61_0 rfl) ?_
  refine .sG (.load rfl sc_3 rfl) ?_
  refine .sG (.gtr rfl rfl rfl) ?_
  refine .sA (.pickF rfl rfl rfl) (.nil ?_)
  refine .cond rfl (fun h5 => ?_) (fun h5 => ?_)
  ·replace h5 := of_decide_eq_true h5
   refine .sr ?_
   refine .aA (.nil ?_)
   refine .ret ?_
   refine ⟨RetD.eq rfl ?_, trivial⟩
   all_goals (first | rfl | first | rw [HR] | rw [chk_t hL hlt hk.2 (show thF c.things k = 1 from by unfold thF; rw [dif_pos hlt]; (first | (exfalso; omega) | ((repeat (first | rw [if_pos (by first | assumption | omega)] | rw [if_neg (by first | assumption | omega)])); first | done | rfl | omega | decide))) (by decide)] | rw [chk_t hL hlt hk.2 (show thF c.things k = 8 from by unfold thF; rw [dif_pos hlt]; (first | (exfalso; omega) | ((repeat (first | rw [if_pos (by first | assumption | omega)] | rw [if_neg (by first | assumption | omega)])); first | done | rfl | omega | decide))) (by decide)])
  replace h5 := of_decide_eq_false h5
  refine .skip ?_
  refine .seq ?_
  refine .seq ?_
  refine .draw (by kernel_rfl) (by kernel_rfl) ?_
  refine .sA (.moveD rfl rfl) ?_
  refine .sA (.gtr rfl rfl rfl) ?_
  refine .sA (.moveD rfl rfl) ?_
  refine .split 40 rfl (fun g6 => ?_) (fun g6 => ?_)
  ·replace g6 := of_decide_eq_true g6
   have hk0 : 0 < k := by omega
   refine .sG (.fieldAddr rfl fo_61_0 rfl) ?_
   refine .sG (.load rfl sc_3 rfl) ?_
   refine .sG (.fieldAddr rfl fo_25_0 rfl) ?_
   refine .sG (.load rfl sc_22 rfl) ?_
   refine .sG (.moveD rfl rfl) ?_
   refine .sG (.sub64 rfl rfl rfl (by omega) (by omega)) ?_
   refine .sG (.indexAddr rfl et_22 rfl rfl (k - 1) (by omega) (at_lst (by omega)) rfl) ?_
   refine .sG (.fieldAddr rfl fo_61_0 rfl) ?_
   refine .sG (.load rfl sc_3 rfl) ?_
   refine .sG (.leq rfl rfl rfl) ?_
   refine .sA (.pickT rfl rfl rfl) ?_
   refine .nil ?_
   refine .cond rfl (fun h7 => ?_) (fun h7 => ?_)
   ·replace h7 := of_decide_eq_true h7
    refine .sr ?_
    refine .aA (.nil ?_)
    refine .ret ?_
    refine ⟨RetD.eq rfl ?_, trivial⟩
    all_goals (first | rfl | first | rw [HR] | rw [chk_t hL hlt hk.2 (show thF c.things k = 1 from by unfold thF; rw [dif_pos hlt]; (first | (exfalso; omega) | ((repeat (first | rw [if_pos (by first | assumption | omega)] | rw [if_neg (by first | assumption | omega)])); first | done | rfl | omega | decide))) (by decide)] | rw [chk_t hL hlt hk.2 (show thF c.things k = 8 from by unfold thF; rw [dif_pos hlt]; (first | (exfalso; omega) | ((repeat (first | rw [if_pos (by first | assumption | omega)] | rw [if_neg (by first | assumption | omega)])); first | done | rfl | omega | decide))) (by decide)])
   replace h7 := of_decide_eq_false h7
   refine .skip ?_
   refine .sr ?_
   refine .sA (.loadAgg rfl ag_61 rfl rfl) ?_
   -- wants the world
   refine .callT rfl rfl rfl hT maxT_stays rfl (.cons (.rfl' rfl) .nil) (c_pThg _ hbk) ?_
   refine .aA (.nil ?_)
   refine .sr ?_
   refine .mA ?_
   refine .sA (.neq rfl rfl rfl) (.nil ?_)
   refine .cond rfl (fun h8 => ?_) (fun h8 => ?_)
   ·replace h8 := of_decide_eq_true h8
    have HT : chkF c = thgF c.things[k] := chk_t hL hlt hk.2 (show thF c.things k = _ from by unfold thF; rw [dif_pos hlt]; (first | (exfalso; omega) | ((repeat (first | rw [if_pos (by first | assumption | omega)] | rw [if_neg (by first | assumption | omega)])); first | done | rfl | omega | decide))) h8
    rw [HT]
    refine .sr ?_
    refine .mA ?_
    refine .aA (.nil ?_)
    refine .ret ?_
    refine ⟨RetD.eq rfl ?_, trivial⟩
    all_goals (first | rfl | first | rw [HR] | rw [chk_t hL hlt hk.2 (show thF c.things k = 1 from by unfold thF; rw [dif_pos hlt]; (first | (exfalso; omega) | ((repeat (first | rw [if_pos (by first | assumption | omega)] | rw [if_neg (by first | assumption | omega)])); first | done | rfl | omega | decide))) (by decide)] | rw [chk_t hL hlt hk.2 (show thF c.things k = 8 from by unfold thF; rw [dif_pos hlt]; (first | (exfalso; omega) | ((repeat (first | rw [if_pos (by first | assumption | omega)] | rw [if_neg (by first | assumption | omega)])); first | done | rfl | omega | decide))) (by decide)])
   replace h8 := of_decide_eq_false h8
   refine .skip ?_
   refine .region ?_
   refine .sA (.add64 rfl rfl rfl (by omega) (by omega)) ?_
   refine .mA (.nil ?_)
   refine ⟨k + 1, ⟨by omega, ffst_next hk.2 (show thF c.things k = 0 from by unfold thF; rw [dif_pos hlt]; (first | (exfalso; omega) | ((repeat (first | rw [if_pos (by first | assumption | omega)] | rw [if_neg (by first | assumption | omega)])); first | done | rfl | omega | decide)))⟩, (by dsimp only; omega), Sub.less ⟨(SLe.of_eq rfl), SLe.refl _, SLe.refl _, SLe.refl _, trivial⟩ (fun _ h => h)⟩
  replace g6 := of_decide_eq_false g6
  refine .pA ?_
  refine .pA ?_
  refine .pA ?_
  refine .pA ?_
  refine .pA ?_
  refine .pA ?_
  refine .pA ?_
  refine .pA ?_
  refine .pA ?_
  refine .pA ?_
  refine .sA (.pickF rfl rfl rfl) ?_
  refine .nil ?_
  refine .cond rfl (fun h => nomatch h) (fun _ => ?_)
  refine .skip ?_
  refine .sr ?_
  refine .sA (.loadAgg rfl ag_61 rfl rfl) ?_
  -- wants the world
  refine .callT rfl rfl rfl hT maxT_stays rfl (.cons (.rfl' rfl) .nil) (c_pThg _ hbk) ?_
  refine .aA (.nil ?_)
  refine .sr ?_
  refine .mA ?_
  refine .sA (.neq rfl rfl rfl) (.nil ?_)
  refine .cond rfl (fun h9 => ?_) (fun h9 => ?_)
  ·replace h9 := of_decide_eq_true h9
   have HT : chkF c = thgF c.things[k] := chk_t hL hlt hk.2 (show thF c.things k = _ from by unfold thF; rw [dif_pos hlt]; (first | (exfalso; omega) | ((repeat (first | rw [if_pos (by first | assumption | omega)] | rw [if_neg (by first | assumption | omega)])); first | done | rfl | omega | decide))) h9
   rw [HT]
   refine .sr ?_
   refine .mA ?_
   refine .aA (.nil ?_)
   refine .ret ?_
   refine ⟨RetD.eq rfl ?_, trivial⟩
   all_goals (first | rfl | first | rw [HR] | rw [chk_t hL hlt hk.2 (show thF c.things k = 1 from by unfold thF; rw [dif_pos hlt]; (first | (exfalso; omega) | ((repeat (first | rw [if_pos (by first | assumption | omega)] | rw [if_neg (by first | assumption | omega)])); first | done | rfl | omega | decide))) (by decide)] | rw [chk_t hL hlt hk.2 (show thF c.things k = 8 from by unfold thF; rw [dif_pos hlt]; (first | (exfalso; omega) | ((repeat (first | rw [if_pos (by first | assumption | omega)] | rw [if_neg (by first | assumption | omega)])); first | done | rfl | omega | decide))) (by decide)])
  replace h9 := of_decide_eq_false h9
  refine .skip ?_
  refine .region ?_
  refine .sA (.add64 rfl rfl rfl (by omega) (by omega)) ?_
  refine .mA (.nil ?_)
  refine ⟨k + 1, ⟨by omega, ffst_next hk.2 (show thF c.things k = 0 from by unfold thF; rw [dif_pos hlt]; (first | (exfalso; omega) | ((repeat (first | rw [if_pos (by first | assumption | omega)] | rw [if_neg (by first | assumption | omega)])); first | done | rfl | omega | decide)))⟩, (by dsimp only; omega), Sub.less ⟨(SLe.of_eq rfl), SLe.refl _, SLe.refl _, SLe.refl _, trivial⟩ (fun _ h => h)⟩
 replace h3 := of_decide_eq_false h3
 rw [List.length_map] at h3
 obtain rfl : k = c.things.length := by omega
 have HF1 := hk.2
 have hr := risT_of HF1
 refine .exit ?_
 refine .sr ?_
 refine .sA (.loadAgg rfl ag_25 rfl rfl) ?_
 refine .sA (.call rfl (.cons (.rfl' rfl) .nil) (c_idxOf c hLim hc hr)) ?_
 refine .aA (.nil ?_)
 refine .sr ?_
 refine .makeMap 92 rfl rfl rfl rfl rfl ?_
 refine .sA (.assignO rfl rfl) (.nil ?_)
 refine .seq ?_
 refine .sr ?_
 refine .sA (.fieldAddr rfl fo_25_0 rfl) ?_
 refine .sA (.load rfl sc_22 rfl) ?_
 refine .sA (.lenSl rfl et_22.ht rfl) ?_
 refine .mA (.nil ?_)
 refine .block ?_
 refine .loop (G := Nat) (fun k => Env.of [(64, .d (.v (.int .i64 (k : Int)))), (62, .d (.sl (c.things.map Thg.ds))), (63, .d (.v (.int .i64 ((c.things.map Thg.ds).length : Int)))), (6, .d (.fm (idxM c.things))), (7, .own 92), (1, .d (.fp c.ds))]) (fun k => [(92, .map (seenM (seenL (c.things.take k))))]) (fun k => k ≤ c.things.length ∧ ffst (lkF c.things) k = 0) (fun k => c.things.length - k) 0 ⟨Nat.zero_le _, rfl⟩ (Sub.less ⟨(SLe.of_eq rfl), SLe.refl _, SLe.refl _, SLe.refl _, SLe.refl _, SLe.refl _, trivial⟩ (map_1 rfl)) ?_
 intro k hk
 refine .sr ?_
 refine .sA (.lss rfl rfl rfl) (.nil ?_)
 refine .seq ?_
 refine .cond rfl (fun h10 => ?_) (fun h10 => ?_)
 ·replace h10 := of_decide_eq_true h10
  rw [List.length_map] at h10
  have hlt : k < c.things.length := by omega
  have hbk := hc.things _ (List.getElem_mem hlt)
  refine .skip ?_
  refine .seq ?_
  refine .block ?_
  refine .sr ?_
  refine .sA (.indexAddr rfl et_22 rfl rfl k rfl (at_lst hlt) rfl) ?_
  refine .sA (.loadAgg rfl ag_61 rfl rfl) ?_
  refine .alloc 103 rfl rfl rfl rfl zt_61 rfl rfl rfl ?_
  refine .store rfl rfl rfl sz_61 rfl (.head _) rfl rfl rfl (Nat.le_of_ble_eq_true rfl) ?_
  refine .freezeCells 9 (ds := c.things[k].ds) rfl (.head _) (.nil ?_)
  refine .seq ?_
  refine .sr ?_
  refine .mA ?_
  refine .sA (.loadAgg rfl ag_61 rfl rfl) ?_
  refine .sA (.call rfl (.cons (.rfl' rfl) (.cons (.rfl' rfl) .nil)) (c_pLink _ _ hc.things hr hbk hLim.1 (parts_of HF1 hlt))) ?_
  refine .aA (.nil ?_)
  refine .sr ?_
  refine .mA ?_
  refine .sA (.neq rfl rfl rfl) (.nil ?_)
  refine .cond rfl (fun h11 => ?_) (fun h11 => ?_)
  ·replace h11 := of_decide_eq_true h11
   have HT : chkF c = linkF c.things c.things[k] := chk_l hL HF1 hlt hk.2 (show lkF c.things k = _ from lk_p hlt rfl h11) h11
   rw [HT]
   refine .sr ?_
   refine .mA ?_
   refine .aA (.nil ?_)
   refine .ret ?_
   refine ⟨RetD.eq rfl ?_, trivial⟩
   all_goals (first | rfl | first | rw [HR] | rw [chk_t hL hlt hk.2 (show thF c.things k = 1 from by unfold thF; rw [dif_pos hlt]; (first | (exfalso; omega) | ((repeat (first | rw [if_pos (by first | assumption | omega)] | rw [if_neg (by first | assumption | omega)])); first | done | rfl | omega | decide))) (by decide)] | rw [chk_t hL hlt hk.2 (show thF c.things k = 8 from by unfold thF; rw [dif_pos hlt]; (first | (exfalso; omega) | ((repeat (first | rw [if_pos (by first | assumption | omega)] | rw [if_neg (by first | assumption | omega)])); first | done | rfl | omega | decide))) (by decide)])
  replace h11 := of_decide_eq_false h11
  have n0 : linkF c.things c.things[k] = 0 := by omega
  refine .skip ?_
  refine .sr ?_
  refine .sA (.fieldAddr rfl fo_61_1 rfl) ?_
  refine .sA (.load rfl sc_3 rfl) ?_
  refine .sA (.fieldAddr rfl fo_61_3 rfl) ?_
  refine .sA (.load rfl sc_9 rfl) ?_
  refine .sA (.build rfl bu_105 (.cons rfl rfl (.cons rfl rfl .nil)) rfl) ?_
  refine .alloc 104 rfl rfl rfl rfl zt_105 rfl rfl rfl ?_
  refine .store rfl rfl rfl sz_105 rfl (.head _) rfl rfl rfl (Nat.le_of_ble_eq_true rfl) ?_
  refine .freezeCells 11 (ds := [.v (.int .i64 c.things[k].kind), .v (.string c.things[k].code)]) rfl (.head _) (.nil ?_)
  refine .seq ?_
  refine .sr ?_
  refine .sA (.fieldAddr rfl fo_61_3 rfl) ?_
  refine .sA (.load rfl sc_9 rfl) ?_
  refine .sA (.sneq rfl rfl rfl) ?_
  refine .mA ?_
  refine .split 82 rfl (fun g12 => ?_) (fun g12 => ?_)
  ·replace g12 := of_decide_eq_true g12
   have hcn := g12
   refine .sG (.moveO rfl rfl) ?_
   refine .sG (.loadAgg rfl ag_105 rfl rfl) ?_
   refine .sG (.lookupX (key := kC (c.things[k].kind, c.things[k].code)) rfl mt_seen kd_C zt_bool zd_bool rfl (.head _) rfl (DExact.agg2 _ _) (kC_ok hbk.kind hbk.code) (seen_keys hc.things k) (get_seen _ _ _)) ?_
   refine .sA (.pickT rfl rfl rfl) (.nil ?_)
   refine .cond rfl (fun h13 => ?_) (fun h13 => ?_)
   ·skip
    have HR : chkF c = 7 := chk_l hL HF1 hlt hk.2 (lk_7 hlt n0 hcn h13) (by decide)
    refine .sr ?_
    refine .aA (.nil ?_)
    refine .ret ?_
    refine ⟨RetD.eq rfl ?_, trivial⟩
    all_goals (first | rfl | first | rw [HR] | rw [chk_t hL hlt hk.2 (show thF c.things k = 1 from by unfold thF; rw [dif_pos hlt]; (first | (exfalso; omega) | ((repeat (first | rw [if_pos (by first | assumption | omega)] | rw [if_neg (by first | assumption | omega)])); first | done | rfl | omega | decide))) (by decide)] | rw [chk_t hL hlt hk.2 (show thF c.things k = 8 from by unfold thF; rw [dif_pos hlt]; (first | (exfalso; omega) | ((repeat (first | rw [if_pos (by first | assumption | omega)] | rw [if_neg (by first | assumption | omega)])); first | done | rfl | omega | decide))) (by decide)])
   have n7 : ¬ (¬ c.things[k].code = ⟨#[]⟩ ∧ twB c.things k c.things[k] = true) := fun hh => by have q7 := hh.2; rw [h13] at q7; cases q7
   refine .skip ?_
   refine .region ?_
   refine .sA (.moveO rfl rfl) ?_
   refine .sA (.loadAgg rfl ag_105 rfl rfl) ?_
   refine .eff rfl rfl (.mapUpdateX (key := kC (c.things[k].kind, c.things[k].code)) rfl rfl mt_seen kd_C rfl (.head _) rfl (DExact.agg2 _ _) rfl (kC_ok hbk.kind hbk.code) (seen_keys hc.things k) (put_seen hlt)) (.nil ?_)
   refine .region ?_
   refine .sA (.add64 rfl rfl rfl (by omega) (by omega)) ?_
   refine .mA (.nil ?_)
   refine ⟨k + 1, ⟨by omega, ffst_next hk.2 (lk_0 hlt n0 n7)⟩, (by dsimp only; omega), Sub.less ⟨(SLe.of_eq rfl), SLe.refl _, SLe.refl _, SLe.refl _, SLe.refl _, SLe.refl _, trivial⟩ (map_1 rfl)⟩
  replace g12 := of_decide_eq_false g12
  have n7 : ¬ (¬ c.things[k].code = ⟨#[]⟩ ∧ twB c.things k c.things[k] = true) := fun hh => hh.1 (by first | exact g12 | exact Decidable.not_not.1 g12)
  refine .pA ?_
  refine .pA ?_
  refine .pA ?_
  refine .sA (.pickF rfl rfl rfl) (.nil ?_)
  refine .cond rfl (fun h => nomatch h) (fun _ => ?_)
  refine .skip ?_
  refine .region ?_
  refine .sA (.moveO rfl rfl) ?_
  refine .sA (.loadAgg rfl ag_105 rfl rfl) ?_
  refine .eff rfl rfl (.mapUpdateX (key := kC (c.things[k].kind, c.things[k].code)) rfl rfl mt_seen kd_C rfl (.head _) rfl (DExact.agg2 _ _) rfl (kC_ok hbk.kind hbk.code) (seen_keys hc.things k) (put_seen hlt)) (.nil ?_)
  refine .region ?_
  refine .sA (.add64 rfl rfl rfl (by omega) (by omega)) ?_
  refine .mA (.nil ?_)
  refine ⟨k + 1, ⟨by omega, ffst_next hk.2 (lk_0 hlt n0 n7)⟩, (by dsimp only; omega), Sub.less ⟨(SLe.of_eq rfl), SLe.refl _, SLe.refl _, SLe.refl _, SLe.refl _, SLe.refl _, trivial⟩ (map_1 rfl)⟩
 replace h10 := of_decide_eq_false h10
 rw [List.length_map] at h10
 obtain rfl : k = c.things.length := by omega
 have HR : chkF c = mvdF c := chk_m hL HF1 hk.2
 refine .exit ?_
 refine .sr ?_
 refine .sA (.loadAgg rfl ag_25 rfl rfl) ?_
 refine .mA ?_
 refine .sA (.call rfl (.cons (.rfl' rfl) (.cons (.rfl' rfl) .nil)) (c_pMvd c hLim hc hr)) ?_
 refine .aA (.nil ?_)
 refine .ret ?_
 refine ⟨RetD.eq rfl ?_, trivial⟩
 all_goals (first | rfl | first | rw [HR] | rw [chk_t hL hlt hk.2 (show thF c.things k = 1 from by unfold thF; rw [dif_pos hlt]; (first | (exfalso; omega) | ((repeat (first | rw [if_pos (by first | assumption | omega)] | rw [if_neg (by first | assumption | omega)])); first | done | rfl | omega | decide))) (by decide)] | rw [chk_t hL hlt hk.2 (show thF c.things k = 8 from by unfold thF; rw [dif_pos hlt]; (first | (exfalso; omega) | ((repeat (first | rw [if_pos (by first | assumption | omega)] | rw [if_neg (by first | assumption | omega)])); first | done | rfl | omega | decide))) (by decide)])

set_option maxRecDepth 100000 in
set_option maxHeartbeats 1000000 in
theorem c_rChk (c : Ctl) (hc : CtlOk c) : ACallT Tryz.prog MaxT 22 [.agg c.ds] (.v (.int .i64 (chkF c))) := by
 refine acall_ofT (n := 65) (ds' := [.v (.int .i64 (chkF c))]) Tryz.func22 rfl (by kernel_rfl) rfl [2] rfl rfl ?_
 intro B w0 F0 hT
 have htl : (c.things.map Thg.ds).length = c.things.length := List.length_map ..
 have hml : (c.moved.map Mvd.ds).length = c.moved.length := List.length_map ..
 refine .sr ?_
 refine .sA (.box rfl rfl rfl) ?_
 refine .aA (.nil ?_)
 refine .seq ?_
 refine .sr ?_
 refine .sA (.fieldAddr rfl fo_25_0 rfl) ?_
 refine .sA (.load rfl sc_22 rfl) ?_
 refine .sA (.lenSl rfl et_22.ht rfl) ?_
 refine .sA (.gtr rfl rfl rfl) ?_
 refine .mA ?_
 refine .split 12 rfl (fun g1 => ?_) (fun g1 => ?_)
 ·replace g1 := of_decide_eq_true g1
  have HR : chkF c = 2 := if_pos (by omega)
  refine .pA ?_
  refine .pA ?_
  refine .pA ?_
  refine .pA ?_
  refine .sA (.pickT rfl rfl rfl) (.nil ?_)
  refine .cond rfl (fun _ => ?_) (fun h => nomatch h)
  refine .sr ?_
  refine .aA (.nil ?_)
  refine .ret ?_
  refine ⟨RetD.eq rfl ?_, trivial⟩
  all_goals (first | rfl | first | rw [HR] | rw [chk_t hL hlt hk.2 (show thF c.things k = 1 from by unfold thF; rw [dif_pos hlt]; (first | (exfalso; omega) | ((repeat (first | rw [if_pos (by first | assumption | omega)] | rw [if_neg (by first | assumption | omega)])); first | done | rfl | omega | decide))) (by decide)] | rw [chk_t hL hlt hk.2 (show thF c.things k = 8 from by unfold thF; rw [dif_pos hlt]; (first | (exfalso; omega) | ((repeat (first | rw [if_pos (by first | assumption | omega)] | rw [if_neg (by first | assumption | omega)])); first | done | rfl | omega | decide))) (by decide)])
 replace g1 := of_decide_eq_false g1
 refine .sG (.fieldAddr rfl fo_25_1 rfl) ?_
 refine .sG (.load rfl sc_23 rfl) ?_
 refine .sG (.lenSl rfl et_23.ht rfl) ?_
 refine .sG (.gtr rfl rfl rfl) ?_
 refine .sA (.pickF rfl rfl rfl) (.nil ?_)
 refine .cond rfl (fun h2 => ?_) (fun h2 => ?_)
 ·replace h2 := of_decide_eq_true h2
  have HR : chkF c = 2 := if_pos (by omega)
  refine .sr ?_
  refine .aA (.nil ?_)
  refine .ret ?_
  refine ⟨RetD.eq rfl ?_, trivial⟩
  all_goals (first | rfl | first | rw [HR] | rw [chk_t hL hlt hk.2 (show thF c.things k = 1 from by unfold thF; rw [dif_pos hlt]; (first | (exfalso; omega) | ((repeat (first | rw [if_pos (by first | assumption | omega)] | rw [if_neg (by first | assumption | omega)])); first | done | rfl | omega | decide))) (by decide)] | rw [chk_t hL hlt hk.2 (show thF c.things k = 8 from by unfold thF; rw [dif_pos hlt]; (first | (exfalso; omega) | ((repeat (first | rw [if_pos (by first | assumption | omega)] | rw [if_neg (by first | assumption | omega)])); first | done | rfl | omega | decide))) (by decide)])
 replace h2 := of_decide_eq_false h2
 have hL : ¬ (300 < c.things.length ∨ 300 < c.moved.length) := by omega
 have hLim := lim_of hL
 refine .skip ?_
 refine .seq ?_
 refine .sr ?_
 refine .sA (.fieldAddr rfl fo_25_0 rfl) ?_
 refine .sA (.load rfl sc_22 rfl) ?_
 refine .sA (.lenSl rfl et_22.ht rfl) ?_
 refine .mA (.nil ?_)
 refine .block ?_
 refine .loop (G := Nat) (fun k => Env.of [(21, .d (.v (.int .i64 (k : Int)))), (19, .d (.sl (c.things.map Thg.ds))), (20, .d (.v (.int .i64 ((c.things.map Thg.ds).length : Int)))), (1, .d (.fp c.ds))]) (fun k => []) (fun k => k ≤ c.things.length ∧ ffst (thF c.things) k = 0) (fun k => c.things.length - k) 0 ⟨Nat.zero_le _, rfl⟩ (Sub.less ⟨(SLe.of_eq rfl), SLe.refl _, SLe.refl _, SLe.refl _, trivial⟩ (fun _ h => h)) ?_
 intro k hk
 refine .sr ?_
 refine .sA (.lss rfl rfl rfl) (.nil ?_)
 refine .seq ?_
 refine .cond rfl (fun h3 => ?_) (fun h3 => ?_)
 ·replace h3 := of_decide_eq_true h3
  rw [List.length_map] at h3
  have hlt : k < c.things.length := by omega
  have hbk := hc.things _ (List.getElem_mem hlt)
  refine .skip ?_
  refine .seq ?_
  refine .block ?_
  refine .sr ?_
  refine .mA ?_
  refine .sA (.indexAddr rfl et_22 rfl rfl k rfl (at_lst hlt) rfl) ?_
  refine .sA (.loadAgg rfl ag_61 rfl rfl) ?_
  refine .alloc 101 rfl rfl rfl rfl zt_61 rfl rfl rfl ?_
  refine .aA ?_
  refine .store rfl rfl rfl sz_61 rfl (.head _) rfl rfl rfl (Nat.le_of_ble_eq_true rfl) ?_
  refine .freezeCells 4 (ds := c.things[k].ds) rfl (.head _) (.nil ?_)
  refine .seq ?_
  refine .sr ?_
  refine .sA (.fieldAddr rfl fo_61_0 rfl) ?_
  refine .sA (.load rfl sc_3 rfl) ?_
  refine .sA (.call rfl (.cons (.rfl' rfl) (.cons (.rfl' rfl) (.cons (.rfl' rfl) .nil))) (c_rIn _ _ _)) ?_
  refine .sA (.not rfl rfl) (.nil ?_)
  refine .cond rfl (fun h4 => ?_) (fun h4 => ?_)
  ·replace h4 := bnot_t h4; replace h4 := of_decide_eq_false h4
   refine .sr ?_
   refine .aA (.nil ?_)
   refine .ret ?_
   refine ⟨RetD.eq rfl ?_, trivial⟩
   all_goals (first | rfl | first | rw [HR] | rw [chk_t hL hlt hk.2 (show thF c.things k = 1 from by unfold thF; rw [dif_pos hlt]; (first | (exfalso; omega) | ((repeat (first | rw [if_pos (by first | assumption | omega)] | rw [if_neg (by first | assumption | omega)])); first | done | rfl | omega | decide))) (by decide)] | rw [chk_t hL hlt hk.2 (show thF c.things k = 8 from by unfold thF; rw [dif_pos hlt]; (first | (exfalso; omega) | ((repeat (first | rw [if_pos (by first | assumption | omega)] | rw [if_neg (by first | assumption | omega)])); first | done | rfl | omega | decide))) (by decide)])
  replace h4 := bnot_f h4; replace h4 := of_decide_eq_true h4
  refine .skip ?_
  refine .seq ?_
  refine .seq ?_
  refine .draw (by kernel_rfl) (by kernel_rfl) ?_
  refine .sA (.moveD rfl rfl) ?_
  refine .sA (.gtr rfl rfl rfl) ?_
  refine .sA (.moveD rfl rfl) ?_
  refine .split 32 rfl (fun g5 => ?_) (fun g5 => ?_)
  ·replace g5 := of_decide_eq_true g5
   have hk0 : 0 < k := by omega
   refine .sG (.fieldAddr rfl fo_61_0 rfl) ?_
   refine .sG (.load rfl sc_3 rfl) ?_
   refine .sG (.fieldAddr rfl fo_25_0 rfl) ?_
   refine .sG (.load rfl sc_22 rfl) ?_
   refine .sG (.moveD rfl rfl) ?_
   refine .sG (.sub64 rfl rfl rfl (by omega) (by omega)) ?_
   refine .sG (.indexAddr rfl et_22 rfl rfl (k - 1) (by omega) (at_lst (by omega)) rfl) ?_
   refine .sG (.fieldAddr rfl fo_61_0 rfl) ?_
   refine .sG (.load rfl sc_3 rfl) ?_
   refine .sG (.leq rfl rfl rfl) ?_
   refine .sA (.pickT rfl rfl rfl) ?_
   refine .nil ?_
   refine .cond rfl (fun h6 => ?_) (fun h6 => ?_)
   ·replace h6 := of_decide_eq_true h6
    refine .sr ?_
    refine .aA (.nil ?_)
    refine .ret ?_
    refine ⟨RetD.eq rfl ?_, trivial⟩
    all_goals (first | rfl | first | rw [HR] | rw [chk_t hL hlt hk.2 (show thF c.things k = 1 from by unfold thF; rw [dif_pos hlt]; (first | (exfalso; omega) | ((repeat (first | rw [if_pos (by first | assumption | omega)] | rw [if_neg (by first | assumption | omega)])); first | done | rfl | omega | decide))) (by decide)] | rw [chk_t hL hlt hk.2 (show thF c.things k = 8 from by unfold thF; rw [dif_pos hlt]; (first | (exfalso; omega) | ((repeat (first | rw [if_pos (by first | assumption | omega)] | rw [if_neg (by first | assumption | omega)])); first | done | rfl | omega | decide))) (by decide)])
   replace h6 := of_decide_eq_false h6
   refine .skip ?_
   refine .sr ?_
   refine .sA (.loadAgg rfl ag_61 rfl rfl) ?_
   -- wants the world
   refine .callT rfl rfl rfl hT maxT_stays rfl (.cons (.rfl' rfl) .nil) (c_rThg _ hbk) ?_
   refine .aA (.nil ?_)
   refine .sr ?_
   refine .mA ?_
   refine .sA (.neq rfl rfl rfl) (.nil ?_)
   refine .cond rfl (fun h7 => ?_) (fun h7 => ?_)
   ·replace h7 := of_decide_eq_true h7
    have HT : chkF c = thgF c.things[k] := chk_t hL hlt hk.2 (show thF c.things k = _ from by unfold thF; rw [dif_pos hlt]; (first | (exfalso; omega) | ((repeat (first | rw [if_pos (by first | assumption | omega)] | rw [if_neg (by first | assumption | omega)])); first | done | rfl | omega | decide))) h7
    rw [HT]
    refine .sr ?_
    refine .mA ?_
    refine .aA (.nil ?_)
    refine .ret ?_
    refine ⟨RetD.eq rfl ?_, trivial⟩
    all_goals (first | rfl | first | rw [HR] | rw [chk_t hL hlt hk.2 (show thF c.things k = 1 from by unfold thF; rw [dif_pos hlt]; (first | (exfalso; omega) | ((repeat (first | rw [if_pos (by first | assumption | omega)] | rw [if_neg (by first | assumption | omega)])); first | done | rfl | omega | decide))) (by decide)] | rw [chk_t hL hlt hk.2 (show thF c.things k = 8 from by unfold thF; rw [dif_pos hlt]; (first | (exfalso; omega) | ((repeat (first | rw [if_pos (by first | assumption | omega)] | rw [if_neg (by first | assumption | omega)])); first | done | rfl | omega | decide))) (by decide)])
   replace h7 := of_decide_eq_false h7
   refine .skip ?_
   refine .region ?_
   refine .sA (.add64 rfl rfl rfl (by omega) (by omega)) ?_
   refine .mA (.nil ?_)
   refine ⟨k + 1, ⟨by omega, ffst_next hk.2 (show thF c.things k = 0 from by unfold thF; rw [dif_pos hlt]; (first | (exfalso; omega) | ((repeat (first | rw [if_pos (by first | assumption | omega)] | rw [if_neg (by first | assumption | omega)])); first | done | rfl | omega | decide)))⟩, (by dsimp only; omega), Sub.less ⟨(SLe.of_eq rfl), SLe.refl _, SLe.refl _, SLe.refl _, trivial⟩ (fun _ h => h)⟩
  replace g5 := of_decide_eq_false g5
  refine .pA ?_
  refine .pA ?_
  refine .pA ?_
  refine .pA ?_
  refine .pA ?_
  refine .pA ?_
  refine .pA ?_
  refine .pA ?_
  refine .pA ?_
  refine .pA ?_
  refine .sA (.pickF rfl rfl rfl) ?_
  refine .nil ?_
  refine .cond rfl (fun h => nomatch h) (fun _ => ?_)
  refine .skip ?_
  refine .sr ?_
  refine .sA (.loadAgg rfl ag_61 rfl rfl) ?_
  -- wants the world
  refine .callT rfl rfl rfl hT maxT_stays rfl (.cons (.rfl' rfl) .nil) (c_rThg _ hbk) ?_
  refine .aA (.nil ?_)
  refine .sr ?_
  refine .mA ?_
  refine .sA (.neq rfl rfl rfl) (.nil ?_)
  refine .cond rfl (fun h8 => ?_) (fun h8 => ?_)
  ·replace h8 := of_decide_eq_true h8
   have HT : chkF c = thgF c.things[k] := chk_t hL hlt hk.2 (show thF c.things k = _ from by unfold thF; rw [dif_pos hlt]; (first | (exfalso; omega) | ((repeat (first | rw [if_pos (by first | assumption | omega)] | rw [if_neg (by first | assumption | omega)])); first | done | rfl | omega | decide))) h8
   rw [HT]
   refine .sr ?_
   refine .mA ?_
   refine .aA (.nil ?_)
   refine .ret ?_
   refine ⟨RetD.eq rfl ?_, trivial⟩
   all_goals (first | rfl | first | rw [HR] | rw [chk_t hL hlt hk.2 (show thF c.things k = 1 from by unfold thF; rw [dif_pos hlt]; (first | (exfalso; omega) | ((repeat (first | rw [if_pos (by first | assumption | omega)] | rw [if_neg (by first | assumption | omega)])); first | done | rfl | omega | decide))) (by decide)] | rw [chk_t hL hlt hk.2 (show thF c.things k = 8 from by unfold thF; rw [dif_pos hlt]; (first | (exfalso; omega) | ((repeat (first | rw [if_pos (by first | assumption | omega)] | rw [if_neg (by first | assumption | omega)])); first | done | rfl | omega | decide))) (by decide)])
  replace h8 := of_decide_eq_false h8
  refine .skip ?_
  refine .region ?_
  refine .sA (.add64 rfl rfl rfl (by omega) (by omega)) ?_
  refine .mA (.nil ?_)
  refine ⟨k + 1, ⟨by omega, ffst_next hk.2 (show thF c.things k = 0 from by unfold thF; rw [dif_pos hlt]; (first | (exfalso; omega) | ((repeat (first | rw [if_pos (by first | assumption | omega)] | rw [if_neg (by first | assumption | omega)])); first | done | rfl | omega | decide)))⟩, (by dsimp only; omega), Sub.less ⟨(SLe.of_eq rfl), SLe.refl _, SLe.refl _, SLe.refl _, trivial⟩ (fun _ h => h)⟩
 replace h3 := of_decide_eq_false h3
 rw [List.length_map] at h3
 obtain rfl : k = c.things.length := by omega
 have HF1 := hk.2
 have hr := risT_of HF1
 refine .exit ?_
 refine .seq ?_
 refine .sr ?_
 refine .sA (.fieldAddr rfl fo_25_0 rfl) ?_
 refine .sA (.load rfl sc_22 rfl) ?_
 refine .sA (.lenSl rfl et_22.ht rfl) ?_
 refine .mA (.nil ?_)
 refine .block ?_
 refine .loop (G := Nat) (fun k => Env.of [(53, .d (.v (.int .i64 (k : Int)))), (52, .d (.v (.int .i64 ((c.things.map Thg.ds).length : Int)))), (1, .d (.fp c.ds))]) (fun k => []) (fun k => k ≤ c.things.length ∧ ffst (lkF c.things) k = 0) (fun k => c.things.length - k) 0 ⟨Nat.zero_le _, rfl⟩ (Sub.less ⟨(SLe.of_eq rfl), SLe.refl _, SLe.refl _, trivial⟩ (fun _ h => h)) ?_
 intro k hk
 refine .sr ?_
 refine .sA (.lss rfl rfl rfl) (.nil ?_)
 refine .seq ?_
 refine .cond rfl (fun h9 => ?_) (fun h9 => ?_)
 ·replace h9 := of_decide_eq_true h9
  rw [List.length_map] at h9
  have hlt : k < c.things.length := by omega
  have hbk := hc.things _ (List.getElem_mem hlt)
  refine .skip ?_
  refine .seq ?_
  refine .block ?_
  refine .sr ?_
  refine .mA ?_
  refine .aA (.nil ?_)
  refine .sr ?_
  refine .sA (.loadAgg rfl ag_25 rfl rfl) ?_
  refine .mA ?_
  refine .sA (.call rfl (.cons (.rfl' rfl) (.cons (.rfl' rfl) .nil)) (c_rLink c k hLim hr hlt (parts_of HF1 hlt))) ?_
  refine .aA (.nil ?_)
  refine .sr ?_
  refine .mA ?_
  refine .sA (.neq rfl rfl rfl) (.nil ?_)
  refine .cond rfl (fun h10 => ?_) (fun h10 => ?_)
  ·replace h10 := of_decide_eq_true h10
   have HT : chkF c = lkF c.things k := chk_l hL HF1 hlt hk.2 rfl h10
   rw [HT]
   refine .sr ?_
   refine .mA ?_
   refine .aA (.nil ?_)
   refine .ret ?_
   refine ⟨RetD.eq rfl ?_, trivial⟩
   all_goals (first | rfl | first | rw [HR] | rw [chk_t hL hlt hk.2 (show thF c.things k = 1 from by unfold thF; rw [dif_pos hlt]; (first | (exfalso; omega) | ((repeat (first | rw [if_pos (by first | assumption | omega)] | rw [if_neg (by first | assumption | omega)])); first | done | rfl | omega | decide))) (by decide)] | rw [chk_t hL hlt hk.2 (show thF c.things k = 8 from by unfold thF; rw [dif_pos hlt]; (first | (exfalso; omega) | ((repeat (first | rw [if_pos (by first | assumption | omega)] | rw [if_neg (by first | assumption | omega)])); first | done | rfl | omega | decide))) (by decide)])
  replace h10 := of_decide_eq_false h10
  have n0 : lkF c.things k = 0 := by omega
  refine .skip ?_
  refine .region ?_
  refine .sA (.add64 rfl rfl rfl (by omega) (by omega)) ?_
  refine .mA (.nil ?_)
  refine ⟨k + 1, ⟨by omega, ffst_next hk.2 n0⟩, (by dsimp only; omega), Sub.less ⟨(SLe.of_eq rfl), SLe.refl _, SLe.refl _, trivial⟩ (fun _ h => h)⟩
 replace h9 := of_decide_eq_false h9
 rw [List.length_map] at h9
 obtain rfl : k = c.things.length := by omega
 have HR : chkF c = mvdF c := chk_m hL HF1 hk.2
 refine .exit ?_
 refine .sr ?_
 refine .sA (.loadAgg rfl ag_25 rfl rfl) ?_
 refine .sA (.call rfl (.cons (.rfl' rfl) .nil) (c_rMvd c hLim hc hr)) ?_
 refine .aA (.nil ?_)
 refine .ret ?_
 refine ⟨RetD.eq rfl ?_, trivial⟩
 all_goals (first | rfl | first | rw [HR] | rw [chk_t hL hlt hk.2 (show thF c.things k = 1 from by unfold thF; rw [dif_pos hlt]; (first | (exfalso; omega) | ((repeat (first | rw [if_pos (by first | assumption | omega)] | rw [if_neg (by first | assumption | omega)])); first | done | rfl | omega | decide))) (by decide)] | rw [chk_t hL hlt hk.2 (show thF c.things k = 8 from by unfold thF; rw [dif_pos hlt]; (first | (exfalso; omega) | ((repeat (first | rw [if_pos (by first | assumption | omega)] | rw [if_neg (by first | assumption | omega)])); first | done | rfl | omega | decide))) (by decide)])

end Go.Proofs.YthcdjmkkgbcaaaaGreatDoor

namespace Go.Proofs.YthcdjmkkgbcaaaaGreatDoor
open Go.RowKit
set_option linter.unusedVariables false

/-! Types. -/
namespace TyYA
end TyYA
open TyH3 TyH4 TyH5 TyJ3 TyJ4 TyJ5 TyKA TyKB TyKC TyKD TyKE TyKF TyKG TyYA

set_option linter.unusedSimpArgs false
def fT (t : Thg) : List UInt8 := foldS t.title.data.toList
/-- Whether two things may be the same. -/
def alkB (a b : Thg) : Bool :=
  if a.kind ≠ b.kind then false
  else if fT a ≠ fT b then false
  else if a.kind = 2 then (if a.parent = b.parent then decide (a.parent ≠ 0) else false)
  else if a.kind = 3 then decide (a.parts = b.parts)
  else if a.kind = 4 then decide (a.parent = b.parent)
  else true
def alks (t : Thg) (l : List Thg) : List Int := (l.filter (alkB t)).map Thg.id
theorem alks_nil (t : Thg) : alks t [] = [] := rfl
theorem alks_yes {t : Thg} {l : List Thg} {j : Nat} (h : j < l.length) (h2 : alkB t l[j] = true) : alks t (l.take (j + 1)) = alks t (l.take j) ++ [l[j].id] := by
  unfold alks
  rw [List.take_add_one, List.getElem?_eq_getElem h, Option.toList_some, List.filter_append, List.map_append]
  rw [show [l[j]].filter (alkB t) = [l[j]] from by rw [List.filter_cons, h2]; rfl]; rfl
theorem alks_no {t : Thg} {l : List Thg} {j : Nat} (h : j < l.length) (h2 : alkB t l[j] = false) : alks t (l.take (j + 1)) = alks t (l.take j) := by
  unfold alks
  rw [List.take_add_one, List.getElem?_eq_getElem h, Option.toList_some, List.filter_append]
  rw [show [l[j]].filter (alkB t) = [] from by rw [List.filter_cons, h2]; rfl, List.append_nil]
theorem alks_len (t : Thg) (l : List Thg) : (alks t l).length ≤ l.length := by unfold alks; rw [List.length_map]; exact List.length_filter_le _ _
/-- The groups so far, and what is done. -/
def dblS (l : List Thg) : Nat → List (List Int) × List Int
  | 0 => ([], [])
  | k + 1 => if (l.getD k zT).id ∈ (dblS l k).2 then dblS l k
    else (if alks (l.getD k zT) (l.drop (k + 1)) = [] then (dblS l k).1 else (dblS l k).1 ++ [(l.getD k zT).id :: alks (l.getD k zT) (l.drop (k + 1))], (dblS l k).2 ++ alks (l.getD k zT) (l.drop (k + 1)))
/-- What is done, as the reference keeps it. -/
def dblR (l : List Thg) : Nat → List Int
  | 0 => []
  | k + 1 => if (l.getD k zT).id ∈ (dblS l k).2 then dblR l k else dblR l k ++ (l.getD k zT).id :: alks (l.getD k zT) (l.drop (k + 1))
section
variable {l : List Thg} {k : Nat}
theorem dbl_get (h : k < l.length) : l.getD k zT = l[k] := by rw [List.getD_eq_getElem?_getD, List.getElem?_eq_getElem h]; rfl
theorem dblS_in (h : k < l.length) (h2 : l[k].id ∈ (dblS l k).2) : dblS l (k + 1) = dblS l k := by
  show (if (l.getD k zT).id ∈ _ then _ else _) = _
  rw [dbl_get h, if_pos h2]
theorem dblR_in (h : k < l.length) (h2 : l[k].id ∈ (dblS l k).2) : dblR l (k + 1) = dblR l k := by
  show (if (l.getD k zT).id ∈ _ then _ else _) = _
  rw [dbl_get h, if_pos h2]
theorem dblR_out (h : k < l.length) (h2 : ¬ l[k].id ∈ (dblS l k).2) : dblR l (k + 1) = dblR l k ++ l[k].id :: alks l[k] (l.drop (k + 1)) := by
  show (if (l.getD k zT).id ∈ _ then _ else _) = _
  rw [dbl_get h, if_neg h2]
theorem dblS_one (h : k < l.length) (h2 : ¬ l[k].id ∈ (dblS l k).2) (h3 : ¬ 0 < (alks l[k] (l.drop (k + 1))).length) : dblS l (k + 1) = ((dblS l k).1, (dblS l k).2 ++ alks l[k] (l.drop (k + 1))) := by
  show (if (l.getD k zT).id ∈ _ then _ else _) = _
  rw [dbl_get h, if_neg h2, if_pos (List.eq_nil_of_length_eq_zero (by omega))]
theorem dblS_more (h : k < l.length) (h2 : ¬ l[k].id ∈ (dblS l k).2) (h3 : 0 < (alks l[k] (l.drop (k + 1))).length) : dblS l (k + 1) = ((dblS l k).1 ++ [l[k].id :: alks l[k] (l.drop (k + 1))], (dblS l k).2 ++ alks l[k] (l.drop (k + 1))) := by
  show (if (l.getD k zT).id ∈ _ then _ else _) = _
  rw [dbl_get h, if_neg h2, if_neg (fun e => by rw [e] at h3; simp at h3)]
theorem dblS_len : ∀ k, (dblS l k).1.length ≤ k
  | 0 => Nat.le_refl 0
  | k + 1 => by
    have ih := dblS_len k
    show (if (l.getD k zT).id ∈ _ then _ else _ : List (List Int) × List Int).1.length ≤ _
    split
    · omega
    · dsimp only
      split
      · omega
      · rw [List.length_append, List.length_singleton]; omega
theorem dblR_len : ∀ k, (dblR l k).length ≤ k * (l.length + 1)
  | 0 => Nat.zero_le _
  | k + 1 => by
    have ih := dblR_len k
    have ha := alks_len (l.getD k zT) (l.drop (k + 1))
    rw [List.length_drop] at ha
    rw [Nat.add_mul, Nat.one_mul]
    show (if (l.getD k zT).id ∈ _ then _ else _ : List Int).length ≤ _
    split
    · omega
    · rw [List.length_append, List.length_cons]; omega
theorem dblS_ids {n : Int} : ∀ k, n ∈ (dblS l k).2 → n ∈ l.map Thg.id
  | 0, h => by cases h
  | k + 1, h => by
    have ih := dblS_ids (n := n) k
    revert h
    show n ∈ (if (l.getD k zT).id ∈ _ then _ else _ : List (List Int) × List Int).2 → _
    split
    · exact ih
    · intro h
      rcases List.mem_append.1 h with h | h
      · exact ih h
      · unfold alks at h
        obtain ⟨t, ht, rfl⟩ := List.mem_map.1 h
        exact List.mem_map.2 ⟨t, List.mem_of_mem_drop (List.mem_filter.1 ht).1, rfl⟩
theorem dbl_same (hr : RisT l) : ∀ k j (hj : j < l.length), k ≤ j → (l[j].id ∈ dblR l k ↔ l[j].id ∈ (dblS l k).2)
  | 0, j, hj, _ => by show _ ∈ ([] : List Int) ↔ _ ∈ ([] : List Int); rfl
  | k + 1, j, hj, hk => by
    have ih := dbl_same hr k j hj (by omega)
    have hkl : k < l.length := by omega
    by_cases h2 : l[k].id ∈ (dblS l k).2
    · rw [dblR_in hkl h2, dblS_in hkl h2]; exact ih
    · rw [dblR_out hkl h2]
      have e : (dblS l (k + 1)).2 = (dblS l k).2 ++ alks l[k] (l.drop (k + 1)) := by
        by_cases h3 : 0 < (alks l[k] (l.drop (k + 1))).length
        · rw [dblS_more hkl h2 h3]
        · rw [dblS_one hkl h2 h3]
      rw [e, List.mem_append, List.mem_append, ih, List.mem_cons]
      have hne : l[j].id ≠ l[k].id := by have := hr.up k j hkl hj (by omega); omega
      exact ⟨fun h => h.elim .inl (fun h => h.elim (fun h => absurd h hne) .inr), fun h => h.elim .inl (fun h => .inr (.inr h))⟩
end
def dblV (c : Ctl) : List (List Int) × Int := if chkF c ≠ 0 then ([], chkF c) else ((dblS c.things c.things.length).1, 0)
theorem dblV_1 {c : Ctl} (h : chkF c ≠ 0) : (dblV c).1 = [] ∧ (dblV c).2 = chkF c := by unfold dblV; rw [if_pos h]; exact ⟨rfl, rfl⟩
theorem dblV_0 {c : Ctl} (h : chkF c = 0) : (dblV c).1 = (dblS c.things c.things.length).1 ∧ (dblV c).2 = 0 := by unfold dblV; rw [if_neg (fun hh => hh h)]; exact ⟨rfl, rfl⟩
/-! ## The program's map of what is done -/
def dnL (ids : List Int) : List (Int × Bool) := ids.foldl (fun L i => putG L i true) []
theorem dnL_app (a : List Int) (i : Int) : dnL (a ++ [i]) = putG (dnL a) i true := by unfold dnL; rw [List.foldl_append]; rfl
theorem dnL_ind {P : List (Int × Bool) → List Int → Prop} (h0 : P [] []) (h1 : ∀ L a i, P L a → P (putG L i true) (a ++ [i])) : ∀ a, P (dnL a) a := fun a => by
  have key : ∀ (b : List Int) (L : List (Int × Bool)) (a : List Int), P L a → P (b.foldl (fun L i => putG L i true) L) (a ++ b)
    := by
    intro b
    induction b with
    | nil => intro L a h; rw [List.append_nil]; exact h
    | cons i b ih =>
      intro L a h
      have := ih _ _ (h1 L a i h)
      rw [List.append_assoc] at this
      exact this
  exact key a [] [] h0
theorem dnL_nk (a : List Int) : NkG (dnL a) := dnL_ind (P := fun L _ => NkG L) List.Pairwise.nil (fun L a i h => putG_nk h _ _) a
theorem dnL_find (a : List Int) (n : Int) : findG (dnL a) n = if n ∈ a then some true else none := dnL_ind (P := fun L a => findG L n = if n ∈ a then some true else none) (by rfl) (fun L a i h => by
  rw [findG_put, h]
  by_cases hi : n = i
  · rw [if_pos (by first | exact hi | exact hi.symm), if_pos (by rw [hi]; simp)]
  · rw [if_neg (by first | exact hi | exact fun e => hi e.symm)]
    have : (n ∈ a ++ [i]) ↔ n ∈ a := by simp [hi]
    simp only [this]) a
def dnM (a : List Int) : List (Value × D) := encG kI (fun p => .v (.bool p.2)) (dnL a)
theorem dn_put (a : List Int) (n : Int) : MPut (dnM a) (kI n) (.v (.bool true)) (dnM (a ++ [n])) := by
  unfold dnM
  rw [dnL_app]
  exact mputG (kv := kI) (dv := fun p => D.v (.bool p.2)) kI_inj (dnL_nk a) n true
theorem dn_get (a : List Int) (n : Int) : MGet (dnM a) (kI n) (.v (.bool false)) (.v (.bool (decide (n ∈ a)))) := mgetG (kv := kI) (dv := fun p => D.v (.bool p.2)) kI_inj (dnL_nk a) n _ _ (by
  rw [dnL_find]
  by_cases h : n ∈ a
  · rw [if_pos h, decide_eq_true h]
  · rw [if_neg h, decide_eq_false h])
theorem dnL_keys {a : List Int} (h : ∀ n ∈ a, i64 n) : ∀ p ∈ dnL a, i64 p.1 := fun p hp => by
  have hf := (findG_mem (dnL_nk a) p).1 hp
  rw [dnL_find] at hf
  by_cases hm : p.1 ∈ a
  · exact h _ hm
  · rw [if_neg hm] at hf; cases hf
theorem dn_keys {a : List Int} (h : ∀ n ∈ a, i64 n) : ∀ p ∈ dnM a, ∃ q, keyOf Tryz.prog 3 p.1 = some q := fun p hp => by
  unfold dnM encG at hp
  obtain ⟨t, ht, rfl⟩ := List.mem_map.1 hp
  exact kI_ok (dnL_keys h t ht)

end Go.Proofs.YthcdjmkkgbcaaaaGreatDoor

namespace Go.Proofs.YthcdjmkkgbcaaaaGreatDoor
open Go.RowKit Go.Shelf
set_option linter.unusedVariables false

/-- What Insert does with an own row. -/
structure InsEnd (B : Nat) (e : TypeId) (w : World) (v : Value) (n : Nat) (ys : List Value) (v' : Value) (w' : World) : Prop where
  own : w'.ownsRow B e 1 v' n ys
  turn : Turn w w' (blk v)
  new : ∀ g, blk v' = some g → blk v = some g ∨ w.heap.size ≤ g

end Go.Proofs.YthcdjmkkgbcaaaaGreatDoor

namespace Go.Proofs.YthcdjmkkgbcaaaaGreatDoor
open Go.RowKit
set_option linter.unusedVariables false

/-- From k on each one waits for all before it but for the first b. -/
def Region.chain1B (ops : Array Oper) (b k : Nat) : Bool := Region.downB ops && Nat.ble k ops.size && Nat.ble b k && (List.range (ops.size - 1)).all fun j =>
  Nat.blt j b || (List.range ops.size).any fun m => Nat.blt j m && (Nat.ble m k || Nat.ble m (j + 1)) && Region.edge ops m j
structure Chain1 (ops : Array Oper) (b k : Nat) : Prop where
  down : Region.downB ops = true
  le : k ≤ ops.size
  bk : b ≤ k
  next : ∀ j, b ≤ j → j < ops.size - 1 → ∃ m, j < m ∧ (m ≤ k ∨ m ≤ j + 1) ∧ Region.edge ops m j = true
theorem Chain1.of {ops : Array Oper} {b k : Nat} (h : Region.chain1B ops b k = true) : Chain1 ops b k := by
  unfold Region.chain1B at h
  simp only [Bool.and_eq_true] at h
  obtain ⟨⟨⟨h1, h2⟩, h5⟩, h3⟩ := h
  refine ⟨h1, Nat.le_of_ble_eq_true h2, Nat.le_of_ble_eq_true h5, fun j hb hj => ?_⟩
  have h4 := List.all_eq_true.1 h3 j (List.mem_range.2 hj)
  rw [Bool.or_eq_true] at h4
  rcases h4 with h4 | h4
  · rw [Nat.blt_eq] at h4; omega
  · obtain ⟨m, _, hm⟩ := List.any_eq_true.1 h4
    simp only [Bool.and_eq_true, Bool.or_eq_true, Nat.blt_eq] at hm
    exact ⟨m, hm.1.1, hm.1.2.imp Nat.le_of_ble_eq_true Nat.le_of_ble_eq_true, hm.2⟩
section
variable {P : Program} {ops : Array Oper} {Q Q0 : Exit → Act → World → Prop} {b k : Nat}
end

def notSelect (o : Oper) : Bool := match o.op with | .select _ _ => false | _ => true
end Go.Proofs.YthcdjmkkgbcaaaaGreatDoor

namespace Go.Proofs.YthcdjmkkgbcaaaaGreatDoor
open Go.RowKit Go.Shelf
set_option linter.unusedVariables false

def intC (n : Int) : List D := [.v (.int .i64 n)]
section
variable {cx : Cx} {ops : Array Oper} {o : Oper} {rest : List Oper} {e : Env} {σ : Obs} {Q : Post}
end
section
variable {cx : Cx} {ops : Array Oper} {o : Oper} {rest : List Oper} {e : Env} {σ : Obs} {Q : Post}
end
def apartB (ops : Array Oper) (o0 : Oper) : Bool := (List.range ops.size).all fun j => Nat.beq j 0 || Region.edge ops j 0 || ((ops[j]?).map fun oj => o0.apart ops oj).getD true
def dstB (Φ : List Fr) (l : List Oper) : Bool := Φ.all fun f => (List.range l.length).all fun i => (List.range l.length).all fun j => Nat.beq i j || ((l[i]?).map fun o => neDst o f.dst).getD true || ((l[j]?).map fun o => neDst o f.dst).getD true
def openB (l : List Oper) (k2 k : Nat) (o0 : Oper) : Bool := Nat.blt 0 k2 && Nat.ble k2 k && Region.chainB l.toArray k && Region.chain1B (l.take k).toArray 1 k2 && (l.take k).all notSelect && apartB (l.take k).toArray o0 && (Array.all o0.after fun e => !(Region.binds .any e)) && Region.lexFrom .any (l.take k2).toArray (k2 - 1) 1 ((Array.replicate k2 false).setIfInBounds 0 true)
end Go.Proofs.YthcdjmkkgbcaaaaGreatDoor

namespace Go.Proofs.YthcdjmkkgbcaaaaGreatDoor
open Go.RowKit
set_option linter.unusedVariables false

def OneC (σ : Obs) (s : S) : Prop := OneS σ s ∨ ∃ id off, s = .ptr id off
section
variable {cx : Cx} {ops : Array Oper} {o : Oper} {rest : List Oper} {e : Env} {σ : Obs} {Q : Post}
end
/-! One object takes another's place. -/
def S.ren (i j : Nat) : S → S
  | .own k => match Nat.beq k i with | true => .own j | false => match Nat.beq k j with | true => .d .any | false => .own k
  | .ptr k off => match Nat.beq k i with | true => .ptr j off | false => match Nat.beq k j with | true => .d .any | false => .ptr k off
  | .d x => .d x
  | .clo f caps => .d .any
def Ob.ren (i j : Nat) : Ob → Ob
  | .row e size els => .row e size els
  | .cells ss => .cells (ss.map (S.ren i j))
  | .cellsT e ss => .cellsT e (ss.map (S.ren i j))
  | .map M => .map M
  | .rowS e size els => .rowS e size (els.map fun ss => ss.map (S.ren i j))
  | .bts l => .bts l
  | .val ss => .val (ss.map (S.ren i j))
  | .iter M done => .iter M done
section
variable {cx : Cx} {ops : Array Oper} {rest : List Oper} {e : Env} {σ : Obs} {Q : Post}
end
end Go.Proofs.YthcdjmkkgbcaaaaGreatDoor
