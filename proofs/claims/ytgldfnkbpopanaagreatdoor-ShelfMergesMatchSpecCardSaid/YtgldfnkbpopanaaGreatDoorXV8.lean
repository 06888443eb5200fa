/- Walks and laws over abstract values, merged by tools/merge.py. No statement of the seat. -/
import Derived.Shelf.Spec.SlicesInsertGrow
import Derived.Deep.RegionLaw
import Derived.Laws.NewBlocks
import Derived.Test.YtgldfnkbpopanaaGreatDoorXV7

namespace Go.Proofs.YtgldfnkbpopanaaGreatDoor
open Go.RowKit
set_option linter.unusedVariables false

/-! Types. -/
namespace TyLV
end TyLV
open TyH3 TyH5 TyJ3 TyJ4 TyJ5 TyKA TyKB TyKC TyKD TyKE TyKF TyKG TyLA TyLB TyLC TyLD TyLE TyLF TyLG TyLH TyLI TyLJ TyLK TyLL TyLM TyLN TyLO TyLP TyLQ TyLR TyLS TyLT TyLU TyLV

set_option linter.unusedSimpArgs false
set_option linter.unusedSectionVars false
section
variable {β : Type} [DecidableEq β]
def newB (A : GL β) (p : Int × β) : Bool := decide (findG A p.1 ≠ some p.2)
def goneB (B : GL β) (p : Int × β) : Bool := decide (findG B p.1 = none)
def btwP (A B : GL β) : GL β := B.filter (newB A)
def btwG (A B : GL β) : List Int := (A.filter (goneB B)).map (·.1)
def btwTo (A B : GL β) (n : Nat) : GL β := (B.take n).filter (newB A)
def gnTo (A B : GL β) (n : Nat) : List Int := ((A.take n).filter (goneB B)).map (·.1)
theorem btwTo_all (A B : GL β) : btwTo A B B.length = btwP A B := by unfold btwTo; rw [List.take_length]; rfl
theorem gnTo_all (A B : GL β) : gnTo A B A.length = btwG A B := by unfold gnTo; rw [List.take_length]; rfl
theorem btw_yes {A B : GL β} {n : Nat} (h : n < B.length) (hn : newB A B[n] = true) : btwTo A B (n + 1) = btwTo A B n ++ [B[n]] := by
  unfold btwTo
  rw [List.take_add_one, List.getElem?_eq_getElem h, Option.toList_some, List.filter_append, List.filter_cons_of_pos hn]; rfl
theorem btw_no {A B : GL β} {n : Nat} (h : n < B.length) (hn : newB A B[n] = false) : btwTo A B (n + 1) = btwTo A B n := by
  unfold btwTo
  rw [List.take_add_one, List.getElem?_eq_getElem h, Option.toList_some, List.filter_append, List.filter_cons_of_neg (by rw [hn]; simp)]; simp
theorem gn_yes {A B : GL β} {n : Nat} (h : n < A.length) (hn : goneB B A[n] = true) : gnTo A B (n + 1) = gnTo A B n ++ [A[n].1] := by
  unfold gnTo
  rw [List.take_add_one, List.getElem?_eq_getElem h, Option.toList_some, List.filter_append, List.filter_cons_of_pos hn, List.map_append]; rfl
theorem gn_no {A B : GL β} {n : Nat} (h : n < A.length) (hn : goneB B A[n] = false) : gnTo A B (n + 1) = gnTo A B n := by
  unfold gnTo
  rw [List.take_add_one, List.getElem?_eq_getElem h, Option.toList_some, List.filter_append, List.filter_cons_of_neg (by rw [hn]; simp)]; simp
theorem btwTo_len (A B : GL β) (n : Nat) : (btwTo A B n).length ≤ B.length := by
  unfold btwTo
  have := List.length_filter_le (newB A) (B.take n)
  rw [List.length_take] at this; omega
theorem gnTo_len (A B : GL β) (n : Nat) : (gnTo A B n).length ≤ A.length := by
  unfold gnTo
  have := List.length_filter_le (goneB B) (A.take n)
  rw [List.length_map]; rw [List.length_take] at this; omega
theorem find_filter {L : GL β} (h : NkG L) (q : Int × β → Bool) (k : Int) : findG (L.filter q) k = match findG L k with | some v => if q (k, v) = true then some v else none | none => none := by
  induction L with
  | nil => rfl
  | cons p L ih =>
    obtain ⟨h1, h2⟩ := List.pairwise_cons.1 h
    rw [findG_cons]
    by_cases hp : p.1 = k
    · rw [if_pos hp]
      subst hp
      dsimp only
      by_cases hq : q p = true
      · rw [List.filter_cons_of_pos hq, findG_cons, if_pos rfl, if_pos hq]
      · rw [List.filter_cons_of_neg hq, ih h2, if_neg hq]
        have : findG L p.1 = none := findG_none.2 (by
          cases hh : hasG L p.1 with
          | false => rfl
          | true => obtain ⟨u, hu, he⟩ := hasG_iff.1 hh; exact absurd he.symm (h1 u hu))
        rw [this]
    · rw [if_neg hp]
      by_cases hq : q p = true
      · rw [List.filter_cons_of_pos hq, findG_cons, if_neg hp, ih h2]
      · rw [List.filter_cons_of_neg hq, ih h2]
theorem IsDif.btwP {F : GL (Option β)} {A B : GL β} (h : IsDif F A B) (hB : RiK B) : valsG F = btwP A B := by
  refine rik_ext (valsG_ri h.nk) (hB.sublist List.filter_sublist) fun k => ?_
  unfold Go.Proofs.YtgldfnkbpopanaaGreatDoor.btwP
  rw [h.vals, find_filter hB.nk]
  cases hb : findG B k with
  | none => dsimp only; split <;> rfl
  | some v =>
    dsimp only
    unfold newB
    by_cases he : findG A k = some v
    · rw [if_pos he, if_neg (by simp [he])]
    · rw [if_neg he, if_pos (by simp [he])]
theorem IsDif.btwG {F : GL (Option β)} {A B : GL β} (h : IsDif F A B) (hA : RiK A) : noneG F = btwG A B := by
  have hu : UpL (Go.Proofs.YtgldfnkbpopanaaGreatDoor.btwG A B) := by
    have h1 : RiK (A.filter (goneB B)) := hA.sublist List.filter_sublist
    unfold UpL Go.Proofs.YtgldfnkbpopanaaGreatDoor.btwG
    rw [List.pairwise_map]; exact h1
  refine up_ext (noneG_up h.nk) hu fun k => ?_
  rw [h.gone]
  unfold Go.Proofs.YtgldfnkbpopanaaGreatDoor.btwG goneB
  rw [List.mem_map]
  constructor
  · rintro ⟨h1, h2⟩
    cases ha : findG A k with
    | none => rw [ha, h2] at h1; exact absurd rfl h1
    | some v => exact ⟨(k, v), List.mem_filter.2 ⟨find_mem ha, decide_eq_true h2⟩, rfl⟩
  · rintro ⟨p, hp, rfl⟩
    obtain ⟨h1, h2⟩ := List.mem_filter.1 hp
    have h3 := (mem_find hA.nk).1 h1
    have h4 := of_decide_eq_true h2
    exact ⟨by rw [h3, h4]; simp, h4⟩
end
def btwX (a b : Ctl) : Chg := ⟨(btwP (idxL a.things) (idxL b.things)).map (·.2), btwG (idxL a.things) (idxL b.things), (btwP (mvL a.moved) (mvL b.moved)).map mvO, btwG (mvL a.moved) (mvL b.moved)⟩
theorem btwX_dif {a b : Ctl} {T : TL} {M : ML} (ha : chkF a = 0) (hb : chkF b = 0) (hT : IsDif T (idxL a.things) (idxL b.things)) (hM : IsDif M (mvL a.moved) (mvL b.moved)) : chgO T M = btwX a b := by
  unfold chgO btwX
  rw [hT.btwP (nkT hb), hT.btwG (nkT ha), hM.btwP (nkM hb), hM.btwG (nkM ha)]
theorem idx_at {l : List Thg} {k : Nat} (h : k < (idxL l).length) : (idxL l)[k] = ((l[k]'(by simpa [idxL] using h)).id, l[k]'(by simpa [idxL] using h)) := by simp [idxL]
theorem mv_at {l : List Mvd} {k : Nat} (h : k < (mvL l).length) : (mvL l)[k] = ((l[k]'(by simpa [mvL] using h)).src, (l[k]'(by simpa [mvL] using h)).dst) := by simp [mvL]
theorem idx_ln (l : List Thg) : (idxL l).length = l.length := List.length_map ..
theorem mv_ln (l : List Mvd) : (mvL l).length = l.length := List.length_map ..
theorem btT_yes {a b : List Thg} {k : Nat} (hk : k < b.length) (h : thereB a b[k].id = false ∨ getT a b[k].id ≠ b[k]) : btwTo (idxL a) (idxL b) (k + 1) = btwTo (idxL a) (idxL b) k ++ [(b[k].id, b[k])] := by
  have h0 : k < (idxL b).length := by rw [idx_ln]; exact hk
  rw [btw_yes h0, idx_at h0]
  rw [idx_at h0]
  unfold newB
  refine decide_eq_true fun he => ?_
  unfold thereB getT findT at h
  rw [he] at h
  rcases h with h | h
  · cases h
  · exact h rfl
theorem btT_no {a b : List Thg} {k : Nat} (hk : k < b.length) (h : thereB a b[k].id = true) (h2 : getT a b[k].id = b[k]) : btwTo (idxL a) (idxL b) (k + 1) = btwTo (idxL a) (idxL b) k := by
  have h0 : k < (idxL b).length := by rw [idx_ln]; exact hk
  rw [btw_no h0]
  rw [idx_at h0]
  unfold newB
  refine decide_eq_false fun he => he ?_
  unfold thereB getT findT at *
  cases hf : findG (idxL a) b[k].id with
  | none => rw [hf] at h; cases h
  | some t => rw [hf] at h2; exact congrArg some h2
theorem gnT_yes {a b : List Thg} {k : Nat} (hk : k < a.length) (h : thereB b a[k].id = false) : gnTo (idxL a) (idxL b) (k + 1) = gnTo (idxL a) (idxL b) k ++ [a[k].id] := by
  have h0 : k < (idxL a).length := by rw [idx_ln]; exact hk
  rw [gn_yes h0, idx_at h0]
  rw [idx_at h0]
  exact decide_eq_true (thereB_no.1 h)
theorem gnT_no {a b : List Thg} {k : Nat} (hk : k < a.length) (h : thereB b a[k].id = true) : gnTo (idxL a) (idxL b) (k + 1) = gnTo (idxL a) (idxL b) k := by
  have h0 : k < (idxL a).length := by rw [idx_ln]; exact hk
  rw [gn_no h0]
  rw [idx_at h0]
  exact decide_eq_false fun he => by unfold thereB findT at h; rw [he] at h; cases h
theorem btM_yes {a b : List Mvd} {k : Nat} (hk : k < b.length) (h : hasM a b[k].src = false ∨ getM a b[k].src ≠ b[k].dst) : btwTo (mvL a) (mvL b) (k + 1) = btwTo (mvL a) (mvL b) k ++ [(b[k].src, b[k].dst)] := by
  have h0 : k < (mvL b).length := by rw [mv_ln]; exact hk
  rw [btw_yes h0, mv_at h0]
  rw [mv_at h0]
  unfold newB
  refine decide_eq_true fun he => ?_
  unfold hasM getM at h
  rw [he] at h
  rcases h with h | h
  · cases h
  · exact h rfl
theorem btM_no {a b : List Mvd} {k : Nat} (hk : k < b.length) (h : hasM a b[k].src = true) (h2 : getM a b[k].src = b[k].dst) : btwTo (mvL a) (mvL b) (k + 1) = btwTo (mvL a) (mvL b) k := by
  have h0 : k < (mvL b).length := by rw [mv_ln]; exact hk
  rw [btw_no h0]
  rw [mv_at h0]
  unfold newB
  refine decide_eq_false fun he => he ?_
  unfold hasM getM at *
  cases hf : findG (mvL a) b[k].src with
  | none => rw [hf] at h; cases h
  | some t => rw [hf] at h2; exact congrArg some h2
theorem gnM_yes {a b : List Mvd} {k : Nat} (hk : k < a.length) (h : hasM b a[k].src = false) : gnTo (mvL a) (mvL b) (k + 1) = gnTo (mvL a) (mvL b) k ++ [a[k].src] := by
  have h0 : k < (mvL a).length := by rw [mv_ln]; exact hk
  rw [gn_yes h0, mv_at h0]
  rw [mv_at h0]
  unfold goneB
  refine decide_eq_true ?_
  unfold hasM at h
  cases hf : findG (mvL b) a[k].src with
  | none => rfl
  | some t => rw [hf] at h; cases h
theorem gnM_no {a b : List Mvd} {k : Nat} (hk : k < a.length) (h : hasM b a[k].src = true) : gnTo (mvL a) (mvL b) (k + 1) = gnTo (mvL a) (mvL b) k := by
  have h0 : k < (mvL a).length := by rw [mv_ln]; exact hk
  rw [gn_no h0]
  rw [mv_at h0]
  exact decide_eq_false fun he => by unfold hasM at h; rw [he] at h; cases h

set_option maxRecDepth 100000 in
set_option maxHeartbeats 4000000 in
theorem c_btw (a b : Ctl) (ha : Lim2 a) (hb : Lim2 b) : ACall Tryz.prog 62 [.agg a.ds, .agg b.ds] (.agg (btwX a b).ds) := by
 refine acall_ofR (n := 129) (ds' := [.agg (btwX a b).ds]) Tryz.func62 rfl (by kernel_rfl) rfl [.cell 4 35] rfl rfl ?_
 intro B w0 F0 fr
 have l1 := ha.1
 have l2 := ha.2
 have l3 := hb.1
 have l4 := hb.2
 refine .sr ?_
 refine .sA (.box rfl rfl rfl) ?_
 refine .sA (.box rfl rfl rfl) ?_
 refine .alloc 101 rfl rfl rfl rfl zt_35 rfl rfl rfl (.nil ?_)
 refine .sr ?_
 refine .alloc 102 rfl rfl rfl rfl zt_35 rfl rfl rfl ?_
 refine .adoptCell 201 41 7 102 0 (.head _) rfl rfl ?_
 refine .adoptCell 202 3 1 102 1 (.tail _ (.head _)) rfl rfl ?_
 refine .adoptCell 203 85 2 102 2 (.tail _ (.tail _ (.head _))) rfl rfl ?_
 refine .adoptCell 204 3 1 102 3 (.tail _ (.tail _ (.tail _ (.head _)))) rfl rfl ?_
 refine .nil ?_
 refine .seq ?_
 refine .sr ?_
 refine .sA (.fieldAddr rfl fo_25_0 rfl) ?_
 refine .sA (.load rfl sc_22 rfl) ?_
 refine .sA (.lenSl rfl et_22.ht rfl) ?_
 refine .mA (.nil ?_)
 refine .block ?_
 refine .loop (G := Nat) (fun k => Env.of [(25, .d (.v (.int .i64 (k : Int)))), (23, .d (.sl (b.things.map Thg.ds))), (24, .d (.v (.int .i64 ((b.things.map Thg.ds).length : Int)))), (2, .d (.fp a.ds)), (3, .d (.fp b.ds)), (4, .ptr 101 0), (5, .ptr 102 0)]) (fun k => [(204, .row 3 1 (([] : List Int).map intD)), (203, .row 85 2 (([] : GL Int).map fun p => (mvO p).ds)), (202, .row 3 1 (([] : List Int).map intD)), (201, .row 41 7 ((btwTo (idxL a.things) (idxL b.things) k).map fun p => p.2.ds)), (102, .cells [.own 201, .own 202, .own 203, .own 204]), (101, .cells [.d (.v (.slice none 0 0)), .d (.v (.slice none 0 0)), .d (.v (.slice none 0 0)), .d (.v (.slice none 0 0))])]) (fun k => k ≤ b.things.length) (fun k => b.things.length - k) 0 (Nat.zero_le _) (Sub.less ⟨(SLe.of_eq rfl), SLe.refl _, SLe.refl _, SLe.refl _, SLe.refl _, SLe.refl _, SLe.refl _, trivial⟩ (obs_e rfl)) ?_
 intro k hk
 refine .sr ?_
 refine .sA (.lss rfl rfl rfl) (.nil ?_)
 refine .seq ?_
 refine .cond rfl (fun h1 => ?_) (fun h1 => ?_)
 ·replace h1 := of_decide_eq_true h1
  rw [List.length_map] at h1
  have hlt : k < b.things.length := by omega
  have hq := btwTo_len (idxL a.things) (idxL b.things) k
  rw [idx_ln] at hq
  refine .skip ?_
  refine .seq ?_
  refine .block ?_
  refine .sr ?_
  refine .sA (.indexAddr rfl et_22 rfl rfl k rfl (at_lst hlt) rfl) ?_
  refine .sA (.loadAgg rfl ag_41 rfl rfl) ?_
  refine .alloc 103 rfl rfl rfl rfl zt_41 rfl rfl rfl ?_
  refine .store rfl rfl rfl sz_41 rfl (.head _) rfl rfl rfl (Nat.le_of_ble_eq_true rfl) ?_
  refine .freezeCells 7 (ds := b.things[k].ds) rfl (.head _) (.nil ?_)
  refine .sr ?_
  refine .sA (.loadAgg rfl ag_25 rfl rfl) ?_
  refine .sA (.fieldAddr rfl fo_41_0 rfl) ?_
  refine .sA (.load rfl sc_3 rfl) ?_
  refine .sA (.call rfl (.cons (.rfl' rfl) (.cons (.rfl' rfl) .nil)) (c_thing a _ ha)) ?_
  refine .mA ?_
  refine .sA (.extract rfl rfl rfl) ?_
  refine .sA (.extract rfl rfl rfl) ?_
  refine .alloc 104 rfl rfl rfl rfl zt_41 rfl rfl rfl ?_
  refine .store rfl rfl rfl sz_41 rfl (.head _) rfl rfl rfl (Nat.le_of_ble_eq_true rfl) ?_
  refine .freezeCells 8 (ds := (getT a.things b.things[k].id).ds) rfl (.head _) ?_
  refine .aA (.nil ?_)
  refine .sr ?_
  refine .mA ?_
  refine .sA (.not rfl rfl) ?_
  refine .mA ?_
  refine .split 38 rfl (fun g2 => ?_) (fun g2 => ?_)
  ·replace g2 := bnot_t g2
   have HB := btT_yes hlt (.inl g2)
   refine .pA ?_
   refine .pA ?_
   refine .pA ?_
   refine .pA ?_
   refine .sA (.pickT rfl rfl rfl) (.nil ?_)
   refine .cond rfl (fun _ => ?_) (fun h => nomatch h)
   refine .region ?_
   refine .sA (.fieldAddrP rfl fo_35_0 rfl) ?_
   refine .sA (.loadP rfl sc_22 rfl (.tail _ (.tail _ (.tail _ (.tail _ (.head _))))) rfl) ?_
   refine .sA (.loadAgg rfl ag_41 rfl rfl) ?_
   refine .sA (.buildSlice rfl et_22 (.cons rfl rfl rfl .nil) rfl (by decide)) ?_
   -- append 48
   refine .append rfl rfl rfl rfl et_22 rfl (.tail _ (.tail _ (.tail _ (.head _)))) rfl (fun y hy => by obtain rfl := List.mem_singleton.1 hy; rfl) (by simp; omega) (by simp; omega) ?_
   refine .sA (.fieldAddrP rfl fo_35_0 rfl) ?_
   refine .storeS rfl rfl rfl sz_22 rfl (.tail _ (.tail _ (.tail _ (.tail _ (.head _))))) rfl (.tail _ (.tail _ (.tail _ (.head _)))) (Nat.le_of_ble_eq_true rfl) (.nil ?_)
   refine .region ?_
   refine .sA (.add64 rfl rfl rfl (by omega) (by omega)) ?_
   refine .mA (.nil ?_)
   refine ⟨k + 1, (by dsimp only; omega), (by dsimp only; omega), Sub.less ⟨(SLe.of_eq rfl), SLe.refl _, SLe.refl _, SLe.refl _, SLe.refl _, SLe.refl _, SLe.refl _, trivial⟩ (obs_e (by dsimp only; rw [HB]; first | done | (rw [List.map_append]; rfl) | rfl))⟩
  replace g2 := bnot_f g2
  have wth := g2
  refine .sG (.loadAgg rfl ag_41 rfl rfl) ?_
  refine .sG (.loadAgg rfl ag_41 rfl rfl) ?_
  refine .sG (.call rfl (.cons (.rfl' rfl) (.cons (.rfl' rfl) .nil)) (c_same _ _)) ?_
  refine .sG (.not rfl rfl) ?_
  refine .sA (.pickF rfl rfl rfl) (.nil ?_)
  refine .cond rfl (fun h3 => ?_) (fun h3 => ?_)
  ·replace h3 := bnot_t h3; replace h3 := of_decide_eq_false h3
   have HB := btT_yes hlt (.inr h3)
   refine .region ?_
   refine .sA (.fieldAddrP rfl fo_35_0 rfl) ?_
   refine .sA (.loadP rfl sc_22 rfl (.tail _ (.tail _ (.tail _ (.tail _ (.head _))))) rfl) ?_
   refine .sA (.loadAgg rfl ag_41 rfl rfl) ?_
   refine .sA (.buildSlice rfl et_22 (.cons rfl rfl rfl .nil) rfl (by decide)) ?_
   -- append 48
   refine .append rfl rfl rfl rfl et_22 rfl (.tail _ (.tail _ (.tail _ (.head _)))) rfl (fun y hy => by obtain rfl := List.mem_singleton.1 hy; rfl) (by simp; omega) (by simp; omega) ?_
   refine .sA (.fieldAddrP rfl fo_35_0 rfl) ?_
   refine .storeS rfl rfl rfl sz_22 rfl (.tail _ (.tail _ (.tail _ (.tail _ (.head _))))) rfl (.tail _ (.tail _ (.tail _ (.head _)))) (Nat.le_of_ble_eq_true rfl) (.nil ?_)
   refine .region ?_
   refine .sA (.add64 rfl rfl rfl (by omega) (by omega)) ?_
   refine .mA (.nil ?_)
   refine ⟨k + 1, (by dsimp only; omega), (by dsimp only; omega), Sub.less ⟨(SLe.of_eq rfl), SLe.refl _, SLe.refl _, SLe.refl _, SLe.refl _, SLe.refl _, SLe.refl _, trivial⟩ (obs_e (by dsimp only; rw [HB]; first | done | (rw [List.map_append]; rfl) | rfl))⟩
  replace h3 := bnot_f h3; replace h3 := of_decide_eq_true h3
  have HB := btT_no hlt wth (by first | exact h3 | exact Decidable.not_not.1 h3)
  refine .skip ?_
  refine .region ?_
  refine .sA (.add64 rfl rfl rfl (by omega) (by omega)) ?_
  refine .mA (.nil ?_)
  refine ⟨k + 1, (by dsimp only; omega), (by dsimp only; omega), Sub.less ⟨(SLe.of_eq rfl), SLe.refl _, SLe.refl _, SLe.refl _, SLe.refl _, SLe.refl _, SLe.refl _, trivial⟩ (obs_e (by dsimp only; rw [HB]; first | done | (rw [List.map_append]; rfl) | rfl))⟩
 replace h1 := of_decide_eq_false h1
 rw [List.length_map] at h1
 obtain rfl : k = b.things.length := by omega
 rw [← idx_ln b.things, btwTo_all]
 refine .exit ?_
 refine .seq ?_
 refine .sr ?_
 refine .sA (.fieldAddr rfl fo_25_0 rfl) ?_
 refine .sA (.load rfl sc_22 rfl) ?_
 refine .sA (.lenSl rfl et_22.ht rfl) ?_
 refine .mA (.nil ?_)
 refine .block ?_
 refine .loop (G := Nat) (fun j => Env.of [(54, .d (.v (.int .i64 (j : Int)))), (52, .d (.sl (a.things.map Thg.ds))), (53, .d (.v (.int .i64 ((a.things.map Thg.ds).length : Int)))), (2, .d (.fp a.ds)), (3, .d (.fp b.ds)), (4, .ptr 101 0), (5, .ptr 102 0)]) (fun j => [(204, .row 3 1 (([] : List Int).map intD)), (203, .row 85 2 (([] : GL Int).map fun p => (mvO p).ds)), (202, .row 3 1 ((gnTo (idxL a.things) (idxL b.things) j).map intD)), (201, .row 41 7 ((btwP (idxL a.things) (idxL b.things)).map fun p => p.2.ds)), (102, .cells [.own 201, .own 202, .own 203, .own 204]), (101, .cells [.d (.v (.slice none 0 0)), .d (.v (.slice none 0 0)), .d (.v (.slice none 0 0)), .d (.v (.slice none 0 0))])]) (fun j => j ≤ a.things.length) (fun j => a.things.length - j) 0 (Nat.zero_le _) (Sub.less ⟨(SLe.of_eq rfl), SLe.refl _, SLe.refl _, SLe.refl _, SLe.refl _, SLe.refl _, SLe.refl _, trivial⟩ (obs_e rfl)) ?_
 intro j hj
 refine .sr ?_
 refine .sA (.lss rfl rfl rfl) (.nil ?_)
 refine .seq ?_
 refine .cond rfl (fun h4 => ?_) (fun h4 => ?_)
 ·replace h4 := of_decide_eq_true h4
  rw [List.length_map] at h4
  have hlt : j < a.things.length := by omega
  have hq := gnTo_len (idxL a.things) (idxL b.things) j
  rw [idx_ln] at hq
  refine .skip ?_
  refine .seq ?_
  refine .block ?_
  refine .sr ?_
  refine .sA (.indexAddr rfl et_22 rfl rfl j rfl (at_lst hlt) rfl) ?_
  refine .sA (.loadAgg rfl ag_41 rfl rfl) ?_
  refine .alloc 105 rfl rfl rfl rfl zt_41 rfl rfl rfl ?_
  refine .store rfl rfl rfl sz_41 rfl (.head _) rfl rfl rfl (Nat.le_of_ble_eq_true rfl) ?_
  refine .freezeCells 11 (ds := a.things[j].ds) rfl (.head _) (.nil ?_)
  refine .sr ?_
  refine .sA (.loadAgg rfl ag_25 rfl rfl) ?_
  refine .sA (.fieldAddr rfl fo_41_0 rfl) ?_
  refine .sA (.load rfl sc_3 rfl) ?_
  refine .sA (.call rfl (.cons (.rfl' rfl) (.cons (.rfl' rfl) .nil)) (c_thing b _ hb)) ?_
  refine .mA ?_
  refine .sA (.extract rfl rfl rfl) ?_
  refine .sA (.extract rfl rfl rfl) ?_
  refine .alloc 106 rfl rfl rfl rfl zt_41 rfl rfl rfl ?_
  refine .store rfl rfl rfl sz_41 rfl (.head _) rfl rfl rfl (Nat.le_of_ble_eq_true rfl) ?_
  refine .freezeCells 12 (ds := (getT b.things a.things[j].id).ds) rfl (.head _) ?_
  refine .aA (.nil ?_)
  refine .sr ?_
  refine .mA ?_
  refine .sA (.not rfl rfl) (.nil ?_)
  refine .cond rfl (fun h5 => ?_) (fun h5 => ?_)
  ·replace h5 := bnot_t h5
   have HB := gnT_yes hlt h5
   refine .region ?_
   refine .sA (.fieldAddrP rfl fo_35_1 rfl) ?_
   refine .sA (.loadP rfl sc_33 rfl (.tail _ (.tail _ (.tail _ (.tail _ (.head _))))) rfl) ?_
   refine .sA (.fieldAddr rfl fo_41_0 rfl) ?_
   refine .sA (.load rfl sc_3 rfl) ?_
   refine .sA (.buildSlice rfl et_33 (.cons rfl rfl rfl .nil) rfl (by decide)) ?_
   -- append 72
   refine .append rfl rfl rfl rfl et_33 rfl (.tail _ (.tail _ (.head _))) rfl (fun y hy => by obtain rfl := List.mem_singleton.1 hy; rfl) (by simp; omega) (by simp; omega) ?_
   refine .sA (.fieldAddrP rfl fo_35_1 rfl) ?_
   refine .storeS rfl rfl rfl sz_33 rfl (.tail _ (.tail _ (.tail _ (.tail _ (.head _))))) rfl (.tail _ (.tail _ (.head _))) (Nat.le_of_ble_eq_true rfl) (.nil ?_)
   refine .region ?_
   refine .sA (.add64 rfl rfl rfl (by omega) (by omega)) ?_
   refine .mA (.nil ?_)
   refine ⟨j + 1, (by dsimp only; omega), (by dsimp only; omega), Sub.less ⟨(SLe.of_eq rfl), SLe.refl _, SLe.refl _, SLe.refl _, SLe.refl _, SLe.refl _, SLe.refl _, trivial⟩ (obs_e (by dsimp only; rw [HB]; first | done | (rw [List.map_append]; rfl) | rfl))⟩
  replace h5 := bnot_f h5
  have HB := gnT_no hlt h5
  refine .skip ?_
  refine .region ?_
  refine .sA (.add64 rfl rfl rfl (by omega) (by omega)) ?_
  refine .mA (.nil ?_)
  refine ⟨j + 1, (by dsimp only; omega), (by dsimp only; omega), Sub.less ⟨(SLe.of_eq rfl), SLe.refl _, SLe.refl _, SLe.refl _, SLe.refl _, SLe.refl _, SLe.refl _, trivial⟩ (obs_e (by dsimp only; rw [HB]; first | done | (rw [List.map_append]; rfl) | rfl))⟩
 replace h4 := of_decide_eq_false h4
 rw [List.length_map] at h4
 obtain rfl : j = a.things.length := by omega
 rw [← idx_ln a.things, gnTo_all]
 refine .exit ?_
 refine .seq ?_
 refine .sr ?_
 refine .sA (.fieldAddr rfl fo_25_1 rfl) ?_
 refine .sA (.load rfl sc_23 rfl) ?_
 refine .sA (.lenSl rfl et_23.ht rfl) ?_
 refine .mA (.nil ?_)
 refine .block ?_
 refine .loop (G := Nat) (fun m => Env.of [(78, .d (.v (.int .i64 (m : Int)))), (76, .d (.sl (b.moved.map Mvd.ds))), (77, .d (.v (.int .i64 ((b.moved.map Mvd.ds).length : Int)))), (2, .d (.fp a.ds)), (3, .d (.fp b.ds)), (4, .ptr 101 0), (5, .ptr 102 0)]) (fun m => [(204, .row 3 1 (([] : List Int).map intD)), (203, .row 85 2 ((btwTo (mvL a.moved) (mvL b.moved) m).map fun p => (mvO p).ds)), (202, .row 3 1 ((btwG (idxL a.things) (idxL b.things)).map intD)), (201, .row 41 7 ((btwP (idxL a.things) (idxL b.things)).map fun p => p.2.ds)), (102, .cells [.own 201, .own 202, .own 203, .own 204]), (101, .cells [.d (.v (.slice none 0 0)), .d (.v (.slice none 0 0)), .d (.v (.slice none 0 0)), .d (.v (.slice none 0 0))])]) (fun m => m ≤ b.moved.length) (fun m => b.moved.length - m) 0 (Nat.zero_le _) (Sub.less ⟨(SLe.of_eq rfl), SLe.refl _, SLe.refl _, SLe.refl _, SLe.refl _, SLe.refl _, SLe.refl _, trivial⟩ (obs_e rfl)) ?_
 intro m hm
 refine .sr ?_
 refine .sA (.lss rfl rfl rfl) (.nil ?_)
 refine .seq ?_
 refine .cond rfl (fun h6 => ?_) (fun h6 => ?_)
 ·replace h6 := of_decide_eq_true h6
  rw [List.length_map] at h6
  have hlt : m < b.moved.length := by omega
  have hq := btwTo_len (mvL a.moved) (mvL b.moved) m
  rw [mv_ln] at hq
  refine .skip ?_
  refine .seq ?_
  refine .block ?_
  refine .sr ?_
  refine .sA (.indexAddr rfl et_23 rfl rfl m rfl (at_lst hlt) rfl) ?_
  refine .sA (.loadAgg rfl ag_85 rfl rfl) ?_
  refine .alloc 107 rfl rfl rfl rfl zt_85 rfl rfl rfl ?_
  refine .store rfl rfl rfl sz_85 rfl (.head _) rfl rfl rfl (Nat.le_of_ble_eq_true rfl) ?_
  refine .freezeCells 15 (ds := b.moved[m].ds) rfl (.head _) (.nil ?_)
  refine .sr ?_
  refine .sA (.loadAgg rfl ag_25 rfl rfl) ?_
  refine .sA (.fieldAddr rfl fo_85_0 rfl) ?_
  refine .sA (.load rfl sc_3 rfl) ?_
  refine .sA (.call rfl (.cons (.rfl' rfl) (.cons (.rfl' rfl) .nil)) (c_moved a _ ha)) ?_
  refine .mA ?_
  refine .sA (.extract rfl rfl rfl) ?_
  refine .sA (.extract rfl rfl rfl) ?_
  refine .aA ?_
  refine .aA (.nil ?_)
  refine .sr ?_
  refine .mA ?_
  refine .sA (.not rfl rfl) ?_
  refine .mA ?_
  refine .split 91 rfl (fun g7 => ?_) (fun g7 => ?_)
  ·replace g7 := bnot_t g7
   have HB := btM_yes hlt (.inl g7)
   refine .pA ?_
   refine .pA ?_
   refine .pA ?_
   refine .pA ?_
   refine .sA (.pickT rfl rfl rfl) (.nil ?_)
   refine .cond rfl (fun _ => ?_) (fun h => nomatch h)
   refine .region ?_
   refine .sA (.fieldAddrP rfl fo_35_2 rfl) ?_
   refine .sA (.loadP rfl sc_23 rfl (.tail _ (.tail _ (.tail _ (.tail _ (.head _))))) rfl) ?_
   refine .sA (.loadAgg rfl ag_85 rfl rfl) ?_
   refine .sA (.buildSlice rfl et_23 (.cons rfl rfl rfl .nil) rfl (by decide)) ?_
   -- append 101
   refine .append rfl rfl rfl rfl et_23 rfl (.tail _ (.head _)) rfl (fun y hy => by obtain rfl := List.mem_singleton.1 hy; rfl) (by simp; omega) (by simp; omega) ?_
   refine .sA (.fieldAddrP rfl fo_35_2 rfl) ?_
   refine .storeS rfl rfl rfl sz_23 rfl (.tail _ (.tail _ (.tail _ (.tail _ (.head _))))) rfl (.tail _ (.head _)) (Nat.le_of_ble_eq_true rfl) (.nil ?_)
   refine .region ?_
   refine .sA (.add64 rfl rfl rfl (by omega) (by omega)) ?_
   refine .mA (.nil ?_)
   refine ⟨m + 1, (by dsimp only; omega), (by dsimp only; omega), Sub.less ⟨(SLe.of_eq rfl), SLe.refl _, SLe.refl _, SLe.refl _, SLe.refl _, SLe.refl _, SLe.refl _, trivial⟩ (obs_e (by dsimp only; rw [HB]; first | done | (rw [List.map_append]; rfl) | rfl))⟩
  replace g7 := bnot_f g7
  have wth := g7
  refine .sG (.moveD rfl rfl) ?_
  refine .sG (.fieldAddr rfl fo_85_1 rfl) ?_
  refine .sG (.load rfl sc_3 rfl) ?_
  refine .sG (.neq rfl rfl rfl) ?_
  refine .sA (.pickF rfl rfl rfl) (.nil ?_)
  refine .cond rfl (fun h8 => ?_) (fun h8 => ?_)
  ·replace h8 := of_decide_eq_true h8
   have HB := btM_yes hlt (.inr h8)
   refine .region ?_
   refine .sA (.fieldAddrP rfl fo_35_2 rfl) ?_
   refine .sA (.loadP rfl sc_23 rfl (.tail _ (.tail _ (.tail _ (.tail _ (.head _))))) rfl) ?_
   refine .sA (.loadAgg rfl ag_85 rfl rfl) ?_
   refine .sA (.buildSlice rfl et_23 (.cons rfl rfl rfl .nil) rfl (by decide)) ?_
   -- append 101
   refine .append rfl rfl rfl rfl et_23 rfl (.tail _ (.head _)) rfl (fun y hy => by obtain rfl := List.mem_singleton.1 hy; rfl) (by simp; omega) (by simp; omega) ?_
   refine .sA (.fieldAddrP rfl fo_35_2 rfl) ?_
   refine .storeS rfl rfl rfl sz_23 rfl (.tail _ (.tail _ (.tail _ (.tail _ (.head _))))) rfl (.tail _ (.head _)) (Nat.le_of_ble_eq_true rfl) (.nil ?_)
   refine .region ?_
   refine .sA (.add64 rfl rfl rfl (by omega) (by omega)) ?_
   refine .mA (.nil ?_)
   refine ⟨m + 1, (by dsimp only; omega), (by dsimp only; omega), Sub.less ⟨(SLe.of_eq rfl), SLe.refl _, SLe.refl _, SLe.refl _, SLe.refl _, SLe.refl _, SLe.refl _, trivial⟩ (obs_e (by dsimp only; rw [HB]; first | done | (rw [List.map_append]; rfl) | rfl))⟩
  replace h8 := of_decide_eq_false h8
  have HB := btM_no hlt wth (by first | exact h8 | exact Decidable.not_not.1 h8)
  refine .skip ?_
  refine .region ?_
  refine .sA (.add64 rfl rfl rfl (by omega) (by omega)) ?_
  refine .mA (.nil ?_)
  refine ⟨m + 1, (by dsimp only; omega), (by dsimp only; omega), Sub.less ⟨(SLe.of_eq rfl), SLe.refl _, SLe.refl _, SLe.refl _, SLe.refl _, SLe.refl _, SLe.refl _, trivial⟩ (obs_e (by dsimp only; rw [HB]; first | done | (rw [List.map_append]; rfl) | rfl))⟩
 replace h6 := of_decide_eq_false h6
 rw [List.length_map] at h6
 obtain rfl : m = b.moved.length := by omega
 rw [← mv_ln b.moved, btwTo_all]
 refine .exit ?_
 refine .seq ?_
 refine .sr ?_
 refine .sA (.fieldAddr rfl fo_25_1 rfl) ?_
 refine .sA (.load rfl sc_23 rfl) ?_
 refine .sA (.lenSl rfl et_23.ht rfl) ?_
 refine .mA (.nil ?_)
 refine .block ?_
 refine .loop (G := Nat) (fun n => Env.of [(107, .d (.v (.int .i64 (n : Int)))), (105, .d (.sl (a.moved.map Mvd.ds))), (106, .d (.v (.int .i64 ((a.moved.map Mvd.ds).length : Int)))), (2, .d (.fp a.ds)), (3, .d (.fp b.ds)), (4, .ptr 101 0), (5, .ptr 102 0)]) (fun n => [(204, .row 3 1 ((gnTo (mvL a.moved) (mvL b.moved) n).map intD)), (203, .row 85 2 ((btwP (mvL a.moved) (mvL b.moved)).map fun p => (mvO p).ds)), (202, .row 3 1 ((btwG (idxL a.things) (idxL b.things)).map intD)), (201, .row 41 7 ((btwP (idxL a.things) (idxL b.things)).map fun p => p.2.ds)), (102, .cells [.own 201, .own 202, .own 203, .own 204]), (101, .cells [.d (.v (.slice none 0 0)), .d (.v (.slice none 0 0)), .d (.v (.slice none 0 0)), .d (.v (.slice none 0 0))])]) (fun n => n ≤ a.moved.length) (fun n => a.moved.length - n) 0 (Nat.zero_le _) (Sub.less ⟨(SLe.of_eq rfl), SLe.refl _, SLe.refl _, SLe.refl _, SLe.refl _, SLe.refl _, SLe.refl _, trivial⟩ (obs_e rfl)) ?_
 intro n hn
 refine .sr ?_
 refine .sA (.lss rfl rfl rfl) (.nil ?_)
 refine .seq ?_
 refine .cond rfl (fun h9 => ?_) (fun h9 => ?_)
 ·replace h9 := of_decide_eq_true h9
  rw [List.length_map] at h9
  have hlt : n < a.moved.length := by omega
  have hq := gnTo_len (mvL a.moved) (mvL b.moved) n
  rw [mv_ln] at hq
  refine .skip ?_
  refine .seq ?_
  refine .block ?_
  refine .sr ?_
  refine .sA (.indexAddr rfl et_23 rfl rfl n rfl (at_lst hlt) rfl) ?_
  refine .sA (.loadAgg rfl ag_85 rfl rfl) ?_
  refine .alloc 108 rfl rfl rfl rfl zt_85 rfl rfl rfl ?_
  refine .store rfl rfl rfl sz_85 rfl (.head _) rfl rfl rfl (Nat.le_of_ble_eq_true rfl) ?_
  refine .freezeCells 19 (ds := a.moved[n].ds) rfl (.head _) (.nil ?_)
  refine .sr ?_
  refine .sA (.loadAgg rfl ag_25 rfl rfl) ?_
  refine .sA (.fieldAddr rfl fo_85_0 rfl) ?_
  refine .sA (.load rfl sc_3 rfl) ?_
  refine .sA (.call rfl (.cons (.rfl' rfl) (.cons (.rfl' rfl) .nil)) (c_moved b _ hb)) ?_
  refine .mA ?_
  refine .sA (.extract rfl rfl rfl) ?_
  refine .sA (.extract rfl rfl rfl) ?_
  refine .aA ?_
  refine .aA (.nil ?_)
  refine .sr ?_
  refine .mA ?_
  refine .sA (.not rfl rfl) (.nil ?_)
  refine .cond rfl (fun h10 => ?_) (fun h10 => ?_)
  ·replace h10 := bnot_t h10
   have HB := gnM_yes hlt h10
   refine .region ?_
   refine .sA (.fieldAddrP rfl fo_35_3 rfl) ?_
   refine .sA (.loadP rfl sc_33 rfl (.tail _ (.tail _ (.tail _ (.tail _ (.head _))))) rfl) ?_
   refine .sA (.fieldAddr rfl fo_85_0 rfl) ?_
   refine .sA (.load rfl sc_3 rfl) ?_
   refine .sA (.buildSlice rfl et_33 (.cons rfl rfl rfl .nil) rfl (by decide)) ?_
   -- append 125
   refine .append rfl rfl rfl rfl et_33 rfl (.head _) rfl (fun y hy => by obtain rfl := List.mem_singleton.1 hy; rfl) (by simp; omega) (by simp; omega) ?_
   refine .sA (.fieldAddrP rfl fo_35_3 rfl) ?_
   refine .storeS rfl rfl rfl sz_33 rfl (.tail _ (.tail _ (.tail _ (.tail _ (.head _))))) rfl (.head _) (Nat.le_of_ble_eq_true rfl) (.nil ?_)
   refine .region ?_
   refine .sA (.add64 rfl rfl rfl (by omega) (by omega)) ?_
   refine .mA (.nil ?_)
   refine ⟨n + 1, (by dsimp only; omega), (by dsimp only; omega), Sub.less ⟨(SLe.of_eq rfl), SLe.refl _, SLe.refl _, SLe.refl _, SLe.refl _, SLe.refl _, SLe.refl _, trivial⟩ (obs_e (by dsimp only; rw [HB]; first | done | (rw [List.map_append]; rfl) | rfl))⟩
  replace h10 := bnot_f h10
  have HB := gnM_no hlt h10
  refine .skip ?_
  refine .region ?_
  refine .sA (.add64 rfl rfl rfl (by omega) (by omega)) ?_
  refine .mA (.nil ?_)
  refine ⟨n + 1, (by dsimp only; omega), (by dsimp only; omega), Sub.less ⟨(SLe.of_eq rfl), SLe.refl _, SLe.refl _, SLe.refl _, SLe.refl _, SLe.refl _, SLe.refl _, trivial⟩ (obs_e (by dsimp only; rw [HB]; first | done | (rw [List.map_append]; rfl) | rfl))⟩
 replace h9 := of_decide_eq_false h9
 rw [List.length_map] at h9
 obtain rfl : n = a.moved.length := by omega
 rw [← mv_ln a.moved, gnTo_all]
 refine .exit ?_
 refine .seq ?_
 refine .freezeIn 102 0 rfl (.tail _ (.tail _ (.tail _ (.head _)))) (.tail _ (.tail _ (.tail _ (.head _)))) ?_
 refine .freezeIn 102 1 rfl (.tail _ (.tail _ (.head _))) (.tail _ (.tail _ (.head _))) ?_
 refine .freezeIn 102 2 rfl (.tail _ (.head _)) (.tail _ (.head _)) ?_
 refine .freezeIn 102 3 rfl (.head _) (.head _) ?_
 refine .region ?_
 refine .sA (.loadPU rfl ag_35 rfl (.head _) rfl rfl) ?_
 refine .store rfl rfl rfl sz_35 rfl (.tail _ (.head _)) rfl rfl rfl (Nat.le_of_ble_eq_true rfl) (.nil ?_)
 refine .ret ?_
 refine ⟨RetR.agg rfl (.tail _ (.head _)) ag_35 rfl (.cons (by first | exact CellD.nil | exact CellD.d | exact CellD.eq (by simp [btwX, Function.comp_def]; try rfl) | (refine CellD.own (by first | exact .head _ | exact .tail _ (.head _)) ?_; rfl)) (.cons (by first | exact CellD.nil | exact CellD.d | exact CellD.eq (by simp [btwX, Function.comp_def]; try rfl) | (refine CellD.own (by first | exact .head _ | exact .tail _ (.head _)) ?_; rfl)) (.cons (by first | exact CellD.nil | exact CellD.d | exact CellD.eq (by simp [btwX, Function.comp_def]; try rfl) | (refine CellD.own (by first | exact .head _ | exact .tail _ (.head _)) ?_; rfl)) (.cons (by first | exact CellD.nil | exact CellD.d | exact CellD.eq (by simp [btwX, Function.comp_def]; try rfl) | (refine CellD.own (by first | exact .head _ | exact .tail _ (.head _)) ?_; rfl)) .nil)))), trivial⟩
 all_goals (rfl)

def differR (a b : Ctl) : Chg × Int := if chkF a = 0 then (if chkF b = 0 then (btwX a b, 0) else (zX, chkF b)) else (zX, chkF a)

/-! Types. -/
namespace TyLW
theorem et_158 : ElemTy Tryz.prog 158 33 1 24 (.slice none 0 0) := ⟨by kernel_rfl, by kernel_rfl, by kernel_rfl, by decide⟩
end TyLW
open TyH3 TyH5 TyJ3 TyJ4 TyJ5 TyKA TyKB TyKC TyKD TyKE TyKF TyKG TyLA TyLB TyLC TyLD TyLE TyLF TyLG TyLH TyLI TyLJ TyLK TyLL TyLM TyLN TyLO TyLP TyLQ TyLR TyLS TyLT TyLU TyLV TyLW

set_option linter.unusedSimpArgs false
def L4 (x : Chg) : List (List Int) := [x.put.map Thg.id, x.drop, x.add.map Mvd.src, x.back]
def slI (l : List Int) : List D := [.sl (l.map intD)]
theorem l4_take {p : List Int → Prop} {x : Chg} {k : Nat} (hk : 4 ≤ k) (h : ∀ l ∈ (L4 x).take k, p l) : p (x.put.map Thg.id) ∧ p x.drop ∧ p (x.add.map Mvd.src) ∧ p x.back := by
  rw [List.take_of_length_le (by simpa [L4] using hk)] at h
  exact ⟨h _ (by simp [L4]), h _ (by simp [L4]), h _ (by simp [L4]), h _ (by simp [L4])⟩
theorem l4_s {p : List Int → Prop} {x : Chg} {k : Nat} (hk : k < (L4 x).length) (h : ∀ l ∈ (L4 x).take k, p l) (h2 : p (L4 x)[k]) : ∀ l ∈ (L4 x).take (k + 1), p l := fun l hl => by
  rw [List.take_add_one, List.getElem?_eq_getElem hk, Option.toList_some, List.mem_append, List.mem_singleton] at hl
  rcases hl with hl | rfl
  · exact h l hl
  · exact h2
theorem c4_2 {x : Chg} {k : Nat} (hk : k < (L4 x).length) (h : 300 < (L4 x)[k].length) : chgF x = 2 := by
  refine if_pos ?_
  match k, hk with
  | 0, _ => exact .inl (by simpa [L4] using h)
  | 1, _ => exact .inr (.inl (by simpa [L4] using h))
  | 2, _ => exact .inr (.inr (.inl (by simpa [L4] using h)))
  | 3, _ => exact .inr (.inr (.inr (by simpa [L4] using h)))
theorem c4_l {x : Chg} {k : Nat} (hk : 4 ≤ k) (h : ∀ l ∈ (L4 x).take k, l.length ≤ 300) : ¬ (300 < x.put.length ∨ 300 < x.drop.length ∨ 300 < x.add.length ∨ 300 < x.back.length) := by
  obtain ⟨h1, h2, h3, h4⟩ := l4_take (p := fun l => l.length ≤ 300) hk h
  simp only [List.length_map] at h1 h3
  omega
theorem c4_8 {x : Chg} (hL : ¬ (300 < x.put.length ∨ 300 < x.drop.length ∨ 300 < x.add.length ∨ 300 < x.back.length)) {k : Nat} (hk : k < (L4 x).length) (h : upF (atI (L4 x)[k]) (L4 x)[k].length = false) : chgF x = 8 := by
  refine chg_8 hL fun hh => ?_
  match k, hk with
  | 0, _ => have q := hh.1; simp [L4] at h; rw [h] at q; cases q
  | 1, _ => have q := hh.2.1; simp [L4] at h; rw [h] at q; cases q
  | 2, _ => have q := hh.2.2.1; simp [L4] at h; rw [h] at q; cases q
  | 3, _ => have q := hh.2.2.2; simp [L4] at h; rw [h] at q; cases q
theorem c4_m {x : Chg} (hL : ¬ (300 < x.put.length ∨ 300 < x.drop.length ∨ 300 < x.add.length ∨ 300 < x.back.length)) {k : Nat} (hk : 4 ≤ k) (h : ∀ l ∈ (L4 x).take k, upF (atI l) l.length = true) :
    chgF x = if meetB (x.put.map Thg.id) x.drop = true ∨ meetB (x.add.map Mvd.src) x.back = true then 12 else 0 := by
  obtain ⟨h1, h2, h3, h4⟩ := l4_take (p := fun l => upF (atI l) l.length = true) hk h
  rw [List.length_map] at h1 h3
  exact chg_m hL h1 h2 h3 h4
theorem l4_at {x : Chg} {k : Nat} (h : k < (L4 x).length) : ((L4 x).map slI)[k]? = some (slI (L4 x)[k]) := at_lst h

set_option maxRecDepth 100000 in
set_option maxHeartbeats 1000000 in
theorem c_rCC (x : Chg) (hp : x.put.length ≤ 1048576) (ha : x.add.length ≤ 1048576) : ACall Tryz.prog 94 [.agg x.ds] (.v (.int .i64 (chgF x))) := by
 refine acall_of (n := 55) (ds' := [.v (.int .i64 (chgF x))]) Tryz.func94 rfl (by kernel_rfl) rfl [2] rfl rfl ?_
 intro B w0 F0 fr
 refine .sr ?_
 refine .sA (.box rfl rfl rfl) ?_
 refine .aA (.nil ?_)
 refine .seq ?_
 refine .draw (by kernel_rfl) (by kernel_rfl) ?_
 refine .sA (.loadAgg rfl ag_35 rfl rfl) ?_
 refine .sA (.call rfl (.cons (.rfl' rfl) .nil) (c_putIds x hp)) ?_
 refine .sA (.loadAgg rfl ag_35 rfl rfl) ?_
 refine .sA (.call rfl (.cons (.rfl' rfl) .nil) (c_addIds x ha)) ?_
 refine .sA (.assignD rfl rfl) ?_
 refine .sA (.assignD rfl rfl) ?_
 refine .nil ?_
 refine .seq ?_
 refine .sr ?_
 refine .mA ?_
 refine .sA (.fieldAddr rfl fo_35_1 rfl) ?_
 refine .sA (.load rfl sc_33 rfl) ?_
 refine .mA ?_
 refine .sA (.fieldAddr rfl fo_35_3 rfl) ?_
 refine .sA (.load rfl sc_33 rfl) ?_
 refine .sA (.buildSlice rfl et_158 (.cons rfl rfl rfl (.cons rfl rfl rfl (.cons rfl rfl rfl (.cons rfl rfl rfl .nil)))) rfl (by decide)) ?_
 refine .sA (.lenSl rfl et_158.ht rfl) ?_
 refine .mA (.nil ?_)
 refine .block ?_
 refine .loop (G := Nat) (fun k => Env.of [(21, .d (.v (.int .i64 (k : Int)))), (19, .d (.sl ((L4 x).map slI))), (20, .d (.v (.int .i64 4))), (3, .d (.sl ((x.put.map Thg.id).map intD))), (4, .d (.sl ((x.add.map Mvd.src).map intD))), (1, .d (.fp x.ds))]) (fun k => []) (fun k => k ≤ 4 ∧ ∀ l ∈ (L4 x).take k, l.length ≤ 300) (fun k => 4 - k) 0 ⟨Nat.zero_le _, fun l h => by simp at h⟩ (Sub.less ⟨(SLe.of_eq rfl), (SLe.of_eq rfl), (SLe.of_eq rfl), SLe.refl _, SLe.refl _, SLe.refl _, trivial⟩ (fun _ h => h)) ?_
 intro k hk
 refine .sr ?_
 refine .sA (.lss rfl rfl rfl) (.nil ?_)
 refine .seq ?_
 refine .cond rfl (fun h1 => ?_) (fun h1 => ?_)
 ·replace h1 := of_decide_eq_true h1
  have hlt : k < (L4 x).length := by have := h1; simp [L4] at this ⊢; omega
  refine .skip ?_
  refine .seq ?_
  refine .block ?_
  refine .sr ?_
  refine .sA (.indexAddr rfl et_158 rfl rfl k rfl (l4_at hlt) rfl) ?_
  refine .sA (.load rfl sc_33 rfl) ?_
  refine .aA (.nil ?_)
  refine .sr ?_
  refine .mA ?_
  refine .sA (.lenSl rfl et_33.ht rfl) ?_
  refine .sA (.gtr rfl rfl rfl) (.nil ?_)
  refine .cond rfl (fun h2 => ?_) (fun h2 => ?_)
  ·replace h2 := of_decide_eq_true h2
   rw [List.length_map] at h2
   have HR := c4_2 hlt (by omega)
   refine .sr ?_
   refine .aA (.nil ?_)
   refine .ret ?_
   refine ⟨RetD.eq rfl ?_, trivial⟩
   all_goals (rw [HR])
  replace h2 := of_decide_eq_false h2
  rw [List.length_map] at h2
  have HN := l4_s (p := fun l => l.length ≤ 300) hlt hk.2 (by omega)
  refine .skip ?_
  refine .region ?_
  refine .sA (.add64 rfl rfl rfl (by omega) (by omega)) ?_
  refine .mA (.nil ?_)
  refine ⟨k + 1, ⟨by simp [L4] at hlt; omega, HN⟩, (by dsimp only; simp [L4] at hlt; omega), Sub.less ⟨(SLe.of_eq rfl), SLe.refl _, SLe.refl _, SLe.refl _, SLe.refl _, SLe.refl _, trivial⟩ (fun _ h => h)⟩
 replace h1 := of_decide_eq_false h1
 have hL := c4_l (by have := h1; omega) hk.2
 refine .exit ?_
 refine .seq ?_
 refine .sr ?_
 refine .mA ?_
 refine .sA (.fieldAddr rfl fo_35_1 rfl) ?_
 refine .sA (.load rfl sc_33 rfl) ?_
 refine .mA ?_
 refine .sA (.fieldAddr rfl fo_35_3 rfl) ?_
 refine .sA (.load rfl sc_33 rfl) ?_
 refine .sA (.buildSlice rfl et_158 (.cons rfl rfl rfl (.cons rfl rfl rfl (.cons rfl rfl rfl (.cons rfl rfl rfl .nil)))) rfl (by decide)) ?_
 refine .sA (.lenSl rfl et_158.ht rfl) ?_
 refine .mA (.nil ?_)
 refine .block ?_
 refine .loop (G := Nat) (fun j => Env.of [(37, .d (.v (.int .i64 (j : Int)))), (35, .d (.sl ((L4 x).map slI))), (36, .d (.v (.int .i64 4))), (3, .d (.sl ((x.put.map Thg.id).map intD))), (4, .d (.sl ((x.add.map Mvd.src).map intD))), (1, .d (.fp x.ds))]) (fun j => []) (fun j => j ≤ 4 ∧ ∀ l ∈ (L4 x).take j, upF (atI l) l.length = true) (fun j => 4 - j) 0 ⟨Nat.zero_le _, fun l h => by simp at h⟩ (Sub.less ⟨(SLe.of_eq rfl), (SLe.of_eq rfl), (SLe.of_eq rfl), SLe.refl _, SLe.refl _, SLe.refl _, trivial⟩ (fun _ h => h)) ?_
 intro j hj
 refine .sr ?_
 refine .sA (.lss rfl rfl rfl) (.nil ?_)
 refine .seq ?_
 refine .cond rfl (fun h3 => ?_) (fun h3 => ?_)
 ·replace h3 := of_decide_eq_true h3
  have hlt : j < (L4 x).length := by have := h3; simp [L4] at this ⊢; omega
  refine .skip ?_
  refine .seq ?_
  refine .block ?_
  refine .sr ?_
  refine .sA (.indexAddr rfl et_158 rfl rfl j rfl (l4_at hlt) rfl) ?_
  refine .sA (.load rfl sc_33 rfl) ?_
  refine .aA (.nil ?_)
  refine .sr ?_
  refine .mA ?_
  refine .sA (.call rfl (.cons (.rfl' rfl) .nil) (c_rRis _)) ?_
  refine .sA (.not rfl rfl) (.nil ?_)
  refine .cond rfl (fun h4 => ?_) (fun h4 => ?_)
  ·replace h4 := bnot_t h4
   have HR := c4_8 hL hlt h4
   refine .sr ?_
   refine .aA (.nil ?_)
   refine .ret ?_
   refine ⟨RetD.eq rfl ?_, trivial⟩
   all_goals (rw [HR])
  replace h4 := bnot_f h4
  have HN := l4_s (p := fun l => upF (atI l) l.length = true) hlt hj.2 h4
  refine .skip ?_
  refine .region ?_
  refine .sA (.add64 rfl rfl rfl (by omega) (by omega)) ?_
  refine .mA (.nil ?_)
  refine ⟨j + 1, ⟨by simp [L4] at hlt; omega, HN⟩, (by dsimp only; simp [L4] at hlt; omega), Sub.less ⟨(SLe.of_eq rfl), SLe.refl _, SLe.refl _, SLe.refl _, SLe.refl _, SLe.refl _, trivial⟩ (fun _ h => h)⟩
 replace h3 := of_decide_eq_false h3
 have HM := c4_m hL (by have := h3; omega) hj.2
 refine .exit ?_
 refine .seq ?_
 refine .sr ?_
 refine .mA ?_
 refine .sA (.fieldAddr rfl fo_35_1 rfl) ?_
 refine .sA (.load rfl sc_33 rfl) ?_
 refine .sA (.call rfl (.cons (.rfl' rfl) (.cons (.rfl' rfl) .nil)) (c_meet _ _)) ?_
 refine .mA ?_
 refine .split 49 rfl (fun g5 => ?_) (fun g5 => ?_)
 ·skip
  have HR : chgF x = 12 := HM.trans (if_pos (.inl g5))
  refine .pA ?_
  refine .pA ?_
  refine .pA ?_
  refine .pA ?_
  refine .sA (.pickT rfl rfl rfl) (.nil ?_)
  refine .cond rfl (fun _ => ?_) (fun h => nomatch h)
  refine .sr ?_
  refine .aA (.nil ?_)
  refine .ret ?_
  refine ⟨RetD.eq rfl ?_, trivial⟩
  all_goals (rw [HR])
 have wm := g5
 refine .sG (.moveD rfl rfl) ?_
 refine .sG (.fieldAddr rfl fo_35_3 rfl) ?_
 refine .sG (.load rfl sc_33 rfl) ?_
 refine .sG (.call rfl (.cons (.rfl' rfl) (.cons (.rfl' rfl) .nil)) (c_meet _ _)) ?_
 refine .sA (.pickF rfl rfl rfl) (.nil ?_)
 refine .cond rfl (fun h6 => ?_) (fun h6 => ?_)
 ·skip
  have HR : chgF x = 12 := HM.trans (if_pos (.inr h6))
  refine .sr ?_
  refine .aA (.nil ?_)
  refine .ret ?_
  refine ⟨RetD.eq rfl ?_, trivial⟩
  all_goals (rw [HR])
 have HR : chgF x = 0 := HM.trans (if_neg (fun hh => hh.elim (fun q => by rw [wm] at q; cases q) fun q => by rw [h6] at q; cases q))
 refine .skip ?_
 refine .sr ?_
 refine .aA (.nil ?_)
 refine .ret ?_
 refine ⟨RetD.eq rfl ?_, trivial⟩
 all_goals (rw [HR])



end Go.Proofs.YtgldfnkbpopanaaGreatDoor

namespace Go.Proofs.YtgldfnkbpopanaaGreatDoor
open Go.RowKit Go.Shelf
set_option linter.unusedVariables false

/-- copy(d, s), elements of whatever size. -/
theorem run_copy_sz {P : Program} (w : World) (dT sT ty elem : TypeId) (size b o dLen dCap : Nat) (a : Addr) (sLen sCap : Nat) (cs : List Value)
    (hu : P.underlying dT = some (.slice elem)) (hs : (P.info? elem).map (·.size) = some size) (hn : cs.length = Nat.min sLen dLen * size)
    (hsrc : ∀ j v, cs[j]? = some v → w.cell? (a.add j) = some v) (hc : ∀ j, j < cs.length → (w.cell? ⟨b, o + j, none⟩).isSome = true) (hf : ∀ j, j < cs.length → w.frozen? ⟨b, o + j, none⟩ = false) (h1 : ∀ v ∈ cs, v.oneCell' = true) :
    (Builtin.copy_ #[dT, sT] ty #[.slice (some ⟨b, o, none⟩) dLen dCap, .slice (some a) sLen sCap]).run P w = .ok (goInt (Nat.min sLen dLen)) (w.setCells b o cs) := by
  have hl := run_firstCells_some (P := P) w size (Nat.min sLen dLen) a sLen sCap cs hn hsrc
  have hst := run_storeCells_cells (P := P) b o cs 0 w (by simpa using hc) (by simpa using hf) h1
  cases hq : P.info? elem with
  | none => simp [hq] at hs
  | some i =>
    have hi : i.size = size := by simpa [hq] using hs
    simp only [Nat.min_def] at hl
    simp [Builtin.copy_, run_underlying hu, Builtin.lenOf, sizeOf, typeInfo, hq, hi, Nat.min_def, hl, hst]

/-- What an insertion leaves, told cell by cell. -/
theorem ins_takeS {xs F x : List Value} {i n s : Nat} (hn : xs.length = n) (hi : i ≤ n) (hx : x.length = s) (h1 : ∀ k, k < i → F[k]? = xs[k]?) (h2 : ∀ k, k < s → F[i + k]? = x[k]?) (h3 : ∀ k, i ≤ k → k < n → F[k + s]? = xs[k]?) : F.take (n + s) = xs.take i ++ x ++ xs.drop i := by
  apply List.ext_getElem?
  intro k
  have hL : (F.take (n + s))[k]? = if k < n + s then F[k]? else none := by rw [List.getElem?_take]
  have hT : (xs.take i).length = i := by rw [List.length_take]; omega
  rw [hL, get3, hT, hx]
  by_cases k1 : k < i
  · rw [if_pos (by omega), if_pos k1, h1 k k1, List.getElem?_take, if_pos k1]
  · rw [if_neg k1]
    by_cases k2 : k < i + s
    · rw [if_pos (by omega), if_pos k2]
      have := h2 (k - i) (by omega)
      rw [show i + (k - i) = k by omega] at this
      exact this
    · rw [if_neg k2]
      by_cases k3 : k < n + s
      · rw [if_pos k3, List.getElem?_drop]
        have := h3 (k - s) (by omega) (by omega)
        rw [show k - s + s = k by omega] at this
        rw [this]
        congr 1
        omega
      · rw [if_neg k3, List.getElem?_eq_none (by simp; omega)]

section
variable {cx : Cx} {e : Env} {σ : Obs} {Q : Post}
end

section
variable {cx : Cx} {ops : Array Oper} {o : Oper} {rest : List Oper} {e : Env} {σ : Obs} {Q : Post}
/-- []T{x}: an own row of one element. -/
theorem AOps.buildS {t el size bytes dst : Nat} {z : Value} {x : Operand} {d : D} (id : Nat) (hg : o.guard = none) (ht : o.dst = some dst) (hdn : Nat.blt dst cx.N = true) (ho : o.op = .buildSlice t 1 #[(0, x)]) (T : ElemTy cx.P t el size bytes z) (hsz : Nat.ble size 1000 = true) (hx : e.ev x = .d d) (h1 : d.one = true) (h2 : d.parts.length = size) (hid : Obs.fresh id σ = true)
    (k : AOps cx ops rest ((e.kill id).put (some dst) (.own id)) ((id, .row el size [d.parts]) :: Obs.kill id σ) Q) (hfx : cx.free id = true := by rfl) : AOps cx ops (o :: rest) e σ Q := by
  intro a w ⟨F, ρ, hr⟩
  have hsz' : size ≤ 1000 := by simpa [Nat.ble_eq] using hsz
  have hdn' : dst < cx.N := by simpa [Nat.blt_eq] using hdn
  have r1 := ev_rep (e := e) (x := x) (a := a) (fun t _ => hr.env t)
  rw [hx] at r1
  obtain ⟨h3, h4⟩ := parts_rep (repS_d r1) h1
  have hcl : (a.eval x).cells.toList.length = size := by rw [h3.1]; exact h2
  obtain ⟨c, hc⟩ : ∃ c, c = (a.eval x).cells.toList := ⟨_, rfl⟩
  have hcl' : c.length = size := by rw [hc]; exact hcl
  obtain ⟨i, hi, hz0, hz1, hz2⟩ := info_parts T.hi
  have hzc : z.cells.size = size := T.hz
  have hs0 : 0 < size := T.hs
  obtain ⟨cs', h5, h6⟩ := fill_inorder (size := size) 0 [(0, a.eval x)] ((Array.range size).map (fun j => z.cells[j % z.cells.size]!)) (fun j hj => by
    have hj0 : j = 0 := by simpa using hj
    subst hj0
    refine ⟨rfl, ?_⟩
    have : (a.eval x).cells.size = size := by rw [← Array.length_toList]; exact hcl
    simpa using this) (by simp)
  have h7 : cs'.toList = c := by
    have h9 : List.drop size (List.map (fun j => z.cells[j % z.cells.size]!) (List.range size)) = [] := List.drop_eq_nil_of_le (by simp)
    simpa [← hc, h9] using h6
  have hcs : cs' = c.toArray := by rw [← h7]
  have hrun : (execOp a.eval o).run cx.P w = .ok (.value (.slice (some ⟨w.heap.size, 0, none⟩) 1 1)) (w.alloc (.cells c.toArray el)) := by
    unfold execOp
    simp only [ho, Instr.buildSlice, Sem.run_bind, run_underlying T.ht, Result.andThen_ok, T.sizeOf]
    rw [if_neg (show ¬ (1 * size > 2 ^ 24) by omega), if_neg (show ¬ (1 * size = 0) by omega)]
    have hprog : (program : Sem Program).run cx.P w = .ok cx.P w := rfl
    simp only [Sem.run_bind, zeroValue, typeInfo, hprog, Result.andThen_ok, hi, Sem.run_pure, hz0]
    have h8 : Array.map (fun (p : Nat × Operand) => (p.fst, a.eval p.snd)) #[(0, x)] = #[(0, a.eval x)] := by simp
    rw [h8]
    rw [hcs] at h5
    simp only [Nat.one_mul, List.toArray] at h5 ⊢
    first | rw [h5] | skip
    rfl
  have hrow : (w.alloc (.cells c.toArray el)).ownsRow cx.B el size (.slice (some ⟨w.heap.size, 0, none⟩) 1 1) 1 c :=
    ⟨by rw [Nat.one_mul]; exact hcl', .inr ⟨w.heap.size, 1, c.toArray, rfl, hr.hB, heap_alloc_new w _, Nat.le_refl _, by unfold maxLen; omega, by simpa using hcl', by rw [Nat.one_mul, ← hcl']; simp⟩⟩
  have hfl : flat (fun _ j => c.getD j undef) 1 size = c := by
    unfold flat
    simp only [List.range_one, List.map_cons, List.map_nil, List.flatten_cons, List.flatten_nil, List.append_nil]
    apply List.ext_getElem
    · simp [hcl']
    · intro j hj hj2
      simp [List.getD_eq_getElem?_getD, hj2]
  obtain ⟨ρ', h9⟩ := hr.newRow (v := .slice (some ⟨w.heap.size, 0, none⟩) 1 1) (els := [d.parts]) (Obs.fresh_spec hid) hdn' ((Below.refl _ _).alloc (Nat.le_refl _) (.cells c.toArray el))
    ⟨fun _ j => c.getD j undef, by dsimp only; rw [if_pos rfl]; show World.ownsRow _ _ _ _ _ _ (flat (fun _ j => c.getD j undef) 1 size); rw [hfl]; exact hrow, fun i hi => by
      have : i = 0 := by simpa using hi
      subst this
      simpa using h2, fun i hi j hj => by
      have : i = 0 := by simpa using hi
      subst this
      have hj' : j < d.parts.length := by simpa using hj
      have hjc : j < c.length := by omega
      have hgd : c.getD j undef = c[j] := by simp [List.getD_eq_getElem?_getD, hjc]
      dsimp only
      rw [hgd]
      subst hc
      refine ⟨h4 _ (List.getElem_mem hjc), ?_⟩
      have h10 := h3.2 j hjc (by omega)
      have hE : Ext F w F (w.alloc (.cells (a.eval x).cells.toList.toArray el)) := Ext.of_below hr.lt ((Below.refl _ _).alloc (Nat.le_refl _) _)
      simpa using h10.ext hr.lt hE, fun g hg hf => by dsimp only at hg; rw [if_pos rfl] at hg; simp [blk] at hg; have := hr.lt g hf; omega⟩
    (fun g hg => by simp [blk] at hg; omega) hfx
  refine wpList_plain hg fun K hK => ?_
  unfold Oper.wp
  rw [hrun]
  have := k _ _ ⟨F, ρ', h9⟩
  rw [← ht] at this
  exact hK _ _ this
end
end Go.Proofs.YtgldfnkbpopanaaGreatDoor

namespace Go.Proofs.YtgldfnkbpopanaaGreatDoor
open Go.RowKit Go.Shelf Go.Lib
set_option linter.unusedVariables false
set_option linter.unusedSimpArgs false

/-- What Insert does with an own row. -/
structure InsEndG (e size B : Nat) (w : World) (v : Value) (n : Nat) (ys : List Value) (v' : Value) (w' : World) : Prop where
  own : w'.ownsRow B e size v' n ys
  turn : Turn w w' (blk v)
  new : ∀ g, blk v' = some g → blk v = some g ∨ w.heap.size ≤ g
theorem blk_own {w : World} {B e size n : Nat} {v : Value} {xs : List Value} (h : w.ownsRow B e size v n xs) : v.ownBlock = blk v := by
  rcases h.2 with ⟨rfl, _⟩ | ⟨g, cap, cur, rfl, _⟩ <;> rfl

theorem insEnd_cat {e size B : Nat} {w w' : World} {v v' : Value} {n : Nat} {xs ys : List Value} (hown : w.ownsRow B e size v n xs) (h1 : w'.ownsRow B e size v' (n + 1) ys) (h2 : w.grownBy w' v.ownBlock) (h3 : v'.ownBlock = v.ownBlock ∨ ∃ g, v'.ownBlock = some g ∧ w.heap.size ≤ g) : InsEndG e size B w v (n + 1) ys v' w' := by
  rw [blk_own hown] at h2
  rw [blk_own hown, blk_own h1] at h3
  refine ⟨h1, ⟨h2.os, h2.tape, h2.output, h2.size, h2.block⟩, fun g hg => ?_⟩
  rcases h3 with h3 | ⟨g2, h3, h4⟩
  · exact .inl (by rw [← h3]; exact hg)
  · rw [h3] at hg
    exact .inr (by have := Option.some.inj hg; omega)
structure InsT (P : Program) (f e size bytes : Nat) : Prop where
  ent : Enters P f
  calls : ∀ {B : Nat} {w : World} {v : Value} {n i vb vcap : Nat} {xs y : List Value} {ecur : Array Value} {ety : TypeId}, w.ownsRow B e size v n xs → (∀ u ∈ xs, u.oneCell' = true) → i ≤ n → B ≤ w.heap.size → (n + 1) * bytes ≤ 140737488355328 →
    w.heap[vb]? = some (.cells ecur ety (0, 0)) → 1 ≤ vcap ∧ vcap ≤ 9223372036854775807 → y.length = size → ecur.toList.take size = y → (∀ u ∈ y, u.oneCell' = true) → blk v ≠ some vb →
    Calls P f #[v, .int .i64 i, .slice (some ⟨vb, 0, none⟩) 1 vcap] w fun e' w' => ∃ v', e' = .returned v' ∧ InsEndG e size B w v (n + 1) (xs.take (i * size) ++ y ++ xs.drop (i * size)) v' w'
theorem flat_ins (xs ys : Nat → Nat → Value) {n k : Nat} (s : Nat) (hk : k ≤ n) : (flat xs n s).take (k * s) ++ flat ys 1 s ++ (flat xs n s).drop (k * s) = flat (fun i j => if i < k then xs i j else if i = k then ys 0 j else xs (i - 1) j) (n + 1) s := by
  have h1 : flat xs n s = flat xs k s ++ flat (fun i => xs (k + i)) (n - k) s := by
    rw [flat_append, show k + (n - k) = n by omega]
    refine flat_congr fun i j hi hj => ?_
    by_cases h : i < k
    · rw [if_pos h]
    · rw [if_neg h, show k + (i - k) = i by omega]
  have hl := flat_length xs k s
  rw [h1, List.take_left' hl, List.drop_left' hl, flat_append, flat_append, show k + 1 + (n - k) = n + 1 by omega]
  refine flat_congr fun i j hi hj => ?_
  by_cases h : i < k
  · rw [if_pos (by omega), if_pos h, if_pos h]
  · rw [if_neg h]
    by_cases h2 : i = k
    · subst h2
      rw [if_pos (by omega), if_neg (by omega), if_pos rfl, Nat.sub_self]
    · rw [if_neg (by omega), show k + (i - (k + 1)) = i - 1 by omega, if_neg h, if_neg h2]
theorem ins_get {α : Type} {l : List α} {c : α} {p i : Nat} (hp : p ≤ l.length) (hi : i < (l.take p ++ [c] ++ l.drop p).length) : (l.take p ++ [c] ++ l.drop p)[i] = if h : i < p then l[i]'(by omega) else if h2 : i = p then c else l[i - 1]'(by simp at hi; omega) := by
  have hT : (l.take p).length = p := by rw [List.length_take]; omega
  have hi2 : i < l.length + 1 := by simp at hi; omega
  by_cases h1 : i < p
  · rw [dif_pos h1, List.getElem_append_left (by simp; omega), List.getElem_append_left (by omega), List.getElem_take]
  · rw [dif_neg h1]
    by_cases h2 : i = p
    · subst h2
      rw [dif_pos rfl, List.getElem_append_left (by simp; omega), List.getElem_append_right (by omega)]
      simp
    · rw [dif_neg h2, List.getElem_append_right (by simp; omega), List.getElem_drop]
      congr 1
      simp
      omega
theorem Rep.turn {F : Nat → Prop} {w w' : World} {x : Value} {d : D} {row : Option Nat} (h : Rep F w x d) (hF : ∀ b, F b → b < w.heap.size) (hr : ∀ g, row = some g → ¬ F g) (ht : Turn w w' row) : Rep F w' x d :=
  repS_d (RepS.turn (ρ := fun _ => x) (.d h) hF hr ht fun b hb => hb)
section
variable {cx : Cx} {ops : Array Oper} {o : Oper} {rest : List Oper} {e : Env} {σ : Obs} {Q : Post}
/-- slices.Insert(s, i, x) at an own []api.Copy of data. -/
theorem AOps.insertG {s i x : Operand} {ts : Array TypeId} {id idx ex dst k : Nat} {els : List (List D)} {y : List D} {m : Int} {fi ee sz by0 : Nat} (σ' : Obs) (T : InsT cx.P fi ee sz by0) (hg : o.guard = none) (ht : o.dst = some dst) (hdn : Nat.blt dst cx.N = true)
    (ho : o.op = .call { callee := .value (.func fi), args := #[s, i, x], argTypes := ts }) (hs : e.ev s = .own id) (hm : (id, Ob.row ee sz els) ∈ σ) (hi : e.ev i = .d (.v (.int .i64 m))) (hk : m = (k : Int)) (hkl : k ≤ els.length)
    (hx : e.ev x = .own idx) (hmx : (idx, Ob.row ex sz [y]) ∈ σ) (hne : idx ≠ id) (hb : (els.length + 1) * by0 ≤ 140737488355328)
    (hσ : ∀ p ∈ σ', p = (id, Ob.row ee sz (els.take k ++ [y] ++ els.drop k)) ∨ ∃ q ∈ σ, q.1 ≠ id ∧ p = (q.1, q.2.kill id))
    (q : AOps cx ops rest ((e.kill id).put (some dst) (.own id)) σ' Q) (hfx : cx.free id = true := by rfl) : AOps cx ops (o :: rest) e σ Q := by
  intro a w ⟨F, ρ, hr⟩
  have r1 := ev_rep (e := e) (x := s) (a := a) (fun t _ => hr.env t)
  have r2 := ev_rep (e := e) (x := i) (a := a) (fun t _ => hr.env t)
  have r3 := ev_rep (e := e) (x := x) (a := a) (fun t _ => hr.env t)
  rw [hs] at r1
  rw [hi] at r2
  rw [hx] at r3
  have v1 : a.eval s = ρ id := by generalize a.eval s = v at r1; cases r1; rfl
  have v2 := repS_v r2
  have v3 : a.eval x = ρ idx := by generalize a.eval x = v at r3; cases r3; rfl
  obtain ⟨xs, hown, hlen, hrep, hnF⟩ := hr.obs.ok _ hm
  obtain ⟨ys, hox, hylen, hyrep, _⟩ := hr.obs.ok _ hmx
  dsimp only at hown hox hnF
  have hyl : y.length = sz := by simpa using hylen 0 (by simp)
  have hown' : w.ownsRow cx.B ee sz (ρ id) els.length (flat xs els.length sz) := hown
  have hox' : w.ownsRow cx.B ex sz (ρ idx) 1 (flat ys 1 sz) := hox
  rcases hox'.2 with ⟨_, h0⟩ | ⟨vb, vcap, ecur, hvb, _, hh, hn1, hvm, hcs, htk⟩
  · simp at h0
  have one1 : ∀ u ∈ flat xs els.length sz, u.oneCell' = true := fun u hu => by
    obtain ⟨l, hl, hu⟩ := List.mem_flatten.1 hu
    obtain ⟨i, hi, rfl⟩ := List.mem_map.1 hl
    obtain ⟨j, hj, rfl⟩ := List.mem_map.1 hu
    have hi' : i < els.length := by simpa using hi
    exact (hrep i hi' j (by rw [hlen i hi']; simpa using hj)).1
  have one2 : ∀ u ∈ flat ys 1 sz, u.oneCell' = true := fun u hu => by
    obtain ⟨l, hl, hu⟩ := List.mem_flatten.1 hu
    obtain ⟨i, hi, rfl⟩ := List.mem_map.1 hl
    obtain ⟨j, hj, rfl⟩ := List.mem_map.1 hu
    have hi' : i = 0 := by simpa using hi
    subst hi'
    exact (hyrep 0 (by simp) j (by simp only [List.getElem_cons_zero, hyl]; simpa using hj)).1
  have hE : Enters cx.P fi := T.ent
  have hx' : (execOp a.eval o).run cx.P w = .ok (.enter fi #[a.eval s, a.eval i, a.eval x]) w := by
    obtain ⟨xs, hxs⟩ : ∃ xs : List Operand, xs = [s, i, x] := ⟨_, rfl⟩
    have ho' : o.op = .call { callee := .value (.func fi), args := xs.toArray, argTypes := ts } := by rw [ho, hxs]
    have h5 := hE (xs.map a.eval).toArray w
    have h6 : (execOp a.eval o).run cx.P w = .ok (.enter fi (xs.map a.eval).toArray) w := by
      unfold execOp
      simp only [ho', resolve, Deferred.ofValue, Act.eval, invoke, Sem.run_bind, Sem.run_pure, Result.andThen_ok]
      simpa using h5
    rw [hxs] at h6
    exact h6
  have hc := T.calls (i := k) (vb := vb) (vcap := vcap) (y := flat ys 1 sz) hown' one1 hkl hr.hB hb hh ⟨hn1, by unfold maxLen at hvm; omega⟩ (by rw [flat_length, Nat.one_mul]) (by simpa using htk) one2 (fun he => hr.obs.apart _ hmx _ hm hne vb (by dsimp only; rw [hvb]; rfl) (by dsimp only; exact he))
  rw [v1, v2, v3, hvb, hk] at hx'
  refine wpList_plain hg fun K hK => ?_
  unfold Oper.wp
  rw [hx']
  refine hc.mono fun _ w' ⟨v', he, hI⟩ => ?_
  subst he
  have hlen2 : (els.take k ++ [y] ++ els.drop k).length = els.length + 1 := by simp; omega
  have hturn := hr.turn (ρ' := fun j => if j = id then v' else ρ j) (id := id) (ob := .row ee sz (els.take k ++ [y] ++ els.drop k)) (row := blk (ρ id)) (w' := w') (F' := F) (fun j hj => by simp [hj]) hI.turn hfx
    (fun g hg => ⟨hr.kown _ hm g hg, hnF g hg, fun p hp hpi => fun he => hr.obs.apart p hp _ hm hpi g he hg⟩) (fun b hb => hb) (fun b hb => .inl hb) (fun b hb => Nat.lt_of_lt_of_le (hr.lt b hb) hI.turn.size)
    ⟨fun i j => if i < k then xs i j else if i = k then ys 0 j else xs (i - 1) j, by
      dsimp only
      rw [if_pos rfl]
      have h6 := hI.own
      rw [flat_ins xs ys sz hkl] at h6
      rw [hlen2]
      exact h6, fun i hi => by
      rw [ins_get hkl hi]
      split
      · exact hlen _ _
      · split
        · exact hyl
        · exact hlen _ _, fun i hi j hj => by
      have hr7 : ∀ x d, Rep F w x d → Rep F w' x d := fun x d h => h.turn hr.lt hnF hI.turn
      have hi2 : i < els.length + 1 := by rw [hlen2] at hi; exact hi
      have hg := ins_get hkl hi
      by_cases h1 : i < k
      · rw [dif_pos h1] at hg
        simp only [if_pos h1]
        simp only [hg] at hj ⊢
        exact ⟨(hrep i (by omega) j hj).1, hr7 _ _ (hrep i (by omega) j hj).2⟩
      · rw [dif_neg h1] at hg
        by_cases h2 : i = k
        · rw [dif_pos h2] at hg
          simp only [if_neg h1, if_pos h2]
          simp only [hg] at hj ⊢
          have h8 := hyrep 0 (by simp) j (by simpa using hj)
          exact ⟨h8.1, hr7 _ _ (by simpa using h8.2)⟩
        · rw [dif_neg h2] at hg
          simp only [if_neg h1, if_neg h2]
          simp only [hg] at hj ⊢
          exact ⟨(hrep (i - 1) (by omega) j hj).1, hr7 _ _ (hrep (i - 1) (by omega) j hj).2⟩, fun g hg hf => by
      dsimp only at hg
      rw [if_pos rfl] at hg
      rcases hI.new g hg with h6 | h6
      · exact hnF g h6 hf
      · have := hr.lt g hf; omega⟩ (fun g hg => by rw [if_pos rfl] at hg; exact hI.new g hg) σ' hσ
  have h9 := hturn.put (o := ⟨some dst, .ready 0, 0, "", #[], none⟩) (v := v') (s := .own id) (Ext.refl hturn.lt) (by
      have := RepS.own (F := F) (ρ := fun j => if j = id then v' else ρ j) (w := w') id
      simpa using this) (by simpa [DstOk, Nat.blt_eq] using hdn)
  have := q _ _ ⟨F, _, h9⟩
  rw [← ht] at this
  exact hK _ _ this
theorem AOps.insertK {s i x : Operand} {ts : Array TypeId} {id idx ex dst k : Nat} {els : List (List D)} {y : List D} {m : Int} {fi ee sz by0 : Nat} (T : InsT cx.P fi ee sz by0) (hg : o.guard = none) (ht : o.dst = some dst) (hdn : Nat.blt dst cx.N = true)
    (ho : o.op = .call { callee := .value (.func fi), args := #[s, i, x], argTypes := ts }) (hs : e.ev s = .own id) (hm : (id, Ob.row ee sz els) ∈ σ) (hi : e.ev i = .d (.v (.int .i64 m))) (hk : m = (k : Int)) (hkl : k ≤ els.length)
    (hx : e.ev x = .own idx) (hmx : (idx, Ob.row ex sz [y]) ∈ σ) (hne : idx ≠ id) (hb : (els.length + 1) * by0 ≤ 140737488355328)
    (q : AOps cx ops rest ((e.kill id).put (some dst) (.own id)) ((id, .row ee sz (els.take k ++ [y] ++ els.drop k)) :: Obs.kill id (Obs.del id σ)) Q) (hfx : cx.free id = true := by rfl) : AOps cx ops (o :: rest) e σ Q :=
  AOps.insertG _ T hg ht hdn ho hs hm hi hk hkl hx hmx hne hb (fun p hp => by
    rcases List.mem_cons.1 hp with rfl | hp
    · exact .inl rfl
    · obtain ⟨q, hq, rfl⟩ := Obs.mem_kill hp
      exact .inr ⟨q, (Obs.mem_del hq).1, (Obs.mem_del hq).2, rfl⟩) q hfx
end
namespace InsT
theorem et_cpyI : ElemTy Tryz.prog 22 41 7 88 (.agg #[(.int .i64 0), (.int .i64 0), (.string ⟨#[]⟩), (.string ⟨#[]⟩), (.int .i64 0), (.int .i64 0), (.slice none 0 0)]) := ⟨by kernel_rfl, by kernel_rfl, by kernel_rfl, by decide⟩

set_option maxHeartbeats 4000000 in
set_option maxRecDepth 100000 in
/-- At the end. -/
theorem insC_end {B : Nat} {w : World} {v : Value} {n vb vcap : Nat} {xs y : List Value} (hown : w.ownsRow B 41 7 v n xs) (hB : B ≤ w.heap.size) (hb : (n + 1) * 88 ≤ 140737488355328) (hsl : Sl w 7 (.slice (some ⟨vb, 0, none⟩) 1 vcap) 1 y) (hy1 : ∀ u ∈ y, u.oneCell' = true) :
    Calls Tryz.prog 108 #[v, .int .i64 n, .slice (some ⟨vb, 0, none⟩) 1 vcap] w fun e w' => ∃ v', e = .returned v' ∧ InsEndG 41 7 B w v (n + 1) (xs ++ y) v' w' := by
  have HO := Lib.hid hown
  have HS := Lib.hid hsl
  clear hsl
  rcases hown.2 with ⟨rfl, rfl⟩ | ⟨g, cap, cur, rfl, hg, hh, hn, hmx, hcs, htk⟩
  · clear hown
    go_enter Tryz.func108, Tryz.ntmps108
    go_wp2_with (at_builtin; refine wpList_cat2 et_cpyI _ _ rfl rfl HO.out rfl rfl HS.out hy1 hb (by omega) hB ?_; intro v' w' h1 h2 h3)
    all_goals (go_ret; exact ⟨_, rfl, insEnd_cat HO.out h1 h2 h3⟩)
  · clear hown hh hcs htk
    have hn9 : n ≤ 9223372036854775807 := by omega
    unfold maxLen at hmx
    by_cases hcn : cap = n
    · subst hcn
      go_enter Tryz.func108, Tryz.ntmps108
      go_wp2_with (at_builtin; refine wpList_cat2 et_cpyI _ _ rfl rfl HO.out rfl rfl HS.out hy1 hb (by omega) hB ?_; intro v' w' h1 h2 h3)
      all_goals (go_ret; exact ⟨_, rfl, insEnd_cat HO.out h1 h2 h3⟩)
    · skip
      go_enter Tryz.func108, Tryz.ntmps108
      go_wp2_with (at_builtin; refine wpList_cat2 et_cpyI _ _ rfl rfl HO.out rfl rfl HS.out hy1 hb (by omega) hB ?_; intro v' w' h1 h2 h3)
      all_goals (go_ret; exact ⟨_, rfl, insEnd_cat HO.out h1 h2 h3⟩)

set_option maxHeartbeats 4000000 in
set_option maxRecDepth 100000 in
/-- Before an element, there is room: in place. -/
theorem insC_shift (b n c i vb vc : Nat) (cs vs : List Value) (w : World) (hi : i < n) (hroom : n + 1 ≤ c) (hc63 : c ≤ 9223372036854775807) (hvb : vb ≠ b) (hcl : cs.length = n * 7) (hvl : vs.length = 7)
    (hcs : ∀ j v, cs[j]? = some v → w.cell? ⟨b, j, none⟩ = some v) (hsp : ∀ j, j < (n + 1) * 7 → (w.cell? ⟨b, j, none⟩).isSome = true) (hfz : ∀ j, w.frozen? ⟨b, j, none⟩ = false)
    (hvs : ∀ j v, vs[j]? = some v → w.cell? ⟨vb, j, none⟩ = some v) (h1c : ∀ v ∈ cs, v.oneCell' = true) (h1v : ∀ v ∈ vs, v.oneCell' = true)
    (tA tB : TypeId) (kA kB : Nat) (hsa : w.shape? vb = some (tA, kA)) (hsb : w.shape? b = some (tB, kB)) (hkB : kB ≠ 0) (hfa : w.frozen? ⟨vb, 0, none⟩ = false) (hfe : w.frozen? ⟨vb, kA, none⟩ = false) :
    Calls Tryz.prog 108 #[.slice (some ⟨b, 0, none⟩) n c, .int .i64 i, .slice (some ⟨vb, 0, none⟩) 1 vc] w fun e w' =>
      e = .returned (.slice (some ⟨b, 0, none⟩) (n + 1) c) ∧ w' = (w.drew.setCells b ((i + 1) * 7) (cs.drop (i * 7))).setCells b (i * 7) vs := by
  have hsz : (Tryz.prog.info? 41).map (·.size) = some 7 := by
    obtain ⟨i0, hi0, h0, h1, h2⟩ := info_parts et_cpyI.hi
    rw [hi0]; simp [h1]
  have hov : ∀ lb cb, (callFunc 142 #[.slice (some ⟨vb, 0, none⟩) 1 vc, .slice (some ⟨b, (i + 1) * 7, none⟩) lb cb]).run Tryz.prog w = .ok (.value (.bool false)) w := fun lb cb => by
    rw [run_callFunc_extern Tryz.func142 (by kernel_rfl) (by kernel_rfl) (by kernel_rfl) (e := Extern.SlicesOverlaps.overlaps #[22, 22] #[4]) (by kernel_rfl),
      Lib.run_overlaps_apart w 22 4 41 et_cpyI.ht 7 et_cpyI.sizeOf ⟨vb, 0, none⟩ ⟨b, (i + 1) * 7, none⟩ 1 vc lb cb hvb tA tB kA kB hsa hsb hkB hfa hfe]
    rfl
  have hdl : (cs.drop (i * 7)).length = (n - i) * 7 := by rw [List.length_drop, hcl]; omega
  have hw1 : IntKind.i64.wrap ((i : Int) + 1) = (i : Int) + 1 := by rw [IntKind.wrap_i64]; omega
  have hw2 : IntKind.i64.wrap ((n : Int) + 1) = (n : Int) + 1 := by rw [IntKind.wrap_i64]; omega
  have hz2 : ¬ ((i : Int) = (n : Int)) := by omega
  have hb1 : (0 : Int) ≤ (i : Int) + 1 := by omega
  have hin : i ≤ n := by omega
  have htn : ((i : Int) + 1).toNat = i + 1 := by omega
  have hb2 : ¬ (c = i + 1) := by omega
  have hb3 : (i : Int) ≤ (n : Int) + 1 := by omega
  have hb4 : ¬ (c = i) := by omega
  have hcp1 : ∀ ty dc sc, (Builtin.copy_ #[22, 22] ty #[.slice (some ⟨b, (i + 1) * 7, none⟩) (n - i) dc, .slice (some ⟨b, i * 7, none⟩) (n + 1 - i) sc]).run Tryz.prog w.drew = .ok (goInt (Nat.min (n + 1 - i) (n - i))) (w.drew.setCells b ((i + 1) * 7) (cs.drop (i * 7))) := fun ty dc sc =>
    run_copy_sz w.drew _ _ ty 41 7 b ((i + 1) * 7) (n - i) dc ⟨b, i * 7, none⟩ (n + 1 - i) sc (cs.drop (i * 7)) et_cpyI.ht hsz (by rw [hdl]; simp only [Nat.min_def]; split <;> omega)
      (fun j v hj => by rw [Addr.add_lit]; exact hcs (i * 7 + j) v (by rwa [List.getElem?_drop] at hj))
      (fun j hj => hsp _ (by omega)) (fun j hj => hfz _) (fun v hv => h1c v (List.mem_of_mem_drop hv))
  obtain ⟨W1, hW1⟩ : ∃ W1, W1 = w.drew.setCells b ((i + 1) * 7) (cs.drop (i * 7)) := ⟨_, rfl⟩
  have hsp1 : ∀ k, k < (n + 1) * 7 → (W1.cell? ⟨b, k, none⟩).isSome = true := fun k hk => by
    rw [hW1]
    exact isSome_setCells b (cs.drop (i * 7)) ((i + 1) * 7) w.drew (fun j hj => hsp ((i + 1) * 7 + j) (by omega)) k (hsp k hk)
  have hcp2 : ∀ (W : World), (∀ x, W.cell? x = W1.cell? x) → (∀ x, W.frozen? x = W1.frozen? x) → ∀ ty dc, (Builtin.copy_ #[22, 22] ty #[.slice (some ⟨b, i * 7, none⟩) (n + 1 - i) dc, .slice (some ⟨vb, 0, none⟩) 1 vc]).run Tryz.prog W = .ok (goInt (Nat.min 1 (n + 1 - i))) (W.setCells b (i * 7) vs) := fun W hWc hWf ty dc =>
    run_copy_sz W _ _ ty 41 7 b (i * 7) (n + 1 - i) dc ⟨vb, 0, none⟩ 1 vc vs et_cpyI.ht hsz (by rw [hvl]; simp only [Nat.min_def]; split <;> omega)
      (fun j v hj => by
        rw [Addr.add_lit, hWc, hW1, World.cell?_setCells_out b _ _ _ _ (fun h _ => absurd h hvb), Nat.zero_add]
        exact hvs j v hj)
      (fun j hj => by rw [hWc]; exact hsp1 _ (by omega)) (fun j hj => by rw [hWf, hW1, World.frozen?_setCells]; exact hfz _) h1v
  rw [← hW1] at hcp1
  go_enter Tryz.func108, Tryz.ntmps108
  go_wp2_with (simp only [hov])
  go_region_law (refine step_copy_runI rfl _ _ 22 22 rfl _ _ (by simp [Act.eval, Act.put]) (by simp [Act.eval, Act.put]) (hcp1 _ _ _) ?_)
  go_wp2_with (at_builtin; refine wpList_copy_runI _ rfl _ _ 22 22 rfl _ _ rfl rfl (hcp2 _ (fun _ => rfl) (fun _ => rfl) _ _) ?_)
  go_ret
  first | exact ⟨rfl, rfl⟩ | exact ⟨rfl, by rw [hW1]⟩

def zcpyV : Value := (Value.agg #[(.int .i64 0), (.int .i64 0), (.string ⟨#[]⟩), (.string ⟨#[]⟩), (.int .i64 0), (.int .i64 0), (.slice none 0 0)])
theorem zeros7 (k : Nat) : (Builtin.zeroCells zcpyV.cells k).size = k * 7 := by simp [Builtin.zeroCells, Value.cells, zcpyV]
set_option maxHeartbeats 4000000 in
set_option maxRecDepth 100000 in
/-- Before an element, there is no room: a new row. -/
theorem insC_grow (b n c i vb vc : Nat) (cs vs : List Value) (w : World) (hi : i < n) (hnc : n ≤ c) (hroom : c < n + 1) (hbig : (n + 1) * 88 ≤ 140737488355328) (hcl : cs.length = n * 7) (hvl : vs.length = 7)
    (hcs : ∀ j v, cs[j]? = some v → w.cell? ⟨b, j, none⟩ = some v)
    (hvs : ∀ j v, vs[j]? = some v → w.cell? ⟨vb, j, none⟩ = some v) (h1c : ∀ v ∈ cs, v.oneCell' = true) (h1v : ∀ v ∈ vs, v.oneCell' = true) :
    Calls Tryz.prog 108 #[.slice (some ⟨b, 0, none⟩) n c, .int .i64 i, .slice (some ⟨vb, 0, none⟩) 1 vc] w fun e w' =>
      e = .returned (.slice (some ⟨w.heap.size, 0, none⟩) (n + 1) (grownCap w (n + 1) c 41)) ∧
      w' = (((w.alloc (.cells ((cs.take (i * 7)).toArray ++ Builtin.zeroCells zcpyV.cells (n + 1 - i) ++ Builtin.zeroCells zcpyV.cells (grownCap w (n + 1) c 41 - (n + 1))) 41)).drew.setCells w.heap.size (i * 7) vs).drew).setCells w.heap.size ((i + 1) * 7) (cs.drop (i * 7)) := by
  obtain ⟨i0, hi0, hz0, hzs, hzb⟩ := info_parts et_cpyI.hi
  have hz0 : i0.zero = some zcpyV := hz0
  have htI : Tryz.prog.underlying 3 = some (.int .i64) := by kernel_rfl
  have hz2 : ¬ ((i : Int) = (n : Int)) := by omega
  have hz3 : (c : Int) < (n : Int) + 1 := by omega
  have hsz : (Tryz.prog.info? 41).map (·.size) = some 7 := by rw [hi0]; simp [hzs]
  have hbw : b < w.heap.size := block_lt_of_cell (hcs 0 _ (List.getElem?_eq_getElem (by omega)))
  have hvw : vb < w.heap.size := block_lt_of_cell (hvs 0 _ (List.getElem?_eq_getElem (by omega)))
  have hkk : (n : Int) + 1 - (i : Int) = ((n + 1 - i : Nat) : Int) := by omega
  have hik : i + (n + 1 - i) = n + 1 := by omega
  have hold : (Builtin.firstCells i0.size i (.slice (some ⟨b, 0, none⟩) i c)).run Tryz.prog w.drew = .ok (cs.take (i * 7)).toArray w.drew := by
    rw [hzs]
    exact run_firstCells_some w.drew 7 i ⟨b, 0, none⟩ i c (cs.take (i * 7)) (by rw [List.length_take]; omega) (fun j v hj => by
      rw [Addr.add_lit]
      rw [List.getElem?_take] at hj
      split at hj
      · rw [Nat.zero_add]; exact hcs j v hj
      · cases hj)
  have hrz : ∀ ty, (Builtin.append_ #[22, 3] ty #[.slice (some ⟨b, 0, none⟩) i c, .int .i64 ((n : Int) + 1 - (i : Int))]).run Tryz.prog w =
      .ok (.slice (some ⟨w.heap.size, 0, none⟩) (n + 1) (grownCap w (n + 1) c 41)) (w.drew.alloc (.cells ((cs.take (i * 7)).toArray ++ Builtin.zeroCells zcpyV.cells (n + 1 - i) ++ Builtin.zeroCells zcpyV.cells (grownCap w (n + 1) c 41 - (n + 1))) 41)) := fun ty => by
    have h := Lib.run_append_grow_zeros w 22 3 ty 41 i0 _ .i64 .i64 et_cpyI.ht htI hi0 hz0 (some ⟨b, 0, none⟩) i c (cs.take (i * 7)) hold (n + 1 - i) (by omega) (by omega) (by omega) (by omega) (by rw [hzb]; omega) (by rw [hzb, hik]; exact growslice_fits hroom hbig)
    rw [hik] at h
    rw [hkk]
    exact h
  obtain ⟨G, hG⟩ : ∃ G, G = grownCap w (n + 1) c 41 := ⟨_, rfl⟩
  obtain ⟨ROW, hROW⟩ : ∃ ROW : Array Value, ROW = (cs.take (i * 7)).toArray ++ Builtin.zeroCells zcpyV.cells (n + 1 - i) ++ Builtin.zeroCells zcpyV.cells (G - (n + 1)) := ⟨_, rfl⟩
  rw [← hG] at hrz ⊢
  rw [← hROW] at hrz ⊢
  have hRl : (n + 1) * 7 ≤ ROW.size := by
    rw [hROW]
    simp only [Array.size_append, zeros7, List.size_toArray, List.length_take]
    omega
  obtain ⟨W1, hW1⟩ : ∃ W1, W1 = w.drew.alloc (.cells ROW 41) := ⟨_, rfl⟩
  rw [← hW1] at hrz
  have hN : ∀ j, j < (n + 1) * 7 → (W1.cell? ⟨w.heap.size, j, none⟩).isSome = true := fun j hj => by
    rw [hW1, World.cell?_alloc_at (w := w.drew) ROW _ w.heap.size j rfl, Array.getElem?_eq_getElem (by omega)]; rfl
  have hNf : ∀ j, W1.frozen? ⟨w.heap.size, j, none⟩ = false := fun j => by rw [hW1]; exact World.frozen?_alloc_at (w := w.drew) ROW _ w.heap.size j rfl
  have hOb : ∀ j v, w.cell? ⟨b, j, none⟩ = some v → W1.cell? ⟨b, j, none⟩ = some v := fun j v h => by rw [hW1, World.cell?_alloc_past (w := w.drew) _ b j hbw]; exact h
  have hOv : ∀ j v, w.cell? ⟨vb, j, none⟩ = some v → W1.cell? ⟨vb, j, none⟩ = some v := fun j v h => by rw [hW1, World.cell?_alloc_past (w := w.drew) _ vb j hvw]; exact h
  have hcpA : ∀ (W : World), (∀ x, W.cell? x = W1.cell? x) → (∀ x, W.frozen? x = W1.frozen? x) → ∀ ty dc, (Builtin.copy_ #[22, 22] ty #[.slice (some ⟨w.heap.size, i * 7, none⟩) (n + 1 - i) dc, .slice (some ⟨vb, 0, none⟩) 1 vc]).run Tryz.prog W = .ok (goInt (Nat.min 1 (n + 1 - i))) (W.setCells w.heap.size (i * 7) vs) := fun W hWc hWf ty dc =>
    run_copy_sz W _ _ ty 41 7 w.heap.size (i * 7) (n + 1 - i) dc ⟨vb, 0, none⟩ 1 vc vs et_cpyI.ht hsz (by rw [hvl]; simp only [Nat.min_def]; split <;> omega)
      (fun j v hj => by rw [Addr.add_lit, hWc, Nat.zero_add]; exact hOv _ v (hvs j v hj))
      (fun j hj => by rw [hWc]; exact hN _ (by omega)) (fun j hj => by rw [hWf]; exact hNf _) h1v
  have hGn : n + 1 ≤ G := by rw [hG]; exact grownCap_ge w _ _ _
  have hG63 : G ≤ 9223372036854775807 := by
    have := grownCap_le_maxLen w (n + 1) c 41 (by unfold maxLen; omega)
    rw [← hG] at this
    unfold maxLen at this
    omega
  have hGi : ¬ (G = i) := by omega
  have hGim : ¬ (G = i + 1) := by omega
  have hci : ¬ (c = i) := by omega
  have hbN : b ≠ w.heap.size := by omega
  have hdl : (cs.drop (i * 7)).length = (n - i) * 7 := by rw [List.length_drop, hcl]; omega
  have hcpB : ∀ (W : World), (∀ x, W.cell? x = (W1.setCells w.heap.size (i * 7) vs).cell? x) → (∀ x, W.frozen? x = (W1.setCells w.heap.size (i * 7) vs).frozen? x) → ∀ ty dc sc, (Builtin.copy_ #[22, 22] ty #[.slice (some ⟨w.heap.size, (i + 1) * 7, none⟩) (n - i) dc, .slice (some ⟨b, i * 7, none⟩) (n - i) sc]).run Tryz.prog W = .ok (goInt (Nat.min (n - i) (n - i))) (W.setCells w.heap.size ((i + 1) * 7) (cs.drop (i * 7))) := fun W hWc hWf ty dc sc =>
    run_copy_sz W _ _ ty 41 7 w.heap.size ((i + 1) * 7) (n - i) dc ⟨b, i * 7, none⟩ (n - i) sc (cs.drop (i * 7)) et_cpyI.ht hsz (by rw [hdl]; simp only [Nat.min_def]; split <;> omega)
      (fun j v hj => by
        rw [Addr.add_lit, hWc, World.cell?_setCells_out _ _ _ _ _ (fun h _ => absurd h hbN)]
        exact hOb _ v (hcs (i * 7 + j) v (by rwa [List.getElem?_drop] at hj)))
      (fun j hj => by rw [hWc]; exact isSome_setCells w.heap.size vs (i * 7) W1 (fun t ht => hN _ (by omega)) _ (hN _ (by omega)))
      (fun j hj => by rw [hWf, World.frozen?_setCells]; exact hNf _) (fun v hv => h1c v (List.mem_of_mem_drop hv))
  subst hW1
  have hE1 : ∀ x, ((w.alloc (.cells ROW 41)).drew).cell? x = (w.drew.alloc (.cells ROW 41)).cell? x := fun x => rfl
  have hE2 : ∀ x, ((w.alloc (.cells ROW 41)).drew).frozen? x = (w.drew.alloc (.cells ROW 41)).frozen? x := fun x => rfl
  have hF1 : ∀ x, (((w.alloc (.cells ROW 41)).drew.setCells w.heap.size (i * 7) vs).drew).cell? x = ((w.drew.alloc (.cells ROW 41)).setCells w.heap.size (i * 7) vs).cell? x := fun x => rfl
  have hF2 : ∀ x, (((w.alloc (.cells ROW 41)).drew.setCells w.heap.size (i * 7) vs).drew).frozen? x = ((w.drew.alloc (.cells ROW 41)).setCells w.heap.size (i * 7) vs).frozen? x := fun x => rfl
  have hw1 : IntKind.i64.wrap ((i : Int) + 1) = (i : Int) + 1 := by rw [IntKind.wrap_i64]; omega
  have hb1 : (0 : Int) ≤ (i : Int) + 1 := by omega
  have hin : i ≤ n := by omega
  have htn : ((i : Int) + 1).toNat = i + 1 := by omega
  have hb3 : (i : Int) ≤ (n : Int) := by omega
  clear hkk hik hold hROW hG hRl
  go_enter Tryz.func108, Tryz.ntmps108
  go_wp2_with (first
    | (at_builtin; refine Lib.wpList_append_run _ rfl _ _ _ _ rfl _ _ rfl rfl _ _ (hrz _) ?_)
    | (at_builtin; refine wpList_copy_runI _ rfl _ _ 22 22 rfl _ _ rfl rfl (hcpA _ hE1 hE2 _ _) ?_)
    | (at_builtin; refine wpList_copy_runI _ rfl _ _ 22 22 rfl _ _ rfl rfl (hcpB _ (fun _ => rfl) (fun _ => rfl) _ _ _) ?_))
  go_region_law (refine step_copy_runI rfl _ _ 22 22 rfl (.slice (some ⟨w.heap.size, (i + 1) * 7, none⟩) (n - i) (G - (i + 1))) (.slice (some ⟨b, i * 7, none⟩) (n - i) (c - i)) (by simp [Act.eval, Act.put]) (by simp [Act.eval, Act.put]) (hcpB _ hF1 hF2 3 (G - (i + 1)) (c - i)) ?_)
  go_wp2
  go_ret
  exact ⟨rfl, rfl⟩

theorem own_allocC {w : World} {B n cap : Nat} {ys : List Value} {A : Array Value} (hB : B ≤ w.heap.size) (hn : ys.length = n * 7) (hc : n ≤ cap) (hm : cap ≤ maxLen) (hA : A.size = cap * 7) (hy : A.toList.take (n * 7) = ys) {w' : World} (hw : w'.heap[w.heap.size]? = some (.cells A 41 (0, 0))) :
    w'.ownsRow B 41 7 (.slice (some ⟨w.heap.size, 0, none⟩) n cap) n ys :=
  ⟨hn, .inr ⟨w.heap.size, cap, A, rfl, hB, hw, hc, hm, hA, hy⟩⟩
set_option maxHeartbeats 1000000 in
theorem insC_calls {B : Nat} {w : World} {v : Value} {n i vb vcap : Nat} {xs y : List Value} {ecur : Array Value} {ety : TypeId} (hown : w.ownsRow B 41 7 v n xs) (hxs : ∀ u ∈ xs, u.oneCell' = true) (hi : i ≤ n) (hB : B ≤ w.heap.size) (hb : (n + 1) * 88 ≤ 140737488355328)
    (hvb : w.heap[vb]? = some (.cells ecur ety (0, 0))) (hvc : 1 ≤ vcap ∧ vcap ≤ 9223372036854775807) (hyl : y.length = 7) (hye : ecur.toList.take 7 = y) (hy1 : ∀ u ∈ y, u.oneCell' = true) (hne : blk v ≠ some vb) :
    Calls Tryz.prog 108 #[v, .int .i64 i, .slice (some ⟨vb, 0, none⟩) 1 vcap] w fun e w' => ∃ v', e = .returned v' ∧ InsEndG 41 7 B w v (n + 1) (xs.take (i * 7) ++ y ++ xs.drop (i * 7)) v' w' := by
  have hxl : xs.length = n * 7 := hown.1
  have hG : n + 1 ≤ maxLen := by unfold maxLen; omega
  have hvs : ∀ j u, y[j]? = some u → w.cell? ⟨vb, j, none⟩ = some u := fun j u hj => by
    rw [cell_of_row w vb j ecur ety (0, 0) hvb, ← Array.getElem?_toList]
    rw [← hye, List.getElem?_take] at hj
    split at hj
    · exact hj
    · cases hj
  have hsl : Sl w 7 (.slice (some ⟨vb, 0, none⟩) 1 vcap) 1 y := ⟨by rw [hyl], .inr ⟨⟨vb, 0, none⟩, vcap, rfl, hvc.1, hvc.2, fun q hq => by
    rw [addr_add, Nat.zero_add]
    exact hvs q _ (List.getElem?_eq_getElem hq)⟩⟩
  by_cases hend : i = n
  · subst hend
    rw [List.take_of_length_le (by omega), List.drop_eq_nil_of_le (by omega), List.append_nil]
    exact insC_end hown hB hb hsl hy1
  have hlt : i < n := by omega
  rcases hown.2 with ⟨rfl, h0⟩ | ⟨g, cap, cur, rfl, hg, hh, hn, hmx, hcs, htk⟩
  · omega
  have hlen : (xs.take (i * 7) ++ y ++ xs.drop (i * 7)).length = (n + 1) * 7 := by simp; omega
  have hcl : cur.toList.length = cap * 7 := by rw [Array.length_toList, hcs]
  have hget : ∀ k, k < n * 7 → cur.toList[k]? = xs[k]? := fun k hk => by rw [← htk, List.getElem?_take, if_pos hk]
  have hcell : ∀ k, w.cell? ⟨g, k, none⟩ = cur[k]? := fun k => by rw [cell_of_row w g k cur 41 (0, 0) hh]
  have hcells : ∀ j u, xs[j]? = some u → w.cell? ⟨g, j, none⟩ = some u := fun j u hj => by
    have hjl := (List.getElem?_eq_some_iff.1 hj).1
    rw [hcell, ← hj, ← hget j (by omega), Array.getElem?_toList]
  have hsome : ∀ j, j < cap * 7 → (w.cell? ⟨g, j, none⟩).isSome = true := fun j hj => by
    rw [hcell, Array.getElem?_eq_getElem (by omega)]; rfl
  have hfz : ∀ k, w.frozen? ⟨g, k, none⟩ = false := fun k => by unfold World.frozen?; rw [hh]; simp
  have hfv : ∀ k, w.frozen? ⟨vb, k, none⟩ = false := fun k => by unfold World.frozen?; rw [hvb]; simp
  have hmx' : cap ≤ 9223372036854775807 := by unfold maxLen at hmx; omega
  by_cases hroom : n + 1 ≤ cap
  · refine (insC_shift g n cap i vb vcap xs y w hlt hroom hmx' (fun h => hne (by rw [h]; rfl)) hxl hyl hcells (fun j hj => hsome _ (by omega)) hfz hvs hxs hy1 ety 41 ecur.size cur.size (by unfold World.shape?; rw [hvb]) (by unfold World.shape?; rw [hh]) (by omega) (hfv _) (hfv _)).mono ?_
    rintro e w' ⟨rfl, rfl⟩
    have hs1 := setCells_heap (g := g) (e := 41) (xs.drop (i * 7)) ((i + 1) * 7) w.drew cur.toList (by rw [Array.toArray_toList]; exact hh) (by simp; omega)
    have hs := setCells_heap (g := g) (e := 41) y (i * 7) _ _ hs1 (by simp; omega)
    refine ⟨_, rfl, ⟨hlen, .inr ⟨g, cap, _, rfl, hg, hs, hroom, hmx, ?_, ?_⟩⟩, ((drew_turn w _).trans (setCells_turn g _ _ _)).trans (setCells_turn g _ _ _), fun g' hg' => .inl hg'⟩
    · simp; omega
    · rw [show (n + 1) * 7 = n * 7 + 7 by omega]
      refine ins_takeS hxl (by omega) hyl (fun k hk => ?_) (fun k hk => ?_) (fun k h1 h2 => ?_)
      · rw [get3]
        simp only [List.length_take, List.length_append, List.length_drop, hcl, hxl]
        rw [if_pos (by omega), List.getElem?_take, if_pos hk, get3]
        simp only [List.length_take, hcl]
        rw [if_pos (by omega), List.getElem?_take, if_pos (by omega), hget k (by omega)]
      · rw [get3]
        simp only [List.length_take, List.length_append, List.length_drop, hcl, hxl]
        rw [if_neg (by omega), if_pos (by omega)]
        congr 1
        omega
      · rw [get3]
        simp only [List.length_take, List.length_append, List.length_drop, hcl, hxl, hyl]
        rw [if_neg (by omega), if_neg (by omega), List.getElem?_drop, get3]
        simp only [List.length_take, List.length_drop, hcl, hxl]
        rw [if_neg (by omega), if_pos (by omega), List.getElem?_drop]
        congr 1
        omega
  · refine (insC_grow g n cap i vb vcap xs y w hlt hn (by omega) hb hxl hyl hcells hvs hxs hy1).mono ?_
    rintro e w' ⟨rfl, rfl⟩
    have hge := grownCap_ge w (n + 1) cap 41
    have hle := grownCap_le_maxLen w (n + 1) cap 41 hG
    generalize grownCap w (n + 1) cap 41 = G at hge hle
    have h0 := alloc_at w (.cells ((xs.take (i * 7)).toArray ++ Builtin.zeroCells zcpyV.cells (n + 1 - i) ++ Builtin.zeroCells zcpyV.cells (G - (n + 1))) 41 (0, 0))
    generalize hA : (xs.take (i * 7)).toArray ++ Builtin.zeroCells zcpyV.cells (n + 1 - i) ++ Builtin.zeroCells zcpyV.cells (G - (n + 1)) = A at h0
    have hAs : A.size = G * 7 := by rw [← hA]; simp only [Array.size_append, zeros7, List.size_toArray, List.length_take]; omega
    have hAg : ∀ k, k < i * 7 → A.toList[k]? = xs[k]? := fun k hk => by
      rw [← hA]
      simp only [Array.toList_append]
      rw [List.append_assoc, List.getElem?_append_left (by simp; omega)]
      simp only [List.getElem?_take]
      rw [if_pos hk]
    have hs1 := setCells_heap (g := w.heap.size) (e := 41) y (i * 7) (w.alloc (.cells A 41 (0, 0))).drew A.toList (by rw [Array.toArray_toList]; exact h0) (by simp; omega)
    have hs := setCells_heap (g := w.heap.size) (e := 41) (xs.drop (i * 7)) ((i + 1) * 7) (((w.alloc (.cells A 41 (0, 0))).drew.setCells w.heap.size (i * 7) y).drew) (A.toList.take (i * 7) ++ y ++ A.toList.drop (i * 7 + y.length)) hs1 (by simp; omega)
    refine ⟨_, rfl, own_allocC hB hlen hge hle ?_ ?_ hs, ?_, fun g' hg' => .inr ?_⟩
    · simp; omega
    · rw [show (n + 1) * 7 = n * 7 + 7 by omega]
      refine ins_takeS hxl (by omega) hyl (fun k hk => ?_) (fun k hk => ?_) (fun k h1 h2 => ?_)
      · rw [get3]
        simp only [List.length_take, List.length_append, List.length_drop, Array.length_toList, hAs, hxl, hyl]
        rw [if_pos (by omega), List.getElem?_take, if_pos (by omega), get3]
        simp only [List.length_take, Array.length_toList, hAs]
        rw [if_pos (by omega), List.getElem?_take, if_pos hk, hAg k hk]
      · rw [get3]
        simp only [List.length_take, List.length_append, List.length_drop, Array.length_toList, hAs, hxl, hyl]
        rw [if_pos (by omega), List.getElem?_take, if_pos (by omega), get3]
        simp only [List.length_take, Array.length_toList, hAs]
        rw [if_neg (by omega), if_pos (by omega)]
        congr 1
        omega
      · rw [get3]
        simp only [List.length_take, List.length_append, List.length_drop, Array.length_toList, hAs, hxl, hyl]
        rw [if_neg (by omega), if_pos (by omega), List.getElem?_drop]
        congr 1
        omega
    · have k1 := Turn.behind (alloc_turn w (.cells A 41 (0, 0)) (some g)) (Nat.le_refl _) ((drew_turn _ _).trans (setCells_turn w.heap.size y (i * 7) _))
      exact Turn.behind k1 (Nat.le_refl _) ((drew_turn _ _).trans (setCells_turn w.heap.size (xs.drop (i * 7)) ((i + 1) * 7) _))
    · simp [blk] at hg'; omega
theorem insT : InsT Tryz.prog 108 41 7 88 := ⟨Enters.of Tryz.func108 rfl rfl, fun h1 h2 h3 h4 h5 h6 h7 h8 h9 h10 h11 => insC_calls h1 h2 h3 h4 h5 h6 h7 h8 h9 h10 h11⟩
end InsT
namespace InsM
theorem et_cpyI : ElemTy Tryz.prog 23 85 2 16 (.agg #[(.int .i64 0), (.int .i64 0)]) := ⟨by kernel_rfl, by kernel_rfl, by kernel_rfl, by decide⟩

set_option maxHeartbeats 4000000 in
set_option maxRecDepth 100000 in
/-- At the end. -/
theorem insC_end {B : Nat} {w : World} {v : Value} {n vb vcap : Nat} {xs y : List Value} (hown : w.ownsRow B 85 2 v n xs) (hB : B ≤ w.heap.size) (hb : (n + 1) * 16 ≤ 140737488355328) (hsl : Sl w 2 (.slice (some ⟨vb, 0, none⟩) 1 vcap) 1 y) (hy1 : ∀ u ∈ y, u.oneCell' = true) :
    Calls Tryz.prog 104 #[v, .int .i64 n, .slice (some ⟨vb, 0, none⟩) 1 vcap] w fun e w' => ∃ v', e = .returned v' ∧ InsEndG 85 2 B w v (n + 1) (xs ++ y) v' w' := by
  have HO := Lib.hid hown
  have HS := Lib.hid hsl
  clear hsl
  rcases hown.2 with ⟨rfl, rfl⟩ | ⟨g, cap, cur, rfl, hg, hh, hn, hmx, hcs, htk⟩
  · clear hown
    go_enter Tryz.func104, Tryz.ntmps104
    go_wp2_with (at_builtin; refine wpList_cat2 et_cpyI _ _ rfl rfl HO.out rfl rfl HS.out hy1 hb (by omega) hB ?_; intro v' w' h1 h2 h3)
    all_goals (go_ret; exact ⟨_, rfl, insEnd_cat HO.out h1 h2 h3⟩)
  · clear hown hh hcs htk
    have hn9 : n ≤ 9223372036854775807 := by omega
    unfold maxLen at hmx
    by_cases hcn : cap = n
    · subst hcn
      go_enter Tryz.func104, Tryz.ntmps104
      go_wp2_with (at_builtin; refine wpList_cat2 et_cpyI _ _ rfl rfl HO.out rfl rfl HS.out hy1 hb (by omega) hB ?_; intro v' w' h1 h2 h3)
      all_goals (go_ret; exact ⟨_, rfl, insEnd_cat HO.out h1 h2 h3⟩)
    · skip
      go_enter Tryz.func104, Tryz.ntmps104
      go_wp2_with (at_builtin; refine wpList_cat2 et_cpyI _ _ rfl rfl HO.out rfl rfl HS.out hy1 hb (by omega) hB ?_; intro v' w' h1 h2 h3)
      all_goals (go_ret; exact ⟨_, rfl, insEnd_cat HO.out h1 h2 h3⟩)

set_option maxHeartbeats 4000000 in
set_option maxRecDepth 100000 in
/-- Before an element, there is room: in place. -/
theorem insC_shift (b n c i vb vc : Nat) (cs vs : List Value) (w : World) (hi : i < n) (hroom : n + 1 ≤ c) (hc63 : c ≤ 9223372036854775807) (hvb : vb ≠ b) (hcl : cs.length = n * 2) (hvl : vs.length = 2)
    (hcs : ∀ j v, cs[j]? = some v → w.cell? ⟨b, j, none⟩ = some v) (hsp : ∀ j, j < (n + 1) * 2 → (w.cell? ⟨b, j, none⟩).isSome = true) (hfz : ∀ j, w.frozen? ⟨b, j, none⟩ = false)
    (hvs : ∀ j v, vs[j]? = some v → w.cell? ⟨vb, j, none⟩ = some v) (h1c : ∀ v ∈ cs, v.oneCell' = true) (h1v : ∀ v ∈ vs, v.oneCell' = true)
    (tA tB : TypeId) (kA kB : Nat) (hsa : w.shape? vb = some (tA, kA)) (hsb : w.shape? b = some (tB, kB)) (hkB : kB ≠ 0) (hfa : w.frozen? ⟨vb, 0, none⟩ = false) (hfe : w.frozen? ⟨vb, kA, none⟩ = false) :
    Calls Tryz.prog 104 #[.slice (some ⟨b, 0, none⟩) n c, .int .i64 i, .slice (some ⟨vb, 0, none⟩) 1 vc] w fun e w' =>
      e = .returned (.slice (some ⟨b, 0, none⟩) (n + 1) c) ∧ w' = (w.drew.setCells b ((i + 1) * 2) (cs.drop (i * 2))).setCells b (i * 2) vs := by
  have hsz : (Tryz.prog.info? 85).map (·.size) = some 2 := by
    obtain ⟨i0, hi0, h0, h1, h2⟩ := info_parts et_cpyI.hi
    rw [hi0]; simp [h1]
  have hov : ∀ lb cb, (callFunc 139 #[.slice (some ⟨vb, 0, none⟩) 1 vc, .slice (some ⟨b, (i + 1) * 2, none⟩) lb cb]).run Tryz.prog w = .ok (.value (.bool false)) w := fun lb cb => by
    rw [run_callFunc_extern Tryz.func139 (by kernel_rfl) (by kernel_rfl) (by kernel_rfl) (e := Extern.SlicesOverlaps.overlaps #[23, 23] #[4]) (by kernel_rfl),
      Lib.run_overlaps_apart w 23 4 85 et_cpyI.ht 2 et_cpyI.sizeOf ⟨vb, 0, none⟩ ⟨b, (i + 1) * 2, none⟩ 1 vc lb cb hvb tA tB kA kB hsa hsb hkB hfa hfe]
    rfl
  have hdl : (cs.drop (i * 2)).length = (n - i) * 2 := by rw [List.length_drop, hcl]; omega
  have hw1 : IntKind.i64.wrap ((i : Int) + 1) = (i : Int) + 1 := by rw [IntKind.wrap_i64]; omega
  have hw2 : IntKind.i64.wrap ((n : Int) + 1) = (n : Int) + 1 := by rw [IntKind.wrap_i64]; omega
  have hz2 : ¬ ((i : Int) = (n : Int)) := by omega
  have hb1 : (0 : Int) ≤ (i : Int) + 1 := by omega
  have hin : i ≤ n := by omega
  have htn : ((i : Int) + 1).toNat = i + 1 := by omega
  have hb2 : ¬ (c = i + 1) := by omega
  have hb3 : (i : Int) ≤ (n : Int) + 1 := by omega
  have hb4 : ¬ (c = i) := by omega
  have hcp1 : ∀ ty dc sc, (Builtin.copy_ #[23, 23] ty #[.slice (some ⟨b, (i + 1) * 2, none⟩) (n - i) dc, .slice (some ⟨b, i * 2, none⟩) (n + 1 - i) sc]).run Tryz.prog w.drew = .ok (goInt (Nat.min (n + 1 - i) (n - i))) (w.drew.setCells b ((i + 1) * 2) (cs.drop (i * 2))) := fun ty dc sc =>
    run_copy_sz w.drew _ _ ty 85 2 b ((i + 1) * 2) (n - i) dc ⟨b, i * 2, none⟩ (n + 1 - i) sc (cs.drop (i * 2)) et_cpyI.ht hsz (by rw [hdl]; simp only [Nat.min_def]; split <;> omega)
      (fun j v hj => by rw [Addr.add_lit]; exact hcs (i * 2 + j) v (by rwa [List.getElem?_drop] at hj))
      (fun j hj => hsp _ (by omega)) (fun j hj => hfz _) (fun v hv => h1c v (List.mem_of_mem_drop hv))
  obtain ⟨W1, hW1⟩ : ∃ W1, W1 = w.drew.setCells b ((i + 1) * 2) (cs.drop (i * 2)) := ⟨_, rfl⟩
  have hsp1 : ∀ k, k < (n + 1) * 2 → (W1.cell? ⟨b, k, none⟩).isSome = true := fun k hk => by
    rw [hW1]
    exact isSome_setCells b (cs.drop (i * 2)) ((i + 1) * 2) w.drew (fun j hj => hsp ((i + 1) * 2 + j) (by omega)) k (hsp k hk)
  have hcp2 : ∀ (W : World), (∀ x, W.cell? x = W1.cell? x) → (∀ x, W.frozen? x = W1.frozen? x) → ∀ ty dc, (Builtin.copy_ #[23, 23] ty #[.slice (some ⟨b, i * 2, none⟩) (n + 1 - i) dc, .slice (some ⟨vb, 0, none⟩) 1 vc]).run Tryz.prog W = .ok (goInt (Nat.min 1 (n + 1 - i))) (W.setCells b (i * 2) vs) := fun W hWc hWf ty dc =>
    run_copy_sz W _ _ ty 85 2 b (i * 2) (n + 1 - i) dc ⟨vb, 0, none⟩ 1 vc vs et_cpyI.ht hsz (by rw [hvl]; simp only [Nat.min_def]; split <;> omega)
      (fun j v hj => by
        rw [Addr.add_lit, hWc, hW1, World.cell?_setCells_out b _ _ _ _ (fun h _ => absurd h hvb), Nat.zero_add]
        exact hvs j v hj)
      (fun j hj => by rw [hWc]; exact hsp1 _ (by omega)) (fun j hj => by rw [hWf, hW1, World.frozen?_setCells]; exact hfz _) h1v
  rw [← hW1] at hcp1
  go_enter Tryz.func104, Tryz.ntmps104
  go_wp2_with (simp only [hov])
  go_region_law (refine step_copy_runI rfl _ _ 23 23 rfl _ _ (by simp [Act.eval, Act.put]) (by simp [Act.eval, Act.put]) (hcp1 _ _ _) ?_)
  go_wp2_with (at_builtin; refine wpList_copy_runI _ rfl _ _ 23 23 rfl _ _ rfl rfl (hcp2 _ (fun _ => rfl) (fun _ => rfl) _ _) ?_)
  go_ret
  first | exact ⟨rfl, rfl⟩ | exact ⟨rfl, by rw [hW1]⟩

def zcpyV : Value := (Value.agg #[(.int .i64 0), (.int .i64 0)])
theorem zeros7 (k : Nat) : (Builtin.zeroCells zcpyV.cells k).size = k * 2 := by simp [Builtin.zeroCells, Value.cells, zcpyV]
set_option maxHeartbeats 4000000 in
set_option maxRecDepth 100000 in
/-- Before an element, there is no room: a new row. -/
theorem insC_grow (b n c i vb vc : Nat) (cs vs : List Value) (w : World) (hi : i < n) (hnc : n ≤ c) (hroom : c < n + 1) (hbig : (n + 1) * 16 ≤ 140737488355328) (hcl : cs.length = n * 2) (hvl : vs.length = 2)
    (hcs : ∀ j v, cs[j]? = some v → w.cell? ⟨b, j, none⟩ = some v)
    (hvs : ∀ j v, vs[j]? = some v → w.cell? ⟨vb, j, none⟩ = some v) (h1c : ∀ v ∈ cs, v.oneCell' = true) (h1v : ∀ v ∈ vs, v.oneCell' = true) :
    Calls Tryz.prog 104 #[.slice (some ⟨b, 0, none⟩) n c, .int .i64 i, .slice (some ⟨vb, 0, none⟩) 1 vc] w fun e w' =>
      e = .returned (.slice (some ⟨w.heap.size, 0, none⟩) (n + 1) (grownCap w (n + 1) c 85)) ∧
      w' = (((w.alloc (.cells ((cs.take (i * 2)).toArray ++ Builtin.zeroCells zcpyV.cells (n + 1 - i) ++ Builtin.zeroCells zcpyV.cells (grownCap w (n + 1) c 85 - (n + 1))) 85)).drew.setCells w.heap.size (i * 2) vs).drew).setCells w.heap.size ((i + 1) * 2) (cs.drop (i * 2)) := by
  obtain ⟨i0, hi0, hz0, hzs, hzb⟩ := info_parts et_cpyI.hi
  have hz0 : i0.zero = some zcpyV := hz0
  have htI : Tryz.prog.underlying 3 = some (.int .i64) := by kernel_rfl
  have hz2 : ¬ ((i : Int) = (n : Int)) := by omega
  have hz3 : (c : Int) < (n : Int) + 1 := by omega
  have hsz : (Tryz.prog.info? 85).map (·.size) = some 2 := by rw [hi0]; simp [hzs]
  have hbw : b < w.heap.size := block_lt_of_cell (hcs 0 _ (List.getElem?_eq_getElem (by omega)))
  have hvw : vb < w.heap.size := block_lt_of_cell (hvs 0 _ (List.getElem?_eq_getElem (by omega)))
  have hkk : (n : Int) + 1 - (i : Int) = ((n + 1 - i : Nat) : Int) := by omega
  have hik : i + (n + 1 - i) = n + 1 := by omega
  have hold : (Builtin.firstCells i0.size i (.slice (some ⟨b, 0, none⟩) i c)).run Tryz.prog w.drew = .ok (cs.take (i * 2)).toArray w.drew := by
    rw [hzs]
    exact run_firstCells_some w.drew 2 i ⟨b, 0, none⟩ i c (cs.take (i * 2)) (by rw [List.length_take]; omega) (fun j v hj => by
      rw [Addr.add_lit]
      rw [List.getElem?_take] at hj
      split at hj
      · rw [Nat.zero_add]; exact hcs j v hj
      · cases hj)
  have hrz : ∀ ty, (Builtin.append_ #[23, 3] ty #[.slice (some ⟨b, 0, none⟩) i c, .int .i64 ((n : Int) + 1 - (i : Int))]).run Tryz.prog w =
      .ok (.slice (some ⟨w.heap.size, 0, none⟩) (n + 1) (grownCap w (n + 1) c 85)) (w.drew.alloc (.cells ((cs.take (i * 2)).toArray ++ Builtin.zeroCells zcpyV.cells (n + 1 - i) ++ Builtin.zeroCells zcpyV.cells (grownCap w (n + 1) c 85 - (n + 1))) 85)) := fun ty => by
    have h := Lib.run_append_grow_zeros w 23 3 ty 85 i0 _ .i64 .i64 et_cpyI.ht htI hi0 hz0 (some ⟨b, 0, none⟩) i c (cs.take (i * 2)) hold (n + 1 - i) (by omega) (by omega) (by omega) (by omega) (by rw [hzb]; omega) (by rw [hzb, hik]; exact growslice_fits hroom hbig)
    rw [hik] at h
    rw [hkk]
    exact h
  obtain ⟨G, hG⟩ : ∃ G, G = grownCap w (n + 1) c 85 := ⟨_, rfl⟩
  obtain ⟨ROW, hROW⟩ : ∃ ROW : Array Value, ROW = (cs.take (i * 2)).toArray ++ Builtin.zeroCells zcpyV.cells (n + 1 - i) ++ Builtin.zeroCells zcpyV.cells (G - (n + 1)) := ⟨_, rfl⟩
  rw [← hG] at hrz ⊢
  rw [← hROW] at hrz ⊢
  have hRl : (n + 1) * 2 ≤ ROW.size := by
    rw [hROW]
    simp only [Array.size_append, zeros7, List.size_toArray, List.length_take]
    omega
  obtain ⟨W1, hW1⟩ : ∃ W1, W1 = w.drew.alloc (.cells ROW 85) := ⟨_, rfl⟩
  rw [← hW1] at hrz
  have hN : ∀ j, j < (n + 1) * 2 → (W1.cell? ⟨w.heap.size, j, none⟩).isSome = true := fun j hj => by
    rw [hW1, World.cell?_alloc_at (w := w.drew) ROW _ w.heap.size j rfl, Array.getElem?_eq_getElem (by omega)]; rfl
  have hNf : ∀ j, W1.frozen? ⟨w.heap.size, j, none⟩ = false := fun j => by rw [hW1]; exact World.frozen?_alloc_at (w := w.drew) ROW _ w.heap.size j rfl
  have hOb : ∀ j v, w.cell? ⟨b, j, none⟩ = some v → W1.cell? ⟨b, j, none⟩ = some v := fun j v h => by rw [hW1, World.cell?_alloc_past (w := w.drew) _ b j hbw]; exact h
  have hOv : ∀ j v, w.cell? ⟨vb, j, none⟩ = some v → W1.cell? ⟨vb, j, none⟩ = some v := fun j v h => by rw [hW1, World.cell?_alloc_past (w := w.drew) _ vb j hvw]; exact h
  have hcpA : ∀ (W : World), (∀ x, W.cell? x = W1.cell? x) → (∀ x, W.frozen? x = W1.frozen? x) → ∀ ty dc, (Builtin.copy_ #[23, 23] ty #[.slice (some ⟨w.heap.size, i * 2, none⟩) (n + 1 - i) dc, .slice (some ⟨vb, 0, none⟩) 1 vc]).run Tryz.prog W = .ok (goInt (Nat.min 1 (n + 1 - i))) (W.setCells w.heap.size (i * 2) vs) := fun W hWc hWf ty dc =>
    run_copy_sz W _ _ ty 85 2 w.heap.size (i * 2) (n + 1 - i) dc ⟨vb, 0, none⟩ 1 vc vs et_cpyI.ht hsz (by rw [hvl]; simp only [Nat.min_def]; split <;> omega)
      (fun j v hj => by rw [Addr.add_lit, hWc, Nat.zero_add]; exact hOv _ v (hvs j v hj))
      (fun j hj => by rw [hWc]; exact hN _ (by omega)) (fun j hj => by rw [hWf]; exact hNf _) h1v
  have hGn : n + 1 ≤ G := by rw [hG]; exact grownCap_ge w _ _ _
  have hG63 : G ≤ 9223372036854775807 := by
    have := grownCap_le_maxLen w (n + 1) c 85 (by unfold maxLen; omega)
    rw [← hG] at this
    unfold maxLen at this
    omega
  have hGi : ¬ (G = i) := by omega
  have hGim : ¬ (G = i + 1) := by omega
  have hci : ¬ (c = i) := by omega
  have hbN : b ≠ w.heap.size := by omega
  have hdl : (cs.drop (i * 2)).length = (n - i) * 2 := by rw [List.length_drop, hcl]; omega
  have hcpB : ∀ (W : World), (∀ x, W.cell? x = (W1.setCells w.heap.size (i * 2) vs).cell? x) → (∀ x, W.frozen? x = (W1.setCells w.heap.size (i * 2) vs).frozen? x) → ∀ ty dc sc, (Builtin.copy_ #[23, 23] ty #[.slice (some ⟨w.heap.size, (i + 1) * 2, none⟩) (n - i) dc, .slice (some ⟨b, i * 2, none⟩) (n - i) sc]).run Tryz.prog W = .ok (goInt (Nat.min (n - i) (n - i))) (W.setCells w.heap.size ((i + 1) * 2) (cs.drop (i * 2))) := fun W hWc hWf ty dc sc =>
    run_copy_sz W _ _ ty 85 2 w.heap.size ((i + 1) * 2) (n - i) dc ⟨b, i * 2, none⟩ (n - i) sc (cs.drop (i * 2)) et_cpyI.ht hsz (by rw [hdl]; simp only [Nat.min_def]; split <;> omega)
      (fun j v hj => by
        rw [Addr.add_lit, hWc, World.cell?_setCells_out _ _ _ _ _ (fun h _ => absurd h hbN)]
        exact hOb _ v (hcs (i * 2 + j) v (by rwa [List.getElem?_drop] at hj)))
      (fun j hj => by rw [hWc]; exact isSome_setCells w.heap.size vs (i * 2) W1 (fun t ht => hN _ (by omega)) _ (hN _ (by omega)))
      (fun j hj => by rw [hWf, World.frozen?_setCells]; exact hNf _) (fun v hv => h1c v (List.mem_of_mem_drop hv))
  subst hW1
  have hE1 : ∀ x, ((w.alloc (.cells ROW 85)).drew).cell? x = (w.drew.alloc (.cells ROW 85)).cell? x := fun x => rfl
  have hE2 : ∀ x, ((w.alloc (.cells ROW 85)).drew).frozen? x = (w.drew.alloc (.cells ROW 85)).frozen? x := fun x => rfl
  have hF1 : ∀ x, (((w.alloc (.cells ROW 85)).drew.setCells w.heap.size (i * 2) vs).drew).cell? x = ((w.drew.alloc (.cells ROW 85)).setCells w.heap.size (i * 2) vs).cell? x := fun x => rfl
  have hF2 : ∀ x, (((w.alloc (.cells ROW 85)).drew.setCells w.heap.size (i * 2) vs).drew).frozen? x = ((w.drew.alloc (.cells ROW 85)).setCells w.heap.size (i * 2) vs).frozen? x := fun x => rfl
  have hw1 : IntKind.i64.wrap ((i : Int) + 1) = (i : Int) + 1 := by rw [IntKind.wrap_i64]; omega
  have hb1 : (0 : Int) ≤ (i : Int) + 1 := by omega
  have hin : i ≤ n := by omega
  have htn : ((i : Int) + 1).toNat = i + 1 := by omega
  have hb3 : (i : Int) ≤ (n : Int) := by omega
  clear hkk hik hold hROW hG hRl
  go_enter Tryz.func104, Tryz.ntmps104
  go_wp2_with (first
    | (at_builtin; refine Lib.wpList_append_run _ rfl _ _ _ _ rfl _ _ rfl rfl _ _ (hrz _) ?_)
    | (at_builtin; refine wpList_copy_runI _ rfl _ _ 23 23 rfl _ _ rfl rfl (hcpA _ hE1 hE2 _ _) ?_)
    | (at_builtin; refine wpList_copy_runI _ rfl _ _ 23 23 rfl _ _ rfl rfl (hcpB _ (fun _ => rfl) (fun _ => rfl) _ _ _) ?_))
  go_region_law (refine step_copy_runI rfl _ _ 23 23 rfl (.slice (some ⟨w.heap.size, (i + 1) * 2, none⟩) (n - i) (G - (i + 1))) (.slice (some ⟨b, i * 2, none⟩) (n - i) (c - i)) (by simp [Act.eval, Act.put]) (by simp [Act.eval, Act.put]) (hcpB _ hF1 hF2 3 (G - (i + 1)) (c - i)) ?_)
  go_wp2
  go_ret
  exact ⟨rfl, rfl⟩

theorem own_allocC {w : World} {B n cap : Nat} {ys : List Value} {A : Array Value} (hB : B ≤ w.heap.size) (hn : ys.length = n * 2) (hc : n ≤ cap) (hm : cap ≤ maxLen) (hA : A.size = cap * 2) (hy : A.toList.take (n * 2) = ys) {w' : World} (hw : w'.heap[w.heap.size]? = some (.cells A 85 (0, 0))) :
    w'.ownsRow B 85 2 (.slice (some ⟨w.heap.size, 0, none⟩) n cap) n ys :=
  ⟨hn, .inr ⟨w.heap.size, cap, A, rfl, hB, hw, hc, hm, hA, hy⟩⟩
set_option maxHeartbeats 1000000 in
theorem insC_calls {B : Nat} {w : World} {v : Value} {n i vb vcap : Nat} {xs y : List Value} {ecur : Array Value} {ety : TypeId} (hown : w.ownsRow B 85 2 v n xs) (hxs : ∀ u ∈ xs, u.oneCell' = true) (hi : i ≤ n) (hB : B ≤ w.heap.size) (hb : (n + 1) * 16 ≤ 140737488355328)
    (hvb : w.heap[vb]? = some (.cells ecur ety (0, 0))) (hvc : 1 ≤ vcap ∧ vcap ≤ 9223372036854775807) (hyl : y.length = 2) (hye : ecur.toList.take 2 = y) (hy1 : ∀ u ∈ y, u.oneCell' = true) (hne : blk v ≠ some vb) :
    Calls Tryz.prog 104 #[v, .int .i64 i, .slice (some ⟨vb, 0, none⟩) 1 vcap] w fun e w' => ∃ v', e = .returned v' ∧ InsEndG 85 2 B w v (n + 1) (xs.take (i * 2) ++ y ++ xs.drop (i * 2)) v' w' := by
  have hxl : xs.length = n * 2 := hown.1
  have hG : n + 1 ≤ maxLen := by unfold maxLen; omega
  have hvs : ∀ j u, y[j]? = some u → w.cell? ⟨vb, j, none⟩ = some u := fun j u hj => by
    rw [cell_of_row w vb j ecur ety (0, 0) hvb, ← Array.getElem?_toList]
    rw [← hye, List.getElem?_take] at hj
    split at hj
    · exact hj
    · cases hj
  have hsl : Sl w 2 (.slice (some ⟨vb, 0, none⟩) 1 vcap) 1 y := ⟨by rw [hyl], .inr ⟨⟨vb, 0, none⟩, vcap, rfl, hvc.1, hvc.2, fun q hq => by
    rw [addr_add, Nat.zero_add]
    exact hvs q _ (List.getElem?_eq_getElem hq)⟩⟩
  by_cases hend : i = n
  · subst hend
    rw [List.take_of_length_le (by omega), List.drop_eq_nil_of_le (by omega), List.append_nil]
    exact insC_end hown hB hb hsl hy1
  have hlt : i < n := by omega
  rcases hown.2 with ⟨rfl, h0⟩ | ⟨g, cap, cur, rfl, hg, hh, hn, hmx, hcs, htk⟩
  · omega
  have hlen : (xs.take (i * 2) ++ y ++ xs.drop (i * 2)).length = (n + 1) * 2 := by simp; omega
  have hcl : cur.toList.length = cap * 2 := by rw [Array.length_toList, hcs]
  have hget : ∀ k, k < n * 2 → cur.toList[k]? = xs[k]? := fun k hk => by rw [← htk, List.getElem?_take, if_pos hk]
  have hcell : ∀ k, w.cell? ⟨g, k, none⟩ = cur[k]? := fun k => by rw [cell_of_row w g k cur 85 (0, 0) hh]
  have hcells : ∀ j u, xs[j]? = some u → w.cell? ⟨g, j, none⟩ = some u := fun j u hj => by
    have hjl := (List.getElem?_eq_some_iff.1 hj).1
    rw [hcell, ← hj, ← hget j (by omega), Array.getElem?_toList]
  have hsome : ∀ j, j < cap * 2 → (w.cell? ⟨g, j, none⟩).isSome = true := fun j hj => by
    rw [hcell, Array.getElem?_eq_getElem (by omega)]; rfl
  have hfz : ∀ k, w.frozen? ⟨g, k, none⟩ = false := fun k => by unfold World.frozen?; rw [hh]; simp
  have hfv : ∀ k, w.frozen? ⟨vb, k, none⟩ = false := fun k => by unfold World.frozen?; rw [hvb]; simp
  have hmx' : cap ≤ 9223372036854775807 := by unfold maxLen at hmx; omega
  by_cases hroom : n + 1 ≤ cap
  · refine (insC_shift g n cap i vb vcap xs y w hlt hroom hmx' (fun h => hne (by rw [h]; rfl)) hxl hyl hcells (fun j hj => hsome _ (by omega)) hfz hvs hxs hy1 ety 85 ecur.size cur.size (by unfold World.shape?; rw [hvb]) (by unfold World.shape?; rw [hh]) (by omega) (hfv _) (hfv _)).mono ?_
    rintro e w' ⟨rfl, rfl⟩
    have hs1 := setCells_heap (g := g) (e := 85) (xs.drop (i * 2)) ((i + 1) * 2) w.drew cur.toList (by rw [Array.toArray_toList]; exact hh) (by simp; omega)
    have hs := setCells_heap (g := g) (e := 85) y (i * 2) _ _ hs1 (by simp; omega)
    refine ⟨_, rfl, ⟨hlen, .inr ⟨g, cap, _, rfl, hg, hs, hroom, hmx, ?_, ?_⟩⟩, ((drew_turn w _).trans (setCells_turn g _ _ _)).trans (setCells_turn g _ _ _), fun g' hg' => .inl hg'⟩
    · simp; omega
    · rw [show (n + 1) * 2 = n * 2 + 2 by omega]
      refine ins_takeS hxl (by omega) hyl (fun k hk => ?_) (fun k hk => ?_) (fun k h1 h2 => ?_)
      · rw [get3]
        simp only [List.length_take, List.length_append, List.length_drop, hcl, hxl]
        rw [if_pos (by omega), List.getElem?_take, if_pos hk, get3]
        simp only [List.length_take, hcl]
        rw [if_pos (by omega), List.getElem?_take, if_pos (by omega), hget k (by omega)]
      · rw [get3]
        simp only [List.length_take, List.length_append, List.length_drop, hcl, hxl]
        rw [if_neg (by omega), if_pos (by omega)]
        congr 1
        omega
      · rw [get3]
        simp only [List.length_take, List.length_append, List.length_drop, hcl, hxl, hyl]
        rw [if_neg (by omega), if_neg (by omega), List.getElem?_drop, get3]
        simp only [List.length_take, List.length_drop, hcl, hxl]
        rw [if_neg (by omega), if_pos (by omega), List.getElem?_drop]
        congr 1
        omega
  · refine (insC_grow g n cap i vb vcap xs y w hlt hn (by omega) hb hxl hyl hcells hvs hxs hy1).mono ?_
    rintro e w' ⟨rfl, rfl⟩
    have hge := grownCap_ge w (n + 1) cap 85
    have hle := grownCap_le_maxLen w (n + 1) cap 85 hG
    generalize grownCap w (n + 1) cap 85 = G at hge hle
    have h0 := alloc_at w (.cells ((xs.take (i * 2)).toArray ++ Builtin.zeroCells zcpyV.cells (n + 1 - i) ++ Builtin.zeroCells zcpyV.cells (G - (n + 1))) 85 (0, 0))
    generalize hA : (xs.take (i * 2)).toArray ++ Builtin.zeroCells zcpyV.cells (n + 1 - i) ++ Builtin.zeroCells zcpyV.cells (G - (n + 1)) = A at h0
    have hAs : A.size = G * 2 := by rw [← hA]; simp only [Array.size_append, zeros7, List.size_toArray, List.length_take]; omega
    have hAg : ∀ k, k < i * 2 → A.toList[k]? = xs[k]? := fun k hk => by
      rw [← hA]
      simp only [Array.toList_append]
      rw [List.append_assoc, List.getElem?_append_left (by simp; omega)]
      simp only [List.getElem?_take]
      rw [if_pos hk]
    have hs1 := setCells_heap (g := w.heap.size) (e := 85) y (i * 2) (w.alloc (.cells A 85 (0, 0))).drew A.toList (by rw [Array.toArray_toList]; exact h0) (by simp; omega)
    have hs := setCells_heap (g := w.heap.size) (e := 85) (xs.drop (i * 2)) ((i + 1) * 2) (((w.alloc (.cells A 85 (0, 0))).drew.setCells w.heap.size (i * 2) y).drew) (A.toList.take (i * 2) ++ y ++ A.toList.drop (i * 2 + y.length)) hs1 (by simp; omega)
    refine ⟨_, rfl, own_allocC hB hlen hge hle ?_ ?_ hs, ?_, fun g' hg' => .inr ?_⟩
    · simp; omega
    · rw [show (n + 1) * 2 = n * 2 + 2 by omega]
      refine ins_takeS hxl (by omega) hyl (fun k hk => ?_) (fun k hk => ?_) (fun k h1 h2 => ?_)
      · rw [get3]
        simp only [List.length_take, List.length_append, List.length_drop, Array.length_toList, hAs, hxl, hyl]
        rw [if_pos (by omega), List.getElem?_take, if_pos (by omega), get3]
        simp only [List.length_take, Array.length_toList, hAs]
        rw [if_pos (by omega), List.getElem?_take, if_pos hk, hAg k hk]
      · rw [get3]
        simp only [List.length_take, List.length_append, List.length_drop, Array.length_toList, hAs, hxl, hyl]
        rw [if_pos (by omega), List.getElem?_take, if_pos (by omega), get3]
        simp only [List.length_take, Array.length_toList, hAs]
        rw [if_neg (by omega), if_pos (by omega)]
        congr 1
        omega
      · rw [get3]
        simp only [List.length_take, List.length_append, List.length_drop, Array.length_toList, hAs, hxl, hyl]
        rw [if_neg (by omega), if_pos (by omega), List.getElem?_drop]
        congr 1
        omega
    · have k1 := Turn.behind (alloc_turn w (.cells A 85 (0, 0)) (some g)) (Nat.le_refl _) ((drew_turn _ _).trans (setCells_turn w.heap.size y (i * 2) _))
      exact Turn.behind k1 (Nat.le_refl _) ((drew_turn _ _).trans (setCells_turn w.heap.size (xs.drop (i * 2)) ((i + 1) * 2) _))
    · simp [blk] at hg'; omega
theorem insT : InsT Tryz.prog 104 85 2 16 := ⟨Enters.of Tryz.func104 rfl rfl, fun h1 h2 h3 h4 h5 h6 h7 h8 h9 h10 h11 => insC_calls h1 h2 h3 h4 h5 h6 h7 h8 h9 h10 h11⟩
end InsM
end Go.Proofs.YtgldfnkbpopanaaGreatDoor

namespace Go.Proofs.YtgldfnkbpopanaaGreatDoor
open Go.RowKit
set_option linter.unusedVariables false

/-! Types. -/
namespace TyLX
end TyLX
open TyH3 TyH5 TyJ3 TyJ4 TyJ5 TyKA TyKB TyKC TyKD TyKE TyKF TyKG TyLA TyLB TyLC TyLD TyLE TyLF TyLG TyLH TyLI TyLJ TyLK TyLL TyLM TyLN TyLO TyLP TyLQ TyLR TyLS TyLT TyLU TyLV TyLW TyLX

set_option linter.unusedSimpArgs false
section
variable {α : Type} {f : α → Int}
/-- How many stand ahead of number n; a put into its place. -/
def atF (f : α → Int) (l : List α) (n : Int) : Nat := (l.takeWhile fun a => decide (f a < n)).length
def putF (f : α → Int) (l : List α) (a : α) : List α := if (l[atF f l (f a)]?).map f = some (f a) then l.set (atF f l (f a)) a else l.take (atF f l (f a)) ++ [a] ++ l.drop (atF f l (f a))
def putR (f : α → Int) (a : α) : List α → List α
  | [] => [a]
  | x :: l => if f x < f a then x :: putR f a l else if f x = f a then a :: l else a :: x :: l
theorem atF_cons (x : α) (l : List α) (n : Int) : atF f (x :: l) n = if f x < n then atF f l n + 1 else 0 := by
  unfold atF
  rw [List.takeWhile_cons]
  by_cases h : f x < n <;> simp [h]
theorem putF_R (a : α) : ∀ l : List α, putF f l a = putR f a l
  | [] => by simp [putF, putR, atF]
  | x :: l => by
    have ih := putF_R a l
    unfold putF at ih ⊢
    rw [putR, atF_cons]
    by_cases h : f x < f a
    · rw [if_pos h, if_pos h, ← ih, List.getElem?_cons_succ]
      by_cases h2 : (l[atF f l (f a)]?).map f = some (f a)
      · rw [if_pos h2, if_pos h2]; rfl
      · rw [if_neg h2, if_neg h2]; rfl
    · rw [if_neg h, if_neg h, List.getElem?_cons_zero]
      by_cases h2 : f x = f a
      · rw [if_pos h2, if_pos (by simp [h2])]; rfl
      · rw [if_neg h2, if_neg (by simp [h2])]; rfl
theorem putR_mem {a b : α} : ∀ {l : List α}, b ∈ putR f a l → b = a ∨ b ∈ l
  | [], h => by rw [putR, List.mem_singleton] at h; exact .inl h
  | x :: l, h => by
    rw [putR] at h
    split at h
    · rcases List.mem_cons.1 h with rfl | h
      · exact .inr List.mem_cons_self
      · exact (putR_mem h).imp id (List.mem_cons_of_mem _)
    · split at h
      · rcases List.mem_cons.1 h with rfl | h
        · exact .inl rfl
        · exact .inr (List.mem_cons_of_mem _ h)
      · rcases List.mem_cons.1 h with rfl | h
        · exact .inl rfl
        · exact .inr h
theorem putR_ris {a : α} : ∀ {l : List α}, RisBy f l → RisBy f (putR f a l)
  | [], _ => by rw [putR]; exact List.pairwise_singleton ..
  | x :: l, h => by
    obtain ⟨h1, h2⟩ := List.pairwise_cons.1 h
    rw [putR]
    split
    · rename_i hl
      refine List.pairwise_cons.2 ⟨fun b hb => ?_, putR_ris h2⟩
      rcases putR_mem hb with rfl | hb
      · exact hl
      · exact h1 b hb
    · split
      · rename_i he
        exact List.pairwise_cons.2 ⟨fun b hb => by have := h1 b hb; omega, h2⟩
      · refine List.pairwise_cons.2 ⟨fun b hb => ?_, h⟩
        rcases List.mem_cons.1 hb with rfl | hb
        · omega
        · have := h1 b hb; omega
theorem putR_find {a : α} (k : Int) : ∀ {l : List α}, RisBy f l → findBy f (putR f a l) k = if f a = k then some a else findBy f l k
  | [], _ => by rw [putR, findBy_cons]
  | x :: l, h => by
    obtain ⟨h1, h2⟩ := List.pairwise_cons.1 h
    rw [putR]
    split
    · rename_i hl
      rw [findBy_cons, putR_find k h2, findBy_cons]
      by_cases hx : f x = k
      · rw [if_pos hx, if_pos hx, if_neg (by omega)]
      · rw [if_neg hx, if_neg hx]
    · split
      · rename_i he
        rw [findBy_cons, findBy_cons]
        by_cases ha : f a = k
        · rw [if_pos ha, if_pos ha]
        · rw [if_neg ha, if_neg ha, if_neg (by omega)]
      · rw [findBy_cons]
theorem putF_ris {a : α} {l : List α} (h : RisBy f l) : RisBy f (putF f l a) := by rw [putF_R]; exact putR_ris h
theorem putF_find {a : α} {l : List α} (h : RisBy f l) (k : Int) : findBy f (putF f l a) k = if f a = k then some a else findBy f l k := by rw [putF_R]; exact putR_find k h
theorem putF_mem {a b : α} {l : List α} (h : b ∈ putF f l a) : b = a ∨ b ∈ l := by rw [putF_R] at h; exact putR_mem h
theorem atF_le (l : List α) (n : Int) : atF f l n ≤ l.length := by
  unfold atF
  induction l with
  | nil => exact Nat.le_refl _
  | cons x l ih =>
    rw [List.takeWhile_cons]
    split
    · rw [List.length_cons, List.length_cons]; omega
    · exact Nat.zero_le _
theorem putF_len (l : List α) (a : α) : (putF f l a).length ≤ l.length + 1 := by
  unfold putF
  split
  · rw [List.length_set]; omega
  · rw [List.length_append, List.length_append, List.length_take, List.length_drop, List.length_singleton]
    have := atF_le (f := f) l (f a); omega
/-- The place, found step by step. -/
theorem at_end {l : List α} {n : Int} {k : Nat} (hk : k ≤ l.length) (h : ∀ a ∈ l.take k, f a < n) (h2 : ∀ hlt : k < l.length, ¬ f l[k] < n) : atF f l n = k := by
  induction l generalizing k with
  | nil => obtain rfl : k = 0 := by simpa using hk
           rfl
  | cons x l ih =>
    rw [atF_cons]
    cases k with
    | zero => rw [if_neg (show ¬ f x < n from h2 (by simp))]
    | succ k =>
      rw [if_pos (h x (by simp)), ih (by simpa using hk) (fun a ha => h a (by rw [List.take_succ_cons]; exact List.mem_cons_of_mem _ ha)) fun hlt => h2 (by simpa using hlt)]
theorem at_step {l : List α} {n : Int} {k : Nat} (hk : k < l.length) (h : ∀ a ∈ l.take k, f a < n) (h2 : f l[k] < n) : ∀ a ∈ l.take (k + 1), f a < n := fun a ha => by
  rw [List.take_add_one, List.getElem?_eq_getElem hk, Option.toList_some, List.mem_append, List.mem_singleton] at ha
  rcases ha with ha | rfl
  · exact h a ha
  · exact h2
theorem putF_set {l : List α} {a : α} {k : Nat} (hk : atF f l (f a) = k) (hlt : k < l.length) (he : f l[k] = f a) : putF f l a = l.set k a := by
  unfold putF
  rw [hk, List.getElem?_eq_getElem hlt, if_pos (by simp [he])]
theorem putF_ins {l : List α} {a : α} {k : Nat} (hk : atF f l (f a) = k) (h : ∀ hlt : k < l.length, f l[k] ≠ f a) : putF f l a = l.take k ++ [a] ++ l.drop k := by
  unfold putF
  rw [hk, if_neg]
  intro he
  rcases Nat.lt_or_ge k l.length with hlt | hge
  · rw [List.getElem?_eq_getElem hlt] at he
    exact h hlt (Option.some.inj he)
  · rw [List.getElem?_eq_none hge] at he; cases he
end

set_option maxRecDepth 100000 in
set_option maxHeartbeats 1000000 in
theorem c_clThg (l : List Thg) (hl : l.length ≤ 1048576) : OCall Tryz.prog 107 [.sl (l.map Thg.ds)] 41 7 (l.map Thg.ds) := by
 refine ocall_of (n := 8) Tryz.func107 rfl (by kernel_rfl) rfl 2 rfl rfl ?_
 intro B w0 F0 fr
 refine (Classical.em (l = [])).elim (fun hn => ?_) (fun hn => ?_)
 subst hn
 refine .nilOr 0 rfl ?_ (fun ad cap hcap => ?_)
 ·skip
  refine .sr ?_
  refine .aA (.nil ?_)
  refine .seq ?_
  refine .sr ?_
  refine .mA ?_
  refine .sA (.eqNilV rfl Tryz.underlying22 rfl rfl) (.nil ?_)
  refine .cond rfl (fun _ => ?_) (fun h => nomatch h)
  refine .sr ?_
  refine .aA (.nil ?_)
  refine .adopt 2 51 41 7 rfl rfl ?_
  refine .ret ?_
  refine ⟨51, rfl, mem_row_eq (.head _) ?_⟩
  first | rfl | simp
 ·skip
  refine .sr ?_
  refine .aA (.nil ?_)
  refine .seq ?_
  refine .sr ?_
  refine .mA ?_
  refine .sA (.eqNilV rfl Tryz.underlying22 rfl rfl) (.nil ?_)
  refine .cond rfl (fun h => nomatch h) (fun _ => ?_)
  refine .skip ?_
  refine .sr ?_
  refine .build0 102 rfl rfl rfl rfl et_22 rfl ?_
  refine .mA ?_
  refine .le 6 rfl (SLe.d (Le.empty hcap)) ?_
  -- append 7
  refine .append rfl rfl rfl rfl et_22 rfl (.head _) rfl (fun y hy => by first | exact absurd hy List.not_mem_nil | (obtain ⟨x, _, rfl⟩ := List.mem_map.1 hy; rfl)) (by simp; try omega) (by simp; try omega) ?_
  refine .sA (.assignO rfl rfl) (.nil ?_)
  refine .ret ?_
  refine ⟨102, rfl, mem_row_eq (.head _) ?_⟩
  first | rfl | simp
 refine .sr ?_
 refine .aA (.nil ?_)
 refine .seq ?_
 refine .sr ?_
 refine .mA ?_
 refine .sA (.eqNilS rfl Tryz.underlying22 rfl rfl (fun h => hn (List.map_eq_nil_iff.1 h))) (.nil ?_)
 refine .cond rfl (fun h => nomatch h) (fun _ => ?_)
 refine .skip ?_
 refine .sr ?_
 refine .build0 103 rfl rfl rfl rfl et_22 rfl ?_
 refine .mA ?_
 -- append 7
 refine .append rfl rfl rfl rfl et_22 rfl (.head _) rfl (fun y hy => by first | exact absurd hy List.not_mem_nil | (obtain ⟨x, _, rfl⟩ := List.mem_map.1 hy; rfl)) (by simp; try omega) (by simp; try omega) ?_
 refine .sA (.assignO rfl rfl) (.nil ?_)
 refine .ret ?_
 refine ⟨103, rfl, mem_row_eq (.head _) ?_⟩
 first | rfl | simp

set_option maxRecDepth 100000 in
set_option maxHeartbeats 1000000 in
theorem c_clMvd (l : List Mvd) (hl : l.length ≤ 1048576) : OCall Tryz.prog 103 [.sl (l.map Mvd.ds)] 85 2 (l.map Mvd.ds) := by
 refine ocall_of (n := 8) Tryz.func103 rfl (by kernel_rfl) rfl 2 rfl rfl ?_
 intro B w0 F0 fr
 refine (Classical.em (l = [])).elim (fun hn => ?_) (fun hn => ?_)
 subst hn
 refine .nilOr 0 rfl ?_ (fun ad cap hcap => ?_)
 ·skip
  refine .sr ?_
  refine .aA (.nil ?_)
  refine .seq ?_
  refine .sr ?_
  refine .mA ?_
  refine .sA (.eqNilV rfl Tryz.underlying23 rfl rfl) (.nil ?_)
  refine .cond rfl (fun _ => ?_) (fun h => nomatch h)
  refine .sr ?_
  refine .aA (.nil ?_)
  refine .adopt 2 51 85 2 rfl rfl ?_
  refine .ret ?_
  refine ⟨51, rfl, mem_row_eq (.head _) ?_⟩
  first | rfl | simp
 ·skip
  refine .sr ?_
  refine .aA (.nil ?_)
  refine .seq ?_
  refine .sr ?_
  refine .mA ?_
  refine .sA (.eqNilV rfl Tryz.underlying23 rfl rfl) (.nil ?_)
  refine .cond rfl (fun h => nomatch h) (fun _ => ?_)
  refine .skip ?_
  refine .sr ?_
  refine .build0 102 rfl rfl rfl rfl et_23 rfl ?_
  refine .mA ?_
  refine .le 6 rfl (SLe.d (Le.empty hcap)) ?_
  -- append 7
  refine .append rfl rfl rfl rfl et_23 rfl (.head _) rfl (fun y hy => by first | exact absurd hy List.not_mem_nil | (obtain ⟨x, _, rfl⟩ := List.mem_map.1 hy; rfl)) (by simp; try omega) (by simp; try omega) ?_
  refine .sA (.assignO rfl rfl) (.nil ?_)
  refine .ret ?_
  refine ⟨102, rfl, mem_row_eq (.head _) ?_⟩
  first | rfl | simp
 refine .sr ?_
 refine .aA (.nil ?_)
 refine .seq ?_
 refine .sr ?_
 refine .mA ?_
 refine .sA (.eqNilS rfl Tryz.underlying23 rfl rfl (fun h => hn (List.map_eq_nil_iff.1 h))) (.nil ?_)
 refine .cond rfl (fun h => nomatch h) (fun _ => ?_)
 refine .skip ?_
 refine .sr ?_
 refine .build0 103 rfl rfl rfl rfl et_23 rfl ?_
 refine .mA ?_
 -- append 7
 refine .append rfl rfl rfl rfl et_23 rfl (.head _) rfl (fun y hy => by first | exact absurd hy List.not_mem_nil | (obtain ⟨x, _, rfl⟩ := List.mem_map.1 hy; rfl)) (by simp; try omega) (by simp; try omega) ?_
 refine .sA (.assignO rfl rfl) (.nil ?_)
 refine .ret ?_
 refine ⟨103, rfl, mem_row_eq (.head _) ?_⟩
 first | rfl | simp

set_option maxRecDepth 100000 in
set_option maxHeartbeats 4000000 in
theorem c_putT (l : List Thg) (t : Thg) (hl : l.length ≤ 1000000) : ACall Tryz.prog 68 [.sl (l.map Thg.ds), .agg t.ds] (.sl ((putF Thg.id l t).map Thg.ds)) := by
 refine acall_of (n := 49) (ds' := [.sl ((putF Thg.id l t).map Thg.ds)]) Tryz.func68 rfl (by kernel_rfl) rfl [4] rfl rfl ?_
 intro B w0 F0 fr
 refine .sr ?_
 refine .sA (.box rfl rfl rfl) ?_
 refine .aA (.nil ?_)
 refine .sr ?_
 refine .aA (.nil ?_)
 refine .seq ?_
 refine .block ?_
 refine .loop (G := Nat) (fun k => Env.of [(5, .d (.v (.int .i64 (k : Int)))), (0, .d (.sl (l.map Thg.ds))), (3, .d (.fp t.ds))]) (fun k => []) (fun k => k ≤ l.length ∧ ∀ a ∈ l.take k, Thg.id a < Thg.id t) (fun k => l.length - k) 0 ⟨Nat.zero_le _, fun a h => by simp at h⟩ (Sub.less ⟨(SLe.of_eq rfl), SLe.refl _, SLe.refl _, trivial⟩ (fun _ h => h)) ?_
 intro k hk
 refine .seq ?_
 refine .seq ?_
 refine .draw (by kernel_rfl) (by kernel_rfl) ?_
 refine .sA (.moveD rfl rfl) ?_
 refine .sA (.moveD rfl rfl) ?_
 refine .sA (.lenSl rfl et_22.ht rfl) ?_
 refine .sA (.lss rfl rfl rfl) ?_
 refine .sA (.moveD rfl rfl) ?_
 refine .split 11 rfl (fun g1 => ?_) (fun g1 => ?_)
 ·replace g1 := of_decide_eq_true g1
  rw [List.length_map] at g1
  have hlt : k < l.length := by omega
  refine .sG (.moveD rfl rfl) ?_
  refine .sG (.moveD rfl rfl) ?_
  refine .sG (.indexAddr rfl et_22 rfl rfl k rfl (at_lst hlt) rfl) ?_
  refine .sG (.fieldAddr rfl fo_41_0 rfl) ?_
  refine .sG (.load rfl sc_3 rfl) ?_
  refine .sG (.fieldAddr rfl fo_41_0 rfl) ?_
  refine .sG (.load rfl sc_3 rfl) ?_
  refine .sG (.lss rfl rfl rfl) ?_
  refine .sA (.pickT rfl rfl rfl) ?_
  refine .nil ?_
  refine .cond rfl (fun h2 => ?_) (fun h2 => ?_)
  ·replace h2 := of_decide_eq_true h2
   have HN := at_step (f := Thg.id) hlt hk.2 (by first | exact h2 | omega)
   refine .skip ?_
   refine .block ?_
   refine .region ?_
   refine .mA ?_
   refine .sA (.add64 rfl rfl rfl (by omega) (by omega)) ?_
   refine .aA (.nil ?_)
   refine ⟨k + 1, ⟨by omega, HN⟩, (by dsimp only; omega), Sub.less ⟨(SLe.of_eq rfl), SLe.refl _, SLe.refl _, trivial⟩ (fun _ h => h)⟩
  replace h2 := of_decide_eq_false h2
  have HA : atF Thg.id l (Thg.id t) = k := at_end hk.1 hk.2 (fun _ => (by first | exact h2 | omega))
  refine .exit ?_
  refine .sr ?_
  refine .mA ?_
  refine .callO 71 rfl rfl rfl rfl (.cons (.rfl' rfl) .nil) (c_clThg l (by omega)) rfl ?_
  refine .sA (.assignO rfl rfl) (.nil ?_)
  refine .seq ?_
  refine .seq ?_
  refine .draw (by kernel_rfl) (by kernel_rfl) ?_
  refine .sA (.moveD rfl rfl) ?_
  refine .sA (.moveD rfl rfl) ?_
  refine .sA (.lenSl rfl et_22.ht rfl) ?_
  refine .sA (.lss rfl rfl rfl) ?_
  refine .sA (.moveD rfl rfl) ?_
  refine .split 29 rfl (fun g3 => ?_) (fun g3 => ?_)
  ·replace g3 := of_decide_eq_true g3
   rw [List.length_map] at g3
   have hlt : k < l.length := by omega
   refine .sG (.moveD rfl rfl) ?_
   refine .sG (.moveD rfl rfl) ?_
   refine .sG (.indexAddr rfl et_22 rfl rfl k rfl (at_lst hlt) rfl) ?_
   refine .sG (.fieldAddr rfl fo_41_0 rfl) ?_
   refine .sG (.load rfl sc_3 rfl) ?_
   refine .sG (.fieldAddr rfl fo_41_0 rfl) ?_
   refine .sG (.load rfl sc_3 rfl) ?_
   refine .sG (.eql rfl rfl rfl) ?_
   refine .sA (.pickT rfl rfl rfl) ?_
   refine .nil ?_
   refine .cond rfl (fun h4 => ?_) (fun h4 => ?_)
   ·replace h4 := of_decide_eq_true h4
    have HP := putF_set HA hlt (by first | exact h4 | omega)
    refine .sr ?_
    refine .sA (.moveO rfl rfl) ?_
    refine .mA ?_
    refine .sA (.loadAgg rfl ag_41 rfl rfl) ?_
    refine .sA (.indexOwn rfl et_22 rfl rfl (.head _) k rfl (by rw [List.length_map]; omega)) ?_
    refine .storeRow rfl rfl rfl sz_41 rfl (.head _) rfl rfl rfl k 0 rfl (at_lst hlt) (Nat.le_of_ble_eq_true rfl) (.nil ?_)
    refine .sr ?_
    refine .sA (.moveO rfl rfl) ?_
    refine .sA (.assignO rfl rfl) (.nil ?_)
    refine .ret ?_
    refine ⟨RetD.own rfl (.head _) ?_, trivial⟩
    all_goals (rw [HP]; first | (rw [List.map_set]; rfl) | (simp; rfl) | simp)
   replace h4 := of_decide_eq_false h4
   have HP := putF_ins HA (fun _ => (by first | exact h4 | omega))
   refine .skip ?_
   refine .sr ?_
   refine .sA (.moveO rfl rfl) ?_
   refine .mA ?_
   refine .sA (.loadAgg rfl ag_41 rfl rfl) ?_
   refine .buildS 72 rfl rfl rfl rfl et_22 rfl rfl rfl rfl rfl ?_
   -- inserts into 71
   refine .insertK (id := 71) (idx := 72) (k := k) InsT.insT rfl rfl rfl rfl rfl (.tail _ (.head _)) rfl rfl (by rw [List.length_map]; omega) rfl (.head _) (by decide) (by rw [List.length_map]; omega) ?_
   refine .sA (.assignO rfl rfl) (.nil ?_)
   refine .ret ?_
   refine ⟨RetD.own rfl (.head _) ?_, trivial⟩
   all_goals (rw [HP]; first | (rw [List.map_set]; rfl) | (simp; rfl) | simp)
  replace g3 := of_decide_eq_false g3
  rw [List.length_map] at g3
  have HP := putF_ins HA (fun hlt => by omega)
  refine .pA ?_
  refine .pA ?_
  refine .pA ?_
  refine .pA ?_
  refine .pA ?_
  refine .pA ?_
  refine .pA ?_
  refine .pA ?_
  refine .sA (.pickF rfl rfl rfl) ?_
  refine .nil ?_
  refine .cond rfl (fun h => nomatch h) (fun _ => ?_)
  refine .skip ?_
  refine .sr ?_
  refine .sA (.moveO rfl rfl) ?_
  refine .mA ?_
  refine .sA (.loadAgg rfl ag_41 rfl rfl) ?_
  refine .buildS 72 rfl rfl rfl rfl et_22 rfl rfl rfl rfl rfl ?_
  -- inserts into 71
  refine .insertK (id := 71) (idx := 72) (k := k) InsT.insT rfl rfl rfl rfl rfl (.tail _ (.head _)) rfl rfl (by rw [List.length_map]; omega) rfl (.head _) (by decide) (by rw [List.length_map]; omega) ?_
  refine .sA (.assignO rfl rfl) (.nil ?_)
  refine .ret ?_
  refine ⟨RetD.own rfl (.head _) ?_, trivial⟩
  all_goals (rw [HP]; first | (rw [List.map_set]; rfl) | (simp; rfl) | simp)
 replace g1 := of_decide_eq_false g1
 rw [List.length_map] at g1
 have hk0 : k = l.length := by omega
 have HA : atF Thg.id l (Thg.id t) = k := at_end hk.1 hk.2 (fun hlt => by omega)
 refine .pA ?_
 refine .pA ?_
 refine .pA ?_
 refine .pA ?_
 refine .pA ?_
 refine .pA ?_
 refine .pA ?_
 refine .pA ?_
 refine .sA (.pickF rfl rfl rfl) ?_
 refine .nil ?_
 refine .cond rfl (fun h => nomatch h) (fun _ => ?_)
 refine .exit ?_
 refine .sr ?_
 refine .mA ?_
 refine .callO 71 rfl rfl rfl rfl (.cons (.rfl' rfl) .nil) (c_clThg l (by omega)) rfl ?_
 refine .sA (.assignO rfl rfl) (.nil ?_)
 refine .seq ?_
 refine .seq ?_
 refine .draw (by kernel_rfl) (by kernel_rfl) ?_
 refine .sA (.moveD rfl rfl) ?_
 refine .sA (.moveD rfl rfl) ?_
 refine .sA (.lenSl rfl et_22.ht rfl) ?_
 refine .sA (.lss rfl rfl rfl) ?_
 refine .sA (.moveD rfl rfl) ?_
 refine .split 29 rfl (fun g5 => ?_) (fun g5 => ?_)
 ·replace g5 := of_decide_eq_true g5
  rw [List.length_map] at g5
  have hlt : k < l.length := by omega
  refine .sG (.moveD rfl rfl) ?_
  refine .sG (.moveD rfl rfl) ?_
  refine .sG (.indexAddr rfl et_22 rfl rfl k rfl (at_lst hlt) rfl) ?_
  refine .sG (.fieldAddr rfl fo_41_0 rfl) ?_
  refine .sG (.load rfl sc_3 rfl) ?_
  refine .sG (.fieldAddr rfl fo_41_0 rfl) ?_
  refine .sG (.load rfl sc_3 rfl) ?_
  refine .sG (.eql rfl rfl rfl) ?_
  refine .sA (.pickT rfl rfl rfl) ?_
  refine .nil ?_
  refine .cond rfl (fun h6 => ?_) (fun h6 => ?_)
  ·replace h6 := of_decide_eq_true h6
   have HP := putF_set HA hlt (by first | exact h6 | omega)
   refine .sr ?_
   refine .sA (.moveO rfl rfl) ?_
   refine .mA ?_
   refine .sA (.loadAgg rfl ag_41 rfl rfl) ?_
   refine .sA (.indexOwn rfl et_22 rfl rfl (.head _) k rfl (by rw [List.length_map]; omega)) ?_
   refine .storeRow rfl rfl rfl sz_41 rfl (.head _) rfl rfl rfl k 0 rfl (at_lst hlt) (Nat.le_of_ble_eq_true rfl) (.nil ?_)
   refine .sr ?_
   refine .sA (.moveO rfl rfl) ?_
   refine .sA (.assignO rfl rfl) (.nil ?_)
   refine .ret ?_
   refine ⟨RetD.own rfl (.head _) ?_, trivial⟩
   all_goals (rw [HP]; first | (rw [List.map_set]; rfl) | (simp; rfl) | simp)
  replace h6 := of_decide_eq_false h6
  have HP := putF_ins HA (fun _ => (by first | exact h6 | omega))
  refine .skip ?_
  refine .sr ?_
  refine .sA (.moveO rfl rfl) ?_
  refine .mA ?_
  refine .sA (.loadAgg rfl ag_41 rfl rfl) ?_
  refine .buildS 72 rfl rfl rfl rfl et_22 rfl rfl rfl rfl rfl ?_
  -- inserts into 71
  refine .insertK (id := 71) (idx := 72) (k := k) InsT.insT rfl rfl rfl rfl rfl (.tail _ (.head _)) rfl rfl (by rw [List.length_map]; omega) rfl (.head _) (by decide) (by rw [List.length_map]; omega) ?_
  refine .sA (.assignO rfl rfl) (.nil ?_)
  refine .ret ?_
  refine ⟨RetD.own rfl (.head _) ?_, trivial⟩
  all_goals (rw [HP]; first | (rw [List.map_set]; rfl) | (simp; rfl) | simp)
 replace g5 := of_decide_eq_false g5
 rw [List.length_map] at g5
 have HP := putF_ins HA (fun hlt => by omega)
 refine .pA ?_
 refine .pA ?_
 refine .pA ?_
 refine .pA ?_
 refine .pA ?_
 refine .pA ?_
 refine .pA ?_
 refine .pA ?_
 refine .sA (.pickF rfl rfl rfl) ?_
 refine .nil ?_
 refine .cond rfl (fun h => nomatch h) (fun _ => ?_)
 refine .skip ?_
 refine .sr ?_
 refine .sA (.moveO rfl rfl) ?_
 refine .mA ?_
 refine .sA (.loadAgg rfl ag_41 rfl rfl) ?_
 refine .buildS 72 rfl rfl rfl rfl et_22 rfl rfl rfl rfl rfl ?_
 -- inserts into 71
 refine .insertK (id := 71) (idx := 72) (k := k) InsT.insT rfl rfl rfl rfl rfl (.tail _ (.head _)) rfl rfl (by rw [List.length_map]; omega) rfl (.head _) (by decide) (by rw [List.length_map]; omega) ?_
 refine .sA (.assignO rfl rfl) (.nil ?_)
 refine .ret ?_
 refine ⟨RetD.own rfl (.head _) ?_, trivial⟩
 all_goals (rw [HP]; first | (rw [List.map_set]; rfl) | (simp; rfl) | simp)

set_option maxRecDepth 100000 in
set_option maxHeartbeats 4000000 in
theorem c_putM (l : List Mvd) (t : Mvd) (hl : l.length ≤ 1000000) : ACall Tryz.prog 59 [.sl (l.map Mvd.ds), .agg t.ds] (.sl ((putF Mvd.src l t).map Mvd.ds)) := by
 refine acall_of (n := 49) (ds' := [.sl ((putF Mvd.src l t).map Mvd.ds)]) Tryz.func59 rfl (by kernel_rfl) rfl [4] rfl rfl ?_
 intro B w0 F0 fr
 refine .sr ?_
 refine .sA (.box rfl rfl rfl) ?_
 refine .aA (.nil ?_)
 refine .sr ?_
 refine .aA (.nil ?_)
 refine .seq ?_
 refine .block ?_
 refine .loop (G := Nat) (fun k => Env.of [(5, .d (.v (.int .i64 (k : Int)))), (0, .d (.sl (l.map Mvd.ds))), (3, .d (.fp t.ds))]) (fun k => []) (fun k => k ≤ l.length ∧ ∀ a ∈ l.take k, Mvd.src a < Mvd.src t) (fun k => l.length - k) 0 ⟨Nat.zero_le _, fun a h => by simp at h⟩ (Sub.less ⟨(SLe.of_eq rfl), SLe.refl _, SLe.refl _, trivial⟩ (fun _ h => h)) ?_
 intro k hk
 refine .seq ?_
 refine .seq ?_
 refine .draw (by kernel_rfl) (by kernel_rfl) ?_
 refine .sA (.moveD rfl rfl) ?_
 refine .sA (.moveD rfl rfl) ?_
 refine .sA (.lenSl rfl et_23.ht rfl) ?_
 refine .sA (.lss rfl rfl rfl) ?_
 refine .sA (.moveD rfl rfl) ?_
 refine .split 11 rfl (fun g1 => ?_) (fun g1 => ?_)
 ·replace g1 := of_decide_eq_true g1
  rw [List.length_map] at g1
  have hlt : k < l.length := by omega
  refine .sG (.moveD rfl rfl) ?_
  refine .sG (.moveD rfl rfl) ?_
  refine .sG (.indexAddr rfl et_23 rfl rfl k rfl (at_lst hlt) rfl) ?_
  refine .sG (.fieldAddr rfl fo_85_0 rfl) ?_
  refine .sG (.load rfl sc_3 rfl) ?_
  refine .sG (.fieldAddr rfl fo_85_0 rfl) ?_
  refine .sG (.load rfl sc_3 rfl) ?_
  refine .sG (.lss rfl rfl rfl) ?_
  refine .sA (.pickT rfl rfl rfl) ?_
  refine .nil ?_
  refine .cond rfl (fun h2 => ?_) (fun h2 => ?_)
  ·replace h2 := of_decide_eq_true h2
   have HN := at_step (f := Mvd.src) hlt hk.2 (by first | exact h2 | omega)
   refine .skip ?_
   refine .block ?_
   refine .region ?_
   refine .mA ?_
   refine .sA (.add64 rfl rfl rfl (by omega) (by omega)) ?_
   refine .aA (.nil ?_)
   refine ⟨k + 1, ⟨by omega, HN⟩, (by dsimp only; omega), Sub.less ⟨(SLe.of_eq rfl), SLe.refl _, SLe.refl _, trivial⟩ (fun _ h => h)⟩
  replace h2 := of_decide_eq_false h2
  have HA : atF Mvd.src l (Mvd.src t) = k := at_end hk.1 hk.2 (fun _ => (by first | exact h2 | omega))
  refine .exit ?_
  refine .sr ?_
  refine .mA ?_
  refine .callO 71 rfl rfl rfl rfl (.cons (.rfl' rfl) .nil) (c_clMvd l (by omega)) rfl ?_
  refine .sA (.assignO rfl rfl) (.nil ?_)
  refine .seq ?_
  refine .seq ?_
  refine .draw (by kernel_rfl) (by kernel_rfl) ?_
  refine .sA (.moveD rfl rfl) ?_
  refine .sA (.moveD rfl rfl) ?_
  refine .sA (.lenSl rfl et_23.ht rfl) ?_
  refine .sA (.lss rfl rfl rfl) ?_
  refine .sA (.moveD rfl rfl) ?_
  refine .split 29 rfl (fun g3 => ?_) (fun g3 => ?_)
  ·replace g3 := of_decide_eq_true g3
   rw [List.length_map] at g3
   have hlt : k < l.length := by omega
   refine .sG (.moveD rfl rfl) ?_
   refine .sG (.moveD rfl rfl) ?_
   refine .sG (.indexAddr rfl et_23 rfl rfl k rfl (at_lst hlt) rfl) ?_
   refine .sG (.fieldAddr rfl fo_85_0 rfl) ?_
   refine .sG (.load rfl sc_3 rfl) ?_
   refine .sG (.fieldAddr rfl fo_85_0 rfl) ?_
   refine .sG (.load rfl sc_3 rfl) ?_
   refine .sG (.eql rfl rfl rfl) ?_
   refine .sA (.pickT rfl rfl rfl) ?_
   refine .nil ?_
   refine .cond rfl (fun h4 => ?_) (fun h4 => ?_)
   ·replace h4 := of_decide_eq_true h4
    have HP := putF_set HA hlt (by first | exact h4 | omega)
    refine .sr ?_
    refine .sA (.moveO rfl rfl) ?_
    refine .mA ?_
    refine .sA (.loadAgg rfl ag_85 rfl rfl) ?_
    refine .sA (.indexOwn rfl et_23 rfl rfl (.head _) k rfl (by rw [List.length_map]; omega)) ?_
    refine .storeRow rfl rfl rfl sz_85 rfl (.head _) rfl rfl rfl k 0 rfl (at_lst hlt) (Nat.le_of_ble_eq_true rfl) (.nil ?_)
    refine .sr ?_
    refine .sA (.moveO rfl rfl) ?_
    refine .sA (.assignO rfl rfl) (.nil ?_)
    refine .ret ?_
    refine ⟨RetD.own rfl (.head _) ?_, trivial⟩
    all_goals (rw [HP]; first | (rw [List.map_set]; rfl) | (simp; rfl) | simp)
   replace h4 := of_decide_eq_false h4
   have HP := putF_ins HA (fun _ => (by first | exact h4 | omega))
   refine .skip ?_
   refine .sr ?_
   refine .sA (.moveO rfl rfl) ?_
   refine .mA ?_
   refine .sA (.loadAgg rfl ag_85 rfl rfl) ?_
   refine .buildS 72 rfl rfl rfl rfl et_23 rfl rfl rfl rfl rfl ?_
   -- inserts into 71
   refine .insertK (id := 71) (idx := 72) (k := k) InsM.insT rfl rfl rfl rfl rfl (.tail _ (.head _)) rfl rfl (by rw [List.length_map]; omega) rfl (.head _) (by decide) (by rw [List.length_map]; omega) ?_
   refine .sA (.assignO rfl rfl) (.nil ?_)
   refine .ret ?_
   refine ⟨RetD.own rfl (.head _) ?_, trivial⟩
   all_goals (rw [HP]; first | (rw [List.map_set]; rfl) | (simp; rfl) | simp)
  replace g3 := of_decide_eq_false g3
  rw [List.length_map] at g3
  have HP := putF_ins HA (fun hlt => by omega)
  refine .pA ?_
  refine .pA ?_
  refine .pA ?_
  refine .pA ?_
  refine .pA ?_
  refine .pA ?_
  refine .pA ?_
  refine .pA ?_
  refine .sA (.pickF rfl rfl rfl) ?_
  refine .nil ?_
  refine .cond rfl (fun h => nomatch h) (fun _ => ?_)
  refine .skip ?_
  refine .sr ?_
  refine .sA (.moveO rfl rfl) ?_
  refine .mA ?_
  refine .sA (.loadAgg rfl ag_85 rfl rfl) ?_
  refine .buildS 72 rfl rfl rfl rfl et_23 rfl rfl rfl rfl rfl ?_
  -- inserts into 71
  refine .insertK (id := 71) (idx := 72) (k := k) InsM.insT rfl rfl rfl rfl rfl (.tail _ (.head _)) rfl rfl (by rw [List.length_map]; omega) rfl (.head _) (by decide) (by rw [List.length_map]; omega) ?_
  refine .sA (.assignO rfl rfl) (.nil ?_)
  refine .ret ?_
  refine ⟨RetD.own rfl (.head _) ?_, trivial⟩
  all_goals (rw [HP]; first | (rw [List.map_set]; rfl) | (simp; rfl) | simp)
 replace g1 := of_decide_eq_false g1
 rw [List.length_map] at g1
 have hk0 : k = l.length := by omega
 have HA : atF Mvd.src l (Mvd.src t) = k := at_end hk.1 hk.2 (fun hlt => by omega)
 refine .pA ?_
 refine .pA ?_
 refine .pA ?_
 refine .pA ?_
 refine .pA ?_
 refine .pA ?_
 refine .pA ?_
 refine .pA ?_
 refine .sA (.pickF rfl rfl rfl) ?_
 refine .nil ?_
 refine .cond rfl (fun h => nomatch h) (fun _ => ?_)
 refine .exit ?_
 refine .sr ?_
 refine .mA ?_
 refine .callO 71 rfl rfl rfl rfl (.cons (.rfl' rfl) .nil) (c_clMvd l (by omega)) rfl ?_
 refine .sA (.assignO rfl rfl) (.nil ?_)
 refine .seq ?_
 refine .seq ?_
 refine .draw (by kernel_rfl) (by kernel_rfl) ?_
 refine .sA (.moveD rfl rfl) ?_
 refine .sA (.moveD rfl rfl) ?_
 refine .sA (.lenSl rfl et_23.ht rfl) ?_
 refine .sA (.lss rfl rfl rfl) ?_
 refine .sA (.moveD rfl rfl) ?_
 refine .split 29 rfl (fun g5 => ?_) (fun g5 => ?_)
 ·replace g5 := of_decide_eq_true g5
  rw [List.length_map] at g5
  have hlt : k < l.length := by omega
  refine .sG (.moveD rfl rfl) ?_
  refine .sG (.moveD rfl rfl) ?_
  refine .sG (.indexAddr rfl et_23 rfl rfl k rfl (at_lst hlt) rfl) ?_
  refine .sG (.fieldAddr rfl fo_85_0 rfl) ?_
  refine .sG (.load rfl sc_3 rfl) ?_
  refine .sG (.fieldAddr rfl fo_85_0 rfl) ?_
  refine .sG (.load rfl sc_3 rfl) ?_
  refine .sG (.eql rfl rfl rfl) ?_
  refine .sA (.pickT rfl rfl rfl) ?_
  refine .nil ?_
  refine .cond rfl (fun h6 => ?_) (fun h6 => ?_)
  ·replace h6 := of_decide_eq_true h6
   have HP := putF_set HA hlt (by first | exact h6 | omega)
   refine .sr ?_
   refine .sA (.moveO rfl rfl) ?_
   refine .mA ?_
   refine .sA (.loadAgg rfl ag_85 rfl rfl) ?_
   refine .sA (.indexOwn rfl et_23 rfl rfl (.head _) k rfl (by rw [List.length_map]; omega)) ?_
   refine .storeRow rfl rfl rfl sz_85 rfl (.head _) rfl rfl rfl k 0 rfl (at_lst hlt) (Nat.le_of_ble_eq_true rfl) (.nil ?_)
   refine .sr ?_
   refine .sA (.moveO rfl rfl) ?_
   refine .sA (.assignO rfl rfl) (.nil ?_)
   refine .ret ?_
   refine ⟨RetD.own rfl (.head _) ?_, trivial⟩
   all_goals (rw [HP]; first | (rw [List.map_set]; rfl) | (simp; rfl) | simp)
  replace h6 := of_decide_eq_false h6
  have HP := putF_ins HA (fun _ => (by first | exact h6 | omega))
  refine .skip ?_
  refine .sr ?_
  refine .sA (.moveO rfl rfl) ?_
  refine .mA ?_
  refine .sA (.loadAgg rfl ag_85 rfl rfl) ?_
  refine .buildS 72 rfl rfl rfl rfl et_23 rfl rfl rfl rfl rfl ?_
  -- inserts into 71
  refine .insertK (id := 71) (idx := 72) (k := k) InsM.insT rfl rfl rfl rfl rfl (.tail _ (.head _)) rfl rfl (by rw [List.length_map]; omega) rfl (.head _) (by decide) (by rw [List.length_map]; omega) ?_
  refine .sA (.assignO rfl rfl) (.nil ?_)
  refine .ret ?_
  refine ⟨RetD.own rfl (.head _) ?_, trivial⟩
  all_goals (rw [HP]; first | (rw [List.map_set]; rfl) | (simp; rfl) | simp)
 replace g5 := of_decide_eq_false g5
 rw [List.length_map] at g5
 have HP := putF_ins HA (fun hlt => by omega)
 refine .pA ?_
 refine .pA ?_
 refine .pA ?_
 refine .pA ?_
 refine .pA ?_
 refine .pA ?_
 refine .pA ?_
 refine .pA ?_
 refine .sA (.pickF rfl rfl rfl) ?_
 refine .nil ?_
 refine .cond rfl (fun h => nomatch h) (fun _ => ?_)
 refine .skip ?_
 refine .sr ?_
 refine .sA (.moveO rfl rfl) ?_
 refine .mA ?_
 refine .sA (.loadAgg rfl ag_85 rfl rfl) ?_
 refine .buildS 72 rfl rfl rfl rfl et_23 rfl rfl rfl rfl rfl ?_
 -- inserts into 71
 refine .insertK (id := 71) (idx := 72) (k := k) InsM.insT rfl rfl rfl rfl rfl (.tail _ (.head _)) rfl rfl (by rw [List.length_map]; omega) rfl (.head _) (by decide) (by rw [List.length_map]; omega) ?_
 refine .sA (.assignO rfl rfl) (.nil ?_)
 refine .ret ?_
 refine ⟨RetD.own rfl (.head _) ?_, trivial⟩
 all_goals (rw [HP]; first | (rw [List.map_set]; rfl) | (simp; rfl) | simp)


/-! Types. -/
namespace TyLY
end TyLY
open TyH3 TyH5 TyJ3 TyJ4 TyJ5 TyKA TyKB TyKC TyKD TyKE TyKF TyKG TyLA TyLB TyLC TyLD TyLE TyLF TyLG TyLH TyLI TyLJ TyLK TyLL TyLM TyLN TyLO TyLP TyLQ TyLR TyLS TyLT TyLU TyLV TyLW TyLX TyLY

set_option linter.unusedSimpArgs false
section
variable {α : Type} {f : α → Int}
def kp (f : α → Int) (l : List Int) (a : α) : Bool := !decide (f a ∈ l)
def kpTo (f : α → Int) (g : List Int) (l : List α) (n : Nat) : List α := (l.take n).filter (kp f g)
theorem kpTo_all (g : List Int) (l : List α) : kpTo f g l l.length = l.filter (kp f g) := by unfold kpTo; rw [List.take_length]
theorem kp_yes {g : List Int} {l : List α} {n : Nat} (h : n < l.length) (hn : ¬ f l[n] ∈ g) : kpTo f g l (n + 1) = kpTo f g l n ++ [l[n]] := by
  unfold kpTo
  rw [List.take_add_one, List.getElem?_eq_getElem h, Option.toList_some, List.filter_append, List.filter_cons_of_pos (by unfold kp; simp [hn])]; rfl
theorem kp_no {g : List Int} {l : List α} {n : Nat} (h : n < l.length) (hn : f l[n] ∈ g) : kpTo f g l (n + 1) = kpTo f g l n := by
  unfold kpTo
  rw [List.take_add_one, List.getElem?_eq_getElem h, Option.toList_some, List.filter_append, List.filter_cons_of_neg (by unfold kp; simp [hn])]; simp
theorem kpTo_len (g : List Int) (l : List α) (n : Nat) : (kpTo f g l n).length ≤ l.length := by
  unfold kpTo
  have := List.length_filter_le (kp f g) (l.take n)
  rw [List.length_take] at this; omega
def putsF (f : α → Int) (l E : List α) : List α := E.foldl (putF f) l
theorem putsF_next {l E : List α} {n : Nat} (h : n < E.length) : putsF f l (E.take (n + 1)) = putF f (putsF f l (E.take n)) E[n] := by
  unfold putsF
  rw [List.take_add_one, List.getElem?_eq_getElem h, Option.toList_some, List.foldl_append]; rfl
theorem putsF_len (E : List α) : ∀ l : List α, (putsF f l E).length ≤ l.length + E.length := by
  induction E with
  | nil => exact fun l => Nat.le_refl _
  | cons a E ih =>
    intro l
    have h1 := ih (putF f l a)
    have h2 := putF_len (f := f) l a
    unfold putsF at h1 ⊢
    rw [List.foldl_cons, List.length_cons]; omega
theorem putsF_take {l E : List α} (n : Nat) : (putsF f l (E.take n)).length ≤ l.length + E.length := by
  have := putsF_len (f := f) (E.take n) l
  rw [List.length_take] at this; omega
theorem putsF_ris : ∀ (E : List α) {l : List α}, RisBy f l → RisBy f (putsF f l E)
  | [], _, h => h
  | a :: E, _, h => putsF_ris E (putF_ris (a := a) h)
theorem putsF_find (k : Int) : ∀ (E : List α), RisBy f E → ∀ {l : List α}, RisBy f l → findBy f (putsF f l E) k = match findBy f E k with | some a => some a | none => findBy f l k
  | [], _, l, _ => rfl
  | a :: E, hE, l, h => by
    obtain ⟨h1, h2⟩ := List.pairwise_cons.1 hE
    show findBy f (putsF f (putF f l a) E) k = _
    rw [putsF_find k E h2 (putF_ris h), putF_find h, findBy_cons]
    by_cases ha : f a = k
    · have : findBy f E k = none := findBy_none.2 fun b hb => by have := h1 b hb; omega
      rw [this, if_pos ha, if_pos ha]
    · rw [if_neg ha, if_neg ha]
theorem putsF_mem {b : α} : ∀ {E l : List α}, b ∈ putsF f l E → b ∈ E ∨ b ∈ l
  | [], _, h => .inr h
  | a :: E, l, h => by
    rcases putsF_mem (E := E) (l := putF f l a) h with h | h
    · exact .inl (List.mem_cons_of_mem _ h)
    · rcases putF_mem h with rfl | h
      · exact .inl List.mem_cons_self
      · exact .inr h
theorem kp_find (g : List Int) (k : Int) (l : List α) : findBy f (l.filter (kp f g)) k = if k ∈ g then none else findBy f l k := by
  induction l with
  | nil => simp [findBy]
  | cons a l ih =>
    rw [findBy_cons]
    by_cases hk : f a ∈ g
    · rw [List.filter_cons_of_neg (by unfold kp; simp [hk]), ih]
      by_cases ha : f a = k
      · subst ha; rw [if_pos hk, if_pos hk]
      · rw [if_neg ha]
    · rw [List.filter_cons_of_pos (by unfold kp; simp [hk]), findBy_cons, ih]
      by_cases ha : f a = k
      · subst ha; rw [if_pos rfl, if_pos rfl, if_neg hk]
      · rw [if_neg ha, if_neg ha]
end
def chgdC (c : Ctl) (x : Chg) : Ctl := ⟨putsF Thg.id (c.things.filter (kp Thg.id x.drop)) x.put, putsF Mvd.src (c.moved.filter (kp Mvd.src x.back)) x.add⟩
theorem risT_by {l : List Thg} : RiK (idxL l) ↔ RisBy Thg.id l := by unfold RiK idxL RisBy; rw [List.pairwise_map]
theorem risM_by {l : List Mvd} : RiK (mvL l) ↔ RisBy Mvd.src l := by unfold RiK mvL RisBy; rw [List.pairwise_map]
theorem findM_ext {a b : List Mvd} (ha : RisBy Mvd.src a) (hb : RisBy Mvd.src b) (h : ∀ k, (findBy Mvd.src a k).map (·.dst) = (findBy Mvd.src b k).map (·.dst)) : a = b := by
  refine risBy_ext ha hb fun k => ?_
  have h1 := h k
  cases h2 : findBy Mvd.src a k with
  | none => rw [h2] at h1; cases h3 : findBy Mvd.src b k with
    | none => rfl
    | some v => rw [h3] at h1; cases h1
  | some u => rw [h2] at h1; cases h3 : findBy Mvd.src b k with
    | none => rw [h3] at h1; cases h1
    | some v =>
      rw [h3] at h1
      have e1 := (findBy_some h2).2
      have e2 := (findBy_some h3).2
      exact congrArg some (mvd_ext ⟨e1.trans e2.symm, Option.some.inj h1⟩)
theorem no_meet {x : Chg} (hx : chgF x = 0) : meetB (x.put.map Thg.id) x.drop = false ∧ meetB (x.add.map Mvd.src) x.back = false := by
  have hl := limX hx
  have hL : ¬ (300 < x.put.length ∨ 300 < x.drop.length ∨ 300 < x.add.length ∨ 300 < x.back.length) := by obtain ⟨h1, h2, h3, h4⟩ := hl; omega
  unfold chgF at hx
  rw [if_neg hL] at hx
  split at hx
  · omega
  · split at hx
    · omega
    · rename_i h
      refine ⟨?_, ?_⟩
      · cases hm : meetB (x.put.map Thg.id) x.drop with
        | false => rfl
        | true => exact absurd (.inl hm) h
      · cases hm : meetB (x.add.map Mvd.src) x.back with
        | false => rfl
        | true => exact absurd (.inr hm) h
theorem xNo {x : Chg} (hx : chgF x = 0) {k : Int} {t : Thg} (h : findG (idxL x.put) k = some t) : ¬ k ∈ x.drop := fun hk => by
  have h1 := (no_meet hx).1
  have h2 := findT_some (l := x.put) (id := k) h
  have : meetB (x.put.map Thg.id) x.drop = true := List.any_eq_true.2 ⟨k, List.mem_map.2 ⟨t, h2.1, h2.2⟩, decide_eq_true hk⟩
  rw [h1] at this; cases this
theorem xNoM {x : Chg} (hx : chgF x = 0) {k n : Int} (h : findG (mvL x.add) k = some n) : ¬ k ∈ x.back := fun hk => by
  have h1 := (no_meet hx).2
  obtain ⟨m, hm, he⟩ := List.mem_map.1 (find_mem h)
  have e1 : m.src = k := (Prod.mk.inj he).1
  have : meetB (x.add.map Mvd.src) x.back = true := List.any_eq_true.2 ⟨k, List.mem_map.2 ⟨m, hm, e1⟩, decide_eq_true hk⟩
  rw [h1] at this; cases this
theorem chgd_eq {c : Ctl} {x : Chg} (hc : chkF c = 0) (hx : chgF x = 0) : chgdC c x = outC c x := by
  have kx := xOk hx
  have r1 := risT_by.1 (nkT hc)
  have r2 := risM_by.1 (nkM hc)
  have f1 : RisBy Thg.id (c.things.filter (kp Thg.id x.drop)) := r1.sublist List.filter_sublist
  have f2 : RisBy Mvd.src (c.moved.filter (kp Mvd.src x.back)) := r2.sublist List.filter_sublist
  have o1 : RisBy Thg.id (outC c x).things := risT_by.1 (by rw [out_things]; exact step_ri _ _ _)
  have o2 : RisBy Mvd.src (outC c x).moved := risM_by.1 (by rw [out_moved]; exact step_ri _ _ _)
  have e1 : (chgdC c x).things = (outC c x).things := by
    refine risBy_ext (putsF_ris _ f1) o1 fun k => ?_
    show findBy Thg.id (putsF Thg.id (c.things.filter (kp Thg.id x.drop)) x.put) k = findBy (·.id) (outC c x).things k
    have ho : findBy (·.id) (outC c x).things k = findG (idxL (outC c x).things) k := findBy_T _ _
    rw [putsF_find k _ (risT_by.1 kx.put) f1, kp_find, ho, out_things, step_find (nkT hc).nk kx.put.nk kx.drop]
    have hd : findBy Thg.id x.put k = findG (idxL x.put) k := findBy_T _ _
    have hd2 : findBy Thg.id c.things k = findG (idxL c.things) k := findBy_T _ _
    rw [hd, hd2]
    by_cases hk : k ∈ x.drop
    · rw [if_pos hk, if_pos hk]
      have : findG (idxL x.put) k = none := by
        cases hf : findG (idxL x.put) k with
        | none => rfl
        | some t => exact absurd hk (xNo hx hf)
      rw [this]
    · rw [if_neg hk, if_neg hk]; first | done | (cases findG (idxL x.put) k <;> rfl)
  have e2 : (chgdC c x).moved = (outC c x).moved := by
    refine findM_ext (putsF_ris _ f2) o2 fun k => ?_
    show (findBy Mvd.src (putsF Mvd.src (c.moved.filter (kp Mvd.src x.back)) x.add) k).map (·.dst) = (findBy (·.src) (outC c x).moved k).map (·.dst)
    rw [putsF_find k _ (risM_by.1 kx.add) f2, kp_find, findBy_M, out_moved, step_find (nkM hc).nk kx.add.nk kx.back]
    have hd : (findBy Mvd.src x.add k).map (·.dst) = findG (mvL x.add) k := findBy_M _ _
    have hd2 : (findBy Mvd.src c.moved k).map (·.dst) = findG (mvL c.moved) k := findBy_M _ _
    by_cases hk : k ∈ x.back
    · rw [if_pos hk, if_pos hk]
      have : findG (mvL x.add) k = none := by
        cases hf : findG (mvL x.add) k with
        | none => rfl
        | some t => exact absurd hk (xNoM hx hf)
      rw [this] at hd
      cases hb : findBy Mvd.src x.add k with
      | none => rfl
      | some u => rw [hb] at hd; cases hd
    · rw [if_neg hk, if_neg hk, ← hd, ← hd2]
      cases findBy Mvd.src x.add k <;> rfl
  cases h1 : chgdC c x
  cases h2 : outC c x
  rw [h1, h2] at e1 e2
  dsimp only at e1 e2
  rw [e1, e2]
def applyR (c : Ctl) (x : Chg) : Ctl × Chg × Int := if chkF c = 0 then (if chgF x = 0 then (if chkF (chgdC c x) = 0 then (chgdC c x, btwX (chgdC c x) c, 0) else (zC, zX, chkF (chgdC c x))) else (zC, zX, chgF x)) else (zC, zX, chkF c)
theorem applyR_c {c : Ctl} {x : Chg} (h : chkF c ≠ 0) : applyR c x = (zC, zX, chkF c) := if_neg h
theorem applyR_x {c : Ctl} {x : Chg} (h : chkF c = 0) (h2 : chgF x ≠ 0) : applyR c x = (zC, zX, chgF x) := by unfold applyR; rw [if_pos h, if_neg h2]
theorem applyR_o {c : Ctl} {x : Chg} (h : chkF c = 0) (h2 : chgF x = 0) (h3 : chkF (chgdC c x) ≠ 0) : applyR c x = (zC, zX, chkF (chgdC c x)) := by unfold applyR; rw [if_pos h, if_pos h2, if_neg h3]
theorem applyR_0 {c : Ctl} {x : Chg} (h : chkF c = 0) (h2 : chgF x = 0) (h3 : chkF (chgdC c x) = 0) : applyR c x = (chgdC c x, btwX (chgdC c x) c, 0) := by unfold applyR; rw [if_pos h, if_pos h2, if_pos h3]
theorem apply_same (c : Ctl) (x : Chg) : applyV c x = applyR c x := by
  by_cases hc : chkF c = 0
  · by_cases hx : chgF x = 0
    · have he := chgd_eq hc hx
      rw [applyV_0 hc hx]
      by_cases ho : chkF (outC c x) = 0
      · rw [app_0 ho, applyR_0 hc hx (by rw [he]; exact ho), he]
        have h1 : backX c x = btwX (outC c x) c := btwX_dif ho hc (backT_dif hc hx) (backM_dif hc hx)
        rw [h1]
      · rw [app_f ho, applyR_o hc hx (by rw [he]; exact ho), he]
    · rw [applyV_x hc hx, applyR_x hc hx]
  · rw [applyV_c hc, applyR_c hc]
theorem chgd_ok {c : Ctl} {x : Chg} (hc : CtlOk c) (hx : ChgOk x) : CtlOk (chgdC c x) :=
  ⟨fun t ht => (putsF_mem ht).elim (hx.put t) fun h => hc.things t (List.mem_filter.1 h).1, fun m hm => (putsF_mem hm).elim (hx.add m) fun h => hc.moved m (List.mem_filter.1 h).1⟩

set_option maxRecDepth 100000 in
set_option maxHeartbeats 4000000 in
theorem c_chgd (c : Ctl) (x : Chg) (hl : Lim c) (hx : LimX x) : ACall Tryz.prog 95 [.agg c.ds, .agg x.ds] (.agg (chgdC c x).ds) := by
 refine acall_ofR (n := 81) (ds' := [.agg (chgdC c x).ds]) Tryz.func95 rfl (by kernel_rfl) rfl [.cell 4 25] rfl rfl ?_
 intro B w0 F0 fr
 have l1 := hl.1
 have l2 := hl.2
 obtain ⟨l3, l4, l5, l6⟩ := hx
 have q1 := List.length_filter_le (kp Thg.id x.drop) c.things
 have q2 := List.length_filter_le (kp Mvd.src x.back) c.moved
 refine .sr ?_
 refine .sA (.box rfl rfl rfl) ?_
 refine .sA (.box rfl rfl rfl) ?_
 refine .alloc 101 rfl rfl rfl rfl zt_25 rfl rfl rfl (.nil ?_)
 refine .sr ?_
 refine .alloc 102 rfl rfl rfl rfl zt_25 rfl rfl rfl ?_
 refine .adoptCell 201 41 7 102 0 (.head _) rfl rfl ?_
 refine .adoptCell 202 85 2 102 1 (.tail _ (.head _)) rfl rfl ?_
 refine .nil ?_
 refine .seq ?_
 refine .sr ?_
 refine .sA (.fieldAddr rfl fo_25_0 rfl) ?_
 refine .sA (.load rfl sc_22 rfl) ?_
 refine .sA (.lenSl rfl et_22.ht rfl) ?_
 refine .mA (.nil ?_)
 refine .block ?_
 refine .loop (G := Nat) (fun k => Env.of [(17, .d (.v (.int .i64 (k : Int)))), (15, .d (.sl (c.things.map Thg.ds))), (16, .d (.v (.int .i64 ((c.things.map Thg.ds).length : Int)))), (2, .d (.fp c.ds)), (3, .d (.fp x.ds)), (4, .ptr 101 0), (5, .ptr 102 0)]) (fun k => [(202, .row 85 2 (([] : List Mvd).map Mvd.ds)), (201, .row 41 7 ((kpTo Thg.id x.drop c.things k).map Thg.ds)), (102, .cells [.own 201, .own 202]), (101, .cells [.d (.v (.slice none 0 0)), .d (.v (.slice none 0 0))])]) (fun k => k ≤ c.things.length) (fun k => c.things.length - k) 0 (Nat.zero_le _) (Sub.less ⟨(SLe.of_eq rfl), SLe.refl _, SLe.refl _, SLe.refl _, SLe.refl _, SLe.refl _, SLe.refl _, trivial⟩ (obs_e rfl)) ?_
 intro k hk
 refine .sr ?_
 refine .sA (.lss rfl rfl rfl) (.nil ?_)
 refine .seq ?_
 refine .cond rfl (fun h1 => ?_) (fun h1 => ?_)
 ·replace h1 := of_decide_eq_true h1
  rw [List.length_map] at h1
  have hlt : k < c.things.length := by omega
  have hq := kpTo_len (f := Thg.id) x.drop c.things k
  refine .skip ?_
  refine .seq ?_
  refine .block ?_
  refine .sr ?_
  refine .sA (.indexAddr rfl et_22 rfl rfl k rfl (at_lst hlt) rfl) ?_
  refine .sA (.loadAgg rfl ag_41 rfl rfl) ?_
  refine .alloc 103 rfl rfl rfl rfl zt_41 rfl rfl rfl ?_
  refine .store rfl rfl rfl sz_41 rfl (.head _) rfl rfl rfl (Nat.le_of_ble_eq_true rfl) ?_
  refine .freezeCells 7 (ds := c.things[k].ds) rfl (.head _) (.nil ?_)
  refine .sr ?_
  refine .sA (.fieldAddr rfl fo_35_1 rfl) ?_
  refine .sA (.load rfl sc_33 rfl) ?_
  refine .sA (.fieldAddr rfl fo_41_0 rfl) ?_
  refine .sA (.load rfl sc_3 rfl) ?_
  refine .sA (.call rfl (.cons (.rfl' rfl) (.cons (.rfl' rfl) .nil)) (c_containsInt _ _)) ?_
  refine .sA (.not rfl rfl) (.nil ?_)
  refine .cond rfl (fun h2 => ?_) (fun h2 => ?_)
  ·replace h2 := bnot_t h2; replace h2 := of_decide_eq_false h2
   have HB := kp_yes (f := Thg.id) hlt h2
   refine .region ?_
   refine .sA (.fieldAddrP rfl fo_25_0 rfl) ?_
   refine .sA (.loadP rfl sc_22 rfl (.tail _ (.tail _ (.head _))) rfl) ?_
   refine .sA (.loadAgg rfl ag_41 rfl rfl) ?_
   refine .sA (.buildSlice rfl et_22 (.cons rfl rfl rfl .nil) rfl (by decide)) ?_
   -- append 31
   refine .append rfl rfl rfl rfl et_22 rfl (.tail _ (.head _)) rfl (fun y hy => by obtain rfl := List.mem_singleton.1 hy; rfl) (by simp; omega) (by simp; omega) ?_
   refine .sA (.fieldAddrP rfl fo_25_0 rfl) ?_
   refine .storeS rfl rfl rfl sz_22 rfl (.tail _ (.tail _ (.head _))) rfl (.tail _ (.head _)) (Nat.le_of_ble_eq_true rfl) (.nil ?_)
   refine .region ?_
   refine .sA (.add64 rfl rfl rfl (by omega) (by omega)) ?_
   refine .mA (.nil ?_)
   refine ⟨k + 1, (by dsimp only; omega), (by dsimp only; omega), Sub.less ⟨(SLe.of_eq rfl), SLe.refl _, SLe.refl _, SLe.refl _, SLe.refl _, SLe.refl _, SLe.refl _, trivial⟩ (obs_e (by dsimp only; rw [HB]; first | done | (rw [List.map_append]; rfl) | rfl))⟩
  replace h2 := bnot_f h2; replace h2 := of_decide_eq_true h2
  have HB := kp_no (f := Thg.id) hlt (by first | exact h2 | exact Decidable.not_not.1 h2)
  refine .skip ?_
  refine .region ?_
  refine .sA (.add64 rfl rfl rfl (by omega) (by omega)) ?_
  refine .mA (.nil ?_)
  refine ⟨k + 1, (by dsimp only; omega), (by dsimp only; omega), Sub.less ⟨(SLe.of_eq rfl), SLe.refl _, SLe.refl _, SLe.refl _, SLe.refl _, SLe.refl _, SLe.refl _, trivial⟩ (obs_e (by dsimp only; rw [HB]; first | done | (rw [List.map_append]; rfl) | rfl))⟩
 replace h1 := of_decide_eq_false h1
 rw [List.length_map] at h1
 obtain rfl : k = c.things.length := by omega
 rw [kpTo_all]
 refine .exit ?_
 refine .seq ?_
 refine .seq ?_
 refine .freezeIn 102 0 rfl (.tail _ (.head _)) (.tail _ (.head _)) ?_
 refine .region ?_
 refine .sA (.fieldAddr rfl fo_35_0 rfl) ?_
 refine .sA (.load rfl sc_22 rfl) ?_
 refine .sA (.lenSl rfl et_22.ht rfl) ?_
 refine .mA (.nil ?_)
 refine .block ?_
 refine .loop (G := Nat) (fun j => Env.of [(37, .d (.v (.int .i64 (j : Int)))), (35, .d (.sl (x.put.map Thg.ds))), (36, .d (.v (.int .i64 ((x.put.map Thg.ds).length : Int)))), (2, .d (.fp c.ds)), (3, .d (.fp x.ds)), (4, .ptr 101 0), (5, .ptr 102 0)]) (fun j => [(202, .row 85 2 (([] : List Mvd).map Mvd.ds)), (102, .cells [.d (.sl ((putsF Thg.id (c.things.filter (kp Thg.id x.drop)) (x.put.take j)).map Thg.ds)), .own 202]), (101, .cells [.d (.v (.slice none 0 0)), .d (.v (.slice none 0 0))])]) (fun j => j ≤ x.put.length) (fun j => x.put.length - j) 0 (Nat.zero_le _) (Sub.less ⟨(SLe.of_eq rfl), SLe.refl _, SLe.refl _, SLe.refl _, SLe.refl _, SLe.refl _, SLe.refl _, trivial⟩ (obs_e rfl)) ?_
 intro j hj
 refine .sr ?_
 refine .sA (.lss rfl rfl rfl) (.nil ?_)
 refine .seq ?_
 refine .cond rfl (fun h3 => ?_) (fun h3 => ?_)
 ·replace h3 := of_decide_eq_true h3
  rw [List.length_map] at h3
  have hlt : j < x.put.length := by omega
  have hq := putsF_take (f := Thg.id) (l := (c.things.filter (kp Thg.id x.drop))) (E := x.put) j
  have HB := putsF_next (f := Thg.id) (l := (c.things.filter (kp Thg.id x.drop))) hlt
  refine .skip ?_
  refine .seq ?_
  refine .block ?_
  refine .sr ?_
  refine .sA (.indexAddr rfl et_22 rfl rfl j rfl (at_lst hlt) rfl) ?_
  refine .sA (.loadAgg rfl ag_41 rfl rfl) ?_
  refine .alloc 104 rfl rfl rfl rfl zt_41 rfl rfl rfl ?_
  refine .store rfl rfl rfl sz_41 rfl (.head _) rfl rfl rfl (Nat.le_of_ble_eq_true rfl) ?_
  refine .freezeCells 9 (ds := x.put[j].ds) rfl (.head _) (.nil ?_)
  refine .region ?_
  refine .sA (.fieldAddrP rfl fo_25_0 rfl) ?_
  refine .sA (.loadP rfl sc_22 rfl (.tail _ (.head _)) rfl) ?_
  refine .sA (.loadAgg rfl ag_41 rfl rfl) ?_
  refine .sA (.call rfl (.cons (.rfl' rfl) (.cons (.rfl' rfl) .nil)) (c_putT (putsF Thg.id (c.things.filter (kp Thg.id x.drop)) (x.put.take j)) x.put[j] (by omega))) ?_
  refine .sA (.fieldAddrP rfl fo_25_0 rfl) ?_
  refine .store rfl rfl rfl sz_22 rfl (.tail _ (.head _)) rfl rfl rfl (Nat.le_of_ble_eq_true rfl) (.nil ?_)
  refine .region ?_
  refine .sA (.add64 rfl rfl rfl (by omega) (by omega)) ?_
  refine .mA (.nil ?_)
  refine ⟨j + 1, (by dsimp only; omega), (by dsimp only; omega), Sub.less ⟨(SLe.of_eq rfl), SLe.refl _, SLe.refl _, SLe.refl _, SLe.refl _, SLe.refl _, SLe.refl _, trivial⟩ (obs_e (by dsimp only; rw [HB]; first | done | (rw [List.map_append]; rfl) | rfl))⟩
 replace h3 := of_decide_eq_false h3
 rw [List.length_map] at h3
 obtain rfl : j = x.put.length := by omega
 rw [List.take_length]
 refine .exit ?_
 refine .seq ?_
 refine .sr ?_
 refine .sA (.fieldAddr rfl fo_25_1 rfl) ?_
 refine .sA (.load rfl sc_23 rfl) ?_
 refine .sA (.lenSl rfl et_23.ht rfl) ?_
 refine .mA (.nil ?_)
 refine .block ?_
 refine .loop (G := Nat) (fun m => Env.of [(50, .d (.v (.int .i64 (m : Int)))), (48, .d (.sl (c.moved.map Mvd.ds))), (49, .d (.v (.int .i64 ((c.moved.map Mvd.ds).length : Int)))), (2, .d (.fp c.ds)), (3, .d (.fp x.ds)), (4, .ptr 101 0), (5, .ptr 102 0)]) (fun m => [(202, .row 85 2 ((kpTo Mvd.src x.back c.moved m).map Mvd.ds)), (102, .cells [.d (.sl ((putsF Thg.id (c.things.filter (kp Thg.id x.drop)) x.put).map Thg.ds)), .own 202]), (101, .cells [.d (.v (.slice none 0 0)), .d (.v (.slice none 0 0))])]) (fun m => m ≤ c.moved.length) (fun m => c.moved.length - m) 0 (Nat.zero_le _) (Sub.less ⟨(SLe.of_eq rfl), SLe.refl _, SLe.refl _, SLe.refl _, SLe.refl _, SLe.refl _, SLe.refl _, trivial⟩ (obs_e rfl)) ?_
 intro m hm
 refine .sr ?_
 refine .sA (.lss rfl rfl rfl) (.nil ?_)
 refine .seq ?_
 refine .cond rfl (fun h4 => ?_) (fun h4 => ?_)
 ·replace h4 := of_decide_eq_true h4
  rw [List.length_map] at h4
  have hlt : m < c.moved.length := by omega
  have hq := kpTo_len (f := Mvd.src) x.back c.moved m
  refine .skip ?_
  refine .seq ?_
  refine .block ?_
  refine .sr ?_
  refine .sA (.indexAddr rfl et_23 rfl rfl m rfl (at_lst hlt) rfl) ?_
  refine .sA (.loadAgg rfl ag_85 rfl rfl) ?_
  refine .alloc 105 rfl rfl rfl rfl zt_85 rfl rfl rfl ?_
  refine .store rfl rfl rfl sz_85 rfl (.head _) rfl rfl rfl (Nat.le_of_ble_eq_true rfl) ?_
  refine .freezeCells 11 (ds := c.moved[m].ds) rfl (.head _) (.nil ?_)
  refine .sr ?_
  refine .sA (.fieldAddr rfl fo_35_3 rfl) ?_
  refine .sA (.load rfl sc_33 rfl) ?_
  refine .sA (.fieldAddr rfl fo_85_0 rfl) ?_
  refine .sA (.load rfl sc_3 rfl) ?_
  refine .sA (.call rfl (.cons (.rfl' rfl) (.cons (.rfl' rfl) .nil)) (c_containsInt _ _)) ?_
  refine .sA (.not rfl rfl) (.nil ?_)
  refine .cond rfl (fun h5 => ?_) (fun h5 => ?_)
  ·replace h5 := bnot_t h5; replace h5 := of_decide_eq_false h5
   have HB := kp_yes (f := Mvd.src) hlt h5
   refine .region ?_
   refine .sA (.fieldAddrP rfl fo_25_1 rfl) ?_
   refine .sA (.loadP rfl sc_23 rfl (.tail _ (.head _)) rfl) ?_
   refine .sA (.loadAgg rfl ag_85 rfl rfl) ?_
   refine .sA (.buildSlice rfl et_23 (.cons rfl rfl rfl .nil) rfl (by decide)) ?_
   -- append 64
   refine .append rfl rfl rfl rfl et_23 rfl (.head _) rfl (fun y hy => by obtain rfl := List.mem_singleton.1 hy; rfl) (by simp; omega) (by simp; omega) ?_
   refine .sA (.fieldAddrP rfl fo_25_1 rfl) ?_
   refine .storeS rfl rfl rfl sz_23 rfl (.tail _ (.head _)) rfl (.head _) (Nat.le_of_ble_eq_true rfl) (.nil ?_)
   refine .region ?_
   refine .sA (.add64 rfl rfl rfl (by omega) (by omega)) ?_
   refine .mA (.nil ?_)
   refine ⟨m + 1, (by dsimp only; omega), (by dsimp only; omega), Sub.less ⟨(SLe.of_eq rfl), SLe.refl _, SLe.refl _, SLe.refl _, SLe.refl _, SLe.refl _, SLe.refl _, trivial⟩ (obs_e (by dsimp only; rw [HB]; first | done | (rw [List.map_append]; rfl) | rfl))⟩
  replace h5 := bnot_f h5; replace h5 := of_decide_eq_true h5
  have HB := kp_no (f := Mvd.src) hlt (by first | exact h5 | exact Decidable.not_not.1 h5)
  refine .skip ?_
  refine .region ?_
  refine .sA (.add64 rfl rfl rfl (by omega) (by omega)) ?_
  refine .mA (.nil ?_)
  refine ⟨m + 1, (by dsimp only; omega), (by dsimp only; omega), Sub.less ⟨(SLe.of_eq rfl), SLe.refl _, SLe.refl _, SLe.refl _, SLe.refl _, SLe.refl _, SLe.refl _, trivial⟩ (obs_e (by dsimp only; rw [HB]; first | done | (rw [List.map_append]; rfl) | rfl))⟩
 replace h4 := of_decide_eq_false h4
 rw [List.length_map] at h4
 obtain rfl : m = c.moved.length := by omega
 rw [kpTo_all]
 refine .exit ?_
 refine .seq ?_
 refine .seq ?_
 refine .freezeIn 102 1 rfl (.head _) (.head _) ?_
 refine .region ?_
 refine .sA (.fieldAddr rfl fo_35_2 rfl) ?_
 refine .sA (.load rfl sc_23 rfl) ?_
 refine .sA (.lenSl rfl et_23.ht rfl) ?_
 refine .mA (.nil ?_)
 refine .block ?_
 refine .loop (G := Nat) (fun n => Env.of [(70, .d (.v (.int .i64 (n : Int)))), (68, .d (.sl (x.add.map Mvd.ds))), (69, .d (.v (.int .i64 ((x.add.map Mvd.ds).length : Int)))), (2, .d (.fp c.ds)), (3, .d (.fp x.ds)), (4, .ptr 101 0), (5, .ptr 102 0)]) (fun n => [(102, .cells [.d (.sl ((putsF Thg.id (c.things.filter (kp Thg.id x.drop)) x.put).map Thg.ds)), .d (.sl ((putsF Mvd.src (c.moved.filter (kp Mvd.src x.back)) (x.add.take n)).map Mvd.ds))]), (101, .cells [.d (.v (.slice none 0 0)), .d (.v (.slice none 0 0))])]) (fun n => n ≤ x.add.length) (fun n => x.add.length - n) 0 (Nat.zero_le _) (Sub.less ⟨(SLe.of_eq rfl), SLe.refl _, SLe.refl _, SLe.refl _, SLe.refl _, SLe.refl _, SLe.refl _, trivial⟩ (obs_e rfl)) ?_
 intro n hn
 refine .sr ?_
 refine .sA (.lss rfl rfl rfl) (.nil ?_)
 refine .seq ?_
 refine .cond rfl (fun h6 => ?_) (fun h6 => ?_)
 ·replace h6 := of_decide_eq_true h6
  rw [List.length_map] at h6
  have hlt : n < x.add.length := by omega
  have hq := putsF_take (f := Mvd.src) (l := (c.moved.filter (kp Mvd.src x.back))) (E := x.add) n
  have HB := putsF_next (f := Mvd.src) (l := (c.moved.filter (kp Mvd.src x.back))) hlt
  refine .skip ?_
  refine .seq ?_
  refine .block ?_
  refine .sr ?_
  refine .sA (.indexAddr rfl et_23 rfl rfl n rfl (at_lst hlt) rfl) ?_
  refine .sA (.loadAgg rfl ag_85 rfl rfl) ?_
  refine .alloc 106 rfl rfl rfl rfl zt_85 rfl rfl rfl ?_
  refine .store rfl rfl rfl sz_85 rfl (.head _) rfl rfl rfl (Nat.le_of_ble_eq_true rfl) ?_
  refine .freezeCells 13 (ds := x.add[n].ds) rfl (.head _) (.nil ?_)
  refine .region ?_
  refine .sA (.fieldAddrP rfl fo_25_1 rfl) ?_
  refine .sA (.loadP rfl sc_23 rfl (.head _) rfl) ?_
  refine .sA (.loadAgg rfl ag_85 rfl rfl) ?_
  refine .sA (.call rfl (.cons (.rfl' rfl) (.cons (.rfl' rfl) .nil)) (c_putM (putsF Mvd.src (c.moved.filter (kp Mvd.src x.back)) (x.add.take n)) x.add[n] (by omega))) ?_
  refine .sA (.fieldAddrP rfl fo_25_1 rfl) ?_
  refine .store rfl rfl rfl sz_23 rfl (.head _) rfl rfl rfl (Nat.le_of_ble_eq_true rfl) (.nil ?_)
  refine .region ?_
  refine .sA (.add64 rfl rfl rfl (by omega) (by omega)) ?_
  refine .mA (.nil ?_)
  refine ⟨n + 1, (by dsimp only; omega), (by dsimp only; omega), Sub.less ⟨(SLe.of_eq rfl), SLe.refl _, SLe.refl _, SLe.refl _, SLe.refl _, SLe.refl _, SLe.refl _, trivial⟩ (obs_e (by dsimp only; rw [HB]; first | done | (rw [List.map_append]; rfl) | rfl))⟩
 replace h6 := of_decide_eq_false h6
 rw [List.length_map] at h6
 obtain rfl : n = x.add.length := by omega
 rw [List.take_length]
 refine .exit ?_
 refine .sr ?_
 refine .sA (.loadPU rfl ag_25 rfl (.head _) rfl rfl) ?_
 refine .store rfl rfl rfl sz_25 rfl (.tail _ (.head _)) rfl rfl rfl (Nat.le_of_ble_eq_true rfl) (.nil ?_)
 refine .ret ?_
 refine ⟨RetR.agg rfl (.tail _ (.head _)) ag_25 rfl (.cons .d (.cons .d .nil)), trivial⟩
 all_goals (rfl)


/-! Types. -/
namespace TyMA
end TyMA
open TyH3 TyH5 TyJ3 TyJ4 TyJ5 TyKA TyKB TyKC TyKD TyKE TyKF TyKG TyLA TyLB TyLC TyLD TyLE TyLF TyLG TyLH TyLI TyLJ TyLK TyLL TyLM TyLN TyLO TyLP TyLQ TyLR TyLS TyLT TyLU TyLV TyLW TyLX TyLY TyMA

set_option maxRecDepth 100000 in
set_option maxHeartbeats 1000000 in
theorem c_rApply (c : Ctl) (x : Chg) (hc : CtlOk c) (hx : ChgOk x) (hp : x.put.length ≤ 1048576) (ha : x.add.length ≤ 1048576) : ACallT Tryz.prog MaxT 54 [.agg c.ds, .agg x.ds] (.tup [.agg (applyR c x).1.ds, .agg (applyR c x).2.1.ds, .v (.int .i64 (applyR c x).2.2)]) := by
 refine acall_ofRT (n := 39) (ds' := [.agg (applyR c x).1.ds, .agg (applyR c x).2.1.ds, .v (.int .i64 (applyR c x).2.2)]) Tryz.func54 rfl (by kernel_rfl) rfl [.cell 4 25, .cell 5 35, .tmp 6] rfl rfl ?_
 intro B w0 F0 hT
 refine .sr ?_
 refine .sA (.box rfl rfl rfl) ?_
 refine .sA (.box rfl rfl rfl) ?_
 refine .alloc 101 rfl rfl rfl rfl zt_25 rfl rfl rfl ?_
 refine .alloc 102 rfl rfl rfl rfl zt_35 rfl rfl rfl ?_
 refine .aA (.nil ?_)
 refine .seq ?_
 refine .sr ?_
 refine .sA (.loadAgg rfl ag_25 rfl rfl) ?_
 -- wants the world
 refine .callT rfl rfl rfl hT maxT_stays rfl (.cons (.rfl' rfl) .nil) (c_rChk c hc) ?_
 refine .aA (.nil ?_)
 refine .sr ?_
 refine .mA ?_
 refine .sA (.neq rfl rfl rfl) (.nil ?_)
 refine .cond rfl (fun h1 => ?_) (fun h1 => ?_)
 ·replace h1 := of_decide_eq_true h1
  rw [applyR_c (by first | exact h1 | omega)]
  refine .sr ?_
  refine .sA (.build rfl bu_25 .nil rfl) ?_
  refine .sA (.build rfl bu_35 .nil rfl) ?_
  refine .mA ?_
  refine .store rfl rfl rfl sz_25 rfl (.tail _ (.head _)) rfl rfl rfl (Nat.le_of_ble_eq_true rfl) ?_
  refine .store rfl rfl rfl sz_35 rfl (.head _) rfl rfl rfl (Nat.le_of_ble_eq_true rfl) ?_
  refine .aA (.nil ?_)
  refine .ret ?_
  refine ⟨RetR.agg rfl (.tail _ (.head _)) ag_25 rfl (.cons .nil (.cons .nil .nil)), RetR.agg rfl (.head _) ag_35 rfl (.cons .nil (.cons .nil (.cons .nil (.cons .nil .nil)))), RetD.eq rfl ?_, trivial⟩
  all_goals (rfl)
 replace h1 := of_decide_eq_false h1
 have k0 : chkF c = 0 := (by first | exact h1 | omega)
 refine .skip ?_
 refine .seq ?_
 refine .sr ?_
 refine .sA (.loadAgg rfl ag_35 rfl rfl) ?_
 refine .sA (.call rfl (.cons (.rfl' rfl) .nil) (c_rCC x hp ha)) ?_
 refine .aA (.nil ?_)
 refine .sr ?_
 refine .mA ?_
 refine .sA (.neq rfl rfl rfl) (.nil ?_)
 refine .cond rfl (fun h2 => ?_) (fun h2 => ?_)
 ·replace h2 := of_decide_eq_true h2
  rw [applyR_x k0 (by first | exact h2 | omega)]
  refine .sr ?_
  refine .sA (.build rfl bu_25 .nil rfl) ?_
  refine .sA (.build rfl bu_35 .nil rfl) ?_
  refine .mA ?_
  refine .store rfl rfl rfl sz_25 rfl (.tail _ (.head _)) rfl rfl rfl (Nat.le_of_ble_eq_true rfl) ?_
  refine .store rfl rfl rfl sz_35 rfl (.head _) rfl rfl rfl (Nat.le_of_ble_eq_true rfl) ?_
  refine .aA (.nil ?_)
  refine .ret ?_
  refine ⟨RetR.agg rfl (.tail _ (.head _)) ag_25 rfl (.cons .nil (.cons .nil .nil)), RetR.agg rfl (.head _) ag_35 rfl (.cons .nil (.cons .nil (.cons .nil (.cons .nil .nil)))), RetD.eq rfl ?_, trivial⟩
  all_goals (rfl)
 replace h2 := of_decide_eq_false h2
 have x0 : chgF x = 0 := (by first | exact h2 | omega)
 refine .skip ?_
 refine .sr ?_
 refine .sA (.loadAgg rfl ag_25 rfl rfl) ?_
 refine .sA (.loadAgg rfl ag_35 rfl rfl) ?_
 refine .sA (.call rfl (.cons (.rfl' rfl) (.cons (.rfl' rfl) .nil)) (c_chgd c x (catOk k0).lim (limX x0))) ?_
 refine .alloc 103 rfl rfl rfl rfl zt_25 rfl rfl rfl ?_
 refine .store rfl rfl rfl sz_25 rfl (.head _) rfl rfl rfl (Nat.le_of_ble_eq_true rfl) ?_
 refine .freezeCells 9 (ds := (chgdC c x).ds) rfl (.head _) (.nil ?_)
 refine .seq ?_
 refine .sr ?_
 refine .sA (.loadAgg rfl ag_25 rfl rfl) ?_
 -- wants the world
 refine .callT rfl rfl rfl hT maxT_stays rfl (.cons (.rfl' rfl) .nil) (c_rChk _ (chgd_ok hc hx)) ?_
 refine .aA (.nil ?_)
 refine .sr ?_
 refine .mA ?_
 refine .sA (.neq rfl rfl rfl) (.nil ?_)
 refine .cond rfl (fun h3 => ?_) (fun h3 => ?_)
 ·replace h3 := of_decide_eq_true h3
  rw [applyR_o k0 x0 (by first | exact h3 | omega)]
  refine .sr ?_
  refine .sA (.build rfl bu_25 .nil rfl) ?_
  refine .sA (.build rfl bu_35 .nil rfl) ?_
  refine .mA ?_
  refine .store rfl rfl rfl sz_25 rfl (.tail _ (.head _)) rfl rfl rfl (Nat.le_of_ble_eq_true rfl) ?_
  refine .store rfl rfl rfl sz_35 rfl (.head _) rfl rfl rfl (Nat.le_of_ble_eq_true rfl) ?_
  refine .aA (.nil ?_)
  refine .ret ?_
  refine ⟨RetR.agg rfl (.tail _ (.head _)) ag_25 rfl (.cons .nil (.cons .nil .nil)), RetR.agg rfl (.head _) ag_35 rfl (.cons .nil (.cons .nil (.cons .nil (.cons .nil .nil)))), RetD.eq rfl ?_, trivial⟩
  all_goals (rfl)
 replace h3 := of_decide_eq_false h3
 have o0 : chkF (chgdC c x) = 0 := (by first | exact h3 | omega)
 rw [applyR_0 k0 x0 o0]
 refine .skip ?_
 refine .seq ?_
 refine .drawTail 4 (by kernel_rfl) (by kernel_rfl) (by kernel_rfl) ?_
 refine .sA (.loadAgg rfl ag_25 rfl rfl) ?_
 refine .sA (.loadAgg rfl ag_25 rfl rfl) ?_
 refine .sA (.loadAgg rfl ag_25 rfl rfl) ?_
 refine .sA (.call rfl (.cons (.rfl' rfl) (.cons (.rfl' rfl) .nil)) (c_btw (chgdC c x) c (catOk o0).lim.two (catOk k0).lim.two)) ?_
 refine .nil ?_
 refine .store rfl rfl rfl sz_25 rfl (.tail _ (.head _)) rfl rfl rfl (Nat.le_of_ble_eq_true rfl) ?_
 refine .store rfl rfl rfl sz_35 rfl (.head _) rfl rfl rfl (Nat.le_of_ble_eq_true rfl) ?_
 refine .aA (.nil ?_)
 refine .ret ?_
 refine ⟨RetR.agg rfl (.tail _ (.head _)) ag_25 rfl (.cons .d (.cons .d .nil)), RetR.agg rfl (.head _) ag_35 rfl (.cons .d (.cons .d (.cons .d (.cons .d .nil)))), RetD.eq rfl ?_, trivial⟩
 all_goals (rfl)


/-! Types. -/
namespace TyNA
end TyNA
open TyH3 TyH5 TyJ3 TyJ4 TyJ5 TyKA TyKB TyKC TyKD TyKE TyKF TyKG TyLA TyLB TyLC TyLD TyLE TyLF TyLG TyLH TyLI TyLJ TyLK TyLL TyLM TyLN TyLO TyLP TyLQ TyLR TyLS TyLT TyLU TyLV TyLW TyLX TyLY TyMA TyNA

/-- The catalogue behind the changes; the ways back; the first fault. -/
def plC (c : Ctl) (l : List Chg) : Ctl := l.foldl (fun c x => (applyV c x).1) c
def plB : Ctl → List Chg → List Chg
  | _, [] => []
  | c, x :: l => (applyV c x).2.1 :: plB (applyV c x).1 l
def plF : Ctl → List Chg → Int
  | _, [] => 0
  | c, x :: l => if (applyV c x).2.2 = 0 then plF (applyV c x).1 l else (applyV c x).2.2
section
variable {c : Ctl} {l : List Chg} {k : Nat}
end
def playV (c : Ctl) (l : List Chg) : Ctl × List Chg × Int := if chkF c = 0 then (if l.length ≤ 100 then (if plF c l = 0 then (plC c l, (plB c l).reverse, 0) else (zC, [], plF c l)) else (zC, [], 2)) else (zC, [], chkF c)
/-- Two elements change places. -/
def sw {α : Type} (l : List α) (i j : Nat) : List α := match l[i]?, l[j]? with
  | some x, some y => (l.set i y).set j x
  | _, _ => l
/-- The first k of both ends have changed places. -/
def revTo {α : Type} (l : List α) : Nat → List α
  | 0 => l
  | k + 1 => sw (revTo l k) k (l.length - 1 - k)
structure Dsp where
  id : Int
  mv : Bool
def Dsp.ds (x : Dsp) : List D := [.v (.int .i64 x.id), .v (.bool x.mv)]


/-! Types. -/
namespace TyNC
end TyNC
open TyH3 TyH5 TyJ3 TyJ4 TyJ5 TyKA TyKB TyKC TyKD TyKE TyKF TyKG TyLA TyLB TyLC TyLD TyLE TyLF TyLG TyLH TyLI TyLJ TyLK TyLL TyLM TyLN TyLO TyLP TyLQ TyLR TyLS TyLT TyLU TyLV TyLW TyLX TyLY TyMA TyNA TyNC

set_option linter.unusedSectionVars false
set_option linter.unusedSimpArgs false
section
variable {β : Type} [DecidableEq β]
def lkG (T : GL (Option β)) (k : Int) : Option β := (findG T k).join
def pkG (o p q : GL (Option β)) (k : Int) : Option β := if lkG p k = lkG o k then lkG q k else lkG p k
def disG (o p q : GL (Option β)) (k : Int) : Bool := !decide (lkG p k = lkG o k) && (!decide (lkG q k = lkG o k) && !decide (lkG p k = lkG q k))
def tgE (o p q : GL (Option β)) (ids : List Int) : GL (Option β) := ids.map fun k => (k, pkG o p q k)
def tgG (o p q : GL (Option β)) (ids : List Int) : GL (Option β) := putAll [] (tgE o p q ids)
def tgTo (o p q : GL (Option β)) (ids : List Int) (n : Nat) : GL (Option β) := tgG o p q (ids.take n)
def dgTo (o p q : GL (Option β)) (ids : List Int) (n : Nat) : List Int := (ids.take n).filter (disG o p q)
def ov3 (o p q : GL (Option β)) : GL (Option β) := putAll (putAll (putAll [] o) p) q
def idG (o p q : GL (Option β)) : List Int := keysG (ov3 o p q)
variable {o p q : GL (Option β)} {ids : List Int} {n : Nat}
end

end Go.Proofs.YtgldfnkbpopanaaGreatDoor
