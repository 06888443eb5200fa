/- Walks and laws over abstract values, merged by tools/merge.py. No statement of the seat. -/
import Derived.WalkKit
import Derived.Ground.NamesProg
import Derived.Shelf.LaysM
import Derived.Test.YtagdgclfnbiahaaDoorProg
import Derived.Test.YtagdgclfnbiahaaDoorZG5

namespace Go.Proofs.YtagdgclfnbiahaaDoor
open Go.RowKit
set_option linter.unusedVariables false

/-! Types. -/
namespace TySBQ
theorem zt_78 : (Tryd.prog.info? 78).bind (·.zero) = some (.agg #[(.int .i64 0), (.slice none 0 0), (.int .i64 0), (.int .i64 0), (.slice none 0 0), (.bool false)]) := by kernel_rfl
end TySBQ
open TyXA TyXB TySBA TySBB TySBC TySBD TySBE TySBF TySBG TySBH TySBI TySBJ TySBK TyV1 TyV2 TyV3 TyV4 TyV5 TyV6 TyV7 TyV8 TySBL TySBM TySBN TySBO TySBP TySBQ

set_option linter.unusedSimpArgs false
theorem nts_get {l : List Nt} (no : NtsOk l) {k : Nat} (hk : k < l.length) : ntF l[k] = 0 ∧ isName l[k].name.data.toList = true ∧ (l[k].name.size ≤ 40 ∧ l[k].text.size ≤ 200) ∧ ∀ m ∈ l.take k, m.name ≠ l[k].name := by
  have hm := List.getElem_mem hk
  have h0 : ntF l[k] = 0 := by
    unfold ntF
    rw [if_neg (by rw [no.nm _ hm]; decide), if_neg (by rw [no.tx _ hm]; decide), if_neg (by have := no.ts _ hm; omega)]
  exact ⟨h0, no.nm _ hm, nt_sz (fun hh => hh h0), fun m h1 he => no.two k hk (List.mem_map.2 ⟨m, h1, by rw [he]⟩)⟩
def datT (s : Snd) : List (List (List D)) := s.tracks.map fun t => t.map sI
/-- What is held behind k chunks. -/
def stO (s : Snd) (l : List Nt) : Nat → Obs
  | 0 => [(920, .cells rd0), (930, .row 54 2 [])]
  | k + 1 => [(920, .cells (rdS s (decide (l.length < k)))), (930, .row 54 2 ((l.take k).map Nt.ds))] ++ trO (if l.length < k then datT s else zerT s)
theorem stO_S (s : Snd) (l : List Nt) (k : Nat) : stO s l (k + 1) = [(920, .cells (rdS s (decide (l.length < k)))), (930, .row 54 2 ((l.take k).map Nt.ds))] ++ trO (if l.length < k then datT s else zerT s) := rfl
theorem trO_ids {L : List (List (List D))} {q : Nat × Ob} (h : q ∈ trO L) : q.1 = 101 ∨ 1000 ≤ q.1 := famS_ids h
theorem stO_ids {s : Snd} {l : List Nt} {k : Nat} {q : Nat × Ob} (h : q ∈ stO s l k) : q.1 = 920 ∨ q.1 = 930 ∨ q.1 = 101 ∨ 1000 ≤ q.1 := by
  cases k with
  | zero =>
    rcases List.mem_cons.1 h with rfl | h
    · exact .inl rfl
    · rw [List.mem_singleton.1 h]; exact .inr (.inl rfl)
  | succ k =>
    rcases List.mem_cons.1 h with rfl | h
    · exact .inl rfl
    · rcases List.mem_cons.1 h with rfl | h
      · exact .inr (.inl rfl)
      · exact .inr (.inr (trO_ids h))
theorem stO_fresh {s : Snd} {l : List Nt} {k : Nat} : Obs.fresh 603 (stO s l k) = true := by
  cases k with
  | zero => rfl
  | succ k => exact fK rfl rfl
theorem stO_kill {s : Snd} {l : List Nt} {k : Nat} : Obs.kill 603 (stO s l k) = stO s l k := by
  cases k with
  | zero => rfl
  | succ k => exact kEq rfl rfl
theorem stO_upd {s : Snd} {l : List Nt} {k : Nat} {o : Ob} : Obs.upd 603 o (stO s l k) = stO s l k := by
  refine upd_hi fun p hp => ?_
  rcases stO_ids hp with h | h | h | h <;> omega
theorem del_hi {i : Nat} : ∀ {pre : Obs}, (∀ p ∈ pre, p.1 ≠ i) → Obs.del i pre = pre
  | [], _ => rfl
  | p :: l, h => by rw [del_f (beqF (h p List.mem_cons_self)), del_hi fun q hq => h q (List.mem_cons_of_mem _ hq)]
theorem stO_del {s : Snd} {l : List Nt} {k : Nat} : Obs.del 603 (stO s l k) = stO s l k := by
  refine del_hi fun p hp => ?_
  rcases stO_ids hp with h | h | h | h <;> omega
theorem idsS_killP {c : Nat → Bool} {n : Nat} (h : ∀ i, 1000 ≤ i → c i = false) : (idsS 1000 n).map (fun ss => ss.map (S.killP c)) = idsS 1000 n := by
  unfold idsS
  rw [List.map_map]
  refine List.map_congr_left fun j _ => ?_
  show [S.killP c (.own (1000 + j))] = _
  simp only [S.killP, h _ (Nat.le_add_right 1000 j)]
theorem trO_killP {L : List (List (List D))} {q : Nat × Ob} {c : Nat → Bool} (h : q ∈ trO L) (hc : ∀ i, 1000 ≤ i → c i = false) : (q.1, q.2.killP c) = q := by
  rcases List.mem_cons.1 h with rfl | h
  · show (101, Ob.rowS _ 1 ((idsS 1000 L.length).map fun ss => ss.map (S.killP c))) = _
    rw [idsS_killP hc]
  · obtain ⟨m, x, _, rfl⟩ := fam_mem h
    rfl
theorem chgN_hi {i : Nat} (h : i = 101 ∨ 1000 ≤ i) : chgN i = false := by
  unfold chgN
  rcases h with rfl | h
  · rfl
  · have : Nat.blt i 940 = false := by rw [Bool.eq_false_iff]; intro hh; rw [Nat.blt_eq] at hh; omega
    rw [this, Bool.and_false]
theorem le_R {i : Nat} (h : chgR i = true) : chgT i = true := by
  unfold chgR at h
  unfold chgT
  rw [h]; rfl
theorem le_N {i : Nat} (h : chgN i = true) : chgT i = true := by unfold chgT; rw [h, Bool.or_true]
theorem chks_k0 (s : Snd) (l : List Nt) : (chksOf s l)[0]? = some (formC s) := rfl
theorem chks_len2 (s : Snd) (l : List Nt) : (chksOf s l).length = l.length + 2 := by unfold chksOf; simp
theorem chks_kN {s : Snd} {l : List Nt} {k : Nat} (h : k < l.length) : (chksOf s l)[k + 1]? = some (noteC l[k]) := by
  unfold chksOf
  rw [List.append_assoc, List.getElem?_append_right (by simp)]
  show (l.map noteC ++ [dataC s])[k + 1 - 1]? = _
  rw [Nat.add_sub_cancel, List.getElem?_append_left (by simpa using h), List.getElem?_map, List.getElem?_eq_getElem h]; rfl
theorem chks_kD (s : Snd) (l : List Nt) : (chksOf s l)[l.length + 1]? = some (dataC s) := by
  unfold chksOf
  rw [List.getElem?_append_right (by simp)]
  simp
theorem c_takeK {s : Snd} {l : List Nt} (ok : SndOk s) (no : NtsOk l) {k : Nat} (hk : k < (chksOf s l).length) : XCallT Tryd.prog gMax MaxT 31 [.ptr 920 0, .d (.agg ((chksOf s l)[k]).ds)] (stO s l k) (stO s l (k + 1)) chgT (.v (.bool true)) := by
 have hkl := hk
 rw [chks_len2] at hkl
 match k, hk, hkl with
 | 0, hk, _ =>
  have e : (chksOf s l)[0] = formC s := Option.some.inj ((List.getElem?_eq_getElem hk).symm.trans (chks_k0 s l))
  rw [e]
  refine XCallT.frame (XCall.toT (c_take0 s ok)) _ _ chgT (fun i => le_R) (fun p hp => by rw [List.mem_singleton.1 hp]; exact .head _) rfl (allIds_of fun p hp => ?_) (fun p hp => ?_)
  ·show (!(Nat.beq p.1 930) && true) = true
   rw [beqF]; rfl
   rcases List.mem_cons.1 hp with rfl | hp
   ·show (920 : Nat) ≠ 930; decide
   rcases trO_ids hp with h4 | h4 <;> omega
  rcases List.mem_cons.1 hp with rfl | hp
  ·exact mem_join_l (.head _)
  rcases List.mem_cons.1 hp with rfl | hp
  ·exact mem_join_r (.head _)
  exact mem_join_l (.tail _ hp)
 | k + 1, hk, hkl =>
  by_cases hn : k < l.length
  ·have e : (chksOf s l)[k + 1] = noteC l[k] := Option.some.inj ((List.getElem?_eq_getElem hk).symm.trans (chks_kN hn))
   rw [e]
   obtain ⟨n0, n1, n2, n3⟩ := nts_get no hn
   have h50 := no.len
   have h := c_takeN s ok (l.take k) l[k] (by rw [List.length_take]; omega) n0 n1 n2 n3
   rw [← takeS hn] at h
   have e1 : stO s l (k + 1) = [(920, .cells (rdS s false)), (930, .row 54 2 ((l.take k).map Nt.ds))] ++ trO (zerT s) := by rw [stO_S, decide_eq_false (by omega), if_neg (by omega)]
   have e2 : stO s l (k + 1 + 1) = [(920, .cells (rdS s false)), (930, .row 54 2 ((l.take (k + 1)).map Nt.ds))] ++ trO (zerT s) := by rw [stO_S, decide_eq_false (by omega), if_neg (by omega)]
   rw [e1, e2]
   have hd : ∀ p ∈ Obs.dels [(920, Ob.cells (rdS s false)), (930, .row 54 2 ((l.take k).map Nt.ds))] ([(920, Ob.cells (rdS s false)), (930, .row 54 2 ((l.take k).map Nt.ds))] ++ trO (zerT s)), p ∈ trO (zerT s) := fun p hp => by
    obtain ⟨q1, q2⟩ := Obs.mem_dels hp
    rcases List.mem_append.1 q1 with q1 | q1
    ·exact absurd rfl (q2 p q1)
    exact q1
   refine XCallT.frame h _ _ chgT (fun i => le_N) (fun p hp => List.mem_append_left _ hp) (allIds_of fun p hp => ?_) (allIds_of fun p hp => allIds_of fun q hq => ?_) (fun p hp => ?_)
   ·rw [chgN_hi (trO_ids (hd p hp))]; rfl
   ·rw [beqF]; rfl
    have h5 := trO_ids (hd q hq)
    rcases List.mem_cons.1 hp with rfl | hp
    ·show (930 : Nat) ≠ q.1; omega
    rw [List.mem_singleton.1 hp]; show (920 : Nat) ≠ q.1; omega
   rcases List.mem_append.1 hp with hp | hp
   ·rcases List.mem_cons.1 hp with rfl | hp
    ·exact mem_join_l (.tail _ (.head _))
    rw [List.mem_singleton.1 hp]; exact mem_join_l (.head _)
   refine mem_join_r ?_
   have h6 := trO_killP (c := chgN) hp fun i hi => chgN_hi (.inr hi)
   rw [← h6]
   refine mem_killP_of (mem_dels_of (List.mem_append_right _ hp) fun q hq => ?_)
   have h5 := trO_ids hp
   rcases List.mem_cons.1 hq with rfl | hq
   ·show p.1 ≠ 920; omega
   rw [List.mem_singleton.1 hq]; show p.1 ≠ 930; omega
  obtain rfl : k = l.length := by omega
  have e : (chksOf s l)[l.length + 1] = dataC s := Option.some.inj ((List.getElem?_eq_getElem hk).symm.trans (chks_kD s l))
  rw [e]
  have e1 : stO s l (l.length + 1) = [(920, .cells (rdS s false)), (930, .row 54 2 (l.map Nt.ds))] ++ trO (zerT s) := by rw [stO_S, decide_eq_false (by omega), if_neg (by omega), List.take_length]
  have e2 : stO s l (l.length + 1 + 1) = [(920, .cells (rdS s true)), (930, .row 54 2 (l.map Nt.ds))] ++ trO (datT s) := by rw [stO_S, decide_eq_true (by omega), if_pos (by omega), List.take_of_length_le (by omega)]
  rw [e1, e2]
  have hd : ∀ p ∈ Obs.dels ((920, Ob.cells (rdS s false)) :: trO (zerT s)) ([(920, Ob.cells (rdS s false)), (930, .row 54 2 (l.map Nt.ds))] ++ trO (zerT s)), p = (930, .row 54 2 (l.map Nt.ds)) := fun p hp => by
   obtain ⟨q1, q2⟩ := Obs.mem_dels hp
   rcases List.mem_cons.1 q1 with rfl | q1
   ·exact absurd rfl (q2 _ (.head _))
   rcases List.mem_cons.1 q1 with rfl | q1
   ·rfl
   exact absurd rfl (q2 p (.tail _ q1))
  refine XCallT.frame (XCall.toT (c_takeD s ok)) _ _ chgT (fun i => le_R) (fun p hp => ?_) (allIds_of fun p hp => by rw [hd p hp]; rfl) (allIds_of fun p hp => allIds_of fun q hq => ?_) (fun p hp => ?_)
  ·rcases List.mem_cons.1 hp with rfl | hp
   ·exact .head _
   exact .tail _ (.tail _ hp)
  ·rw [hd q hq, beqF]; rfl
   show p.1 ≠ 930
   rcases List.mem_cons.1 hp with rfl | hp
   ·show (920 : Nat) ≠ 930; decide
   rcases trO_ids hp with h4 | h4 <;> omega
  rcases List.mem_cons.1 hp with rfl | hp
  ·exact mem_join_l (.head _)
  rcases List.mem_cons.1 hp with rfl | hp
  ·refine mem_join_r ?_
   refine mem_killP_of (c := chgR) (q := (930, .row 54 2 (l.map Nt.ds))) (mem_dels_of (.tail _ (.head _)) fun q hq => ?_)
   show (930 : Nat) ≠ q.1
   rcases List.mem_cons.1 hq with rfl | hq
   ·show (930 : Nat) ≠ 920; decide
   rcases trO_ids hq with h4 | h4 <;> omega
  exact mem_join_l (.tail _ hp)
theorem stO_end {s : Snd} {l : List Nt} : stO s l (chksOf s l).length = [(920, .cells (rdS s true)), (930, .row 54 2 (l.map Nt.ds))] ++ trO (datT s) := by
  rw [chks_len2, stO_S, decide_eq_true (by omega), if_pos (by omega), List.take_of_length_le (by omega)]
theorem dat_snap {s : Snd} {σ : Obs} (h : ∀ p ∈ trO (datT s), p ∈ σ) : Snap σ (.own 101) (.sl (s.tracks.map trD)) := by
  have h1 := snap_famS h
  have e : (datT s).map (fun r => [D.sl r]) = s.tracks.map trD := by unfold datT; rw [List.map_map]; rfl
  rwa [e] at h1

set_option maxRecDepth 100000 in
set_option maxHeartbeats 4000000 in
theorem c_from (s : Snd) (l : List Nt) (ok : SndOk s) (no : NtsOk l) : ACallT Tryd.prog MaxT 13 [.sl ((packB (chksOf s l)).map u8D)] (.tup [.agg s.ds, .sl (l.map Nt.ds), .v (.int .i64 0), .v (.int .i64 0)]) := by
  refine acall_ofRT (n := 51) (ds' := [.agg s.ds, .sl (l.map Nt.ds), .v (.int .i64 0), .v (.int .i64 0)]) Tryd.func13 rfl (by kernel_rfl) rfl [.cell 2 24, .tmp 3, .tmp 4, .tmp 5] rfl rfl ?_
  intro B w0 F0 hT
  have hnl := no.len
  have hcl := chks_len2 s l
  have hpl := chks_len ok no.len (fun n hn => by obtain ⟨k, hk, rfl⟩ := List.mem_iff_getElem.1 hn; exact (nts_get no hk).2.2.1)
  refine .sr ?_
  refine .alloc 601 rfl rfl rfl rfl zt_24 rfl rfl rfl ?_
  refine .aA ?_
  refine .aA ?_
  refine .aA (.nil ?_)
  refine .sr ?_
  refine .mA ?_
  refine .sA (.call rfl (.cons (.rfl' rfl) .nil) (c_placed (chksOf s l) (by omega) chks_ok hpl)) ?_
  refine .mA ?_
  refine .sA (.extract rfl rfl rfl) ?_
  refine .sA (.extract rfl rfl rfl) ?_
  refine .sA (.extract rfl rfl rfl) ?_
  refine .sA (.extract rfl rfl rfl) ?_
  refine .aA ?_
  refine .aA ?_
  refine .aA ?_
  refine .aA (.nil ?_)
  refine .seq ?_
  refine .sr ?_
  refine .mA ?_
  refine .sA (.neq rfl rfl rfl) (.nil ?_)
  refine .cond rfl (fun h1 => ?_) (fun h1 => ?_)
  · replace h1 := of_decide_eq_true h1
    exact absurd rfl h1
  replace h1 := of_decide_eq_false h1
  refine .skip ?_
  refine .sr ?_
  refine .alloc 920 rfl rfl rfl rfl zt_78 rfl rfl rfl ?_
  refine .adoptCell 930 54 2 920 4 (.head _) rfl rfl ?_
  refine .nil ?_
  refine .seq ?_
  refine .sr ?_
  refine .mA ?_
  refine .sA (.lenSl rfl et_65.ht rfl) ?_
  refine .mA (.nil ?_)
  refine .block ?_
  refine .loop (G := Nat) (fun k => Env.of [(27, .d (.v (.int .i64 (k : Int)))), (25, .d (.sl ((chksOf s l).map Chk.ds))), (26, .d (.v (.int .i64 (((chksOf s l).map Chk.ds).length : Int)))), (10, .ptr 920 0), (2, .ptr 601 0)]) (fun k => (601, Ob.cells sndZ) :: stO s l k) (fun k => k ≤ (chksOf s l).length) (fun k => (chksOf s l).length - k) 0 (Nat.zero_le _) (Sub.less ⟨(SLe.of_eq rfl), SLe.refl _, SLe.refl _, SLe.refl _, SLe.refl _, trivial⟩ (fun p hp => by rcases List.mem_cons.1 hp with rfl | hp; exact (.tail _ (.tail _ (.head _))); rcases List.mem_cons.1 hp with rfl | hp; exact (.tail _ (.head _)); rw [List.mem_singleton.1 hp]; exact (.head _))) ?_
  intro k hk
  refine .sr ?_
  refine .sA (.lss rfl rfl rfl) (.nil ?_)
  refine .seq ?_
  refine .cond rfl (fun h2 => ?_) (fun h2 => ?_)
  · replace h2 := of_decide_eq_true h2
    rw [List.length_map] at h2
    have hlt : k < (chksOf s l).length := by omega
    refine .skip ?_
    refine .seq ?_
    refine .block ?_
    refine .sr ?_
    refine .mA ?_
    refine .sA (.indexAddr rfl et_65 rfl rfl k rfl (at_lst hlt) rfl) ?_
    refine .sA (.loadAgg rfl ag_63 rfl rfl) ?_
    refine .alloc 603 rfl rfl rfl rfl zt_63 rfl rfl (by show (!(Nat.beq 601 603) && Obs.fresh 603 (stO s l k)) = true; rw [stO_fresh]; rfl) ?_
    refine .obsEq ((603, .cells [.d (.v (.string ⟨#[]⟩)), .d (.v (.slice none 0 0))]) :: (601, Ob.cells sndZ) :: stO s l k) (by show (603, _) :: (601, Ob.cells sndZ) :: Obs.kill 603 (stO s l k) = _; rw [stO_kill]; rfl) ?_
    refine .aA ?_
    refine .store rfl rfl rfl sz_63 rfl (.head _) rfl rfl rfl (Nat.le_of_ble_eq_true rfl) ?_
    refine .obsEq ((603, .cells ((chksOf s l)[k].ds.map S.d)) :: (601, Ob.cells sndZ) :: stO s l k) (by show (603, _) :: (601, Ob.cells sndZ) :: Obs.upd 603 _ (stO s l k) = _; rw [stO_upd]; rfl) ?_
    refine .freezeCells 12 (ds := (chksOf s l)[k].ds) rfl (.head _) ?_
    refine .obsEq ((601, Ob.cells sndZ) :: stO s l k) (by show (601, Ob.cells sndZ) :: Obs.del 603 (stO s l k) = _; rw [stO_del]) ?_
    refine .nil ?_
    refine .sr ?_
    refine .sA (.loadAgg rfl ag_63 rfl rfl) ?_
    refine .callXT rfl rfl rfl (TC.of maxT_at hT) (.cons (SLe.refl _) (.cons (SLe.refl _) .nil)) (c_takeK ok no hlt) (AllIn.of fun p hp => .tail _ hp) (allIds_of fun p hp => ?_) (allIds_of fun p hp => allIds_of fun q hq => ?_) (fun i hi => rfl) ?_
    · obtain ⟨q1, q2⟩ := Obs.mem_dels hp
      rcases List.mem_cons.1 q1 with rfl | q1
      · rfl
      exact absurd rfl (q2 p q1)
    · obtain ⟨q1, q2⟩ := Obs.mem_dels hq
      rcases List.mem_cons.1 q1 with rfl | q1
      · rw [beqF]; rfl
        show p.1 ≠ 601
        rcases stO_ids hp with h | h | h | h <;> omega
      exact absurd rfl (q2 q q1)
    refine .obs (σ' := (601, Ob.cells sndZ) :: stO s l (k + 1)) (fun p hp => ?_) ?_
    · rcases List.mem_cons.1 hp with rfl | hp
      · exact mem_join_r (mem_killP_of (c := chgT) (q := (601, Ob.cells sndZ)) (mem_dels_of (.head _) fun q hq => by show (601 : Nat) ≠ q.1; rcases stO_ids hq with h | h | h | h <;> omega))
      exact mem_join_l hp
    refine .sA (.not rfl rfl) (.nil ?_)
    refine .cond rfl (fun h3 => ?_) (fun h3 => ?_)
    · replace h3 := bnot_t h3
      exact absurd h3 (by decide)
    replace h3 := bnot_f h3
    refine .skip ?_
    refine .region ?_
    refine .sA (.add64 rfl rfl rfl (by omega) (by omega)) ?_
    refine .mA (.nil ?_)
    refine ⟨k + 1, (by omega), (by dsimp only; omega), Sub.less ⟨(SLe.of_eq rfl), SLe.refl _, SLe.refl _, SLe.refl _, SLe.refl _, trivial⟩ (fun p hp => hp)⟩
  replace h2 := of_decide_eq_false h2
  rw [List.length_map] at h2
  have hkt : k = (chksOf s l).length := by omega
  refine .exit ?_
  refine .seq ?_
  refine .seq ?_
  rw [hkt, stO_end]
  refine .region ?_
  refine .sA (.fieldAddrP rfl fo_78_4 rfl) ?_
  refine .sA (.loadP rfl sc_4 rfl (.tail _ (.head _)) rfl) ?_
  refine .sA (.not rfl rfl) (.nil ?_)
  refine .cond rfl (fun h4 => ?_) (fun h4 => ?_)
  · replace h4 := bnot_t h4
    exact absurd h4 (by decide)
  replace h4 := bnot_f h4
  refine .skip ?_
  refine .seq ?_
  refine .freezeCell 920 1 (d := .sl (s.tracks.map trD)) (trO (datT s)) [(601, Ob.cells sndZ), (920, .cells (rdS s true)), (930, Ob.row 54 2 (l.map Nt.ds))] (.tail _ (.head _)) rfl (dat_snap fun p hp => hp) (fun p hp => .tail _ (.tail _ (.tail _ hp))) (fun p hp => ?_) (fun p hp q hq => ?_) ?_
  · exact (List.mem_append_left (trO (datT s)) hp : p ∈ [(601, Ob.cells sndZ), (920, .cells (rdS s true)), (930, Ob.row 54 2 (l.map Nt.ds))] ++ trO (datT s))
  · have h4 := trO_ids hp
    rcases List.mem_cons.1 hq with rfl | hq
    · show (601 : Nat) ≠ p.1; omega
    rcases List.mem_cons.1 hq with rfl | hq
    · show (920 : Nat) ≠ p.1; omega
    rw [List.mem_singleton.1 hq]; show (930 : Nat) ≠ p.1; omega
  refine .obsEq [(601, Ob.cells sndZ), (920, .cells [.d (.v (.int .i64 s.rate)), .d (.sl (s.tracks.map trD)), .d (.v (.int .i64 24)), .d (.v (.int .i64 (s.len : Int))), .own 930, .d (.v (.bool true))]), (930, Ob.row 54 2 (l.map Nt.ds))] rfl ?_
  refine .freezeCell 920 4 (d := .sl (l.map Nt.ds)) [(930, Ob.row 54 2 (l.map Nt.ds))] [(601, Ob.cells sndZ), (920, .cells [.d (.v (.int .i64 s.rate)), .d (.sl (s.tracks.map trD)), .d (.v (.int .i64 24)), .d (.v (.int .i64 (s.len : Int))), .own 930, .d (.v (.bool true))])] (.tail _ (.head _)) rfl (.row (.head _)) (fun p hp => by rw [List.mem_singleton.1 hp]; exact .tail _ (.tail _ (.head _))) (fun p hp => List.mem_append_left [(930, Ob.row 54 2 (l.map Nt.ds))] hp) (fun p hp q hq => ?_) ?_
  · rw [List.mem_singleton.1 hp]
    rcases List.mem_cons.1 hq with rfl | hq
    · show (601 : Nat) ≠ 930; decide
    rw [List.mem_singleton.1 hq]; show (920 : Nat) ≠ 930; decide
  refine .obsEq [(601, Ob.cells sndZ), (920, .cells [.d (.v (.int .i64 s.rate)), .d (.sl (s.tracks.map trD)), .d (.v (.int .i64 24)), .d (.v (.int .i64 (s.len : Int))), .d (.sl (l.map Nt.ds)), .d (.v (.bool true))])] rfl ?_
  refine .drawH (fun k => Nat.beq k 4 || false) (fun k => Nat.beq k 4) (fun τ => (920, Ob.cells [.d (.v (.int .i64 s.rate)), .d (.sl (s.tracks.map trD)), .d (.v (.int .i64 24)), .d (.v (.int .i64 (s.len : Int))), .d (.sl (l.map Nt.ds)), .d (.v (.bool true))]) ∈ τ) (fun k h => Bool.or_eq_true_iff.2 (.inl h)) (by kernel_rfl) (by kernel_rfl) (by kernel_rfl) ?_
  refine .step rfl rfl rfl (.tail _ (.head _)) (fun τ hτ => AOp.fieldAddrP rfl fo_78_0 rfl) ?_
  refine .step rfl rfl rfl (.tail _ (.head _)) (fun τ hτ => AOp.loadPU rfl ag_24 rfl hτ rfl rfl) ?_
  refine .step rfl rfl rfl (.tail _ (.head _)) (fun τ hτ => AOp.fieldAddrP rfl fo_78_3 rfl) ?_
  refine .step rfl rfl rfl (.tail _ (.head _)) (fun τ hτ => AOp.loadP (s := .d (.sl (l.map Nt.ds))) rfl sc_25 rfl hτ rfl) ?_
  refine .eff rfl rfl rfl (.store rfl rfl sz_24 rfl (.head _) rfl rfl rfl (Nat.le_of_ble_eq_true rfl)) (.tail _ (.head _)) (.tail _ (.head _)) ?_
  refine .step rfl rfl rfl (.tail _ (.head _)) (fun τ hτ => AOp.assignD rfl rfl) ?_
  refine .step rfl rfl rfl (.tail _ (.head _)) (fun τ hτ => AOp.assignD rfl rfl) ?_
  refine .step rfl rfl rfl (.tail _ (.head _)) (fun τ hτ => AOp.assignD rfl rfl) ?_
  refine .nil ?_
  refine .ret ?_
  refine ⟨RetR.agg rfl (.head _) ag_24 rfl (.cons (by first | exact CellD.nil | exact CellD.d | exact CellD.eq (by simp) | (refine CellD.own (by first | exact .head _ | exact .tail _ (.head _)) ?_; rfl)) (.cons (by first | exact CellD.nil | exact CellD.d | exact CellD.eq (by simp) | (refine CellD.own (by first | exact .head _ | exact .tail _ (.head _)) ?_; rfl)) .nil)), RetD.eq rfl ?_, RetD.eq rfl ?_, RetD.eq rfl ?_, trivial⟩
  all_goals (first | rfl)

end Go.Proofs.YtagdgclfnbiahaaDoor

namespace Go.Proofs.YtagdgclfnbiahaaDoor
open Go.RowKit
set_option linter.unusedVariables false

/-! Types. -/
namespace TySBR
theorem cv_3_80 : convB Tryd.prog 3 80 .u64 = true := by kernel_rfl
theorem sc_80 : Scal Tryd.prog 80 := .of (by kernel_rfl)
theorem sz_80 : ∀ w, (sizeOf 80).run Tryd.prog w = .ok 1 w := SizeT.of (by kernel_rfl)
theorem zt_80 : (Tryd.prog.info? 80).bind (·.zero) = some (.int .u64 0) := by kernel_rfl
end TySBR
open TyXA TyXB TySBA TySBB TySBC TySBD TySBE TySBF TySBG TySBH TySBI TySBJ TySBK TyV1 TyV2 TyV3 TyV4 TyV5 TyV6 TyV7 TyV8 TySBL TySBM TySBN TySBO TySBP TySBQ TySBR

set_option linter.unusedSimpArgs false
section
variable {P : Program} {B : Nat} {ops : Array Oper} {o : Oper} {e : Env} {σ : Obs}
theorem AOp.indexStrK {t : TypeId} {x ix : Operand} {s : ByteArray} {n : Int} {ik : IntKind} (ho : o.op = .index t x ix) (ht : P.underlying t = some .string) (hx : e.ev x = .d (.v (.string s))) (hi : e.ev ix = .d (.v (.int ik n)))
    (k : Nat) (hk : n = k) {c : UInt8} (hc : s.data.toList[k]? = some c) : AOp P B ops o e σ (.d (.v (.int .u8 c.toNat))) := .value fun F ρ w a hF hr _ => by
  have h1 := hr x (by rw [ho]; simp [Op.operands])
  have h2 := hr ix (by rw [ho]; simp [Op.operands])
  rw [hx] at h1; rw [hi] at h2
  refine ⟨_, F, w, ?_, .d (.v _), Ext.refl hF⟩
  have hlt : k < s.size := by have := (List.getElem?_eq_some_iff.1 hc).1; simpa using this
  have hcc : s[k] = c := by
    have := (List.getElem?_eq_some_iff.1 hc).2
    rw [← this]
    simp [ByteArray.getElem_eq_getElem_data]
  unfold execOp
  simp only [ho, repS_v h1, repS_v h2, hk]
  simp [Instr.index, run_underlying ht, asIntOf, hlt, hcc]
end
/-! ## Plainly -/
def stp (h n : Int) : Int := IntKind.u64.wrap (bits .xor .u64 h (IntKind.u64.wrap n) * 1099511628211)
def rowH (s : Snd) (i : Nat) (h : Int) : Nat → Int
  | 0 => h
  | k + 1 => stp (rowH s i h k) ((s.tracks.getD k []).getD i 0)
def dgA (s : Snd) : Int := stp (stp (stp 14695981039346656037 s.rate) (s.tracks.length : Int)) (s.len : Int)
def dgR (s : Snd) : Nat → Int
  | 0 => dgA s
  | i + 1 => rowH s i (dgR s i) s.tracks.length
def hexS : List UInt8 := [48, 49, 50, 51, 52, 53, 54, 55, 56, 57, 97, 98, 99, 100, 101, 102]
def nib (h : Int) (i : Nat) : Nat := (BitVec.ofInt 64 (h / 2 ^ (4 * i)) &&& BitVec.ofInt 64 15).toNat
theorem nib_lt (h : Int) (i : Nat) : nib h i < 16 := by
  unfold nib
  rw [BitVec.toNat_and]
  exact Nat.lt_of_le_of_lt Nat.and_le_right (by decide)
theorem and_nib (h : Int) (i : Nat) : bits .and .u64 (h / 2 ^ ((4 : Int) * (i : Int)).toNat) 15 = ((nib h i : Nat) : Int) := by
  have e : ((4 : Int) * (i : Int)).toNat = 4 * i := by omega
  rw [e]
  have h2 : bits .and .u64 (h / 2 ^ (4 * i)) 15 = IntKind.u64.wrap ((nib h i : Nat) : Int) := rfl
  rw [h2, wrapU64 (by omega) (by have := nib_lt h i; omega)]
def hexB (h : Int) (i : Nat) : UInt8 := hexS.getD (nib h i) 0
theorem hexS_at (h : Int) (i : Nat) : hexS[nib h i]? = some (hexB h i) := by
  have := nib_lt h i
  unfold hexB
  rw [List.getD_eq_getElem?_getD, List.getElem?_eq_getElem (show nib h i < hexS.length from this)]; rfl
def hexR (h : Int) (i : Nat) : List UInt8 := (List.range 16).map fun j => if 16 ≤ j + i then hexB h (15 - j) else 0
theorem hexR_len (h : Int) (i : Nat) : (hexR h i).length = 16 := by simp [hexR]
theorem hexR_at {h : Int} {i : Nat} (hi : i < 16) : ((hexR h i).map u8D)[15 - i]? = some (u8D 0) := by
  rw [List.getElem?_map]
  unfold hexR
  rw [List.getElem?_map, List.getElem?_range (by omega), Option.map_some, Option.map_some, if_neg (by omega)]
theorem hexR_set {h : Int} {i : Nat} (hi : i < 16) : ((hexR h i).map u8D).set (15 - i) (u8D (hexB h i)) = (hexR h (i + 1)).map u8D := by
  refine List.ext_getElem (by simp [hexR]) fun j h1 h2 => ?_
  have hj : j < 16 := by simpa [hexR] using h2
  rw [List.getElem_set]
  simp only [hexR, List.getElem_map, List.getElem_range]
  by_cases e : 15 - i = j
  · subst e
    rw [if_pos rfl, if_pos (by omega), show 15 - (15 - i) = i by omega]
  · rw [if_neg e]
    by_cases h3 : 16 ≤ j + i
    · rw [if_pos h3, if_pos (by omega)]
    · rw [if_neg h3, if_neg (by omega)]
def dgV (s : Snd) : ByteArray := ⟨(hexR (dgR s s.len) 16).toArray⟩
theorem rowH_next {s : Snd} {i k : Nat} {h : Int} (hk : k < s.tracks.length) : rowH s i h (k + 1) = stp (rowH s i h k) (s.tracks[k].getD i 0) := by
  show stp (rowH s i h k) ((s.tracks.getD k []).getD i 0) = _
  rw [List.getD_eq_getElem?_getD (l := s.tracks), List.getElem?_eq_getElem hk]; rfl

deriving instance DecidableEq for Nt
theorem eqT_nt : EqT Tryd.prog 54 [.str, .str] := .of (by kernel_rfl)
theorem eq_nt (x y : Nt) : EqD Tryd.prog 54 x.ds y.ds (decide (x = y)) := .of eqT_nt [.string x.name, .string x.text] [.string y.name, .string y.text] rfl rfl rfl rfl (by
  obtain ⟨a, b⟩ := x
  obtain ⟨e, f⟩ := y
  simp [sameL, sameV])

set_option maxRecDepth 100000 in
set_option maxHeartbeats 1000000 in
theorem c_dg1 (h n : Int) : XCall Tryd.prog 32 [.d (.v (.int .i64 n)), .ptr 701 0] [(701, .cells [.d (.v (.int .u64 (h)))])] [(701, .cells [.d (.v (.int .u64 (stp h n)))])] (fun _ => false) (.tup []) := by
 refine xcall_of (n := 8) (ds' := []) Tryd.func32 rfl (by kernel_rfl) rfl [] rfl rfl ?_
 intro B w0 F0 fr ρ0
 refine .region ?_
 refine .sA (.loadP rfl sc_80 rfl (.head _) rfl) ?_
 refine .mA ?_
 refine .sA (.convInt rfl cv_3_80 rfl) ?_
 refine .sA (.xorG rfl rfl rfl) ?_
 refine .sA (.mul rfl rfl rfl) ?_
 refine .store rfl rfl rfl sz_80 rfl (.head _) rfl rfl rfl (Nat.le_of_ble_eq_true rfl) (.nil ?_)
 refine ⟨trivial, ⟨mem_ob_eq (.head _) ?_, trivial⟩⟩
 all_goals (first | rfl)

set_option maxRecDepth 100000 in
set_option maxHeartbeats 4000000 in
theorem c_dig (s : Snd) (ok : SndOk s) : ACall Tryd.prog 16 [.agg s.ds] (.tup [.v (.string (dgV s)), .v (.int .i64 0)]) := by
 refine acall_of (n := 70) (ds' := [.v (.string (dgV s)), .v (.int .i64 0)]) Tryd.func16 rfl (by kernel_rfl) rfl [2, 3] rfl rfl ?_
 intro B w0 F0 fr
 have htl := ok.tl
 have hln := ok.len
 refine .sr ?_
 refine .sA (.box rfl rfl rfl) ?_
 refine .aA ?_
 refine .aA (.nil ?_)
 refine .seq ?_
 refine .sr ?_
 refine .sA (.loadAgg rfl ag_24 rfl rfl) ?_
 refine .sA (.call rfl (.cons (.rfl' rfl) .nil) (c_chk s)) ?_
 rw [sndF_ok ok]
 refine .aA (.nil ?_)
 refine .sr ?_
 refine .mA ?_
 refine .sA (.neq rfl rfl rfl) (.nil ?_)
 refine .cond rfl (fun h1 => ?_) (fun h1 => ?_)
 ·replace h1 := of_decide_eq_true h1
  exact absurd rfl h1
 replace h1 := of_decide_eq_false h1
 refine .skip ?_
 refine .sr ?_
 refine .alloc 701 rfl rfl rfl rfl zt_80 rfl rfl rfl ?_
 refine .store rfl rfl rfl sz_80 rfl (.head _) rfl rfl rfl (Nat.le_of_ble_eq_true rfl) (.nil ?_)
 refine .sr ?_
 refine .sA (.makeClo rfl (CapsOk.p rfl CapsOk.nil)) ?_
 refine .sA (.assignC rfl rfl) (.nil ?_)
 refine .sr ?_
 refine .sA (.moveC rfl rfl) ?_
 refine .sA (.fieldAddr rfl fo_24_0 rfl) ?_
 refine .sA (.load rfl sc_3 rfl) ?_
 -- calls a closure
 refine .callXC rfl rfl rfl rfl (.cons (SLe.refl _) .nil) (c_dg1 _ _) ⟨(.head _), trivial⟩ rfl rfl (fun _ h => rfl) ?_
 refine .nil ?_
 refine .sr ?_
 refine .sA (.moveC rfl rfl) ?_
 refine .sA (.fieldAddr rfl fo_24_1 rfl) ?_
 refine .sA (.load rfl sc_22 rfl) ?_
 refine .sA (.lenSl rfl et_22.ht rfl) ?_
 rw [List.length_map]
 -- calls a closure
 refine .callXC rfl rfl rfl rfl (.cons (SLe.refl _) .nil) (c_dg1 _ _) ⟨(.head _), trivial⟩ rfl rfl (fun _ h => rfl) ?_
 refine .nil ?_
 refine .sr ?_
 refine .sA (.moveC rfl rfl) ?_
 refine .sA (.loadAgg rfl ag_24 rfl rfl) ?_
 refine .sA (.call rfl (.cons (.rfl' rfl) .nil) (c_len s ok.tl.1)) ?_
 -- calls a closure
 refine .callXC rfl rfl rfl rfl (.cons (SLe.refl _) .nil) (c_dg1 _ _) ⟨(.head _), trivial⟩ rfl rfl (fun _ h => rfl) ?_
 refine .nil ?_
 refine .seq ?_
 refine .sr ?_
 refine .sA (.loadAgg rfl ag_24 rfl rfl) ?_
 refine .sA (.call rfl (.cons (.rfl' rfl) .nil) (c_len s ok.tl.1)) ?_
 refine .mA (.nil ?_)
 refine .block ?_
 refine .loop (G := Nat) (fun i => Env.of [(33, .d (.v (.int .i64 (i : Int)))), (32, .d (.v (.int .i64 (s.len : Int)))), (6, .clo 32 [.p 701 0]), (1, .d (.fp s.ds)), (5, .ptr 701 0)]) (fun i => [(701, .cells [.d (.v (.int .u64 (dgR s i)))])]) (fun i => i ≤ s.len) (fun i => s.len - i) 0 (Nat.zero_le _) (Sub.less ⟨(SLe.of_eq rfl), SLe.refl _, SLe.refl _, SLe.refl _, SLe.refl _, trivial⟩ (fun _ h => h)) ?_
 intro i hi
 refine .sr ?_
 refine .sA (.lss rfl rfl rfl) (.nil ?_)
 refine .seq ?_
 refine .cond rfl (fun h2 => ?_) (fun h2 => ?_)
 ·replace h2 := of_decide_eq_true h2
  have hil : i < s.len := by omega
  refine .skip ?_
  refine .seq ?_
  refine .block ?_
  refine .sr ?_
  refine .mA ?_
  refine .aA (.nil ?_)
  refine .sr ?_
  refine .sA (.fieldAddr rfl fo_24_1 rfl) ?_
  refine .sA (.load rfl sc_22 rfl) ?_
  refine .sA (.lenSl rfl et_22.ht rfl) ?_
  rw [List.length_map]
  refine .mA (.nil ?_)
  refine .block ?_
  refine .loop (G := Nat) (fun k => Env.of [(39, .d (.v (.int .i64 (k : Int)))), (37, .d (.sl (s.tracks.map trD))), (38, .d (.v (.int .i64 (s.tracks.length : Int)))), (7, .d (.v (.int .i64 (i : Int)))), (33, .d (.v (.int .i64 (i : Int)))), (32, .d (.v (.int .i64 (s.len : Int)))), (6, .clo 32 [.p 701 0]), (1, .d (.fp s.ds)), (5, .ptr 701 0)]) (fun k => [(701, .cells [.d (.v (.int .u64 (rowH s i (dgR s i) k)))])]) (fun k => k ≤ s.tracks.length) (fun k => s.tracks.length - k) 0 (Nat.zero_le _) (Sub.less ⟨(SLe.of_eq rfl), SLe.refl _, SLe.refl _, SLe.refl _, SLe.refl _, SLe.refl _, SLe.refl _, SLe.refl _, SLe.refl _, trivial⟩ (fun _ h => h)) ?_
  intro k hk
  refine .sr ?_
  refine .sA (.lss rfl rfl rfl) (.nil ?_)
  refine .seq ?_
  refine .cond rfl (fun h3 => ?_) (fun h3 => ?_)
  ·replace h3 := of_decide_eq_true h3
   have hlt : k < s.tracks.length := by omega
   refine .skip ?_
   refine .seq ?_
   refine .block ?_
   refine .sr ?_
   refine .sA (.indexAddr rfl et_22 rfl rfl k rfl (at_lst hlt) rfl) ?_
   refine .sA (.load rfl sc_42 rfl) ?_
   refine .aA (.nil ?_)
   refine .region ?_
   refine .sA (.moveC rfl rfl) ?_
   refine .mA ?_
   refine .mA ?_
   refine .sA (.indexAddr rfl et_42 rfl rfl i rfl (at_smp ok hlt hil) rfl) ?_
   refine .sA (.load rfl sc_3 rfl) ?_
   -- calls a closure
   refine .callXC rfl rfl rfl rfl (.cons (SLe.refl _) .nil) (c_dg1 _ _) ⟨(.head _), trivial⟩ rfl rfl (fun _ h => rfl) ?_
   refine .nil ?_
   refine .region ?_
   refine .sA (.add64 rfl rfl rfl (by omega) (by omega)) ?_
   refine .mA (.nil ?_)
   refine ⟨k + 1, (by omega), (by dsimp only; omega), Sub.less ⟨(SLe.of_eq rfl), SLe.refl _, SLe.refl _, SLe.refl _, SLe.refl _, SLe.refl _, SLe.refl _, SLe.refl _, SLe.refl _, trivial⟩ (by dsimp only; rw [rowH_next hlt]; exact fun _ h => h)⟩
  replace h3 := of_decide_eq_false h3
  obtain rfl : k = s.tracks.length := by omega
  refine .exit ?_
  refine .region ?_
  refine .sA (.add64 rfl rfl rfl (by omega) (by omega)) ?_
  refine .mA (.nil ?_)
  refine ⟨i + 1, (by omega), (by dsimp only; omega), Sub.less ⟨(SLe.of_eq rfl), SLe.refl _, SLe.refl _, SLe.refl _, SLe.refl _, trivial⟩ (fun _ h => h)⟩
 replace h2 := of_decide_eq_false h2
 obtain rfl : i = s.len := by omega
 refine .exit ?_
 refine .sr ?_
 refine .makeI 702 16 rfl rfl rfl rfl et_28 rfl rfl rfl (by omega) (by omega) rfl rfl ?_
 refine .sA (.assignO rfl rfl) (.nil ?_)
 refine .seq ?_
 refine .sr ?_
 refine .sA (.moveO rfl rfl) ?_
 refine .sA (.lenOwn rfl et_28.ht rfl (.head _)) ?_
 refine .mA (.nil ?_)
 refine .block ?_
 refine .loop (G := Nat) (fun j => Env.of [(54, .d (.v (.int .i64 (j : Int)))), (53, .d (.v (.int .i64 16))), (10, .own 702), (5, .ptr 701 0)]) (fun j => [(702, .row 5 1 ((hexR (dgR s s.len) j).map u8D)), (701, .cells [.d (.v (.int .u64 (dgR s s.len)))])]) (fun j => j ≤ 16) (fun j => 16 - j) 0 (Nat.zero_le _) (Sub.less ⟨(SLe.of_eq rfl), SLe.refl _, SLe.refl _, SLe.refl _, trivial⟩ (fun _ h => h)) ?_
 intro j hj
 refine .sr ?_
 refine .sA (.lss rfl rfl rfl) (.nil ?_)
 refine .seq ?_
 refine .cond rfl (fun h4 => ?_) (fun h4 => ?_)
 ·replace h4 := of_decide_eq_true h4
  have hjl : j < 16 := by omega
  refine .skip ?_
  refine .seq ?_
  refine .block ?_
  refine .sr ?_
  refine .mA ?_
  refine .aA (.nil ?_)
  refine .region ?_
  refine .sA (.moveO rfl rfl) ?_
  refine .mA ?_
  refine .sA (.sub64 rfl rfl rfl (by omega) (by omega)) ?_
  refine .sA (.loadP rfl sc_80 rfl (.tail _ (.head _)) rfl) ?_
  refine .mA ?_
  refine .sA (.mul64 rfl rfl rfl (by omega) (by omega)) ?_
  refine .sA (.shrG rfl rfl rfl (by omega) (by show _ ≤ (64 : Int); omega)) ?_
  refine .sA (.andG rfl rfl rfl) ?_
  rw [and_nib]
  refine .sA (.indexStrK rfl st_9 rfl rfl (nib (dgR s s.len) j) rfl (hexS_at _ _)) ?_
  refine .sA (.indexOwn rfl et_28 rfl rfl (.head _) (15 - j) (by omega) (by rw [List.length_map, hexR_len]; omega)) ?_
  refine .storeRow rfl rfl rfl sz_5 rfl (.head _) rfl rfl rfl (15 - j) 0 rfl (hexR_at hjl) (Nat.le_of_ble_eq_true rfl) (.nil ?_)
  refine .region ?_
  refine .sA (.add64 rfl rfl rfl (by omega) (by omega)) ?_
  refine .mA (.nil ?_)
  refine ⟨j + 1, (by omega), (by dsimp only; omega), Sub.less ⟨(SLe.of_eq rfl), SLe.refl _, SLe.refl _, SLe.refl _, trivial⟩ (by dsimp only; rw [← hexR_set hjl]; exact fun _ h => h)⟩
 replace h4 := of_decide_eq_false h4
 have hj16 : j = 16 := by omega
 subst hj16
 refine .exit ?_
 refine .sr ?_
 refine .sA (.moveO rfl rfl) ?_
 refine .freeze 68 rfl (.head _) ?_
 refine .sA (.bytesStr rfl et_28.ht Tryd.underlying5 st_9 rfl) ?_
 refine .aA ?_
 refine .aA (.nil ?_)
 refine .ret ?_
 refine ⟨RetD.eq rfl ?_, RetD.eq rfl ?_, trivial⟩
 all_goals (first | rfl)

set_option maxRecDepth 100000 in
set_option maxHeartbeats 1000000 in
theorem c_eqN (l : List Nt) : ACall Tryd.prog 14 [.sl (l.map Nt.ds), .sl (l.map Nt.ds)] (.v (.bool true)) := by
 refine acall_of (n := 26) (ds' := [.v (.bool true)]) Tryd.func14 rfl (by kernel_rfl) rfl [4] rfl rfl ?_
 intro B w0 F0 fr
 refine .bound 0 rfl (fun hbd0 => ?_)
 rw [List.length_map] at hbd0
 refine .sr ?_
 refine .aA (.nil ?_)
 refine .seq ?_
 refine .sr ?_
 refine .mA ?_
 refine .sA (.lenSl rfl et_25.ht rfl) ?_
 refine .mA ?_
 refine .sA (.lenSl rfl et_25.ht rfl) ?_
 refine .sA (.neq rfl rfl rfl) (.nil ?_)
 refine .cond rfl (fun h1 => ?_) (fun h1 => ?_)
 ·replace h1 := of_decide_eq_true h1
  exact absurd rfl h1
 replace h1 := of_decide_eq_false h1
 refine .skip ?_
 refine .seq ?_
 refine .sr ?_
 refine .mA ?_
 refine .sA (.lenSl rfl et_25.ht rfl) ?_
 refine .mA (.nil ?_)
 refine .block ?_
 refine .loop (G := Nat) (fun k => Env.of [(13, .d (.v (.int .i64 (k : Int)))), (0, .d (.sl (l.map Nt.ds))), (1, .d (.sl (l.map Nt.ds))), (12, .d (.v (.int .i64 ((l.map Nt.ds).length : Int))))]) (fun k => []) (fun k => k ≤ l.length) (fun k => l.length - k) 0 (Nat.zero_le _) (Sub.less ⟨(SLe.of_eq rfl), SLe.refl _, SLe.refl _, SLe.refl _, trivial⟩ (fun _ h => h)) ?_
 intro k hk
 refine .sr ?_
 refine .sA (.lss rfl rfl rfl) (.nil ?_)
 refine .seq ?_
 refine .cond rfl (fun h2 => ?_) (fun h2 => ?_)
 ·replace h2 := of_decide_eq_true h2
  rw [List.length_map] at h2
  have hlt : k < l.length := by omega
  refine .skip ?_
  refine .seq ?_
  refine .block ?_
  refine .sr ?_
  refine .mA ?_
  refine .aA (.nil ?_)
  refine .seq ?_
  refine .draw (by kernel_rfl) (by kernel_rfl) ?_
  refine .sA (.moveD rfl rfl) ?_
  refine .sA (.moveD rfl rfl) ?_
  refine .sA (.indexAddr rfl et_25 rfl rfl k rfl (at_lst hlt) rfl) ?_
  refine .sA (.loadAgg rfl ag_54 rfl rfl) ?_
  refine .sA (.moveD rfl rfl) ?_
  refine .sA (.moveD rfl rfl) ?_
  refine .sA (.indexAddr rfl et_25 rfl rfl k rfl (at_lst hlt) rfl) ?_
  refine .sA (.loadAgg rfl ag_54 rfl rfl) ?_
  refine .sA (.aggNeq rfl rfl rfl (eq_nt _ _)) ?_
  refine .nil ?_
  refine .cond rfl (fun h3 => ?_) (fun h3 => ?_)
  ·replace h3 := bnot_t h3; replace h3 := of_decide_eq_false h3
   exact absurd rfl h3
  replace h3 := bnot_f h3; replace h3 := of_decide_eq_true h3
  refine .skip ?_
  refine .region ?_
  refine .sA (.add64 rfl rfl rfl (by omega) (by omega)) ?_
  refine .mA (.nil ?_)
  refine ⟨k + 1, (by omega), (by dsimp only; omega), Sub.less ⟨(SLe.of_eq rfl), SLe.refl _, SLe.refl _, SLe.refl _, trivial⟩ (fun _ h => h)⟩
 replace h2 := of_decide_eq_false h2
 refine .exit ?_
 refine .sr ?_
 refine .aA (.nil ?_)
 refine .ret ?_
 refine ⟨RetD.eq rfl ?_, trivial⟩
 all_goals (rfl)

end Go.Proofs.YtagdgclfnbiahaaDoor

namespace Go.Proofs.YtagdgclfnbiahaaDoor
open Go.RowKit
set_option linter.unusedVariables false

/-! Types. -/
namespace TyXG
theorem ag_86 : AggT Tryd.prog 86 2 := .of (by kernel_rfl)
theorem ag_89 : AggT Tryd.prog 89 3 := .of (by kernel_rfl)
theorem bt_4 : Tryd.prog.underlying 4 = some .bool := by kernel_rfl
theorem bu_86 : StructT Tryd.prog 86 (fun i => (#[(0, 1), (1, 1)] : Array (Nat × Nat))[i]?) [(.bool false), (.slice none 0 0)] := .of (by kernel_rfl) (by kernel_rfl) (by decide)
theorem bu_89 : StructT Tryd.prog 89 (fun i => (#[(0, 2), (2, 1)] : Array (Nat × Nat))[i]?) [(.bool false), (.slice none 0 0), (.slice none 0 0)] := .of (by kernel_rfl) (by kernel_rfl) (by decide)
theorem et_84 : ElemTy Tryd.prog 84 49 1 4 (.int .u32 0) := ⟨by kernel_rfl, by kernel_rfl, by kernel_rfl, by decide⟩
theorem fo_86_0 : fieldOff Tryd.prog 86 0 = some 0 := by kernel_rfl
theorem fo_86_1 : fieldOff Tryd.prog 86 1 = some 1 := by kernel_rfl
theorem fo_89_0 : fieldOff Tryd.prog 89 0 = some 0 := by kernel_rfl
theorem fo_89_1 : fieldOff Tryd.prog 89 1 = some 2 := by kernel_rfl
theorem fv_86_1 : fieldB Tryd.prog 86 1 1 = true := by kernel_rfl
theorem sc_84 : Scal Tryd.prog 84 := .of (by kernel_rfl)
theorem sz_86 : ∀ w, (sizeOf 86).run Tryd.prog w = .ok 2 w := SizeT.of (by kernel_rfl)
theorem sz_89 : ∀ w, (sizeOf 89).run Tryd.prog w = .ok 3 w := SizeT.of (by kernel_rfl)
theorem zt_86 : (Tryd.prog.info? 86).bind (·.zero) = some (.agg #[(.bool false), (.slice none 0 0)]) := by kernel_rfl
theorem zt_89 : (Tryd.prog.info? 89).bind (·.zero) = some (.agg #[(.bool false), (.slice none 0 0), (.slice none 0 0)]) := by kernel_rfl
end TyXG
open TyXA TyXB TySBA TySBB TySBC TySBD TySBE TySBF TySBG TySBH TySBI TySBJ TySBK TyV1 TyV2 TyV3 TyV4 TyV5 TyV6 TyV7 TyV8 TySBL TySBM TySBN TySBO TySBP TySBQ TySBR TyXG

set_option linter.unusedSimpArgs false
section
variable {P : Program} {B : Nat} {ops : Array Oper} {o : Oper} {e : Env} {σ : Obs}
theorem AOp.toE {a c : Int} {k : IntKind} (h : AOp P B ops o e σ (.d (.v (.int k a)))) (he : a = c) : AOp P B ops o e σ (.d (.v (.int k c))) := he ▸ h
end
theorem w32 {n : Int} (h0 : 0 ≤ n) (h1 : n < 4294967296) : IntKind.u32.wrap n = n := by rw [IntKind.wrap_u32]; omega
def u32E (n : Int) : List D := [.v (.int .u32 n)]
/-- A word and zeros above it. -/
def uL (a : Int) (k : Nat) : List (List D) := u32E a :: List.replicate k (u32E 0)
theorem uL_len (a : Int) (k : Nat) : (uL a k).length = k + 1 := by unfold uL; rw [List.length_cons, List.length_replicate]
theorem uL_at (a : Int) (k : Nat) : (uL a k)[k]? = some (u32E (if k = 0 then a else 0)) := by
  unfold uL
  cases k with
  | zero => rfl
  | succ k => rw [List.getElem?_cons_succ, List.getElem?_replicate, if_pos (Nat.lt_succ_self k), if_neg (Nat.succ_ne_zero k)]
theorem uL_take (a : Int) (k : Nat) : (uL a (k + 1)).take (k + 1) = uL a k := by
  unfold uL
  rw [List.take_succ_cons, List.take_replicate, Nat.min_eq_left (Nat.le_succ k)]
theorem uL_sz (a : Int) (k : Nat) : ∀ y ∈ uL a k, y.length = 1 := fun y hy => by
  unfold uL at hy
  rcases List.mem_cons.1 hy with rfl | hy
  · rfl
  · rw [List.eq_of_mem_replicate hy]; rfl
def natI (a : Int) : List D := [.v (.bool false), .sl [u32E a]]

set_option maxRecDepth 100000 in
set_option maxHeartbeats 1000000 in
theorem c_trim (a : Int) (ha : 0 < a ∧ a < 4294967296) (k : Nat) (hk : k ≤ 10) : ACall Tryd.prog 79 [.sl (uL a k)] (.sl (uL a 0)) := by
 refine acall_of (n := 21) (ds' := [.sl (uL a 0)]) Tryd.func79 rfl (by kernel_rfl) rfl [2] rfl rfl ?_
 intro B w0 F0 fr
 refine .sr ?_
 refine .aA (.nil ?_)
 refine .seq ?_
 refine .block ?_
 refine .loop (G := Nat) (fun j => Env.of [(0, .d (.sl (uL a j)))]) (fun j => []) (fun j => j ≤ k) (fun j => j) k (Nat.le_refl _) (Sub.less ⟨SLe.refl _, trivial⟩ (fun _ h => h)) ?_
 intro j hjk
 refine .seq ?_
 refine .sr ?_
 refine .mA ?_
 refine .sA (.lenSl rfl et_84.ht rfl) ?_
 rw [uL_len]
 refine .sA (.gtr rfl rfl rfl) ?_
 refine .mA ?_
 refine .split 6 rfl (fun g1 => ?_) (fun g1 => ?_)
 ·replace g1 := of_decide_eq_true g1
  refine .sG (.moveD rfl rfl) ?_
  refine .sG (.moveD rfl rfl) ?_
  refine .sG (.lenSl rfl et_84.ht rfl) ?_
  rw [uL_len]
  refine .sG (.sub64 rfl rfl rfl (by omega) (by omega)) ?_
  refine .sG (.indexAddr rfl et_84 rfl rfl j (by omega) (uL_at a j) rfl) ?_
  refine .sG (.load rfl sc_49 rfl) ?_
  refine .sG (.eql rfl rfl rfl) ?_
  refine .sA (.pickT rfl rfl rfl) (.nil ?_)
  refine .cond rfl (fun h2 => ?_) (fun h2 => ?_)
  ·replace h2 := of_decide_eq_true h2
   have hj : j ≠ 0 := fun e => by rw [if_pos e] at h2; omega
   obtain ⟨i, rfl⟩ : ∃ i, j = i + 1 := ⟨j - 1, by omega⟩
   have HT : (uL a (i + 1)).take ((((i + 1 + 1 : Nat) : Int)) - 1).toNat = uL a i := by rw [show ((((i + 1 + 1 : Nat) : Int)) - 1).toNat = i + 1 by omega]; exact uL_take a i
   refine .skip ?_
   refine .block ?_
   refine .region ?_
   refine .mA ?_
   refine .mA ?_
   refine .sA (.lenSl rfl et_84.ht rfl) ?_
   rw [uL_len]
   refine .sA (.sub64 rfl rfl rfl (by omega) (by omega)) ?_
   refine .sA (.sliceH rfl et_84 rfl rfl (by omega) (by rw [uL_len]; omega) (uL_sz _ _)) ?_
   rw [HT]
   refine .aA (.nil ?_)
   refine ⟨i, (by omega), (by dsimp only; omega), Sub.less ⟨SLe.refl _, trivial⟩ (fun _ h => h)⟩
  replace h2 := of_decide_eq_false h2
  have hj : j = 0 := Classical.byContradiction fun e => h2 (if_neg e)
  subst hj
  refine .exit ?_
  refine .sr ?_
  refine .mA ?_
  refine .aA (.nil ?_)
  refine .ret ?_
  refine ⟨RetD.eq rfl ?_, trivial⟩
  all_goals (first | rfl)
 replace g1 := of_decide_eq_false g1
 omega

set_option maxRecDepth 100000 in
set_option maxHeartbeats 1000000 in
theorem c_natOf (a : Int) (ha : 0 < a ∧ a < 4294967296) : ACall Tryd.prog 59 [.v (.int .u64 a)] (.sl (uL a 0)) := by
 refine acall_of (n := 10) (ds' := [.sl (uL a 0)]) Tryd.func59 rfl (by kernel_rfl) rfl [2] rfl rfl ?_
 intro B w0 F0 fr
 refine .sr ?_
 refine .aA (.nil ?_)
 refine .sr ?_
 refine .mA ?_
 refine .sA (.convSame rfl (by kernel_rfl) rfl (w32 (by omega) (by omega))) ?_
 refine .mA ?_
 refine .sA (.toE (c := 0) (.shrG rfl rfl rfl (by decide) (by decide)) (Int.ediv_eq_zero_of_lt (by omega) (by show a < 4294967296; omega))) ?_
 refine .sA (.convSame rfl (by kernel_rfl) rfl (w32 (by decide) (by decide))) ?_
 refine .sA (.buildSlice rfl et_84 (.cons rfl rfl rfl (.cons rfl rfl rfl .nil)) rfl (by decide)) ?_
 refine .sA (.call rfl (.cons (.rfl' rfl) .nil) (c_trim a ha 1 (by decide))) ?_
 refine .aA (.nil ?_)
 refine .ret ?_
 refine ⟨RetD.eq rfl ?_, trivial⟩
 all_goals (rfl)

set_option maxRecDepth 100000 in
set_option maxHeartbeats 1000000 in
theorem c_small (a : Int) (ha : 0 < a ∧ a < 4294967296) : ACall Tryd.prog 71 [.sl (uL a 0)] (.tup [.v (.int .u64 a), .v (.bool true)]) := by
 refine acall_of (n := 26) (ds' := [.v (.int .u64 a), .v (.bool true)]) Tryd.func71 rfl (by kernel_rfl) rfl [2, 3] rfl rfl ?_
 intro B w0 F0 fr
 refine .sr ?_
 refine .aA ?_
 refine .aA (.nil ?_)
 refine .seq ?_
 refine .sr ?_
 refine .mA ?_
 refine .sA (.lenSl rfl et_84.ht rfl) ?_
 rw [uL_len]
 refine .nil ?_
 refine .block ?_
 refine .sr ?_
 refine .sA (.eql rfl rfl rfl) ?_
 refine .aA (.nil ?_)
 refine .cond rfl (fun h1 => ?_) (fun h1 => ?_)
 ·replace h1 := of_decide_eq_true h1
  exact absurd h1 (by decide)
 replace h1 := of_decide_eq_false h1
 refine .sr ?_
 refine .sA (.eql rfl rfl rfl) ?_
 refine .aA (.nil ?_)
 refine .cond rfl (fun h2 => ?_) (fun h2 => ?_)
 ·replace h2 := of_decide_eq_true h2
  refine .sr ?_
  refine .mA ?_
  refine .sA (.indexAddr rfl et_84 rfl rfl 0 rfl (uL_at a 0) rfl) ?_
  refine .sA (.load rfl sc_49 rfl) ?_
  refine .sA (.convSame rfl (by kernel_rfl) rfl (wrapU64 (by omega) (by omega))) ?_
  refine .aA ?_
  refine .aA (.nil ?_)
  refine .ret ?_
  refine ⟨RetD.eq rfl ?_, RetD.eq rfl ?_, trivial⟩
  all_goals (rfl)
 replace h2 := of_decide_eq_false h2
 exact absurd h2 (by decide)

set_option maxRecDepth 100000 in
set_option maxHeartbeats 1000000 in
theorem c_mul64  : ACall Tryd.prog 80 [.v (.int .u64 3), .v (.int .u64 1)] (.tup [.v (.int .u64 0), .v (.int .u64 3)]) := by
 refine acall_of (n := 51) (ds' := [.v (.int .u64 0), .v (.int .u64 3)]) Tryd.func80 rfl (by kernel_rfl) rfl [4, 5] rfl rfl ?_
 intro B w0 F0 fr
 refine .sr ?_
 refine .aA ?_
 refine .aA (.nil ?_)
 refine .sr ?_
 refine .mA ?_
 refine .sA (.toE (c := 3) (.andG rfl rfl rfl) (by decide +kernel)) ?_
 refine .aA (.nil ?_)
 refine .sr ?_
 refine .mA ?_
 refine .sA (.toE (c := 0) (.shrG rfl rfl rfl (by decide) (by decide)) (by decide)) ?_
 refine .aA (.nil ?_)
 refine .sr ?_
 refine .mA ?_
 refine .sA (.toE (c := 1) (.andG rfl rfl rfl) (by decide +kernel)) ?_
 refine .aA (.nil ?_)
 refine .sr ?_
 refine .mA ?_
 refine .sA (.toE (c := 0) (.shrG rfl rfl rfl (by decide) (by decide)) (by decide)) ?_
 refine .aA (.nil ?_)
 refine .sr ?_
 refine .mA ?_
 refine .mA ?_
 refine .sA (.toE (c := 3) (.mul rfl rfl rfl) (by decide)) ?_
 refine .aA (.nil ?_)
 refine .sr ?_
 refine .mA ?_
 refine .mA ?_
 refine .sA (.toE (c := 0) (.mul rfl rfl rfl) (by decide)) ?_
 refine .mA ?_
 refine .sA (.toE (c := 0) (.shrG rfl rfl rfl (by decide) (by decide)) (by decide)) ?_
 refine .sA (.toE (c := 0) (.add rfl rfl rfl) (by decide)) ?_
 refine .aA (.nil ?_)
 refine .sr ?_
 refine .mA ?_
 refine .sA (.toE (c := 0) (.andG rfl rfl rfl) (by decide +kernel)) ?_
 refine .aA (.nil ?_)
 refine .sr ?_
 refine .mA ?_
 refine .sA (.toE (c := 0) (.shrG rfl rfl rfl (by decide) (by decide)) (by decide)) ?_
 refine .aA (.nil ?_)
 refine .sr ?_
 refine .mA ?_
 refine .mA ?_
 refine .mA ?_
 refine .sA (.toE (c := 0) (.mul rfl rfl rfl) (by decide)) ?_
 refine .sA (.toE (c := 0) (.add rfl rfl rfl) (by decide)) ?_
 refine .aA (.nil ?_)
 refine .sr ?_
 refine .mA ?_
 refine .mA ?_
 refine .sA (.toE (c := 0) (.mul rfl rfl rfl) (by decide)) ?_
 refine .mA ?_
 refine .sA (.toE (c := 0) (.add rfl rfl rfl) (by decide)) ?_
 refine .mA ?_
 refine .sA (.toE (c := 0) (.shrG rfl rfl rfl (by decide) (by decide)) (by decide)) ?_
 refine .sA (.toE (c := 0) (.add rfl rfl rfl) (by decide)) ?_
 refine .aA (.nil ?_)
 refine .sr ?_
 refine .mA ?_
 refine .mA ?_
 refine .sA (.toE (c := 3) (.mul rfl rfl rfl) (by decide)) ?_
 refine .aA (.nil ?_)
 refine .ret ?_
 refine ⟨RetD.eq rfl ?_, RetD.eq rfl ?_, trivial⟩
 all_goals (rfl)

set_option maxRecDepth 100000 in
set_option maxHeartbeats 1000000 in
theorem c_nMul  : ACall Tryd.prog 60 [.sl (uL 3 0), .sl (uL 1 0)] (.sl (uL 3 0)) := by
 refine acall_of (n := 103) (ds' := [.sl (uL 3 0)]) Tryd.func60 rfl (by kernel_rfl) rfl [4] rfl rfl ?_
 intro B w0 F0 fr
 refine .sr ?_
 refine .aA (.nil ?_)
 refine .seq ?_
 refine .sr ?_
 refine .mA ?_
 refine .sA (.call rfl (.cons (.rfl' rfl) .nil) (c_small 3 (by decide))) ?_
 refine .mA ?_
 refine .sA (.extract rfl rfl rfl) ?_
 refine .sA (.extract rfl rfl rfl) ?_
 refine .aA ?_
 refine .aA (.nil ?_)
 refine .sr ?_
 refine .mA (.nil ?_)
 refine .cond rfl (fun h1 => ?_) (fun h1 => ?_)
 ·skip
  refine .sr ?_
  refine .mA ?_
  refine .sA (.call rfl (.cons (.rfl' rfl) .nil) (c_small 1 (by decide))) ?_
  refine .mA ?_
  refine .sA (.extract rfl rfl rfl) ?_
  refine .sA (.extract rfl rfl rfl) ?_
  refine .aA ?_
  refine .aA (.nil ?_)
  refine .sr ?_
  refine .mA (.nil ?_)
  refine .cond rfl (fun h2 => ?_) (fun h2 => ?_)
  ·skip
   refine .sr ?_
   refine .mA ?_
   refine .mA ?_
   refine .sA (.call rfl (.cons (.rfl' rfl) (.cons (.rfl' rfl) .nil)) c_mul64) ?_
   refine .mA ?_
   refine .sA (.extract rfl rfl rfl) ?_
   refine .sA (.extract rfl rfl rfl) ?_
   refine .aA ?_
   refine .aA (.nil ?_)
   refine .sr ?_
   refine .mA ?_
   refine .sA (.convSame rfl (by kernel_rfl) rfl (w32 (by decide) (by decide))) ?_
   refine .mA ?_
   refine .sA (.toE (c := 0) (.shrG rfl rfl rfl (by decide) (by decide)) (by decide)) ?_
   refine .sA (.convSame rfl (by kernel_rfl) rfl (w32 (by decide) (by decide))) ?_
   refine .mA ?_
   refine .sA (.convSame rfl (by kernel_rfl) rfl (w32 (by decide) (by decide))) ?_
   refine .mA ?_
   refine .sA (.toE (c := 0) (.shrG rfl rfl rfl (by decide) (by decide)) (by decide)) ?_
   refine .sA (.convSame rfl (by kernel_rfl) rfl (w32 (by decide) (by decide))) ?_
   refine .sA (.buildSlice rfl et_84 (.cons rfl rfl rfl (.cons rfl rfl rfl (.cons rfl rfl rfl (.cons rfl rfl rfl .nil)))) rfl (by decide)) ?_
   refine .sA (.call rfl (.cons (.rfl' rfl) .nil) (c_trim 3 (by decide) 3 (by decide))) ?_
   refine .aA (.nil ?_)
   refine .ret ?_
   refine ⟨RetD.eq rfl ?_, trivial⟩
   all_goals (rfl)
  exact absurd h2 (by decide)
 exact absurd h1 (by decide)

set_option maxRecDepth 100000 in
set_option maxHeartbeats 1000000 in
theorem c_iMul  : ACall Tryd.prog 40 [.agg (natI 3), .agg (natI 1)] (.agg (natI 3)) := by
 refine acall_ofR (n := 23) (ds' := [.agg (natI 3)]) Tryd.func40 rfl (by kernel_rfl) rfl [.cell 4 86] rfl rfl ?_
 intro B w0 F0 fr
 refine .sr ?_
 refine .sA (.box rfl rfl rfl) ?_
 refine .sA (.box rfl rfl rfl) ?_
 refine .alloc 904 rfl rfl rfl rfl zt_86 rfl rfl rfl (.nil ?_)
 refine .sr ?_
 refine .sA (.fieldAddr rfl fo_86_1 rfl) ?_
 refine .sA (.load rfl sc_84 rfl) ?_
 refine .sA (.fieldAddr rfl fo_86_1 rfl) ?_
 refine .sA (.load rfl sc_84 rfl) ?_
 refine .sA (.call rfl (.cons (.rfl' rfl) (.cons (.rfl' rfl) .nil)) c_nMul) ?_
 refine .aA (.nil ?_)
 refine .sr ?_
 refine .sA (.fieldAddr rfl fo_86_0 rfl) ?_
 refine .sA (.load rfl sc_4 rfl) ?_
 refine .sA (.fieldAddr rfl fo_86_0 rfl) ?_
 refine .sA (.load rfl sc_4 rfl) ?_
 refine .sA (.bneq rfl bt_4 rfl rfl) ?_
 refine .mA ?_
 refine .split 16 rfl (fun g1 => ?_) (fun g1 => ?_)
 ·replace g1 := of_decide_eq_true g1
  exact absurd g1 (by decide)
 replace g1 := of_decide_eq_false g1
 refine .pA ?_
 refine .pA ?_
 refine .pA ?_
 refine .sA (.pickF rfl rfl rfl) ?_
 refine .mA ?_
 refine .sA (.build rfl bu_86 (.cons rfl rfl (.cons rfl rfl .nil)) rfl) ?_
 refine .store rfl rfl rfl sz_86 rfl (.head _) rfl rfl rfl (Nat.le_of_ble_eq_true rfl) (.nil ?_)
 refine .ret ?_
 refine ⟨RetR.agg rfl (.head _) ag_86 rfl (.cons (by first | exact CellD.nil | exact CellD.d | exact CellD.eq (by simp) | (refine CellD.own (by first | exact .head _ | exact .tail _ (.head _)) ?_; rfl)) (.cons (by first | exact CellD.nil | exact CellD.d | exact CellD.eq (by simp) | (refine CellD.own (by first | exact .head _ | exact .tail _ (.head _)) ?_; rfl)) .nil)), trivial⟩
 all_goals (rfl)

set_option maxRecDepth 100000 in
set_option maxHeartbeats 1000000 in
theorem c_numOf (a : Int) (ha : 0 < a ∧ a < 4294967296) : ACall Tryd.prog 39 [.v (.int .i64 a)] (.agg (natI a)) := by
 refine acall_ofR (n := 14) (ds' := [.agg (natI a)]) Tryd.func39 rfl (by kernel_rfl) rfl [.cell 2 86] rfl rfl ?_
 intro B w0 F0 fr
 refine .sr ?_
 refine .alloc 902 rfl rfl rfl rfl zt_86 rfl rfl rfl (.nil ?_)
 refine .seq ?_
 refine .sr ?_
 refine .mA ?_
 refine .sA (.lss rfl rfl rfl) (.nil ?_)
 refine .cond rfl (fun h1 => ?_) (fun h1 => ?_)
 ·replace h1 := of_decide_eq_true h1
  omega
 replace h1 := of_decide_eq_false h1
 refine .skip ?_
 refine .sr ?_
 refine .mA ?_
 refine .sA (.convSame rfl (by kernel_rfl) rfl (wrapU64 (by omega) (by omega))) ?_
 refine .sA (.call rfl (.cons (.rfl' rfl) .nil) (c_natOf a ha)) ?_
 refine .sA (.build rfl bu_86 (.cons rfl rfl (.cons rfl rfl .nil)) rfl) ?_
 refine .store rfl rfl rfl sz_86 rfl (.head _) rfl rfl rfl (Nat.le_of_ble_eq_true rfl) (.nil ?_)
 refine .ret ?_
 refine ⟨RetR.agg rfl (.head _) ag_86 rfl (.cons (by first | exact CellD.nil | exact CellD.d | exact CellD.eq (by simp) | (refine CellD.own (by first | exact .head _ | exact .tail _ (.head _)) ?_; rfl)) (.cons (by first | exact CellD.nil | exact CellD.d | exact CellD.eq (by simp) | (refine CellD.own (by first | exact .head _ | exact .tail _ (.head _)) ?_; rfl)) .nil)), trivial⟩
 all_goals (rfl)

set_option maxRecDepth 100000 in
set_option maxHeartbeats 1000000 in
theorem c_gcd  : ACall Tryd.prog 57 [.sl (uL 3 0), .sl (uL 2 0)] (.sl (uL 1 0)) := by
 refine acall_of (n := 45) (ds' := [.sl (uL 1 0)]) Tryd.func57 rfl (by kernel_rfl) rfl [4] rfl rfl ?_
 intro B w0 F0 fr
 refine .sr ?_
 refine .aA (.nil ?_)
 refine .seq ?_
 refine .block ?_
 refine .loop (G := Nat) (fun k => Env.of [(0, .d (.sl (uL 3 0))), (1, .d (.sl (uL 2 0)))]) (fun k => []) (fun k => k = 0) (fun k => k) 0 rfl (Sub.less ⟨SLe.refl _, SLe.refl _, trivial⟩ (fun _ h => h)) ?_
 intro k hk
 refine .seq ?_
 refine .sr ?_
 refine .mA ?_
 refine .sA (.lenSl rfl et_84.ht rfl) ?_
 refine .sA (.gtr rfl rfl rfl) (.nil ?_)
 refine .cond rfl (fun h1 => ?_) (fun h1 => ?_)
 ·replace h1 := of_decide_eq_true h1
  refine .skip ?_
  refine .block ?_
  refine .sr ?_
  refine .mA ?_
  refine .sA (.call rfl (.cons (.rfl' rfl) .nil) (c_small 3 (by decide))) ?_
  refine .mA ?_
  refine .sA (.extract rfl rfl rfl) ?_
  refine .sA (.extract rfl rfl rfl) ?_
  refine .aA ?_
  refine .aA (.nil ?_)
  refine .sr ?_
  refine .mA ?_
  refine .sA (.call rfl (.cons (.rfl' rfl) .nil) (c_small 2 (by decide))) ?_
  refine .mA ?_
  refine .sA (.extract rfl rfl rfl) ?_
  refine .sA (.extract rfl rfl rfl) ?_
  refine .aA ?_
  refine .aA (.nil ?_)
  refine .seq ?_
  refine .sr ?_
  refine .mA ?_
  refine .mA ?_
  refine .split 25 rfl (fun g2 => ?_) (fun g2 => ?_)
  ·skip
   refine .sG (.moveD rfl rfl) ?_
   refine .sA (.pickT rfl rfl rfl) (.nil ?_)
   refine .cond rfl (fun h3 => ?_) (fun h3 => ?_)
   ·skip
    refine .seq ?_
    refine .block ?_
    refine .loop (G := Nat) (fun i => Env.of [(5, .d (.v (.int .u64 (3 - (i : Int))))), (7, .d (.v (.int .u64 (2 - (i : Int)))))]) (fun i => []) (fun i => i ≤ 2) (fun i => 2 - i) 0 (Nat.zero_le _) (Sub.less ⟨(SLe.of_eq rfl), (SLe.of_eq rfl), trivial⟩ (fun _ h => h)) ?_
    intro i hi
    refine .seq ?_
    refine .sr ?_
    refine .mA ?_
    refine .sA (.gtr rfl rfl rfl) (.nil ?_)
    refine .cond rfl (fun h4 => ?_) (fun h4 => ?_)
    ·replace h4 := of_decide_eq_true h4
     have hi2 : i < 2 := by omega
     refine .skip ?_
     refine .block ?_
     refine .draw (by kernel_rfl) (by kernel_rfl) ?_
     refine .sA (.moveD rfl rfl) ?_
     refine .sA (.moveD rfl rfl) ?_
     refine .sA (.moveD rfl rfl) ?_
     refine .sA (.toE (c := 1 - (i : Int)) (.rem rfl rfl rfl (by omega)) (by rcases (show i = 0 ∨ i = 1 by omega) with rfl | rfl <;> rfl)) ?_
     refine .sA (.assignD rfl rfl) ?_
     refine .sA (.assignD rfl rfl) ?_
     refine .nil ?_
     refine ⟨i + 1, (by omega), (by dsimp only; omega), Sub.less ⟨(SLe.of_eq (by rw [show (3 : Int) - ((i + 1 : Nat) : Int) = 2 - (i : Int) by omega]; rfl)), (SLe.of_eq (by rw [show (2 : Int) - ((i + 1 : Nat) : Int) = 1 - (i : Int) by omega]; rfl)), trivial⟩ (fun _ h => h)⟩
    replace h4 := of_decide_eq_false h4
    obtain rfl : i = 2 := by omega
    refine .exit ?_
    refine .sr ?_
    refine .mA ?_
    refine .sA (.call rfl (.cons (.rfl' rfl) .nil) (c_natOf 1 (by decide))) ?_
    refine .aA (.nil ?_)
    refine .ret ?_
    refine ⟨RetD.eq rfl ?_, trivial⟩
    all_goals (rfl)
   exact absurd h3 (by decide)
  exact absurd g2 (by decide)
 replace h1 := of_decide_eq_false h1
 exact absurd h1 (by decide)

set_option maxRecDepth 100000 in
set_option maxHeartbeats 1000000 in
theorem c_over  : ACall Tryd.prog 38 [.agg (natI 3), .sl (uL 2 0)] (.agg [.v (.bool false), .sl (uL 3 0), .sl (uL 2 0)]) := by
 refine acall_ofR (n := 63) (ds' := [.agg [.v (.bool false), .sl (uL 3 0), .sl (uL 2 0)]]) Tryd.func38 rfl (by kernel_rfl) rfl [.cell 4 89] rfl rfl ?_
 intro B w0 F0 fr
 refine .sr ?_
 refine .sA (.box rfl rfl rfl) ?_
 refine .alloc 904 rfl rfl rfl rfl zt_89 rfl rfl rfl (.nil ?_)
 refine .seq ?_
 refine .sr ?_
 refine .sA (.fieldAddr rfl fo_86_1 rfl) ?_
 refine .sA (.load rfl sc_84 rfl) ?_
 refine .sA (.lenSl rfl et_84.ht rfl) ?_
 refine .sA (.eql rfl rfl rfl) (.nil ?_)
 refine .cond rfl (fun h1 => ?_) (fun h1 => ?_)
 ·replace h1 := of_decide_eq_true h1
  exact absurd h1 (by decide)
 replace h1 := of_decide_eq_false h1
 refine .skip ?_
 refine .seq ?_
 refine .sr ?_
 refine .mA ?_
 refine .sA (.lenSl rfl et_84.ht rfl) ?_
 refine .sA (.eql rfl rfl rfl) ?_
 refine .mA ?_
 refine .split 19 rfl (fun g2 => ?_) (fun g2 => ?_)
 ·replace g2 := of_decide_eq_true g2
  refine .sG (.moveD rfl rfl) ?_
  refine .sG (.indexAddr rfl et_84 rfl rfl 0 rfl (uL_at 2 0) rfl) ?_
  refine .sG (.load rfl sc_49 rfl) ?_
  refine .sG (.eql rfl rfl rfl) ?_
  refine .sA (.pickT rfl rfl rfl) (.nil ?_)
  refine .cond rfl (fun h3 => ?_) (fun h3 => ?_)
  ·replace h3 := of_decide_eq_true h3
   exact absurd h3 (by decide)
  replace h3 := of_decide_eq_false h3
  refine .skip ?_
  refine .sr ?_
  refine .sA (.fieldAddr rfl fo_86_1 rfl) ?_
  refine .sA (.load rfl sc_84 rfl) ?_
  refine .mA ?_
  refine .sA (.call rfl (.cons (.rfl' rfl) (.cons (.rfl' rfl) .nil)) c_gcd) ?_
  refine .aA (.nil ?_)
  refine .seq ?_
  refine .sr ?_
  refine .mA ?_
  refine .sA (.lenSl rfl et_84.ht rfl) ?_
  refine .sA (.eql rfl rfl rfl) ?_
  refine .mA ?_
  refine .split 35 rfl (fun g4 => ?_) (fun g4 => ?_)
  ·replace g4 := of_decide_eq_true g4
   refine .sG (.moveD rfl rfl) ?_
   refine .sG (.indexAddr rfl et_84 rfl rfl 0 rfl (uL_at 1 0) rfl) ?_
   refine .sG (.load rfl sc_49 rfl) ?_
   refine .sG (.eql rfl rfl rfl) ?_
   refine .sA (.pickT rfl rfl rfl) (.nil ?_)
   refine .cond rfl (fun h5 => ?_) (fun h5 => ?_)
   ·replace h5 := of_decide_eq_true h5
    refine .sr ?_
    refine .sA (.loadAgg rfl ag_86 rfl rfl) ?_
    refine .mA ?_
    refine .sA (.build rfl bu_89 (.cons rfl rfl (.cons rfl rfl .nil)) rfl) ?_
    refine .store rfl rfl rfl sz_89 rfl (.head _) rfl rfl rfl (Nat.le_of_ble_eq_true rfl) (.nil ?_)
    refine .ret ?_
    refine ⟨RetR.agg rfl (.head _) ag_89 rfl (.cons (by first | exact CellD.nil | exact CellD.d | exact CellD.eq (by simp) | (refine CellD.own (by first | exact .head _ | exact .tail _ (.head _)) ?_; rfl)) (.cons (by first | exact CellD.nil | exact CellD.d | exact CellD.eq (by simp) | (refine CellD.own (by first | exact .head _ | exact .tail _ (.head _)) ?_; rfl)) (.cons (by first | exact CellD.nil | exact CellD.d | exact CellD.eq (by simp) | (refine CellD.own (by first | exact .head _ | exact .tail _ (.head _)) ?_; rfl)) .nil))), trivial⟩
    all_goals (rfl)
   replace h5 := of_decide_eq_false h5
   exact absurd h5 (by decide)
  replace g4 := of_decide_eq_false g4
  exact absurd g4 (by decide)
 replace g2 := of_decide_eq_false g2
 exact absurd g2 (by decide)

set_option maxRecDepth 100000 in
set_option maxHeartbeats 1000000 in
theorem c_nCmp  : ACall Tryd.prog 74 [.sl (uL 3 0), .sl (uL 2 0)] (.v (.int .i64 1)) := by
 refine acall_of (n := 41) (ds' := [.v (.int .i64 1)]) Tryd.func74 rfl (by kernel_rfl) rfl [4] rfl rfl ?_
 intro B w0 F0 fr
 refine .sr ?_
 refine .aA (.nil ?_)
 refine .seq ?_
 refine .sr ?_
 refine .mA ?_
 refine .sA (.lenSl rfl et_84.ht rfl) ?_
 refine .mA ?_
 refine .sA (.lenSl rfl et_84.ht rfl) ?_
 refine .sA (.neq rfl rfl rfl) (.nil ?_)
 refine .cond rfl (fun h1 => ?_) (fun h1 => ?_)
 ·replace h1 := of_decide_eq_true h1
  exact absurd h1 (by decide)
 replace h1 := of_decide_eq_false h1
 refine .skip ?_
 refine .seq ?_
 refine .sr ?_
 refine .mA ?_
 refine .sA (.lenSl rfl et_84.ht rfl) ?_
 refine .sA (.sub64 rfl rfl rfl (by decide) (by decide)) ?_
 refine .aA (.nil ?_)
 refine .block ?_
 refine .loop (G := Nat) (fun k => Env.of [(5, .d (.v (.int .i64 0))), (0, .d (.sl (uL 3 0))), (1, .d (.sl (uL 2 0)))]) (fun k => []) (fun k => k = 0) (fun k => k) 0 rfl (Sub.less ⟨(SLe.of_eq rfl), SLe.refl _, SLe.refl _, trivial⟩ (fun _ h => h)) ?_
 intro k hk
 refine .seq ?_
 refine .sr ?_
 refine .mA ?_
 refine .sA (.geq rfl rfl rfl) (.nil ?_)
 refine .cond rfl (fun h2 => ?_) (fun h2 => ?_)
 ·replace h2 := of_decide_eq_true h2
  refine .skip ?_
  refine .seq ?_
  refine .block ?_
  refine .seq ?_
  refine .draw (by kernel_rfl) (by kernel_rfl) ?_
  refine .sA (.moveD rfl rfl) ?_
  refine .sA (.moveD rfl rfl) ?_
  refine .sA (.indexAddr rfl et_84 rfl rfl 0 rfl (uL_at 3 0) rfl) ?_
  refine .sA (.load rfl sc_49 rfl) ?_
  refine .sA (.moveD rfl rfl) ?_
  refine .sA (.moveD rfl rfl) ?_
  refine .sA (.indexAddr rfl et_84 rfl rfl 0 rfl (uL_at 2 0) rfl) ?_
  refine .sA (.load rfl sc_49 rfl) ?_
  refine .sA (.neq rfl rfl rfl) ?_
  refine .nil ?_
  refine .cond rfl (fun h3 => ?_) (fun h3 => ?_)
  ·replace h3 := of_decide_eq_true h3
   refine .seq ?_
   refine .seq ?_
   refine .draw (by kernel_rfl) (by kernel_rfl) ?_
   refine .sA (.moveD rfl rfl) ?_
   refine .sA (.moveD rfl rfl) ?_
   refine .sA (.indexAddr rfl et_84 rfl rfl 0 rfl (uL_at 3 0) rfl) ?_
   refine .sA (.load rfl sc_49 rfl) ?_
   refine .sA (.moveD rfl rfl) ?_
   refine .sA (.moveD rfl rfl) ?_
   refine .sA (.indexAddr rfl et_84 rfl rfl 0 rfl (uL_at 2 0) rfl) ?_
   refine .sA (.load rfl sc_49 rfl) ?_
   refine .sA (.lss rfl rfl rfl) ?_
   refine .nil ?_
   refine .cond rfl (fun h4 => ?_) (fun h4 => ?_)
   ·replace h4 := of_decide_eq_true h4
    exact absurd h4 (by decide)
   replace h4 := of_decide_eq_false h4
   refine .skip ?_
   refine .sr ?_
   refine .aA (.nil ?_)
   refine .ret ?_
   refine ⟨RetD.eq rfl ?_, trivial⟩
   all_goals (rfl)
  replace h3 := of_decide_eq_false h3
  exact absurd h3 (by decide)
 replace h2 := of_decide_eq_false h2
 exact absurd h2 (by decide)

set_option maxRecDepth 100000 in
set_option maxHeartbeats 1000000 in
theorem c_nDiv  : ACall Tryd.prog 58 [.sl (uL 3 0), .sl (uL 2 0)] (.tup [.sl (uL 1 0), .sl (uL 1 0)]) := by
 refine acall_of (n := 127) (ds' := [.sl (uL 1 0), .sl (uL 1 0)]) Tryd.func58 rfl (by kernel_rfl) rfl [4, 5] rfl rfl ?_
 intro B w0 F0 fr
 refine .sr ?_
 refine .aA ?_
 refine .aA (.nil ?_)
 refine .seq ?_
 refine .sr ?_
 refine .mA ?_
 refine .mA ?_
 refine .sA (.call rfl (.cons (.rfl' rfl) (.cons (.rfl' rfl) .nil)) c_nCmp) ?_
 refine .sA (.lss rfl rfl rfl) (.nil ?_)
 refine .cond rfl (fun h1 => ?_) (fun h1 => ?_)
 ·replace h1 := of_decide_eq_true h1
  exact absurd h1 (by decide)
 replace h1 := of_decide_eq_false h1
 refine .skip ?_
 refine .seq ?_
 refine .sr ?_
 refine .mA ?_
 refine .sA (.call rfl (.cons (.rfl' rfl) .nil) (c_small 3 (by decide))) ?_
 refine .mA ?_
 refine .sA (.extract rfl rfl rfl) ?_
 refine .sA (.extract rfl rfl rfl) ?_
 refine .aA ?_
 refine .aA (.nil ?_)
 refine .sr ?_
 refine .mA (.nil ?_)
 refine .cond rfl (fun h2 => ?_) (fun h2 => ?_)
 ·skip
  refine .sr ?_
  refine .mA ?_
  refine .sA (.call rfl (.cons (.rfl' rfl) .nil) (c_small 2 (by decide))) ?_
  refine .mA ?_
  refine .sA (.extract rfl rfl rfl) ?_
  refine .sA (.extract rfl rfl rfl) ?_
  refine .aA ?_
  refine .aA (.nil ?_)
  refine .seq ?_
  refine .draw (by kernel_rfl) (by kernel_rfl) ?_
  refine .sA (.moveD rfl rfl) ?_
  refine .sA (.moveD rfl rfl) ?_
  refine .sA (.toE (c := 1) (.quo rfl rfl rfl (by decide)) (by decide)) ?_
  refine .sA (.call rfl (.cons (.rfl' rfl) .nil) (c_natOf 1 (by decide))) ?_
  refine .sA (.moveD rfl rfl) ?_
  refine .sA (.moveD rfl rfl) ?_
  refine .sA (.toE (c := 1) (.rem rfl rfl rfl (by decide)) (by decide)) ?_
  refine .sA (.call rfl (.cons (.rfl' rfl) .nil) (c_natOf 1 (by decide))) ?_
  refine .sA (.assignD rfl rfl) ?_
  refine .sA (.assignD rfl rfl) ?_
  refine .nil ?_
  refine .ret ?_
  refine ⟨RetD.eq rfl ?_, RetD.eq rfl ?_, trivial⟩
  all_goals (rfl)
 exact absurd h2 (by decide)

set_option maxRecDepth 100000 in
set_option maxHeartbeats 1000000 in
theorem c_floor  : ACall Tryd.prog 53 [.agg [.v (.bool false), .sl (uL 3 0), .sl (uL 2 0)]] (.agg (natI 1)) := by
 refine acall_ofR (n := 31) (ds' := [.agg (natI 1)]) Tryd.func53 rfl (by kernel_rfl) rfl [.cell 2 86] rfl rfl ?_
 intro B w0 F0 fr
 refine .sr ?_
 refine .sA (.box rfl rfl rfl) ?_
 refine .alloc 902 rfl rfl rfl rfl zt_86 rfl rfl rfl (.nil ?_)
 refine .sr ?_
 refine .sA (.fieldAddr rfl fo_89_0 rfl) ?_
 refine .sA (.fieldAddr rfl fo_86_1 rfl) ?_
 refine .sA (.load rfl sc_84 rfl) ?_
 refine .sA (.fieldAddr rfl fo_89_1 rfl) ?_
 refine .sA (.load rfl sc_84 rfl) ?_
 refine .sA (.call rfl (.cons (.rfl' rfl) (.cons (.rfl' rfl) .nil)) c_nDiv) ?_
 refine .mA ?_
 refine .sA (.extract rfl rfl rfl) ?_
 refine .sA (.extract rfl rfl rfl) ?_
 refine .aA ?_
 refine .aA (.nil ?_)
 refine .seq ?_
 refine .sr ?_
 refine .sA (.fieldAddr rfl fo_89_0 rfl) ?_
 refine .sA (.fieldAddr rfl fo_86_0 rfl) ?_
 refine .sA (.load rfl sc_4 rfl) ?_
 refine .sA (.not rfl rfl) (.nil ?_)
 refine .cond rfl (fun h1 => ?_) (fun h1 => ?_)
 ·replace h1 := bnot_t h1
  refine .sr ?_
  refine .mA ?_
  refine .sA (.build rfl bu_86 (.cons rfl rfl (.cons rfl rfl .nil)) rfl) ?_
  refine .store rfl rfl rfl sz_86 rfl (.head _) rfl rfl rfl (Nat.le_of_ble_eq_true rfl) (.nil ?_)
  refine .ret ?_
  refine ⟨RetR.agg rfl (.head _) ag_86 rfl (.cons (by first | exact CellD.nil | exact CellD.d | exact CellD.eq (by simp) | (refine CellD.own (by first | exact .head _ | exact .tail _ (.head _)) ?_; rfl)) (.cons (by first | exact CellD.nil | exact CellD.d | exact CellD.eq (by simp) | (refine CellD.own (by first | exact .head _ | exact .tail _ (.head _)) ?_; rfl)) .nil)), trivial⟩
  all_goals (rfl)
 replace h1 := bnot_f h1
 exact absurd h1 (by decide)

set_option maxRecDepth 100000 in
set_option maxHeartbeats 1000000 in
theorem c_round  : ACall Tryd.prog 37 [.agg [.v (.bool false), .sl (uL 3 0), .sl (uL 2 0)], .v (.int .i64 1)] (.agg (natI 1)) := by
 refine acall_ofR (n := 16) (ds' := [.agg (natI 1)]) Tryd.func37 rfl (by kernel_rfl) rfl [.cell 4 86] rfl rfl ?_
 intro B w0 F0 fr
 refine .sr ?_
 refine .sA (.box rfl rfl rfl) ?_
 refine .alloc 904 rfl rfl rfl rfl zt_86 rfl rfl rfl (.nil ?_)
 refine .seq ?_
 refine .sr ?_
 refine .mA (.nil ?_)
 refine .block ?_
 refine .sr ?_
 refine .sA (.eql rfl rfl rfl) ?_
 refine .aA (.nil ?_)
 refine .cond rfl (fun h1 => ?_) (fun h1 => ?_)
 ·replace h1 := of_decide_eq_true h1
  refine .sr ?_
  refine .sA (.loadAgg rfl ag_89 rfl rfl) ?_
  refine .sA (.call rfl (.cons (.rfl' rfl) .nil) c_floor) ?_
  refine .store rfl rfl rfl sz_86 rfl (.head _) rfl rfl rfl (Nat.le_of_ble_eq_true rfl) (.nil ?_)
  refine .ret ?_
  refine ⟨RetR.agg rfl (.head _) ag_86 rfl (.cons (by first | exact CellD.nil | exact CellD.d | exact CellD.eq (by simp) | (refine CellD.own (by first | exact .head _ | exact .tail _ (.head _)) ?_; rfl)) (.cons (by first | exact CellD.nil | exact CellD.d | exact CellD.eq (by simp) | (refine CellD.own (by first | exact .head _ | exact .tail _ (.head _)) ?_; rfl)) .nil)), trivial⟩
  all_goals (rfl)
 replace h1 := of_decide_eq_false h1
 exact absurd h1 (by decide)

set_option maxRecDepth 100000 in
set_option maxHeartbeats 1000000 in
theorem c_iSmall  : ACall Tryd.prog 52 [.agg (natI 1)] (.tup [.v (.int .i64 1), .v (.bool true)]) := by
 refine acall_of (n := 25) (ds' := [.v (.int .i64 1), .v (.bool true)]) Tryd.func52 rfl (by kernel_rfl) rfl [2, 3] rfl rfl ?_
 intro B w0 F0 fr
 refine .sr ?_
 refine .sA (.box rfl rfl rfl) ?_
 refine .aA ?_
 refine .aA (.nil ?_)
 refine .sr ?_
 refine .sA (.fieldAddr rfl fo_86_1 rfl) ?_
 refine .sA (.load rfl sc_84 rfl) ?_
 refine .sA (.call rfl (.cons (.rfl' rfl) .nil) (c_small 1 (by decide))) ?_
 refine .mA ?_
 refine .sA (.extract rfl rfl rfl) ?_
 refine .sA (.extract rfl rfl rfl) ?_
 refine .aA ?_
 refine .aA (.nil ?_)
 refine .seq ?_
 refine .sr ?_
 refine .mA ?_
 refine .sA (.not rfl rfl) ?_
 refine .mA ?_
 refine .split 14 rfl (fun g1 => ?_) (fun g1 => ?_)
 ·replace g1 := bnot_t g1
  exact absurd g1 (by decide)
 replace g1 := bnot_f g1
 refine .sG (.moveD rfl rfl) ?_
 refine .sG (.geq rfl rfl rfl) ?_
 refine .sA (.pickF rfl rfl rfl) (.nil ?_)
 refine .cond rfl (fun h2 => ?_) (fun h2 => ?_)
 ·replace h2 := of_decide_eq_true h2
  exact absurd h2 (by decide)
 replace h2 := of_decide_eq_false h2
 refine .skip ?_
 refine .seq ?_
 refine .sr ?_
 refine .sA (.fieldAddr rfl fo_86_0 rfl) ?_
 refine .sA (.load rfl sc_4 rfl) (.nil ?_)
 refine .cond rfl (fun h3 => ?_) (fun h3 => ?_)
 ·skip
  exact absurd h3 (by decide)
 refine .skip ?_
 refine .sr ?_
 refine .mA ?_
 refine .sA (.convSame rfl (by kernel_rfl) rfl (w64 (by decide) (by decide))) ?_
 refine .aA ?_
 refine .aA (.nil ?_)
 refine .ret ?_
 refine ⟨RetD.eq rfl ?_, RetD.eq rfl ?_, trivial⟩
 all_goals (rfl)

set_option maxRecDepth 100000 in
set_option maxHeartbeats 1000000 in
theorem c_isPos (n : Int) : ACall Tryd.prog 33 [.v (.int .i64 n)] (.v (.bool (decide (-10000000000000 ≤ n ∧ n ≤ 10000000000000)))) := by
 refine acall_of (n := 9) (ds' := [.v (.bool (decide (-10000000000000 ≤ n ∧ n ≤ 10000000000000)))]) Tryd.func33 rfl (by kernel_rfl) rfl [2] rfl rfl ?_
 intro B w0 F0 fr
 refine .sr ?_
 refine .aA (.nil ?_)
 refine .sr ?_
 refine .mA ?_
 refine .sA (.geq rfl rfl rfl) ?_
 refine .mA ?_
 refine .split 5 rfl (fun g1 => ?_) (fun g1 => ?_)
 ·replace g1 := of_decide_eq_true g1
  refine .sG (.moveD rfl rfl) ?_
  refine .sG (.leq rfl rfl rfl) ?_
  refine .sA (.pickT rfl rfl rfl) ?_
  refine .aA (.nil ?_)
  refine .ret ?_
  refine ⟨RetD.eq rfl ?_, trivial⟩
  all_goals (simp; omega)
 replace g1 := of_decide_eq_false g1
 refine .pA ?_
 refine .pA ?_
 refine .sA (.pickF rfl rfl rfl) ?_
 refine .aA (.nil ?_)
 refine .ret ?_
 refine ⟨RetD.eq rfl ?_, trivial⟩
 all_goals (simp; omega)

set_option maxRecDepth 100000 in
set_option maxHeartbeats 1000000 in
theorem c_isWay (n : Int) : ACall Tryd.prog 35 [.v (.int .i64 n)] (.v (.bool (decide (1 ≤ n ∧ n ≤ 3)))) := by
 refine acall_of (n := 9) (ds' := [.v (.bool (decide (1 ≤ n ∧ n ≤ 3)))]) Tryd.func35 rfl (by kernel_rfl) rfl [2] rfl rfl ?_
 intro B w0 F0 fr
 refine .sr ?_
 refine .aA (.nil ?_)
 refine .sr ?_
 refine .mA ?_
 refine .sA (.geq rfl rfl rfl) ?_
 refine .mA ?_
 refine .split 5 rfl (fun g1 => ?_) (fun g1 => ?_)
 ·replace g1 := of_decide_eq_true g1
  refine .sG (.moveD rfl rfl) ?_
  refine .sG (.leq rfl rfl rfl) ?_
  refine .sA (.pickT rfl rfl rfl) ?_
  refine .aA (.nil ?_)
  refine .ret ?_
  refine ⟨RetD.eq rfl ?_, trivial⟩
  all_goals (simp; omega)
 replace g1 := of_decide_eq_false g1
 refine .pA ?_
 refine .pA ?_
 refine .sA (.pickF rfl rfl rfl) ?_
 refine .aA (.nil ?_)
 refine .ret ?_
 refine ⟨RetD.eq rfl ?_, trivial⟩
 all_goals (simp; omega)

set_option maxRecDepth 100000 in
set_option maxHeartbeats 1000000 in
theorem c_position  : ACall Tryd.prog 36 [.agg (natI 1)] (.tup [.v (.int .i64 1), .v (.int .i64 0)]) := by
 refine acall_of (n := 19) (ds' := [.v (.int .i64 1), .v (.int .i64 0)]) Tryd.func36 rfl (by kernel_rfl) rfl [2, 3] rfl rfl ?_
 intro B w0 F0 fr
 refine .sr ?_
 refine .sA (.box rfl rfl rfl) ?_
 refine .aA ?_
 refine .aA (.nil ?_)
 refine .sr ?_
 refine .sA (.loadAgg rfl ag_86 rfl rfl) ?_
 refine .sA (.call rfl (.cons (.rfl' rfl) .nil) c_iSmall) ?_
 refine .mA ?_
 refine .sA (.extract rfl rfl rfl) ?_
 refine .sA (.extract rfl rfl rfl) ?_
 refine .aA ?_
 refine .aA (.nil ?_)
 refine .seq ?_
 refine .sr ?_
 refine .mA ?_
 refine .sA (.not rfl rfl) ?_
 refine .mA ?_
 refine .split 13 rfl (fun g1 => ?_) (fun g1 => ?_)
 ·replace g1 := bnot_t g1
  exact absurd g1 (by decide)
 replace g1 := bnot_f g1
 refine .sG (.moveD rfl rfl) ?_
 refine .sG (.call rfl (.cons (.rfl' rfl) .nil) (c_isPos 1)) ?_
 refine .sG (.not rfl rfl) ?_
 refine .sA (.pickF rfl rfl rfl) (.nil ?_)
 refine .cond rfl (fun h2 => ?_) (fun h2 => ?_)
 ·replace h2 := bnot_t h2; replace h2 := of_decide_eq_false h2
  exact absurd h2 (by decide)
 replace h2 := bnot_f h2; replace h2 := of_decide_eq_true h2
 refine .skip ?_
 refine .sr ?_
 refine .mA ?_
 refine .aA ?_
 refine .aA (.nil ?_)
 refine .ret ?_
 refine ⟨RetD.eq rfl ?_, RetD.eq rfl ?_, trivial⟩
 all_goals (rfl)

set_option maxRecDepth 100000 in
set_option maxHeartbeats 1000000 in
theorem c_convert  : ACall Tryd.prog 17 [.v (.int .i64 3), .v (.int .i64 2), .v (.int .i64 1), .v (.int .i64 1)] (.tup [.v (.int .i64 1), .v (.int .i64 0)]) := by
 refine acall_of (n := 38) (ds' := [.v (.int .i64 1), .v (.int .i64 0)]) Tryd.func17 rfl (by kernel_rfl) rfl [8, 9] rfl rfl ?_
 intro B w0 F0 fr
 refine .sr ?_
 refine .aA ?_
 refine .aA (.nil ?_)
 refine .seq ?_
 refine .block ?_
 refine .seq ?_
 refine .sr ?_
 refine .mA ?_
 refine .sA (.call rfl (.cons (.rfl' rfl) .nil) (c_isPos 3)) ?_
 refine .sA (.not rfl rfl) ?_
 refine .aA (.nil ?_)
 refine .cond rfl (fun h1 => ?_) (fun h1 => ?_)
 ·replace h1 := bnot_t h1; replace h1 := of_decide_eq_false h1
  exact absurd h1 (by decide)
 replace h1 := bnot_f h1; replace h1 := of_decide_eq_true h1
 refine .sr ?_
 refine .mA ?_
 refine .sA (.call rfl (.cons (.rfl' rfl) .nil) (c_rate 2)) ?_
 refine .sA (.not rfl rfl) ?_
 refine .aA (.nil ?_)
 refine .cond rfl (fun h2 => ?_) (fun h2 => ?_)
 ·replace h2 := bnot_t h2; replace h2 := of_decide_eq_false h2
  exact absurd h2 (by decide)
 replace h2 := bnot_f h2; replace h2 := of_decide_eq_true h2
 refine .region ?_
 refine .mA ?_
 refine .sA (.call rfl (.cons (.rfl' rfl) .nil) (c_rate 1)) ?_
 refine .sA (.not rfl rfl) ?_
 refine .aA (.nil ?_)
 refine .cond rfl (fun h3 => ?_) (fun h3 => ?_)
 ·replace h3 := bnot_t h3; replace h3 := of_decide_eq_false h3
  exact absurd h3 (by decide)
 replace h3 := bnot_f h3; replace h3 := of_decide_eq_true h3
 refine .sr ?_
 refine .mA ?_
 refine .sA (.call rfl (.cons (.rfl' rfl) .nil) (c_isWay 1)) ?_
 refine .sA (.not rfl rfl) ?_
 refine .aA (.nil ?_)
 refine .cond rfl (fun h4 => ?_) (fun h4 => ?_)
 ·replace h4 := bnot_t h4; replace h4 := of_decide_eq_false h4
  exact absurd h4 (by decide)
 replace h4 := bnot_f h4; replace h4 := of_decide_eq_true h4
 refine .skip ?_
 refine .sr ?_
 refine .mA ?_
 refine .sA (.call rfl (.cons (.rfl' rfl) .nil) (c_numOf 3 (by decide))) ?_
 refine .mA ?_
 refine .sA (.call rfl (.cons (.rfl' rfl) .nil) (c_numOf 1 (by decide))) ?_
 refine .sA (.call rfl (.cons (.rfl' rfl) (.cons (.rfl' rfl) .nil)) c_iMul) ?_
 refine .mA ?_
 refine .sA (.call rfl (.cons (.rfl' rfl) .nil) (c_numOf 2 (by decide))) ?_
 refine .sA (.field rfl fv_86_1 rfl rfl) ?_
 refine .sA (.call rfl (.cons (.rfl' rfl) (.cons (.rfl' rfl) .nil)) c_over) ?_
 refine .mA ?_
 refine .sA (.call rfl (.cons (.rfl' rfl) (.cons (.rfl' rfl) .nil)) c_round) ?_
 refine .sA (.call rfl (.cons (.rfl' rfl) .nil) c_position) ?_
 refine .sA (.extract rfl rfl rfl) ?_
 refine .sA (.extract rfl rfl rfl) ?_
 refine .aA ?_
 refine .aA (.nil ?_)
 refine .ret ?_
 refine ⟨RetD.eq rfl ?_, RetD.eq rfl ?_, trivial⟩
 all_goals (rfl)

set_option maxRecDepth 100000 in
set_option maxHeartbeats 1000000 in
theorem c_alive  : ACall Tryd.prog 4 [] (.v (.bool true)) := by
 refine acall_of (n := 13) (ds' := [.v (.bool true)]) Tryd.func4 rfl (by kernel_rfl) rfl [0] rfl rfl ?_
 intro B w0 F0 fr
 refine .sr ?_
 refine .aA (.nil ?_)
 refine .sr ?_
 refine .sA (.call rfl (.cons (.rfl' rfl) (.cons (.rfl' rfl) (.cons (.rfl' rfl) (.cons (.rfl' rfl) .nil)))) c_convert) ?_
 refine .mA ?_
 refine .sA (.extract rfl rfl rfl) ?_
 refine .sA (.extract rfl rfl rfl) ?_
 refine .aA ?_
 refine .aA (.nil ?_)
 refine .sr ?_
 refine .mA ?_
 refine .sA (.eql rfl rfl rfl) ?_
 refine .mA ?_
 refine .split 9 rfl (fun g1 => ?_) (fun g1 => ?_)
 ·replace g1 := of_decide_eq_true g1
  refine .sG (.moveD rfl rfl) ?_
  refine .sG (.eql rfl rfl rfl) ?_
  refine .sA (.pickT rfl rfl rfl) ?_
  refine .aA (.nil ?_)
  refine .ret ?_
  refine ⟨RetD.eq rfl ?_, trivial⟩
  all_goals (rfl)
 replace g1 := of_decide_eq_false g1
 exact absurd g1 (by decide)

end Go.Proofs.YtagdgclfnbiahaaDoor

namespace Go.Proofs.YtagdgclfnbiahaaDoor
open Go.RowKit
set_option linter.unusedVariables false

/-! Types. -/
namespace TySBS
theorem ag_40 : AggT Tryd.prog 40 3 := .of (by kernel_rfl)
theorem et_26 : ElemTy Tryd.prog 26 40 3 24 (.agg #[(.int .i64 0), (.int .i64 0), (.int .i64 0)]) := ⟨by kernel_rfl, by kernel_rfl, by kernel_rfl, by decide⟩
theorem fo_40_0 : fieldOff Tryd.prog 40 0 = some 0 := by kernel_rfl
theorem fo_40_1 : fieldOff Tryd.prog 40 1 = some 1 := by kernel_rfl
theorem fo_40_2 : fieldOff Tryd.prog 40 2 = some 2 := by kernel_rfl
theorem sz_40 : ∀ w, (sizeOf 40).run Tryd.prog w = .ok 3 w := SizeT.of (by kernel_rfl)
theorem zt_40 : (Tryd.prog.info? 40).bind (·.zero) = some (.agg #[(.int .i64 0), (.int .i64 0), (.int .i64 0)]) := by kernel_rfl
end TySBS
open TyXA TyXB TySBA TySBB TySBC TySBD TySBE TySBF TySBG TySBH TySBI TySBJ TySBK TyV1 TyV2 TyV3 TyV4 TyV5 TyV6 TyV7 TyV8 TySBL TySBM TySBN TySBO TySBP TySBQ TySBR TyXG TySBS

set_option linter.unusedSimpArgs false
structure Hm where
  copy : Int
  at_ : Int
  by_ : Int
def Hm.ds (h : Hm) : List D := [.v (.int .i64 h.copy), .v (.int .i64 h.at_), .v (.int .i64 h.by_)]
def xorB (c : UInt8) (n : Int) : UInt8 := UInt8.ofNat (bits .xor .u8 (c.toNat : Int) (IntKind.u8.wrap n)).toNat
theorem xor_B (c : UInt8) (n : Int) : bits .xor .u8 (c.toNat : Int) (IntKind.u8.wrap n) = (((xorB c n).toNat : Nat) : Int) := by
  have h : ∀ x : Int, 0 ≤ IntKind.u8.wrap x ∧ IntKind.u8.wrap x < 256 := fun x => by rw [IntKind.wrap_u8]; omega
  have h2 : bits .xor .u8 (c.toNat : Int) (IntKind.u8.wrap n) = IntKind.u8.wrap (((BitVec.ofInt 8 (c.toNat : Int) ^^^ BitVec.ofInt 8 (IntKind.u8.wrap n)).toNat : Nat) : Int) := rfl
  have h3 := h (((BitVec.ofInt 8 (c.toNat : Int) ^^^ BitVec.ofInt 8 (IntKind.u8.wrap n)).toNat : Nat) : Int)
  unfold xorB
  rw [h2]
  generalize IntKind.u8.wrap (((BitVec.ofInt 8 (c.toNat : Int) ^^^ BitVec.ofInt 8 (IntKind.u8.wrap n)).toNat : Nat) : Int) = y at h3 ⊢
  show y = (((UInt8.ofNat y.toNat).toNat : Nat) : Int)
  have : (UInt8.ofNat y.toNat).toNat = y.toNat % 256 := rfl
  omega
/-- The copies behind so many harms. -/
def hrm1 (n : Nat) (cs : List (List UInt8)) (h : Hm) : List (List UInt8) :=
  cs.set (belV h.copy 3).toNat ((cs.getD (belV h.copy 3).toNat []).set (belV h.at_ (n : Int)).toNat (xorB ((cs.getD (belV h.copy 3).toNat []).getD (belV h.at_ (n : Int)).toNat 0) h.by_))
def csA (bs : List UInt8) (hs : List Hm) : Nat → List (List UInt8)
  | 0 => [bs, bs, bs]
  | j + 1 => hrm1 bs.length (csA bs hs j) (hs.getD j ⟨0, 0, 0⟩)
theorem csA_len (bs : List UInt8) (hs : List Hm) : ∀ j, (csA bs hs j).length = 3
  | 0 => rfl
  | j + 1 => by show (List.set _ _ _).length = 3; rw [List.length_set, csA_len bs hs j]
theorem csA_each (bs : List UInt8) (hs : List Hm) : ∀ j, ∀ c ∈ csA bs hs j, c.length = bs.length
  | 0, c, h => by
    have h : c ∈ [bs, bs, bs] := h
    simp at h
    rw [h]
  | j + 1, c, h => by
    have ih := csA_each bs hs j
    have h : c ∈ hrm1 bs.length (csA bs hs j) (hs.getD j ⟨0, 0, 0⟩) := h
    unfold hrm1 at h
    by_cases hk : (belV (hs.getD j ⟨0, 0, 0⟩).copy 3).toNat < (csA bs hs j).length
    · rcases List.mem_or_eq_of_mem_set h with h | h
      · exact ih c h
      · rw [h, List.length_set, List.getD_eq_getElem?_getD, List.getElem?_eq_getElem hk]
        exact ih _ (List.getElem_mem hk)
    · rw [List.set_eq_of_length_le (by omega)] at h
      exact ih c h
def csT (cs : List (List UInt8)) : List (List (List D)) := cs.map fun c => c.map u8D
theorem csT_len (cs : List (List UInt8)) : (csT cs).length = cs.length := by simp [csT]
theorem csT_at {cs : List (List UInt8)} {k : Nat} (h : k < cs.length) : (csT cs)[k]? = some (cs[k].map u8D) := by simp [csT, h]
theorem csT_set {cs : List (List UInt8)} {k : Nat} {c : List UInt8} : (csT cs).set k (c.map u8D) = csT (cs.set k c) := by unfold csT; rw [List.map_set]
theorem csA_next {bs : List UInt8} {hs : List Hm} {j k a : Nat} (hj : j < hs.length) (hk : belV hs[j].copy 3 = (k : Int)) (ha : belV hs[j].at_ (bs.length : Int) = (a : Int)) (hkl : k < (csA bs hs j).length) (hal : a < ((csA bs hs j)[k]).length) :
    csA bs hs (j + 1) = (csA bs hs j).set k (((csA bs hs j)[k]).set a (xorB ((csA bs hs j)[k])[a] hs[j].by_)) := by
  show hrm1 bs.length (csA bs hs j) (hs.getD j ⟨0, 0, 0⟩) = _
  have e : hs.getD j ⟨0, 0, 0⟩ = hs[j] := by rw [List.getD_eq_getElem?_getD, List.getElem?_eq_getElem hj]; rfl
  unfold hrm1
  rw [e, hk, ha, Int.toNat_natCast, Int.toNat_natCast]
  have e2 : (csA bs hs j).getD k [] = (csA bs hs j)[k] := by rw [List.getD_eq_getElem?_getD, List.getElem?_eq_getElem hkl]; rfl
  rw [e2]
  have e3 : ((csA bs hs j)[k]).getD a 0 = ((csA bs hs j)[k])[a] := by rw [List.getD_eq_getElem?_getD, List.getElem?_eq_getElem hal]; rfl
  rw [e3]
def cpO (cs : List (List UInt8)) : Obs := famS 28 5 1 (csT cs)
theorem cpO_upd {cs : List (List UInt8)} {k a : Nat} {x : UInt8} (hk : k < cs.length) : Obs.upd (1000 + k) (.row 5 1 ((cs[k].map u8D).set a (u8D x))) (cpO cs) = cpO (cs.set k (cs[k].set a x)) := by
  unfold cpO
  have h := famS_upd (re := 28) (ee := 5) (sz := 1) (k := k) (L := csT cs) (x := (cs[k].map u8D).set a (u8D x)) (pre := []) (by rw [csT_len]; exact hk) rfl
  rw [List.nil_append, List.nil_append] at h
  rw [h, ← csT_set, List.map_set]
theorem cp_snap {cs : List (List UInt8)} {σ : Obs} (h : ∀ p ∈ cpO cs, p ∈ σ) : Snap σ (.own 101) (.sl (cs.map (slD u8D))) := by
  have h1 := snap_famS h
  have e : (csT cs).map (fun r => [D.sl r]) = cs.map (slD u8D) := by unfold csT; rw [List.map_map]; rfl
  rwa [e] at h1
/-! ## What Make and Repair give -/
def aS : ByteArray := ⟨#[97]⟩
def smsM (bs : List UInt8) (b : Nat) : List Nat := sumsTo bs b (nblk bs.length b)
def makM (bs : List UInt8) (b : Nat) : Man := ⟨aS, (bs.length : Int), (b : Int), smsM bs b⟩
theorem make_ok {bs : List UInt8} {block : Int} (h : (makeRes aS bs block).2 = 0) : (1 ≤ block ∧ block ≤ 20000) ∧ bs.length ≤ 20000 ∧ nblk bs.length block.toNat ≤ 1000 ∧ (makeRes aS bs block).1 = makM bs block.toNat := by
  have ha : isName aS.data.toList = true := by decide
  unfold makeRes at h ⊢
  rw [if_neg (by rw [ha]; decide)] at h ⊢
  unfold sumsRes at h ⊢
  by_cases h1 : 20000 < (bs.length : Int)
  · rw [if_pos h1, if_pos (by show (2 : Int) ≠ 0; decide)] at h; exact absurd h (by decide)
  rw [if_neg h1] at h ⊢
  by_cases h2 : block < 1 ∨ 20000 < block
  · rw [if_pos h2, if_pos (by show (1 : Int) ≠ 0; decide)] at h; exact absurd h (by decide)
  rw [if_neg h2] at h ⊢
  rw [if_neg (by show ¬ (0 : Int) ≠ 0; decide)] at h ⊢
  dsimp only at h ⊢
  rw [sumsTo_length] at h ⊢
  by_cases h3 : 1000 < ((nblk bs.length block.toNat : Nat) : Int)
  · rw [if_pos h3] at h; exact absurd h (by decide)
  rw [if_neg h3]
  refine ⟨by omega, by omega, by omega, ?_⟩
  unfold makM smsM
  rw [Int.toNat_of_nonneg (by omega)]
theorem rep_ok {bs : List UInt8} {b : Nat} (hb : 1 ≤ b ∧ b ≤ 20000) (hn : bs.length ≤ 20000) (hk : nblk bs.length b ≤ 1000) {cs : List (List UInt8)} (hc : cs.length = 3) (he : ∀ c ∈ cs, c.length = bs.length) :
    repRes (makM bs b) cs = (outOf bs.length b (smsM bs b) cs (smsM bs b).length, wrongOf bs.length b (smsM bs b) cs (smsM bs b).length, 0) := by
  refine repRes_good aS bs.length b (smsM bs b) cs ?_ (by omega) (by omega) (anyLarge_no fun c h => ?_)
  · unfold manFault
    have ha : isName aS.data.toList = true := by decide
    have hnb := nblocks_nat bs.length b hb.1
    have hsl : (smsM bs b).length = nblk bs.length b := sumsTo_length _ _ _
    rw [if_neg (by rw [ha]; decide), if_neg (by show ¬ ((bs.length : Int) < 0 ∨ 20000 < (bs.length : Int) ∨ (b : Int) < 1 ∨ 20000 < (b : Int)); omega), if_neg (by show ¬ 1000 < nblocks (bs.length : Int) (b : Int); rw [hnb]; omega), if_neg (by show ¬ ((smsM bs b).length : Int) ≠ nblocks (bs.length : Int) (b : Int); rw [hnb, hsl]; omega)]
  · have := he c (List.mem_of_mem_take h)
    exact decide_eq_false (by omega)
theorem rep_whole {bs : List UInt8} {b : Nat} (hb : 1 ≤ b) {cs : List (List UInt8)} {k : Nat} (hk : k < cs.length) (h : cs[k] = bs) : wrongOf bs.length b (smsM bs b) cs (smsM bs b).length = [] := by
  have h1 := no_wrong (n := bs.length) (c := bs) (cs := cs) hb (by rw [← h]; exact List.getElem_mem hk) rfl
  have h2 : (smsM bs b).length = nblk bs.length b := sumsTo_length _ _ _
  rw [h2]; exact h1
theorem rep_sums {bs : List UInt8} {b : Nat} (hb : 1 ≤ b ∧ b ≤ 20000) (hn : bs.length ≤ 20000) {cs : List (List UInt8)} (h : wrongOf bs.length b (smsM bs b) cs (smsM bs b).length = []) :
    sumsRes (outOf bs.length b (smsM bs b) cs (smsM bs b).length) (b : Int) = (smsM bs b, 0) := by
  obtain ⟨h1, h2⟩ := sums_back (n := bs.length) (b := b) (sums := smsM bs b) (cs := cs) hb.1 (sumsTo_length _ _ _) h
  unfold sumsRes
  rw [if_neg (by omega), if_neg (by omega), h1]
  show (sumsTo _ ((b : Int)).toNat (nblk bs.length ((b : Int)).toNat), (0 : Int)) = _
  rw [Int.toNat_natCast, h2]
theorem pack_pos (s : Snd) (l : List Nt) : 0 < (packB (chksOf s l)).length := by
  unfold chksOf
  rw [packB_append, packB_append, List.length_append, List.length_append]
  have e1 : (packB [formC s]).length = (chkB (formC s)).length := by simp [packB]
  have k1 := chkB_len (c := formC s) rfl
  omega
theorem copies_3 {B : List UInt8} {σ : Obs} {e : Nat} (h0 : (1000, Ob.row 5 1 (B.map u8D)) ∈ σ) (h1 : (1001, Ob.row 5 1 (B.map u8D)) ∈ σ) (h2 : (1002, Ob.row 5 1 (B.map u8D)) ∈ σ) (h3 : (101, Ob.rowS 28 1 [[.own 1000], [.own 1001], [.own 1002]]) ∈ σ) : ∀ p ∈ cpO [B, B, B], p ∈ σ := fun p hp => by
  have e : cpO [B, B, B] = [(101, Ob.rowS 28 1 [[.own 1000], [.own 1001], [.own 1002]]), (1000, Ob.row 5 1 (B.map u8D)), (1001, Ob.row 5 1 (B.map u8D)), (1002, Ob.row 5 1 (B.map u8D))] := rfl
  rw [e] at hp
  simp only [List.mem_cons, List.not_mem_nil, or_false] at hp
  rcases hp with rfl | rfl | rfl | rfl
  · exact h3
  · exact h0
  · exact h1
  · exact h2

set_option maxRecDepth 100000 in
set_option maxHeartbeats 8000000 in
theorem lawSounds (s : Snd) (l : List Nt) (block : Int) (hs : List Hm) (hsz : ∀ n ∈ l, n.name.size ≤ 9223372036854775807 ∧ n.text.size ≤ 9223372036854775807) : ACallT Tryd.prog MaxT 3 [.agg s.ds, .sl (l.map Nt.ds), .v (.int .i64 block), .sl (hs.map Hm.ds)] (.v (.bool true)) := by
  refine acall_ofT (n := 207) (ds' := [.v (.bool true)]) Tryd.func3 rfl (by kernel_rfl) rfl [8] rfl rfl ?_
  intro B w0 F0 hT
  refine .bound 3 rfl (fun hbd3 => ?_)
  rw [List.length_map] at hbd3
  refine .sr ?_
  refine .sA (.box rfl rfl rfl) ?_
  refine .aA (.nil ?_)
  refine .seq ?_
  refine .sr ?_
  refine .sA (.call rfl .nil c_alive) ?_
  refine .sA (.not rfl rfl) (.nil ?_)
  refine .cond rfl (fun h => nomatch h) (fun _ => ?_)
  refine .skip ?_
  refine .sr ?_
  refine .sA (.loadAgg rfl ag_24 rfl rfl) ?_
  refine .mA ?_
  refine .sA (.call rfl (.cons (.rfl' rfl) (.cons (.rfl' rfl) (.cons (.rfl' rfl) .nil))) (c_bytes s l hsz)) ?_
  refine .mA ?_
  refine .sA (.extract rfl rfl rfl) ?_
  refine .sA (.extract rfl rfl rfl) ?_
  refine .aA ?_
  refine .aA (.nil ?_)
  refine .seq ?_
  refine .sr ?_
  refine .mA ?_
  refine .sA (.neq rfl rfl rfl) (.nil ?_)
  refine .cond rfl (fun h1 => ?_) (fun h1 => ?_)
  · replace h1 := of_decide_eq_true h1
    rw [bytes_no h1]
    refine .sr ?_
    refine .mA ?_
    refine .sA (.lenSl rfl et_28.ht rfl) ?_
    refine .sA (.eql rfl rfl rfl) ?_
    refine .mA ?_
    refine .split 42 rfl (fun g2 => ?_) (fun g2 => ?_)
    · replace g2 := of_decide_eq_true g2
      refine .sG (.call rfl .nil c_alive) ?_
      refine .sA (.pickT rfl rfl rfl) ?_
      refine .aA (.nil ?_)
      refine .ret ?_
      refine ⟨RetD.eq rfl ?_, trivial⟩
      all_goals (first | rfl | simp)
    replace g2 := of_decide_eq_false g2
    exact absurd rfl g2
  replace h1 := of_decide_eq_false h1
  obtain ⟨ok, no, hbv⟩ := bytes_ok (Decidable.not_not.1 h1)
  have hpos := pack_pos s l
  have htl := ok.tl
  rw [hbv]
  refine .skip ?_
  refine .sr ?_
  refine .mA ?_
  refine .mA ?_
  refine .sA (.call rfl (.cons (.rfl' rfl) (.cons (.rfl' rfl) (.cons (.rfl' rfl) .nil))) (c_pMake aS (packB (chksOf s l)) block (by decide))) ?_
  refine .mA ?_
  refine .sA (.extract rfl rfl rfl) ?_
  refine .sA (.extract rfl rfl rfl) ?_
  refine .alloc 604 rfl rfl rfl rfl zt_34 rfl rfl rfl ?_
  refine .store rfl rfl rfl sz_34 rfl (.head _) rfl rfl rfl (Nat.le_of_ble_eq_true rfl) ?_
  refine .freezeCells 11 (ds := (makeRes aS (packB (chksOf s l)) block).1.ds) rfl (.head _) ?_
  refine .aA (.nil ?_)
  refine .seq ?_
  refine .sr ?_
  refine .mA ?_
  refine .sA (.neq rfl rfl rfl) (.nil ?_)
  refine .cond rfl (fun h3 => ?_) (fun h3 => ?_)
  · replace h3 := of_decide_eq_true h3
    refine .sr ?_
    refine .sA (.call rfl .nil c_alive) ?_
    refine .aA (.nil ?_)
    refine .ret ?_
    refine ⟨RetD.eq rfl ?_, trivial⟩
    all_goals (first | rfl | simp)
  replace h3 := of_decide_eq_false h3
  obtain ⟨hb, hn, hnk, HM⟩ := make_ok (Decidable.not_not.1 h3)
  have hbt : ((block.toNat : Nat) : Int) = block := by omega
  rw [HM]
  refine .skip ?_
  refine .sr ?_
  refine .mA ?_
  refine .callO 1000 rfl rfl rfl rfl (.cons (.rfl' rfl) .nil) (c_clB (packB (chksOf s l)) (by omega)) rfl ?_
  refine .mA ?_
  refine .callO 1001 rfl rfl rfl rfl (.cons (.rfl' rfl) .nil) (c_clB (packB (chksOf s l)) (by omega)) rfl ?_
  refine .mA ?_
  refine .callO 1002 rfl rfl rfl rfl (.cons (.rfl' rfl) .nil) (c_clB (packB (chksOf s l)) (by omega)) rfl ?_
  refine .buildRows3 101 (s0 := .own 1000) (s1 := .own 1001) (s2 := .own 1002) rfl rfl rfl rfl et_38 rfl rfl rfl (OneS.own (.tail _ (.tail _ (.head _)))) (OneS.own (.tail _ (.head _))) (OneS.own (.head _)) rfl ?_
  refine .obs (σ' := [] ++ cpO [(packB (chksOf s l)), (packB (chksOf s l)), (packB (chksOf s l))]) (copies_3 (e := 0) (.tail _ (.tail _ (.tail _ (.head _)))) (.tail _ (.tail _ (.head _))) (.tail _ (.head _)) (.head _)) ?_
  refine .sA (.assignO rfl rfl) (.nil ?_)
  refine .seq ?_
  refine .sr ?_
  refine .mA ?_
  refine .sA (.lenSl rfl et_26.ht rfl) ?_
  refine .mA (.nil ?_)
  refine .block ?_
  refine .loop (G := Nat) (fun j => Env.of [(63, .d (.v (.int .i64 (j : Int)))), (61, .d (.sl (hs.map Hm.ds))), (62, .d (.v (.int .i64 ((hs.map Hm.ds).length : Int)))), (12, .own 101), (11, .d (.fp (makM (packB (chksOf s l)) block.toNat).ds)), (9, .d (.sl ((packB (chksOf s l)).map u8D))), (4, .d (.fp s.ds)), (1, .d (.sl (l.map Nt.ds))), (2, .d (.v (.int .i64 block)))]) (fun j => [] ++ cpO (csA (packB (chksOf s l)) hs j)) (fun j => j ≤ hs.length) (fun j => hs.length - j) 0 (Nat.zero_le _) (Sub.less ⟨(SLe.of_eq rfl), SLe.refl _, SLe.refl _, SLe.refl _, SLe.refl _, SLe.refl _, SLe.refl _, SLe.refl _, SLe.refl _, trivial⟩ (fun _ h => h)) ?_
  intro j hj
  refine .sr ?_
  refine .sA (.lss rfl rfl rfl) (.nil ?_)
  refine .seq ?_
  refine .cond rfl (fun h4 => ?_) (fun h4 => ?_)
  · replace h4 := of_decide_eq_true h4
    rw [List.length_map] at h4
    have hlt : j < hs.length := by omega
    refine .skip ?_
    refine .seq ?_
    refine .block ?_
    refine .sr ?_
    refine .sA (.indexAddr rfl et_26 rfl rfl j rfl (at_lst hlt) rfl) ?_
    refine .sA (.loadAgg rfl ag_40 rfl rfl) ?_
    refine .alloc 605 rfl rfl rfl rfl zt_40 rfl rfl (fK rfl rfl) ?_
    refine .nK rfl ?_
    refine .store rfl rfl rfl sz_40 rfl (.head _) rfl rfl rfl (Nat.le_of_ble_eq_true rfl) ?_
    refine .nU rfl ?_
    refine .freezeCells 14 (ds := hs[j].ds) rfl (.head _) ?_
    refine .nD rfl ?_
    refine .nil ?_
    refine .sr ?_
    refine .sA (.moveO rfl rfl) ?_
    refine .sA (.fieldAddr rfl fo_40_0 rfl) ?_
    refine .sA (.load rfl sc_3 rfl) ?_
    refine .sA (.call rfl (.cons (.rfl' rfl) (.cons (.rfl' rfl) .nil)) (c_below hs[j].copy 3 (by decide))) ?_
    have hb3 := belV_rng (x := hs[j].copy) (n := 3) (by decide)
    obtain ⟨k, hk⟩ : ∃ k : Nat, belV hs[j].copy 3 = (k : Int) := ⟨(belV hs[j].copy 3).toNat, by omega⟩
    rw [hk] at hb3 ⊢
    have hkl : k < (csA (packB (chksOf s l)) hs j).length := by rw [csA_len]; omega
    have hkn := csA_each (packB (chksOf s l)) hs j _ (List.getElem_mem hkl)
    refine .sA (.weak (.indexOwn rfl et_38 rfl rfl (Obs.weak_mem (p := (101, _)) (.head _)) k rfl (by rw [List.length_map, idsS_len, csT_len, csA_len]; omega))) ?_
    refine .sA (.loadRowS (s := .own (1000 + k)) rfl sc_28 rfl (.head _) k 0 rfl (idsS_at (by rw [csT_len, csA_len]; omega)) rfl) ?_
    refine .sA (.assignO rfl rfl) (.nil ?_)
    refine .drawG (fun k => (Nat.beq k 13) || (Nat.beq k 4 || Nat.beq k 6 || Nat.beq k 7 || Nat.beq k 12)) (fun k => Nat.beq k 13) (fun k h => Bool.or_eq_true_iff.2 (.inl h)) (by kernel_rfl) (by kernel_rfl) (by kernel_rfl) ?_
    refine .step rfl rfl rfl (fun _ => AOp.moveO rfl rfl) ?_
    refine .step rfl rfl rfl (fun _ => AOp.fieldAddr rfl fo_40_1 rfl) ?_
    refine .step rfl rfl rfl (fun _ => AOp.load rfl sc_3 rfl) ?_
    refine .step rfl rfl rfl (fun _ => AOp.moveO rfl rfl) ?_
    refine .stepS rfl rfl rfl rfl (.lenOwn rfl et_28.ht rfl (famS_get (fun p hp => hp) (csT_at hkl))) ?_
    rw [show (((csA (packB (chksOf s l)) hs j)[k]).map u8D).length = (packB (chksOf s l)).length from (List.length_map _).trans hkn]
    refine .step rfl rfl rfl (fun _ => AOp.call rfl (.cons (.rfl' rfl) (.cons (.rfl' rfl) .nil)) (c_below hs[j].at_ ((packB (chksOf s l)).length : Int) (by omega))) ?_
    have hbn := belV_rng (x := hs[j].at_) (n := ((packB (chksOf s l)).length : Int)) (by omega)
    obtain ⟨a, ha⟩ : ∃ a : Nat, belV hs[j].at_ ((packB (chksOf s l)).length : Int) = (a : Int) := ⟨(belV hs[j].at_ ((packB (chksOf s l)).length : Int)).toNat, by omega⟩
    rw [ha] at hbn ⊢
    have hal : a < ((csA (packB (chksOf s l)) hs j)[k]).length := by omega
    have HN := csA_next hlt hk ha hkl hal
    refine .stepS rfl rfl rfl rfl (.indexOwn rfl et_28 rfl rfl (famS_get (fun p hp => hp) (csT_at hkl)) a rfl (by rw [List.length_map]; exact hal)) ?_
    refine .stepS rfl rfl rfl rfl (.loadRow rfl sc_5 rfl (famS_get (fun p hp => hp) (csT_at hkl)) a 0 rfl (at_lst hal) rfl) ?_
    refine .step rfl rfl rfl (fun _ => AOp.fieldAddr rfl fo_40_2 rfl) ?_
    refine .step rfl rfl rfl (fun _ => AOp.load rfl sc_3 rfl) ?_
    refine .step rfl rfl rfl (fun _ => AOp.convInt rfl cv_3_5 rfl) ?_
    refine .step rfl rfl rfl (fun _ => AOp.xorG rfl rfl rfl) ?_
    rw [xor_B]
    refine .stepS rfl rfl rfl rfl (.indexOwn rfl et_28 rfl rfl (famS_get (fun p hp => hp) (csT_at hkl)) a rfl (by rw [List.length_map]; exact hal)) ?_
    refine .eff rfl rfl rfl (.storeRow rfl rfl sz_5 rfl (famS_get (fun p hp => hp) (csT_at hkl)) rfl rfl rfl a 0 rfl (at_lst hal) (Nat.le_of_ble_eq_true rfl)) ?_
    refine .nil ?_
    refine .region ?_
    refine .sA (.add64 rfl rfl rfl (by omega) (by omega)) ?_
    refine .mA (.nil ?_)
    refine ⟨j + 1, (by omega), (by dsimp only; omega), Sub.less ⟨(SLe.of_eq rfl), SLe.refl _, SLe.refl _, SLe.refl _, SLe.refl _, SLe.refl _, SLe.refl _, SLe.refl _, SLe.refl _, trivial⟩ (by dsimp only; rw [HN]; exact mem_of_eq (cpO_upd hkl).symm)⟩
  replace h4 := of_decide_eq_false h4
  rw [List.length_map] at h4
  obtain rfl : j = hs.length := by omega
  refine .exit ?_
  refine .seq ?_
  refine .freezeSnap 12 (s := .own 101) (d := .sl ((csA (packB (chksOf s l)) hs hs.length).map (slD u8D))) (cpO (csA (packB (chksOf s l)) hs hs.length)) [] rfl (cp_snap fun p hp => hp) (fun p hp => hp) (fun p hp => by cases hp) (fun p hp q hq => by cases hq) ?_
  have HR := rep_ok (b := block.toNat) (by omega) hn hnk (csA_len (packB (chksOf s l)) hs hs.length) (csA_each (packB (chksOf s l)) hs hs.length)
  refine .region ?_
  refine .sA (.loadAgg rfl ag_34 rfl rfl) ?_
  refine .mA ?_
  refine .sA (.call rfl (.cons (.rfl' rfl) (.cons (.rfl' rfl) .nil)) (c_pRep (makM (packB (chksOf s l)) block.toNat) (csA (packB (chksOf s l)) hs hs.length) (by show (1 : Nat) ≤ _; omega))) ?_
  rw [HR]
  refine .mA ?_
  refine .sA (.extract rfl rfl rfl) ?_
  refine .sA (.extract rfl rfl rfl) ?_
  refine .sA (.extract rfl rfl rfl) ?_
  refine .aA ?_
  refine .aA ?_
  refine .aA (.nil ?_)
  refine .seq ?_
  refine .sr ?_
  refine .mA ?_
  refine .sA (.neq rfl rfl rfl) ?_
  refine .mA ?_
  refine .split 96 rfl (fun g5 => ?_) (fun g5 => ?_)
  · replace g5 := of_decide_eq_true g5
    exact absurd rfl g5
  replace g5 := of_decide_eq_false g5
  refine .sG (.call rfl .nil c_alive) ?_
  refine .sG (.not rfl rfl) ?_
  refine .sA (.pickF rfl rfl rfl) (.nil ?_)
  refine .cond rfl (fun h => nomatch h) (fun _ => ?_)
  refine .skip ?_
  refine .seq ?_
  refine .sr ?_
  refine .mA ?_
  refine .sA (.lenSl rfl et_38.ht rfl) ?_
  refine .mA (.nil ?_)
  refine .block ?_
  refine .loop (G := Nat) (fun k => Env.of [(102, .d (.v (.int .i64 (k : Int)))), (100, .d (.sl ((csA (packB (chksOf s l)) hs hs.length).map (slD u8D)))), (101, .d (.v (.int .i64 (((csA (packB (chksOf s l)) hs hs.length).map (slD u8D)).length : Int)))), (11, .d (.fp (makM (packB (chksOf s l)) block.toNat).ds)), (9, .d (.sl ((packB (chksOf s l)).map u8D))), (4, .d (.fp s.ds)), (1, .d (.sl (l.map Nt.ds))), (2, .d (.v (.int .i64 block))), (16, .d (.sl ((outOf (packB (chksOf s l)).length block.toNat (smsM (packB (chksOf s l)) block.toNat) (csA (packB (chksOf s l)) hs hs.length) (smsM (packB (chksOf s l)) block.toNat).length).map u8D))), (17, .d (.sl ((wrongOf (packB (chksOf s l)).length block.toNat (smsM (packB (chksOf s l)) block.toNat) (csA (packB (chksOf s l)) hs hs.length) (smsM (packB (chksOf s l)) block.toNat).length).map natD)))]) (fun k => []) (fun k => k ≤ 3) (fun k => 3 - k) 0 (Nat.zero_le _) (Sub.less ⟨(SLe.of_eq rfl), SLe.refl _, SLe.refl _, SLe.refl _, SLe.refl _, SLe.refl _, SLe.refl _, SLe.refl _, SLe.refl _, SLe.refl _, trivial⟩ (fun _ h => h)) ?_
  intro k hk
  refine .sr ?_
  refine .sA (.lss rfl rfl rfl) (.nil ?_)
  refine .seq ?_
  refine .cond rfl (fun h6 => ?_) (fun h6 => ?_)
  · replace h6 := of_decide_eq_true h6
    rw [List.length_map, csA_len] at h6
    have hlt : k < (csA (packB (chksOf s l)) hs hs.length).length := by rw [csA_len]; omega
    refine .skip ?_
    refine .seq ?_
    refine .block ?_
    refine .sr ?_
    refine .sA (.indexAddr rfl et_38 rfl rfl k rfl (at_lst hlt) rfl) ?_
    refine .sA (.load rfl sc_28 rfl) ?_
    refine .aA (.nil ?_)
    refine .sr ?_
    refine .mA ?_
    refine .mA ?_
    refine .sA (.call rfl (.cons (.rfl' rfl) (.cons (.rfl' rfl) .nil)) (c_eqB (csA (packB (chksOf s l)) hs hs.length)[k] (packB (chksOf s l)))) ?_
    refine .mA ?_
    refine .split 109 rfl (fun g7 => ?_) (fun g7 => ?_)
    · replace g7 := of_decide_eq_true g7
      have hwz := rep_whole (b := block.toNat) (by omega) hlt g7
      rw [hwz]
      refine .sG (.moveD rfl rfl) ?_
      refine .sG (.lenSl rfl et_42.ht rfl) ?_
      refine .sG (.gtr rfl rfl rfl) ?_
      refine .sA (.pickT rfl rfl rfl) (.nil ?_)
      refine .cond rfl (fun h8 => ?_) (fun h8 => ?_)
      · replace h8 := of_decide_eq_true h8
        exact absurd h8 (by show ¬ (0 < (0 : Int)); decide)
      replace h8 := of_decide_eq_false h8
      refine .skip ?_
      refine .region ?_
      refine .sA (.add64 rfl rfl rfl (by omega) (by omega)) ?_
      refine .mA (.nil ?_)
      refine ⟨k + 1, (by omega), (by dsimp only; omega), Sub.less ⟨(SLe.of_eq rfl), SLe.refl _, SLe.refl _, SLe.refl _, SLe.refl _, SLe.refl _, SLe.refl _, SLe.refl _, SLe.refl _, SLe.refl _, trivial⟩ (fun _ h => h)⟩
    replace g7 := of_decide_eq_false g7
    refine .pA ?_
    refine .pA ?_
    refine .pA ?_
    refine .sA (.pickF rfl rfl rfl) (.nil ?_)
    refine .cond rfl (fun h => nomatch h) (fun _ => ?_)
    refine .skip ?_
    refine .region ?_
    refine .sA (.add64 rfl rfl rfl (by omega) (by omega)) ?_
    refine .mA (.nil ?_)
    refine ⟨k + 1, (by omega), (by dsimp only; omega), Sub.less ⟨(SLe.of_eq rfl), SLe.refl _, SLe.refl _, SLe.refl _, SLe.refl _, SLe.refl _, SLe.refl _, SLe.refl _, SLe.refl _, SLe.refl _, trivial⟩ (fun _ h => h)⟩
  replace h6 := of_decide_eq_false h6
  skip
  refine .exit ?_
  refine .seq ?_
  refine .sr ?_
  refine .mA ?_
  refine .sA (.lenSl rfl et_42.ht rfl) ?_
  refine .sA (.gtr rfl rfl rfl) (.nil ?_)
  refine .cond rfl (fun h9 => ?_) (fun h9 => ?_)
  · replace h9 := of_decide_eq_true h9
    refine .sr ?_
    refine .aA (.nil ?_)
    refine .ret ?_
    refine ⟨RetD.eq rfl ?_, trivial⟩
    all_goals (first | rfl | simp)
  replace h9 := of_decide_eq_false h9
  rw [List.length_map] at h9
  have hbad : (wrongOf (packB (chksOf s l)).length block.toNat (smsM (packB (chksOf s l)) block.toNat) (csA (packB (chksOf s l)) hs hs.length) (smsM (packB (chksOf s l)) block.toNat).length) = [] := List.eq_nil_of_length_eq_zero (by omega)
  have HS := rep_sums (b := block.toNat) (by omega) hn hbad
  rw [hbt] at HS
  refine .skip ?_
  refine .seq ?_
  refine .sr ?_
  refine .mA ?_
  refine .mA ?_
  refine .sA (.call rfl (.cons (.rfl' rfl) (.cons (.rfl' rfl) .nil)) (c_eqB (outOf (packB (chksOf s l)).length block.toNat (smsM (packB (chksOf s l)) block.toNat) (csA (packB (chksOf s l)) hs hs.length) (smsM (packB (chksOf s l)) block.toNat).length) (packB (chksOf s l)))) ?_
  refine .sA (.not rfl rfl) (.nil ?_)
  refine .cond rfl (fun h10 => ?_) (fun h10 => ?_)
  · replace h10 := bnot_t h10; replace h10 := of_decide_eq_false h10
    refine .sr ?_
    refine .mA ?_
    refine .mA ?_
    refine .sA (.call rfl (.cons (.rfl' rfl) (.cons (.rfl' rfl) .nil)) (c_pSums (outOf (packB (chksOf s l)).length block.toNat (smsM (packB (chksOf s l)) block.toNat) (csA (packB (chksOf s l)) hs hs.length) (smsM (packB (chksOf s l)) block.toNat).length) block)) ?_
    rw [HS]
    refine .mA ?_
    refine .sA (.extract rfl rfl rfl) ?_
    refine .sA (.extract rfl rfl rfl) ?_
    refine .aA ?_
    refine .aA (.nil ?_)
    refine .sr ?_
    refine .mA ?_
    refine .sA (.eql rfl rfl rfl) ?_
    refine .mA ?_
    refine .split 130 rfl (fun g11 => ?_) (fun g11 => ?_)
    · replace g11 := of_decide_eq_true g11
      refine .sG (.moveD rfl rfl) ?_
      refine .sG (.fieldAddr rfl fo_34_3 rfl) ?_
      refine .sG (.load rfl sc_32 rfl) ?_
      refine .sG (.call rfl (.cons (.rfl' rfl) (.cons (.rfl' rfl) .nil)) (c_eqU32 (smsM (packB (chksOf s l)) block.toNat))) ?_
      refine .sA (.pickT rfl rfl rfl) ?_
      refine .aA (.nil ?_)
      refine .ret ?_
      refine ⟨RetD.eq rfl ?_, trivial⟩
      all_goals (first | rfl | simp)
    replace g11 := of_decide_eq_false g11
    exact absurd rfl g11
  replace h10 := bnot_f h10; replace h10 := of_decide_eq_true h10
  have hob : (outOf (packB (chksOf s l)).length block.toNat (smsM (packB (chksOf s l)) block.toNat) (csA (packB (chksOf s l)) hs hs.length) (smsM (packB (chksOf s l)) block.toNat).length) = (packB (chksOf s l)) := h10
  rw [hob]
  refine .skip ?_
  refine .sr ?_
  refine .mA ?_
  -- wants the world
  refine .callT rfl rfl rfl hT maxT_stays rfl (.cons (.rfl' rfl) .nil) (c_from s l ok no) ?_
  refine .mA ?_
  refine .sA (.extract rfl rfl rfl) ?_
  refine .sA (.extract rfl rfl rfl) ?_
  refine .sA (.extract rfl rfl rfl) ?_
  refine .sA (.extract rfl rfl rfl) ?_
  refine .alloc 606 rfl rfl rfl rfl zt_24 rfl rfl rfl ?_
  refine .store rfl rfl rfl sz_24 rfl (.head _) rfl rfl rfl (Nat.le_of_ble_eq_true rfl) ?_
  refine .freezeCells 22 (ds := s.ds) rfl (.head _) ?_
  refine .aA ?_
  refine .aA ?_
  refine .aA (.nil ?_)
  refine .seq ?_
  refine .sr ?_
  refine .mA ?_
  refine .sA (.neq rfl rfl rfl) ?_
  refine .mA ?_
  refine .split 145 rfl (fun g12 => ?_) (fun g12 => ?_)
  · replace g12 := of_decide_eq_true g12
    exact absurd rfl g12
  replace g12 := of_decide_eq_false g12
  refine .sG (.moveD rfl rfl) ?_
  refine .sG (.moveD rfl rfl) ?_
  refine .sG (.call rfl (.cons (.rfl' rfl) (.cons (.rfl' rfl) .nil)) (c_eqN l)) ?_
  refine .sG (.not rfl rfl) ?_
  refine .sA (.pickF rfl rfl rfl) ?_
  refine .mA ?_
  refine .sG (.fieldAddr rfl fo_24_0 rfl) ?_
  refine .sG (.load rfl sc_3 rfl) ?_
  refine .sG (.fieldAddr rfl fo_24_0 rfl) ?_
  refine .sG (.load rfl sc_3 rfl) ?_
  refine .sG (.neq rfl rfl rfl) ?_
  refine .sA (.pickF rfl rfl rfl) ?_
  refine .mA ?_
  refine .split 158 rfl (fun g13 => ?_) (fun g13 => ?_)
  · replace g13 := of_decide_eq_true g13
    exact absurd rfl g13
  replace g13 := of_decide_eq_false g13
  refine .sG (.fieldAddr rfl fo_24_1 rfl) ?_
  refine .sG (.load rfl sc_22 rfl) ?_
  refine .sG (.lenSl rfl et_22.ht rfl) ?_
  refine .sG (.fieldAddr rfl fo_24_1 rfl) ?_
  refine .sG (.load rfl sc_22 rfl) ?_
  refine .sG (.lenSl rfl et_22.ht rfl) ?_
  refine .sG (.neq rfl rfl rfl) ?_
  refine .sA (.pickF rfl rfl rfl) (.nil ?_)
  refine .cond rfl (fun h14 => ?_) (fun h14 => ?_)
  · replace h14 := of_decide_eq_true h14
    exact absurd rfl h14
  replace h14 := of_decide_eq_false h14
  refine .skip ?_
  refine .seq ?_
  refine .sr ?_
  refine .sA (.fieldAddr rfl fo_24_1 rfl) ?_
  refine .sA (.load rfl sc_22 rfl) ?_
  refine .sA (.lenSl rfl et_22.ht rfl) ?_
  refine .mA (.nil ?_)
  refine .block ?_
  refine .loop (G := Nat) (fun i => Env.of [(170, .d (.v (.int .i64 (i : Int)))), (168, .d (.sl (s.tracks.map trD))), (169, .d (.v (.int .i64 ((s.tracks.map trD).length : Int)))), (22, .d (.fp s.ds)), (4, .d (.fp s.ds))]) (fun i => []) (fun i => i ≤ s.tracks.length) (fun i => s.tracks.length - i) 0 (Nat.zero_le _) (Sub.less ⟨(SLe.of_eq rfl), SLe.refl _, SLe.refl _, SLe.refl _, SLe.refl _, trivial⟩ (fun _ h => h)) ?_
  intro i hi
  refine .sr ?_
  refine .sA (.lss rfl rfl rfl) (.nil ?_)
  refine .seq ?_
  refine .cond rfl (fun h15 => ?_) (fun h15 => ?_)
  · replace h15 := of_decide_eq_true h15
    rw [List.length_map] at h15
    have hlt : i < s.tracks.length := by omega
    refine .skip ?_
    refine .seq ?_
    refine .block ?_
    refine .sr ?_
    refine .mA ?_
    refine .aA (.nil ?_)
    refine .seq ?_
    refine .draw (by kernel_rfl) (by kernel_rfl) ?_
    refine .sA (.fieldAddr rfl fo_24_1 rfl) ?_
    refine .sA (.load rfl sc_22 rfl) ?_
    refine .sA (.moveD rfl rfl) ?_
    refine .sA (.indexAddr rfl et_22 rfl rfl i rfl (at_lst hlt) rfl) ?_
    refine .sA (.load rfl sc_42 rfl) ?_
    refine .sA (.fieldAddr rfl fo_24_1 rfl) ?_
    refine .sA (.load rfl sc_22 rfl) ?_
    refine .sA (.moveD rfl rfl) ?_
    refine .sA (.indexAddr rfl et_22 rfl rfl i rfl (at_lst hlt) rfl) ?_
    refine .sA (.load rfl sc_42 rfl) ?_
    refine .sA (.call rfl (.cons (.rfl' rfl) (.cons (.rfl' rfl) .nil)) (c_eqI s.tracks[i])) ?_
    refine .sA (.not rfl rfl) ?_
    refine .nil ?_
    refine .cond rfl (fun h => nomatch h) (fun _ => ?_)
    refine .skip ?_
    refine .region ?_
    refine .sA (.add64 rfl rfl rfl (by omega) (by omega)) ?_
    refine .mA (.nil ?_)
    refine ⟨i + 1, (by omega), (by dsimp only; omega), Sub.less ⟨(SLe.of_eq rfl), SLe.refl _, SLe.refl _, SLe.refl _, SLe.refl _, trivial⟩ (fun _ h => h)⟩
  replace h15 := of_decide_eq_false h15
  skip
  refine .exit ?_
  refine .sr ?_
  refine .sA (.loadAgg rfl ag_24 rfl rfl) ?_
  refine .sA (.call rfl (.cons (.rfl' rfl) .nil) (c_dig s ok)) ?_
  refine .mA ?_
  refine .sA (.extract rfl rfl rfl) ?_
  refine .sA (.extract rfl rfl rfl) ?_
  refine .aA ?_
  refine .aA (.nil ?_)
  refine .sr ?_
  refine .sA (.loadAgg rfl ag_24 rfl rfl) ?_
  refine .sA (.call rfl (.cons (.rfl' rfl) .nil) (c_dig s ok)) ?_
  refine .mA ?_
  refine .sA (.extract rfl rfl rfl) ?_
  refine .sA (.extract rfl rfl rfl) ?_
  refine .aA ?_
  refine .aA (.nil ?_)
  refine .sr ?_
  refine .mA ?_
  refine .sA (.eql rfl rfl rfl) ?_
  refine .mA ?_
  refine .split 198 rfl (fun g16 => ?_) (fun g16 => ?_)
  · replace g16 := of_decide_eq_true g16
    refine .sG (.moveD rfl rfl) ?_
    refine .sG (.eql rfl rfl rfl) ?_
    refine .sA (.pickT rfl rfl rfl) ?_
    refine .mA ?_
    refine .split 202 rfl (fun g17 => ?_) (fun g17 => ?_)
    · replace g17 := of_decide_eq_true g17
      refine .sG (.moveD rfl rfl) ?_
      refine .sG (.moveD rfl rfl) ?_
      refine .sG (.seql rfl rfl rfl) ?_
      refine .sA (.pickT rfl rfl rfl) ?_
      refine .aA (.nil ?_)
      refine .ret ?_
      refine ⟨RetD.eq rfl ?_, trivial⟩
      all_goals (first | rfl | simp)
    replace g17 := of_decide_eq_false g17
    exact absurd rfl g17
  replace g16 := of_decide_eq_false g16
  exact absurd rfl g16

end Go.Proofs.YtagdgclfnbiahaaDoor

namespace Go.Proofs
open Go.Shelf
def Tryd.l219_ren : Go.Shelf.Ren := ⟨fun | 219 => 85 | 217 => 90 | 225 => 91 | 224 => 92 | 267 => 93 | 266 => 96 | 314 => 97 | n => n, fun | 9 => 9 | 3 => 3 | 4 => 4 | 5 => 5 | 46 => 93 | 146 => 146 | 51 => 49 | n => n, fun | 1 => 0 | n => n⟩
theorem Tryd.l219 : Go.Proofs.LaysM.n219 Tryd.prog Tryd.l219_ren := {
  mixed := by kernel_rfl
  f217 := Tryd.func90.trans (congrArg some (by kernel_rfl))
  f219 := Tryd.func85.trans (congrArg some (by kernel_rfl))
  f224 := Tryd.func92.trans (congrArg some (by kernel_rfl))
  f225 := Tryd.func91.trans (congrArg some (by kernel_rfl))
  f266 := Tryd.func96.trans (congrArg some (by kernel_rfl))
  f267 := Tryd.func93.trans (congrArg some (by kernel_rfl))
  f314 := Tryd.func97.trans (congrArg some (by kernel_rfl))
  t3 := Tryd.underlying3
  a3 := Tryd.isAgg3
  z3 := Tryd.sizeOf3
  v3 := Tryd.zeroValue3
  t4 := Tryd.underlying4
  a4 := Tryd.isAgg4
  z4 := Tryd.sizeOf4
  v4 := Tryd.zeroValue4
  t5 := Tryd.underlying5
  a5 := Tryd.isAgg5
  z5 := Tryd.sizeOf5
  v5 := Tryd.zeroValue5
  t9 := Tryd.underlying9
  a9 := Tryd.isAgg9
  z9 := Tryd.sizeOf9
  v9 := Tryd.zeroValue9
  t46 := Tryd.underlying93
  a46 := Tryd.isAgg93
  z46 := Tryd.sizeOf93
  v46 := Tryd.zeroValue93
  t51 := Tryd.underlying49
  a51 := Tryd.isAgg49
  z51 := Tryd.sizeOf49
  v51 := Tryd.zeroValue49
  t146 := Tryd.underlying146
  a146 := Tryd.isAgg146
  z146 := Tryd.sizeOf146
  v146 := Tryd.zeroValue146
  g1 := by kernel_rfl
  i3 := by kernel_rfl
  i4 := by kernel_rfl
  i5 := by kernel_rfl
  i9 := by kernel_rfl
  i46 := by kernel_rfl
  i51 := by kernel_rfl
  i146 := by kernel_rfl
  m1 := by kernel_rfl
  s1_3 := fun w h => Go.Proofs.cell_of_shapedOpen_int (zero := #[.int .i64 0]) (t := 3) h (of_decide_eq_true (by kernel_rfl)) (by kernel_rfl) rfl (by kernel_rfl) (by kernel_rfl) Tryd.underlying3 }
end Go.Proofs
