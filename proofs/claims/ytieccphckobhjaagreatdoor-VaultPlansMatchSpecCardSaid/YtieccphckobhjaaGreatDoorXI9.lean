/- Walks and laws over abstract values, merged by tools/merge.py. No statement of the seat. -/
import Derived.Test.YtieccphckobhjaaGreatDoorXI8

namespace Go.Proofs.YtieccphckobhjaaGreatDoor
open Go.RowKit
set_option linter.unusedVariables false

/-! Types. -/
namespace TyW17
theorem ag_26 : AggT Tryz.prog 26 3 := .of (by kernel_rfl)
theorem ag_28 : AggT Tryz.prog 28 6 := .of (by kernel_rfl)
theorem ag_59 : AggT Tryz.prog 59 5 := .of (by kernel_rfl)
theorem ag_62 : AggT Tryz.prog 62 2 := .of (by kernel_rfl)
theorem bu_35 : StructT Tryz.prog 35 (fun i => (#[(0, 1), (1, 1), (2, 1)] : Array (Nat × Nat))[i]?) [(.string ⟨#[]⟩), (.string ⟨#[]⟩), (.string ⟨#[]⟩)] := .of (by kernel_rfl) (by kernel_rfl) (by decide)
theorem et_22 : ElemTy Tryz.prog 22 62 2 24 (.agg #[(.string ⟨#[]⟩), (.int .i64 0)]) := ⟨by kernel_rfl, by kernel_rfl, by kernel_rfl, by decide⟩
theorem et_23 : ElemTy Tryz.prog 23 59 5 64 (.agg #[(.string ⟨#[]⟩), (.string ⟨#[]⟩), (.string ⟨#[]⟩), (.int .i64 0), (.int .i64 0)]) := ⟨by kernel_rfl, by kernel_rfl, by kernel_rfl, by decide⟩
theorem et_29 : ElemTy Tryz.prog 29 35 3 48 (.agg #[(.string ⟨#[]⟩), (.string ⟨#[]⟩), (.string ⟨#[]⟩)]) := ⟨by kernel_rfl, by kernel_rfl, by kernel_rfl, by decide⟩
theorem et_63 : ElemTy Tryz.prog 63 3 1 8 (.int .i64 0) := ⟨by kernel_rfl, by kernel_rfl, by kernel_rfl, by decide⟩
theorem fo_26_0 : fieldOff Tryz.prog 26 0 = some 0 := by kernel_rfl
theorem fo_26_1 : fieldOff Tryz.prog 26 1 = some 1 := by kernel_rfl
theorem fo_59_0 : fieldOff Tryz.prog 59 0 = some 0 := by kernel_rfl
theorem fo_62_0 : fieldOff Tryz.prog 62 0 = some 0 := by kernel_rfl
theorem fo_62_1 : fieldOff Tryz.prog 62 1 = some 1 := by kernel_rfl
theorem fo_65_1 : fieldOff Tryz.prog 65 1 = some 1 := by kernel_rfl
theorem kk_9 : Tryz.prog.underlying 9 = some .string := by kernel_rfl
theorem mt_57 : Tryz.prog.underlying 57 = some (.map 9 3) := by kernel_rfl
theorem sc_22 : Scal Tryz.prog 22 := .of (by kernel_rfl)
theorem sc_23 : Scal Tryz.prog 23 := .of (by kernel_rfl)
theorem sc_3 : Scal Tryz.prog 3 := .of (by kernel_rfl)
theorem sc_9 : Scal Tryz.prog 9 := .of (by kernel_rfl)
theorem sz_23 : ∀ w, (sizeOf 23).run Tryz.prog w = .ok 1 w := SizeT.of (by kernel_rfl)
theorem sz_59 : ∀ w, (sizeOf 59).run Tryz.prog w = .ok 5 w := SizeT.of (by kernel_rfl)
theorem sz_62 : ∀ w, (sizeOf 62).run Tryz.prog w = .ok 2 w := SizeT.of (by kernel_rfl)
theorem sz_65 : ∀ w, (sizeOf 65).run Tryz.prog w = .ok 7 w := SizeT.of (by kernel_rfl)
theorem zt_23 : (Tryz.prog.info? 23).bind (·.zero) = some (.slice none 0 0) := by kernel_rfl
theorem zt_3 : (Tryz.prog.info? 3).bind (·.zero) = some (.int .i64 0) := by kernel_rfl
theorem zt_59 : (Tryz.prog.info? 59).bind (·.zero) = some (.agg #[(.string ⟨#[]⟩), (.string ⟨#[]⟩), (.string ⟨#[]⟩), (.int .i64 0), (.int .i64 0)]) := by kernel_rfl
theorem zt_62 : (Tryz.prog.info? 62).bind (·.zero) = some (.agg #[(.string ⟨#[]⟩), (.int .i64 0)]) := by kernel_rfl
theorem zt_65 : (Tryz.prog.info? 65).bind (·.zero) = some (.agg #[(.string ⟨#[]⟩), (.string ⟨#[]⟩), (.string ⟨#[]⟩), (.int .i64 0), (.int .i64 0), (.int .i64 0), (.slice none 0 0)]) := by kernel_rfl
end TyW17
open TyW17


theorem Le.tup2 {a a' b : D} (h : Le a a') : Le (.tup [a, b]) (.tup [a', b]) := fun F w x hx => by
  cases hx with
  | tup cs _ hl hh =>
    refine .tup cs _ (by simpa using hl) fun i h1 h2 => ?_
    have h3 := hh i h1 (by simpa using h2)
    match i, h1, h2, h3 with
    | 0, _, _, h3 => exact h _ _ _ h3
    | 1, _, _, h3 => exact h3
def okSrc (b : Option Cpy) (p : Pol) : Bool := match b with
  | none => false
  | some c => decide (c.gen < p.gens)
def srcCpy (b : Option Cpy) : Cpy := b.getD zC
theorem c_source (v : Vlt) (it : ByteArray) (p : Pol) (hn : v.copies.length ≤ 200) (hg : ∀ c ∈ v.copies, 0 < c.gen) (hI : srcO v it (copiesOf v it).length = if srcI v it v.copies.length < 0 then none else v.copies[(srcI v it v.copies.length).toNat]?) :
    ACall Tryz.prog 21 [.agg v.ds, .v (.string it), .agg p.ds] (.tup [.agg (srcCpy (srcO v it (copiesOf v it).length)).ds, .v (.bool (okSrc (srcO v it (copiesOf v it).length) p))]) := by
  cases hso : srcO v it (copiesOf v it).length with
  | none => exact (c_source0 v it p hn hso).le (Le.tup2 (Le.aggLast [.v (.string ⟨#[]⟩), .v (.string ⟨#[]⟩), .v (.string ⟨#[]⟩), .v (.int .i64 0), .v (.int .i64 0), .v (.int .i64 0)]))
  | some c0 =>
    refine c_source1 v it p hn c0 hso (hg c0 ?_)
    rw [hso] at hI
    split at hI
    · cases hI
    exact List.mem_of_getElem? hI.symm
theorem src_no {v : Vlt} {p : Pol} {x : Item} {day : Int} (vo : VOk v) (h : okSrc (srcO v x.name (copiesOf v x.name).length) p = false) : noTgt v p x day = true := by
  rw [srcO_I vo] at h
  unfold noTgt
  by_cases hs : srcI v x.name v.copies.length < 0
  · rw [decide_eq_true hs]; rfl
  · obtain ⟨b, hb, eb, hbe⟩ := srcI_at (v := v) (it := x.name) (Nat.le_refl _) hs
    rw [if_neg hs, eb, Int.toNat_natCast, List.getElem?_eq_getElem hb] at h
    have h2 : ¬ v.copies[b].gen < p.gens := of_decide_eq_false h
    rw [hbe, decide_eq_true (show v.copies[b].gen ≥ p.gens by omega)]
    simp
theorem src_yes {v : Vlt} {p : Pol} {x : Item} (vo : VOk v) (day : Int) (h : okSrc (srcO v x.name (copiesOf v x.name).length) p = true) : srcCpy (srcO v x.name (copiesOf v x.name).length) = v.copies.getD (srcI v x.name v.copies.length).toNat zC ∧ noTgt v p x day = enoughB p (goodOnes v x.name p day) := by
  rw [srcO_I vo] at h ⊢
  unfold noTgt
  by_cases hs : srcI v x.name v.copies.length < 0
  · rw [if_pos hs] at h; cases h
  · obtain ⟨b, hb, eb, hbe⟩ := srcI_at (v := v) (it := x.name) (Nat.le_refl _) hs
    rw [if_neg hs, eb, Int.toNat_natCast, List.getElem?_eq_getElem hb] at h ⊢
    have h2 : v.copies[b].gen < p.gens := of_decide_eq_true h
    refine ⟨(getD_at hb).symm, ?_⟩
    rw [getD_at hb, decide_eq_false (show ¬ ((b : Int) < 0) by omega), decide_eq_false (show ¬ v.copies[b].gen ≥ p.gens by omega)]
    rfl
theorem planItem_no {v : Vlt} {p : Pol} {day : Int} {s : List Int × List Tfr} {x : Item} (h : noTgt v p x day = true) : planItem v p day s x = s := by unfold planItem; rw [tgt_no h]; rfl
/-- The numbers, among the candidates, of the targets. -/
def tgtL (v : Vlt) (p : Pol) (x : Item) (room : List Int) (day : Int) : List Nat := (tgtC v p x room day).getD []
theorem tgtR_L {v : Vlt} {p : Pol} {x : Item} {room : List Int} {day : Int} (h : noTgt v p x day = false) : tgtR v p x room day = (tgtL v p x room day).map fun i => (cand v p x room day).getD i 0 := tgt_go h
theorem tgtL_lt {v : Vlt} {p : Pol} {x : Item} {room : List Int} {day : Int} {j : Nat} (hj : j < (tgtL v p x room day).length) : (tgtL v p x room day)[j] < (cand v p x room day).length := by
  have key : ∀ r, tgtC v p x room day = r → ∀ (hj : j < (r.getD []).length), (r.getD [])[j] < (cand v p x room day).length := fun r hc hj => by
    cases r with
    | none => simp at hj
    | some r =>
      obtain ⟨_, hv, _⟩ := chosen_spec hc
      have h1 := hv.2 j hj
      have h2 : j < r.length := hj
      show r[j] < _
      omega
  exact key _ rfl hj
theorem tgtL_len {v : Vlt} {p : Pol} {x : Item} {room : List Int} {day : Int} : (tgtL v p x room day).length ≤ v.carrs.length := by
  unfold tgtL
  cases hc : tgtC v p x room day with
  | none => exact Nat.zero_le _
  | some r =>
    obtain ⟨_, hv, _⟩ := chosen_spec hc
    exact Nat.le_trans hv.1 (candTo_len _)
theorem tgtR_at {v : Vlt} {p : Pol} {x : Item} {room : List Int} {day : Int} (h : noTgt v p x day = false) {j : Nat} (hj : j < (tgtL v p x room day).length) : ∃ h2 : j < (tgtR v p x room day).length, (tgtR v p x room day)[j] = (cand v p x room day)[(tgtL v p x room day)[j]]'(tgtL_lt hj) := by
  have h3 := tgtL_lt hj
  have e := tgtR_L (room := room) h
  refine ⟨by rw [e, List.length_map]; exact hj, ?_⟩
  simp only [e, List.getElem_map]
  exact numAt h3
/-- The carriers, to which an item may be copied, behind the first k. -/
def candC (v : Vlt) (p : Pol) (x : Item) (room : List Int) (day : Int) (k : Nat) : List Carr := (candTo v p x room day k).map (carrN v)
theorem candC_t {v : Vlt} {p : Pol} {x : Item} {room : List Int} {day : Int} {k : Nat} (hk : k < v.carrs.length) (h : candTo v p x room day (k + 1) = candTo v p x room day k ++ [k]) : (candC v p x room day (k + 1)).map Carr.ds = (candC v p x room day k).map Carr.ds ++ [v.carrs[k].ds] := by
  unfold candC
  rw [h, List.map_append, List.map_append]
  show _ ++ [(carrN v k).ds] = _
  rw [carrN_at hk]
theorem candC_f {v : Vlt} {p : Pol} {x : Item} {room : List Int} {day : Int} {k : Nat} (h : candTo v p x room day (k + 1) = candTo v p x room day k) : candC v p x room day (k + 1) = candC v p x room day k := by unfold candC; rw [h]
theorem candC_len (v : Vlt) (p : Pol) (x : Item) (room : List Int) (day : Int) : ((candC v p x room day v.carrs.length).map Carr.ds).length = (cand v p x room day).length := by unfold candC cand; rw [List.length_map, List.length_map]
theorem candC_at {v : Vlt} {p : Pol} {x : Item} {room : List Int} {day : Int} {i : Nat} (hi : i < (cand v p x room day).length) (h : (cand v p x room day)[i] < v.carrs.length) : ((candC v p x room day v.carrs.length).map Carr.ds)[i]? = some (v.carrs[(cand v p x room day)[i]].ds) := by
  have hi2 : i < (candTo v p x room day v.carrs.length).length := hi
  unfold candC
  rw [List.getElem?_map, List.getElem?_map, List.getElem?_eq_getElem hi2]
  exact congrArg (fun c : Carr => some c.ds) (carrN_at h)
theorem planItem_yes {v : Vlt} {p : Pol} {day : Int} {s : List Int × List Tfr} {x : Item} (h : noTgt v p x day = false) : ((tgtR v p x s.1 day).take (tgtL v p x s.1 day).length).foldl (take1 v x) s = planItem v p day s x := by
  unfold planItem
  rw [List.take_of_length_le (by rw [tgtR_L h, List.length_map]; exact Nat.le_refl _)]
theorem roomM_add' {v : Vlt} (vo : VOk v) {k : Nat} (hk : k < v.carrs.length) : MPut (roomM v ((roomR v).take k)) (.string v.carrs[k].name) (.v (.int .i64 (v.carrs[k].room - usedOn v v.carrs[k].name))) (roomM v ((roomR v).take (k + 1))) := by
  have h := roomM_add vo (r := roomR v) hk (by unfold roomR; rw [List.length_map]; exact hk)
  have e : (roomR v)[k]'(by unfold roomR; rw [List.length_map]; exact hk) = v.carrs[k].room - usedOn v v.carrs[k].name := by unfold roomR; rw [List.getElem_map]
  rwa [e] at h
theorem map_eq {A A' : List (Value × D)} {i : Nat} (h : A' = A) : ∀ p ∈ [(i, Ob.map A)], p ∈ [(i, Ob.map A')] := fun p hp => h ▸ hp
theorem row_map1 {i j e s : Nat} {a b : List (List D)} {A B : List (Value × D)} {τ : Obs} (h1 : a = b) (h2 : A = B) : ∀ p ∈ [(i, Ob.row e s b), (j, Ob.map B)], p ∈ (i, Ob.row e s a) :: (j, Ob.map A) :: τ := fun p hp => by
  subst h1; subst h2
  rcases List.mem_cons.1 hp with rfl | hp
  · exact .head _
  · rw [List.mem_singleton] at hp; subst hp; exact .tail _ (.head _)
theorem row_cell_3 {i j k e s e2 s2 : Nat} {a b c d : List (List D)} {A B : List (Value × D)} {x : List S} {τ : Obs} {n : Nat} (h1 : a = b) (h2 : c = d) (h3 : A = B) : ∀ p ∈ [(i, Ob.row e s b), (n, Ob.cells x), (j, Ob.row e2 s2 d), (k, Ob.map B)], p ∈ (i, Ob.row e s a) :: (n, Ob.cells x) :: (j, Ob.row e2 s2 c) :: (k, Ob.map A) :: τ := fun p hp => by
  subst h1; subst h2; subst h3
  rcases List.mem_cons.1 hp with rfl | hp
  · exact .head _
  · rcases List.mem_cons.1 hp with rfl | hp
    · exact .tail _ (.head _)
    · rcases List.mem_cons.1 hp with rfl | hp
      · exact .tail _ (.tail _ (.head _))
      · rw [List.mem_singleton] at hp; subst hp; exact .tail _ (.tail _ (.tail _ (.head _)))


set_option maxRecDepth 100000 in
set_option maxHeartbeats 8000000 in
theorem c_pPlan (v : Vlt) (p : Pol) (day : Int) (hs : smallV v) : ACall Tryz.prog 6 [.agg v.ds, .agg p.ds, .v (.int .i64 day)] (.tup [.sl ((planR v p day).map Tfr.ds), .v (.int .i64 (dayFault v p day))]) := by
  refine acall_of (n := 154) (ds' := [.sl ((planR v p day).map Tfr.ds), .v (.int .i64 (dayFault v p day))]) Tryz.func6 rfl (by kernel_rfl) rfl [6, 7] rfl rfl ?_
  intro B w0 F0 fr
  refine AWP.seq (AWP.region ?_)
  refine AOps.step rfl rfl rfl (AOp.box rfl rfl rfl) ?_
  refine AOps.step rfl rfl rfl (AOp.box rfl rfl rfl) ?_
  refine AOps.aD rfl rfl rfl rfl rfl ?_
  refine AOps.aD rfl rfl rfl rfl rfl (.nil ?_)
  refine AWP.seq ?_
  refine AWP.seq (AWP.region ?_)
  refine AOps.step rfl rfl rfl (AOp.loadAgg rfl ag_26 rfl rfl) ?_
  refine AOps.step rfl rfl rfl (AOp.loadAgg rfl ag_28 rfl rfl) ?_
  refine AOps.mD rfl rfl rfl rfl rfl ?_
  refine AOps.step rfl rfl rfl (AOp.call rfl (.cons (ArgOk.rfl' rfl) (.cons (ArgOk.rfl' rfl) (.cons (ArgOk.rfl' rfl) .nil))) (c_pDayF v p day hs)) ?_
  refine AOps.aD rfl rfl rfl rfl rfl (.nil ?_)
  refine AWP.seq (AWP.region ?_)
  refine AOps.mD rfl rfl rfl rfl rfl ?_
  refine AOps.step rfl rfl rfl (AOp.neq rfl rfl rfl) (.nil ?_)
  refine AWP.cond rfl (fun h1 => ?_) (fun h1 => ?_)
  · replace h1 := of_decide_eq_true h1
    have HR : planR v p day = [] := by unfold planR; rw [if_neg h1]
    rw [HR]
    refine AWP.seq (AWP.region ?_)
    refine AOps.mD rfl rfl rfl rfl rfl ?_
    refine AOps.aD rfl rfl rfl rfl rfl ?_
    refine AOps.aD rfl rfl rfl rfl rfl (.nil ?_)
    refine AWP.ret ?_
    refine ⟨RetD.nil rfl, RetD.eq rfl ?_, trivial⟩
    all_goals (rfl)
  replace h1 := of_decide_eq_false h1
  have hd0 := Decidable.not_not.1 h1
  obtain ⟨hb0, hd⟩ := day_ok hd0
  obtain ⟨vo, po⟩ := both_ok hb0
  have hoi := okItems_of vo.items
  have hoc : okCopies v := fun c hc => ⟨(vo.cpy c hc).item, (vo.cpy c hc).carr⟩
  have hu : ∀ x ∈ v.carrs, 0 ≤ usedOn v x.name := fun x _ => (usedTo_bound hoi x.name _).1
  have hgn : ∀ c ∈ v.copies, 0 < c.gen := fun c hc => by have := (vo.cpy c hc).gen; omega
  have hnp := vo.np
  have hnc := vo.nc
  have hni := vo.ni
  have HR : planR v p day = (planTo v p day v.items.length).2 := by unfold planR; rw [if_pos hd0]
  rw [HR, hd0]
  refine AWP.skip ?_
  refine AWP.seq (AWP.region ?_)
  refine AOps.makeMap 91 rfl rfl rfl rfl rfl ?_
  refine AOps.step rfl rfl rfl (AOp.assignO rfl rfl) (.nil ?_)
  refine AWP.seq ?_
  refine AWP.seq (AWP.region ?_)
  refine AOps.step rfl rfl rfl (AOp.fieldAddr rfl fo_26_1 rfl) ?_
  refine AOps.step rfl rfl rfl (AOp.load rfl sc_23 rfl) ?_
  refine AOps.step rfl rfl rfl (AOp.lenSl rfl et_23.ht rfl) ?_
  refine AOps.mD rfl rfl rfl rfl rfl (.nil ?_)
  refine AWP.block ?_
  refine AWP.loop (G := Nat) (fun k => Env.of [(39, .d (.v (.int .i64 (k : Int)))), (37, .d (.sl (v.carrs.map Carr.ds))), (38, .d (.v (.int .i64 ((v.carrs.map Carr.ds).length : Int)))), (3, .d (.fp v.ds)), (4, .d (.fp p.ds)), (2, .d (.v (.int .i64 day))), (9, .own 91)]) (fun k => [(91, .map (roomM v ((roomR v).take k)))]) (fun k => k ≤ v.carrs.length) (fun k => v.carrs.length - k) 0 (Nat.zero_le _) (Sub.less ⟨(SLe.of_eq rfl), SLe.refl _, SLe.refl _, SLe.refl _, SLe.refl _, SLe.refl _, SLe.refl _, trivial⟩ (map_eq (by unfold roomM; simp))) ?_
  intro k hk
  refine AWP.seq (AWP.region ?_)
  refine AOps.step rfl rfl rfl (AOp.lss rfl rfl rfl) (.nil ?_)
  refine AWP.seq ?_
  refine AWP.cond rfl (fun h2 => ?_) (fun h2 => ?_)
  · replace h2 := of_decide_eq_true h2
    rw [List.length_map] at h2
    have hlt : k < v.carrs.length := by omega
    have hcb := vo.carr (List.getElem_mem hlt)
    have hub : 0 ≤ usedOn v v.carrs[k].name ∧ usedOn v v.carrs[k].name ≤ 1000 * (v.copies.length : Int) := usedTo_bound hoi _ _
    refine AWP.skip ?_
    refine AWP.seq ?_
    refine AWP.block ?_
    refine AWP.seq (AWP.region ?_)
    refine AOps.step rfl rfl rfl (AOp.indexAddr rfl et_23 rfl rfl k rfl (at_list hlt) rfl) ?_
    refine AOps.step rfl rfl rfl (AOp.loadAgg rfl ag_59 rfl rfl) ?_
    refine AOps.alloc 102 rfl rfl rfl rfl zt_59 rfl rfl rfl ?_
    refine AOps.store rfl rfl rfl sz_59 rfl (.head _) rfl rfl rfl (Nat.le_of_ble_eq_true rfl) ?_
    refine AOps.freezeCells 11 (ds := v.carrs[k].ds) rfl (.head _) (.nil ?_)
    refine AWP.drawG (fun k => (Nat.beq k 6) || (false)) (fun k => Nat.beq k 6) (fun k h => Bool.or_eq_true_iff.2 (.inl h)) (by kernel_rfl) (by kernel_rfl) (by kernel_rfl) ?_
    refine GRun.step rfl rfl rfl (fun _ => AOp.moveO rfl rfl) ?_
    refine GRun.step rfl rfl rfl (fun _ => AOp.fieldAddr rfl fo_59_0 rfl) ?_
    refine GRun.step rfl rfl rfl (fun _ => AOp.load rfl sc_9 rfl) ?_
    refine GRun.step rfl rfl rfl (fun _ => AOp.loadAgg rfl ag_26 rfl rfl) ?_
    refine GRun.step rfl rfl rfl (fun _ => AOp.loadAgg rfl ag_59 rfl rfl) ?_
    refine GRun.step rfl rfl rfl (fun _ => AOp.call rfl (.cons (ArgOk.rfl' rfl) (.cons (ArgOk.rfl' rfl) .nil)) (c_left v v.carrs[k] hoi hoc (by omega) hcb.2.2)) ?_
    refine GRun.eff rfl rfl rfl (EOp.mapUpdate rfl rfl mt_57 kk_9 rfl (.head _) rfl rfl trivial roomM_keys (roomM_add' vo hlt)) ?_
    refine GRun.nil ?_
    refine AWP.region ?_
    refine AOps.step rfl rfl rfl (AOp.add64 rfl rfl rfl (by omega) (by omega)) ?_
    refine AOps.mD rfl rfl rfl rfl rfl (.nil ?_)
    refine ⟨k + 1, (by omega), (by dsimp only; omega), Sub.less ⟨(SLe.of_eq rfl), SLe.refl _, SLe.refl _, SLe.refl _, SLe.refl _, SLe.refl _, SLe.refl _, trivial⟩ (map_eq rfl)⟩
  replace h2 := of_decide_eq_false h2
  rw [List.length_map] at h2
  obtain rfl : k = v.carrs.length := by omega
  refine AWP.exit ?_
  refine AWP.seq (AWP.region ?_)
  refine AOps.aD rfl rfl rfl rfl rfl (.nil ?_)
  refine AWP.seq ?_
  refine AWP.seq (AWP.region ?_)
  refine AOps.step rfl rfl rfl (AOp.fieldAddr rfl fo_26_0 rfl) ?_
  refine AOps.step rfl rfl rfl (AOp.load rfl sc_22 rfl) ?_
  refine AOps.step rfl rfl rfl (AOp.lenSl rfl et_22.ht rfl) ?_
  refine AOps.mD rfl rfl rfl rfl rfl (.nil ?_)
  refine AWP.block ?_
  refine AWP.adopt 12 65 35 3 rfl rfl ?_
  refine AWP.loop (G := Nat) (fun k => Env.of [(53, .d (.v (.int .i64 (k : Int)))), (51, .d (.sl (v.items.map Item.ds))), (52, .d (.v (.int .i64 ((v.items.map Item.ds).length : Int)))), (12, .own 65), (3, .d (.fp v.ds)), (4, .d (.fp p.ds)), (2, .d (.v (.int .i64 day))), (9, .own 91)]) (fun k => [(65, .row 35 3 ((planTo v p day k).2.map Tfr.ds)), (91, .map (roomM v (planTo v p day k).1))]) (fun k => k ≤ v.items.length) (fun k => v.items.length - k) 0 (Nat.zero_le _) (Sub.less ⟨(SLe.of_eq rfl), SLe.refl _, SLe.refl _, SLe.refl _, SLe.refl _, SLe.refl _, SLe.refl _, SLe.refl _, trivial⟩ (row_map1 rfl (by rw [List.take_of_length_le (by unfold roomR; simp)]; rfl))) ?_
  intro k hk
  refine AWP.seq (AWP.region ?_)
  refine AOps.step rfl rfl rfl (AOp.lss rfl rfl rfl) (.nil ?_)
  refine AWP.seq ?_
  refine AWP.cond rfl (fun h3 => ?_) (fun h3 => ?_)
  · replace h3 := of_decide_eq_true h3
    rw [List.length_map] at h3
    have hlt : k < v.items.length := by omega
    have hpb := planTo_PB (p := p) (day := day) vo hoi hu k (by omega)
    have hrl := hpb.len
    have hxb := hoi _ (List.getElem_mem hlt)
    have hPN := planTo_next (p := p) (day := day) hlt
    have htl := tgtR_len v p v.items[k] (planTo v p day k).1 day
    have hgl := goodOnes_len v v.items[k].name p day
    have hcl : (cand v p v.items[k] (planTo v p day k).1 day).length ≤ v.carrs.length := candTo_len _
    have hLl := tgtL_len (v := v) (p := p) (x := v.items[k]) (room := (planTo v p day k).1) (day := day)
    refine AWP.skip ?_
    refine AWP.seq ?_
    refine AWP.block ?_
    refine AWP.seq (AWP.region ?_)
    refine AOps.step rfl rfl rfl (AOp.indexAddr rfl et_22 rfl rfl k rfl (at_list hlt) rfl) ?_
    refine AOps.step rfl rfl rfl (AOp.loadAgg rfl ag_62 rfl rfl) ?_
    refine AOps.alloc 103 rfl rfl rfl rfl zt_62 rfl rfl rfl ?_
    refine AOps.store rfl rfl rfl sz_62 rfl (.head _) rfl rfl rfl (Nat.le_of_ble_eq_true rfl) ?_
    refine AOps.freezeCells 14 (ds := v.items[k].ds) rfl (.head _) (.nil ?_)
    refine AWP.seq (AWP.region ?_)
    refine AOps.step rfl rfl rfl (AOp.loadAgg rfl ag_26 rfl rfl) ?_
    refine AOps.step rfl rfl rfl (AOp.fieldAddr rfl fo_62_0 rfl) ?_
    refine AOps.step rfl rfl rfl (AOp.load rfl sc_9 rfl) ?_
    refine AOps.step rfl rfl rfl (AOp.loadAgg rfl ag_28 rfl rfl) ?_
    refine AOps.step rfl rfl rfl (AOp.call rfl (.cons (ArgOk.rfl' rfl) (.cons (ArgOk.rfl' rfl) (.cons (ArgOk.rfl' rfl) .nil))) (c_source v v.items[k].name p hnp hgn (srcO_I vo))) ?_
    refine AOps.mD rfl rfl rfl rfl rfl ?_
    refine AOps.step rfl rfl rfl (AOp.extract rfl rfl rfl) ?_
    refine AOps.step rfl rfl rfl (AOp.extract rfl rfl rfl) ?_
    refine AOps.alloc 104 rfl rfl rfl rfl zt_65 rfl rfl rfl ?_
    refine AOps.store rfl rfl rfl sz_65 rfl (.head _) rfl rfl rfl (Nat.le_of_ble_eq_true rfl) ?_
    refine AOps.freezeCells 15 (ds := (srcCpy (srcO v v.items[k].name (copiesOf v v.items[k].name).length)).ds) rfl (.head _) ?_
    refine AOps.aD rfl rfl rfl rfl rfl (.nil ?_)
    refine AWP.seq (AWP.region ?_)
    refine AOps.step rfl rfl rfl (AOp.loadAgg rfl ag_26 rfl rfl) ?_
    refine AOps.step rfl rfl rfl (AOp.fieldAddr rfl fo_62_0 rfl) ?_
    refine AOps.step rfl rfl rfl (AOp.load rfl sc_9 rfl) ?_
    refine AOps.step rfl rfl rfl (AOp.loadAgg rfl ag_28 rfl rfl) ?_
    refine AOps.mD rfl rfl rfl rfl rfl ?_
    refine AOps.step rfl rfl rfl (AOp.call rfl (.cons (ArgOk.rfl' rfl) (.cons (ArgOk.rfl' rfl) (.cons (ArgOk.rfl' rfl) (.cons (ArgOk.rfl' rfl) .nil)))) (c_goodOnes v v.items[k].name p day vo po hd)) ?_
    refine AOps.alloc 105 rfl rfl rfl rfl zt_23 rfl rfl rfl ?_
    refine AOps.store rfl rfl rfl sz_23 rfl (.head _) rfl rfl rfl (Nat.le_of_ble_eq_true rfl) ?_
    refine AOps.freezeCells 17 (ds := [.sl ((goodOnes v v.items[k].name p day).map Carr.ds)]) rfl (.head _) (.nil ?_)
    refine AWP.seq ?_
    refine AWP.seq ?_
    refine AWP.draw (by kernel_rfl) (by kernel_rfl) ?_
    refine DRun.step rfl rfl rfl (AOp.moveD rfl rfl) ?_
    refine DRun.step rfl rfl rfl (AOp.not rfl rfl) ?_
    refine DRun.step rfl rfl rfl (AOp.moveD rfl rfl) ?_
    refine DRun.split 73 rfl (fun g4 => ?_) (fun g4 => ?_)
    · replace g4 := bnot_t g4
      have HT : planTo v p day (k + 1) = planTo v p day k := by rw [hPN]; exact planItem_no (src_no vo g4)
      refine DRun.pass ⟨73, rfl, .inl ⟨_, rfl, rfl⟩⟩ rfl rfl ?_
      refine DRun.pass ⟨73, rfl, .inl ⟨_, rfl, rfl⟩⟩ rfl rfl ?_
      refine DRun.pass ⟨73, rfl, .inl ⟨_, rfl, rfl⟩⟩ rfl rfl ?_
      refine DRun.pass ⟨73, rfl, .inl ⟨_, rfl, rfl⟩⟩ rfl rfl ?_
      refine DRun.step rfl rfl rfl (AOp.pickT rfl rfl rfl) ?_
      refine DRun.nil ?_
      refine AWP.cond rfl (fun _ => ?_) (fun h => nomatch h)
      refine AWP.exit ?_
      refine AWP.region ?_
      refine AOps.step rfl rfl rfl (AOp.add64 rfl rfl rfl (by omega) (by omega)) ?_
      refine AOps.mD rfl rfl rfl rfl rfl (.nil ?_)
      refine ⟨k + 1, (by omega), (by dsimp only; omega), Sub.less ⟨(SLe.of_eq rfl), SLe.refl _, SLe.refl _, SLe.refl _, SLe.refl _, SLe.refl _, SLe.refl _, SLe.refl _, trivial⟩ (row_map1 (by first | rw [HT] | rw [HE]) (by first | rw [HT] | rw [HE]))⟩
    replace g4 := bnot_f g4
    have hsy := src_yes (p := p) (x := v.items[k]) vo day g4
    refine DRun.step ⟨73, rfl, .inl ⟨_, rfl, rfl⟩⟩ rfl rfl (AOp.load rfl sc_23 rfl) ?_
    refine DRun.step ⟨73, rfl, .inl ⟨_, rfl, rfl⟩⟩ rfl rfl (AOp.call rfl (.cons (ArgOk.rfl' rfl) .nil) (c_spreadOf (goodOnes v v.items[k].name p day) (by omega))) ?_
    refine DRun.step ⟨73, rfl, .inl ⟨_, rfl, rfl⟩⟩ rfl rfl (AOp.loadAgg rfl ag_28 rfl rfl) ?_
    refine DRun.step ⟨73, rfl, .inl ⟨_, rfl, rfl⟩⟩ rfl rfl (AOp.call rfl (.cons (ArgOk.rfl' rfl) (.cons (ArgOk.rfl' rfl) .nil)) (c_enough (goodOnes v v.items[k].name p day) p po (by omega))) ?_
    refine DRun.step rfl rfl rfl (AOp.pickF rfl rfl rfl) ?_
    refine DRun.nil ?_
    refine AWP.cond rfl (fun h5 => ?_) (fun h5 => ?_)
    · skip
      have HT : planTo v p day (k + 1) = planTo v p day k := by rw [hPN]; exact planItem_no (by rw [hsy.2]; exact h5)
      refine AWP.exit ?_
      refine AWP.region ?_
      refine AOps.step rfl rfl rfl (AOp.add64 rfl rfl rfl (by omega) (by omega)) ?_
      refine AOps.mD rfl rfl rfl rfl rfl (.nil ?_)
      refine ⟨k + 1, (by omega), (by dsimp only; omega), Sub.less ⟨(SLe.of_eq rfl), SLe.refl _, SLe.refl _, SLe.refl _, SLe.refl _, SLe.refl _, SLe.refl _, SLe.refl _, trivial⟩ (row_map1 (by first | rw [HT] | rw [HE]) (by first | rw [HT] | rw [HE]))⟩
    have hnt : noTgt v p v.items[k] day = false := by rw [hsy.2]; simpa using h5
    have HE := hPN.trans (planItem_yes (s := (planTo v p day k)) hnt).symm
    have HLn := candC_len v p v.items[k] (planTo v p day k).1 day
    refine AWP.skip ?_
    refine AWP.seq (AWP.region ?_)
    refine AOps.alloc 97 rfl rfl rfl rfl zt_23 rfl rfl rfl ?_
    refine AOps.adoptCell 66 59 5 97 0 (.head _) rfl rfl ?_
    refine AOps.nil ?_
    refine AWP.seq ?_
    refine AWP.seq (AWP.region ?_)
    refine AOps.step rfl rfl rfl (AOp.fieldAddr rfl fo_26_1 rfl) ?_
    refine AOps.step rfl rfl rfl (AOp.load rfl sc_23 rfl) ?_
    refine AOps.step rfl rfl rfl (AOp.lenSl rfl et_23.ht rfl) ?_
    refine AOps.mD rfl rfl rfl rfl rfl (.nil ?_)
    refine AWP.block ?_
    refine AWP.loop (G := Nat) (fun i => Env.of [(82, .d (.v (.int .i64 (i : Int)))), (80, .d (.sl (v.carrs.map Carr.ds))), (81, .d (.v (.int .i64 ((v.carrs.map Carr.ds).length : Int)))), (18, .ptr 97 0), (17, .d (.fp [.sl ((goodOnes v v.items[k].name p day).map Carr.ds)])), (15, .d (.fp (srcCpy (srcO v v.items[k].name (copiesOf v v.items[k].name).length)).ds)), (14, .d (.fp v.items[k].ds)), (53, .d (.v (.int .i64 (k : Int)))), (51, .d (.sl (v.items.map Item.ds))), (52, .d (.v (.int .i64 ((v.items.map Item.ds).length : Int)))), (12, .own 65), (3, .d (.fp v.ds)), (4, .d (.fp p.ds)), (2, .d (.v (.int .i64 day))), (9, .own 91)]) (fun i => [(66, .row 59 5 ((candC v p v.items[k] (planTo v p day k).1 day i).map Carr.ds)), (97, .cells [.own 66]), (65, .row 35 3 ((planTo v p day k).2.map Tfr.ds)), (91, .map (roomM v (planTo v p day k).1))]) (fun i => i ≤ v.carrs.length) (fun i => v.carrs.length - i) 0 (Nat.zero_le _) (Sub.less ⟨(SLe.of_eq rfl), SLe.refl _, (SLe.refl _), SLe.refl _, SLe.refl _, SLe.refl _, SLe.refl _, SLe.refl _, SLe.refl _, SLe.refl _, SLe.refl _, SLe.refl _, SLe.refl _, SLe.refl _, SLe.refl _, trivial⟩ (row_cell_3 rfl rfl rfl)) ?_
    intro i hi
    refine AWP.seq (AWP.region ?_)
    refine AOps.step rfl rfl rfl (AOp.lss rfl rfl rfl) (.nil ?_)
    refine AWP.seq ?_
    refine AWP.cond rfl (fun h6 => ?_) (fun h6 => ?_)
    · replace h6 := of_decide_eq_true h6
      rw [List.length_map] at h6
      have hil : i < v.carrs.length := by omega
      have hib := vo.carr (List.getElem_mem hil)
      have hrm := hpb.room i
      rw [roomAt (by omega)] at hrm
      have hcn := candTo_len (v := v) (p := p) (x := v.items[k]) (room := (planTo v p day k).1) (day := day) i
      refine AWP.skip ?_
      refine AWP.seq ?_
      refine AWP.block ?_
      refine AWP.seq (AWP.region ?_)
      refine AOps.step rfl rfl rfl (AOp.indexAddr rfl et_23 rfl rfl i rfl (at_list hil) rfl) ?_
      refine AOps.step rfl rfl rfl (AOp.loadAgg rfl ag_59 rfl rfl) ?_
      refine AOps.alloc 107 rfl rfl rfl rfl zt_59 rfl rfl rfl ?_
      refine AOps.store rfl rfl rfl sz_59 rfl (.head _) rfl rfl rfl (Nat.le_of_ble_eq_true rfl) ?_
      refine AOps.freezeCells 20 (ds := v.carrs[i].ds) rfl (.head _) (.nil ?_)
      refine AWP.seq (AWP.region ?_)
      refine AOps.step rfl rfl rfl (AOp.loadAgg rfl ag_26 rfl rfl) ?_
      refine AOps.step rfl rfl rfl (AOp.fieldAddr rfl fo_62_0 rfl) ?_
      refine AOps.step rfl rfl rfl (AOp.load rfl sc_9 rfl) ?_
      refine AOps.step rfl rfl rfl (AOp.fieldAddr rfl fo_59_0 rfl) ?_
      refine AOps.step rfl rfl rfl (AOp.load rfl sc_9 rfl) ?_
      refine AOps.step rfl rfl rfl (AOp.call rfl (.cons (ArgOk.rfl' rfl) (.cons (ArgOk.rfl' rfl) (.cons (ArgOk.rfl' rfl) .nil))) (c_copyAt v v.items[k].name v.carrs[i].name (by omega))) ?_
      refine AOps.mD rfl rfl rfl rfl rfl ?_
      refine AOps.step rfl rfl rfl (AOp.extract rfl rfl rfl) ?_
      refine AOps.step rfl rfl rfl (AOp.extract rfl rfl rfl) ?_
      refine AOps.aD rfl rfl rfl rfl rfl ?_
      refine AOps.aD rfl rfl rfl rfl rfl (.nil ?_)
      refine AWP.seq (AWP.region ?_)
      refine AOps.mD rfl rfl rfl rfl rfl ?_
      refine AOps.step rfl rfl rfl (AOp.not rfl rfl) ?_
      refine AOps.mD rfl rfl rfl rfl rfl ?_
      refine AOps.split 97 rfl (fun g7 => ?_) (fun g7 => ?_)
      · replace g7 := bnot_t g7
        have hA : copyIdx v v.items[k].name v.carrs[i].name < 0 := Int.not_le.1 fun hh => by rw [(has_iff (v := v) (l := v.copies) vo _ _).1.1 hh] at g7; cases g7
        refine AOps.step ⟨97, rfl, .inl ⟨_, rfl, rfl⟩⟩ rfl rfl (AOp.loadAgg rfl ag_59 rfl rfl) ?_
        refine AOps.step ⟨97, rfl, .inl ⟨_, rfl, rfl⟩⟩ rfl rfl (AOp.loadAgg rfl ag_28 rfl rfl) ?_
        refine AOps.step ⟨97, rfl, .inl ⟨_, rfl, rfl⟩⟩ rfl rfl (AOp.moveD rfl rfl) ?_
        refine AOps.step ⟨97, rfl, .inl ⟨_, rfl, rfl⟩⟩ rfl rfl (AOp.call rfl (.cons (ArgOk.rfl' rfl) (.cons (ArgOk.rfl' rfl) (.cons (ArgOk.rfl' rfl) .nil))) (c_old v.carrs[i] p day hib.2.1 (by have := po.old; omega))) ?_
        refine AOps.step ⟨97, rfl, .inl ⟨_, rfl, rfl⟩⟩ rfl rfl (AOp.not rfl rfl) ?_
        refine AOps.step rfl rfl rfl (AOp.pickT rfl rfl rfl) ?_
        refine AOps.mD rfl rfl rfl rfl rfl ?_
        refine AOps.split 104 rfl (fun g8 => ?_) (fun g8 => ?_)
        · replace g8 := bnot_t g8
          have hB := g8
          refine AOps.step ⟨104, rfl, .inl ⟨_, rfl, rfl⟩⟩ rfl rfl (AOp.moveO rfl rfl) ?_
          refine AOps.step ⟨104, rfl, .inl ⟨_, rfl, rfl⟩⟩ rfl rfl (AOp.fieldAddr rfl fo_59_0 rfl) ?_
          refine AOps.step ⟨104, rfl, .inl ⟨_, rfl, rfl⟩⟩ rfl rfl (AOp.load rfl sc_9 rfl) ?_
          refine AOps.step ⟨104, rfl, .inl ⟨_, rfl, rfl⟩⟩ rfl rfl (AOp.lookup rfl mt_57 kk_9 zt_3 rfl (.tail _ (.tail _ (.tail _ (.head _)))) rfl trivial roomM_keys (roomM_look vo hil (by omega))) ?_
          refine AOps.step ⟨104, rfl, .inl ⟨_, rfl, rfl⟩⟩ rfl rfl (AOp.fieldAddr rfl fo_62_1 rfl) ?_
          refine AOps.step ⟨104, rfl, .inl ⟨_, rfl, rfl⟩⟩ rfl rfl (AOp.load rfl sc_3 rfl) ?_
          refine AOps.step ⟨104, rfl, .inl ⟨_, rfl, rfl⟩⟩ rfl rfl (AOp.geq rfl rfl rfl) ?_
          refine AOps.step rfl rfl rfl (AOp.pickT rfl rfl rfl) (.nil ?_)
          refine AWP.cond rfl (fun h9 => ?_) (fun h9 => ?_)
          · replace h9 := of_decide_eq_true h9
            have HX := candC_t hil (candTo_t (v := v) (p := p) (x := v.items[k]) (room := (planTo v p day k).1) (day := day) (k := i) (by unfold candB; rw [carrN_at hil, decide_eq_true hA, hB, roomAt (by omega), decide_eq_true h9]; rfl))
            refine AWP.region ?_
            refine AOps.step rfl rfl rfl (AOp.loadP rfl sc_23 rfl (.tail _ (.head _)) rfl) ?_
            refine AOps.step rfl rfl rfl (AOp.loadAgg rfl ag_59 rfl rfl) ?_
            refine AOps.step rfl rfl rfl (AOp.buildSlice rfl et_23 (.cons rfl rfl rfl .nil) rfl (by decide)) ?_
            -- append 116
            refine AOps.append rfl rfl rfl rfl et_23 rfl (.head _) rfl (fun y hy => by obtain rfl := List.mem_singleton.1 hy; rfl) (by simp [candC]; omega) (by simp [candC]; omega) ?_
            refine AOps.storeS rfl rfl rfl sz_23 rfl (.tail _ (.head _)) rfl (.head _) (Nat.le_of_ble_eq_true rfl) (.nil ?_)
            refine AWP.region ?_
            refine AOps.step rfl rfl rfl (AOp.add64 rfl rfl rfl (by omega) (by omega)) ?_
            refine AOps.mD rfl rfl rfl rfl rfl (.nil ?_)
            refine ⟨i + 1, (by dsimp only; omega), (by dsimp only; omega), Sub.less ⟨(SLe.of_eq rfl), SLe.refl _, SLe.refl _, SLe.refl _, SLe.refl _, SLe.refl _, SLe.refl _, SLe.refl _, SLe.refl _, SLe.refl _, SLe.refl _, SLe.refl _, SLe.refl _, SLe.refl _, SLe.refl _, trivial⟩ (row_cell_3 (by first | exact HX.symm | (rw [HX])) rfl rfl)⟩
          replace h9 := of_decide_eq_false h9
          have HX := candC_f (candTo_f (v := v) (p := p) (x := v.items[k]) (room := (planTo v p day k).1) (day := day) (k := i) (by unfold candB; rw [carrN_at hil, roomAt (by omega), decide_eq_false h9]; simp))
          refine AWP.skip ?_
          refine AWP.region ?_
          refine AOps.step rfl rfl rfl (AOp.add64 rfl rfl rfl (by omega) (by omega)) ?_
          refine AOps.mD rfl rfl rfl rfl rfl (.nil ?_)
          refine ⟨i + 1, (by dsimp only; omega), (by dsimp only; omega), Sub.less ⟨(SLe.of_eq rfl), SLe.refl _, SLe.refl _, SLe.refl _, SLe.refl _, SLe.refl _, SLe.refl _, SLe.refl _, SLe.refl _, SLe.refl _, SLe.refl _, SLe.refl _, SLe.refl _, SLe.refl _, SLe.refl _, trivial⟩ (row_cell_3 (by first | exact HX.symm | (rw [HX])) rfl rfl)⟩
        replace g8 := bnot_f g8
        have HX := candC_f (candTo_f (show candB v p v.items[k] (planTo v p day k).1 day i (carrN v i) = false from by unfold candB; rw [carrN_at hil, g8]; simp))
        refine AOps.pass ⟨104, rfl, .inl ⟨_, rfl, rfl⟩⟩ rfl rfl ?_
        refine AOps.pass ⟨104, rfl, .inl ⟨_, rfl, rfl⟩⟩ rfl rfl ?_
        refine AOps.pass ⟨104, rfl, .inl ⟨_, rfl, rfl⟩⟩ rfl rfl ?_
        refine AOps.pass ⟨104, rfl, .inl ⟨_, rfl, rfl⟩⟩ rfl rfl ?_
        refine AOps.pass ⟨104, rfl, .inl ⟨_, rfl, rfl⟩⟩ rfl rfl ?_
        refine AOps.pass ⟨104, rfl, .inl ⟨_, rfl, rfl⟩⟩ rfl rfl ?_
        refine AOps.pass ⟨104, rfl, .inl ⟨_, rfl, rfl⟩⟩ rfl rfl ?_
        refine AOps.step rfl rfl rfl (AOp.pickF rfl rfl rfl) (.nil ?_)
        refine AWP.cond rfl (fun h => nomatch h) (fun _ => ?_)
        refine AWP.skip ?_
        refine AWP.region ?_
        refine AOps.step rfl rfl rfl (AOp.add64 rfl rfl rfl (by omega) (by omega)) ?_
        refine AOps.mD rfl rfl rfl rfl rfl (.nil ?_)
        refine ⟨i + 1, (by dsimp only; omega), (by dsimp only; omega), Sub.less ⟨(SLe.of_eq rfl), SLe.refl _, SLe.refl _, SLe.refl _, SLe.refl _, SLe.refl _, SLe.refl _, SLe.refl _, SLe.refl _, SLe.refl _, SLe.refl _, SLe.refl _, SLe.refl _, SLe.refl _, SLe.refl _, trivial⟩ (row_cell_3 (by first | exact HX.symm | (rw [HX])) rfl rfl)⟩
      replace g7 := bnot_f g7
      have HX := candC_f (candTo_f (show candB v p v.items[k] (planTo v p day k).1 day i (carrN v i) = false from by unfold candB; rw [carrN_at hil, decide_eq_false (fun hh => by rw [has_none (v := v) (l := v.copies) vo hh] at g7; cases g7)]; rfl))
      refine AOps.pass ⟨97, rfl, .inl ⟨_, rfl, rfl⟩⟩ rfl rfl ?_
      refine AOps.pass ⟨97, rfl, .inl ⟨_, rfl, rfl⟩⟩ rfl rfl ?_
      refine AOps.pass ⟨97, rfl, .inl ⟨_, rfl, rfl⟩⟩ rfl rfl ?_
      refine AOps.pass ⟨97, rfl, .inl ⟨_, rfl, rfl⟩⟩ rfl rfl ?_
      refine AOps.pass ⟨97, rfl, .inl ⟨_, rfl, rfl⟩⟩ rfl rfl ?_
      refine AOps.step rfl rfl rfl (AOp.pickF rfl rfl rfl) ?_
      refine AOps.mD rfl rfl rfl rfl rfl ?_
      refine AOps.pass ⟨104, rfl, .inl ⟨_, rfl, rfl⟩⟩ rfl rfl ?_
      refine AOps.pass ⟨104, rfl, .inl ⟨_, rfl, rfl⟩⟩ rfl rfl ?_
      refine AOps.pass ⟨104, rfl, .inl ⟨_, rfl, rfl⟩⟩ rfl rfl ?_
      refine AOps.pass ⟨104, rfl, .inl ⟨_, rfl, rfl⟩⟩ rfl rfl ?_
      refine AOps.pass ⟨104, rfl, .inl ⟨_, rfl, rfl⟩⟩ rfl rfl ?_
      refine AOps.pass ⟨104, rfl, .inl ⟨_, rfl, rfl⟩⟩ rfl rfl ?_
      refine AOps.pass ⟨104, rfl, .inl ⟨_, rfl, rfl⟩⟩ rfl rfl ?_
      refine AOps.step rfl rfl rfl (AOp.pickF rfl rfl rfl) (.nil ?_)
      refine AWP.cond rfl (fun h => nomatch h) (fun _ => ?_)
      refine AWP.skip ?_
      refine AWP.region ?_
      refine AOps.step rfl rfl rfl (AOp.add64 rfl rfl rfl (by omega) (by omega)) ?_
      refine AOps.mD rfl rfl rfl rfl rfl (.nil ?_)
      refine ⟨i + 1, (by dsimp only; omega), (by dsimp only; omega), Sub.less ⟨(SLe.of_eq rfl), SLe.refl _, SLe.refl _, SLe.refl _, SLe.refl _, SLe.refl _, SLe.refl _, SLe.refl _, SLe.refl _, SLe.refl _, SLe.refl _, SLe.refl _, SLe.refl _, SLe.refl _, SLe.refl _, trivial⟩ (row_cell_3 (by first | exact HX.symm | (rw [HX])) rfl rfl)⟩
    replace h6 := of_decide_eq_false h6
    rw [List.length_map] at h6
    obtain rfl : i = v.carrs.length := by omega
    refine AWP.exit ?_
    refine AWP.seq ?_
    refine AWP.freezeIn 97 0 rfl (.head _) (.head _) ?_
    refine AWP.freezeCells 18 (ds := [.sl ((candC v p v.items[k] (planTo v p day k).1 day v.carrs.length).map Carr.ds)]) rfl (.head _) ?_
    have HC : ACall Tryz.prog 27 [.v (.int .i64 ((cand v p v.items[k] (planTo v p day k).1 day).length : Int)), .clo (.func 28) [.fp [.sl ((goodOnes v v.items[k].name p day).map Carr.ds)], .fp [.sl ((candC v p v.items[k] (planTo v p day k).1 day v.carrs.length).map Carr.ds)], .fp p.ds]] (.tup [.sl ((tgtL v p v.items[k] (planTo v p day k).1 day).map numD), .v (.bool (tgtC v p v.items[k] (planTo v p day k).1 day).isSome)]) := c_chosen (cand v p v.items[k] (planTo v p day k).1 day).length (by omega) (fun ch => enoughB p (withL v (goodOnes v v.items[k].name p day) (cand v p v.items[k] (planTo v p day k).1 day) ch)) 28 _ (fun l hl => by
      have h := c_planIn (goodOnes v v.items[k].name p day) (candC v p v.items[k] (planTo v p day k).1 day v.carrs.length) p l po (by rw [show (candC v p v.items[k] (planTo v p day k).1 day v.carrs.length).length = (cand v p v.items[k] (planTo v p day k).1 day).length from List.length_map ..]; exact hl) (by omega) (by rw [show (candC v p v.items[k] (planTo v p day k).1 day v.carrs.length).length = (cand v p v.items[k] (planTo v p day k).1 day).length from List.length_map ..]; omega)
      rw [show allC (goodOnes v v.items[k].name p day) (candC v p v.items[k] (planTo v p day k).1 day v.carrs.length) l = withL v (goodOnes v v.items[k].name p day) (cand v p v.items[k] (planTo v p day k).1 day) l from allC_with hl] at h
      exact h)
    refine AWP.region ?_
    refine AOps.step rfl rfl rfl (AOp.load rfl sc_23 rfl) ?_
    refine AOps.step rfl rfl rfl (AOp.lenSl rfl et_23.ht rfl) ?_
    rw [HLn]
    refine AOps.step rfl rfl rfl (AOp.makeFunc rfl (.cons (ArgOk.rfl' rfl) (.cons (ArgOk.rfl' rfl) (.cons (ArgOk.rfl' rfl) .nil)))) ?_
    refine AOps.step rfl rfl rfl (AOp.call rfl (.cons (ArgOk.rfl' rfl) (.cons (ArgOk.rfl' rfl) .nil)) HC) ?_
    refine AOps.mD rfl rfl rfl rfl rfl ?_
    refine AOps.step rfl rfl rfl (AOp.extract rfl rfl rfl) ?_
    refine AOps.step rfl rfl rfl (AOp.extract rfl rfl rfl) ?_
    refine AOps.aD rfl rfl rfl rfl rfl ?_
    refine AOps.aD rfl rfl rfl rfl rfl (.nil ?_)
    refine AWP.seq (AWP.region ?_)
    refine AOps.mD rfl rfl rfl rfl rfl ?_
    refine AOps.step rfl rfl rfl (AOp.lenSl rfl et_63.ht rfl) ?_
    refine AOps.mD rfl rfl rfl rfl rfl (.nil ?_)
    refine AWP.block ?_
    refine AWP.loop (G := Nat) (fun j => Env.of [(127, .d (.v (.int .i64 (j : Int)))), (125, .d (.sl ((tgtL v p v.items[k] (planTo v p day k).1 day).map numD))), (126, .d (.v (.int .i64 (((tgtL v p v.items[k] (planTo v p day k).1 day).map numD).length : Int)))), (18, .d (.fp [.sl ((candC v p v.items[k] (planTo v p day k).1 day v.carrs.length).map Carr.ds)])), (15, .d (.fp (srcCpy (srcO v v.items[k].name (copiesOf v v.items[k].name).length)).ds)), (14, .d (.fp v.items[k].ds)), (53, .d (.v (.int .i64 (k : Int)))), (51, .d (.sl (v.items.map Item.ds))), (52, .d (.v (.int .i64 ((v.items.map Item.ds).length : Int)))), (12, .own 65), (3, .d (.fp v.ds)), (4, .d (.fp p.ds)), (2, .d (.v (.int .i64 day))), (9, .own 91)]) (fun j => [(65, .row 35 3 ((((tgtR v p v.items[k] (planTo v p day k).1 day).take j).foldl (take1 v v.items[k]) (planTo v p day k)).2.map Tfr.ds)), (91, .map (roomM v (((tgtR v p v.items[k] (planTo v p day k).1 day).take j).foldl (take1 v v.items[k]) (planTo v p day k)).1))]) (fun j => j ≤ (tgtL v p v.items[k] (planTo v p day k).1 day).length) (fun j => (tgtL v p v.items[k] (planTo v p day k).1 day).length - j) 0 (Nat.zero_le _) (Sub.less ⟨(SLe.of_eq rfl), SLe.refl _, SLe.refl _, SLe.refl _, SLe.refl _, SLe.refl _, SLe.refl _, SLe.refl _, SLe.refl _, SLe.refl _, SLe.refl _, SLe.refl _, SLe.refl _, SLe.refl _, trivial⟩ (row_map1 rfl rfl)) ?_
    intro j hj
    refine AWP.seq (AWP.region ?_)
    refine AOps.step rfl rfl rfl (AOp.lss rfl rfl rfl) (.nil ?_)
    refine AWP.seq ?_
    refine AWP.cond rfl (fun h10 => ?_) (fun h10 => ?_)
    · replace h10 := of_decide_eq_true h10
      rw [List.length_map] at h10
      have hjl : j < (tgtL v p v.items[k] (planTo v p day k).1 day).length := by omega
      have hlj := tgtL_lt hjl
      obtain ⟨hjr, hje⟩ := tgtR_at hnt hjl
      have hci : (cand v p v.items[k] (planTo v p day k).1 day)[(tgtL v p v.items[k] (planTo v p day k).1 day)[j]] < v.carrs.length := candTo_lt (List.getElem_mem hlj)
      have hfb := PB.fold hxb ((tgtR v p v.items[k] (planTo v p day k).1 day).take j) hpb
      rw [List.length_take] at hfb
      have hfl := hfb.len
      have hol := hfb.out
      have hrm := hfb.room (cand v p v.items[k] (planTo v p day k).1 day)[(tgtL v p v.items[k] (planTo v p day k).1 day)[j]]
      rw [roomAt (by omega)] at hrm
      have HT := fold_tk (v := v) (x := v.items[k]) (s := (planTo v p day k)) hjr
      rw [hje] at HT
      refine AWP.skip ?_
      refine AWP.seq ?_
      refine AWP.block ?_
      refine AWP.seq (AWP.region ?_)
      refine AOps.step rfl rfl rfl (AOp.indexAddr rfl et_63 rfl rfl j rfl (at_list hjl) rfl) ?_
      refine AOps.step rfl rfl rfl (AOp.load rfl sc_3 rfl) ?_
      refine AOps.aD rfl rfl rfl rfl rfl (.nil ?_)
      refine AWP.seq (AWP.region ?_)
      refine AOps.step rfl rfl rfl (AOp.load rfl sc_23 rfl) ?_
      refine AOps.mD rfl rfl rfl rfl rfl ?_
      refine AOps.step rfl rfl rfl (AOp.indexAddr rfl et_23 rfl rfl (tgtL v p v.items[k] (planTo v p day k).1 day)[j] rfl (candC_at hlj hci) rfl) ?_
      refine AOps.step rfl rfl rfl (AOp.fieldAddr rfl fo_59_0 rfl) ?_
      refine AOps.step rfl rfl rfl (AOp.load rfl sc_9 rfl) ?_
      refine AOps.aD rfl rfl rfl rfl rfl (.nil ?_)
      refine AWP.seq (AWP.region ?_)
      refine AOps.step rfl rfl rfl (AOp.moveO rfl rfl) ?_
      refine AOps.mD rfl rfl rfl rfl rfl ?_
      refine AOps.step rfl rfl rfl (AOp.lookup rfl mt_57 kk_9 zt_3 rfl (.tail _ (.head _)) rfl trivial roomM_keys (roomM_look vo hci (by omega))) ?_
      refine AOps.step rfl rfl rfl (AOp.fieldAddr rfl fo_62_1 rfl) ?_
      refine AOps.step rfl rfl rfl (AOp.load rfl sc_3 rfl) ?_
      refine AOps.step rfl rfl rfl (AOp.sub64 rfl rfl rfl (by omega) (by omega)) ?_
      refine AOps.eff rfl rfl (EOp.mapUpdate rfl rfl mt_57 kk_9 rfl (.tail _ (.head _)) rfl rfl trivial roomM_keys (roomM_put vo hci (by omega) _)) (.nil ?_)
      refine AWP.region ?_
      refine AOps.step rfl rfl rfl (AOp.moveO rfl rfl) ?_
      refine AOps.step rfl rfl rfl (AOp.fieldAddr rfl fo_62_0 rfl) ?_
      refine AOps.step rfl rfl rfl (AOp.load rfl sc_9 rfl) ?_
      refine AOps.step rfl rfl rfl (AOp.fieldAddr rfl fo_65_1 rfl) ?_
      refine AOps.step rfl rfl rfl (AOp.load rfl sc_9 rfl) ?_
      refine AOps.mD rfl rfl rfl rfl rfl ?_
      refine AOps.step rfl rfl rfl (AOp.build rfl bu_35 (.cons rfl rfl (.cons rfl rfl (.cons rfl rfl .nil))) rfl) ?_
      refine AOps.step rfl rfl rfl (AOp.buildSlice rfl et_29 (.cons rfl rfl rfl .nil) rfl (by decide)) ?_
      -- append 150
      refine AOps.append rfl rfl rfl rfl et_29 rfl (.head _) rfl (fun y hy => by obtain rfl := List.mem_singleton.1 hy; rfl) (by simp; omega) (by simp; omega) ?_
      refine AOps.step rfl rfl rfl (AOp.assignO rfl rfl) (.nil ?_)
      refine AWP.region ?_
      refine AOps.step rfl rfl rfl (AOp.add64 rfl rfl rfl (by omega) (by omega)) ?_
      refine AOps.mD rfl rfl rfl rfl rfl (.nil ?_)
      refine ⟨j + 1, (by dsimp only; omega), (by dsimp only; omega), Sub.less ⟨(SLe.of_eq rfl), SLe.refl _, SLe.refl _, SLe.refl _, SLe.refl _, SLe.refl _, SLe.refl _, SLe.refl _, SLe.refl _, SLe.refl _, SLe.refl _, SLe.refl _, SLe.refl _, SLe.refl _, trivial⟩ (row_map1 (by rw [HT, take1_2, ← hsy.1, carrN_at hci, List.map_append]; rfl) (by rw [HT, take1_1, roomAt (by omega)]))⟩
    replace h10 := of_decide_eq_false h10
    rw [List.length_map] at h10
    obtain rfl : j = (tgtL v p v.items[k] (planTo v p day k).1 day).length := by omega
    refine AWP.exit ?_
    refine AWP.region ?_
    refine AOps.step rfl rfl rfl (AOp.add64 rfl rfl rfl (by omega) (by omega)) ?_
    refine AOps.mD rfl rfl rfl rfl rfl (.nil ?_)
    refine ⟨k + 1, (by omega), (by dsimp only; omega), Sub.less ⟨(SLe.of_eq rfl), SLe.refl _, SLe.refl _, SLe.refl _, SLe.refl _, SLe.refl _, SLe.refl _, SLe.refl _, trivial⟩ (row_map1 (by first | rw [HT] | rw [HE]) (by first | rw [HT] | rw [HE]))⟩
  replace h3 := of_decide_eq_false h3
  rw [List.length_map] at h3
  obtain rfl : k = v.items.length := by omega
  refine AWP.exit ?_
  refine AWP.seq (AWP.region ?_)
  refine AOps.step rfl rfl rfl (AOp.moveO rfl rfl) ?_
  refine AOps.step rfl rfl rfl (AOp.assignO rfl rfl) ?_
  refine AOps.aD rfl rfl rfl rfl rfl (.nil ?_)
  refine AWP.ret ?_
  refine ⟨RetD.own rfl (.head _) ?_, RetD.eq rfl ?_, trivial⟩
  all_goals (rfl)

end Go.Proofs.YtieccphckobhjaaGreatDoor


namespace Go.Proofs.YtieccphckobhjaaGreatDoor
open Go.RowKit
set_option linter.unusedVariables false

/-! Types. -/
namespace TyW18
theorem ag_26 : AggT Tryz.prog 26 3 := .of (by kernel_rfl)
theorem ag_65 : AggT Tryz.prog 65 7 := .of (by kernel_rfl)
theorem bu_65 : StructT Tryz.prog 65 (fun i => (#[(0, 1), (1, 1), (2, 1), (3, 1), (4, 1), (5, 1), (6, 1)] : Array (Nat × Nat))[i]?) [(.string ⟨#[]⟩), (.string ⟨#[]⟩), (.string ⟨#[]⟩), (.int .i64 0), (.int .i64 0), (.int .i64 0), (.slice none 0 0)] := .of (by kernel_rfl) (by kernel_rfl) (by decide)
theorem et_22 : ElemTy Tryz.prog 22 62 2 24 (.agg #[(.string ⟨#[]⟩), (.int .i64 0)]) := ⟨by kernel_rfl, by kernel_rfl, by kernel_rfl, by decide⟩
theorem et_23 : ElemTy Tryz.prog 23 59 5 64 (.agg #[(.string ⟨#[]⟩), (.string ⟨#[]⟩), (.string ⟨#[]⟩), (.int .i64 0), (.int .i64 0)]) := ⟨by kernel_rfl, by kernel_rfl, by kernel_rfl, by decide⟩
theorem et_24 : ElemTy Tryz.prog 24 65 7 96 (.agg #[(.string ⟨#[]⟩), (.string ⟨#[]⟩), (.string ⟨#[]⟩), (.int .i64 0), (.int .i64 0), (.int .i64 0), (.slice none 0 0)]) := ⟨by kernel_rfl, by kernel_rfl, by kernel_rfl, by decide⟩
theorem et_63 : ElemTy Tryz.prog 63 3 1 8 (.int .i64 0) := ⟨by kernel_rfl, by kernel_rfl, by kernel_rfl, by decide⟩
theorem fo_26_0 : fieldOff Tryz.prog 26 0 = some 0 := by kernel_rfl
theorem fo_26_1 : fieldOff Tryz.prog 26 1 = some 1 := by kernel_rfl
theorem fo_26_2 : fieldOff Tryz.prog 26 2 = some 2 := by kernel_rfl
theorem fo_35_0 : fieldOff Tryz.prog 35 0 = some 0 := by kernel_rfl
theorem fo_35_1 : fieldOff Tryz.prog 35 1 = some 1 := by kernel_rfl
theorem fo_35_2 : fieldOff Tryz.prog 35 2 = some 2 := by kernel_rfl
theorem fo_59_4 : fieldOff Tryz.prog 59 4 = some 4 := by kernel_rfl
theorem fo_62_1 : fieldOff Tryz.prog 62 1 = some 1 := by kernel_rfl
theorem fo_65_3 : fieldOff Tryz.prog 65 3 = some 3 := by kernel_rfl
theorem fo_65_5 : fieldOff Tryz.prog 65 5 = some 5 := by kernel_rfl
theorem fo_65_6 : fieldOff Tryz.prog 65 6 = some 6 := by kernel_rfl
theorem sc_22 : Scal Tryz.prog 22 := .of (by kernel_rfl)
theorem sc_23 : Scal Tryz.prog 23 := .of (by kernel_rfl)
theorem sc_24 : Scal Tryz.prog 24 := .of (by kernel_rfl)
theorem sc_3 : Scal Tryz.prog 3 := .of (by kernel_rfl)
theorem sc_63 : Scal Tryz.prog 63 := .of (by kernel_rfl)
theorem sc_9 : Scal Tryz.prog 9 := .of (by kernel_rfl)
theorem sz_26 : ∀ w, (sizeOf 26).run Tryz.prog w = .ok 3 w := SizeT.of (by kernel_rfl)
theorem sz_65 : ∀ w, (sizeOf 65).run Tryz.prog w = .ok 7 w := SizeT.of (by kernel_rfl)
theorem zt_26 : (Tryz.prog.info? 26).bind (·.zero) = some (.agg #[(.slice none 0 0), (.slice none 0 0), (.slice none 0 0)]) := by kernel_rfl
theorem zt_65 : (Tryz.prog.info? 65).bind (·.zero) = some (.agg #[(.string ⟨#[]⟩), (.string ⟨#[]⟩), (.string ⟨#[]⟩), (.int .i64 0), (.int .i64 0), (.int .i64 0), (.slice none 0 0)]) := by kernel_rfl
end TyW18
open TyW18


theorem AWP.le {cx : Cx} {c : Code} {e : Env} {σ : Obs} {Q : Post} (t : Nat) {s' : S} {s : S} (ht : e t = s) (h : SLe s s') (k : AWP cx c (e.put (some t) s') σ Q) : AWP cx c e σ Q := fun a w ⟨F, ρ, hr⟩ =>
  k a w ⟨F, ρ, hr.size, hr.defers, hr.lt, hr.base, hr.new, hr.below, hr.hB, fun u => by
    by_cases hu : u = t
    · subst hu
      rw [Env.put_same]
      have := hr.env u
      rw [ht] at this
      exact h F ρ w _ this
    · rw [Env.put_other _ _ _ _ hu]; exact hr.env u, hr.obs, hr.up, hr.kown, hr.fixed⟩
theorem Le.fpLast (ds : List D) : Le (.fp (ds ++ [.v (.slice none 0 0)])) (.fp (ds ++ [.sl []])) := fun F w x hx => by
  cases hx with
  | fp ad _ vs hF hcell hone h =>
    refine .fp ad _ vs hF (fun j hj => hcell j (by simpa using hj)) (fun j hj => hone j (by simpa using hj)) fun i h2 => ?_
    have h3 := h i (by simpa using h2)
    by_cases hi : i < ds.length
    · rw [List.getElem_append_left hi] at h3 ⊢
      exact h3
    · have : i = ds.length := by simp at h2; omega
      subst this
      rw [List.getElem_append_right (Nat.le_refl _)] at h3 ⊢
      simp only [Nat.sub_self, List.getElem_cons_zero] at h3 ⊢
      exact Le.nil _ _ _ h3
def madeV (v : Vlt) (t : Tfr) (day : Int) : Vlt := if tfrFault v t day = 0 then withC v (insC v.copies (tfrNew v t day)) else v
theorem madeV_bad {v : Vlt} {t : Tfr} {day c : Int} (h : tfrFault v t day = c) (hc : c ≠ 0) : madeV v t day = v := if_neg (by rw [h]; exact hc)
theorem madeV_ok {v : Vlt} {t : Tfr} {day : Int} (h : tfrFault v t day = 0) : madeV v t day = withC v (insC v.copies (tfrNew v t day)) := if_pos h
section
variable {v : Vlt} {t : Tfr} {day : Int}
theorem tfr_9 (h : itemIdx v t.item < 0 ∨ copyIdx v t.item t.frm < 0 ∨ carrIdx v t.to < 0) : tfrFault v t day = 9 := if_pos h
theorem tfr_7 (h1 : ¬ (itemIdx v t.item < 0 ∨ copyIdx v t.item t.frm < 0 ∨ carrIdx v t.to < 0)) (h2 : 0 ≤ copyIdx v t.item t.to) : tfrFault v t day = 7 := (if_neg h1).trans (if_pos h2)
theorem tfr_11 (h1 : ¬ (itemIdx v t.item < 0 ∨ copyIdx v t.item t.frm < 0 ∨ carrIdx v t.to < 0)) (h2 : ¬ 0 ≤ copyIdx v t.item t.to) (h3 : 0 < (tfrFrom v t).bad.length) : tfrFault v t day = 11 := (if_neg h1).trans ((if_neg h2).trans (if_pos h3))
theorem tfr_1 (h1 : ¬ (itemIdx v t.item < 0 ∨ copyIdx v t.item t.frm < 0 ∨ carrIdx v t.to < 0)) (h2 : ¬ 0 ≤ copyIdx v t.item t.to) (h3 : ¬ 0 < (tfrFrom v t).bad.length) (h4 : day < (tfrFrom v t).day ∨ (tfrFrom v t).gen = 100) : tfrFault v t day = 1 := (if_neg h1).trans ((if_neg h2).trans ((if_neg h3).trans (if_pos h4)))
theorem tfr_2 (h1 : ¬ (itemIdx v t.item < 0 ∨ copyIdx v t.item t.frm < 0 ∨ carrIdx v t.to < 0)) (h2 : ¬ 0 ≤ copyIdx v t.item t.to) (h3 : ¬ 0 < (tfrFrom v t).bad.length) (h4 : ¬ (day < (tfrFrom v t).day ∨ (tfrFrom v t).gen = 100)) (h5 : (carrAt v t.to).room < usedOn v t.to + itemBlocks v t.item) : tfrFault v t day = 2 := (if_neg h1).trans ((if_neg h2).trans ((if_neg h3).trans ((if_neg h4).trans (if_pos h5))))
theorem tfr_0 (h1 : ¬ (itemIdx v t.item < 0 ∨ copyIdx v t.item t.frm < 0 ∨ carrIdx v t.to < 0)) (h2 : ¬ 0 ≤ copyIdx v t.item t.to) (h3 : ¬ 0 < (tfrFrom v t).bad.length) (h4 : ¬ (day < (tfrFrom v t).day ∨ (tfrFrom v t).gen = 100)) (h5 : ¬ (carrAt v t.to).room < usedOn v t.to + itemBlocks v t.item) : tfrFault v t day = 0 := (if_neg h1).trans ((if_neg h2).trans ((if_neg h3).trans ((if_neg h4).trans (if_neg h5))))
theorem tfrFrom_at {k : Nat} (hk : k < v.copies.length) (e : copyIdx v t.item t.frm = (k : Int)) : tfrFrom v t = v.copies[k] := by unfold tfrFrom; rw [e, Int.toNat_natCast, getD_at hk]
end
theorem insC_ds (l : List Cpy) (c : Cpy) : (insC l c).map Cpy.ds = (l.map Cpy.ds).take (posC l (keyC c.item c.carrier)) ++ [c.ds] ++ (l.map Cpy.ds).drop (posC l (keyC c.item c.carrier)) := by unfold insC; simp
def newD (v : Vlt) (t : Tfr) (day : Int) : List D := [.v (.string t.item), .v (.string t.to), .v (.string t.frm), .v (.int .i64 day), .v (.int .i64 day), .v (.int .i64 ((tfrFrom v t).gen + 1)), .v (.slice none 0 0)]
theorem hag_cpyR : AggT Tryz.prog 65 7 := .of (by kernel_rfl)
theorem hsz_24r : ∀ w, (sizeOf 24).run Tryz.prog w = .ok 1 w := SizeT.of (by kernel_rfl)


set_option maxRecDepth 100000 in
set_option maxHeartbeats 4000000 in
theorem c_made (v : Vlt) (t : Tfr) (day : Int) (hoi : okItems v) (ts : TS v v.copies) (hl : v.copies.length ≤ 480) (hcr : ∀ x ∈ v.carrs, x.room ≤ 1000000) : ACall Tryz.prog 40 [.agg v.ds, .agg t.ds, .v (.int .i64 day)] (.tup [.agg (madeV v t day).ds, .v (.int .i64 (tfrFault v t day))]) := by
  refine acall_ofR (n := 139) (ds' := [.agg (madeV v t day).ds, .v (.int .i64 (tfrFault v t day))]) Tryz.func40 rfl (by kernel_rfl) rfl [.cell 6 26, .tmp 7] rfl rfl ?_
  intro B w0 F0 fr
  have hoc : okCopies v := fun c hc => ⟨ts.it c hc, ts.ca c hc⟩
  have hub : 0 ≤ usedOn v t.to ∧ usedOn v t.to ≤ 1000 * (v.copies.length : Int) := usedTo_bound hoi _ _
  refine AWP.seq (AWP.region ?_)
  refine AOps.boxOwn 90 rfl rfl rfl rfl rfl rfl rfl ?_
  refine AOps.step rfl rfl rfl (AOp.box rfl rfl rfl) ?_
  refine AOps.alloc 12 rfl rfl rfl rfl zt_26 rfl rfl rfl ?_
  refine AOps.aD rfl rfl rfl rfl rfl (.nil ?_)
  refine AWP.seq ?_
  refine AWP.draw (by kernel_rfl) (by kernel_rfl) ?_
  refine DRun.step rfl rfl rfl (AOp.loadPU rfl ag_26 rfl (.tail _ (.head _)) rfl rfl) ?_
  refine DRun.step rfl rfl rfl (AOp.fieldAddr rfl fo_35_0 rfl) ?_
  refine DRun.step rfl rfl rfl (AOp.load rfl sc_9 rfl) ?_
  refine DRun.step rfl rfl rfl (AOp.call rfl (.cons (ArgOk.rfl' rfl) (.cons (ArgOk.rfl' rfl) .nil)) (c_itemOf _ _)) ?_
  refine DRun.step rfl rfl rfl (AOp.loadPU rfl ag_26 rfl (.tail _ (.head _)) rfl rfl) ?_
  refine DRun.step rfl rfl rfl (AOp.fieldAddr rfl fo_35_0 rfl) ?_
  refine DRun.step rfl rfl rfl (AOp.load rfl sc_9 rfl) ?_
  refine DRun.step rfl rfl rfl (AOp.fieldAddr rfl fo_35_1 rfl) ?_
  refine DRun.step rfl rfl rfl (AOp.load rfl sc_9 rfl) ?_
  refine DRun.step rfl rfl rfl (AOp.call rfl (.cons (ArgOk.rfl' rfl) (.cons (ArgOk.rfl' rfl) (.cons (ArgOk.rfl' rfl) .nil))) (c_copyOfR v _ _ (by omega))) ?_
  refine DRun.step rfl rfl rfl (AOp.loadPU rfl ag_26 rfl (.tail _ (.head _)) rfl rfl) ?_
  refine DRun.step rfl rfl rfl (AOp.fieldAddr rfl fo_35_2 rfl) ?_
  refine DRun.step rfl rfl rfl (AOp.load rfl sc_9 rfl) ?_
  refine DRun.step rfl rfl rfl (AOp.call rfl (.cons (ArgOk.rfl' rfl) (.cons (ArgOk.rfl' rfl) .nil)) (c_carrierOf _ _)) ?_
  refine DRun.step rfl rfl rfl (AOp.assignD rfl rfl) ?_
  refine DRun.step rfl rfl rfl (AOp.assignD rfl rfl) ?_
  refine DRun.step rfl rfl rfl (AOp.assignD rfl rfl) ?_
  refine DRun.nil ?_
  refine AWP.seq ?_
  refine AWP.block ?_
  refine AWP.seq (AWP.region ?_)
  refine AOps.mD rfl rfl rfl rfl rfl ?_
  refine AOps.step rfl rfl rfl (AOp.lss rfl rfl rfl) ?_
  refine AOps.mD rfl rfl rfl rfl rfl ?_
  refine AOps.split 30 rfl (fun g1 => ?_) (fun g1 => ?_)
  · replace g1 := of_decide_eq_true g1
    have HF : tfrFault v t day = 9 := tfr_9 (.inl g1)
    rw [madeV_bad HF (by decide), HF]
    refine AOps.pass ⟨30, rfl, .inl ⟨_, rfl, rfl⟩⟩ rfl rfl ?_
    refine AOps.pass ⟨30, rfl, .inl ⟨_, rfl, rfl⟩⟩ rfl rfl ?_
    refine AOps.step rfl rfl rfl (AOp.pickT rfl rfl rfl) ?_
    refine AOps.mD rfl rfl rfl rfl rfl ?_
    refine AOps.pass ⟨34, rfl, .inl ⟨_, rfl, rfl⟩⟩ rfl rfl ?_
    refine AOps.pass ⟨34, rfl, .inl ⟨_, rfl, rfl⟩⟩ rfl rfl ?_
    refine AOps.step rfl rfl rfl (AOp.pickT rfl rfl rfl) ?_
    refine AOps.aD rfl rfl rfl rfl rfl (.nil ?_)
    refine AWP.cond rfl (fun _ => ?_) (fun h => nomatch h)
    refine AWP.seq (AWP.region ?_)
    refine AOps.step rfl rfl rfl (AOp.loadPU rfl ag_26 rfl (.tail _ (.head _)) rfl rfl) ?_
    refine AOps.store rfl rfl rfl sz_26 rfl (.head _) rfl rfl rfl (Nat.le_of_ble_eq_true rfl) ?_
    refine AOps.aD rfl rfl rfl rfl rfl (.nil ?_)
    refine AWP.ret ?_
    refine ⟨RetR.agg rfl (.head _) ag_26 rfl (.cons (by first | exact CellD.nil | exact CellD.d | exact CellD.eq (by simp) | (refine CellD.own (by first | exact .head _ | exact .tail _ (.head _)) ?_; rfl)) (.cons (by first | exact CellD.nil | exact CellD.d | exact CellD.eq (by simp) | (refine CellD.own (by first | exact .head _ | exact .tail _ (.head _)) ?_; rfl)) (.cons (by first | exact CellD.nil | exact CellD.d | exact CellD.eq (by simp) | (refine CellD.own (by first | exact .head _ | exact .tail _ (.head _)) ?_; rfl)) .nil))), RetD.eq rfl ?_, trivial⟩
    all_goals (rfl)
  replace g1 := of_decide_eq_false g1
  have ha := g1
  refine AOps.step ⟨30, rfl, .inl ⟨_, rfl, rfl⟩⟩ rfl rfl (AOp.moveD rfl rfl) ?_
  refine AOps.step ⟨30, rfl, .inl ⟨_, rfl, rfl⟩⟩ rfl rfl (AOp.lss rfl rfl rfl) ?_
  refine AOps.step rfl rfl rfl (AOp.pickF rfl rfl rfl) ?_
  refine AOps.mD rfl rfl rfl rfl rfl ?_
  refine AOps.split 34 rfl (fun g2 => ?_) (fun g2 => ?_)
  · replace g2 := of_decide_eq_true g2
    have HF : tfrFault v t day = 9 := tfr_9 (.inr (.inl g2))
    rw [madeV_bad HF (by decide), HF]
    refine AOps.pass ⟨34, rfl, .inl ⟨_, rfl, rfl⟩⟩ rfl rfl ?_
    refine AOps.pass ⟨34, rfl, .inl ⟨_, rfl, rfl⟩⟩ rfl rfl ?_
    refine AOps.step rfl rfl rfl (AOp.pickT rfl rfl rfl) ?_
    refine AOps.aD rfl rfl rfl rfl rfl (.nil ?_)
    refine AWP.cond rfl (fun _ => ?_) (fun h => nomatch h)
    refine AWP.seq (AWP.region ?_)
    refine AOps.step rfl rfl rfl (AOp.loadPU rfl ag_26 rfl (.tail _ (.head _)) rfl rfl) ?_
    refine AOps.store rfl rfl rfl sz_26 rfl (.head _) rfl rfl rfl (Nat.le_of_ble_eq_true rfl) ?_
    refine AOps.aD rfl rfl rfl rfl rfl (.nil ?_)
    refine AWP.ret ?_
    refine ⟨RetR.agg rfl (.head _) ag_26 rfl (.cons (by first | exact CellD.nil | exact CellD.d | exact CellD.eq (by simp) | (refine CellD.own (by first | exact .head _ | exact .tail _ (.head _)) ?_; rfl)) (.cons (by first | exact CellD.nil | exact CellD.d | exact CellD.eq (by simp) | (refine CellD.own (by first | exact .head _ | exact .tail _ (.head _)) ?_; rfl)) (.cons (by first | exact CellD.nil | exact CellD.d | exact CellD.eq (by simp) | (refine CellD.own (by first | exact .head _ | exact .tail _ (.head _)) ?_; rfl)) .nil))), RetD.eq rfl ?_, trivial⟩
    all_goals (rfl)
  replace g2 := of_decide_eq_false g2
  have hb := g2
  refine AOps.step ⟨34, rfl, .inl ⟨_, rfl, rfl⟩⟩ rfl rfl (AOp.moveD rfl rfl) ?_
  refine AOps.step ⟨34, rfl, .inl ⟨_, rfl, rfl⟩⟩ rfl rfl (AOp.lss rfl rfl rfl) ?_
  refine AOps.step rfl rfl rfl (AOp.pickF rfl rfl rfl) ?_
  refine AOps.aD rfl rfl rfl rfl rfl (.nil ?_)
  refine AWP.cond rfl (fun h3 => ?_) (fun h3 => ?_)
  · replace h3 := of_decide_eq_true h3
    have HF : tfrFault v t day = 9 := tfr_9 (.inr (.inr h3))
    rw [madeV_bad HF (by decide), HF]
    refine AWP.seq (AWP.region ?_)
    refine AOps.step rfl rfl rfl (AOp.loadPU rfl ag_26 rfl (.tail _ (.head _)) rfl rfl) ?_
    refine AOps.store rfl rfl rfl sz_26 rfl (.head _) rfl rfl rfl (Nat.le_of_ble_eq_true rfl) ?_
    refine AOps.aD rfl rfl rfl rfl rfl (.nil ?_)
    refine AWP.ret ?_
    refine ⟨RetR.agg rfl (.head _) ag_26 rfl (.cons (by first | exact CellD.nil | exact CellD.d | exact CellD.eq (by simp) | (refine CellD.own (by first | exact .head _ | exact .tail _ (.head _)) ?_; rfl)) (.cons (by first | exact CellD.nil | exact CellD.d | exact CellD.eq (by simp) | (refine CellD.own (by first | exact .head _ | exact .tail _ (.head _)) ?_; rfl)) (.cons (by first | exact CellD.nil | exact CellD.d | exact CellD.eq (by simp) | (refine CellD.own (by first | exact .head _ | exact .tail _ (.head _)) ?_; rfl)) .nil))), RetD.eq rfl ?_, trivial⟩
    all_goals (rfl)
  replace h3 := of_decide_eq_false h3
  have h1 : ¬ (itemIdx v t.item < 0 ∨ copyIdx v t.item t.frm < 0 ∨ carrIdx v t.to < 0) := by omega
  obtain ⟨ki, hki, eki, _⟩ := idxBy_some (show 0 ≤ itemIdx v t.item by omega)
  obtain ⟨kf, hkf, ekf, _, _⟩ := idx_nonneg (v := v) rfl (show 0 ≤ copyIdx v t.item t.frm by omega)
  obtain ⟨kt, hkt, ekt, _⟩ := idxBy_some (show 0 ≤ carrIdx v t.to by omega)
  have hfr := tfrFrom_at hkf ekf
  have hib := itemBlocks_at hki eki
  have hcr := carrAt_eq hkt ekt
  have hbi := hoi _ (List.getElem_mem hki)
  have hgn := ts.gen _ (List.getElem_mem hkf)
  refine AWP.seq (AWP.region ?_)
  refine AOps.step rfl rfl rfl (AOp.loadPU rfl ag_26 rfl (.tail _ (.head _)) rfl rfl) ?_
  refine AOps.step rfl rfl rfl (AOp.fieldAddr rfl fo_35_0 rfl) ?_
  refine AOps.step rfl rfl rfl (AOp.load rfl sc_9 rfl) ?_
  refine AOps.step rfl rfl rfl (AOp.fieldAddr rfl fo_35_2 rfl) ?_
  refine AOps.step rfl rfl rfl (AOp.load rfl sc_9 rfl) ?_
  refine AOps.step rfl rfl rfl (AOp.call rfl (.cons (ArgOk.rfl' rfl) (.cons (ArgOk.rfl' rfl) (.cons (ArgOk.rfl' rfl) .nil))) (c_copyOfR v _ _ (by omega))) ?_
  refine AOps.step rfl rfl rfl (AOp.geq rfl rfl rfl) ?_
  refine AOps.aD rfl rfl rfl rfl rfl (.nil ?_)
  refine AWP.cond rfl (fun h4 => ?_) (fun h4 => ?_)
  · replace h4 := of_decide_eq_true h4
    have HF : tfrFault v t day = 7 := tfr_7 h1 h4
    rw [madeV_bad HF (by decide), HF]
    refine AWP.seq (AWP.region ?_)
    refine AOps.step rfl rfl rfl (AOp.loadPU rfl ag_26 rfl (.tail _ (.head _)) rfl rfl) ?_
    refine AOps.store rfl rfl rfl sz_26 rfl (.head _) rfl rfl rfl (Nat.le_of_ble_eq_true rfl) ?_
    refine AOps.aD rfl rfl rfl rfl rfl (.nil ?_)
    refine AWP.ret ?_
    refine ⟨RetR.agg rfl (.head _) ag_26 rfl (.cons (by first | exact CellD.nil | exact CellD.d | exact CellD.eq (by simp) | (refine CellD.own (by first | exact .head _ | exact .tail _ (.head _)) ?_; rfl)) (.cons (by first | exact CellD.nil | exact CellD.d | exact CellD.eq (by simp) | (refine CellD.own (by first | exact .head _ | exact .tail _ (.head _)) ?_; rfl)) (.cons (by first | exact CellD.nil | exact CellD.d | exact CellD.eq (by simp) | (refine CellD.own (by first | exact .head _ | exact .tail _ (.head _)) ?_; rfl)) .nil))), RetD.eq rfl ?_, trivial⟩
    all_goals (rfl)
  replace h4 := of_decide_eq_false h4
  have h2 := h4
  refine AWP.seq (AWP.region ?_)
  refine AOps.step rfl rfl rfl (AOp.fieldAddrP rfl fo_26_2 rfl) ?_
  refine AOps.step rfl rfl rfl (AOp.loadP rfl sc_24 rfl (.tail _ (.head _)) rfl) ?_
  refine AOps.mD rfl rfl rfl rfl rfl ?_
  refine AOps.step rfl rfl rfl (AOp.indexAddr rfl et_24 rfl rfl kf ekf (at_list hkf) rfl) ?_
  refine AOps.step rfl rfl rfl (AOp.fieldAddr rfl fo_65_6 rfl) ?_
  refine AOps.step rfl rfl rfl (AOp.load rfl sc_63 rfl) ?_
  refine AOps.step rfl rfl rfl (AOp.lenSl rfl et_63.ht rfl) ?_
  refine AOps.step rfl rfl rfl (AOp.gtr rfl rfl rfl) ?_
  refine AOps.aD rfl rfl rfl rfl rfl (.nil ?_)
  refine AWP.cond rfl (fun h5 => ?_) (fun h5 => ?_)
  · replace h5 := of_decide_eq_true h5
    rw [List.length_map] at h5
    have HF : tfrFault v t day = 11 := tfr_11 h1 h2 (by rw [hfr]; omega)
    rw [madeV_bad HF (by decide), HF]
    refine AWP.seq (AWP.region ?_)
    refine AOps.step rfl rfl rfl (AOp.loadPU rfl ag_26 rfl (.tail _ (.head _)) rfl rfl) ?_
    refine AOps.store rfl rfl rfl sz_26 rfl (.head _) rfl rfl rfl (Nat.le_of_ble_eq_true rfl) ?_
    refine AOps.aD rfl rfl rfl rfl rfl (.nil ?_)
    refine AWP.ret ?_
    refine ⟨RetR.agg rfl (.head _) ag_26 rfl (.cons (by first | exact CellD.nil | exact CellD.d | exact CellD.eq (by simp) | (refine CellD.own (by first | exact .head _ | exact .tail _ (.head _)) ?_; rfl)) (.cons (by first | exact CellD.nil | exact CellD.d | exact CellD.eq (by simp) | (refine CellD.own (by first | exact .head _ | exact .tail _ (.head _)) ?_; rfl)) (.cons (by first | exact CellD.nil | exact CellD.d | exact CellD.eq (by simp) | (refine CellD.own (by first | exact .head _ | exact .tail _ (.head _)) ?_; rfl)) .nil))), RetD.eq rfl ?_, trivial⟩
    all_goals (rfl)
  replace h5 := of_decide_eq_false h5
  rw [List.length_map] at h5
  have h3 : ¬ 0 < (tfrFrom v t).bad.length := by rw [hfr]; omega
  refine AWP.seq (AWP.region ?_)
  refine AOps.mD rfl rfl rfl rfl rfl ?_
  refine AOps.step rfl rfl rfl (AOp.fieldAddrP rfl fo_26_2 rfl) ?_
  refine AOps.step rfl rfl rfl (AOp.loadP rfl sc_24 rfl (.tail _ (.head _)) rfl) ?_
  refine AOps.mD rfl rfl rfl rfl rfl ?_
  refine AOps.step rfl rfl rfl (AOp.indexAddr rfl et_24 rfl rfl kf ekf (at_list hkf) rfl) ?_
  refine AOps.step rfl rfl rfl (AOp.fieldAddr rfl fo_65_3 rfl) ?_
  refine AOps.step rfl rfl rfl (AOp.load rfl sc_3 rfl) ?_
  refine AOps.step rfl rfl rfl (AOp.lss rfl rfl rfl) ?_
  refine AOps.mD rfl rfl rfl rfl rfl ?_
  refine AOps.split 67 rfl (fun g6 => ?_) (fun g6 => ?_)
  · replace g6 := of_decide_eq_true g6
    have HF : tfrFault v t day = 1 := tfr_1 h1 h2 h3 (.inl (by rw [hfr]; exact g6))
    rw [madeV_bad HF (by decide), HF]
    refine AOps.pass ⟨67, rfl, .inl ⟨_, rfl, rfl⟩⟩ rfl rfl ?_
    refine AOps.pass ⟨67, rfl, .inl ⟨_, rfl, rfl⟩⟩ rfl rfl ?_
    refine AOps.pass ⟨67, rfl, .inl ⟨_, rfl, rfl⟩⟩ rfl rfl ?_
    refine AOps.pass ⟨67, rfl, .inl ⟨_, rfl, rfl⟩⟩ rfl rfl ?_
    refine AOps.pass ⟨67, rfl, .inl ⟨_, rfl, rfl⟩⟩ rfl rfl ?_
    refine AOps.pass ⟨67, rfl, .inl ⟨_, rfl, rfl⟩⟩ rfl rfl ?_
    refine AOps.pass ⟨67, rfl, .inl ⟨_, rfl, rfl⟩⟩ rfl rfl ?_
    refine AOps.step rfl rfl rfl (AOp.pickT rfl rfl rfl) ?_
    refine AOps.aD rfl rfl rfl rfl rfl (.nil ?_)
    refine AWP.cond rfl (fun _ => ?_) (fun h => nomatch h)
    refine AWP.seq (AWP.region ?_)
    refine AOps.step rfl rfl rfl (AOp.loadPU rfl ag_26 rfl (.tail _ (.head _)) rfl rfl) ?_
    refine AOps.store rfl rfl rfl sz_26 rfl (.head _) rfl rfl rfl (Nat.le_of_ble_eq_true rfl) ?_
    refine AOps.aD rfl rfl rfl rfl rfl (.nil ?_)
    refine AWP.ret ?_
    refine ⟨RetR.agg rfl (.head _) ag_26 rfl (.cons (by first | exact CellD.nil | exact CellD.d | exact CellD.eq (by simp) | (refine CellD.own (by first | exact .head _ | exact .tail _ (.head _)) ?_; rfl)) (.cons (by first | exact CellD.nil | exact CellD.d | exact CellD.eq (by simp) | (refine CellD.own (by first | exact .head _ | exact .tail _ (.head _)) ?_; rfl)) (.cons (by first | exact CellD.nil | exact CellD.d | exact CellD.eq (by simp) | (refine CellD.own (by first | exact .head _ | exact .tail _ (.head _)) ?_; rfl)) .nil))), RetD.eq rfl ?_, trivial⟩
    all_goals (rfl)
  replace g6 := of_decide_eq_false g6
  have hd4 := g6
  refine AOps.step ⟨67, rfl, .inl ⟨_, rfl, rfl⟩⟩ rfl rfl (AOp.fieldAddrP rfl fo_26_2 rfl) ?_
  refine AOps.step ⟨67, rfl, .inl ⟨_, rfl, rfl⟩⟩ rfl rfl (AOp.loadP rfl sc_24 rfl (.tail _ (.head _)) rfl) ?_
  refine AOps.step ⟨67, rfl, .inl ⟨_, rfl, rfl⟩⟩ rfl rfl (AOp.moveD rfl rfl) ?_
  refine AOps.step ⟨67, rfl, .inl ⟨_, rfl, rfl⟩⟩ rfl rfl (AOp.indexAddr rfl et_24 rfl rfl kf ekf (at_list hkf) rfl) ?_
  refine AOps.step ⟨67, rfl, .inl ⟨_, rfl, rfl⟩⟩ rfl rfl (AOp.fieldAddr rfl fo_65_5 rfl) ?_
  refine AOps.step ⟨67, rfl, .inl ⟨_, rfl, rfl⟩⟩ rfl rfl (AOp.load rfl sc_3 rfl) ?_
  refine AOps.step ⟨67, rfl, .inl ⟨_, rfl, rfl⟩⟩ rfl rfl (AOp.eql rfl rfl rfl) ?_
  refine AOps.step rfl rfl rfl (AOp.pickF rfl rfl rfl) ?_
  refine AOps.aD rfl rfl rfl rfl rfl (.nil ?_)
  refine AWP.cond rfl (fun h7 => ?_) (fun h7 => ?_)
  · replace h7 := of_decide_eq_true h7
    have HF : tfrFault v t day = 1 := tfr_1 h1 h2 h3 (.inr (by rw [hfr]; exact h7))
    rw [madeV_bad HF (by decide), HF]
    refine AWP.seq (AWP.region ?_)
    refine AOps.step rfl rfl rfl (AOp.loadPU rfl ag_26 rfl (.tail _ (.head _)) rfl rfl) ?_
    refine AOps.store rfl rfl rfl sz_26 rfl (.head _) rfl rfl rfl (Nat.le_of_ble_eq_true rfl) ?_
    refine AOps.aD rfl rfl rfl rfl rfl (.nil ?_)
    refine AWP.ret ?_
    refine ⟨RetR.agg rfl (.head _) ag_26 rfl (.cons (by first | exact CellD.nil | exact CellD.d | exact CellD.eq (by simp) | (refine CellD.own (by first | exact .head _ | exact .tail _ (.head _)) ?_; rfl)) (.cons (by first | exact CellD.nil | exact CellD.d | exact CellD.eq (by simp) | (refine CellD.own (by first | exact .head _ | exact .tail _ (.head _)) ?_; rfl)) (.cons (by first | exact CellD.nil | exact CellD.d | exact CellD.eq (by simp) | (refine CellD.own (by first | exact .head _ | exact .tail _ (.head _)) ?_; rfl)) .nil))), RetD.eq rfl ?_, trivial⟩
    all_goals (rfl)
  replace h7 := of_decide_eq_false h7
  have h4 : ¬ (day < (tfrFrom v t).day ∨ (tfrFrom v t).gen = 100) := by rw [hfr]; omega
  refine AWP.seq ?_
  refine AWP.draw (by kernel_rfl) (by kernel_rfl) ?_
  refine DRun.step rfl rfl rfl (AOp.loadPU rfl ag_26 rfl (.tail _ (.head _)) rfl rfl) ?_
  refine DRun.step rfl rfl rfl (AOp.fieldAddr rfl fo_35_2 rfl) ?_
  refine DRun.step rfl rfl rfl (AOp.load rfl sc_9 rfl) ?_
  refine DRun.step rfl rfl rfl (AOp.call rfl (.cons (ArgOk.rfl' rfl) (.cons (ArgOk.rfl' rfl) .nil)) (c_used v t.to hoi hoc (by omega))) ?_
  refine DRun.step rfl rfl rfl (AOp.fieldAddrP rfl fo_26_0 rfl) ?_
  refine DRun.step rfl rfl rfl (AOp.loadP rfl sc_22 rfl (.tail _ (.head _)) rfl) ?_
  refine DRun.step rfl rfl rfl (AOp.moveD rfl rfl) ?_
  refine DRun.step rfl rfl rfl (AOp.indexAddr rfl et_22 rfl rfl ki eki (at_list hki) rfl) ?_
  refine DRun.step rfl rfl rfl (AOp.fieldAddr rfl fo_62_1 rfl) ?_
  refine DRun.step rfl rfl rfl (AOp.load rfl sc_3 rfl) ?_
  refine DRun.step rfl rfl rfl (AOp.add64 rfl rfl rfl (by omega) (by omega)) ?_
  refine DRun.step rfl rfl rfl (AOp.fieldAddrP rfl fo_26_1 rfl) ?_
  refine DRun.step rfl rfl rfl (AOp.loadP rfl sc_23 rfl (.tail _ (.head _)) rfl) ?_
  refine DRun.step rfl rfl rfl (AOp.moveD rfl rfl) ?_
  refine DRun.step rfl rfl rfl (AOp.indexAddr rfl et_23 rfl rfl kt ekt (at_list hkt) rfl) ?_
  refine DRun.step rfl rfl rfl (AOp.fieldAddr rfl fo_59_4 rfl) ?_
  refine DRun.step rfl rfl rfl (AOp.load rfl sc_3 rfl) ?_
  refine DRun.step rfl rfl rfl (AOp.gtr rfl rfl rfl) ?_
  refine DRun.step rfl rfl rfl (AOp.assignD rfl rfl) ?_
  refine DRun.nil ?_
  refine AWP.cond rfl (fun h8 => ?_) (fun h8 => ?_)
  · replace h8 := of_decide_eq_true h8
    have HF : tfrFault v t day = 2 := tfr_2 h1 h2 h3 h4 (by rw [hcr, hib]; omega)
    rw [madeV_bad HF (by decide), HF]
    refine AWP.seq (AWP.region ?_)
    refine AOps.step rfl rfl rfl (AOp.loadPU rfl ag_26 rfl (.tail _ (.head _)) rfl rfl) ?_
    refine AOps.store rfl rfl rfl sz_26 rfl (.head _) rfl rfl rfl (Nat.le_of_ble_eq_true rfl) ?_
    refine AOps.aD rfl rfl rfl rfl rfl (.nil ?_)
    refine AWP.ret ?_
    refine ⟨RetR.agg rfl (.head _) ag_26 rfl (.cons (by first | exact CellD.nil | exact CellD.d | exact CellD.eq (by simp) | (refine CellD.own (by first | exact .head _ | exact .tail _ (.head _)) ?_; rfl)) (.cons (by first | exact CellD.nil | exact CellD.d | exact CellD.eq (by simp) | (refine CellD.own (by first | exact .head _ | exact .tail _ (.head _)) ?_; rfl)) (.cons (by first | exact CellD.nil | exact CellD.d | exact CellD.eq (by simp) | (refine CellD.own (by first | exact .head _ | exact .tail _ (.head _)) ?_; rfl)) .nil))), RetD.eq rfl ?_, trivial⟩
    all_goals (rfl)
  replace h8 := of_decide_eq_false h8
  have HF : tfrFault v t day = 0 := tfr_0 h1 h2 h3 h4 (by rw [hcr, hib]; omega)
  rw [madeV_ok HF, HF]
  refine AWP.skip ?_
  refine AWP.seq ?_
  refine AWP.drawFresh 17 [⟨11, 13, .ptr 13 0, .cells [.d (.v (.string ⟨#[]⟩)), .d (.v (.string ⟨#[]⟩)), .d (.v (.string ⟨#[]⟩)), .d (.v (.int .i64 0)), .d (.v (.int .i64 0)), .d (.v (.int .i64 0)), .d (.v (.slice none 0 0))]⟩] (FrOk.one rfl (by simp) rfl rfl rfl) (by kernel_rfl) (by kernel_rfl) (by kernel_rfl) (by kernel_rfl) ?_
  refine XRun.step rfl rfl rfl (AOp.fieldAddr rfl fo_35_0 rfl) ?_
  refine XRun.step rfl rfl rfl (AOp.load rfl sc_9 rfl) ?_
  refine XRun.step rfl rfl rfl (AOp.fieldAddr rfl fo_35_2 rfl) ?_
  refine XRun.step rfl rfl rfl (AOp.load rfl sc_9 rfl) ?_
  refine XRun.step rfl rfl rfl (AOp.fieldAddr rfl fo_35_1 rfl) ?_
  refine XRun.step rfl rfl rfl (AOp.load rfl sc_9 rfl) ?_
  refine XRun.step rfl rfl rfl (AOp.moveD rfl rfl) ?_
  refine XRun.step rfl rfl rfl (AOp.moveD rfl rfl) ?_
  refine XRun.step rfl rfl rfl (AOp.fieldAddrP rfl fo_26_2 rfl) ?_
  refine XRun.step rfl rfl rfl (AOp.loadP rfl sc_24 rfl (.tail _ (.head _)) rfl) ?_
  refine XRun.step rfl rfl rfl (AOp.moveD rfl rfl) ?_
  refine XRun.step rfl rfl rfl (AOp.indexAddr rfl et_24 rfl rfl kf ekf (at_list hkf) rfl) ?_
  refine XRun.step rfl rfl rfl (AOp.fieldAddr rfl fo_65_5 rfl) ?_
  refine XRun.step rfl rfl rfl (AOp.load rfl sc_3 rfl) ?_
  refine XRun.step rfl rfl rfl (AOp.add64 rfl rfl rfl (by omega) (by omega)) ?_
  refine XRun.step rfl rfl rfl (AOp.build rfl bu_65 (.cons rfl rfl (.cons rfl rfl (.cons rfl rfl (.cons rfl rfl (.cons rfl rfl (.cons rfl rfl .nil)))))) rfl) ?_
  refine XRun.alloc _ (.head _) rfl rfl rfl rfl rfl zt_65 rfl rfl rfl rfl ?_
  refine XRun.nil ⟨rfl, trivial⟩ ?_
  refine AOps.store rfl rfl rfl sz_65 rfl (.head _) rfl rfl rfl (Nat.le_of_ble_eq_true rfl) (.nil ?_)
  refine AWP.seq ?_
  rw [← hfr]
  refine AWP.freezeCells 11 (ds := newD v t day) rfl (.head _) ?_
  refine AWP.le 11 (s' := .d (.fp (tfrNew v t day).ds)) rfl (SLe.d (Le.fpLast [.v (.string t.item), .v (.string t.to), .v (.string t.frm), .v (.int .i64 day), .v (.int .i64 day), .v (.int .i64 ((tfrFrom v t).gen + 1))])) ?_
  refine AWP.region ?_
  refine AOps.aD rfl rfl rfl rfl rfl (.nil ?_)
  refine AWP.seq ?_
  refine AWP.block ?_
  refine AWP.loop (G := Nat) (fun k => Env.of [(12, .d (.v (.int .i64 (k : Int)))), (3, .ptr 90 0), (6, .ptr 12 0), (11, .d (.fp (tfrNew v t day).ds))]) (fun k => [(12, .cells [.d (.v (.slice none 0 0)), .d (.v (.slice none 0 0)), .d (.v (.slice none 0 0))]), (90, .cells [.d (.sl (v.items.map Item.ds)), .d (.sl (v.carrs.map Carr.ds)), .d (.sl (v.copies.map Cpy.ds))])]) (fun k => k ≤ (posC v.copies (keyC t.item t.to))) (fun k => (posC v.copies (keyC t.item t.to)) - k) 0 (Nat.zero_le _) (Sub.less ⟨(SLe.of_eq rfl), SLe.refl _, SLe.refl _, SLe.refl _, trivial⟩ (fun p hp => hp)) ?_
  intro k hk
  refine AWP.seq ?_
  refine AWP.seq ?_
  refine AWP.draw (by kernel_rfl) (by kernel_rfl) ?_
  refine DRun.step rfl rfl rfl (AOp.moveD rfl rfl) ?_
  refine DRun.step rfl rfl rfl (AOp.fieldAddrP rfl fo_26_2 rfl) ?_
  refine DRun.step rfl rfl rfl (AOp.loadP rfl sc_24 rfl (.tail _ (.head _)) rfl) ?_
  refine DRun.step rfl rfl rfl (AOp.lenSl rfl et_24.ht rfl) ?_
  refine DRun.step rfl rfl rfl (AOp.lss rfl rfl rfl) ?_
  refine DRun.step rfl rfl rfl (AOp.moveD rfl rfl) ?_
  refine DRun.split 118 rfl (fun g9 => ?_) (fun g9 => ?_)
  · replace g9 := of_decide_eq_true g9
    rw [List.length_map] at g9
    have hlt : k < v.copies.length := by omega
    refine DRun.step ⟨118, rfl, .inl ⟨_, rfl, rfl⟩⟩ rfl rfl (AOp.fieldAddrP rfl fo_26_2 rfl) ?_
    refine DRun.step ⟨118, rfl, .inl ⟨_, rfl, rfl⟩⟩ rfl rfl (AOp.loadP rfl sc_24 rfl (.tail _ (.head _)) rfl) ?_
    refine DRun.step ⟨118, rfl, .inl ⟨_, rfl, rfl⟩⟩ rfl rfl (AOp.moveD rfl rfl) ?_
    refine DRun.step ⟨118, rfl, .inl ⟨_, rfl, rfl⟩⟩ rfl rfl (AOp.indexAddr rfl et_24 rfl rfl k rfl (at_list hlt) rfl) ?_
    refine DRun.step ⟨118, rfl, .inl ⟨_, rfl, rfl⟩⟩ rfl rfl (AOp.loadAgg rfl ag_65 rfl rfl) ?_
    refine DRun.step ⟨118, rfl, .inl ⟨_, rfl, rfl⟩⟩ rfl rfl (AOp.loadAgg rfl ag_65 rfl rfl) ?_
    refine DRun.step ⟨118, rfl, .inl ⟨_, rfl, rfl⟩⟩ rfl rfl (AOp.call rfl (.cons (ArgOk.rfl' rfl) (.cons (ArgOk.rfl' rfl) .nil)) (c_order v.copies[k] (tfrNew v t day))) ?_
    refine DRun.step ⟨118, rfl, .inl ⟨_, rfl, rfl⟩⟩ rfl rfl (AOp.lss rfl rfl rfl) ?_
    refine DRun.step rfl rfl rfl (AOp.pickT rfl rfl rfl) ?_
    refine DRun.nil ?_
    refine AWP.cond rfl (fun h10 => ?_) (fun h10 => ?_)
    · replace h10 := of_decide_eq_true h10
      have hkp : k < (posC v.copies (keyC t.item t.to)) := Nat.lt_of_not_le fun hh => (pos_spec ts.ord (keyC t.item t.to)).2 k hlt hh (by rw [cmp_key (it := t.item) (ca := t.to) (c := (tfrNew v t day)) _ rfl rfl]; exact h10)
      refine AWP.skip ?_
      refine AWP.block ?_
      refine AWP.region ?_
      refine AOps.mD rfl rfl rfl rfl rfl ?_
      refine AOps.step rfl rfl rfl (AOp.add64 rfl rfl rfl (by omega) (by omega)) ?_
      refine AOps.aD rfl rfl rfl rfl rfl (.nil ?_)
      refine ⟨k + 1, (by omega), (by dsimp only; omega), Sub.less ⟨(SLe.of_eq rfl), SLe.refl _, SLe.refl _, SLe.refl _, trivial⟩ (fun p hp => hp)⟩
    replace h10 := of_decide_eq_false h10
    have hke : k = (posC v.copies (keyC t.item t.to)) := by
      refine Nat.le_antisymm hk (Nat.le_of_not_lt fun hh => h10 ?_)
      have := (pos_spec ts.ord (keyC t.item t.to)).1 k hlt hh
      rwa [cmp_key (it := t.item) (ca := t.to) (c := (tfrNew v t day)) _ rfl rfl] at this
    subst hke
    refine AWP.exit ?_
    refine AWP.seq ?_
    refine AWP.drawFresh 6 [⟨132, 15, .own 15, .row 65 7 (v.copies.map Cpy.ds)⟩, ⟨135, 14, .own 14, .row 65 7 [(tfrNew v t day).ds]⟩] (FrOk.two rfl (by simp) rfl rfl rfl rfl (by simp) rfl rfl rfl (Nat.ne_of_beq_eq_false rfl) (Nat.ne_of_beq_eq_false rfl) rfl rfl rfl rfl) (by kernel_rfl) (by kernel_rfl) (by kernel_rfl) (by kernel_rfl) ?_
    refine XRun.step rfl rfl rfl (AOp.fieldAddrP rfl hfo_v2r rfl) ?_
    refine XRun.step rfl rfl rfl (AOp.loadP rfl hsc_24r rfl (.tail _ (.head _)) rfl) ?_
    refine XRun.callO _ (.head _) rfl rfl rfl rfl rfl (.cons (ArgOk.rfl' rfl) .nil) (c_clCpy v.copies (by omega)) rfl rfl ?_
    refine XRun.step rfl rfl rfl (AOp.moveD rfl rfl) ?_
    refine XRun.step rfl rfl rfl (AOp.loadAgg rfl hag_cpyR rfl rfl) ?_
    refine XRun.buildS _ (.tail _ (.head _)) rfl rfl rfl rfl rfl et_cpyI rfl rfl rfl rfl rfl rfl ?_
    refine XRun.nil ⟨rfl, rfl, trivial⟩ ?_
    refine AOps.insertC (id := 15) (idx := 14) (k := (posC v.copies (keyC t.item t.to))) [(15, Ob.row 65 7 ((insC v.copies (tfrNew v t day)).map Cpy.ds)), (14, Ob.row 65 7 [(tfrNew v t day).ds]), (12, Ob.cells [.d (.v (.slice none 0 0)), .d (.v (.slice none 0 0)), .d (.v (.slice none 0 0))]), (90, Ob.cells [.d (.sl (v.items.map Item.ds)), .d (.sl (v.carrs.map Carr.ds)), .d (.sl (v.copies.map Cpy.ds))])] rfl rfl rfl rfl rfl rfl (.head _) rfl rfl (by rw [List.length_map]; exact posC_le _ _) rfl (.tail _ (.head _)) (by decide) (by rw [List.length_map]; omega) (fun p hp => ?_) ?_
    · rcases List.mem_cons.1 hp with rfl | hp
      · exact .inl (by rw [insC_ds]; rfl)
      refine .inr ⟨p, .tail _ hp, ?_, ?_⟩
      · rcases List.mem_cons.1 hp with rfl | hp
        · exact (by decide : (14 : Nat) ≠ 15)
        rcases List.mem_cons.1 hp with rfl | hp
        · exact (by decide : (12 : Nat) ≠ 15)
        obtain rfl := List.mem_singleton.1 hp; exact (by decide : (90 : Nat) ≠ 15)
      rcases List.mem_cons.1 hp with rfl | hp
      · rfl
      rcases List.mem_cons.1 hp with rfl | hp
      · rfl
      obtain rfl := List.mem_singleton.1 hp; rfl
    refine AOps.step rfl rfl rfl (AOp.fieldAddrP rfl hfo_v2r rfl) ?_
    refine AOps.storeS rfl rfl rfl hsz_24r rfl (.tail _ (.tail _ (.tail _ (.head _)))) rfl (.head _) (Nat.le_of_ble_eq_true rfl) (.nil ?_)
    refine AWP.seq ?_
    refine AWP.freezeIn 90 2 rfl (.tail _ (.tail _ (.head _))) (.head _) ?_
    refine AWP.region ?_
    refine AOps.step rfl rfl rfl (AOp.loadPU rfl ag_26 rfl (.tail _ (.tail _ (.head _))) rfl rfl) ?_
    refine AOps.store rfl rfl rfl sz_26 rfl (.tail _ (.head _)) rfl rfl rfl (Nat.le_of_ble_eq_true rfl) ?_
    refine AOps.aD rfl rfl rfl rfl rfl (.nil ?_)
    refine AWP.ret ?_
    refine ⟨RetR.agg rfl (.tail _ (.head _)) ag_26 rfl (.cons (by first | exact CellD.nil | exact CellD.d | exact CellD.eq (by simp) | (refine CellD.own (by first | exact .head _ | exact .tail _ (.head _)) ?_; rfl)) (.cons (by first | exact CellD.nil | exact CellD.d | exact CellD.eq (by simp) | (refine CellD.own (by first | exact .head _ | exact .tail _ (.head _)) ?_; rfl)) (.cons (by first | exact CellD.nil | exact CellD.d | exact CellD.eq (by simp) | (refine CellD.own (by first | exact .head _ | exact .tail _ (.head _)) ?_; rfl)) .nil))), RetD.eq rfl ?_, trivial⟩
    all_goals (rfl)
  replace g9 := of_decide_eq_false g9
  rw [List.length_map] at g9
  have hke : k = (posC v.copies (keyC t.item t.to)) := by have := posC_le v.copies (keyC t.item t.to); omega
  subst hke
  refine DRun.pass ⟨118, rfl, .inl ⟨_, rfl, rfl⟩⟩ rfl rfl ?_
  refine DRun.pass ⟨118, rfl, .inl ⟨_, rfl, rfl⟩⟩ rfl rfl ?_
  refine DRun.pass ⟨118, rfl, .inl ⟨_, rfl, rfl⟩⟩ rfl rfl ?_
  refine DRun.pass ⟨118, rfl, .inl ⟨_, rfl, rfl⟩⟩ rfl rfl ?_
  refine DRun.pass ⟨118, rfl, .inl ⟨_, rfl, rfl⟩⟩ rfl rfl ?_
  refine DRun.pass ⟨118, rfl, .inl ⟨_, rfl, rfl⟩⟩ rfl rfl ?_
  refine DRun.pass ⟨118, rfl, .inl ⟨_, rfl, rfl⟩⟩ rfl rfl ?_
  refine DRun.pass ⟨118, rfl, .inl ⟨_, rfl, rfl⟩⟩ rfl rfl ?_
  refine DRun.step rfl rfl rfl (AOp.pickF rfl rfl rfl) ?_
  refine DRun.nil ?_
  refine AWP.cond rfl (fun h => nomatch h) (fun _ => ?_)
  refine AWP.exit ?_
  refine AWP.seq ?_
  refine AWP.drawFresh 6 [⟨132, 15, .own 15, .row 65 7 (v.copies.map Cpy.ds)⟩, ⟨135, 14, .own 14, .row 65 7 [(tfrNew v t day).ds]⟩] (FrOk.two rfl (by simp) rfl rfl rfl rfl (by simp) rfl rfl rfl (Nat.ne_of_beq_eq_false rfl) (Nat.ne_of_beq_eq_false rfl) rfl rfl rfl rfl) (by kernel_rfl) (by kernel_rfl) (by kernel_rfl) (by kernel_rfl) ?_
  refine XRun.step rfl rfl rfl (AOp.fieldAddrP rfl hfo_v2r rfl) ?_
  refine XRun.step rfl rfl rfl (AOp.loadP rfl hsc_24r rfl (.tail _ (.head _)) rfl) ?_
  refine XRun.callO _ (.head _) rfl rfl rfl rfl rfl (.cons (ArgOk.rfl' rfl) .nil) (c_clCpy v.copies (by omega)) rfl rfl ?_
  refine XRun.step rfl rfl rfl (AOp.moveD rfl rfl) ?_
  refine XRun.step rfl rfl rfl (AOp.loadAgg rfl hag_cpyR rfl rfl) ?_
  refine XRun.buildS _ (.tail _ (.head _)) rfl rfl rfl rfl rfl et_cpyI rfl rfl rfl rfl rfl rfl ?_
  refine XRun.nil ⟨rfl, rfl, trivial⟩ ?_
  refine AOps.insertC (id := 15) (idx := 14) (k := (posC v.copies (keyC t.item t.to))) [(15, Ob.row 65 7 ((insC v.copies (tfrNew v t day)).map Cpy.ds)), (14, Ob.row 65 7 [(tfrNew v t day).ds]), (12, Ob.cells [.d (.v (.slice none 0 0)), .d (.v (.slice none 0 0)), .d (.v (.slice none 0 0))]), (90, Ob.cells [.d (.sl (v.items.map Item.ds)), .d (.sl (v.carrs.map Carr.ds)), .d (.sl (v.copies.map Cpy.ds))])] rfl rfl rfl rfl rfl rfl (.head _) rfl rfl (by rw [List.length_map]; exact posC_le _ _) rfl (.tail _ (.head _)) (by decide) (by rw [List.length_map]; omega) (fun p hp => ?_) ?_
  · rcases List.mem_cons.1 hp with rfl | hp
    · exact .inl (by rw [insC_ds]; rfl)
    refine .inr ⟨p, .tail _ hp, ?_, ?_⟩
    · rcases List.mem_cons.1 hp with rfl | hp
      · exact (by decide : (14 : Nat) ≠ 15)
      rcases List.mem_cons.1 hp with rfl | hp
      · exact (by decide : (12 : Nat) ≠ 15)
      obtain rfl := List.mem_singleton.1 hp; exact (by decide : (90 : Nat) ≠ 15)
    rcases List.mem_cons.1 hp with rfl | hp
    · rfl
    rcases List.mem_cons.1 hp with rfl | hp
    · rfl
    obtain rfl := List.mem_singleton.1 hp; rfl
  refine AOps.step rfl rfl rfl (AOp.fieldAddrP rfl hfo_v2r rfl) ?_
  refine AOps.storeS rfl rfl rfl hsz_24r rfl (.tail _ (.tail _ (.tail _ (.head _)))) rfl (.head _) (Nat.le_of_ble_eq_true rfl) (.nil ?_)
  refine AWP.seq ?_
  refine AWP.freezeIn 90 2 rfl (.tail _ (.tail _ (.head _))) (.head _) ?_
  refine AWP.region ?_
  refine AOps.step rfl rfl rfl (AOp.loadPU rfl ag_26 rfl (.tail _ (.tail _ (.head _))) rfl rfl) ?_
  refine AOps.store rfl rfl rfl sz_26 rfl (.tail _ (.head _)) rfl rfl rfl (Nat.le_of_ble_eq_true rfl) ?_
  refine AOps.aD rfl rfl rfl rfl rfl (.nil ?_)
  refine AWP.ret ?_
  refine ⟨RetR.agg rfl (.tail _ (.head _)) ag_26 rfl (.cons (by first | exact CellD.nil | exact CellD.d | exact CellD.eq (by simp) | (refine CellD.own (by first | exact .head _ | exact .tail _ (.head _)) ?_; rfl)) (.cons (by first | exact CellD.nil | exact CellD.d | exact CellD.eq (by simp) | (refine CellD.own (by first | exact .head _ | exact .tail _ (.head _)) ?_; rfl)) (.cons (by first | exact CellD.nil | exact CellD.d | exact CellD.eq (by simp) | (refine CellD.own (by first | exact .head _ | exact .tail _ (.head _)) ?_; rfl)) .nil))), RetD.eq rfl ?_, trivial⟩
  all_goals (rfl)

end Go.Proofs.YtieccphckobhjaaGreatDoor


namespace Go.Proofs.YtieccphckobhjaaGreatDoor
open Go.RowKit
set_option linter.unusedVariables false

/-! Types. -/
namespace TyW19
theorem ag_26 : AggT Tryz.prog 26 3 := .of (by kernel_rfl)
theorem ag_35 : AggT Tryz.prog 35 3 := .of (by kernel_rfl)
theorem bu_26 : StructT Tryz.prog 26 (fun i => (#[(0, 1), (1, 1), (2, 1)] : Array (Nat × Nat))[i]?) [(.slice none 0 0), (.slice none 0 0), (.slice none 0 0)] := .of (by kernel_rfl) (by kernel_rfl) (by decide)
theorem et_24 : ElemTy Tryz.prog 24 65 7 96 (.agg #[(.string ⟨#[]⟩), (.string ⟨#[]⟩), (.string ⟨#[]⟩), (.int .i64 0), (.int .i64 0), (.int .i64 0), (.slice none 0 0)]) := ⟨by kernel_rfl, by kernel_rfl, by kernel_rfl, by decide⟩
theorem et_29 : ElemTy Tryz.prog 29 35 3 48 (.agg #[(.string ⟨#[]⟩), (.string ⟨#[]⟩), (.string ⟨#[]⟩)]) := ⟨by kernel_rfl, by kernel_rfl, by kernel_rfl, by decide⟩
theorem fo_26_2 : fieldOff Tryz.prog 26 2 = some 2 := by kernel_rfl
theorem sc_24 : Scal Tryz.prog 24 := .of (by kernel_rfl)
theorem sz_26 : ∀ w, (sizeOf 26).run Tryz.prog w = .ok 3 w := SizeT.of (by kernel_rfl)
theorem sz_35 : ∀ w, (sizeOf 35).run Tryz.prog w = .ok 3 w := SizeT.of (by kernel_rfl)
theorem zt_26 : (Tryz.prog.info? 26).bind (·.zero) = some (.agg #[(.slice none 0 0), (.slice none 0 0), (.slice none 0 0)]) := by kernel_rfl
theorem zt_35 : (Tryz.prog.info? 35).bind (·.zero) = some (.agg #[(.string ⟨#[]⟩), (.string ⟨#[]⟩), (.string ⟨#[]⟩)]) := by kernel_rfl
end TyW19
open TyW19


theorem apply_bad {v : Vlt} {ts : List Tfr} {day c : Int} (h : applyFault v ts day = c) (hc : c ≠ 0) : applyV v ts day = ⟨[], [], []⟩ := if_neg (by rw [h]; exact hc)
theorem apply_1 {v : Vlt} {ts : List Tfr} {day : Int} (h : checkV v ≠ 0) : applyFault v ts day = checkV v := if_pos h
theorem apply_2 {v : Vlt} {ts : List Tfr} {day : Int} (h : checkV v = 0) (h2 : ¬ (0 ≤ day ∧ day ≤ 200000)) : applyFault v ts day = 1 := (if_neg (fun hh => hh h)).trans (if_pos h2)
theorem apply_3 {v : Vlt} {ts : List Tfr} {day : Int} (h : checkV v = 0) (h2 : 0 ≤ day ∧ day ≤ 200000) {k : Nat} {l : List Cpy} (hg : ApS v ts day (k, l)) (hk : k < ts.length) (hf : tfrFault (withC v l) ts[k] day ≠ 0) : applyFault v ts day = tfrFault (withC v l) ts[k] day := by
  unfold applyFault
  rw [if_neg (fun hh => hh h), if_neg (fun hh => hh h2), hg.stop hk hf, if_pos hf]
theorem apply_4 {v : Vlt} {ts : List Tfr} {day : Int} (h : checkV v = 0) (h2 : 0 ≤ day ∧ day ≤ 200000) {l : List Cpy} (hg : ApS v ts day (ts.length, l)) (h3 : 200 < l.length) : applyFault v ts day = 2 := by
  unfold applyFault
  rw [if_neg (fun hh => hh h), if_neg (fun hh => hh h2), hg.all, if_neg (fun hh => hh rfl), if_pos h3]
theorem apply_5 {v : Vlt} {ts : List Tfr} {day : Int} (h : checkV v = 0) (h2 : 0 ≤ day ∧ day ≤ 200000) {l : List Cpy} (hg : ApS v ts day (ts.length, l)) (h3 : ¬ 200 < l.length) : applyFault v ts day = 0 ∧ applyV v ts day = withC v l := by
  have h0 : applyFault v ts day = 0 := by
    unfold applyFault
    rw [if_neg (fun hh => hh h), if_neg (fun hh => hh h2), hg.all, if_neg (fun hh => hh rfl), if_neg h3]
  refine ⟨h0, ?_⟩
  unfold applyV
  rw [if_pos h0, hg.all]
theorem ApS.start {v : Vlt} (vo : VOk v) (ts : List Tfr) (day : Int) : ApS v ts day (0, v.copies) := ⟨Nat.zero_le _, TS.of vo, rfl⟩
theorem TS.at {v : Vlt} {l : List Cpy} (h : TS v l) : TS (withC v l) (withC v l).copies := ⟨h.ord, h.it, h.ca, h.gen⟩
theorem cells_two {i j : Nat} {a b : List S} {x : Ob} (h : a = b) : ∀ p ∈ [(j, x), (i, Ob.cells b)], p ∈ [(j, x), (i, Ob.cells a)] := fun p hp => h ▸ hp


set_option maxRecDepth 100000 in
set_option maxHeartbeats 4000000 in
theorem c_rApply (v : Vlt) (ts : List Tfr) (day : Int) (hs : smallV v) : ACall Tryz.prog 10 [.agg v.ds, .sl (ts.map Tfr.ds), .v (.int .i64 day)] (.tup [.agg (applyV v ts day).ds, .v (.int .i64 (applyFault v ts day))]) := by
  refine acall_ofR (n := 48) (ds' := [.agg (applyV v ts day).ds, .v (.int .i64 (applyFault v ts day))]) Tryz.func10 rfl (by kernel_rfl) rfl [.cell 6 26, .tmp 7] rfl rfl ?_
  intro B w0 F0 fr
  refine AWP.bound 1 rfl (fun hbd1 => ?_)
  rw [List.length_map] at hbd1
  refine AWP.seq (AWP.region ?_)
  refine AOps.boxOwn 90 rfl rfl rfl rfl rfl rfl rfl ?_
  refine AOps.alloc 12 rfl rfl rfl rfl zt_26 rfl rfl rfl ?_
  refine AOps.aD rfl rfl rfl rfl rfl (.nil ?_)
  refine AWP.seq ?_
  refine AWP.seq (AWP.region ?_)
  refine AOps.step rfl rfl rfl (AOp.loadPU rfl ag_26 rfl (.tail _ (.head _)) rfl rfl) ?_
  refine AOps.step rfl rfl rfl (AOp.call rfl (.cons (ArgOk.rfl' rfl) .nil) (c_rCheck v hs)) ?_
  refine AOps.aD rfl rfl rfl rfl rfl (.nil ?_)
  refine AWP.seq (AWP.region ?_)
  refine AOps.mD rfl rfl rfl rfl rfl ?_
  refine AOps.step rfl rfl rfl (AOp.neq rfl rfl rfl) (.nil ?_)
  refine AWP.cond rfl (fun h1 => ?_) (fun h1 => ?_)
  · replace h1 := of_decide_eq_true h1
    have HF : applyFault v ts day = checkV v := apply_1 h1
    rw [apply_bad HF (by first | assumption | decide), HF]
    refine AWP.seq (AWP.region ?_)
    refine AOps.step rfl rfl rfl (AOp.build rfl bu_26 .nil rfl) ?_
    refine AOps.mD rfl rfl rfl rfl rfl ?_
    refine AOps.store rfl rfl rfl sz_26 rfl (.head _) rfl rfl rfl (Nat.le_of_ble_eq_true rfl) ?_
    refine AOps.aD rfl rfl rfl rfl rfl (.nil ?_)
    refine AWP.ret ?_
    refine ⟨RetR.agg rfl (.head _) ag_26 rfl (.cons (by first | exact CellD.nil | exact CellD.d | exact CellD.eq (by simp) | (refine CellD.own (by first | exact .head _ | exact .tail _ (.head _)) ?_; rfl)) (.cons (by first | exact CellD.nil | exact CellD.d | exact CellD.eq (by simp) | (refine CellD.own (by first | exact .head _ | exact .tail _ (.head _)) ?_; rfl)) (.cons (by first | exact CellD.nil | exact CellD.d | exact CellD.eq (by simp) | (refine CellD.own (by first | exact .head _ | exact .tail _ (.head _)) ?_; rfl)) .nil))), RetD.eq rfl ?_, trivial⟩
    all_goals (rfl)
  replace h1 := of_decide_eq_false h1
  have hck := Decidable.not_not.1 h1
  have vo := vok_of hck
  have hoi := okItems_of vo.items
  refine AWP.skip ?_
  refine AWP.seq ?_
  refine AWP.seq (AWP.region ?_)
  refine AOps.mD rfl rfl rfl rfl rfl ?_
  refine AOps.step rfl rfl rfl (AOp.call rfl (.cons (ArgOk.rfl' rfl) .nil) (c_rDay _)) ?_
  refine AOps.step rfl rfl rfl (AOp.not rfl rfl) (.nil ?_)
  refine AWP.cond rfl (fun h2 => ?_) (fun h2 => ?_)
  · replace h2 := bnot_t h2; replace h2 := of_decide_eq_false h2
    have HF : applyFault v ts day = 1 := apply_2 hck h2
    rw [apply_bad HF (by first | assumption | decide), HF]
    refine AWP.seq (AWP.region ?_)
    refine AOps.step rfl rfl rfl (AOp.build rfl bu_26 .nil rfl) ?_
    refine AOps.store rfl rfl rfl sz_26 rfl (.head _) rfl rfl rfl (Nat.le_of_ble_eq_true rfl) ?_
    refine AOps.aD rfl rfl rfl rfl rfl (.nil ?_)
    refine AWP.ret ?_
    refine ⟨RetR.agg rfl (.head _) ag_26 rfl (.cons (by first | exact CellD.nil | exact CellD.d | exact CellD.eq (by simp) | (refine CellD.own (by first | exact .head _ | exact .tail _ (.head _)) ?_; rfl)) (.cons (by first | exact CellD.nil | exact CellD.d | exact CellD.eq (by simp) | (refine CellD.own (by first | exact .head _ | exact .tail _ (.head _)) ?_; rfl)) (.cons (by first | exact CellD.nil | exact CellD.d | exact CellD.eq (by simp) | (refine CellD.own (by first | exact .head _ | exact .tail _ (.head _)) ?_; rfl)) .nil))), RetD.eq rfl ?_, trivial⟩
    all_goals (rfl)
  replace h2 := bnot_f h2; replace h2 := of_decide_eq_true h2
  have hd := h2
  refine AWP.skip ?_
  refine AWP.seq ?_
  refine AWP.seq (AWP.region ?_)
  refine AOps.mD rfl rfl rfl rfl rfl ?_
  refine AOps.step rfl rfl rfl (AOp.lenSl rfl et_29.ht rfl) ?_
  refine AOps.mD rfl rfl rfl rfl rfl (.nil ?_)
  refine AWP.block ?_
  refine AWP.loop (G := Nat × List Cpy) (fun g => Env.of [(25, .d (.v (.int .i64 (g.1 : Int)))), (23, .d (.sl (ts.map Tfr.ds))), (24, .d (.v (.int .i64 ((ts.map Tfr.ds).length : Int)))), (3, .ptr 90 0), (6, .ptr 12 0), (2, .d (.v (.int .i64 day)))]) (fun g => [(12, .cells [.d (.v (.slice none 0 0)), .d (.v (.slice none 0 0)), .d (.v (.slice none 0 0))]), (90, .cells [.d (.sl (v.items.map Item.ds)), .d (.sl (v.carrs.map Carr.ds)), .d (.sl (g.2.map Cpy.ds))])]) (fun g => ApS v ts day g) (fun g => ts.length - g.1) (0, v.copies) (ApS.start vo ts day) (Sub.less ⟨(SLe.of_eq rfl), SLe.refl _, SLe.refl _, SLe.refl _, SLe.refl _, SLe.refl _, trivial⟩ (cells_two rfl)) ?_
  rintro ⟨k, l⟩ hg
  dsimp only
  refine AWP.seq (AWP.region ?_)
  refine AOps.step rfl rfl rfl (AOp.lss rfl rfl rfl) (.nil ?_)
  refine AWP.seq ?_
  refine AWP.cond rfl (fun h3 => ?_) (fun h3 => ?_)
  · replace h3 := of_decide_eq_true h3
    rw [List.length_map] at h3
    have hk : k < ts.length := by omega
    have hll : l.length ≤ 480 := hg.2.1.len vo.ni vo.nc
    refine AWP.skip ?_
    refine AWP.seq ?_
    refine AWP.block ?_
    refine AWP.seq (AWP.region ?_)
    refine AOps.step rfl rfl rfl (AOp.indexAddr rfl et_29 rfl rfl k rfl (at_list hk) rfl) ?_
    refine AOps.step rfl rfl rfl (AOp.loadAgg rfl ag_35 rfl rfl) ?_
    refine AOps.alloc 13 rfl rfl rfl rfl zt_35 rfl rfl rfl ?_
    refine AOps.store rfl rfl rfl sz_35 rfl (.head _) rfl rfl rfl (Nat.le_of_ble_eq_true rfl) ?_
    refine AOps.freezeCells 10 (ds := ts[k].ds) rfl (.head _) (.nil ?_)
    refine AWP.seq (AWP.region ?_)
    refine AOps.step rfl rfl rfl (AOp.loadPU rfl ag_26 rfl (.tail _ (.head _)) rfl rfl) ?_
    refine AOps.step rfl rfl rfl (AOp.loadAgg rfl ag_35 rfl rfl) ?_
    refine AOps.mD rfl rfl rfl rfl rfl ?_
    refine AOps.step rfl rfl rfl (AOp.call rfl (.cons (ArgOk.rfl' rfl) (.cons (ArgOk.rfl' rfl) (.cons (ArgOk.rfl' rfl) .nil))) (c_made (withC v l) ts[k] day hoi hg.2.1.at hll (fun x hx => (vo.carr hx).2.2.2))) ?_
    refine AOps.mD rfl rfl rfl rfl rfl ?_
    refine AOps.step rfl rfl rfl (AOp.extract rfl rfl rfl) ?_
    refine AOps.step rfl rfl rfl (AOp.extract rfl rfl rfl) ?_
    refine AOps.alloc 14 rfl rfl rfl rfl zt_26 rfl rfl rfl ?_
    refine AOps.store rfl rfl rfl sz_26 rfl (.head _) rfl rfl rfl (Nat.le_of_ble_eq_true rfl) ?_
    refine AOps.freezeCells 11 (ds := (madeV (withC v l) ts[k] day).ds) rfl (.head _) ?_
    refine AOps.aD rfl rfl rfl rfl rfl (.nil ?_)
    refine AWP.seq ?_
    refine AWP.seq (AWP.region ?_)
    refine AOps.mD rfl rfl rfl rfl rfl ?_
    refine AOps.step rfl rfl rfl (AOp.neq rfl rfl rfl) (.nil ?_)
    refine AWP.cond rfl (fun h4 => ?_) (fun h4 => ?_)
    · replace h4 := of_decide_eq_true h4
      have HF : applyFault v ts day = tfrFault (withC v l) ts[k] day := apply_3 hck hd hg hk h4
      rw [apply_bad HF (by first | assumption | decide), HF]
      refine AWP.seq (AWP.region ?_)
      refine AOps.step rfl rfl rfl (AOp.build rfl bu_26 .nil rfl) ?_
      refine AOps.mD rfl rfl rfl rfl rfl ?_
      refine AOps.store rfl rfl rfl sz_26 rfl (.head _) rfl rfl rfl (Nat.le_of_ble_eq_true rfl) ?_
      refine AOps.aD rfl rfl rfl rfl rfl (.nil ?_)
      refine AWP.ret ?_
      refine ⟨RetR.agg rfl (.head _) ag_26 rfl (.cons (by first | exact CellD.nil | exact CellD.d | exact CellD.eq (by simp) | (refine CellD.own (by first | exact .head _ | exact .tail _ (.head _)) ?_; rfl)) (.cons (by first | exact CellD.nil | exact CellD.d | exact CellD.eq (by simp) | (refine CellD.own (by first | exact .head _ | exact .tail _ (.head _)) ?_; rfl)) (.cons (by first | exact CellD.nil | exact CellD.d | exact CellD.eq (by simp) | (refine CellD.own (by first | exact .head _ | exact .tail _ (.head _)) ?_; rfl)) .nil))), RetD.eq rfl ?_, trivial⟩
      all_goals (rfl)
    replace h4 := of_decide_eq_false h4
    have hf := Decidable.not_not.1 h4
    have HM := madeV_ok hf
    rw [HM]
    refine AWP.skip ?_
    refine AWP.region ?_
    refine AOps.step rfl rfl rfl (AOp.loadAgg rfl ag_26 rfl rfl) ?_
    refine AOps.store rfl rfl rfl sz_26 rfl (.tail _ (.head _)) rfl rfl rfl (Nat.le_of_ble_eq_true rfl) (.nil ?_)
    refine AWP.region ?_
    refine AOps.step rfl rfl rfl (AOp.add64 rfl rfl rfl (by omega) (by omega)) ?_
    refine AOps.mD rfl rfl rfl rfl rfl (.nil ?_)
    refine ⟨(k + 1, tfrC v l ts[k] day), (hg.next hk hf), (by dsimp only; omega), Sub.less ⟨(SLe.of_eq rfl), SLe.refl _, SLe.refl _, SLe.refl _, SLe.refl _, SLe.refl _, trivial⟩ (cells_two rfl)⟩
  replace h3 := of_decide_eq_false h3
  rw [List.length_map] at h3
  obtain rfl : k = ts.length := by have := hg.1; dsimp only at this; omega
  refine AWP.exit ?_
  refine AWP.seq ?_
  refine AWP.seq (AWP.region ?_)
  refine AOps.step rfl rfl rfl (AOp.fieldAddrP rfl fo_26_2 rfl) ?_
  refine AOps.step rfl rfl rfl (AOp.loadP rfl sc_24 rfl (.tail _ (.head _)) rfl) ?_
  refine AOps.step rfl rfl rfl (AOp.lenSl rfl et_24.ht rfl) ?_
  refine AOps.step rfl rfl rfl (AOp.gtr rfl rfl rfl) (.nil ?_)
  refine AWP.cond rfl (fun h5 => ?_) (fun h5 => ?_)
  · replace h5 := of_decide_eq_true h5
    rw [List.length_map] at h5
    have HF : applyFault v ts day = 2 := apply_4 hck hd hg (by omega)
    rw [apply_bad HF (by first | assumption | decide), HF]
    refine AWP.seq (AWP.region ?_)
    refine AOps.step rfl rfl rfl (AOp.build rfl bu_26 .nil rfl) ?_
    refine AOps.store rfl rfl rfl sz_26 rfl (.head _) rfl rfl rfl (Nat.le_of_ble_eq_true rfl) ?_
    refine AOps.aD rfl rfl rfl rfl rfl (.nil ?_)
    refine AWP.ret ?_
    refine ⟨RetR.agg rfl (.head _) ag_26 rfl (.cons (by first | exact CellD.nil | exact CellD.d | exact CellD.eq (by simp) | (refine CellD.own (by first | exact .head _ | exact .tail _ (.head _)) ?_; rfl)) (.cons (by first | exact CellD.nil | exact CellD.d | exact CellD.eq (by simp) | (refine CellD.own (by first | exact .head _ | exact .tail _ (.head _)) ?_; rfl)) (.cons (by first | exact CellD.nil | exact CellD.d | exact CellD.eq (by simp) | (refine CellD.own (by first | exact .head _ | exact .tail _ (.head _)) ?_; rfl)) .nil))), RetD.eq rfl ?_, trivial⟩
    all_goals (rfl)
  replace h5 := of_decide_eq_false h5
  rw [List.length_map] at h5
  obtain ⟨HF, HV⟩ := apply_5 hck hd hg (by omega)
  rw [HF, HV]
  refine AWP.skip ?_
  refine AWP.seq (AWP.region ?_)
  refine AOps.step rfl rfl rfl (AOp.loadPU rfl ag_26 rfl (.tail _ (.head _)) rfl rfl) ?_
  refine AOps.store rfl rfl rfl sz_26 rfl (.head _) rfl rfl rfl (Nat.le_of_ble_eq_true rfl) ?_
  refine AOps.aD rfl rfl rfl rfl rfl (.nil ?_)
  refine AWP.ret ?_
  refine ⟨RetR.agg rfl (.head _) ag_26 rfl (.cons (by first | exact CellD.nil | exact CellD.d | exact CellD.eq (by simp) | (refine CellD.own (by first | exact .head _ | exact .tail _ (.head _)) ?_; rfl)) (.cons (by first | exact CellD.nil | exact CellD.d | exact CellD.eq (by simp) | (refine CellD.own (by first | exact .head _ | exact .tail _ (.head _)) ?_; rfl)) (.cons (by first | exact CellD.nil | exact CellD.d | exact CellD.eq (by simp) | (refine CellD.own (by first | exact .head _ | exact .tail _ (.head _)) ?_; rfl)) .nil))), RetD.eq rfl ?_, trivial⟩
  all_goals (rfl)

end Go.Proofs.YtieccphckobhjaaGreatDoor


namespace Go.Proofs.YtieccphckobhjaaGreatDoor
open Go.RowKit
set_option linter.unusedVariables false
section
variable {cx : Cx} {ops : Array Oper} {Φ : List Fc} {o : Oper} {e : Env} {σ : Obs}
/-- An operation that only reads, in its own place among those that make. -/
theorem GE.pure {s : S} {dst : Nat} (hg : ∀ e : Env, GW ops o e true) (ht : o.dst = some dst) (hdn : Nat.blt dst cx.N = true) (h : AOp cx.P cx.B ops o e σ s) : GE cx ops Φ o e σ [(dst, s)] σ := fun e0 h1 _ _ =>
  AOps.step (hg e0) ht hdn (h.same fun t ht => h1 t ht) (.nil ⟨rfl, rfl⟩)
/-- A struct with own parts, loaded. -/
theorem GE.loadVal {t dst : Nat} {x : Operand} {cid off size : Nat} {ss : List S} {σ' : Obs} (id : Nat) (hΦ : ⟨id, [dst]⟩ ∈ Φ) (hg : o.guard = none) (ht : o.dst = some dst) (hdn : Nat.blt dst cx.N = true) (ho : o.op = .load t x) (hT : AggT cx.P t size) (hx : e.ev x = .ptr cid off) (hm : (cid, Ob.cells ss) ∈ σ) (hl : off + size ≤ ss.length) (hid : Obs.fresh id σ = true)
    (hσ : (id, Ob.val (((ss.drop off).take size).map (S.kill id))) :: Obs.kill id σ = σ') (hfx : cx.free id = true := by rfl) : GE cx ops Φ o e σ [(dst, .own id)] σ' := fun e0 h1 _ h3 => by
  have e1 : e0.ev x = e.ev x := ev_same fun t hxt => h1 t (looks_op (by rw [ho, ← hxt]; simp [Op.operands]))
  have hp : (e0.kill id).put (some dst) (.own id) = Env.puts e0 [(dst, .own id)] := by
    funext t
    show _ = (e0.put (some dst) (.own id)) t
    by_cases h : t = dst
    · subst h; rw [Env.put_same, Env.put_same]
    · rw [Env.put_other _ _ _ _ h, Env.put_other _ _ _ _ h]
      exact h3 _ hΦ t (by simp [h])
  exact AOps.loadVal id hg ht hdn ho hT (e1.trans hx) hm hl hid (.nil ⟨hp, hσ⟩) hfx
theorem cl_1 {a id : Nat} {s : S} {sl : List Nat} (h : sl.contains a = true ∨ s.kill id = s) : ∀ p ∈ [(a, s)], ∀ f ∈ [(⟨id, sl⟩ : Fc)], f.slots.contains p.1 = true ∨ p.2.kill f.id = p.2 := by
  intro p hp f hf
  obtain rfl := List.mem_singleton.1 hf
  obtain rfl := List.mem_singleton.1 hp
  exact h
end
end Go.Proofs.YtieccphckobhjaaGreatDoor


namespace Go.Proofs.YtieccphckobhjaaGreatDoor
open Go.RowKit
set_option linter.unusedVariables false

/-! Types. -/
namespace TyW20
theorem ag_65 : AggT Tryz.prog 65 7 := .of (by kernel_rfl)
theorem et_24 : ElemTy Tryz.prog 24 65 7 96 (.agg #[(.string ⟨#[]⟩), (.string ⟨#[]⟩), (.string ⟨#[]⟩), (.int .i64 0), (.int .i64 0), (.int .i64 0), (.slice none 0 0)]) := ⟨by kernel_rfl, by kernel_rfl, by kernel_rfl, by decide⟩
theorem et_63 : ElemTy Tryz.prog 63 3 1 8 (.int .i64 0) := ⟨by kernel_rfl, by kernel_rfl, by kernel_rfl, by decide⟩
theorem fo_26_2 : fieldOff Tryz.prog 26 2 = some 2 := by kernel_rfl
theorem fo_65_3 : fieldOff Tryz.prog 65 3 = some 3 := by kernel_rfl
theorem fo_65_5 : fieldOff Tryz.prog 65 5 = some 5 := by kernel_rfl
theorem fo_65_6 : fieldOff Tryz.prog 65 6 = some 6 := by kernel_rfl
theorem sc_24 : Scal Tryz.prog 24 := .of (by kernel_rfl)
theorem sc_3 : Scal Tryz.prog 3 := .of (by kernel_rfl)
theorem sc_63 : Scal Tryz.prog 63 := .of (by kernel_rfl)
theorem sz_65 : ∀ w, (sizeOf 65).run Tryz.prog w = .ok 7 w := SizeT.of (by kernel_rfl)
theorem zt_65 : (Tryz.prog.info? 65).bind (·.zero) = some (.agg #[(.string ⟨#[]⟩), (.string ⟨#[]⟩), (.string ⟨#[]⟩), (.int .i64 0), (.int .i64 0), (.int .i64 0), (.slice none 0 0)]) := by kernel_rfl
end TyW20
open TyW20


def vS (v : Vlt) : List S := [.d (.sl (v.items.map Item.ds)), .d (.sl (v.carrs.map Carr.ds)), .own 101]
theorem snap_v {σ : Obs} {v : Vlt} {i : Nat} (h0 : (i, Ob.val (vS v)) ∈ σ) (h1 : (101, Ob.row 65 7 (v.copies.map Cpy.ds)) ∈ σ) : Snap σ (.own i) (.agg v.ds) := by
  refine .val h0 rfl fun j h2 h3 => ?_
  have hj : j < 3 := by simpa [vS] using h2
  match j, hj with
  | 0, _ => exact .d _
  | 1, _ => exact .d _
  | 2, _ => exact .row h1
theorem hfo_t0 : fieldOff Tryz.prog 35 0 = some 0 := by kernel_rfl
theorem hfo_t1 : fieldOff Tryz.prog 35 1 = some 1 := by kernel_rfl
theorem hfo_t2 : fieldOff Tryz.prog 35 2 = some 2 := by kernel_rfl
theorem hfo_v0w : fieldOff Tryz.prog 26 0 = some 0 := by kernel_rfl
theorem hfo_i1 : fieldOff Tryz.prog 62 1 = some 1 := by kernel_rfl
theorem hfo_c5 : fieldOff Tryz.prog 65 5 = some 5 := by kernel_rfl
theorem hsc_its : Scal Tryz.prog 22 := .of (by kernel_rfl)
theorem het_it : ElemTy Tryz.prog 22 62 2 24 (.agg #[(.string ⟨#[]⟩), (.int .i64 0)]) := ⟨by kernel_rfl, by kernel_rfl, by kernel_rfl, by decide⟩



theorem AOp.le {P : Program} {B : Nat} {ops : Array Oper} {o : Oper} {e : Env} {σ : Obs} {s s' : S} (h : AOp P B ops o e σ s) (k : SLe s s') : AOp P B ops o e σ s' := fun F ρ w a hF hr hσ =>
  wp_to (fun a' w' ⟨v, F', h1, h2, h3⟩ => ⟨v, F', h1, k _ _ _ _ h2, h3⟩) (fun _ _ _ => False.elim) (h F ρ w a hF hr hσ)
theorem hsc_crs : Scal Tryz.prog 23 := .of (by kernel_rfl)
theorem bu_cp : StructT Tryz.prog 65 (fun i => (#[(0, 1), (1, 1), (2, 1), (3, 1), (4, 1), (5, 1), (6, 1)] : Array (Nat × Nat))[i]?) [(.string ⟨#[]⟩), (.string ⟨#[]⟩), (.string ⟨#[]⟩), (.int .i64 0), (.int .i64 0), (.int .i64 0), (.slice none 0 0)] := .of (by kernel_rfl) (by kernel_rfl) (by decide)


set_option maxRecDepth 100000 in
set_option maxHeartbeats 8000000 in
theorem c_transfer (v : Vlt) (t : Tfr) (day : Int) (hoi : okItems v) (ts : TS v v.copies) (hl : v.copies.length ≤ 480) (hcr : ∀ x ∈ v.carrs, 0 ≤ x.room ∧ x.room ≤ 1000000) : XCall Tryz.prog 37 [.ptr 200 0, .d (.agg t.ds), .d (.v (.int .i64 day))] [(101, Ob.row 65 7 (v.copies.map Cpy.ds)), (200, Ob.cells (vS v))] [(101, Ob.row 65 7 ((madeV v t day).copies.map Cpy.ds)), (200, Ob.cells (vS v))] (fun i => Nat.beq i 101 || Nat.ble 1000 i) (.v (.int .i64 (tfrFault v t day))) := by
  refine xcall_of (n := 125) (ds' := [.v (.int .i64 (tfrFault v t day))]) Tryz.func37 rfl (by kernel_rfl) rfl [6] rfl rfl ?_
  intro B w0 F0 fr ρ0
  have hoc : okCopies v := fun c hc => ⟨ts.it c hc, ts.ca c hc⟩
  have hub : ∀ n, 0 ≤ usedOn v n ∧ usedOn v n ≤ 1000 * (v.copies.length : Int) := fun n => usedTo_bound hoi _ _
  refine AWP.seq (AWP.region ?_)
  refine AOps.step rfl rfl rfl (AOp.box rfl rfl rfl) ?_
  refine AOps.aD rfl rfl rfl rfl rfl (.nil ?_)
  refine AWP.seq ?_
  refine AWP.drawL [⟨1001, [16]⟩] [(2, [16]), (5, [19])] (fun τ => (200, Ob.cells (vS v)) ∈ τ) (by kernel_rfl) (by kernel_rfl) (by kernel_rfl) ?_
  have hI0 : (200, Ob.cells (vS v)) ∈ ([(101, Ob.row 65 7 (v.copies.map Cpy.ds)), (200, Ob.cells (vS v))] : Obs) := .tail _ (.head _)
  have hI1 : (200, Ob.cells (vS v)) ∈ ([(1001, Ob.val (vS v)), (101, Ob.row 65 7 (v.copies.map Cpy.ds)), (200, Ob.cells (vS v))] : Obs) := .tail _ (.tail _ (.head _))
  refine LRun.step rfl rfl rfl hI0 (fun τ hτ => AOp.moveP rfl rfl) ?_
  refine LRun.step rfl rfl rfl hI0 (fun τ hτ => AOp.nilCheckP rfl rfl) ?_
  refine LRun.eff (σ' := [(1001, Ob.val (vS v)), (101, Ob.row 65 7 (v.copies.map Cpy.ds)), (200, Ob.cells (vS v))]) rfl rfl hI0 hI1 (GE.loadVal 1001 (.head _) rfl rfl rfl rfl hag_v rfl (.tail _ (.head _)) (Nat.le_refl 3) rfl rfl) ?_ (cl_1 (.inl rfl))
  refine LRun.step rfl rfl rfl hI1 (fun τ hτ => AOp.fieldAddr (ds := t.ds) rfl hfo_t0 rfl) ?_
  refine LRun.step rfl rfl rfl hI1 (fun τ hτ => AOp.load rfl hsc_s rfl) ?_
  refine LRun.eff (σ' := [(1001, Ob.val (vS v)), (101, Ob.row 65 7 (v.copies.map Cpy.ds)), (200, Ob.cells (vS v))]) rfl rfl hI1 hI1 (GE.pure (fun _ => rfl) rfl rfl (AOp.callSnap rfl (.cons rfl (snap_v (.head _) (.tail _ (.head _))) (.cons rfl (.d _) .nil)) (c_itemAt v t.item) (.v _))) ?_ (cl_1 (.inr rfl))
  refine LRun.step rfl rfl rfl hI1 (fun τ hτ => AOp.assignD rfl rfl) ?_
  refine LRun.nil ?_
  refine AWP.obs (σ' := [(101, Ob.row 65 7 (v.copies.map Cpy.ds)), (200, Ob.cells (vS v))]) (fun p hp => .tail _ hp) ?_
  refine AWP.seq ?_
  refine AWP.drawL [⟨1002, [23]⟩] [(2, [23]), (7, [28])] (fun τ => (200, Ob.cells (vS v)) ∈ τ) (by kernel_rfl) (by kernel_rfl) (by kernel_rfl) ?_
  have hI0 : (200, Ob.cells (vS v)) ∈ ([(101, Ob.row 65 7 (v.copies.map Cpy.ds)), (200, Ob.cells (vS v))] : Obs) := .tail _ (.head _)
  have hI1 : (200, Ob.cells (vS v)) ∈ ([(1002, Ob.val (vS v)), (101, Ob.row 65 7 (v.copies.map Cpy.ds)), (200, Ob.cells (vS v))] : Obs) := .tail _ (.tail _ (.head _))
  refine LRun.step rfl rfl rfl hI0 (fun τ hτ => AOp.moveP rfl rfl) ?_
  refine LRun.step rfl rfl rfl hI0 (fun τ hτ => AOp.nilCheckP rfl rfl) ?_
  refine LRun.eff (σ' := [(1002, Ob.val (vS v)), (101, Ob.row 65 7 (v.copies.map Cpy.ds)), (200, Ob.cells (vS v))]) rfl rfl hI0 hI1 (GE.loadVal 1002 (.head _) rfl rfl rfl rfl hag_v rfl (.tail _ (.head _)) (Nat.le_refl 3) rfl rfl) ?_ (cl_1 (.inl rfl))
  refine LRun.step rfl rfl rfl hI1 (fun τ hτ => AOp.fieldAddr (ds := t.ds) rfl hfo_t0 rfl) ?_
  refine LRun.step rfl rfl rfl hI1 (fun τ hτ => AOp.load rfl hsc_s rfl) ?_
  refine LRun.step rfl rfl rfl hI1 (fun τ hτ => AOp.fieldAddr (ds := t.ds) rfl hfo_t1 rfl) ?_
  refine LRun.step rfl rfl rfl hI1 (fun τ hτ => AOp.load rfl hsc_s rfl) ?_
  refine LRun.eff (σ' := [(1002, Ob.val (vS v)), (101, Ob.row 65 7 (v.copies.map Cpy.ds)), (200, Ob.cells (vS v))]) rfl rfl hI1 hI1 (GE.pure (fun _ => rfl) rfl rfl (AOp.callSnap rfl (.cons rfl (snap_v (.head _) (.tail _ (.head _))) (.cons rfl (.d _) (.cons rfl (.d _) .nil))) (c_copyAt v t.item t.frm (by omega)) (.tup _ (by simp [Plain.v])))) ?_ (cl_1 (.inr rfl))
  refine LRun.step rfl rfl rfl hI1 (fun τ hτ => AOp.moveD rfl rfl) ?_
  refine LRun.step rfl rfl rfl hI1 (fun τ hτ => AOp.extract rfl rfl rfl) ?_
  refine LRun.step rfl rfl rfl hI1 (fun τ hτ => AOp.extract rfl rfl rfl) ?_
  refine LRun.step rfl rfl rfl hI1 (fun τ hτ => AOp.assignD rfl rfl) ?_
  refine LRun.step rfl rfl rfl hI1 (fun τ hτ => AOp.assignD rfl rfl) ?_
  refine LRun.nil ?_
  refine AWP.obs (σ' := [(101, Ob.row 65 7 (v.copies.map Cpy.ds)), (200, Ob.cells (vS v))]) (fun p hp => .tail _ hp) ?_
  refine AWP.seq ?_
  refine AWP.drawL [⟨1003, [33]⟩] [(2, [33]), (5, [36])] (fun τ => (200, Ob.cells (vS v)) ∈ τ) (by kernel_rfl) (by kernel_rfl) (by kernel_rfl) ?_
  have hI0 : (200, Ob.cells (vS v)) ∈ ([(101, Ob.row 65 7 (v.copies.map Cpy.ds)), (200, Ob.cells (vS v))] : Obs) := .tail _ (.head _)
  have hI1 : (200, Ob.cells (vS v)) ∈ ([(1003, Ob.val (vS v)), (101, Ob.row 65 7 (v.copies.map Cpy.ds)), (200, Ob.cells (vS v))] : Obs) := .tail _ (.tail _ (.head _))
  refine LRun.step rfl rfl rfl hI0 (fun τ hτ => AOp.moveP rfl rfl) ?_
  refine LRun.step rfl rfl rfl hI0 (fun τ hτ => AOp.nilCheckP rfl rfl) ?_
  refine LRun.eff (σ' := [(1003, Ob.val (vS v)), (101, Ob.row 65 7 (v.copies.map Cpy.ds)), (200, Ob.cells (vS v))]) rfl rfl hI0 hI1 (GE.loadVal 1003 (.head _) rfl rfl rfl rfl hag_v rfl (.tail _ (.head _)) (Nat.le_refl 3) rfl rfl) ?_ (cl_1 (.inl rfl))
  refine LRun.step rfl rfl rfl hI1 (fun τ hτ => AOp.fieldAddr (ds := t.ds) rfl hfo_t2 rfl) ?_
  refine LRun.step rfl rfl rfl hI1 (fun τ hτ => AOp.load rfl hsc_s rfl) ?_
  refine LRun.eff (σ' := [(1003, Ob.val (vS v)), (101, Ob.row 65 7 (v.copies.map Cpy.ds)), (200, Ob.cells (vS v))]) rfl rfl hI1 hI1 (GE.pure (fun _ => rfl) rfl rfl (AOp.callSnap rfl (.cons rfl (snap_v (.head _) (.tail _ (.head _))) (.cons rfl (.d _) .nil)) (c_carrAt v t.to) (.v _))) ?_ (cl_1 (.inr rfl))
  refine LRun.step rfl rfl rfl hI1 (fun τ hτ => AOp.assignD rfl rfl) ?_
  refine LRun.nil ?_
  refine AWP.obs (σ' := [(101, Ob.row 65 7 (v.copies.map Cpy.ds)), (200, Ob.cells (vS v))]) (fun p hp => .tail _ hp) ?_
  refine AWP.seq ?_
  refine AWP.seq (AWP.region ?_)
  refine AOps.mD rfl rfl rfl rfl rfl ?_
  refine AOps.step rfl rfl rfl (AOp.lss rfl rfl rfl) ?_
  refine AOps.mD rfl rfl rfl rfl rfl ?_
  refine AOps.split 39 rfl (fun g1 => ?_) (fun g1 => ?_)
  · replace g1 := of_decide_eq_true g1
    have HF : tfrFault v t day = 9 := tfr_9 (.inl g1)
    rw [madeV_bad HF (by decide), HF]
    refine AOps.pass ⟨39, rfl, .inl ⟨_, rfl, rfl⟩⟩ rfl rfl ?_
    refine AOps.pass ⟨39, rfl, .inl ⟨_, rfl, rfl⟩⟩ rfl rfl ?_
    refine AOps.step rfl rfl rfl (AOp.pickT rfl rfl rfl) ?_
    refine AOps.mD rfl rfl rfl rfl rfl ?_
    refine AOps.pass ⟨43, rfl, .inl ⟨_, rfl, rfl⟩⟩ rfl rfl ?_
    refine AOps.pass ⟨43, rfl, .inl ⟨_, rfl, rfl⟩⟩ rfl rfl ?_
    refine AOps.step rfl rfl rfl (AOp.pickT rfl rfl rfl) (.nil ?_)
    refine AWP.cond rfl (fun _ => ?_) (fun h => nomatch h)
    refine AWP.seq (AWP.region ?_)
    refine AOps.aD rfl rfl rfl rfl rfl (.nil ?_)
    refine AWP.ret ?_
    refine ⟨⟨RetDX.eq rfl ?_, trivial⟩, ⟨mem_ob_eq (.head _) ?_, mem_ob_eq (.tail _ (.head _)) ?_, trivial⟩⟩
    all_goals (rfl)
  replace g1 := of_decide_eq_false g1
  have ha := g1
  refine AOps.step ⟨39, rfl, .inl ⟨_, rfl, rfl⟩⟩ rfl rfl (AOp.moveD rfl rfl) ?_
  refine AOps.step ⟨39, rfl, .inl ⟨_, rfl, rfl⟩⟩ rfl rfl (AOp.not rfl rfl) ?_
  refine AOps.step rfl rfl rfl (AOp.pickF rfl rfl rfl) ?_
  refine AOps.mD rfl rfl rfl rfl rfl ?_
  refine AOps.split 43 rfl (fun g2 => ?_) (fun g2 => ?_)
  · replace g2 := bnot_t g2
    have HF : tfrFault v t day = 9 := tfr_9 (.inr (.inl (Int.not_le.1 fun hh => by rw [(has_if (v := v) (l := v.copies) ts.ord _ _).1.1 hh] at g2; cases g2)))
    rw [madeV_bad HF (by decide), HF]
    refine AOps.pass ⟨43, rfl, .inl ⟨_, rfl, rfl⟩⟩ rfl rfl ?_
    refine AOps.pass ⟨43, rfl, .inl ⟨_, rfl, rfl⟩⟩ rfl rfl ?_
    refine AOps.step rfl rfl rfl (AOp.pickT rfl rfl rfl) (.nil ?_)
    refine AWP.cond rfl (fun _ => ?_) (fun h => nomatch h)
    refine AWP.seq (AWP.region ?_)
    refine AOps.aD rfl rfl rfl rfl rfl (.nil ?_)
    refine AWP.ret ?_
    refine ⟨⟨RetDX.eq rfl ?_, trivial⟩, ⟨mem_ob_eq (.head _) ?_, mem_ob_eq (.tail _ (.head _)) ?_, trivial⟩⟩
    all_goals (rfl)
  replace g2 := bnot_f g2
  have hb : ¬ copyIdx v t.item t.frm < 0 := fun hh => by rw [has_not (v := v) (l := v.copies) ts.ord hh] at g2; cases g2
  refine AOps.step ⟨43, rfl, .inl ⟨_, rfl, rfl⟩⟩ rfl rfl (AOp.moveD rfl rfl) ?_
  refine AOps.step ⟨43, rfl, .inl ⟨_, rfl, rfl⟩⟩ rfl rfl (AOp.lss rfl rfl rfl) ?_
  refine AOps.step rfl rfl rfl (AOp.pickF rfl rfl rfl) (.nil ?_)
  refine AWP.cond rfl (fun h3 => ?_) (fun h3 => ?_)
  · replace h3 := of_decide_eq_true h3
    have HF : tfrFault v t day = 9 := tfr_9 (.inr (.inr h3))
    rw [madeV_bad HF (by decide), HF]
    refine AWP.seq (AWP.region ?_)
    refine AOps.aD rfl rfl rfl rfl rfl (.nil ?_)
    refine AWP.ret ?_
    refine ⟨⟨RetDX.eq rfl ?_, trivial⟩, ⟨mem_ob_eq (.head _) ?_, mem_ob_eq (.tail _ (.head _)) ?_, trivial⟩⟩
    all_goals (rfl)
  replace h3 := of_decide_eq_false h3
  have h1 : ¬ (itemIdx v t.item < 0 ∨ copyIdx v t.item t.frm < 0 ∨ carrIdx v t.to < 0) := by omega
  obtain ⟨ki, hki, eki, _⟩ := idxBy_some (show 0 ≤ itemIdx v t.item by omega)
  obtain ⟨kf, hkf, ekf, _, _⟩ := idx_nonneg (v := v) rfl (show 0 ≤ copyIdx v t.item t.frm by omega)
  obtain ⟨kt, hkt, ekt, hnk⟩ := idxBy_some (show 0 ≤ carrIdx v t.to by omega)
  have hfr := tfrFrom_at hkf ekf
  have hib := itemBlocks_at hki eki
  have hcr2 := carrAt_eq hkt ekt
  have hbi := hoi _ (List.getElem_mem hki)
  have hgn := ts.gen _ (List.getElem_mem hkf)
  have hrm := hcr _ (List.getElem_mem hkt)
  have hpe : copyIdx v t.item t.frm = _ := (has_if (v := v) (l := v.copies) ts.ord t.item t.frm).2 (show 0 ≤ copyIdx v t.item t.frm by omega)
  have hcn : v.carrs[kt].name = t.to := of_decide_eq_true hnk
  have hpk : posC v.copies (keyC t.item t.frm) = kf := by omega
  rw [hpk]
  refine AWP.skip ?_
  refine AWP.seq ?_
  refine AWP.drawL [⟨1004, [50]⟩] [(2, [50]), (7, [55])] (fun τ => (200, Ob.cells (vS v)) ∈ τ) (by kernel_rfl) (by kernel_rfl) (by kernel_rfl) ?_
  have hI0 : (200, Ob.cells (vS v)) ∈ ([(101, Ob.row 65 7 (v.copies.map Cpy.ds)), (200, Ob.cells (vS v))] : Obs) := .tail _ (.head _)
  have hI1 : (200, Ob.cells (vS v)) ∈ ([(1004, Ob.val (vS v)), (101, Ob.row 65 7 (v.copies.map Cpy.ds)), (200, Ob.cells (vS v))] : Obs) := .tail _ (.tail _ (.head _))
  refine LRun.step rfl rfl rfl hI0 (fun τ hτ => AOp.moveP rfl rfl) ?_
  refine LRun.step rfl rfl rfl hI0 (fun τ hτ => AOp.nilCheckP rfl rfl) ?_
  refine LRun.eff (σ' := [(1004, Ob.val (vS v)), (101, Ob.row 65 7 (v.copies.map Cpy.ds)), (200, Ob.cells (vS v))]) rfl rfl hI0 hI1 (GE.loadVal 1004 (.head _) rfl rfl rfl rfl hag_v rfl (.tail _ (.head _)) (Nat.le_refl 3) rfl rfl) ?_ (cl_1 (.inl rfl))
  refine LRun.step rfl rfl rfl hI1 (fun τ hτ => AOp.fieldAddr (ds := t.ds) rfl hfo_t0 rfl) ?_
  refine LRun.step rfl rfl rfl hI1 (fun τ hτ => AOp.load rfl hsc_s rfl) ?_
  refine LRun.step rfl rfl rfl hI1 (fun τ hτ => AOp.fieldAddr (ds := t.ds) rfl hfo_t2 rfl) ?_
  refine LRun.step rfl rfl rfl hI1 (fun τ hτ => AOp.load rfl hsc_s rfl) ?_
  refine LRun.eff (σ' := [(1004, Ob.val (vS v)), (101, Ob.row 65 7 (v.copies.map Cpy.ds)), (200, Ob.cells (vS v))]) rfl rfl hI1 hI1 (GE.pure (fun _ => rfl) rfl rfl (AOp.callSnap rfl (.cons rfl (snap_v (.head _) (.tail _ (.head _))) (.cons rfl (.d _) (.cons rfl (.d _) .nil))) (c_copyAt v t.item t.to (by omega)) (.tup _ (by simp [Plain.v])))) ?_ (cl_1 (.inr rfl))
  refine LRun.step rfl rfl rfl hI1 (fun τ hτ => AOp.moveD rfl rfl) ?_
  refine LRun.step rfl rfl rfl hI1 (fun τ hτ => AOp.extract rfl rfl rfl) ?_
  refine LRun.step rfl rfl rfl hI1 (fun τ hτ => AOp.extract rfl rfl rfl) ?_
  refine LRun.step rfl rfl rfl hI1 (fun τ hτ => AOp.assignD rfl rfl) ?_
  refine LRun.step rfl rfl rfl hI1 (fun τ hτ => AOp.assignD rfl rfl) ?_
  refine LRun.nil ?_
  refine AWP.obs (σ' := [(101, Ob.row 65 7 (v.copies.map Cpy.ds)), (200, Ob.cells (vS v))]) (fun p hp => .tail _ hp) ?_
  refine AWP.seq (AWP.region ?_)
  refine AOps.step rfl rfl rfl (AOp.moveP rfl rfl) ?_
  refine AOps.step rfl rfl rfl (AOp.nilCheckP rfl rfl) ?_
  refine AOps.step rfl rfl rfl (AOp.fieldAddrP rfl fo_26_2 rfl) ?_
  refine AOps.step rfl rfl rfl (AOp.loadP rfl sc_24 rfl (.tail _ (.head _)) rfl) ?_
  refine AOps.mD rfl rfl rfl rfl rfl ?_
  refine AOps.step rfl rfl rfl (AOp.indexOwn rfl et_24 rfl rfl (.head _) kf rfl (by rw [List.length_map]; exact hkf)) ?_
  refine AOps.step rfl rfl rfl (AOp.loadRowAgg rfl ag_65 rfl (.head _) kf rfl (at_list hkf)) ?_
  refine AOps.alloc 1001 rfl rfl rfl rfl zt_65 rfl rfl rfl ?_
  refine AOps.store rfl rfl rfl sz_65 rfl (.head _) rfl rfl rfl (Nat.le_of_ble_eq_true rfl) ?_
  refine AOps.freezeCells 13 (ds := v.copies[kf].ds) rfl (.head _) (.nil ?_)
  refine AWP.seq ?_
  refine AWP.block ?_
  refine AWP.seq (AWP.region ?_)
  refine AOps.mD rfl rfl rfl rfl rfl ?_
  refine AOps.aD rfl rfl rfl rfl rfl (.nil ?_)
  refine AWP.cond rfl (fun h4 => ?_) (fun h4 => ?_)
  · skip
    have HF : tfrFault v t day = 7 := tfr_7 h1 ((has_if (v := v) (l := v.copies) ts.ord _ _).1.2 h4)
    rw [madeV_bad HF (by decide), HF]
    refine AWP.seq (AWP.region ?_)
    refine AOps.aD rfl rfl rfl rfl rfl (.nil ?_)
    refine AWP.ret ?_
    refine ⟨⟨RetDX.eq rfl ?_, trivial⟩, ⟨mem_ob_eq (.head _) ?_, mem_ob_eq (.tail _ (.head _)) ?_, trivial⟩⟩
    all_goals (rfl)
  have h2 : ¬ 0 ≤ copyIdx v t.item t.to := fun hh => by rw [(has_if (v := v) (l := v.copies) ts.ord _ _).1.1 hh] at h4; cases h4
  refine AWP.seq (AWP.region ?_)
  refine AOps.step rfl rfl rfl (AOp.fieldAddr rfl fo_65_6 rfl) ?_
  refine AOps.step rfl rfl rfl (AOp.load rfl sc_63 rfl) ?_
  refine AOps.step rfl rfl rfl (AOp.lenSl rfl et_63.ht rfl) ?_
  refine AOps.step rfl rfl rfl (AOp.gtr rfl rfl rfl) ?_
  refine AOps.aD rfl rfl rfl rfl rfl (.nil ?_)
  refine AWP.cond rfl (fun h5 => ?_) (fun h5 => ?_)
  · replace h5 := of_decide_eq_true h5
    rw [List.length_map] at h5
    have HF : tfrFault v t day = 11 := tfr_11 h1 h2 (by rw [hfr]; omega)
    rw [madeV_bad HF (by decide), HF]
    refine AWP.seq (AWP.region ?_)
    refine AOps.aD rfl rfl rfl rfl rfl (.nil ?_)
    refine AWP.ret ?_
    refine ⟨⟨RetDX.eq rfl ?_, trivial⟩, ⟨mem_ob_eq (.head _) ?_, mem_ob_eq (.tail _ (.head _)) ?_, trivial⟩⟩
    all_goals (rfl)
  replace h5 := of_decide_eq_false h5
  rw [List.length_map] at h5
  have h3 : ¬ 0 < (tfrFrom v t).bad.length := by rw [hfr]; omega
  refine AWP.seq (AWP.region ?_)
  refine AOps.mD rfl rfl rfl rfl rfl ?_
  refine AOps.step rfl rfl rfl (AOp.fieldAddr rfl fo_65_3 rfl) ?_
  refine AOps.step rfl rfl rfl (AOp.load rfl sc_3 rfl) ?_
  refine AOps.step rfl rfl rfl (AOp.lss rfl rfl rfl) ?_
  refine AOps.mD rfl rfl rfl rfl rfl ?_
  refine AOps.split 77 rfl (fun g6 => ?_) (fun g6 => ?_)
  · replace g6 := of_decide_eq_true g6
    have HF : tfrFault v t day = 1 := tfr_1 h1 h2 h3 (.inl (by rw [hfr]; exact g6))
    rw [madeV_bad HF (by decide), HF]
    refine AOps.pass ⟨77, rfl, .inl ⟨_, rfl, rfl⟩⟩ rfl rfl ?_
    refine AOps.pass ⟨77, rfl, .inl ⟨_, rfl, rfl⟩⟩ rfl rfl ?_
    refine AOps.pass ⟨77, rfl, .inl ⟨_, rfl, rfl⟩⟩ rfl rfl ?_
    refine AOps.step rfl rfl rfl (AOp.pickT rfl rfl rfl) ?_
    refine AOps.aD rfl rfl rfl rfl rfl (.nil ?_)
    refine AWP.cond rfl (fun _ => ?_) (fun h => nomatch h)
    refine AWP.seq (AWP.region ?_)
    refine AOps.aD rfl rfl rfl rfl rfl (.nil ?_)
    refine AWP.ret ?_
    refine ⟨⟨RetDX.eq rfl ?_, trivial⟩, ⟨mem_ob_eq (.head _) ?_, mem_ob_eq (.tail _ (.head _)) ?_, trivial⟩⟩
    all_goals (rfl)
  replace g6 := of_decide_eq_false g6
  have hd4 := g6
  refine AOps.step ⟨77, rfl, .inl ⟨_, rfl, rfl⟩⟩ rfl rfl (AOp.fieldAddr rfl fo_65_5 rfl) ?_
  refine AOps.step ⟨77, rfl, .inl ⟨_, rfl, rfl⟩⟩ rfl rfl (AOp.load rfl sc_3 rfl) ?_
  refine AOps.step ⟨77, rfl, .inl ⟨_, rfl, rfl⟩⟩ rfl rfl (AOp.eql rfl rfl rfl) ?_
  refine AOps.step rfl rfl rfl (AOp.pickF rfl rfl rfl) ?_
  refine AOps.aD rfl rfl rfl rfl rfl (.nil ?_)
  refine AWP.cond rfl (fun h7 => ?_) (fun h7 => ?_)
  · replace h7 := of_decide_eq_true h7
    have HF : tfrFault v t day = 1 := tfr_1 h1 h2 h3 (.inr (by rw [hfr]; exact h7))
    rw [madeV_bad HF (by decide), HF]
    refine AWP.seq (AWP.region ?_)
    refine AOps.aD rfl rfl rfl rfl rfl (.nil ?_)
    refine AWP.ret ?_
    refine ⟨⟨RetDX.eq rfl ?_, trivial⟩, ⟨mem_ob_eq (.head _) ?_, mem_ob_eq (.tail _ (.head _)) ?_, trivial⟩⟩
    all_goals (rfl)
  replace h7 := of_decide_eq_false h7
  have h4 : ¬ (day < (tfrFrom v t).day ∨ (tfrFrom v t).gen = 100) := by rw [hfr]; omega
  refine AWP.seq ?_
  refine AWP.drawL [⟨1005, [85]⟩] [(2, [85]), (10, [93])] (fun τ => (200, Ob.cells (vS v)) ∈ τ) (by kernel_rfl) (by kernel_rfl) (by kernel_rfl) ?_
  have hI0 : (200, Ob.cells (vS v)) ∈ ([(101, Ob.row 65 7 (v.copies.map Cpy.ds)), (200, Ob.cells (vS v))] : Obs) := .tail _ (.head _)
  have hI1 : (200, Ob.cells (vS v)) ∈ ([(1005, Ob.val (vS v)), (101, Ob.row 65 7 (v.copies.map Cpy.ds)), (200, Ob.cells (vS v))] : Obs) := .tail _ (.tail _ (.head _))
  refine LRun.step rfl rfl rfl hI0 (fun τ hτ => AOp.moveP rfl rfl) ?_
  refine LRun.step rfl rfl rfl hI0 (fun τ hτ => AOp.nilCheckP rfl rfl) ?_
  refine LRun.eff (σ' := [(1005, Ob.val (vS v)), (101, Ob.row 65 7 (v.copies.map Cpy.ds)), (200, Ob.cells (vS v))]) rfl rfl hI0 hI1 (GE.loadVal 1005 (.head _) rfl rfl rfl rfl hag_v rfl (.tail _ (.head _)) (Nat.le_refl 3) rfl rfl) ?_ (cl_1 (.inl rfl))
  refine LRun.step rfl rfl rfl hI1 (fun τ hτ => AOp.moveP rfl rfl) ?_
  refine LRun.step rfl rfl rfl hI1 (fun τ hτ => AOp.nilCheckP rfl rfl) ?_
  refine LRun.step rfl rfl rfl hI1 (fun τ hτ => AOp.fieldAddrP rfl hfo_v1r rfl) ?_
  refine LRun.step rfl rfl rfl hI1 (fun τ hτ => AOp.loadP rfl hsc_crs rfl hτ rfl) ?_
  refine LRun.step rfl rfl rfl hI1 (fun τ hτ => AOp.moveD rfl rfl) ?_
  refine LRun.step rfl rfl rfl hI1 (fun τ hτ => AOp.indexAddr rfl het_cr rfl rfl kt ekt (at_list hkt) rfl) ?_
  refine LRun.step rfl rfl rfl hI1 (fun τ hτ => AOp.loadAgg rfl hag_cr rfl rfl) ?_
  refine LRun.eff (σ' := [(1005, Ob.val (vS v)), (101, Ob.row 65 7 (v.copies.map Cpy.ds)), (200, Ob.cells (vS v))]) rfl rfl hI1 hI1 (GE.pure (fun _ => rfl) rfl rfl (AOp.callSnap rfl (.cons rfl (snap_v (.head _) (.tail _ (.head _))) (.cons rfl (.d _) .nil)) (c_left v v.carrs[kt] hoi hoc (by omega) hrm) (.v _))) ?_ (cl_1 (.inr rfl))
  refine LRun.step rfl rfl rfl hI1 (fun τ hτ => AOp.moveP rfl rfl) ?_
  refine LRun.step rfl rfl rfl hI1 (fun τ hτ => AOp.nilCheckP rfl rfl) ?_
  refine LRun.step rfl rfl rfl hI1 (fun τ hτ => AOp.fieldAddrP rfl hfo_v0w rfl) ?_
  refine LRun.step rfl rfl rfl hI1 (fun τ hτ => AOp.loadP rfl hsc_its rfl hτ rfl) ?_
  refine LRun.step rfl rfl rfl hI1 (fun τ hτ => AOp.moveD rfl rfl) ?_
  refine LRun.step rfl rfl rfl hI1 (fun τ hτ => AOp.indexAddr rfl het_it rfl rfl ki eki (at_list hki) rfl) ?_
  refine LRun.step rfl rfl rfl hI1 (fun τ hτ => AOp.fieldAddr rfl hfo_i1 rfl) ?_
  refine LRun.step rfl rfl rfl hI1 (fun τ hτ => AOp.load rfl hsc_i rfl) ?_
  refine LRun.step rfl rfl rfl hI1 (fun τ hτ => AOp.lss rfl rfl rfl) ?_
  refine LRun.step rfl rfl rfl hI1 (fun τ hτ => AOp.assignD rfl rfl) ?_
  refine LRun.nil ?_
  refine AWP.obs (σ' := [(101, Ob.row 65 7 (v.copies.map Cpy.ds)), (200, Ob.cells (vS v))]) (fun p hp => .tail _ hp) ?_
  refine AWP.cond rfl (fun h8 => ?_) (fun h8 => ?_)
  · skip
    replace h8 := of_decide_eq_true h8
    rw [hcn] at h8
    have HF : tfrFault v t day = 2 := tfr_2 h1 h2 h3 h4 (by rw [hcr2, hib]; omega)
    rw [madeV_bad HF (by decide), HF]
    refine AWP.seq (AWP.region ?_)
    refine AOps.aD rfl rfl rfl rfl rfl (.nil ?_)
    refine AWP.ret ?_
    refine ⟨⟨RetDX.eq rfl ?_, trivial⟩, ⟨mem_ob_eq (.head _) ?_, mem_ob_eq (.tail _ (.head _)) ?_, trivial⟩⟩
    all_goals (rfl)
  replace h8 := of_decide_eq_false h8
  rw [hcn] at h8
  have HF : tfrFault v t day = 0 := tfr_0 h1 h2 h3 h4 (by rw [hcr2, hib]; omega)
  rw [madeV_ok HF, HF]
  refine AWP.skip ?_
  refine AWP.seq ?_
  refine AWP.drawMove (s0 := .ptr 200 0) 19 20 [⟨121, 1006, .own 1006, .row 65 7 [(tfrNew v t day).ds]⟩] (FrOk.one rfl (by simp) rfl rfl rfl) (by kernel_rfl) (by kernel_rfl) rfl rfl rfl rfl rfl (by kernel_rfl) ?_
  refine XRun.step rfl rfl rfl (AOp.moveP rfl rfl) ?_
  refine XRun.step rfl rfl rfl (AOp.nilCheckP rfl rfl) ?_
  refine XRun.step rfl rfl rfl (AOp.fieldAddrP rfl hfo_v2 rfl) ?_
  refine XRun.step rfl rfl rfl (AOp.loadP (s := .own 101) rfl hsc_24 rfl (.tail _ (.head _)) rfl) ?_
  refine XRun.step rfl rfl rfl (AOp.moveD rfl rfl) ?_
  refine XRun.step rfl rfl rfl (AOp.fieldAddr (ds := t.ds) rfl hfo_t0 rfl) ?_
  refine XRun.step rfl rfl rfl (AOp.load rfl hsc_s rfl) ?_
  refine XRun.step rfl rfl rfl (AOp.fieldAddr (ds := t.ds) rfl hfo_t2 rfl) ?_
  refine XRun.step rfl rfl rfl (AOp.load rfl hsc_s rfl) ?_
  refine XRun.step rfl rfl rfl (AOp.fieldAddr (ds := t.ds) rfl hfo_t1 rfl) ?_
  refine XRun.step rfl rfl rfl (AOp.load rfl hsc_s rfl) ?_
  refine XRun.step rfl rfl rfl (AOp.moveD rfl rfl) ?_
  refine XRun.step rfl rfl rfl (AOp.moveD rfl rfl) ?_
  refine XRun.step rfl rfl rfl (AOp.fieldAddr (ds := v.copies[kf].ds) rfl hfo_c5 rfl) ?_
  refine XRun.step rfl rfl rfl (AOp.load rfl hsc_i rfl) ?_
  refine XRun.step rfl rfl rfl (AOp.add64 rfl rfl rfl (by omega) (by omega)) ?_
  refine XRun.step rfl rfl rfl (AOp.le (AOp.build rfl bu_cp (.cons rfl rfl (.cons rfl rfl (.cons rfl rfl (.cons rfl rfl (.cons rfl rfl (.cons rfl rfl .nil)))))) rfl) (SLe.d (Le.aggLast [.v (.string t.item), .v (.string t.to), .v (.string t.frm), .v (.int .i64 day), .v (.int .i64 day), .v (.int .i64 (v.copies[kf].gen + 1))]))) ?_
  rw [← hfr]
  refine XRun.buildS _ (.head _) rfl rfl rfl rfl rfl et_cpyI rfl rfl rfl rfl rfl rfl ?_
  refine XRun.nil ⟨rfl, trivial⟩ ?_
  refine AOps.insertC (id := 101) (idx := 1006) (k := (posC v.copies (keyC t.item t.to))) [(101, Ob.row 65 7 ((insC v.copies (tfrNew v t day)).map Cpy.ds)), (200, Ob.cells ((vS v).set 2 (.d .any)))] rfl rfl rfl rfl rfl rfl (.tail _ (.head _)) rfl rfl (by rw [List.length_map]; exact posC_le _ _) rfl (.head _) (by decide) (by rw [List.length_map]; omega) (fun p hp => ?_) ?_
  · rcases List.mem_cons.1 hp with rfl | hp
    · exact .inl (by rw [insC_ds]; rfl)
    obtain rfl := List.mem_singleton.1 hp
    exact .inr ⟨(200, Ob.cells (vS v)), .tail _ (.tail _ (.head _)), (by decide : (200 : Nat) ≠ 101), rfl⟩
  refine AOps.nil ?_
  refine AOps.step rfl rfl rfl (AOp.nilCheckP rfl rfl) ?_
  refine AOps.step rfl rfl rfl (AOp.fieldAddrP rfl hfo_v2 rfl) ?_
  refine AOps.storeS rfl rfl rfl hsz_24r rfl (.tail _ (.head _)) rfl (.head _) (Nat.le_of_ble_eq_true rfl) (.nil ?_)
  refine AWP.seq (AWP.region ?_)
  refine AOps.aD rfl rfl rfl rfl rfl (.nil ?_)
  refine AWP.ret ?_
  refine ⟨⟨RetDX.eq rfl ?_, trivial⟩, ⟨mem_ob_eq (.head _) ?_, mem_ob_eq (.tail _ (.head _)) ?_, trivial⟩⟩
  all_goals (rfl)

end Go.Proofs.YtieccphckobhjaaGreatDoor


namespace Go.Proofs.YtieccphckobhjaaGreatDoor
open Go.RowKit
set_option linter.unusedVariables false

/-! Types. -/
namespace TyW21
theorem ag_26 : AggT Tryz.prog 26 3 := .of (by kernel_rfl)
theorem ag_35 : AggT Tryz.prog 35 3 := .of (by kernel_rfl)
theorem bu_26 : StructT Tryz.prog 26 (fun i => (#[(0, 1), (1, 1), (2, 1)] : Array (Nat × Nat))[i]?) [(.slice none 0 0), (.slice none 0 0), (.slice none 0 0)] := .of (by kernel_rfl) (by kernel_rfl) (by decide)
theorem et_24 : ElemTy Tryz.prog 24 65 7 96 (.agg #[(.string ⟨#[]⟩), (.string ⟨#[]⟩), (.string ⟨#[]⟩), (.int .i64 0), (.int .i64 0), (.int .i64 0), (.slice none 0 0)]) := ⟨by kernel_rfl, by kernel_rfl, by kernel_rfl, by decide⟩
theorem et_29 : ElemTy Tryz.prog 29 35 3 48 (.agg #[(.string ⟨#[]⟩), (.string ⟨#[]⟩), (.string ⟨#[]⟩)]) := ⟨by kernel_rfl, by kernel_rfl, by kernel_rfl, by decide⟩
theorem fo_26_2 : fieldOff Tryz.prog 26 2 = some 2 := by kernel_rfl
theorem sc_24 : Scal Tryz.prog 24 := .of (by kernel_rfl)
theorem sz_26 : ∀ w, (sizeOf 26).run Tryz.prog w = .ok 3 w := SizeT.of (by kernel_rfl)
theorem sz_35 : ∀ w, (sizeOf 35).run Tryz.prog w = .ok 3 w := SizeT.of (by kernel_rfl)
theorem zt_26 : (Tryz.prog.info? 26).bind (·.zero) = some (.agg #[(.slice none 0 0), (.slice none 0 0), (.slice none 0 0)]) := by kernel_rfl
theorem zt_35 : (Tryz.prog.info? 35).bind (·.zero) = some (.agg #[(.string ⟨#[]⟩), (.string ⟨#[]⟩), (.string ⟨#[]⟩)]) := by kernel_rfl
end TyW21
open TyW21


theorem perm3 {a b c : Nat × Ob} : ∀ p ∈ [c, b, a], p ∈ [a, b, c] := by
  intro p hp
  simp only [List.mem_cons, List.not_mem_nil, or_false] at hp ⊢
  rcases hp with rfl | rfl | rfl <;> simp
theorem fam_ge {e s : Nat} {b : Nat} {l : List (List (List D))} {p : Nat × Ob} (h : p ∈ fam e s b l) : b ≤ p.1 := by
  obtain ⟨k, x, _, rfl⟩ := fam_mem h
  exact Nat.le_add_right _ _


set_option maxRecDepth 100000 in
set_option maxHeartbeats 4000000 in
theorem c_pApply (v : Vlt) (ts : List Tfr) (day : Int) (hs : smallV v) : ACall Tryz.prog 9 [.agg v.ds, .sl (ts.map Tfr.ds), .v (.int .i64 day)] (.tup [.agg (applyV v ts day).ds, .v (.int .i64 (applyFault v ts day))]) := by
  refine acall_ofR (n := 44) (ds' := [.agg (applyV v ts day).ds, .v (.int .i64 (applyFault v ts day))]) Tryz.func9 rfl (by kernel_rfl) rfl [.cell 6 26, .tmp 7] rfl rfl ?_
  intro B w0 F0 fr
  refine AWP.bound 1 rfl (fun hbd1 => ?_)
  rw [List.length_map] at hbd1
  refine AWP.seq (AWP.region ?_)
  refine AOps.boxOwn 200 rfl rfl rfl rfl rfl rfl rfl ?_
  refine AOps.alloc 202 rfl rfl rfl rfl zt_26 rfl rfl rfl ?_
  refine AOps.aD rfl rfl rfl rfl rfl (.nil ?_)
  refine AWP.seq ?_
  refine AWP.seq (AWP.region ?_)
  refine AOps.step rfl rfl rfl (AOp.loadPU rfl ag_26 rfl (.tail _ (.head _)) rfl rfl) ?_
  refine AOps.step rfl rfl rfl (AOp.call rfl (.cons (ArgOk.rfl' rfl) .nil) (c_pCheck v hs)) ?_
  refine AOps.aD rfl rfl rfl rfl rfl (.nil ?_)
  refine AWP.seq (AWP.region ?_)
  refine AOps.mD rfl rfl rfl rfl rfl ?_
  refine AOps.step rfl rfl rfl (AOp.neq rfl rfl rfl) (.nil ?_)
  refine AWP.cond rfl (fun h1 => ?_) (fun h1 => ?_)
  · replace h1 := of_decide_eq_true h1
    have HF : applyFault v ts day = checkV v := apply_1 h1
    rw [apply_bad HF (by first | assumption | decide), HF]
    refine AWP.seq (AWP.region ?_)
    refine AOps.step rfl rfl rfl (AOp.build rfl bu_26 .nil rfl) ?_
    refine AOps.mD rfl rfl rfl rfl rfl ?_
    refine AOps.store rfl rfl rfl sz_26 rfl (.head _) rfl rfl rfl (Nat.le_of_ble_eq_true rfl) ?_
    refine AOps.aD rfl rfl rfl rfl rfl (.nil ?_)
    refine AWP.ret ?_
    refine ⟨RetR.agg rfl (.head _) ag_26 rfl (.cons (by first | exact CellD.nil | exact CellD.d | exact CellD.eq (by simp) | (refine CellD.own (by first | exact .head _ | exact .tail _ (.head _)) ?_; rfl)) (.cons (by first | exact CellD.nil | exact CellD.d | exact CellD.eq (by simp) | (refine CellD.own (by first | exact .head _ | exact .tail _ (.head _)) ?_; rfl)) (.cons (by first | exact CellD.nil | exact CellD.d | exact CellD.eq (by simp) | (refine CellD.own (by first | exact .head _ | exact .tail _ (.head _)) ?_; rfl)) .nil))), RetD.eq rfl ?_, trivial⟩
    all_goals (rfl)
  replace h1 := of_decide_eq_false h1
  have hck := Decidable.not_not.1 h1
  have vo := vok_of hck
  have hoi := okItems_of vo.items
  refine AWP.skip ?_
  refine AWP.seq ?_
  refine AWP.seq (AWP.region ?_)
  refine AOps.mD rfl rfl rfl rfl rfl ?_
  refine AOps.step rfl rfl rfl (AOp.call rfl (.cons (ArgOk.rfl' rfl) .nil) (c_pDay _)) ?_
  refine AOps.step rfl rfl rfl (AOp.not rfl rfl) (.nil ?_)
  refine AWP.cond rfl (fun h2 => ?_) (fun h2 => ?_)
  · replace h2 := bnot_t h2; replace h2 := of_decide_eq_false h2
    have HF : applyFault v ts day = 1 := apply_2 hck h2
    rw [apply_bad HF (by first | assumption | decide), HF]
    refine AWP.seq (AWP.region ?_)
    refine AOps.step rfl rfl rfl (AOp.build rfl bu_26 .nil rfl) ?_
    refine AOps.store rfl rfl rfl sz_26 rfl (.head _) rfl rfl rfl (Nat.le_of_ble_eq_true rfl) ?_
    refine AOps.aD rfl rfl rfl rfl rfl (.nil ?_)
    refine AWP.ret ?_
    refine ⟨RetR.agg rfl (.head _) ag_26 rfl (.cons (by first | exact CellD.nil | exact CellD.d | exact CellD.eq (by simp) | (refine CellD.own (by first | exact .head _ | exact .tail _ (.head _)) ?_; rfl)) (.cons (by first | exact CellD.nil | exact CellD.d | exact CellD.eq (by simp) | (refine CellD.own (by first | exact .head _ | exact .tail _ (.head _)) ?_; rfl)) (.cons (by first | exact CellD.nil | exact CellD.d | exact CellD.eq (by simp) | (refine CellD.own (by first | exact .head _ | exact .tail _ (.head _)) ?_; rfl)) .nil))), RetD.eq rfl ?_, trivial⟩
    all_goals (rfl)
  replace h2 := bnot_f h2; replace h2 := of_decide_eq_true h2
  have hd := h2
  refine AWP.skip ?_
  refine AWP.seq (AWP.region ?_)
  refine AOps.step rfl rfl rfl (AOp.loadPU rfl ag_26 rfl (.tail _ (.head _)) rfl rfl) ?_
  refine AOps.callOwn rfl rfl rfl (.cons (SLe.refl _) .nil) (c_own v vo) rfl (fun _ _ => rfl) ?_
  refine AOps.eff rfl rfl (EOp.storeVal (ss' := vaultS v) rfl rfl hsz_26 rfl (.tail _ (.tail _ (.head _))) rfl (.head _) rfl (Nat.le_refl 3)) ?_
  refine AOps.nU rfl ?_
  refine AOps.nil ?_
  refine AWP.seq ?_
  refine AWP.seq ?_
  refine AWP.rowOfS 101 (els := cpysS 1000 v.copies) (v.copies.map Cpy.ds) (famC v.copies) [(202, Ob.cells [.d (.v (.slice none 0 0)), .d (.v (.slice none 0 0)), .d (.v (.slice none 0 0))]), (200, Ob.cells (vaultS v)), (101, Ob.rowS 65 7 (cpysS 1000 v.copies))] (.tail _ (.tail _ (.head _))) (by rw [cpysS_len, List.length_map]) (fun i k1 k2 => ?_) (fun i k1 k2 j k3 k4 => ?_) (fun p hp => .tail _ (.tail _ (.tail _ (.tail _ hp)))) (fun p hp => ?_) (fun p hp q hq => ?_) ?_
  · have hi : i < v.copies.length := by simpa using k2
    rw [cpysS_at hi, List.getElem_map]; rfl
  · have hi : i < v.copies.length := by simpa using k2
    simp only [cpysS_at hi, List.getElem_map] at k3 k4 ⊢
    exact snap_cpy (fun p hp => hp) hi j k3 k4
  · rcases List.mem_cons.1 hp with rfl | hp
    · exact .tail _ (.head _)
    rcases List.mem_cons.1 hp with rfl | hp
    · exact .tail _ (.tail _ (.head _))
    obtain rfl := List.mem_singleton.1 hp
    exact .tail _ (.tail _ (.tail _ (.head _)))
  · have h4 := fam_ge (show p ∈ fam _ _ 1000 (badsD v.copies) from hp)
    rcases List.mem_cons.1 hq with rfl | hq
    · exact fun e => by dsimp only at e; omega
    rcases List.mem_cons.1 hq with rfl | hq
    · exact fun e => by dsimp only at e; omega
    obtain rfl := List.mem_singleton.1 hq
    exact fun e => by dsimp only at e; omega
  refine AWP.region ?_
  refine AOps.mD rfl rfl rfl rfl rfl ?_
  refine AOps.step rfl rfl rfl (AOp.lenSl rfl et_29.ht rfl) ?_
  refine AOps.mD rfl rfl rfl rfl rfl (.nil ?_)
  refine AWP.block ?_
  refine AWP.loop (G := Nat × List Cpy) (fun g => Env.of [(26, .d (.v (.int .i64 (g.1 : Int)))), (24, .d (.sl (ts.map Tfr.ds))), (25, .d (.v (.int .i64 ((ts.map Tfr.ds).length : Int)))), (3, .ptr 200 0), (6, .ptr 202 0), (2, .d (.v (.int .i64 day)))]) (fun g => [(202, .cells [.d (.v (.slice none 0 0)), .d (.v (.slice none 0 0)), .d (.v (.slice none 0 0))]), (200, .cells (vaultS v)), (101, .row 65 7 (g.2.map Cpy.ds))]) (fun g => ApS v ts day g) (fun g => ts.length - g.1) (0, v.copies) (ApS.start vo ts day) (Sub.less ⟨(SLe.of_eq rfl), SLe.refl _, SLe.refl _, SLe.refl _, SLe.refl _, SLe.refl _, trivial⟩ (fun p hp => hp)) ?_
  rintro ⟨k, l⟩ hg
  dsimp only
  refine AWP.seq (AWP.region ?_)
  refine AOps.step rfl rfl rfl (AOp.lss rfl rfl rfl) (.nil ?_)
  refine AWP.seq ?_
  refine AWP.cond rfl (fun h3 => ?_) (fun h3 => ?_)
  · replace h3 := of_decide_eq_true h3
    rw [List.length_map] at h3
    have hk : k < ts.length := by omega
    have hll : l.length ≤ 480 := hg.2.1.len vo.ni vo.nc
    refine AWP.skip ?_
    refine AWP.seq ?_
    refine AWP.block ?_
    refine AWP.seq (AWP.region ?_)
    refine AOps.step rfl rfl rfl (AOp.indexAddr rfl et_29 rfl rfl k rfl (at_list hk) rfl) ?_
    refine AOps.step rfl rfl rfl (AOp.loadAgg rfl ag_35 rfl rfl) ?_
    refine AOps.alloc 203 rfl rfl rfl rfl zt_35 rfl rfl rfl ?_
    refine AOps.store rfl rfl rfl sz_35 rfl (.head _) rfl rfl rfl (Nat.le_of_ble_eq_true rfl) ?_
    refine AOps.freezeCells 10 (ds := ts[k].ds) rfl (.head _) (.nil ?_)
    refine AWP.seq (AWP.region ?_)
    refine AOps.step rfl rfl rfl (AOp.loadAgg rfl ag_35 rfl rfl) ?_
    refine AOps.mD rfl rfl rfl rfl rfl ?_
    refine AOps.callX rfl rfl rfl (.cons (SLe.refl _) (.cons (SLe.refl _) (.cons (SLe.refl _) .nil))) (c_transfer (withC v l) ts[k] day hoi hg.2.1.at hll (fun x hx => (vo.carr hx).2.2)) ⟨(.tail _ (.tail _ (.head _))), (.tail _ (.head _)), trivial⟩ rfl rfl (fun _ _ => rfl) ?_
    refine AOps.aD rfl rfl rfl rfl rfl (.nil ?_)
    refine AWP.seq (AWP.region ?_)
    refine AOps.mD rfl rfl rfl rfl rfl ?_
    refine AOps.step rfl rfl rfl (AOp.neq rfl rfl rfl) (.nil ?_)
    refine AWP.cond rfl (fun h4 => ?_) (fun h4 => ?_)
    · replace h4 := of_decide_eq_true h4
      have HF : applyFault v ts day = tfrFault (withC v l) ts[k] day := apply_3 hck hd hg hk h4
      rw [apply_bad HF (by first | assumption | decide), HF]
      refine AWP.seq (AWP.region ?_)
      refine AOps.step rfl rfl rfl (AOp.build rfl bu_26 .nil rfl) ?_
      refine AOps.mD rfl rfl rfl rfl rfl ?_
      refine AOps.store rfl rfl rfl sz_26 rfl (.tail _ (.tail _ (.head _))) rfl rfl rfl (Nat.le_of_ble_eq_true rfl) ?_
      refine AOps.aD rfl rfl rfl rfl rfl (.nil ?_)
      refine AWP.ret ?_
      refine ⟨RetR.agg rfl (.tail _ (.tail _ (.head _))) ag_26 rfl (.cons (by first | exact CellD.nil | exact CellD.d | exact CellD.eq (by simp) | (refine CellD.own (by first | exact .head _ | exact .tail _ (.head _)) ?_; rfl)) (.cons (by first | exact CellD.nil | exact CellD.d | exact CellD.eq (by simp) | (refine CellD.own (by first | exact .head _ | exact .tail _ (.head _)) ?_; rfl)) (.cons (by first | exact CellD.nil | exact CellD.d | exact CellD.eq (by simp) | (refine CellD.own (by first | exact .head _ | exact .tail _ (.head _)) ?_; rfl)) .nil))), RetD.eq rfl ?_, trivial⟩
      all_goals (rfl)
    replace h4 := of_decide_eq_false h4
    have hf := Decidable.not_not.1 h4
    have HM := madeV_ok hf
    rw [HM]
    refine AWP.skip ?_
    refine AWP.region ?_
    refine AOps.step rfl rfl rfl (AOp.add64 rfl rfl rfl (by omega) (by omega)) ?_
    refine AOps.mD rfl rfl rfl rfl rfl (.nil ?_)
    refine ⟨(k + 1, tfrC v l ts[k] day), (hg.next hk hf), (by dsimp only; omega), Sub.less ⟨(SLe.of_eq rfl), SLe.refl _, SLe.refl _, SLe.refl _, SLe.refl _, SLe.refl _, trivial⟩ perm3⟩
  replace h3 := of_decide_eq_false h3
  rw [List.length_map] at h3
  obtain rfl : k = ts.length := by have := hg.1; dsimp only at this; omega
  have hll : l.length ≤ 480 := hg.2.1.len vo.ni vo.nc
  refine AWP.exit ?_
  refine AWP.seq ?_
  refine AWP.seq (AWP.region ?_)
  refine AOps.step rfl rfl rfl (AOp.fieldAddrP rfl fo_26_2 rfl) ?_
  refine AOps.step rfl rfl rfl (AOp.loadP rfl sc_24 rfl (.tail _ (.head _)) rfl) ?_
  refine AOps.step rfl rfl rfl (AOp.lenOwn rfl et_24.ht rfl (.tail _ (.tail _ (.head _)))) ?_
  refine AOps.step rfl rfl rfl (AOp.gtr rfl rfl rfl) (.nil ?_)
  refine AWP.cond rfl (fun h5 => ?_) (fun h5 => ?_)
  · replace h5 := of_decide_eq_true h5
    rw [List.length_map] at h5
    have HF : applyFault v ts day = 2 := apply_4 hck hd hg (by omega)
    rw [apply_bad HF (by first | assumption | decide), HF]
    refine AWP.seq (AWP.region ?_)
    refine AOps.step rfl rfl rfl (AOp.build rfl bu_26 .nil rfl) ?_
    refine AOps.store rfl rfl rfl sz_26 rfl (.head _) rfl rfl rfl (Nat.le_of_ble_eq_true rfl) ?_
    refine AOps.aD rfl rfl rfl rfl rfl (.nil ?_)
    refine AWP.ret ?_
    refine ⟨RetR.agg rfl (.head _) ag_26 rfl (.cons (by first | exact CellD.nil | exact CellD.d | exact CellD.eq (by simp) | (refine CellD.own (by first | exact .head _ | exact .tail _ (.head _)) ?_; rfl)) (.cons (by first | exact CellD.nil | exact CellD.d | exact CellD.eq (by simp) | (refine CellD.own (by first | exact .head _ | exact .tail _ (.head _)) ?_; rfl)) (.cons (by first | exact CellD.nil | exact CellD.d | exact CellD.eq (by simp) | (refine CellD.own (by first | exact .head _ | exact .tail _ (.head _)) ?_; rfl)) .nil))), RetD.eq rfl ?_, trivial⟩
    all_goals (rfl)
  replace h5 := of_decide_eq_false h5
  rw [List.length_map] at h5
  obtain ⟨HF, HV⟩ := apply_5 hck hd hg (by omega)
  rw [HF, HV]
  refine AWP.skip ?_
  refine AWP.seq ?_
  refine AWP.freezeIn 200 2 rfl (.tail _ (.head _)) (.tail _ (.tail _ (.head _))) ?_
  refine AWP.region ?_
  refine AOps.step rfl rfl rfl (AOp.loadPU rfl ag_26 rfl (.tail _ (.head _)) rfl rfl) ?_
  refine AOps.store rfl rfl rfl sz_26 rfl (.head _) rfl rfl rfl (Nat.le_of_ble_eq_true rfl) ?_
  refine AOps.aD rfl rfl rfl rfl rfl (.nil ?_)
  refine AWP.ret ?_
  refine ⟨RetR.agg rfl (.head _) ag_26 rfl (.cons (by first | exact CellD.nil | exact CellD.d | exact CellD.eq (by simp) | (refine CellD.own (by first | exact .head _ | exact .tail _ (.head _)) ?_; rfl)) (.cons (by first | exact CellD.nil | exact CellD.d | exact CellD.eq (by simp) | (refine CellD.own (by first | exact .head _ | exact .tail _ (.head _)) ?_; rfl)) (.cons (by first | exact CellD.nil | exact CellD.d | exact CellD.eq (by simp) | (refine CellD.own (by first | exact .head _ | exact .tail _ (.head _)) ?_; rfl)) .nil))), RetD.eq rfl ?_, trivial⟩
  all_goals (rfl)

end Go.Proofs.YtieccphckobhjaaGreatDoor


namespace Go.Proofs.YtieccphckobhjaaGreatDoor
open Go.RowKit
set_option linter.unusedVariables false

/-! Types. -/
namespace TyQA0
theorem ag_59 : AggT Tryz.prog 59 5 := .of (by kernel_rfl)
theorem ag_62 : AggT Tryz.prog 62 2 := .of (by kernel_rfl)
theorem ag_65 : AggT Tryz.prog 65 7 := .of (by kernel_rfl)
theorem et_22 : ElemTy Tryz.prog 22 62 2 24 (.agg #[(.string ⟨#[]⟩), (.int .i64 0)]) := ⟨by kernel_rfl, by kernel_rfl, by kernel_rfl, by decide⟩
theorem et_23 : ElemTy Tryz.prog 23 59 5 64 (.agg #[(.string ⟨#[]⟩), (.string ⟨#[]⟩), (.string ⟨#[]⟩), (.int .i64 0), (.int .i64 0)]) := ⟨by kernel_rfl, by kernel_rfl, by kernel_rfl, by decide⟩
theorem et_24 : ElemTy Tryz.prog 24 65 7 96 (.agg #[(.string ⟨#[]⟩), (.string ⟨#[]⟩), (.string ⟨#[]⟩), (.int .i64 0), (.int .i64 0), (.int .i64 0), (.slice none 0 0)]) := ⟨by kernel_rfl, by kernel_rfl, by kernel_rfl, by decide⟩
theorem et_63 : ElemTy Tryz.prog 63 3 1 8 (.int .i64 0) := ⟨by kernel_rfl, by kernel_rfl, by kernel_rfl, by decide⟩
theorem fo_26_0 : fieldOff Tryz.prog 26 0 = some 0 := by kernel_rfl
theorem fo_26_1 : fieldOff Tryz.prog 26 1 = some 1 := by kernel_rfl
theorem fo_26_2 : fieldOff Tryz.prog 26 2 = some 2 := by kernel_rfl
theorem fo_65_0 : fieldOff Tryz.prog 65 0 = some 0 := by kernel_rfl
theorem fo_65_1 : fieldOff Tryz.prog 65 1 = some 1 := by kernel_rfl
theorem fo_65_2 : fieldOff Tryz.prog 65 2 = some 2 := by kernel_rfl
theorem fo_65_3 : fieldOff Tryz.prog 65 3 = some 3 := by kernel_rfl
theorem fo_65_4 : fieldOff Tryz.prog 65 4 = some 4 := by kernel_rfl
theorem fo_65_5 : fieldOff Tryz.prog 65 5 = some 5 := by kernel_rfl
theorem fo_65_6 : fieldOff Tryz.prog 65 6 = some 6 := by kernel_rfl
theorem sc_22 : Scal Tryz.prog 22 := .of (by kernel_rfl)
theorem sc_23 : Scal Tryz.prog 23 := .of (by kernel_rfl)
theorem sc_24 : Scal Tryz.prog 24 := .of (by kernel_rfl)
theorem sc_3 : Scal Tryz.prog 3 := .of (by kernel_rfl)
theorem sc_63 : Scal Tryz.prog 63 := .of (by kernel_rfl)
theorem sc_9 : Scal Tryz.prog 9 := .of (by kernel_rfl)
end TyQA0
open TyQA0


theorem eqT_item : EqT Tryz.prog 62 [.str, .int .i64] := .of (by kernel_rfl)
theorem eq_item (x y : Item) : EqD Tryz.prog 62 x.ds y.ds (decide (x.name = y.name ∧ x.blocks = y.blocks)) := .of eqT_item [.string x.name, .int .i64 x.blocks] [.string y.name, .int .i64 y.blocks] rfl rfl rfl rfl (by simp [sameL, sameV])
theorem eqT_carr : EqT Tryz.prog 59 [.str, .str, .str, .int .i64, .int .i64] := .of (by kernel_rfl)
theorem eq_carr (x y : Carr) : EqD Tryz.prog 59 x.ds y.ds (decide (x.name = y.name ∧ x.place = y.place ∧ x.kind = y.kind ∧ x.made = y.made ∧ x.room = y.room)) := .of eqT_carr [.string x.name, .string x.place, .string x.kind, .int .i64 x.made, .int .i64 x.room] [.string y.name, .string y.place, .string y.kind, .int .i64 y.made, .int .i64 y.room] rfl rfl rfl rfl (by simp [sameL, sameV])
set_option maxRecDepth 100000 in
set_option maxHeartbeats 1000000 in
theorem c_eqItem (l : List Item) : ACall Tryz.prog 41 [.sl (l.map Item.ds), .sl (l.map Item.ds)] (.v (.bool true)) := by
  refine acall_of (n := 26) (ds' := [.v (.bool true)]) Tryz.func41 rfl (by kernel_rfl) rfl [4] rfl rfl ?_
  intro B w0 F0 fr
  refine AWP.bound 0 rfl (fun hbd0 => ?_)
  rw [List.length_map] at hbd0
  refine AWP.seq (AWP.region ?_)
  refine AOps.aD rfl rfl rfl rfl rfl (.nil ?_)
  refine AWP.seq ?_
  refine AWP.seq (AWP.region ?_)
  refine AOps.mD rfl rfl rfl rfl rfl ?_
  refine AOps.step rfl rfl rfl (AOp.lenSl rfl et_22.ht rfl) ?_
  refine AOps.mD rfl rfl rfl rfl rfl ?_
  refine AOps.step rfl rfl rfl (AOp.lenSl rfl et_22.ht rfl) ?_
  refine AOps.step rfl rfl rfl (AOp.neq rfl rfl rfl) (.nil ?_)
  refine AWP.cond rfl (fun h1 => ?_) (fun h1 => ?_)
  · replace h1 := of_decide_eq_true h1
    exact absurd rfl h1
  replace h1 := of_decide_eq_false h1
  refine AWP.skip ?_
  refine AWP.seq ?_
  refine AWP.seq (AWP.region ?_)
  refine AOps.mD rfl rfl rfl rfl rfl ?_
  refine AOps.step rfl rfl rfl (AOp.lenSl rfl et_22.ht rfl) ?_
  refine AOps.mD rfl rfl rfl rfl rfl (.nil ?_)
  refine AWP.block ?_
  refine AWP.loop (G := Nat) (fun k => Env.of [(13, .d (.v (.int .i64 (k : Int)))), (0, .d (.sl (l.map Item.ds))), (1, .d (.sl (l.map Item.ds))), (12, .d (.v (.int .i64 ((l.map Item.ds).length : Int))))]) (fun k => []) (fun k => k ≤ l.length) (fun k => l.length - k) 0 (Nat.zero_le _) (Sub.less ⟨(SLe.of_eq rfl), SLe.refl _, SLe.refl _, SLe.refl _, trivial⟩ (fun _ h => h)) ?_
  intro k hk
  refine AWP.seq (AWP.region ?_)
  refine AOps.step rfl rfl rfl (AOp.lss rfl rfl rfl) (.nil ?_)
  refine AWP.seq ?_
  refine AWP.cond rfl (fun h2 => ?_) (fun h2 => ?_)
  · replace h2 := of_decide_eq_true h2
    rw [List.length_map] at h2
    have hlt : k < l.length := by omega
    refine AWP.skip ?_
    refine AWP.seq ?_
    refine AWP.block ?_
    refine AWP.seq (AWP.region ?_)
    refine AOps.mD rfl rfl rfl rfl rfl ?_
    refine AOps.aD rfl rfl rfl rfl rfl (.nil ?_)
    refine AWP.seq ?_
    refine AWP.draw (by kernel_rfl) (by kernel_rfl) ?_
    refine DRun.step rfl rfl rfl (AOp.moveD rfl rfl) ?_
    refine DRun.step rfl rfl rfl (AOp.moveD rfl rfl) ?_
    refine DRun.step rfl rfl rfl (AOp.indexAddr rfl et_22 rfl rfl k rfl (at_list hlt) rfl) ?_
    refine DRun.step rfl rfl rfl (AOp.loadAgg rfl ag_62 rfl rfl) ?_
    refine DRun.step rfl rfl rfl (AOp.moveD rfl rfl) ?_
    refine DRun.step rfl rfl rfl (AOp.moveD rfl rfl) ?_
    refine DRun.step rfl rfl rfl (AOp.indexAddr rfl et_22 rfl rfl k rfl (at_list hlt) rfl) ?_
    refine DRun.step rfl rfl rfl (AOp.loadAgg rfl ag_62 rfl rfl) ?_
    refine DRun.step rfl rfl rfl (AOp.aggNeq rfl rfl rfl (eq_item _ _)) ?_
    refine DRun.nil ?_
    refine AWP.cond rfl (fun h3 => ?_) (fun h3 => ?_)
    · replace h3 := bnot_t h3; replace h3 := of_decide_eq_false h3
      exact absurd ⟨rfl, rfl⟩ h3
    replace h3 := bnot_f h3; replace h3 := of_decide_eq_true h3
    refine AWP.skip ?_
    refine AWP.region ?_
    refine AOps.step rfl rfl rfl (AOp.add64 rfl rfl rfl (by omega) (by omega)) ?_
    refine AOps.mD rfl rfl rfl rfl rfl (.nil ?_)
    refine ⟨k + 1, (by omega), (by dsimp only; omega), Sub.less ⟨(SLe.of_eq rfl), SLe.refl _, SLe.refl _, SLe.refl _, trivial⟩ (fun _ h => h)⟩
  replace h2 := of_decide_eq_false h2
  refine AWP.exit ?_
  refine AWP.seq (AWP.region ?_)
  refine AOps.aD rfl rfl rfl rfl rfl (.nil ?_)
  refine AWP.ret ?_
  refine ⟨RetD.eq rfl ?_, trivial⟩
  all_goals (rfl)

set_option maxRecDepth 100000 in
set_option maxHeartbeats 1000000 in
theorem c_eqCarr (l : List Carr) : ACall Tryz.prog 42 [.sl (l.map Carr.ds), .sl (l.map Carr.ds)] (.v (.bool true)) := by
  refine acall_of (n := 26) (ds' := [.v (.bool true)]) Tryz.func42 rfl (by kernel_rfl) rfl [4] rfl rfl ?_
  intro B w0 F0 fr
  refine AWP.bound 0 rfl (fun hbd0 => ?_)
  rw [List.length_map] at hbd0
  refine AWP.seq (AWP.region ?_)
  refine AOps.aD rfl rfl rfl rfl rfl (.nil ?_)
  refine AWP.seq ?_
  refine AWP.seq (AWP.region ?_)
  refine AOps.mD rfl rfl rfl rfl rfl ?_
  refine AOps.step rfl rfl rfl (AOp.lenSl rfl et_23.ht rfl) ?_
  refine AOps.mD rfl rfl rfl rfl rfl ?_
  refine AOps.step rfl rfl rfl (AOp.lenSl rfl et_23.ht rfl) ?_
  refine AOps.step rfl rfl rfl (AOp.neq rfl rfl rfl) (.nil ?_)
  refine AWP.cond rfl (fun h1 => ?_) (fun h1 => ?_)
  · replace h1 := of_decide_eq_true h1
    exact absurd rfl h1
  replace h1 := of_decide_eq_false h1
  refine AWP.skip ?_
  refine AWP.seq ?_
  refine AWP.seq (AWP.region ?_)
  refine AOps.mD rfl rfl rfl rfl rfl ?_
  refine AOps.step rfl rfl rfl (AOp.lenSl rfl et_23.ht rfl) ?_
  refine AOps.mD rfl rfl rfl rfl rfl (.nil ?_)
  refine AWP.block ?_
  refine AWP.loop (G := Nat) (fun k => Env.of [(13, .d (.v (.int .i64 (k : Int)))), (0, .d (.sl (l.map Carr.ds))), (1, .d (.sl (l.map Carr.ds))), (12, .d (.v (.int .i64 ((l.map Carr.ds).length : Int))))]) (fun k => []) (fun k => k ≤ l.length) (fun k => l.length - k) 0 (Nat.zero_le _) (Sub.less ⟨(SLe.of_eq rfl), SLe.refl _, SLe.refl _, SLe.refl _, trivial⟩ (fun _ h => h)) ?_
  intro k hk
  refine AWP.seq (AWP.region ?_)
  refine AOps.step rfl rfl rfl (AOp.lss rfl rfl rfl) (.nil ?_)
  refine AWP.seq ?_
  refine AWP.cond rfl (fun h2 => ?_) (fun h2 => ?_)
  · replace h2 := of_decide_eq_true h2
    rw [List.length_map] at h2
    have hlt : k < l.length := by omega
    refine AWP.skip ?_
    refine AWP.seq ?_
    refine AWP.block ?_
    refine AWP.seq (AWP.region ?_)
    refine AOps.mD rfl rfl rfl rfl rfl ?_
    refine AOps.aD rfl rfl rfl rfl rfl (.nil ?_)
    refine AWP.seq ?_
    refine AWP.draw (by kernel_rfl) (by kernel_rfl) ?_
    refine DRun.step rfl rfl rfl (AOp.moveD rfl rfl) ?_
    refine DRun.step rfl rfl rfl (AOp.moveD rfl rfl) ?_
    refine DRun.step rfl rfl rfl (AOp.indexAddr rfl et_23 rfl rfl k rfl (at_list hlt) rfl) ?_
    refine DRun.step rfl rfl rfl (AOp.loadAgg rfl ag_59 rfl rfl) ?_
    refine DRun.step rfl rfl rfl (AOp.moveD rfl rfl) ?_
    refine DRun.step rfl rfl rfl (AOp.moveD rfl rfl) ?_
    refine DRun.step rfl rfl rfl (AOp.indexAddr rfl et_23 rfl rfl k rfl (at_list hlt) rfl) ?_
    refine DRun.step rfl rfl rfl (AOp.loadAgg rfl ag_59 rfl rfl) ?_
    refine DRun.step rfl rfl rfl (AOp.aggNeq rfl rfl rfl (eq_carr _ _)) ?_
    refine DRun.nil ?_
    refine AWP.cond rfl (fun h3 => ?_) (fun h3 => ?_)
    · replace h3 := bnot_t h3; replace h3 := of_decide_eq_false h3
      exact absurd ⟨rfl, rfl, rfl, rfl, rfl⟩ h3
    replace h3 := bnot_f h3; replace h3 := of_decide_eq_true h3
    refine AWP.skip ?_
    refine AWP.region ?_
    refine AOps.step rfl rfl rfl (AOp.add64 rfl rfl rfl (by omega) (by omega)) ?_
    refine AOps.mD rfl rfl rfl rfl rfl (.nil ?_)
    refine ⟨k + 1, (by omega), (by dsimp only; omega), Sub.less ⟨(SLe.of_eq rfl), SLe.refl _, SLe.refl _, SLe.refl _, trivial⟩ (fun _ h => h)⟩
  replace h2 := of_decide_eq_false h2
  refine AWP.exit ?_
  refine AWP.seq (AWP.region ?_)
  refine AOps.aD rfl rfl rfl rfl rfl (.nil ?_)
  refine AWP.ret ?_
  refine ⟨RetD.eq rfl ?_, trivial⟩
  all_goals (rfl)

set_option maxRecDepth 100000 in
set_option maxHeartbeats 1000000 in
theorem c_eqInt (l : List Int) : ACall Tryz.prog 96 [.sl (l.map intD), .sl (l.map intD)] (.v (.bool true)) := by
  refine acall_of (n := 26) (ds' := [.v (.bool true)]) Tryz.func96 rfl (by kernel_rfl) rfl [4] rfl rfl ?_
  intro B w0 F0 fr
  refine AWP.bound 0 rfl (fun hbd0 => ?_)
  rw [List.length_map] at hbd0
  refine AWP.seq (AWP.region ?_)
  refine AOps.aD rfl rfl rfl rfl rfl (.nil ?_)
  refine AWP.seq ?_
  refine AWP.seq (AWP.region ?_)
  refine AOps.mD rfl rfl rfl rfl rfl ?_
  refine AOps.step rfl rfl rfl (AOp.lenSl rfl et_63.ht rfl) ?_
  refine AOps.mD rfl rfl rfl rfl rfl ?_
  refine AOps.step rfl rfl rfl (AOp.lenSl rfl et_63.ht rfl) ?_
  refine AOps.step rfl rfl rfl (AOp.neq rfl rfl rfl) (.nil ?_)
  refine AWP.cond rfl (fun h1 => ?_) (fun h1 => ?_)
  · replace h1 := of_decide_eq_true h1
    exact absurd rfl h1
  replace h1 := of_decide_eq_false h1
  refine AWP.skip ?_
  refine AWP.seq ?_
  refine AWP.seq (AWP.region ?_)
  refine AOps.mD rfl rfl rfl rfl rfl ?_
  refine AOps.step rfl rfl rfl (AOp.lenSl rfl et_63.ht rfl) ?_
  refine AOps.mD rfl rfl rfl rfl rfl (.nil ?_)
  refine AWP.block ?_
  refine AWP.loop (G := Nat) (fun k => Env.of [(13, .d (.v (.int .i64 (k : Int)))), (0, .d (.sl (l.map intD))), (1, .d (.sl (l.map intD))), (12, .d (.v (.int .i64 ((l.map intD).length : Int))))]) (fun k => []) (fun k => k ≤ l.length) (fun k => l.length - k) 0 (Nat.zero_le _) (Sub.less ⟨(SLe.of_eq rfl), SLe.refl _, SLe.refl _, SLe.refl _, trivial⟩ (fun _ h => h)) ?_
  intro k hk
  refine AWP.seq (AWP.region ?_)
  refine AOps.step rfl rfl rfl (AOp.lss rfl rfl rfl) (.nil ?_)
  refine AWP.seq ?_
  refine AWP.cond rfl (fun h2 => ?_) (fun h2 => ?_)
  · replace h2 := of_decide_eq_true h2
    rw [List.length_map] at h2
    have hlt : k < l.length := by omega
    refine AWP.skip ?_
    refine AWP.seq ?_
    refine AWP.block ?_
    refine AWP.seq (AWP.region ?_)
    refine AOps.mD rfl rfl rfl rfl rfl ?_
    refine AOps.aD rfl rfl rfl rfl rfl (.nil ?_)
    refine AWP.seq ?_
    refine AWP.draw (by kernel_rfl) (by kernel_rfl) ?_
    refine DRun.step rfl rfl rfl (AOp.moveD rfl rfl) ?_
    refine DRun.step rfl rfl rfl (AOp.moveD rfl rfl) ?_
    refine DRun.step rfl rfl rfl (AOp.indexAddr rfl et_63 rfl rfl k rfl (at_list hlt) rfl) ?_
    refine DRun.step rfl rfl rfl (AOp.load rfl sc_3 rfl) ?_
    refine DRun.step rfl rfl rfl (AOp.moveD rfl rfl) ?_
    refine DRun.step rfl rfl rfl (AOp.moveD rfl rfl) ?_
    refine DRun.step rfl rfl rfl (AOp.indexAddr rfl et_63 rfl rfl k rfl (at_list hlt) rfl) ?_
    refine DRun.step rfl rfl rfl (AOp.load rfl sc_3 rfl) ?_
    refine DRun.step rfl rfl rfl (AOp.neq rfl rfl rfl) ?_
    refine DRun.nil ?_
    refine AWP.cond rfl (fun h3 => ?_) (fun h3 => ?_)
    · replace h3 := of_decide_eq_true h3
      exact absurd rfl h3
    replace h3 := of_decide_eq_false h3
    refine AWP.skip ?_
    refine AWP.region ?_
    refine AOps.step rfl rfl rfl (AOp.add64 rfl rfl rfl (by omega) (by omega)) ?_
    refine AOps.mD rfl rfl rfl rfl rfl (.nil ?_)
    refine ⟨k + 1, (by omega), (by dsimp only; omega), Sub.less ⟨(SLe.of_eq rfl), SLe.refl _, SLe.refl _, SLe.refl _, trivial⟩ (fun _ h => h)⟩
  replace h2 := of_decide_eq_false h2
  refine AWP.exit ?_
  refine AWP.seq (AWP.region ?_)
  refine AOps.aD rfl rfl rfl rfl rfl (.nil ?_)
  refine AWP.ret ?_
  refine ⟨RetD.eq rfl ?_, trivial⟩
  all_goals (rfl)

set_option maxRecDepth 100000 in
set_option maxHeartbeats 1000000 in
theorem c_sameC (c : Cpy) : ACall Tryz.prog 43 [.agg c.ds, .agg c.ds] (.v (.bool true)) := by
  refine acall_of (n := 52) (ds' := [.v (.bool true)]) Tryz.func43 rfl (by kernel_rfl) rfl [4] rfl rfl ?_
  intro B w0 F0 fr
  refine AWP.seq (AWP.region ?_)
  refine AOps.step rfl rfl rfl (AOp.box rfl rfl rfl) ?_
  refine AOps.step rfl rfl rfl (AOp.box rfl rfl rfl) ?_
  refine AOps.aD rfl rfl rfl rfl rfl (.nil ?_)
  refine AWP.seq (AWP.region ?_)
  refine AOps.step rfl rfl rfl (AOp.fieldAddr rfl fo_65_0 rfl) ?_
  refine AOps.step rfl rfl rfl (AOp.load rfl sc_9 rfl) ?_
  refine AOps.step rfl rfl rfl (AOp.fieldAddr rfl fo_65_0 rfl) ?_
  refine AOps.step rfl rfl rfl (AOp.load rfl sc_9 rfl) ?_
  refine AOps.step rfl rfl rfl (AOp.seql rfl rfl rfl) ?_
  refine AOps.mD rfl rfl rfl rfl rfl ?_
  refine AOps.split 10 rfl (fun g1 => ?_) (fun g1 => ?_)
  · replace g1 := of_decide_eq_true g1
    refine AOps.step ⟨10, rfl, .inl ⟨_, rfl, rfl⟩⟩ rfl rfl (AOp.fieldAddr rfl fo_65_1 rfl) ?_
    refine AOps.step ⟨10, rfl, .inl ⟨_, rfl, rfl⟩⟩ rfl rfl (AOp.load rfl sc_9 rfl) ?_
    refine AOps.step ⟨10, rfl, .inl ⟨_, rfl, rfl⟩⟩ rfl rfl (AOp.fieldAddr rfl fo_65_1 rfl) ?_
    refine AOps.step ⟨10, rfl, .inl ⟨_, rfl, rfl⟩⟩ rfl rfl (AOp.load rfl sc_9 rfl) ?_
    refine AOps.step ⟨10, rfl, .inl ⟨_, rfl, rfl⟩⟩ rfl rfl (AOp.seql rfl rfl rfl) ?_
    refine AOps.step rfl rfl rfl (AOp.pickT rfl rfl rfl) ?_
    refine AOps.mD rfl rfl rfl rfl rfl ?_
    refine AOps.split 17 rfl (fun g2 => ?_) (fun g2 => ?_)
    · replace g2 := of_decide_eq_true g2
      refine AOps.step ⟨17, rfl, .inl ⟨_, rfl, rfl⟩⟩ rfl rfl (AOp.fieldAddr rfl fo_65_2 rfl) ?_
      refine AOps.step ⟨17, rfl, .inl ⟨_, rfl, rfl⟩⟩ rfl rfl (AOp.load rfl sc_9 rfl) ?_
      refine AOps.step ⟨17, rfl, .inl ⟨_, rfl, rfl⟩⟩ rfl rfl (AOp.fieldAddr rfl fo_65_2 rfl) ?_
      refine AOps.step ⟨17, rfl, .inl ⟨_, rfl, rfl⟩⟩ rfl rfl (AOp.load rfl sc_9 rfl) ?_
      refine AOps.step ⟨17, rfl, .inl ⟨_, rfl, rfl⟩⟩ rfl rfl (AOp.seql rfl rfl rfl) ?_
      refine AOps.step rfl rfl rfl (AOp.pickT rfl rfl rfl) ?_
      refine AOps.mD rfl rfl rfl rfl rfl ?_
      refine AOps.split 24 rfl (fun g3 => ?_) (fun g3 => ?_)
      · replace g3 := of_decide_eq_true g3
        refine AOps.step ⟨24, rfl, .inl ⟨_, rfl, rfl⟩⟩ rfl rfl (AOp.fieldAddr rfl fo_65_3 rfl) ?_
        refine AOps.step ⟨24, rfl, .inl ⟨_, rfl, rfl⟩⟩ rfl rfl (AOp.load rfl sc_3 rfl) ?_
        refine AOps.step ⟨24, rfl, .inl ⟨_, rfl, rfl⟩⟩ rfl rfl (AOp.fieldAddr rfl fo_65_3 rfl) ?_
        refine AOps.step ⟨24, rfl, .inl ⟨_, rfl, rfl⟩⟩ rfl rfl (AOp.load rfl sc_3 rfl) ?_
        refine AOps.step ⟨24, rfl, .inl ⟨_, rfl, rfl⟩⟩ rfl rfl (AOp.eql rfl rfl rfl) ?_
        refine AOps.step rfl rfl rfl (AOp.pickT rfl rfl rfl) ?_
        refine AOps.mD rfl rfl rfl rfl rfl ?_
        refine AOps.split 31 rfl (fun g4 => ?_) (fun g4 => ?_)
        · replace g4 := of_decide_eq_true g4
          refine AOps.step ⟨31, rfl, .inl ⟨_, rfl, rfl⟩⟩ rfl rfl (AOp.fieldAddr rfl fo_65_4 rfl) ?_
          refine AOps.step ⟨31, rfl, .inl ⟨_, rfl, rfl⟩⟩ rfl rfl (AOp.load rfl sc_3 rfl) ?_
          refine AOps.step ⟨31, rfl, .inl ⟨_, rfl, rfl⟩⟩ rfl rfl (AOp.fieldAddr rfl fo_65_4 rfl) ?_
          refine AOps.step ⟨31, rfl, .inl ⟨_, rfl, rfl⟩⟩ rfl rfl (AOp.load rfl sc_3 rfl) ?_
          refine AOps.step ⟨31, rfl, .inl ⟨_, rfl, rfl⟩⟩ rfl rfl (AOp.eql rfl rfl rfl) ?_
          refine AOps.step rfl rfl rfl (AOp.pickT rfl rfl rfl) ?_
          refine AOps.mD rfl rfl rfl rfl rfl ?_
          refine AOps.split 38 rfl (fun g5 => ?_) (fun g5 => ?_)
          · replace g5 := of_decide_eq_true g5
            refine AOps.step ⟨38, rfl, .inl ⟨_, rfl, rfl⟩⟩ rfl rfl (AOp.fieldAddr rfl fo_65_5 rfl) ?_
            refine AOps.step ⟨38, rfl, .inl ⟨_, rfl, rfl⟩⟩ rfl rfl (AOp.load rfl sc_3 rfl) ?_
            refine AOps.step ⟨38, rfl, .inl ⟨_, rfl, rfl⟩⟩ rfl rfl (AOp.fieldAddr rfl fo_65_5 rfl) ?_
            refine AOps.step ⟨38, rfl, .inl ⟨_, rfl, rfl⟩⟩ rfl rfl (AOp.load rfl sc_3 rfl) ?_
            refine AOps.step ⟨38, rfl, .inl ⟨_, rfl, rfl⟩⟩ rfl rfl (AOp.eql rfl rfl rfl) ?_
            refine AOps.step rfl rfl rfl (AOp.pickT rfl rfl rfl) ?_
            refine AOps.mD rfl rfl rfl rfl rfl ?_
            refine AOps.split 45 rfl (fun g6 => ?_) (fun g6 => ?_)
            · replace g6 := of_decide_eq_true g6
              refine AOps.step ⟨45, rfl, .inl ⟨_, rfl, rfl⟩⟩ rfl rfl (AOp.fieldAddr rfl fo_65_6 rfl) ?_
              refine AOps.step ⟨45, rfl, .inl ⟨_, rfl, rfl⟩⟩ rfl rfl (AOp.load rfl sc_63 rfl) ?_
              refine AOps.step ⟨45, rfl, .inl ⟨_, rfl, rfl⟩⟩ rfl rfl (AOp.fieldAddr rfl fo_65_6 rfl) ?_
              refine AOps.step ⟨45, rfl, .inl ⟨_, rfl, rfl⟩⟩ rfl rfl (AOp.load rfl sc_63 rfl) ?_
              refine AOps.step ⟨45, rfl, .inl ⟨_, rfl, rfl⟩⟩ rfl rfl (AOp.call rfl (.cons (ArgOk.rfl' rfl) (.cons (ArgOk.rfl' rfl) .nil)) (c_eqInt _)) ?_
              refine AOps.step rfl rfl rfl (AOp.pickT rfl rfl rfl) ?_
              refine AOps.aD rfl rfl rfl rfl rfl (.nil ?_)
              refine AWP.ret ?_
              refine ⟨RetD.eq rfl ?_, trivial⟩
              all_goals (simp)
            replace g6 := of_decide_eq_false g6
            exact absurd rfl g6
          replace g5 := of_decide_eq_false g5
          exact absurd rfl g5
        replace g4 := of_decide_eq_false g4
        exact absurd rfl g4
      replace g3 := of_decide_eq_false g3
      exact absurd rfl g3
    replace g2 := of_decide_eq_false g2
    exact absurd rfl g2
  replace g1 := of_decide_eq_false g1
  exact absurd rfl g1

set_option maxRecDepth 100000 in
set_option maxHeartbeats 1000000 in
theorem c_sameV (v : Vlt) (hl : v.copies.length ≤ 100000) : ACall Tryz.prog 11 [.agg v.ds, .agg v.ds] (.v (.bool true)) := by
  refine acall_of (n := 48) (ds' := [.v (.bool true)]) Tryz.func11 rfl (by kernel_rfl) rfl [4] rfl rfl ?_
  intro B w0 F0 fr
  refine AWP.seq (AWP.region ?_)
  refine AOps.step rfl rfl rfl (AOp.box rfl rfl rfl) ?_
  refine AOps.step rfl rfl rfl (AOp.box rfl rfl rfl) ?_
  refine AOps.aD rfl rfl rfl rfl rfl (.nil ?_)
  refine AWP.seq ?_
  refine AWP.seq (AWP.region ?_)
  refine AOps.step rfl rfl rfl (AOp.fieldAddr rfl fo_26_0 rfl) ?_
  refine AOps.step rfl rfl rfl (AOp.load rfl sc_22 rfl) ?_
  refine AOps.step rfl rfl rfl (AOp.fieldAddr rfl fo_26_0 rfl) ?_
  refine AOps.step rfl rfl rfl (AOp.load rfl sc_22 rfl) ?_
  refine AOps.step rfl rfl rfl (AOp.call rfl (.cons (ArgOk.rfl' rfl) (.cons (ArgOk.rfl' rfl) .nil)) (c_eqItem _)) ?_
  refine AOps.step rfl rfl rfl (AOp.not rfl rfl) ?_
  refine AOps.mD rfl rfl rfl rfl rfl ?_
  refine AOps.step ⟨12, rfl, .inl ⟨_, rfl, rfl⟩⟩ rfl rfl (AOp.fieldAddr rfl fo_26_1 rfl) ?_
  refine AOps.step ⟨12, rfl, .inl ⟨_, rfl, rfl⟩⟩ rfl rfl (AOp.load rfl sc_23 rfl) ?_
  refine AOps.step ⟨12, rfl, .inl ⟨_, rfl, rfl⟩⟩ rfl rfl (AOp.fieldAddr rfl fo_26_1 rfl) ?_
  refine AOps.step ⟨12, rfl, .inl ⟨_, rfl, rfl⟩⟩ rfl rfl (AOp.load rfl sc_23 rfl) ?_
  refine AOps.step ⟨12, rfl, .inl ⟨_, rfl, rfl⟩⟩ rfl rfl (AOp.call rfl (.cons (ArgOk.rfl' rfl) (.cons (ArgOk.rfl' rfl) .nil)) (c_eqCarr _)) ?_
  refine AOps.step ⟨12, rfl, .inl ⟨_, rfl, rfl⟩⟩ rfl rfl (AOp.not rfl rfl) ?_
  refine AOps.step rfl rfl rfl (AOp.pickF rfl rfl rfl) ?_
  refine AOps.mD rfl rfl rfl rfl rfl ?_
  refine AOps.step ⟨20, rfl, .inl ⟨_, rfl, rfl⟩⟩ rfl rfl (AOp.fieldAddr rfl fo_26_2 rfl) ?_
  refine AOps.step ⟨20, rfl, .inl ⟨_, rfl, rfl⟩⟩ rfl rfl (AOp.load rfl sc_24 rfl) ?_
  refine AOps.step ⟨20, rfl, .inl ⟨_, rfl, rfl⟩⟩ rfl rfl (AOp.lenSl rfl et_24.ht rfl) ?_
  refine AOps.step ⟨20, rfl, .inl ⟨_, rfl, rfl⟩⟩ rfl rfl (AOp.fieldAddr rfl fo_26_2 rfl) ?_
  refine AOps.step ⟨20, rfl, .inl ⟨_, rfl, rfl⟩⟩ rfl rfl (AOp.load rfl sc_24 rfl) ?_
  refine AOps.step ⟨20, rfl, .inl ⟨_, rfl, rfl⟩⟩ rfl rfl (AOp.lenSl rfl et_24.ht rfl) ?_
  refine AOps.step ⟨20, rfl, .inl ⟨_, rfl, rfl⟩⟩ rfl rfl (AOp.neq rfl rfl rfl) ?_
  refine AOps.step rfl rfl rfl (AOp.pickF rfl rfl rfl) (.nil ?_)
  refine AWP.cond rfl (fun h1 => ?_) (fun h1 => ?_)
  · replace h1 := of_decide_eq_true h1
    exact absurd rfl h1
  replace h1 := of_decide_eq_false h1
  refine AWP.skip ?_
  refine AWP.seq ?_
  refine AWP.seq (AWP.region ?_)
  refine AOps.step rfl rfl rfl (AOp.fieldAddr rfl fo_26_2 rfl) ?_
  refine AOps.step rfl rfl rfl (AOp.load rfl sc_24 rfl) ?_
  refine AOps.step rfl rfl rfl (AOp.lenSl rfl et_24.ht rfl) ?_
  refine AOps.mD rfl rfl rfl rfl rfl (.nil ?_)
  refine AWP.block ?_
  refine AWP.loop (G := Nat) (fun k => Env.of [(32, .d (.v (.int .i64 (k : Int)))), (31, .d (.v (.int .i64 ((v.copies.map Cpy.ds).length : Int)))), (2, .d (.fp v.ds)), (3, .d (.fp v.ds))]) (fun k => []) (fun k => k ≤ v.copies.length) (fun k => v.copies.length - k) 0 (Nat.zero_le _) (Sub.less ⟨(SLe.of_eq rfl), SLe.refl _, SLe.refl _, SLe.refl _, trivial⟩ (fun _ h => h)) ?_
  intro k hk
  refine AWP.seq (AWP.region ?_)
  refine AOps.step rfl rfl rfl (AOp.lss rfl rfl rfl) (.nil ?_)
  refine AWP.seq ?_
  refine AWP.cond rfl (fun h2 => ?_) (fun h2 => ?_)
  · replace h2 := of_decide_eq_true h2
    rw [List.length_map] at h2
    have hlt : k < v.copies.length := by omega
    refine AWP.skip ?_
    refine AWP.seq ?_
    refine AWP.block ?_
    refine AWP.seq (AWP.region ?_)
    refine AOps.mD rfl rfl rfl rfl rfl ?_
    refine AOps.aD rfl rfl rfl rfl rfl (.nil ?_)
    refine AWP.seq ?_
    refine AWP.draw (by kernel_rfl) (by kernel_rfl) ?_
    refine DRun.step rfl rfl rfl (AOp.fieldAddr rfl fo_26_2 rfl) ?_
    refine DRun.step rfl rfl rfl (AOp.load rfl sc_24 rfl) ?_
    refine DRun.step rfl rfl rfl (AOp.moveD rfl rfl) ?_
    refine DRun.step rfl rfl rfl (AOp.indexAddr rfl et_24 rfl rfl k rfl (at_list hlt) rfl) ?_
    refine DRun.step rfl rfl rfl (AOp.loadAgg rfl ag_65 rfl rfl) ?_
    refine DRun.step rfl rfl rfl (AOp.fieldAddr rfl fo_26_2 rfl) ?_
    refine DRun.step rfl rfl rfl (AOp.load rfl sc_24 rfl) ?_
    refine DRun.step rfl rfl rfl (AOp.moveD rfl rfl) ?_
    refine DRun.step rfl rfl rfl (AOp.indexAddr rfl et_24 rfl rfl k rfl (at_list hlt) rfl) ?_
    refine DRun.step rfl rfl rfl (AOp.loadAgg rfl ag_65 rfl rfl) ?_
    refine DRun.step rfl rfl rfl (AOp.call rfl (.cons (ArgOk.rfl' rfl) (.cons (ArgOk.rfl' rfl) .nil)) (c_sameC v.copies[k])) ?_
    refine DRun.step rfl rfl rfl (AOp.not rfl rfl) ?_
    refine DRun.nil ?_
    refine AWP.cond rfl (fun h => nomatch h) (fun _ => ?_)
    refine AWP.skip ?_
    refine AWP.region ?_
    refine AOps.step rfl rfl rfl (AOp.add64 rfl rfl rfl (by omega) (by omega)) ?_
    refine AOps.mD rfl rfl rfl rfl rfl (.nil ?_)
    refine ⟨k + 1, (by omega), (by dsimp only; omega), Sub.less ⟨(SLe.of_eq rfl), SLe.refl _, SLe.refl _, SLe.refl _, trivial⟩ (fun _ h => h)⟩
  replace h2 := of_decide_eq_false h2
  refine AWP.exit ?_
  refine AWP.seq (AWP.region ?_)
  refine AOps.aD rfl rfl rfl rfl rfl (.nil ?_)
  refine AWP.ret ?_
  refine ⟨RetD.eq rfl ?_, trivial⟩
  all_goals (rfl)

end Go.Proofs.YtieccphckobhjaaGreatDoor


namespace Go.Proofs.YtieccphckobhjaaGreatDoor
open Go.RowKit
set_option linter.unusedVariables false

/-! Types. -/
namespace TyW22
theorem ag_26 : AggT Tryz.prog 26 3 := .of (by kernel_rfl)
theorem ag_28 : AggT Tryz.prog 28 6 := .of (by kernel_rfl)
theorem ag_35 : AggT Tryz.prog 35 3 := .of (by kernel_rfl)
theorem et_29 : ElemTy Tryz.prog 29 35 3 48 (.agg #[(.string ⟨#[]⟩), (.string ⟨#[]⟩), (.string ⟨#[]⟩)]) := ⟨by kernel_rfl, by kernel_rfl, by kernel_rfl, by decide⟩
theorem sz_26 : ∀ w, (sizeOf 26).run Tryz.prog w = .ok 3 w := SizeT.of (by kernel_rfl)
theorem zt_26 : (Tryz.prog.info? 26).bind (·.zero) = some (.agg #[(.slice none 0 0), (.slice none 0 0), (.slice none 0 0)]) := by kernel_rfl
end TyW22
open TyW22


theorem eqT_tfr : EqT Tryz.prog 35 [.str, .str, .str] := .of (by kernel_rfl)
theorem eq_tfr (x y : Tfr) : EqD Tryz.prog 35 x.ds y.ds (decide (x.item = y.item ∧ x.frm = y.frm ∧ x.to = y.to)) := .of eqT_tfr [.string x.item, .string x.frm, .string x.to] [.string y.item, .string y.frm, .string y.to] rfl rfl rfl rfl (by simp [sameL, sameV])
theorem applyV_len (v : Vlt) (ts : List Tfr) (day : Int) : (applyV v ts day).copies.length ≤ 100000 := by
  by_cases h : applyFault v ts day = 0
  · unfold applyV
    rw [if_pos h]
    show (applyTo v day ts v.copies).2.length ≤ 100000
    unfold applyFault at h
    by_cases h1 : checkV v ≠ 0
    · rw [if_pos h1] at h; exact absurd h h1
    rw [if_neg h1] at h
    by_cases h2 : ¬ (0 ≤ day ∧ day ≤ 200000)
    · rw [if_pos h2] at h; simp at h
    rw [if_neg h2] at h
    by_cases h3 : (applyTo v day ts v.copies).1 ≠ 0
    · rw [if_pos h3] at h; exact absurd h h3
    rw [if_neg h3] at h
    by_cases h4 : 200 < (applyTo v day ts v.copies).2.length
    · rw [if_pos h4] at h; simp at h
    omega
  · unfold applyV
    rw [if_neg h]
    exact Nat.zero_le _


set_option maxRecDepth 100000 in
set_option maxHeartbeats 1000000 in
theorem c_eqTfr (l : List Tfr) : ACall Tryz.prog 8 [.sl (l.map Tfr.ds), .sl (l.map Tfr.ds)] (.v (.bool true)) := by
  refine acall_of (n := 26) (ds' := [.v (.bool true)]) Tryz.func8 rfl (by kernel_rfl) rfl [4] rfl rfl ?_
  intro B w0 F0 fr
  refine AWP.bound 0 rfl (fun hbd0 => ?_)
  rw [List.length_map] at hbd0
  refine AWP.seq (AWP.region ?_)
  refine AOps.aD rfl rfl rfl rfl rfl (.nil ?_)
  refine AWP.seq ?_
  refine AWP.seq (AWP.region ?_)
  refine AOps.mD rfl rfl rfl rfl rfl ?_
  refine AOps.step rfl rfl rfl (AOp.lenSl rfl et_29.ht rfl) ?_
  refine AOps.mD rfl rfl rfl rfl rfl ?_
  refine AOps.step rfl rfl rfl (AOp.lenSl rfl et_29.ht rfl) ?_
  refine AOps.step rfl rfl rfl (AOp.neq rfl rfl rfl) (.nil ?_)
  refine AWP.cond rfl (fun h1 => ?_) (fun h1 => ?_)
  · replace h1 := of_decide_eq_true h1
    exact absurd rfl h1
  replace h1 := of_decide_eq_false h1
  refine AWP.skip ?_
  refine AWP.seq ?_
  refine AWP.seq (AWP.region ?_)
  refine AOps.mD rfl rfl rfl rfl rfl ?_
  refine AOps.step rfl rfl rfl (AOp.lenSl rfl et_29.ht rfl) ?_
  refine AOps.mD rfl rfl rfl rfl rfl (.nil ?_)
  refine AWP.block ?_
  refine AWP.loop (G := Nat) (fun k => Env.of [(13, .d (.v (.int .i64 (k : Int)))), (0, .d (.sl (l.map Tfr.ds))), (1, .d (.sl (l.map Tfr.ds))), (12, .d (.v (.int .i64 ((l.map Tfr.ds).length : Int))))]) (fun k => []) (fun k => k ≤ l.length) (fun k => l.length - k) 0 (Nat.zero_le _) (Sub.less ⟨(SLe.of_eq rfl), SLe.refl _, SLe.refl _, SLe.refl _, trivial⟩ (fun _ h => h)) ?_
  intro k hk
  refine AWP.seq (AWP.region ?_)
  refine AOps.step rfl rfl rfl (AOp.lss rfl rfl rfl) (.nil ?_)
  refine AWP.seq ?_
  refine AWP.cond rfl (fun h2 => ?_) (fun h2 => ?_)
  · replace h2 := of_decide_eq_true h2
    rw [List.length_map] at h2
    have hlt : k < l.length := by omega
    refine AWP.skip ?_
    refine AWP.seq ?_
    refine AWP.block ?_
    refine AWP.seq (AWP.region ?_)
    refine AOps.mD rfl rfl rfl rfl rfl ?_
    refine AOps.aD rfl rfl rfl rfl rfl (.nil ?_)
    refine AWP.seq ?_
    refine AWP.draw (by kernel_rfl) (by kernel_rfl) ?_
    refine DRun.step rfl rfl rfl (AOp.moveD rfl rfl) ?_
    refine DRun.step rfl rfl rfl (AOp.moveD rfl rfl) ?_
    refine DRun.step rfl rfl rfl (AOp.indexAddr rfl et_29 rfl rfl k rfl (at_list hlt) rfl) ?_
    refine DRun.step rfl rfl rfl (AOp.loadAgg rfl ag_35 rfl rfl) ?_
    refine DRun.step rfl rfl rfl (AOp.moveD rfl rfl) ?_
    refine DRun.step rfl rfl rfl (AOp.moveD rfl rfl) ?_
    refine DRun.step rfl rfl rfl (AOp.indexAddr rfl et_29 rfl rfl k rfl (at_list hlt) rfl) ?_
    refine DRun.step rfl rfl rfl (AOp.loadAgg rfl ag_35 rfl rfl) ?_
    refine DRun.step rfl rfl rfl (AOp.aggNeq rfl rfl rfl (eq_tfr _ _)) ?_
    refine DRun.nil ?_
    refine AWP.cond rfl (fun h3 => ?_) (fun h3 => ?_)
    · replace h3 := bnot_t h3; replace h3 := of_decide_eq_false h3
      exact absurd ⟨rfl, rfl, rfl⟩ h3
    replace h3 := bnot_f h3; replace h3 := of_decide_eq_true h3
    refine AWP.skip ?_
    refine AWP.region ?_
    refine AOps.step rfl rfl rfl (AOp.add64 rfl rfl rfl (by omega) (by omega)) ?_
    refine AOps.mD rfl rfl rfl rfl rfl (.nil ?_)
    refine ⟨k + 1, (by omega), (by dsimp only; omega), Sub.less ⟨(SLe.of_eq rfl), SLe.refl _, SLe.refl _, SLe.refl _, trivial⟩ (fun _ h => h)⟩
  replace h2 := of_decide_eq_false h2
  refine AWP.exit ?_
  refine AWP.seq (AWP.region ?_)
  refine AOps.aD rfl rfl rfl rfl rfl (.nil ?_)
  refine AWP.ret ?_
  refine ⟨RetD.eq rfl ?_, trivial⟩
  all_goals (rfl)

set_option maxRecDepth 100000 in
set_option maxHeartbeats 4000000 in
theorem lawPlans (v : Vlt) (p : Pol) (day : Int) (ts : List Tfr) (hsm : smallV v) : ACall Tryz.prog 3 [.agg v.ds, .agg p.ds, .v (.int .i64 day), .sl (ts.map Tfr.ds)] (.v (.bool true)) := by
  refine acall_of (n := 63) (ds' := [.v (.bool true)]) Tryz.func3 rfl (by kernel_rfl) rfl [8] rfl rfl ?_
  intro B w0 F0 fr
  refine AWP.seq (AWP.region ?_)
  refine AOps.step rfl rfl rfl (AOp.box rfl rfl rfl) ?_
  refine AOps.step rfl rfl rfl (AOp.box rfl rfl rfl) ?_
  refine AOps.aD rfl rfl rfl rfl rfl (.nil ?_)
  refine AWP.seq (AWP.region ?_)
  refine AOps.step rfl rfl rfl (AOp.loadAgg rfl ag_26 rfl rfl) ?_
  refine AOps.step rfl rfl rfl (AOp.loadAgg rfl ag_28 rfl rfl) ?_
  refine AOps.mD rfl rfl rfl rfl rfl ?_
  refine AOps.step rfl rfl rfl (AOp.call rfl (.cons (ArgOk.rfl' rfl) (.cons (ArgOk.rfl' rfl) (.cons (ArgOk.rfl' rfl) .nil))) (c_pPlan v p day hsm)) ?_
  refine AOps.mD rfl rfl rfl rfl rfl ?_
  refine AOps.step rfl rfl rfl (AOp.extract rfl rfl rfl) ?_
  refine AOps.step rfl rfl rfl (AOp.extract rfl rfl rfl) ?_
  refine AOps.aD rfl rfl rfl rfl rfl ?_
  refine AOps.aD rfl rfl rfl rfl rfl (.nil ?_)
  refine AWP.seq (AWP.region ?_)
  refine AOps.step rfl rfl rfl (AOp.loadAgg rfl ag_26 rfl rfl) ?_
  refine AOps.step rfl rfl rfl (AOp.loadAgg rfl ag_28 rfl rfl) ?_
  refine AOps.mD rfl rfl rfl rfl rfl ?_
  refine AOps.step rfl rfl rfl (AOp.call rfl (.cons (ArgOk.rfl' rfl) (.cons (ArgOk.rfl' rfl) (.cons (ArgOk.rfl' rfl) .nil))) (c_rPlan v p day hsm)) ?_
  refine AOps.mD rfl rfl rfl rfl rfl ?_
  refine AOps.step rfl rfl rfl (AOp.extract rfl rfl rfl) ?_
  refine AOps.step rfl rfl rfl (AOp.extract rfl rfl rfl) ?_
  refine AOps.aD rfl rfl rfl rfl rfl ?_
  refine AOps.aD rfl rfl rfl rfl rfl (.nil ?_)
  refine AWP.seq ?_
  refine AWP.seq (AWP.region ?_)
  refine AOps.mD rfl rfl rfl rfl rfl ?_
  refine AOps.mD rfl rfl rfl rfl rfl ?_
  refine AOps.step rfl rfl rfl (AOp.neq rfl rfl rfl) ?_
  refine AOps.mD rfl rfl rfl rfl rfl ?_
  refine AOps.split 32 rfl (fun g1 => ?_) (fun g1 => ?_)
  · replace g1 := of_decide_eq_true g1
    exact absurd rfl g1
  replace g1 := of_decide_eq_false g1
  refine AOps.step ⟨32, rfl, .inl ⟨_, rfl, rfl⟩⟩ rfl rfl (AOp.moveD rfl rfl) ?_
  refine AOps.step ⟨32, rfl, .inl ⟨_, rfl, rfl⟩⟩ rfl rfl (AOp.moveD rfl rfl) ?_
  refine AOps.step ⟨32, rfl, .inl ⟨_, rfl, rfl⟩⟩ rfl rfl (AOp.call rfl (.cons (ArgOk.rfl' rfl) (.cons (ArgOk.rfl' rfl) .nil)) (c_eqTfr (planR v p day))) ?_
  refine AOps.step ⟨32, rfl, .inl ⟨_, rfl, rfl⟩⟩ rfl rfl (AOp.not rfl rfl) ?_
  refine AOps.step rfl rfl rfl (AOp.pickF rfl rfl rfl) (.nil ?_)
  refine AWP.cond rfl (fun h => nomatch h) (fun _ => ?_)
  refine AWP.skip ?_
  refine AWP.seq (AWP.region ?_)
  refine AOps.step rfl rfl rfl (AOp.loadAgg rfl ag_26 rfl rfl) ?_
  refine AOps.mD rfl rfl rfl rfl rfl ?_
  refine AOps.mD rfl rfl rfl rfl rfl ?_
  refine AOps.step rfl rfl rfl (AOp.call rfl (.cons (ArgOk.rfl' rfl) (.cons (ArgOk.rfl' rfl) (.cons (ArgOk.rfl' rfl) .nil))) (c_pApply v ts day hsm)) ?_
  refine AOps.mD rfl rfl rfl rfl rfl ?_
  refine AOps.step rfl rfl rfl (AOp.extract rfl rfl rfl) ?_
  refine AOps.step rfl rfl rfl (AOp.extract rfl rfl rfl) ?_
  refine AOps.alloc 101 rfl rfl rfl rfl zt_26 rfl rfl rfl ?_
  refine AOps.store rfl rfl rfl sz_26 rfl (.head _) rfl rfl rfl (Nat.le_of_ble_eq_true rfl) ?_
  refine AOps.freezeCells 13 (ds := (applyV v ts day).ds) rfl (.head _) ?_
  refine AOps.aD rfl rfl rfl rfl rfl (.nil ?_)
  refine AWP.seq (AWP.region ?_)
  refine AOps.step rfl rfl rfl (AOp.loadAgg rfl ag_26 rfl rfl) ?_
  refine AOps.mD rfl rfl rfl rfl rfl ?_
  refine AOps.mD rfl rfl rfl rfl rfl ?_
  refine AOps.step rfl rfl rfl (AOp.call rfl (.cons (ArgOk.rfl' rfl) (.cons (ArgOk.rfl' rfl) (.cons (ArgOk.rfl' rfl) .nil))) (c_rApply v ts day hsm)) ?_
  refine AOps.mD rfl rfl rfl rfl rfl ?_
  refine AOps.step rfl rfl rfl (AOp.extract rfl rfl rfl) ?_
  refine AOps.step rfl rfl rfl (AOp.extract rfl rfl rfl) ?_
  refine AOps.alloc 102 rfl rfl rfl rfl zt_26 rfl rfl rfl ?_
  refine AOps.store rfl rfl rfl sz_26 rfl (.head _) rfl rfl rfl (Nat.le_of_ble_eq_true rfl) ?_
  refine AOps.freezeCells 14 (ds := (applyV v ts day).ds) rfl (.head _) ?_
  refine AOps.aD rfl rfl rfl rfl rfl (.nil ?_)
  refine AWP.seq (AWP.region ?_)
  refine AOps.mD rfl rfl rfl rfl rfl ?_
  refine AOps.mD rfl rfl rfl rfl rfl ?_
  refine AOps.step rfl rfl rfl (AOp.eql rfl rfl rfl) ?_
  refine AOps.mD rfl rfl rfl rfl rfl ?_
  refine AOps.split 55 rfl (fun g2 => ?_) (fun g2 => ?_)
  · replace g2 := of_decide_eq_true g2
    refine AOps.step ⟨55, rfl, .inl ⟨_, rfl, rfl⟩⟩ rfl rfl (AOp.loadAgg rfl ag_26 rfl rfl) ?_
    refine AOps.step ⟨55, rfl, .inl ⟨_, rfl, rfl⟩⟩ rfl rfl (AOp.loadAgg rfl ag_26 rfl rfl) ?_
    refine AOps.step ⟨55, rfl, .inl ⟨_, rfl, rfl⟩⟩ rfl rfl (AOp.call rfl (.cons (ArgOk.rfl' rfl) (.cons (ArgOk.rfl' rfl) .nil)) (c_sameV (applyV v ts day) (applyV_len v ts day))) ?_
    refine AOps.step rfl rfl rfl (AOp.pickT rfl rfl rfl) ?_
    refine AOps.mD rfl rfl rfl rfl rfl ?_
    refine AOps.step ⟨60, rfl, .inl ⟨_, rfl, rfl⟩⟩ rfl rfl (AOp.call rfl .nil c_awake) ?_
    refine AOps.step rfl rfl rfl (AOp.pickT rfl rfl rfl) ?_
    refine AOps.aD rfl rfl rfl rfl rfl (.nil ?_)
    refine AWP.ret ?_
    refine ⟨RetD.eq rfl ?_, trivial⟩
    all_goals (simp)
  replace g2 := of_decide_eq_false g2
  exact absurd rfl g2

end Go.Proofs.YtieccphckobhjaaGreatDoor
