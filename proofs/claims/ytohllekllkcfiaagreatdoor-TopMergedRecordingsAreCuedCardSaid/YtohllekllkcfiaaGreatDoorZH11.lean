/- Walks and laws over abstract values, merged by tools/merge.py. No statement of the seat. -/
import Derived.Test.YtohllekllkcfiaaGreatDoorZH10
set_option linter.unusedSimpArgs false
set_option linter.unusedVariables false
set_option maxHeartbeats 4000000
set_option maxRecDepth 100000
open List renaming length_map -> ZlM, getElem?_eq_getElem -> ZgE, getElem?_eq_some_iff -> ZgS, getElem_mem -> ZgM, length_take -> ZlT, getElem_append_left -> ZgL, getD_eq_getElem?_getD -> ZgD, getElem_append_right -> ZgR, map_append -> ZmA, length_append -> ZlA, mem_singleton -> ZmS, mem_map -> ZmM
open Array renaming getElem?_eq_some_iff -> ZaS
open Nat renaming le_of_ble_eq_true -> ZnB, zero_le -> ZnZ, le_refl -> ZnR, le_trans -> ZnT
open Bool renaming and_eq_true -> ZbA
namespace Go.Proofs.YtohllekllkcfiaaGreatDoor
section
open Go.RowKit
namespace Ty
theorem ag_47 : AggT Tryz.prog 47 3 := .of (by kernel_rfl)
theorem et_30 : ElemTy Tryz.prog 30 47 3 24 (.agg #[(.int .i64 0), (.int .i64 0), (.int .i64 0)]) := ⟨by kernel_rfl, by kernel_rfl, by kernel_rfl, by decide⟩
theorem fo_47_0 : Yac Tryz.prog 47 0 = some 0 := by kernel_rfl
theorem fo_47_1 : Yac Tryz.prog 47 1 = some 1 := by kernel_rfl
theorem fo_47_2 : Yac Tryz.prog 47 2 = some 2 := by kernel_rfl
theorem sz_47 : ∀ w, (sizeOf 47).run Tryz.prog w = .ok 3 w := SizeT.of (by kernel_rfl)
theorem zt_47 : (Tryz.prog.info? 47).bind (·.zero) = some (.agg #[(.int .i64 0), (.int .i64 0), (.int .i64 0)]) := by kernel_rfl
end Ty
open Ty
open Go.Lib
def onC (p : Int) (c : Cue) : Bool := decide (c.lo <= p /\ p < c.hi)
def renC (a b : Int) (c : Cue) : Int := if c.id = a then b else c.id
def cuTo (l : List Cue) (p a b : Int) (i : Nat) : List Int := ((l.take i).filter (onC p)).map (renC a b)
def cuedV (l : List Cue) (p a b : Int) : List Int := kcomp (cuTo l p a b l.length)
theorem cuTo_yes {l : List Cue} {p a b : Int} {i : Nat} (h : i < l.length) (h2 : (l.getD i default).lo <= p /\ p < (l.getD i default).hi) : cuTo l p a b (i + 1) = cuTo l p a b i ++ [renC a b (l.getD i default)] := by
 have e : l.getD i default = l[i] := by simp [h]
 rw [e] at h2 ⊢;unfold cuTo;rw [List.take_add_one, ZgE h, Option.toList_some, List.filter_append, ZmA];congr 1;rw [List.filter_cons, if_pos (show onC p l[i] = true from decide_eq_true h2)]; rfl
theorem cuTo_no {l : List Cue} {p a b : Int} {i : Nat} (h : i < l.length) (h2 : ¬ ((l.getD i default).lo <= p /\ p < (l.getD i default).hi)) : cuTo l p a b (i + 1) = cuTo l p a b i := by
 have e : l.getD i default = l[i] := by simp [h]
 rw [e] at h2;unfold cuTo;rw [List.take_add_one, ZgE h, Option.toList_some, List.filter_append, ZmA];rw [List.filter_cons, if_neg (by unfold onC; rw [decide_eq_false h2]; decide)];simp
theorem cuTo_len (l : List Cue) (p a b : Int) (i : Nat) : (cuTo l p a b i).length <= l.length := by
 unfold cuTo;rw [ZlM];exact ZnT (List.length_filter_le _ _) (by rw [ZlT]; exact Nat.min_le_right _ _)
theorem c_cuedAt (l : List Cue) (p a b : Int) (hl : l.length <= 1000000) : Yad Tryz.prog 10 [.sl (l.map Cue.ds), .v (.int .i64 p), .v (.int .i64 a), .v (.int .i64 b)] (.sl ((cuedV l p a b).map intD)) := by
 refine Yab (n := 44) (ds' := [.sl ((cuedV l p a b).map intD)]) Tryz.func10 J (by kernel_rfl) J [8] J J ?_;intro B w0 F0 fr;refine .sr (.aN ?_);refine .sr (.aN ?_);refine .seq (.sr (.mA ?_));refine .sA (.lenSl J et_30.ht J) ?_;rw [ZlM];refine .mN ?_;refine .block (.adopt 9 901 3 1 J J ?_);refine .loop (G := Nat) (fun i => Env.of [(15, .iv i), (13, .d (.sl (l.map Cue.ds))), (14, .iv l.length), (1, .d (.v (.int .i64 p))), (2, .d (.v (.int .i64 a))), (3, .d (.v (.int .i64 b))), (9, .own 901)]) (fun i => [(901, .row 3 1 ((cuTo l p a b i).map intD))]) (fun i => i <= l.length) (fun i => l.length - i) 0 (ZnZ _) (Sub.less ⟨U, U, U, U, U, U, U, trivial⟩ (fun _ h => h)) ?_;intro i hi;refine .sr (.sA (.lss J J J) (.nil ?_));refine .seq (.cT J (fun h1 => ?_) fun h1 => ?_)
 ·have hlt : i < l.length := by omega
  have hcl := cuTo_len l p a b i;refine .skip (.seq (.block (.sr (.sA (.indexAddr J et_30 J J i J (Yca hlt) J) ?_))));refine .sA (.loadAgg J ag_47 J J) ?_;refine .alloc 101 J J J J zt_47 J J J ?_;refine .st J J J sz_47 J (.head _) J J J (ZnB J) (.nil ?_);refine .sr (.sA (.fieldAddrP J fo_47_0 J) ?_);refine .sA (.loadP J sc_3 J (.head _) J) ?_;refine .mA ?_;refine .sA (.leq J J J) ?_;refine .mA ?_;refine .sT 23 J (fun g2 => ?_) fun g2 => ?_
  ·refine .sG (.moveD J J) ?_;refine .sG (.fieldAddrP J fo_47_1 J) ?_;refine .sG (.loadP J sc_3 J (.head _) J) ?_;refine .sG (.lss J J J) ?_;refine .sA (.pickT J J J) (.nil ?_);refine .cT J (fun h3 => ?_) fun h3 => ?_
   ·have hcn := cuTo_yes (a := a) (b := b) hlt (show (l.getD i default).lo <= p /\ p < (l.getD i default).hi by omega);refine .sr (.sA (.fieldAddrP J fo_47_2 J) ?_);refine .sA (.loadP J sc_3 J (.head _) J) ?_;refine .aN ?_;refine .seqJ (True) (Env.of [(12, .iv (renC a b (l.getD i default))), (15, .iv i), (13, .d (.sl (l.map Cue.ds))), (14, .iv l.length), (1, .d (.v (.int .i64 p))), (2, .d (.v (.int .i64 a))), (3, .d (.v (.int .i64 b))), (9, .own 901)]) [(901, .row 3 1 ((cuTo l p a b i).map intD))] ?_ (fun _ => ?_)
    ·skip;refine .sr (.mm ?_);refine .sA (.eql J J J) (.nil ?_);refine .cT J (fun h4 => ?_) fun h4 => ?_
     ·have hre : renC a b (l.getD i default) = b := if_pos h4;refine .region (.ma (.nil ?_));refine ⟨?_, Sub.less ⟨(SLe.i64 (by rw [hre])), U, U, U, U, U, U, U, trivial⟩ (fun q h => by rw [ZmS.1 h]; exact (.tail _ (.head _)))⟩;trivial
     have hre : renC a b (l.getD i default) = (l.getD i default).id := if_neg h4;refine .skip ?_;refine ⟨?_, Sub.less ⟨(SLe.i64 (by rw [hre])), U, U, U, U, U, U, U, trivial⟩ (fun q h => by rw [ZmS.1 h]; exact (.tail _ (.head _)))⟩;trivial
    refine .region (.sA (.moveO J J) ?_);refine .mA ?_;refine .sA (.buildSlice J et_34 (.cons J J J .nil) J (by decide)) ?_
    -- append 38
    refine .append rfl rfl rfl rfl et_34 rfl (.head _) rfl (by simp [D.parts]) (by simp only [ZlM, List.length_cons, List.length_nil]; omega) (by simp only [ZlM, List.length_cons, List.length_nil]; omega) ?_;refine .sA (.assignO J J) (.nil ?_);refine .region (.sA (.add64 J J J) ?_);refine .mN ?_;refine ⟨i + 1, (by omega), (by dsimp only; omega), Sub.less ⟨U, U, U, U, U, U, U, trivial⟩ (fun q h => by dsimp only at h; rw [hcn] at h; first | (rw [ZmS.1 h]; exact (.head _)) | (rw [ZmA] at h; rw [ZmS.1 h]; exact (.head _)))⟩
   have hcn := cuTo_no (a := a) (b := b) hlt (show ¬ ((l.getD i default).lo <= p /\ p < (l.getD i default).hi) by omega);refine .skip (.region (.sA (.add64 J J J) ?_));refine .mN ?_;refine ⟨i + 1, (by omega), (by dsimp only; omega), Sub.less ⟨U, U, U, U, U, U, U, trivial⟩ (fun q h => by dsimp only at h; rw [hcn] at h; first | (rw [ZmS.1 h]; exact (.tail _ (.head _))) | (rw [ZmA] at h; rw [ZmS.1 h]; exact (.tail _ (.head _))))⟩
  have hcn := cuTo_no (a := a) (b := b) hlt (show ¬ ((l.getD i default).lo <= p /\ p < (l.getD i default).hi) by omega);refine .pB ?_;refine .pB ?_;refine .sA (.pickF J J J) (.nil ?_);refine .cond J (fun h => nomatch h) (fun _ => ?_);refine .skip (.region (.sA (.add64 J J J) ?_));refine .mN ?_;refine ⟨i + 1, (by omega), (by dsimp only; omega), Sub.less ⟨U, U, U, U, U, U, U, trivial⟩ (fun q h => by dsimp only at h; rw [hcn] at h; first | (rw [ZmS.1 h]; exact (.tail _ (.head _))) | (rw [ZmA] at h; rw [ZmS.1 h]; exact (.tail _ (.head _))))⟩
 obtain rfl : i = l.length := by omega
 have hcl := cuTo_len l p a b l.length;refine .exit (.sr (.sA (.moveO J J) ?_))
 -- turns 901
 refine .callX J J J (.cons U .nil) ((Ygw (cuTo l p a b l.length) (by omega) 3) 901) ⟨(.head _), trivial⟩ J J (fun _ h => nomatch h) ?_;refine .nil ?_;refine .sr (.sA (.moveO J J) ?_)
 -- takes 901
 refine .callX J J J (.cons U .nil) ((YeY (Ybv (cuTo l p a b l.length)) (by rw [(Ybe _).length_eq]; omega) 3) 901) ⟨(.head _), trivial⟩ J J (fun _ h => nomatch h) ?_;rw [show compact (Ybv (cuTo l p a b l.length)) = cuedV l p a b from rfl];refine .aN ?_;refine .ret (rDq J ?_)
 all_goals (first | rfl)
end
section
open Go.RowKit Go.MapKept
def SPut (M : List (Value × S)) (key : Value) (s : S) (M' : List (Value × S)) : Prop :=
 (∃ i d0, M[i]? = some (key, d0) /\ (∀ (j : Nat) (p : Value × S), M[j]? = some p -> p.1 = key -> j = i) /\ M' = M.set i (key, s)) \/ ((∀ p ∈ M, p.1 ≠ key) /\ M' = M ++ [(key, s)])
def SGet (M : List (Value × S)) (key : Value) (z : D) (s : S) : Prop := (∃ i, M[i]? = some (key, s) /\ ∀ (j : Nat) (p : Value × S), M[j]? = some p -> p.1 = key -> j = i) \/ ((∀ p ∈ M, p.1 ≠ key) /\ s = .d z)
theorem Yff {F : Nat -> Prop} {ρ : Nat -> Value} {w : World} {M : List (Value × S)} {es : Array MapEntry} (hl : es.size = M.length) (h : ∀ i (h : i < es.size) (h' : i < M.length), es[i].key = M[i].1 /\ RepS F ρ w es[i].val M[i].2) {j : Nat} {en : MapEntry} (hj : es.toList[j]? = some en) :
 ∃ p, M[j]? = some p /\ en.key = p.1 /\ RepS F ρ w en.val p.2 := by
 rw [Array.getElem?_toList] at hj;obtain ⟨h1, h2⟩ := ZaS.1 hj;refine ⟨M[j]'(by omega), ZgE _, ?_, ?_⟩
 ·rw [<- h2]; exact (h j h1 (by omega)).1
 ·rw [<- h2]; exact (h j h1 (by omega)).2
theorem keepS {F : Nat -> Prop} {ρ : Nat -> Value} {w w' : World} (hk : ∀ {u : Value} {y : D}, Rep F w u y -> Rep F w' u y) {u : Value} {s : S} (h : RepS F ρ w u s) : RepS F ρ w' u s := by
 cases h with
 | d h => exact .d (hk h)
 | own i => exact .own i
 | ptr i off g h => exact .ptr i off g h
 | clo f cs caps h => exact .clo f cs caps (RepCL.to (fun _ => false) (fun _ _ h => hk h) (fun _ _ => rfl) (Cap.anyP_none _) h)
theorem DExact.agg4 (a b c d : Value) : DExact (.agg [.v a, .v b, .v c, .v d]) (.agg #[a, b, c, d]) := fun _ _ _ h => rep_vs (us := [a, b, c, d]) h
section
variable {cx : Cx} {ops : Array Oper} {o : Oper} {rest : List Oper} {e : Env} {σ σ' : Obs} {Q : Post}
theorem EOp.mapUpdateS {t k et : TypeId} {id : Nat} {m x v : Operand} {key : Value} {kd : D} {s : S} {M M' : List (Value × S)}  (hdst : o.dst = none) (ho : o.op = .mapUpdate t m x v) (ht : cx.P.underlying t = some (.map k et)) (K : Maps.Keyed cx.P k) (hm : e.ev m = .own id) (hmem : (id, Ob.mapS M) ∈ σ)
 (hx : e.ev x = .d kd) (hke : DExact kd key) (hv : e.ev v = s) (hg : ∃ l, keyOf cx.P k key = some l) (hgs : ∀ p ∈ M, ∃ l, keyOf cx.P k p.1 = some l) (hp : SPut M key s M') : EOp cx ops o e σ (Obs.upd id (.mapS M') σ) := by
 intro F ρ a w e0 hr ha;have hop : ∀ y ∈ o.op.operands.toList, RepS F ρ w (a.eval y) (e.ev y) := fun y hy => Ya1 fun t ht => ha t (Ybo (by rw [<- ht]; exact hy))
 have r1 := hop m (by rw [ho]; simp [Op.operands]);have r2 := hop x (by rw [ho]; simp [Op.operands]);have r3 := hop v (by rw [ho]; simp [Op.operands]);rw [hm] at r1;rw [hx] at r2;rw [hv] at r3;obtain ⟨b, es, clock, hρ, hB, hF, hh, hMC, hall⟩ := hr.obs.ok _ hmem;have hl := hMC.size;dsimp only at hρ;have hmv : a.eval m = .map (some b) := by rw [<- hρ]; generalize a.eval m = u at r1; cases r1; rfl
 have hxv := hke _ _ _ (Yag r2);have r3' := r3
 have hks : ∀ en ∈ es.toList, ∃ l, keyOf cx.P k en.key = some l := fun en hen => by
  obtain ⟨j, hj⟩ := List.mem_iff_getElem?.1 hen;obtain ⟨p, h1, h2, _⟩ := Yff hl hall hj;rw [h2]; exact hgs p (List.mem_of_getElem? h1)
 obtain ⟨kl, hkl⟩ := hg;have hblk : blk (ρ id) = some b := by rw [hρ]; rfl
 unfold Oper.wp execOp;simp only [ho, hmv, hxv]
 rcases K.find w hkl es.toList hks with ⟨h1, h2⟩ | ⟨j, en, h1, h2, h3⟩
 ·have hrun : (Instr.mapUpdate t (.map (some b)) key (a.eval v)).run cx.P w = .ok () { w with heap := w.heap.setIfInBounds b (.map (es.push { key := key, val := a.eval v, born := clock }) (clock + 1)) } := by
   simp [Instr.mapUpdate, run_underlying ht, MapKept.run_getObj_map hh, K.check w _ hkl, h1, MapKept.run_setObj_map _ hh, Result.andThen]
  rw [Sem.run_bind, hrun];refine ⟨by rw [hdst]; rfl, fun e2 hr2 => ⟨F, ρ, hr2.writeOb hblk hmem hB hF YbX ?_⟩⟩
  have hM' : M' = M ++ [(key, s)] := by
   rcases hp with ⟨i, d0, hi, _, _⟩ | ⟨_, hM'⟩
   ·exfalso;have hil : i < M.length := (ZgS.1 hi).1;have h4 := (hall i (by omega) hil).1;have h5 : M[i] = (key, d0) := (ZgS.1 hi).2;rw [h5] at h4;exact h2 es[i] (by simp) h4
   ·exact hM'
  have hkeep : ∀ {u : Value} {y : D}, Rep F w u y -> Rep F { w with heap := w.heap.setIfInBounds b (.map (es.push { key := key, val := a.eval v, born := clock }) (clock + 1)) } u y := fun h => h.mono (fun _ h => h) fun c hc => by
   have : b ≠ c := fun h => hF (by rw [h]; exact hc)
   simp [this]
  subst hM';refine ⟨b, _, _, hρ, hB, hF, (MapKept.heap_set hh).1, by simpa using hMC.push key (a.eval v), fun i hi hi' => ?_⟩
  by_cases hc : i < es.size
  ·have hc' : i < M.length := by omega
   rw [Array.getElem_push_lt hc, ZgL hc'];exact ⟨(hall i hc hc').1, keepS hkeep (hall i hc hc').2⟩
  ·have : i = es.size := by simp at hi; omega
   subst this;rw [Array.getElem_push_eq, ZgR (by omega)];simp only [hl, Nat.sub_self, List.getElem_cons_zero];exact ⟨trivial, keepS hkeep r3'⟩
 ·have hjs : j < es.size := by simpa using (ZgS.1 h2).1
  have hej : es[j] = en := by have := (ZgS.1 h2).2; simpa using this
  have hrun : (Instr.mapUpdate t (.map (some b)) key (a.eval v)).run cx.P w = .ok () { w with heap := w.heap.setIfInBounds b (.map (es.modify j fun e => { e with key := key, val := a.eval v }) clock) } := by
   have h0 : ((es[j]?).map (·.key)).getD key = key := by rw [Array.getElem?_eq_getElem hjs, hej]; simp [h3]
   simp only [Instr.mapUpdate, run_underlying ht, Sem.run_bind, Result.andThen_ok, MapKept.run_getObj_map hh, K.check w _ hkl, h1, h0, K.stays w hkl, MapKept.run_setObj_map _ hh]
  rw [Sem.run_bind, hrun];refine ⟨by rw [hdst]; rfl, fun e2 hr2 => ⟨F, ρ, hr2.writeOb hblk hmem hB hF YbX ?_⟩⟩;have hjl : j < M.length := by omega
  have hkj : M[j].1 = key := by rw [<- (hall j hjs hjl).1, hej]; exact h3
  have hM' : M' = M.set j (key, s) := by
   rcases hp with ⟨i, d0, hi, hu, hM'⟩ | ⟨hno, _⟩
   ·have := hu j M[j] (ZgE hjl) hkj;rw [this]; exact hM'
   ·exact absurd hkj (hno _ (ZgM hjl))
  have hkeep : ∀ {u : Value} {y : D}, Rep F w u y -> Rep F { w with heap := w.heap.setIfInBounds b (.map (es.modify j fun e => { e with key := key, val := a.eval v }) clock) } u y := fun h => h.mono (fun _ h => h) fun c hc => by
   have : b ≠ c := fun h => hF (by rw [h]; exact hc)
   simp [this]
  subst hM';refine ⟨b, _, _, hρ, hB, hF, (MapKept.heap_set hh).1, by rw [List.length_set]; exact hMC.modify _ _ (fun _ => J), fun i hi hi' => ?_⟩;have hc : i < es.size := by simpa using hi
  have hc' : i < M.length := by omega
  rw [Array.getElem_modify, List.getElem_set]
  by_cases hij : j = i
  ·rw [if_pos hij, if_pos hij];exact ⟨J, keepS hkeep r3'⟩
  ·rw [if_neg hij, if_neg hij];exact ⟨(hall i hc hc').1, keepS hkeep (hall i hc hc').2⟩
theorem AWP.toMapS {c : Code} {id : Nat} (hm : (id, Ob.map []) ∈ σ) (k : AWP cx c e (Obs.upd id (.mapS []) σ) Q) : AWP cx c e σ Q := fun a w ⟨F, ρ, hr⟩ => by
 have ho := hr.obs.ok _ hm;obtain ⟨b, es, clock, h1, h2, h3, h4, h5, h6⟩ := ho;exact k a w ⟨F, ρ, hr.reOb hm ⟨b, es, clock, h1, h2, h3, h4, h5, fun i _ h' => absurd h' (Nat.not_lt_zero i)⟩⟩
end
section
variable {P : Program} {B : Nat} {ops : Array Oper} {o : Oper} {e : Env} {σ : Obs}
theorem AOp.lookupS {x ix : Operand} {t k et : TypeId} {id : Nat} {M : List (Value × S)} {key z : Value} {kd zd : D} {s : S}  (ho : o.op = .lookup t x ix false) (ht : P.underlying t = some (.map k et)) (K : Maps.Keyed P k) (hz : (P.info? et).bind (·.zero) = some z) (hzd : ∀ F w, Rep F w z zd) (hx : e.ev x = .own id) (hm : (id, Ob.mapS M) ∈ σ)
 (hi : e.ev ix = .d kd) (hke : DExact kd key) (hg : ∃ l, keyOf P k key = some l) (hgs : ∀ p ∈ M, ∃ l, keyOf P k p.1 = some l) (hd : SGet M key zd s) : AOp P B ops o e σ s := .value fun F ρ w a hF hr hσ => by
 have h1 := hr x (by rw [ho]; simp [Op.operands]);have h2 := hr ix (by rw [ho]; simp [Op.operands]);rw [hx] at h1;rw [hi] at h2;have hxv := hke _ _ _ (Yag h2);obtain ⟨b, es, clock, hρ, hB, hFb, hh, ⟨hl, _, _⟩, hall⟩ := hσ.ok _ hm;dsimp only at hρ;have hv : a.eval x = .map (some b) := by rw [<- hρ]; generalize a.eval x = u at h1; cases h1; rfl
 have hks : ∀ en ∈ es.toList, ∃ l, keyOf P k en.key = some l := fun en hen => by
  obtain ⟨j, hj⟩ := List.mem_iff_getElem?.1 hen;obtain ⟨p, h1, h2, _⟩ := Yff hl hall hj;rw [h2]; exact hgs p (List.mem_of_getElem? h1)
 obtain ⟨kl, hkl⟩ := hg;obtain ⟨ti, hti, hzz⟩ := Option.bind_eq_some_iff.1 hz;have hprog : (program : Sem Program).run P w = .ok P w := rfl
 rcases K.find w hkl es.toList hks with ⟨h3, h4⟩ | ⟨j, en, h3, h4, h5⟩
 ·refine ⟨z, F, w, ?_, ?_, Ext.refl hF⟩
  ·unfold execOp;simp only [ho, hv, hxv, Sem.run_bind];simp [Instr.lookup, run_underlying ht, MapKept.run_getObj_map hh, K.check w _ hkl, h3, zeroValue, typeInfo, hti, hzz, Result.andThen]
  ·rcases hd with ⟨i, hi2, _⟩ | ⟨_, rfl⟩
   ·exfalso;have hil : i < M.length := (ZgS.1 hi2).1;have h6 := (hall i (by omega) hil).1;rw [(ZgS.1 hi2).2] at h6;exact h4 es[i] (by simp) h6
   ·exact .d (hzd _ _)
 ·have hjs : j < es.size := by simpa using (ZgS.1 h4).1
  have hej : es[j] = en := by have := (ZgS.1 h4).2; simpa using this
  have hjl : j < M.length := by omega
  refine ⟨en.val, F, w, ?_, ?_, Ext.refl hF⟩
  ·unfold execOp;simp only [ho, hv, hxv, Sem.run_bind];simp [Instr.lookup, run_underlying ht, MapKept.run_getObj_map hh, K.check w _ hkl, h3, Result.andThen]
  ·have hkj : M[j].1 = key := by rw [<- (hall j hjs hjl).1, hej]; exact h5
   rcases hd with ⟨i, hi2, hu⟩ | ⟨hno, _⟩
   ·have := hu j M[j] (ZgE hjl) hkj;subst this;have h6 := (hall j hjs hjl).2;rw [(ZgS.1 hi2).2, hej] at h6;exact h6
   ·exact absurd hkj (hno _ (ZgM hjl))
end
section
variable {cx : Cx} {ops : Array Oper} {o : Oper} {rest : List Oper} {e : Env} {σ : Obs} {Q : Post}
theorem R0.freezeRep {F : Nat -> Prop} {ρ : Nat -> Value} {a : Act} {w : World} (h : R0 cx F ρ e σ a w) {t : Nat} {s : S} {d : D} {σs σ' : Obs} (ht : e t = s) (hs : ∀ {B : Nat} {F : Nat -> Prop} {ρ : Nat -> Value} {w : World}, ObsOk B F ρ w σs -> ∀ x, RepS F ρ w x s -> Rep (endF F ρ σs) w x d) (h1 : ∀ p ∈ σs, p ∈ σ) (h2 : ∀ p ∈ σ', p ∈ σ) (h3 : ∀ p ∈ σs, ∀ q ∈ σ', q.1 ≠ p.1) :
 R0 cx (endF F ρ σs) ρ (e.put (some t) (.d d)) σ' a w := by
 have hF2 : ∀ b, endF F ρ σs b -> b < w.heap.size := by
  rintro b (hb | ⟨p, hp, hb⟩)
  ·exact h.lt b hb
  ·exact ((h.obs.ok p (h1 p hp)).blk_lt hb).2
 refine ⟨h.size, h.defers, hF2, fun b hb => .inl (h.base b hb), ?_, h.below, h.hB, fun u => ?_, ?_, h.up, fun p hp => h.kown p (h2 p hp), h.fixed⟩
 ·rintro b (hb | ⟨p, hp, hb⟩)
  ·exact h.new b hb
  ·exact .inr (h.kown p (h1 p hp) b hb)
 ·by_cases hu : u = t
  ·subst hu;rw [Env.put_same];have h4 := h.env u;rw [ht] at h4;exact .d (hs (h.obs.sub h1) _ h4)
  ·rw [Env.put_other _ _ _ _ hu];exact RepS.turn (row := none) (h.env u) h.lt (fun g hg => by simp at hg) ⟨rfl, rfl, rfl, ZnR _, fun _ _ _ => rfl⟩ (fun b hb => .inl hb)
 ·refine ⟨fun p hp => ?_, fun p hp q hq => h.obs.apart p (h2 p hp) q (h2 q hq), fun p hp q hq => h.obs.uniq p (h2 p hp) q (h2 q hq)⟩;refine (h.obs.ok p (h2 p hp)).more h.lt (fun b hb => .inl hb) ?_;rintro g hg (hf | ⟨q, hq, hb⟩)
  ·exact (h.obs.ok p (h2 p hp)).nF hg hf
  ·exact h.obs.apart p (h2 p hp) q (h1 q hq) (h3 q hq p hp) g hg hb
theorem AWP.freezeRep {c : Code} (t : Nat) {s : S} {d : D} (σs σ' : Obs) (ht : e t = s) (hs : ∀ {B : Nat} {F : Nat -> Prop} {ρ : Nat -> Value} {w : World}, ObsOk B F ρ w σs -> ∀ x, RepS F ρ w x s -> Rep (endF F ρ σs) w x d) (h1 : ∀ p ∈ σs, p ∈ σ) (h2 : ∀ p ∈ σ', p ∈ σ) (h3 : ∀ p ∈ σs, ∀ q ∈ σ', q.1 ≠ p.1) (k : AWP cx c (e.put (some t) (.d d)) σ' Q) : AWP cx c e σ Q :=
 fun a w ⟨F, ρ, hr⟩ => k a w ⟨_, ρ, hr.freezeRep ht hs h1 h2 h3⟩
end
theorem mapS_rep {σs : Obs} {id : Nat} {M : List (Value × S)} {L : List (Value × D)} (hm : (id, Ob.mapS M) ∈ σs) (hl : M.length = L.length) (hr : ∀ i (h1 : i < M.length) (h2 : i < L.length), M[i].1 = L[i].1 /\ Snap σs M[i].2 L[i].2) {B : Nat} {F : Nat -> Prop} {ρ : Nat -> Value} {w : World} (hσ : ObsOk B F ρ w σs) (x : Value) (hx : RepS F ρ w x (.own id)) : Rep (endF F ρ σs) w x (.fm L) := by
 cases hx;obtain ⟨b, es, clock, h1, h2, h3, h4, h5, h6⟩ := hσ.ok _ hm;dsimp only at h1;have hs := h5.size;rw [h1];refine .fm b clock es L L (List.Perm.refl _) (.inr ⟨_, hm, by rw [h1]; rfl⟩) h4 (hl ▸ h5) (fun i q1 q2 => ?_) fun i q1 q2 => ?_
 ·rw [(h6 i q1 (by omega)).1, (hr i (by omega) q2).1]
 ·exact (hr i (by omega) q2).2.rep hσ _ (h6 i q1 (by omega)).2
end
section
open Go.RowKit
theorem beqF {a b : Nat} (h : a ≠ b) : Nat.beq a b = false := by rw [Bool.eq_false_iff]; exact fun hh => h (Nat.eq_of_beq_eq_true hh)
def famV (ee sz : Nat) (L : List (List (List D))) : Obs := fam ee sz 1000 L
def vId (i : Nat) : Bool := Nat.blt i 1000
theorem vId_lt {i : Nat} (h : vId i = true) : i < 1000 := by unfold vId at h; simpa using h
section
variable {ee sz : Nat} {L : List (List (List D))} {i : Nat} {o : Ob} {pre : Obs}
theorem vk (h : vId i = true) : Obs.kill i (famV ee sz L) = famV ee sz L := by unfold famV; rw [YfH]
theorem vu (h : vId i = true) : Obs.upd i o (famV ee sz L) = famV ee sz L := by unfold famV; rw [Yd8 (vId_lt h)]
theorem vf (h : vId i = true) : Obs.fresh i (famV ee sz L) = true := by unfold famV; exact fam_fresh (vId_lt h)
theorem YfE : ∀ (a b : Obs), Obs.kill i (a ++ b) = Obs.kill i a ++ Obs.kill i b
 | [], _ => rfl
 | p :: a, b => by
  show (p.1, p.2.kill i) :: Obs.kill i (a ++ b) = _
  rw [YfE a b]; rfl
theorem upd_t {p : Nat × Ob} {l : Obs} (h : Nat.beq p.1 i = true) : Obs.upd i o (p :: l) = (i, o) :: Obs.upd i o l := by
 show (match Nat.beq p.1 i with | true => (i, o) :: Obs.upd i o l | false => p :: Obs.upd i o l) = _
 rw [h]
theorem upd_f {p : Nat × Ob} {l : Obs} (h : Nat.beq p.1 i = false) : Obs.upd i o (p :: l) = p :: Obs.upd i o l := by
 show (match Nat.beq p.1 i with | true => (i, o) :: Obs.upd i o l | false => p :: Obs.upd i o l) = _
 rw [h]
theorem YfV : ∀ (a b : Obs), Obs.upd i o (a ++ b) = Obs.upd i o a ++ Obs.upd i o b
 | [], _ => rfl
 | p :: a, b => by
  rw [List.cons_append]
  cases hb : Nat.beq p.1 i with
  | true => rw [upd_t hb, upd_t hb, YfV a b]; rfl
  | false => rw [upd_f hb, upd_f hb, YfV a b]; rfl
theorem Ygl : ∀ (a b : Obs), Obs.fresh i (a ++ b) = (Obs.fresh i a && Obs.fresh i b)
 | [], _ => by simp [Obs.fresh]
 | p :: a, b => by
  show (!(Nat.beq p.1 i) && Obs.fresh i (a ++ b)) = ((!(Nat.beq p.1 i) && Obs.fresh i a) && Obs.fresh i b)
  rw [Ygl a b, Bool.and_assoc]
theorem fK (h : vId i = true) (hp : Obs.fresh i pre = true) : Obs.fresh i (pre ++ famV ee sz L) = true := by rw [Ygl, hp, vf h]; rfl
end
section
variable {cx : Cx} {ops : Array Oper} {rest : List Oper} {e : Env} {Q : Post} {ee sz : Nat} {L : List (List (List D))} {i : Nat} {ob : Ob} {pre : Obs} {Φ : List Fr} {c : Code}
theorem AOps.nK (h : vId i = true) (k : AOps cx ops rest e (((i, ob) :: Obs.kill i pre) ++ famV ee sz L) Q) : AOps cx ops rest e ((i, ob) :: Obs.kill i (pre ++ famV ee sz L)) Q := by rw [YfE, vk h]; exact k
theorem AOps.nU (h : vId i = true) (k : AOps cx ops rest e (Obs.upd i ob pre ++ famV ee sz L) Q) : AOps cx ops rest e (Obs.upd i ob (pre ++ famV ee sz L)) Q := by rw [YfV, vu h]; exact k
end
theorem killO' {i t : Nat} (h : t ≠ i) : S.kill i (.own t) = .own t := by simp only [S.kill, beqF h]
theorem fam_snoc {e size : Nat} : ∀ {b : Nat} {l : List (List (List D))} {x : List (List D)}, fam e size b (l ++ [x]) = fam e size b l ++ [(b + l.length, .row e size x)]
 | b, [], x => rfl
 | b, y :: l, x => by
  have := fam_snoc (e := e) (size := size) (b := b + 1) (l := l) (x := x);rw [List.cons_append];unfold fam;rw [this, List.length_cons, show b + 1 + l.length = b + (l.length + 1) by omega];rfl
theorem fam_fresh2 {e size : Nat} : ∀ {b : Nat} {l : List (List (List D))} {i : Nat}, b + l.length <= i -> Obs.fresh i (fam e size b l) = true
 | _, [], _, _ => rfl
 | b, y :: l, i, h => by
  have h1 : Nat.beq b i = false := beqF (by simp at h; omega);unfold fam Obs.fresh;rw [h1, fam_fresh2 (b := b + 1) (by simp at h; omega)];rfl
theorem upd_hi {i : Nat} {o : Ob} : ∀ {pre : Obs}, (∀ p ∈ pre, p.1 ≠ i) -> Obs.upd i o pre = pre
 | [], _ => rfl
 | p :: l, h => by rw [upd_f (beqF (h p List.mem_cons_self)), upd_hi fun q hq => h q (List.mem_cons_of_mem _ hq)]
theorem famV_upd {ee sz k : Nat} {L : List (List (List D))} {x : List (List D)} {pre : Obs} (hk : k < L.length) (hp : Obs.allIds (fun i => Nat.blt i 1000) pre = true) : Obs.upd (1000 + k) (.row ee sz x) (pre ++ famV ee sz L) = pre ++ famV ee sz (L.set k x) := by
 rw [YfV, upd_hi fun p h => by have := Obs.allIds_mem hp p h; rw [Nat.blt_eq] at this; omega];unfold famV;rw [fam_upd hk]
theorem famV_get {ee sz k : Nat} {L : List (List (List D))} {x : List (List D)} {σ : Obs} (h : ∀ p ∈ famV ee sz L, p ∈ σ) (hx : L[k]? = some x) : (1000 + k, Ob.row ee sz x) ∈ σ := h _ (fam_get hx)
open Ty
open Go.Lib
def kL (k : Lne) : Value := .agg #[.int .i64 k.track, .string k.media, .int .i64 k.chan, .int .i64 k.off]
theorem kL_inj {a b : Lne} (h : kL a = kL b) : a = b := by
 unfold kL at h;cases a; cases b;simp at h;simp [h]
abbrev Voc := List (Lne × List Clp)
def addV (V : Voc) (c : Clp) : Voc := putG V (YbJ c) ((Yaa V (YbJ c)).getD [] ++ [c])
def Ybn (l : List Clp) (i : Nat) : Voc := (l.take i).foldl addV []
def vocV (l : List Clp) : Voc := Ybn l l.length
theorem YbU {l : List Clp} {i : Nat} (h : i < l.length) : Ybn l (i + 1) = addV (Ybn l i) (l.getD i default) := by
 unfold Ybn;rw [List.take_add_one, ZgE h, Option.toList_some, List.foldl_append];simp [h]
theorem Yft (l : List Clp) : ∀ i, NkG (Ybn l i)
 | 0 => by unfold Ybn NkG; simp
 | i + 1 => by
  by_cases h : i < l.length
  ·rw [YbU h]; exact Ydj (Yft l i) _ _
  ·have e : Ybn l (i + 1) = Ybn l i := by unfold Ybn; rw [List.take_of_length_le (by omega), List.take_of_length_le (by omega)]
   rw [e]; exact Yft l i
def mpS (V : Voc) : List (Value × S) := V.zipIdx.map fun p => (kL p.1.1, S.own (1000 + p.2))
def rwV (V : Voc) : List (List (List D)) := V.map fun p => p.2.map Clp.ds
theorem YcT (V : Voc) : (mpS V).length = V.length := by simp [mpS]
theorem YdS {V : Voc} {j : Nat} (h : j < V.length) : (mpS V)[j]? = some (kL V[j].1, S.own (1000 + j)) := by
 unfold mpS;simp [h]
theorem rwV_at {V : Voc} {j : Nat} (h : j < V.length) : (rwV V)[j]? = some (V[j].2.map Clp.ds) := by simp [rwV, h]
theorem nk_uniq {V : Voc} (h : NkG V) {i j : Nat} (hi : i < V.length) (hj : j < V.length) (e : V[i].1 = V[j].1) : i = j := by
 unfold NkG at h;rw [List.pairwise_iff_getElem] at h
 rcases Nat.lt_trichotomy i j with h1 | h1 | h1
 ·exact absurd e (h i j hi hj h1)
 ·exact h1
 ·exact absurd e.symm (h j i hj hi h1)
theorem mpS_uniq {V : Voc} (h : NkG V) {k : Nat} (hk : k < V.length) (j : Nat) (p : Value × S) (hj : (mpS V)[j]? = some p) (he : p.1 = kL V[k].1) : j = k := by
 have hl : j < V.length := by rw [<- YcT V]; exact (ZgS.1 hj).1
 rw [YdS hl] at hj;rw [<- Option.some.inj hj] at he;exact nk_uniq h hl hk (kL_inj he)
theorem get_in {V : Voc} (h : NkG V) {k : Nat} (hk : k < V.length) (z : D) : SGet (mpS V) (kL V[k].1) z (.own (1000 + k)) := .inl ⟨k, YdS hk, mpS_uniq h hk⟩
theorem has_at {V : Voc} {key : Lne} (h : hasG V key = true) : ∃ k, ∃ hk : k < V.length, V[k].1 = key := by
 obtain ⟨p, hp, he⟩ := hasG_iff.1 h;obtain ⟨k, hk, rfl⟩ := List.mem_iff_getElem.1 hp;exact ⟨k, hk, he⟩
theorem mpS_no {V : Voc} {key : Lne} (h : ¬ hasG V key = true) : ∀ p ∈ mpS V, p.1 ≠ kL key := fun p hp he => by
 obtain ⟨j, hj, rfl⟩ := List.mem_iff_getElem.1 hp;have hl : j < V.length := by rw [<- YcT V]; exact hj
 have h1 := YdS hl;rw [ZgE hj] at h1;have h2 := Option.some.inj h1;rw [h2] at he;exact h (hasG_iff.2 ⟨V[j], ZgM hl, kL_inj he⟩)
theorem get_out {V : Voc} {key : Lne} (h : ¬ hasG V key = true) (z : D) : SGet (mpS V) (kL key) z (.d z) := .inr ⟨mpS_no h, rfl⟩
def mpK (V : Voc) (i : Nat) : List (Value × S) := (mpS V).map fun p => (p.1, p.2.kill i)
theorem put_in {V : Voc} (h : NkG V) {k : Nat} (hk : k < V.length) : SPut (mpK V (1000 + k)) (kL V[k].1) (.own (1000 + k)) (mpS V) := by
 have hat : ∀ j, (hj : j < V.length) -> (mpK V (1000 + k))[j]? = some (kL V[j].1, (S.own (1000 + j)).kill (1000 + k)) := fun j hj => by
  unfold mpK;rw [List.getElem?_map, YdS hj]; rfl
 refine .inl ⟨k, _, hat k hk, fun j p hj he => ?_, ?_⟩
 ·have hl : j < V.length := by
   have := (ZgS.1 hj).1;simpa [mpK, mpS] using this
  rw [hat j hl] at hj;rw [<- Option.some.inj hj] at he;exact nk_uniq h hl hk (kL_inj he)
 ·refine List.ext_getElem? fun j => ?_
  by_cases hj : j < V.length
  ·rw [YdS hj]
   by_cases e : k = j
   ·subst e;rw [List.getElem?_set_self (by simpa [mpK, mpS] using hk)]
   ·rw [List.getElem?_set_ne e, hat j hj];have hb : Nat.beq (1000 + j) (1000 + k) = false := beqF (by omega);simp only [S.kill, hb]
  ·rw [List.getElem?_eq_none (by rw [YcT]; omega), List.getElem?_eq_none (by rw [List.length_set]; simp [mpK, mpS]; omega)]
theorem mpS_snoc (V : Voc) (p : Lne × List Clp) : mpS (V ++ [p]) = mpS V ++ [(kL p.1, .own (1000 + V.length))] := by
 unfold mpS;rw [List.zipIdx_append, ZmA];simp
theorem put_out {V : Voc} {c : Clp} (h : ¬ hasG V (YbJ c) = true) : SPut (mpS V) (kL (YbJ c)) (.own (1000 + V.length)) (mpS (addV V c)) := by
 refine .inr ⟨mpS_no h, ?_⟩;unfold addV putG;rw [if_neg h, mpS_snoc]
theorem find_at {V : Voc} (h : NkG V) {k : Nat} (hk : k < V.length) : Yaa V V[k].1 = some V[k].2 := (YaR h V[k]).1 (ZgM hk)
theorem add_in {V : Voc} (h : NkG V) {k : Nat} (hk : k < V.length) {c : Clp} (he : V[k].1 = YbJ c) : mpS (addV V c) = mpS V /\ rwV (addV V c) = (rwV V).set k (V[k].2.map Clp.ds ++ [c.ds]) := by
 have hh : hasG V (YbJ c) = true := hasG_iff.2 ⟨V[k], ZgM hk, he⟩;have hf : (Yaa V (YbJ c)).getD [] = V[k].2 := by rw [<- he, find_at h hk]; rfl
 have hA : ∀ j, (hj : j < V.length) -> (addV V c)[j]? = some (V[j].1, if j = k then V[k].2 ++ [c] else V[j].2) := fun j hj => by
  unfold addV putG;rw [if_pos hh, List.getElem?_map, ZgE hj, hf]
  by_cases e : j = k
  ·subst e;simp [he]
  ·have hne : ¬ V[j].1 = YbJ c := fun h2 => e (nk_uniq h hj hk (h2.trans he.symm))
   simp [hne, e]
 have hl : (addV V c).length = V.length := by unfold addV putG; rw [if_pos hh, ZlM]
 constructor
 ·refine List.ext_getElem? fun j => ?_
  by_cases hj : j < V.length
  ·have hj2 : j < (addV V c).length := by omega
   have h3 := hA j hj;rw [ZgE hj2] at h3;rw [YdS hj, YdS hj2, Option.some.inj h3]
  ·rw [List.getElem?_eq_none (by rw [YcT]; omega), List.getElem?_eq_none (by rw [YcT]; omega)]
 ·refine List.ext_getElem? fun j => ?_
  by_cases hj : j < V.length
  ·unfold rwV;rw [List.getElem?_map, hA j hj]
   by_cases e : k = j
   ·subst e;rw [List.getElem?_set_self (by simpa using hk)];simp
   ·rw [List.getElem?_set_ne e, List.getElem?_map, ZgE hj];have : ¬ j = k := fun h => e h.symm
    simp [this]
  ·rw [List.getElem?_eq_none (by simp [rwV]; omega), List.getElem?_eq_none (by simp [rwV]; omega)]
theorem add_out {V : Voc} {c : Clp} (h : ¬ hasG V (YbJ c) = true) : rwV (addV V c) = rwV V ++ [[c.ds]] /\ (rwV V).length = V.length := by
 have hf : Yaa V (YbJ c) = none := findG_none.2 (by simpa using h);unfold addV putG rwV;rw [if_neg h, hf];simp
def vocD (V : Voc) : List (Value × D) := V.map fun p => (kL p.1, .sl (p.2.map Clp.ds))
theorem krow_L : (98 : TypeId) < Tryz.prog.types.size := dcT (by kernel_rfl)
theorem kwide_L : (match Tryz.prog.underlying 98 with | some (.array _ _) | some (.struct _) => true | _ => false) = true := by kernel_rfl
theorem kd_L : Maps.Keyed Tryz.prog 98 := Maps.Keyed.of_law (deep_law_laid klaid (m := 3) (by omega) krow_L (by kernel_rfl) kwide_L)
def keyLB (P : Program) (k : TypeId) : Bool := match P.underlying k with
 | some (.struct fs) => (match fs.toList with
  | [f, g, f2, f3] => f.name != "_" && g.name != "_" && f2.name != "_" && f3.name != "_" && f.offset == 0 && g.offset == 1 && f2.offset == 2 && f3.offset == 3 && isI64T (P.underlying f.type) && isStrT (P.underlying g.type) && isI64T (P.underlying f2.type) && isI64T (P.underlying f3.type) && P.cellsOf f.type == 1 && P.cellsOf g.type == 1 && P.cellsOf f2.type == 1 && P.cellsOf f3.type == 1
  | _ => false) && P.cellsOf k == 4
 | _ => false
theorem keyL_ok' {P : Program} {k : TypeId} (h : keyLB P k = true) (hk : P.keyType k = true) (h0 : k < P.types.size) (s : ByteArray) (n n2 n3 : Int) (hs : s.size <= maxLen) (hn : (Lit.int .i64 n).wf = true) (hn2 : (Lit.int .i64 n2).wf = true) (hn3 : (Lit.int .i64 n3).wf = true) : ∃ l, keyOf P k (.agg #[.int .i64 n, .string s, .int .i64 n2, .int .i64 n3]) = some l := by
 unfold keyLB at h
 cases hu : P.underlying k with
 | none => rw [hu] at h; cases h
 | some td =>
  rw [hu] at h;cases td <;> try (cases h; done)
  rename_i fs;simp only [ZbA] at h;obtain ⟨h1, h2⟩ := h
  cases hf : fs.toList with
  | nil => rw [hf] at h1; cases h1
  | cons f r =>
   cases r with
   | nil => rw [hf] at h1; cases h1
   | cons g r =>
    cases r with
    | nil => rw [hf] at h1; cases h1
    | cons f2 r =>
     cases r with
     | nil => rw [hf] at h1; cases h1
     | cons f3 r =>
      cases r with
      | cons _ _ => rw [hf] at h1; cases h1
      | nil =>
       rw [hf] at h1;simp only [ZbA, beq_iff_eq] at h1 h2;obtain ⟨⟨⟨⟨⟨⟨⟨⟨⟨⟨⟨⟨⟨⟨⟨a1, a2⟩, a1'⟩, a1''⟩, a3⟩, a4⟩, a3'⟩, a3''⟩, a5⟩, a6⟩, b5⟩, b6⟩, a7⟩, a8⟩, b7⟩, b8⟩ := h1;have a5' := Yew a5;have a6' := isStrT_eq a6;have b5' := Yew b5;have b6' := Yew b6;obtain ⟨m, hm⟩ : ∃ m, P.types.size = m + 1 := ⟨P.types.size - 1, (Nat.sub_add_cancel (Nat.lt_of_le_of_lt (ZnZ k) h0)).symm⟩
       have hall : fs.all (·.name != "_") = true := by
        rw [<- Array.all_toList, hf];simp only [List.all_cons, List.all_nil, a1, a2, a1', a1'', Bool.and_self]
       unfold keyOf;rw [hu];simp only [hk, Value.formed, hu, h2, Bool.true_and];refine ⟨.string (keyBytes [.int .i64 n, .string s.data.toList, .int .i64 n2, .int .i64 n3]), ?_⟩
       have kf : P.keyLits (m + 1) f.type [.int .i64 n] = some [.int .i64 n] := by
        unfold Program.keyLits;rw [a5'];simp [hn]
       have kf2 : P.keyLits (m + 1) f2.type [.int .i64 n2] = some [.int .i64 n2] := by
        unfold Program.keyLits;rw [b5'];simp [hn2]
       have kf3 : P.keyLits (m + 1) f3.type [.int .i64 n3] = some [.int .i64 n3] := by
        unfold Program.keyLits;rw [b6'];simp [hn3]
       have kg : P.keyLits (m + 1) g.type [.string s] = some [.string s.data.toList] := by
        unfold Program.keyLits;rw [a6'];simp [hs]
       have c1 : (([Value.int .i64 n, .string s, .int .i64 n2, .int .i64 n3] : List Value).drop f.offset).take (P.cellsOf f.type) = [.int .i64 n] := by rw [a3, a7]; rfl
       have c2 : (([Value.int .i64 n, .string s, .int .i64 n2, .int .i64 n3] : List Value).drop g.offset).take (P.cellsOf g.type) = [.string s] := by rw [a4, a8]; rfl
       have c3 : (([Value.int .i64 n, .string s, .int .i64 n2, .int .i64 n3] : List Value).drop f2.offset).take (P.cellsOf f2.type) = [.int .i64 n2] := by rw [a3', b7]; rfl
       have c4 : (([Value.int .i64 n, .string s, .int .i64 n2, .int .i64 n3] : List Value).drop f3.offset).take (P.cellsOf f3.type) = [.int .i64 n3] := by rw [a3'', b8]; rfl
       have hk2 : P.keyLits (m + 1 + 1) k [.int .i64 n, .string s, .int .i64 n2, .int .i64 n3] = some [.int .i64 n, .string s.data.toList, .int .i64 n2, .int .i64 n3] := by
        unfold Program.keyLits;rw [hu];simp only [List.length_cons, List.length_nil, h2, hall, and_self, if_true, hf, List.mapM_cons, List.mapM_nil, c1, c2, c3, c4, kf, kf2, kf3, kg];rfl
       simp [Value.cells, hm, hk2]
theorem kL_ok (k : Lne) (h1 : i64 k.track) (h2 : k.media.size <= maxLen) (h3 : i64 k.chan) (h4 : i64 k.off) : ∃ l, keyOf Tryz.prog 98 (kL k) = some l := keyL_ok' (by kernel_rfl) (by kernel_rfl) krow_L k.media k.track k.chan k.off h2 (wf64 h1) (wf64 h3) (wf64 h4)
theorem Yfs {l : List Clp} : ∀ {i : Nat}, i <= l.length -> ∀ p ∈ Ybn l i, ∃ c ∈ l, p.1 = YbJ c
 | 0, _ => fun p hp => by unfold Ybn at hp; simp at hp
 | i + 1, h => fun p hp => by
  rw [YbU (by omega)] at hp;unfold addV at hp
  rcases putG_in hp with h1 | h1
  ·exact ⟨l.getD i default, by rw [ZgD, ZgE (by omega)]; exact ZgM _, h1⟩
  ·exact Yfs (by omega) p h1
theorem clp_key {c : Clp} {t : Int} (ht : t <= 16) (h : ClpOk c t) : ∃ l, keyOf Tryz.prog 98 (kL (YbJ c)) = some l := by
 have hr := h.rng;unfold Yaz at hr;exact kL_ok _ (by show _ /\ _; unfold YbJ; dsimp only; omega) (nm_len h.name) (by show _ /\ _; unfold YbJ; dsimp only; omega) (by show _ /\ _; unfold YbJ; dsimp only; omega)
theorem YfB {e : Edt} (ok : EdtOk e) {i : Nat} (hi : i <= e.clips.length) : ∀ p ∈ mpS (Ybn e.clips i), ∃ l, keyOf Tryz.prog 98 p.1 = some l := fun p hp => by
 obtain ⟨j, hj, rfl⟩ := List.mem_iff_getElem.1 hp;have hl : j < (Ybn e.clips i).length := by rw [<- YcT]; exact hj
 have h1 := YdS hl;rw [ZgE hj] at h1;rw [Option.some.inj h1];obtain ⟨c, hc, he⟩ := Yfs hi _ (ZgM hl);rw [he];exact clp_key ok.tracks.2 (ok.clips c hc)
theorem mpK_keys {e : Edt} (ok : EdtOk e) {i k : Nat} (hi : i <= e.clips.length) : ∀ p ∈ mpK (Ybn e.clips i) k, ∃ l, keyOf Tryz.prog 98 p.1 = some l := fun p hp => by
 unfold mpK at hp;obtain ⟨q, hq, rfl⟩ := ZmM.1 hp;exact YfB ok hi q hq
theorem mpK_lo {V : Voc} {k : Nat} (hk : k < 1000) : mpK V k = mpS V := by
 unfold mpK;refine (List.map_congr_left fun p hp => ?_).trans (List.map_id _);unfold mpS at hp;obtain ⟨q, hq, rfl⟩ := ZmM.1 hp;show (_, _) = _
 rw [killO' (by omega)]; rfl
theorem mpK_hi {V : Voc} {k : Nat} (hk : 1000 + V.length <= k) : mpK V k = mpS V := by
 unfold mpK;refine (List.map_congr_left fun p hp => ?_).trans (List.map_id _);obtain ⟨j, hj, rfl⟩ := List.mem_iff_getElem.1 hp;have hl : j < V.length := by rw [<- YcT]; exact hj
 have h1 := YdS hl;rw [ZgE hj] at h1;rw [Option.some.inj h1];show (_, _) = _
 rw [killO' (by omega)]; rfl
theorem killM {V : Voc} {k : Nat} (hk : k < 1000) : Obs.kill k [(91, Ob.mapS (mpS V))] = [(91, Ob.mapS (mpS V))] := by
 show [(91, Ob.mapS (mpK V k))] = _
 rw [mpK_lo hk]
theorem YeV {V : Voc} {key : Lne} {v : List Clp} (h : Yaa V key = some v) : ∃ p ∈ V, p.2 = v := by
 unfold Yaa at h;obtain ⟨p, hp, he⟩ := Option.map_eq_some_iff.1 h;exact ⟨p, List.mem_of_find?_eq_some hp, he⟩
theorem putG_in2 {κ β : Type} [DecidableEq κ] {L : List (κ × β)} {k : κ} {v : β} {p : κ × β} (h : p ∈ putG L k v) : p.2 = v \/ p ∈ L := by
 unfold putG at h;split at h
 ·obtain ⟨q, hq, rfl⟩ := ZmM.1 h;split
  ·exact .inl J
  ·exact .inr hq
 ·rcases List.mem_append.1 h with h1 | h1
  ·exact .inr h1
  ·rw [ZmS.1 h1]; exact .inl rfl
theorem voc_len {l : List Clp} : ∀ {i : Nat}, i <= l.length -> ∀ p ∈ Ybn l i, p.2.length <= i
 | 0, _ => fun p hp => by unfold Ybn at hp; simp at hp
 | i + 1, h => fun p hp => by
  rw [YbU (by omega)] at hp;unfold addV at hp
  rcases putG_in2 hp with h1 | h1
  ·rw [h1]
   cases hf : Yaa (Ybn l i) (YbJ (l.getD i default)) with
   | none => simp
   | some v =>
    obtain ⟨q, hq, he⟩ := YeV hf;have := voc_len (by omega) q hq;rw [he] at this;simp; omega
  ·have := voc_len (by omega) p h1;omega
open Go.Lib
theorem zt_cl : (Tryz.prog.info? 27).bind (·.zero) = some (.slice none 0 0) := by kernel_rfl
theorem zd_cl (F : Nat -> Prop) (w : World) : Rep F w (.slice none 0 0) (.v (.slice none 0 0)) := .v _
theorem AOps.eqObs {cx : Cx} {ops : Array Oper} {rest : List Oper} {e : Env} {σ σ' : Obs} {Q : Post} (h : σ = σ') (k : AOps cx ops rest e σ' Q) : AOps cx ops rest e σ Q := h ▸ k
theorem app_in {V : Voc} {k : Nat} {x : List (List D)} {ds : List D} (hk : k < V.length) : Obs.upd (1000 + k) (.row 56 7 x) (Obs.kill (1000 + k) ([(105, .cells (ds.map S.d)), (91, .mapS (mpS V))] ++ famV 56 7 (rwV V))) = [(105, .cells (ds.map S.d)), (91, .mapS (mpK V (1000 + k)))] ++ famV 56 7 ((rwV V).set k x) := by
 have h1 : (ds.map S.d).map (S.kill (1000 + k)) = ds.map S.d := by rw [List.map_map]; rfl
 rw [YfE, show Obs.kill (1000 + k) (famV 56 7 (rwV V)) = famV 56 7 (rwV V) from YfH];show Obs.upd _ _ ([(105, .cells ((ds.map S.d).map (S.kill (1000 + k)))), (91, .mapS (mpK V (1000 + k)))] ++ _) = _
 rw [h1];exact famV_upd (by simp [rwV, hk]) rfl
theorem killO2 {i : Nat} (h : 91 ≠ i) : S.kill i (S.kill i (.own 91)) = .own 91 := by rw [killO' h, killO' h]
theorem rwV_len {V : Voc} : (rwV V).length = V.length := by simp [rwV]
theorem app_fresh {V : Voc} {ds : List D} : Obs.fresh (1000 + V.length) ([(105, .cells (ds.map S.d)), (91, .mapS (mpS V))] ++ famV 56 7 (rwV V)) = true := by
 rw [Ygl, show Obs.fresh (1000 + V.length) (famV 56 7 (rwV V)) = true from fam_fresh2 (by rw [rwV_len]; omega)];have h1 : Nat.beq 105 (1000 + V.length) = false := beqF (by omega);have h2 : Nat.beq 91 (1000 + V.length) = false := beqF (by omega);simp [Obs.fresh, h1, h2]
theorem pre_kill {V : Voc} {ds : List D} : Obs.kill (1000 + V.length) ([(105, .cells (ds.map S.d)), (91, .mapS (mpS V))] ++ famV 56 7 (rwV V)) = [(105, .cells (ds.map S.d)), (91, .mapS (mpS V))] ++ famV 56 7 (rwV V) := by
 have h1 : (ds.map S.d).map (S.kill (1000 + V.length)) = ds.map S.d := by rw [List.map_map]; rfl
 rw [YfE, show Obs.kill (1000 + V.length) (famV 56 7 (rwV V)) = famV 56 7 (rwV V) from YfH];show [(105, Ob.cells ((ds.map S.d).map (S.kill (1000 + V.length)))), (91, .mapS (mpK V (1000 + V.length)))] ++ _ = _
 rw [h1, mpK_hi (ZnR _)]
theorem pre_upd {V : Voc} {ds : List D} {o : Ob} : Obs.upd (1000 + V.length) o ([(105, .cells (ds.map S.d)), (91, .mapS (mpS V))] ++ famV 56 7 (rwV V)) = [(105, .cells (ds.map S.d)), (91, .mapS (mpS V))] ++ famV 56 7 (rwV V) := upd_hi (Obs.fresh_spec app_fresh)
theorem out_upd {V : Voc} {ds : List D} {o m r : Ob} : Obs.upd 91 o ((1000 + V.length, r) :: ([(105, .cells (ds.map S.d)), (91, m)] ++ famV 56 7 (rwV V))) = (1000 + V.length, r) :: ([(105, .cells (ds.map S.d)), (91, o)] ++ famV 56 7 (rwV V)) := by
 rw [upd_f (beqF (by dsimp only; omega)), YfV, show Obs.upd 91 o (famV 56 7 (rwV V)) = famV 56 7 (rwV V) from vu rfl];rfl
theorem out_mem {V W : Voc} {x : List (List D)} {c o : Ob} (hW : rwV W = rwV V ++ [x]) : ∀ p ∈ [(91, o)] ++ famV 56 7 (rwV W), p ∈ (1000 + V.length, .row 56 7 x) :: ([(105, c), (91, o)] ++ famV 56 7 (rwV V)) := fun p hp => by
 rw [hW] at hp;unfold famV at hp ⊢;rw [fam_snoc, rwV_len] at hp;simp only [List.mem_append, List.mem_cons, ZmS, List.not_mem_nil, or_false] at hp ⊢
 rcases hp with h | h | h
 ·exact .inr (.inl (.inr h))
 ·exact .inr (.inr h)
 ·exact .inl h
theorem app_out {V : Voc} {x y : List (List D)} {ds : List D} : Obs.upd (1000 + V.length) (.row 56 7 x) (Obs.kill (1000 + V.length) ((1000 + V.length, .row 56 7 y) :: Obs.kill (1000 + V.length) ([(105, .cells (ds.map S.d)), (91, .mapS (mpS V))] ++ famV 56 7 (rwV V)))) = (1000 + V.length, .row 56 7 x) :: ([(105, .cells (ds.map S.d)), (91, .mapS (mpS V))] ++ famV 56 7 (rwV V)) := by
 rw [pre_kill];show Obs.upd _ _ ((1000 + V.length, .row 56 7 y) :: Obs.kill (1000 + V.length) _) = _
 rw [pre_kill, upd_t (by simp), pre_upd]
theorem voc_snap {V : Voc} {σ : Obs} (hf : ∀ p ∈ famV 56 7 (rwV V), p ∈ σ) : ∀ i (h1 : i < (mpS V).length) (h2 : i < (vocD V).length), (mpS V)[i].1 = (vocD V)[i].1 /\ Snap σ (mpS V)[i].2 (vocD V)[i].2 := fun i h1 h2 => by
 have hl : i < V.length := by rw [<- YcT V]; exact h1
 have h3 := YdS hl;rw [ZgE h1] at h3;have h4 : (vocD V)[i] = (kL V[i].1, .sl (V[i].2.map Clp.ds)) := by simp [vocD]
 rw [Option.some.inj h3, h4];exact ⟨J, Snap.row (famV_get hf (rwV_at hl))⟩
theorem mt_voc : Tryz.prog.underlying 93 = some (.map 98 27) := by kernel_rfl
theorem c_voices (e : Edt) (ok : EdtOk e) : Yad Tryz.prog 35 [.agg e.ds] (.fm (vocD (vocV e.clips))) := by
 refine Yab (n := 26) (ds' := [.fm (vocD (vocV e.clips))]) Tryz.func35 J (by kernel_rfl) J [2] J J ?_;intro B w0 F0 fr;have h300 := ok.le;refine .sr (.sA (.box J J J) ?_);refine .aN ?_;refine .sr (.makeMap 91 J J J J J ?_);refine .sA (.assignO J J) (.nil ?_);refine .seq (.seq (.toMapS (.head _) ?_));refine .region (.fl YeT sc_27 ?_);refine .sA (.lenSl J et_27.ht J) ?_;rw [ZlM];refine .mN ?_;refine .block (.loop (G := Nat) (fun i => Env.of [(10, .iv i), (8, .d (.sl (e.clips.map Clp.ds))), (9, .iv e.clips.length), (3, .own 91)]) (fun i => ([(91, .mapS (mpS (Ybn e.clips i)))] ++ famV 56 7 (rwV (Ybn e.clips i)))) (fun i => i <= e.clips.length) (fun i => e.clips.length - i) 0 (ZnZ _) (Sub.less ⟨U, U, U, U, trivial⟩ (fun p h => h)) ?_);intro i hi;refine .sr (.sA (.lss J J J) (.nil ?_));refine .seq (.cT J (fun h1 => ?_) fun h1 => ?_)
 ·have hlt : i < e.clips.length := by omega
  refine .skip (.seqJ (True) (Env.of [(3, .own 91), (8, .d (.sl (e.clips.map Clp.ds))), (9, .iv e.clips.length), (10, .iv i)]) ([(91, .mapS (mpS (Ybn e.clips (i + 1))))] ++ famV 56 7 (rwV (Ybn e.clips (i + 1)))) ?_ (fun _ => ?_))
  ·skip;refine .block (.seq ?_);skip;refine .region (.sA (.indexAddr J et_27 J J i J (at_c hlt) J) ?_);refine .sA (.loadAgg J Ydx J J) ?_;refine .alloc 105 J J J J zt_56 J J (fK J J) ?_;refine .nK J ?_;refine .st J J J sz_56 J (.head _) J J J (ZnB J) ?_;refine .nU J ?_;refine .nil ?_;rw [killM (by omega)];have hcl := ok.clips _ (cAt_mem hlt);have hck := clp_key ok.tracks.2 hcl;have hnk := Yft e.clips i
   have hsr : -9223372036854775808 <= (cAt e i).src - (cAt e i).pos /\ (cAt e i).src - (cAt e i).pos <= 9223372036854775807 := by
    have := hcl.rng;unfold Yaz at this;omega
   have hnx : Ybn e.clips (i + 1) = addV (Ybn e.clips i) (cAt e i) := YbU hlt
   by_cases hh : hasG (Ybn e.clips i) (YbJ (cAt e i)) = true
   ·obtain ⟨k, hk, hke⟩ := has_at hh;refine .drawFreshL 9 [0] [] FrOk.nil (by kernel_rfl) (by kernel_rfl) (by kernel_rfl) (by kernel_rfl) (by kernel_rfl) ?_;refine .step J J J (.moveO J J) ?_ (hs := trivial);refine .step J J J (.loadPU J Ydx J (.head _) J J) ?_ (hs := trivial);refine .step J J J (.call J (.cons (.rfl' J) .nil) (YfM (cAt e i) hsr)) ?_ (hs := trivial);refine .step J J J (.moveO J J) ?_ (hs := trivial);refine .step J J J (.loadPU J Ydx J (.head _) J J) ?_ (hs := trivial);refine .step J J J (.call J (.cons (.rfl' J) .nil) (YfM (cAt e i) hsr)) ?_ (hs := trivial);refine .step J J J (.lookupS (key := kL (YbJ (cAt e i))) J mt_voc kd_L zt_cl zd_cl J (.tail _ (.head _)) J (DExact.agg4 _ _ _ _) hck (YfB ok (by omega)) (hke ▸ get_in hnk hk _)) ?_ (hs := trivial);refine .step J J J (.loadPU J Ydx J (.head _) J J) ?_ (hs := trivial);refine .step J J J (.buildSlice J et_27 (.cons J J J .nil) J (by decide)) ?_ (hs := trivial);refine .nil trivial ?_;have hln := voc_len (Nat.le_of_lt hlt) _ (ZgM hk);refine .append rfl rfl rfl rfl et_27 rfl (famV_get (fun p hp => .tail _ (.tail _ hp)) (rwV_at hk)) rfl (by simp [D.parts, Clp.ds]) (by simp; omega) (by simp; omega) ?_;refine .eqObs (app_in (ds := (cAt e i).ds) hk) ?_;refine .eff J J (.mapUpdateS (key := kL (YbJ (cAt e i))) J J mt_voc kd_L (killO' (by omega)) (.tail _ (.head _)) J (DExact.agg4 _ _ _ _) J hck (mpK_keys ok (by omega)) (hke ▸ put_in hnk hk)) ?_;refine .nU J ?_;refine .nil ?_;obtain ⟨ha, hb⟩ := add_in hnk hk hke;refine ⟨trivial, Sub.less ⟨SLe.of_eq (killO' (by omega)), U, U, U, trivial⟩ (fun p hp => ?_)⟩;rw [hnx, ha, hb] at hp;exact .tail _ hp
   refine .drawFreshL 9 [0] [] FrOk.nil (by kernel_rfl) (by kernel_rfl) (by kernel_rfl) (by kernel_rfl) (by kernel_rfl) ?_;refine .step J J J (.moveO J J) ?_ (hs := trivial);refine .step J J J (.loadPU J Ydx J (.head _) J J) ?_ (hs := trivial);refine .step J J J (.call J (.cons (.rfl' J) .nil) (YfM (cAt e i) hsr)) ?_ (hs := trivial);refine .step J J J (.moveO J J) ?_ (hs := trivial);refine .step J J J (.loadPU J Ydx J (.head _) J J) ?_ (hs := trivial);refine .step J J J (.call J (.cons (.rfl' J) .nil) (YfM (cAt e i) hsr)) ?_ (hs := trivial);refine .step J J J (.lookupS (key := kL (YbJ (cAt e i))) J mt_voc kd_L zt_cl zd_cl J (.tail _ (.head _)) J (DExact.agg4 _ _ _ _) hck (YfB ok (by omega)) (get_out hh _)) ?_ (hs := trivial);refine .step J J J (.loadPU J Ydx J (.head _) J J) ?_ (hs := trivial);refine .step J J J (.buildSlice J et_27 (.cons J J J .nil) J (by decide)) ?_ (hs := trivial);refine .nil trivial ?_;refine .adopt 20 (1000 + (Ybn e.clips i).length) 56 7 J (app_fresh (ds := (cAt e i).ds)) ?_;refine .append rfl rfl rfl rfl et_27 rfl (.head _) rfl (by simp [D.parts, Clp.ds]) (by simp) (by simp) ?_;refine .eqObs (app_out (ds := (cAt e i).ds)) ?_;refine .eff J J (.mapUpdateS (key := kL (YbJ (cAt e i))) J J mt_voc kd_L (killO2 (by omega)) (.tail _ (.tail _ (.head _))) J (DExact.agg4 _ _ _ _) J hck (YfB ok (by omega)) (put_out hh)) ?_;refine .eqObs out_upd ?_;refine .nil ?_;obtain ⟨hb, hb2⟩ := add_out (c := cAt e i) hh;refine ⟨?_, Sub.less ⟨(SLe.of_eq (killO2 (by omega))), U, U, U, trivial⟩ (fun p hp => by rw [hnx] at hp; exact out_mem hb p hp)⟩;trivial
  refine .region (.sA (.add64 J J J) ?_);refine .mN ?_;refine ⟨i + 1, (by omega), (by dsimp only; omega), Sub.less ⟨U, U, U, U, trivial⟩ (fun _ h => h)⟩
 obtain rfl : i = e.clips.length := by omega
 refine .exit (.seq (.freezeRep 3 (s := .own 91) (d := .fm (vocD (vocV e.clips))) ([(91, .mapS (mpS (vocV e.clips)))] ++ famV 56 7 (rwV (vocV e.clips))) [] rfl (mapS_rep (.head _) (by simp [vocD]; exact YcT _) (voc_snap (fun p hp => .tail _ hp))) (fun p hp => hp) (fun p hp => absurd hp List.not_mem_nil) (fun p hp q hq => absurd hq List.not_mem_nil) ?_));refine .region (.ma (.nil ?_));refine .ret (rDq J ?_)
 all_goals (first | rfl)
namespace Ty
theorem et_149 : ElemTy Tryz.prog 149 93 1 8 (.map none) := ⟨by kernel_rfl, by kernel_rfl, by kernel_rfl, by decide⟩
theorem mt_93 : Tryz.prog.underlying 93 = some (.map 98 27) := by kernel_rfl
theorem sc_93 : Scal Tryz.prog 93 := .of (by kernel_rfl)
end Ty
open Go.Sort Go.Lib
def pkV (L : Voc) (dn : List Nat) : List Lne := dn.filterMap fun i => L[i]?.map (·.1)
theorem pkV_next {L : Voc} {dn : List Nat} {i : Nat} (h : i < L.length) : pkV L (dn ++ [i]) = pkV L dn ++ [L[i].1] := by
 unfold pkV;rw [List.filterMap_append];simp [h]
theorem pkV_len (L : Voc) (dn : List Nat) : (pkV L dn).length <= dn.length := List.length_filterMap_le _ _
def YaI (V : Voc) : List Lne := YaK Yb1 (V.map (·.1))
theorem pkV_range (L : Voc) : ∀ n, n <= L.length -> (List.range n).filterMap (fun i => L[i]?.map (·.1)) = (L.take n).map (·.1)
 | 0, _ => by simp
 | n + 1, h => by
  have h1 : n < L.length := by omega
  rw [List.range_succ, List.filterMap_append, pkV_range L n (by omega), List.take_add_one, ZmA, ZgE h1];simp [h1]
theorem pkV_perm {L : Voc} {dn : List Nat} (hd : dn.Nodup /\ ∀ i ∈ dn, i < L.length) (hall : ∀ i, i < L.length -> i ∈ dn) : (pkV L dn).Perm (L.map (·.1)) := by
 have h1 : dn.Perm (List.range L.length) := (List.perm_ext_iff_of_nodup hd.1 List.nodup_range).2 fun i => by
  rw [List.mem_range]; exact ⟨hd.2 i, hall i⟩
 have h2 := h1.filterMap (fun i => L[i]?.map (·.1));rw [pkV_range L L.length (ZnR _), List.take_length] at h2;exact h2
theorem linesV_eq {V V0 : Voc} {dn : List Nat} (hp : V0.Perm V) (hd : dn.Nodup /\ ∀ i ∈ dn, i < V0.length) (hall : ∀ i, i < V0.length -> i ∈ dn) : YaK Yb1 (pkV V0 dn) = YaI V :=
 uniqA swo_ln anti_ln ((YaB _).trans ((pkV_perm hd hall).trans (hp.map _))) (Yfv swo_ln _)
theorem YeM (V : Voc) : (YaI V).length = V.length := by
 unfold YaI;rw [(YaB (cf := Yb1) (V.map (·.1))).length_eq, ZlM]
theorem linesV_nd {V : Voc} (h : NkG V) : (YaI V).Nodup := by
 unfold YaI;refine (YaB (cf := Yb1) (V.map (·.1))).nodup_iff.2 ?_;unfold NkG at h;exact List.pairwise_map.2 h
theorem linesV_ndA {V : Voc} (h : NkG V) : NdA (YaI V) := fun k h0 hk he => by
 have hn := List.pairwise_iff_getElem.1 (linesV_nd h) (k - 1) k (by omega) hk (by omega);rw [ZgD, ZgD, ZgE hk, ZgE (by omega : k - 1 < (YaI V).length)] at he;exact hn he.symm
theorem linesV_mem {V : Voc} {k : Lne} : k ∈ YaI V ↔ hasG V k = true := by
 unfold YaI;rw [(YaB (cf := Yb1) (V.map (·.1))).mem_iff, ZmM, hasG_iff]
theorem c_linesOf (V : Voc) (hV : NkG V) (hn : V.length <= 300) : Yad Tryz.prog 36 [.sl [[.fm (vocD V)]]] (.sl ((YaI V).map Lne.ds)) := by
 refine Yab (n := 28) (ds' := [.sl ((YaI V).map Lne.ds)]) Tryz.func36 J (by kernel_rfl) J [2] J J ?_;intro B w0 F0 fr;refine .sr (.aN ?_);refine .sr (.aN ?_);refine .seq (.sr (.mA ?_));refine .sA (.lenSl J et_149.ht J) ?_;refine .mN ?_;refine .block (.adopt 3 901 98 4 J J ?_);refine .loop (G := Nat × List Lne) (fun p => Env.of [(7, .d (.sl [[.fm (vocD V)]])), (8, .d (.v (.int .i64 1))), (9, .iv p.1), (3, .own 901)]) (fun p => [(901, .row 98 4 (p.2.map Lne.ds))]) (fun p => p.1 <= 1 /\ (p.1 = 0 -> p.2 = []) /\ (p.1 = 1 -> YaK Yb1 p.2 = YaI V)) (fun p => 1 - p.1) (0, []) (by simp) (Sub.less ⟨U, U, U, U, trivial⟩ (fun p h => h)) ?_;intro p hp;refine .sr (.sA (.lss J J J) (.nil ?_));refine .seq (.cT J (fun h1 => ?_) fun h1 => ?_)
 ·obtain ⟨p1, p2⟩ := p;obtain rfl : p1 = 0 := by have := hp.1; dsimp only at *; omega
  obtain rfl : p2 = [] := hp.2.1 rfl;refine .skip (.seq (.block (.sr (.sA (.indexAddr J et_149 J J 0 J J J) ?_))));refine .sA (.load J sc_93 J) ?_;refine .aN ?_;refine .sr (.mA ?_);refine .rangeF 2071 J J J J mt_93 J J (fun M0 hM0 => ?_);obtain ⟨V0, hV0, rfl⟩ := Ycg (g := fun p : Lne × List Clp => (kL p.1, D.sl (p.2.map Clp.ds))) (l := V) hM0;have hl0 := hV0.length_eq;refine .nil ?_;refine .block (.loop (G := List Nat) (fun dn => Env.of [(14, .ptr 2071 0), (3, .own 901), (7, .d (.sl [[.fm (vocD V)]])), (8, .d (.v (.int .i64 1))), (9, .d (.v (.int .i64 0)))]) (fun dn => [(2071, .iter (V0.map fun p : Lne × List Clp => (kL p.1, D.sl (p.2.map Clp.ds))) dn), (901, .row 98 4 ((pkV V0 dn).map Lne.ds))]) (fun dn => dn.Nodup /\ ∀ i ∈ dn, i < V0.length) (fun dn => V0.length - dn.length) [] ⟨List.nodup_nil, fun i h => absurd h List.not_mem_nil⟩ (Sub.less ⟨U, U, U, U, U, trivial⟩ (YaX J)) ?_);intro dn hd;refine .sr (.nextL J J J J J (.head _) (fun hall => ?_) (fun j hj hnj => ?_))
  ·skip;refine .sA (.extract J J J) (.nil ?_);refine .seq (.cond J (fun h => nomatch h) (fun _ => ?_));refine .exit (.region (.sA (.add64 J J J) ?_));refine .mN ?_;refine ⟨(1, pkV V0 dn), ⟨by simp, by simp, fun _ => linesV_eq hV0 hd hall⟩, (by simp), Sub.less ⟨U, U, U, U, trivial⟩ (fun _ h => .tail _ h)⟩
  have hpl := pkV_len V0 dn;have hdl := YdR hd.1 hd.2;have hsn := Yf6 hd hj hnj;have hnl := YdR hsn.1 hsn.2;rw [ZlA, List.length_singleton] at hnl;have HN := pkV_next (dn := dn) hj;refine .sA (.extract J J J) (.nil ?_);refine .seq (.cond J (fun _ => ?_) (fun h => nomatch h));refine .skip (.block (.sr (.sA (.entryL J J (.head _) hj) ?_)));refine .sA (.extract J J J) ?_;refine .alloc 105 J J J J zt_98 J J J ?_;refine .st J J J sz_98 J (.head _) J J J (ZnB J) (.nil ?_);refine .region (.sA (.moveO J J) ?_);refine .sA (.loadPU J ag_98 J (.head _) J J) ?_;refine .sA (.buildSlice J et_95 (.cons J J J .nil) J (by decide)) ?_
  -- append 22
  refine .append rfl rfl rfl rfl et_95 rfl (.tail _ (.tail _ (.head _))) rfl (by simp [D.parts, kL, Value.cells]) (by simp; omega) (by simp; omega) ?_;refine .sA (.assignO J J) (.nil ?_);refine ⟨dn ++ [j], hsn, (by dsimp only; rw [ZlA, List.length_singleton]; omega), Sub.less ⟨U, U, U, U, U, trivial⟩ (fun p hp => by dsimp only at hp; rw [HN, ZmA] at hp; rcases List.mem_cons.1 hp with rfl | hp; exact .tail _ (.head _); rcases List.mem_cons.1 hp with rfl | hp; exact .tail _ (.tail _ (.head _)); exact absurd hp List.not_mem_nil)⟩
 have hp1 : p.1 = 1 := by have := hp.1; omega
 have hpe := hp.2.2 hp1;have hp2 : p.2.length <= 300 := by rw [<- (YaB (cf := Yb1) p.2).length_eq, hpe, YeM]; exact hn
 refine .exit (.sr (.sA (.moveO J J) ?_));refine .callX J J J (ArgsS.cons U (ArgsS.cons (SLe.fn _) ArgsS.nil)) (c_sortLn p.2 (by omega) 98 901) ⟨(.head _), trivial⟩ J J (fun _ h => nomatch h) ?_;rw [hpe];refine .nil ?_;refine .sr (.freeze 3 J (.head _) ?_);refine .mA ?_;refine .sA (.call J (.cons (.rfl' J) .nil) (c_cmptLn (YaI V) (linesV_ndA hV) (by rw [YeM]; omega))) ?_;refine .aN ?_;refine .ret (rDq J ?_)
 all_goals (rfl)
open Go.Sort Go.Lib
def vcAt (V : Voc) (k : Lne) : List Clp := (Yaa V k).getD []
def kAt (V : Voc) (n : Nat) : Lne := (YaI V).getD n default
def YeG (V : Voc) (m : ByteArray) (n : Nat) : List Spn := ((YaI V).take n).foldl (fun o k => if k.media = m then o ++ Ye3 (vcAt V k) else o) []
def sndV (V : Voc) (m : ByteArray) : List Spn := YdY (YeG V m (YaI V).length)
theorem YeF {V : Voc} {m : ByteArray} {n : Nat} (h : n < (YaI V).length) : YeG V m (n + 1) = if (kAt V n).media = m then YeG V m n ++ Ye3 (vcAt V (kAt V n)) else YeG V m n := by
 unfold YeG kAt;rw [List.take_add_one, ZgE h, Option.toList_some, List.foldl_append];simp [h]
theorem sndTo_y {V : Voc} {m : ByteArray} {n : Nat} (h : n < (YaI V).length) (h2 : (kAt V n).media = m) : YeG V m (n + 1) = YeG V m n ++ Ye3 (vcAt V (kAt V n)) := by rw [YeF h, if_pos h2]
theorem sndTo_n {V : Voc} {m : ByteArray} {n : Nat} (h : n < (YaI V).length) (h2 : ¬ (kAt V n).media = m) : YeG V m (n + 1) = YeG V m n := by rw [YeF h, if_neg h2]
structure VocOk (V : Voc) (t : Int) : Prop where
 nk : NkG V
 len : V.length <= 300
 clp : ∀ p ∈ V, ∀ c ∈ p.2, ClpOk c t
 le : ∀ p ∈ V, p.2.length <= 300
theorem VocOk.at {V : Voc} {t : Int} (h : VocOk V t) (k : Lne) : (∀ c ∈ vcAt V k, ClpOk c t) /\ (vcAt V k).length <= 300 := by
 unfold vcAt
 cases hf : Yaa V k with
 | none => exact ⟨fun c hc => absurd hc List.not_mem_nil, ZnZ _⟩
 | some v =>
  obtain ⟨q, hq, rfl⟩ := YeV hf;exact ⟨h.clp q hq, h.le q hq⟩
theorem spans_len {l : List Clp} {t : Int} (ok : ∀ c ∈ l, ClpOk c t) (hl : l.length <= 300) : (Ye3 l).length <= 48600 := by
 have h1 := spTo_len l (brS l).length;have h2 := brS_len ok hl;unfold Ye3; omega
theorem Yef {V : Voc} {t : Int} (h : VocOk V t) (m : ByteArray) : ∀ n, n <= (YaI V).length -> Rng (-1) 200001 (YeG V m n) /\ (YeG V m n).length <= 48600 * n
 | 0, _ => ⟨Rng.nil, ZnR _⟩
 | n + 1, hn => by
  obtain ⟨h1, h2⟩ := Yef h m n (by omega);obtain ⟨k1, k2⟩ := h.at (kAt V n);rw [YeF (by omega)];split
  ·have h3 := spans_len k1 k2;refine ⟨h1.app (spans_rng k1), ?_⟩;rw [ZlA]; omega
  ·exact ⟨h1, by omega⟩
theorem snd_sep (V : Voc) (m : ByteArray) : Spt (sndV V m) := un_sep _
theorem snd_rng {V : Voc} {t : Int} (h : VocOk V t) (m : ByteArray) : Rng (-1) 200001 (sndV V m) := un_rng (Yef h m _ (ZnR _)).1
theorem voc_clp {l : List Clp} : ∀ {i : Nat}, i <= l.length -> ∀ p ∈ Ybn l i, ∀ c ∈ p.2, c ∈ l
 | 0, _ => fun p hp => by unfold Ybn at hp; simp at hp
 | i + 1, h => fun p hp => by
  rw [YbU (by omega)] at hp;unfold addV at hp
  rcases putG_in2 hp with h1 | h1
  ·rw [h1];intro c hc
   rcases List.mem_append.1 hc with hc | hc
   ·cases hf : Yaa (Ybn l i) (YbJ (l.getD i default)) with
    | none => rw [hf] at hc; exact absurd hc List.not_mem_nil
    | some v =>
     rw [hf] at hc;obtain ⟨q, hq, he⟩ := YeV hf;exact voc_clp (by omega) q hq c (by rw [he]; exact hc)
   ·rw [ZmS.1 hc]; exact Yba (by omega)
  ·exact voc_clp (by omega) p h1
theorem voc_cnt {l : List Clp} : ∀ {i : Nat}, i <= l.length -> (Ybn l i).length <= i
 | 0, _ => by simp [Ybn]
 | i + 1, h => by
  have ih := voc_cnt (l := l) (i := i) (by omega);rw [YbU (by omega)];unfold addV;exact ZnT (Yeo _ _ _) (by omega)
theorem voc_ok {e : Edt} (ok : EdtOk e) : VocOk (vocV e.clips) e.tracks := by
 have h3 := ok.le;refine ⟨Yft _ _, ZnT (voc_cnt (ZnR _)) h3, fun p hp c hc => ok.clips c (voc_clp (ZnR _) p hp c hc), fun p hp => ZnT (voc_len (ZnR _) p hp) h3⟩
def recV (L : List (ByteArray × Int)) (m : ByteArray) : Int := (Yaa L m).getD 0
abbrev Ats := List (Int × List Spn)
def tsS (L : List (ByteArray × Int)) (V : Voc) (A : Ats) (m : ByteArray) : Ats := putG A (recV L m) (Ye2 ((Yaa A (recV L m)).getD []) (sndV V m))
def tsF (L : List (ByteArray × Int)) (V : Voc) (ms : List ByteArray) : Ats := ms.foldl (tsS L V) []
theorem tsF_snoc (L : List (ByteArray × Int)) (V : Voc) (ms : List ByteArray) (m : ByteArray) : tsF L V (ms ++ [m]) = tsS L V (tsF L V ms) m := by
 unfold tsF; rw [List.foldl_append]; rfl
structure AtI (L : List (ByteArray × Int)) (V : Voc) (ms : List ByteArray) (A : Ats) : Prop where
 nk : NkG A
 has : ∀ id, (Yaa A id).isSome = true ↔ ∃ m ∈ ms, recV L m = id
 val : ∀ id u, Yaa A id = some u -> Spt u /\ Rng (-1) 200001 u /\ ∀ p, inS u p ↔ ∃ m ∈ ms, recV L m = id /\ inS (sndV V m) p
section
variable {L : List (ByteArray × Int)} {V : Voc} {t : Int}
theorem AtI.get {ms : List ByteArray} {A : Ats} (h : AtI L V ms A) (id : Int) : Spt ((Yaa A id).getD []) /\ Rng (-1) 200001 ((Yaa A id).getD []) /\ ∀ p, inS ((Yaa A id).getD []) p ↔ ∃ m ∈ ms, recV L m = id /\ inS (sndV V m) p := by
 cases hf : Yaa A id with
 | some u => exact h.val id u hf
 | none =>
  refine ⟨Spt.nil, Rng.nil, fun p => ⟨fun hh => absurd hh Ygh, fun ⟨m, hm, he, _⟩ => ?_⟩⟩;have := (h.has id).2 ⟨m, hm, he⟩;rw [hf] at this; cases this
theorem AtI.step (hV : VocOk V t) {ms : List ByteArray} {A : Ats} (h : AtI L V ms A) (m : ByteArray) : AtI L V (ms ++ [m]) (tsS L V A m) := by
 obtain ⟨g1, g2, g3⟩ := h.get (recV L m);obtain ⟨s1, s2⟩ := sweep_sep g1 (snd_sep V m);have s3 := sweep_rng g1 (snd_sep V m) g2 (snd_rng hV m);refine ⟨Ydj h.nk _ _, fun id => ?_, fun id u hu => ?_⟩
 ·unfold tsS;rw [Ybg]
  by_cases e : id = recV L m
  ·rw [if_pos e];exact ⟨fun _ => ⟨m, List.mem_append_right _ List.mem_cons_self, e.symm⟩, fun _ => J⟩
  ·rw [if_neg e, h.has id];constructor
   ·rintro ⟨x, hx, he⟩; exact ⟨x, List.mem_append_left _ hx, he⟩
   ·rintro ⟨x, hx, he⟩
    rcases List.mem_append.1 hx with hx | hx
    ·exact ⟨x, hx, he⟩
    ·rw [ZmS.1 hx] at he; exact absurd he.symm e
 ·unfold tsS at hu;rw [Ybg] at hu
  by_cases e : id = recV L m
  ·rw [if_pos e] at hu;rw [<- Option.some.inj hu];refine ⟨s1, s3, fun p => ?_⟩;rw [s2 p, g3 p];constructor
   ·rintro (⟨x, hx, he, hp⟩ | hp)
    ·exact ⟨x, List.mem_append_left _ hx, he.trans e.symm, hp⟩
    ·exact ⟨m, List.mem_append_right _ List.mem_cons_self, e.symm, hp⟩
   ·rintro ⟨x, hx, he, hp⟩
    rcases List.mem_append.1 hx with hx | hx
    ·exact .inl ⟨x, hx, he.trans e, hp⟩
    ·rw [ZmS.1 hx] at hp; exact .inr hp
  ·rw [if_neg e] at hu;obtain ⟨v1, v2, v3⟩ := h.val id u hu;refine ⟨v1, v2, fun p => ?_⟩;rw [v3 p];constructor
   ·rintro ⟨x, hx, he, hp⟩; exact ⟨x, List.mem_append_left _ hx, he, hp⟩
   ·rintro ⟨x, hx, he, hp⟩
    rcases List.mem_append.1 hx with hx | hx
    ·exact ⟨x, hx, he, hp⟩
    ·rw [ZmS.1 hx] at he; exact absurd he.symm e
theorem AtI.fold (hV : VocOk V t) : ∀ (r ms : List ByteArray) (A : Ats), AtI L V ms A -> AtI L V (ms ++ r) (r.foldl (tsS L V) A)
 | [], ms, A, h => by rw [List.append_nil]; exact h
 | m :: r, ms, A, h => by
  have := AtI.fold hV r (ms ++ [m]) _ (h.step hV m);rw [List.append_assoc, List.singleton_append] at this;exact this
theorem Yco (hV : VocOk V t) (ms : List ByteArray) : AtI L V ms (tsF L V ms) := by
 have := AtI.fold (L := L) hV ms [] [] ⟨List.Pairwise.nil, fun id => by simp [Ybb], fun id u hu => by simp [Ybb] at hu⟩;rw [List.nil_append] at this;exact this
theorem at_len (L : List (ByteArray × Int)) (V : Voc) : ∀ (ms : List ByteArray) (A : Ats), (ms.foldl (tsS L V) A).length <= A.length + ms.length
 | [], A => ZnR _
 | m :: r, A => by
  have h1 := at_len L V r (tsS L V A m);have h2 : (tsS L V A m).length <= A.length + 1 := Yeo _ _ _;rw [List.foldl_cons, List.length_cons]; omega
theorem at_find_perm (hV : VocOk V t) {ms ms' : List ByteArray} (hp : ms.Perm ms') (id : Int) : Yaa (tsF L V ms) id = Yaa (tsF L V ms') id := by
 have h1 := Yco (L := L) hV ms;have h2 := Yco (L := L) hV ms'
 have hm : (∃ m ∈ ms, recV L m = id) ↔ ∃ m ∈ ms', recV L m = id := by
  constructor
  ·rintro ⟨m, q, e⟩; exact ⟨m, hp.mem_iff.1 q, e⟩
  ·rintro ⟨m, q, e⟩; exact ⟨m, hp.mem_iff.2 q, e⟩
 cases hf : Yaa (tsF L V ms) id with
 | none =>
  cases hg : Yaa (tsF L V ms') id with
  | none => rfl
  | some u =>
   have a := (h2.has id).1 (by rw [hg]; rfl);have b := (h1.has id).2 (hm.2 a)
   rw [hf] at b; cases b
 | some v =>
  cases hg : Yaa (tsF L V ms') id with
  | none =>
   have a := (h1.has id).1 (by rw [hf]; rfl);have b := (h2.has id).2 (hm.1 a)
   rw [hg] at b; cases b
  | some u =>
   obtain ⟨a1, _, a3⟩ := h1.val id v hf;obtain ⟨b1, _, b3⟩ := h2.val id u hg
   rw [sep_ext a1 b1 fun p => by
    rw [a3 p, b3 p];constructor
    ·rintro ⟨m, q, e⟩; exact ⟨m, hp.mem_iff.1 q, e⟩
    ·rintro ⟨m, q, e⟩; exact ⟨m, hp.mem_iff.2 q, e⟩]
theorem at_perm (hV : VocOk V t) {ms ms' : List ByteArray} (hp : ms.Perm ms') : (tsF L V ms).Perm (tsF L V ms') := Yf4 (Yco (L := L) hV ms).nk (Yco (L := L) hV ms').nk (at_find_perm hV hp)
end
def cuO (id : Int) (s : Spn) : Cue := ⟨s.lo, s.hi, id⟩
def YaS (A : Ats) : List Cue := A.flatMap fun q => q.2.map (cuO q.1)
theorem cues_mem {A : Ats} {x : Cue} : x ∈ YaS A ↔ ∃ q ∈ A, ∃ s ∈ q.2, x = cuO q.1 s := by
 unfold YaS;rw [List.mem_flatMap];constructor
 ·rintro ⟨q, hq, hx⟩;obtain ⟨s, hs, rfl⟩ := ZmM.1 hx;exact ⟨q, hq, s, hs, J⟩
 ·rintro ⟨q, hq, s, hs, rfl⟩;exact ⟨q, hq, List.mem_map_of_mem hs⟩
theorem cues_perm {A B : Ats} (h : A.Perm B) : (YaS A).Perm (YaS B) := h.flatMap_right _
section
variable {L L' : List (ByteArray × Int)} {V : Voc} {t : Int} {ms : List ByteArray} {a b : Int}
theorem cues_in (hV : VocOk V t) {p n : Int} : (∃ x ∈ YaS (tsF L V ms), (x.lo <= p /\ p < x.hi) /\ x.id = n) ↔ ∃ m ∈ ms, recV L m = n /\ inS (sndV V m) p := by
 have hI := Yco (L := L) hV ms;constructor
 ·rintro ⟨x, hx, hp, rfl⟩;obtain ⟨q, hq, s, hs, rfl⟩ := cues_mem.1 hx;have hf := (YaR hI.nk q).1 hq;exact ((hI.val _ _ hf).2.2 p).1 ⟨s, hs, hp⟩
 ·rintro ⟨m, hm, he, hp⟩;have hh := (hI.has n).2 ⟨m, hm, he⟩;obtain ⟨u, hu⟩ := Option.isSome_iff_exists.1 hh;obtain ⟨s, hs, hp⟩ := ((hI.val n u hu).2.2 p).2 ⟨m, hm, he, hp⟩;exact ⟨_, cues_mem.2 ⟨(n, u), (YaR hI.nk (n, u)).2 hu, s, hs, J⟩, hp, J⟩
theorem cues_nd (hV : VocOk V t) : ((YaS (tsF L V ms)).map fun x => (x.lo, x.id)).Nodup := by
 have hI := Yco (L := L) hV ms;refine List.pairwise_map.2 ?_;unfold YaS;refine List.pairwise_flatMap.2 ⟨fun q hq => ?_, ?_⟩
 ·have hs := (hI.val _ _ ((YaR hI.nk q).1 hq)).1;refine List.pairwise_map.2 ((List.pairwise_map.1 (sep_nd hs)).imp fun {x y} h e => h ?_);exact congrArg Prod.fst e
 ·refine hI.nk.imp fun {q r} h x hx y hy e => h ?_
  obtain ⟨s, _, rfl⟩ := ZmM.1 hx;obtain ⟨u, _, rfl⟩ := ZmM.1 hy;exact congrArg Prod.snd e
theorem renN_2 (n : Int) : renN a b (renN a b n) = renN a b n := by
 unfold renN
 by_cases h : n = a
 ·rw [if_pos h]; split <;> rfl
 ·simp only [if_neg h]
theorem cues_fewer (hV : VocOk V t) (hr : ∀ m ∈ ms, recV L' m = renN a b (recV L m)) : (YaS (tsF L' V ms)).length <= (YaS (tsF L V ms)).length := by
 have hI := Yco (L := L) hV ms;have hI' := Yco (L := L') hV ms
 have h := sub_len (l := (YaS (tsF L' V ms)).map fun x => (x.lo, x.id)) (l' := (YaS (tsF L V ms)).map fun x => (x.lo, renN a b x.id)) (cues_nd hV) fun y hy => by
  obtain ⟨x, hx, rfl⟩ := ZmM.1 hy;obtain ⟨q, hq, s, hs, rfl⟩ := cues_mem.1 hx;obtain ⟨v1, _, v3⟩ := hI'.val _ _ ((YaR hI'.nk q).1 hq);obtain ⟨b1, b2⟩ := sep_at v1 hs;obtain ⟨m, hm, he, hp⟩ := (v3 s.lo).1 b1;have hh := (hI.has (recV L m)).2 ⟨m, hm, rfl⟩;obtain ⟨u, hu⟩ := Option.isSome_iff_exists.1 hh;have hi := ((hI.val _ u hu).2.2 s.lo).2 ⟨m, hm, rfl, hp⟩
  have hn : ¬ inS u (s.lo - 1) := fun hh => by
   obtain ⟨m2, hm2, he2, hp2⟩ := ((hI.val _ u hu).2.2 _).1 hh;refine b2 ((v3 _).2 ⟨m2, hm2, ?_, hp2⟩);rw [hr m2 hm2, he2, <- hr m hm, he]
  obtain ⟨z, hz, e⟩ := begin_in hi hn;refine ZmM.2 ⟨cuO (recV L m) z, cues_mem.2 ⟨(recV L m, u), (YaR hI.nk (recV L m, u)).2 hu, z, hz, J⟩, ?_⟩;show (z.lo, renN a b (recV L m)) = (s.lo, q.1)
  rw [e, <- hr m hm, he]
 rw [ZlM, ZlM] at h;exact h
theorem cues_noA (hV : VocOk V t) (hab : a ≠ b) (hr : ∀ m ∈ ms, recV L' m = renN a b (recV L m)) : ∀ x ∈ YaS (tsF L' V ms), x.id ≠ a := fun x hx => by
 have hI' := Yco (L := L') hV ms;obtain ⟨q, hq, s, hs, rfl⟩ := cues_mem.1 hx;have hf := (YaR hI'.nk q).1 hq;obtain ⟨m, hm, he⟩ := (hI'.has q.1).1 (by rw [hf]; rfl);show q.1 ≠ a
 rw [<- he, hr m hm];unfold renN;split
 ·exact fun e => hab e.symm
 ·assumption
theorem cued_mem {l : List Cue} {p n : Int} : n ∈ cuTo l p a b l.length ↔ ∃ x ∈ l, (x.lo <= p /\ p < x.hi) /\ renN a b x.id = n := by
 unfold cuTo;rw [List.take_length, ZmM];constructor
 ·rintro ⟨x, hx, e⟩;obtain ⟨h1, h2⟩ := List.mem_filter.1 hx;exact ⟨x, h1, dcT h2, e⟩
 ·rintro ⟨x, hx, hp, e⟩;exact ⟨x, List.mem_filter.2 ⟨hx, decide_eq_true hp⟩, e⟩
theorem cued_same (hV : VocOk V t) (hr : ∀ m ∈ ms, recV L' m = renN a b (recV L m)) (p : Int) : cuedV (YaK YcL (YaS (tsF L V ms))) p a b = cuedV (YaK YcL (YaS (tsF L' V ms))) p a b := by
 have S := fun (l : List Cue) (n : Int) => (cued_mem (a := a) (b := b) (l := YaK YcL l) (p := p) (n := n)).trans (by
  constructor
  ·rintro ⟨x, hx, h⟩; exact ⟨x, (YaB (cf := YcL) l).mem_iff.1 hx, h⟩
  ·rintro ⟨x, hx, h⟩; exact ⟨x, (YaB (cf := YcL) l).mem_iff.2 hx, h⟩ : (∃ x ∈ YaK YcL l, (x.lo <= p /\ p < x.hi) /\ renN a b x.id = n) ↔ ∃ x ∈ l, (x.lo <= p /\ p < x.hi) /\ renN a b x.id = n)
 unfold cuedV;refine kcomp_eq (Yev _) fun n => ?_
 rw [Ydm, S, S];constructor
 ·rintro ⟨x, hx, hp, e⟩;obtain ⟨m, hm, he, hi⟩ := (cues_in hV).1 ⟨x, hx, hp, rfl⟩;obtain ⟨y, hy, hp2, e2⟩ := (cues_in (L := L) hV).2 ⟨m, hm, rfl, hi⟩;refine ⟨y, hy, hp2, ?_⟩;rw [e2, <- hr m hm, he];rw [<- e, <- he, hr m hm, renN_2]
 ·rintro ⟨x, hx, hp, e⟩;obtain ⟨m, hm, he, hi⟩ := (cues_in hV).1 ⟨x, hx, hp, rfl⟩;obtain ⟨y, hy, hp2, e2⟩ := (cues_in (L := L') hV).2 ⟨m, hm, rfl, hi⟩;refine ⟨y, hy, hp2, ?_⟩;rw [e2, hr m hm, renN_2, he, e]
end
open Go.Sort Go.Lib
theorem ffst_zr {f : Nat -> Int} : ∀ {n : Nat}, (∀ k, k < n -> f k = 0) -> ffst f n = 0
 | 0, _ => rfl
 | n + 1, h => YaL (ffst_zr fun k hk => h k (by omega)) (h n (by omega))
def Yat (l : List Clp) (i : Nat) : List (ByteArray × Bool) := (l.take i).foldl (fun M c => putG M c.media true) []
def medL (e : Edt) : List ByteArray := (Yat e.clips e.clips.length).map (·.1)
theorem YdD {l : List Clp} {i : Nat} (h : i < l.length) : Yat l (i + 1) = putG (Yat l i) (l.getD i default).media true := by
 unfold Yat;rw [List.take_add_one, ZgE h, Option.toList_some, List.foldl_append];simp [h]
theorem medTo_nk (l : List Clp) : ∀ i, NkG (Yat l i)
 | 0 => by unfold Yat NkG; simp
 | i + 1 => by
  by_cases h : i < l.length
  ·rw [YdD h]; exact Ydj (medTo_nk l i) _ _
  ·have e : Yat l (i + 1) = Yat l i := by unfold Yat; rw [List.take_of_length_le (by omega), List.take_of_length_le (by omega)]
   rw [e]; exact medTo_nk l i
theorem Yf8 (l : List Clp) : ∀ i, (Yat l i).length <= i
 | 0 => by simp [Yat]
 | i + 1 => by
  by_cases h : i < l.length
  ·have := Yf8 l i;rw [YdD h]; exact ZnT (Yeo _ _ _) (by omega)
  ·have e : Yat l (i + 1) = Yat l i := by unfold Yat; rw [List.take_of_length_le (by omega), List.take_of_length_le (by omega)]
   rw [e]; have := Yf8 l i; omega
theorem YeL {l : List Clp} : ∀ {i : Nat}, i <= l.length -> ∀ p ∈ Yat l i, ∃ j, j < i /\ p.1 = (l.getD j default).media
 | 0, _ => fun p hp => by simp [Yat] at hp
 | i + 1, h => fun p hp => by
  rw [YdD (by omega)] at hp
  rcases putG_in hp with h1 | h1
  ·exact ⟨i, Nat.lt_succ_self i, h1⟩
  ·obtain ⟨j, hj, e⟩ := YeL (by omega) p h1;exact ⟨j, by omega, e⟩
def clpF (L : List (ByteArray × Int)) (l : List Clp) (i : Nat) : Int := if hasG L (l.getD i default).media = false then 9 else 0
def atsV (c : Ctl) (l : List Src) (e : Edt) : Ats := tsF (recL c l) (vocV e.clips) (medL e)
def cueA (c : Ctl) (l : List Src) (e : Edt) : List Cue := YaS (atsV c l e)
def cueF (c : Ctl) (l : List Src) (e : Edt) : Int :=
 if recF c l ≠ 0 then recF c l
 else if edtF e ≠ 0 then edtF e
 else if ffst (clpF (recL c l) e.clips) e.clips.length ≠ 0 then 9
 else if 1000 < (cueA c l e).length then 2 else 0
def cueV (c : Ctl) (l : List Src) (e : Edt) : List Cue := if cueF c l e = 0 then YaK YcL (cueA c l e) else []
theorem cue_0 {c : Ctl} {l : List Src} {e : Edt} (h : cueF c l e = 0) : recF c l = 0 /\ edtF e = 0 /\ ffst (clpF (recL c l) e.clips) e.clips.length = 0 /\ (cueA c l e).length <= 1000 := by
 unfold cueF at h;split at h
 ·rename_i q; exact absurd h q
 ·rename_i q1;split at h
  ·rename_i q; exact absurd h q
  ·rename_i q2;split at h
   ·exact absurd h (by decide)
   ·rename_i q3;split at h
    ·exact absurd h (by decide)
    ·rename_i q4;exact ⟨Decidable.not_not.1 q1, Decidable.not_not.1 q2, Decidable.not_not.1 q3, by omega⟩
theorem cue_of {c : Ctl} {l : List Src} {e : Edt} (h1 : recF c l = 0) (h2 : edtF e = 0) (h3 : ffst (clpF (recL c l) e.clips) e.clips.length = 0) : cueF c l e = if 1000 < (cueA c l e).length then 2 else 0 := by
 unfold cueF;rw [if_neg (by rw [h1]; decide), if_neg (by rw [h2]; decide), if_neg (by rw [h3]; decide)]
section
variable {c : Ctl} {a b : Int}
theorem there_ref {id : Int} (h : Yae (refC c a b).things id = true) : Yae c.things id = true := by
 obtain ⟨t, ht, rfl⟩ := thereB_iff.1 h;unfold refC refL at ht;rw [List.take_length] at ht;obtain ⟨u, hu, rfl⟩ := ZmM.1 ht;rw [YcS];exact thereB_iff.2 ⟨u, (List.mem_filter.1 hu).1, J⟩
theorem ref_b (h : Mrg c a b) (hk : chkF (refC c a b) = 0) : Yae (refC c a b).things b = true := by
 obtain ⟨g1, g2⟩ := YeP h.tb;have := (ref_get hk g2 (by rw [g1]; exact fun e => h.ne e.symm)).2;rw [g1] at this; exact this
theorem ref_mv (h : Mrg c a b) (id : Int) : Yaa (mvL (refC c a b).moved) id = if a = id then some b else Yaa (mvL c.moved) id := by
 have rM : RisBy Mvd.src c.moved := risM_by.1 (rikM (Yb8 h.ok).rism);rw [<- Ycl, <- Ycl];show (Yb6 Mvd.src (putF Mvd.src c.moved ⟨a, b⟩) id).map (·.dst) = _
 rw [Yf2 rM]
 by_cases e : a = id
 ·rw [if_pos e, if_pos e]; rfl
 ·rw [if_neg e, if_neg e]
theorem led_mrg (h : Mrg c a b) (hk : chkF (refC c a b) = 0) : ∀ {n : Nat} {id x : Int}, led c n id = some x -> ∀ m, n + 1 <= m -> led (refC c a b) m id = some (renN a b x)
 | 0, _, _, e, _, _ => by simp [led] at e
 | n + 1, id, x, e, m, hm => by
  obtain ⟨m, rfl⟩ : ∃ q, m = q + 1 := ⟨m - 1, by omega⟩;have e' : (if Yae c.things id = true then some id else if hasM c.moved id = true then led c n (getM c.moved id) else none) = some x := e;show (if Yae (refC c a b).things id = true then some id else if hasM (refC c a b).moved id = true then led (refC c a b) m (getM (refC c a b).moved id) else none) = _
  by_cases h1 : Yae c.things id = true
  ·rw [if_pos h1] at e';obtain rfl := Option.some.inj e'
   by_cases ha : id = a
   ·subst ha;have hf := ref_mv h id;rw [if_pos rfl] at hf;rw [if_neg (by rw [ref_no]; decide), if_pos (by unfold hasM; rw [hf]; rfl), show getM (refC c id b).moved id = b by unfold getM; rw [hf]; rfl];obtain ⟨q, rfl⟩ : ∃ q, m = q + 1 := ⟨m - 1, by omega⟩;show (if Yae (refC c id b).things b = true then some b else _) = _
    rw [if_pos (ref_b h hk)];unfold renN; rw [if_pos rfl]
   ·obtain ⟨t, ht, rfl⟩ := thereB_iff.1 h1;rw [if_pos (ref_get hk ht ha).2];unfold renN; rw [if_neg ha]
  ·rw [if_neg h1] at e';have ha : a ≠ id := fun e => h1 (by rw [<- e]; exact h.ta)
   rw [if_neg (fun hh => h1 (there_ref hh))];have hf := ref_mv h id;rw [if_neg ha] at hf
   by_cases h2 : hasM c.moved id = true
   ·rw [if_pos h2] at e';rw [if_pos (by unfold hasM at h2 ⊢; rw [hf]; exact h2), show getM (refC c a b).moved id = getM c.moved id by unfold getM; rw [hf]];exact led_mrg h hk e' m (by omega)
   ·rw [if_neg h2] at e'; cases e'
theorem ref_more (h : Mrg c a b) : c.moved.length + 1 <= (refC c a b).moved.length := by
 have rM : RisBy Mvd.src c.moved := risM_by.1 (rikM (Yb8 h.ok).rism);have hn := findM_none.1 (no_moved h.ok h.ta)
 have h1 := sub_len (l := a :: c.moved.map Mvd.src) (l' := (refC c a b).moved.map Mvd.src) (by
  have hp : (c.moved.map Mvd.src).Pairwise fun x y => x < y := by rw [List.pairwise_map]; exact rM
  refine List.nodup_cons.2 ⟨fun hm => ?_, hp.imp fun hab e => by rw [e] at hab; exact absurd hab (Int.lt_irrefl _)⟩;obtain ⟨x, hx, e⟩ := ZmM.1 hm
  exact hn x hx e) fun y hy => by
  have hh : (Yaa (mvL (refC c a b).moved) y).isSome = true := by
   rw [ref_mv h]
   rcases List.mem_cons.1 hy with rfl | hy
   ·rw [if_pos rfl]; rfl
   ·obtain ⟨x, hx, rfl⟩ := ZmM.1 hy;split
    ·rfl
    ·have := rM.find hx;rw [<- Ycl, this]; rfl
  rw [<- Ycl, Option.isSome_map] at hh;obtain ⟨z, hz⟩ := Option.isSome_iff_exists.1 hh;obtain ⟨z1, z2⟩ := findBy_some hz;exact ZmM.2 ⟨z, z1, z2⟩
 simpa using h1
theorem find_mrg (h : Mrg c a b) (hk : chkF (refC c a b) = 0) {id : Int} (hf : Yc0 c id = 0) : Yc0 (refC c a b) id = 0 /\ YbA (refC c a b) id = renN a b (YbA c id) /\ Yae c.things (YbA c id) = true := by
 have hc : ¬ chkF c ≠ 0 := fun hh => hh h.ok
 unfold Yc0 at hf;rw [if_neg hc] at hf;have hs : (ledC c id).isSome = true := Classical.byContradiction fun hh => by rw [if_neg hh] at hf; exact absurd hf (by decide)
 obtain ⟨x, hx⟩ := Option.isSome_iff_exists.1 hs;have hv : YbA c id = x := by rw [(find_3 hc hs).2, hx]; rfl
 have hl : ledC (refC c a b) id = some (renN a b x) := led_mrg h hk (show led c (c.moved.length + 1) id = some x from hx) _ (by have := ref_more h; omega);obtain ⟨f1, f2⟩ := find_3 (c := refC c a b) (id := id) (fun hh => hh hk) (by rw [hl]; rfl);exact ⟨f1, by rw [f2, hl, hv]; rfl, by rw [hv]; exact led_in hx⟩
theorem kind_get {l : List Thg} (h : RisT l) {t : Thg} (ht : t ∈ l) : Yge l t.id = t.kind := by
 have h1 : (t.id, t.kind) ∈ kndL l := List.mem_map_of_mem (f := fun t : Thg => (t.id, t.kind)) ht;have := (YaR h.nkK (t.id, t.kind)).1 h1;unfold Yge;rw [this]; rfl
theorem kind_mrg (h : Mrg c a b) (hk : chkF (refC c a b) = 0) {x : Int} (hx : Yae c.things x = true) : Yge (refC c a b).things (renN a b x) = Yge c.things x := by
 have hr := (Yb8 h.ok).ris;have hr' := (Yb8 hk).ris
 have key : ∀ t ∈ c.things, t.id ≠ a -> Yge (refC c a b).things t.id = t.kind := fun t ht hn => by
  have hm : refT c a b t ∈ (refC c a b).things := by
   unfold refC refL;rw [List.take_length];exact ZmM.2 ⟨t, List.mem_filter.2 ⟨ht, by unfold nA; simp [hn]⟩, rfl⟩
  have h1 := kind_get hr' hm;rw [YcS] at h1;rw [h1];unfold refT;split <;> rfl
 by_cases ha : x = a
 ·subst ha;obtain ⟨g1, g2⟩ := YeP h.ta;obtain ⟨k1, k2⟩ := YeP h.tb;have e1 := key _ k2 (by rw [k1]; exact fun e => h.ne e.symm);have e2 := kind_get hr g2;rw [k1] at e1;rw [g1] at e2;unfold renN;rw [if_pos rfl, e1, e2, h.kind]
 ·obtain ⟨t, ht, rfl⟩ := thereB_iff.1 hx;unfold renN;rw [if_neg ha, key t ht ha, kind_get hr ht]
theorem src_0 {c : Ctl} {l : List Src} {i : Nat} (h : srcF c l i = 0) : ¬ Ya9 (sAt l i).media.data.toList = false /\ ¬ (0 < i /\ sle (sAt l i).media (sAt l (i - 1)).media = true) /\ Yc0 c (sAt l i).recd = 0 /\ Yge c.things (YbA c (sAt l i).recd) = 2 /\ ¬ Ya9 (sAt l i).thing.data.toList = false := by
 unfold srcF at h;split at h
 ·exact absurd h (by decide)
 ·rename_i q1;split at h
  ·exact absurd h (by decide)
  ·rename_i q2;split at h
   ·rename_i q; exact absurd h q
   ·rename_i q3;split at h
    ·exact absurd h (by decide)
    ·rename_i q4;split at h
     ·exact absurd h (by decide)
     ·rename_i q5;exact ⟨q1, q2, Decidable.not_not.1 q3, Decidable.not_not.1 q4, q5⟩
theorem rec_0 {c : Ctl} {l : List Src} (h : recF c l = 0) : l.length <= 100 /\ ∀ i, i < l.length -> srcF c l i = 0 := by
 unfold recF at h;split at h
 ·rename_i q; exact absurd h q
 ·split at h
  ·exact absurd h (by decide)
  ·exact ⟨by omega, Ya5 _ h⟩
theorem rec_mrg (h : Mrg c a b) (hk : chkF (refC c a b) = 0) {l : List Src} (hr : recF c l = 0) : recF (refC c a b) l = 0 /\ ∀ i, i < l.length -> YbA (refC c a b) (sAt l i).recd = renN a b (YbA c (sAt l i).recd) := by
 obtain ⟨h1, h2⟩ := rec_0 hr
 have h3 : ∀ i, i < l.length -> srcF (refC c a b) l i = 0 /\ YbA (refC c a b) (sAt l i).recd = renN a b (YbA c (sAt l i).recd) := fun i hi => by
  obtain ⟨q1, q2, q3, q4, q5⟩ := src_0 (h2 i hi);obtain ⟨f1, f2, f3⟩ := find_mrg h hk q3;refine ⟨?_, f2⟩;unfold srcF;rw [if_neg q1, if_neg q2, if_neg (fun hh => hh f1), if_neg (fun hh => hh (by rw [f2, kind_mrg h hk f3, q4])), if_neg q5]
 refine ⟨?_, fun i hi => (h3 i hi).2⟩;unfold recF;rw [if_neg (fun hh => hh hk), if_neg (by omega)];exact ffst_zr fun i hi => (h3 i hi).1
theorem recTo_mrg {c' : Ctl} {l : List Src} (h : ∀ i, i < l.length -> YbA c' (sAt l i).recd = renN a b (YbA c (sAt l i).recd)) (m : ByteArray) : ∀ i, i <= l.length -> Yaa (YcC c' l i) m = (Yaa (YcC c l i) m).map (renN a b)
 | 0, _ => by simp [YcC, recL, Ybb]
 | i + 1, hi => by
  rw [Ybw (by omega), Ybw (by omega), Ybg, Ybg]
  by_cases e : m = (sAt l i).media
  ·rw [if_pos e, if_pos e, h i (by omega)]; rfl
  ·rw [if_neg e, if_neg e]; exact recTo_mrg h m i (by omega)
theorem Ydi (c : Ctl) (l : List Src) : YcC c l l.length = recL c l := by unfold YcC; rw [List.take_length]
theorem isS_has {κ β : Type} [DecidableEq κ] (L : List (κ × β)) (k : κ) : (Yaa L k).isSome = hasG L k := by
 cases hf : Yaa L k with
 | none => rw [findG_none.1 hf]; rfl
 | some v => cases hh : hasG L k with
  | true => rfl
  | false => rw [findG_none.2 hh] at hf; cases hf
theorem cue_mrg (h : Mrg c a b) (hk : chkF (refC c a b) = 0) {l : List Src} {e : Edt} (h0 : cueF c l e = 0) : cueF (refC c a b) l e = 0 /\ (∀ p, cuedV (cueV c l e) p a b = cuedV (cueV (refC c a b) l e) p a b) /\ ∀ x ∈ cueV (refC c a b) l e, x.id ≠ a := by
 obtain ⟨r0, e0, c0, n0⟩ := cue_0 h0;obtain ⟨r1, r2⟩ := rec_mrg h hk r0;have hV := voc_ok (edtF_0 e0)
 have hf : ∀ m, Yaa (recL (refC c a b) l) m = (Yaa (recL c l) m).map (renN a b) := fun m => by
  have := recTo_mrg r2 m l.length (ZnR _);rw [Ydi, Ydi] at this; exact this
 have hh : ∀ m, hasG (recL (refC c a b) l) m = hasG (recL c l) m := fun m => by
  rw [<- isS_has, <- isS_has, hf, Option.isSome_map]
 have c1 : ffst (clpF (recL (refC c a b) l) e.clips) e.clips.length = 0 := ffst_zr fun i hi => by
  have := Ya5 _ c0 i hi;unfold clpF at this ⊢;rw [hh]; exact this
 have hr : ∀ m ∈ medL e, recV (recL (refC c a b) l) m = renN a b (recV (recL c l) m) := fun m hm => by
  obtain ⟨p, hp, rfl⟩ := ZmM.1 hm;obtain ⟨j, hj, e1⟩ := YeL (ZnR _) p hp;have h2 := Ya5 _ c0 j hj;unfold clpF at h2;rw [<- e1] at h2
  have h3 : hasG (recL c l) p.1 = true := by
   cases hq : hasG (recL c l) p.1 with
   | true => rfl
   | false => rw [if_pos hq] at h2; exact absurd h2 (by decide)
  rw [<- isS_has] at h3;obtain ⟨x, hx⟩ := Option.isSome_iff_exists.1 h3;unfold recV;rw [hf, hx]; rfl
 have hl := cues_fewer (L := recL c l) (L' := recL (refC c a b) l) (a := a) (b := b) hV hr;have hl : (cueA (refC c a b) l e).length <= (cueA c l e).length := hl;have f1 : cueF (refC c a b) l e = 0 := by rw [cue_of r1 e0 c1, if_neg (by omega)]
 refine ⟨f1, fun p => ?_, fun x hx => ?_⟩
 ·unfold cueV;rw [if_pos h0, if_pos f1];exact cued_same hV hr p
 ·unfold cueV at hx;rw [if_pos f1] at hx;exact cues_noA hV h.ne hr x ((YaB (cf := YcL) _).mem_iff.1 hx)
end
open Go.Lib
theorem at_ln {V : Voc} {k : Nat} (h : k < (YaI V).length) : ((YaI V).map Lne.ds)[k]? = some (kAt V k).ds := Yca h
theorem get_voc {V : Voc} (h : NkG V) (k : Lne) : MGet (vocD V) (kL k) (.sl []) (.sl ((vcAt V k).map Clp.ds)) :=
 mgetG (kv := kL) (dv := fun p : Lne × List Clp => D.sl (p.2.map Clp.ds)) kL_inj h k _ _ (by unfold vcAt; cases Yaa V k <;> rfl)
theorem ln_from {e : Edt} {k : Nat} (h : k < (YaI (vocV e.clips)).length) : ∃ c ∈ e.clips, kAt (vocV e.clips) k = YbJ c := by
 have hm := linesV_mem.1 (show kAt (vocV e.clips) k ∈ YaI (vocV e.clips) from Yba h);obtain ⟨p, hp, he⟩ := hasG_iff.1 hm;obtain ⟨c, hc, h2⟩ := Yfs (ZnR _) p hp;exact ⟨c, hc, by rw [<- he, h2]⟩
theorem ln_key {e : Edt} (ok : EdtOk e) {k : Nat} (h : k < (YaI (vocV e.clips)).length) : ∃ l, keyOf Tryz.prog 98 (kL (kAt (vocV e.clips) k)) = some l := by
 obtain ⟨c, hc, he⟩ := ln_from h;rw [he]; exact clp_key ok.tracks.2 (ok.clips c hc)
theorem vocD_keys {e : Edt} (ok : EdtOk e) : ∀ p ∈ vocD (vocV e.clips), ∃ l, keyOf Tryz.prog 98 p.1 = some l := fun p hp => by
 unfold vocD at hp;obtain ⟨q, hq, rfl⟩ := ZmM.1 hp;obtain ⟨c, hc, he⟩ := Yfs (ZnR _) q hq;show ∃ l, keyOf Tryz.prog 98 (kL q.1) = some l
 rw [he]; exact clp_key ok.tracks.2 (ok.clips c hc)
theorem c_snd (e : Edt) (m : ByteArray) (ok : EdtOk e) : Yad Tryz.prog 14 [.agg e.ds, .v (.string m)] (.sl ((sndV (vocV e.clips) m).map Spn.ds)) := by
 refine Yab (n := 33) (ds' := [.sl ((sndV (vocV e.clips) m).map Spn.ds)]) Tryz.func14 J (by kernel_rfl) J [4] J J ?_;intro B w0 F0 fr;have hV := voc_ok ok;have hln := YeM (vocV e.clips);have h300 := hV.len;refine .sr (.sA (.box J J J) ?_);refine .aN ?_;refine .sr (.sA (.loadAgg J ag_29 J J) ?_);refine .sA (.call J (.cons (.rfl' J) .nil) (c_voices e ok)) ?_;refine .aN ?_;refine .sr (.aN ?_);refine .seq (.sr (.mA ?_));refine .sA (.buildSlice J et_149 (.cons J J J .nil) J (by decide)) ?_;refine .sA (.call J (.cons (.rfl' J) .nil) (c_linesOf (vocV e.clips) hV.nk hV.len)) (.sA (.lenSl J et_95.ht J) ?_);rw [ZlM];refine .mN ?_;refine .block (.adopt 6 903 64 2 J J ?_);refine .loop (G := Nat) (fun k => Env.of [(15, .iv k), (13, .d (.sl ((YaI (vocV e.clips)).map Lne.ds))), (14, .iv (YaI (vocV e.clips)).length), (5, .d (.fm (vocD (vocV e.clips)))), (1, .d (.v (.string m))), (6, .own 903)]) (fun k => [(903, .row 64 2 ((YeG (vocV e.clips) m k).map Spn.ds))]) (fun k => k <= (YaI (vocV e.clips)).length) (fun k => (YaI (vocV e.clips)).length - k) 0 (ZnZ _) (Sub.less ⟨U, U, U, U, U, U, trivial⟩ (fun _ h => h)) ?_;intro k hk;refine .sr (.sA (.lss J J J) (.nil ?_));refine .seq (.cT J (fun h1 => ?_) fun h1 => ?_)
 ·have hlt : k < (YaI (vocV e.clips)).length := by omega
  have hsl := (Yef hV m k (by omega)).2;have hsp := spans_len (hV.at (kAt (vocV e.clips) k)).1 (hV.at (kAt (vocV e.clips) k)).2;refine .skip (.seq (.block (.sr (.sA (.indexAddr J et_95 J J k J (at_ln hlt) J) ?_))));refine .sA (.loadAgg J ag_98 J J) ?_;refine .alloc 908 J J J J zt_98 J J J ?_;refine .st J J J sz_98 J (.head _) J J J (ZnB J) ?_;refine .freezeCells 8 (ds := (kAt (vocV e.clips) k).ds) J (.head _) (.nil ?_);refine .sr (.fl fo_98_1 sc_9 ?_);refine .mA ?_;refine .sA (.seql J J J) (.nil ?_);refine .cT J (fun h2 => ?_) fun h2 => ?_
  ·have hsn := sndTo_y hlt h2;refine .region (.sA (.moveO J J) ?_);refine .mA ?_;refine .sA (.loadAgg J ag_98 J J) (.sA (.lookupF (key := kL (kAt (vocV e.clips) k)) J mt_voc kd_L zt_cl (fun _ _ => .nil) J J (DExact.agg4 _ _ _ _) (ln_key ok hlt) (vocD_keys ok) (get_voc hV.nk _)) (.sA (.call J (.cons (.rfl' J) .nil) (c_sum (vcAt (vocV e.clips) (kAt (vocV e.clips) k)) e.tracks (hV.at (kAt (vocV e.clips) k)).1 (hV.at (kAt (vocV e.clips) k)).2)) (.sA (.call J (.cons (.rfl' J) .nil) (c_spans (vcAt (vocV e.clips) (kAt (vocV e.clips) k)) e.tracks (hV.at (kAt (vocV e.clips) k)).1 (hV.at (kAt (vocV e.clips) k)).2)) ?_)))
   -- append 29
   refine .append rfl rfl rfl rfl et_59 rfl (.head _) rfl (fun y hy => by obtain ⟨s, _, rfl⟩ := ZmM.1 hy; rfl) (by simp only [ZlM]; omega) (by simp only [ZlM]; omega) ?_;refine .sA (.assignO J J) (.nil ?_);refine .region (.sA (.add64 J J J) ?_);refine .mN ?_;refine ⟨k + 1, (by omega), (by dsimp only; omega), Sub.less ⟨U, U, U, U, U, U, trivial⟩ (fun q h => by dsimp only at h; rw [hsn] at h; first | exact h | (rw [ZmA] at h; exact h) | (rw [ZmS.1 h]; exact (.head _)) | (rw [ZmA] at h; rw [ZmS.1 h]; exact (.head _)))⟩
  have hsn := sndTo_n hlt h2;refine .skip (.region (.sA (.add64 J J J) ?_));refine .mN ?_;refine ⟨k + 1, (by omega), (by dsimp only; omega), Sub.less ⟨U, U, U, U, U, U, trivial⟩ (fun q h => by dsimp only at h; rw [hsn] at h; first | exact h | (rw [ZmA] at h; exact h) | (rw [ZmS.1 h]; exact (.head _)) | (rw [ZmA] at h; rw [ZmS.1 h]; exact (.head _)))⟩
 obtain rfl : k = (YaI (vocV e.clips)).length := by omega
 have hsl := (Yef hV m _ (ZnR _)).2;refine .exit (.sr (.sA (.moveO J J) ?_));refine .callX J J J (ArgsS.cons U ArgsS.nil) (c_united (YeG (vocV e.clips) m (YaI (vocV e.clips)).length) (by omega)) ⟨(.head _), trivial⟩ J J (fun _ _ => J) ?_;refine .aN ?_;refine .ret (rDq J ?_)
 all_goals (first | rfl)
namespace Ty
theorem bu_47 : StructT Tryz.prog 47 (fun i => (#[(0, 1), (1, 1), (2, 1)] : Array (Nat × Nat))[i]?) [(.int .i64 0), (.int .i64 0), (.int .i64 0)] := .of (by kernel_rfl) (by kernel_rfl) (by decide)
theorem mt_53 : Tryz.prog.underlying 53 = some (.map 9 4) := by kernel_rfl
theorem mt_58 : Tryz.prog.underlying 58 = some (.map 3 59) := by kernel_rfl
end Ty
open Go.Sort Go.Lib
theorem mt_med : Tryz.prog.underlying 53 = some (.map 9 4) := by kernel_rfl
theorem mt_ats : Tryz.prog.underlying 58 = some (.map 3 59) := by kernel_rfl
theorem zt_spn : (Tryz.prog.info? 59).bind (·.zero) = some (.slice none 0 0) := by kernel_rfl
def medM (M : List (ByteArray × Bool)) : List (Value × D) := encG kB (fun p => .v (.bool p.2)) M
def tsM (A : Ats) : List (Value × D) := encG kI (fun p => .sl (p.2.map Spn.ds)) A
theorem medM_keys {e : Edt} (ok : EdtOk e) {i : Nat} (hi : i <= e.clips.length) : ∀ p ∈ medM (Yat e.clips i), ∃ q, keyOf Tryz.prog 9 p.1 = some q := fun p hp => by
 unfold medM encG at hp;obtain ⟨t, ht, rfl⟩ := ZmM.1 hp;obtain ⟨j, hj, he⟩ := YeL hi t ht;show ∃ q, keyOf Tryz.prog 9 (kB t.1) = some q
 rw [he]; exact kB_ok (nm_len (ok.clips _ (Yba (by omega))).name)
theorem rec_sz {c : Ctl} {l : List Src} (h : recF c l = 0) : ∀ p ∈ recL c l, p.1.size <= maxLen := by
 have hf : ffst (srcF c l) l.length = 0 := ffst_zr (rec_0 h).2;have := Yfy (c := c) (l := l) (ZnR _) hf;rw [Ydi] at this; exact this
theorem rec_nk (c : Ctl) (l : List Src) : NkG (recL c l) := by rw [<- Ydi]; exact Yem c l _
theorem getok_rec (c : Ctl) (l : List Src) (m : ByteArray) : YgD (recM (recL c l)) (kB m) (.v (.int .i64 0)) (.v (.int .i64 (recV (recL c l) m))) (hasG (recL c l) m) := by
 have h := mgetokG (kv := kB) (dv := fun p : ByteArray × Int => D.v (.int .i64 p.2)) kB_inj (rec_nk c l) m (.v (.int .i64 0)) (.v (.int .i64 (recV (recL c l) m))) (by unfold recV; cases Yaa (recL c l) m <;> rfl);rw [isS_has] at h;exact h
theorem get_rec (c : Ctl) (l : List Src) (m : ByteArray) : MGet (recM (recL c l)) (kB m) (.v (.int .i64 0)) (.v (.int .i64 (recV (recL c l) m))) :=
 mgetG (kv := kB) (dv := fun p : ByteArray × Int => D.v (.int .i64 p.2)) kB_inj (rec_nk c l) m _ _ (by unfold recV; cases Yaa (recL c l) m <;> rfl)
theorem recTo_i64 {c : Ctl} (hc : CtlOk c) (l : List Src) (m : ByteArray) : ∀ i, i <= l.length -> i64 ((Yaa (YcC c l i) m).getD 0)
 | 0, _ => by simp [YcC, recL, Ybb]; unfold i64; decide
 | i + 1, hi => by
  rw [Ybw (by omega), Ybg];split
  ·exact Ygr hc _
  ·exact recTo_i64 hc l m i (by omega)
theorem recV_i64 {c : Ctl} (hc : CtlOk c) (l : List Src) (m : ByteArray) : i64 (recV (recL c l) m) := by
 have := recTo_i64 hc l m l.length (ZnR _);rw [Ydi] at this; exact this
theorem tsM_keys {c : Ctl} (hc : CtlOk c) {l : List Src} {V : Voc} {t : Int} (hV : VocOk V t) (ms : List ByteArray) : ∀ p ∈ tsM (tsF (recL c l) V ms), ∃ q, keyOf Tryz.prog 3 p.1 = some q := fun p hp => by
 unfold tsM encG at hp;obtain ⟨q, hq, rfl⟩ := ZmM.1 hp;have hI := Yco (L := recL c l) hV ms;obtain ⟨m, _, he⟩ := (hI.has q.1).1 (by rw [(YaR hI.nk q).1 hq]; rfl);show ∃ r, keyOf Tryz.prog 3 (kI q.1) = some r
 rw [<- he]; exact Ya3 (recV_i64 hc l m)
theorem get_at {A : Ats} (h : NkG A) (id : Int) : MGet (tsM A) (kI id) (.sl []) (.sl (((Yaa A id).getD []).map Spn.ds)) :=
 mgetG (kv := kI) (dv := fun p : Int × List Spn => D.sl (p.2.map Spn.ds)) Yb2 h id _ _ (by cases Yaa A id <;> rfl)
def pkE {α : Type} (L : List α) (dn : List Nat) : List α := dn.filterMap fun i => L[i]?
theorem pkE_next {α : Type} {L : List α} {dn : List Nat} {i : Nat} (h : i < L.length) : pkE L (dn ++ [i]) = pkE L dn ++ [L[i]] := by
 unfold pkE;rw [List.filterMap_append];simp [h]
theorem pkE_len {α : Type} (L : List α) (dn : List Nat) : (pkE L dn).length <= dn.length := List.length_filterMap_le _ _
theorem pkE_range {α : Type} (L : List α) : ∀ n, n <= L.length -> (List.range n).filterMap (fun i => L[i]?) = L.take n
 | 0, _ => by simp
 | n + 1, h => by
  have h1 : n < L.length := by omega
  rw [List.range_succ, List.filterMap_append, pkE_range L n (by omega), List.take_add_one, ZgE h1];simp [h1]
theorem pkE_perm {α : Type} {L : List α} {dn : List Nat} (hd : dn.Nodup /\ ∀ i ∈ dn, i < L.length) (hall : ∀ i, i < L.length -> i ∈ dn) : (pkE L dn).Perm L := by
 have h1 : dn.Perm (List.range L.length) := (List.perm_ext_iff_of_nodup hd.1 List.nodup_range).2 fun i => by
  rw [List.mem_range]; exact ⟨hd.2 i, hall i⟩
 have h2 := h1.filterMap (fun i => L[i]?);rw [pkE_range L L.length (ZnR _), List.take_length] at h2;exact h2
theorem pkE_mem {α : Type} {L : List α} {dn : List Nat} {x : α} (h : x ∈ pkE L dn) : x ∈ L := by
 obtain ⟨i, _, h2⟩ := List.mem_filterMap.1 h;exact List.mem_of_getElem? h2
theorem cuesOf_app (A : Ats) (q : Int × List Spn) : YaS (A ++ [q]) = YaS A ++ q.2.map (cuO q.1) := by
 unfold YaS;rw [List.flatMap_append];simp
theorem cuesOf_len {A : Ats} (h : ∀ q ∈ A, q.2.length <= 200002) : (YaS A).length <= 200002 * A.length := by
 induction A with
 | nil => simp [YaS]
 | cons q A ih =>
  have h1 := ih fun r hr => h r (List.mem_cons_of_mem _ hr)
  have h2 := h q List.mem_cons_self;unfold YaS at h1 ⊢;rw [List.flatMap_cons, ZlA, ZlM, List.length_cons];omega
theorem at_le {L : List (ByteArray × Int)} {V : Voc} {t : Int} (hV : VocOk V t) (ms : List ByteArray) : ∀ q ∈ tsF L V ms, q.2.length <= 200002 := fun q hq => by
 have hI := Yco (L := L) hV ms;obtain ⟨v1, v2, _⟩ := hI.val _ _ ((YaR hI.nk q).1 hq);have := sep_len v1 v2 (by decide);omega
theorem cl_A {L : List (ByteArray × Int)} {V : Voc} {t : Int} (hV : VocOk V t) (ms : List ByteArray) {dm : List Nat} (h : dm.length <= 300) : (YaS (pkE (tsF L V ms) dm)).length <= 60000600 := by
 have h1 := cuesOf_len (A := pkE (tsF L V ms) dm) fun q hq => at_le hV ms q (pkE_mem hq)
 have h2 := pkE_len (tsF L V ms) dm;omega
theorem at_le2 {L : List (ByteArray × Int)} {V : Voc} {t : Int} (hV : VocOk V t) (ms : List ByteArray) (id : Int) : ((Yaa (tsF L V ms) id).getD []).length <= 10000000 := by
 obtain ⟨g1, g2, _⟩ := (Yco (L := L) hV ms).get id;have := sep_len g1 g2 (by decide);omega
theorem snd_le {V : Voc} {t : Int} (hV : VocOk V t) (m : ByteArray) : (sndV V m).length <= 10000000 := by
 have := sep_len (snd_sep V m) (snd_rng hV m) (by decide);omega
theorem YfL {c : Ctl} {l : List Src} {e : Edt} {n : Int} (h : cueF c l e = n) (hn : n ≠ 0) : cueV c l e = [] := if_neg (by rw [h]; exact hn)
theorem cue_1 {c : Ctl} {l : List Src} {e : Edt} (h : recF c l ≠ 0) : cueF c l e = recF c l := if_pos h
theorem cue_2 {c : Ctl} {l : List Src} {e : Edt} (h : recF c l = 0) (h2 : edtF e ≠ 0) : cueF c l e = edtF e := by
 unfold cueF; rw [if_neg (by rw [h]; decide), if_pos h2]
theorem cue_3 {c : Ctl} {l : List Src} {e : Edt} (h : recF c l = 0) (h2 : edtF e = 0) {i : Nat} (hi : i < e.clips.length) (h3 : hasG (recL c l) (cAt e i).media = false) (h4 : ffst (clpF (recL c l) e.clips) i = 0) : cueF c l e = 9 := by
 have hs : clpF (recL c l) e.clips i = 9 := if_pos h3;have hf : ffst (clpF (recL c l) e.clips) e.clips.length = 9 := (Yau h4 (by rw [hs]; decide) _ hi).trans hs;unfold cueF; rw [if_neg (by rw [h]; decide), if_neg (by rw [h2]; decide), if_pos (by rw [hf]; decide)]
def pkM (M : List (ByteArray × Bool)) (dn : List Nat) : List ByteArray := (pkE M dn).map (·.1)
theorem pkM_next {M : List (ByteArray × Bool)} {dn : List Nat} {i : Nat} (h : i < M.length) : pkM M (dn ++ [i]) = pkM M dn ++ [M[i].1] := by
 unfold pkM; rw [pkE_next h, ZmA]; rfl
theorem pkM_len (M : List (ByteArray × Bool)) (dn : List Nat) : (pkM M dn).length <= dn.length := by unfold pkM; rw [ZlM]; exact pkE_len _ _
theorem cue_sort {c : Ctl} {l : List Src} {e : Edt} {t : Int} (hV : VocOk (vocV e.clips) t) {ms : List ByteArray} {A0 : Ats} (hm : ms.Perm (medL e)) (hA : A0.Perm (tsF (recL c l) (vocV e.clips) ms)) : (YaS A0).Perm (cueA c l e) := cues_perm (hA.trans (at_perm hV hm))
theorem cue_snoc {q : Int × List Spn} {k : Nat} (h : k < q.2.length) : (q.2.take (k + 1)).map (cuO q.1) = (q.2.take k).map (cuO q.1) ++ [cuO q.1 q.2[k]] := by
 rw [List.take_add_one, ZgE h, Option.toList_some, ZmA]; rfl
theorem c_cues (c : Ctl) (l : List Src) (e : Edt) (hc : CtlOk c) (hl : ∀ s ∈ l, SrcS s) (hS : EdtS e) : ACallT Tryz.prog MaxT 4 [.agg c.ds, .sl (l.map Src.ds), .agg e.ds] (.tup [.sl ((cueV c l e).map Cue.ds), .v (.int .i64 (cueF c l e))]) := by
 refine Ycr (n := 107) (ds' := [.sl ((cueV c l e).map Cue.ds), .v (.int .i64 (cueF c l e))]) Tryz.func4 J (by kernel_rfl) J [6, 7] J J ?_;intro B w0 F0 hT;refine .sr (.sA (.box J J J) ?_);refine .sA (.box J J J) ?_;refine .aa (.nil ?_);refine .sr (.sA (.loadAgg J YbB J J) ?_);refine .mA ?_
 -- wants the world
 refine .callT J J J hT Yam J (.cons (.rfl' J) (.cons (.rfl' J) .nil)) (c_recs c l hc hl) ?_;refine .mA ?_;refine .sA (.extract J J J) (.sA (.extract J J J) ?_);refine .aa (.nil ?_);refine .seq (.sr (.mA ?_));refine .sA (.neq J J J) (.nil ?_);refine .cT J (fun h1 => ?_) fun h1 => ?_
 ·have hcf : cueF c l e = recF c l := cue_1 h1;rw [YfL hcf (by first | decide | assumption), hcf];refine .sr (.ma ?_);refine .aN ?_;refine .ret ?_;refine ⟨RetD.nil J, RetD.eq J ?_, trivial⟩
  all_goals (first | rfl)
 have hr0 : recF c l = 0 := by simpa using h1
 rw [show recD c l = .fm (recM (recL c l)) from if_pos hr0];refine .skip (.seq (.sr (.sA (.loadAgg J ag_29 J J) ?_)));refine .sA (.call J (.cons (.rfl' J) .nil) (c_edit e hS)) ?_;refine .aN ?_;refine .sr (.mA ?_);refine .sA (.neq J J J) (.nil ?_);refine .cT J (fun h2 => ?_) fun h2 => ?_
 ·have hcf : cueF c l e = edtF e := cue_2 hr0 h2;rw [YfL hcf (by first | decide | assumption), hcf];refine .sr (.ma ?_);refine .aN ?_;refine .ret ?_;refine ⟨RetD.nil J, RetD.eq J ?_, trivial⟩
  all_goals (first | rfl)
 have he0 : edtF e = 0 := by simpa using h2
 have ok := edtF_0 he0;have hV := voc_ok ok;have h300 := ok.le;have hrs := rec_sz hr0;refine .skip (.sr (.makeMap 93 J J J J J ?_));refine .sA (.assignO J J) (.nil ?_);refine .seq (.sr (.fl YeT sc_27 ?_));refine .sA (.lenSl J et_27.ht J) ?_;rw [ZlM];refine .mN ?_;refine .block (.loop (G := Nat) (fun i => Env.of [(41, .iv i), (39, .d (.sl (e.clips.map Clp.ds))), (40, .iv e.clips.length), (8, .d (.fm (recM (recL c l)))), (5, .d (.fp e.ds)), (11, .own 93)]) (fun i => [(93, .map (medM (Yat e.clips i)))]) (fun i => i <= e.clips.length /\ ffst (clpF (recL c l) e.clips) i = 0) (fun i => e.clips.length - i) 0 ⟨ZnZ _, J⟩ (Sub.less ⟨U, U, U, U, U, U, trivial⟩ (Yf9 J)) ?_);intro i hi;refine .sr (.sA (.lss J J J) (.nil ?_));refine .seq (.cT J (fun h3 => ?_) fun h3 => ?_)
 ·have hlt : i < e.clips.length := by omega
  have hnm := nm_len (ok.clips _ (cAt_mem hlt)).name;refine .skip (.seq (.block (.sr (.sA (.indexAddr J et_27 J J i J (at_c hlt) J) ?_))));refine .sA (.loadAgg J Ydx J J) ?_;refine .alloc 913 J J J J zt_56 J J J ?_;refine .st J J J sz_56 J (.head _) J J J (ZnB J) ?_;refine .freezeCells 13 (ds := (cAt e i).ds) J (.head _) (.nil ?_);refine .seq (.sr (.mA ?_));refine .fl YeS sc_9 ?_;refine .sA (.lookupOkF (key := kB (cAt e i).media) J mt_rec YeN zt_3 (fun _ _ => .v _) J J (DExact.v _) (kB_ok hnm) (Yel hrs) _ (getok_rec c l _)) ?_;refine .mA ?_;refine .sA (.extract J J J) (.sA (.extract J J J) ?_);refine .aa (.nil ?_);refine .sr (.mA ?_);refine .sA (.not J J) (.nil ?_);refine .cond J (fun h4 => ?_) (fun h4 => ?_)
  ·replace h4 := Yaw h4;have hcf : cueF c l e = 9 := cue_3 hr0 he0 hlt h4 hi.2;rw [YfL hcf (by first | decide | assumption), hcf];refine .sr (.aa (.nil ?_));refine .ret ?_;refine ⟨RetD.nil J, RetD.eq J ?_, trivial⟩
   all_goals (first | rfl)
  replace h4 := Yax h4;have hs0 : clpF (recL c l) e.clips i = 0 := if_neg (by rw [show e.clips.getD i default = cAt e i from rfl, h4]; decide);refine .skip (.region (.sA (.moveO J J) ?_));refine .fl YeS sc_9 ?_;refine .eff J J (.mapUpdateX (key := kB (cAt e i).media) J J mt_med YeN J (.head _) J (DExact.v _) J (kB_ok hnm) (medM_keys ok (by omega)) (YgH (dv := fun p : ByteArray × Bool => D.v (.bool p.2)) kB_inj (medTo_nk _ _) _ true)) (.nil ?_);refine .region (.sA (.add64 J J J) ?_);refine .mN ?_;refine ⟨i + 1, ⟨by omega, YaL hi.2 hs0⟩, (by dsimp only; omega), Sub.less ⟨U, U, U, U, U, U, trivial⟩ (fun p h => by dsimp only at h; rw [YdD hlt] at h; rw [ZmS.1 h]; exact (.head _))⟩
 obtain rfl : i = e.clips.length := by omega
 have hml := Yf8 e.clips e.clips.length;refine .exit (.sr (.makeMap 95 J J J J J ?_));refine .sA (.assignO J J) (.nil ?_);refine .seq (.sr (.sA (.moveO J J) ?_));refine .range 2060 J J J J mt_53 J (.tail _ (.head _)) J ?_;refine .nil ?_;refine .block (.loop (G := List Nat) (fun dn => Env.of [(60, .ptr 2060 0), (16, .own 95), (8, .d (.fm (recM (recL c l)))), (5, .d (.fp e.ds))]) (fun dn => [(2060, .iter (medM (Yat e.clips e.clips.length)) dn), (95, .map (tsM (tsF (recL c l) (vocV e.clips) (pkM (Yat e.clips e.clips.length) dn))))]) (fun dn => dn.Nodup /\ ∀ i ∈ dn, i < (Yat e.clips e.clips.length).length) (fun dn => (Yat e.clips e.clips.length).length - dn.length) [] ⟨List.nodup_nil, fun i h => absurd h List.not_mem_nil⟩ (Sub.less ⟨U, U, U, U, trivial⟩ (YaX J)) ?_);intro dn hd;refine .sr (.nextL J J J J J (.head _) (fun hall => ?_) (fun j hj hnj => ?_))
 ·skip;have hdl := YdR hd.1 hd.2;have hpl := pkM_len (Yat e.clips e.clips.length) dn;have hal := at_len (recL c l) (vocV e.clips) (pkM (Yat e.clips e.clips.length) dn) [];rw [List.length_nil] at hal;have hal : (tsF (recL c l) (vocV e.clips) (pkM (Yat e.clips e.clips.length) dn)).length <= 300 := ZnT hal (by omega);have hmp : (pkM (Yat e.clips e.clips.length) dn).Perm (medL e) := (pkE_perm hd hall).map _;refine .sA (.extract J J J) (.nil ?_);refine .seq (.cond J (fun h => nomatch h) (fun _ => ?_));refine .exit (.sr (.aN ?_));refine .seq (.sr (.sA (.moveO J J) ?_));refine .range 2079 J J J J mt_58 J (.tail _ (.head _)) J ?_;refine .nil ?_;refine .block (.adopt 18 901 47 3 J J ?_);refine .loop (G := List Nat) (fun dm => Env.of [(79, .ptr 2079 0), (18, .own 901)]) (fun dm => [(2079, .iter (tsM (tsF (recL c l) (vocV e.clips) (pkM (Yat e.clips e.clips.length) dn))) dm), (901, .row 47 3 ((YaS (pkE (tsF (recL c l) (vocV e.clips) (pkM (Yat e.clips e.clips.length) dn)) dm)).map Cue.ds))]) (fun dm => dm.Nodup /\ ∀ i ∈ dm, i < (tsF (recL c l) (vocV e.clips) (pkM (Yat e.clips e.clips.length) dn)).length) (fun dm => (tsF (recL c l) (vocV e.clips) (pkM (Yat e.clips e.clips.length) dn)).length - dm.length) [] ⟨List.nodup_nil, fun i h => absurd h List.not_mem_nil⟩ (Sub.less ⟨U, U, trivial⟩ (fun p h => by rcases List.mem_cons.1 h with rfl | h; exact .tail _ (.head _); rw [ZmS.1 h]; exact .head _)) ?_;intro dm hd2;refine .sr (.nextL J J J J J (.head _) (fun hbll => ?_) (fun j hj hnj => ?_))
  ·skip;have hpc : (YaS (pkE (tsF (recL c l) (vocV e.clips) (pkM (Yat e.clips e.clips.length) dn)) dm)).Perm (cueA c l e) := cue_sort hV hmp (pkE_perm hd2 hbll);have hdl2 := YdR hd2.1 hd2.2;have hcl := cl_A hV (pkM (Yat e.clips e.clips.length) dn) (L := (recL c l)) (dm := dm) (by omega);have hpcl := hpc.length_eq;refine .sA (.extract J J J) (.nil ?_);refine .seq (.cond J (fun h => nomatch h) (fun _ => ?_));refine .exit (.seq (.sr (.sA (.moveO J J) ?_)));refine .sA (.lenOwn J et_30.ht J (.tail _ (.head _))) ?_;rw [ZlM];refine .sA (.gtr J J J) (.nil ?_);refine .cT J (fun h5 => ?_) fun h5 => ?_
   ·have hcf : cueF c l e = 2 := (cue_of hr0 he0 hi.2).trans (if_pos (by omega));rw [YfL hcf (by first | decide | assumption), hcf];refine .sr (.aa (.nil ?_));refine .ret ?_;refine ⟨RetD.nil J, RetD.eq J ?_, trivial⟩
    all_goals (first | rfl)
   have hcf : cueF c l e = 0 := (cue_of hr0 he0 hi.2).trans (if_neg (by omega));have HSO : YaK YcL (YaS (pkE (tsF (recL c l) (vocV e.clips) (pkM (Yat e.clips e.clips.length) dn)) dm)) = YaK YcL (cueA c l e) := uniqA swo_cu anti_cu ((YaB _).trans hpc) (Yfv swo_cu _);rw [show cueV c l e = YaK YcL (YaS (pkE (tsF (recL c l) (vocV e.clips) (pkM (Yat e.clips e.clips.length) dn)) dm)) from (if_pos hcf).trans HSO.symm, hcf];refine .skip (.sr (.sA (.moveO J J) ?_))
   -- turns 901
   refine .callX J J J (.cons U (.cons (SLe.fn _) .nil)) ((c_sortCu (YaS (pkE (tsF (recL c l) (vocV e.clips) (pkM (Yat e.clips e.clips.length) dn)) dm)) (by omega) 47) 901) ⟨(.tail _ (.head _)), trivial⟩ J J (fun _ h => nomatch h) ?_;refine .nil ?_;refine .sr (.sA (.moveO J J) ?_);refine .sA (.assignO J J) ?_;refine .aN ?_;refine .ret ?_;refine ⟨RetD.own J (.head _) ?_, RetD.eq J ?_, trivial⟩
   all_goals (first | rfl)
  have hdl2 := YdR hd2.1 hd2.2;have hsn2 := Yf6 hd2 hj hnj;have hnl2 := YdR hsn2.1 hsn2.2;rw [ZlA, List.length_singleton] at hnl2;have HN := pkE_next (dn := dm) hj;have hql := at_le hV _ _ (ZgM hj);have hcl := cl_A hV (pkM (Yat e.clips e.clips.length) dn) (L := (recL c l)) (dm := dm) (by omega);refine .sA (.extract J J J) (.nil ?_);refine .seq (.cond J (fun _ => ?_) (fun h => nomatch h));refine .skip (.block (.sr (.sA (.entryL J J (.head _) hj) ?_)));refine .sA (.extract J J J) (.sA (.extract J J J) ?_);refine .aa (.nil ?_);refine .sr (.mA ?_);refine .sA (.lenSl J et_59.ht J) ?_;rw [ZlM];refine .mN ?_;refine .block (.loop (G := Nat) (fun k => Env.of [(87, .iv k), (85, .d (.sl ((tsF (recL c l) (vocV e.clips) (pkM (Yat e.clips e.clips.length) dn))[j].2.map Spn.ds))), (86, .d (.v (.int .i64 ((tsF (recL c l) (vocV e.clips) (pkM (Yat e.clips e.clips.length) dn))[j].2.length : Int)))), (19, .d (.v (.int .i64 (tsF (recL c l) (vocV e.clips) (pkM (Yat e.clips e.clips.length) dn))[j].1))), (79, .ptr 2079 0), (18, .own 901)]) (fun k => [(901, .row 47 3 ((YaS (pkE (tsF (recL c l) (vocV e.clips) (pkM (Yat e.clips e.clips.length) dn)) dm) ++ ((tsF (recL c l) (vocV e.clips) (pkM (Yat e.clips e.clips.length) dn))[j].2.take k).map (cuO (tsF (recL c l) (vocV e.clips) (pkM (Yat e.clips e.clips.length) dn))[j].1)).map Cue.ds)), (2079, .iter (tsM (tsF (recL c l) (vocV e.clips) (pkM (Yat e.clips e.clips.length) dn))) (dm ++ [j]))]) (fun k => k <= (tsF (recL c l) (vocV e.clips) (pkM (Yat e.clips e.clips.length) dn))[j].2.length) (fun k => (tsF (recL c l) (vocV e.clips) (pkM (Yat e.clips e.clips.length) dn))[j].2.length - k) 0 (ZnZ _) (Sub.less ⟨U, U, U, U, U, U, trivial⟩ (fun p h => by rcases List.mem_cons.1 h with rfl | h; rw [List.take_zero, List.map_nil, List.append_nil]; exact .tail _ (.head _); rw [ZmS.1 h]; exact .head _)) ?_);intro k hk;refine .sr (.sA (.lss J J J) (.nil ?_));refine .seq (.cT J (fun h6 => ?_) fun h6 => ?_)
  ·have hkl : k < (tsF (recL c l) (vocV e.clips) (pkM (Yat e.clips e.clips.length) dn))[j].2.length := by omega
   have hcs := cue_snoc hkl;refine .skip (.seq (.block (.sr (.sA (.indexAddr J et_59 J J k J (YaU hkl) J) ?_))));refine .sA (.loadAgg J ag_64 J J) ?_;refine .alloc 922 J J J J zt_64 J J J ?_;refine .st J J J sz_64 J (.head _) J J J (ZnB J) ?_;refine .freezeCells 22 (ds := ((tsF (recL c l) (vocV e.clips) (pkM (Yat e.clips e.clips.length) dn))[j].2[k]).ds) J (.head _) (.nil ?_);refine .region (.sA (.moveO J J) ?_);refine .fl Yd4 sc_3 ?_;refine .fl YbK sc_3 ?_;refine .mA ?_;refine .sA (.build J bu_47 (.cons J J (.cons J J (.cons J J .nil))) J) ?_;refine .sA (.buildSlice J et_30 (.cons J J J .nil) J (by decide)) ?_
   -- append 99
   refine .append rfl rfl rfl rfl et_30 rfl (.head _) rfl (by simp [D.parts]) (by simp only [ZlM, ZlA, List.length_cons, List.length_nil, ZlT]; omega) (by simp only [ZlM, ZlA, List.length_cons, List.length_nil, ZlT]; omega) ?_;refine .sA (.assignO J J) (.nil ?_);refine .region (.sA (.add64 J J J) ?_);refine .mN ?_;refine ⟨k + 1, (by omega), (by dsimp only; omega), Sub.less ⟨U, U, U, U, U, U, trivial⟩ (YaX (by dsimp only; rw [hcs, <- List.append_assoc, ZmA (l₂ := [cuO (tsF (recL c l) (vocV e.clips) (pkM (Yat e.clips e.clips.length) dn))[j].1 (tsF (recL c l) (vocV e.clips) (pkM (Yat e.clips e.clips.length) dn))[j].2[k]])]; rfl))⟩
  obtain rfl : k = (tsF (recL c l) (vocV e.clips) (pkM (Yat e.clips e.clips.length) dn))[j].2.length := by omega
  rw [List.take_length, <- cuesOf_app, <- HN];refine .exit ?_;refine ⟨dm ++ [j], hsn2, (by dsimp only; rw [ZlA, List.length_singleton]; omega), Sub.less ⟨U, U, trivial⟩ (fun p h => by rcases List.mem_cons.1 h with rfl | h; exact .tail _ (.head _); rw [ZmS.1 h]; exact .head _)⟩
 have hpl := pkM_len (Yat e.clips e.clips.length) dn;have hdl := YdR hd.1 hd.2;have hsn := Yf6 hd hj hnj;have hnl := YdR hsn.1 hsn.2;rw [ZlA, List.length_singleton] at hnl;have HN := pkM_next (dn := dn) hj;have hmk : ∃ q, keyOf Tryz.prog 9 (kB (Yat e.clips e.clips.length)[j].1) = some q := medM_keys ok (ZnR _) _ (List.mem_map_of_mem (ZgM hj));refine .sA (.extract J J J) (.nil ?_);refine .seq (.cond J (fun _ => ?_) (fun h => nomatch h));refine .skip (.block (.sr (.sA (.entryL J J (.head _) hj) ?_)));refine .sA (.extract J J J) ?_;refine .aN ?_;refine .drw 13 ?_;refine .sA (.moveO J J) (.sA (.moveD J J) (.sA (.moveD J J) (.sA (.lookupF (key := kB (Yat e.clips e.clips.length)[j].1) J mt_rec YeN zt_3 (fun _ _ => .v _) J J (DExact.v _) hmk (Yel hrs) (get_rec c l _)) (.sA (.moveO J J) (.sA (.moveD J J) ?_)))));refine .sA (.moveD J J) (.sA (.lookupF (key := kB (Yat e.clips e.clips.length)[j].1) J mt_rec YeN zt_3 (fun _ _ => .v _) J J (DExact.v _) hmk (Yel hrs) (get_rec c l _)) (.sA (.lookupX (key := kI (recV (recL c l) (Yat e.clips e.clips.length)[j].1)) J mt_ats YaC zt_spn (fun _ _ => .nil) J (.tail _ (.head _)) J (DExact.v _) (Ya3 (recV_i64 hc l _)) (tsM_keys hc hV _) (get_at (Yco hV _).nk _)) (.sA (.loadAgg J ag_29 J J) (.sA (.moveD J J) (.sA (.call J (.cons (.rfl' J) (.cons (.rfl' J) .nil)) (c_snd e (Yat e.clips e.clips.length)[j].1 ok)) ?_)))));refine .sA (.call J (.cons (.rfl' J) (.cons (.rfl' J) (.cons (by first | exact ArgOk.rfl' J | exact ArgOk.fn J) .nil))) (c_sweep ((Yaa (tsF (recL c l) (vocV e.clips) (pkM (Yat e.clips e.clips.length) dn)) (recV (recL c l) (Yat e.clips e.clips.length)[j].1)).getD []) (sndV (vocV e.clips) (Yat e.clips e.clips.length)[j].1) (at_le2 hV _ _) (snd_le hV _))) ?_;refine .nil ?_;refine .eff J J (.mapUpdateX (key := kI (recV (recL c l) (Yat e.clips e.clips.length)[j].1)) J J mt_ats YaC J (.tail _ (.head _)) J (DExact.v _) J (Ya3 (recV_i64 hc l _)) (tsM_keys hc hV _) (YgH (dv := fun p : Int × List Spn => D.sl (p.2.map Spn.ds)) Yb2 (Yco hV _).nk _ _)) (.nil ?_);refine ⟨dn ++ [j], hsn, (by dsimp only; rw [ZlA, List.length_singleton]; omega), Sub.less ⟨U, U, U, U, trivial⟩ (YaX (by dsimp only; rw [HN, tsF_snoc]; rfl))⟩
namespace Ty
theorem fv_120_1 : fieldB Tryz.prog 120 1 1 = true := by kernel_rfl
end Ty
theorem ovr_32 : Yby 3 2 = ⟨3, 2⟩ := by unfold Yby; simp
theorem wl_3 : wl 3 <= 1000000000 := by decide +kernel
theorem wl_2 : wl 2 <= 1000000000 := by decide +kernel
theorem wl_1 : wl 1 <= 1000000000 := by decide +kernel
theorem smI_1 : smI 1 = 1 := by decide +kernel
theorem c_floorA  : Yad Tryz.prog 103 [.agg (rD ⟨3, 2⟩)] (.agg (iD 1)) := by
 refine Yap (n := 31) (ds' := [.agg (iD 1)]) Tryz.func103 J (by kernel_rfl) J [.cell 2 120] J J ?_;intro B w0 F0 fr;refine .sr (.sA (.box J J J) ?_);refine .alloc 902 J J J J YdN J J J (.nil ?_);refine .sr (.sA (.fieldAddr J YaQ J) ?_);refine .fl Yao Yal ?_;refine .fl YaH Yal ?_;refine .sA (.call J (.cons (.rfl' J) (.cons (.rfl' J) .nil)) (c_divN 3 2 (by decide) wl_3)) ?_;refine .mA ?_;refine .sA (.extract J J J) (.sA (.extract J J J) ?_);refine .aa (.nil ?_);refine .seq (.sr (.sA (.fieldAddr J YaQ J) ?_));refine .fl YaM sc_4 ?_;refine .sA (.not J J) (.nil ?_);refine .cond J (fun h1 => ?_) (fun h1 => ?_)
 ·replace h1 := Yaw h1;refine .sr (.mA ?_);refine .sA (.build J Ybs (.cons J J (.cons J J .nil)) J) ?_;refine .st J J J YbE J (.head _) J J J (ZnB J) (.nil ?_);refine .ret ?_;refine ⟨RetR.agg J (.head _) YaJ J (.c5 (.c5 .nil)), trivial⟩
  all_goals (rfl)
 replace h1 := Yax h1;exact absurd h1 (by decide)
theorem c_roundA  : Yad Tryz.prog 51 [.agg (rD ⟨3, 2⟩), .v (.int .i64 1)] (.agg (iD 1)) := by
 refine Yap (n := 16) (ds' := [.agg (iD 1)]) Tryz.func51 J (by kernel_rfl) J [.cell 4 120] J J ?_;intro B w0 F0 fr;refine .sr (.sA (.box J J J) ?_);refine .alloc 904 J J J J YdN J J J (.nil ?_);refine .seq (.sr (.mN ?_));refine .block (.sr (.sA (.eql J J J) ?_));refine .aN ?_;refine .cT J (fun h1 => ?_) fun h1 => ?_
 ·refine .sr (.sA (.loadAgg J YaO J J) ?_);refine .sA (.call J (.cons (.rfl' J) .nil) c_floorA) ?_;refine .st J J J YbE J (.head _) J J J (ZnB J) (.nil ?_);refine .ret ?_;refine ⟨RetR.agg J (.head _) YaJ J (.c5 (.c5 .nil)), trivial⟩
  all_goals (rfl)
 exact absurd h1 (by decide)
theorem c_isPos (n : Int) : Yad Tryz.prog 48 [.v (.int .i64 n)] (.v (.bool (decide (-10000000000000 <= n /\ n <= 10000000000000)))) := by
 refine Yab (n := 9) (ds' := [.v (.bool (decide (-10000000000000 <= n /\ n <= 10000000000000)))]) Tryz.func48 J (by kernel_rfl) J [2] J J ?_;intro B w0 F0 fr;refine .sr (.aN ?_);refine .sr (.mA ?_);refine .sA (.geq J J J) ?_;refine .mA ?_;refine .sT 5 J (fun g1 => ?_) fun g1 => ?_
 ·refine .sG (.moveD J J) ?_;refine .sG (.leq J J J) ?_;refine .sA (.pickT J J J) ?_;refine .aN ?_;refine .ret (rDq J ?_)
  all_goals (simp; omega)
 refine .pB ?_;refine .sA (.pickF J J J) ?_;refine .aN ?_;refine .ret (rDq J ?_)
 all_goals (simp; omega)
theorem c_isWay (n : Int) : Yad Tryz.prog 49 [.v (.int .i64 n)] (.v (.bool (decide (1 <= n /\ n <= 3)))) := by
 refine Yab (n := 9) (ds' := [.v (.bool (decide (1 <= n /\ n <= 3)))]) Tryz.func49 J (by kernel_rfl) J [2] J J ?_;intro B w0 F0 fr;refine .sr (.aN ?_);refine .sr (.mA ?_);refine .sA (.geq J J J) ?_;refine .mA ?_;refine .sT 5 J (fun g1 => ?_) fun g1 => ?_
 ·refine .sG (.moveD J J) ?_;refine .sG (.leq J J J) ?_;refine .sA (.pickT J J J) ?_;refine .aN ?_;refine .ret (rDq J ?_)
  all_goals (simp; omega)
 refine .pB ?_;refine .sA (.pickF J J J) ?_;refine .aN ?_;refine .ret (rDq J ?_)
 all_goals (simp; omega)
theorem c_positionA  : Yad Tryz.prog 50 [.agg (iD 1)] (.tup [.v (.int .i64 1), .v (.int .i64 0)]) := by
 refine Yab (n := 19) (ds' := [.v (.int .i64 1), .v (.int .i64 0)]) Tryz.func50 J (by kernel_rfl) J [2, 3] J J ?_;intro B w0 F0 fr;refine .sr (.sA (.box J J J) ?_);refine .aa (.nil ?_);refine .sr (.sA (.loadAgg J YaJ J J) ?_);refine .sA (.call J (.cons (.rfl' J) .nil) (c_smallI 1)) ?_;refine .mA ?_;refine .sA (.extract J J J) ?_;rw [smI_1];refine .sA (.extract J J J) ?_;refine .aa (.nil ?_);refine .seq (.sr (.mA ?_));refine .sA (.not J J) ?_;refine .mA ?_;refine .split 13 J (fun g1 => ?_) (fun g1 => ?_)
 ·replace g1 := Yaw g1;exact absurd g1 (by decide)
 replace g1 := Yax g1;refine .sG (.moveD J J) ?_;refine .sG (.call J (.cons (.rfl' J) .nil) (c_isPos 1)) ?_;refine .sG (.not J J) ?_;refine .sA (.pickF J J J) (.nil ?_);refine .cN J (fun h2 => ?_) fun h2 => ?_
 ·exact absurd h2 (by decide)
 refine .skip (.sr (.ma ?_));refine .aN ?_;refine .ret ?_;refine ⟨RetD.eq J ?_, RetD.eq J ?_, trivial⟩
 all_goals (rfl)
theorem c_convertA  : Yad Tryz.prog 23 [.v (.int .i64 3), .v (.int .i64 2), .v (.int .i64 1), .v (.int .i64 1)] (.tup [.v (.int .i64 1), .v (.int .i64 0)]) := by
 refine Yab (n := 38) (ds' := [.v (.int .i64 1), .v (.int .i64 0)]) Tryz.func23 J (by kernel_rfl) J [8, 9] J J ?_;intro B w0 F0 fr;refine .sr (.aa (.nil ?_));refine .seq (.block (.seq (.sr (.mA ?_))));refine .sA (.call J (.cons (.rfl' J) .nil) (c_isPos 3)) (.sA (.not J J) ?_);refine .aN ?_;refine .cN J (fun h1 => ?_) fun h1 => ?_
 ·exact absurd h1 (by decide)
 refine .sr (.mA ?_);refine .sA (.call J (.cons (.rfl' J) .nil) (c_rate 2)) (.sA (.not J J) ?_);refine .aN ?_;refine .cN J (fun h2 => ?_) fun h2 => ?_
 ·exact absurd h2 (by decide)
 refine .region (.mA ?_);refine .sA (.call J (.cons (.rfl' J) .nil) (c_rate 1)) (.sA (.not J J) ?_);refine .aN ?_;refine .cN J (fun h3 => ?_) fun h3 => ?_
 ·exact absurd h3 (by decide)
 refine .sr (.mA ?_);refine .sA (.call J (.cons (.rfl' J) .nil) (c_isWay 1)) (.sA (.not J J) ?_);refine .aN ?_;refine .cN J (fun h4 => ?_) fun h4 => ?_
 ·exact absurd h4 (by decide)
 refine .skip (.sr (.mA ?_));refine .sA (.call J (.cons (.rfl' J) .nil) (c_of 3 (by decide))) ?_;refine .mA ?_;refine .sA (.call J (.cons (.rfl' J) .nil) (c_of 1 (by decide))) ?_;refine .sA (.call J (.cons (.rfl' J) (.cons (.rfl' J) .nil)) (c_mulI 3 1 wl_3 wl_1)) ?_;refine .mA ?_;refine .sA (.call J (.cons (.rfl' J) .nil) (c_of 2 (by decide))) ?_;refine .sA (.field J fv_120_1 J J) (.sA (.call J (.cons (.rfl' J) (.cons (.rfl' J) .nil)) (c_ovr 3 2 wl_3 wl_2)) ?_);rw [ovr_32];refine .mA ?_;refine .sA (.call J (.cons (.rfl' J) (.cons (.rfl' J) .nil)) c_roundA) (.sA (.call J (.cons (.rfl' J) .nil) c_positionA) (.sA (.extract J J J) (.sA (.extract J J J) ?_)));refine .aa (.nil ?_);refine .ret ?_;refine ⟨RetD.eq J ?_, RetD.eq J ?_, trivial⟩
 all_goals (rfl)
theorem c_alive  : Yad Tryz.prog 6 [] (.v (.bool true)) := by
 refine Yab (n := 13) (ds' := [.v (.bool true)]) Tryz.func6 J (by kernel_rfl) J [0] J J ?_;intro B w0 F0 fr;refine .sr (.aN ?_);refine .sr (.sA (.call J (.cons (.rfl' J) (.cons (.rfl' J) (.cons (.rfl' J) (.cons (.rfl' J) .nil)))) c_convertA) ?_);refine .mA ?_;refine .sA (.extract J J J) (.sA (.extract J J J) ?_);refine .aa (.nil ?_);refine .sr (.mA ?_);refine .sA (.eql J J J) ?_;refine .mA ?_;refine .sT 9 J (fun g1 => ?_) fun g1 => ?_
 ·refine .sG (.moveD J J) ?_;refine .sG (.eql J J J) ?_;refine .sA (.pickT J J J) ?_;refine .aN ?_;refine .ret (rDq J ?_)
  all_goals (rfl)
 exact absurd g1 (by decide)
theorem cueV_len (c : Ctl) (l : List Src) (e : Edt) : (cueV c l e).length <= 1000 := by
 unfold cueV;split
 ·rename_i h;rw [(YaB (cf := YcL) _).length_eq];exact (cue_0 h).2.2.2
 ·exact ZnZ _
theorem end_rng {e : Edt} (ok : EdtOk e) : ∀ i, i <= e.clips.length -> 0 <= Yex e.clips i /\ Yex e.clips i <= 100000
 | 0, _ => by simp [Yex]
 | i + 1, h => by
  have ih := end_rng ok i (by omega);have hc := (ok.clips _ (Yba (show i < e.clips.length by omega))).rng;unfold Yaz at hc;rw [endTo_next (by omega)];omega
theorem lawCued (c : Ctl) (l : List Src) (e : Edt) (a b : Int) (hc : CtlOk c) (hl : ∀ s ∈ l, SrcS s) (hS : EdtS e) (ha : i64 a) (hb : i64 b) : ACallT Tryz.prog MaxT 3 [.agg c.ds, .sl (l.map Src.ds), .agg e.ds, .v (.int .i64 a), .v (.int .i64 b)] (.v (.bool true)) := by
 refine Ycr (n := 100) (ds' := [.v (.bool true)]) Tryz.func3 J (by kernel_rfl) J [10] J J ?_;intro B w0 F0 hT;refine .sr (.sA (.box J J J) ?_);refine .sA (.box J J J) ?_;refine .aN ?_;refine .sr (.sA (.loadAgg J YbB J J) ?_);refine .mA ?_;refine .sA (.loadAgg J ag_29 J J) ?_
 -- wants the world
 refine .callT J J J hT Yam J (.cons (.rfl' J) (.cons (.rfl' J) (.cons (.rfl' J) .nil))) (c_cues c l e hc hl hS) ?_;refine .mA ?_;refine .sA (.extract J J J) (.sA (.extract J J J) ?_);refine .aa (.nil ?_);refine .sr (.sA (.loadAgg J YbB J J) ?_);refine .mm ?_
 -- wants the world
 refine .callT J J J hT Yam J (.cons (.rfl' J) (.cons (.rfl' J) (.cons (.rfl' J) .nil))) (c_pMerge c a b hc ha hb) ?_;refine .mA ?_;refine .sA (.extract J J J) (.sA (.extract J J J) ?_);refine .alloc 101 J J J J YfP J J J ?_;refine .st J J J Ycy J (.head _) J J J (ZnB J) ?_;refine .freezeCells 13 (ds := (mrgV c a b).1.ds) J (.head _) ?_;refine .aN ?_;refine .seq (.sr (.mA ?_));refine .sA (.neq J J J) ?_;refine .mA ?_;refine .sT 38 J (fun g1 => ?_) fun g1 => ?_
 ·refine .pB ?_;refine .sA (.pickT J J J) (.nil ?_);refine .cond J (fun _ => ?_) (fun h => nomatch h);refine .sr (.sA (.call J .nil c_alive) ?_);refine .aN ?_;refine .ret (rDq J ?_)
  all_goals (first | rfl | simp)
 have hcf : cueF c l e = 0 := by first | exact g1 | simpa using g1
 refine .sG (.moveD J J) ?_;refine .sG (.neq J J J) ?_;refine .sA (.pickF J J J) (.nil ?_);refine .cT J (fun h2 => ?_) fun h2 => ?_
 ·refine .sr (.sA (.call J .nil c_alive) ?_);refine .aN ?_;refine .ret (rDq J ?_)
  all_goals (first | rfl | simp)
 obtain ⟨hM, e1, e2, e3, e4⟩ := mrg_app (c := c) (a := a) (b := b) (by first | exact h2 | omega);rw [e1];have hcR := ref_ok hM hc ha hb;obtain ⟨q1, q2, q3⟩ := cue_mrg hM e4 hcf;have he0 := (cue_0 hcf).2.1;have hen := end_rng (edtF_0 he0) _ (ZnR _);refine .skip (.sr (.sA (.loadAgg J YbB J J) ?_));refine .sA (.loadAgg J Yce J J) ?_
 -- wants the world
 refine .callT J J J hT Yam J (.cons (.rfl' J) (.cons (.rfl' J) .nil)) (c_pApply c (mrgX c a b) hc (mrgX_in hc hM.ok ha hb)) ?_;rw [e3];refine .mA ?_;refine .sA (.extract J J J) (.sA (.extract J J J) (.sA (.extract J J J) ?_));refine .alloc 102 J J J J zt_25 J J J ?_;refine .alloc 103 J J J J YfP J J J ?_;refine .st J J J sz_25 J (.tail _ (.head _)) J J J (ZnB J) ?_;refine .freezeCells 15 (ds := (refC c a b).ds) J (.tail _ (.head _)) ?_;refine .st J J J Ycy J (.head _) J J J (ZnB J) ?_;refine .freezeCells 16 (ds := (YaV c (mrgX c a b)).2.1.ds) J (.head _) ?_;refine .aN ?_;refine .seq (.sr (.mA ?_));refine .sA (.neq J J J) (.nil ?_);refine .cT J (fun h3 => ?_) fun h3 => ?_
 ·exact absurd e2 h3
 refine .skip (.sr (.sA (.loadAgg J YbB J J) ?_));refine .mA ?_;refine .sA (.loadAgg J ag_29 J J) ?_
 -- wants the world
 refine .callT J J J hT Yam J (.cons (.rfl' J) (.cons (.rfl' J) (.cons (.rfl' J) .nil))) (c_cues (refC c a b) l e hcR hl hS) ?_;refine .mA ?_;refine .sA (.extract J J J) (.sA (.extract J J J) ?_);refine .aa (.nil ?_);refine .seq (.sr (.mA ?_));refine .sA (.neq J J J) ?_;refine .mA ?_;refine .sT 61 J (fun g4 => ?_) fun g4 => ?_
 ·exact absurd q1 g4
 skip;refine .sG (.call J .nil c_alive) ?_;refine .sG (.not J J) ?_;refine .sA (.pickF J J J) (.nil ?_);refine .cond J (fun h => nomatch h) (fun _ => ?_);refine .skip (.sr (.sA (.loadAgg J ag_29 J J) ?_));refine .sA (.call J (.cons (.rfl' J) .nil) (c_End e hS)) ?_;refine .mA ?_;refine .sA (.extract J J J) (.sA (.extract J J J) ?_);refine .aa (.nil ?_);refine .seq (.sr (.mA ?_));refine .sA (.neq J J J) (.nil ?_);refine .cT J (fun h5 => ?_) fun h5 => ?_
 ·exact absurd he0 h5
 rw [if_pos he0];refine .skip (.seq (.sr (.mm (.nil ?_))));refine .block (.loop (G := Nat) (fun p => Env.of [(73, .iv p), (72, .iv (Yex e.clips e.clips.length)), (11, .d (.sl ((cueV c l e).map Cue.ds))), (17, .d (.sl ((cueV (refC c a b) l e).map Cue.ds))), (3, .d (.v (.int .i64 a))), (4, .d (.v (.int .i64 b)))]) (fun p => []) (fun p => (p : Int) <= (Yex e.clips e.clips.length)) (fun p => (Yex e.clips e.clips.length).toNat - p) 0 (by show ((0 : Nat) : Int) <= _; omega) (Sub.less ⟨U, U, U, U, U, U, trivial⟩ (fun _ h => h)) ?_);intro p hp;refine .sr (.sA (.lss J J J) (.nil ?_));refine .seq (.cT J (fun h6 => ?_) fun h6 => ?_)
 ·refine .skip (.seq (.block (.sr (.ma (.nil ?_)))));refine .sr (.mm ?_);refine .mm ?_;refine .sA (.call J (.cons (.rfl' J) (.cons (.rfl' J) (.cons (.rfl' J) (.cons (.rfl' J) .nil)))) (c_cuedAt (cueV c l e) (p : Int) a b (ZnT (cueV_len _ _ _) (by decide)))) ?_;refine .mm ?_;refine .mm ?_;refine .sA (.call J (.cons (.rfl' J) (.cons (.rfl' J) (.cons (.rfl' J) (.cons (.rfl' J) .nil)))) (c_cuedAt (cueV (refC c a b) l e) (p : Int) a b (ZnT (cueV_len _ _ _) (by decide)))) ?_;refine .sA (.call J (.cons (.rfl' J) (.cons (.rfl' J) .nil)) (c_eqI _ _)) ?_;refine .sA (.not J J) (.nil ?_);refine .cN J (fun h7 => ?_) fun h7 => ?_
  ·first | exact absurd (q2 (p : Int)) h7 | exact absurd (congrArg (List.map intD) (q2 (p : Int))) h7
  refine .skip (.region (.sA (.add64 J J J) ?_));refine .mN ?_;refine ⟨p + 1, (by omega), (by dsimp only; omega), Sub.less ⟨(SLe.i64 (by omega)), U, U, U, U, U, trivial⟩ (fun _ h => nomatch h)⟩
 refine .exit (.seq (.sr (.mA ?_)));refine .sA (.lenSl J et_30.ht J) ?_;rw [ZlM];refine .mN ?_;refine .block (.loop (G := Nat) (fun k => Env.of [(91, .iv k), (89, .d (.sl ((cueV (refC c a b) l e).map Cue.ds))), (90, .iv (cueV (refC c a b) l e).length), (3, .d (.v (.int .i64 a)))]) (fun k => []) (fun k => k <= (cueV (refC c a b) l e).length) (fun k => (cueV (refC c a b) l e).length - k) 0 (ZnZ _) (Sub.less ⟨U, U, U, U, trivial⟩ (fun _ h => h)) ?_);intro k hk;refine .sr (.sA (.lss J J J) (.nil ?_));refine .seq (.cT J (fun h8 => ?_) fun h8 => ?_)
 ·have hlt : k < (cueV (refC c a b) l e).length := by omega
  have h1k := cueV_len (refC c a b) l e;refine .skip (.seq (.block (.sr (.sA (.indexAddr J et_30 J J k J (Yca hlt) J) ?_))));refine .sA (.loadAgg J ag_47 J J) ?_;refine .alloc 921 J J J J zt_47 J J J ?_;refine .st J J J sz_47 J (.head _) J J J (ZnB J) ?_;refine .freezeCells 21 (ds := ((cueV (refC c a b) l e).getD k default).ds) J (.head _) (.nil ?_);refine .sr (.fl fo_47_2 sc_3 ?_);refine .mA ?_;refine .sA (.eql J J J) (.nil ?_);refine .cT J (fun h9 => ?_) fun h9 => ?_
  ·exact absurd h9 (q3 _ (Yba hlt))
  refine .skip (.region (.sA (.add64 J J J) ?_));refine .mN ?_;refine ⟨k + 1, (by omega), (by dsimp only; omega), Sub.less ⟨U, U, U, U, trivial⟩ (fun _ h => nomatch h)⟩
 obtain rfl : k = (cueV (refC c a b) l e).length := by omega
 refine .exit (.sr (.aN ?_));refine .ret (rDq J ?_)
 all_goals (first | rfl | simp)
end
end Go.Proofs.YtohllekllkcfiaaGreatDoor
