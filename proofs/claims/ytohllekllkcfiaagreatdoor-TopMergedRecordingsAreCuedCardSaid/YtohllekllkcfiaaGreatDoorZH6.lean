/- Walks and laws over abstract values, merged by tools/merge.py. No statement of the seat. -/
import Derived.Lib.ItoaNum
import Derived.WalkKit
import Derived.Ground.NamesProg
import Derived.Shelf.Small.Strs
import Derived.Test.YtohllekllkcfiaaGreatDoorProg
import Derived.Test.YtohllekllkcfiaaGreatDoorZH5
set_option linter.unusedSimpArgs false
set_option linter.unusedVariables false
set_option maxHeartbeats 8000000
set_option maxRecDepth 100000
open List renaming length_map -> ZlM, getElem?_eq_getElem -> ZgE, getElem?_eq_some_iff -> ZgS, getElem_mem -> ZgM, length_take -> ZlT, getD_eq_getElem?_getD -> ZgD, getElem_map -> ZgP, getElem?_take -> ZgT, map_append -> ZmA, length_append -> ZlA, length_drop -> ZlD, mem_singleton -> ZmS, getElem?_drop -> ZgO
open Array renaming length_toList -> ZaL
open Nat renaming le_of_ble_eq_true -> ZnB, zero_le -> ZnZ, le_refl -> ZnR, le_trans -> ZnT
open Bool renaming and_eq_true -> ZbA
namespace Go.Proofs.YtohllekllkcfiaaGreatDoor
section
open Go.RowKit Go.Shelf
def winP (g cap off n e : Nat) (xs : List Value) : Value -> Obj -> Prop := fun v ob => v = .slice (some ⟨g, off, none⟩) n (cap - off) /\ ∃ cur : Array Value, ob = .cells cur e (0, 0) /\ xs.length <= cap /\ cap <= maxLen /\ cur.size = cap /\ cur.toList.take xs.length = xs /\ off + n <= xs.length /\ ∀ x ∈ xs, x.oneCell' = true
theorem winP.cell {g cap off n e : Nat} {xs : List Value} {v : Value} {ob : Obj} {w : World} (h : winP g cap off n e xs v ob) (hh : w.heap[g]? = some ob) {k : Nat} {x : Value} (hk : xs[k]? = some x) : w.cell? ⟨g, k, none⟩ = some x := by
 obtain ⟨_, cur, rfl, h2, h3, h4, h5, _⟩ := h;rw [cell_of_row w g k cur e (0, 0) hh];have hlt := (ZgS.1 hk).1
 have : cur.toList[k]? = some x := by
  rw [<- hk]
  conv => rhs; rw [<- h5]
  rw [ZgT, if_pos hlt]
 simpa using this
section
variable {P : Program} {B : Nat} {ops : Array Oper} {o : Oper} {e : Env} {σ : Obs}
theorem AOp.sliceHdr {t el : TypeId} {x lo hi : Operand} {bytes : Nat} {z : Value} {l k : Int} {g n cap : Nat} (ho : o.op = .slice t x (some lo) (some hi) none) (T : ElemTy P t el 1 bytes z) (hx : e.ev x = .d (.v (.slice (some ⟨g, 0, none⟩) n cap)))
 (hlo : e.ev lo = .d (.v (.int .i64 l))) (hhi : e.ev hi = .d (.v (.int .i64 k))) (p q : Nat) (hp : l = p) (hq : k = (p + q : Nat)) (hq0 : 0 < q) (h2 : p + q <= n) (hc : n <= cap) :
 AOp P B ops o e σ (.d (.v (.slice (some ⟨g, p, none⟩) q (cap - p)))) := .value fun F ρ w a hF hr _ => by
 have r1 := hr x (by rw [ho]; simp [Op.operands]);have r2 := hr lo (by rw [ho]; simp [Op.operands]);have r3 := hr hi (by rw [ho]; simp [Op.operands]);rw [hx] at r1; rw [hlo] at r2; rw [hhi] at r3;refine ⟨_, F, w, ?_, .d (.v _), Ext.refl hF⟩;obtain ⟨e1, e2⟩ := elem_of T.ht;unfold execOp;simp only [ho, Yav r1, Yav r2, Yav r3, Option.map_some, Option.map_none];rw [Sem.run_bind, run_sliceAt_slice w t _ _ _ _ e1, run_slice_lh w t (some ⟨g, 0, none⟩) n cap e1 .i64 .i64 l k (by omega) (by omega) (by omega), e2, T.sizeOf];subst hp;subst hq;simp only [Result.andThen_ok, Sem.run_pure, sliced, Int.toNat_natCast, Nat.mul_one, Nat.add_sub_cancel_left, if_neg (show ¬ cap = p by omega), Option.map_some, YaN, Nat.zero_add]
theorem AOp.indexWin {t el : TypeId} {x ix : Operand} {bytes id g cap off m ee : Nat} {z : Value} {n : Int} {xs : List Value} (ho : o.op = .indexAddr t x ix) (T : ElemTy P t el 1 bytes z) (hx : e.ev x = .own id) (hi : e.ev ix = .d (.v (.int .i64 n)))
 (hm : (id, Ob.raw (winP g cap off m ee xs)) ∈ σ) (k : Nat) (hk : n = k) (hlt : k < m) : AOp P B ops o e σ (.ptr id (off + k)) :=
 .value fun F ρ w a hF hr hσ => by
 have h1 := hr x (by rw [ho]; simp [Op.operands]);have h2 := hr ix (by rw [ho]; simp [Op.operands]);rw [hx] at h1;rw [hi] at h2;have hv2 := Yav h2;obtain ⟨g', ob, h3, h4, h5, h6, h7, h8⟩ := hσ.ok _ hm;dsimp only at h3 h7;have hv : a.eval x = ρ id := by generalize a.eval x = v at h1; cases h1; rfl
 refine ⟨.pointer (some ⟨g, off + k, none⟩), F, w, ?_, .ptr id _ g (by rw [h7]; rfl), Ext.refl hF⟩;unfold execOp;simp only [ho, hv, h7, hv2, hk];have hp : 0 <= (k : Int) /\ (k : Int) < (m : Int) := ⟨by omega, by omega⟩;simp [Instr.indexAt, run_underlying T.ht, asIntOf, hlt, T.sizeOf, YaN]
theorem AOp.loadWin {t : TypeId} {x : Operand} {id off0 g cap off m ee : Nat} {xs : List Value} {v : Value} (ho : o.op = .load t x) (hT : Scal P t) (hx : e.ev x = .ptr id off0) (hm : (id, Ob.raw (winP g cap off m ee xs)) ∈ σ) (hd : xs[off0]? = some v) :
 AOp P B ops o e σ (.d (.v v)) :=
 .value fun F ρ w a hF hr hσ => by
 have h1 := hr x (by rw [ho]; simp [Op.operands]);rw [hx] at h1;obtain ⟨g', ob, h3, h4, h5, h6, h7⟩ := hσ.ok _ hm;dsimp only at h3 h7;have hg : g' = g := by have h8 := h7.1; rw [h8] at h3; exact (Option.some.inj h3).symm
 subst hg;have hv := YbM h1 h3;refine ⟨v, F, w, ?_, .d (.v _), Ext.refl hF⟩;unfold execOp;simp only [ho, hv, Instr.loadAt, Instr.sureAddr, loadVar, Sem.run_bind, Sem.run_pure, Result.andThen_ok, hT w, Bool.false_eq_true, if_false, run_load, h7.cell h6 hd]
end
section
variable {cx : Cx} {ops : Array Oper} {o : Oper} {rest : List Oper} {e : Env} {σ : Obs} {Q : Post}
theorem R0.reSlot {F : Nat -> Prop} {ρ : Nat -> Value} {a : Act} {w : World} (h : R0 cx F ρ e σ a w) {t : Nat} {s : S} (hs : RepS F ρ w (a.tmps.getD t undef) s) : R0 cx F ρ (e.put (some t) s) σ a w :=
 ⟨h.size, h.defers, h.lt, h.base, h.new, h.below, h.hB, fun u => by
  by_cases hu : u = t
  ·subst hu; rw [Env.put_same]; exact hs
  ·rw [Env.put_other _ _ _ _ hu]; exact h.env u, h.obs, h.up, h.kown, h.fixed⟩
theorem R0.rehead {F : Nat -> Prop} {ρ : Nat -> Value} {a : Act} {w : World} (h : R0 cx F ρ e σ a w) {t id g : Nat} {v : Value} {ob ob' : Ob} (ht : e t = .d (.v v)) (hm : (id, ob) ∈ σ) (hg : blk (ρ id) = some g) (hv : blk v = some g) (hfx : cx.free id = true)
 (hob : ∀ ρ', ρ' id = v -> ObOk cx.B F ρ' w id ob') : ∃ ρ', R0 cx F ρ' ((e.kill id).put (some t) (.own id)) ((id, ob') :: Obs.kill id (Obs.del id σ)) a w := by
 obtain ⟨ρ', hρ⟩ : ∃ ρ' : Nat -> Value, ρ' = fun j => if j = id then v else ρ j := ⟨_, rfl⟩
 have h1 : ρ' id = v := by simp [hρ]
 have h2 : ∀ j, j ≠ id -> ρ' j = ρ j := fun j hj => by simp [hρ, hj]
 clear hρ;have hT : Turn w w none := ⟨rfl, rfl, rfl, ZnR _, fun _ _ _ => rfl⟩
 have hold : ∀ p ∈ Obs.kill id (Obs.del id σ), ∃ q ∈ σ, q.1 ≠ id /\ p = (q.1, q.2.kill id) := fun p hp => by
  obtain ⟨q, hq, rfl⟩ := Obs.mem_kill hp;obtain ⟨hq1, hq2⟩ := Obs.mem_del hq;exact ⟨q, hq1, hq2, J⟩
 refine ⟨ρ', h.size, h.defers, h.lt, h.base, h.new, h.below, h.hB, fun u => ?_, ⟨fun p hp => ?_, fun p hp q hq hne g' hg' => ?_, fun p hp q hq he => ?_⟩, h.up, fun p hp g' hg' => ?_, fun i hi => ?_⟩
 ·by_cases hu : u = t
  ·subst hu;rw [Env.put_same];have h3 := h.env u;rw [ht] at h3;rw [Yav h3, <- h1];exact .own id
  ·rw [Env.put_other _ _ _ _ hu];exact (h.env u).kill id h2
 ·rcases List.mem_cons.1 hp with rfl | hp
  ·exact hob ρ' h1
  ·obtain ⟨q, hq, hn, rfl⟩ := hold p hp;exact (h.obs.ok q hq).turn hn h2 h.lt (fun g hg => by simp at hg) hT (fun g _ => by simp) (fun _ hb => hb) (fun _ hb => .inl hb)
 ·have vis : ∀ p ∈ (id, ob') :: Obs.kill id (Obs.del id σ), ∃ q ∈ σ, q.1 = p.1 /\ blk (ρ' p.1) = blk (ρ q.1) := fun p hp => by
   rcases List.mem_cons.1 hp with rfl | hp
   ·exact ⟨_, hm, J, by rw [h1, hv]; exact hg.symm⟩
   ·obtain ⟨q, hq, hn, rfl⟩ := hold p hp;exact ⟨q, hq, J, by rw [h2 _ hn]⟩
  obtain ⟨p', hp', e1, b1⟩ := vis p hp;obtain ⟨q', hq', e2, b2⟩ := vis q hq;rw [b1] at hg';rw [b2];exact h.obs.apart p' hp' q' hq' (by rw [e1, e2]; exact hne) g' hg'
 ·rcases List.mem_cons.1 hp with rfl | hp
  ·rcases List.mem_cons.1 hq with rfl | hq
   ·rfl
   ·obtain ⟨q', hq', hn, rfl⟩ := hold q hq;exact absurd he.symm hn
  ·obtain ⟨p', hp', hn, rfl⟩ := hold p hp
   rcases List.mem_cons.1 hq with rfl | hq
   ·exact absurd he hn
   ·obtain ⟨q', hq', hn', rfl⟩ := hold q hq;have := h.obs.uniq p' hp' q' hq' he;rw [this]
 ·rcases List.mem_cons.1 hp with rfl | hp
  ·dsimp only at hg';rw [h1, hv] at hg';exact h.kown _ hm g' (by rw [hg]; exact hg')
  ·obtain ⟨q, hq, hn, rfl⟩ := hold p hp;dsimp only at hg';rw [h2 _ hn] at hg';exact h.kown q hq g' hg'
 ·rw [h2 i (Cx.free_ne hfx i hi)];exact h.fixed i hi
theorem AWP.openRow {c : Code} (t : Nat) {id ee : Nat} {els : List (List D)} (xs : List Value) (ht : e t = .own id) (hm : (id, Ob.row ee 1 els) ∈ σ) (hx : els = xs.map fun x => [D.v x]) (hne : 0 < xs.length)
 (k : ∀ g cap : Nat, xs.length <= cap -> AWP cx c (e.put (some t) (.d (.v (.slice (some ⟨g, 0, none⟩) xs.length cap)))) (Obs.upd id (.raw (winP g cap 0 xs.length ee xs)) σ) Q) : AWP cx c e σ Q := fun a w ⟨F, ρ, hr⟩ => by
 have ho := hr.obs.ok _ hm;obtain ⟨ys, h1, h2, h3, h4⟩ := ho;dsimp only at h1 h4;have hl : els.length = xs.length := by rw [hx, ZlM]
 rcases h1.2 with ⟨_, h5⟩ | ⟨g, cap, cur, h5, h6, h7, h8, h9, h10, h11⟩
 ·omega
 ·have hflat : ((List.range els.length).map fun i => (List.range 1).map (ys i)).flatten = xs := by
   refine List.ext_getElem ?_ fun i k1 k2 => ?_
   ·have := h1.1; omega
   ·have hi : i < els.length := by omega
    have hg := YaE ys 1 els.length i 0 hi (by decide);rw [Nat.mul_one, Nat.add_zero] at hg;have hy : (((List.range els.length).map fun i => (List.range 1).map (ys i)).flatten)[i] = ys i 0 := (ZgS.1 hg).2;rw [hy];have hel : els[i] = [D.v xs[i]] := by simp only [hx, ZgP]
    have h12 := (h3 i hi 0 (by rw [hel]; exact Nat.one_pos)).2;simp only [hel, List.getElem_cons_zero] at h12;exact rep_v h12
  have hone : ∀ x ∈ xs, x.oneCell' = true := fun x hxm => by
   obtain ⟨i, hi, rfl⟩ := List.mem_iff_getElem.1 hxm;have hi' : i < els.length := by omega
   have hel : els[i] = [D.v xs[i]] := by simp only [hx, ZgP]
   have h12 := h3 i hi' 0 (by rw [hel]; exact Nat.one_pos);have h13 := h12.2;simp only [hel, List.getElem_cons_zero] at h13;rw [<- rep_v h13];exact h12.1
  rw [hflat] at h11
  have hslot : RepS F ρ w (a.tmps.getD t undef) (.d (.v (.slice (some ⟨g, 0, none⟩) xs.length cap))) := by
   have h12 := hr.env t;rw [ht] at h12;generalize a.tmps.getD t undef = u at h12 ⊢;cases h12;rw [h5, hl];exact .d (.v _)
  refine k g cap (by omega) a w ⟨F, ρ, (hr.reOb hm ?_).reSlot hslot⟩;exact ⟨g, .cells cur ee (0, 0), by rw [h5]; rfl, h6, h4 g (by rw [h5]; rfl), h7, by rw [h5, hl, Nat.sub_zero], cur, rfl, by omega, h9, by omega, by rw [show els.length * 1 = xs.length by omega] at h11; exact h11, by omega, hone⟩
theorem AOps.toWin (t : Nat) {id g cap off n off' n' ee : Nat} {xs : List Value} (ht : e t = .d (.v (.slice (some ⟨g, off', none⟩) n' (cap - off')))) (hm : (id, Ob.raw (winP g cap off n ee xs)) ∈ σ) (hle : off' + n' <= xs.length) (k : AOps cx ops rest ((e.kill id).put (some t) (.own id)) ((id, .raw (winP g cap off' n' ee xs)) :: Obs.kill id (Obs.del id σ)) Q) (hfx : cx.free id = true := by rfl) : AOps cx ops rest e σ Q := fun a w ⟨F, ρ, hr⟩ => by
 obtain ⟨g', ob, h1, h2, h3, h4, h5⟩ := hr.obs.ok _ hm;dsimp only at h1 h5;have hg : g' = g := by have h8 := h5.1; rw [h8] at h1; exact (Option.some.inj h1).symm
 subst hg
 obtain ⟨ρ', h6⟩ := hr.rehead (v := .slice (some ⟨g', off', none⟩) n' (cap - off')) (ob' := .raw (winP g' cap off' n' ee xs)) ht hm h1 rfl hfx fun ρ' hρ => ⟨g', ob, by rw [hρ]; rfl, h2, h3, h4, hρ, by
  obtain ⟨_, cur, q1, q2, q3, q4, q5, q6, q7⟩ := h5
  exact ⟨cur, q1, q2, q3, q4, q5, hle, q7⟩⟩
 exact k a w ⟨F, ρ', h6⟩
theorem AWP.closeRow {c : Code} (t : Nat) {id g cap off n ee : Nat} {xs : List Value} (ht : e t = .d (.v (.slice (some ⟨g, 0, none⟩) xs.length cap))) (hm : (id, Ob.raw (winP g cap off n ee xs)) ∈ σ) (k : AWP cx c ((e.kill id).put (some t) (.own id)) ((id, .row ee 1 (xs.map fun x => [D.v x])) :: Obs.kill id (Obs.del id σ)) Q) (hfx : cx.free id = true := by rfl) : AWP cx c e σ Q := fun a w ⟨F, ρ, hr⟩ => by
 obtain ⟨g', ob, h1, h2, h3, h4, h5⟩ := hr.obs.ok _ hm;dsimp only at h1 h5;have hg : g' = g := by have h8 := h5.1; rw [h8] at h1; exact (Option.some.inj h1).symm
 subst hg;obtain ⟨_, cur, rfl, q2, q3, q4, q5, q6, q7⟩ := h5
 obtain ⟨ρ', h6⟩ := hr.rehead (v := .slice (some ⟨g', 0, none⟩) xs.length cap) (ob' := .row ee 1 (xs.map fun x => [D.v x])) ht hm h1 rfl hfx fun ρ' hρ => by
  refine ⟨fun i _ => xs.getD i undef, ?_, fun i hi => by simp, fun i hi j hj => ?_, fun g hg hf => ?_⟩
  ·have hfl : ((List.range (xs.map fun x => [D.v x]).length).map fun i => (List.range 1).map fun _ => xs.getD i undef).flatten = xs := by
    rw [ZlM];refine List.ext_getElem? fun i => ?_
    by_cases hi : i < xs.length
    ·have hg := YaE (fun i _ => xs.getD i undef) 1 xs.length i 0 hi (by decide);rw [Nat.mul_one, Nat.add_zero] at hg;rw [hg, ZgD, ZgE hi]; rfl
    ·have h9 := Yar (fun i _ => xs.getD i undef) xs.length 1;rw [List.getElem?_eq_none (show xs.length <= i by omega)];exact List.getElem?_eq_none (ZnT (Nat.le_of_eq h9) (by omega))
   rw [hρ, hfl, ZlM];exact ⟨by omega, .inr ⟨g', cap, cur, J, h2, h4, q2, q3, by omega, by rw [Nat.mul_one]; exact q5⟩⟩
  ·have hi' : i < xs.length := by simpa using hi
   have hj' : j = 0 := by simp at hj; omega
   subst hj';have e1 : xs.getD i undef = xs[i] := by rw [ZgD, ZgE hi']; rfl
   simp only [ZgP, List.getElem_cons_zero, e1];exact ⟨q7 _ (ZgM hi'), .v _⟩
  ·rw [hρ] at hg;obtain rfl := Option.some.inj hg;exact h3 hf
 exact k a w ⟨F, ρ', h6⟩
theorem AOps.copyWin {x y : Operand} {ts tt : TypeId} {el bytes id id2 g cap off n ee dst e2 : Nat} {z : Value} {xs ys : List Value} {els : List (List D)} (hg : o.guard = none) (hd : o.dst = some dst) (hdn : Nat.blt dst cx.N = true) (ho : o.op = .call { callee := .builtin .copy, args := #[x, y], argTypes := #[ts, tt] }) (T : ElemTy cx.P ts el 1 bytes z)
 (hx : e.ev x = .own id) (hm : (id, Ob.raw (winP g cap off n ee xs)) ∈ σ) (hy : e.ev y = .own id2) (hm2 : (id2, Ob.row e2 1 els) ∈ σ) (he : els = ys.map fun v => [D.v v]) (hl : ys.length = n) (hn : 0 < n)
 (k : AOps cx ops rest (e.put (some dst) (.d (.v (.int .i64 n)))) (Obs.upd id (.raw (winP g cap off n ee (xs.take off ++ ys ++ xs.drop (off + n)))) σ) Q) : AOps cx ops (o :: rest) e σ Q := by
 intro a w ⟨F, ρ, hr⟩;have r1 := Ya1 (e := e) (x := x) (a := a) (fun t _ => hr.env t);have r2 := Ya1 (e := e) (x := y) (a := a) (fun t _ => hr.env t);rw [hx] at r1;rw [hy] at r2;have hv1 : a.eval x = ρ id := by generalize a.eval x = v at r1; cases r1; rfl
 have hv2 : a.eval y = ρ id2 := by generalize a.eval y = v at r2; cases r2; rfl
 obtain ⟨g', ob, h1, h2, h3, h4, h5⟩ := hr.obs.ok _ hm;dsimp only at h1 h5;have hgg : g' = g := by have h8 := h5.1; rw [h8] at h1; exact (Option.some.inj h1).symm
 subst hgg;obtain ⟨q1, cur, rfl, q2, q3, q4, q5, q6, q7⟩ := h5;obtain ⟨zs, k1, k2, k3, k4⟩ := hr.obs.ok _ hm2;dsimp only at k1 k4;have hel : els.length = n := by rw [he, ZlM]; exact hl
 rcases k1.2 with ⟨_, k5⟩ | ⟨g2, cap2, cur2, k5, k6, k7, k8, k9, k10, k11⟩
 ·omega
 have hzs : ∀ i (hi : i < n), zs i 0 = ys[i]'(by omega) /\ (zs i 0).oneCell' = true := fun i hi => by
  have hi' : i < els.length := by omega
  have e3 : els[i] = [D.v (ys[i]'(by omega))] := by simp only [he, ZgP]
  have h12 := k3 i hi' 0 (by rw [e3]; exact Nat.one_pos);have h13 := h12.2;simp only [e3, List.getElem_cons_zero] at h13;exact ⟨rep_v h13, h12.1⟩
 have hsrc : ∀ j v, ys[j]? = some v -> w.cell? ((⟨g2, 0, none⟩ : Addr).add j) = some v := fun j v hj => by
  obtain ⟨hj1, rfl⟩ := ZgS.1 hj;have hc := Yej (k := j) (j := 0) k1 k5 k7 (by omega) (by decide);rw [YaN, Nat.zero_add];rw [Nat.mul_one, Nat.add_zero] at hc;rw [hc, (hzs j (by omega)).1]
 have hcur : off + n <= cur.size := by omega
 have hcell : ∀ j, j < ys.length -> (w.cell? ⟨g', off + j, none⟩).isSome = true := fun j hj => by
  rw [cell_of_row w g' (off + j) cur ee (0, 0) h4];simp [show off + j < cur.size by omega]
 have hfz : ∀ j, j < ys.length -> w.frozen? ⟨g', off + j, none⟩ = false := fun j hj => by simp [World.frozen?, h4]
 have hcopy := fun ty : TypeId => run_copy_sz (P := cx.P) w ts tt ty el 1 g' off n (cap - off) ⟨g2, 0, none⟩ n cap2 ys T.ht (by obtain ⟨i, hi, _, hi2, _⟩ := info_parts T.hi; rw [hi, Option.map_some, hi2]) (by rw [hl]; show n = Nat.min n n * 1; simp) hsrc hcell hfz fun v hvm => by
  obtain ⟨j, hj, rfl⟩ := List.mem_iff_getElem.1 hvm;rw [<- (hzs j (by omega)).1]; exact (hzs j (by omega)).2
 refine wpList_plain hg fun K hK => ?_
 unfold Oper.wp execOp;rw [hel] at k5;simp only [ho, resolve, invoke, builtin, Sem.run_bind, Sem.run_pure, Result.andThen_ok, List.map_toArray, List.map_cons, List.map_nil, hv1, hv2, q1, k5, hcopy];have hsh := Yeh (g := g') (e := ee) ys off w cur.toList (by rw [Array.toArray_toList]; exact h4) (by have hct : cur.toList.length = cur.size := ZaL; omega);have hw := hr.writeOb (ob' := .raw (winP g' cap off n ee (xs.take off ++ ys ++ xs.drop (off + n)))) h1 hm h2 h3 (Yeg g' ys off w) ⟨g', _, h1, h2, h3, hsh, q1, _, rfl, ?_, q3, ?_, ?_, ?_, fun x hx => ?_⟩
 ·have hput := hw.put (o := o) (v := .int .i64 n) (s := .d (.v (.int .i64 n))) (Ext.refl hw.lt) (.d (.v _)) (by unfold DstOk; rw [hd]; exact hdn);rw [hd] at hput;have hmin : goInt (Nat.min n n) = .int .i64 (n : Int) := by rw [show Nat.min n n = n from Nat.min_self n]; rfl
  rw [hmin];exact hK _ _ (k _ _ ⟨F, ρ, by rw [hd]; exact hput⟩)
 ·simp only [ZlA, ZlT, ZlD]; omega
 ·show (cur.toList.take off ++ ys ++ cur.toList.drop (off + ys.length)).length = cap
  simp only [ZlA, ZlT, ZlD, ZaL]; omega
 ·have hxl : (xs.take off ++ ys ++ xs.drop (off + n)).length = xs.length := by simp only [ZlA, ZlT, ZlD]; omega
  rw [hxl];show (cur.toList.take off ++ ys ++ cur.toList.drop (off + ys.length)).take xs.length = _
  have hcl : cur.toList.length = cap := by rw [ZaL]; exact q4
  refine List.ext_getElem? fun i => ?_
  rw [ZgT, hl]
  by_cases hi : i < xs.length
  ·rw [if_pos hi]
   have hxc : ∀ k, k < xs.length -> cur.toList[k]? = xs[k]? := fun k hk => by
    conv => rhs; rw [<- q5]
    rw [ZgT, if_pos hk]
   rw [List.append_assoc, List.append_assoc]
   by_cases h7 : i < off
   ·rw [List.getElem?_append_left (l₁ := cur.toList.take off) (by rw [ZlT]; omega), List.getElem?_append_left (l₁ := xs.take off) (by rw [ZlT]; omega), ZgT, ZgT, if_pos h7, if_pos h7, hxc i hi]
   ·have ea : (cur.toList.take off).length = off := by rw [ZlT]; omega
    have eb : (xs.take off).length = off := by rw [ZlT]; omega
    rw [List.getElem?_append_right (l₁ := cur.toList.take off) (by omega), List.getElem?_append_right (l₁ := xs.take off) (by omega), ea, eb]
    by_cases h8 : i - off < ys.length
    ·rw [List.getElem?_append_left h8, List.getElem?_append_left h8]
    ·rw [List.getElem?_append_right (l₁ := ys) (l₂ := cur.toList.drop (off + n)) (by omega), List.getElem?_append_right (l₁ := ys) (l₂ := xs.drop (off + n)) (by omega), ZgO, ZgO, hl, show off + n + (i - off - n) = i by omega, hxc i hi]
  ·rw [if_neg hi, List.getElem?_eq_none (by omega)]
 ·simp only [ZlA, ZlT, ZlD]; omega
 ·rcases List.mem_append.1 hx with hx | hx
  ·rcases List.mem_append.1 hx with hx | hx
   ·exact q7 x (List.mem_of_mem_take hx)
   ·obtain ⟨j, hj, rfl⟩ := List.mem_iff_getElem.1 hx;rw [<- (hzs j (by omega)).1]; exact (hzs j (by omega)).2
  ·exact q7 x (List.mem_of_mem_drop hx)
end
end
section
open Go.RowKit
open Ty
def wsV (f : Nat -> Nat) (n : Nat) : List Value := (List.range n).map fun k => Value.int .u32 (f k : Int)
theorem YcQ (f : Nat -> Nat) (n : Nat) : (wsV f n).length = n := by simp [wsV]
theorem YdO {f : Nat -> Nat} {n k : Nat} (h : k < n) : (wsV f n)[k]? = some (Value.int .u32 (f k : Int)) := by simp [wsV, h]
theorem wsV_D (f : Nat -> Nat) (n : Nat) : (wsV f n).map (fun x => [D.v x]) = wsD f n := by unfold wsV wsD; rw [List.map_map]; rfl
theorem YfR {f g : Nat -> Nat} {n : Nat} (h : ∀ k, k < n -> f k = g k) : wsV f n = wsV g n := by
 unfold wsV;exact List.map_congr_left fun k hk => by rw [h k (List.mem_range.1 hk)]
theorem wsV_win {f h : Nat -> Nat} {N off m : Nat} (hl : off + m <= N) : (wsV f N).take off ++ wsV h m ++ (wsV f N).drop (off + m) = wsV (fun k => if off <= k /\ k < off + m then h (k - off) else f k) N := by
 refine List.ext_getElem? fun i => ?_
 have ea : ((wsV f N).take off).length = off := by rw [ZlT, YcQ]; omega
 have eb : (wsV h m).length = m := YcQ _ _;rw [List.append_assoc]
 by_cases h1 : i < off
 ·rw [List.getElem?_append_left (by omega), ZgT, if_pos h1, YdO (by omega), YdO (by omega), if_neg (by omega)]
 ·rw [List.getElem?_append_right (by omega), ea]
  by_cases h2 : i < off + m
  ·rw [List.getElem?_append_left (by omega), YdO (by omega), YdO (by omega), if_pos (by omega)]
  ·rw [List.getElem?_append_right (by omega), eb, ZgO, show off + m + (i - off - m) = i by omega]
   by_cases h3 : i < N
   ·rw [YdO h3, YdO h3, if_neg (by omega)]
   ·rw [List.getElem?_eq_none (by rw [YcQ]; omega), List.getElem?_eq_none (by rw [YcQ]; omega)]
def qF (W V n : Nat) : Nat := if W / BW ^ n < V / BW ^ (n - 1) then W / BW ^ (n - 1) / (V / BW ^ (n - 1)) else BW - 1
theorem top_eq {W n : Nat} (hW : W < BW ^ (n + 1)) (hn : 0 < n) : dig W n = W / BW ^ n /\ BW * dig W n + dig W (n - 1) = W / BW ^ (n - 1) := by
 have h1 : W / BW ^ n < BW := (Nat.div_lt_iff_lt_mul (bwp n)).2 (by rw [Nat.mul_comm, <- Nat.pow_succ]; exact hW);have h2 : dig W n = W / BW ^ n := Nat.mod_eq_of_lt h1;refine ⟨h2, ?_⟩;have h3 := YeO W (n - 1);rw [show n - 1 + 1 = n by omega] at h3;rw [h2, h3]
theorem topV {V n : Nat} (hV : V < BW ^ n) (hn : 0 < n) : dig V (n - 1) = V / BW ^ (n - 1) := by
 refine Nat.mod_eq_of_lt ((Nat.div_lt_iff_lt_mul (bwp _)).2 ?_);have e : BW * BW ^ (n - 1) = BW ^ n := by rw [Nat.mul_comm, <- Nat.pow_succ]; exact congrArg (BW ^ ·) (show n - 1 + 1 = n by omega)
 rw [e];exact hV
theorem qF_lt {W V n : Nat} (hq : W / BW ^ n < V / BW ^ (n - 1) -> W / BW ^ (n - 1) / (V / BW ^ (n - 1)) < BW) : qF W V n < 4294967296 := by
 unfold qF;split
 ·rename_i h;exact hq h
 ·decide
def wF (W Z k : Nat) : Nat := ((borS W Z k + (dig W k : Int) - (dig Z k : Int)) % (BW : Int)).toNat
theorem wF_cast (W Z k : Nat) : ((wF W Z k : Nat) : Int) = (borS W Z k + (dig W k : Int) - (dig Z k : Int)) % (BW : Int) := Int.toNat_of_nonneg (Int.emod_nonneg _ (by decide))
theorem wF_eq {W Z : Nat} (h : Z <= W) (k : Nat) : wF W Z k = dig (W - Z) k := by
 unfold wF;rw [(borS_step h k).1]; rfl
theorem maskN {a : Nat} (ha : a < 18446744073709551616) : bits .and .u64 (a : Int) 4294967295 = ((a % BW : Nat) : Int) := by
 have h2 : bits .and .u64 (a : Int) 4294967295 = IntKind.u64.wrap (((BitVec.ofInt 64 (a : Int) &&& BitVec.ofInt 64 4294967295).toNat : Nat) : Int) := rfl
 have h3 : (BitVec.ofInt 64 (a : Int) &&& BitVec.ofInt 64 4294967295).toNat = a % BW := by
  rw [BitVec.toNat_and, BitVec.ofInt_natCast, BitVec.toNat_ofNat, Nat.mod_eq_of_lt (by omega)];show a &&& (4294967295 : Nat) = _
  exact Nat.and_two_pow_sub_one_eq_mod a 32
 rw [h2, h3];exact u64n (Nat.lt_trans (Nat.mod_lt _ Ycn) (by decide))
theorem sub2 {x y b : Int} (h1 : 0 <= x /\ x < 4294967296) (h2 : 0 <= y /\ y < 4294967296) (h3 : -1 <= b /\ b <= 0) : IntKind.u32.wrap (IntKind.u64.wrap (IntKind.u64.wrap (x - y) - (-b))) = (b + x - y) % (BW : Int) /\ IntKind.u64.wrap (IntKind.u64.wrap (x - y) - (-b)) / 2 ^ (63 : Int).toNat = -((b + x - y) / (BW : Int)) := by
 rw [IntKind.wrap_u32', IntKind.wrap_u64, IntKind.wrap_u64];show ((x - y) % 18446744073709551616 - -b) % 18446744073709551616 % 4294967296 = (b + x - y) % 4294967296 /\ ((x - y) % 18446744073709551616 - -b) % 18446744073709551616 / 9223372036854775808 = -((b + x - y) / 4294967296)
 omega
theorem step_z {W V n q : Nat} (hq : q < 4294967296) (hV : V < BW ^ n) : q * V < BW ^ (n + 1) := by
 rw [Nat.pow_succ, Nat.mul_comm];exact Nat.mul_lt_mul'' hV hq
theorem c_step (g cap off N : Nat) (f : Nat -> Nat) (W V n : Nat) (hn : 0 < n) (hn2 : n <= 2000000000) (hV : V < BW ^ n) (hv : 0 < V / BW ^ (n - 1)) (hW : W < V * BW) (hf : ∀ i, i <= n -> f (off + i) = dig W i) (hN : off + n < N) : XCall Tryz.prog 170 [.own 1, .d (.sl (wsD (dig V) n))] [(1, Ob.raw (winP g cap off (n + 1) 171 (wsV f N)))] [(1, Ob.raw (winP g cap off (n + 1) 171 (wsV (fun k => if off <= k /\ k < off + (n + 1) then dig (W % V) (k - off) else f k) N)))] (fun i => Nat.beq i 2) (.v (.int .u32 ((W / V : Nat) : Int))) := by
 have hW1 : W < BW ^ (n + 1) := Nat.lt_trans hW (by rw [Nat.pow_succ]; exact Nat.mul_lt_mul_of_pos_right hV Ycn)
 have hV0 : 0 < V := by
  rcases Nat.eq_zero_or_pos V with h | h
  ·subst h; rw [Nat.zero_div] at hv; omega
  exact h
 obtain ⟨ht1, ht2⟩ := top_eq hW1 hn;have ht3 := topV hV hn;have hf1 := hf n (ZnR n);have hf2 := hf (n - 1) (by omega);have hqf := q_first (N := W) hW hv;have hd1 := digB W n;have hd2 := digB W (n - 1);refine xcall_of (n := 95) (ds' := [.v (.int .u32 ((W / V : Nat) : Int))]) Tryz.func170 J (by kernel_rfl) J [4] J J ?_;intro B w0 F0 fr ρ0;refine .sr (.aN ?_);refine .sr (.mA ?_);refine .sA (.lenSl J et_118.ht J) ?_;rw [YaD];refine .aN ?_;refine .seq (.drw 14 ?_);refine .sA (.moveO J J) (.sA (.moveD J J) ?_);refine .sA (.indexWin J et_118 J J (.head _) n J (by omega)) ?_;refine .sA (.loadWin J YaF J (.head _) (YdO (show off + n < N by omega))) ?_;rw [hf1];refine .sA (.convInt J Yaj J) ?_;rw [Yc3];refine .sA (.shlG J J J (by decide) (by decide)) ?_;refine .sA (.moveO J J) (.sA (.moveD J J) ?_);refine .sA (.sub64 J J J) ?_;refine .sA (.indexWin J et_118 J J (.head _) (n - 1) (by omega) (by omega)) ?_;refine .sA (.loadWin J YaF J (.head _) (YdO (show off + (n - 1) < N by omega))) ?_;rw [hf2];refine .sA (.convInt J Yaj J) ?_;rw [Yc3];refine .sA (.orG J J J) ?_;rw [or_hi hd1 hd2, ht2];refine .sA (.assignD J J) ?_;refine .nil ?_;refine .nil ?_;refine .sr (.aN ?_);refine .seqJ (True) (Env.of [(7, .d (.v (.int .u64 (qF W V n : Int)))), (5, .iv n), (0, .own 1), (1, .d (.sl (wsD (dig V) n)))]) [(1, Ob.raw (winP g cap off (n + 1) 171 (wsV f N)))] ?_ (fun _ => ?_)
 ·skip;refine .seq (.drw 10 ?_);refine .sA (.moveO J J) (.sA (.moveD J J) ?_);refine .sA (.indexWin J et_118 J J (.head _) n J (by omega)) ?_;refine .sA (.loadWin J YaF J (.head _) (YdO (show off + n < N by omega))) ?_;rw [hf1];refine .sA (.moveD J J) (.sA (.moveD J J) ?_);refine .sA (.sub64 J J J) ?_;refine .sA (.indexAddr J et_118 J J (n - 1) (by omega) (Yas (by omega)) J) ?_;refine .sA (.load J YaF J) (.sA (.lss J J J) ?_);refine .nil ?_;refine .nil ?_;refine .cT J (fun h1 => ?_) fun h1 => ?_
  ·have hlt0 : W / BW ^ n < V / BW ^ (n - 1) := by rw [<- ht1, <- ht3]; omega
   rw [show qF W V n = W / BW ^ (n - 1) / (V / BW ^ (n - 1)) from if_pos hlt0];refine .region (.mm ?_);refine .mA ?_;refine .sA (.sub64 J J J) ?_;refine .sA (.indexAddr J et_118 J J (n - 1) (by omega) (Yas (by omega)) J) ?_;refine .sA (.load J YaF J) (.sA (.convInt J Yaj J) ?_);rw [Yc3];refine .sA (.quo J J J (by omega)) ?_;rw [quo_u (x := W / BW ^ (n - 1)) (by rw [<- ht2]; show 4294967296 * _ + _ < _; omega), ht3];refine .aN ?_;refine ⟨?_, Sub.less ⟨U, U, U, U, trivial⟩ (fun _ h => h)⟩;trivial
  have hlt0 : ¬ W / BW ^ n < V / BW ^ (n - 1) := by rw [<- ht1, <- ht3]; omega
  rw [show qF W V n = BW - 1 from if_neg hlt0];refine .skip ?_;refine ⟨?_, Sub.less ⟨U, U, U, U, trivial⟩ (fun _ h => h)⟩;trivial
 refine .block (.loop (G := Nat) (fun q => Env.of [(7, .d (.v (.int .u64 (q : Int)))), (5, .iv n), (0, .own 1), (1, .d (.sl (wsD (dig V) n)))]) (fun q => [(1, Ob.raw (winP g cap off (n + 1) 171 (wsV f N)))]) (fun q => W / V <= q /\ q < 4294967296) (fun q => q) (qF W V n) ⟨hqf, qF_lt fun hh => q_lt hn hh⟩ (Sub.less ⟨U, U, U, U, trivial⟩ (fun _ h => h)) ?_);intro q hq;have hqb := hq.2;refine .block (.sr (.aa (.nil ?_)));refine .sr (.mA ?_);refine .sA (.add64 J J J) ?_;refine .makeI 2 (n + 1) J J J J et_118 J J J (by omega) (by omega) J J ?_;refine .sA (.assignO J J) (.nil ?_);refine .seq (.sr (.mA ?_));refine .sA (.add64 J J J) ?_;refine .mN ?_;refine .block (.loop (G := Nat) (fun i => Env.of [(51, .iv i), (50, .iv ((n : Int) + 1)), (8, .d (.v (.int .u64 (-(borS W (q * V) i))))), (9, .d (.v (.int .u64 (carM q V i : Int)))), (10, .own 2), (7, .d (.v (.int .u64 (q : Int)))), (5, .iv n), (0, .own 1), (1, .d (.sl (wsD (dig V) n)))]) (fun i => [(2, .row 171 1 (wsD (accF (wF W (q * V)) i) (n + 1))), (1, Ob.raw (winP g cap off (n + 1) 171 (wsV f N)))]) (fun i => i <= n + 1) (fun i => (n + 1) - i) 0 (ZnZ _) (Sub.less ⟨U, U, (SLe.kn (by rw [borS_0]; rfl)), (SLe.kn (by rw [carM_0]; rfl)), U, U, U, U, U, trivial⟩ (by rw [<- accF_0]; exact fun _ h => h)) ?_);intro i hi;refine .sr (.sA (.lss J J J) (.nil ?_));refine .seq (.cT J (fun h2 => ?_) fun h2 => ?_)
 ·have hil : i <= n := by omega
  have hcs := carM_step q V i;have hcm := carM_le q V i;have hdv := digB V i;have hdw := digB W i;have hdz := digB (q * V) i;have hbr := borS_rng W (q * V) i;have hqd : q * dig V i <= 18446744065119617025 := Nat.mul_le_mul (show q <= 4294967295 by omega) (show dig V i <= 4294967295 by omega);have hcb : carM q V i + q * dig V i < 18446744073709551616 := by omega
  have hs2 := sub2 (x := (dig W i : Int)) (y := (dig (q * V) i : Int)) (b := borS W (q * V) i) (by omega) (by omega) hbr;refine .skip (.seq (.block (.sr (.ma (.nil ?_)))));refine .seqJ (True) (Env.of [(9, .d (.v (.int .u64 ((carM q V i + q * dig V i : Nat) : Int)))), (8, .d (.v (.int .u64 (-(borS W (q * V) i))))), (10, .own 2), (11, .iv i), (51, .iv i), (50, .iv ((n : Int) + 1)), (7, .d (.v (.int .u64 (q : Int)))), (5, .iv n), (0, .own 1), (1, .d (.sl (wsD (dig V) n)))]) [(2, .row 171 1 (wsD (accF (wF W (q * V)) i) (n + 1))), (1, Ob.raw (winP g cap off (n + 1) 171 (wsV f N)))] ?_ (fun _ => ?_)
  ·skip;refine .sr (.mm ?_);refine .sA (.lss J J J) (.nil ?_);refine .cT J (fun h3 => ?_) fun h3 => ?_
   ·refine .region (.mm ?_);refine .mm ?_;refine .sA (.indexAddr J et_118 J J i J (Yas (by omega)) J) ?_;refine .sA (.load J YaF J) (.sA (.convInt J Yaj J) ?_);rw [Yc3];refine .sA (.mul J J J) ?_;rw [mul_u (x := q) (by omega)];refine .sA (.add J J J) ?_;rw [add_u (by omega)];refine .aN ?_;refine ⟨?_, Sub.less ⟨U, U, U, U, U, U, U, U, U, U, trivial⟩ (fun _ h => h)⟩;trivial
   have hin : i = n := by omega
   have hz0 : dig V i = 0 := Ydt (by rw [hin]; exact hV);rw [show carM q V i + q * dig V i = carM q V i by rw [hz0, Nat.mul_zero, Nat.add_zero]];refine .skip ?_;refine ⟨?_, Sub.less ⟨U, U, U, U, U, U, U, U, U, U, trivial⟩ (fun _ h => h)⟩;trivial
  refine .sr (.sA (.moveO J J) ?_);refine .mA ?_;refine .sA (.indexWin J et_118 J J (.tail _ (.head _)) i J (by omega)) ?_;refine .sA (.loadWin J YaF J (.tail _ (.head _)) (YdO (show off + i < N by omega))) ?_;rw [hf i (by omega)];refine .sA (.convInt J Yaj J) ?_;rw [Yc3];refine .mA ?_;refine .sA (.andG J J J) ?_;rw [maskN hcb, hcs.1];refine .sA (.sub J J J) ?_;refine .mA ?_;refine .sA (.sub J J J) ?_;refine .aN ?_;refine .sr (.sA (.moveO J J) ?_);refine .mm ?_;refine .sA (.convInt J Yan J) ?_;rw [hs2.1, <- wF_cast];refine .sA (.indexOwn J et_118 J J (.head _) i J (by rw [YaD]; omega)) ?_;refine .stR J J J Yc5 J (.head _) J J J i 0 J (Yas (by omega)) (ZnB J) (.nil ?_);refine .sr (.mA ?_);refine .sA (.shrG J J J (by decide) (by decide)) ?_;rw [hs2.2, borS_next];refine .aN ?_;refine .region (.mA ?_);refine .sA (.shrG J J J (by decide) (by decide)) ?_;rw [shr32, hcs.2];refine .aN ?_;refine .region (.sA (.add64 J J J) ?_);refine .mN ?_;refine ⟨i + 1, (by omega), (by dsimp only; omega), Sub.less ⟨U, U, U, U, U, U, U, U, U, trivial⟩ (by dsimp only; rw [<- YeA (by omega)]; exact fun _ h => h)⟩
 obtain rfl : i = n + 1 := by omega
 rw [YfO];have hbe := borS_end hW1 (step_z (W := W) hqb hV);refine .exit (.seq (.sr (.mA ?_)));refine .sA (.eql J J J) (.nil ?_);refine .cT J (fun h4 => ?_) fun h4 => ?_
 ·have hle : (q * V) <= W := hbe.1 (by omega);have hqe := q_done hV0 hq.1 hle;have hwm : ∀ k, wF W (q * V) k = dig (W % V) k := fun k => by rw [wF_eq hle, hqe]; congr 1; have := Nat.div_add_mod W V; rw [Nat.mul_comm] at this; omega
  refine .sr (.sA (.moveO J J) ?_);refine .sA (.moveO J J) ?_;refine .copyWin (ys := wsV (wF W (q * V)) (n + 1)) J J J J et_118 J (.tail _ (.head _)) J (.head _) (wsV_D _ _).symm (YcQ _ _) (by omega) ?_;rw [wsV_win (by omega), YfR (g := (fun k => if off <= k /\ k < off + (n + 1) then dig (W % V) (k - off) else f k)) (fun k hk => by split <;> first | exact hwm _ | rfl)];refine .nil ?_;refine .sr (.mA ?_);refine .sA (.convInt J Yan J) ?_;rw [u32m, Nat.mod_eq_of_lt (show q < BW from hqb)];refine .aN ?_;refine .ret ?_;refine ⟨⟨RetDX.eq J (by rw [hqe]), trivial⟩, AllIn.of fun p hp => by rw [ZmS.1 hp]; exact (.tail _ (.head _))⟩
 have hle : ¬ (q * V) <= W := fun hh => by have := hbe.2 hh; omega
 obtain ⟨hq0, hq1⟩ := q_more hq.1 hle;refine .skip (.region (.mA ?_));refine .sA (.sub J J J) ?_;rw [show IntKind.u64.wrap ((q : Int) - 1) = ((q - 1 : Nat) : Int) by rw [show (q : Int) - 1 = ((q - 1 : Nat) : Int) by omega, u64n (by omega)]];refine .aN ?_;refine ⟨q - 1, ⟨hq1, by omega⟩, (by dsimp only; omega), Sub.less ⟨U, U, U, U, trivial⟩ (fun p hp => by rw [ZmS.1 hp]; exact (.tail _ (.head _)))⟩
namespace Ty
theorem cv_3_107 : Yfp Tryz.prog 3 107 .u64 = true := by kernel_rfl
end Ty
def lzN (b : Nat) : Nat := 32 - Lib.bitLen (dig b (wl b - 1))
theorem c_lz (x : Nat) (h : x < 4294967296) : Yad Tryz.prog 168 [.v (.int .u32 (x : Int))] (.v (.int .i64 (32 - (Lib.bitLen x : Int)))) :=
 ⟨.of Tryz.func168 (by kernel_rfl) rfl, fun F w vs hF hv => by
  rw [repL_v (us := [.int .u32 x]) hv];have h := Any.bits_LeadingZeros32 Tryz.l133 x w (by omega) (by omega);change Calls Tryz.prog 168 #[.int .u32 x] w _ at h;refine h.mono fun e w' ⟨h1, h2⟩ => ?_
  subst h2
  exact ⟨_, F, h1, .v _, Ext.refl hF⟩⟩
theorem wl_top {b : Nat} (h : 0 < b) : 0 < wl b /\ dig b (wl b - 1) ≠ 0 := by
 have h1 : 0 < wl b := Nat.pos_of_ne_zero fun e => by have := wl_eq_zero.1 e; omega
 refine ⟨h1, fun e => ?_⟩;have h2 : b < BW ^ (wl b - 1) := Yga (by rw [show wl b - 1 + 1 = wl b by omega]; exact Ydb b) e;have := wl_le.2 h2;omega
theorem lz_spec {b : Nat} (h : 0 < b) : lzN b < 32 /\ (32 : Int) - (Lib.bitLen (dig b (wl b - 1)) : Int) = (lzN b : Int) /\ b * 2 ^ lzN b < BW ^ wl b /\ BW ^ (wl b - 1) * 2147483648 <= b * 2 ^ lzN b := by
 obtain ⟨h1, h2⟩ := wl_top h;have h3 := YdU b (wl b - 1);obtain ⟨q1, q2, q3⟩ := Lib.bitLenAux_bounds 64 _ (Nat.lt_trans h3 (by decide)) h2;have q4 : Lib.bitLen (dig b (wl b - 1)) <= 32 := Lib.bitLenAux_le 64 _ 32 h3;change 1 <= Lib.bitLen _ at q1;change 2 ^ (Lib.bitLen _ - 1) <= _ at q2;change _ < 2 ^ Lib.bitLen _ at q3
 have hb : b / BW ^ (wl b - 1) = dig b (wl b - 1) := by
  refine (Nat.mod_eq_of_lt ((Nat.div_lt_iff_lt_mul (bwp _)).2 ?_)).symm;rw [Nat.mul_comm, <- Nat.pow_succ]; exact Nat.lt_of_lt_of_eq (Ydb b) (congrArg (BW ^ ·) (show wl b = wl b - 1 + 1 by omega))
 have hs : lzN b + Lib.bitLen (dig b (wl b - 1)) = 32 := by unfold lzN; omega
 generalize hL : Lib.bitLen (dig b (wl b - 1)) = L at *;generalize hS : lzN b = s at *
 have e1 : BW ^ wl b = BW ^ (wl b - 1) * (2 ^ L * 2 ^ s) := by
  rw [<- Nat.pow_add, show L + s = 32 by omega, show (2 : Nat) ^ 32 = BW from rfl, <- Nat.pow_succ];exact congrArg (BW ^ ·) (show wl b = wl b - 1 + 1 by omega)
 refine ⟨by omega, by omega, ?_, ?_⟩
 ·rw [e1, <- Nat.mul_assoc];refine Nat.mul_lt_mul_of_pos_right ?_ (Nat.pow_pos (by decide));rw [Nat.mul_comm];exact (Nat.div_lt_iff_lt_mul (bwp _)).1 (by rw [hb]; exact q3)
 ·have e2 : BW ^ (wl b - 1) * 2147483648 = BW ^ (wl b - 1) * 2 ^ (L - 1) * 2 ^ s := by
   rw [Nat.mul_assoc, <- Nat.pow_add, show L - 1 + s = 31 by omega]
  rw [e2];refine Nat.mul_le_mul_right _ ?_;rw [Nat.mul_comm];exact (Nat.le_div_iff_mul_le (bwp _)).1 (by rw [hb]; exact q2)
theorem div_set {a b : Nat} (hb : 0 < b) (hab : b <= a) : 0 < b * 2 ^ lzN b /\ 0 < b * 2 ^ lzN b / BW ^ (wl b - 1) /\ a * 2 ^ lzN b / BW ^ (wl a - wl b + 1) < b * 2 ^ lzN b /\ a * 2 ^ lzN b < BW ^ (wl a + 1) := by
 obtain ⟨h1, h2, h3, h4⟩ := lz_spec hb;have hw := YeB hab;have hp := (wl_top hb).1;have h5 : 2 ^ lzN b <= 2147483648 := by rw [show 2147483648 = 2 ^ 31 from rfl]; exact Nat.pow_le_pow_right (by decide) (by omega)
 have hB := bwp (wl b - 1);have h6 : a * 2 ^ lzN b < BW ^ wl a * 2147483648 := Nat.lt_of_le_of_lt (Nat.mul_le_mul_left _ h5) (Nat.mul_lt_mul_of_pos_right (Ydb a) (by decide));have e1 : BW ^ wl a = BW ^ (wl b - 1) * BW ^ (wl a - wl b + 1) := by rw [<- Nat.pow_add]; exact congrArg (BW ^ ·) (by omega)
 refine ⟨Nat.mul_pos hb (Nat.pow_pos (by decide)), ?_, ?_, ?_⟩
 ·exact (Nat.le_div_iff_mul_le hB).2 (by rw [Nat.one_mul]; exact ZnT (Nat.le_mul_of_pos_right _ (by decide)) h4)
 ·refine (Nat.div_lt_iff_lt_mul (bwp _)).2 (Nat.lt_of_lt_of_le h6 ?_);rw [e1, Nat.mul_right_comm];exact Nat.mul_le_mul_right _ h4
 ·rw [Nat.pow_succ];exact Nat.lt_of_lt_of_le h6 (Nat.mul_le_mul_left _ (by decide))
theorem wl_pos2 {b : Nat} (hb : 0 < b) (h : wl b ≠ 1) : 2 <= wl b := by
 have := (wl_top hb).1;omega
theorem Yfz {b : Nat} (h : wl b = 1) : dig b 0 = b /\ b < 4294967296 := ⟨sm_1 (by omega), by have := wl_le.1 (show wl b <= 1 by omega); rwa [Nat.pow_one] at this⟩
def woF (top k : Nat) : Nat := if k = top then 0 else k
def wnF (top la n k : Nat) : Nat := if k = top then la + 1 else n + 1
theorem sm_eq {a : Nat} (h : a < BW ^ 2) : smN a = a := if_pos h
theorem uF_wsV {A V k n N : Nat} (hk : 0 < k) (hV : V < BW ^ n) (hV0 : 0 < V) : wsV (fun i => if k - 1 <= i /\ i < k - 1 + (n + 1) then dig (winJ A V (k - 1) % V) (i - (k - 1)) else uF A V k n i) N = wsV (uF A V (k - 1) n) N := YfR fun i _ => by
 have h5 := uF_next (A := A) (j := k - 1) (n := n) (k := i) hV hV0;rw [show k - 1 + 1 = k by omega] at h5;rw [h5]
 by_cases q1 : i < k - 1
 ·rw [if_pos q1, if_neg (by omega)]
 ·rw [if_neg q1]
  by_cases q2 : i <= k - 1 + n
  ·rw [if_pos q2, if_pos (by omega)]
  ·rw [if_neg q2, if_neg (by omega)]
theorem shrS (x s : Nat) : (x : Int) / 2 ^ ((s : Nat) : Int).toNat = ((x / 2 ^ s : Nat) : Int) := by simp
theorem divtop {A V t : Nat} (hV : 0 < V) (h : A / BW ^ t < V) : A / V < BW ^ t := (Nat.div_lt_iff_lt_mul hV).2 (by rw [Nat.mul_comm]; exact (Nat.div_lt_iff_lt_mul (bwp _)).1 h)
theorem nat_0 : natW 0 = [] := by unfold natW; rw [wl_eq_zero.2 rfl]; rfl
theorem c_divN (a b : Nat) (hb : 0 < b) (ha : wl a <= 1000000000) : Yad Tryz.prog 108 [.sl (natW a), .sl (natW b)] (.tup [.sl (natW (a / b)), .sl (natW (a % b))]) := by
 refine Yab (n := 127) (ds' := [.sl (natW (a / b)), .sl (natW (a % b))]) Tryz.func108 J (by kernel_rfl) J [4, 5] J J ?_;intro B w0 F0 fr;refine .sr (.aa (.nil ?_));refine .seq (.sr (.mm ?_));refine .sA (.call J (.cons (.rfl' J) (.cons (.rfl' J) .nil)) (c_cmpN a b)) ?_;refine .sA (.lss J J J) (.nil ?_);refine .cT J (fun h1 => ?_) fun h1 => ?_
 ·have hab : a < b := by unfold cmpN at h1; split at h1 <;> first | assumption | (split at h1 <;> omega)
  rw [Nat.div_eq_of_lt hab, Nat.mod_eq_of_lt hab, nat_0];refine .sr (.ma ?_);refine .aN ?_;refine .ret ?_;refine ⟨RetD.nil J, RetD.eq J ?_, trivial⟩
  all_goals (first | rfl)
 have hab : b <= a := by unfold cmpN at h1; split at h1 <;> omega
 have hwba := YeB hab;have hwb1 := (wl_top hb).1;refine .skip (.seq (.sr (.mA ?_)));refine .sA (.call J (.cons (.rfl' J) .nil) (Yeb a)) ?_;refine .mA ?_;refine .sA (.extract J J J) (.sA (.extract J J J) ?_);refine .aa (.nil ?_);refine .sr (.mN ?_);refine .cond J (fun h2 => ?_) (fun h2 => ?_)
 ·skip;have hsa : a < BW ^ 2 := dcT h2;have hsb : b < BW ^ 2 := Nat.lt_of_le_of_lt hab hsa;have hsa2 : a < 18446744073709551616 := hsa;rw [sm_eq hsa];refine .sr (.mA ?_);refine .sA (.call J (.cons (.rfl' J) .nil) (Yeb b)) ?_;rw [sm_eq hsb];refine .mA ?_;refine .sA (.extract J J J) (.sA (.extract J J J) ?_);refine .aa (.nil ?_);refine .seq (.drw 10 ?_);refine .sA (.moveD J J) (.sA (.moveD J J) ?_);refine .sA (.quo J J J (by omega)) ?_;rw [quo_u hsa2];refine .sA (.call J (.cons (.rfl' J) .nil) (YeX (a / b) (Nat.lt_of_le_of_lt (Nat.div_le_self _ _) hsa2))) (.sA (.moveD J J) (.sA (.moveD J J) ?_));refine .sA (.rem J J J (by omega)) ?_;rw [<- Int.ofNat_tmod];refine .sA (.call J (.cons (.rfl' J) .nil) (YeX (a % b) (Nat.lt_of_le_of_lt (Nat.mod_le _ _) hsa2))) (.sA (.assignD J J) (.sA (.assignD J J) ?_));refine .nil ?_;refine .nil ?_;refine .ret ?_;refine ⟨RetD.eq J ?_, RetD.eq J ?_, trivial⟩
  all_goals (first | rfl)
 refine .skip (.seq (.sr (.mA ?_)));refine .sA (.lenSl J et_118.ht J) ?_;rw [Yaf];refine .sA (.eql J J J) (.nil ?_);refine .cT J (fun h3 => ?_) fun h3 => ?_
 ·have h1w := Yfz (b := b) (by omega);refine .sr (.mm ?_);refine .sA (.indexAddr J et_118 J J 0 J (Yas (by omega)) J) ?_;refine .sA (.load J YaF J) (.sA (.convInt J Yaj J) ?_);rw [Yc3, h1w.1];refine .sA (.call J (.cons (.rfl' J) (.cons (.rfl' J) .nil)) (c_dw a b hb h1w.2 ha)) (.sA (.extract J J J) (.sA (.extract J J J) ?_));refine .aa (.nil ?_);refine .ret ?_;refine ⟨RetD.eq J ?_, RetD.eq J ?_, trivial⟩
  all_goals (first | rfl)
 have hw2 := wl_pos2 hb (by omega);have hlz := lz_spec hb;obtain ⟨hV0, hVq, hAt, hAl⟩ := div_set hb hab;obtain ⟨hsd, hsm⟩ := sh_div (a := a) (b := b) (s := lzN b);refine .skip (.sr (.mm ?_));refine .sA (.lenSl J et_118.ht J) ?_;rw [Yaf];refine .sA (.sub64 J J J) ?_;refine .sA (.indexAddr J et_118 J J (wl b - 1) (by omega) (Yas (by omega)) J) ?_;refine .sA (.load J YaF J) (.sA (.call J (.cons (.rfl' J) .nil) (c_lz _ (digB b _))) (.sA (.convInt J cv_3_107 J) ?_));rw [hlz.2.1, u64n (Nat.lt_trans hlz.1 (by decide))];refine .aN ?_;refine .sr (.mm ?_);refine .callO 1 J J J J (.cons (.rfl' J) (.cons (.rfl' J) .nil)) (o_left a (lzN b) hlz.1 ha) J ?_;refine .mm ?_;refine .sA (.call J (.cons (.rfl' J) (.cons (.rfl' J) .nil)) (o_left b (lzN b) hlz.1 (by omega)).toA) ?_;refine .sA (.assignO J J) ?_;refine .aN ?_;refine .sr (.mA ?_);refine .sA (.lenSl J et_118.ht J) ?_;rw [Yaf];refine .aN ?_;refine .sr (.mA ?_);refine .sA (.lenSl J et_118.ht J) ?_;rw [Yaf];refine .mA ?_;refine .sA (.sub64 J J J) ?_;refine .sA (.add64 J J J) ?_;refine .makeI 72 (wl a - wl b + 1) J J J J et_118 J J (by omega) (by omega) (by omega) J J ?_;refine .sA (.assignO J J) (.nil ?_);refine .seq (.seq (.openRow 11 (wsV (dig (a * 2 ^ lzN b)) (wl a + 1)) J (.tail _ (.head _)) (wsV_D _ _).symm (by rw [YcQ]; omega) (fun g cap hcap => ?_)));rw [YcQ] at hcap ⊢;refine .region (.mA ?_);refine .sA (.lenSl J et_118.ht J) ?_;rw [Yaf];refine .mA ?_;refine .sA (.sub64 J J J) ?_;refine .aN ?_;refine .block (.loop (G := Nat) (fun k => Env.of [(15, .iv ((k : Int) - 1)), (11, .d (.v (.slice (some ⟨g, 0, none⟩) (wl a + 1) cap))), (14, .own 72), (12, .d (.sl (wsD (dig (b * 2 ^ lzN b)) (wl b + 1)))), (13, .iv (wl b : Int)), (10, .d (.v (.int .u64 (lzN b : Int))))]) (fun k => [(1, Ob.raw (winP g cap (woF (wl a - wl b + 1) k) (wnF (wl a - wl b + 1) (wl a) (wl b) k) 171 (wsV (uF (a * 2 ^ lzN b) (b * 2 ^ lzN b) k (wl b)) (wl a + 1)))), (72, .row 171 1 (wsD (topF (dig (a / b)) k) (wl a - wl b + 1)))]) (fun k => k <= (wl a - wl b + 1)) (fun k => k) (wl a - wl b + 1) (ZnR _) (Sub.less ⟨(SLe.kn (by omega)), U, U, U, U, U, trivial⟩ (fun p hp => by rw [show woF (wl a - wl b + 1) (wl a - wl b + 1) = 0 from if_pos rfl, show wnF (wl a - wl b + 1) (wl a) (wl b) (wl a - wl b + 1) = wl a + 1 from if_pos rfl, show wsV (uF (a * 2 ^ lzN b) (b * 2 ^ lzN b) (wl a - wl b + 1) (wl b)) (wl a + 1) = wsV (dig (a * 2 ^ lzN b)) (wl a + 1) from YfR fun k hk => (uF_top hwba hAt).trans (if_pos hk), <- topF_z] at hp; rcases List.mem_cons.1 hp with rfl | hp; exact (.tail _ (.head _)); rw [ZmS.1 hp]; exact (.head _))) ?_);intro k hk;refine .seq (.sr (.mA ?_));refine .sA (.geq J J J) (.nil ?_);refine .cT J (fun h4 => ?_) fun h4 => ?_
 ·have hkp : 0 < k := by omega
  have hwl := win_lt (A := (a * 2 ^ lzN b)) (V := (b * 2 ^ lzN b)) hV0 (k - 1);obtain ⟨hws, _⟩ := win_step (A := (a * 2 ^ lzN b)) hV0 (k - 1);rw [hsd] at hws;have hkk : k - 1 + 1 = k := by omega
  have HQ := topF_set (f := dig (a / b)) (i := k - 1) (n := (wl a - wl b + 1)) (by omega);rw [hkk] at HQ;have HU : ∀ i, i <= wl b -> uF (a * 2 ^ lzN b) (b * 2 ^ lzN b) k (wl b) (k - 1 + i) = dig (winJ (a * 2 ^ lzN b) (b * 2 ^ lzN b) (k - 1)) i := fun i hi => by have := uF_win (A := (a * 2 ^ lzN b)) (j := k - 1) hlz.2.2.1 hV0 hi; rwa [hkk] at this
  have HW := uF_wsV (A := (a * 2 ^ lzN b)) (k := k) (n := wl b) (N := wl a + 1) hkp hlz.2.2.1 hV0;refine .skip (.seq (.block (.drwF 12 [0, 1] [] FrOk.nil ?_)));refine .step J J J (.moveO J J) ?_ (hs := trivial);refine .step J J J (.moveD J J) ?_ (hs := trivial);refine .step J J J (.moveD J J) ?_ (hs := trivial);refine .step J J J (.moveD J J) ?_ (hs := trivial);refine .step J J J (.moveD J J) ?_ (hs := trivial);refine .step J J J (.moveD J J) ?_ (hs := trivial);refine .step J J J (.add64 J J J) ?_ (hs := trivial);refine .step J J J (.add64 J J J) ?_ (hs := trivial);refine .step J J J (.sliceHdr J et_118 J J J (k - 1) (wl b + 1) (by omega) (by omega) (by omega) (by omega) hcap) ?_ (hs := trivial);refine .step J J J (.moveD J J) ?_ (hs := trivial);refine .step J J J (.moveD J J) ?_ (hs := trivial);refine .step J J J (.sliceH J et_118 J J (by omega) (by rw [YaD]; omega) (wsD_one _ _)) ?_ (hs := trivial);rw [show ((wl b : Nat) : Int).toNat = wl b from rfl, wsD_take (by omega)];refine .nil trivial ?_;refine .toWin 91 (off' := k - 1) (n' := wl b + 1) J (.head _) (by rw [YcQ]; omega) ?_;refine .callX J J J (.cons U (.cons U .nil)) (c_step g cap (k - 1) (wl a + 1) (uF (a * 2 ^ lzN b) (b * 2 ^ lzN b) k (wl b)) (winJ (a * 2 ^ lzN b) (b * 2 ^ lzN b) (k - 1)) (b * 2 ^ lzN b) (wl b) hwb1 (by omega) hlz.2.2.1 hVq hwl HU (by omega)) ⟨.head _, trivial⟩ J J (fun _ h => J) ?_;rw [HW, hws];refine .sA (.indexOwn J et_118 J J (.tail _ (.head _)) (k - 1) (by omega) (by rw [YaD]; omega)) ?_;refine .stR J J J Yc5 J (.tail _ (.head _)) J J J (k - 1) 0 (by omega) (Yas (by omega)) (ZnB J) (.nil ?_);refine .region (.mA ?_);refine .sA (.sub64 J J J) ?_;refine .aN ?_;refine ⟨k - 1, (by omega), (by dsimp only; omega), Sub.less ⟨(SLe.kn (by omega)), U, U, U, U, U, trivial⟩ (fun p hp => by dsimp only at hp; rw [show woF (wl a - wl b + 1) (k - 1) = k - 1 from if_neg (by omega), show wnF (wl a - wl b + 1) (wl a) (wl b) (k - 1) = wl b + 1 from if_neg (by omega), <- HQ] at hp; rcases List.mem_cons.1 hp with rfl | hp; exact (.head _); rw [ZmS.1 hp]; exact (.tail _ (.head _)))⟩
 obtain rfl : k = 0 := by omega
 refine .exit (.seq (.closeRow 11 (xs := wsV (uF (a * 2 ^ lzN b) (b * 2 ^ lzN b) 0 (wl b)) (wl a + 1)) (by rw [YcQ]; rfl) (.head _) ?_));rw [wsV_D, show wsD (uF (a * 2 ^ lzN b) (b * 2 ^ lzN b) 0 (wl b)) (wl a + 1) = wsD (dig ((a * 2 ^ lzN b) % (b * 2 ^ lzN b))) (wl a + 1) from Ybf fun i _ => uF_end hlz.2.2.1 hV0];refine .region (.freeze 11 J (.head _) ?_);refine .freeze 14 J (.head _) ?_;refine .mA ?_;refine .makeI 73 (wl b) J J J J et_118 J J J (by omega) (by omega) J J ?_;refine .sA (.assignO J J) (.nil ?_);refine .seq (.sr (.mm (.nil ?_)));refine .block (.loop (G := Nat) (fun i => Env.of [(100, .iv i), (99, .iv (wl b : Int)), (11, .d (.sl (wsD (dig ((a * 2 ^ lzN b) % (b * 2 ^ lzN b))) (wl a + 1)))), (16, .own 73), (14, .d (.sl (wsD (dig (a / b)) (wl a - wl b + 1)))), (10, .d (.v (.int .u64 (lzN b : Int))))]) (fun i => [(73, .row 171 1 (wsD (accF (dig (a % b)) i) (wl b)))]) (fun i => i <= wl b) (fun i => wl b - i) 0 (ZnZ _) (Sub.less ⟨U, U, U, U, U, U, trivial⟩ (Yay (accF_0 _ _))) ?_);intro i hi;refine .sr (.sA (.lss J J J) (.nil ?_));refine .seq (.cT J (fun h5 => ?_) fun h5 => ?_)
 ·have hlt : i < wl b := by omega
  have hrd := shr_at ((a * 2 ^ lzN b) % (b * 2 ^ lzN b)) (lzN b) i hlz.1;rw [hsm] at hrd;refine .skip (.seq (.block (.sr (.ma (.nil ?_)))));refine .drw 19 ?_;refine .sA (.moveO J J) (.sA (.moveD J J) (.sA (.moveD J J) (.sA (.moveD J J) ?_)));refine .sA (.indexAddr J et_118 J J i J (Yas (by omega)) J) ?_;refine .sA (.load J YaF J) (.sA (.convInt J Yaj J) ?_);rw [Yc3];refine .sA (.moveD J J) (.sA (.moveD J J) ?_);refine .sA (.add64 J J J) ?_;refine .sA (.indexAddr J et_118 J J (i + 1) J (Yas (by omega)) J) ?_;refine .sA (.load J YaF J) (.sA (.convInt J Yaj J) ?_);rw [Yc3];refine .sA (.shlG J J J (by decide) (by decide)) ?_;refine .sA (.orG J J J) ?_;rw [YgA (digB _ _) (digB _ _)];refine .sA (.moveD J J) ?_;refine .sA (.shrG J J J (by omega) (by show _ <= (64 : Int); omega)) ?_;rw [shrS];refine .sA (.convInt J Yan J) ?_;rw [u32m, hrd];refine .sA (.indexOwn J et_118 J J (.head _) i J (by rw [YaD]; omega)) ?_;refine .nil ?_;refine .stR J J J Yc5 J (.head _) J J J i 0 J (Yas (by omega)) (ZnB J) (.nil ?_);refine .region (.sA (.add64 J J J) ?_);refine .mN ?_;refine ⟨i + 1, (by omega), (by dsimp only; omega), Sub.less ⟨U, U, U, U, U, U, trivial⟩ (Yay (YeA (by omega)))⟩
 obtain rfl : i = wl b := by omega
 rw [YfO];refine .exit (.sr (.mA ?_));refine .freeze 16 J (.head _) ?_;refine .sA (.call J (.cons (.rfl' J) .nil) (Yfg (a / b) (wl a - wl b + 1) (by rw [<- hsd]; exact divtop hV0 hAt))) ?_;refine .mA ?_;refine .sA (.call J (.cons (.rfl' J) .nil) (Yfg (a % b) (wl b) (Nat.lt_trans (Nat.mod_lt _ hb) (Ydb b)))) ?_;refine .aa (.nil ?_);refine .ret ?_;refine ⟨RetD.eq J ?_, RetD.eq J ?_, trivial⟩
 all_goals (first | rfl)
theorem wl_zero' {b : Nat} (h : ¬ ((wl b : Nat) : Int) > 0) : b = 0 := wl_eq_zero.1 (by omega)
theorem c_gcd (a b : Nat) (ha : wl a <= 1000000000) (hb : wl b <= 1000000000) : Yad Tryz.prog 107 [.sl (natW a), .sl (natW b)] (.sl (natW (Nat.gcd a b))) := by
 refine Yab (n := 45) (ds' := [.sl (natW (Nat.gcd a b))]) Tryz.func107 J (by kernel_rfl) J [4] J J ?_;intro B w0 F0 fr;refine .sr (.aN ?_);refine .seq (.block (.loop (G := Nat × Nat) (fun p => Env.of [(0, .d (.sl (natW p.1))), (1, .d (.sl (natW p.2)))]) (fun p => []) (fun p => wl p.1 <= 1000000000 /\ wl p.2 <= 1000000000 /\ Nat.gcd p.1 p.2 = Nat.gcd a b) (fun p => p.2) (a, b) ⟨ha, hb, J⟩ (Sub.less ⟨U, U, trivial⟩ (fun _ h => h)) ?_));intro p hp;refine .seq (.sr (.mA ?_));refine .sA (.lenSl J et_118.ht J) ?_;rw [Yaf];refine .sA (.gtr J J J) (.nil ?_);refine .cT J (fun h1 => ?_) fun h1 => ?_
 ·have hpp : 0 < p.2 := Nat.pos_of_ne_zero fun e => by rw [e, wl_eq_zero.2 rfl] at h1; omega
  refine .skip (.block (.sr (.mA ?_)));refine .sA (.call J (.cons (.rfl' J) .nil) (Yeb p.1)) ?_;refine .mA ?_;refine .sA (.extract J J J) (.sA (.extract J J J) ?_);refine .aa (.nil ?_);refine .sr (.mA ?_);refine .sA (.call J (.cons (.rfl' J) .nil) (Yeb p.2)) ?_;refine .mA ?_;refine .sA (.extract J J J) (.sA (.extract J J J) ?_);refine .aa (.nil ?_);refine .seq (.sr (.mm ?_));refine .split 25 J (fun g2 => ?_) (fun g2 => ?_)
  ·skip;have hgg := g2;refine .sG (.moveD J J) ?_;refine .sA (.pickT J J J) (.nil ?_);refine .cond J (fun h3 => ?_) (fun h3 => ?_)
   ·skip;have hs1 : p.1 < BW ^ 2 := dcT hgg;have hs2 : p.2 < BW ^ 2 := dcT h3;rw [sm_eq hs1, sm_eq hs2];refine .seq (.block (.loop (G := Nat × Nat) (fun q => Env.of [(5, .d (.v (.int .u64 (q.1 : Int)))), (7, .d (.v (.int .u64 (q.2 : Int))))]) (fun q => []) (fun q => q.1 < BW ^ 2 /\ q.2 < BW ^ 2 /\ Nat.gcd q.1 q.2 = Nat.gcd a b) (fun q => q.2) (p.1, p.2) ⟨hs1, hs2, hp.2.2⟩ (Sub.less ⟨U, U, trivial⟩ (fun _ h => h)) ?_));intro q hq;refine .seq (.sr (.mA ?_));refine .sA (.gtr J J J) (.nil ?_);refine .cT J (fun h4 => ?_) fun h4 => ?_
    ·have hqp : 0 < q.2 := by omega
     refine .skip (.block (.drw 6 ?_));refine .sA (.moveD J J) (.sA (.moveD J J) (.sA (.moveD J J) ?_));refine .sA (.rem J J J (by omega)) ?_;rw [<- Int.ofNat_tmod];refine .sA (.assignD J J) (.sA (.assignD J J) ?_);refine .nil ?_;refine .nil ?_;refine ⟨(q.2, q.1 % q.2), ⟨hq.2.1, Nat.lt_trans (Nat.mod_lt _ hqp) hq.2.1, by rw [<- hq.2.2]; show Nat.gcd q.2 (q.1 % q.2) = _; rw [Nat.gcd_comm q.2, <- Nat.gcd_rec, Nat.gcd_comm]⟩, (by dsimp only; exact Nat.mod_lt _ hqp), Sub.less ⟨U, U, trivial⟩ (fun _ h => h)⟩
    have hq0 : q.2 = 0 := by omega
    have hq1 : q.1 = Nat.gcd a b := by have h5 := hq.2.2; rwa [hq0, Nat.gcd_zero_right] at h5
    have hqb : q.1 < 18446744073709551616 := hq.1;rw [hq1] at hqb ⊢;refine .exit (.sr (.mA ?_));refine .sA (.call J (.cons (.rfl' J) .nil) (YeX (Nat.gcd a b) hqb)) ?_;refine .aN ?_;refine .ret (rDq J ?_)
    all_goals (first | rfl | rw [hp1])
   refine .skip (.sr (.mm ?_));refine .sA (.call J (.cons (.rfl' J) (.cons (.rfl' J) .nil)) (c_divN p.1 p.2 hpp hp.1)) ?_;refine .mA ?_;refine .sA (.extract J J J) (.sA (.extract J J J) ?_);refine .aa (.nil ?_);refine .region (.mm ?_);refine .aa (.nil ?_);refine ⟨(p.2, p.1 % p.2), ⟨hp.2.1, ZnT (YeB (Nat.le_of_lt (Nat.mod_lt _ hpp))) hp.2.1, by rw [<- hp.2.2]; show Nat.gcd p.2 (p.1 % p.2) = _; rw [Nat.gcd_comm p.2, <- Nat.gcd_rec, Nat.gcd_comm]⟩, (by dsimp only; exact Nat.mod_lt _ hpp), Sub.less ⟨U, U, trivial⟩ (fun _ h => h)⟩
  refine .pA ?_;refine .sA (.pickF J J J) (.nil ?_);refine .cond J (fun h => nomatch h) (fun _ => ?_);refine .skip (.sr (.mm ?_));refine .sA (.call J (.cons (.rfl' J) (.cons (.rfl' J) .nil)) (c_divN p.1 p.2 hpp hp.1)) ?_;refine .mA ?_;refine .sA (.extract J J J) (.sA (.extract J J J) ?_);refine .aa (.nil ?_);refine .region (.mm ?_);refine .aa (.nil ?_);refine ⟨(p.2, p.1 % p.2), ⟨hp.2.1, ZnT (YeB (Nat.le_of_lt (Nat.mod_lt _ hpp))) hp.2.1, by rw [<- hp.2.2]; show Nat.gcd p.2 (p.1 % p.2) = _; rw [Nat.gcd_comm p.2, <- Nat.gcd_rec, Nat.gcd_comm]⟩, (by dsimp only; exact Nat.mod_lt _ hpp), Sub.less ⟨U, U, trivial⟩ (fun _ h => h)⟩
 have hp0 := wl_zero' h1;have hp1 : p.1 = Nat.gcd a b := by have h5 := hp.2.2; rwa [hp0, Nat.gcd_zero_right] at h5
 refine .exit (.sr (.mA ?_));refine .aN ?_;refine .ret (rDq J ?_)
 all_goals (first | rfl | rw [hp1])
namespace Ty
theorem cv_5_173 : Yfp Tryz.prog 5 173 .u64 = true := by kernel_rfl
end Ty
def kN (l : List UInt8) (j : Nat) : Nat := min 9 (l.length - j)
def cN (l : List UInt8) (j : Nat) : Nat := decV ((l.drop j).take (kN l j))
def sclN (l : List UInt8) (j : Nat) : Nat := 10 ^ kN l j
def aN (l : List UInt8) (j : Nat) : Nat := decV (l.take j)
theorem aN_next (l : List UInt8) (j : Nat) : aN l (j + kN l j) = cN l j + sclN l j * aN l j := by
 have h1 : ((l.drop j).take (kN l j)).length = kN l j := by rw [ZlT, ZlD]; unfold kN; omega
 unfold aN;rw [List.take_add, YfK, h1, Nat.add_comm, Nat.mul_comm]; rfl
theorem cN_lt {l : List UInt8} (hd : ∀ c ∈ l, Yfl c = true) (j : Nat) : cN l j < sclN l j := by
 have h1 : ((l.drop j).take (kN l j)).length = kN l j := by rw [ZlT, ZlD]; unfold kN; omega
 have h2 := decV_lt ((l.drop j).take (kN l j)) fun c hc => hd c (List.mem_of_mem_drop (List.mem_of_mem_take hc))
 rw [h1] at h2;exact h2
theorem sclN_le (l : List UInt8) (j : Nat) : sclN l j <= 1000000000 := Nat.pow_le_pow_right (by decide) (show kN l j <= 9 by unfold kN; omega)
def mixF (V A i k : Nat) : Nat := if k < i then dig V k else dig A k
theorem mixF_set {V A i n : Nat} (h : i < n) : (wsD (mixF V A i) n).set i (u32D (dig V i)) = wsD (mixF V A (i + 1)) n := YdX h fun k hk => by
 unfold mixF
 by_cases e : k = i
 ·subst e; rw [if_pos (by omega), if_pos rfl]
 ·rw [if_neg e]
  by_cases h2 : k < i
  ·rw [if_pos h2, if_pos (by omega)]
  ·rw [if_neg h2, if_neg (by omega)]
theorem mixF_0 (V A n : Nat) : wsD (mixF V A 0) n = wsD (dig A) n := Ybf fun k _ => if_neg (by omega)
theorem mixF_all (V A n : Nat) : wsD (mixF V A n) n = wsD (dig V) n := Ybf fun k hk => if_pos hk
theorem words_more {A V c s : Nat} (hV : V = c + s * A) (hs : 0 < s) (h : 0 < V / BW ^ wl A) (h2 : V / BW ^ wl A < BW) : wsD (dig V) (wl A) ++ [u32D (V / BW ^ wl A)] = natW V := by
 have h3 : dig V (wl A) = V / BW ^ wl A := Nat.mod_eq_of_lt h2
 have h4 : V < BW ^ (wl A + 1) := by
  rw [Nat.pow_succ, Nat.mul_comm];exact (Nat.div_lt_iff_lt_mul (bwp _)).1 h2
 rw [<- YeK h4 (.inr (by rw [Nat.add_sub_cancel, h3]; omega))];unfold wsD;rw [List.range_succ, ZmA, List.map_singleton, h3]
theorem words_same {A V c s : Nat} (hV : V = c + s * A) (hs : 0 < s) (h : ¬ 0 < V / BW ^ wl A) : wsD (dig V) (wl A) = natW V := by
 have h1 : V < BW ^ wl A := by
  have h3 : V / BW ^ wl A = 0 := Nat.eq_zero_of_not_pos h;exact (Nat.div_eq_zero_iff.1 h3).resolve_left (fun e => by have := bwp (wl A); omega)
 have h2 : A <= V := by
  have := Nat.le_mul_of_pos_left A hs;omega
 refine YeK h1 ?_
 by_cases h0 : A = 0
 ·exact .inl (by rw [h0]; exact wl_eq_zero.2 J)
 ·refine .inr fun e => ?_
  have hp := (wl_top (b := A) (by omega)).1;have h5 : V < BW ^ (wl A - 1) := Yga (by rw [show wl A - 1 + 1 = wl A by omega]; exact h1) e;have := wl_le.2 (Nat.lt_of_le_of_lt h2 h5);omega
theorem u8_48 {c : UInt8} (h : 48 <= c.toNat) : IntKind.u8.wrap ((c.toNat : Int) - 48) = ((c.toNat - 48 : Nat) : Int) := by
 have := c.toNat_lt;rw [IntKind.wrap_u8];omega
theorem dig_b {c : UInt8} (h : Yfl c = true) : 48 <= c.toNat /\ c.toNat <= 57 := by
 unfold Yfl at h;simpa using h
theorem aN_wl {l : List UInt8} (hd : ∀ c ∈ l, Yfl c = true) (j : Nat) : wl (aN l j) <= l.length := by
 refine wl_le.2 (Nat.lt_of_lt_of_le (decV_lt (l.take j) fun c hc => hd c (List.mem_of_mem_take hc)) ?_);exact ZnT (Nat.pow_le_pow_right (by decide) (by rw [ZlT]; exact Nat.min_le_right _ _)) (Nat.pow_le_pow_left (by decide) _)
theorem aN_all (l : List UInt8) (j : Nat) (h : l.length <= j) : aN l j = decV l := by unfold aN; rw [List.take_of_length_le h]
theorem c_natText (l : List UInt8) (hd : ∀ c ∈ l, Yfl c = true) (hl : l.length <= 1000000) : Yad Tryz.prog 198 [.v (.string (bStr l))] (.sl (natW (decV l))) := by
 refine Yab (n := 63) (ds' := [.sl (natW (decV l))]) Tryz.func198 J (by kernel_rfl) J [2] J J ?_;intro B w0 F0 fr;refine .sr (.aN ?_);refine .sr (.aN ?_);refine .seq (.block (.adopt 3 901 171 1 J J ?_));refine .loop (G := Nat) (fun j => Env.of [(0, .d (.v (.string (bStr (l.drop j))))), (3, .own 901)]) (fun j => [(901, .row 171 1 (natW (aN l j)))]) (fun j => j <= l.length) (fun j => l.length - j) 0 (ZnZ _) (Sub.less ⟨U, U, trivial⟩ (by unfold aN; rw [List.take_zero]; show ∀ p ∈ [(901, Ob.row _ 1 (natW 0))], _; rw [nat_0]; exact fun _ h => h)) ?_;intro j hj;refine .seq (.sr (.mA ?_));refine .sA (.lenStr J st_9 J) ?_;rw [YaT, ZlD];refine .sA (.gtr J J J) (.nil ?_);refine .cT J (fun h1 => ?_) fun h1 => ?_
 ·have hjl : j < l.length := by omega
  have hk1 : 0 < kN l j := by unfold kN; omega
  have hk2 : j + kN l j <= l.length := by unfold kN; omega
  have hVV := aN_next l j;have hwa := aN_wl hd j;refine .skip (.block (.sr (.mA ?_)));refine .sA (.lenStr J st_9 J) ?_;rw [YaT, ZlD];refine .sA (.min J J J) ?_;rw [show min (9 : Int) ((l.length - j : Nat) : Int) = ((kN l j : Nat) : Int) by unfold kN; omega];refine .aN ?_;refine .sr (.aa (.nil ?_));refine .seq (.sr (.mm (.nil ?_)));refine .block (.loop (G := Nat) (fun i => Env.of [(16, .iv i), (15, .iv (kN l j : Int)), (5, .d (.v (.int .u64 ((decV ((l.drop j).take i) : Nat) : Int)))), (6, .d (.v (.int .u64 ((10 ^ i : Nat) : Int)))), (0, .d (.v (.string (bStr (l.drop j))))), (4, .iv (kN l j : Int)), (3, .own 901)]) (fun i => [(901, .row 171 1 (natW (aN l j)))]) (fun i => i <= kN l j) (fun i => kN l j - i) 0 (ZnZ _) (Sub.less ⟨U, U, U, U, U, U, U, trivial⟩ (fun _ h => h)) ?_);intro i hi;refine .sr (.sA (.lss J J J) (.nil ?_));refine .seq (.cT J (fun h2 => ?_) fun h2 => ?_)
  ·have hlt : i < kN l j := by omega
   obtain ⟨c, hc⟩ : ∃ c, (l.drop j)[i]? = some c := ⟨_, ZgE (by rw [ZlD]; unfold kN at hlt; omega)⟩;have hdb := dig_b (hd c (List.mem_of_mem_drop (List.mem_of_getElem? hc)));have hsn : decV ((l.drop j).take (i + 1)) = 10 * decV ((l.drop j).take i) + (c.toNat - 48) := by rw [List.take_add_one, hc]; exact decV_snoc _ _
   have hi9 : i <= 9 := by unfold kN at hlt; omega
   have hp9 : 10 ^ i <= 1000000000 := Nat.pow_le_pow_right (by decide) hi9;have hv9 : decV ((l.drop j).take i) < 10 ^ i := Nat.lt_of_lt_of_le (decV_lt _ fun c hc => hd c (List.mem_of_mem_drop (List.mem_of_mem_take hc))) (Nat.pow_le_pow_right (by decide) (by rw [ZlT]; exact Nat.min_le_left _ _));refine .skip (.seq (.block (.sr (.ma (.nil ?_)))));refine .region (.mA ?_);refine .sA (.mul J J J) ?_;rw [show IntKind.u64.wrap (10 * ((decV ((l.drop j).take i) : Nat) : Int)) = ((10 * decV ((l.drop j).take i) : Nat) : Int) from mul_u (x := 10) (by omega)];refine .mm ?_;refine .sA (.indexStr J st_9 J J i J hc) (.sA (.sub J J J) ?_);rw [u8_48 hdb.1];refine .sA (.convInt J cv_5_173 J) ?_;rw [u64n (n := c.toNat - 48) (by omega)];refine .sA (.add J J J) ?_;rw [add_u (by omega), <- hsn];refine .mA ?_;refine .sA (.mul J J J) ?_;rw [show IntKind.u64.wrap (10 * ((10 ^ i : Nat) : Int)) = ((10 ^ (i + 1) : Nat) : Int) from (mul_u (x := 10) (by omega)).trans (by rw [Nat.pow_succ, Nat.mul_comm])];refine .aa (.nil ?_);refine .region (.sA (.add64 J J J) ?_);refine .mN ?_;refine ⟨i + 1, (by omega), (by dsimp only; omega), Sub.less ⟨U, U, U, U, U, U, U, trivial⟩ (fun _ h => h)⟩
  obtain rfl : i = kN l j := by omega
  have hcl := cN_lt hd j;have hsl := sclN_le l j;refine .exit (.sr (.mA ?_));refine .mA ?_;refine .sA (.sliceFrom J Tryz.underlying9 J J (kN l j) J (by rw [ZlD]; omega)) ?_;rw [List.drop_drop];refine .aN ?_;refine .seq (.sr (.sA (.moveO J J) ?_));refine .sA (.lenOwn J et_118.ht J (.head _)) ?_;rw [Yaf];refine .mN ?_;refine .block (.loop (G := Nat) (fun i => Env.of [(35, .iv i), (34, .iv (wl (aN l j) : Int)), (5, .d (.v (.int .u64 ((carX (aN l j) (sclN l j) (cN l j) i : Nat) : Int)))), (6, .d (.v (.int .u64 (((sclN l j) : Nat) : Int)))), (0, .d (.v (.string (bStr (l.drop (j + kN l j)))))), (3, .own 901)]) (fun i => [(901, .row 171 1 (wsD (mixF (aN l (j + kN l j)) (aN l j) i) (wl (aN l j))))]) (fun i => i <= wl (aN l j)) (fun i => wl (aN l j) - i) 0 (ZnZ _) (Sub.less ⟨U, U, (SLe.kn (by rw [carX_0]; rfl)), U, U, U, trivial⟩ (Yay (mixF_0 _ _ _).symm)) ?_);intro i hi;refine .sr (.sA (.lss J J J) (.nil ?_));refine .seq (.cT J (fun h3 => ?_) fun h3 => ?_)
  ·have hlt : i < wl (aN l j) := by omega
   have hst := carX_step (aN l j) (sclN l j) (cN l j) i;have hle := carX_le (a := (aN l j)) (i := i) (Nat.le_of_lt hcl);have hdb := digB (aN l j) i;have hpb : (sclN l j) * dig (aN l j) i <= 1000000000 * 4294967295 := Nat.mul_le_mul hsl (by omega);refine .skip (.seq (.block (.sr (.ma (.nil ?_)))));refine .sr (.mm ?_);refine .sA (.moveO J J) ?_;refine .mA ?_;refine .sA (.indexOwn J et_118 J J (.head _) i J (by rw [YaD]; omega)) ?_;refine .sA (.loadRow J YaF J (.head _) i 0 J (Yas (by omega)) J) ?_;rw [show mixF (aN l (j + kN l j)) (aN l j) i i = dig (aN l j) i from if_neg (Nat.lt_irrefl _)];refine .sA (.convInt J Yaj J) ?_;rw [Yc3];refine .sA (.mul J J J) ?_;rw [mul_u (x := (sclN l j)) (by omega)];refine .sA (.add J J J) ?_;rw [add_u (by omega)];refine .aN ?_;refine .sr (.sA (.moveO J J) ?_);refine .mm ?_;refine .sA (.convInt J Yan J) ?_;rw [u32m, hst.1, <- hVV];refine .sA (.indexOwn J et_118 J J (.head _) i J (by rw [YaD]; omega)) ?_;refine .stR J J J Yc5 J (.head _) J J J i 0 J (Yas (by omega)) (ZnB J) (.nil ?_);refine .region (.mA ?_);refine .sA (.shrG J J J (by decide) (by decide)) ?_;rw [shr32, hst.2];refine .aN ?_;refine .region (.sA (.add64 J J J) ?_);refine .mN ?_;refine ⟨i + 1, (by omega), (by dsimp only; omega), Sub.less ⟨U, U, U, U, U, U, trivial⟩ (Yay (mixF_set (by omega)))⟩
  obtain rfl : i = wl (aN l j) := by omega
  rw [mixF_all, carX_end (Ydb _), <- hVV];have hce : (aN l (j + kN l j)) / BW ^ wl (aN l j) <= 1000000000 := by rw [hVV, <- carX_end (Ydb _)]; exact ZnT (carX_le (Nat.le_of_lt hcl)) hsl
  refine .exit (.sr (.mA ?_));refine .sA (.gtr J J J) (.nil ?_);refine .cT J (fun h4 => ?_) fun h4 => ?_
  ·have hrow := words_more hVV (by omega) (Int.natCast_pos.1 h4) (Nat.lt_of_le_of_lt hce (by decide));refine .region (.sA (.moveO J J) ?_);refine .mA ?_;refine .sA (.convInt J Yan J) ?_;rw [u32m, Nat.mod_eq_of_lt (show _ < BW from Nat.lt_of_le_of_lt hce (by decide))];refine .sA (.buildSlice J et_118 (.cons J J J .nil) J (by decide)) ?_
   -- append 61
   refine .append rfl rfl rfl rfl et_118 rfl (.head _) rfl (by simp [D.parts]) (by simp [YaD]; omega) (by simp [YaD]; omega) ?_;refine .sA (.assignO J J) (.nil ?_);refine ⟨j + kN l j, hk2, (by dsimp only; omega), Sub.less ⟨U, U, trivial⟩ (Yay (by first | exact hrow | rfl))⟩
  have hrow := words_same hVV (by omega) fun hh => h4 (Int.natCast_pos.2 hh)
  rw [hrow];refine .skip ?_;refine ⟨j + kN l j, hk2, (by dsimp only; omega), Sub.less ⟨U, U, trivial⟩ (Yay (by first | exact hrow | rfl))⟩
 rw [aN_all l j (by omega)];refine .exit (.sr (.sA (.moveO J J) ?_));refine .sA (.assignO J J) (.nil ?_);refine .ret ?_;refine ⟨RetD.own J (.head _) ?_, trivial⟩
 all_goals (first | rfl)
namespace Ty
theorem YaJ : AggT Tryz.prog 120 2 := .of (by kernel_rfl)
theorem bt_4 : Tryz.prog.underlying 4 = some .bool := by kernel_rfl
theorem Ybs : StructT Tryz.prog 120 (fun i => (#[(0, 1), (1, 1)] : Array (Nat × Nat))[i]?) [(.bool false), (.slice none 0 0)] := .of (by kernel_rfl) (by kernel_rfl) (by decide)
theorem cv_173_3 : Yfp Tryz.prog 173 3 .i64 = true := by kernel_rfl
theorem cv_3_173 : Yfp Tryz.prog 3 173 .u64 = true := by kernel_rfl
theorem YaM : Yac Tryz.prog 120 0 = some 0 := by kernel_rfl
theorem Yao : Yac Tryz.prog 120 1 = some 1 := by kernel_rfl
theorem Yal : Scal Tryz.prog 118 := .of (by kernel_rfl)
theorem sc_4 : Scal Tryz.prog 4 := .of (by kernel_rfl)
theorem YbE : ∀ w, (sizeOf 120).run Tryz.prog w = .ok 2 w := SizeT.of (by kernel_rfl)
theorem YdN : (Tryz.prog.info? 120).bind (·.zero) = some (.agg #[(.bool false), (.slice none 0 0)]) := by kernel_rfl
end Ty
section
variable {P : Program} {B : Nat} {ops : Array Oper} {o : Oper} {e : Env} {σ : Obs}
theorem AOp.negW {t : TypeId} {x : Operand} {n : Int} {k : IntKind} (ho : o.op = .unOp .neg t x) (hx : e.ev x = .d (.v (.int k n))) : AOp P B ops o e σ (.d (.v (.int k (k.wrap (0 - n))))) := .value fun F ρ w a hF hr _ => by
 have h2 := hr x (by rw [ho]; simp [Op.operands]);rw [hx] at h2;refine ⟨_, F, w, ?_, .d (.v _), Ext.refl hF⟩;unfold execOp;simp only [ho, Yav h2, Op.unary, Op.intArith];rfl
end
def iD (z : Int) : List D := [.v (.bool (decide (z < 0))), .sl (natW z.natAbs)]
theorem iD_0 : iD 0 = [.v (.bool false), .sl []] := by unfold iD; rw [show natW ((0 : Int).natAbs) = [] from nat_0]; rfl
def smI (z : Int) : Int := if z.natAbs < 9223372036854775808 then z else 0
def cmpI (a b : Int) : Int := if a < b then -1 else if b < a then 1 else 0
theorem cmpN_3 (a b : Nat) : (cmpN a b = 0 /\ a = b) \/ (cmpN a b = 1 /\ b < a) \/ (cmpN a b = -1 /\ a < b) := by
 unfold cmpN
 by_cases h : a < b
 ·rw [if_pos h]; exact .inr (.inr ⟨rfl, h⟩)
 ·rw [if_neg h]
  by_cases h2 : b < a
  ·rw [if_pos h2]; exact .inr (.inl ⟨rfl, h2⟩)
  ·rw [if_neg h2]; exact .inl ⟨rfl, by omega⟩
theorem cmpN_eq {a b : Nat} {x y : Int} (h1 : (a < b ↔ x < y)) (h2 : (b < a ↔ y < x)) : cmpN a b = cmpI x y := by
 unfold cmpN cmpI
 by_cases h : a < b
 ·rw [if_pos h, if_pos (h1.1 h)]
 ·rw [if_neg h, if_neg (fun hh => h (h1.2 hh))]
  by_cases h3 : b < a
  ·rw [if_pos h3, if_pos (h2.1 h3)]
  ·rw [if_neg h3, if_neg (fun hh => h3 (h2.2 hh))]
theorem Yai {p q : Prop} [Decidable p] [Decidable q] (h : p ↔ q) : decide p = decide q := decide_eq_decide.2 h
theorem wl_nz (n : Nat) : ((wl n : Nat) : Int) > 0 ↔ n ≠ 0 := by
 constructor
 ·intro h e; rw [wl_eq_zero.2 e] at h; omega
 ·intro h; have := (wl_top (b := n) (by omega)).1; omega
theorem mul_sg {a b : Int} (h : ¬ (a < 0 ↔ b < 0)) : ((wl (a.natAbs * b.natAbs) : Nat) : Int) > 0 ↔ a * b < 0 := by
 rw [wl_nz, <- Int.natAbs_mul]
 have h1 : a * b <= 0 := by
  by_cases ha : a < 0
  ·exact Int.mul_nonpos_of_nonpos_of_nonneg (by omega) (by omega)
  ·exact Int.mul_nonpos_of_nonneg_of_nonpos (by omega) (by omega)
 generalize a * b = z at *;omega
theorem mul_sg2 {a b : Int} (h : a < 0 ↔ b < 0) : ¬ a * b < 0 := by
 have h1 : 0 <= a * b := by
  by_cases ha : a < 0
  ·exact Int.mul_nonneg_of_nonpos_of_nonpos (by omega) (by omega)
  ·exact Int.mul_nonneg (by omega) (by omega)
 omega
theorem c_of (n : Int) (h : -9223372036854775808 <= n /\ n <= 9223372036854775807) : Yad Tryz.prog 53 [.v (.int .i64 n)] (.agg (iD n)) := by
 refine Yap (n := 14) (ds' := [.agg (iD n)]) Tryz.func53 J (by kernel_rfl) J [.cell 2 120] J J ?_;intro B w0 F0 fr;refine .sr (.alloc 101 J J J J YdN J J J (.nil ?_));refine .seq (.sr (.mA ?_));refine .sA (.lss J J J) (.nil ?_);refine .cT J (fun h1 => ?_) fun h1 => ?_
 ·refine .sr (.mA ?_);refine .sA (.convInt J cv_3_173 J) (.sA (.negW J J) ?_);rw [show IntKind.u64.wrap (0 - IntKind.u64.wrap n) = ((n.natAbs : Nat) : Int) by rw [IntKind.wrap_u64, IntKind.wrap_u64]; omega];refine .sA (.call J (.cons (.rfl' J) .nil) (YeX n.natAbs (by omega))) ?_;refine .sA (.build J Ybs (.cons J J (.cons J J .nil)) J) ?_;refine .st J J J YbE J (.head _) J J J (ZnB J) (.nil ?_);refine .ret ?_;refine ⟨RetR.agg J (.head _) YaJ J (.c0 (.c0 .nil)), trivial⟩
  all_goals (first | rfl)
 refine .skip (.sr (.mA ?_));refine .sA (.convInt J cv_3_173 J) ?_;rw [show IntKind.u64.wrap n = ((n.natAbs : Nat) : Int) by rw [IntKind.wrap_u64]; omega];refine .sA (.call J (.cons (.rfl' J) .nil) (YeX n.natAbs (by omega))) ?_;refine .sA (.build J Ybs (.cons J J (.cons J J .nil)) J) ?_;refine .st J J J YbE J (.head _) J J J (ZnB J) (.nil ?_);refine .ret ?_;refine ⟨RetR.agg J (.head _) YaJ J (.c0 (.c0 .nil)), trivial⟩
 all_goals (first | rfl)
theorem c_smallI (z : Int) : Yad Tryz.prog 102 [.agg (iD z)] (.tup [.v (.int .i64 (smI z)), .v (.bool (decide (z.natAbs < 9223372036854775808)))]) := by
 refine Yab (n := 25) (ds' := [.v (.int .i64 (smI z)), .v (.bool (decide (z.natAbs < 9223372036854775808)))]) Tryz.func102 J (by kernel_rfl) J [2, 3] J J ?_;intro B w0 F0 fr;refine .sr (.sA (.box J J J) ?_);refine .aa (.nil ?_);refine .sr (.fl Yao Yal ?_);refine .sA (.call J (.cons (.rfl' J) .nil) (Yeb z.natAbs)) ?_;refine .mA ?_;refine .sA (.extract J J J) (.sA (.extract J J J) ?_);refine .aa (.nil ?_);refine .seq (.sr (.mA ?_));refine .sA (.not J J) ?_;refine .mA ?_;refine .split 14 J (fun g1 => ?_) (fun g1 => ?_)
 ·replace g1 := Yaw g1;have hs : ¬ z.natAbs < 9223372036854775808 := fun hh => by have h5 : smB z.natAbs = true := decide_eq_true (Nat.lt_trans hh (by decide)); rw [h5] at g1; exact absurd g1 (by decide)
  rw [show smI z = 0 from if_neg hs, show decide (z.natAbs < 9223372036854775808) = false from decide_eq_false hs];refine .pB ?_;refine .sA (.pickT J J J) (.nil ?_);refine .cond J (fun _ => ?_) (fun h => nomatch h);refine .sr (.aa (.nil ?_));refine .ret ?_;refine ⟨RetD.eq J ?_, RetD.eq J ?_, trivial⟩
  all_goals (first | rfl)
 replace g1 := Yax g1;have hs2 : z.natAbs < BW ^ 2 := dcT g1;rw [sm_eq hs2];refine .sG (.moveD J J) ?_;refine .sG (.geq J J J) ?_;refine .sA (.pickF J J J) (.nil ?_);refine .cT J (fun h2 => ?_) fun h2 => ?_
 ·have hs : ¬ z.natAbs < 9223372036854775808 := by omega
  rw [show smI z = 0 from if_neg hs, show decide (z.natAbs < 9223372036854775808) = false from decide_eq_false hs];refine .sr (.aa (.nil ?_));refine .ret ?_;refine ⟨RetD.eq J ?_, RetD.eq J ?_, trivial⟩
  all_goals (first | rfl)
 have hs : z.natAbs < 9223372036854775808 := by omega
 rw [show smI z = z from if_pos hs, show decide (z.natAbs < 9223372036854775808) = true from decide_eq_true hs];refine .skip (.seq (.sr (.sA (.fieldAddr J YaM J) ?_)));refine .sA (.load J sc_4 J) (.nil ?_);refine .cond J (fun h3 => ?_) (fun h3 => ?_)
 ·skip;have hz : z < 0 := dcT h3;refine .sr (.mA ?_);refine .sA (.convInt J cv_173_3 J) ?_;rw [show IntKind.i64.wrap ((z.natAbs : Nat) : Int) = ((z.natAbs : Nat) : Int) from w64 (by omega) (by omega)];refine .sA (.neg64 J J (by omega) (by omega)) ?_;rw [show -((z.natAbs : Nat) : Int) = z by omega];refine .aa (.nil ?_);refine .ret ?_;refine ⟨RetD.eq J ?_, RetD.eq J ?_, trivial⟩
  all_goals (first | rfl)
 have hz : ¬ z < 0 := dcF h3;refine .skip (.sr (.mA ?_));refine .sA (.convInt J cv_173_3 J) ?_;rw [show IntKind.i64.wrap ((z.natAbs : Nat) : Int) = z from (w64 (by omega) (by omega)).trans (by omega)];refine .aa (.nil ?_);refine .ret ?_;refine ⟨RetD.eq J ?_, RetD.eq J ?_, trivial⟩
 all_goals (first | rfl)
theorem c_signI (z : Int) : Yad Tryz.prog 150 [.agg (iD z)] (.v (.int .i64 z.sign)) := by
 refine Yab (n := 11) (ds' := [.v (.int .i64 z.sign)]) Tryz.func150 J (by kernel_rfl) J [2] J J ?_;intro B w0 F0 fr;refine .sr (.sA (.box J J J) ?_);refine .aN ?_;refine .seq (.block (.sr (.fl YaM sc_4 ?_)));refine .aN ?_;refine .cond J (fun h1 => ?_) (fun h1 => ?_)
 ·skip;have hz : z < 0 := dcT h1;rw [Int.sign_eq_neg_one_of_neg hz];refine .sr (.aN ?_);refine .ret (rDq J ?_)
  all_goals (first | rfl)
 have hz : ¬ z < 0 := dcF h1;refine .sr (.fl Yao Yal ?_);refine .sA (.lenSl J et_118.ht J) ?_;rw [Yaf];refine .sA (.eql J J J) ?_;refine .aN ?_;refine .cT J (fun h2 => ?_) fun h2 => ?_
 ·have h0 := wl_eq_zero.1 (show wl z.natAbs = 0 by omega);obtain rfl : z = 0 := by omega
  refine .sr (.aN ?_);refine .ret (rDq J ?_)
  all_goals (first | rfl)
 have h0 : z.natAbs ≠ 0 := fun e => by have := wl_eq_zero.2 e; omega
 rw [Int.sign_eq_one_of_pos (show 0 < z by omega)];refine .skip (.sr (.aN ?_));refine .ret (rDq J ?_)
 all_goals (first | rfl)
theorem c_minus (z : Int) : Yad Tryz.prog 166 [.agg (iD z)] (.agg (iD (-z))) := by
 refine Yap (n := 15) (ds' := [.agg (iD (-z))]) Tryz.func166 J (by kernel_rfl) J [.cell 2 120] J J ?_;intro B w0 F0 fr;refine .sr (.sA (.box J J J) ?_);refine .alloc 101 J J J J YdN J J J (.nil ?_);refine .sr (.fl YaM sc_4 ?_);refine .sA (.not J J) ?_;refine .mA ?_;refine .split 6 J (fun g1 => ?_) (fun g1 => ?_)
 ·replace g1 := Yaw g1;have hz : ¬ z < 0 := fun hh => by rw [decide_eq_true hh] at g1; exact absurd g1 (by decide)
  have hw := wl_nz z.natAbs;refine .sG (.fieldAddr J Yao J) ?_;refine .sG (.load J Yal J) ?_;refine .sG (.lenSl J et_118.ht J) ?_;rw [Yaf];refine .sG (.gtr J J J) ?_;refine .sA (.pickT J J J) ?_;refine .fl Yao Yal ?_;refine .sA (.build J Ybs (.cons J J (.cons J J .nil)) J) ?_;refine .st J J J YbE J (.head _) J J J (ZnB J) (.nil ?_);refine .ret ?_;refine ⟨RetR.agg J (.head _) YaJ J (.c1 (.c1 .nil)), trivial⟩
  all_goals (first | rfl)
 replace g1 := Yax g1;have hz : z < 0 := by simpa using g1
 refine .pB ?_;refine .pB ?_;refine .sA (.pickF J J J) ?_;refine .fl Yao Yal ?_;refine .sA (.build J Ybs (.cons J J (.cons J J .nil)) J) ?_;refine .st J J J YbE J (.head _) J J J (ZnB J) (.nil ?_);refine .ret ?_;refine ⟨RetR.agg J (.head _) YaJ J (.c1 (.c1 .nil)), trivial⟩
 all_goals (first | rfl)
theorem c_addI (a b : Int) (ha : wl a.natAbs <= 1000000000) (hb : wl b.natAbs <= 1000000000) : Yad Tryz.prog 143 [.agg (iD a), .agg (iD b)] (.agg (iD (a + b))) := by
 refine Yap (n := 44) (ds' := [.agg (iD (a + b))]) Tryz.func143 J (by kernel_rfl) J [.cell 4 120] J J ?_;intro B w0 F0 fr;refine .sr (.sA (.box J J J) ?_);refine .sA (.box J J J) ?_;refine .alloc 101 J J J J YdN J J J (.nil ?_);refine .seq (.sr (.fl YaM sc_4 ?_));refine .fl YaM sc_4 ?_;refine .sA (.beql J bt_4 J J) (.nil ?_);refine .cT J (fun h1 => ?_) fun h1 => ?_
 ·have hs : a < 0 ↔ b < 0 := decide_eq_decide.1 h1;refine .seq (.drw 8 ?_);refine .fl YaM sc_4 ?_;refine .fl Yao Yal ?_;refine .fl Yao Yal ?_;refine .sA (.call J (.cons (.rfl' J) (.cons (.rfl' J) .nil)) (c_addN a.natAbs b.natAbs ha hb)) (.sA (.build J Ybs (.cons J J (.cons J J .nil)) J) ?_);refine .nil ?_;refine .st J J J YbE J (.head _) J J J (ZnB J) (.nil ?_);refine .ret ?_;refine ⟨RetR.agg J (.head _) YaJ J (.c2 (.c2 .nil)), trivial⟩
  all_goals (first | rfl)
 have hs : ¬ (a < 0 ↔ b < 0) := fun hh => h1 (Yai hh)
 have h3 := cmpN_3 a.natAbs b.natAbs;refine .skip (.seq (.sr (.fl Yao Yal ?_)));refine .fl Yao Yal ?_;refine .sA (.call J (.cons (.rfl' J) (.cons (.rfl' J) .nil)) (c_cmpN a.natAbs b.natAbs)) (.nil ?_);refine .block (.sr (.sA (.eql J J J) ?_));refine .aN ?_;refine .cT J (fun h2 => ?_) fun h2 => ?_
 ·have hab : a + b = 0 := by omega
  rw [hab, iD_0];refine .sr (.sA (.build J Ybs .nil J) ?_);refine .st J J J YbE J (.head _) J J J (ZnB J) (.nil ?_);refine .ret ?_;refine ⟨RetR.agg J (.head _) YaJ J (.c2 (.c2 .nil)), trivial⟩
  all_goals (first | rfl)
 refine .sr (.sA (.eql J J J) ?_);refine .aN ?_;refine .cT J (fun h3 => ?_) fun h3 => ?_
 ·have hlt : b.natAbs < a.natAbs := by omega
  refine .seq (.drw 8 ?_);refine .fl YaM sc_4 ?_;refine .fl Yao Yal ?_;refine .fl Yao Yal ?_;refine .sA (.call J (.cons (.rfl' J) (.cons (.rfl' J) .nil)) (c_subN a.natAbs b.natAbs (Nat.le_of_lt hlt) ha)) (.sA (.build J Ybs (.cons J J (.cons J J .nil)) J) ?_);refine .nil ?_;refine .st J J J YbE J (.head _) J J J (ZnB J) (.nil ?_);refine .ret ?_;refine ⟨RetR.agg J (.head _) YaJ J (.c2 (.c2 .nil)), trivial⟩
  all_goals (first | rfl)
 have hlt : a.natAbs < b.natAbs := by omega
 refine .skip (.seq (.drw 8 ?_));refine .fl YaM sc_4 ?_;refine .fl Yao Yal ?_;refine .fl Yao Yal ?_;refine .sA (.call J (.cons (.rfl' J) (.cons (.rfl' J) .nil)) (c_subN b.natAbs a.natAbs (Nat.le_of_lt hlt) hb)) (.sA (.build J Ybs (.cons J J (.cons J J .nil)) J) ?_);refine .nil ?_;refine .st J J J YbE J (.head _) J J J (ZnB J) (.nil ?_);refine .ret ?_;refine ⟨RetR.agg J (.head _) YaJ J (.c2 (.c2 .nil)), trivial⟩
 all_goals (first | rfl)
theorem c_mulI (a b : Int) (ha : wl a.natAbs <= 1000000000) (hb : wl b.natAbs <= 1000000000) : Yad Tryz.prog 54 [.agg (iD a), .agg (iD b)] (.agg (iD (a * b))) := by
 refine Yap (n := 23) (ds' := [.agg (iD (a * b))]) Tryz.func54 J (by kernel_rfl) J [.cell 4 120] J J ?_;intro B w0 F0 fr;refine .sr (.sA (.box J J J) ?_);refine .sA (.box J J J) ?_;refine .alloc 101 J J J J YdN J J J (.nil ?_);refine .sr (.fl Yao Yal ?_);refine .fl Yao Yal ?_;refine .sA (.call J (.cons (.rfl' J) (.cons (.rfl' J) .nil)) (c_mulN a.natAbs b.natAbs ha hb)) ?_;refine .aN ?_;refine .sr (.fl YaM sc_4 ?_);refine .fl YaM sc_4 ?_;refine .sA (.bneq J bt_4 J J) ?_;refine .mA ?_;refine .sT 16 J (fun g1 => ?_) fun g1 => ?_
 ·have hs : ¬ (a < 0 ↔ b < 0) := fun hh => g1 (Yai hh)
  refine .sG (.moveD J J) ?_;refine .sG (.lenSl J et_118.ht J) ?_;rw [Yaf];refine .sG (.gtr J J J) ?_;refine .sA (.pickT J J J) ?_;refine .mA ?_;refine .sA (.build J Ybs (.cons J J (.cons J J .nil)) J) ?_;refine .st J J J YbE J (.head _) J J J (ZnB J) (.nil ?_);refine .ret ?_;refine ⟨RetR.agg J (.head _) YaJ J (.c3 (.c3 .nil)), trivial⟩
  all_goals (first | rfl)
 have hs : a < 0 ↔ b < 0 := decide_eq_decide.1 (Decidable.not_not.1 g1);refine .pB ?_;refine .pA ?_;refine .sA (.pickF J J J) ?_;refine .mA ?_;refine .sA (.build J Ybs (.cons J J (.cons J J .nil)) J) ?_;refine .st J J J YbE J (.head _) J J J (ZnB J) (.nil ?_);refine .ret ?_;refine ⟨RetR.agg J (.head _) YaJ J (.c3 (.c3 .nil)), trivial⟩
 all_goals (first | rfl)
theorem c_cmpI (a b : Int) : Yad Tryz.prog 199 [.agg (iD a), .agg (iD b)] (.v (.int .i64 (cmpI a b))) := by
 refine Yab (n := 24) (ds' := [.v (.int .i64 (cmpI a b))]) Tryz.func199 J (by kernel_rfl) J [4] J J ?_;intro B w0 F0 fr;refine .sr (.sA (.box J J J) ?_);refine .sA (.box J J J) ?_;refine .aN ?_;refine .seq (.sr (.fl YaM sc_4 ?_));refine .fl YaM sc_4 ?_;refine .sA (.bneq J bt_4 J J) (.nil ?_);refine .cT J (fun h1 => ?_) fun h1 => ?_
 ·have hs : ¬ (a < 0 ↔ b < 0) := fun hh => h1 (Yai hh)
  refine .seq (.sr (.sA (.fieldAddr J YaM J) ?_));refine .sA (.load J sc_4 J) (.nil ?_);refine .cond J (fun h2 => ?_) (fun h2 => ?_)
  ·skip;have hz : a < 0 := dcT h2;rw [show cmpI a b = -1 from if_pos (by omega)];refine .sr (.aN ?_);refine .ret (rDq J ?_)
   all_goals (first | rfl)
  have hz : ¬ a < 0 := dcF h2;rw [show cmpI a b = 1 from (if_neg (by omega)).trans (if_pos (by omega))];refine .skip (.sr (.aN ?_));refine .ret (rDq J ?_)
  all_goals (first | rfl)
 have hs : a < 0 ↔ b < 0 := decide_eq_decide.1 (Decidable.not_not.1 h1);refine .skip (.seq (.sr (.sA (.fieldAddr J YaM J) ?_)));refine .sA (.load J sc_4 J) (.nil ?_);refine .cond J (fun h3 => ?_) (fun h3 => ?_)
 ·skip;have hz : a < 0 := dcT h3;refine .sr (.fl Yao Yal ?_);refine .fl Yao Yal ?_;refine .sA (.call J (.cons (.rfl' J) (.cons (.rfl' J) .nil)) (c_cmpN b.natAbs a.natAbs)) ?_;rw [cmpN_eq (x := a) (y := b) (by omega) (by omega)];refine .aN ?_;refine .ret (rDq J ?_)
  all_goals (first | rfl)
 have hz : ¬ a < 0 := dcF h3;refine .skip (.sr (.fl Yao Yal ?_));refine .fl Yao Yal ?_;refine .sA (.call J (.cons (.rfl' J) (.cons (.rfl' J) .nil)) (c_cmpN a.natAbs b.natAbs)) ?_;rw [cmpN_eq (x := a) (y := b) (by omega) (by omega)];refine .aN ?_;refine .ret (rDq J ?_)
 all_goals (first | rfl)
namespace Ty
theorem YaO : AggT Tryz.prog 123 3 := .of (by kernel_rfl)
theorem Ygy : StructT Tryz.prog 123 (fun i => (#[(0, 2), (2, 1)] : Array (Nat × Nat))[i]?) [(.bool false), (.slice none 0 0), (.slice none 0 0)] := .of (by kernel_rfl) (by kernel_rfl) (by decide)
theorem YaQ : Yac Tryz.prog 123 0 = some 0 := by kernel_rfl
theorem YaH : Yac Tryz.prog 123 1 = some 2 := by kernel_rfl
theorem Ya6 : ∀ w, (sizeOf 123).run Tryz.prog w = .ok 3 w := SizeT.of (by kernel_rfl)
theorem YbL : (Tryz.prog.info? 123).bind (·.zero) = some (.agg #[(.bool false), (.slice none 0 0), (.slice none 0 0)]) := by kernel_rfl
end Ty
structure Rt where
 n : Int
 d : Nat
def rD (r : Rt) : List D := [.v (.bool (decide (r.n < 0))), .sl (natW r.n.natAbs), .sl (natW r.d)]
def Yby (n : Int) (d : Nat) : Rt := if n = 0 then ⟨0, 1⟩ else ⟨n.sign * (n.natAbs / Nat.gcd n.natAbs d : Nat), d / Nat.gcd n.natAbs d⟩
theorem nat_1 : natW 1 = [u32D 1] := by
 have h := YeK (n := 1) (m := 1) (by decide) (.inr (by decide));rw [<- h]; rfl
theorem iD_nat (d : Nat) : iD (d : Int) = [.v (.bool false), .sl (natW d)] := by
 unfold iD;rw [decide_eq_false (by omega)]; rfl
theorem wl_bits {n k : Nat} (h : n < 2 ^ k) : wl n <= k := wl_le.2 (Nat.lt_of_lt_of_le h (by
 rw [show BW = 2 ^ 32 from rfl, <- Nat.pow_mul]
 exact Nat.pow_le_pow_right (by decide) (by omega)))
structure Rk (k : Nat) (r : Rt) : Prop where
 n : r.n.natAbs < 2 ^ k
 d : r.d < 2 ^ k
 p : 0 < r.d
theorem Rk.wn {k : Nat} {r : Rt} (h : Rk k r) (hk : k <= 100000000) : wl r.n.natAbs <= 1000000000 := ZnT (wl_bits h.n) (by omega)
theorem Rk.wd {k : Nat} {r : Rt} (h : Rk k r) (hk : k <= 100000000) : wl r.d <= 1000000000 := ZnT (wl_bits h.d) (by omega)
theorem YbP {a b k : Nat} (ha : a < 2 ^ k) (hb : b < 2 ^ k) : a * b < 2 ^ (2 * k) := by
 rw [Nat.two_mul, Nat.pow_add];exact Nat.mul_lt_mul'' ha hb
theorem YcG {a : Int} {b k : Nat} (ha : a.natAbs < 2 ^ k) (hb : b < 2 ^ k) : (a * (b : Int)).natAbs < 2 ^ (2 * k) := by
 rw [Int.natAbs_mul];exact YbP ha hb
theorem YfN {a b : Int} {k : Nat} (ha : a.natAbs < 2 ^ k) (hb : b.natAbs < 2 ^ k) : (a + b).natAbs < 2 ^ (k + 1) := by
 rw [Nat.pow_succ];omega
theorem w_le {n k : Nat} (h : n < 2 ^ k) (hk : k <= 1000000000) : wl n <= 1000000000 := ZnT (wl_bits h) hk
theorem gcd_pos {n : Int} {d : Nat} (h : n ≠ 0) : 0 < Nat.gcd n.natAbs d := Nat.gcd_pos_of_pos_left _ (by omega)
theorem over_sgn {n : Int} {g : Nat} (hn : n ≠ 0) (hg : g ∣ n.natAbs) : (n.sign * ((n.natAbs / g : Nat) : Int)).natAbs = n.natAbs / g /\ (n.sign * ((n.natAbs / g : Nat) : Int) < 0 ↔ n < 0) := by
 have h1 : 0 < n.natAbs / g := Nat.div_pos (Nat.le_of_dvd (by omega) hg) (Nat.pos_of_dvd_of_pos hg (by omega));generalize n.natAbs / g = q at *
 rcases Int.lt_trichotomy n 0 with h | h | h
 ·rw [Int.sign_eq_neg_one_of_neg h]; omega
 ·exact absurd h hn
 ·rw [Int.sign_eq_one_of_pos h]; omega
theorem over_k {n : Int} {d k : Nat} (hn : n.natAbs < 2 ^ k) (hd : d < 2 ^ k) (hp : 0 < d) (hk : 0 < k) : Rk k (Yby n d) := by
 unfold Yby
 by_cases h : n = 0
 ·rw [if_pos h];exact ⟨Nat.pow_pos (by decide), Nat.one_lt_two_pow (by omega), Nat.one_pos⟩
 ·rw [if_neg h];have h1 := over_sgn h (Nat.gcd_dvd_left n.natAbs d);have h2 := gcd_pos (d := d) h;refine ⟨?_, ?_, ?_⟩
  ·dsimp only; rw [h1.1]; exact Nat.lt_of_le_of_lt (Nat.div_le_self _ _) hn
  ·exact Nat.lt_of_le_of_lt (Nat.div_le_self _ _) hd
  ·exact Nat.div_pos (Nat.le_of_dvd hp (Nat.gcd_dvd_right _ _)) h2
theorem over_1 {n : Int} {d : Nat} (hn : n ≠ 0) (h : Nat.gcd n.natAbs d = 1) : Yby n d = ⟨n, d⟩ := by
 unfold Yby;rw [if_neg hn, h, Nat.div_one, Nat.div_one, Int.sign_mul_natAbs]
def addR (a b : Rt) : Rt := if a.d = b.d then Yby (a.n + b.n) a.d else Yby (a.n * (b.d : Int) + b.n * (a.d : Int)) (a.d * b.d)
def negR (a : Rt) : Rt := ⟨-a.n, a.d⟩
def subR (a b : Rt) : Rt := addR a (negR b)
def mulR (a b : Rt) : Rt := Yby (a.n * b.n) (a.d * b.d)
def sgD (b : Rt) : Int := if b.n < 0 then -(b.d : Int) else (b.d : Int)
def divR (a b : Rt) : Rt := Yby (a.n * sgD b) (a.d * b.n.natAbs)
def cmpR (a b : Rt) : Int := cmpI (a.n * (b.d : Int)) (b.n * (a.d : Int))
theorem sgD_abs (b : Rt) : (sgD b).natAbs = b.d := by unfold sgD; split <;> omega
theorem iD_sg {b : Rt} (h : 0 < b.d) : iD (sgD b) = [.v (.bool (decide (b.n < 0))), .sl (natW b.d)] := by
 unfold iD;rw [sgD_abs, show decide (sgD b < 0) = decide (b.n < 0) from Yai (by unfold sgD; split <;> omega)]
theorem Rk.add {k : Nat} {a b : Rt} (ha : Rk k a) (hb : Rk k b) : Rk (2 * k + 1) (addR a b) := by
 have hp : 2 ^ k <= 2 ^ (2 * k + 1) := Nat.pow_le_pow_right (by decide) (by omega);unfold addR;split
 ·exact over_k (Nat.lt_of_lt_of_le (YfN ha.n hb.n) (Nat.pow_le_pow_right (by decide) (by omega))) (Nat.lt_of_lt_of_le ha.d hp) ha.p (by omega)
 ·exact over_k (YfN (YcG ha.n hb.d) (YcG hb.n ha.d)) (Nat.lt_of_lt_of_le (YbP ha.d hb.d) (Nat.pow_le_pow_right (by decide) (by omega))) (Nat.mul_pos ha.p hb.p) (by omega)
theorem Rk.neg {k : Nat} {a : Rt} (ha : Rk k a) : Rk k (negR a) := ⟨by show (-a.n).natAbs < _; rw [Int.natAbs_neg]; exact ha.n, ha.d, ha.p⟩
theorem Rk.mul {k : Nat} {a b : Rt} (ha : Rk k a) (hb : Rk k b) : Rk (2 * k + 1) (mulR a b) := by
 have hp : 2 ^ (2 * k) <= 2 ^ (2 * k + 1) := Nat.pow_le_pow_right (by decide) (by omega);exact over_k (by rw [Int.natAbs_mul]; exact Nat.lt_of_lt_of_le (YbP ha.n hb.n) hp) (Nat.lt_of_lt_of_le (YbP ha.d hb.d) hp) (Nat.mul_pos ha.p hb.p) (by omega)
theorem Rk.mono {k m : Nat} {a : Rt} (h : Rk k a) (hm : k <= m) : Rk m a := ⟨Nat.lt_of_lt_of_le h.n (Nat.pow_le_pow_right (by decide) hm), Nat.lt_of_lt_of_le h.d (Nat.pow_le_pow_right (by decide) hm), h.p⟩
theorem c_mulIN (a : Int) (d : Nat) (ha : wl a.natAbs <= 1000000000) (hb : wl d <= 1000000000) : Yad Tryz.prog 54 [.agg (iD a), .agg [.v (.bool false), .sl (natW d)]] (.agg (iD (a * (d : Int)))) := by
 have h := c_mulI a (d : Int) ha hb;rwa [iD_nat] at h
theorem c_mulIS (a : Int) (b : Rt) (hp : 0 < b.d) (ha : wl a.natAbs <= 1000000000) (hb : wl b.d <= 1000000000) : Yad Tryz.prog 54 [.agg (iD a), .agg [.v (.bool (decide (b.n < 0))), .sl (natW b.d)]] (.agg (iD (a * sgD b))) := by
 have h := c_mulI a (sgD b) ha (by rw [sgD_abs]; exact hb);rwa [iD_sg hp] at h
theorem c_one  : Yad Tryz.prog 106 [] (.sl (natW 1)) := by
 refine Yab (n := 2) (ds' := [.sl (natW 1)]) Tryz.func106 J (by kernel_rfl) J [0] J J ?_;intro B w0 F0 fr;refine .sr (.aN ?_);refine .sr (.sA (.buildSlice J et_118 (.cons J J J .nil) J (by decide)) ?_);refine .aN ?_;refine .ret (rDq J ?_)
 all_goals (rw [nat_1]; rfl)
theorem c_ovr (n : Int) (d : Nat) (hn : wl n.natAbs <= 1000000000) (hd : wl d <= 1000000000) : Yad Tryz.prog 52 [.agg (iD n), .sl (natW d)] (.agg (rD (Yby n d))) := by
 refine Yap (n := 63) (ds' := [.agg (rD (Yby n d))]) Tryz.func52 J (by kernel_rfl) J [.cell 4 123] J J ?_;intro B w0 F0 fr;refine .sr (.sA (.box J J J) ?_);refine .alloc 101 J J J J YbL J J J (.nil ?_);refine .seq (.sr (.fl Yao Yal ?_));refine .sA (.lenSl J et_118.ht J) ?_;rw [Yaf];refine .sA (.eql J J J) (.nil ?_);refine .cT J (fun h1 => ?_) fun h1 => ?_
 ·have h0 := wl_eq_zero.1 (show wl n.natAbs = 0 by omega);obtain rfl : n = 0 := by omega
  rw [show Yby 0 d = ⟨0, 1⟩ from if_pos rfl, show rD ⟨0, 1⟩ = [.v (.bool false), .sl [], .sl (natW 1)] by unfold rD; rw [show natW ((0 : Int).natAbs) = [] from nat_0]; rfl];refine .sr (.sA (.call J .nil c_one) ?_);refine .sA (.build J Ygy (.cons J J .nil) J) ?_;refine .st J J J Ya6 J (.head _) J J J (ZnB J) (.nil ?_);refine .ret ?_;refine ⟨RetR.agg J (.head _) YaO J (.c4 (.c4 (.c4 .nil))), trivial⟩
  all_goals (first | rfl)
 have hnz : n ≠ 0 := fun e => by have := wl_eq_zero.2 (show n.natAbs = 0 by omega); omega
 have hgp := gcd_pos (d := d) hnz;refine .skip (.seqJ (True) (Env.of [(2, .d (.fp (iD n))), (1, .d (.sl (natW d))), (4, .ptr 101 0)]) [(101, .cells [.d (.v (.bool false)), .d (.v (.slice none 0 0)), .d (.v (.slice none 0 0))])] ?_ (fun _ => ?_))
 ·skip;refine .sr (.mA ?_);refine .sA (.lenSl J et_118.ht J) ?_;rw [Yaf];refine .sA (.eql J J J) ?_;refine .mA ?_;refine .sT 19 J (fun g2 => ?_) fun g2 => ?_
  ·have h1w := Yfz (b := d) (by omega);refine .sG (.moveD J J) ?_;refine .sG (.indexAddr J et_118 J J 0 J (Yas (by omega)) J) ?_;refine .sG (.load J YaF J) ?_;rw [h1w.1];refine .sG (.eql J J J) ?_;refine .sA (.pickT J J J) (.nil ?_);refine .cT J (fun h3 => ?_) fun h3 => ?_
   ·have hd1 : d = 1 := by omega
    rw [over_1 hnz (by rw [hd1]; exact Nat.gcd_one_right _)];refine .sr (.sA (.loadAgg J YaJ J J) ?_);refine .mA ?_;refine .sA (.build J Ygy (.cons J J (.cons J J .nil)) J) ?_;refine .st J J J Ya6 J (.head _) J J J (ZnB J) (.nil ?_);refine .ret ?_;refine ⟨RetR.agg J (.head _) YaO J (.c4 (.c4 (.c4 .nil))), trivial⟩
    all_goals (first | rfl)
   refine .skip ?_;refine ⟨?_, Sub.less ⟨U, U, U, trivial⟩ (fun _ h => h)⟩;trivial
  refine .pB ?_;refine .pB ?_;refine .sA (.pickF J J J) (.nil ?_);refine .cond J (fun h => nomatch h) (fun _ => ?_);refine .skip ?_;refine ⟨?_, Sub.less ⟨U, U, U, trivial⟩ (fun _ h => h)⟩;trivial
 refine .sr (.fl Yao Yal ?_);refine .mA ?_;refine .sA (.call J (.cons (.rfl' J) (.cons (.rfl' J) .nil)) (c_gcd n.natAbs d hn hd)) ?_;refine .aN ?_;refine .seqJ (True) (Env.of [(2, .d (.fp (iD n))), (1, .d (.sl (natW d))), (4, .ptr 101 0), (5, .d (.sl (natW (Nat.gcd n.natAbs d))))]) [(101, .cells [.d (.v (.bool false)), .d (.v (.slice none 0 0)), .d (.v (.slice none 0 0))])] ?_ (fun _ => ?_)
 ·skip;refine .sr (.mA ?_);refine .sA (.lenSl J et_118.ht J) ?_;rw [Yaf];refine .sA (.eql J J J) ?_;refine .mA ?_;refine .sT 35 J (fun g4 => ?_) fun g4 => ?_
  ·have h1w := Yfz (b := (Nat.gcd n.natAbs d)) (by omega);refine .sG (.moveD J J) ?_;refine .sG (.indexAddr J et_118 J J 0 J (Yas (by omega)) J) ?_;refine .sG (.load J YaF J) ?_;rw [h1w.1];refine .sG (.eql J J J) ?_;refine .sA (.pickT J J J) (.nil ?_);refine .cT J (fun h5 => ?_) fun h5 => ?_
   ·have hg1 : (Nat.gcd n.natAbs d) = 1 := by omega
    rw [over_1 hnz hg1];refine .sr (.sA (.loadAgg J YaJ J J) ?_);refine .mA ?_;refine .sA (.build J Ygy (.cons J J (.cons J J .nil)) J) ?_;refine .st J J J Ya6 J (.head _) J J J (ZnB J) (.nil ?_);refine .ret ?_;refine ⟨RetR.agg J (.head _) YaO J (.c4 (.c4 (.c4 .nil))), trivial⟩
    all_goals (first | rfl)
   refine .skip ?_;refine ⟨?_, Sub.less ⟨U, U, U, U, trivial⟩ (fun _ h => h)⟩;trivial
  refine .pB ?_;refine .pB ?_;refine .sA (.pickF J J J) (.nil ?_);refine .cond J (fun h => nomatch h) (fun _ => ?_);refine .skip ?_;refine ⟨?_, Sub.less ⟨U, U, U, U, trivial⟩ (fun _ h => h)⟩;trivial
 refine .sr (.fl Yao Yal ?_);refine .mA ?_;refine .sA (.call J (.cons (.rfl' J) (.cons (.rfl' J) .nil)) (c_divN n.natAbs (Nat.gcd n.natAbs d) hgp hn)) ?_;refine .mA ?_;refine .sA (.extract J J J) (.sA (.extract J J J) ?_);refine .aa (.nil ?_);refine .sr (.mm ?_);refine .sA (.call J (.cons (.rfl' J) (.cons (.rfl' J) .nil)) (c_divN d (Nat.gcd n.natAbs d) hgp hd)) ?_;refine .mA ?_;refine .sA (.extract J J J) (.sA (.extract J J J) ?_);refine .aa (.nil ?_);refine .seq ?_;rw [show Yby n d = ⟨n.sign * (n.natAbs / (Nat.gcd n.natAbs d) : Nat), d / (Nat.gcd n.natAbs d)⟩ from if_neg hnz];have hsg := over_sgn hnz (Nat.gcd_dvd_left n.natAbs d);refine .region (.fl YaM sc_4 ?_);refine .mA ?_;refine .sA (.build J Ybs (.cons J J (.cons J J .nil)) J) ?_;refine .mA ?_;refine .sA (.build J Ygy (.cons J J (.cons J J .nil)) J) ?_;refine .st J J J Ya6 J (.head _) J J J (ZnB J) (.nil ?_);refine .ret ?_;refine ⟨RetR.agg J (.head _) YaO J (.c4 (.c4 (.c4 .nil))), trivial⟩
 all_goals (first | rfl)
theorem c_frac (a b : Int) (ha : -9223372036854775808 <= a /\ a <= 9223372036854775807) (hb : 0 <= b /\ b <= 9223372036854775807) : Yad Tryz.prog 149 [.v (.int .i64 a), .v (.int .i64 b)] (.agg (rD (Yby a b.natAbs))) := by
 refine Yap (n := 19) (ds' := [.agg (rD (Yby a b.natAbs))]) Tryz.func149 J (by kernel_rfl) J [.cell 4 123] J J ?_;intro B w0 F0 fr;refine .sr (.alloc 101 J J J J YbL J J J (.nil ?_));refine .sr (.mA ?_);refine .sA (.call J (.cons (.rfl' J) .nil) (c_of a ha)) ?_;refine .mA ?_;refine .sA (.call J (.cons (.rfl' J) .nil) (c_of b (by omega))) ?_;refine .alloc 102 J J J J YdN J J J ?_;refine .alloc 103 J J J J YdN J J J ?_;refine .st J J J YbE J (.tail _ (.head _)) J J J (ZnB J) ?_;refine .st J J J YbE J (.head _) J J J (ZnB J) (.nil ?_);refine .seq (.sr (.sA (.fieldAddrP J YaM J) ?_));refine .sA (.loadP J sc_4 J (.head _) J) (.nil ?_);refine .cond J (fun h1 => ?_) (fun h1 => ?_)
 ·skip;have h5 := dcT h1; omega
 refine .skip (.sr (.sA (.loadPU J YaJ J (.tail _ (.head _)) J J) ?_));refine .sA (.fieldAddrP J Yao J) (.sA (.loadP J Yal J (.head _) J) ?_);refine .sA (.call J (.cons (.rfl' J) (.cons (.rfl' J) .nil)) (c_ovr a b.natAbs (w_le (k := 64) (by show _ < 18446744073709551616; omega) (by decide)) (w_le (k := 64) (by show _ < 18446744073709551616; omega) (by decide)))) ?_;refine .st J J J Ya6 J (.tail _ (.tail _ (.head _))) J J J (ZnB J) (.nil ?_);refine .ret ?_;refine ⟨RetR.agg J (.tail _ (.tail _ (.head _))) YaO J (.c5 (.c5 (.c5 .nil))), trivial⟩
 all_goals (first | rfl)
theorem c_whole (n : Int) (h : -9223372036854775808 <= n /\ n <= 9223372036854775807) : Yad Tryz.prog 78 [.v (.int .i64 n)] (.agg (rD ⟨n, 1⟩)) := by
 refine Yap (n := 7) (ds' := [.agg (rD ⟨n, 1⟩)]) Tryz.func78 J (by kernel_rfl) J [.cell 2 123] J J ?_;intro B w0 F0 fr;refine .sr (.alloc 101 J J J J YbL J J J (.nil ?_));refine .sr (.mA ?_);refine .sA (.call J (.cons (.rfl' J) .nil) (c_of n h)) (.sA (.call J .nil c_one) (.sA (.build J Ygy (.cons J J (.cons J J .nil)) J) ?_));refine .st J J J Ya6 J (.head _) J J J (ZnB J) (.nil ?_);refine .ret ?_;refine ⟨RetR.agg J (.head _) YaO J (.c5 (.c5 (.c5 .nil))), trivial⟩
 all_goals (first | rfl)
theorem c_addR (a b : Rt) (k : Nat) (hk : k <= 100000000) (ha : Rk k a) (hb : Rk k b) : Yad Tryz.prog 79 [.agg (rD a), .agg (rD b)] (.agg (rD (addR a b))) := by
 refine Yap (n := 38) (ds' := [.agg (rD (addR a b))]) Tryz.func79 J (by kernel_rfl) J [.cell 4 123] J J ?_;intro B w0 F0 fr;refine .sr (.sA (.box J J J) ?_);refine .sA (.box J J J) ?_;refine .alloc 101 J J J J YbL J J J (.nil ?_);refine .seq (.sr (.fl YaH Yal ?_));refine .fl YaH Yal ?_;refine .sA (.call J (.cons (.rfl' J) (.cons (.rfl' J) .nil)) (c_cmpN a.d b.d)) ?_;refine .sA (.eql J J J) (.nil ?_);refine .cT J (fun h1 => ?_) fun h1 => ?_
 ·have hd : a.d = b.d := by rcases cmpN_3 a.d b.d with h5 | h5 | h5 <;> omega
  rw [show addR a b = Yby (a.n + b.n) a.d from if_pos hd];refine .seq (.drw 8 ?_);refine .sA (.fieldAddr J YaQ J) (.sA (.loadAggT J YaJ J (ZnB J)) (.sA (.fieldAddr J YaQ J) (.sA (.loadAggT J YaJ J (ZnB J)) (.sA (.call J (.cons (.rfl' J) (.cons (.rfl' J) .nil)) (c_addI a.n b.n (ha.wn hk) (hb.wn hk))) ?_))));refine .fl YaH Yal ?_;refine .sA (.call J (.cons (.rfl' J) (.cons (.rfl' J) .nil)) (c_ovr (a.n + b.n) a.d (w_le (YfN ha.n hb.n) (by omega)) (ha.wd hk))) ?_;refine .nil ?_;refine .st J J J Ya6 J (.head _) J J J (ZnB J) (.nil ?_);refine .ret ?_;refine ⟨RetR.agg J (.head _) YaO J (.c5 (.c5 (.c5 .nil))), trivial⟩
  all_goals (first | rfl)
 have hd : a.d ≠ b.d := fun e => by rcases cmpN_3 a.d b.d with h5 | h5 | h5 <;> omega
 rw [show addR a b = Yby (a.n * (b.d : Int) + b.n * (a.d : Int)) (a.d * b.d) from if_neg hd];refine .skip (.seq (.drw 19 ?_));refine .sA (.fieldAddr J YaQ J) (.sA (.loadAggT J YaJ J (ZnB J)) ?_);refine .fl YaH Yal ?_;refine .sA (.build J Ybs (.cons J J (.cons J J .nil)) J) (.sA (.call J (.cons (.rfl' J) (.cons (.rfl' J) .nil)) (c_mulIN a.n b.d (ha.wn hk) (hb.wd hk))) (.sA (.fieldAddr J YaQ J) (.sA (.loadAggT J YaJ J (ZnB J)) ?_)));refine .fl YaH Yal ?_;refine .sA (.build J Ybs (.cons J J (.cons J J .nil)) J) (.sA (.call J (.cons (.rfl' J) (.cons (.rfl' J) .nil)) (c_mulIN b.n a.d (hb.wn hk) (ha.wd hk))) ?_);refine .sA (.call J (.cons (.rfl' J) (.cons (.rfl' J) .nil)) (c_addI (a.n * (b.d : Int)) (b.n * (a.d : Int)) (w_le (YcG ha.n hb.d) (by omega)) (w_le (YcG hb.n ha.d) (by omega)))) ?_;refine .fl YaH Yal ?_;refine .fl YaH Yal ?_;refine .sA (.call J (.cons (.rfl' J) (.cons (.rfl' J) .nil)) (c_mulN a.d b.d (ha.wd hk) (hb.wd hk))) ?_;refine .sA (.call J (.cons (.rfl' J) (.cons (.rfl' J) .nil)) (c_ovr (a.n * (b.d : Int) + b.n * (a.d : Int)) (a.d * b.d) (w_le (YfN (YcG ha.n hb.d) (YcG hb.n ha.d)) (by omega)) (w_le (YbP ha.d hb.d) (by omega)))) ?_;refine .nil ?_;refine .st J J J Ya6 J (.head _) J J J (ZnB J) (.nil ?_);refine .ret ?_;refine ⟨RetR.agg J (.head _) YaO J (.c5 (.c5 (.c5 .nil))), trivial⟩
 all_goals (first | rfl)
theorem c_subR (a b : Rt) (k : Nat) (hk : k <= 100000000) (ha : Rk k a) (hb : Rk k b) : Yad Tryz.prog 147 [.agg (rD a), .agg (rD b)] (.agg (rD (subR a b))) := by
 refine Yap (n := 13) (ds' := [.agg (rD (subR a b))]) Tryz.func147 J (by kernel_rfl) J [.cell 4 123] J J ?_;intro B w0 F0 fr;refine .sr (.sA (.box J J J) ?_);refine .sA (.box J J J) ?_;refine .alloc 101 J J J J YbL J J J (.nil ?_);refine .seq (.drw 8 ?_);refine .sA (.loadAgg J YaO J J) (.sA (.fieldAddr J YaQ J) (.sA (.loadAggT J YaJ J (ZnB J)) (.sA (.call J (.cons (.rfl' J) .nil) (c_minus b.n)) ?_)));refine .fl YaH Yal ?_;refine .sA (.build J Ygy (.cons J J (.cons J J .nil)) J) (.sA (.call J (.cons (.rfl' J) (.cons (.rfl' J) .nil)) (c_addR a (negR b) k hk ha hb.neg)) ?_);refine .nil ?_;refine .st J J J Ya6 J (.head _) J J J (ZnB J) (.nil ?_);refine .ret ?_;refine ⟨RetR.agg J (.head _) YaO J (.c5 (.c5 (.c5 .nil))), trivial⟩
 all_goals (first | rfl)
theorem c_mulR (a b : Rt) (k : Nat) (hk : k <= 100000000) (ha : Rk k a) (hb : Rk k b) : Yad Tryz.prog 148 [.agg (rD a), .agg (rD b)] (.agg (rD (mulR a b))) := by
 refine Yap (n := 16) (ds' := [.agg (rD (mulR a b))]) Tryz.func148 J (by kernel_rfl) J [.cell 4 123] J J ?_;intro B w0 F0 fr;refine .sr (.sA (.box J J J) ?_);refine .sA (.box J J J) ?_;refine .alloc 101 J J J J YbL J J J (.nil ?_);refine .seq (.drw 11 ?_);refine .sA (.fieldAddr J YaQ J) (.sA (.loadAggT J YaJ J (ZnB J)) (.sA (.fieldAddr J YaQ J) (.sA (.loadAggT J YaJ J (ZnB J)) (.sA (.call J (.cons (.rfl' J) (.cons (.rfl' J) .nil)) (c_mulI a.n b.n (ha.wn hk) (hb.wn hk))) ?_))));refine .fl YaH Yal ?_;refine .fl YaH Yal ?_;refine .sA (.call J (.cons (.rfl' J) (.cons (.rfl' J) .nil)) (c_mulN a.d b.d (ha.wd hk) (hb.wd hk))) ?_;refine .sA (.call J (.cons (.rfl' J) (.cons (.rfl' J) .nil)) (c_ovr (a.n * b.n) (a.d * b.d) (w_le (by rw [Int.natAbs_mul]; exact YbP ha.n hb.n) (by omega)) (w_le (YbP ha.d hb.d) (by omega)))) ?_;refine .nil ?_;refine .st J J J Ya6 J (.head _) J J J (ZnB J) (.nil ?_);refine .ret ?_;refine ⟨RetR.agg J (.head _) YaO J (.c5 (.c5 (.c5 .nil))), trivial⟩
 all_goals (first | rfl)
theorem c_divR (a b : Rt) (k : Nat) (hk : k <= 100000000) (ha : Rk k a) (hb : Rk k b) : Yad Tryz.prog 152 [.agg (rD a), .agg (rD b)] (.agg (rD (divR a b))) := by
 refine Yap (n := 23) (ds' := [.agg (rD (divR a b))]) Tryz.func152 J (by kernel_rfl) J [.cell 4 123] J J ?_;intro B w0 F0 fr;refine .sr (.sA (.box J J J) ?_);refine .sA (.box J J J) ?_;refine .alloc 101 J J J J YbL J J J (.nil ?_);refine .sr (.sA (.fieldAddr J YaQ J) ?_);refine .sA (.loadAggT J YaJ J (ZnB J)) (.sA (.fieldAddr J YaQ J) ?_);refine .fl YaM sc_4 ?_;refine .fl YaH Yal ?_;refine .sA (.build J Ybs (.cons J J (.cons J J .nil)) J) (.sA (.call J (.cons (.rfl' J) (.cons (.rfl' J) .nil)) (c_mulIS a.n b hb.p (ha.wn hk) (hb.wd hk))) ?_);refine .alloc 102 J J J J YdN J J J ?_;refine .st J J J YbE J (.head _) J J J (ZnB J) (.nil ?_);refine .seq (.drw 8 ?_);refine .sA (.loadPU J YaJ J (.head _) J J) ?_;refine .fl YaH Yal ?_;refine .sA (.fieldAddr J YaQ J) ?_;refine .fl Yao Yal ?_;refine .sA (.call J (.cons (.rfl' J) (.cons (.rfl' J) .nil)) (c_mulN a.d b.n.natAbs (ha.wd hk) (hb.wn hk))) ?_;refine .sA (.call J (.cons (.rfl' J) (.cons (.rfl' J) .nil)) (c_ovr (a.n * sgD b) (a.d * b.n.natAbs) (w_le (by rw [Int.natAbs_mul, sgD_abs]; exact YbP ha.n hb.d) (by omega)) (w_le (YbP ha.d hb.n) (by omega)))) ?_;refine .nil ?_;refine .st J J J Ya6 J (.tail _ (.head _)) J J J (ZnB J) (.nil ?_);refine .ret ?_;refine ⟨RetR.agg J (.tail _ (.head _)) YaO J (.c5 (.c5 (.c5 .nil))), trivial⟩
 all_goals (first | rfl)
theorem c_cmpR (a b : Rt) (k : Nat) (hk : k <= 100000000) (ha : Rk k a) (hb : Rk k b) : Yad Tryz.prog 151 [.agg (rD a), .agg (rD b)] (.v (.int .i64 (cmpR a b))) := by
 refine Yab (n := 18) (ds' := [.v (.int .i64 (cmpR a b))]) Tryz.func151 J (by kernel_rfl) J [4] J J ?_;intro B w0 F0 fr;refine .sr (.sA (.box J J J) ?_);refine .sA (.box J J J) ?_;refine .aN ?_;refine .seq (.drw 14 ?_);refine .sA (.fieldAddr J YaQ J) (.sA (.loadAggT J YaJ J (ZnB J)) ?_);refine .fl YaH Yal ?_;refine .sA (.build J Ybs (.cons J J (.cons J J .nil)) J) (.sA (.call J (.cons (.rfl' J) (.cons (.rfl' J) .nil)) (c_mulIN a.n b.d (ha.wn hk) (hb.wd hk))) (.sA (.fieldAddr J YaQ J) (.sA (.loadAggT J YaJ J (ZnB J)) ?_)));refine .fl YaH Yal ?_;refine .sA (.build J Ybs (.cons J J (.cons J J .nil)) J) (.sA (.call J (.cons (.rfl' J) (.cons (.rfl' J) .nil)) (c_mulIN b.n a.d (hb.wn hk) (ha.wd hk))) (.sA (.call J (.cons (.rfl' J) (.cons (.rfl' J) .nil)) (c_cmpI (a.n * (b.d : Int)) (b.n * (a.d : Int)))) (.sA (.assignD J J) ?_)));refine .nil ?_;refine .nil ?_;refine .ret (rDq J ?_)
 all_goals (first | rfl)
theorem c_signR (a : Rt) : Yad Tryz.prog 82 [.agg (rD a)] (.v (.int .i64 a.n.sign)) := by
 refine Yab (n := 6) (ds' := [.v (.int .i64 a.n.sign)]) Tryz.func82 J (by kernel_rfl) J [2] J J ?_;intro B w0 F0 fr;refine .sr (.sA (.box J J J) ?_);refine .aN ?_;refine .sr (.sA (.fieldAddr J YaQ J) ?_);refine .sA (.loadAggT J YaJ J (ZnB J)) (.sA (.call J (.cons (.rfl' J) .nil) (c_signI a.n)) ?_);refine .aN ?_;refine .ret (rDq J ?_)
 all_goals (first | rfl)
namespace Ty
theorem YgC : AggT Tryz.prog 154 2 := .of (by kernel_rfl)
theorem fo_154_0 : Yac Tryz.prog 154 0 = some 0 := by kernel_rfl
theorem YcZ : Yac Tryz.prog 154 1 = some 1 := by kernel_rfl
theorem fv_123_1 : fieldB Tryz.prog 123 1 2 = true := by kernel_rfl
end Ty
theorem SLe.bl {a b : Bool} (h : a = b) : SLe (S.d (D.v (Value.bool a))) (S.d (D.v (Value.bool b))) := SLe.of_eq (by rw [h])
theorem bStr_of (s : ByteArray) : bStr s.data.toList = s := by cases s; simp [bStr]
def mag (s : ByteArray) : List UInt8 := Lib.trimPrefix s.data.toList [45]
def sgn (s : ByteArray) : Bool := Lib.hasPrefix s.data.toList [45]
def YdQ (s : ByteArray) : Int := if sgn s = true then -(decV (mag s) : Int) else (decV (mag s) : Int)
theorem parse_abs (s : ByteArray) : (YdQ s).natAbs = decV (mag s) := by unfold YdQ; split <;> omega
theorem parse_neg {s : ByteArray} (h : sgn s = true) : (((wl (decV (mag s)) : Nat) : Int) > 0) ↔ YdQ s < 0 := by
 rw [wl_nz];unfold YdQ;rw [if_pos h]; omega
theorem parse_pos {s : ByteArray} (h : ¬ sgn s = true) : ¬ YdQ s < 0 := by
 unfold YdQ;rw [if_neg h]; omega
def fromR (x y : ByteArray) : Rt := ⟨YdQ x, decV y.data.toList⟩
def lowR (r : Rt) : Bool := decide (cmpN (Yby r.n r.d).d r.d = 0)
def YdM (l : List UInt8) : Bool := l.all Yfl && (decide (l = [48]) || (decide (l ≠ []) && decide (l.head? ≠ some 48)))
def AllD (l : List UInt8) : Prop := ∀ c ∈ l, Yfl c = true
theorem dg_iff {c : UInt8} : Yfl c = true ↔ 48 <= c.toNat /\ c.toNat <= 57 := by unfold Yfl; simp
theorem digOk_no {l : List UInt8} {i : Nat} {c : UInt8} (hc : l[i]? = some c) (h : ¬ (48 <= c.toNat /\ c.toNat <= 57)) : YdM l = false := by
 have h1 : l.all Yfl = false := by
  rw [Bool.eq_false_iff];intro hh;exact h (dg_iff.1 (List.all_eq_true.1 hh c (List.mem_of_getElem? hc)))
 unfold YdM;rw [h1]; rfl
theorem allD_next {l : List UInt8} {i : Nat} {c : UInt8} (hc : l[i]? = some c) (h : 48 <= c.toNat /\ c.toNat <= 57) (ha : AllD (l.take i)) : AllD (l.take (i + 1)) := by
 intro d hd;rw [List.take_add_one, hc] at hd
 rcases List.mem_append.1 hd with hd | hd
 ·exact ha d hd
 ·have : d = c := by simpa using hd
  subst this; exact dg_iff.2 h
theorem digOk_all {l : List UInt8} (h : AllD l) : YdM l = (decide (l = [48]) || (decide (l ≠ []) && decide (l.head? ≠ some 48))) := by
 unfold YdM;rw [List.all_eq_true.2 h]; rfl
theorem Yea {l : List UInt8} (h : YdM l = true) : AllD l := by
 unfold YdM at h;rw [ZbA] at h;exact List.all_eq_true.1 h.1
theorem decV_pos {l : List UInt8} (h : YdM l = true) (h0 : l ≠ [48]) : 0 < decV l := by
 have hd := Yea h;rw [digOk_all hd] at h;simp only [h0, decide_false, Bool.false_or, ZbA, decide_eq_true_eq] at h;obtain ⟨h1, h2⟩ := h
 match l, h1 with
 | c :: r, _ =>
  have hc := dg_iff.1 (hd c List.mem_cons_self);have h3 : c ≠ 48 := fun e => h2 (by rw [e]; rfl)
  have h4 : c.toNat ≠ 48 := fun e => h3 (UInt8.toNat_inj.1 e)
  have e : decV (c :: r) = (c.toNat - 48) * 10 ^ r.length + decV r := by
   have := YfK [c] r;rw [show decV [c] = c.toNat - 48 by simp [decV]] at this;exact this
  rw [e];have : 0 < (c.toNat - 48) * 10 ^ r.length := Nat.mul_pos (by omega) (Nat.pow_pos (by decide));omega
theorem dec_bits {l : List UInt8} {k : Nat} (h : AllD l) (hl : l.length <= k) : decV l < 2 ^ (4 * k) := by
 refine Nat.lt_of_lt_of_le (decV_lt l h) ?_;rw [Nat.pow_mul];exact ZnT (Nat.pow_le_pow_left (show 10 <= 2 ^ 4 by decide) _) (Nat.pow_le_pow_right (by decide) hl)
def ratB (x y : ByteArray) : Bool := !YdM (mag x) || (sgn x && decide (mag x = [48])) || !YdM y.data.toList || decide (y.data.toList = [48])
def ratL (x y : ByteArray) : Bool := decide (2000 < (mag x).length) || decide (2000 < y.data.toList.length)
def ratF (x y : ByteArray) : Int := if ratB x y = true then 3 else if ratL x y = true then 2 else if lowR (fromR x y) = true then 0 else 3
theorem ratB_f {x y : ByteArray} (h : ratB x y = false) : YdM (mag x) = true /\ ¬ (sgn x = true /\ mag x = [48]) /\ YdM y.data.toList = true /\ y.data.toList ≠ [48] := by
 unfold ratB at h;simp only [Bool.or_eq_false_iff, Bool.not_eq_false', Bool.and_eq_false_iff, decide_eq_false_iff_not] at h;refine ⟨h.1.1.1, fun hh => ?_, h.1.2, h.2⟩
 rcases h.1.1.2 with h2 | h2
 ·rw [hh.1] at h2; cases h2
 ·exact h2 hh.2
theorem from_k {x y : ByteArray} {k : Nat} (h : ratB x y = false) (h1 : (mag x).length <= k) (h2 : y.data.toList.length <= k) : Rk (4 * k) (fromR x y) := by
 obtain ⟨q1, _, q3, q4⟩ := ratB_f h;exact ⟨by show (YdQ x).natAbs < _; rw [parse_abs]; exact dec_bits (Yea q1) h1, dec_bits (Yea q3) h2, decV_pos q3 q4⟩
theorem ratL_t {x y : ByteArray} (h : 2000 < (mag x).length) : ratL x y = true := by unfold ratL; rw [decide_eq_true h]; rfl
theorem ratL_f {x y : ByteArray} (h : ¬ 2000 < (mag x).length) : ratL x y = decide (2000 < y.data.toList.length) := by unfold ratL; rw [decide_eq_false h]; rfl
theorem ratL_no {x y : ByteArray} (h : ratL x y = false) : (mag x).length <= 2000 /\ y.data.toList.length <= 2000 := by
 unfold ratL at h;simp only [Bool.or_eq_false_iff, decide_eq_false_iff_not] at h;omega
theorem mag_le (s : ByteArray) : (bStr (mag s)).size <= s.size := by
 rw [YaT, Lib.size_eq];unfold mag Lib.trimPrefix;split
 ·rw [ZlD]; omega
 ·exact ZnR _
theorem str_48 {s : ByteArray} : (s = ⟨#[48]⟩) ↔ s.data.toList = [48] := ⟨fun h => by rw [h], fun h => by rw [<- bStr_of s, h]; rfl⟩
theorem str_nil {s : ByteArray} : (s = ⟨#[]⟩) ↔ s.data.toList = [] := ⟨fun h => by rw [h], fun h => by rw [<- bStr_of s, h]; rfl⟩
theorem mag_48 {s : ByteArray} : ((⟨(Lib.trimPrefix s.data.toList [45]).toArray⟩ : ByteArray) = ⟨#[48]⟩) ↔ mag s = [48] := str_48.trans (by show (mag s = _) ↔ _; rfl)
theorem c_cutP (s : ByteArray) : Yad Tryz.prog 183 [.v (.string s), .v (.string ⟨#[45]⟩)] (.tup [.v (.string (bStr (mag s))), .v (.bool (sgn s))]) := c_cutPrefix s ⟨#[45]⟩
theorem c_natTextS (s : ByteArray) (hd : AllD s.data.toList) (hl : s.data.toList.length <= 1000000) : Yad Tryz.prog 198 [.v (.string s)] (.sl (natW (decV s.data.toList))) := by
 have h := c_natText s.data.toList hd hl;rwa [bStr_of] at h
theorem c_parse (s : ByteArray) (hd : AllD (mag s)) (hl : (mag s).length <= 1000000) : Yad Tryz.prog 197 [.v (.string s)] (.agg (iD (YdQ s))) := by
 refine Yap (n := 21) (ds' := [.agg (iD (YdQ s))]) Tryz.func197 J (by kernel_rfl) J [.cell 2 120] J J ?_;intro B w0 F0 fr;refine .sr (.alloc 101 J J J J YdN J J J (.nil ?_));refine .sr (.mA ?_);refine .sA (.call J (.cons (.rfl' J) (.cons (.rfl' J) .nil)) (c_cutP s)) ?_;refine .mA ?_;refine .sA (.extract J J J) (.sA (.extract J J J) ?_);refine .aa (.nil ?_);refine .sr (.mA ?_);refine .sA (.call J (.cons (.rfl' J) .nil) (c_natText (mag s) hd hl)) ?_;refine .aN ?_;refine .sr (.mm ?_);refine .split 14 J (fun g1 => ?_) (fun g1 => ?_)
 ·skip;have hs := g1;refine .sG (.moveD J J) ?_;refine .sG (.lenSl J et_118.ht J) ?_;rw [Yaf];refine .sG (.gtr J J J) ?_;refine .sA (.pickT J J J) ?_;refine .mA ?_;refine .sA (.build J Ybs (.cons J J (.cons J J .nil)) J) ?_;refine .st J J J YbE J (.head _) J J J (ZnB J) (.nil ?_);refine .ret ?_;refine ⟨RetR.agg J (.head _) YaJ J (.c6 (.c6 .nil)), trivial⟩
  all_goals (first | rfl)
 have hs : ¬ sgn s = true := fun hh => by rw [hh] at g1; exact absurd g1 (by decide)
 refine .pB ?_;refine .pA ?_;refine .sA (.pickF J J J) ?_;refine .mA ?_;refine .sA (.build J Ybs (.cons J J (.cons J J .nil)) J) ?_;refine .st J J J YbE J (.head _) J J J (ZnB J) (.nil ?_);refine .ret ?_;refine ⟨RetR.agg J (.head _) YaJ J (.c6 (.c6 .nil)), trivial⟩
 all_goals (first | rfl)
theorem c_frm (x y : ByteArray) (h1 : AllD (mag x)) (h2 : (mag x).length <= 1000000) (h3 : AllD y.data.toList) (h4 : y.data.toList.length <= 1000000) : Yad Tryz.prog 146 [.agg [.v (.string x), .v (.string y)]] (.agg (rD (fromR x y))) := by
 refine Yap (n := 10) (ds' := [.agg (rD (fromR x y))]) Tryz.func146 J (by kernel_rfl) J [.cell 2 123] J J ?_;intro B w0 F0 fr;refine .sr (.sA (.box J J J) ?_);refine .alloc 101 J J J J YbL J J J (.nil ?_);refine .seq (.drw 7 ?_);refine .fl fo_154_0 sc_9 ?_;refine .sA (.call J (.cons (.rfl' J) .nil) (c_parse x h1 h2)) ?_;refine .fl YcZ sc_9 ?_;refine .sA (.call J (.cons (.rfl' J) .nil) (c_natTextS y h3 h4)) (.sA (.build J Ygy (.cons J J (.cons J J .nil)) J) ?_);refine .nil ?_;refine .st J J J Ya6 J (.head _) J J J (ZnB J) (.nil ?_);refine .ret ?_;refine ⟨RetR.agg J (.head _) YaO J (.c5 (.c5 (.c5 .nil))), trivial⟩
 all_goals (first | rfl)
theorem c_lowest (r : Rt) (hn : wl r.n.natAbs <= 1000000000) (hd : wl r.d <= 1000000000) : Yad Tryz.prog 185 [.agg (rD r)] (.v (.bool (lowR r))) := by
 refine Yab (n := 13) (ds' := [.v (.bool (lowR r))]) Tryz.func185 J (by kernel_rfl) J [2] J J ?_;intro B w0 F0 fr;refine .sr (.sA (.box J J J) ?_);refine .aN ?_;refine .seq (.drw 11 ?_);refine .sA (.fieldAddr J YaQ J) (.sA (.loadAggT J YaJ J (ZnB J)) ?_);refine .fl YaH Yal ?_;refine .sA (.call J (.cons (.rfl' J) (.cons (.rfl' J) .nil)) (c_ovr r.n r.d hn hd)) (.sA (.field J fv_123_1 J J) ?_);refine .fl YaH Yal ?_;refine .sA (.call J (.cons (.rfl' J) (.cons (.rfl' J) .nil)) (c_cmpN (Yby r.n r.d).d r.d)) (.sA (.eql J J J) (.sA (.assignD J J) ?_));refine .nil ?_;refine .nil ?_;refine .ret (rDq J ?_)
 all_goals (first | rfl)
theorem c_digits (s : ByteArray) (hs : s.size <= 9223372036854775807) : Yad Tryz.prog 184 [.v (.string s)] (.v (.bool (YdM s.data.toList))) := by
 refine Yab (n := 31) (ds' := [.v (.bool (YdM s.data.toList))]) Tryz.func184 J (by kernel_rfl) J [2] J J ?_;intro B w0 F0 fr;have hsz := Lib.size_eq s;refine .sr (.aN ?_);refine .seq (.sr (.mA ?_));refine .sA (.lenStr J st_9 J) ?_;refine .mN ?_;refine .block (.loop (G := Nat) (fun i => Env.of [(6, .iv i), (5, .iv s.size), (0, .d (.v (.string s)))]) (fun i => []) (fun i => i <= s.size /\ AllD (s.data.toList.take i)) (fun i => s.size - i) 0 ⟨ZnZ _, fun c hc => by simp at hc⟩ (Sub.less ⟨U, U, U, trivial⟩ (fun _ h => h)) ?_);intro i hi;have ha := hi.2;refine .sr (.sA (.lss J J J) (.nil ?_));refine .seq (.cT J (fun h1 => ?_) fun h1 => ?_)
 ·obtain ⟨c, hc⟩ : ∃ c, s.data.toList[i]? = some c := ⟨_, ZgE (by omega)⟩;have hcb := c.toNat_lt;refine .skip (.seq (.block (.sr (.ma (.nil ?_)))));refine .sr (.mm ?_);refine .sA (.indexStr J st_9 J J i J hc) (.sA (.lss J J J) ?_);refine .mA ?_;refine .sT 13 J (fun g2 => ?_) fun g2 => ?_
  ·rw [digOk_no hc (by omega)];refine .pB ?_;refine .pB ?_;refine .sA (.pickT J J J) (.nil ?_);refine .cond J (fun _ => ?_) (fun h => nomatch h);refine .sr (.aN ?_);refine .ret (rDq J ?_)
   all_goals (first | rfl)
  refine .sG (.moveD J J) ?_;refine .sG (.moveD J J) ?_;refine .sG (.indexStr J st_9 J J i J hc) ?_;refine .sG (.gtr J J J) ?_;refine .sA (.pickF J J J) (.nil ?_);refine .cT J (fun h3 => ?_) fun h3 => ?_
  ·rw [digOk_no hc (by omega)];refine .sr (.aN ?_);refine .ret (rDq J ?_)
   all_goals (first | rfl)
  have hcd : 48 <= c.toNat /\ c.toNat <= 57 := by omega
  refine .skip (.region (.sA (.add64 J J J) ?_));refine .mN ?_;refine ⟨i + 1, ⟨by omega, allD_next hc hcd ha⟩, (by dsimp only; omega), Sub.less ⟨U, U, U, trivial⟩ (fun _ h => h)⟩
 obtain rfl : i = s.size := by omega
 rw [hsz, List.take_length] at ha;have hdo := digOk_all ha;refine .exit (.sr (.mA ?_));refine .sA (.seql J J J) ?_;refine .mA ?_;refine .sT 22 J (fun g4 => ?_) fun g4 => ?_
 ·have hr : YdM s.data.toList = true := by rw [hdo, decide_eq_true (str_48.1 g4)]; rfl
  rw [hr];refine .pB ?_;refine .pA ?_;refine .pass ⟨25, J, .inr ⟨J, J⟩⟩ J J ?_;refine .pass ⟨25, J, .inr ⟨J, J⟩⟩ J J ?_;refine .pass ⟨25, J, .inr ⟨J, J⟩⟩ J J ?_;refine .pA ?_;refine .sA (.pickT J J J) ?_;refine .aN ?_;refine .ret (rDq J ?_)
  all_goals (first | rfl)
 have hn48 : ¬ s.data.toList = [48] := fun e => g4 (str_48.2 e)
 rw [decide_eq_false hn48, Bool.false_or] at hdo;refine .sG (.moveD J J) ?_;refine .sG (.sneq J J J) ?_;refine .sG (.moveD J J) ?_;refine .sT 25 J (fun g5 => ?_) fun g5 => ?_
 ·have hne : s.data.toList ≠ [] := fun e => g5 (str_nil.2 e)
  obtain ⟨c, hc⟩ : ∃ c, s.data.toList[0]? = some c := ⟨_, ZgE (List.length_pos_iff.2 hne)⟩;have hr : YdM s.data.toList = decide ((c.toNat : Int) ≠ 48) := by rw [hdo, decide_eq_true hne, Bool.true_and]; exact Yai (by rw [List.head?_eq_getElem?, hc]; exact ⟨fun h5 h6 => h5 (congrArg some (UInt8.toNat_inj.1 (by show c.toNat = 48; omega))), fun h5 h6 => h5 (by rw [Option.some.inj h6]; rfl)⟩)
  rw [hr];refine .sG (.moveD J J) ?_;refine .sG (.indexStr J st_9 J J 0 J hc) ?_;refine .sG (.neq J J J) ?_;refine .sG (.pickT J J J) ?_;refine .sA (.pickF J J J) ?_;refine .aN ?_;refine .ret (rDq J ?_)
  all_goals (first | rfl)
 have hr : YdM s.data.toList = false := by rw [hdo, decide_eq_false (fun hh => hh (str_nil.1 (Decidable.not_not.1 g5)))]; rfl
 rw [hr];refine .pB ?_;refine .pA ?_;refine .sG (.pickF J J J) ?_;refine .sA (.pickF J J J) ?_;refine .aN ?_;refine .ret (rDq J ?_)
 all_goals (first | rfl)
theorem c_ratio (x y : ByteArray) (hx : x.size <= 9223372036854775807) (hy : y.size <= 9223372036854775807) : Yad Tryz.prog 138 [.agg [.v (.string x), .v (.string y)]] (.v (.int .i64 (ratF x y))) := by
 refine Yab (n := 40) (ds' := [.v (.int .i64 (ratF x y))]) Tryz.func138 J (by kernel_rfl) J [2] J J ?_;intro B w0 F0 fr;have hmx : (bStr (mag x)).size <= 9223372036854775807 := ZnT (mag_le x) hx;refine .sr (.sA (.box J J J) ?_);refine .aN ?_;refine .sr (.fl fo_154_0 sc_9 ?_);refine .sA (.call J (.cons (.rfl' J) (.cons (.rfl' J) .nil)) (c_cutP x)) ?_;refine .mA ?_;refine .sA (.extract J J J) (.sA (.extract J J J) ?_);refine .aa (.nil ?_);refine .seq (.block (.seqJ (True) (Env.of [(11, .d (.v (.bool (ratB x y)))), (1, .d (.fp [.v (.string x), .v (.string y)])), (3, .d (.v (.string (bStr (mag x))))), (4, .d (.v (.bool (sgn x))))]) [] ?_ (fun _ => ?_)))
 ·skip;refine .sr (.mA ?_);refine .sA (.call J (.cons (.rfl' J) .nil) (c_digits _ hmx)) (.sA (.not J J) ?_);refine .aN ?_;refine .cond J (fun h1 => ?_) (fun h1 => ?_)
  ·replace h1 := Yaw h1;skip;refine .skip ?_;refine ⟨?_, Sub.less ⟨(SLe.bl (by simp_all [ratB, YbH, mag_48, str_48])), U, U, U, trivial⟩ (fun _ h => h)⟩;trivial
  replace h1 := Yax h1;skip;refine .sr (.mm ?_);refine .split 16 J (fun g2 => ?_) (fun g2 => ?_)
  ·skip;refine .sG (.moveD J J) ?_;refine .sG (.seql J J J) ?_;refine .sA (.pickT J J J) ?_;refine .aN ?_;refine .cT J (fun h3 => ?_) fun h3 => ?_
   ·skip;refine .skip ?_;refine ⟨?_, Sub.less ⟨(SLe.bl (by simp_all [ratB, YbH, mag_48, str_48])), U, U, U, trivial⟩ (fun _ h => h)⟩;trivial
   skip;refine .sr (.fl YcZ sc_9 ?_);refine .sA (.call J (.cons (.rfl' J) .nil) (c_digits _ hy)) (.sA (.not J J) ?_);refine .aN ?_;refine .cond J (fun h4 => ?_) (fun h4 => ?_)
   ·replace h4 := Yaw h4;skip;refine .skip ?_;refine ⟨?_, Sub.less ⟨(SLe.bl (by simp_all [ratB, YbH, mag_48, str_48])), U, U, U, trivial⟩ (fun _ h => h)⟩;trivial
   replace h4 := Yax h4;skip;refine .region (.fl YcZ sc_9 ?_);refine .sA (.seql J J J) ?_;refine .aN ?_;refine ⟨?_, Sub.less ⟨(SLe.bl (by simp_all [ratB, YbH, mag_48, str_48])), U, U, U, trivial⟩ (fun _ h => h)⟩;trivial
  refine .pB ?_;refine .sA (.pickF J J J) ?_;refine .aN ?_;refine .cond J (fun h => nomatch h) (fun _ => ?_);refine .sr (.fl YcZ sc_9 ?_);refine .sA (.call J (.cons (.rfl' J) .nil) (c_digits _ hy)) (.sA (.not J J) ?_);refine .aN ?_;refine .cond J (fun h5 => ?_) (fun h5 => ?_)
  ·replace h5 := Yaw h5;skip;refine .skip ?_;refine ⟨?_, Sub.less ⟨(SLe.bl (by simp_all [ratB, YbH, mag_48, str_48])), U, U, U, trivial⟩ (fun _ h => h)⟩;trivial
  replace h5 := Yax h5;skip;refine .region (.fl YcZ sc_9 ?_);refine .sA (.seql J J J) ?_;refine .aN ?_;refine ⟨?_, Sub.less ⟨(SLe.bl (by simp_all [ratB, YbH, mag_48, str_48])), U, U, U, trivial⟩ (fun _ h => h)⟩;trivial
 refine .cond J (fun h6 => ?_) (fun h6 => ?_)
 ·skip;rw [show ratF x y = 3 from if_pos h6];refine .sr (.aN ?_);refine .ret (rDq J ?_)
  all_goals (first | rfl)
 have h0 : ratB x y = false := h6;obtain ⟨hB1, _, hB3, _⟩ := ratB_f h0;refine .seqJ (True) (Env.of [(27, .d (.v (.bool (ratL x y)))), (1, .d (.fp [.v (.string x), .v (.string y)]))]) [] ?_ (fun _ => ?_)
 ·skip;refine .sr (.mA ?_);refine .sA (.lenStr J st_9 J) ?_;rw [YaT];refine .sA (.gtr J J J) ?_;refine .aN ?_;refine .cT J (fun h7 => ?_) fun h7 => ?_
  ·skip;refine .skip ?_;refine ⟨?_, Sub.less ⟨(SLe.bl (by first | exact (decide_eq_true (by omega)).trans (ratL_t (by omega)).symm | exact (Yai (by omega)).trans (ratL_f (by omega)).symm)), U, trivial⟩ (fun _ h => h)⟩;trivial
  skip;refine .region (.fl YcZ sc_9 ?_);refine .sA (.lenStr J st_9 J) ?_;rw [Lib.size_eq y];refine .sA (.gtr J J J) ?_;refine .aN ?_;refine ⟨?_, Sub.less ⟨(SLe.bl (by first | exact (decide_eq_true (by omega)).trans (ratL_t (by omega)).symm | exact (Yai (by omega)).trans (ratL_f (by omega)).symm)), U, trivial⟩ (fun _ h => h)⟩;trivial
 refine .cond J (fun h8 => ?_) (fun h8 => ?_)
 ·skip;rw [show ratF x y = 2 from (if_neg (by rw [h0]; decide)).trans (if_pos h8)];refine .sr (.aN ?_);refine .ret (rDq J ?_)
  all_goals (first | rfl)
 have hl0 : ratL x y = false := h8;obtain ⟨hl1, hl2⟩ := ratL_no hl0;have hfin : ratF x y = if lowR (fromR x y) = true then 0 else 3 := (if_neg (by rw [h0]; decide)).trans (if_neg (by rw [hl0]; decide))
 refine .sr (.sA (.loadAgg J YgC J J) ?_);refine .sA (.call J (.cons (.rfl' J) .nil) (c_frm x y (Yea hB1) (by omega) (Yea hB3) (by omega))) ?_;refine .sA (.call J (.cons (.rfl' J) .nil) (c_lowest (fromR x y) ((from_k (k := 2000) h0 (by omega) (by omega)).wn (by decide)) ((from_k (k := 2000) h0 (by omega) (by omega)).wd (by decide)))) ?_;refine .sA (.not J J) ?_;refine .aN ?_;refine .cond J (fun h9 => ?_) (fun h9 => ?_)
 ·replace h9 := Yaw h9;rw [hfin, if_neg (by rw [h9]; decide)];refine .sr (.aN ?_);refine .ret (rDq J ?_)
  all_goals (first | rfl)
 replace h9 := Yax h9;rw [hfin, if_pos h9];refine .skip (.sr (.aN ?_));refine .ret (rDq J ?_)
 all_goals (first | rfl)
attribute [local go_sem ↓] Ydg Ydh
end
section
open Go.RowKit Go.Shelf Go.Lib
attribute [local go_sem ↓] Ydg Ydh
def Yf7 (b : UInt8) : Bool := (decide (97 <= b.toNat) && decide (b.toNat <= 122)) || (decide (48 <= b.toNat) && decide (b.toNat <= 57)) || decide (b.toNat = 45)
def headB (b : UInt8) : Bool := decide (97 <= b.toNat) && decide (b.toNat <= 122)
def Ya9 (l : List UInt8) : Bool := decide (1 <= l.length) && decide (l.length <= 40) && headB (l.headD 0) && l.all Yf7
def letters : List UInt8 := [97, 98, 99, 100, 101, 102, 103, 104, 105, 106, 107, 108, 109, 110, 111, 112, 113, 114, 115, 116, 117, 118, 119, 120, 121, 122, 48, 49, 50, 51, 52, 53, 54, 55, 56, 57, 45]
theorem letters_nat : ∀ n : Fin 256, letters.contains (UInt8.ofNat n.val) = Yf7 (UInt8.ofNat n.val) := by decide +kernel
theorem letters_eq (b : UInt8) : letters.contains b = Yf7 b := by
 have := letters_nat ⟨b.toNat, b.toNat_lt⟩;simpa using this
theorem YbR {α : Type} (p : α -> Bool) : ∀ l : List α, l.dropWhile p = [] ↔ l.all p = true
 | [] => by simp
 | x :: l => by
  cases h : p x
  ·simp [h]
  ·simp [h, YbR p l]
theorem trim_nil (l : List UInt8) : (Lib.trimS l letters = []) ↔ l.all Yf7 = true := by
 have hf : (fun b => letters.contains b) = Yf7 := funext letters_eq;unfold Lib.trimS Lib.trimLeftS Lib.trimRightS;rw [YbR, hf];constructor
 ·intro h;rw [List.all_reverse] at h
  have h2 : (l.reverse.dropWhile Yf7) = [] := by
   cases hd : l.reverse.dropWhile Yf7 with
   | nil => rfl
   | cons x r =>
    have h3 := List.head?_dropWhile_not Yf7 l.reverse;rw [hd] at h h3;simp at h h3;rw [h.1] at h3;cases h3
  rw [YbR, List.all_reverse] at h2;exact h2
 ·intro h;have : l.reverse.dropWhile Yf7 = [] := by rw [YbR, List.all_reverse]; exact h
  rw [this]; rfl
theorem pName_any (s : ByteArray) (w : World) (hs : s.size <= 9223372036854775807) :
 Calls Tryz.prog 29 #[.string s] w fun e w' => e = .returned (.bool (Ya9 s.data.toList)) /\ Below w.heap.size w w' := by
 have hl : s.data.toList.length = s.size := by rw [ZaL]; rfl
 by_cases h0 : s.size < 1
 ·have HR := Lib.hid (show Ya9 s.data.toList = false by unfold Ya9; rw [hl]; simp; omega);clear hl
  go_enter Tryz.func29, Tryz.ntmps29
  go_wp2_with fail
  go_ret
  exact ⟨by rw [HR.out]; rfl, Below.refl _ _⟩
 by_cases h1 : 40 < s.size
 ·have HR := Lib.hid (show Ya9 s.data.toList = false by unfold Ya9; rw [hl]; simp; omega);clear hl
  go_enter Tryz.func29, Tryz.ntmps29
  go_wp2_with fail
  go_ret
  exact ⟨by rw [HR.out]; rfl, Below.refl _ _⟩
 have hp : 0 < s.size := by omega
 have hh : s.data.toList.headD 0 = s[0] := by
  obtain ⟨⟨l⟩⟩ := s
  cases l with
  | nil => simp [ByteArray.size] at hp
  | cons x r => rfl
 have hlen : (decide (1 <= s.data.toList.length) && decide (s.data.toList.length <= 40)) = true := by rw [hl]; simp; omega
 have hname : Ya9 s.data.toList = (headB s[0] && s.data.toList.all Yf7) := by unfold Ya9; rw [hlen, hh, Bool.true_and]
 clear hl hlen hh
 by_cases ha : s[0].toNat < 97
 ·have HR := Lib.hid (show Ya9 s.data.toList = false by rw [hname]; unfold headB; simp; omega);clear hname
  go_enter Tryz.func29, Tryz.ntmps29
  go_wp2_with fail
  go_ret
  exact ⟨by rw [HR.out]; rfl, Below.refl _ _⟩
 by_cases hb : 122 < s[0].toNat
 ·have HR := Lib.hid (show Ya9 s.data.toList = false by rw [hname]; unfold headB; simp; omega);clear hname
  go_enter Tryz.func29, Tryz.ntmps29
  go_wp2_with fail
  go_ret
  exact ⟨by rw [HR.out]; rfl, Below.refl _ _⟩
 have hhd : headB s[0] = true := by unfold headB; simp; omega
 rw [hhd, Bool.true_and] at hname;have hlet : (⟨letters.toArray⟩ : ByteArray).size < 4294967281 := by decide
 have hcon := Any.strings_Trim_laid Tryz.l160 (by kernel_rfl) s ⟨letters.toArray⟩ w hs hlet (ascii_of_all (by decide));change Calls Tryz.prog 69 #[.string s, .string ⟨#[97, 98, 99, 100, 101, 102, 103, 104, 105, 106, 107, 108, 109, 110, 111, 112, 113, 114, 115, 116, 117, 118, 119, 120, 121, 122, 48, 49, 50, 51, 52, 53, 54, 55, 56, 57, 45]⟩] w (fun e w' => e = .returned (.string ⟨(Lib.trimS s.data.toList letters).toArray⟩) /\ Below w.heap.size w w') at hcon;have ha' : 97 <= s[0].toNat := by omega
 have hb' : s[0].toNat <= 122 := by omega
 by_cases hall : s.data.toList.all Yf7 = true
 ·have HR := Lib.hid (hname.trans hall);rw [(trim_nil s.data.toList).2 hall] at hcon;have HC := Lib.hid hcon;clear hname hall hcon hhd
  go_enter Tryz.func29, Tryz.ntmps29
  go_wp2_with fail
  refine HC.out.mono ?_;rintro e w' ⟨rfl, hbel⟩
  go_wp2_with fail
  go_ret
  exact ⟨by rw [HR.out]; rfl, hbel⟩
 ·have hne : (⟨(Lib.trimS s.data.toList letters).toArray⟩ : ByteArray) ≠ ⟨#[]⟩ := by
   intro h;apply hall;rw [<- trim_nil];injection h with h
   simpa using h
  have HR := Lib.hid (hname.trans (by simpa using hall))
  have hneb : (⟨(Lib.trimS s.data.toList letters).toArray⟩ : ByteArray).toList.isEmpty = false := by
   rw [ByteArray.toList_eq]
   cases hl : (⟨(Lib.trimS s.data.toList letters).toArray⟩ : ByteArray).data.toList with
   | nil => exact absurd (by simp at hl; rw [hl]) hne
   | cons _ _ => rfl
  generalize (⟨(Lib.trimS s.data.toList letters).toArray⟩ : ByteArray) = r at *;have HC := Lib.hid hcon;clear hname hall hcon hhd
  go_enter Tryz.func29, Tryz.ntmps29
  go_wp2_with fail
  refine HC.out.mono ?_;rintro e w' ⟨rfl, hbel⟩
  go_wp2_with fail
  go_ret
  exact ⟨by rw [HR.out]; rfl, hbel⟩
end
end Go.Proofs.YtohllekllkcfiaaGreatDoor
namespace Go.Proofs
open Go.Shelf
def Tryz.l106_ren : Go.Shelf.Ren := ⟨fun | 106 => 72 | 213 => 140 | 265 => 187 | n => n, fun | 9 => 9 | 3 => 3 | n => n, fun | n => n⟩
theorem Tryz.l106 : Go.Proofs.Lays.n106 Tryz.prog Tryz.l106_ren := {
 mixed := by kernel_rfl
 f106 := ZfC Tryz.func72
 f213 := ZfC Tryz.func140
 f265 := ZfC Tryz.func187
 t3 := Tryz.underlying3
 a3 := Tryz.isAgg3
 z3 := Tryz.sizeOf3
 v3 := Tryz.zeroValue3
 t9 := Tryz.underlying9
 a9 := Tryz.isAgg9
 z9 := Tryz.sizeOf9
 v9 := Tryz.zeroValue9 }
end Go.Proofs
