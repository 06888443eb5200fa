/- Walks and laws over abstract values, merged by tools/merge.py. No statement of the seat. -/
import Derived.ChangeKeysEq
import Derived.ProofKit
import Derived.OpenShut
import Derived.ShutString
import Derived.ChangeOld
import Derived.Below
import Derived.Lib.EndianBits
import Derived.Laws.StructEq
import Derived.MapKept
import Derived.Carry
import Derived.Test.YtcfamaddnmnaeaaGreatDoorZE1
set_option linter.unusedSimpArgs false
set_option linter.unusedVariables false
set_option maxHeartbeats 1000000
set_option maxRecDepth 100000
open List renaming length_map -> ZlM, getElem?_eq_getElem -> ZgE, getElem?_eq_some_iff -> ZgS, getElem_mem -> ZgM, length_take -> ZlT, getElem_append_left -> ZgL, getD_eq_getElem?_getD -> ZgD, getElem_map -> ZgP, getElem_append_right -> ZgR, getElem?_take -> ZgT, map_append -> ZmA, length_append -> ZlA, length_drop -> ZlD, mem_singleton -> ZmS, mem_map -> ZmM, getElem?_drop -> ZgO
open Array renaming getElem?_eq_some_iff -> ZaS, length_toList -> ZaL, getD_eq_getD_getElem? -> ZaD
open Nat renaming le_of_ble_eq_true -> ZnB, zero_le -> ZnZ, le_refl -> ZnR, le_trans -> ZnT
open Bool renaming and_eq_true -> ZbA, or_eq_true_iff -> ZbO
namespace Go.Proofs.YtcfamaddnmnaeaaGreatDoor
section
open Go.RowKit
theorem R0.writeOb {cx : Cx} {F : Nat -> Prop} {ρ : Nat -> Value} {e : Env} {σ : Obs} {a : Act} {w w' : World} (hr : R0 cx F ρ e σ a w) {id g : Nat} {ob ob' : Ob} (hblk : blk (ρ id) = some g) (hm : (id, ob) ∈ σ)
 (hB : cx.B <= g) (hF : ¬ F g) (ht : Turn w w' (some g)) (hob : ObOk cx.B F ρ w' id ob') : R0 cx F ρ e (Obs.upd id ob' σ) a w' := by
 have keep : ∀ {x : Value} {s : S}, RepS F ρ w x s -> RepS F ρ w' x s := fun h => h.turn hr.lt (fun g' hg' => by rw [<- Option.some.inj hg']; exact hF) ht (fun b hb => hb)
 refine ⟨hr.size, hr.defers, fun b hb => Nat.lt_of_lt_of_le (hr.lt b hb) ht.size, hr.base, hr.new, hr.below.turn ht (fun g' hg' => by rw [<- Option.some.inj hg']; exact hr.kown _ hm g hblk), ZnT hr.hB ht.size, fun t => keep (hr.env t), ?_, hr.up, fun p hp => by
  rcases Obs.mem_upd hp with ⟨h1, _⟩ | ⟨h1, _⟩
  ·rw [h1]; exact fun g hg => hr.kown (id, ob) hm g hg
  ·exact hr.kown p h1, hr.fixed⟩
 have hmem : ∀ p, p ∈ Obs.upd id ob' σ -> p.1 = id -> p = (id, ob') := fun p hp he => by
  rcases Obs.mem_upd hp with ⟨h1, _⟩ | ⟨_, h2⟩
  ·exact h1
  ·exact absurd he h2
 have hold : ∀ p, p ∈ Obs.upd id ob' σ -> p.1 ≠ id -> p ∈ σ := fun p hp he => by
  rcases Obs.mem_upd hp with ⟨h1, _⟩ | ⟨h1, _⟩
  ·rw [h1] at he; exact absurd rfl he
  ·exact h1
 refine ⟨fun p hp => ?_, fun p hp q hq hne g' hg' => ?_, fun p hp q hq he => ?_⟩
 ·by_cases hpi : p.1 = id
  ·rw [hmem p hp hpi]; exact hob
  ·have hp' := hold p hp hpi
   have h1 := hr.obs.ok p hp'
   have hne : ∀ g', blk (ρ p.1) = some g' -> (some g) ≠ some g' := fun g' hg' he => by
    have := hr.obs.apart p hp' _ hm hpi g' hg'
    rw [hblk, he] at this
    exact this J
   obtain ⟨i, ob2⟩ := p
   cases ob2 with
   | row ee size els =>
    obtain ⟨xs, h2, h3, h4, h5⟩ := h1
    exact ⟨xs, Ybj h2 ht hne, h3, fun k hk j hj => ⟨(h4 k hk j hj).1, Yao (keep (.d (h4 k hk j hj).2))⟩, h5⟩
   | cells ss2 =>
    obtain ⟨g2, e2, cs2, h2, h3, h4, h5, h6, h7⟩ := h1
    refine ⟨g2, e2, cs2, h2, h3, h4, ?_, h6, fun j hj hj' => ⟨(h7 j hj hj').1, keep (h7 j hj hj').2⟩⟩
    rw [ht.block g2 (ZaS.1 h5).1 (fun he => hne g2 (by rw [h2]; rfl) he.symm)]
    exact h5
   | cellsT ty0 ss2 =>
    obtain ⟨g2, cs2, h2, h3, h4, h5, h6, h7⟩ := h1
    refine ⟨g2, cs2, h2, h3, h4, ?_, h6, fun j hj hj' => ⟨(h7 j hj hj').1, keep (h7 j hj hj').2⟩⟩
    rw [ht.block g2 (ZaS.1 h5).1 (fun he => hne g2 (by rw [h2]; rfl) he.symm)]
    exact h5
   | map M =>
    obtain ⟨g2, es, cl, h2, h3, h4, h5, h6, h7⟩ := h1
    refine ⟨g2, es, cl, h2, h3, h4, ?_, h6, fun j hj hj' => ⟨(h7 j hj hj').1, Yao (keep (.d (h7 j hj hj').2))⟩⟩
    rw [ht.block g2 (ZaS.1 h5).1 (fun he => hne g2 (by rw [h2]; rfl) he.symm)]
    exact h5
   | rowS ee size els =>
    obtain ⟨xs, h2, h3, h4, h5⟩ := h1
    exact ⟨xs, Ybj h2 ht hne, h3, fun k hk j hj => ⟨(h4 k hk j hj).1, keep (h4 k hk j hj).2⟩, h5⟩
   | bts l =>
    obtain ⟨g2, e2, cap2, cur2, fz2, h2, h3, h4, h5, h6⟩ := h1
    refine ⟨g2, e2, cap2, cur2, fz2, h2, h3, h4, ?_, h6⟩
    rw [ht.block g2 (ZaS.1 h5).1 (fun he => hne g2 (by rw [h2]; rfl) he.symm)]
    exact h5
   | val ss =>
    obtain ⟨cs, h2, h3, h4⟩ := h1
    exact ⟨cs, h2, h3, fun j hj hj' => ⟨(h4 j hj hj').1, keep (h4 j hj hj').2⟩⟩
   | iter M done =>
    obtain ⟨g2, b2, es, cl, sn, c0, h2, h3, h4, h5, h6, h7, h8, h9⟩ := h1
    refine ⟨g2, b2, es, cl, sn, c0, h2, h3, h4, ?_, h6, ?_, h8, fun j hj hj' => ⟨(h9 j hj hj').1, Yao (keep (.d (h9 j hj hj').2))⟩⟩
    ·rw [ht.block g2 (ZaS.1 h5).1 (fun he => hne g2 (by rw [h2]; rfl) he.symm)]
     exact h5
    ·rw [ht.block b2 (hr.lt b2 h6) (fun he => hF (by rw [<- Option.some.inj he]; exact h6))]
     exact h7
 ·by_cases hpi : p.1 = id
  ·have hq' := hold q hq (fun he => hne (by rw [hpi, he]))
   rw [hpi] at hg' hne
   exact hr.obs.apart _ hm q hq' hne g' hg'
  ·have hp' := hold p hp hpi
   by_cases hqi : q.1 = id
   ·rw [hqi] at hne ⊢
    exact hr.obs.apart p hp' _ hm hne g' hg'
   ·exact hr.obs.apart p hp' q (hold q hq hqi) hne g' hg'
 ·by_cases hpi : p.1 = id
  ·rw [hmem p hp hpi, hmem q hq (by rw [<- he, hpi])]
  ·exact hr.obs.uniq p (hold p hp hpi) q (hold q hq (by rw [<- he]; exact hpi)) he
theorem flat_store (xs : Nat -> Nat -> Value) (n size k j : Nat) (vs : List Value) (hk : k < n) (hj : j + vs.length <= size) :
 (flat xs n size).take (k * size + j) ++ vs ++ (flat xs n size).drop (k * size + j + vs.length) = flat (fun i q => if i = k /\ j <= q /\ q < j + vs.length then vs.getD (q - j) undef else xs i q) n size := by
 have hle : k * size + size <= n * size := by rw [<- Nat.succ_mul]; exact Nat.mul_le_mul_right _ hk
 apply List.ext_getElem?
 intro p
 by_cases hp : p < n * size
 ·have hs0 : 0 < size := by
   rcases Nat.eq_zero_or_pos size with h | h
   ·subst h; omega
   ·exact h
  have e1 : p = (p / size) * size + p % size := by rw [Nat.mul_comm]; exact (Nat.div_add_mod p size).symm
  have hlt1 : p / size < n := Nat.div_lt_of_lt_mul (by rw [Nat.mul_comm]; exact hp)
  have hlt2 : p % size < size := Nat.mod_lt _ hs0
  have hR := YaK (fun i q => if i = k /\ j <= q /\ q < j + vs.length then vs.getD (q - j) undef else xs i q) size n (p / size) (p % size) hlt1 hlt2
  have hL := YaK xs size n (p / size) (p % size) hlt1 hlt2
  rw [<- e1] at hR hL
  have hR' : (flat (fun i q => if i = k /\ j <= q /\ q < j + vs.length then vs.getD (q - j) undef else xs i q) n size)[p]? = _ := hR
  have hL' : (flat xs n size)[p]? = some (xs (p / size) (p % size)) := hL
  rw [hR', get3]
  have hfl := Yal xs n size
  rw [ZlT, hfl, Nat.min_eq_left (by omega)]
  have cmp1 : p < k * size + j -> ¬ (p / size = k /\ j <= p % size /\ p % size < j + vs.length) := by
   rintro h ⟨h1, h2, _⟩
   rw [h1] at e1; omega
  have cmp2 : k * size + j <= p -> p < k * size + j + vs.length -> p / size = k /\ p % size = p - k * size := by
   intro h1 h2
   have h3 : p / size = k := Nat.div_eq_of_lt_le (by omega) (by rw [Nat.add_mul]; omega)
   exact ⟨h3, by rw [h3] at e1; omega⟩
  by_cases c1 : p < k * size + j
  ·rw [if_pos c1, ZgT, if_pos c1, hL', if_neg (cmp1 c1)]
  ·rw [if_neg c1]
   by_cases c2 : p < k * size + j + vs.length
   ·obtain ⟨h1, h2⟩ := cmp2 (by omega) c2
    rw [if_pos c2, if_pos ⟨h1, by omega, by omega⟩, h2, show p - k * size - j = p - (k * size + j) by omega, ZgD, ZgE (by omega)]
    rfl
   ·rw [if_neg c2, ZgO, show k * size + j + vs.length + (p - (k * size + j + vs.length)) = p by omega, hL', if_neg]
    rintro ⟨h1, h2, h3⟩
    rw [h1] at e1; omega
 ·rw [List.getElem?_eq_none (by simp [Yal]; omega), List.getElem?_eq_none (by rw [Yal]; omega)]
section
variable {cx : Cx} {ops : Array Oper} {o : Oper} {rest : List Oper} {e : Env} {σ : Obs} {Q : Post}
theorem AOps.storeRow {t id off ee size len : Nat} {x y : Operand} {d : D} {els : List (List D)} {ds : List D} (hg : o.guard = none) (ht : o.dst = none) (ho : o.op = .store t x y) (hs : ∀ w, (sizeOf t).run cx.P w = .ok len w) (hx : e.ev x = .ptr id off) (hm : (id, Ob.row ee size els) ∈ σ)
 (hy : e.ev y = .d d) (h1 : d.one = true) (hl : d.parts.length = len) (k j : Nat) (hoff : off = k * size + j) (hd : els[k]? = some ds) (hj : j + len <= size)
 (q : AOps cx ops rest e (Obs.upd id (.row ee size (els.set k (ds.take j ++ d.parts ++ ds.drop (j + len)))) σ) Q) : AOps cx ops (o :: rest) e σ Q := by
 intro a w ⟨F, ρ, hr⟩
 have r1 := YaC (e := e) (x := x) (a := a) (fun t _ => hr.env t)
 have r2 := YaC (e := e) (x := y) (a := a) (fun t _ => hr.env t)
 rw [hx] at r1
 rw [hy] at r2
 obtain ⟨h3, h4⟩ := Ybd (Yao r2) h1
 have hlt : k < els.length := (ZgS.1 hd).1
 have hde : els[k] = ds := (ZgS.1 hd).2
 obtain ⟨xs, hown, hlen, hrep, hnF⟩ := hr.obs.ok _ hm
 dsimp only at hown hnF
 have hown' : w.ownsRow cx.B ee size (ρ id) els.length (flat xs els.length size) := hown
 rcases hown'.2 with ⟨_, h0⟩ | ⟨g, cap, cur, hv, hB, hh, hn, hmx, hcs, htk⟩
 ·omega
 have hblk : blk (ρ id) = some g := by rw [hv]; rfl
 have hxv := YbX r1 hblk
 have hsz : (a.eval y).cells.size = len := by have := h3.1; rw [ZaL] at this; omega
 have hle : k * size + size <= els.length * size := by rw [<- Nat.succ_mul]; exact Nat.mul_le_mul_right _ hlt
 have hcap : els.length * size <= cap * size := Nat.mul_le_mul_right _ hn
 obtain ⟨w', h5, h6, h7⟩ := YbB (P := cx.P) (off := off) hs hsz (cur := cur.toList) (by simpa using hh) (by rw [ZaL]; omega) h4
 refine wpList_plain hg fun K hK => ?_
 unfold Oper.wp execOp
 simp only [ho, Instr.storeAt, hxv, Instr.sureAddr, Sem.run_bind, Sem.run_pure, Result.andThen_ok, h5]
 refine hK _ _ (q _ _ ⟨F, ρ, ?_⟩)
 rw [ht]
 have hvl : (a.eval y).cells.toList.length = len := by rw [ZaL]; exact hsz
 have keep : ∀ {u : Value} {d : D}, Rep F w u d -> Rep F w' u d := fun h => h.mono (fun b hb => hb) fun b hb => h6.block b (hr.lt b hb) (fun he => hnF g hblk (by rw [<- Option.some.inj he]; exact hb))
 refine hr.writeOb hblk hm hB (hnF g hblk) h6 ⟨fun i p => if i = k /\ j <= p /\ p < j + (a.eval y).cells.toList.length then (a.eval y).cells.toList.getD (p - j) undef else xs i p, ?_, fun i hi => ?_, fun i hi p hp => ?_, hnF⟩
 ·rw [List.length_set]
  have hst := flat_store xs els.length size k j (a.eval y).cells.toList hlt (by omega)
  refine ⟨Yal _ _ _, .inr ⟨g, cap, _, hv, hB, h7, hn, hmx, ?_, ?_⟩⟩
  ·simp only [List.size_toArray, ZlA, ZlT, ZlD, ZaL, hcs, hsz]
   omega
  ·refine Eq.trans ?_ hst
   rw [<- htk]
   have hcl : cur.toList.length = cap * size := by rw [ZaL]; exact hcs
   rw [hoff, <- hvl]
   apply List.ext_getElem?
   intro p
   by_cases hp : p < els.length * size
   ·rw [ZgT, if_pos hp, get3, get3]
    simp only [ZlT, hcl, ZgT, ZgO]
    rw [Nat.min_eq_left (show k * size + j <= cap * size by omega), Nat.min_eq_left (show k * size + j <= min (els.length * size) (cap * size) by omega)]
    by_cases c1 : p < k * size + j
    ·simp [c1, hp]
    ·by_cases c2 : p < k * size + j + (a.eval y).cells.toList.length
     ·simp only [c1, c2, if_false, if_true]
     ·simp only [c1, c2, if_false]
      rw [if_pos (by omega)]
   ·rw [List.getElem?_eq_none (by rw [ZlT]; omega), List.getElem?_eq_none (by
     simp only [ZlA, ZlT, ZlD, hcl]
     omega)]
 ·rw [List.getElem_set]
  split
  ·rw [ZlA, ZlA, ZlT, ZlD, hl]
   have := hlen k hlt
   rw [hde] at this
   omega
  ·exact hlen i _
 ·rw [List.length_set] at hi
  have hk2 := hlen k hlt
  rw [hde] at hk2
  simp only [List.getElem_set] at hp ⊢
  by_cases hik : k = i
  ·subst hik
   simp only [if_true] at hp ⊢
   rw [ZlA, ZlA, ZlT, ZlD, hl] at hp
   by_cases c1 : j <= p /\ p < j + (a.eval y).cells.toList.length
   ·simp only [c1, and_self, if_true]
    have hpl : p - j < (a.eval y).cells.toList.length := by omega
    rw [ZgD, ZgE hpl, Option.getD_some]
    refine ⟨h4 _ (ZgM _), keep ?_⟩
    rw [ZgL (by simp; omega), ZgR (by simp; omega)]
    have e1 : (List.take j ds).length = j := by simp; omega
    simp only [e1]
    exact h3.2 _ _ _
   ·rw [if_neg (by rintro ⟨_, h8, h9⟩; exact c1 ⟨h8, h9⟩)]
    have h10 := hrep k hlt p (by rw [hde]; omega)
    simp only [hde] at h10
    refine ⟨h10.1, keep ?_⟩
    by_cases c2 : p < j
    ·rw [ZgL (by simp; omega), ZgL (by simp; omega), List.getElem_take]
     exact h10.2
    ·rw [ZgR (by simp; omega), List.getElem_drop]
     have e1 : (List.take j ds ++ d.parts).length = j + len := by simp; omega
     simp only [e1]
     have e2 : j + len + (p - (j + len)) = p := by omega
     simp only [e2]
     exact h10.2
  ·simp only [hik, if_false] at hp ⊢
   rw [if_neg (by rintro ⟨h8, _⟩; exact hik h8.symm)]
   exact ⟨(hrep i hi p hp).1, keep (hrep i hi p hp).2⟩
theorem R0.newRow {cx : Cx} {F : Nat -> Prop} {ρ : Nat -> Value} {e : Env} {σ : Obs} {a : Act} {w w' : World} (hr : R0 cx F ρ e σ a w) {id dst el size : Nat} {els : List (List D)} {v : Value} (hid : ∀ p ∈ σ, p.1 ≠ id) (hd : dst < cx.N) (hbel : Below w.heap.size w w')
 (hob : ObOk cx.B F (fun j => if j = id then v else ρ j) w' id (.row el size els)) (hnew : ∀ g, blk v = some g -> w.heap.size <= g) (hfx : cx.free id = true) :
 ∃ ρ', R0 cx F ρ' ((e.kill id).put (some dst) (.own id)) ((id, .row el size els) :: Obs.kill id σ) (a.put (some dst) v) w' := by
 refine ⟨fun j => if j = id then v else ρ j, ?_⟩
 have hE : Ext F w F w' := Ext.of_below hr.lt hbel
 have h2 := hr.turn (ρ' := fun j => if j = id then v else ρ j) (id := id) (ob := .row el size els) (row := none) (w' := w') (F' := F) (fun j hj => by simp [hj])
  ⟨hE.below.os, hE.below.tape, hE.below.output, hE.below.size, fun k hk _ => hE.below.block k hk⟩ hfx (fun g hg => by simp at hg) (fun b hb => hb) (fun b hb => .inl hb) hE.lt hob
  (fun g hg => by rw [if_pos rfl] at hg; exact .inr (hnew g hg)) ((id, .row el size els) :: Obs.kill id σ) (fun p hp => by
   cases hp with
   | head => exact .inl rfl
   | tail _ hp => obtain ⟨q, hq, rfl⟩ := Obs.mem_kill hp; exact .inr ⟨q, hq, hid q hq, rfl⟩)
 exact h2.put (o := ⟨some dst, .ready 0, 0, "", #[], none⟩) (v := v) (s := .own id) (Ext.refl h2.lt) (by
  have := RepS.own (F := F) (ρ := fun j => if j = id then v else ρ j) (w := w') id
  simpa using this) (by simpa [DstOk, Nat.blt_eq] using hd)
theorem AOps.makeI {t el : TypeId} {l c : Operand} {size bytes dst : Nat} {z : Value} {m : Int} (id n : Nat) (hg : o.guard = none) (ht : o.dst = some dst) (hdn : Nat.blt dst cx.N = true) (ho : o.op = .makeSlice t l c) (T : ElemTy cx.P t el size bytes z)
 (hl : e.ev l = .d (.v (.int .i64 m))) (hc : e.ev c = .d (.v (.int .i64 m))) (hmn : m = n) (hb : bytes * n <= 281474976710656) (hn : n <= 9223372036854775807) (h1 : z.cells.toList.all (·.oneCell') = true) (hid : Obs.fresh id σ = true)
 (k : AOps cx ops rest ((e.kill id).put (some dst) (.own id)) ((id, .row el size (List.replicate n (z.cells.toList.map D.v))) :: Obs.kill id σ) Q) (hfx : cx.free id = true := by rfl) : AOps cx ops (o :: rest) e σ Q := by
 subst hmn
 exact .make id hg ht hdn ho T hl hc hb hn h1 hid k hfx
end
section
variable {P : Program} {B : Nat} {ops : Array Oper} {o : Oper} {e : Env} {σ : Obs}
structure ArrT (P : Program) (t el n size : Nat) : Prop where
 ht : P.underlying t = some (.array n el)
 hs : ∀ w, (sizeOf el).run P w = .ok size w
theorem ArrT.of {t el n size : Nat} (h : P.underlying t = some (.array n el)) (h2 : (P.info? el).map (·.size) = some size) : ArrT P t el n size := ⟨h, SizeT.of h2⟩
end
def ownB (σ : Obs) (ρ : Nat -> Value) (b : Nat) : Prop := ∃ p ∈ σ, blk (ρ p.1) = some b
def RepSL (F : Nat -> Prop) (ρ : Nat -> Value) (w : World) (vs : List Value) (ss : List S) : Prop := vs.length = ss.length /\ ∀ i (h1 : i < vs.length) (h2 : i < ss.length), RepS F ρ w vs[i] ss[i]
structure XEnd (B : Nat) (F : Nat -> Prop) (ρ : Nat -> Value) (w : World) (σ : Obs) (F' : Nat -> Prop) (ρ' : Nat -> Value) (w' : World) (σ' : Obs) (chg : Nat -> Bool) : Prop where
 up : ∀ b, F b -> F' b
 new : ∀ b, F' b -> F b \/ (w.heap.size <= b \/ ownB σ ρ b)
 lt : ∀ b, F' b -> b < w'.heap.size
 kept : Kept (fun b => w.heap.size <= b \/ ownB σ ρ b) w w'
 obs : ObsOk B F' ρ' w' σ'
 own : ∀ p ∈ σ', ∀ g, blk (ρ' p.1) = some g -> w.heap.size <= g \/ ownB σ ρ g
 same : ∀ i, chg i = false -> ρ' i = ρ i
def XCall (P : Program) (f : FuncId) (ss : List S) (σ σ' : Obs) (chg : Nat -> Bool) (d : D) : Prop := Enters P f /\
 ∀ (F : Nat -> Prop) (ρ : Nat -> Value) (B : Nat) (w : World) (vs : List Value), (∀ b, F b -> b < w.heap.size) -> B <= w.heap.size -> ObsOk B F ρ w σ -> RepSL F ρ w vs ss ->
  Calls P f vs.toArray w fun e w' => ∃ v F' ρ', e = .returned v /\ Rep F' w' v d /\ XEnd B F ρ w σ F' ρ' w' σ' chg
theorem ObOk.more {B : Nat} {F F2 : Nat -> Prop} {ρ : Nat -> Value} {w : World} {id : Nat} {o : Ob} (h : ObOk B F ρ w id o) (hF : ∀ b, F b -> b < w.heap.size) (hu : ∀ b, F b -> F2 b) (hn : ∀ g, blk (ρ id) = some g -> ¬ F2 g) : ObOk B F2 ρ w id o := by
 cases o with
 | row e size els =>
  obtain ⟨xs, h1, h2, h3, h4⟩ := h
  exact ⟨xs, h1, h2, fun k hk j hj => ⟨(h3 k hk j hj).1, (h3 k hk j hj).2.mono hu fun _ _ => J⟩, hn⟩
 | cells ss =>
  obtain ⟨g, e, cs, h1, h2, h3, h4, h5, h6⟩ := h
  exact ⟨g, e, cs, h1, h2, hn g (by rw [h1]; rfl), h4, h5, fun j hj hj' => ⟨(h6 j hj hj').1, RepS.turn (row := none) (h6 j hj hj').2 hF (fun g hg => by simp at hg) ⟨rfl, rfl, rfl, ZnR _, fun _ _ _ => rfl⟩ hu⟩⟩
 | cellsT ty0 ss =>
  obtain ⟨g, cs, h1, h2, h3, h4, h5, h6⟩ := h
  exact ⟨g, cs, h1, h2, hn g (by rw [h1]; rfl), h4, h5, fun j hj hj' => ⟨(h6 j hj hj').1, RepS.turn (row := none) (h6 j hj hj').2 hF (fun g hg => by simp at hg) ⟨rfl, rfl, rfl, ZnR _, fun _ _ _ => rfl⟩ hu⟩⟩
 | map M =>
  obtain ⟨g, es, cl, h1, h2, h3, h4, h5, h6⟩ := h
  exact ⟨g, es, cl, h1, h2, hn g (by rw [h1]; rfl), h4, h5, fun j hj hj' => ⟨(h6 j hj hj').1, (h6 j hj hj').2.mono hu fun _ _ => rfl⟩⟩
 | rowS e size els =>
  obtain ⟨xs, h1, h2, h3, h4⟩ := h
  exact ⟨xs, h1, h2, fun k hk j hj => ⟨(h3 k hk j hj).1, RepS.turn (row := none) (h3 k hk j hj).2 hF (fun g hg => by simp at hg) ⟨rfl, rfl, rfl, ZnR _, fun _ _ _ => rfl⟩ hu⟩, hn⟩
 | bts l =>
  obtain ⟨g, e, cap, cur, fz, h1, h2, h3, h4, h5⟩ := h
  exact ⟨g, e, cap, cur, fz, h1, h2, hn g (by rw [h1]; rfl), h4, h5⟩
 | val ss =>
  obtain ⟨cs, h1, h2, h3⟩ := h
  exact ⟨cs, h1, h2, fun j hj hj' => ⟨(h3 j hj hj').1, RepS.turn (row := none) (h3 j hj hj').2 hF (fun g hg => by simp at hg) ⟨rfl, rfl, rfl, ZnR _, fun _ _ _ => rfl⟩ hu⟩⟩
 | iter M done =>
  obtain ⟨g, b, es, cl, sn, c0, h1, h2, h3, h4, h5, h6, h7, h8⟩ := h
  exact ⟨g, b, es, cl, sn, c0, h1, h2, hn g (by rw [h1]; rfl), h4, hu b h5, h6, h7, fun j hj hj' => ⟨(h8 j hj hj').1, (h8 j hj hj').2.mono hu fun _ _ => rfl⟩⟩
def Env.argsS : Nat -> List S -> Env
 | _, [] => fun _ => .d .any
 | k, d :: ds => fun u => match Nat.beq u k with | true => d | false => Env.argsS (k + 1) ds u
theorem Env.argsS_get : ∀ (ds : List S) (k t : Nat), (h : t < ds.length) -> Env.argsS k ds (k + t) = ds[t]
 | [], _, _, h => absurd h (by simp)
 | d :: ds, k, t, h => by
  cases t with
  | zero => simp [Env.argsS]
  | succ t =>
   have hb : Nat.beq (k + (t + 1)) k = false := by rw [Bool.eq_false_iff]; intro hh; have := Nat.eq_of_beq_eq_true hh; omega
   simp only [Env.argsS, hb]
   have := Env.argsS_get ds (k + 1) t (by simpa using h)
   rw [show k + (t + 1) = k + 1 + t by omega, this]
   simp
theorem Env.argsS_out : ∀ (ds : List S) (k t : Nat), (h : ds.length <= t) -> Env.argsS k ds (k + t) = .d .any
 | [], _, _, _ => rfl
 | d :: ds, k, t, h => by
  have hb : Nat.beq (k + t) k = false := by rw [Bool.eq_false_iff]; intro hh; have := Nat.eq_of_beq_eq_true hh; simp at h; omega
  simp only [Env.argsS, hb]
  have := Env.argsS_out ds (k + 1) (t - 1) (by simp at h; omega)
  rw [show k + t = k + 1 + (t - 1) by simp at h; omega, this]
def RetDX (e : Env) (σ σ' : Obs) (t : Nat) (d : D) : Prop := (∃ d0, e t = .d d0 /\ Le d0 d) \/ ∃ id ee size els, e t = .own id /\ (id, Ob.row ee size els) ∈ σ /\ (∀ q ∈ σ', q.1 ≠ id) /\ d = .sl els
theorem RetDX.eq {e : Env} {σ σ' : Obs} {t : Nat} {d d' : D} (h : e t = .d d) (hd : d = d') : RetDX e σ σ' t d' := .inl ⟨d, h, Le.of_eq hd⟩
theorem RetDX.own {e : Env} {σ σ' : Obs} {t id ee size : Nat} {els els' : List (List D)} (h : e t = .own id) (hm : (id, Ob.row ee size els) ∈ σ) (hn : Obs.fresh id σ' = true) (hd : els = els') : RetDX e σ σ' t (.sl els') :=
 .inr ⟨id, ee, size, els, h, hm, Obs.fresh_spec hn, by rw [hd]⟩
def RetLX (e : Env) (σ σ' : Obs) : List Nat -> List D -> Prop
 | [], [] => True
 | t :: ts, d :: ds => RetDX e σ σ' t d /\ RetLX e σ σ' ts ds
 | _, _ => False
def AllIn (σ : Obs) : Obs -> Prop
 | [] => True
 | p :: l => p ∈ σ /\ AllIn σ l
theorem AllIn.mem {σ : Obs} : ∀ {l : Obs}, AllIn σ l -> ∀ p ∈ l, p ∈ σ
 | [], _, p, hp => by cases hp
 | x :: l, h, p, hp => by
  cases hp with
  | head => exact h.1
  | tail _ hp => exact h.2.mem p hp
def RetX (ts : List Nat) (ds : List D) (σ' : Obs) : Post := fun ex e σ => match ex with
 | .ret => RetLX e σ σ' ts ds /\ AllIn σ σ'
 | .normal => RetLX e σ σ' ts ds /\ AllIn σ σ'
 | _ => False
def endFX (F : Nat -> Prop) (ρ : Nat -> Value) (σ σ' : Obs) : Nat -> Prop := fun b => F b \/ ∃ p ∈ σ, (∀ q ∈ σ', q.1 ≠ p.1) /\ blk (ρ p.1) = some b
theorem RetDX.rep {cx : Cx} {F : Nat -> Prop} {ρ : Nat -> Value} {e : Env} {σ σ' : Obs} {a : Act} {w : World} (h : R0 cx F ρ e σ a w) {t : Nat} {d : D} (hd : RetDX e σ σ' t d) : Rep (endFX F ρ σ σ') w (a.tmps.getD t undef) d := by
 have hx := h.env t
 rcases hd with ⟨d0, h1, h2⟩ | ⟨id, ee, size, els, h1, h2, h3, rfl⟩
 ·rw [h1] at hx
  exact h2 _ _ _ ((Yao hx).mono (fun b hb => .inl hb) fun _ _ => J)
 ·rw [h1] at hx
  generalize a.tmps.getD t undef = x at hx
  cases hx
  exact h.rep_row h2 (fun b hb => .inl hb) (fun g hg => .inr ⟨_, h2, h3, hg⟩)
theorem RetLX.rep {cx : Cx} {F : Nat -> Prop} {ρ : Nat -> Value} {e : Env} {σ σ' : Obs} {a : Act} {w : World} (h : R0 cx F ρ e σ a w) : ∀ {ts : List Nat} {ds : List D}, RetLX e σ σ' ts ds -> RepL (endFX F ρ σ σ') w (ts.map fun t => a.tmps.getD t undef) ds
 | [], [], _ => RepL.nil
 | _ :: _, _ :: _, hd => RepL.cons (hd.1.rep h) (RetLX.rep h hd.2)
 | [], _ :: _, hd => hd.elim
 | _ :: _, [], hd => hd.elim
theorem xcall_of {P : Program} {f : FuncId} {fn : Func} {c : Code} {n : Nat} {ss : List S} {σ σ' : Obs} {chg : Nat -> Bool} {ds' : List D} (hf : P.funcs[f]? = some fn) (hb : fn.body = some c) (hn : (fn.name == "runtime.NumGoroutine") = false) (hN : fn.ntmps = n)
 (ts : List Nat) (hr : fn.results = (ts.map ResultVar.tmp).toArray) (hle' : Nat.ble ss.length n = true)
 (h : ∀ B w0 F0 fr ρ0, AWP ⟨P, n, B, w0, F0, fr, fun i => !(chg i), ρ0⟩ c (Env.argsS 0 ss) σ (RetX ts ds' σ')) : XCall P f ss σ σ' chg (retOf ds') := by
 have hle : ss.length <= n := ZnB hle'
 refine ⟨Enters.of hf hn (by rw [hb]; rfl), fun F ρ B w vs hF hB hσ hv => ?_⟩
 refine calls_of_wp hf hb ?_
 have hR : R ⟨P, n, B, w, F, (fun b => w.heap.size <= b \/ ownB σ ρ b), fun i => !(chg i), ρ⟩ (Env.argsS 0 ss) σ { tmps := vs.toArray ++ Array.replicate (fn.ntmps - vs.toArray.size) undef, defers := [] } w := by
  refine ⟨F, ρ, ?_, J, hF, fun b hb => hb, fun b hb => .inl hb, Kept.refl _ _, hB, fun t => ?_, hσ, fun b hb => .inl hb, fun p hp g hg => .inr ⟨p, hp, hg⟩, fun i _ => J⟩
  ·simp [hN, hv.1]; omega
  ·by_cases ht : t < ss.length
   ·have := Env.argsS_get ss 0 t ht
    rw [Nat.zero_add] at this
    rw [this]
    have hvt : t < vs.length := by rw [hv.1]; exact ht
    have : (vs.toArray ++ Array.replicate (fn.ntmps - vs.toArray.size) undef).getD t undef = vs[t] := by
     rw [ZaD, Array.getElem?_append_left (by simpa using hvt)]
     simp [hvt]
    rw [this]
    exact hv.2 t hvt ht
   ·have := Env.argsS_out ss 0 t (by omega)
    rw [Nat.zero_add] at this
    rw [this]
    exact .d (.any _)
 refine wp_mono (h _ _ _ _ _ _ _ hR) ?_
 rintro ex a w' ⟨e', σe, hq, F', ρ', hr'⟩
 have hres : (results fn a.tmps).run P w' = .ok (match ts.map fun t => a.tmps.getD t undef with | [x] => x | l => .tuple l.toArray) w' := by
  have key : ∀ (ts : List Nat), (List.mapM (fun r => match r with | .tmp t => pure (a.tmps.getD t undef) | .cell b t => do loadVar t (<- asAddr (a.tmps.getD b undef))) (ts.map ResultVar.tmp) : Sem (List Value)).run P w' = .ok (ts.map fun t => a.tmps.getD t undef) w' := by
   intro ts
   induction ts with
   | nil => rfl
   | cons t ts ih =>
    rw [List.map_cons, List.mapM_cons, Sem.run_bind]
    simp only [Sem.run_pure, Result.andThen_ok, Sem.run_bind, ih, List.map_cons]
  unfold results
  rw [hr, Sem.run_bind]
  have h2 : (Array.mapM (fun r => match r with | ResultVar.tmp t => pure (a.tmps.getD t undef) | ResultVar.cell b t => do loadVar t (<- asAddr (a.tmps.getD b undef))) (ts.map ResultVar.tmp).toArray : Sem (Array Value)).run P w' = .ok (ts.map fun t => a.tmps.getD t undef).toArray w' := by
   rw [List.mapM_toArray, Sem.run_map, key]
   rfl
  have h3 := h2
  refine (congrArg (fun r => Result.andThen r _) h3).trans ?_
  simp only [Result.andThen_ok]
  rcases ts with _ | ⟨t, _ | ⟨t2, ts⟩⟩ <;> rfl
 have hends : RetLX e' σe σ' ts ds' /\ AllIn σe σ' -> bodyPost P fn (fun e w' => ∃ v F' ρ', e = .returned v /\ Rep F' w' v (retOf ds') /\ XEnd B F ρ w σ F' ρ' w' σ' chg) .ret a w' := by
  rintro ⟨hq, hin⟩
  have hl := hq.rep hr'
  have hin := hin.mem
  refine ⟨hr'.defers, _, hres, _, endFX F' ρ' σe σ', ρ', J, ?_, ?_⟩
  ·generalize (ts.map fun t => a.tmps.getD t undef) = vs' at hl
   obtain ⟨h1, h2⟩ := hl
   rcases ds' with _ | ⟨d, _ | ⟨d2, ds'⟩⟩
   ·have : vs' = [] := List.eq_nil_of_length_eq_zero h1
    subst this
    exact .tup [] [] rfl (fun i h1 => absurd h1 (by simp))
   ·rcases vs' with _ | ⟨x, _ | ⟨y, vs'⟩⟩ <;> simp at h1
    exact h2 0 (by simp) (by simp)
   ·rcases vs' with _ | ⟨x, _ | ⟨y, vs'⟩⟩
    ·simp at h1
    ·simp at h1
    ·exact .tup _ _ h1 h2
  ·have hlt : ∀ b, endFX F' ρ' σe σ' b -> b < w'.heap.size := by
    rintro b (hb | ⟨p, hp, _, hb⟩)
    ·exact hr'.lt b hb
    ·exact ((hr'.obs.ok p hp).blk_lt hb).2
   refine ⟨fun b hb => .inl (hr'.base b hb), ?_, hlt, hr'.below, ⟨fun p hp => ?_, fun p hp q hq => hr'.obs.apart p (hin p hp) q (hin q hq), fun p hp q hq => hr'.obs.uniq p (hin p hp) q (hin q hq)⟩, fun p hp => hr'.kown p (hin p hp), fun i hi => hr'.fixed i (by show (!(chg i)) = true; rw [hi]; rfl)⟩
   ·rintro b (hb | ⟨p, hp, _, hb⟩)
    ·exact hr'.new b hb
    ·exact .inr (hr'.kown p hp b hb)
   ·refine (hr'.obs.ok p (hin p hp)).more hr'.lt (fun b hb => .inl hb) ?_
    rintro g hg (hf | ⟨q, hq, hne, hb⟩)
    ·exact (hr'.obs.ok p (hin p hp)).nF hg hf
    ·exact hr'.obs.apart p (hin p hp) q hq (hne p hp) g hg hb
 cases ex with
 | ret => exact hends hq
 | normal => exact hends hq
 | exit id => exact hq.elim
 | goto l => exact hq.elim
 | panic c => exact hq.elim
 | outgrown => exact hq.elim
def S.killP (c : Nat -> Bool) : S -> S
 | .own i => match c i with | true => .d .any | false => .own i
 | .ptr i off => match c i with | true => .d .any | false => .ptr i off
 | .d x => .d x
 | .clo f caps => match Cap.anyP c caps with | true => .d .any | false => .clo f caps
def Env.killP (c : Nat -> Bool) (e : Env) : Env := fun t => (e t).killP c
def Ob.killP (c : Nat -> Bool) : Ob -> Ob
 | .row e size els => .row e size els
 | .cells ss => .cells (ss.map (S.killP c))
 | .cellsT e ss => .cellsT e (ss.map (S.killP c))
 | .map M => .map M
 | .rowS e size els => .rowS e size (els.map fun ss => ss.map (S.killP c))
 | .bts l => .bts l
 | .val ss => .val (ss.map (S.killP c))
 | .iter M done => .iter M done
def Obs.killP (c : Nat -> Bool) : Obs -> Obs
 | [] => []
 | p :: l => (p.1, p.2.killP c) :: Obs.killP c l
def Obs.dels : Obs -> Obs -> Obs
 | [], σ => σ
 | p :: l, σ => Obs.dels l (Obs.del p.1 σ)
def Obs.join : Obs -> Obs -> Obs
 | [], σ => σ
 | p :: l, σ => p :: Obs.join l σ
def Obs.allIds (c : Nat -> Bool) : Obs -> Bool
 | [] => true
 | p :: l => c p.1 && Obs.allIds c l
theorem Obs.allIds_mem {c : Nat -> Bool} : ∀ {σ : Obs}, Obs.allIds c σ = true -> ∀ p ∈ σ, c p.1 = true
 | [], _, p, hp => by cases hp
 | x :: l, h, p, hp => by
  simp only [Obs.allIds, ZbA] at h
  cases hp with
  | head => exact h.1
  | tail _ hp => exact Obs.allIds_mem h.2 p hp
theorem Obs.mem_join {a b : Obs} {p : Nat × Ob} : p ∈ Obs.join a b -> p ∈ a \/ p ∈ b := by
 induction a with
 | nil => exact fun h => .inr h
 | cons x l ih =>
  intro h
  cases h with
  | head => exact .inl (.head _)
  | tail _ h => exact (ih h).imp (.tail _) id
theorem Obs.mem_killP {c : Nat -> Bool} : ∀ {σ : Obs} {p : Nat × Ob}, p ∈ Obs.killP c σ -> ∃ q ∈ σ, p = (q.1, q.2.killP c)
 | [], _, h => by cases h
 | x :: l, p, h => by
  unfold Obs.killP at h
  cases h with
  | head => exact ⟨x, by simp, rfl⟩
  | tail _ h => obtain ⟨q, hq, he⟩ := Obs.mem_killP h; exact ⟨q, List.mem_cons_of_mem _ hq, he⟩
theorem Obs.mem_dels : ∀ {l σ : Obs} {p : Nat × Ob}, p ∈ Obs.dels l σ -> p ∈ σ /\ ∀ q ∈ l, p.1 ≠ q.1
 | [], _, _, h => ⟨h, fun q hq => by cases hq⟩
 | x :: l, σ, p, h => by
  obtain ⟨h1, h2⟩ := Obs.mem_dels (l := l) h
  obtain ⟨h3, h4⟩ := Obs.mem_del h1
  refine ⟨h3, fun q hq => ?_⟩
  cases hq with
  | head => exact h4
  | tail _ hq => exact h2 q hq
theorem RepS.over {F F' : Nat -> Prop} {ρ ρ' : Nat -> Value} {w w' : World} {x : Value} {s : S} {chg : Nat -> Bool} (h : RepS F ρ w x s) (hu : ∀ b, F b -> F' b) (hw : ∀ b, F b -> w'.heap[b]? = w.heap[b]?) (hρ : ∀ i, chg i = false -> ρ' i = ρ i) : RepS F' ρ' w' x (s.killP chg) := by
 cases h with
 | d h => exact .d (h.mono hu hw)
 | own i =>
  cases hb : chg i with
  | true => simp only [S.killP, hb]; exact .d (.any _)
  | false => simp only [S.killP, hb]; rw [<- hρ i hb]; exact .own i
 | ptr i off g h =>
  cases hb : chg i with
  | true => simp only [S.killP, hb]; exact .d (.any _)
  | false => simp only [S.killP, hb]; exact .ptr i off g (by rw [hρ i hb]; exact h)
 | clo f cs caps h =>
  cases hb : Cap.anyP chg caps with
  | true => simp only [S.killP, hb]; exact .d (.any _)
  | false => simp only [S.killP, hb]; exact .clo f cs caps (h.to chg (fun _ _ h => h.mono hu hw) hρ hb)
theorem ObOk.over {B : Nat} {F F' : Nat -> Prop} {ρ ρ' : Nat -> Value} {w w' : World} {id : Nat} {o : Ob} {chg : Nat -> Bool} (h : ObOk B F ρ w id o) (hid : chg id = false) (hu : ∀ b, F b -> F' b) (hw : ∀ b, F b -> w'.heap[b]? = w.heap[b]?) (hρ : ∀ i, chg i = false -> ρ' i = ρ i)
 (hg : ∀ g, blk (ρ id) = some g -> w'.heap[g]? = w.heap[g]? /\ ¬ F' g) : ObOk B F' ρ' w' id (o.killP chg) := by
 cases o with
 | row e size els =>
  obtain ⟨xs, h1, h2, h3, h4⟩ := h
  refine ⟨xs, ?_, h2, fun k hk j hj => ⟨(h3 k hk j hj).1, (h3 k hk j hj).2.mono hu hw⟩, fun g hg' => (hg g (by rw [<- hρ id hid]; exact hg')).2⟩
  rw [hρ id hid]
  refine ⟨h1.1, ?_⟩
  rcases h1.2 with h5 | ⟨g, cap, cur, h5, h6, h7, h8⟩
  ·exact .inl h5
  ·refine .inr ⟨g, cap, cur, h5, h6, ?_, h8⟩
   rw [(hg g (by rw [h5]; rfl)).1]
   exact h7
 | cells ss =>
  obtain ⟨g, e, cs, h1, h2, h3, h4, h5, h6⟩ := h
  have hgg := hg g (by rw [h1]; rfl)
  refine ⟨g, e, cs, by rw [hρ id hid]; exact h1, h2, hgg.2, by rw [hgg.1]; exact h4, by simp [h5], fun j hj hj' => ⟨(h6 j hj (by simpa using hj')).1, ?_⟩⟩
  rw [ZgP]
  exact (h6 j hj (by simpa using hj')).2.over hu hw hρ
 | cellsT ty0 ss =>
  obtain ⟨g, cs, h1, h2, h3, h4, h5, h6⟩ := h
  have hgg := hg g (by rw [h1]; rfl)
  refine ⟨g, cs, by rw [hρ id hid]; exact h1, h2, hgg.2, by rw [hgg.1]; exact h4, by simp [h5], fun j hj hj' => ⟨(h6 j hj (by simpa using hj')).1, ?_⟩⟩
  rw [ZgP]
  exact (h6 j hj (by simpa using hj')).2.over hu hw hρ
 | map M =>
  obtain ⟨g, es, cl, h1, h2, h3, h4, h5, h6⟩ := h
  have hgg := hg g (by rw [h1]; rfl)
  exact ⟨g, es, cl, by rw [hρ id hid]; exact h1, h2, hgg.2, by rw [hgg.1]; exact h4, h5, fun j hj hj' => ⟨(h6 j hj hj').1, (h6 j hj hj').2.mono hu hw⟩⟩
 | rowS e size els =>
  obtain ⟨xs, h1, h2, h3, h4⟩ := h
  refine ⟨xs, ?_, fun k hk => by rw [ZgP, ZlM]; exact h2 k (by simpa using hk), fun k hk j hj => ?_, fun g hg' => (hg g (by rw [<- hρ id hid]; exact hg')).2⟩
  ·rw [hρ id hid, ZlM]
   refine ⟨h1.1, ?_⟩
   rcases h1.2 with h5 | ⟨g, cap, cur, h5, h6, h7, h8⟩
   ·exact .inl h5
   ·refine .inr ⟨g, cap, cur, h5, h6, ?_, h8⟩
    rw [(hg g (by rw [h5]; rfl)).1]
    exact h7
  ·have hk' : k < els.length := by simpa using hk
   have hj' : j < els[k].length := by simpa using hj
   simp only [ZgP]
   exact ⟨(h3 k hk' j hj').1, (h3 k hk' j hj').2.over hu hw hρ⟩
 | bts l =>
  obtain ⟨g, e, cap, cur, fz, h1, h2, h3, h4, h5⟩ := h
  have hgg := hg g (by rw [h1]; rfl)
  exact ⟨g, e, cap, cur, fz, by rw [hρ id hid]; exact h1, h2, hgg.2, by rw [hgg.1]; exact h4, h5⟩
 | val ss =>
  obtain ⟨cs, h1, h2, h3⟩ := h
  refine ⟨cs, by rw [hρ id hid]; exact h1, by simp [h2], fun j hj hj' => ⟨(h3 j hj (by simpa using hj')).1, ?_⟩⟩
  rw [ZgP]
  exact (h3 j hj (by simpa using hj')).2.over hu hw hρ
 | iter M done =>
  obtain ⟨g, b, es, cl, sn, c0, h1, h2, h3, h4, h5, h6, h7, h8⟩ := h
  have hgg := hg g (by rw [h1]; rfl)
  exact ⟨g, b, es, cl, sn, c0, by rw [hρ id hid]; exact h1, h2, hgg.2, by rw [hgg.1]; exact h4, hu b h5, by rw [hw b h5]; exact h6, h7, fun j hj hj' => ⟨(h8 j hj hj').1, (h8 j hj hj').2.mono hu hw⟩⟩
theorem ObsOk.sub {B : Nat} {F : Nat -> Prop} {ρ : Nat -> Value} {w : World} {σ σ' : Obs} (h : ObsOk B F ρ w σ) (hs : ∀ p ∈ σ', p ∈ σ) : ObsOk B F ρ w σ' :=
 ⟨fun p hp => h.ok p (hs p hp), fun p hp q hq => h.apart p (hs p hp) q (hs q hq), fun p hp q hq => h.uniq p (hs p hp) q (hs q hq)⟩
theorem R0.after {cx : Cx} {F F' : Nat -> Prop} {ρ ρ' : Nat -> Value} {e : Env} {σ σc σ' : Obs} {a : Act} {w w' : World} {chg : Nat -> Bool} (hr : R0 cx F ρ e σ a w) (hin : ∀ p ∈ σc, p ∈ σ) (hx : XEnd cx.B F ρ w σc F' ρ' w' σ' chg)
 (h1 : Obs.allIds (fun i => !(chg i)) (Obs.dels σc σ) = true) (h2 : Obs.allIds (fun i => Obs.allIds (fun j => !(Nat.beq i j)) (Obs.dels σc σ)) σ' = true) (h3 : ∀ i, chg i = true -> cx.fixp i = false) :
 R0 cx F' ρ' (e.killP chg) (Obs.join σ' (Obs.killP chg (Obs.dels σc σ))) a w' := by
 have hown : ∀ b, ownB σc ρ b -> cx.fr b /\ ¬ F b /\ b < w.heap.size := fun b ⟨p, hp, hb⟩ => ⟨hr.kown p (hin p hp) b hb, (hr.obs.ok p (hin p hp)).nF hb, ((hr.obs.ok p (hin p hp)).blk_lt hb).2⟩
 have hfr : ∀ b, (w.heap.size <= b \/ ownB σc ρ b) -> cx.fr b := fun b hb => by
  rcases hb with hb | hb
  ·exact hr.up _ (ZnT hr.below.size hb)
  ·exact (hown b hb).1
 have hw : ∀ b, F b -> w'.heap[b]? = w.heap[b]? := fun b hb => hx.kept.block b (hr.lt b hb) (fun hh => by
  rcases hh with hh | hh
  ·have := hr.lt b hb; omega
  ·exact (hown b hh).2.1 hb)
 have hrest : ∀ p ∈ Obs.dels σc σ, p ∈ σ /\ (∀ q ∈ σc, p.1 ≠ q.1) /\ chg p.1 = false := fun p hp => by
  obtain ⟨h4, h5⟩ := Obs.mem_dels hp
  have := Obs.allIds_mem h1 p hp
  exact ⟨h4, h5, by simpa using this⟩
 have hblk : ∀ p ∈ Obs.dels σc σ, ∀ g, blk (ρ p.1) = some g -> g < w.heap.size /\ ¬ ownB σc ρ g /\ ¬ F g := fun p hp g hg => by
  obtain ⟨h4, h5, _⟩ := hrest p hp
  exact ⟨((hr.obs.ok p h4).blk_lt hg).2, fun ⟨q, hq, hb⟩ => hr.obs.apart p h4 q (hin q hq) (h5 q hq) g hg hb, (hr.obs.ok p h4).nF hg⟩
 refine ⟨hr.size, hr.defers, hx.lt, fun b hb => hx.up b (hr.base b hb), fun b hb => ?_, ?_, ZnT hr.hB hx.kept.size, fun t => (hr.env t).over hx.up hw hx.same, ?_, hr.up, fun p hp g hg => ?_, fun i hi => ?_⟩
 ·rcases hx.new b hb with h4 | h4
  ·exact hr.new b h4
  ·exact .inr (hfr b h4)
 ·exact ⟨hx.kept.os.trans hr.below.os, hx.kept.tape.trans hr.below.tape, hx.kept.output.trans hr.below.output, ZnT hr.below.size hx.kept.size, fun k hk hf => by
   rw [hx.kept.block k (Nat.lt_of_lt_of_le hk hr.below.size) (fun hh => hf (hfr k hh)), hr.below.block k hk hf]⟩
 ·have hmix : ∀ p ∈ σ', ∀ q ∈ Obs.dels σc σ, p.1 ≠ q.1 /\ ∀ g, blk (ρ' p.1) = some g -> blk (ρ' q.1) ≠ some g := fun p hp q hq => by
   refine ⟨fun he => ?_, fun g hg hg2 => ?_⟩
   ·have := Obs.allIds_mem (Obs.allIds_mem h2 p hp) q hq
    rw [he] at this
    simp at this
   ·rw [hx.same _ (hrest q hq).2.2] at hg2
    obtain ⟨h4, h5, _⟩ := hblk q hq g hg2
    rcases hx.own p hp g hg with h6 | h6
    ·omega
    ·exact h5 h6
  refine ⟨fun p hp => ?_, fun p hp q hq hne g hg => ?_, fun p hp q hq he => ?_⟩
  ·rcases Obs.mem_join hp with hp | hp
   ·exact hx.obs.ok p hp
   ·obtain ⟨q, hq, rfl⟩ := Obs.mem_killP hp
    obtain ⟨h4, h5, h6⟩ := hrest q hq
    refine (hr.obs.ok q h4).over h6 hx.up hw hx.same fun g hg => ?_
    obtain ⟨h7, h8, h9⟩ := hblk q hq g hg
    have hnn : ¬ (w.heap.size <= g \/ ownB σc ρ g) := fun hh => by
     rcases hh with hh | hh
     ·omega
     ·exact h8 hh
    refine ⟨hx.kept.block g h7 hnn, fun hf => ?_⟩
    rcases hx.new g hf with h10 | h10
    ·exact h9 h10
    ·exact hnn h10
  ·rcases Obs.mem_join hp with hp | hp
   ·rcases Obs.mem_join hq with hq | hq
    ·exact hx.obs.apart p hp q hq hne g hg
    ·obtain ⟨q', hq', rfl⟩ := Obs.mem_killP hq
     exact (hmix p hp q' hq').2 g hg
   ·obtain ⟨p', hp', rfl⟩ := Obs.mem_killP hp
    rcases Obs.mem_join hq with hq | hq
    ·exact fun he => (hmix q hq p' hp').2 g he hg
    ·obtain ⟨q', hq', rfl⟩ := Obs.mem_killP hq
     simp only at hg hne ⊢
     rw [hx.same _ (hrest p' hp').2.2] at hg
     rw [hx.same _ (hrest q' hq').2.2]
     exact hr.obs.apart p' (hrest p' hp').1 q' (hrest q' hq').1 hne g hg
  ·rcases Obs.mem_join hp with hp | hp
   ·rcases Obs.mem_join hq with hq | hq
    ·exact hx.obs.uniq p hp q hq he
    ·obtain ⟨q', hq', rfl⟩ := Obs.mem_killP hq
     exact absurd he (hmix p hp q' hq').1
   ·obtain ⟨p', hp', rfl⟩ := Obs.mem_killP hp
    rcases Obs.mem_join hq with hq | hq
    ·exact absurd he.symm (hmix q hq p' hp').1
    ·obtain ⟨q', hq', rfl⟩ := Obs.mem_killP hq
     have := hr.obs.uniq p' (hrest p' hp').1 q' (hrest q' hq').1 he
     rw [this]
 ·rcases Obs.mem_join hp with hp | hp
  ·exact hfr g (hx.own p hp g hg)
  ·obtain ⟨q, hq, rfl⟩ := Obs.mem_killP hp
   simp only at hg
   rw [hx.same _ (hrest q hq).2.2] at hg
   exact hr.kown q (hrest q hq).1 g hg
 ·have : chg i = false := by
   cases hc : chg i with
   | false => rfl
   | true => rw [h3 i hc] at hi; simp at hi
  rw [hx.same i this]
  exact hr.fixed i hi
def ArgsS (e : Env) : List Operand -> List S -> Prop
 | [], [] => True
 | x :: xs, s :: ss => SLe (e.ev x) s /\ ArgsS e xs ss
 | _, _ => False
theorem ArgsS.nil {e : Env} : ArgsS e [] [] := trivial
theorem ArgsS.cons {e : Env} {x : Operand} {s : S} {xs : List Operand} {ss : List S} (h : SLe (e.ev x) s) (k : ArgsS e xs ss) : ArgsS e (x :: xs) (s :: ss) := ⟨h, k⟩
theorem ArgsS.rep {e : Env} {F : Nat -> Prop} {ρ : Nat -> Value} {w : World} {a : Act} (ha : ∀ t, RepS F ρ w (a.tmps.getD t undef) (e t)) : ∀ {xs : List Operand} {ss : List S}, ArgsS e xs ss -> RepSL F ρ w (xs.map a.eval) ss
 | [], [], _ => ⟨rfl, fun i h => absurd h (by simp)⟩
 | x :: xs, s :: ss, h => by
  have h1 := ArgsS.rep ha h.2
  refine ⟨by simp [h1.1], fun i h2 h3 => ?_⟩
  cases i with
  | zero => exact h.1 _ _ _ _ (YaC fun t _ => ha t)
  | succ i => exact h1.2 i (by simpa using h2) (by simpa using h3)
 | [], _ :: _, h => h.elim
 | _ :: _, [], h => h.elim
section
variable {cx : Cx} {ops : Array Oper} {o : Oper} {rest : List Oper} {e : Env} {σ : Obs} {Q : Post}
theorem AOps.callX {f : FuncId} {xs : List Operand} {ts : Array TypeId} {ss : List S} {σc σ' : Obs} {chg : Nat -> Bool} {d : D} (hg : o.guard = none) (hd : DstOk cx.N o)
 (ho : o.op = .call { callee := .value (.func f), args := xs.toArray, argTypes := ts }) (ha : ArgsS e xs ss) (h : XCall cx.P f ss σc σ' chg d) (hin : AllIn σ σc)
 (h1 : Obs.allIds (fun i => !(chg i)) (Obs.dels σc σ) = true) (h2 : Obs.allIds (fun i => Obs.allIds (fun j => !(Nat.beq i j)) (Obs.dels σc σ)) σ' = true) (h3 : ∀ i, chg i = true -> cx.fixp i = false)
 (k : AOps cx ops rest ((e.killP chg).put o.dst (.d d)) (Obs.join σ' (Obs.killP chg (Obs.dels σc σ))) Q) : AOps cx ops (o :: rest) e σ Q := by
 intro a w ⟨F, ρ, hr⟩
 have h4 := h.2 F ρ cx.B w _ hr.lt hr.hB (hr.obs.sub hin.mem) (ArgsS.rep hr.env ha)
 have h5 := h.1 (xs.map a.eval).toArray w
 have hx : (execOp a.eval o).run cx.P w = .ok (.enter f (xs.map a.eval).toArray) w := by
  unfold execOp
  simp only [ho, resolve, Deferred.ofValue, Act.eval, invoke, Sem.run_bind, Sem.run_pure, Result.andThen_ok]
  simpa using h5
 refine wpList_plain hg fun K hK => ?_
 unfold Oper.wp
 rw [hx]
 refine h4.mono fun _ w' ⟨v, F', ρ', he, hv, hE⟩ => ?_
 subst he
 exact hK _ _ (k _ _ ⟨F', ρ', (hr.after hin.mem hE h1 h2 h3).put (Ext.refl hE.lt) (.d hv) hd⟩)
end
section
variable {P : Program} {B : Nat} {ops : Array Oper} {o : Oper} {e : Env} {σ : Obs}
theorem AOp.nilCheckP {x : Operand} {id off : Nat} (ho : o.op = .nilCheck x) (hx : e.ev x = .ptr id off) : AOp P B ops o e σ (.ptr id off) := .value fun F ρ w a hF hr _ => by
 have h1 := hr x (by rw [ho]; simp [Op.operands])
 rw [hx] at h1
 refine ⟨a.eval x, F, w, ?_, h1, Ext.refl hF⟩
 unfold execOp
 simp only [ho]
 generalize a.eval x = v at h1
 cases h1
 rfl
end
def intD (n : Int) : List D := [.v (.int .i64 n)]
section
variable {P : Program} {B : Nat} {ops : Array Oper} {o : Oper} {e : Env} {σ : Obs}
end
end
section
open Go.ChangeShapes Go.WideShapes Go.ChangeAt Go.RowKit
theorem blk_append {H : Type} (l r : List (DataW H)) : Rows.uptoBulkAll (l ++ r) = Rows.uptoBulkAll l + Rows.uptoBulkAll r := by
 induction l with
 | nil => simp [Rows.uptoBulkAll]
 | cons x l ih => simp only [List.cons_append, Rows.uptoBulkAll, ih]; omega
def sumOf {α : Type} (B : α -> Nat) : List α -> Nat
 | [] => 0
 | x :: l => B x + sumOf B l
theorem sumOf_append {α : Type} (B : α -> Nat) (l r : List α) : sumOf B (l ++ r) = sumOf B l + sumOf B r := by
 induction l with
 | nil => simp [sumOf]
 | cons x l ih => simp only [List.cons_append, sumOf, ih]; omega
theorem cells?_all {w : World} {base n : Nat} {ad : Addr} {cs : List Value} (h : w.cells? base ad n = some cs) : cs.length = n /\ ∀ j (hj : j < cs.length), w.cell? (ad.add j) = some cs[j] := by
 unfold World.cells? at h
 split at h
 ·have hl := mapM_some_length h
  simp at hl
  refine ⟨hl, fun j hj => ?_⟩
  have h2 := mapM_some_get h j j (by rw [List.getElem?_range (by omega)])
  rw [h2, ZgE hj]
 ·cases h
abbrev allF (w : World) : Nat -> Prop := fun b => b < w.heap.size
structure Opens {α : Type} (P : Program) (t size : Nat) (enc : α -> List D) (ok : α -> Prop) (B : α -> Nat) : Prop where
 len : ∀ y, (enc y).length = size
 get : ∀ {H : Type} {encH : TypeId × Value -> H} {w : World} {n : Nat} {cs : List Value} {x : DataW H × List MemPlace}, DataW.trod encH P w 0 (fun _ => true) true n t cs = some x -> cs.length = size ->
  ∃ y, ok y /\ RepL (allF w) w cs (enc y) /\ (∀ u ∈ cs, u.oneCell' = true) /\ B y <= Rows.uptoBulk x.1
theorem Opens.map {α β : Type} {P : Program} {t size : Nat} {enc : α -> List D} {ok : α -> Prop} {B : α -> Nat} {enc' : β -> List D} {ok' : β -> Prop} {B' : β -> Nat} (O : Opens P t size enc ok B) (f : α -> β) (h : ∀ y, enc' (f y) = enc y) (hl : ∀ y, (enc' y).length = size) (ho : ∀ y, ok y -> ok' (f y)) (hb : ∀ y, B' (f y) <= B y) :
 Opens P t size enc' ok' B' :=
 ⟨hl, fun hx hc => by
  obtain ⟨y, h1, h2, h3, h4⟩ := O.get hx hc
  exact ⟨f y, ho y h1, by rw [h]; exact h2, h3, ZnT (hb y) h4⟩⟩
section
variable {P : Program} {t : Nat}
theorem opens_i64 (ht : P.underlying t = some (.int .i64)) : Opens P t 1 intD (fun n => -9223372036854775808 <= n /\ n <= 9223372036854775807) (fun _ => 1) :=
 ⟨fun _ => rfl, fun hx _ => by
  obtain ⟨n, rfl, rfl, h1⟩ := DataW.trod_int ht hx
  have h2 : -9223372036854775808 <= n /\ n <= 9223372036854775807 := by simpa [Lit.wf, IntKind.min, IntKind.max, IntKind.signed, IntKind.bits] using h1
  exact ⟨n, h2, RepL.cons (.v _) RepL.nil, fun u hu => by simp at hu; rw [hu]; rfl, by simp [Rows.uptoBulk]⟩⟩
def strD (s : ByteArray) : List D := [.v (.string s)]
theorem opens_str (ht : P.underlying t = some .string) : Opens P t 1 strD (fun s => s.size <= 9223372036854775807) (fun s => s.size + 1) :=
 ⟨fun _ => rfl, fun hx _ => by
  obtain ⟨s, rfl, rfl, h1⟩ := DataW.trod_string ht hx
  refine ⟨s, by unfold maxLen at h1; omega, RepL.cons (.v _) RepL.nil, fun u hu => by simp at hu; rw [hu]; rfl, ?_⟩
  simp only [Rows.uptoBulk, ZaL]
  exact ZnR _⟩
def slD {α : Type} (enc : α -> List D) (l : List α) : List D := [.sl (l.map enc)]
theorem opens_slice {α : Type} {e size : Nat} {enc : α -> List D} {ok : α -> Prop} {B : α -> Nat} (ht : P.underlying t = some (.slice e)) (hc : P.cellsOf e = size) (hs : 0 < size) (O : Opens P e size enc ok B) :
 Opens P t 1 (slD enc) (fun l => ∀ y ∈ l, ok y) (fun l => sumOf B l + 1) :=
 ⟨fun _ => rfl, fun {H encH w n cs x} hx _ => by
  rcases DataW.trod_slice ht hx with ⟨rfl, rfl⟩ | ⟨a, len, cap, elems, rest, n', _, rfl, rfl, _, hl, hm, hlen, hel, _, _⟩
  ·exact ⟨[], fun y hy => by simp at hy, RepL.cons .nil RepL.nil, fun u hu => by simp at hu; rw [hu]; rfl, by simp [sumOf, Rows.uptoBulk]⟩
  ·have each : ∀ m, m <= len -> ∃ l : List α, l.length = m /\ (∀ y ∈ l, ok y) /\ (∀ i (hi : i < l.length), ∃ cs : List Value, cs.length = size /\ (∀ j (hj : j < cs.length), w.cell? ((a.add (i * size)).add j) = some cs[j]) /\ RepL (allF w) w cs (enc l[i]) /\ ∀ u ∈ cs, u.oneCell' = true) /\
    sumOf B l <= Rows.uptoBulkAll ((elems.take m).map (·.1)) := by
    intro m
    induction m with
    | zero => intro _; exact ⟨[], rfl, fun y hy => by simp at hy, fun i hi => absurd hi (by simp), by simp [sumOf]⟩
    | succ m ih =>
     intro hm1
     obtain ⟨l, h1, h2, h3, h4⟩ := ih (by omega)
     have hme : m < elems.length := by omega
     have hh := hel m (by omega)
     rw [hc, ZgE hme, Option.bind_eq_some_iff] at hh
     obtain ⟨cs, hcs, htr⟩ := hh
     obtain ⟨hcl, hcg⟩ := cells?_all hcs
     obtain ⟨y, hy1, hy2, hy3, hy4⟩ := O.get htr hcl
     refine ⟨l ++ [y], by simp [h1], fun z hz => ?_, fun i hi => ?_, ?_⟩
     ·rw [List.mem_append] at hz
      rcases hz with hz | hz
      ·exact h2 z hz
      ·simp at hz; rw [hz]; exact hy1
     ·rw [ZlA, List.length_singleton] at hi
      by_cases hlt : i < l.length
      ·rw [ZgL hlt]; exact h3 i hlt
      ·have he : i = m := by omega
       subst he
       refine ⟨cs, hcl, hcg, ?_, hy3⟩
       rw [ZgR (by omega)]
       simpa using hy2
     ·rw [List.take_succ_eq_append_getElem hme, ZmA, blk_append, sumOf_append]
      simp only [sumOf, List.map_cons, List.map_nil, Rows.uptoBulkAll]
      omega
   obtain ⟨l, h1, h2, h3, h4⟩ := each len (ZnR _)
   have h6 : elems.take len = elems := List.take_of_length_le (by omega)
   rw [h6] at h4
   refine ⟨l, h2, RepL.cons ?_ RepL.nil, fun u hu => by simp at hu; rw [hu]; rfl, by simp only [Rows.uptoBulk]; omega⟩
   have hch : ∀ i : Nat, ∃ cs : List Value, ∀ (hi : i < l.length), cs.length = size /\ (∀ j (hj : j < cs.length), w.cell? ((a.add (i * size)).add j) = some cs[j]) /\ RepL (allF w) w cs (enc l[i]) /\ ∀ u ∈ cs, u.oneCell' = true := fun i => by
    by_cases hi : i < l.length
    ·obtain ⟨cs, h⟩ := h3 i hi; exact ⟨cs, fun _ => h⟩
    ·exact ⟨[], fun h => absurd h hi⟩
   let f : Nat -> List Value := fun i => Classical.choose (hch i)
   have hf : ∀ i (hi : i < l.length), (f i).length = size /\ (∀ j (hj : j < (f i).length), w.cell? ((a.add (i * size)).add j) = some (f i)[j]) /\ RepL (allF w) w (f i) (enc l[i]) /\ ∀ u ∈ f i, u.oneCell' = true := fun i hi => Classical.choose_spec (hch i) hi
   have hll : (l.map enc).length = len := by simp [h1]
   have := Rep.sl (F := allF w) (w := w) a cap size (l.map enc) (fun i j => (f i).getD j undef) (by omega) (by unfold maxLen at hm; omega) (fun h0 => by
    rw [ZlM] at h0
    obtain ⟨g1, g2, _⟩ := hf 0 h0
    have h7 := World.block_lt_of_cell? w _ (g2 0 (by omega))
    rw [Ybx, Ybx] at h7
    exact h7) (fun i hi => by rw [ZgP]; exact O.len _) (fun i j hi hj => by
    rw [ZlM] at hi
    obtain ⟨g1, g2, _⟩ := hf i hi
    rw [<- Ycc, g2 j (by omega), ZgD, ZgE (by omega), Option.getD_some]) (fun i j hi hj => by
    rw [ZlM] at hi
    obtain ⟨g1, _, _, g4⟩ := hf i hi
    rw [ZgD, ZgE (by omega), Option.getD_some]
    exact g4 _ (ZgM _)) (fun i hi j hj => by
    rw [ZlM] at hi
    obtain ⟨g1, _, g3, _⟩ := hf i hi
    simp only [ZgP] at hj ⊢
    have hj' : j < (f i).length := by rw [g3.1]; exact hj
    rw [ZgD, ZgE hj', Option.getD_some]
    exact g3.2 j hj' hj)
   rw [hll] at this
   exact this⟩
structure OpensF {α : Type} (P : Program) (fs : List (Nat × Nat × Nat)) (off total : Nat) (enc : α -> List D) (ok : α -> Prop) (B : α -> Nat) : Prop where
 len : ∀ y, off + (enc y).length = total
 get : ∀ {H : Type} {encH : TypeId × Value -> H} {w : World} {n : Nat} {cs : List Value} {xs : List (DataW H × List MemPlace)}, cs.length = total -> xs.length = fs.length ->
  (∀ (i : Nat) (f : Nat × Nat × Nat), fs[i]? = some f -> DataW.trod encH P w 0 (fun _ => true) true n f.1 ((cs.drop f.2.1).take f.2.2) = xs[i]?) -> ∃ y, ok y /\ RepL (allF w) w (cs.drop off) (enc y) /\ (∀ u ∈ cs.drop off, u.oneCell' = true) /\ B y <= Rows.uptoBulkAll (xs.map (·.1))
theorem OpensF.nil {total : Nat} : OpensF (α := Unit) P [] total total (fun _ => []) (fun _ => True) (fun _ => 0) :=
 ⟨fun _ => rfl, fun {H encH w n cs xs} hc _ _ => ⟨(), trivial, by rw [List.drop_eq_nil_of_le (by omega)]; exact RepL.nil, fun u hu => by rw [List.drop_eq_nil_of_le (by omega)] at hu; simp at hu, ZnZ _⟩⟩
theorem OpensF.cons {α β : Type} {ft off size total : Nat} {fs : List (Nat × Nat × Nat)} {enc : α -> List D} {ok : α -> Prop} {B : α -> Nat} {enc2 : β -> List D} {ok2 : β -> Prop} {B2 : β -> Nat} (O : Opens P ft size enc ok B) (R : OpensF P fs (off + size) total enc2 ok2 B2) :
 OpensF (α := α × β) P ((ft, off, size) :: fs) off total (fun y => enc y.1 ++ enc2 y.2) (fun y => ok y.1 /\ ok2 y.2) (fun y => B y.1 + B2 y.2) :=
 ⟨fun y => by have := R.len y.2; rw [ZlA, O.len]; omega, fun {H encH w n cs xs} hc hl h => by
  rcases xs with _ | ⟨x, xs⟩
  ·simp at hl
  have h0 := h 0 (ft, off, size) rfl
  simp only [List.getElem?_cons_zero] at h0
  obtain ⟨y2, k1, k2, k3, k4⟩ := R.get (encH := encH) (w := w) (n := n) (xs := xs) hc (by simpa using hl) (fun i f hf => by
   have := h (i + 1) f (by simpa using hf)
   simpa using this)
  have hle := R.len y2
  obtain ⟨y1, g1, g2, g3, g4⟩ := O.get h0 (by rw [ZlT, ZlD]; omega)
  have hsplit : cs.drop off = (cs.drop off).take size ++ cs.drop (off + size) := by
   rw [<- List.drop_drop]; exact (List.take_append_drop size (cs.drop off)).symm
  refine ⟨(y1, y2), ⟨g1, k1⟩, ?_, fun u hu => ?_, ?_⟩
  ·rw [hsplit]; exact g2.append k2
  ·rw [hsplit, List.mem_append] at hu
   rcases hu with hu | hu
   ·exact g3 u hu
   ·exact k3 u hu
  ·simp only [List.map_cons, Rows.uptoBulkAll]; omega⟩
def structF (P : Program) (t total : Nat) (fs : List (Nat × Nat × Nat)) : Bool :=
 match P.underlying t with
 | some (.struct gs) => gs.size == fs.length && (gs.toList.zip fs).all (fun (g, f) => g.type == f.1 && g.offset == f.2.1 && P.cellsOf g.type == f.2.2) && P.cellsOf t == total
 | _ => false
theorem opens_struct {α : Type} {total : Nat} {fs : List (Nat × Nat × Nat)} {enc : α -> List D} {ok : α -> Prop} {B : α -> Nat} (hb : structF P t total fs = true) (O : OpensF P fs 0 total enc ok B) : Opens P t total enc ok (fun y => B y + 1) :=
 ⟨fun y => by have := O.len y; omega, fun {H encH w n cs x} hx hc => by
  unfold structF at hb
  split at hb
  ·rename_i gs hu
   simp only [ZbA, beq_iff_eq, List.all_eq_true] at hb
   obtain ⟨⟨h1, h2⟩, h3⟩ := hb
   obtain ⟨xs, n', _, rfl, _, hl, hf⟩ := DataW.trod_struct hu hx
   obtain ⟨y, k1, k2, k3, k4⟩ := O.get (encH := encH) (w := w) (n := n') (cs := cs) (xs := xs) hc (by omega) (fun i f hf' => by
    have hi : i < fs.length := (ZgS.1 hf').1
    have hfe : fs[i] = f := (ZgS.1 hf').2
    have hi' : i < gs.size := by omega
    have h4 := h2 (gs[i], f) (by
     rw [List.mem_iff_getElem]
     exact ⟨i, by simp; omega, by simp [hfe]⟩)
    simp only at h4
    have h5 := hf i gs[i] (by simp [hi'])
    rw [h4.2, h4.1.1, h4.1.2] at h5
    exact h5)
   rw [List.drop_zero] at k2 k3
   exact ⟨y, k1, k2, k3, by simp only [Rows.uptoBulk]; omega⟩
  ·simp at hb⟩
theorem one_of {F : Nat -> Prop} {w : World} {v : Value} {d : D} (h : RepL F w v.cells.toList [d]) (hc : v.cells = #[v]) : Rep F w v d := by
 rw [hc] at h
 exact h.2 0 (by simp) (by simp)
theorem agg_of {F : Nat -> Prop} {w : World} {cs : Array Value} {ds : List D} (h : RepL F w (Value.agg cs).cells.toList ds) (h1 : ∀ u ∈ (Value.agg cs).cells.toList, u.oneCell' = true) : Rep F w (.agg cs) (.agg ds) := by
 have e : cs = cs.toList.toArray := by simp
 rw [e]
 exact .agg _ _ h.1 (fun i hi => h1 _ (ZgM hi)) h.2
theorem Opens.arg {α : Type} {size : Nat} {enc : α -> List D} {ok : α -> Prop} {B : α -> Nat} (O : Opens P t size enc ok B) {H : Type} {encH : TypeId × Value -> H} {w : World} {v : Value} {d : DataW H} {p : List MemPlace} (h : DataW.Trod encH P w 0 (fun _ => true) true t v d p) (hc : v.cells.size = size) :
 ∃ y, ok y /\ RepL (allF w) w v.cells.toList (enc y) /\ (∀ u ∈ v.cells.toList, u.oneCell' = true) /\ B y <= Rows.uptoBulk d := by
 obtain ⟨fuel, hf⟩ := h
 exact O.get hf (by rw [ZaL]; exact hc)
end
end
section
open Go.RowKit
def RCall (P : Program) (f : FuncId) (e size : Nat) (els els' : List (List D)) (ds : List D) (d : D) : Prop :=
 ∀ id, XCall P f (.own id :: ds.map S.d) [(id, .row e size els)] [(id, .row e size els')] (fun _ => false) d
theorem RCall.of1 {P : Program} {f : FuncId} {e size : Nat} {els els' : List (List D)} {ds : List D} {d : D} {chg : Nat -> Bool} (h : XCall P f (.own 1 :: ds.map S.d) [(1, .row e size els)] [(1, .row e size els')] chg d) (h1 : chg 1 = false) :
 RCall P f e size els els' ds d := by
 intro id
 refine ⟨h.1, fun F ρ B w vs hF hB hσ hv => ?_⟩
 have h2 : ObsOk B F (fun _ => ρ id) w [(1, .row e size els)] := by
  refine ⟨fun p hp => ?_, fun p hp q hq hne => ?_, fun p hp q hq _ => ?_⟩
  ·have : p = (1, .row e size els) := by simpa using hp
   subst this
   exact hσ.ok (id, .row e size els) (by simp)
  ·have : p = (1, .row e size els) := by simpa using hp
   have h2 : q = (1, .row e size els) := by simpa using hq
   rw [this, h2] at hne
   exact absurd J hne
  ·have : p = (1, .row e size els) := by simpa using hp
   have h2 : q = (1, .row e size els) := by simpa using hq
   rw [this, h2]
 have h3 : RepSL F (fun _ => ρ id) w vs (.own 1 :: ds.map S.d) := by
  refine ⟨by simpa using hv.1, fun i hi hi2 => ?_⟩
  have h4 := hv.2 i hi (by simpa using hi2)
  cases i with
  | zero =>
   simp only [List.getElem_cons_zero] at h4 ⊢
   generalize vs[0] = x at h4
   cases h4
   exact RepS.own (ρ := fun _ => ρ id) 1
  | succ i =>
   simp only [List.getElem_cons_succ, ZgP] at h4 ⊢
   exact .d (Yao h4)
 refine (h.2 F (fun _ => ρ id) B w vs hF hB h2 h3).mono ?_
 rintro e' w' ⟨v, F', ρ', he, hr, hx⟩
 have hρ : ρ' 1 = ρ id := hx.same 1 h1
 have hblk : ∀ b, ownB [(1, Ob.row e size els)] (fun _ => ρ id) b ↔ ownB [(id, Ob.row e size els)] ρ b := fun b => by simp [ownB]
 refine ⟨v, F', ρ, he, hr, hx.up, fun b hb => (hx.new b hb).imp (fun x => x) (fun hh => hh.imp (fun x => x) (hblk b).1), hx.lt, ⟨hx.kept.os, hx.kept.tape, hx.kept.output, hx.kept.size, fun k hk hn => hx.kept.block k hk (fun hh => hn (hh.imp (fun x => x) (hblk k).1))⟩, ?_, ?_, fun _ _ => J⟩
 ·refine ⟨fun p hp => ?_, fun p hp q hq hne => ?_, fun p hp q hq _ => ?_⟩
  ·have : p = (id, .row e size els') := by simpa using hp
   subst this
   have h5 := hx.obs.ok (1, .row e size els') (by simp)
   obtain ⟨xs, h6, h7, h8, h9⟩ := h5
   dsimp only at h6 h9
   rw [hρ] at h6 h9
   exact ⟨xs, h6, h7, h8, h9⟩
  ·have : p = (id, .row e size els') := by simpa using hp
   have h2 : q = (id, .row e size els') := by simpa using hq
   rw [this, h2] at hne
   exact absurd J hne
  ·have : p = (id, .row e size els') := by simpa using hp
   have h2 : q = (id, .row e size els') := by simpa using hq
   rw [this, h2]
 ·intro p hp g hg
  have : p = (id, .row e size els') := by simpa using hp
  subst this
  have h5 := hx.own (1, .row e size els') (by simp) g (by rw [hρ]; exact hg)
  exact h5.imp (fun x => x) (hblk g).1
theorem Yam {id e size : Nat} {els els' : List (List D)} {σ : Obs} (h : (id, Ob.row e size els) ∈ σ) (hd : els = els') : (id, Ob.row e size els') ∈ σ := hd ▸ h
theorem RCall.eq {P : Program} {f : FuncId} {e size : Nat} {els els' els2 els2' : List (List D)} {ds : List D} {d : D} (h : RCall P f e size els els' ds d) (h1 : els = els2) (h2 : els' = els2') : RCall P f e size els2 els2' ds d := by
 subst h1; subst h2; exact h
def EOp (cx : Cx) (ops : Array Oper) (o : Oper) (e : Env) (σ σ' : Obs) : Prop :=
 ∀ (F : Nat -> Prop) (ρ : Nat -> Value) (a : Act) (w : World) (e0 : Env), R0 cx F ρ e0 σ a w -> (∀ t, t ∈ o.looksAt ops -> RepS F ρ w (a.tmps.getD t undef) (e t)) ->
  o.wp cx.P a w (fun a' w' => a' = a /\ ∀ e2, R0 cx F ρ e2 σ a w -> ∃ F' ρ', R0 cx F' ρ' e2 σ' a w') (fun _ _ _ => False)
theorem EOp.same {cx : Cx} {ops : Array Oper} {o : Oper} {e e' : Env} {σ σ' : Obs} (h : EOp cx ops o e σ σ') (he : ∀ t, t ∈ o.looksAt ops -> e' t = e t) : EOp cx ops o e' σ σ' :=
 fun F ρ a w e0 hr ha => h F ρ a w e0 hr fun t ht => by rw [<- he t ht]; exact ha t ht
theorem AOp.same {P : Program} {B : Nat} {ops : Array Oper} {o : Oper} {e e' : Env} {σ : Obs} {s : S} (h : AOp P B ops o e σ s) (he : ∀ t, t ∈ o.looksAt ops -> e' t = e t) : AOp P B ops o e' σ s :=
 fun F ρ w a hF ha hσ => h F ρ w a hF (fun t ht => by rw [<- he t ht]; exact ha t ht) hσ
def GStep (cx : Cx) (ops : Array Oper) (sl ef : Nat -> Bool) (k : Nat) (o : Oper) (e : Env) (σ : Obs) (e' : Env) (σ' : Obs) : Prop :=
 (GW ops o e true /\ ∃ s, ((sl k = true /\ AOp cx.P cx.B ops o e σ s) \/ (∀ τ, AOp cx.P cx.B ops o e τ s)) /\ e' = e.put o.dst s /\ σ' = σ) \/
 (GW ops o e false /\ e' = e.put o.dst (.d (.v undef)) /\ σ' = σ) \/
 (GW ops o e true /\ ef k = true /\ o.dst = none /\ EOp cx ops o e σ σ' /\ e' = e)
def GRun (cx : Cx) (ops : Array Oper) (sl ef : Nat -> Bool) : Nat -> List Oper -> Env -> Obs -> (Env -> Obs -> Prop) -> Prop
 | _, [], e, σ, Q => Q e σ
 | k, o :: l, e, σ, Q => DstOk cx.N o /\ ∃ e' σ', GStep cx ops sl ef k o e σ e' σ' /\ GRun cx ops sl ef (k + 1) l e' σ' Q
def anyG (cx : Cx) (ops : Array Oper) (sl ef : Nat -> Bool) (Q : Env -> Obs -> Prop) : Nat -> Array Bool -> Env -> Obs -> Prop
 | 0, listed, e, σ => Region.ready .any ops listed = [] /\ Q e σ
 | fuel + 1, listed, e, σ => (Region.ready .any ops listed = [] -> Q e σ) /\
  ∀ i ∈ Region.ready .any ops listed, ∀ o, ops[i]? = some o -> ∃ e' σ', GStep cx ops sl ef i o e σ e' σ' /\ anyG cx ops sl ef Q fuel (listed.setIfInBounds i true) e' σ'
theorem anyG_first {cx : Cx} {ops : Array Oper} {sl ef : Nat -> Bool} (hse : ∀ k, ef k = true -> sl k = true) {Q : Env -> Obs -> Prop} {i : Nat} {oi : Oper} (hi : ops[i]? = some oi) (late : Nat -> Bool)
 (hclos : ∀ j oj, ops[j]? = some oj -> late j = true -> ∃ e ∈ oj.after, Region.binds .any e = true /\ (e.on = i \/ late e.on = true)) :
 ∀ (fuel : Nat) (listed : Array Bool) (e : Env) (σ : Obs) (e1 : Env) (σ1 : Obs), (∀ j, late j = true -> listed.getD j false = false) ->
  (∀ j oj, ops[j]? = some oj -> j ≠ i -> listed.getD j true = false -> (∀ e ∈ oj.after, Region.binds .any e = true -> e.on ≠ i) -> oi.apart ops oj = true /\ (late j = false -> (ef i = false \/ sl j = false) /\ (sl i = false \/ ef j = false))) ->
  i ∈ Region.ready .any ops listed -> GStep cx ops sl ef i oi e σ e1 σ1 -> anyG cx ops sl ef Q fuel (listed.setIfInBounds i true) e1 σ1 -> anyG cx ops sl ef Q (fuel + 1) listed e σ := by
 intro fuel
 induction fuel with
 | zero =>
  intro listed e σ e1 σ1 _ _ hr hy H
  refine ⟨fun h => (by rw [h] at hr; cases hr), fun j hj o ho => ?_⟩
  by_cases hji : j = i
  ·subst hji
   rw [hi] at ho; cases ho
   exact ⟨e1, σ1, hy, H⟩
  ·have := ready_mono hj hji
   rw [H.1] at this
   cases this
 | succ fuel ih =>
  intro listed e σ e1 σ1 hlate hfree hr hy H
  refine ⟨fun h => (by rw [h] at hr; cases hr), fun j hj oj hoj => ?_⟩
  by_cases hji : j = i
  ·subst hji
   rw [hi] at hoj; cases hoj
   exact ⟨e1, σ1, hy, H⟩
  ·obtain ⟨e2, σ2, h1, h2⟩ := H.2 j (ready_mono hj hji) oj hoj
   obtain ⟨hjun, oj', hoj', hall⟩ := mem_ready.1 hj
   rw [hoj] at hoj'; cases hoj'
   have hnot : ∀ e ∈ oj.after, Region.binds .any e = true -> e.on ≠ i := fun e he hb heq => by
    have h1 := hall e he hb
    have h0 := (mem_ready.1 hr).1
    rw [heq] at h1
    rcases Nat.lt_or_ge i listed.size with h' | h'
    ·simp [h'] at h0 h1; rw [h0] at h1; cases h1
    ·simp [Array.getElem?_eq_none h'] at h1
   have hjl : late j = false := by
    cases hl : late j with
    | false => rfl
    | true =>
     obtain ⟨e, he, hb, hh⟩ := hclos j oj hoj hl
     rcases hh with hh | hh
     ·exact absurd hh (hnot e he hb)
     ·have h3 := hall e he hb
      rw [hlate _ hh] at h3
      simp at h3
   obtain ⟨hap, hss⟩ := hfree j oj hoj hji hjun hnot
   obtain ⟨hs1, hs2⟩ := hss hjl
   obtain ⟨a1, a2, a3⟩ := Oper.apart_spec hap
   have fin : ∀ ej σj, GStep cx ops sl ef j oj e σ ej σj -> GStep cx ops sl ef i oi ej σj e2 σ2 -> ∃ e' σ', GStep cx ops sl ef j oj e σ e' σ' /\ anyG cx ops sl ef Q (fuel + 1) (listed.setIfInBounds j true) e' σ' := fun ej σj hsj hsi => by
    refine ⟨ej, σj, hsj, ?_⟩
    refine ih (listed.setIfInBounds j true) ej σj e2 σ2 (fun k hk => ?_) (fun k ok hk hki hun hno => ?_) (ready_mono hr (Ne.symm hji)) hsi ?_
    ·have hkj : j ≠ k := fun h => by rw [h, hk] at hjl; simp at hjl
     rw [getD_set_ne false hkj]
     exact hlate k hk
    ·refine hfree k ok hk hki ?_ hno
     by_cases hjk : j = k
     ·subst hjk; exact hjun
     ·rw [getD_set_ne true hjk] at hun; exact hun
    ·rw [Array.setIfInBounds_comm _ _ hji]
     exact h2
   rcases hy with ⟨hgi, s, hopi, rfl, rfl⟩ | ⟨hgi, rfl, rfl⟩ | ⟨hgi, hefi, hdi, hopi, rfl⟩
   ·rcases h1 with ⟨hgj, sj, hopj, rfl, rfl⟩ | ⟨hgj, rfl, rfl⟩ | ⟨hgj, hefj, hdj, hopj, rfl⟩
    ·refine fin (e.put oj.dst sj) _ (.inl ⟨hgj.same fun t ht => (Yae a1 t ht).symm, sj, ?_, J, J⟩) (.inl ⟨hgi.same (Yae a3), s, ?_, (Env.put_comm e oi.dst oj.dst s sj a2), J⟩)
     ·exact hopj.imp (fun h => ⟨h.1, h.2.same fun t ht => (Yae a1 t ht).symm⟩) (fun h τ => (h τ).same fun t ht => (Yae a1 t ht).symm)
     ·exact hopi.imp (fun h => ⟨h.1, h.2.same (Yae a3)⟩) (fun h τ => (h τ).same (Yae a3))
    ·refine fin (e.put oj.dst (.d (.v undef))) _ (.inr (.inl ⟨hgj.same fun t ht => (Yae a1 t ht).symm, J, J⟩)) (.inl ⟨hgi.same (Yae a3), s, ?_, (Env.put_comm e oi.dst oj.dst s _ a2), J⟩)
     exact hopi.imp (fun h => ⟨h.1, h.2.same (Yae a3)⟩) (fun h τ => (h τ).same (Yae a3))
    ·have hsi : sl i = false := by
      rcases hs2 with h | h
      ·exact h
      ·rw [hefj] at h; simp at h
     refine fin e σ2 (.inr (.inr ⟨hgj.same fun t ht => (Yae a1 t ht).symm, hefj, hdj, hopj.same fun t ht => (Yae a1 t ht).symm, J⟩)) (.inl ⟨hgi, s, .inr ?_, J, J⟩)
     rcases hopi with h | h
     ·rw [h.1] at hsi; simp at hsi
     ·exact h
   ·rcases h1 with ⟨hgj, sj, hopj, rfl, rfl⟩ | ⟨hgj, rfl, rfl⟩ | ⟨hgj, hefj, hdj, hopj, rfl⟩
    ·refine fin (e.put oj.dst sj) _ (.inl ⟨hgj.same fun t ht => (Yae a1 t ht).symm, sj, ?_, J, J⟩) (.inr (.inl ⟨hgi.same (Yae a3), (Env.put_comm e oi.dst oj.dst _ sj a2), J⟩))
     exact hopj.imp (fun h => ⟨h.1, h.2.same fun t ht => (Yae a1 t ht).symm⟩) (fun h τ => (h τ).same fun t ht => (Yae a1 t ht).symm)
    ·exact fin (e.put oj.dst (.d (.v undef))) _ (.inr (.inl ⟨hgj.same fun t ht => (Yae a1 t ht).symm, J, J⟩)) (.inr (.inl ⟨hgi.same (Yae a3), (Env.put_comm e oi.dst oj.dst _ _ a2), J⟩))
    ·exact fin e σ2 (.inr (.inr ⟨hgj.same fun t ht => (Yae a1 t ht).symm, hefj, hdj, hopj.same fun t ht => (Yae a1 t ht).symm, J⟩)) (.inr (.inl ⟨hgi, J, J⟩))
   ·have hsj : sl j = false := by
     rcases hs1 with h | h
     ·rw [hefi] at h; simp at h
     ·exact h
    rcases h1 with ⟨hgj, sj, hopj, rfl, rfl⟩ | ⟨hgj, rfl, rfl⟩ | ⟨hgj, hefj, hdj, hopj, rfl⟩
    ·have hall : ∀ τ, AOp cx.P cx.B ops oj e1 τ sj := by
      rcases hopj with h | h
      ·rw [h.1] at hsj; simp at hsj
      ·exact h
     exact fin (e1.put oj.dst sj) σ (.inl ⟨hgj, sj, .inr hall, J, J⟩) (.inr (.inr ⟨hgi.same (Yae a3), hefi, hdi, hopi.same (Yae a3), J⟩))
    ·exact fin (e1.put oj.dst (.d (.v undef))) σ (.inr (.inl ⟨hgj, J, J⟩)) (.inr (.inr ⟨hgi.same (Yae a3), hefi, hdi, hopi.same (Yae a3), J⟩))
    ·rw [hse j hefj] at hsj; simp at hsj
def Region.lateOf (ops : Array Oper) (k : Nat) : List Nat :=
 (List.range ops.size).foldl (fun acc j => if ((ops[j]?).map fun o => o.after.any fun e => Region.binds .any e && (Nat.beq e.on k || acc.any fun i => Nat.beq i e.on)).getD false then j :: acc else acc) []
def Region.sensFree (ops : Array Oper) (sl ef : Nat -> Bool) (listed : Array Bool) (k : Nat) (late : Nat -> Bool) : Bool :=
 (List.range ops.size).all fun j =>
  (!(late j) || (!(listed.getD j false) && ((ops[j]?).map fun o => o.after.any fun e => Region.binds .any e && (Nat.beq e.on k || late e.on)).getD true)) &&
  (Nat.beq j k || listed.getD j true || late j || (!(ef k && sl j) && !(sl k && ef j)))
def Region.lateB (ops : Array Oper) (k j : Nat) : Bool := Nat.blt j ops.size && (Region.lateOf ops k).any fun i => Nat.beq i j
def Region.sensFrom (ops : Array Oper) (sl ef : Nat -> Bool) : Nat -> Nat -> Array Bool -> Bool
 | 0, _, _ => true
 | fuel + 1, k, listed => (if sl k || ef k then Region.sensFree ops sl ef listed k (Region.lateB ops k) else true) && Region.sensFrom ops sl ef fuel (k + 1) (listed.setIfInBounds k true)
theorem Region.sensFree_spec {ops : Array Oper} {sl ef : Nat -> Bool} {listed : Array Bool} {k : Nat} {late : Nat -> Bool} (h : Region.sensFree ops sl ef listed k late = true) (hl : ∀ j, late j = true -> j < ops.size) :
 (∀ j oj, ops[j]? = some oj -> late j = true -> ∃ e ∈ oj.after, Region.binds .any e = true /\ (e.on = k \/ late e.on = true)) /\ (∀ j, late j = true -> listed.getD j false = false) /\
 ∀ j oj, ops[j]? = some oj -> j ≠ k -> listed.getD j true = false -> late j = false -> (ef k = false \/ sl j = false) /\ (sl k = false \/ ef j = false) := by
 have h1 : ∀ j, j < ops.size -> _ := fun j hj => List.all_eq_true.1 h j (List.mem_range.2 hj)
 simp only [ZbA] at h1
 refine ⟨fun j oj hoj hlj => ?_, fun j hlj => ?_, fun j oj hoj hjk hun hlj => ?_⟩
 ·have h2 := (h1 j (ZaS.1 hoj).1).1
  rw [hlj, hoj] at h2
  simp only [Bool.not_true, Bool.false_or, Option.map_some, Option.getD_some, ZbA, Array.any_eq_true'] at h2
  obtain ⟨_, e, he, hb⟩ := h2
  simp only [Bool.or_eq_true] at hb
  exact ⟨e, he, hb.1, hb.2.imp Nat.eq_of_beq_eq_true (fun x => x)⟩
 ·have h2 := (h1 j (hl j hlj)).1
  rw [hlj] at h2
  simp only [Bool.not_true, Bool.false_or, ZbA, Bool.not_eq_true'] at h2
  exact h2.1
 ·have h2 := (h1 j (ZaS.1 hoj).1).2
  have hb : Nat.beq j k = false := by rw [Bool.eq_false_iff]; exact fun hh => hjk (Nat.eq_of_beq_eq_true hh)
  rw [hb, hun, hlj] at h2
  simp only [Bool.false_or, ZbA, Bool.not_eq_true', Bool.and_eq_false_iff] at h2
  exact h2
theorem anyG_lex {cx : Cx} {ops : Array Oper} {sl ef : Nat -> Bool} (hse : ∀ k, ef k = true -> sl k = true) {Q : Env -> Obs -> Prop} : ∀ (l : List Oper) (k : Nat) (listed : Array Bool) (e : Env) (σ : Obs), (∀ j, l[j]? = ops[k + j]?) ->
 Region.lexFrom .any ops l.length k listed = true -> Region.sensFrom ops sl ef l.length k listed = true -> GRun cx ops sl ef k l e σ Q -> anyG cx ops sl ef Q l.length listed e σ
 | [], _, _, _, _, _, hB, _, h => ⟨by simpa [Region.lexFrom] using hB, h⟩
 | o :: l, k, listed, e, σ, hl, hB, hS, h => by
  have h0 : ops[k]? = some o := by simpa using (hl 0).symm
  simp only [List.length_cons, Region.lexFrom, ZbA] at hB
  simp only [List.length_cons, Region.sensFrom, ZbA] at hS
  obtain ⟨⟨hr, hf⟩, hB'⟩ := hB
  have hl' : ∀ j, l[j]? = ops[k + 1 + j]? := fun j => by have := hl (j + 1); simpa [Nat.add_assoc, Nat.add_comm 1 j] using this
  obtain ⟨_, e', σ', hs, hK⟩ := h
  have hgo := anyG_lex hse l (k + 1) _ _ _ hl' hB' hS.2 hK
  by_cases hc : (sl k || ef k) = true
  ·have h1 := hS.1
   rw [if_pos hc] at h1
   obtain ⟨k1, k2, k3⟩ := Region.sensFree_spec h1 (fun j hj => by
    unfold Region.lateB at hj
    simp only [ZbA, Nat.blt_eq] at hj
    exact hj.1)
   exact anyG_first hse h0 _ k1 l.length listed e σ e' σ' k2 (fun j oj hj hji hun hno => ⟨Region.free_spec h0 hf j oj hj hji hun hno, fun hl => k3 j oj hj hji hun hl⟩) (by simpa using hr) hs hgo
  ·have h2 : sl k = false /\ ef k = false := by simpa using hc
   exact anyG_first hse h0 (fun _ => false) (fun _ _ _ h => by simp at h) l.length listed e σ e' σ' (fun _ h => by simp at h) (fun j oj hj hji hun hno => ⟨Region.free_spec h0 hf j oj hj hji hun hno, fun _ => ⟨.inl h2.2, .inl h2.1⟩⟩) (by simpa using hr) hs hgo
theorem GRun.dsts {cx : Cx} {ops : Array Oper} {sl ef : Nat -> Bool} {Q : Env -> Obs -> Prop} : ∀ (l : List Oper) (k : Nat) (e : Env) (σ : Obs), GRun cx ops sl ef k l e σ Q -> ∀ o ∈ l, DstOk cx.N o
 | [], _, _, _, _, o, ho => by cases ho
 | x :: l, k, e, σ, h, o, ho => by
  obtain ⟨h1, _, _, _, h2⟩ := h
  cases ho with
  | head => exact h1
  | tail _ ho => exact GRun.dsts l _ _ _ h2 o ho
theorem wpAny_of_G {cx : Cx} {ops : Array Oper} {sl ef : Nat -> Bool} {Q : Post} (hd : ∀ o ∈ ops.toList, DstOk cx.N o) : ∀ (fuel : Nat) (listed : Array Bool) (e : Env) (σ : Obs) (a : Act) (w : World), R cx e σ a w ->
 anyG cx ops sl ef (fun e σ => Q .normal e σ) fuel listed e σ -> wpAny cx.P .any ops (lift cx Q) fuel listed a w
 | 0, _, e, σ, _, _, hr, h => ⟨h.1, e, σ, h.2, hr⟩
 | fuel + 1, listed, e, σ, a, w, hr, h => by
  refine ⟨fun h0 => ⟨e, σ, h.1 h0, hr⟩, fun i hi => ?_⟩
  obtain ⟨_, o, ho, _⟩ := mem_ready.1 hi
  obtain ⟨e', σ', hs, hk⟩ := h.2 i hi o ho
  have hdo : DstOk cx.N o := hd o (Array.mem_toList_iff.2 (Array.mem_of_getElem? ho))
  unfold wpOp
  simp only [ho]
  obtain ⟨F, ρ, hr⟩ := hr
  rcases hs with ⟨hg, s, hop, rfl, rfl⟩ | ⟨hg, rfl, rfl⟩ | ⟨hg, _, hdst, hop, rfl⟩
  ·rw [if_pos (hg.wanted (fun t _ => hr.env t))]
   have hop' : AOp cx.P cx.B ops o e σ' s := by
    rcases hop with h | h
    ·exact h.2
    ·exact h _
   refine .inl (wp_to ?_ (fun _ _ _ => False.elim) (hop' F ρ w a hr.lt (fun t _ => hr.env t) hr.obs))
   rintro a' w' ⟨v, F', rfl, hv, he⟩
   exact wpAny_of_G hd fuel _ _ _ _ _ ⟨F', ρ, hr.put he hv hdo⟩ hk
  ·rw [if_neg (by rw [hg.wanted (fun t _ => hr.env t)]; simp)]
   exact wpAny_of_G hd fuel _ _ _ _ _ ⟨F, ρ, hr.put (Ext.refl hr.lt) Ybt hdo⟩ hk
  ·rw [if_pos (hg.wanted (fun t _ => hr.env t))]
   refine .inl (wp_to ?_ (fun _ _ _ => False.elim) (hop F ρ a w e' hr (fun t _ => hr.env t)))
   rintro a' w' ⟨rfl, h3⟩
   obtain ⟨F', ρ', h4⟩ := h3 e' hr
   exact wpAny_of_G hd fuel _ _ _ _ _ ⟨F', ρ', h4⟩ hk
theorem AWP.drawG {cx : Cx} {id : Nat} {l : List Oper} {e : Env} {σ : Obs} {Q : Post} (sl ef : Nat -> Bool) (hse : ∀ k, ef k = true -> sl k = true) (hm : cx.P.follows .mixedOrders = true) (hB : Region.lexB .any l.toArray = true)
 (hS : Region.sensFrom l.toArray sl ef l.length 0 (Array.replicate l.length false) = true) (h : GRun cx l.toArray sl ef 0 l e σ (fun e σ => Q .normal e σ)) : AWP cx (.region id l.toArray true) e σ Q := by
 intro a w ⟨F, ρ, hr⟩
 simp only [Region.lexB, ZbA] at hB
 have h1 := anyG_lex hse l 0 (Array.replicate l.toArray.size false) e σ (by simp) (by simpa using hB.2) (by simpa using hS) h
 exact wp_region_any hm (wpAny_of_G (by simpa using GRun.dsts l 0 e σ h) _ _ e σ a _ ⟨F, ρ, hr.drew⟩ (by simpa using h1))
section
variable {cx : Cx} {ops : Array Oper} {o : Oper} {rest : List Oper} {e : Env} {σ : Obs} {sl ef : Nat -> Bool} {n : Nat} {l : List Oper} {Q : Env -> Obs -> Prop}
theorem GRun.nil (h : Q e σ) : GRun cx ops sl ef n [] e σ Q := h
theorem GRun.step {s : S} {t : Nat} (hg : GW ops o e true) (ht : o.dst = some t) (hd : Nat.blt t cx.N = true) (h : ∀ τ, AOp cx.P cx.B ops o e τ s) (k : GRun cx ops sl ef (n + 1) l (e.put (some t) s) σ Q) : GRun cx ops sl ef n (o :: l) e σ Q :=
 ⟨by unfold DstOk; rw [ht]; exact hd, _, _, .inl ⟨hg, s, .inr h, rfl, rfl⟩, by rw [ht]; exact k⟩
theorem GRun.stepS {s : S} {t : Nat} (hs : sl n = true) (hg : GW ops o e true) (ht : o.dst = some t) (hd : Nat.blt t cx.N = true) (h : AOp cx.P cx.B ops o e σ s) (k : GRun cx ops sl ef (n + 1) l (e.put (some t) s) σ Q) : GRun cx ops sl ef n (o :: l) e σ Q :=
 ⟨by unfold DstOk; rw [ht]; exact hd, _, _, .inl ⟨hg, s, .inl ⟨hs, h⟩, rfl, rfl⟩, by rw [ht]; exact k⟩
theorem GRun.eff {σ' : Obs} (hf : ef n = true) (hg : GW ops o e true) (ht : o.dst = none) (h : EOp cx ops o e σ σ') (k : GRun cx ops sl ef (n + 1) l e σ' Q) : GRun cx ops sl ef n (o :: l) e σ Q :=
 ⟨by unfold DstOk; rw [ht], _, _, .inr (.inr ⟨hg, hf, ht, h, rfl⟩), k⟩
end
section
variable {cx : Cx} {ops : Array Oper} {o : Oper} {e : Env} {σ : Obs}
theorem EOp.storeRow {t id off ee size len : Nat} {x y : Operand} {d : D} {els : List (List D)} {ds : List D} (ht : o.dst = none) (ho : o.op = .store t x y) (hs : ∀ w, (sizeOf t).run cx.P w = .ok len w) (hx : e.ev x = .ptr id off) (hm : (id, Ob.row ee size els) ∈ σ)
 (hy : e.ev y = .d d) (h1 : d.one = true) (hl : d.parts.length = len) (k j : Nat) (hoff : off = k * size + j) (hd : els[k]? = some ds) (hj : j + len <= size) :
 EOp cx ops o e σ (Obs.upd id (.row ee size (els.set k (ds.take j ++ d.parts ++ ds.drop (j + len)))) σ) := by
 intro F ρ a w e0 hr ha
 have hop : ∀ y ∈ o.op.operands.toList, RepS F ρ w (a.eval y) (e.ev y) := fun y hy => YaC fun t ht => ha t (YaM (by rw [<- ht]; exact hy))
 have r1 := hop x (by rw [ho]; simp [Op.operands])
 have r2 := hop y (by rw [ho]; simp [Op.operands])
 rw [hx] at r1
 rw [hy] at r2
 obtain ⟨h3, h4⟩ := Ybd (Yao r2) h1
 have hlt : k < els.length := (ZgS.1 hd).1
 have hde : els[k] = ds := (ZgS.1 hd).2
 obtain ⟨xs, hown, hlen, hrep, hnF⟩ := hr.obs.ok _ hm
 dsimp only at hown hnF
 have hown' : w.ownsRow cx.B ee size (ρ id) els.length (flat xs els.length size) := hown
 rcases hown'.2 with ⟨_, h0⟩ | ⟨g, cap, cur, hv, hB, hh, hn, hmx, hcs, htk⟩
 ·omega
 have hblk : blk (ρ id) = some g := by rw [hv]; rfl
 have hxv := YbX r1 hblk
 have hsz : (a.eval y).cells.size = len := by have := h3.1; rw [ZaL] at this; omega
 have hle : k * size + size <= els.length * size := by rw [<- Nat.succ_mul]; exact Nat.mul_le_mul_right _ hlt
 have hcap : els.length * size <= cap * size := Nat.mul_le_mul_right _ hn
 obtain ⟨w', h5, h6, h7⟩ := YbB (P := cx.P) (off := off) hs hsz (cur := cur.toList) (by simpa using hh) (by rw [ZaL]; omega) h4
 unfold Oper.wp execOp
 simp only [ho, Instr.storeAt, hxv, Instr.sureAddr, Sem.run_bind, Sem.run_pure, Result.andThen_ok, h5]
 refine ⟨by rw [ht]; rfl, fun e2 hr2 => ⟨F, ρ, ?_⟩⟩
 have hvl : (a.eval y).cells.toList.length = len := by rw [ZaL]; exact hsz
 have keep : ∀ {u : Value} {d : D}, Rep F w u d -> Rep F w' u d := fun h => h.mono (fun b hb => hb) fun b hb => h6.block b (hr.lt b hb) (fun he => hnF g hblk (by rw [<- Option.some.inj he]; exact hb))
 refine hr2.writeOb hblk hm hB (hnF g hblk) h6 ⟨fun i p => if i = k /\ j <= p /\ p < j + (a.eval y).cells.toList.length then (a.eval y).cells.toList.getD (p - j) undef else xs i p, ?_, fun i hi => ?_, fun i hi p hp => ?_, hnF⟩
 ·rw [List.length_set]
  have hst := flat_store xs els.length size k j (a.eval y).cells.toList hlt (by omega)
  refine ⟨Yal _ _ _, .inr ⟨g, cap, _, hv, hB, h7, hn, hmx, ?_, ?_⟩⟩
  ·simp only [List.size_toArray, ZlA, ZlT, ZlD, ZaL, hcs, hsz]
   omega
  ·refine Eq.trans ?_ hst
   rw [<- htk]
   have hcl : cur.toList.length = cap * size := by rw [ZaL]; exact hcs
   rw [hoff, <- hvl]
   apply List.ext_getElem?
   intro p
   by_cases hp : p < els.length * size
   ·rw [ZgT, if_pos hp, get3, get3]
    simp only [ZlT, hcl, ZgT, ZgO]
    rw [Nat.min_eq_left (show k * size + j <= cap * size by omega), Nat.min_eq_left (show k * size + j <= min (els.length * size) (cap * size) by omega)]
    by_cases c1 : p < k * size + j
    ·simp [c1, hp]
    ·by_cases c2 : p < k * size + j + (a.eval y).cells.toList.length
     ·simp only [c1, c2, if_false, if_true]
     ·simp only [c1, c2, if_false]
      rw [if_pos (by omega)]
   ·rw [List.getElem?_eq_none (by rw [ZlT]; omega), List.getElem?_eq_none (by
     simp only [ZlA, ZlT, ZlD, hcl]
     omega)]
 ·rw [List.getElem_set]
  split
  ·rw [ZlA, ZlA, ZlT, ZlD, hl]
   have := hlen k hlt
   rw [hde] at this
   omega
  ·exact hlen i _
 ·rw [List.length_set] at hi
  have hk2 := hlen k hlt
  rw [hde] at hk2
  simp only [List.getElem_set] at hp ⊢
  by_cases hik : k = i
  ·subst hik
   simp only [if_true] at hp ⊢
   rw [ZlA, ZlA, ZlT, ZlD, hl] at hp
   by_cases c1 : j <= p /\ p < j + (a.eval y).cells.toList.length
   ·simp only [c1, and_self, if_true]
    have hpl : p - j < (a.eval y).cells.toList.length := by omega
    rw [ZgD, ZgE hpl, Option.getD_some]
    refine ⟨h4 _ (ZgM _), keep ?_⟩
    rw [ZgL (by simp; omega), ZgR (by simp; omega)]
    have e1 : (List.take j ds).length = j := by simp; omega
    simp only [e1]
    exact h3.2 _ _ _
   ·rw [if_neg (by rintro ⟨_, h8, h9⟩; exact c1 ⟨h8, h9⟩)]
    have h10 := hrep k hlt p (by rw [hde]; omega)
    simp only [hde] at h10
    refine ⟨h10.1, keep ?_⟩
    by_cases c2 : p < j
    ·rw [ZgL (by simp; omega), ZgL (by simp; omega), List.getElem_take]
     exact h10.2
    ·rw [ZgR (by simp; omega), List.getElem_drop]
     have e1 : (List.take j ds ++ d.parts).length = j + len := by simp; omega
     simp only [e1]
     have e2 : j + len + (p - (j + len)) = p := by omega
     simp only [e2]
     exact h10.2
  ·simp only [hik, if_false] at hp ⊢
   rw [if_neg (by rintro ⟨h8, _⟩; exact hik h8.symm)]
   exact ⟨(hrep i hi p hp).1, keep (hrep i hi p hp).2⟩
end
section
variable {P : Program} {B : Nat} {ops : Array Oper} {o : Oper} {e : Env} {σ : Obs}
theorem AOp.loadRowAgg {t : TypeId} {x : Operand} {id off ee size : Nat} {els : List (List D)} {ds : List D} (ho : o.op = .load t x) (hT : AggT P t size) (hx : e.ev x = .ptr id off) (hm : (id, Ob.row ee size els) ∈ σ) (k : Nat) (hoff : off = k * size) (hk : els[k]? = some ds) :
 AOp P B ops o e σ (.d (.agg ds)) :=
 .value fun F ρ w a hF hr hσ => by
 have h1 := hr x (by rw [ho]; simp [Op.operands])
 rw [hx] at h1
 obtain ⟨xs, h3, h4, h5, h6⟩ := hσ.ok _ hm
 dsimp only at h3
 have hlt : k < els.length := (ZgS.1 hk).1
 have hde : els[k] = ds := (ZgS.1 hk).2
 have hsz := h4 k hlt
 rw [hde] at hsz
 rcases h3.2 with ⟨_, h7⟩ | ⟨g, cap, cur, h7, _, h8, _⟩
 ·omega
 ·have hv := YbX h1 (g := g) (by rw [h7]; rfl)
  have hl' : (loadCells ⟨g, off, none⟩ ((List.range size).map (xs k)).length).run P w = .ok ((List.range size).map (xs k)).toArray w := run_loadCells_list w _ _ (fun j v hj => by
   have hjl := (ZgS.1 hj).1
   simp at hjl
   have hc := row_cell h3 h7 h8 hlt hjl
   rw [YaU, hoff, hc, <- hj]
   simp [hjl])
  simp only [ZlM, List.length_range] at hl'
  refine ⟨.agg ((List.range size).map (xs k)).toArray, F, w, ?_, .d (.agg _ _ (by simp [hsz]) (fun i hi => ?_) (fun i hi hi2 => ?_)), Ext.refl hF⟩
  ·unfold execOp
   simp only [ho, hv, Instr.loadAt, Instr.sureAddr, loadVar, Sem.run_bind, Sem.run_pure, Result.andThen_ok, hT.agg w, hT.size w, if_true, hl']
  ·simp at hi ⊢
   exact (h5 k hlt i (by rw [hde, hsz]; exact hi)).1
  ·simp at hi ⊢
   have := (h5 k hlt i (by rw [hde, hsz]; exact hi)).2
   simp only [hde] at this
   exact this
end
theorem Yby {id e size : Nat} {els els' : List (List D)} {τ : Obs} (h : els = els') : ∀ p ∈ [(id, Ob.row e size els')], p ∈ (id, Ob.row e size els) :: τ := fun p hp => by
 have : p = (id, Ob.row e size els') := by simpa using hp
 rw [this, <- h]
 exact .head _
section
variable {P : Program} {B : Nat} {ops : Array Oper} {o : Oper} {e : Env} {σ : Obs}
theorem AOp.convSame {s t : TypeId} {x : Operand} {k k0 : IntKind} {n : Int} (ho : o.op = .convert s t x) (hc : convB P s t k = true) (hx : e.ev x = .d (.v (.int k0 n))) (hw : k.wrap n = n) : AOp P B ops o e σ (.d (.v (.int k n))) := by
 have := AOp.convInt (P := P) (B := B) (ops := ops) (σ := σ) ho hc hx
 rwa [hw] at this
theorem wrapU64 {n : Int} (h0 : 0 <= n) (h1 : n <= 9223372036854775807) : IntKind.u64.wrap n = n := by rw [IntKind.wrap_u64]; omega
theorem AOp.half {t ty : TypeId} {x y : Operand} {a : Int} (ho : o.op = .binOp .shr t x y ty) (hx : e.ev x = .d (.v (.int .u64 a))) (hy : e.ev y = .d (.v (.int .u64 1))) : AOp P B ops o e σ (.d (.v (.int .u64 (a / 2)))) :=
 .bin ho hx hy fun w => by
 rw [Sem.run_bind, YaH]
 simp only [Result.andThen_ok, binOp, Op.shift]
 have h1 : ¬ ((1 : Int) < 0) := by decide
 rw [if_neg h1]
 have h2 : Min.min (1 : Int).toNat IntKind.u64.bits = 1 := by decide
 rw [h2]
 simp only [Sem.run_pure]
 congr 2
 rw [Int.fdiv_eq_ediv_of_nonneg _ (by decide)]
 rfl
end
inductive Kd where
 | int (k : IntKind)
 | str
 | bool
def Kd.fits : Kd -> Value -> Bool
 | .int k, .int k' _ => decide (k' = k)
 | .str, .string _ => true
 | .bool, .bool _ => true
 | _, _ => false
def Kd.ofType (P : Program) (t : TypeId) : Kd -> Bool
 | .int k => match P.underlying t with | some (.int k') => decide (k' = k) | _ => false
 | .str => match P.underlying t with | some .string => true | _ => false
 | .bool => match P.underlying t with | some .bool => true | _ => false
def kindsB : List Kd -> List Value -> Bool
 | [], [] => true
 | k :: ks, v :: vs => k.fits v && kindsB ks vs
 | _, _ => false
def fieldsB (P : Program) : Nat -> List Kd -> List Field -> Bool
 | _, [], [] => true
 | i, k :: ks, f :: fs => (f.name != "_") && (f.offset == i) && k.ofType P f.type && fieldsB P (i + 1) ks fs
 | _, _, _ => false
def sameV : Value -> Value -> Bool
 | .int _ a, .int _ b => decide (a = b)
 | .string a, .string b => decide (a = b)
 | .bool a, .bool b => decide (a = b)
 | _, _ => false
def sameL : List Value -> List Value -> Bool
 | [], [] => true
 | a :: l, b :: r => sameV a b && sameL l r
 | _, _ => false
theorem run_eqCell {P : Program} (w : World) {k : Kd} {t : TypeId} (hk : k.ofType P t = true) {a b : Value} (ha : k.fits a = true) (hb : k.fits b = true) (d : Nat) : (Op.equalIn (d + 1) t a b).run P w = .ok (sameV a b) w := by
 cases k with
 | int q =>
  simp only [Kd.ofType] at hk
  split at hk
  ·rename_i q' hu
   have hq := dcT hk
   subst hq
   cases a <;> simp only [Kd.fits, Bool.false_eq_true] at ha
   cases b <;> simp only [Kd.fits, Bool.false_eq_true] at hb
   have h1 := dcT ha
   have h2 := dcT hb
   subst h1
   rename_i x _ y
   subst h2
   rw [run_equalIn_int w d t _ _ x y hu]
   rw [show (x == y) = decide (x = y) by by_cases hxy : x = y <;> simp [hxy]]; rfl
  ·cases hk
 | str =>
  simp only [Kd.ofType] at hk
  split at hk
  ·rename_i hu
   cases a <;> simp only [Kd.fits, Bool.false_eq_true] at ha
   cases b <;> simp only [Kd.fits, Bool.false_eq_true] at hb
   rename_i x y
   rw [run_equalIn_string w d t x y hu, toList_eq]
   rfl
  ·cases hk
 | bool =>
  simp only [Kd.ofType] at hk
  split at hk
  ·rename_i hu
   cases a <;> simp only [Kd.fits, Bool.false_eq_true] at ha
   cases b <;> simp only [Kd.fits, Bool.false_eq_true] at hb
   rename_i x y
   rw [run_equalIn_bool w d t x y hu]
   cases x <;> cases y <;> rfl
  ·cases hk
theorem ofType_plain {P : Program} {t : TypeId} {k : Kd} (h : k.ofType P t = true) : P.plainKey t = true := by
 unfold Program.plainKey
 cases k <;> simp only [Kd.ofType] at h <;> split at h <;> first | cases h; done | simp_all
theorem Yco {P : Program} (w : World) (d : Nat) : ∀ (ks : List Kd) (fs : List Field) (pre pre' us vs : List Value), pre.length = pre'.length -> fieldsB P pre.length ks fs = true -> kindsB ks us = true -> kindsB ks vs = true ->
 (Op.eqFields (d + 1) (pre ++ us).toArray (pre' ++ vs).toArray fs).run P w = .ok (sameL us vs) w
 | [], [], _, _, [], [], _, _, _, _ => by simp [Op.eqFields, sameL]
 | k :: ks, f :: fs, pre, pre', u :: us, v :: vs, hl, hf, hu, hv => by
  simp only [fieldsB, kindsB, ZbA, bne_iff_ne, beq_iff_eq] at hf hu hv
  obtain ⟨⟨⟨hn, ho⟩, hk⟩, hf⟩ := hf
  have ih := Yco w d ks fs (pre ++ [u]) (pre' ++ [v]) us vs (by simp [hl]) (by simpa using hf) hu.2 hv.2
  have p1 : (part f.type (pre ++ u :: us).toArray f.offset).run P w = .ok u w := run_part_plain w (ofType_plain hk) (by rw [ho]; simp)
  have p2 : (part f.type (pre' ++ v :: vs).toArray f.offset).run P w = .ok v w := run_part_plain w (ofType_plain hk) (by rw [ho, hl]; simp)
  rw [List.append_assoc, List.append_assoc] at ih
  simp only [List.cons_append, List.nil_append] at ih
  simp only [Op.eqFields, hn, ne_eq, not_false_eq_true, if_true, Sem.run_bind, p1, p2, run_eqCell w hk hu.1 hv.1, Result.andThen_ok, sameL]
  cases sameV u v
  ·simp
  ·simpa using ih
 | [], _ :: _, _, _, _, _, _, h, _, _ => by simp [fieldsB] at h
 | _ :: _, [], _, _, _, _, _, h, _, _ => by simp [fieldsB] at h
 | [], [], _, _, _ :: _, _, _, _, h, _ => by simp [kindsB] at h
 | [], [], _, _, [], _ :: _, _, _, _, h => by simp [kindsB] at h
 | _ :: _, _ :: _, _, _, [], _, _, _, h, _ => by simp [kindsB] at h
 | _ :: _, _ :: _, _, _, _ :: _, [], _, _, _, h => by simp [kindsB] at h
def eqStructB (P : Program) (t : TypeId) (ks : List Kd) : Bool :=
 (match P.underlying t with | some (.struct fs) => fieldsB P 0 ks fs.toList | _ => false) && !P.stoodInHeld t && !P.eqGuardType P.depth t
structure EqT (P : Program) (t : TypeId) (ks : List Kd) : Prop where
 guard : ∀ (op : BinOp) (x y : Operand) (us vs : Array Value) (w : World), (eqGuard op t x y (.agg us) (.agg vs)).run P w = .ok () w
 run : ∀ (us vs : List Value) (w : World), kindsB ks us = true -> kindsB ks vs = true -> (Op.equal t (.agg us.toArray) (.agg vs.toArray)).run P w = .ok (sameL us vs) w
theorem EqT.of {P : Program} {t : TypeId} {ks : List Kd} (h : eqStructB P t ks = true) : EqT P t ks := by
 unfold eqStructB at h
 simp only [ZbA, Bool.not_eq_true'] at h
 obtain ⟨⟨h1, h2⟩, h3⟩ := h
 split at h1
 ·rename_i fs hu
  have hfs : P.fieldsOf t = fs := by simp [Program.fieldsOf, hu]
  refine ⟨fun op x y us vs w => ?_, fun us vs w hk1 hk2 => ?_⟩
  ·unfold eqGuard
   cases op <;> first | rfl | (simp [run_program, h3])
  ·have h4 := Yco w 9998 ks fs.toList [] [] us vs rfl (by simpa using h1) hk1 hk2
   unfold Op.equal
   rw [show Op.maxDepth = 9999 + 1 from rfl, run_equalIn_struct w 9999 t us.toArray vs.toArray (by rw [hfs]; exact hu) h2, hfs]
   simpa using h4
 ·cases h1
def EqD (P : Program) (t : TypeId) (ds1 ds2 : List D) (b : Bool) : Prop := ∃ us vs : List Value, ds1 = us.map D.v /\ ds2 = vs.map D.v /\ (∀ (op : BinOp) (x y : Operand) (w : World), (eqGuard op t x y (.agg us.toArray) (.agg vs.toArray)).run P w = .ok () w) /\
 ∀ w, (Op.equal t (.agg us.toArray) (.agg vs.toArray)).run P w = .ok b w
theorem EqD.of {P : Program} {t : TypeId} {ks : List Kd} {ds1 ds2 : List D} {b : Bool} (T : EqT P t ks) (us vs : List Value) (h1 : ds1 = us.map D.v) (h2 : ds2 = vs.map D.v) (k1 : kindsB ks us = true) (k2 : kindsB ks vs = true) (hb : sameL us vs = b) : EqD P t ds1 ds2 b :=
 ⟨us, vs, h1, h2, fun op x y w => T.guard op x y _ _ w, fun w => by rw [T.run us vs w k1 k2, hb]⟩
theorem rep_vs {F : Nat -> Prop} {w : World} {x : Value} {us : List Value} (h : Rep F w x (.agg (us.map D.v))) : x = .agg us.toArray := by
 cases h with
 | agg cs ds hl hone h =>
  congr 2
  rw [ZlM] at hl
  refine List.ext_getElem hl fun i h1 h2 => ?_
  have := h i h1 (by rw [ZlM]; exact h2)
  rw [ZgP] at this
  exact rep_v this
section
variable {P : Program} {B : Nat} {ops : Array Oper} {o : Oper} {e : Env} {σ : Obs}
theorem AOp.aggNeq {t ty : TypeId} {x y : Operand} {ds1 ds2 : List D} {b : Bool} (ho : o.op = .binOp .neq t x y ty) (hx : e.ev x = .d (.agg ds1)) (hy : e.ev y = .d (.agg ds2)) (E : EqD P t ds1 ds2 b) : AOp P B ops o e σ (.d (.v (.bool (!b)))) := .value fun F ρ w a hF hr _ => by
 obtain ⟨us, vs, rfl, rfl, hg, hq⟩ := E
 have h1 := hr x (by rw [ho]; simp [Op.operands])
 have h2 := hr y (by rw [ho]; simp [Op.operands])
 rw [hx] at h1
 rw [hy] at h2
 refine ⟨.bool (!b), F, w, ?_, .d (.v _), Ext.refl hF⟩
 unfold execOp
 simp only [ho, rep_vs (Yao h1), rep_vs (Yao h2)]
 rw [Sem.run_bind, Sem.run_bind, hg]
 simp only [Result.andThen_ok, binOp, Sem.run_bind, hq, Sem.run_pure]
end
theorem wp_to2 {P : Program} {o : Oper} {a : Act} {w : World} {K K' : Act -> World -> Prop} {Q Q' : Exit -> Act -> World -> Prop} (h : ∀ a w, K a w -> K' a w) (hq : ∀ e a w, e ≠ .normal -> Q e a w -> Q' e a w)
 (hh : o.wp P a w K Q) : o.wp P a w K' Q' := by
 unfold Oper.wp at *
 generalize (execOp a.eval o).run P w = r at *
 cases r with
 | ok n w' =>
  cases n <;> simp only [Oper.upon] at hh ⊢ <;>
   first
    | exact h _ _ hh
    | exact Calls.mono hh (fun e w'' he => by cases e <;> first | exact h _ _ he | exact hq _ _ _ (by simp) he | exact he.imp fun _ => Exists.imp fun _ => hq _ _ _ (by simp))
    | exact Rows.mono hh (fun _ _ he => h _ _ he)
 | halt x w' => cases x <;> simp only [Oper.upon] at hh ⊢ <;> first | exact hq _ _ _ (by simp) hh | exact hh
def Region.edge (ops : Array Oper) (m j : Nat) : Bool := ((ops[m]?).map fun o => o.after.any fun e => Region.binds .any e && Nat.beq e.on j).getD false
def Region.downB (ops : Array Oper) : Bool := (List.range ops.size).all fun i =>
 ((ops[i]?).map fun o => (o.after.all fun e => !Region.binds .any e || Nat.blt e.on i) && (match o.guard with | none => true | some p => Nat.blt p.1 i)).getD true
def Region.chainB (ops : Array Oper) (k : Nat) : Bool := Region.downB ops && Nat.ble k ops.size && (List.range (ops.size - 1)).all fun j =>
 (List.range ops.size).any fun m => Nat.blt j m && (Nat.ble m k || Nat.ble m (j + 1)) && Region.edge ops m j
theorem Region.edge_spec {ops : Array Oper} {m j : Nat} (h : Region.edge ops m j = true) : ∃ o, ops[m]? = some o /\ ∃ e ∈ o.after, Region.binds .any e = true /\ e.on = j := by
 unfold Region.edge at h
 cases ho : ops[m]? with
 | none => rw [ho] at h; simp at h
 | some o =>
  rw [ho] at h
  simp only [Option.map_some, Option.getD_some, Array.any_eq_true'] at h
  obtain ⟨e, he, hb⟩ := h
  simp only [ZbA] at hb
  exact ⟨o, J, e, he, hb.1, Nat.eq_of_beq_eq_true hb.2⟩
theorem Region.down_spec {ops : Array Oper} (h : Region.downB ops = true) {i : Nat} {o : Oper} (ho : ops[i]? = some o) : (∀ e ∈ o.after, Region.binds .any e = true -> e.on < i) /\ ∀ p, o.guard = some p -> p.1 < i := by
 have h1 := List.all_eq_true.1 h i (List.mem_range.2 (ZaS.1 ho).1)
 rw [ho] at h1
 simp only [Option.map_some, Option.getD_some, ZbA] at h1
 refine ⟨fun e he hb => ?_, fun p hp => ?_⟩
 ·have := Array.all_eq_true_iff_forall_mem.1 h1.1 e he
  rw [hb] at this
  simpa [Nat.blt_eq] using this
 ·have h2 := h1.2
  rw [hp] at h2
  simpa [Nat.blt_eq] using h2
structure Chain (ops : Array Oper) (k : Nat) : Prop where
 down : Region.downB ops = true
 le : k <= ops.size
 next : ∀ j, j < ops.size - 1 -> ∃ m, j < m /\ (m <= k \/ m <= j + 1) /\ Region.edge ops m j = true
theorem Chain.of {ops : Array Oper} {k : Nat} (h : Region.chainB ops k = true) : Chain ops k := by
 unfold Region.chainB at h
 simp only [ZbA] at h
 obtain ⟨⟨h1, h2⟩, h3⟩ := h
 refine ⟨h1, ZnB h2, fun j hj => ?_⟩
 have h4 := List.all_eq_true.1 h3 j (List.mem_range.2 hj)
 obtain ⟨m, _, hm⟩ := List.any_eq_true.1 h4
 simp only [ZbA, Bool.or_eq_true, Nat.blt_eq] at hm
 exact ⟨m, hm.1.1, hm.1.2.imp ZnB ZnB, hm.2⟩
def Closed (ops : Array Oper) (listed : Array Bool) : Prop := ∀ i o, ops[i]? = some o -> listed.getD i false = true -> ∀ e ∈ o.after, Region.binds .any e = true -> listed.getD e.on false = true
theorem Ya6 {listed : Array Bool} {j : Nat} (h : j < listed.size) (a b : Bool) : listed.getD j a = listed.getD j b := by simp [ZaD, h]
theorem Closed.set {ops : Array Oper} {listed : Array Bool} (h : Closed ops listed) {i : Nat} (hi : i ∈ Region.ready .any ops listed) : Closed ops (listed.setIfInBounds i true) := by
 intro m o ho hm e he hb
 by_cases hmi : i = m
 ·subst hmi
  obtain ⟨_, o', ho', hall⟩ := mem_ready.1 hi
  rw [ho] at ho'; cases ho'
  exact getD_set_true (hall e he hb)
 ·rw [getD_set_ne false hmi] at hm
  exact getD_set_true (h m o ho hm e he hb)
theorem Chain.before {ops : Array Oper} {k : Nat} (hC : Chain ops k) {listed : Array Bool} (hc : Closed ops listed) {i : Nat} (hi : i ∈ Region.ready .any ops listed) (hk : k <= i) : ∀ d j, j + d = i -> 0 < d -> listed.getD j false = true := by
 obtain ⟨_, oi, hoi, hall⟩ := mem_ready.1 hi
 have hlt : i < ops.size := (ZaS.1 hoi).1
 intro d
 induction d using Nat.strongRecOn with
 | ind d ih =>
  intro j hj hd
  obtain ⟨m, h1, h2, h3⟩ := hC.next j (by omega)
  obtain ⟨o, ho, e, he, hb, heq⟩ := Region.edge_spec h3
  by_cases hmi : m = i
  ·subst hmi
   rw [hoi] at ho; cases ho
   rw [<- heq]; exact hall e he hb
  ·have := ih (i - m) (by omega) m (by omega) (by omega)
   rw [<- heq]; exact hc m o ho this e he hb
theorem YbW {ops : Array Oper} (hd : Region.downB ops = true) {listed : Array Bool} (hs : listed.size = ops.size) : ∀ j, j < ops.size -> listed.getD j true = false -> ∃ m, m <= j /\ m ∈ Region.ready .any ops listed := by
 intro j
 induction j using Nat.strongRecOn with
 | ind j ih =>
  intro hj hu
  by_cases hr : j ∈ Region.ready .any ops listed
  ·exact ⟨j, ZnR _, hr⟩
  ·have ho : ops[j]? = some ops[j] := Array.getElem?_eq_getElem hj
   have : ¬ ∀ e ∈ ops[j].after, Region.binds .any e = true -> listed.getD e.on false = true := fun hh => hr (mem_ready.2 ⟨hu, _, ho, hh⟩)
   simp only [Classical.not_forall] at this
   obtain ⟨e, he, hb, hn⟩ := this
   have hlt := (Region.down_spec hd ho).1 e he hb
   obtain ⟨m, h1, h2⟩ := ih e.on hlt (by omega) (by
    rw [Ya6 (by omega) true false]
    simpa using hn)
   exact ⟨m, by omega, h2⟩
section
variable {P : Program} {ops : Array Oper} {Q Q0 : Exit -> Act -> World -> Prop} {k : Nat}
theorem wpAny_chain (hC : Chain ops k) : ∀ (l : List Oper) (i : Nat) (listed : Array Bool) (fuel : Nat) (a : Act) (w : World), (∀ j, l[j]? = ops[i + j]?) -> i + l.length = ops.size -> k <= i -> listed.size = ops.size ->
 (∀ j, j < i -> listed.getD j false = true) -> (∀ j, i <= j -> j < ops.size -> listed.getD j true = false) -> Closed ops listed -> l.length <= fuel -> wpList P ops Q l a w -> wpAny P .any ops Q fuel listed a w
 | [], i, listed, fuel, a, w, hl, hsz, hk, hls, h1, h2, hc, hf, h => by
  have hr : Region.ready .any ops listed = [] := by
   refine List.eq_nil_iff_forall_not_mem.2 fun m hm => ?_
   obtain ⟨hu, o, ho, _⟩ := mem_ready.1 hm
   have hlt : m < ops.size := (ZaS.1 ho).1
   have := h1 m (by simp at hsz; omega)
   rw [Ya6 (by omega) false true, hu] at this
   simp at this
  cases fuel with
  | zero => exact ⟨hr, h⟩
  | succ f => exact ⟨fun _ => h, fun m hm => by rw [hr] at hm; cases hm⟩
 | o :: l, i, listed, fuel, a, w, hl, hsz, hk, hls, h1, h2, hc, hf, h => by
  have h0 : ops[i]? = some o := by simpa using (hl 0).symm
  have hlt : i < ops.size := (ZaS.1 h0).1
  have hl' : ∀ j, l[j]? = ops[i + 1 + j]? := fun j => by have := hl (j + 1); simpa [Nat.add_assoc, Nat.add_comm 1 j] using this
  have hui := h2 i (ZnR _) hlt
  have hir : i ∈ Region.ready .any ops listed := mem_ready.2 ⟨hui, o, h0, fun e he hb => h1 _ ((Region.down_spec hC.down h0).1 e he hb)⟩
  have hnext : ∀ (a' : Act) (w' : World), wpList P ops Q l a' w' -> wpAny P .any ops Q (fuel - 1) (listed.setIfInBounds i true) a' w' := fun a' w' h' =>
   wpAny_chain hC l (i + 1) _ _ a' w' hl' (by simp at hsz; omega) (by omega) (by simp [hls]) (fun j hj => by
    by_cases hji : i = j
    ·subst hji
     simp [ZaD, hls, hlt]
    ·rw [getD_set_ne false hji]; exact h1 j (by omega)) (fun j hj hj2 => by rw [getD_set_ne true (by omega)]; exact h2 j (by omega) hj2) (hc.set hir) (by simp at hf; omega) h'
  obtain ⟨f, rfl⟩ : ∃ f, fuel = f + 1 := ⟨fuel - 1, by simp at hf; omega⟩
  refine ⟨fun hr => (by rw [hr] at hir; cases hir), fun m hm => ?_⟩
  obtain ⟨hu, o', ho', _⟩ := mem_ready.1 hm
  have hm2 : m = i := by
   have hmlt : m < ops.size := (ZaS.1 ho').1
   rcases Nat.lt_trichotomy m i with hh | hh | hh
   ·have := h1 m hh
    rw [Ya6 (by omega) false true, hu] at this
    simp at this
   ·exact hh
   ·have := hC.before hc hm (by omega) (m - i) i (by omega) (by omega)
    rw [Ya6 (by omega) false true, hui] at this
    simp at this
  subst hm2
  unfold wpOp
  simp only [h0]
  unfold wpList at h
  by_cases hw : Region.wanted o (yielded ops a.tmps) = true
  ·rw [if_pos hw] at h ⊢
   exact h.imp (Oper.wp_mono hnext) id
  ·rw [if_neg hw] at h ⊢
   exact hnext _ _ h
theorem wanted_same {ops0 : Array Oper} {o : Oper} {tmps : Array Value} (h : ∀ p, o.guard = some p -> ops0[p.1]? = ops[p.1]?) : Region.wanted o (yielded ops0 tmps) = Region.wanted o (yielded ops tmps) := by
 unfold Region.wanted
 cases hg : o.guard with
 | none => rfl
 | some p =>
  obtain ⟨j, want⟩ := p
  have := h (j, want) hg
  dsimp only at this ⊢
  unfold yielded
  rw [this]
theorem wpAny_split (hC : Chain ops k) {ops0 : Array Oper} (h0 : ops0.size = k) (hpre : ∀ j, j < k -> ops0[j]? = ops[j]?) (hN : ∀ a w, Q0 .normal a w -> wpList P ops Q (ops.toList.drop k) a w) (hE : ∀ e a w, e ≠ .normal -> Q0 e a w -> Q e a w) :
 ∀ (fuel0 : Nat) (listed0 listed : Array Bool) (fuel : Nat) (a : Act) (w : World), listed0.size = k -> listed.size = ops.size -> (∀ j, j < k -> ∀ d, listed0.getD j d = listed.getD j d) -> (∀ j, k <= j -> j < ops.size -> listed.getD j true = false) ->
  Closed ops listed -> fuel0 + (ops.size - k) <= fuel -> wpAny P .any ops0 Q0 fuel0 listed0 a w -> wpAny P .any ops Q fuel listed a w := by
 have hle := hC.le
 have hd0 : Region.downB ops0 = true := by
  unfold Region.downB
  refine List.all_eq_true.2 fun i hi => ?_
  have hik := List.mem_range.1 hi
  have h1 := List.all_eq_true.1 hC.down i (List.mem_range.2 (by omega))
  rw [hpre i (by omega)]
  exact h1
 have all : ∀ (fuel0 : Nat) (listed0 listed : Array Bool) (fuel : Nat) (a : Act) (w : World), listed0.size = k -> listed.size = ops.size -> (∀ j, j < k -> ∀ d, listed0.getD j d = listed.getD j d) -> (∀ j, k <= j -> j < ops.size -> listed.getD j true = false) ->
  Closed ops listed -> fuel0 + (ops.size - k) <= fuel -> wpAny P .any ops0 Q0 fuel0 listed0 a w -> (∀ j, j < k -> listed.getD j false = true) -> wpAny P .any ops Q fuel listed a w := by
  intro fuel0 listed0 listed fuel a w hs0 hs hag hun hc hf H hall
  have hr0 : Region.ready .any ops0 listed0 = [] := by
   refine List.eq_nil_iff_forall_not_mem.2 fun m hm => ?_
   obtain ⟨hu, o, ho, _⟩ := mem_ready.1 hm
   have hlt : m < ops0.size := (ZaS.1 ho).1
   have h1 := hall m (by omega)
   rw [<- hag m (by omega), Ya6 (by omega) false true, hu] at h1
   simp at h1
  have hQ : Q0 .normal a w := by
   cases fuel0 with
   | zero => exact H.2
   | succ f => exact H.1 hr0
  exact wpAny_chain hC (ops.toList.drop k) k listed fuel a w (fun j => by rw [ZgO, Array.getElem?_toList]) (by rw [ZlD, ZaL]; omega) (ZnR _) hs hall hun hc (by rw [ZlD, ZaL]; omega) (hN a w hQ)
 intro fuel0
 induction fuel0 with
 | zero =>
  intro listed0 listed fuel a w hs0 hs hag hun hc hf H
  refine all 0 listed0 listed fuel a w hs0 hs hag hun hc hf H fun j hj => ?_
  cases hh : listed.getD j false with
  | true => rfl
  | false =>
   rw [<- hag j hj, Ya6 (by omega) false true] at hh
   obtain ⟨m, _, hm⟩ := YbW hd0 (by omega) j (by omega) hh
   rw [H.1] at hm; cases hm
 | succ fuel0 ih =>
  intro listed0 listed fuel a w hs0 hs hag hun hc hf H
  by_cases hall : ∀ j, j < k -> listed.getD j false = true
  ·exact all _ listed0 listed fuel a w hs0 hs hag hun hc hf H hall
  ·simp only [Classical.not_forall] at hall
   obtain ⟨j, hj, hjn⟩ := hall
   have hju : listed.getD j true = false := by rw [Ya6 (by omega) true false]; simpa using hjn
   obtain ⟨f, rfl⟩ : ∃ f, fuel = f + 1 := ⟨fuel - 1, by omega⟩
   refine ⟨fun hr => ?_, fun m hm => ?_⟩
   ·obtain ⟨m, _, hm⟩ := YbW hC.down hs j (by omega) hju
    rw [hr] at hm; cases hm
   ·obtain ⟨hu, o, ho, hdep⟩ := mem_ready.1 hm
    have hmlt : m < ops.size := (ZaS.1 ho).1
    have hmk : m < k := by
     refine Nat.lt_of_not_le fun hkm => hjn ?_
     exact hC.before hc hm hkm (m - j) j (by omega) (by omega)
    have ho0 : ops0[m]? = some o := by rw [hpre m hmk]; exact ho
    have hm0 : m ∈ Region.ready .any ops0 listed0 := mem_ready.2 ⟨by rw [hag m hmk]; exact hu, o, ho0, fun e he hb => by
     have := (Region.down_spec hC.down ho).1 e he hb
     rw [hag _ (by omega)]; exact hdep e he hb⟩
    have h1 := H.2 m hm0
    unfold wpOp at h1 ⊢
    simp only [ho, ho0] at h1 ⊢
    rw [wanted_same (ops := ops) fun p hp => hpre _ (by have := (Region.down_spec hC.down ho).2 p hp; omega)] at h1
    have hnext : ∀ (a' : Act) (w' : World), wpAny P .any ops0 Q0 fuel0 (listed0.setIfInBounds m true) a' w' -> wpAny P .any ops Q f (listed.setIfInBounds m true) a' w' := fun a' w' h' =>
     ih _ _ f a' w' (by simp [hs0]) (by simp [hs]) (fun j hj d => by
      by_cases hmj : m = j
      ·subst hmj
       simp [ZaD, hs0, hs, hmk, hmlt]
      ·rw [getD_set_ne d hmj, getD_set_ne d hmj]; exact hag j hj d) (fun j hj hj2 => by rw [getD_set_ne true (by omega)]; exact hun j hj hj2) (hc.set hm) (by omega) h'
    by_cases hw : Region.wanted o (yielded ops a.tmps) = true
    ·rw [if_pos hw] at h1 ⊢
     exact h1.imp (wp_to2 hnext hE) fun h => ⟨h.1, h.2.imp fun _ => Exists.imp fun _ => hE _ _ _ (by simp)⟩
    ·rw [if_neg hw] at h1 ⊢
     exact hnext _ _ h1
end
theorem AWP.drawTail {cx : Cx} {id : Nat} {l : List Oper} {e : Env} {σ : Obs} {Q : Post} (k : Nat) (hm : cx.P.follows .mixedOrders = true) (hB : Region.lexB .any (l.take k).toArray = true) (hC : Region.chainB l.toArray k = true)
 (h : DRun cx (l.take k).toArray σ (l.take k) e (fun e => AOps cx l.toArray (l.drop k) e σ Q)) : AWP cx (.region id l.toArray true) e σ Q := by
 intro a w ⟨F, ρ, hr⟩
 simp only [Region.lexB, ZbA] at hB
 have hch := Chain.of hC
 have hkl : k <= l.length := by simpa using hch.le
 have h1 := anyD_lex (l.take k) 0 (Array.replicate (l.take k).toArray.size false) e (by simp) (by simpa using hB.2) h
 have h2 := wpAny_of_D (cx := cx) (ops := (l.take k).toArray) (Q := fun ex e σ => match ex with | .normal => AOps cx l.toArray (l.drop k) e σ Q | _ => False) (by simpa using DRun.dsts _ e h) _ _ e a _ ⟨F, ρ, hr.drew⟩ h1
 refine wp_region_any hm (wpAny_split hch (ops0 := (l.take k).toArray) (by simp; omega) (fun j hj => by simp [hj]) ?_ ?_ (l.take k).length _ _ _ _ _ (by simp; omega) (by simp) ?_ ?_ ?_ (by simp; omega) h2)
 ·rintro a w ⟨e, σ, h3, h4⟩
  have := h3 a w h4
  simpa using this
 ·rintro ex a w hne ⟨e, σ, h3, _⟩
  cases ex <;> first | exact absurd rfl hne | exact h3.elim
 ·intro j hj d
  have h5 : j < l.length := by omega
  have h6 : j < min k l.length := by omega
  simp [ZaD, h5, h6]
 ·intro j hj hj2
  have : j < l.length := by simpa using hj2
  simp [ZaD, this]
 ·intro i o ho hi
  have : i < l.length := by simpa using (ZaS.1 ho).1
  simp [ZaD, this] at hi
end
section
open Go.RowKit Go.MapKept
def MPut (M : List (Value × D)) (key : Value) (d : D) (M' : List (Value × D)) : Prop :=
 (∃ i d0, M[i]? = some (key, d0) /\ (∀ (j : Nat) (p : Value × D), M[j]? = some p -> p.1 = key -> j = i) /\ M' = M.set i (key, d)) \/ ((∀ p ∈ M, p.1 ≠ key) /\ M' = M ++ [(key, d)])
def MGet (M : List (Value × D)) (key : Value) (z d : D) : Prop := (∃ i, M[i]? = some (key, d) /\ ∀ (j : Nat) (p : Value × D), M[j]? = some p -> p.1 = key -> j = i) \/ ((∀ p ∈ M, p.1 ≠ key) /\ d = z)
theorem Yb0 {F : Nat -> Prop} {w : World} {M : List (Value × D)} {es : Array MapEntry} (hl : es.size = M.length) (h : ∀ i (h : i < es.size) (h' : i < M.length), es[i].key = M[i].1 /\ Rep F w es[i].val M[i].2) {j : Nat} {en : MapEntry} (hj : es.toList[j]? = some en) :
 ∃ p, M[j]? = some p /\ en.key = p.1 /\ Rep F w en.val p.2 := by
 rw [Array.getElem?_toList] at hj
 obtain ⟨h1, h2⟩ := ZaS.1 hj
 refine ⟨M[j]'(by omega), ZgE _, ?_, ?_⟩
 ·rw [<- h2]; exact (h j h1 (by omega)).1
 ·rw [<- h2]; exact (h j h1 (by omega)).2
theorem YbU {w : World} {b : Nat} {o : Obj} : Turn w { w with heap := w.heap.setIfInBounds b o } (some b) :=
 ⟨rfl, rfl, rfl, by simp, fun k _ hne => by
  have : b ≠ k := fun h => hne (by rw [h])
  simp [this]⟩
section
variable {cx : Cx} {ops : Array Oper} {o : Oper} {rest : List Oper} {e : Env} {σ σ' : Obs} {Q : Post}
theorem AOps.eff (hg : o.guard = none) (ht : o.dst = none) (h : EOp cx ops o e σ σ') (k : AOps cx ops rest e σ' Q) : AOps cx ops (o :: rest) e σ Q := by
 intro a w ⟨F, ρ, hr⟩
 refine wpList_plain hg fun K hK => ?_
 refine wp_to ?_ (fun _ _ _ => False.elim) (h F ρ a w e hr (fun t _ => hr.env t))
 rintro a' w' ⟨rfl, h3⟩
 obtain ⟨F', ρ', h4⟩ := h3 e hr
 exact hK _ _ (k _ _ ⟨F', ρ', h4⟩)
theorem AOps.makeMap {t dst : Nat} (id : Nat) (hg : o.guard = none) (ht : o.dst = some dst) (hdn : Nat.blt dst cx.N = true) (ho : o.op = .makeMap t none) (hid : Obs.fresh id σ = true)
 (k : AOps cx ops rest ((e.kill id).put (some dst) (.own id)) ((id, .map []) :: Obs.kill id σ) Q) (hfx : cx.free id = true := by rfl) : AOps cx ops (o :: rest) e σ Q := by
 intro a w ⟨F, ρ, h⟩
 refine wpList_plain hg fun K hK => ?_
 unfold Oper.wp execOp
 simp only [ho, Option.map_none, Sem.run_bind, run_makeMap, Result.andThen_ok, Sem.run_pure]
 refine hK _ _ (k _ _ ⟨F, fun j => if j = id then .map (some w.heap.size) else ρ j, ?_⟩)
 have hE : Ext F w F (w.alloc (.map #[] 0)) := Ext.of_below h.lt ((Below.refl _ _).alloc (ZnR _) _)
 have h2 := h.turn (ρ' := fun j => if j = id then .map (some w.heap.size) else ρ j) (id := id) (ob := .map []) (row := none) (w' := w.alloc (.map #[] 0)) (F' := F) (fun j hj => by simp [hj])
  ⟨hE.below.os, hE.below.tape, hE.below.output, hE.below.size, fun k hk _ => hE.below.block k hk⟩ hfx (fun g hg => by simp at hg) (fun b hb => hb) (fun b hb => .inl hb) hE.lt
  ⟨w.heap.size, #[], 0, by simp, h.hB, fun hf => by have := h.lt _ hf; omega, (MapKept.heap_alloc w _).1, MapC.nil 0, fun i hi => by simp at hi⟩
  (fun g hg => by simp [blk] at hg; exact .inr (by omega)) ((id, .map []) :: Obs.kill id σ) (fun p hp => by
   cases hp with
   | head => exact .inl rfl
   | tail _ hp => obtain ⟨q, hq, rfl⟩ := Obs.mem_kill hp; exact .inr ⟨q, hq, Obs.fresh_spec hid q hq, rfl⟩)
 have h3 := h2.put (o := ⟨some dst, .ready 0, 0, "", #[], none⟩) (v := .map (some w.heap.size)) (s := .own id) (Ext.refl h2.lt) (by
  have := RepS.own (F := F) (ρ := fun j => if j = id then Value.map (some w.heap.size) else ρ j) (w := w.alloc (.map #[] 0)) id
  simpa using this) (by simpa [DstOk, Nat.blt_eq] using hdn)
 rw [ht]
 exact h3
end
section
variable {P : Program} {B : Nat} {ops : Array Oper} {o : Oper} {e : Env} {σ : Obs}
def CapsOk (e : Env) : List Operand -> List Cap -> Prop
 | [], [] => True
 | x :: xs, .p id off :: cs => e.ev x = .ptr id off /\ CapsOk e xs cs
 | x :: xs, .d y :: cs => e.ev x = .d y /\ CapsOk e xs cs
 | _, _ => False
theorem CapsOk.d {x : Operand} {xs : List Operand} {y : D} {cs : List Cap} (h : e.ev x = .d y) (k : CapsOk e xs cs) : CapsOk e (x :: xs) (.d y :: cs) := ⟨h, k⟩
end
def Cap.toS : Cap -> S
 | .p id off => .ptr id off
 | .d y => .d y
theorem RepCL.toS {F : Nat -> Prop} {ρ : Nat -> Value} {w : World} : ∀ {cs : List Value} {caps : List Cap}, RepCL F ρ w cs caps -> RepSL F ρ w cs (caps.map Cap.toS)
 | [], [], _ => ⟨rfl, fun i h => absurd h (by simp)⟩
 | x :: xs, c :: cs, h => by
  have h1 := RepCL.toS h.2
  refine ⟨by simpa using h1.1, fun i h2 h3 => ?_⟩
  cases i with
  | zero =>
   have h4 := h.1
   cases c with
   | p id off => cases h4 with | p _ _ g hg => exact .ptr id off g hg
   | d y => cases h4 with | d h4 => exact .d h4
  | succ i => exact h1.2 i (by simpa using h2) (by simpa using h3)
 | [], _ :: _, h => h.elim
 | _ :: _, [], h => h.elim
section
variable {cx : Cx} {ops : Array Oper} {o : Oper} {rest : List Oper} {e : Env} {σ : Obs} {Q : Post}
end
theorem Yac {id : Nat} {o o' : Ob} {σ : Obs} (h : (id, o) ∈ σ) (hd : o = o') : (id, o') ∈ σ := hd ▸ h
theorem R0.recell {cx : Cx} {F : Nat -> Prop} {ρ : Nat -> Value} {e : Env} {σ : Obs} {a : Act} {w : World} (hr : R0 cx F ρ e σ a w) {id off : Nat} {ss : List S} {s s' : S} (hm : (id, Ob.cells ss) ∈ σ) (hs : ss[off]? = some s) (h : ∀ x, RepS F ρ w x s -> RepS F ρ w x s') :
 R0 cx F ρ e (Obs.upd id (.cells (ss.set off s')) σ) a w := by
 obtain ⟨g, ty, cs, h2, h3, h4, h5, h6, h7⟩ := hr.obs.ok _ hm
 dsimp only at h2
 refine hr.writeOb (g := g) (by rw [h2]; rfl) hm h3 h4 ⟨rfl, rfl, rfl, ZnR _, fun _ _ _ => rfl⟩ ⟨g, ty, cs, h2, h3, h4, h5, by simp [h6], fun j hj hj' => ⟨(h7 j hj (by simpa using hj')).1, ?_⟩⟩
 rw [List.getElem_set]
 by_cases hj2 : off = j
 ·rw [if_pos hj2]
  subst hj2
  have h8 := (h7 off hj (by simpa using hj')).2
  rw [(ZgS.1 hs).2] at h8
  exact h _ h8
 ·rw [if_neg hj2]
  exact (h7 j hj (by simpa using hj')).2
theorem R0.adoptCell {cx : Cx} {F : Nat -> Prop} {ρ : Nat -> Value} {e : Env} {σ : Obs} {a : Act} {w : World} (h : R0 cx F ρ e σ a w) {id off : Nat} {ss : List S} (id2 ee size : Nat) (hm : (id, Ob.cells ss) ∈ σ) (hs : ss[off]? = some (.d (.v (.slice none 0 0)))) (hid : ∀ p ∈ σ, p.1 ≠ id2) (hfx : cx.free id2 = true) :
 ∃ ρ', R0 cx F ρ' (e.kill id2) (Obs.upd id (.cells ((ss.map (S.kill id2)).set off (.own id2))) ((id2, .row ee size []) :: Obs.kill id2 σ)) a w := by
 refine ⟨fun j => if j = id2 then .slice none 0 0 else ρ j, ?_⟩
 have h1 := h.turn (ρ' := fun j => if j = id2 then .slice none 0 0 else ρ j) (id := id2) (ob := .row ee size []) (row := none) (w' := w) (F' := F) (fun j hj => by simp [hj])
  ⟨rfl, rfl, rfl, ZnR _, fun _ _ _ => rfl⟩ hfx (fun g hg => by simp at hg) (fun b hb => hb) (fun b hb => .inl hb) h.lt
  ⟨fun _ _ => undef, by simp [World.ownsRow], fun i hi => by simp at hi, fun i hi => by simp at hi, fun g hg => by simp [blk] at hg⟩ (fun g hg => by simp [blk] at hg) ((id2, .row ee size []) :: Obs.kill id2 σ) (fun p hp => by
   cases hp with
   | head => exact .inl rfl
   | tail _ hp => obtain ⟨q, hq, rfl⟩ := Obs.mem_kill hp; exact .inr ⟨q, hq, hid q hq, rfl⟩)
 have hmk : ∀ {σ : Obs}, (id, Ob.cells ss) ∈ σ -> (id, Ob.cells (ss.map (S.kill id2))) ∈ Obs.kill id2 σ := by
  intro σ hh
  induction σ with
  | nil => cases hh
  | cons p l ih =>
   cases hh with
   | head => exact .head _
   | tail _ hh => exact .tail _ (ih hh)
 refine h1.recell (s := .d (.v (.slice none 0 0))) (.tail _ (hmk hm)) (by rw [List.getElem?_map, hs]; rfl) fun x hx => ?_
 rw [Ya0 hx]
 have := RepS.own (F := F) (ρ := fun j => if j = id2 then Value.slice none 0 0 else ρ j) (w := w) id2
 simpa using this
theorem AWP.adoptCell {cx : Cx} {c : Code} {e : Env} {σ : Obs} {Q : Post} (id2 ee size id off : Nat) {ss : List S} (hm : (id, Ob.cells ss) ∈ σ) (hs : ss[off]? = some (.d (.v (.slice none 0 0)))) (hid : Obs.fresh id2 σ = true)
 (k : AWP cx c (e.kill id2) (Obs.upd id (.cells ((ss.map (S.kill id2)).set off (.own id2))) ((id2, .row ee size []) :: Obs.kill id2 σ)) Q) (hfx : cx.free id2 = true := by rfl) : AWP cx c e σ Q := fun a w ⟨_, _, hr⟩ => by
 obtain ⟨ρ', h⟩ := hr.adoptCell id2 ee size hm hs (Obs.fresh_spec hid) hfx
 exact k a w ⟨_, ρ', h⟩
theorem R0.freezeCells {cx : Cx} {F : Nat -> Prop} {ρ : Nat -> Value} {e : Env} {σ : Obs} {a : Act} {w : World} (h : R0 cx F ρ e σ a w) {t id : Nat} {ds : List D} (ht : e t = .ptr id 0) (hm : (id, Ob.cells (ds.map S.d)) ∈ σ) :
 ∃ F', R0 cx F' ρ (e.put (some t) (.d (.fp ds))) (Obs.del id σ) a w := by
 have hF2 : ∀ b, (F b \/ blk (ρ id) = some b) -> b < w.heap.size := fun b hb => by
  rcases hb with hb | hb
  ·exact h.lt b hb
  ·exact ((h.obs.ok _ hm).blk_lt hb).2
 have keep : ∀ {x : Value} {s : S}, RepS F ρ w x s -> RepS (fun b => F b \/ blk (ρ id) = some b) ρ w x s := fun hx =>
  RepS.turn (row := none) hx h.lt (fun g hg => by simp at hg) ⟨rfl, rfl, rfl, ZnR _, fun _ _ _ => rfl⟩ (fun b hb => .inl hb)
 refine ⟨fun b => F b \/ blk (ρ id) = some b, h.size, h.defers, hF2, fun b hb => .inl (h.base b hb), fun b hb => ?_, h.below, h.hB, fun u => ?_, ?_, h.up, fun p hp => h.kown p (Obs.mem_del hp).1, h.fixed⟩
 ·rcases hb with hb | hb
  ·exact h.new b hb
  ·exact .inr (h.kown _ hm b hb)
 ·by_cases hu : u = t
  ·subst hu
   rw [Env.put_same]
   have h1 := h.env u
   rw [ht] at h1
   obtain ⟨g, ty, cs, h2, h3, h4, h5, h6, h7⟩ := h.obs.ok _ hm
   dsimp only at h2
   have hv := YbX h1 (g := g) (by rw [h2]; rfl)
   rw [hv]
   refine .d (.fp ⟨g, 0, none⟩ ds (fun j => cs.getD j undef) (.inr (by rw [h2]; rfl)) (fun j hj => ?_) (fun j hj => ?_) (fun j hj => ?_))
   ·have hjc : j < cs.length := by simp at h6; omega
    rw [YaU, cell_of_row w g (0 + j) cs.toArray ty (0, 0) h5]
    simp [hjc]
   ·have hjc : j < cs.length := by simp at h6; omega
    have := (h7 j hjc (by simpa using hj)).1
    simpa [hjc] using this
   ·have hjc : j < cs.length := by simp at h6; omega
    have h8 := (h7 j hjc (by simpa using hj)).2
    rw [ZgP] at h8
    have h9 := Yao (keep h8)
    simpa [hjc] using h9
  ·rw [Env.put_other _ _ _ _ hu]
   exact keep (h.env u)
 ·refine ⟨fun p hp => ?_, fun p hp q hq => h.obs.apart p (Obs.mem_del hp).1 q (Obs.mem_del hq).1, fun p hp q hq => h.obs.uniq p (Obs.mem_del hp).1 q (Obs.mem_del hq).1⟩
  obtain ⟨h1, h2⟩ := Obs.mem_del hp
  exact (h.obs.ok p h1).more h.lt (fun b hb => .inl hb) fun g hg hf => by
   rcases hf with hf | hf
   ·exact (h.obs.ok p h1).nF hg hf
   ·exact h.obs.apart p h1 _ hm h2 g hg hf
theorem AWP.freezeCells {cx : Cx} {c : Code} {e : Env} {σ : Obs} {Q : Post} (t : Nat) {id : Nat} {ds : List D} (ht : e t = .ptr id 0) (hm : (id, Ob.cells (ds.map S.d)) ∈ σ) (k : AWP cx c (e.put (some t) (.d (.fp ds))) (Obs.del id σ) Q) : AWP cx c e σ Q :=
 fun a w ⟨_, ρ, hr⟩ => by
  obtain ⟨F', h⟩ := hr.freezeCells ht hm
  exact k a w ⟨F', ρ, h⟩
theorem AOps.freezeCells {cx : Cx} {ops : Array Oper} {rest : List Oper} {e : Env} {σ : Obs} {Q : Post} (t : Nat) {id : Nat} {ds : List D} (ht : e t = .ptr id 0) (hm : (id, Ob.cells (ds.map S.d)) ∈ σ) (k : AOps cx ops rest (e.put (some t) (.d (.fp ds))) (Obs.del id σ) Q) : AOps cx ops rest e σ Q :=
 fun a w ⟨_, ρ, hr⟩ => by
  obtain ⟨F', h⟩ := hr.freezeCells ht hm
  exact k a w ⟨F', ρ, h⟩
end
section
open Go.RowKit
theorem S.kill_kill (id : Nat) (s : S) : (s.kill id).kill id = s.kill id := by
 cases s with
 | d x => rfl
 | own i => cases h : Nat.beq i id <;> simp only [S.kill, h]
 | ptr i off => cases h : Nat.beq i id <;> simp only [S.kill, h]
 | clo f caps => cases h : Cap.anyP (fun i => Nat.beq i id) caps <;> simp only [S.kill, h]
theorem R0.killEnv {cx : Cx} {F : Nat -> Prop} {ρ : Nat -> Value} {e : Env} {σ : Obs} {a : Act} {w : World} (h : R0 cx F ρ e σ a w) (id : Nat) : R0 cx F ρ (e.kill id) σ a w :=
 ⟨h.size, h.defers, h.lt, h.base, h.new, h.below, h.hB, fun t => (h.env t).kill id (fun _ _ => rfl), h.obs, h.up, h.kown, h.fixed⟩
def QF (dst id : Nat) (s0 : S) (ob : Ob) (e0 : Env) (σ : Obs) : Post := fun ex e' σ' => match ex with
 | .normal => e' = (e0.kill id).put (some dst) s0 /\ σ' = (id, ob) :: Obs.kill id σ
 | _ => False
structure Fr where
 dst : Nat
 id : Nat
 s0 : S
 ob : Ob
def frObs (Φ : List Fr) : Obs := Φ.map fun f => (f.id, f.ob)
structure FrOk (cx : Cx) (Φ : List Fr) (σ : Obs) : Prop where
 uid : ∀ f ∈ Φ, ∀ g ∈ Φ, f.id = g.id -> f = g
 udst : ∀ f ∈ Φ, ∀ g ∈ Φ, f.dst = g.dst -> f = g
 own : ∀ f ∈ Φ, f.s0.kill f.id = .d .any /\ f.s0 ≠ .d .any
 other : ∀ f ∈ Φ, ∀ g ∈ Φ, g.id ≠ f.id -> g.s0.kill f.id = g.s0 /\ g.ob.kill f.id = g.ob
 fresh : ∀ f ∈ Φ, Obs.fresh f.id σ = true
 kill : ∀ f ∈ Φ, Obs.kill f.id σ = σ
 free : ∀ f ∈ Φ, cx.free f.id = true
theorem FrOk.one {cx : Cx} {σ : Obs} {f : Fr} (h1 : f.s0.kill f.id = .d .any) (h2 : f.s0 ≠ .d .any) (h3 : Obs.fresh f.id σ = true) (h4 : Obs.kill f.id σ = σ) (h5 : cx.free f.id = true) : FrOk cx [f] σ where
 uid := fun a ha b hb _ => by rw [ZmS] at ha hb; rw [ha, hb]
 udst := fun a ha b hb _ => by rw [ZmS] at ha hb; rw [ha, hb]
 own := fun a ha => by rw [ZmS] at ha; subst ha; exact ⟨h1, h2⟩
 other := fun a ha b hb hne => by rw [ZmS] at ha hb; subst ha; subst hb; exact absurd rfl hne
 fresh := fun a ha => by rw [ZmS] at ha; subst ha; exact h3
 kill := fun a ha => by rw [ZmS] at ha; subst ha; exact h4
 free := fun a ha => by rw [ZmS] at ha; subst ha; exact h5
theorem Ycf {α : Type} {a f g : α} (h : a ∈ [f, g]) : a = f \/ a = g := by simpa using h
theorem FrOk.two {cx : Cx} {σ : Obs} {f g : Fr} (h1 : f.s0.kill f.id = .d .any) (h2 : f.s0 ≠ .d .any) (h3 : Obs.fresh f.id σ = true) (h4 : Obs.kill f.id σ = σ) (h5 : cx.free f.id = true) (k1 : g.s0.kill g.id = .d .any) (k2 : g.s0 ≠ .d .any) (k3 : Obs.fresh g.id σ = true) (k4 : Obs.kill g.id σ = σ) (k5 : cx.free g.id = true)
 (hid : f.id ≠ g.id) (hdst : f.dst ≠ g.dst) (x1 : g.s0.kill f.id = g.s0) (x2 : g.ob.kill f.id = g.ob) (x3 : f.s0.kill g.id = f.s0) (x4 : f.ob.kill g.id = f.ob) : FrOk cx [f, g] σ where
 uid := fun a ha b hb he => by
  rcases Ycf ha with rfl | rfl <;> rcases Ycf hb with rfl | rfl <;> first | rfl | exact absurd he hid | exact absurd he.symm hid
 udst := fun a ha b hb he => by
  rcases Ycf ha with rfl | rfl <;> rcases Ycf hb with rfl | rfl <;> first | rfl | exact absurd he hdst | exact absurd he.symm hdst
 own := fun a ha => by rcases Ycf ha with rfl | rfl; exact ⟨h1, h2⟩; exact ⟨k1, k2⟩
 other := fun a ha b hb hne => by
  rcases Ycf ha with rfl | rfl <;> rcases Ycf hb with rfl | rfl <;> first | exact absurd rfl hne | exact ⟨x1, x2⟩ | exact ⟨x3, x4⟩
 fresh := fun a ha => by rcases Ycf ha with rfl | rfl; exact h3; exact k3
 kill := fun a ha => by rcases Ycf ha with rfl | rfl; exact h4; exact k4
 free := fun a ha => by rcases Ycf ha with rfl | rfl; exact h5; exact k5
def FreshOp (cx : Cx) (ops : Array Oper) (τ : Obs) (f : Fr) (o : Oper) (e : Env) : Prop :=
 o.dst = some f.dst /\ ∀ (e0 : Env) (σ : Obs), (∀ p ∈ τ, p ∈ σ) -> (∀ t, t ∈ o.looksAt ops -> e0 t = e t) -> Obs.fresh f.id σ = true -> AOps cx ops [o] e0 σ (QF f.dst f.id f.s0 f.ob e0 σ)
theorem FreshOp.same {cx : Cx} {ops : Array Oper} {τ : Obs} {f : Fr} {o : Oper} {e e' : Env} (h : FreshOp cx ops τ f o e) (he : ∀ t, t ∈ o.looksAt ops -> e' t = e t) : FreshOp cx ops τ f o e' :=
 ⟨h.1, fun e0 σ hτ h0 hf => h.2 e0 σ hτ (fun t ht => (h0 t ht).trans (he t ht)) hf⟩
def notDst (Φ : List Fr) (o : Oper) : Prop := ∀ f ∈ Φ, o.dst ≠ some f.dst
def XStep (cx : Cx) (ops : Array Oper) (σ : Obs) (Φ : List Fr) (o : Oper) (e : Env) (s : S) : Prop :=
 (GW ops o e true /\ ((∃ f ∈ Φ, FreshOp cx ops σ f o e /\ s = f.s0) \/ (AOp cx.P cx.B ops o e σ s /\ notDst Φ o /\ ∀ f ∈ Φ, s.kill f.id = s \/ ∃ t, t ∈ o.looksAt ops /\ (e t).kill f.id ≠ e t))) \/ (GW ops o e false /\ s = .d (.v undef) /\ notDst Φ o)
theorem XStep.same {cx : Cx} {ops : Array Oper} {σ : Obs} {Φ : List Fr} {o : Oper} {e e' : Env} {s : S} (h : XStep cx ops σ Φ o e s) (he : ∀ t, t ∈ o.looksAt ops -> e' t = e t) : XStep cx ops σ Φ o e' s := by
 rcases h with ⟨h1, h2⟩ | ⟨h1, h2⟩
 ·exact .inl ⟨h1.same he, h2.imp (fun ⟨f, hf, h, h'⟩ => ⟨f, hf, h.same he, h'⟩) fun h => ⟨h.1.same he, h.2.1, fun f hf => (h.2.2 f hf).imp (fun h => h) fun ⟨t, ht, hn⟩ => ⟨t, ht, by rw [he t ht]; exact hn⟩⟩⟩
 ·exact .inr ⟨h1.same he, h2⟩
def XRun (cx : Cx) (ops : Array Oper) (σ : Obs) (Φ : List Fr) : List Oper -> Env -> (Env -> Prop) -> Prop
 | [], e, Qe => (∀ f ∈ Φ, e f.dst = f.s0) /\ Qe e
 | o :: l, e, Qe => DstOk cx.N o /\ ∃ s, XStep cx ops σ Φ o e s /\ XRun cx ops σ Φ l (e.put o.dst s) Qe
def anyX (cx : Cx) (ops : Array Oper) (σ : Obs) (Φ : List Fr) (Qe : Env -> Prop) : Nat -> Array Bool -> Env -> Prop
 | 0, listed, e => Region.ready .any ops listed = [] /\ Qe e
 | fuel + 1, listed, e => (Region.ready .any ops listed = [] -> Qe e) /\
  ∀ i ∈ Region.ready .any ops listed, ∀ o, ops[i]? = some o -> ∃ s, XStep cx ops σ Φ o e s /\ anyX cx ops σ Φ Qe fuel (listed.setIfInBounds i true) (e.put o.dst s)
theorem anyX_first {cx : Cx} {ops : Array Oper} {σ : Obs} {Φ : List Fr} {Qe : Env -> Prop} {i : Nat} {oi : Oper} {s : S} (hi : ops[i]? = some oi) :
 ∀ (fuel : Nat) (listed : Array Bool) (e : Env),
  (∀ j oj, ops[j]? = some oj -> j ≠ i -> listed.getD j true = false -> (∀ e ∈ oj.after, Region.binds .any e = true -> e.on ≠ i) -> oi.apart ops oj = true) ->
  i ∈ Region.ready .any ops listed -> XStep cx ops σ Φ oi e s -> anyX cx ops σ Φ Qe fuel (listed.setIfInBounds i true) (e.put oi.dst s) -> anyX cx ops σ Φ Qe (fuel + 1) listed e := by
 intro fuel
 induction fuel with
 | zero =>
  intro listed e _ hr hy H
  refine ⟨fun h => (by rw [h] at hr; cases hr), fun j hj o ho => ?_⟩
  by_cases hji : j = i
  ·subst hji
   rw [hi] at ho; cases ho
   exact ⟨s, hy, H⟩
  ·have := ready_mono hj hji
   rw [H.1] at this
   cases this
 | succ fuel ih =>
  intro listed e hfree hr hy H
  refine ⟨fun h => (by rw [h] at hr; cases hr), fun j hj oj hoj => ?_⟩
  by_cases hji : j = i
  ·subst hji
   rw [hi] at hoj; cases hoj
   exact ⟨s, hy, H⟩
  ·obtain ⟨sj, h1, h2⟩ := H.2 j (ready_mono hj hji) oj hoj
   obtain ⟨hjun, oj', hoj', hall⟩ := mem_ready.1 hj
   rw [hoj] at hoj'; cases hoj'
   have hnot : ∀ e ∈ oj.after, Region.binds .any e = true -> e.on ≠ i := fun e he hb heq => by
    have h1 := hall e he hb
    have h0 := (mem_ready.1 hr).1
    rw [heq] at h1
    rcases Nat.lt_or_ge i listed.size with h' | h'
    ·simp [h'] at h0 h1; rw [h0] at h1; cases h1
    ·simp [Array.getElem?_eq_none h'] at h1
   obtain ⟨a1, a2, a3⟩ := Oper.apart_spec (hfree j oj hoj hji hjun hnot)
   refine ⟨sj, h1.same (fun t ht => (Yae a1 t ht).symm), ?_⟩
   refine ih (listed.setIfInBounds j true) (e.put oj.dst sj) (fun k ok hk hki hun hno => ?_) (ready_mono hr (Ne.symm hji)) (hy.same (Yae a3)) ?_
   ·refine hfree k ok hk hki ?_ hno
    by_cases hjk : j = k
    ·subst hjk; exact hjun
    ·rw [getD_set_ne true hjk] at hun; exact hun
   ·rw [Array.setIfInBounds_comm _ _ hji, <- Env.put_comm e oi.dst oj.dst s sj a2]
    exact h2
theorem anyX_lex {cx : Cx} {ops : Array Oper} {σ : Obs} {Φ : List Fr} {Qe : Env -> Prop} : ∀ (l : List Oper) (k : Nat) (listed : Array Bool) (e : Env), (∀ j, l[j]? = ops[k + j]?) ->
 Region.lexFrom .any ops l.length k listed = true -> XRun cx ops σ Φ l e Qe -> anyX cx ops σ Φ (fun e => (∀ f ∈ Φ, e f.dst = f.s0) /\ Qe e) l.length listed e
 | [], _, _, _, _, hB, h => ⟨by simpa [Region.lexFrom] using hB, h⟩
 | o :: l, k, listed, e, hl, hB, h => by
  have h0 : ops[k]? = some o := by simpa using (hl 0).symm
  simp only [List.length_cons, Region.lexFrom, ZbA] at hB
  obtain ⟨⟨hr, hf⟩, hB'⟩ := hB
  have hl' : ∀ j, l[j]? = ops[k + 1 + j]? := fun j => by have := hl (j + 1); simpa [Nat.add_assoc, Nat.add_comm 1 j] using this
  obtain ⟨_, s, hs, hK⟩ := h
  exact anyX_first h0 l.length listed e (Region.free_spec h0 hf) (by simpa using hr) hs (anyX_lex l (k + 1) _ _ hl' hB' hK)
theorem XRun.dsts {cx : Cx} {ops : Array Oper} {σ : Obs} {Φ : List Fr} {Qe : Env -> Prop} : ∀ (l : List Oper) (e : Env), XRun cx ops σ Φ l e Qe -> ∀ o ∈ l, DstOk cx.N o
 | [], _, _, o, ho => by cases ho
 | x :: l, e, h, o, ho => by
  obtain ⟨h1, s, _, h2⟩ := h
  cases ho with
  | head => exact h1
  | tail _ ho => exact XRun.dsts l _ h2 o ho
def RelX (cx : Cx) (ops : Array Oper) (σ : Obs) (Φ : List Fr) (listed : Array Bool) (e : Env) (a : Act) (w : World) : Prop :=
 ∃ Δ : List Fr, (∀ g ∈ Δ, g ∈ Φ) /\ (∀ g ∈ Δ, ∃ i o, ops[i]? = some o /\ listed.getD i false = true /\ o.dst = some g.dst) /\ (∀ g ∈ Δ, e g.dst = g.s0) /\ (∀ f ∈ Φ, ¬ f ∈ Δ -> ∀ t, (e t).kill f.id = e t) /\ R cx e (frObs Δ ++ σ) a w
theorem R.sub {cx : Cx} {e : Env} {σ σ' : Obs} {a : Act} {w : World} (h : R cx e σ a w) (hs : ∀ p ∈ σ', p ∈ σ) : R cx e σ' a w := by
 obtain ⟨F, ρ, h⟩ := h
 exact ⟨F, ρ, h.size, h.defers, h.lt, h.base, h.new, h.below, h.hB, h.env, h.obs.sub hs, h.up, fun q hq => h.kown q (hs q hq), h.fixed⟩
theorem Obs.kill_append (id : Nat) : ∀ (a b : Obs), Obs.kill id (a ++ b) = Obs.kill id a ++ Obs.kill id b
 | [], _ => rfl
 | p :: a, b => by show (p.1, p.2.kill id) :: Obs.kill id (a ++ b) = _; rw [Obs.kill_append id a b]; rfl
theorem kill_frObs {id : Nat} : ∀ {Δ : List Fr}, (∀ g ∈ Δ, g.ob.kill id = g.ob) -> Obs.kill id (frObs Δ) = frObs Δ
 | [], _ => rfl
 | g :: Δ, h => by
  show (g.id, g.ob.kill id) :: Obs.kill id (frObs Δ) = _
  rw [h g List.mem_cons_self, kill_frObs fun g hg => h g (List.mem_cons_of_mem _ hg)]
  rfl
theorem fresh_append {id : Nat} {σ : Obs} : ∀ {a : Obs}, (∀ p ∈ a, p.1 ≠ id) -> Obs.fresh id σ = true -> Obs.fresh id (a ++ σ) = true
 | [], _, h => h
 | p :: a, h1, h => by
  show (!(Nat.beq p.1 id) && Obs.fresh id (a ++ σ)) = true
  rw [fresh_append (fun q hq => h1 q (List.mem_cons_of_mem _ hq)) h, Bool.and_true]
  have := h1 p List.mem_cons_self
  cases hb : Nat.beq p.1 id with
  | true => exact absurd (beq_true hb) this
  | false => rfl
theorem wpAny_of_X {cx : Cx} {ops : Array Oper} {σ : Obs} {Φ : List Fr} {Q : Post} (hd : ∀ o ∈ ops.toList, DstOk cx.N o) (hone : ∀ f ∈ Φ, ∀ (i j : Nat) (o o' : Oper), ops[i]? = some o -> ops[j]? = some o' -> o.dst = some f.dst -> o'.dst = some f.dst -> i = j) (ok : FrOk cx Φ σ) :
 ∀ (fuel : Nat) (listed : Array Bool) (e : Env) (a : Act) (w : World), RelX cx ops σ Φ listed e a w ->
 anyX cx ops σ Φ (fun e => (∀ f ∈ Φ, e f.dst = f.s0) /\ Q .normal e (frObs Φ ++ σ)) fuel listed e -> wpAny cx.P .any ops (lift cx Q) fuel listed a w := by
 have fin : ∀ (listed : Array Bool) (e : Env) (a : Act) (w : World), RelX cx ops σ Φ listed e a w -> ((∀ f ∈ Φ, e f.dst = f.s0) /\ Q .normal e (frObs Φ ++ σ)) -> lift cx Q .normal a w := by
  rintro listed e a w ⟨Δ, h1, _, h2, h3, h4⟩ ⟨h5, h6⟩
  have hall : ∀ f ∈ Φ, f ∈ Δ := fun f hf => Classical.byContradiction fun hn => by
   have h7 := h3 f hf hn f.dst
   rw [h5 f hf, (ok.own f hf).1] at h7
   exact (ok.own f hf).2 h7.symm
  refine ⟨e, _, h6, h4.sub fun p hp => ?_⟩
  rcases List.mem_append.1 hp with hp | hp
  ·obtain ⟨f, hf, rfl⟩ := ZmM.1 hp
   exact List.mem_append.2 (.inl (ZmM.2 ⟨f, hall f hf, J⟩))
  ·exact List.mem_append.2 (.inr hp)
 have pure : ∀ {e : Env} {o : Oper} {s : S} {Δ : List Fr}, (∀ g ∈ Δ, g ∈ Φ) -> (∀ g ∈ Δ, e g.dst = g.s0) -> (∀ f ∈ Φ, ¬ f ∈ Δ -> ∀ t, (e t).kill f.id = e t) -> notDst Φ o -> (∀ f ∈ Φ, ¬ f ∈ Δ -> s.kill f.id = s) ->
  (∀ g ∈ Δ, (e.put o.dst s) g.dst = g.s0) /\ (∀ f ∈ Φ, ¬ f ∈ Δ -> ∀ t, ((e.put o.dst s) t).kill f.id = (e.put o.dst s) t) := by
  intro e o s Δ h1 h2 h3 hn hs
  cases ho : o.dst with
  | none => exact ⟨h2, h3⟩
  | some u =>
   refine ⟨fun g hg => ?_, fun f hf hfn t => ?_⟩
   ·rw [Env.put_other _ _ _ _ (fun he => hn g (h1 g hg) (by rw [ho, he]))]; exact h2 g hg
   ·by_cases hu : t = u
    ·subst hu; rw [Env.put_same]; exact hs f hf hfn
    ·rw [Env.put_other _ _ _ _ hu]; exact h3 f hf hfn t
 intro fuel
 induction fuel with
 | zero => exact fun listed e a w hr h => ⟨h.1, fin listed e a w hr h.2⟩
 | succ fuel ih =>
  intro listed e a w hr h
  refine ⟨fun h0 => fin listed e a w hr (h.1 h0), fun i hi => ?_⟩
  obtain ⟨hui, o, ho, _⟩ := mem_ready.1 hi
  obtain ⟨s, hs, hkk⟩ := h.2 i hi o ho
  have hdo : DstOk cx.N o := hd o (Array.mem_toList_iff.2 (Array.mem_of_getElem? ho))
  have hil : i < listed.size := Nat.lt_of_not_le fun hle => by simp [ZaD, Array.getElem?_eq_none hle] at hui
  obtain ⟨Δ, h1, hL, h2, h3, hR⟩ := hr
  have hL' : ∀ g ∈ Δ, ∃ j o, ops[j]? = some o /\ (listed.setIfInBounds i true).getD j false = true /\ o.dst = some g.dst := fun g hg => by
   obtain ⟨j, o', q1, q2, q3⟩ := hL g hg
   exact ⟨j, o', q1, getD_set_true q2, q3⟩
  have hR' := hR
  obtain ⟨F, ρ, hr⟩ := hR'
  unfold wpOp
  simp only [ho]
  rcases hs with ⟨hg, ⟨f, hf, ⟨hdst, hop⟩, rfl⟩ | ⟨hop, hne, hsk⟩⟩ | ⟨hg, rfl, hne⟩
  ·rw [if_pos (hg.wanted (fun t _ => hr.env t))]
   have hfn : ¬ f ∈ Δ := fun hfd => by
    obtain ⟨j, o', q1, q2, q3⟩ := hL f hfd
    have := hone f hf i j o o' ho q1 hdst q3
    subst this
    rw [Ya6 hil false true, hui] at q2
    simp at q2
   have hgi : ∀ g ∈ Δ, g.id ≠ f.id := fun g hg he => hfn (by rw [<- ok.uid g (h1 g hg) f hf he]; exact hg)
   have hek : e.kill f.id = e := funext fun t => h3 f hf hfn t
   have hok : Obs.kill f.id (frObs Δ ++ σ) = frObs Δ ++ σ := by
    rw [Obs.kill_append, ok.kill f hf, kill_frObs fun g hg => (ok.other f hf g (h1 g hg) (hgi g hg)).2]
   have hfr : Obs.fresh f.id (frObs Δ ++ σ) = true := fresh_append (fun p hp => by obtain ⟨g, hg, rfl⟩ := ZmM.1 hp; exact hgi g hg) (ok.fresh f hf)
   have h4 := hop e (frObs Δ ++ σ) (fun p hp => List.mem_append.2 (.inr hp)) (fun _ _ => rfl) hfr a w hR
   unfold wpList at h4
   have hw : Region.wanted o (yielded ops a.tmps) = true := hg.wanted (fun t _ => hr.env t)
   rw [if_pos hw] at h4
   rw [hdst] at hkk
   refine h4.imp (wp_to2 ?_ ?_) fun h => ⟨h.1, ?_⟩
   ·rintro a' w' ⟨e', σ', ⟨rfl, rfl⟩, hr'⟩
    rw [hok, hek] at hr'
    refine ih _ _ _ _ ⟨f :: Δ, fun g hg => ?_, fun g hg => ?_, fun g hg => ?_, fun k hk hkn t => ?_, hr'⟩ hkk
    ·rcases List.mem_cons.1 hg with rfl | hg
     ·exact hf
     ·exact h1 g hg
    ·rcases List.mem_cons.1 hg with rfl | hg
     ·exact ⟨i, o, ho, by simp [ZaD, hil], hdst⟩
     ·exact hL' g hg
    ·rcases List.mem_cons.1 hg with rfl | hg
     ·rw [Env.put_same]
     ·rw [Env.put_other _ _ _ _ (fun he => hgi g hg (by rw [ok.udst g (h1 g hg) f hf he]))]
      exact h2 g hg
    ·have hkf : f.id ≠ k.id := fun he => hkn (by rw [<- ok.uid f hf k hk he]; exact List.mem_cons_self)
     by_cases ht : t = f.dst
     ·subst ht; rw [Env.put_same]; exact (ok.other k hk f hf hkf).1
     ·rw [Env.put_other _ _ _ _ ht]; exact h3 k hk (fun hh => hkn (List.mem_cons_of_mem _ hh)) t
   ·rintro ex a' w' hne ⟨e', σ', hq, _⟩
    cases ex <;> first | exact absurd rfl hne | exact hq.elim
   ·obtain ⟨a', w', e', σ', hq, _⟩ := h.2
    exact hq.elim
  ·rw [if_pos (hg.wanted (fun t _ => hr.env t))]
   refine .inl (wp_to ?_ (fun _ _ _ => False.elim) (hop F ρ w a hr.lt (fun t _ => hr.env t) (hr.obs.sub fun q hq => List.mem_append.2 (.inr hq))))
   rintro a' w' ⟨v, F', rfl, hv, hE⟩
   obtain ⟨p1, p2⟩ := pure (o := o) (s := s) h1 h2 h3 hne fun f hf hfn => by
    rcases hsk f hf with hh | ⟨t, _, hh⟩
    ·exact hh
    ·exact absurd (h3 f hf hfn t) hh
   exact ih _ _ _ _ ⟨Δ, h1, hL', p1, p2, F', ρ, hr.put hE hv hdo⟩ hkk
  ·rw [if_neg (by rw [hg.wanted (fun t _ => hr.env t)]; simp)]
   obtain ⟨p1, p2⟩ := pure (o := o) (s := .d (.v undef)) h1 h2 h3 hne (fun _ _ _ => rfl)
   exact ih _ _ _ _ ⟨Δ, h1, hL', p1, p2, F, ρ, hr.put (Ext.refl hr.lt) Ybt hdo⟩ hkk
section
variable {cx : Cx} {ops : Array Oper} {σ : Obs} {Φ : List Fr} {e : Env} {Qe : Env -> Prop} {o : Oper} {l : List Oper}
def Holds (p : Fr -> Prop) : List Fr -> Prop
 | [] => True
 | f :: l => p f /\ Holds p l
theorem Holds.all {p : Fr -> Prop} : ∀ {l : List Fr}, Holds p l -> ∀ f ∈ l, p f
 | [], _, f, hf => by cases hf
 | g :: l, h, f, hf => by
  cases hf with
  | head => exact h.1
  | tail _ hf => exact Holds.all h.2 f hf
theorem XRun.nil (hd : Holds (fun f => e f.dst = f.s0) Φ) (h : Qe e) : XRun cx ops σ Φ [] e Qe := ⟨hd.all, h⟩
def neDst (o : Oper) (dst : Nat) : Bool := match o.dst with | none => true | some t => !(Nat.beq t dst)
theorem Ybu {dst : Nat} (h : neDst o dst = true) : o.dst ≠ some dst := fun he => by unfold neDst at h; rw [he] at h; simp at h
def neAll (Φ : List Fr) (o : Oper) : Bool := Φ.all fun f => neDst o f.dst
theorem neAll_spec (h : neAll Φ o = true) : notDst Φ o := fun f hf => Ybu (List.all_eq_true.1 h f hf)
theorem XRun.step {s : S} {t : Nat} (hg : GW ops o e true) (ht : o.dst = some t) (hd : Nat.blt t cx.N = true) (h : AOp cx.P cx.B ops o e σ s) (k : XRun cx ops σ Φ l (e.put (some t) s) Qe) (hne : neAll Φ o = true := by rfl) (hs : Holds (fun f => s.kill f.id = s \/ ∃ t, t ∈ o.looksAt ops /\ (e t).kill f.id ≠ e t) Φ := by first | exact ⟨.inl rfl, trivial⟩ | exact ⟨.inl rfl, .inl rfl, trivial⟩ | exact ⟨.inr ⟨_, .head _, S.noConfusion⟩, trivial⟩ | exact ⟨.inr ⟨_, .head _, S.noConfusion⟩, .inl rfl, trivial⟩ | exact ⟨.inl rfl, .inr ⟨_, .head _, S.noConfusion⟩, trivial⟩) : XRun cx ops σ Φ (o :: l) e Qe :=
 ⟨by unfold DstOk; rw [ht]; exact hd, s, .inl ⟨hg, .inr ⟨h, neAll_spec hne, hs.all⟩⟩, by rw [ht]; exact k⟩
theorem ev_same {e0 e : Env} {x : Operand} (h : ∀ t, x = .tmp t -> e0 t = e t) : e0.ev x = e.ev x := by
 cases x with
 | tmp t => exact h t rfl
 | const v => rfl
 | global g => rfl
 | func f => rfl
theorem XRun.alloc {t : Nat} {z : Value} {zs : List Value} (f : Fr) (hf : f ∈ Φ) (hg : GW ops o e true) (hgn : o.guard = none) (ht : o.dst = some f.dst) (hd : Nat.blt f.dst cx.N = true) (ho : o.op = .alloc t) (hz : (cx.P.info? t).bind (·.zero) = some z) (hzc : z.cells.toList = zs) (h1 : zs.all (·.oneCell') = true) (hob : f.ob = .cells ((zs.map D.v).map S.d)) (hs : f.s0 = .ptr f.id 0)
 (k : XRun cx ops σ Φ l (e.put (some f.dst) f.s0) Qe) (hfx : cx.free f.id = true := by rfl) : XRun cx ops σ Φ (o :: l) e Qe :=
 ⟨by unfold DstOk; rw [ht]; exact hd, _, .inl ⟨hg, .inl ⟨f, hf, ⟨ht, fun e0 σ _ _ hfr => AOps.alloc f.id hgn ht hd ho hz hzc h1 hfr (.nil ⟨by rw [hs], by rw [hob]⟩) hfx⟩, rfl⟩⟩, by rw [ht]; exact k⟩
theorem XRun.make {t el : TypeId} {lo c : Operand} {size bytes : Nat} {z : Value} {m : Int} (f : Fr) (hf : f ∈ Φ) (n : Nat) (hg : GW ops o e true) (hgn : o.guard = none) (ht : o.dst = some f.dst) (hd : Nat.blt f.dst cx.N = true) (ho : o.op = .makeSlice t lo c) (T : ElemTy cx.P t el size bytes z) (hl : e.ev lo = .d (.v (.int .i64 m))) (hc : e.ev c = .d (.v (.int .i64 m))) (hmn : m = n) (hb : bytes * n <= 281474976710656) (hn : n <= 9223372036854775807)
 (h1 : z.cells.toList.all (·.oneCell') = true) (hob : f.ob = .row el size (List.replicate n (z.cells.toList.map D.v))) (hs : f.s0 = .own f.id) (k : XRun cx ops σ Φ l (e.put (some f.dst) f.s0) Qe) (hfx : cx.free f.id = true := by rfl) : XRun cx ops σ Φ (o :: l) e Qe :=
 ⟨by unfold DstOk; rw [ht]; exact hd, _, .inl ⟨hg, .inl ⟨f, hf, ⟨ht, fun e0 σ _ he hfr => by
  have h2 : e0.ev lo = e.ev lo := ev_same fun t ht => he t (YaM (by rw [ho, ht]; simp [Op.operands]))
  have h3 : e0.ev c = e.ev c := ev_same fun t ht => he t (YaM (by rw [ho, ht]; simp [Op.operands]))
  exact AOps.makeI f.id n hgn ht hd ho T (h2.trans hl) (h3.trans hc) hmn hb hn h1 hfr (.nil ⟨by rw [hs], by rw [hob]⟩) hfx⟩, J⟩⟩, by rw [ht]; exact k⟩
end
def Env.killAll : List Fr -> Env -> Env
 | [], e => e
 | f :: l, e => Env.killAll l (e.kill f.id)
theorem kill_comm (i j : Nat) (s : S) : (s.kill i).kill j = (s.kill j).kill i := by
 cases s with
 | d x => rfl
 | own k => cases h1 : Nat.beq k i <;> cases h2 : Nat.beq k j <;> simp only [S.kill, h1, h2]
 | ptr k off => cases h1 : Nat.beq k i <;> cases h2 : Nat.beq k j <;> simp only [S.kill, h1, h2]
 | clo f caps => cases h1 : Cap.anyP (fun k => Nat.beq k i) caps <;> cases h2 : Cap.anyP (fun k => Nat.beq k j) caps <;> simp only [S.kill, h1, h2]
theorem killAll_kill (id : Nat) : ∀ (Φ : List Fr) (e : Env), (∀ t, (e t).kill id = e t) -> ∀ t, (Env.killAll Φ e t).kill id = Env.killAll Φ e t
 | [], _, h => h
 | f :: l, e, h => killAll_kill id l (e.kill f.id) fun t => by unfold Env.kill; rw [kill_comm, h t]
theorem killAll_all : ∀ (Φ : List Fr) (e : Env), ∀ f ∈ Φ, ∀ t, (Env.killAll Φ e t).kill f.id = Env.killAll Φ e t
 | g :: l, e, f, hf, t => by
  rcases List.mem_cons.1 hf with rfl | hf
  ·exact killAll_kill f.id l (e.kill f.id) (fun t => S.kill_kill f.id (e t)) t
  ·exact killAll_all l (e.kill g.id) f hf t
theorem R.killAll {cx : Cx} {σ : Obs} {a : Act} {w : World} : ∀ (Φ : List Fr) {e : Env}, R cx e σ a w -> R cx (Env.killAll Φ e) σ a w
 | [], _, h => h
 | f :: l, _, ⟨F, ρ, h⟩ => R.killAll l ⟨F, ρ, h.killEnv f.id⟩
theorem AWP.drawFresh {cx : Cx} {rid : Nat} {l : List Oper} {e : Env} {σ : Obs} {Q : Post} (k : Nat) (Φ : List Fr) (ok : FrOk cx Φ σ) (hm : cx.P.follows .mixedOrders = true) (hB : Region.lexB .any (l.take k).toArray = true) (hC : Region.chainB l.toArray k = true) (hlk : (Φ.all fun f => (List.range (l.take k).length).all fun i => (List.range (l.take k).length).all fun j => Nat.beq i j || (((l.take k)[i]?).map fun o => neDst o f.dst).getD true || (((l.take k)[j]?).map fun o => neDst o f.dst).getD true) = true)
 (h : XRun cx (l.take k).toArray σ Φ (l.take k) (Env.killAll Φ e) (fun e => AOps cx l.toArray (l.drop k) e (frObs Φ ++ σ) Q)) : AWP cx (.region rid l.toArray true) e σ Q := by
 intro a w ⟨F, ρ, hr⟩
 simp only [Region.lexB, ZbA] at hB
 have hch := Chain.of hC
 have hkl : k <= l.length := by simpa using hch.le
 have h1 := anyX_lex (l.take k) 0 (Array.replicate (l.take k).toArray.size false) (Env.killAll Φ e) (by simp) (by simpa using hB.2) h
 have hone : ∀ f ∈ Φ, ∀ (i j : Nat) (o o' : Oper), (l.take k).toArray[i]? = some o -> (l.take k).toArray[j]? = some o' -> o.dst = some f.dst -> o'.dst = some f.dst -> i = j := fun f hf i j o o' hi hj ho ho' => by
  rw [List.getElem?_toArray] at hi hj
  have h3 := List.all_eq_true.1 (List.all_eq_true.1 (List.all_eq_true.1 hlk f hf) i (List.mem_range.2 (ZgS.1 hi).1)) j (List.mem_range.2 (ZgS.1 hj).1)
  rw [hi, hj] at h3
  simp only [Option.map_some, Option.getD_some, Bool.or_eq_true] at h3
  rcases h3 with (h3 | h3) | h3
  ·exact Nat.eq_of_beq_eq_true h3
  ·exact absurd ho (Ybu h3)
  ·exact absurd ho' (Ybu h3)
 have h2 := wpAny_of_X (cx := cx) (ops := (l.take k).toArray) (Q := fun ex e σ => match ex with | .normal => AOps cx l.toArray (l.drop k) e σ Q | _ => False) (by simpa using XRun.dsts _ _ h) hone ok _ _ (Env.killAll Φ e) a _
  ⟨[], fun g hg => (nomatch hg), fun g hg => (nomatch hg), fun g hg => (nomatch hg), fun f hf _ t => killAll_all Φ e f hf t, R.killAll Φ ⟨F, ρ, hr.drew⟩⟩ h1
 refine wp_region_any hm (wpAny_split hch (ops0 := (l.take k).toArray) (by simp; omega) (fun j hj => by simp [hj]) ?_ ?_ (l.take k).length _ _ _ _ _ (by simp; omega) (by simp) ?_ ?_ ?_ (by simp; omega) h2)
 ·rintro a w ⟨e, σ, h3, h4⟩
  have := h3 a w h4
  simpa using this
 ·rintro ex a w hne ⟨e, σ, h3, _⟩
  cases ex <;> first | exact absurd rfl hne | exact h3.elim
 ·intro j hj d
  have h5 : j < l.length := by omega
  have h6 : j < min k l.length := by omega
  simp [ZaD, h5, h6]
 ·intro j hj hj2
  have : j < l.length := by simpa using hj2
  simp [ZaD, this]
 ·intro i o ho hi
  have : i < l.length := by simpa using (ZaS.1 ho).1
  simp [ZaD, this] at hi
open Ty
theorem YbK {α : Type} {l : List α} {f : α -> List D} {k : Nat} (h : k < l.length) : (l.map f)[k]? = some (f l[k]) := by simp [h]
theorem SLe.i64 {a b : Int} (h : a = b) : SLe (S.d (D.v (Value.int .i64 a))) (S.d (D.v (Value.int .i64 b))) := SLe.of_eq (by rw [h])
namespace Ty
theorem et_37 : ElemTy Tryz.prog 37 3 1 8 (.int .i64 0) := ⟨by kernel_rfl, by kernel_rfl, by kernel_rfl, by decide⟩
theorem sc_3 : Scal Tryz.prog 3 := .of (by kernel_rfl)
theorem sz_3 : ∀ w, (sizeOf 3).run Tryz.prog w = .ok 1 w := SizeT.of (by kernel_rfl)
end Ty
def fds {N0 : Nat} (p : Fin N0 × Nat) : List D := [.v (.int .i64 (p.1.val : Int))]
def sw {α : Type} (l : List α) (i j : Nat) : List α := match l[i]?, l[j]? with
 | some x, some y => (l.set i y).set j x
 | _, _ => l
theorem sw_at {α : Type} {l : List α} {i j : Nat} (hi : i < l.length) (hj : j < l.length) : sw l i j = (l.set i l[j]).set j l[i] := by
 unfold sw; rw [ZgE hi, ZgE hj]
theorem whole_el {size : Nat} {ds x : List D} (h : ds.length = size) : ds.take 0 ++ x ++ ds.drop (0 + size) = x := by
 rw [List.take_zero, List.nil_append, Nat.zero_add, List.drop_eq_nil_of_le (by omega), List.append_nil]
theorem row_swap {α : Type} {enc : α -> List D} {size : Nat} (hs : ∀ x, (enc x).length = size) {cur : List α} {i j : Nat} (hi : i < cur.length) (hj : j < cur.length) {els1 : List (List D)} {d2 : List D}
 (h1 : els1 = (cur.map enc).set i ((enc cur[i]).take 0 ++ enc cur[j] ++ (enc cur[i]).drop (0 + size))) (h2 : els1[j]? = some d2) :
 els1.set j (d2.take 0 ++ enc cur[i] ++ d2.drop (0 + size)) = (sw cur i j).map enc := by
 rw [whole_el (hs _)] at h1
 have hd : d2.length = size := by
  rw [h1, List.getElem?_set] at h2
  by_cases hij : i = j
  ·rw [if_pos hij, if_pos (by rw [ZlM]; exact hi)] at h2
   rw [<- Option.some.inj h2]; exact hs _
  ·rw [if_neg hij, List.getElem?_map, ZgE hj] at h2
   rw [<- Option.some.inj h2]; exact hs _
 rw [whole_el hd, h1, sw_at hi hj, List.map_set, List.map_set]
theorem sw_get {α : Type} {l : List α} {i j : Nat} (hi : i < l.length) (hj : j < l.length) (p : Nat) : (sw l i j)[p]? = if p = j then l[i]? else if p = i then l[j]? else l[p]? := by
 rw [sw_at hi hj, List.getElem?_set, List.getElem?_set]
 simp only [List.length_set]
 by_cases h1 : p = j
 ·subst h1; simp [hi, hj]
 ·rw [if_neg (Ne.symm h1), if_neg h1]
  by_cases h2 : p = i
  ·subst h2; simp [hi, hj]
  ·rw [if_neg (Ne.symm h2), if_neg h2]
structure PreC {α : Type} (cmp : α -> α -> Int) : Prop where
 asym : ∀ x y, cmp x y < 0 -> 0 <= cmp y x
 trans : ∀ x y z, 0 <= cmp y x -> 0 <= cmp z y -> 0 <= cmp z x
variable {α : Type}
def tlt (cmp : α -> α -> Int) (p q : α × Nat) : Prop := cmp p.1 q.1 < 0 \/ (0 <= cmp q.1 p.1 /\ p.2 < q.2)
instance (cmp : α -> α -> Int) (p q : α × Nat) : Decidable (tlt cmp p q) := by unfold tlt; infer_instance
theorem tlt_irrefl {cmp : α -> α -> Int} (h : PreC cmp) (p : α × Nat) : ¬ tlt cmp p p := fun hh => by
 rcases hh with h1 | ⟨_, h1⟩
 ·have := h.asym _ _ h1; omega
 ·omega
theorem tlt_trans {cmp : α -> α -> Int} (h : PreC cmp) {p q r : α × Nat} (h1 : tlt cmp p q) (h2 : tlt cmp q r) : tlt cmp p r := by
 have le1 : 0 <= cmp q.1 p.1 := by rcases h1 with h1 | h1; exact h.asym _ _ h1; exact h1.1
 have le2 : 0 <= cmp r.1 q.1 := by rcases h2 with h2 | h2; exact h.asym _ _ h2; exact h2.1
 have le3 := h.trans _ _ _ le1 le2
 by_cases hc : cmp p.1 r.1 < 0
 ·exact .inl hc
 ·refine .inr ⟨le3, ?_⟩
  have hle : 0 <= cmp p.1 r.1 := by omega
  rcases h1 with h1 | ⟨_, h1⟩
  ·have := h.trans _ _ _ le2 hle; omega
  ·rcases h2 with h2 | ⟨_, h2⟩
   ·have := h.trans _ _ _ hle le1; omega
   ·omega
theorem tlt_total {cmp : α -> α -> Int} {p q : α × Nat} (hne : p.2 ≠ q.2) (hn : ¬ tlt cmp p q) : tlt cmp q p := by
 unfold tlt at *
 by_cases h1 : cmp q.1 p.1 < 0
 ·exact .inl h1
 ·refine .inr ⟨?_, ?_⟩
  ·by_cases h2 : cmp p.1 q.1 < 0
   ·exact absurd (.inl h2) hn
   ·omega
  ·by_cases h2 : p.2 < q.2
   ·exact absurd (.inr ⟨by omega, h2⟩) hn
   ·omega
theorem sorted_unique {cmp : α -> α -> Int} (h : PreC cmp) : ∀ {l r : List (α × Nat)}, l.Perm r -> l.Pairwise (tlt cmp) -> r.Pairwise (tlt cmp) -> l = r
 | [], r, hp, _, _ => (List.nil_perm.1 hp).symm
 | x :: l, r, hp, hl, hr => by
  rcases r with _ | ⟨y, r⟩
  ·exact absurd hp.length_eq (by simp)
  ·rw [List.pairwise_cons] at hl hr
   have hxy : x = y := by
    have hx : x ∈ y :: r := hp.subset List.mem_cons_self
    have hy : y ∈ x :: l := hp.symm.subset List.mem_cons_self
    rcases List.mem_cons.1 hx with h1 | h1
    ·exact h1
    ·rcases List.mem_cons.1 hy with h2 | h2
     ·exact h2.symm
     ·exact absurd (tlt_trans h (hl.1 y h2) (hr.1 x h1)) (tlt_irrefl h x)
   subst hxy
   rw [sorted_unique h ((List.perm_cons x).1 hp) hl.2 hr.2]
def tle (cmp : α -> α -> Int) (p q : α × Nat) : Bool := decide (¬ tlt cmp q p)
def YaY (cmp : α -> α -> Int) (l : List (α × Nat)) (a b : Nat) : List (α × Nat) := l.take a ++ (((l.drop a).take (b - a)).mergeSort (tle cmp) ++ l.drop b)
def TagsOk (l : List (α × Nat)) : Prop := (l.map Prod.snd).Nodup
theorem mergeSort_tlt {cmp : α -> α -> Int} (h : PreC cmp) {l : List (α × Nat)} (ht : TagsOk l) : (l.mergeSort (tle cmp)).Pairwise (tlt cmp) := by
 have hp := List.mergeSort_perm l (tle cmp)
 have h1 : (l.mergeSort (tle cmp)).Pairwise (fun p q => tle cmp p q = true) := List.pairwise_mergeSort (le := tle cmp) (fun a b c hab hbc => by
  unfold tle at *
  simp only [decide_eq_true_eq] at *
  intro hca
  by_cases e : a.2 = b.2
  ·by_cases e2 : b.2 = c.2
   ·unfold tlt at *
    rcases hca with h5 | ⟨_, h5⟩
    ·have x1 : 0 <= cmp b.1 a.1 := by
      by_cases hh : cmp b.1 a.1 < 0
      ·exact absurd (.inl hh) hab
      ·omega
     have x2 : 0 <= cmp c.1 b.1 := by
      by_cases hh : cmp c.1 b.1 < 0
      ·exact absurd (.inl hh) hbc
      ·omega
     have := h.trans _ _ _ x1 x2; omega
    ·omega
   ·have := tlt_total (cmp := cmp) (Ne.symm e2) hbc
    exact hab (tlt_trans h this hca)
  ·have := tlt_total (cmp := cmp) (Ne.symm e) hab
   exact hbc (tlt_trans h hca this)) (fun a b => by
  unfold tle
  by_cases hba : tlt cmp b a
  ·have : ¬ tlt cmp a b := fun hab => tlt_irrefl h a (tlt_trans h hab hba)
   simp [this]
  ·simp [hba]) l
 have h2 : ((l.mergeSort (tle cmp)).map Prod.snd).Nodup := (hp.map Prod.snd).nodup_iff.2 ht
 rw [List.Nodup, List.pairwise_map] at h2
 refine (h1.and h2).imp fun {p q} ⟨h3, h4⟩ => ?_
 unfold tle at h3
 exact tlt_total (Ne.symm h4) (dcT h3)
variable {α : Type}
def SortedOn (cmp : α -> α -> Int) (c : List (α × Nat)) (a b : Nat) : Prop := ∀ i j x y, a <= i -> i < j -> j < b -> c[i]? = some x -> c[j]? = some y -> tlt cmp x y
theorem split3 (c : List α) {a b : Nat} (hab : a <= b) : c = c.take a ++ ((c.drop a).take (b - a) ++ c.drop b) := by
 rw [show c.drop b = (c.drop a).drop (b - a) by rw [List.drop_drop]; congr 1; omega, List.take_append_drop, List.take_append_drop]
theorem seg_get (c : List α) {a b p : Nat} (hp : p < b - a) : ((c.drop a).take (b - a))[p]? = c[a + p]? := by rw [ZgT, if_pos hp, ZgO]
theorem seg_pairwise {cmp : α -> α -> Int} {c : List (α × Nat)} {a b : Nat} (hs : SortedOn cmp c a b) : ((c.drop a).take (b - a)).Pairwise (tlt cmp) := by
 rw [List.pairwise_iff_getElem]
 intro i j hi hj hij
 have hi2 : i < b - a := by rw [ZlT] at hi; omega
 have hj2 : j < b - a := by rw [ZlT] at hj; omega
 refine hs (a + i) (a + j) _ _ (by omega) (by omega) (by omega) ?_ ?_
 ·rw [<- seg_get c hi2]; exact ZgE hi
 ·rw [<- seg_get c hj2]; exact ZgE hj
theorem sortSeg_eq {cmp : α -> α -> Int} (h : PreC cmp) {l c : List (α × Nat)} {a b : Nat} (hab : a <= b) (ht : TagsOk l) (hp : c.Perm l) (hout : ∀ p, p < a \/ b <= p -> c[p]? = l[p]?) (hs : SortedOn cmp c a b) : c = YaY cmp l a b := by
 have e1 : c.take a = l.take a := List.ext_getElem? fun p => by
  rw [ZgT, ZgT]
  by_cases hp : p < a
  ·rw [if_pos hp, if_pos hp, hout p (.inl hp)]
  ·rw [if_neg hp, if_neg hp]
 have e2 : c.drop b = l.drop b := List.ext_getElem? fun p => by
  rw [ZgO, ZgO, hout _ (.inr (by omega))]
 have hperm : ((c.drop a).take (b - a)).Perm ((l.drop a).take (b - a)) := by
  have hp2 := hp
  rw [split3 c hab, split3 l hab, e1, e2, List.perm_append_left_iff, List.perm_append_right_iff] at hp2
  exact hp2
 have ht2 : TagsOk ((l.drop a).take (b - a)) := by
  unfold TagsOk at *
  exact (ht.sublist (((List.take_sublist _ _).trans (List.drop_sublist _ _)).map _))
 have hm := mergeSort_tlt h ht2
 have e3 := sorted_unique h (hperm.trans (List.mergeSort_perm _ (tle cmp)).symm) (seg_pairwise hs) hm
 unfold YaY
 rw [<- e3, <- e1, <- e2]
 exact split3 c hab
theorem sortSeg_perm (cmp : α -> α -> Int) (l : List (α × Nat)) {a b : Nat} (hab : a <= b) : (YaY cmp l a b).Perm l := by
 unfold YaY
 have : (l.take a ++ ((l.drop a).take (b - a) ++ l.drop b)).Perm l := by rw [<- split3 l hab]
 refine List.Perm.trans ?_ this
 rw [List.perm_append_left_iff, List.perm_append_right_iff]
 exact List.mergeSort_perm _ _
theorem sortSeg_get (cmp : α -> α -> Int) (l : List (α × Nat)) {a b : Nat} (hab : a <= b) (hb : b <= l.length) (p : Nat) : (YaY cmp l a b)[p]? = if p < a then l[p]? else if p < b then (((l.drop a).take (b - a)).mergeSort (tle cmp))[p - a]? else l[p]? := by
 unfold YaY
 have e1 : (l.take a).length = a := by rw [ZlT]; omega
 have e2 : (((l.drop a).take (b - a)).mergeSort (tle cmp)).length = b - a := by rw [List.length_mergeSort, ZlT, ZlD]; omega
 by_cases c1 : p < a
 ·rw [if_pos c1, List.getElem?_append_left (by omega), ZgT, if_pos c1]
 ·rw [if_neg c1, List.getElem?_append_right (by omega), e1]
  by_cases c2 : p < b
  ·rw [if_pos c2, List.getElem?_append_left (by omega)]
  ·rw [if_neg c2, List.getElem?_append_right (by omega), e2, ZgO]
   congr 1; omega
theorem sortSeg_sorted {cmp : α -> α -> Int} (h : PreC cmp) {l : List (α × Nat)} {a b : Nat} (hab : a <= b) (hb : b <= l.length) (ht : TagsOk l) : SortedOn cmp (YaY cmp l a b) a b := by
 have ht2 : TagsOk ((l.drop a).take (b - a)) := by
  unfold TagsOk at *
  exact (ht.sublist (((List.take_sublist _ _).trans (List.drop_sublist _ _)).map _))
 have hm := List.pairwise_iff_getElem.1 (mergeSort_tlt h ht2)
 intro i j x y hi hij hj hx hy
 rw [sortSeg_get cmp l hab hb, if_neg (by omega), if_pos (by omega)] at hx hy
 obtain ⟨h1, e1⟩ := ZgS.1 hx
 obtain ⟨h2, e2⟩ := ZgS.1 hy
 have := hm (i - a) (j - a) h1 h2 (by omega)
 rw [e1, e2] at this
 exact this
theorem TagsOk.perm {l r : List (α × Nat)} (h : TagsOk l) (hp : r.Perm l) : TagsOk r := (hp.map Prod.snd).nodup_iff.2 h
theorem sw_perm {l : List α} {i j : Nat} : (sw l i j).Perm l := by
 unfold sw
 split
 ·rename_i x y hx hy
  obtain ⟨h1, e1⟩ := ZgS.1 hx
  obtain ⟨h2, e2⟩ := ZgS.1 hy
  rw [<- e1, <- e2]
  exact List.set_set_perm h1 h2
 ·exact List.Perm.refl _
variable {α : Type}
structure Ins (cmp : α -> α -> Int) (l : List (α × Nat)) (a b : Nat) (c : List (α × Nat)) (i : Nat) : Prop where
 perm : c.Perm l
 out : ∀ p, p < a \/ i <= p -> c[p]? = l[p]?
 sorted : SortedOn cmp c a i
 tags : ∀ p x q z, a <= p -> p < i -> i <= q -> q < b -> c[p]? = some x -> l[q]? = some z -> x.2 < z.2
structure InsJ (cmp : α -> α -> Int) (l : List (α × Nat)) (a b : Nat) (c : List (α × Nat)) (i j : Nat) : Prop where
 perm : c.Perm l
 out : ∀ p, p < a \/ i < p -> c[p]? = l[p]?
 aj : a <= j
 ji : j <= i
 at_ : c[j]? = l[i]?
 sorted : ∀ p q x y, a <= p -> p < q -> q <= i -> q ≠ j -> c[p]? = some x -> c[q]? = some y -> tlt cmp x y
 tags : ∀ p x q z, a <= p -> p <= i -> p ≠ j -> i <= q -> q < b -> c[p]? = some x -> l[q]? = some z -> x.2 < z.2
def Incr (l : List (α × Nat)) (a b : Nat) : Prop := ∀ i j x y, a <= i -> i < j -> j < b -> l[i]? = some x -> l[j]? = some y -> x.2 < y.2
theorem Ins.start {cmp : α -> α -> Int} {l : List (α × Nat)} {a b : Nat} (h : Incr l a b) : Ins cmp l a b l (a + 1) :=
 ⟨List.Perm.refl _, fun _ _ => rfl, fun i j x y h1 h2 h3 => by omega, fun p x q z h1 h2 h3 h4 h5 h6 => h p q x z h1 (by omega) h4 h5 h6⟩
theorem Ins.down {cmp : α -> α -> Int} {l c : List (α × Nat)} {a b i : Nat} (h : Ins cmp l a b c i) (hai : a < i) : InsJ cmp l a b c i i :=
 ⟨h.perm, fun p hp => h.out p (by omega), by omega, ZnR _, h.out i (.inr (ZnR _)), fun p q x y h1 h2 h3 h4 => h.sorted p q x y h1 h2 (by omega), fun p x q z h1 h2 h3 h4 h5 => h.tags p x q z h1 (by omega) h4 h5⟩
theorem InsJ.step {cmp : α -> α -> Int} {l c : List (α × Nat)} {a b i j : Nat} (h : InsJ cmp l a b c i j) (haj : a < j) (hil : i < c.length) {x y : α × Nat} (hx : c[j]? = some x) (hy : c[j - 1]? = some y) (hlt : tlt cmp x y) : InsJ cmp l a b (sw c j (j - 1)) i (j - 1) := by
 have hji := h.ji
 have g := fun p => sw_get (l := c) (i := j) (j := j - 1) (by omega) (by omega) p
 refine ⟨sw_perm.trans h.perm, fun p hp => ?_, by omega, by omega, ?_, fun p q u v h1 h2 h3 h4 hu hv => ?_, fun p u q z h1 h2 h3 h4 h5 hu hz => ?_⟩
 ·rw [g, if_neg (by omega), if_neg (by omega)]; exact h.out p hp
 ·rw [g, if_pos rfl]; exact h.at_
 ·rw [g] at hu hv
  rw [if_neg h4] at hv
  by_cases e1 : q = j
  ·rw [if_pos e1, hy] at hv
   cases hv
   by_cases e2 : p = j - 1
   ·rw [if_pos e2, hx] at hu; cases hu; exact hlt
   ·rw [if_neg e2, if_neg (by omega)] at hu
    exact h.sorted p (j - 1) _ _ h1 (by omega) (by omega) (by omega) hu hy
  ·rw [if_neg e1] at hv
   by_cases e2 : p = j - 1
   ·rw [if_pos e2] at hu
    exact h.sorted j q _ _ (by omega) (by omega) h3 e1 hu hv
   ·rw [if_neg e2] at hu
    by_cases e3 : p = j
    ·rw [if_pos e3] at hu
     exact h.sorted (j - 1) q _ _ (by omega) (by omega) h3 e1 hu hv
    ·rw [if_neg e3] at hu
     exact h.sorted p q _ _ h1 h2 h3 e1 hu hv
 ·rw [g, if_neg h3] at hu
  by_cases e1 : p = j
  ·rw [if_pos e1] at hu
   exact h.tags (j - 1) u q z (by omega) (by omega) (by omega) h4 h5 hu hz
  ·rw [if_neg e1] at hu
   exact h.tags p u q z h1 h2 e1 h4 h5 hu hz
theorem InsJ.done {cmp : α -> α -> Int} (hc : PreC cmp) {l c : List (α × Nat)} {a b i j : Nat} (h : InsJ cmp l a b c i j) (hinc : Incr l a b) (hib : i < b) (hil : b <= l.length)
 (hstop : j = a \/ ∃ x y, c[j]? = some x /\ c[j - 1]? = some y /\ ¬ cmp x.1 y.1 < 0) : Ins cmp l a b c (i + 1) := by
 have hji := h.ji
 have haj := h.aj
 refine ⟨h.perm, fun p hp => h.out p (by omega), fun p q x y h1 h2 h3 hx hy => ?_, fun p x q z h1 h2 h3 h4 hx hz => ?_⟩
 ·by_cases e : q = j
  ·subst e
   rcases hstop with h4 | ⟨u, v, hu, hv, hn⟩
   ·omega
   ·rw [hy] at hu; cases hu
    have hti : tlt cmp v y := by
     refine .inr ⟨by omega, ?_⟩
     have hz := h.at_
     rw [hy] at hz
     exact h.tags (q - 1) v i y (by omega) (by omega) (by omega) (ZnR _) hib hv hz.symm
    by_cases e2 : p = q - 1
    ·subst e2; rw [hx] at hv; cases hv; exact hti
    ·exact tlt_trans hc (h.sorted p (q - 1) x v h1 (by omega) (by omega) (by omega) hx hv) hti
  ·exact h.sorted p q x y h1 h2 (by omega) e hx hy
 ·by_cases e : p = j
  ·subst e
   have hz2 := h.at_
   rw [hx] at hz2
   exact hinc i q x z (by omega) (by omega) h4 hz2.symm hz
  ·exact h.tags p x q z h1 (by omega) e (by omega) h4 hx hz
theorem ins_end {α : Type} {cmp : α -> α -> Int} (hc : PreC cmp) {l c : List (α × Nat)} {a b i : Nat} (ht : TagsOk l) (hab : a <= b) (h : Ins cmp l a b c i) (hi : b <= i) (h2 : i <= b \/ (c = l /\ b <= a)) : c = YaY cmp l a b := by
 by_cases h3 : i <= b
 ·have : i = b := by omega
  subst this
  exact sortSeg_eq hc hab ht h.perm h.out h.sorted
 ·obtain ⟨h4, h5⟩ := h2.resolve_left h3
  exact sortSeg_eq hc hab ht h.perm (fun p _ => by rw [h4]) (fun p q x y h6 h7 h8 => by omega)
theorem c_insSort {N0 : Nat} (l : List (Fin N0 × Nat)) (a b : Nat) (cmp : Fin N0 -> Fin N0 -> Int) (hc : PreC cmp) (f : Nat) (caps : List D) (hf : ∀ x y : Fin N0, Yaq Tryz.prog f (.v (.int .i64 (x.val : Int)) :: .v (.int .i64 (y.val : Int)) :: caps) (.v (.int .i64 (cmp x y)))) (ht : TagsOk l) (hinc : Incr l a b) (hab : a <= b) (hb : b <= l.length) (hl : l.length <= 4611686018427387904) : RCall Tryz.prog 174 3 1 (l.map fds) ((YaY cmp l a b).map fds) [.v (.int .i64 a), .v (.int .i64 b), .clo (.func f) caps] (.tup []) := by
 refine RCall.of1 (chg := fun i => Nat.ble 1000 i) (xcall_of (n := 53) (ds' := []) Tryz.func174 J (by kernel_rfl) J [] J J ?_) J
 intro B w0 F0 fr ρ0
 refine .sr (.mA ?_)
 refine .sA (.add64 J J J) ?_
 refine .aN ?_
 refine .block (.loop (G := List (Fin N0 × Nat) × Nat) (fun g => Env.of [(8, .iv g.2), (0, .own 1), (1, .d (.v (.int .i64 a))), (2, .d (.v (.int .i64 b))), (3, .d (.clo (.func f) caps))]) (fun g => [(1, .row 3 1 (g.1.map fds))]) (fun g => Ins cmp l a b g.1 g.2 /\ a < g.2 /\ (g.2 <= b \/ (g.1 = l /\ b <= a))) (fun g => b - g.2) (l, a + 1) ⟨Ins.start hinc, by dsimp only; omega, by dsimp only; by_cases h : a + 1 <= b; exact .inl h; exact .inr ⟨rfl, by omega⟩⟩ (Sub.less ⟨(SLe.i64 (by dsimp only; omega)), U, U, U, U, trivial⟩ (Yby rfl)) ?_)
 rintro ⟨c0, i⟩ ⟨hI, hai, hie⟩
 dsimp only at hI hai hie ⊢
 refine .seq (.sr (.mA ?_))
 refine .mA ?_
 refine .sA (.lss J J J) (.nil ?_)
 refine .cT J (fun h1 => ?_) fun h1 => ?_
 ·have hib : i < b := by omega
  refine .skip (.seq (.block (.sr (.mA ?_))))
  refine .aN ?_
  refine .block (.loop (G := List (Fin N0 × Nat) × Nat) (fun g => Env.of [(9, .iv g.2), (8, .iv i), (0, .own 1), (1, .d (.v (.int .i64 a))), (2, .d (.v (.int .i64 b))), (3, .d (.clo (.func f) caps))]) (fun g => [(1, .row 3 1 (g.1.map fds))]) (fun g => InsJ cmp l a b g.1 i g.2) (fun g => g.2) (c0, i) (hI.down hai) (Sub.less ⟨(SLe.i64 J), U, U, U, U, U, trivial⟩ (Yby J)) ?_)
  rintro ⟨c, j⟩ hj
  dsimp only at hj ⊢
  have hcl := hj.perm.length_eq
  have hji := hj.ji
  have haj := hj.aj
  refine .seq (.seq (.draw (by kernel_rfl) (by kernel_rfl) ?_))
  refine .sA (.moveD J J) (.sA (.moveD J J) (.sA (.gtr J J J) (.sA (.moveD J J) ?_)))
  refine .sT 21 J (fun g2 => ?_) fun g2 => ?_
  ·have hja : a < j := by omega
   have hjc : j < c.length := by omega
   refine .sG (.moveD J J) ?_
   refine .sG (.moveO J J) ?_
   refine .sG (.moveD J J) ?_
   refine .sG (.indexOwn J et_37 J J (.head _) j J (by rw [ZlM]; omega)) ?_
   refine .sG (.loadRow J sc_3 J (.head _) j 0 J (YbK hjc) J) ?_
   refine .sG (.moveO J J) ?_
   refine .sG (.moveD J J) ?_
   refine .sG (.sub64 J J J) ?_
   refine .sG (.indexOwn J et_37 J J (.head _) (j - 1) (by omega) (by rw [ZlM]; omega)) ?_
   refine .sG (.loadRow J sc_3 J (.head _) (j - 1) 0 J (YbK (by omega)) J) ?_
   refine .sG (.callClo J J (.cons (.rfl' J) (.cons (.rfl' J) .nil)) (hf (c[j]'hjc).1 (c[j-1]'(by omega)).1)) ?_
   refine .sG (.lss J J J) ?_
   refine .sA (.pickT J J J) ?_
   refine .nil ?_
   refine .cT J (fun h3 => ?_) fun h3 => ?_
   ·have HS := hj.step hja (by omega) (ZgE hjc) (ZgE (by omega)) (.inl h3)
    refine .skip (.seq (.block (.drawG (fun k => (Nat.beq k 15 || Nat.beq k 17) || (Nat.beq k 8 || Nat.beq k 9 || Nat.beq k 12 || Nat.beq k 13 || Nat.beq k 14 || Nat.beq k 16)) (fun k => Nat.beq k 15 || Nat.beq k 17) (fun k h => ZbO.2 (.inl h)) (by kernel_rfl) (by kernel_rfl) (by kernel_rfl) ?_)))
    refine .step J J J (fun _ => AOp.moveO J J) ?_
    refine .step J J J (fun _ => AOp.moveD J J) ?_
    refine .step J J J (fun _ => AOp.moveO J J) ?_
    refine .step J J J (fun _ => AOp.moveD J J) ?_
    refine .step J J J (fun _ => AOp.sub64 J J J (by omega) (by omega)) ?_
    refine .step J J J (fun _ => AOp.moveO J J) ?_
    refine .step J J J (fun _ => AOp.moveD J J) ?_
    refine .step J J J (fun _ => AOp.sub64 J J J (by omega) (by omega)) ?_
    refine .stepS J J J J (.indexOwn J et_37 J J (.head _) (j - 1) (by omega) (by rw [ZlM]; omega)) ?_
    refine .stepS J J J J (.loadRow J sc_3 J (.head _) (j - 1) 0 J (YbK (by omega)) J) ?_
    refine .step J J J (fun _ => AOp.moveO J J) ?_
    refine .step J J J (fun _ => AOp.moveD J J) ?_
    refine .stepS J J J J (.indexOwn J et_37 J J (.head _) j J (by rw [ZlM]; omega)) ?_
    refine .stepS J J J J (.loadRow J sc_3 J (.head _) j 0 J (YbK hjc) J) ?_
    refine .stepS J J J J (.indexOwn J et_37 J J (.head _) j J (by rw [ZlM]; omega)) ?_
    refine .eff J J J (.storeRow J J sz_3 J (.head _) J J J j 0 J (YbK hjc) (ZnB J)) ?_
    refine .stepS J J J J (.indexOwn J et_37 J J (.head _) (j - 1) (by omega) (by rw [List.length_set, ZlM]; omega)) ?_
    refine .eff J J J (.storeRow J J sz_3 J (.head _) J J J (j - 1) 0 J (ZgE (by rw [List.length_set, ZlM]; omega)) (ZnB J)) ?_
    refine .nil ?_
    refine .region (.mA ?_)
    refine .sA (.sub64 J J J) ?_
    refine .aN ?_
    refine ⟨(sw c j (j - 1), j - 1), HS, (by dsimp only; omega), Sub.less ⟨(SLe.i64 (by dsimp only; omega)), U, U, U, U, U, trivial⟩ (Yby (row_swap (enc := fds) (size := 1) (cur := c) (i := j) (j := j - 1) (fun _ => rfl) hjc (by omega) rfl (ZgE (by rw [List.length_set, ZlM]; omega))))⟩
   have HD := hj.done hc hinc hib hb (.inr ⟨_, _, ZgE hjc, ZgE (by omega), h3⟩)
   refine .exit (.region (.mA ?_))
   refine .sA (.add64 J J J) ?_
   refine .aN ?_
   refine ⟨(c, i + 1), ⟨HD, by dsimp only; omega, .inl hib⟩, (by dsimp only; omega), Sub.less ⟨(SLe.i64 (by dsimp only; omega)), U, U, U, U, trivial⟩ (Yby rfl)⟩
  have HD := hj.done hc hinc hib hb (.inl (by omega))
  refine .pA ?_
  refine .pA ?_
  refine .pA ?_
  refine .pA ?_
  refine .pA ?_
  refine .pA ?_
  refine .pA ?_
  refine .pA ?_
  refine .pA ?_
  refine .pA ?_
  refine .pA ?_
  refine .pA ?_
  refine .sA (.pickF J J J) ?_
  refine .nil ?_
  refine .cond J (fun h => nomatch h) (fun _ => ?_)
  refine .exit (.region (.mA ?_))
  refine .sA (.add64 J J J) ?_
  refine .aN ?_
  refine ⟨(c, i + 1), ⟨HD, by dsimp only; omega, .inl hib⟩, (by dsimp only; omega), Sub.less ⟨(SLe.i64 (by dsimp only; omega)), U, U, U, U, trivial⟩ (Yby rfl)⟩
 have HF := ins_end hc ht hab hI (by omega) hie
 refine .exit ?_
 refine ⟨trivial, ⟨Yam (.head _) ?_, trivial⟩⟩
 all_goals (rw [HF])
section
variable {α : Type} {cmp : α -> α -> Int}
theorem seg_none (hc : PreC cmp) {l : List (α × Nat)} (ht : TagsOk l) (a : Nat) : YaY cmp l a a = l := (sortSeg_eq hc (ZnR _) ht (List.Perm.refl _) (fun _ _ => rfl) (fun i j x y h1 h2 h3 => by omega)).symm
end
theorem c_stable {N0 : Nat} (cmp : Fin N0 -> Fin N0 -> Int) (hc : PreC cmp) (f : Nat) (caps : List D) (hf : ∀ x y : Fin N0, Yaq Tryz.prog f (.v (.int .i64 (x.val : Int)) :: .v (.int .i64 (y.val : Int)) :: caps) (.v (.int .i64 (cmp x y)))) (l : List (Fin N0 × Nat)) (hl : l.length <= 20) (ht : TagsOk l) (hin : Incr l 0 l.length) : RCall Tryz.prog 125 3 1 (l.map fds) ((YaY cmp l 0 l.length).map fds) [.v (.int .i64 l.length), .clo (.func f) caps] (.tup []) := by
 refine RCall.of1 (chg := fun i => Nat.ble 1000 i) (xcall_of (n := 63) (ds' := []) Tryz.func125 J (by kernel_rfl) J [] J J ?_) J
 intro B w0 F0 fr ρ0
 refine .sr (.aN ?_)
 refine .sr (.mA ?_)
 refine .aA ?_
 refine .aN ?_
 refine .seq (.block (.loop (G := List (Fin N0 × Nat) × Nat) (fun g => Env.of [(6, .d (.v (.int .i64 20))), (7, .iv g.2), (8, .iv ((g.2 + 20 : Nat) : Int)), (0, .own 1), (1, .iv l.length), (2, .d (.clo (.func f) caps))]) (fun g => [(1, .row 3 1 (g.1.map fds))]) (fun g => g.1.Perm l /\ ((g.2 = 0 /\ g.1 = l) \/ (g.2 = 20 /\ l.length = 20 /\ g.1 = YaY cmp l 0 20))) (fun g => 20 - g.2) (l, 0) ⟨List.Perm.refl _, .inl ⟨J, J⟩⟩ (Sub.less ⟨U, (SLe.i64 J), (SLe.i64 J), U, U, U, trivial⟩ (Yby J)) ?_))
 rintro ⟨c, a⟩ ⟨hp, hg⟩
 dsimp only at hp hg ⊢
 have hcl := hp.length_eq
 have htc : TagsOk c := ht.perm hp
 refine .seq (.sr (.mA ?_))
 refine .mA ?_
 refine .sA (.leq J J J) (.nil ?_)
 refine .cT J (fun h1 => ?_) fun h1 => ?_
 ·have hL : l.length = 20 := by omega
  obtain ⟨rfl, rfl⟩ : a = 0 /\ c = l := by
   rcases hg with h9 | h9
   ·exact h9
   omega
  have hi0 : Incr c 0 (0 + 20) := by rw [show 0 + 20 = c.length by omega]; exact hin
  refine .skip (.block (.sr (.sA (.moveO J J) ?_)))
  refine .mA ?_
  refine .mA ?_
  refine .mA ?_
  -- turns 1
  refine .callX J J J (.cons U (.cons U (.cons (SLe.i64 (by omega)) (.cons U .nil)))) ((c_insSort c 0 (0 + 20) cmp hc f caps hf htc hi0 (by omega) (by omega) (by omega)) 1) ⟨(.head _), trivial⟩ J J (fun _ h => nomatch h) ?_
  refine .nil ?_
  refine .sr (.mA ?_)
  refine .aN ?_
  refine .region (.mA ?_)
  refine .mA ?_
  refine .sA (.add64 J J J) ?_
  refine .aN ?_
  refine ⟨(YaY cmp c 0 (0 + 20), 0 + 20), ⟨(sortSeg_perm cmp c (ZnZ _)).trans hp, .inr ⟨rfl, hL, rfl⟩⟩, (by dsimp only; omega), Sub.less ⟨U, (SLe.i64 (by first | rfl | omega | (dsimp only; omega))), (SLe.i64 (by first | rfl | omega | (dsimp only; omega))), U, U, U, trivial⟩ (Yby rfl)⟩
 have hia : Incr c a l.length := by
  rcases hg with ⟨rfl, rfl⟩ | ⟨h9, h8, _⟩
  ·exact hin
  exact fun i j x y q1 q2 q3 => by omega
 have HF : YaY cmp c a l.length = YaY cmp l 0 l.length := by
  rcases hg with ⟨rfl, rfl⟩ | ⟨h9, h8, h7⟩
  ·rfl
  rw [h8, h9, seg_none hc htc, h7]
 refine .exit (.sr (.sA (.moveO J J) ?_))
 refine .mA ?_
 refine .mA ?_
 refine .mA ?_
 -- turns 1
 refine .callX J J J (.cons U (.cons U (.cons U (.cons U .nil)))) ((c_insSort c a l.length cmp hc f caps hf htc hia (by omega) (by omega) (by omega)) 1) ⟨(.head _), trivial⟩ J J (fun _ h => nomatch h) ?_
 refine .nil ?_
 refine .block (.loop (G := Nat) (fun k => Env.of [(6, .d (.v (.int .i64 20))), (0, .own 1), (1, .iv l.length), (2, .d (.clo (.func f) caps))]) (fun k => [(1, .row 3 1 ((YaY cmp c a l.length).map fds))]) (fun k => k = 0) (fun k => k) 0 J (Sub.less ⟨U, U, U, U, trivial⟩ (Yby J)) ?_)
 intro k hk
 refine .seq (.sr (.mA ?_))
 refine .mA ?_
 refine .sA (.lss J J J) (.nil ?_)
 refine .cT J (fun h2 => ?_) fun h2 => ?_
 ·omega
 refine .exit ?_
 refine ⟨trivial, ⟨Yam (.head _) ?_, trivial⟩⟩
 all_goals (first | rfl | rw [HF])
theorem c_sortStable {N0 : Nat} (cmp : Fin N0 -> Fin N0 -> Int) (hc : PreC cmp) (f : Nat) (caps : List D) (hf : ∀ x y : Fin N0, Yaq Tryz.prog f (.v (.int .i64 (x.val : Int)) :: .v (.int .i64 (y.val : Int)) :: caps) (.v (.int .i64 (cmp x y)))) (l : List (Fin N0 × Nat)) (hl : l.length <= 20) (ht : TagsOk l) (hin : Incr l 0 l.length) : RCall Tryz.prog 78 3 1 (l.map fds) ((YaY cmp l 0 l.length).map fds) [.clo (.func f) caps] (.tup []) := by
 refine RCall.of1 (chg := fun i => Nat.ble 1000 i) (xcall_of (n := 9) (ds' := []) Tryz.func78 J (by kernel_rfl) J [] J J ?_) J
 intro B w0 F0 fr ρ0
 refine .region (.sA (.moveO J J) ?_)
 refine .sA (.moveO J J) (.sA (.lenOwn J et_37.ht J (.head _)) ?_)
 refine .mA ?_
 -- turns 1
 refine .callX J J J (.cons U (.cons (SLe.i64 (by rw [ZlM])) (.cons U .nil))) ((c_stable cmp hc f caps hf l hl ht hin) 1) ⟨(.head _), trivial⟩ J J (fun _ h => nomatch h) ?_
 refine .nil ?_
 refine ⟨trivial, ⟨Yam (.head _) ?_, trivial⟩⟩
 all_goals (rfl)
end
end Go.Proofs.YtcfamaddnmnaeaaGreatDoor
