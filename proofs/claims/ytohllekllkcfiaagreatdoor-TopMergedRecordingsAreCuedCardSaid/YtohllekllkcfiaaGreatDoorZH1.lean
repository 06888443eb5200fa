/- Walks and laws over abstract values, merged by tools/merge.py. No statement of the seat. -/
import Derived.Test.YtohllekllkcfiaaGreatDoorRows
import Derived.WalkKit
import Derived.WalkSpells
import Derived.Lib.Hide
import Derived.BigQuiet
import Derived.Deep.QuietTactic
import Derived.Maps.AppendAt
import Derived.Laws.AppendOwnNone
import Derived.Still
import Derived.Deep.LoopGhost
set_option linter.unusedSimpArgs false
set_option linter.unusedVariables false
open List renaming length_map -> ZlM, getElem?_eq_getElem -> ZgE, getElem?_eq_some_iff -> ZgS, getElem_mem -> ZgM, length_take -> ZlT, getElem_append_left -> ZgL, getD_eq_getElem?_getD -> ZgD, getElem_map -> ZgP, getElem_append_right -> ZgR, getElem?_take -> ZgT, map_append -> ZmA, length_append -> ZlA, length_drop -> ZlD, mem_singleton -> ZmS, mem_map -> ZmM, getElem?_drop -> ZgO
open Array renaming getElem?_eq_some_iff -> ZaS, length_toList -> ZaL, getD_eq_getD_getElem? -> ZaD
open Nat renaming le_refl -> ZnR, le_trans -> ZnT
open Bool renaming and_eq_true -> ZbA
namespace Go.Proofs.YtohllekllkcfiaaGreatDoor
namespace Ty
end Ty
theorem _root_.Go.Proofs.ZfC {α : Type} {a : Option α} {b c : α} (h : a = some b) (k : b = c := by kernel_rfl) : a = some c := k ▸ h
theorem J.{u} {α : Sort u} {a : α} : a = a := rfl
theorem dcT {p : Prop} [Decidable p] (h : decide p = true) : p := of_decide_eq_true h
theorem dcF {p : Prop} [Decidable p] (h : decide p = false) : ¬ p := of_decide_eq_false h
theorem Yaw {b : Bool} (h : (!b) = true) : b = false := by cases b <;> simp_all
theorem Yax {b : Bool} (h : (!b) = false) : b = true := by cases b <;> simp_all
open Go.RowKit
def Cells (w : World) (ad : Addr) (xs : List Value) : Prop := ∀ i (h : i < xs.length), w.cell? (ad.add i) = some xs[i]
def Sl (w : World) (size : Nat) (v : Value) (n : Nat) (xs : List Value) : Prop :=
 xs.length = n * size /\ ((v = .slice none 0 0 /\ n = 0) \/ ∃ ad cap, v = .slice (some ad) n cap /\ n <= cap /\ cap <= 9223372036854775807 /\ Cells w ad xs)
theorem YaN (b o i : Nat) : (⟨b, o, none⟩ : Addr).add i = ⟨b, o + i, none⟩ := by unfold Addr.add; split <;> simp_all
theorem Ycq (ad : Addr) (i j : Nat) : (ad.add i).add j = ad.add (i + j) := by
 unfold Addr.add
 by_cases h1 : i = 0
 ·subst h1; simp
 ·by_cases h2 : j = 0
  ·subst h2; simp [h1]
  ·rw [if_neg h1, if_neg h2, if_neg (by omega)];simp [Nat.add_assoc]
theorem addr_zero (ad : Addr) : ad.add 0 = ad := by simp [Addr.add]
theorem YbC (ad : Addr) (i : Nat) : (ad.add i).block = ad.block := by unfold Addr.add; split <;> rfl
structure ElemTy (P : Program) (t e : TypeId) (size bytes : Nat) (z : Value) : Prop where
 ht : P.underlying t = some (.slice e)
 hi : (P.info? e).map (fun i => (i.zero, i.size, i.bytes)) = some (some z, size, bytes)
 hz : z.cells.size = size
 hs : 0 < size
theorem ElemTy.sizeOf {P : Program} {t e : TypeId} {size bytes : Nat} {z : Value} (T : ElemTy P t e size bytes z) (w : World) : (sizeOf e).run P w = .ok size w := by
 obtain ⟨i, hi, _, h2, _⟩ := info_parts T.hi;simp [Go.sizeOf, typeInfo, hi, h2]
theorem Cells.below {B : Nat} {w w' : World} {ad : Addr} {xs : List Value} (h : Cells w ad xs) (hb : Below B w w') (hB : w.heap.size <= B) : Cells w' ad xs := by
 intro i hi;have hc := h i hi;rw [hb.cell (Nat.lt_of_lt_of_le (World.block_lt_of_cell? w _ hc) hB)];exact hc
theorem Sl.below {B : Nat} {w w' : World} {size n : Nat} {v : Value} {xs : List Value} (h : Sl w size v n xs) (hb : Below B w w') (hB : w.heap.size <= B) : Sl w' size v n xs := by
 refine ⟨h.1, ?_⟩
 rcases h.2 with h2 | ⟨ad, cap, h3, h4, h5, h6⟩
 ·exact .inl h2
 ·exact .inr ⟨ad, cap, h3, h4, h5, h6.below hb hB⟩
theorem Sl.nil (w : World) (size : Nat) : Sl w size (.slice none 0 0) 0 [] := ⟨by simp, .inl ⟨rfl, rfl⟩⟩
theorem cell_behind {w w' : World} {ad : Addr} {v : Value} (hb : Below w.heap.size w w') (h : w.cell? ad = some v) : w'.cell? ad = some v := by
 rw [hb.cell (World.block_lt_of_cell? w _ h)]; exact h
theorem owns_below {w w' : World} {B e size n : Nat} {v : Value} {xs : List Value} (h : w.ownsRow B e size v n xs) (hb : Below w.heap.size w w') : w'.ownsRow B e size v n xs :=
 h.kept (row := none) ⟨hb.os, hb.tape, hb.output, hb.size, fun k hk _ => hb.block k hk⟩ (by cases hv : v.ownBlock <;> simp)
def Apart (x v : Value) : Prop := x.ownBlock = none \/ x.ownBlock ≠ v.ownBlock
theorem Apart.symm {x v : Value} (h : Apart x v) : Apart v x := by
 unfold Apart at *
 rcases h with h | h
 ·cases hv : v.ownBlock with
  | none => exact .inl rfl
  | some g => exact .inr (by rw [h]; simp)
 ·exact .inr (Ne.symm h)
def AllAt (R : Nat -> Value -> Prop) (vs : List Value) : Prop := ∀ i v, vs[i]? = some v -> R i v
theorem AllAt.imp {R S : Nat -> Value -> Prop} {vs : List Value} (h : AllAt R vs) (hi : ∀ i v, R i v -> S i v) : AllAt S vs := fun i v hv => hi i v (h i v hv)
theorem Ydg {P : Program} (ts : Array TypeId) (t : TypeId) (k : IntKind) (x y : Int) (w : World) : (Builtin.min_ ts t #[.int k x, .int k y]).run P w = .ok (.int k (min x y)) w := by
 rw [run_min_int2];congr 2;omega
theorem Ydh {P : Program} (ts : Array TypeId) (t : TypeId) (k : IntKind) (x y : Int) (w : World) : (Builtin.max_ ts t #[.int k x, .int k y]).run P w = .ok (.int k (max x y)) w := by
 rw [run_max_int2];congr 2;omega
section
variable {P : Program} {W w : World} {ops : Array Oper} {rest : List Oper} {o : Oper} {a : Act} {Q : Exit -> Act -> World -> Prop} {t e : TypeId} {size bytes : Nat} {z : Value}
theorem wpList_mk (T : ElemTy P t e size bytes z) (l c : Operand) (hgd : o.guard = none) (ho : o.op = .makeSlice t l c) {n : Nat} (hl : a.eval l = .int .i64 n) (hc : a.eval c = .int .i64 n)
 (hbytes : bytes * n <= 281474976710656) (hn : n <= 9223372036854775807)
 (h : wpList P ops Q rest (a.put o.dst (.slice (some ⟨w.heap.size, 0, none⟩) n n)) (w.alloc (.cells (madeCells z.cells (n * size)) e))) :
 wpList P ops Q (o :: rest) a w := by
 obtain ⟨i, hi, hz0, hz1, hz2⟩ := info_parts T.hi;refine wpList_plain hgd fun K hK => ?_
 have hb' : (i.bytes : Int) * (n : Int) <= 281474976710656 := by
  rw [hz2];have h : ((bytes * n : Nat) : Int) <= 281474976710656 := by omega
  rwa [Int.natCast_mul] at h
 have hr := run_make (P := P) w t e i z T.ht hi hz0 .i64 .i64 n n (by omega) (Int.le_refl _) hb' (by omega);rw [Int.toNat_natCast, hz1] at hr;unfold Oper.wp execOp;simp only [ho, Sem.run_bind, hl, hc, hr, Result.andThen_ok, Sem.run_pure];exact hK _ _ h
end
theorem owns_made {w : World} {B e n size : Nat} {z : Value} (hB : B <= w.heap.size) (hn : n <= 9223372036854775807) :
 (w.alloc (.cells (madeCells z.cells (n * size)) e)).ownsRow B e size (.slice (some ⟨w.heap.size, 0, none⟩) n n) n (madeCells z.cells (n * size)).toList :=
 ⟨by simp [madeCells], .inr ⟨w.heap.size, n, _, rfl, hB, heap_alloc_new w _, ZnR _, by unfold maxLen; omega, by simp [madeCells], List.take_of_length_le (by simp [madeCells])⟩⟩
def Row (w : World) (g e : Nat) (xs : List Value) : Prop := w.heap[g]? = some (.cells xs.toArray e (0, 0))
theorem Row.cell {w : World} {g e : Nat} {xs : List Value} (h : Row w g e xs) {i : Nat} (hi : i < xs.length) : w.cell? ⟨g, i, none⟩ = some xs[i] := by
 rw [cell_of_row w g i xs.toArray e (0, 0) h];simp [hi]
theorem Row.below {B : Nat} {w w' : World} {g e : Nat} {xs : List Value} (h : Row w g e xs) (hb : Below B w w') (hB : g < B) : Row w' g e xs := by
 unfold Row; rw [hb.block g hB]; exact h
theorem Row.lt {w : World} {g e : Nat} {xs : List Value} (h : Row w g e xs) : g < w.heap.size := (ZaS.1 h).1
structure Later (w : World) where
 u : World
 h : Below w.heap.size w u
instance (w : World) : Nonempty (Later w) := ⟨⟨w, Below.refl _ _⟩⟩
theorem Later.cell {w : World} {ad : Addr} {v : Value} (h : w.cell? ad = some v) (n : Later w) : n.u.cell? ad = some v := cell_behind n.h h
structure MapC (es : Array MapEntry) (clock n : Nat) : Prop where
 size : es.size = n
 old : ∀ x ∈ es.toList, x.born < clock
 born : (es.toList.map (·.born)).Nodup
theorem MapC.nil (clock : Nat) : MapC #[] clock 0 := ⟨rfl, by simp, by simp⟩
theorem MapC.push {es : Array MapEntry} {clock n : Nat} (h : MapC es clock n) (key val : Value) : MapC (es.push { key, val, born := clock }) (clock + 1) (n + 1) := by
 refine ⟨by simp [h.size], ?_, ?_⟩
 ·intro x hx;simp only [Array.toList_push, List.mem_append, ZmS] at hx
  rcases hx with hx | rfl
  ·exact Nat.lt_succ_of_lt (h.old x hx)
  ·exact Nat.lt_succ_self _
 ·simp only [Array.toList_push, ZmA, List.map_cons, List.map_nil];refine List.nodup_append.2 ⟨h.born, by simp, ?_⟩;intro a ha b hb;simp only [ZmS] at hb;subst hb;obtain ⟨x, hx, rfl⟩ := ZmM.1 ha;exact Nat.ne_of_lt (h.old x hx)
theorem MapC.modify {es : Array MapEntry} {clock n : Nat} (h : MapC es clock n) (i : Nat) (f : MapEntry -> MapEntry) (hb : ∀ e, (f e).born = e.born) : MapC (es.modify i f) clock n := by
 have hborn : (es.modify i f).toList.map (·.born) = es.toList.map (·.born) := by
  apply List.ext_getElem?;intro j;simp only [List.getElem?_map, Array.getElem?_toList, Array.getElem?_modify]
  by_cases hij : i = j
  ·subst hij
   cases he : es[i]? with
   | none => simp
   | some e => simp [hb e]
  ·simp [hij]
 refine ⟨by simp [h.size], ?_, hborn ▸ h.born⟩;intro x hx;have : x.born ∈ (es.modify i f).toList.map (·.born) := ZmM.2 ⟨x, hx, rfl⟩;rw [hborn] at this;obtain ⟨y, hy, e⟩ := ZmM.1 this;rw [<- e]; exact h.old y hy
inductive D where
 | v (x : Value)
 | any
 | agg (ds : List D)
 | tup (ds : List D)
 | sl (els : List (List D))
 | fp (ds : List D)
 | clo (fn : Fn) (caps : List D)
 | fm (M : List (Value × D))
inductive Rep (F : Nat -> Prop) (w : World) : Value -> D -> Prop where
 | v (x : Value) : Rep F w x (.v x)
 | any (x : Value) : Rep F w x .any
 | agg (cs : List Value) (ds : List D) (hl : cs.length = ds.length) (hone : ∀ i (h1 : i < cs.length), cs[i].oneCell' = true) (h : ∀ i (h1 : i < cs.length) (h2 : i < ds.length), Rep F w cs[i] ds[i]) : Rep F w (.agg cs.toArray) (.agg ds)
 | tup (cs : List Value) (ds : List D) (hl : cs.length = ds.length) (h : ∀ i (h1 : i < cs.length) (h2 : i < ds.length), Rep F w cs[i] ds[i]) : Rep F w (.tuple cs.toArray) (.tup ds)
 | nil : Rep F w (.slice none 0 0) (.sl [])
 | sl (ad : Addr) (cap size : Nat) (els : List (List D)) (vs : Nat -> Nat -> Value) (hc : els.length <= cap) (hm : cap <= 9223372036854775807) (hF : 0 < els.length -> F ad.block)
  (hs : ∀ i (h : i < els.length), els[i].length = size)
  (hcell : ∀ i j, i < els.length -> j < size -> w.cell? (ad.add (i * size + j)) = some (vs i j))
  (hone : ∀ i j, i < els.length -> j < size -> (vs i j).oneCell' = true)
  (hrep : ∀ i (h : i < els.length) j (h' : j < els[i].length), Rep F w (vs i j) els[i][j]) : Rep F w (.slice (some ad) els.length cap) (.sl els)
 | fp (ad : Addr) (ds : List D) (vs : Nat -> Value) (hF : F ad.block) (hcell : ∀ j, j < ds.length -> w.cell? (ad.add j) = some (vs j))
  (hone : ∀ j, j < ds.length -> (vs j).oneCell' = true) (hrep : ∀ j (h : j < ds.length), Rep F w (vs j) ds[j]) : Rep F w (.pointer (some ad)) (.fp ds)
 | clo (fn : Fn) (cs : List Value) (caps : List D) (hl : cs.length = caps.length) (h : ∀ i (h1 : i < cs.length) (h2 : i < caps.length), Rep F w cs[i] caps[i]) : Rep F w (.func fn #[] cs.toArray) (.clo fn caps)
 | fm (b clock : Nat) (es : Array MapEntry) (M0 M : List (Value × D)) (hp : M0.Perm M) (hF : F b) (hh : w.heap[b]? = some (.map es clock)) (hc : MapC es clock M0.length) (hk : ∀ i (h1 : i < es.size) (h2 : i < M0.length), es[i].key = M0[i].1)
  (h : ∀ i (h1 : i < es.size) (h2 : i < M0.length), Rep F w es[i].val M0[i].2) : Rep F w (.map (some b)) (.fm M)
theorem Rep.mono {F F' : Nat -> Prop} {w w' : World} {x : Value} {d : D} (h : Rep F w x d) (hF : ∀ b, F b -> F' b) (hw : ∀ b, F b -> w'.heap[b]? = w.heap[b]?) : Rep F' w' x d := by
 induction h with
 | v x => exact .v x
 | any x => exact .any x
 | agg cs ds hl hone _ ih => exact .agg cs ds hl hone ih
 | tup cs ds hl _ ih => exact .tup cs ds hl ih
 | nil => exact .nil
 | sl ad cap size els vs hc hm hF' hs hcell hone _ ih =>
  refine .sl ad cap size els vs hc hm (fun h0 => hF _ (hF' h0)) hs (fun i j hi hj => ?_) hone ih;rw [<- hcell i j hi hj]
  exact World.cell?_of_block (by rw [YbC]; exact hw _ (hF' (by omega)))
 | fp ad ds vs hF' hcell hone _ ih =>
  refine .fp ad ds vs (hF _ hF') (fun j hj => ?_) hone ih;rw [<- hcell j hj]
  exact World.cell?_of_block (by rw [YbC]; exact hw _ hF')
 | clo fn cs caps hl _ ih => exact .clo fn cs caps hl ih
 | fm b clock es M0 M hp hF' hh hc hk _ ih => exact .fm b clock es M0 M hp (hF _ hF') (by rw [hw _ hF']; exact hh) hc hk ih
structure Ext (F : Nat -> Prop) (w : World) (F' : Nat -> Prop) (w' : World) : Prop where
 up : ∀ b, F b -> F' b
 new : ∀ b, F' b -> F b \/ w.heap.size <= b
 lt : ∀ b, F' b -> b < w'.heap.size
 below : Below w.heap.size w w'
theorem Ext.refl {F : Nat -> Prop} {w : World} (h : ∀ b, F b -> b < w.heap.size) : Ext F w F w := ⟨fun _ h => h, fun _ h => .inl h, h, Below.refl _ _⟩
theorem Ext.trans {F F' F'' : Nat -> Prop} {w w' w'' : World} (h : Ext F w F' w') (k : Ext F' w' F'' w'') : Ext F w F'' w'' :=
 ⟨fun b hb => k.up b (h.up b hb), fun b hb => by
  rcases k.new b hb with h1 | h1
  ·exact h.new b h1
  ·exact .inr (ZnT h.below.size h1), k.lt, h.below.trans (k.below.mono h.below.size)⟩
theorem Ext.of_below {F : Nat -> Prop} {w w' : World} (hF : ∀ b, F b -> b < w.heap.size) (h : Below w.heap.size w w') : Ext F w F w' :=
 ⟨fun _ h => h, fun _ h => .inl h, fun b hb => Nat.lt_of_lt_of_le (hF b hb) h.size, h⟩
theorem Rep.ext {F F' : Nat -> Prop} {w w' : World} {x : Value} {d : D} (h : Rep F w x d) (hF : ∀ b, F b -> b < w.heap.size) (he : Ext F w F' w') : Rep F' w' x d :=
 h.mono he.up fun b hb => he.below.block b (hF b hb)
inductive Cap where
 | p (id off : Nat)
 | d (x : D)
inductive S where
 | d (x : D)
 | own (id : Nat)
 | ptr (id off : Nat)
 | clo (f : FuncId) (caps : List Cap)
def blk : Value -> Option Nat
 | .slice (some a) _ _ => some a.block
 | .pointer (some a) => some a.block
 | .map (some b) => some b
 | _ => none
inductive RepC (F : Nat -> Prop) (ρ : Nat -> Value) (w : World) : Value -> Cap -> Prop where
 | p (id off g : Nat) (h : blk (ρ id) = some g) : RepC F ρ w (.pointer (some ⟨g, off, none⟩)) (.p id off)
 | d {x : Value} {y : D} (h : Rep F w x y) : RepC F ρ w x (.d y)
def RepCL (F : Nat -> Prop) (ρ : Nat -> Value) (w : World) : List Value -> List Cap -> Prop
 | [], [] => True
 | x :: xs, c :: cs => RepC F ρ w x c /\ RepCL F ρ w xs cs
 | _, _ => False
def Cap.anyP (c : Nat -> Bool) : List Cap -> Bool
 | [] => false
 | .p i _ :: l => match c i with | true => true | false => Cap.anyP c l
 | .d _ :: l => Cap.anyP c l
theorem RepCL.to {F F' : Nat -> Prop} {ρ ρ' : Nat -> Value} {w w' : World} (c : Nat -> Bool) (hd : ∀ x y, Rep F w x y -> Rep F' w' x y) (hρ : ∀ i, c i = false -> ρ' i = ρ i) : ∀ {cs : List Value} {caps : List Cap}, Cap.anyP c caps = false -> RepCL F ρ w cs caps -> RepCL F' ρ' w' cs caps
 | [], [], _, _ => trivial
 | x :: xs, .p i off :: cs, hc, h => by
  unfold Cap.anyP at hc
  cases hb : c i with
  | true => rw [hb] at hc; simp at hc
  | false =>
   rw [hb] at hc;refine ⟨?_, RepCL.to c hd hρ hc h.2⟩;have h1 := h.1
   cases h1 with
   | p _ _ g hg => exact .p i off g (by rw [hρ i hb]; exact hg)
 | x :: xs, .d y :: cs, hc, h => by
  unfold Cap.anyP at hc;refine ⟨?_, RepCL.to c hd hρ hc h.2⟩;have h1 := h.1
  cases h1 with
  | d h1 => exact .d (hd _ _ h1)
 | [], _ :: _, _, h => h.elim
 | _ :: _, [], _, h => h.elim
theorem Cap.anyP_none : ∀ (caps : List Cap), Cap.anyP (fun _ => false) caps = false
 | [] => rfl
 | .p _ _ :: l => Cap.anyP_none l
 | .d _ :: l => Cap.anyP_none l
inductive RepS (F : Nat -> Prop) (ρ : Nat -> Value) (w : World) : Value -> S -> Prop where
 | d {x : Value} {y : D} (h : Rep F w x y) : RepS F ρ w x (.d y)
 | own (id : Nat) : RepS F ρ w (ρ id) (.own id)
 | ptr (id off g : Nat) (h : blk (ρ id) = some g) : RepS F ρ w (.pointer (some ⟨g, off, none⟩)) (.ptr id off)
 | clo (f : FuncId) (cs : List Value) (caps : List Cap) (h : RepCL F ρ w cs caps) : RepS F ρ w (.func (.func f) #[] cs.toArray) (.clo f caps)
theorem RepS.ext {F F' : Nat -> Prop} {ρ : Nat -> Value} {w w' : World} {x : Value} {s : S} (h : RepS F ρ w x s) (hF : ∀ b, F b -> b < w.heap.size) (he : Ext F w F' w') : RepS F' ρ w' x s := by
 cases h with
 | d h => exact .d (h.ext hF he)
 | own id => exact .own id
 | ptr id off g h => exact .ptr id off g h
 | clo f cs caps h => exact .clo f cs caps (RepCL.to (fun _ => false) (fun _ _ h => h.ext hF he) (fun _ _ => rfl) (Cap.anyP_none _) h)
inductive Ob where
 | row (e size : Nat) (els : List (List D))
 | cells (ss : List S)
 | cellsT (e : TypeId) (ss : List S)
 | map (M : List (Value × D))
 | rowS (e size : Nat) (els : List (List S))
 | bts (l : List UInt8)
 | raw (p : Value -> Obj -> Prop)
 | mapS (M : List (Value × S))
 | val (ss : List S)
 | iter (M : List (Value × D)) (done : List Nat)
abbrev Obs := List (Nat × Ob)
structure BtsC (l : List UInt8) (cap : Nat) (cur : Array Value) (fz : Nat × Nat) : Prop where
 hfz : l.length <= fz.1
 hcap : l.length <= cap
 hmax : cap <= 9223372036854775807
 hcur : ∀ j (h : j < l.length), cur[j]? = some (.int .u8 (l[j].toNat : Int))
structure IterC (n : Nat) (done : List Nat) (es : Array MapEntry) (clock : Nat) (seen : Array Nat) (c0 : Nat) : Prop extends MapC es clock n where
 seen : seen = (done.map fun i => ((es[i]?).map (·.born)).getD 0).toArray
 lt : ∀ i ∈ done, i < n
 late : c0 = clock
def ObOk (B : Nat) (F : Nat -> Prop) (ρ : Nat -> Value) (w : World) (id : Nat) : Ob -> Prop
 | .row e size els => ∃ xs : Nat -> Nat -> Value, w.ownsRow B e size (ρ id) els.length (((List.range els.length).map fun i => (List.range size).map (xs i)).flatten) /\ (∀ i (h : i < els.length), els[i].length = size) /\
  (∀ i (h : i < els.length) j (h' : j < els[i].length), (xs i j).oneCell' = true /\ Rep F w (xs i j) els[i][j]) /\ (∀ g, blk (ρ id) = some g -> ¬ F g)
 | .cells ss => ∃ g e, ∃ cs : List Value, ρ id = .pointer (some ⟨g, 0, none⟩) /\ B <= g /\ ¬ F g /\ w.heap[g]? = some (.cells cs.toArray e (0, 0)) /\ cs.length = ss.length /\
  (∀ j (h : j < cs.length) (h' : j < ss.length), cs[j].oneCell' = true /\ RepS F ρ w cs[j] ss[j])
 | .cellsT e ss => ∃ g, ∃ cs : List Value, ρ id = .pointer (some ⟨g, 0, none⟩) /\ B <= g /\ ¬ F g /\ w.heap[g]? = some (.cells cs.toArray e (0, 0)) /\ cs.length = ss.length /\
  (∀ j (h : j < cs.length) (h' : j < ss.length), cs[j].oneCell' = true /\ RepS F ρ w cs[j] ss[j])
 | .map M => ∃ b, ∃ es : Array MapEntry, ∃ clock, ρ id = .map (some b) /\ B <= b /\ ¬ F b /\ w.heap[b]? = some (.map es clock) /\ MapC es clock M.length /\ (∀ i (h : i < es.size) (h' : i < M.length), es[i].key = M[i].1 /\ Rep F w es[i].val M[i].2)
 | .rowS e size els => ∃ xs : Nat -> Nat -> Value, w.ownsRow B e size (ρ id) els.length (((List.range els.length).map fun i => (List.range size).map (xs i)).flatten) /\ (∀ i (h : i < els.length), els[i].length = size) /\
  (∀ i (h : i < els.length) j (h' : j < els[i].length), (xs i j).oneCell' = true /\ RepS F ρ w (xs i j) els[i][j]) /\ (∀ g, blk (ρ id) = some g -> ¬ F g)
 | .bts l => ∃ g e cap cur fz, ρ id = .slice (some ⟨g, 0, none⟩) l.length cap /\ B <= g /\ ¬ F g /\ w.heap[g]? = some (.cells cur e fz) /\ BtsC l cap cur fz
 | .raw p => ∃ g ob, blk (ρ id) = some g /\ B <= g /\ ¬ F g /\ w.heap[g]? = some ob /\ p (ρ id) ob
 | .mapS M => ∃ b, ∃ es : Array MapEntry, ∃ clock, ρ id = .map (some b) /\ B <= b /\ ¬ F b /\ w.heap[b]? = some (.map es clock) /\ MapC es clock M.length /\ (∀ i (h : i < es.size) (h' : i < M.length), es[i].key = M[i].1 /\ RepS F ρ w es[i].val M[i].2)
 | .val ss => ∃ cs : List Value, ρ id = .agg cs.toArray /\ cs.length = ss.length /\ ∀ j (h : j < cs.length) (h' : j < ss.length), cs[j].oneCell' = true /\ RepS F ρ w cs[j] ss[j]
 | .iter M done => ∃ g b, ∃ es : Array MapEntry, ∃ clock seen c0, ρ id = .pointer (some ⟨g, 0, none⟩) /\ B <= g /\ ¬ F g /\ w.heap[g]? = some (.mapIter (some b) clock seen c0) /\ F b /\ w.heap[b]? = some (.map es clock) /\ IterC M.length done es clock seen c0 /\
  (∀ i (h : i < es.size) (h' : i < M.length), es[i].key = M[i].1 /\ Rep F w es[i].val M[i].2)
structure ObsOk (B : Nat) (F : Nat -> Prop) (ρ : Nat -> Value) (w : World) (σ : Obs) : Prop where
 ok : ∀ p ∈ σ, ObOk B F ρ w p.1 p.2
 apart : ∀ p ∈ σ, ∀ q ∈ σ, p.1 ≠ q.1 -> ∀ g, blk (ρ p.1) = some g -> blk (ρ q.1) ≠ some g
 uniq : ∀ p ∈ σ, ∀ q ∈ σ, p.1 = q.1 -> p = q
theorem Yeq {w w' : World} {B e size n : Nat} {v : Value} {xs : List Value} (h : w.ownsRow B e size v n xs) (hb : Below w.heap.size w w') : w'.ownsRow B e size v n xs := owns_below h hb
theorem Ybm {w : World} {B e size n : Nat} {v : Value} {xs : List Value} (h : w.ownsRow B e size v n xs) {g : Nat} (hg : blk v = some g) : B <= g /\ g < w.heap.size := by
 rcases h.2 with ⟨rfl, _⟩ | ⟨g', cap, cur, rfl, h1, h2, _⟩
 ·simp [blk] at hg
 ·simp [blk] at hg;subst hg;exact ⟨h1, (ZaS.1 h2).1⟩
theorem ObOk.blk_lt {B : Nat} {F : Nat -> Prop} {ρ : Nat -> Value} {w : World} {id : Nat} {o : Ob} (h : ObOk B F ρ w id o) {g : Nat} (hg : blk (ρ id) = some g) : B <= g /\ g < w.heap.size := by
 cases o with
 | row e size els => obtain ⟨xs, h1, _⟩ := h; exact Ybm h1 hg
 | cells ss =>
  obtain ⟨g', e, cs, h1, h2, _, h3, _⟩ := h;rw [h1] at hg;simp [blk] at hg;subst hg
  exact ⟨h2, (ZaS.1 h3).1⟩
 | cellsT ty0 ss =>
  obtain ⟨g', cs, h1, h2, _, h3, _⟩ := h;rw [h1] at hg;simp [blk] at hg;subst hg
  exact ⟨h2, (ZaS.1 h3).1⟩
 | map M =>
  obtain ⟨b, es, cl, h1, h2, _, h3, _⟩ := h;rw [h1] at hg;simp [blk] at hg;subst hg
  exact ⟨h2, (ZaS.1 h3).1⟩
 | rowS e size els => obtain ⟨xs, h1, _⟩ := h; exact Ybm h1 hg
 | bts l =>
  obtain ⟨g', e, cap, cur, fz, h1, h2, _, h3, _⟩ := h;rw [h1] at hg;simp [blk] at hg;subst hg
  exact ⟨h2, (ZaS.1 h3).1⟩
 | raw p =>
  obtain ⟨g', ob, h1, h2, _, h3, _⟩ := h;rw [h1] at hg;obtain rfl := Option.some.inj hg
  exact ⟨h2, (ZaS.1 h3).1⟩
 | mapS M =>
  obtain ⟨b, es, cl, h1, h2, _, h3, _⟩ := h;rw [h1] at hg;simp [blk] at hg;subst hg
  exact ⟨h2, (ZaS.1 h3).1⟩
 | val ss =>
  obtain ⟨cs, h1, _⟩ := h;rw [h1] at hg
  simp [blk] at hg
 | iter M done =>
  obtain ⟨g', b, es, cl, sn, c0, h1, h2, _, h3, _⟩ := h;rw [h1] at hg;simp [blk] at hg;subst hg;exact ⟨h2, (ZaS.1 h3).1⟩
theorem ObOk.nF {B : Nat} {F : Nat -> Prop} {ρ : Nat -> Value} {w : World} {id : Nat} {o : Ob} (h : ObOk B F ρ w id o) {g : Nat} (hg : blk (ρ id) = some g) : ¬ F g := by
 cases o with
 | row e size els => obtain ⟨xs, _, _, _, h4⟩ := h; exact h4 g hg
 | cells ss =>
  obtain ⟨g', e, cs, h1, _, h2, _⟩ := h;rw [h1] at hg;simp [blk] at hg;subst hg
  exact h2
 | cellsT ty0 ss =>
  obtain ⟨g', cs, h1, _, h2, _⟩ := h;rw [h1] at hg;simp [blk] at hg;subst hg
  exact h2
 | map M =>
  obtain ⟨b, es, cl, h1, _, h2, _⟩ := h;rw [h1] at hg;simp [blk] at hg;subst hg
  exact h2
 | rowS e size els => obtain ⟨xs, _, _, _, h4⟩ := h; exact h4 g hg
 | bts l =>
  obtain ⟨g', e, cap, cur, fz, h1, _, h2, _⟩ := h;rw [h1] at hg;simp [blk] at hg;subst hg
  exact h2
 | raw p =>
  obtain ⟨g', ob, h1, _, h2, _⟩ := h;rw [h1] at hg;obtain rfl := Option.some.inj hg
  exact h2
 | mapS M =>
  obtain ⟨b, es, cl, h1, _, h2, _⟩ := h;rw [h1] at hg;simp [blk] at hg;subst hg
  exact h2
 | val ss =>
  obtain ⟨cs, h1, _⟩ := h;rw [h1] at hg
  simp [blk] at hg
 | iter M done =>
  obtain ⟨g', b, es, cl, sn, c0, h1, _, h2, _⟩ := h;rw [h1] at hg;simp [blk] at hg;subst hg;exact h2
theorem ObOk.ext {B : Nat} {F F' : Nat -> Prop} {ρ : Nat -> Value} {w w' : World} {id : Nat} {o : Ob} (h : ObOk B F ρ w id o) (hF : ∀ b, F b -> b < w.heap.size) (he : Ext F w F' w') : ObOk B F' ρ w' id o := by
 cases o with
 | row e size els =>
  have h0 := h;obtain ⟨xs, h1, h2, h3, h4⟩ := h;refine ⟨xs, Yeq h1 he.below, h2, fun i hi j hj => ⟨(h3 i hi j hj).1, (h3 i hi j hj).2.ext hF he⟩, fun g hg hf => ?_⟩
  rcases he.new g hf with h5 | h5
  ·exact h4 g hg h5
  ·have := (Ybm h1 hg).2; omega
 | cells ss =>
  obtain ⟨g, e, cs, h1, h2, h3, h4, h5, h6⟩ := h;have hg := (ZaS.1 h4).1;refine ⟨g, e, cs, h1, h2, fun hf => ?_, by rw [he.below.block g hg]; exact h4, h5, fun j hj hj' => ⟨(h6 j hj hj').1, (h6 j hj hj').2.ext hF he⟩⟩
  rcases he.new g hf with h7 | h7
  ·exact h3 h7
  ·omega
 | cellsT ty0 ss =>
  obtain ⟨g, cs, h1, h2, h3, h4, h5, h6⟩ := h;have hg := (ZaS.1 h4).1;refine ⟨g, cs, h1, h2, fun hf => ?_, by rw [he.below.block g hg]; exact h4, h5, fun j hj hj' => ⟨(h6 j hj hj').1, (h6 j hj hj').2.ext hF he⟩⟩
  rcases he.new g hf with h7 | h7
  ·exact h3 h7
  ·omega
 | map M =>
  obtain ⟨b, es, cl, h1, h2, h3, h4, h5, h6⟩ := h;have hg := (ZaS.1 h4).1;refine ⟨b, es, cl, h1, h2, fun hf => ?_, by rw [he.below.block b hg]; exact h4, h5, fun i hi hi' => ⟨(h6 i hi hi').1, (h6 i hi hi').2.ext hF he⟩⟩
  rcases he.new b hf with h7 | h7
  ·exact h3 h7
  ·omega
 | rowS e size els =>
  obtain ⟨xs, h1, h2, h3, h4⟩ := h;refine ⟨xs, Yeq h1 he.below, h2, fun i hi j hj => ⟨(h3 i hi j hj).1, (h3 i hi j hj).2.ext hF he⟩, fun g hg hf => ?_⟩
  rcases he.new g hf with h5 | h5
  ·exact h4 g hg h5
  ·have := (Ybm h1 hg).2; omega
 | bts l =>
  obtain ⟨g, e, cap, cur, fz, h1, h2, h3, h4, h5⟩ := h;have hg := (ZaS.1 h4).1;refine ⟨g, e, cap, cur, fz, h1, h2, fun hf => ?_, by rw [he.below.block g hg]; exact h4, h5⟩
  rcases he.new g hf with h7 | h7
  ·exact h3 h7
  ·omega
 | raw p =>
  obtain ⟨g, ob, h1, h2, h3, h4, h5⟩ := h;have hg := (ZaS.1 h4).1;refine ⟨g, ob, h1, h2, fun hf => ?_, by rw [he.below.block g hg]; exact h4, h5⟩
  rcases he.new g hf with h7 | h7
  ·exact h3 h7
  ·omega
 | mapS M =>
  obtain ⟨b, es, cl, h1, h2, h3, h4, h5, h6⟩ := h;have hg := (ZaS.1 h4).1;refine ⟨b, es, cl, h1, h2, fun hf => ?_, by rw [he.below.block b hg]; exact h4, h5, fun i hi hi' => ⟨(h6 i hi hi').1, (h6 i hi hi').2.ext hF he⟩⟩
  rcases he.new b hf with h7 | h7
  ·exact h3 h7
  ·omega
 | val ss =>
  obtain ⟨cs, h1, h2, h3⟩ := h
  exact ⟨cs, h1, h2, fun j hj hj' => ⟨(h3 j hj hj').1, (h3 j hj hj').2.ext hF he⟩⟩
 | iter M done =>
  obtain ⟨g, b, es, cl, sn, c0, h1, h2, h3, h4, h5, h6, h7, h8⟩ := h;have hg := (ZaS.1 h4).1;refine ⟨g, b, es, cl, sn, c0, h1, h2, fun hf => ?_, by rw [he.below.block g hg]; exact h4, he.up b h5, by rw [he.below.block b (hF b h5)]; exact h6, h7, fun i hi hi' => ⟨(h8 i hi hi').1, (h8 i hi hi').2.ext hF he⟩⟩
  rcases he.new g hf with h9 | h9
  ·exact h3 h9
  ·omega
theorem ObsOk.ext {B : Nat} {F F' : Nat -> Prop} {ρ : Nat -> Value} {w w' : World} {σ : Obs} (h : ObsOk B F ρ w σ) (hF : ∀ b, F b -> b < w.heap.size) (he : Ext F w F' w') : ObsOk B F' ρ w' σ :=
 ⟨fun p hp => (h.ok p hp).ext hF he, h.apart, h.uniq⟩
abbrev Env := Nat -> S
abbrev S.iv (x : Int) : S := .d (.v (.int .i64 x))
def Env.put (e : Env) (dst : Option Nat) (s : S) : Env := fun u => match dst with | none => e u | some t => match Nat.beq u t with | true => s | false => e u
def Env.of : List (Nat × S) -> Env
 | [], _ => .d .any
 | (t, s) :: l, u => match Nat.beq u t with | true => s | false => Env.of l u
def Env.ev (e : Env) : Operand -> S
 | .tmp t => e t
 | .const x => .d (.v x)
 | .global g => .d (.v (.pointer (some ⟨g, 0, none⟩)))
 | .func f => .d (.v (.func (.func f) #[] #[]))
theorem Env.put_same (e : Env) (t : Nat) (s : S) : e.put (some t) s t = s := by simp [Env.put]
theorem Env.put_other (e : Env) (t u : Nat) (s : S) (h : u ≠ t) : e.put (some t) s u = e u := by
 have : Nat.beq u t = false := by rw [Bool.eq_false_iff]; exact fun hh => h (Nat.eq_of_beq_eq_true hh)
 simp [Env.put, this]
theorem Env.put_none (e : Env) (s : S) : e.put none s = e := rfl
theorem Env.put_comm (e : Env) (x y : Option Nat) (s s' : S) (h : ∀ d, x = some d -> y ≠ some d) : (e.put x s).put y s' = (e.put y s').put x s := by
 cases x with
 | none => rfl
 | some t =>
  cases y with
  | none => rfl
  | some u =>
   have hne : u ≠ t := fun hh => h t rfl (by rw [hh])
   funext k
   by_cases h1 : k = t
   ·subst h1;rw [Env.put_same, Env.put_other _ _ _ _ (Ne.symm hne), Env.put_same]
   ·rw [Env.put_other (e.put (some u) s') _ _ _ h1]
    by_cases h2 : k = u
    ·subst h2; rw [Env.put_same, Env.put_same]
    ·rw [Env.put_other _ _ _ _ h2, Env.put_other _ _ _ _ h2, Env.put_other _ _ _ _ h1]
structure Cx where
 P : Program
 N : Nat
 B : Nat
 w0 : World
 F0 : Nat -> Prop
 fr : Nat -> Prop
 fixp : Nat -> Bool
 ρ0 : Nat -> Value
def Cx.free (cx : Cx) (id : Nat) : Bool := !(cx.fixp id)
theorem Cx.free_ne {cx : Cx} {id : Nat} (h : cx.free id = true) : ∀ i, cx.fixp i = true -> i ≠ id := fun i hi he => by
 unfold Cx.free at h;rw [<- he, hi] at h;simp at h
structure Kept (fr : Nat -> Prop) (w w' : World) : Prop where
 os : w'.os = w.os
 tape : w'.tape = w.tape
 output : w'.output = w.output
 size : w.heap.size <= w'.heap.size
 block : ∀ k, k < w.heap.size -> ¬ fr k -> w'.heap[k]? = w.heap[k]?
theorem Kept.refl (fr : Nat -> Prop) (w : World) : Kept fr w w := ⟨rfl, rfl, rfl, ZnR _, fun _ _ _ => rfl⟩
theorem Kept.below {fr : Nat -> Prop} {w w1 w2 : World} (h : Kept fr w w1) (k : Below w1.heap.size w1 w2) : Kept fr w w2 :=
 ⟨k.os.trans h.os, k.tape.trans h.tape, k.output.trans h.output, ZnT h.size k.size, fun b hb hf => by rw [k.block b (Nat.lt_of_lt_of_le hb h.size), h.block b hb hf]⟩
structure R0 (cx : Cx) (F : Nat -> Prop) (ρ : Nat -> Value) (e : Env) (σ : Obs) (a : Act) (w : World) : Prop where
 size : a.tmps.size = cx.N
 defers : a.defers = []
 lt : ∀ b, F b -> b < w.heap.size
 base : ∀ b, cx.F0 b -> F b
 new : ∀ b, F b -> cx.F0 b \/ cx.fr b
 below : Kept cx.fr cx.w0 w
 hB : cx.B <= w.heap.size
 env : ∀ t, RepS F ρ w (a.tmps.getD t undef) (e t)
 obs : ObsOk cx.B F ρ w σ
 up : ∀ b, cx.w0.heap.size <= b -> cx.fr b
 kown : ∀ p ∈ σ, ∀ g, blk (ρ p.1) = some g -> cx.fr g
 fixed : ∀ i, cx.fixp i = true -> ρ i = cx.ρ0 i
def R (cx : Cx) (e : Env) (σ : Obs) (a : Act) (w : World) : Prop := ∃ F ρ, R0 cx F ρ e σ a w
abbrev Post := Exit -> Env -> Obs -> Prop
def lift (cx : Cx) (Q : Post) : Exit -> Act -> World -> Prop := fun ex a w => ∃ e σ, Q ex e σ /\ R cx e σ a w
def AWP (cx : Cx) (c : Code) (e : Env) (σ : Obs) (Q : Post) : Prop := ∀ a w, R cx e σ a w -> c.wp cx.P (lift cx Q) a w
def AOps (cx : Cx) (ops : Array Oper) (rest : List Oper) (e : Env) (σ : Obs) (Q : Post) : Prop := ∀ a w, R cx e σ a w -> wpList cx.P ops (lift cx Q) rest a w
def AOp (P : Program) (B : Nat) (ops : Array Oper) (o : Oper) (e : Env) (σ : Obs) (s : S) : Prop :=
 ∀ (F : Nat -> Prop) (ρ : Nat -> Value) (w : World) (a : Act), (∀ b, F b -> b < w.heap.size) -> (∀ t, t ∈ o.looksAt ops -> RepS F ρ w (a.tmps.getD t undef) (e t)) -> ObsOk B F ρ w σ ->
  o.wp P a w (fun a' w' => ∃ v F', a' = a.put o.dst v /\ RepS F' ρ w' v s /\ Ext F w F' w') (fun _ _ _ => False)
def GW (ops : Array Oper) (o : Oper) (e : Env) (b : Bool) : Prop :=
 match o.guard with
 | none => b = true
 | some (j, want) => ∃ t, (ops[j]?).bind (·.dst) = some t /\ ((∃ c, e t = .d (.v (.bool c)) /\ b = (c == want)) \/ (e t = .d (.v undef) /\ b = false))
theorem getD_of_get? {xs : Array Value} {t : Nat} : (xs.getD t undef) = (xs[t]?).getD undef := by simp [ZaD]
theorem GW.wanted {ops : Array Oper} {o : Oper} {e : Env} {b : Bool} (h : GW ops o e b) {F : Nat -> Prop} {ρ : Nat -> Value} {w : World} {a : Act}
 (ha : ∀ t, t ∈ o.looksAt ops -> RepS F ρ w (a.tmps.getD t undef) (e t)) : Region.wanted o (yielded ops a.tmps) = b := by
 unfold GW at h;unfold Region.wanted
 cases hg : o.guard with
 | none => simp [hg] at h; simp [h]
 | some p =>
  obtain ⟨j, want⟩ := p;simp only [hg] at h;obtain ⟨t, ht, h⟩ := h;have hl : t ∈ o.looksAt ops := by unfold Oper.looksAt; rw [hg]; simp [ht]
  have hr := ha t hl;unfold yielded;simp only [ht, Option.bind_some]
  rcases h with ⟨c, hc, rfl⟩ | ⟨hc, rfl⟩
  ·rw [hc] at hr;generalize hx : a.tmps.getD t undef = x at hr
   cases hr with
   | d hr =>
    cases hr;rw [getD_of_get?] at hx
    cases hy : a.tmps[t]? with
    | none => rw [hy] at hx; simp [undef] at hx
    | some y =>
     rw [hy] at hx; simp at hx; subst hx;simp only [];cases c <;> cases want <;> rfl
  ·rw [hc] at hr;generalize hx : a.tmps.getD t undef = x at hr
   cases hr with
   | d hr =>
    cases hr;rw [getD_of_get?] at hx
    cases hy : a.tmps[t]? with
    | none => simp
    | some y => rw [hy] at hx; simp at hx; subst hx; simp [undef]
theorem put_getD_same {a : Act} {t : Nat} {v : Value} (h : t < a.tmps.size) : (a.put (some t) v).tmps.getD t undef = v := by
 simp [Act.put, ZaD, h]
theorem YgE {a : Act} {t u : Nat} {v : Value} (h : u ≠ t) : (a.put (some t) v).tmps.getD u undef = a.tmps.getD u undef := by
 simp [Act.put, ZaD, Array.getElem?_setIfInBounds_ne (Ne.symm h)]
theorem put_size {a : Act} {dst : Option Nat} {v : Value} : (a.put dst v).tmps.size = a.tmps.size := by cases dst <;> simp [Act.put]
theorem put_defers {a : Act} {dst : Option Nat} {v : Value} : (a.put dst v).defers = a.defers := by cases dst <;> simp [Act.put]
theorem YcB {F : Nat -> Prop} {ρ : Nat -> Value} {w : World} : RepS F ρ w undef (.d (.v undef)) := .d (.v _)
def DstOk (N : Nat) (o : Oper) : Prop := (match o.dst with | none => true | some t => Nat.blt t N) = true
theorem DstOk.lt {N : Nat} {o : Oper} {t : Nat} (h : DstOk N o) (ho : o.dst = some t) : t < N := by
 unfold DstOk at h;rw [ho] at h;simpa [Nat.blt_eq] using h
theorem R0.put {cx : Cx} {F F' : Nat -> Prop} {ρ : Nat -> Value} {e : Env} {σ : Obs} {a : Act} {w w' : World} {o : Oper} {v : Value} {s : S} (h : R0 cx F ρ e σ a w) (he : Ext F w F' w') (hs : RepS F' ρ w' v s) (hd : DstOk cx.N o) :
 R0 cx F' ρ (e.put o.dst s) σ (a.put o.dst v) w' where
 size := by rw [put_size]; exact h.size
 defers := by rw [put_defers]; exact h.defers
 lt := he.lt
 base := fun b hb => he.up b (h.base b hb)
 new := fun b hb => by
  rcases he.new b hb with h1 | h1
  ·exact h.new b h1
  ·exact .inr (h.up _ (ZnT h.below.size h1))
 below := h.below.below he.below
 hB := ZnT h.hB he.below.size
 env := fun t => by
  cases ho : o.dst with
  | none => rw [Env.put_none]; exact (h.env t).ext h.lt he
  | some u =>
   have hd' := hd.lt ho
   by_cases hu : t = u
   ·subst hu;rw [Env.put_same, put_getD_same (by rw [h.size]; exact hd')];exact hs
   ·rw [Env.put_other _ _ _ _ hu, YgE hu];exact (h.env t).ext h.lt he
 obs := h.obs.ext h.lt he
 up := h.up
 kown := h.kown
 fixed := h.fixed
theorem R0.drew {cx : Cx} {F : Nat -> Prop} {ρ : Nat -> Value} {e : Env} {σ : Obs} {a : Act} {w : World} (h : R0 cx F ρ e σ a w) : R0 cx F ρ e σ a { w with drawn := w.drawn + 1 } := by
 have he : Ext F w F w.drew := Ext.of_below h.lt (Below.refl _ _).drew;have h0 := h.put (o := ⟨none, .ready 0, 0, "", #[], none⟩) he (v := undef) (s := .d (.v undef)) YcB rfl;exact h0
theorem wp_to {P : Program} {o : Oper} {a : Act} {w : World} {K K' : Act -> World -> Prop} {Q Q' : Exit -> Act -> World -> Prop} (h : ∀ a w, K a w -> K' a w) (hq : ∀ e a w, Q e a w -> Q' e a w)
 (hh : o.wp P a w K Q) : o.wp P a w K' Q' := by
 unfold Oper.wp at *;generalize (execOp a.eval o).run P w = r at *
 cases r with
 | ok n w' =>
  cases n <;> simp only [Oper.upon] at hh ⊢ <;>
   first
    | exact h _ _ hh
    | exact Calls.mono hh (fun e w'' he => by cases e <;> first | exact h _ _ he | exact hq _ _ _ he | exact he.imp fun _ => Exists.imp fun _ => hq _ _ _)
    | exact Rows.mono hh (fun _ _ he => h _ _ he)
 | halt x w' => cases x <;> simp only [Oper.upon] at hh ⊢ <;> first | exact hq _ _ _ hh | exact hh
theorem AOps.nil {cx : Cx} {ops : Array Oper} {e : Env} {σ : Obs} {Q : Post} (h : Q .normal e σ) : AOps cx ops [] e σ Q := fun _ _ hr => ⟨e, σ, h, hr⟩
theorem AOps.cons {cx : Cx} {ops : Array Oper} {o : Oper} {rest : List Oper} {e : Env} {σ : Obs} {Q : Post} {s : S} (hg : GW ops o e true) (hd : DstOk cx.N o) (h : AOp cx.P cx.B ops o e σ s)
 (k : AOps cx ops rest (e.put o.dst s) σ Q) : AOps cx ops (o :: rest) e σ Q := by
 intro a w ⟨F, ρ, hr⟩;have hw := hg.wanted (fun t _ => hr.env t);unfold wpList;rw [if_pos hw];refine .inl ?_;have h1 := h F ρ w a hr.lt (fun t _ => hr.env t) hr.obs;refine wp_to ?_ (fun _ _ _ => False.elim) h1;rintro a' w' ⟨v, F', rfl, hs, he⟩;exact k _ _ ⟨F', ρ, hr.put he hs hd⟩
theorem AOps.step {cx : Cx} {ops : Array Oper} {o : Oper} {rest : List Oper} {e : Env} {σ : Obs} {Q : Post} {s : S} {t : Nat} (hg : GW ops o e true) (ht : o.dst = some t) (hd : Nat.blt t cx.N = true) (h : AOp cx.P cx.B ops o e σ s)
 (k : AOps cx ops rest (e.put (some t) s) σ Q) : AOps cx ops (o :: rest) e σ Q :=
 .cons hg (by unfold DstOk; rw [ht]; exact hd) h (by rw [ht]; exact k)
theorem AOps.skip {cx : Cx} {ops : Array Oper} {o : Oper} {rest : List Oper} {e : Env} {σ : Obs} {Q : Post} (hg : GW ops o e false) (hd : DstOk cx.N o)
 (k : AOps cx ops rest (e.put o.dst (.d (.v undef))) σ Q) : AOps cx ops (o :: rest) e σ Q := by
 intro a w ⟨F, ρ, hr⟩;have hw := hg.wanted (fun t _ => hr.env t);unfold wpList;rw [if_neg (by rw [hw]; simp)];exact k _ _ ⟨F, ρ, hr.put (Ext.refl hr.lt) YcB hd⟩
theorem AOps.pass {cx : Cx} {ops : Array Oper} {o : Oper} {rest : List Oper} {e : Env} {σ : Obs} {Q : Post} {t : Nat} (hg : GW ops o e false) (ht : o.dst = some t) (hd : Nat.blt t cx.N = true)
 (k : AOps cx ops rest (e.put (some t) (.d (.v undef))) σ Q) : AOps cx ops (o :: rest) e σ Q :=
 .skip hg (by unfold DstOk; rw [ht]; exact hd) (by rw [ht]; exact k)
def DRun (cx : Cx) (ops : Array Oper) (σ : Obs) : List Oper -> Env -> (Env -> Prop) -> Prop
 | [], e, Qe => Qe e
 | o :: l, e, Qe => DstOk cx.N o /\ ((∃ s, GW ops o e true /\ AOp cx.P cx.B ops o e σ s /\ DRun cx ops σ l (e.put o.dst s) Qe) \/ (GW ops o e false /\ DRun cx ops σ l (e.put o.dst (.d (.v undef))) Qe))
theorem DRun.nil {cx : Cx} {ops : Array Oper} {σ : Obs} {e : Env} {Qe : Env -> Prop} (h : Qe e) : DRun cx ops σ [] e Qe := h
theorem DRun.cons {cx : Cx} {ops : Array Oper} {σ : Obs} {e : Env} {Qe : Env -> Prop} {o : Oper} {l : List Oper} {s : S} (hg : GW ops o e true) (hd : DstOk cx.N o) (h : AOp cx.P cx.B ops o e σ s)
 (k : DRun cx ops σ l (e.put o.dst s) Qe) : DRun cx ops σ (o :: l) e Qe := ⟨hd, .inl ⟨s, hg, h, k⟩⟩
theorem DRun.skip {cx : Cx} {ops : Array Oper} {σ : Obs} {e : Env} {Qe : Env -> Prop} {o : Oper} {l : List Oper} (hg : GW ops o e false) (hd : DstOk cx.N o)
 (k : DRun cx ops σ l (e.put o.dst (.d (.v undef))) Qe) : DRun cx ops σ (o :: l) e Qe := ⟨hd, .inr ⟨hg, k⟩⟩
theorem DRun.step {cx : Cx} {ops : Array Oper} {σ : Obs} {e : Env} {Qe : Env -> Prop} {o : Oper} {l : List Oper} {s : S} {t : Nat} (hg : GW ops o e true) (ht : o.dst = some t) (hd : Nat.blt t cx.N = true) (h : AOp cx.P cx.B ops o e σ s)
 (k : DRun cx ops σ l (e.put (some t) s) Qe) : DRun cx ops σ (o :: l) e Qe := .cons hg (by unfold DstOk; rw [ht]; exact hd) h (by rw [ht]; exact k)
theorem DRun.pass {cx : Cx} {ops : Array Oper} {σ : Obs} {e : Env} {Qe : Env -> Prop} {o : Oper} {l : List Oper} {t : Nat} (hg : GW ops o e false) (ht : o.dst = some t) (hd : Nat.blt t cx.N = true)
 (k : DRun cx ops σ l (e.put (some t) (.d (.v undef))) Qe) : DRun cx ops σ (o :: l) e Qe := .skip hg (by unfold DstOk; rw [ht]; exact hd) (by rw [ht]; exact k)
theorem guard_looks {ops : Array Oper} {o : Oper} {j : Nat} {want : Bool} {t : Nat} (h : o.guard = some (j, want)) (ht : (ops[j]?).bind (·.dst) = some t) : t ∈ o.looksAt ops := by
 unfold Oper.looksAt; rw [h]; simp [ht]
theorem GW.same {ops : Array Oper} {o : Oper} {e e' : Env} {b : Bool} (h : GW ops o e b) (he : ∀ t, t ∈ o.looksAt ops -> e' t = e t) : GW ops o e' b := by
 unfold GW at *
 cases hg : o.guard with
 | none => simp only [hg] at h ⊢; exact h
 | some p =>
  obtain ⟨j, want⟩ := p;simp only [hg] at h ⊢;obtain ⟨t, ht, h⟩ := h;exact ⟨t, ht, by rw [he t (guard_looks hg ht)]; exact h⟩
theorem YcE {e : Env} {o : Oper} {dst : Option Nat} {s : S} {ops : Array Oper} (h : ∀ d, dst = some d -> d ∉ o.looksAt ops) : ∀ t, t ∈ o.looksAt ops -> (e.put dst s) t = e t := by
 intro t ht
 cases hd : dst with
 | none => rfl
 | some d => exact Env.put_other _ _ _ _ (fun hh => h d hd (hh ▸ ht))
theorem AWP.region {cx : Cx} {id : Nat} {l : List Oper} {e : Env} {σ : Obs} {Q : Post} (h : AOps cx l.toArray l e σ Q) : AWP cx (.region id l.toArray false) e σ Q :=
 fun a w hr => wp_region_list (by simpa using h a w hr)
def ThenQ (cx : Cx) (c : Code) (Q : Post) : Post := fun ex e σ => match ex with
 | .normal => AWP cx c e σ Q
 | ex => Q ex e σ
def BlockQ (id : Nat) (Q : Post) : Post := fun ex e σ => match ex with
 | .exit id' => if id' = id then Q .normal e σ else Q (.exit id') e σ
 | ex => Q ex e σ
section
variable {cx : Cx} {e : Env} {σ : Obs} {Q : Post}
theorem AWP.skip (h : Q .normal e σ) : AWP cx .skip e σ Q := fun _ _ hr => wp_skip ⟨e, σ, h, hr⟩
theorem AWP.exit {id : Nat} (h : Q (.exit id) e σ) : AWP cx (.exit id) e σ Q := fun _ _ hr => wp_exit ⟨e, σ, h, hr⟩
theorem AWP.ret (h : Q .ret e σ) : AWP cx .ret e σ Q := fun _ _ hr => wp_ret ⟨e, σ, h, hr⟩
theorem AWP.seq {x y : Code} (h : AWP cx x e σ (ThenQ cx y Q)) : AWP cx (.seq x y) e σ Q := fun a w hr => by
 refine wp_seq (wp_mono (h a w hr) ?_);rintro ex a' w' ⟨e', σ', hq, hr'⟩
 cases ex with
 | normal => exact hq a' w' hr'
 | exit id => exact ⟨e', σ', hq, hr'⟩
 | goto l => exact ⟨e', σ', hq, hr'⟩
 | ret => exact ⟨e', σ', hq, hr'⟩
 | panic c => exact ⟨e', σ', hq, hr'⟩
 | outgrown => exact ⟨e', σ', hq, hr'⟩
theorem AWP.sr {cx : Cx} {id : Nat} {l : List Oper} {y : Code} {e : Env} {σ : Obs} {Q : Post} (h : AOps cx l.toArray l e σ (ThenQ cx y Q)) : AWP cx (.seq (.region id l.toArray false) y) e σ Q := .seq (.region h)
theorem AWP.block {id : Nat} {c : Code} (h : AWP cx c e σ (BlockQ id Q)) : AWP cx (.block id c) e σ Q := fun a w hr => by
 refine wp_block (wp_mono (h a w hr) ?_);rintro ex a' w' ⟨e', σ', hq, hr'⟩
 cases ex with
 | normal => exact ⟨e', σ', hq, hr'⟩
 | exit id' =>
  simp only [BlockQ] at hq;simp only [Exit.inBlock];split
  ·rename_i he; rw [if_pos he] at hq; exact ⟨e', σ', hq, hr'⟩
  ·rename_i he; rw [if_neg he] at hq; exact ⟨e', σ', hq, hr'⟩
 | goto l => exact ⟨e', σ', hq, hr'⟩
 | ret => exact ⟨e', σ', hq, hr'⟩
 | panic c => exact ⟨e', σ', hq, hr'⟩
 | outgrown => exact ⟨e', σ', hq, hr'⟩
theorem rep_v {F : Nat -> Prop} {w : World} {x y : Value} (h : Rep F w x (.v y)) : x = y := by cases h; rfl
theorem Yav {F : Nat -> Prop} {ρ : Nat -> Value} {w : World} {x y : Value} (h : RepS F ρ w x (.d (.v y))) : x = y := by cases h with | d h => exact rep_v h
theorem Ya1 {F : Nat -> Prop} {ρ : Nat -> Value} {w : World} {a : Act} {x : Operand} (h : ∀ t, x = .tmp t -> RepS F ρ w (a.tmps.getD t undef) (e t)) : RepS F ρ w (a.eval x) (e.ev x) := by
 cases x with
 | tmp t => exact h t rfl
 | const v => exact .d (.v _)
 | global g => exact .d (.v _)
 | func f => exact .d (.v _)
theorem AWP.cond {c : Operand} {x y : Code} {b : Bool} (hc : e.ev c = .d (.v (.bool b))) (ht : b = true -> AWP cx x e σ Q) (hf : b = false -> AWP cx y e σ Q) : AWP cx (.cond c x y) e σ Q := fun a w hr => by
 obtain ⟨F, ρ, hr0⟩ := hr;have h1 := Ya1 (x := c) (a := a) (fun t _ => hr0.env t);rw [hc] at h1;exact wp_cond_split (Yav h1) (fun h => ht h a w ⟨F, ρ, hr0⟩) (fun h => hf h a w ⟨F, ρ, hr0⟩)
theorem AWP.cT {c : Operand} {x y : Code} {p : Prop} [Decidable p] (hc : e.ev c = .d (.v (.bool (decide p)))) (ht : p -> AWP cx x e σ Q) (hf : ¬ p -> AWP cx y e σ Q) : AWP cx (.cond c x y) e σ Q := AWP.cond hc (fun h => ht (dcT h)) (fun h => hf (dcF h))
theorem AWP.cN {c : Operand} {x y : Code} {p : Prop} [Decidable p] (hc : e.ev c = .d (.v (.bool (!(decide p))))) (ht : ¬ p -> AWP cx x e σ Q) (hf : p -> AWP cx y e σ Q) : AWP cx (.cond c x y) e σ Q := AWP.cond hc (fun h => ht (dcF (Yaw h))) (fun h => hf (dcT (Yax h)))
theorem AWP.mono {c : Code} {Q' : Post} (h : AWP cx c e σ Q) (hq : ∀ ex e σ, Q ex e σ -> Q' ex e σ) : AWP cx c e σ Q' := fun a w hr =>
 wp_mono (h a w hr) fun _ _ _ ⟨e', σ', h1, h2⟩ => ⟨e', σ', hq _ _ _ h1, h2⟩
end
def Le (d d' : D) : Prop := ∀ F w x, Rep F w x d -> Rep F w x d'
def SLe (s s' : S) : Prop := ∀ F ρ w x, RepS F ρ w x s -> RepS F ρ w x s'
theorem Le.refl (d : D) : Le d d := fun _ _ _ h => h
theorem Le.of_eq {d d' : D} (h : d = d') : Le d d' := h ▸ Le.refl d
theorem Le.nil : Le (.v (.slice none 0 0)) (.sl []) := fun _ _ _ h => by cases h; exact .nil
theorem Le.trans {a b c : D} (h : Le a b) (k : Le b c) : Le a c := fun F w x hx => k F w x (h F w x hx)
theorem SLe.refl (s : S) : SLe s s := fun _ _ _ _ h => h
theorem SLe.of_eq {s s' : S} (h : s = s') : SLe s s' := h ▸ SLe.refl s
theorem U {s : S} : SLe s s := SLe.refl s
theorem SLe.d {d d' : D} (h : Le d d') : SLe (.d d) (.d d') := fun F ρ w x hx => by cases hx with | d hx => exact .d (h F w x hx)
theorem SLe.any (s : S) : SLe s (.d .any) := fun _ _ _ _ _ => .d (.any _)
def Sub (e : Env) (σ : Obs) (e' : Env) (σ' : Obs) : Prop := ∀ cx a w, R cx e σ a w -> R cx e' σ' a w
def AllLe (e : Env) : List (Nat × S) -> Prop
 | [] => True
 | p :: l => SLe (e p.1) p.2 /\ AllLe e l
theorem AllLe.at {e : Env} : ∀ {l : List (Nat × S)}, AllLe e l -> ∀ t, SLe (e t) (Env.of l t)
 | [], _, t => SLe.any _
 | (u, s) :: l, h, t => by
  unfold Env.of
  cases hb : Nat.beq t u with
  | true => have : t = u := Nat.eq_of_beq_eq_true hb; subst this; exact h.1
  | false => exact AllLe.at h.2 t
theorem Sub.of {e : Env} {σ σ' : Obs} {e' : Env} (h : ∀ t, SLe (e t) (e' t)) (hσ : ∀ p ∈ σ', p ∈ σ) : Sub e σ e' σ' := by
 intro cx a w ⟨F, ρ, hr⟩;exact ⟨F, ρ, hr.size, hr.defers, hr.lt, hr.base, hr.new, hr.below, hr.hB, fun t => h t _ _ _ _ (hr.env t), ⟨fun p hp => hr.obs.ok p (hσ p hp), fun p hp q hq => hr.obs.apart p (hσ p hp) q (hσ q hq), fun p hp q hq => hr.obs.uniq p (hσ p hp) q (hσ q hq)⟩, hr.up, fun p hp => hr.kown p (hσ p hp), hr.fixed⟩
theorem Sub.less {e : Env} {σ σ' : Obs} {l : List (Nat × S)} (h : AllLe e l) (hσ : ∀ p ∈ σ', p ∈ σ) : Sub e σ (Env.of l) σ' := .of h.at hσ
theorem AWP.weaken {cx : Cx} {c : Code} {e e' : Env} {σ σ' : Obs} {Q : Post} (h : Sub e σ e' σ') (k : AWP cx c e' σ' Q) : AWP cx c e σ Q := fun a w hr => k a w (h cx a w hr)
def LoopQ {G : Type} (I : G -> Env) (τ : G -> Obs) (ok : G -> Prop) (μ : G -> Nat) (n : Nat) (Q : Post) : Post := fun ex e σ => match ex with
 | .normal => ∃ g, ok g /\ μ g < n /\ Sub e σ (I g) (τ g)
 | ex => Q ex e σ
theorem AWP.loop {cx : Cx} {c : Code} {e : Env} {σ : Obs} {Q : Post} {G : Type} (I : G -> Env) (τ : G -> Obs) (ok : G -> Prop) (μ : G -> Nat) (g0 : G) (hg : ok g0) (h0 : Sub e σ (I g0) (τ g0))
 (round : ∀ g, ok g -> AWP cx c (I g) (τ g) (LoopQ I τ ok μ (μ g) Q)) : AWP cx (.loop c) e σ Q := by
 intro a w hr;refine wp_loop_ghost (fun n a w => ∃ g, ok g /\ μ g = n /\ R cx (I g) (τ g) a w) (μ g0) ⟨g0, hg, J, h0 cx a w hr⟩ ?_;rintro n a w ⟨g, hok, rfl, hr⟩;refine wp_mono (round g hok a w hr) ?_;rintro ex a' w' ⟨e', σ', hq, hr'⟩
 cases ex with
 | normal =>
  obtain ⟨g', h1, h2, h3⟩ := hq
  exact ⟨μ g', h2, g', h1, J, h3 cx a' w' hr'⟩
 | exit id => exact ⟨e', σ', hq, hr'⟩
 | goto l => exact ⟨e', σ', hq, hr'⟩
 | ret => exact ⟨e', σ', hq, hr'⟩
 | panic c => exact ⟨e', σ', hq, hr'⟩
 | outgrown => exact ⟨e', σ', hq, hr'⟩
def Enters (P : Program) (f : FuncId) : Prop := ∀ args w, (callFunc f args).run P w = .ok (.enter f args) w
theorem Enters.of {P : Program} {f : FuncId} {fn : Func} (hf : P.funcs[f]? = some fn) (hn : (fn.name == "runtime.NumGoroutine") = false) (hb : fn.body.isNone = false) : Enters P f := by
 intro args w;simp only [callFunc, Sem.run_bind];have : (program : Sem Program).run P w = .ok P w := rfl;rw [this];simp only [Result.andThen_ok, hf, hn, hb, Bool.false_eq_true, if_false];rfl
def RepL (F : Nat -> Prop) (w : World) (vs : List Value) (ds : List D) : Prop := vs.length = ds.length /\ ∀ i (h1 : i < vs.length) (h2 : i < ds.length), Rep F w vs[i] ds[i]
def Yad (P : Program) (f : FuncId) (ds : List D) (d : D) : Prop := Enters P f /\
 ∀ (F : Nat -> Prop) (w : World) (vs : List Value), (∀ b, F b -> b < w.heap.size) -> RepL F w vs ds -> Calls P f vs.toArray w fun e w' => ∃ v F', e = .returned v /\ Rep F' w' v d /\ Ext F w F' w'
def ArgOk (e : Env) (x : Operand) (d : D) : Prop := ∃ d0, e.ev x = .d d0 /\ Le d0 d
theorem ArgOk.rfl' {e : Env} {x : Operand} {d : D} (h : e.ev x = .d d) : ArgOk e x d := ⟨d, h, Le.refl d⟩
def ArgsOk (e : Env) : List Operand -> List D -> Prop
 | [], [] => True
 | x :: xs, d :: ds => ArgOk e x d /\ ArgsOk e xs ds
 | _, _ => False
theorem ArgsOk.nil {e : Env} : ArgsOk e [] [] := trivial
theorem ArgsOk.cons {e : Env} {x : Operand} {d : D} {xs : List Operand} {ds : List D} (h : ArgOk e x d) (k : ArgsOk e xs ds) : ArgsOk e (x :: xs) (d :: ds) := ⟨h, k⟩
theorem RepL.cons {F : Nat -> Prop} {w : World} {v : Value} {d : D} {vs : List Value} {ds : List D} (h : Rep F w v d) (k : RepL F w vs ds) : RepL F w (v :: vs) (d :: ds) := by
 refine ⟨by simp [k.1], fun i h1 h2 => ?_⟩
 cases i with
 | zero => exact h
 | succ i => exact k.2 i (by simpa using h1) (by simpa using h2)
theorem RepL.nil {F : Nat -> Prop} {w : World} : RepL F w [] [] := ⟨rfl, fun i h => absurd h (by simp)⟩
theorem Yag {F : Nat -> Prop} {ρ : Nat -> Value} {w : World} {x : Value} {d : D} (h : RepS F ρ w x (.d d)) : Rep F w x d := by
 cases h with | d h => exact h
theorem ArgsOk.rep {e : Env} {F : Nat -> Prop} {ρ : Nat -> Value} {w : World} {a : Act} : ∀ {xs : List Operand} {ds : List D}, ArgsOk e xs ds -> (∀ t, .tmp t ∈ xs -> RepS F ρ w (a.tmps.getD t undef) (e t)) ->
 RepL F w (xs.map a.eval) ds
 | [], [], _, _ => RepL.nil
 | x :: xs, d :: ds, h, ha => by
  obtain ⟨d0, h1, h2⟩ := h.1;have h3 := Ya1 (e := e) (x := x) (a := a) (F := F) (ρ := ρ) (w := w) (fun t ht => ha t (by rw [ht]; simp));rw [h1] at h3;refine RepL.cons ?_ (ArgsOk.rep h.2 fun t ht => ha t (List.mem_cons_of_mem _ ht))
  exact h2 _ _ _ (Yag h3)
 | [], _ :: _, h, _ => h.elim
 | _ :: _, [], h, _ => h.elim
theorem Yfx {e : Env} {F : Nat -> Prop} {ρ : Nat -> Value} {w : World} {a : Act} : ∀ {xs : List Operand} {ds : List D}, ArgsOk e xs ds -> (∀ x ∈ xs, RepS F ρ w (a.eval x) (e.ev x)) -> RepL F w (xs.map a.eval) ds
 | [], [], _, _ => RepL.nil
 | x :: xs, d :: ds, h, ha => by
  obtain ⟨d0, h1, h2⟩ := h.1;have h3 := ha x (by simp);rw [h1] at h3
  exact RepL.cons (h2 _ _ _ (Yag h3)) (Yfx h.2 fun y hy => ha y (List.mem_cons_of_mem _ hy))
 | [], _ :: _, h, _ => h.elim
 | _ :: _, [], h, _ => h.elim
theorem RepL.append {F : Nat -> Prop} {w : World} : ∀ {vs : List Value} {ds : List D} {vs' : List Value} {ds' : List D}, RepL F w vs ds -> RepL F w vs' ds' -> RepL F w (vs ++ vs') (ds ++ ds') := by
 intro vs ds vs' ds' h k;refine ⟨by simp [h.1, k.1], fun i h1 h2 => ?_⟩
 by_cases hi : i < vs.length
 ·rw [ZgL hi, ZgL (by rw [<- h.1]; exact hi)];exact h.2 _ _ _
 ·rw [ZgR (by omega), ZgR (by rw [<- h.1]; omega)];simp only [<- h.1];exact k.2 _ _ _
theorem Ybo {ops : Array Oper} {o : Oper} {t : Nat} (h : Operand.tmp t ∈ o.op.operands.toList) : t ∈ o.looksAt ops := by
 unfold Oper.looksAt;exact List.mem_append_left _ (List.mem_filterMap.2 ⟨_, h, J⟩)
theorem AOp.call {P : Program} {B : Nat} {ops : Array Oper} {o : Oper} {e : Env} {σ : Obs} {f : FuncId} {xs : List Operand} {ts : Array TypeId} {ds : List D} {d : D}
 (ho : o.op = .call { callee := .value (.func f), args := xs.toArray, argTypes := ts }) (ha : ArgsOk e xs ds) (h : Yad P f ds d) : AOp P B ops o e σ (.d d) := by
 intro F ρ w a hF hr _;have h1 : RepL F w (xs.map a.eval) ds := ha.rep (ρ := ρ) fun t ht => hr t (Ybo (by rw [ho]; simp [Op.operands, Call.operands, ht]))
 have h2 := h.2 F w _ hF h1;have h3 := h.1 (xs.map a.eval).toArray w
 have hx : (execOp a.eval o).run P w = .ok (.enter f (xs.map a.eval).toArray) w := by
  unfold execOp;simp only [ho, resolve, Deferred.ofValue, Act.eval, invoke, Sem.run_bind, Sem.run_pure, Result.andThen_ok];simpa using h3
 unfold Oper.wp;rw [hx];exact h2.mono fun _ w' ⟨v, F', he, hv, hE⟩ => by subst he; exact ⟨v, F', rfl, .d hv, hE⟩
theorem YfX (c : Nat) : ∀ n, ((List.range n).map fun _ => c).sum = n * c
 | 0 => by simp
 | n + 1 => by rw [List.range_succ, ZmA, List.sum_append, YfX c n, Nat.add_mul]; simp
theorem YaE (xs : Nat -> Nat -> Value) (size : Nat) : ∀ (n i j : Nat), i < n -> j < size -> (((List.range n).map fun i => (List.range size).map (xs i)).flatten)[i * size + j]? = some (xs i j) := by
 intro n
 induction n with
 | zero => intro i j h; omega
 | succ n ih =>
  intro i j hi hj
  have hl : (((List.range n).map fun i => (List.range size).map (xs i)).flatten).length = n * size := by
   rw [List.length_flatten, List.map_map];have : (List.length ∘ fun i => List.map (xs i) (List.range size)) = fun _ => size := by funext k; simp
   rw [this];exact YfX size n
  rw [List.range_succ, ZmA, List.flatten_append]
  by_cases h : i < n
  ·have hlt : i * size + j < n * size := by
    have := Nat.mul_le_mul_right size (show i + 1 <= n from h);rw [Nat.add_mul] at this;omega
   rw [List.getElem?_append_left (by rw [hl]; exact hlt)];exact ih i j h hj
  ·have : i = n := by omega
   subst this;rw [List.getElem?_append_right (by rw [hl]; omega), hl, Nat.add_sub_cancel_left];simp [hj]
theorem R0.rep_row {cx : Cx} {F : Nat -> Prop} {ρ : Nat -> Value} {e : Env} {σ : Obs} {a : Act} {w : World} (h : R0 cx F ρ e σ a w) {id ee size : Nat} {els : List (List D)} (hm : (id, .row ee size els) ∈ σ) {F' : Nat -> Prop}
 (hF : ∀ b, F b -> F' b) (hb : ∀ g, blk (ρ id) = some g -> F' g) : Rep F' w (ρ id) (.sl els) := by
 obtain ⟨xs, h1, h2, h3, _⟩ := h.obs.ok _ hm;dsimp only at h1 hb;generalize ρ id = v at *
 have hlen : (((List.range els.length).map fun i => (List.range size).map (xs i)).flatten).length = els.length * size := by
  exact h1.1
 have hget : ∀ i j, i < els.length -> j < size -> (((List.range els.length).map fun i => (List.range size).map (xs i)).flatten)[i * size + j]? = some (xs i j) := by
  intro i j hi hj;exact YaE xs size _ i j hi hj
 rcases h1.2 with ⟨rfl, h4⟩ | ⟨g, cap, cur, rfl, hg, hh, hn, hmx, hcs, ht⟩
 ·have : els = [] := List.eq_nil_of_length_eq_zero h4;subst this;exact .nil
 ·refine .sl ⟨g, 0, none⟩ cap size els xs hn (by unfold maxLen at hmx; omega) (fun _ => hb g J) h2 ?_ (fun i j hi hj => (h3 i hi j (by rw [h2]; exact hj)).1) (fun i hi j hj => (h3 i hi j hj).2.mono hF fun _ _ => J);intro i j hi hj;exact World.ownsRow.cells h1 (g := g) J _ _ (hget i j hi hj)
def Env.args : Nat -> List D -> Env
 | _, [] => fun _ => .d .any
 | k, d :: ds => fun u => match Nat.beq u k with | true => .d d | false => Env.args (k + 1) ds u
theorem Env.args_get : ∀ (ds : List D) (k t : Nat), (h : t < ds.length) -> Env.args k ds (k + t) = .d ds[t]
 | [], _, _, h => absurd h (by simp)
 | d :: ds, k, t, h => by
  cases t with
  | zero => simp [Env.args]
  | succ t =>
   have hb : Nat.beq (k + (t + 1)) k = false := by rw [Bool.eq_false_iff]; intro hh; have := Nat.eq_of_beq_eq_true hh; omega
   simp only [Env.args, hb];have := Env.args_get ds (k + 1) t (by simpa using h);rw [show k + (t + 1) = k + 1 + t by omega, this];simp
theorem Env.args_out : ∀ (ds : List D) (k t : Nat), (h : ds.length <= t) -> Env.args k ds (k + t) = .d .any
 | [], _, _, _ => rfl
 | d :: ds, k, t, h => by
  have hb : Nat.beq (k + t) k = false := by rw [Bool.eq_false_iff]; intro hh; have := Nat.eq_of_beq_eq_true hh; simp at h; omega
  simp only [Env.args, hb];have := Env.args_out ds (k + 1) (t - 1) (by simp at h; omega);rw [show k + t = k + 1 + (t - 1) by simp at h; omega, this]
def RetD (e : Env) (σ : Obs) (t : Nat) (d : D) : Prop := (∃ d0, e t = .d d0 /\ Le d0 d) \/ ∃ id ee size els, e t = .own id /\ (id, Ob.row ee size els) ∈ σ /\ d = .sl els
theorem RetD.eq {e : Env} {σ : Obs} {t : Nat} {d d' : D} (h : e t = .d d) (hd : d = d') : RetD e σ t d' := .inl ⟨d, h, Le.of_eq hd⟩
theorem rDq {e : Env} {σ : Obs} {t : Nat} {d d' : D} (h : e t = .d d) (hd : d = d') : RetD e σ t d' /\ True := ⟨.eq h hd, trivial⟩
theorem RetD.nil {e : Env} {σ : Obs} {t : Nat} (h : e t = .d (.v (.slice none 0 0))) : RetD e σ t (.sl []) := .inl ⟨_, h, Le.nil⟩
theorem RetD.own {e : Env} {σ : Obs} {t id ee size : Nat} {els els' : List (List D)} (h : e t = .own id) (hm : (id, Ob.row ee size els) ∈ σ) (hd : els = els') : RetD e σ t (.sl els') := .inr ⟨id, ee, size, els, h, hm, by rw [hd]⟩
def RetL (e : Env) (σ : Obs) : List Nat -> List D -> Prop
 | [], [] => True
 | t :: ts, d :: ds => RetD e σ t d /\ RetL e σ ts ds
 | _, _ => False
def RetQ (ts : List Nat) (ds : List D) : Post := fun ex e σ => match ex with
 | .ret => RetL e σ ts ds
 | .normal => RetL e σ ts ds
 | _ => False
def endF (F : Nat -> Prop) (ρ : Nat -> Value) (σ : Obs) : Nat -> Prop := fun b => F b \/ ∃ p ∈ σ, blk (ρ p.1) = some b
theorem RetD.rep {cx : Cx} {F : Nat -> Prop} {ρ : Nat -> Value} {e : Env} {σ : Obs} {a : Act} {w : World} (h : R0 cx F ρ e σ a w) {t : Nat} {d : D} (hd : RetD e σ t d) : Rep (endF F ρ σ) w (a.tmps.getD t undef) d := by
 have hx := h.env t
 rcases hd with ⟨d0, h1, h2⟩ | ⟨id, ee, size, els, h1, h2, rfl⟩
 ·rw [h1] at hx;exact h2 _ _ _ ((Yag hx).mono (fun b hb => .inl hb) fun _ _ => J)
 ·rw [h1] at hx;generalize a.tmps.getD t undef = x at hx;cases hx;exact h.rep_row h2 (fun b hb => .inl hb) (fun g hg => .inr ⟨_, h2, hg⟩)
theorem endF_ext {cx : Cx} {F : Nat -> Prop} {ρ : Nat -> Value} {e : Env} {σ : Obs} {a : Act} {w : World} (h : R0 cx F ρ e σ a w) (hB : ∀ b, cx.fr b -> cx.w0.heap.size <= b) : Ext cx.F0 cx.w0 (endF F ρ σ) w := by
 refine ⟨fun b hb => .inl (h.base b hb), ?_, ?_, ⟨h.below.os, h.below.tape, h.below.output, h.below.size, fun k hk => h.below.block k hk (fun hf => by have := hB k hf; omega)⟩⟩
 ·rintro b (hb | ⟨p, hp, hb⟩)
  ·exact (h.new b hb).imp id (hB b)
  ·exact .inr (hB b (h.kown p hp b hb))
 ·rintro b (hb | ⟨p, hp, hb⟩)
  ·exact h.lt b hb
  ·exact ((h.obs.ok p hp).blk_lt hb).2
def retOf : List D -> D
 | [d] => d
 | ds => .tup ds
section
variable {P : Program} {B : Nat} {ops : Array Oper} {o : Oper} {e : Env} {σ : Obs}
theorem AOp.value {s : S} (h : ∀ (F : Nat -> Prop) (ρ : Nat -> Value) (w : World) (a : Act), (∀ b, F b -> b < w.heap.size) -> (∀ x ∈ o.op.operands.toList, RepS F ρ w (a.eval x) (e.ev x)) -> ObsOk B F ρ w σ ->
 ∃ v F' w', (execOp a.eval o).run P w = .ok (.value v) w' /\ RepS F' ρ w' v s /\ Ext F w F' w') : AOp P B ops o e σ s := by
 intro F ρ w a hF ha hσ;obtain ⟨v, F', w', h1, h2, h3⟩ := h F ρ w a hF (fun x hx => Ya1 fun t ht => ha t (Ybo (by rw [<- ht]; exact hx))) hσ;unfold Oper.wp;rw [h1];exact ⟨v, F', J, h2, h3⟩
theorem AOp.move {x : Operand} (ho : o.op = .move x) : AOp P B ops o e σ (e.ev x) := .value fun F ρ w a hF hx _ =>
 ⟨a.eval x, F, w, by unfold execOp; simp only [ho]; rfl, hx x (by rw [ho]; simp [Op.operands]), Ext.refl hF⟩
theorem AOp.assign {x : Operand} (ho : o.op = .assign x) : AOp P B ops o e σ (e.ev x) := .value fun F ρ w a hF hx _ =>
 ⟨a.eval x, F, w, by unfold execOp; simp only [ho]; rfl, hx x (by rw [ho]; simp [Op.operands]), Ext.refl hF⟩
theorem AOp.moveD {x : Operand} {d : D} (ho : o.op = .move x) (hx : e.ev x = .d d) : AOp P B ops o e σ (.d d) := hx ▸ .move ho
theorem AOp.assignD {x : Operand} {d : D} (ho : o.op = .assign x) (hx : e.ev x = .d d) : AOp P B ops o e σ (.d d) := hx ▸ .assign ho
theorem AOp.moveO {x : Operand} {id : Nat} (ho : o.op = .move x) (hx : e.ev x = .own id) : AOp P B ops o e σ (.own id) := hx ▸ .move ho
theorem AOp.assignO {x : Operand} {id : Nat} (ho : o.op = .assign x) (hx : e.ev x = .own id) : AOp P B ops o e σ (.own id) := hx ▸ .assign ho
theorem AOp.bin {op : BinOp} {t ty : TypeId} {x y : Operand} {u1 u2 u : Value} (ho : o.op = .binOp op t x y ty) (hx : e.ev x = .d (.v u1)) (hy : e.ev y = .d (.v u2))
 (h : ∀ w, (do eqGuard op t x y u1 u2; binOp op t u1 u2 : Sem Value).run P w = .ok u w) : AOp P B ops o e σ (.d (.v u)) := .value fun F ρ w a hF hr _ => by
 have h1 := hr x (by rw [ho]; simp [Op.operands]);have h2 := hr y (by rw [ho]; simp [Op.operands]);rw [hx] at h1;rw [hy] at h2;refine ⟨u, F, w, ?_, .d (.v _), Ext.refl hF⟩;have := h w;rw [<- Yav h1, <- Yav h2] at this;unfold execOp;simp only [ho];rw [Sem.run_bind, this];rfl
theorem Yak (op : BinOp) (t : TypeId) (x y : Operand) (k k' : IntKind) (a b : Int) (w : World) : (eqGuard op t x y (.int k a) (.int k' b)).run P w = .ok () w := by
 unfold eqGuard; cases op <;> rfl
theorem Yd9 (op : BinOp) (t : TypeId) (x y : Operand) (a b : ByteArray) (w : World) : (eqGuard op t x y (.string a) (.string b)).run P w = .ok () w := by
 unfold eqGuard; cases op <;> rfl
theorem AOp.add {t ty : TypeId} {x y : Operand} {k : IntKind} {a b : Int} (ho : o.op = .binOp .add t x y ty) (hx : e.ev x = .d (.v (.int k a))) (hy : e.ev y = .d (.v (.int k b))) :
 AOp P B ops o e σ (.d (.v (.int k (k.wrap (a + b))))) := .bin ho hx hy fun w => by
 rw [Sem.run_bind, Yak]; simp [binOp, Op.intArith]
theorem AOp.sub {t ty : TypeId} {x y : Operand} {k : IntKind} {a b : Int} (ho : o.op = .binOp .sub t x y ty) (hx : e.ev x = .d (.v (.int k a))) (hy : e.ev y = .d (.v (.int k b))) :
 AOp P B ops o e σ (.d (.v (.int k (k.wrap (a - b))))) := .bin ho hx hy fun w => by
 rw [Sem.run_bind, Yak]; simp [binOp, Op.intArith]
theorem AOp.mul {t ty : TypeId} {x y : Operand} {k : IntKind} {a b : Int} (ho : o.op = .binOp .mul t x y ty) (hx : e.ev x = .d (.v (.int k a))) (hy : e.ev y = .d (.v (.int k b))) :
 AOp P B ops o e σ (.d (.v (.int k (k.wrap (a * b))))) := .bin ho hx hy fun w => by
 rw [Sem.run_bind, Yak]; simp [binOp, Op.intArith]
theorem AOp.quo {t ty : TypeId} {x y : Operand} {k : IntKind} {a b : Int} (ho : o.op = .binOp .quo t x y ty) (hx : e.ev x = .d (.v (.int k a))) (hy : e.ev y = .d (.v (.int k b))) (h0 : b ≠ 0) :
 AOp P B ops o e σ (.d (.v (.int k (k.wrap (a.tdiv b))))) := .bin ho hx hy fun w => by
 rw [Sem.run_bind, Yak]; simp [binOp, Op.intDiv, h0]
theorem AOp.rem {t ty : TypeId} {x y : Operand} {k : IntKind} {a b : Int} (ho : o.op = .binOp .rem t x y ty) (hx : e.ev x = .d (.v (.int k a))) (hy : e.ev y = .d (.v (.int k b))) (h0 : b ≠ 0) :
 AOp P B ops o e σ (.d (.v (.int k (a.tmod b)))) := .bin ho hx hy fun w => by
 rw [Sem.run_bind, Yak]; simp [binOp, Op.intDiv, h0]
theorem w64 {n : Int} (h0 : -9223372036854775808 <= n) (h1 : n <= 9223372036854775807) : IntKind.i64.wrap n = n := by rw [IntKind.wrap_i64]; omega
theorem AOp.add64 {t ty : TypeId} {x y : Operand} {a b : Int} (ho : o.op = .binOp .add t x y ty) (hx : e.ev x = .d (.v (.int .i64 a))) (hy : e.ev y = .d (.v (.int .i64 b)))
 (h0 : -9223372036854775808 <= a + b := by omega) (h1 : a + b <= 9223372036854775807 := by omega) : AOp P B ops o e σ (.d (.v (.int .i64 (a + b)))) := by
 have := AOp.add (P := P) (B := B) (ops := ops) (σ := σ) ho hx hy; rwa [w64 h0 h1] at this
theorem AOp.sub64 {t ty : TypeId} {x y : Operand} {a b : Int} (ho : o.op = .binOp .sub t x y ty) (hx : e.ev x = .d (.v (.int .i64 a))) (hy : e.ev y = .d (.v (.int .i64 b)))
 (h0 : -9223372036854775808 <= a - b := by omega) (h1 : a - b <= 9223372036854775807 := by omega) : AOp P B ops o e σ (.d (.v (.int .i64 (a - b)))) := by
 have := AOp.sub (P := P) (B := B) (ops := ops) (σ := σ) ho hx hy; rwa [w64 h0 h1] at this
theorem AOp.mul64 {t ty : TypeId} {x y : Operand} {a b : Int} (ho : o.op = .binOp .mul t x y ty) (hx : e.ev x = .d (.v (.int .i64 a))) (hy : e.ev y = .d (.v (.int .i64 b)))
 (h0 : -9223372036854775808 <= a * b := by omega) (h1 : a * b <= 9223372036854775807 := by omega) : AOp P B ops o e σ (.d (.v (.int .i64 (a * b)))) := by
 have := AOp.mul (P := P) (B := B) (ops := ops) (σ := σ) ho hx hy; rwa [w64 h0 h1] at this
theorem AOp.rem64 {t ty : TypeId} {x y : Operand} {a b : Int} (ho : o.op = .binOp .rem t x y ty) (hx : e.ev x = .d (.v (.int .i64 a))) (hy : e.ev y = .d (.v (.int .i64 b)))
 (h0 : 0 <= a) (h1 : 0 < b) : AOp P B ops o e σ (.d (.v (.int .i64 (a % b)))) := by
 have := AOp.rem (P := P) (B := B) (ops := ops) (σ := σ) ho hx hy (by omega);rwa [Int.tmod_eq_emod_of_nonneg h0] at this
theorem AOp.lss {t ty : TypeId} {x y : Operand} {k : IntKind} {a b : Int} (ho : o.op = .binOp .lss t x y ty) (hx : e.ev x = .d (.v (.int k a))) (hy : e.ev y = .d (.v (.int k b))) :
 AOp P B ops o e σ (.d (.v (.bool (decide (a < b))))) := .bin ho hx hy fun w => by
 rw [Sem.run_bind, Yak]; simp [binOp, Op.intCmp]
theorem AOp.leq {t ty : TypeId} {x y : Operand} {k : IntKind} {a b : Int} (ho : o.op = .binOp .leq t x y ty) (hx : e.ev x = .d (.v (.int k a))) (hy : e.ev y = .d (.v (.int k b))) :
 AOp P B ops o e σ (.d (.v (.bool (decide (a <= b))))) := .bin ho hx hy fun w => by
 rw [Sem.run_bind, Yak]; simp [binOp, Op.intCmp]
theorem AOp.gtr {t ty : TypeId} {x y : Operand} {k : IntKind} {a b : Int} (ho : o.op = .binOp .gtr t x y ty) (hx : e.ev x = .d (.v (.int k a))) (hy : e.ev y = .d (.v (.int k b))) :
 AOp P B ops o e σ (.d (.v (.bool (decide (b < a))))) := .bin ho hx hy fun w => by
 rw [Sem.run_bind, Yak]; simp [binOp, Op.intCmp]
theorem AOp.geq {t ty : TypeId} {x y : Operand} {k : IntKind} {a b : Int} (ho : o.op = .binOp .geq t x y ty) (hx : e.ev x = .d (.v (.int k a))) (hy : e.ev y = .d (.v (.int k b))) :
 AOp P B ops o e σ (.d (.v (.bool (decide (b <= a))))) := .bin ho hx hy fun w => by
 rw [Sem.run_bind, Yak]; simp [binOp, Op.intCmp]
theorem AOp.eql {t ty : TypeId} {x y : Operand} {k : IntKind} {a b : Int} (ho : o.op = .binOp .eql t x y ty) (hx : e.ev x = .d (.v (.int k a))) (hy : e.ev y = .d (.v (.int k b))) :
 AOp P B ops o e σ (.d (.v (.bool (decide (a = b))))) := .bin ho hx hy fun w => by
 rw [Sem.run_bind, Yak]; simp [binOp, Op.intCmp]; rfl
theorem AOp.neq {t ty : TypeId} {x y : Operand} {k : IntKind} {a b : Int} (ho : o.op = .binOp .neq t x y ty) (hx : e.ev x = .d (.v (.int k a))) (hy : e.ev y = .d (.v (.int k b))) :
 AOp P B ops o e σ (.d (.v (.bool (decide (a ≠ b))))) := .bin ho hx hy fun w => by
 rw [Sem.run_bind, Yak]; simp [binOp, Op.intCmp, bne, Bool.beq_eq_decide_eq]
theorem toList_eq (a b : ByteArray) : (a.toList == b.toList) = decide (a = b) := by
 rw [Bool.eq_iff_iff];simp only [ByteArray.toList_eq, beq_iff_eq, decide_eq_true_eq];exact ⟨fun h => by cases a; cases b; simp at h; rw [h], fun h => by rw [h]⟩
theorem AOp.seql {t ty : TypeId} {x y : Operand} {a b : ByteArray} (ho : o.op = .binOp .eql t x y ty) (hx : e.ev x = .d (.v (.string a))) (hy : e.ev y = .d (.v (.string b))) :
 AOp P B ops o e σ (.d (.v (.bool (decide (a = b))))) := .bin ho hx hy fun w => by
 rw [Sem.run_bind, Yd9]; simp [binOp, Op.stringOp, toList_eq]
theorem AOp.sneq {t ty : TypeId} {x y : Operand} {a b : ByteArray} (ho : o.op = .binOp .neq t x y ty) (hx : e.ev x = .d (.v (.string a))) (hy : e.ev y = .d (.v (.string b))) :
 AOp P B ops o e σ (.d (.v (.bool (decide (a ≠ b))))) := .bin ho hx hy fun w => by
 rw [Sem.run_bind, Yd9]; simp [binOp, Op.stringOp, toList_eq]
theorem AOp.sleq {t ty : TypeId} {x y : Operand} {a b : ByteArray} (ho : o.op = .binOp .leq t x y ty) (hx : e.ev x = .d (.v (.string a))) (hy : e.ev y = .d (.v (.string b))) :
 AOp P B ops o e σ (.d (.v (.bool (Op.bytesLess a.toList b.toList || decide (a = b))))) := .bin ho hx hy fun w => by
 rw [Sem.run_bind, Yd9]; simp [binOp, Op.stringOp, toList_eq]
theorem AOp.not {t : TypeId} {x : Operand} {b : Bool} (ho : o.op = .unOp .not t x) (hx : e.ev x = .d (.v (.bool b))) : AOp P B ops o e σ (.d (.v (.bool (!b)))) := .value fun F ρ w a hF hr _ => by
 have h1 := hr x (by rw [ho]; simp [Op.operands]);rw [hx] at h1;refine ⟨_, F, w, ?_, .d (.v _), Ext.refl hF⟩;unfold execOp;simp only [ho, Yav h1, Op.unary];rfl
theorem AOp.pick {c x y : Operand} {b : Bool} (ho : o.op = .pick c x y) (hc : e.ev c = .d (.v (.bool b))) : AOp P B ops o e σ (if b then e.ev x else e.ev y) := .value fun F ρ w a hF hr _ => by
 have h1 := hr c (by rw [ho]; simp [Op.operands]);have h2 := hr x (by rw [ho]; simp [Op.operands]);have h3 := hr y (by rw [ho]; simp [Op.operands]);rw [hc] at h1;refine ⟨if b then a.eval x else a.eval y, F, w, ?_, by cases b <;> simpa using by first | exact h2 | exact h3, Ext.refl hF⟩;unfold execOp;simp only [ho, Yav h1];cases b <;> rfl
end
section
variable {cx : Cx} {ops : Array Oper} {o : Oper} {rest : List Oper} {e : Env} {σ : Obs} {Q : Post} {s : S} {t : Nat}
theorem AOps.sA (h : AOp cx.P cx.B ops o e σ s) (k : AOps cx ops rest (e.put (some t) s) σ Q) (hg : GW ops o e true := by exact rfl) (ht : o.dst = some t := by exact rfl) (hd : Nat.blt t cx.N = true := by exact rfl) : AOps cx ops (o :: rest) e σ Q := .step hg ht hd h k
theorem AOps.sG (h : AOp cx.P cx.B ops o e σ s) (k : AOps cx ops rest (e.put (some t) s) σ Q) (hg : GW ops o e true := by exact ⟨_, rfl, .inl ⟨_, rfl, rfl⟩⟩) (ht : o.dst = some t := by exact rfl) (hd : Nat.blt t cx.N = true := by exact rfl) : AOps cx ops (o :: rest) e σ Q := .step hg ht hd h k
theorem AOps.pA (k : AOps cx ops rest (e.put (some t) (.d (.v undef))) σ Q) (hg : GW ops o e false := by exact ⟨_, rfl, .inl ⟨_, rfl, rfl⟩⟩) (ht : o.dst = some t := by exact rfl) (hd : Nat.blt t cx.N = true := by exact rfl) : AOps cx ops (o :: rest) e σ Q := .pass hg ht hd k
theorem AOps.mA {x : Operand} {d : D} (k : AOps cx ops rest (e.put (some t) (.d d)) σ Q) (ho : o.op = .move x := by exact rfl) (hx : e.ev x = .d d := by exact rfl) (hg : GW ops o e true := by exact rfl) (ht : o.dst = some t := by exact rfl) (hd : Nat.blt t cx.N = true := by exact rfl) : AOps cx ops (o :: rest) e σ Q := .step hg ht hd (AOp.moveD ho hx) k
theorem AOps.aA {x : Operand} {d : D} (k : AOps cx ops rest (e.put (some t) (.d d)) σ Q) (ho : o.op = .assign x := by exact rfl) (hx : e.ev x = .d d := by exact rfl) (hg : GW ops o e true := by exact rfl) (ht : o.dst = some t := by exact rfl) (hd : Nat.blt t cx.N = true := by exact rfl) : AOps cx ops (o :: rest) e σ Q := .step hg ht hd (AOp.assignD ho hx) k
theorem AOps.aN {x : Operand} {d : D} (k : Q .normal (e.put (some t) (.d d)) σ) (ho : o.op = .assign x := by exact rfl) (hx : e.ev x = .d d := by exact rfl) (hg : GW ops o e true := by exact rfl) (ht : o.dst = some t := by exact rfl) (hd : Nat.blt t cx.N = true := by exact rfl) : AOps cx ops [o] e σ Q := .step hg ht hd (AOp.assignD ho hx) (.nil k)
theorem AOps.mN {x : Operand} {d : D} (k : Q .normal (e.put (some t) (.d d)) σ) (ho : o.op = .move x := by exact rfl) (hx : e.ev x = .d d := by exact rfl) (hg : GW ops o e true := by exact rfl) (ht : o.dst = some t := by exact rfl) (hd : Nat.blt t cx.N = true := by exact rfl) : AOps cx ops [o] e σ Q := .step hg ht hd (AOp.moveD ho hx) (.nil k)
end
section
variable {cx : Cx} {ops : Array Oper} {σ : Obs} {e : Env} {Qe : Env -> Prop} {o : Oper} {l : List Oper} {s : S} {t : Nat}
theorem DRun.sA (h : AOp cx.P cx.B ops o e σ s) (k : DRun cx ops σ l (e.put (some t) s) Qe) (hg : GW ops o e true := by exact rfl) (ht : o.dst = some t := by exact rfl) (hd : Nat.blt t cx.N = true := by exact rfl) : DRun cx ops σ (o :: l) e Qe := .step hg ht hd h k
theorem DRun.sG (h : AOp cx.P cx.B ops o e σ s) (k : DRun cx ops σ l (e.put (some t) s) Qe) (hg : GW ops o e true := by exact ⟨_, rfl, .inl ⟨_, rfl, rfl⟩⟩) (ht : o.dst = some t := by exact rfl) (hd : Nat.blt t cx.N = true := by exact rfl) : DRun cx ops σ (o :: l) e Qe := .step hg ht hd h k
theorem DRun.pA (k : DRun cx ops σ l (e.put (some t) (.d (.v undef))) Qe) (hg : GW ops o e false := by exact ⟨_, rfl, .inl ⟨_, rfl, rfl⟩⟩) (ht : o.dst = some t := by exact rfl) (hd : Nat.blt t cx.N = true := by exact rfl) : DRun cx ops σ (o :: l) e Qe := .pass hg ht hd k
end
theorem YbY {F : Nat -> Prop} {w : World} {x : Value} {els : List (List D)} (h : Rep F w x (.sl els)) : (x = .slice none 0 0 /\ els = []) \/ ∃ (ad : Addr) (cap size : Nat) (vs : Nat -> Nat -> Value), x = .slice (some ad) els.length cap /\ els.length <= cap /\ cap <= 9223372036854775807 /\ (0 < els.length -> F ad.block) /\
 (∀ i (h : i < els.length), els[i].length = size) /\ (∀ i j, i < els.length -> j < size -> w.cell? (ad.add (i * size + j)) = some (vs i j)) /\ (∀ i j, i < els.length -> j < size -> (vs i j).oneCell' = true) /\
 (∀ i (h : i < els.length) j (h' : j < els[i].length), Rep F w (vs i j) els[i][j]) := by
 cases h with
 | nil => exact .inl ⟨rfl, rfl⟩
 | sl ad cap size els vs hc hm hF hs hcell hone hrep => exact .inr ⟨ad, cap, size, vs, rfl, hc, hm, hF, hs, hcell, hone, hrep⟩
def Scal (P : Program) (t : TypeId) : Prop := ∀ w, (isAgg t).run P w = .ok false w
def scalB (P : Program) (t : TypeId) : Bool := match P.underlying t with | some (.struct _) => false | some (.array _ _) => false | some _ => true | none => false
theorem Scal.of {P : Program} {t : TypeId} (h : scalB P t = true) : Scal P t := by
 intro w;unfold scalB at h;unfold isAgg
 cases hu : P.underlying t with
 | none => rw [hu] at h; simp at h
 | some u => rw [hu] at h; rw [Sem.run_bind, run_underlying hu]; cases u <;> simp at h ⊢
structure AggT (P : Program) (t : TypeId) (size : Nat) : Prop where
 agg : ∀ w, (isAgg t).run P w = .ok true w
 size : ∀ w, (sizeOf t).run P w = .ok size w
def aggB (P : Program) (t : TypeId) (size : Nat) : Bool := (match P.underlying t with | some (.struct _) => true | some (.array _ _) => true | _ => false) && (match P.info? t with | some i => i.size == size | none => false)
theorem AggT.of {P : Program} {t : TypeId} {size : Nat} (h : aggB P t size = true) : AggT P t size := by
 unfold aggB at h;simp only [ZbA] at h;obtain ⟨h1, h2⟩ := h;refine ⟨fun w => ?_, fun w => ?_⟩
 ·unfold isAgg
  cases hu : P.underlying t with
  | none => rw [hu] at h1; simp at h1
  | some u => rw [hu] at h1; rw [Sem.run_bind, run_underlying hu]; cases u <;> simp at h1 ⊢
 ·cases hi : P.info? t with
  | none => rw [hi] at h2; simp at h2
  | some i => rw [hi] at h2; simp at h2; simp [sizeOf, typeInfo, hi, h2]
def Yac (P : Program) (t : TypeId) (f : Nat) : Option Nat :=
 match P.underlying t with
 | some (.struct fs) => match fs[f]? with
  | some fl => match P.info? fl.type with
   | some i => if i.size = 0 then none else some fl.offset
   | none => none
  | none => none
 | _ => none
theorem Ygt {P : Program} {t : TypeId} {f k : Nat} (h : Yac P t f = some k) (ad : Addr) (w : World) : (Instr.fieldAt t (.pointer (some ad)) f).run P w = .ok (.pointer (some (ad.add k))) w := by
 unfold Yac at h;split at h <;> try (simp at h; done)
 rename_i fs hu;split at h <;> try (simp at h; done)
 rename_i fl hf;split at h <;> try (simp at h; done)
 rename_i i hi;split at h <;> try (simp at h; done)
 rename_i h0;simp at h;simp [Instr.fieldAt, run_underlying hu, hf, Instr.sureAddr, fieldPlace, sizeOf, typeInfo, hi, h0, h]
section
variable {P : Program} {B : Nat} {ops : Array Oper} {o : Oper} {e : Env} {σ : Obs}
theorem AOp.lenSl {x : Operand} {t el : TypeId} {els : List (List D)} (ho : o.op = .call { callee := .builtin .len, args := #[x], argTypes := #[t] }) (ht : P.underlying t = some (.slice el)) (hx : e.ev x = .d (.sl els)) :
 AOp P B ops o e σ (.d (.v (.int .i64 els.length))) := .value fun F ρ w a hF hr _ => by
 have h1 := hr x (by rw [ho]; simp [Op.operands, Call.operands]);rw [hx] at h1;refine ⟨_, F, w, ?_, .d (.v _), Ext.refl hF⟩
 have h2 : (Builtin.len_ #[t] o.type #[a.eval x]).run P w = .ok (.int .i64 els.length) w := by
  rcases YbY (Yag h1) with ⟨h3, h4⟩ | ⟨ad, cap, size, vs, h3, _⟩
  ·rw [h3, h4]; simp [Builtin.len_, run_underlying ht, goInt]
  ·rw [h3]; simp [Builtin.len_, run_underlying ht, goInt]
 unfold execOp;simp only [ho, resolve, invoke, builtin, Sem.run_bind, Sem.run_pure, Result.andThen_ok, List.map_toArray, List.map_cons, List.map_nil, h2]
theorem AOp.lenStr {x : Operand} {t : TypeId} {s : ByteArray} (ho : o.op = .call { callee := .builtin .len, args := #[x], argTypes := #[t] }) (ht : P.underlying t = some .string) (hx : e.ev x = .d (.v (.string s))) :
 AOp P B ops o e σ (.d (.v (.int .i64 s.size))) := .value fun F ρ w a hF hr _ => by
 have h1 := hr x (by rw [ho]; simp [Op.operands, Call.operands]);rw [hx] at h1;refine ⟨_, F, w, ?_, .d (.v _), Ext.refl hF⟩
 have h2 : (Builtin.len_ #[t] o.type #[a.eval x]).run P w = .ok (.int .i64 s.size) w := by
  rw [Yav h1]; simp [Builtin.len_, run_underlying ht, goInt]
 unfold execOp;simp only [ho, resolve, invoke, builtin, Sem.run_bind, Sem.run_pure, Result.andThen_ok, List.map_toArray, List.map_cons, List.map_nil, h2]
theorem AOp.lenOwn {x : Operand} {t el : TypeId} {id ee size : Nat} {els : List (List D)} (ho : o.op = .call { callee := .builtin .len, args := #[x], argTypes := #[t] }) (ht : P.underlying t = some (.slice el)) (hx : e.ev x = .own id)
 (hm : (id, Ob.row ee size els) ∈ σ) : AOp P B ops o e σ (.d (.v (.int .i64 els.length))) := .value fun F ρ w a hF hr hσ => by
 have h1 := hr x (by rw [ho]; simp [Op.operands, Call.operands]);rw [hx] at h1;refine ⟨_, F, w, ?_, .d (.v _), Ext.refl hF⟩
 have h2 : (Builtin.len_ #[t] o.type #[a.eval x]).run P w = .ok (.int .i64 els.length) w := by
  generalize a.eval x = v at h1;cases h1;obtain ⟨xs, h3, _⟩ := hσ.ok _ hm;dsimp only at h3
  rcases h3.2 with ⟨h4, h5⟩ | ⟨g, cap, cur, h4, _⟩
  ·rw [h4, h5]; simp [Builtin.len_, run_underlying ht, goInt]
  ·rw [h4]; simp [Builtin.len_, run_underlying ht, goInt]
 unfold execOp;simp only [ho, resolve, invoke, builtin, Sem.run_bind, Sem.run_pure, Result.andThen_ok, List.map_toArray, List.map_cons, List.map_nil, h2]
theorem fp_drop {F : Nat -> Prop} {w : World} {ad : Addr} {ds : List D} (h : Rep F w (.pointer (some ad)) (.fp ds)) (k : Nat) : Rep F w (.pointer (some (ad.add k))) (.fp (ds.drop k)) := by
 cases h with
 | fp ad ds vs hF hcell hone hrep =>
  refine .fp _ _ (fun j => vs (k + j)) (by rw [YbC]; exact hF) (fun j hj => ?_) (fun j hj => ?_) (fun j hj => ?_)
  ·rw [Ycq]; exact hcell _ (by rw [ZlD] at hj; omega)
  ·exact hone _ (by rw [ZlD] at hj; omega)
  ·rw [List.getElem_drop]; exact hrep _ _
theorem rep_fp {F : Nat -> Prop} {w : World} {x : Value} {ds : List D} (h : Rep F w x (.fp ds)) : ∃ ad, x = .pointer (some ad) := by cases h; exact ⟨_, rfl⟩
theorem AOp.fieldAddr {t : TypeId} {x : Operand} {f k : Nat} {ds : List D} (ho : o.op = .fieldAddr t x f) (hf : Yac P t f = some k) (hx : e.ev x = .d (.fp ds)) : AOp P B ops o e σ (.d (.fp (ds.drop k))) :=
 .value fun F ρ w a hF hr _ => by
 have h1 := hr x (by rw [ho]; simp [Op.operands]);rw [hx] at h1;have h2 := Yag h1;obtain ⟨ad, hv⟩ := rep_fp h2;rw [hv] at h2;refine ⟨.pointer (some (ad.add k)), F, w, ?_, .d (fp_drop h2 k), Ext.refl hF⟩;unfold execOp;simp only [ho, hv];rw [Sem.run_bind, Ygt hf];rfl
theorem AOp.load {t : TypeId} {x : Operand} {d : D} {ds : List D} (ho : o.op = .load t x) (hT : Scal P t) (hx : e.ev x = .d (.fp (d :: ds))) : AOp P B ops o e σ (.d d) :=
 .value fun F ρ w a hF hr _ => by
 have h1 := hr x (by rw [ho]; simp [Op.operands]);rw [hx] at h1;have h2 := Yag h1;obtain ⟨ad, hv⟩ := rep_fp h2;rw [hv] at h2
 cases h2 with
 | fp _ _ vs hF' hcell hone hrep =>
  have hc := hcell 0 (by simp);rw [addr_zero] at hc;refine ⟨vs 0, F, w, ?_, .d (hrep 0 (by simp)), Ext.refl hF⟩;unfold execOp;simp only [ho, hv, Instr.loadAt, Instr.sureAddr, loadVar, Sem.run_bind, Sem.run_pure, Result.andThen_ok, hT w, Bool.false_eq_true, if_false, run_load, hc]
theorem AOp.loadAgg {t : TypeId} {x : Operand} {size : Nat} {ds : List D} (ho : o.op = .load t x) (hT : AggT P t size) (hx : e.ev x = .d (.fp ds)) (hl : ds.length = size) : AOp P B ops o e σ (.d (.agg ds)) :=
 .value fun F ρ w a hF hr _ => by
 have h1 := hr x (by rw [ho]; simp [Op.operands]);rw [hx] at h1;have h2 := Yag h1;obtain ⟨ad, hv⟩ := rep_fp h2;rw [hv] at h2
 cases h2 with
 | fp _ _ vs hF' hcell hone hrep =>
  have hl' : (loadCells ad ((List.range ds.length).map vs).length).run P w = .ok ((List.range ds.length).map vs).toArray w := run_loadCells_list w ad _ (fun j v hj => by
   have hlt := (ZgS.1 hj).1;simp at hlt;rw [hcell j hlt, <- hj]
   simp [hlt])
  simp only [ZlM, List.length_range, hl] at hl';refine ⟨.agg ((List.range ds.length).map vs).toArray, F, w, ?_, .d (.agg _ _ (by simp) (fun i h1 => ?_) (fun i h1 h2 => ?_)), Ext.refl hF⟩
  ·unfold execOp;simp only [ho, hv, Instr.loadAt, Instr.sureAddr, loadVar, Sem.run_bind, Sem.run_pure, Result.andThen_ok, hT.agg w, hT.size w, if_true, hl', hl]
  ·simp at h1 ⊢; exact hone i h1
  ·simp at h1 ⊢; exact hrep i h2
theorem AOp.indexAddr {t el : TypeId} {x ix : Operand} {size bytes : Nat} {z : Value} {n : Int} {els : List (List D)} {ds : List D} (ho : o.op = .indexAddr t x ix) (T : ElemTy P t el size bytes z) (hx : e.ev x = .d (.sl els)) (hi : e.ev ix = .d (.v (.int .i64 n)))
 (k : Nat) (hk : n = k) (hd : els[k]? = some ds) (hl : ds.length = size) : AOp P B ops o e σ (.d (.fp ds)) :=
 .value fun F ρ w a hF hr _ => by
 have h1 := hr x (by rw [ho]; simp [Op.operands]);have h2 := hr ix (by rw [ho]; simp [Op.operands]);rw [hx] at h1;rw [hi] at h2;have hv2 := Yav h2;have hlt : k < els.length := (ZgS.1 hd).1;have hde : els[k] = ds := (ZgS.1 hd).2
 rcases YbY (Yag h1) with ⟨h3, h4⟩ | ⟨ad, cap, size', vs, h3, hc, hm, hF', hs, hcell, hone, hrep⟩
 ·rw [h4] at hlt; simp at hlt
 have hsz : size' = size := by rw [<- hs k hlt, hde, hl]
 subst hsz;refine ⟨.pointer (some (ad.add (k * size'))), F, w, ?_, .d (.fp _ _ (vs k) (by rw [YbC]; exact hF' (by omega)) (fun j hj => ?_) (fun j hj => hone k j hlt (by omega)) (fun j hj => ?_)), Ext.refl hF⟩
 ·unfold execOp;simp only [ho, h3, hv2, hk];have hp : 0 <= (k : Int) /\ (k : Int) < (els.length : Int) := ⟨by omega, by omega⟩;simp [Instr.indexAt, run_underlying T.ht, asIntOf, hlt, T.sizeOf]
 ·rw [Ycq]; exact hcell k j hlt (by omega)
 ·have h5 := hrep k hlt j (by rw [hde]; exact hj);simp only [hde] at h5;exact h5
theorem AOp.extract {x : Operand} {i : Nat} {ds : List D} {d : D} (ho : o.op = .extract x i) (hx : e.ev x = .d (.tup ds)) (hd : ds[i]? = some d) : AOp P B ops o e σ (.d d) :=
 .value fun F ρ w a hF hr _ => by
 have h1 := hr x (by rw [ho]; simp [Op.operands]);rw [hx] at h1;have h2 := Yag h1;generalize hv : a.eval x = v at h2
 cases h2 with
 | tup cs _ hl h =>
  have hlt : i < ds.length := (ZgS.1 hd).1;have hde : ds[i] = d := (ZgS.1 hd).2;have hlt' : i < cs.length := by omega
  refine ⟨cs[i], F, w, ?_, .d (by rw [<- hde]; exact h i hlt' hlt), Ext.refl hF⟩;unfold execOp;simp [ho, hv, Instr.extract, hlt']
theorem AOp.makeFunc {fn : Fn} {cs : List Operand} {caps : List D} (ho : o.op = .makeFunc fn #[] cs.toArray) (hc : ArgsOk e cs caps) : AOp P B ops o e σ (.d (.clo fn caps)) :=
 .value fun F ρ w a hF hr _ => by
 have h1 : RepL F w (cs.map a.eval) caps := by
  refine Yfx hc fun x hx => hr x ?_
  rw [ho]; simp [Op.operands, hx]
 refine ⟨.func fn #[] (cs.map a.eval).toArray, F, w, ?_, .d (.clo fn _ _ h1.1 h1.2), Ext.refl hF⟩;unfold execOp;simp [ho, Instr.makeFunc]
theorem AOp.callClo {x : Operand} {f : FuncId} {xs : List Operand} {ts : Array TypeId} {ds caps : List D} {d : D}
 (ho : o.op = .call { callee := .value x, args := xs.toArray, argTypes := ts }) (hx : e.ev x = .d (.clo (.func f) caps)) (ha : ArgsOk e xs ds) (h : Yad P f (ds ++ caps) d) : AOp P B ops o e σ (.d d) := by
 intro F ρ w a hF hr _;have hr' : ∀ y ∈ o.op.operands.toList, RepS F ρ w (a.eval y) (e.ev y) := fun y hy => Ya1 fun t ht => hr t (Ybo (by rw [<- ht]; exact hy))
 have h1 : RepL F w (xs.map a.eval) ds := Yfx ha fun y hy => hr' y (by rw [ho]; simp [Op.operands, Call.operands, hy])
 have hc := hr' x (by rw [ho]; simp [Op.operands, Call.operands]);rw [hx] at hc;have hc2 := Yag hc;generalize hv : a.eval x = v at hc2
 cases hc2 with
 | clo _ cs _ hl hcs =>
  have h2 := h.2 F w (xs.map a.eval ++ cs) hF (RepL.append h1 ⟨hl, hcs⟩);have h3 := h.1 (xs.map a.eval ++ cs).toArray w
  have hrun : (execOp a.eval o).run P w = .ok (.enter f (xs.map a.eval ++ cs).toArray) w := by
   unfold execOp;simp only [ho, resolve, Deferred.ofValue, hv, invoke, Sem.run_bind, Sem.run_pure, Result.andThen_ok];simpa using h3
  unfold Oper.wp;rw [hrun];exact h2.mono fun _ w' ⟨v, F', he, hv, hE⟩ => by subst he; exact ⟨v, F', rfl, .d hv, hE⟩
end
def D.parts : D -> List D
 | .agg ds => ds
 | .v (.agg cs) => cs.toList.map D.v
 | d => [d]
def D.one : D -> Bool
 | .agg _ => true
 | .v (.agg cs) => cs.toList.all (·.oneCell')
 | .v x => x.oneCell'
 | .sl _ => true
 | .fp _ => true
 | .clo _ _ => true
 | .fm _ => true
 | _ => false
theorem Yb0 {F : Nat -> Prop} {w : World} {x : Value} {d : D} (h : Rep F w x d) (h1 : d.one = true) :
 RepL F w x.cells.toList d.parts /\ ∀ u ∈ x.cells.toList, u.oneCell' = true := by
 have single : ∀ {x : Value} {d : D}, Rep F w x d -> x.cells = #[x] -> x.oneCell' = true -> RepL F w x.cells.toList [d] /\ ∀ u ∈ x.cells.toList, u.oneCell' = true := by
  intro x d h hc ho;rw [hc];refine ⟨RepL.cons h RepL.nil, fun u hu => ?_⟩;simp at hu;rw [hu]; exact ho
 cases h with
 | v x =>
  cases x with
  | agg cs =>
   simp only [D.one, List.all_eq_true] at h1;refine ⟨⟨by simp [Value.cells, D.parts], fun i hi hi' => ?_⟩, h1⟩;simp only [D.parts, ZgP]
   exact .v _
  | tuple cs => simp [D.one, Value.oneCell'] at h1
  | _ => exact single (.v _) rfl rfl
 | any x => simp [D.one] at h1
 | agg cs ds hl hone h =>
  refine ⟨⟨by simp [Value.cells, D.parts, hl], fun i hi hi' => h i hi hi'⟩, fun u hu => ?_⟩;simp [Value.cells] at hu;obtain ⟨i, hi, rfl⟩ := List.getElem_of_mem hu
  exact hone i hi
 | tup => simp [D.one] at h1
 | nil => exact single .nil rfl rfl
 | sl ad cap size els vs hc hm hF hs hcell hone hrep => exact single (.sl ad cap size els vs hc hm hF hs hcell hone hrep) rfl rfl
 | fp ad ds vs hF hcell hone hrep => exact single (.fp ad ds vs hF hcell hone hrep) rfl rfl
 | clo fn cs caps hl h => exact single (.clo fn cs caps hl h) rfl rfl
 | fm b clock es M0 M hp hF hh hc hk h => exact single (.fm b clock es M0 M hp hF hh hc hk h) rfl rfl
theorem fp_new {F : Nat -> Prop} {w : World} {cs : Array Value} {ds : List D} {e : TypeId} (hF : ∀ b, F b -> b < w.heap.size) (h : RepL F w cs.toList ds) (h1 : ∀ u ∈ cs.toList, u.oneCell' = true) :
 Rep (fun b => F b \/ b = w.heap.size) (w.alloc (.cells cs e)) (.pointer (some ⟨w.heap.size, 0, none⟩)) (.fp ds) /\ Ext F w (fun b => F b \/ b = w.heap.size) (w.alloc (.cells cs e)) := by
 have he : Ext F w (fun b => F b \/ b = w.heap.size) (w.alloc (.cells cs e)) := by
  refine ⟨fun b hb => .inl hb, fun b hb => ?_, fun b hb => ?_, (Below.refl _ _).alloc (ZnR _) _⟩
  ·rcases hb with hb | hb
   ·exact .inl hb
   ·exact .inr (by omega)
  ·rcases hb with hb | hb
   ·have := hF b hb; simp; omega
   ·simp; omega
 have hl : cs.toList.length = ds.length := h.1;refine ⟨.fp _ _ (fun j => cs.toList.getD j undef) (.inr J) (fun j hj => ?_) (fun j hj => ?_) (fun j hj => ?_), he⟩
 ·have hj' : j < cs.size := by rw [<- ZaL, hl]; exact hj
  rw [YaN, Nat.zero_add, World.cell?_alloc_new];simp [hj', ZgD]
 ·have hj' : j < cs.toList.length := by omega
  simp only [ZgD, ZgE hj', Option.getD_some];exact h1 _ (ZgM hj')
 ·have hj' : j < cs.toList.length := by omega
  simp only [ZgD, ZgE hj', Option.getD_some];exact (h.2 j hj' hj).ext hF he
section
variable {P : Program} {B : Nat} {ops : Array Oper} {o : Oper} {e : Env} {σ : Obs}
theorem AOp.box {t : TypeId} {x : Operand} {d : D} (ho : o.op = .box t x) (hx : e.ev x = .d d) (h1 : d.one = true) : AOp P B ops o e σ (.d (.fp d.parts)) :=
 .value fun F ρ w a hF hr _ => by
 have h2 := hr x (by rw [ho]; simp [Op.operands]);rw [hx] at h2;obtain ⟨h3, h4⟩ := Yb0 (Yag h2) h1;obtain ⟨h5, h6⟩ := fp_new (e := t) hF h3 h4;refine ⟨_, _, _, ?_, .d h5, h6⟩;unfold execOp;simp only [ho, Instr.box, newVar, newRow];rfl
def fillD (place : Nat -> Option (Nat × Nat)) (cells : List D) : List (Nat × D) -> Option (List D)
 | [] => some cells
 | (i, d) :: rest =>
  match place i with
  | none => none
  | some (off, size) => if d.parts.length ≠ size \/ off + d.parts.length > cells.length then none else fillD place (cells.take off ++ d.parts ++ cells.drop (off + d.parts.length)) rest
theorem foldl_set (cs : Array Value) : ∀ (l : List Value) (k off : Nat), (l.zipIdx k).foldl (fun cs (c, j) => cs.setIfInBounds (off + j) c) cs = (l.zipIdx 0).foldl (fun cs (c, j) => cs.setIfInBounds (off + k + j) c) cs := by
 intro l
 induction l generalizing cs with
 | nil => intro k off; rfl
 | cons c l ih =>
  intro k off;rw [List.zipIdx_cons, List.zipIdx_cons, List.foldl_cons, List.foldl_cons, ih];rw [ih (cs.setIfInBounds (off + k + 0) c) 1 (off + k)];simp [Nat.add_assoc]
theorem get3 (A B C : List Value) (i : Nat) : (A ++ B ++ C)[i]? = if i < A.length then A[i]? else if i < A.length + B.length then B[i - A.length]? else C[i - (A.length + B.length)]? := by
 by_cases h1 : i < A.length
 ·rw [if_pos h1, List.append_assoc, List.getElem?_append_left h1]
 ·rw [if_neg h1]
  by_cases h2 : i < A.length + B.length
  ·rw [if_pos h2, List.getElem?_append_left (by simpa using h2), List.getElem?_append_right (by omega)]
  ·rw [if_neg h2, List.getElem?_append_right (by simpa using (by omega : A.length + B.length <= i)), ZlA]
theorem Ygs (off : Nat) : ∀ (l : List Value) (cs : Array Value), off + l.length <= cs.size -> ((l.zipIdx 0).foldl (fun cs (c, j) => cs.setIfInBounds (off + j) c) cs).toList = cs.toList.take off ++ l ++ cs.toList.drop (off + l.length) := by
 intro l
 induction l generalizing off with
 | nil => intro cs _; simp
 | cons c l ih =>
  intro cs h;simp only [List.length_cons] at h;rw [List.zipIdx_cons, List.foldl_cons, foldl_set, Nat.add_zero];have := ih (off + 1) (cs.setIfInBounds off c) (by simp; omega);refine this.trans ?_;have hn : cs.toList.length = cs.size := ZaL;apply List.ext_getElem?;intro i;rw [get3, get3];simp only [Array.toList_setIfInBounds, List.length_cons, ZlT, List.length_set, hn, Nat.min_eq_left (show off + 1 <= cs.size by omega), Nat.min_eq_left (show off <= cs.size by omega)]
  by_cases h1 : i < off
  ·rw [if_pos (by omega), if_pos h1, ZgT, ZgT, if_pos (by omega), if_pos h1, List.getElem?_set, if_neg (by omega)]
  ·by_cases h2 : i = off
   ·subst h2;rw [if_pos (by omega), if_neg (by omega), if_pos (by omega), ZgT, if_pos (by omega), List.getElem?_set, if_pos rfl, if_pos (by omega), Nat.sub_self];rfl
   ·rw [if_neg (show ¬ i < off + 1 by omega), if_neg h1]
    by_cases h3 : i < off + 1 + l.length
    ·rw [if_pos h3, if_pos (by omega), show i - off = (i - (off + 1)) + 1 by omega, List.getElem?_cons_succ]
    ·rw [if_neg h3, if_neg (by omega), ZgO, ZgO, List.getElem?_set, if_neg (by omega)];congr 1;omega
theorem RepL.take {F : Nat -> Prop} {w : World} {vs : List Value} {ds : List D} (h : RepL F w vs ds) (k : Nat) : RepL F w (vs.take k) (ds.take k) := by
 refine ⟨by simp [h.1], fun i h1 h2 => ?_⟩;rw [List.getElem_take, List.getElem_take];exact h.2 _ _ _
theorem RepL.drop {F : Nat -> Prop} {w : World} {vs : List Value} {ds : List D} (h : RepL F w vs ds) (k : Nat) : RepL F w (vs.drop k) (ds.drop k) := by
 refine ⟨by simp [h.1], fun i h1 h2 => ?_⟩;rw [List.getElem_drop, List.getElem_drop];exact h.2 _ _ _
def PartsOk (e : Env) : List (Nat × Operand) -> List (Nat × D) -> Prop
 | [], [] => True
 | (i, x) :: xs, (j, d) :: ds => i = j /\ e.ev x = .d d /\ d.one = true /\ PartsOk e xs ds
 | _, _ => False
theorem PartsOk.nil {e : Env} : PartsOk e [] [] := trivial
theorem PartsOk.cons {e : Env} {i : Nat} {x : Operand} {d : D} {xs : List (Nat × Operand)} {ds : List (Nat × D)} (h : e.ev x = .d d) (h1 : d.one = true) (k : PartsOk e xs ds) : PartsOk e ((i, x) :: xs) ((i, d) :: ds) := ⟨rfl, h, h1, k⟩
theorem fill_rep {F : Nat -> Prop} {ρ : Nat -> Value} {w : World} {a : Act} {place : Nat -> Option (Nat × Nat)} : ∀ {xs : List (Nat × Operand)} {ps : List (Nat × D)} {cs : Array Value} {ds ds' : List D}, PartsOk e xs ps ->
 (∀ x ∈ xs, RepS F ρ w (a.eval x.2) (e.ev x.2)) -> RepL F w cs.toList ds -> (∀ u ∈ cs.toList, u.oneCell' = true) -> fillD place ds ps = some ds' ->
 ∃ cs', Instr.fill place cs (xs.map fun p => (p.1, a.eval p.2)) = some cs' /\ RepL F w cs'.toList ds' /\ (∀ u ∈ cs'.toList, u.oneCell' = true)
 | [], [], cs, ds, ds', _, _, h1, h2, h3 => by
  simp [fillD] at h3;subst h3
  exact ⟨cs, J, h1, h2⟩
 | (i, x) :: xs, (j, d) :: ps, cs, ds, ds', hp, hx, h1, h2, h3 => by
  obtain ⟨rfl, hd, hone, hp⟩ := hp;have h4 := hx (i, x) (by simp);dsimp only at h4;rw [hd] at h4;obtain ⟨h5, h6⟩ := Yb0 (Yag h4) hone;unfold fillD at h3
  cases hpl : place i with
  | none => rw [hpl] at h3; simp at h3
  | some q =>
   obtain ⟨off, size⟩ := q;rw [hpl] at h3;simp only at h3;split at h3
   ·simp at h3
   ·rename_i hn;have hsz : (a.eval x).cells.size = d.parts.length := by have := h5.1; simpa using this
    have hcl : cs.size = ds.length := by have := h1.1; simpa using this
    have hle : off + (a.eval x).cells.toList.length <= cs.size := by rw [ZaL]; omega
    obtain ⟨cs', h7, h8, h9⟩ := fill_rep (cs := (a.eval x).cells.zipIdx.foldl (fun cs (c, j) => cs.setIfInBounds (off + j) c) cs) hp (fun y hy => hx y (List.mem_cons_of_mem _ hy)) (ds := ds.take off ++ d.parts ++ ds.drop (off + d.parts.length)) (by
     have := Ygs off (a.eval x).cells.toList cs hle;rw [<- Array.foldl_toList, Array.toList_zipIdx];rw [this];have hlen : (a.eval x).cells.toList.length = d.parts.length := h5.1;rw [hlen];exact ((h1.take off).append h5).append (h1.drop _)) (by
     have := Ygs off (a.eval x).cells.toList cs hle;rw [<- Array.foldl_toList, Array.toList_zipIdx];rw [this];intro u hu;simp only [List.mem_append] at hu
     rcases hu with (hu | hu) | hu
     ·exact h2 u (List.mem_of_mem_take hu)
     ·exact h6 u hu
     ·exact h2 u (List.mem_of_mem_drop hu)) h3
    refine ⟨cs', ?_, h8, h9⟩;simp only [List.map_cons, Instr.fill, hpl];rw [if_neg (by rw [hsz, hcl]; simp; omega)]
    exact h7
 | [], _ :: _, _, _, _, h, _, _, _, _ => h.elim
 | _ :: _, [], _, _, _, h, _, _, _, _ => h.elim
structure StructT (P : Program) (t : TypeId) (places : Nat -> Option (Nat × Nat)) (zero : List Value) : Prop where
 run : ∀ (w : World) (parts : Array (Nat × Value)), (Instr.build t parts).run P w = (match Instr.fill places zero.toArray parts.toList with | some cs => .ok (.agg cs) w | none => .halt (.stuck "build: no such field, or a part of the wrong size") w)
 one : ∀ u ∈ zero, u.oneCell' = true
theorem AOp.build {t : TypeId} {xs : List (Nat × Operand)} {ps : List (Nat × D)} {places : Nat -> Option (Nat × Nat)} {zero : List Value} {ds : List D} (ho : o.op = .build t xs.toArray) (T : StructT P t places zero) (hp : PartsOk e xs ps)
 (hf : fillD places (zero.map D.v) ps = some ds) : AOp P B ops o e σ (.d (.agg ds)) :=
 .value fun F ρ w a hF hr _ => by
 have hx : ∀ x ∈ xs, RepS F ρ w (a.eval x.2) (e.ev x.2) := fun x hx => hr x.2 (by
  rw [ho]; simp only [Op.operands]
  exact List.mem_map_of_mem (by simpa using hx))
 obtain ⟨cs, h1, h2, h3⟩ := fill_rep (cs := zero.toArray) hp hx (by
  refine ⟨by simp, fun i h1 h2 => ?_⟩;simp only [ZgP]
  exact .v _) (by simpa using T.one) hf
 have hcs : cs = cs.toList.toArray := by simp
 refine ⟨.agg cs, F, w, ?_, .d ?_, Ext.refl hF⟩
 ·unfold execOp;simp only [ho, Sem.run_bind];rw [T.run w];simp only [List.map_toArray, h1];rfl
 ·rw [hcs];exact .agg _ _ h2.1 (fun i hi => h3 _ (ZgM hi)) h2.2
end
def S.kill (id : Nat) : S -> S
 | .own i => match Nat.beq i id with | true => .d .any | false => .own i
 | .ptr i off => match Nat.beq i id with | true => .d .any | false => .ptr i off
 | .d x => .d x
 | .clo f caps => match Cap.anyP (fun i => Nat.beq i id) caps with | true => .d .any | false => .clo f caps
def Env.kill (id : Nat) (e : Env) : Env := fun t => (e t).kill id
def Ob.kill (id : Nat) : Ob -> Ob
 | .row e size els => .row e size els
 | .cells ss => .cells (ss.map (S.kill id))
 | .cellsT e ss => .cellsT e (ss.map (S.kill id))
 | .map M => .map M
 | .rowS e size els => .rowS e size (els.map fun ss => ss.map (S.kill id))
 | .bts l => .bts l
 | .raw p => .raw p
 | .mapS M => .mapS (M.map fun p => (p.1, p.2.kill id))
 | .val ss => .val (ss.map (S.kill id))
 | .iter M done => .iter M done
def Obs.kill (id : Nat) : Obs -> Obs
 | [] => []
 | p :: l => (p.1, p.2.kill id) :: Obs.kill id l
def Obs.upd (id : Nat) (o : Ob) : Obs -> Obs
 | [] => []
 | p :: l => match Nat.beq p.1 id with | true => (id, o) :: Obs.upd id o l | false => p :: Obs.upd id o l
def Obs.del (id : Nat) : Obs -> Obs
 | [] => []
 | p :: l => match Nat.beq p.1 id with | true => Obs.del id l | false => p :: Obs.del id l
theorem beq_true {a b : Nat} (h : Nat.beq a b = true) : a = b := Nat.eq_of_beq_eq_true h
theorem YcN {a b : Nat} (h : Nat.beq a b = false) : a ≠ b := fun hh => by subst hh; simp at h
theorem RepS.kill {F : Nat -> Prop} {ρ ρ' : Nat -> Value} {w : World} {x : Value} {s : S} (id : Nat) (h : RepS F ρ w x s) (hρ : ∀ i, i ≠ id -> ρ' i = ρ i) : RepS F ρ' w x (s.kill id) := by
 cases h with
 | d h => exact .d h
 | own i =>
  cases hb : Nat.beq i id with
  | true => simp only [S.kill, hb]; exact .d (.any _)
  | false => simp only [S.kill, hb]; rw [<- hρ i (YcN hb)]; exact .own i
 | ptr i off g h =>
  cases hb : Nat.beq i id with
  | true => simp only [S.kill, hb]; exact .d (.any _)
  | false => simp only [S.kill, hb]; exact .ptr i off g (by rw [hρ i (YcN hb)]; exact h)
 | clo f cs caps h =>
  cases hb : Cap.anyP (fun i => Nat.beq i id) caps with
  | true => simp only [S.kill, hb]; exact .d (.any _)
  | false => simp only [S.kill, hb]; exact .clo f cs caps (h.to (fun i => Nat.beq i id) (fun _ _ h => h) (fun i hi => hρ i (YcN hi)) hb)
theorem Obs.mem_kill {id : Nat} : ∀ {σ : Obs} {p : Nat × Ob}, p ∈ Obs.kill id σ -> ∃ q ∈ σ, p = (q.1, q.2.kill id)
 | [], _, h => by cases h
 | x :: l, p, h => by
  unfold Obs.kill at h
  cases h with
  | head => exact ⟨x, by simp, rfl⟩
  | tail _ h => obtain ⟨q, hq, he⟩ := Obs.mem_kill h; exact ⟨q, List.mem_cons_of_mem _ hq, he⟩
theorem Obs.mem_upd {id : Nat} {o : Ob} : ∀ {σ : Obs} {p : Nat × Ob}, p ∈ Obs.upd id o σ -> (p = (id, o) /\ ∃ q ∈ σ, q.1 = id) \/ (p ∈ σ /\ p.1 ≠ id)
 | [], _, h => by cases h
 | x :: l, p, h => by
  unfold Obs.upd at h
  cases hb : Nat.beq x.1 id with
  | true =>
   rw [hb] at h
   cases h with
   | head => exact .inl ⟨rfl, x, by simp, beq_true hb⟩
   | tail _ h =>
    rcases Obs.mem_upd h with ⟨h1, q, h2, h3⟩ | ⟨h1, h2⟩
    ·exact .inl ⟨h1, q, List.mem_cons_of_mem _ h2, h3⟩
    ·exact .inr ⟨List.mem_cons_of_mem _ h1, h2⟩
  | false =>
   rw [hb] at h
   cases h with
   | head => exact .inr ⟨by simp, YcN hb⟩
   | tail _ h =>
    rcases Obs.mem_upd h with ⟨h1, q, h2, h3⟩ | ⟨h1, h2⟩
    ·exact .inl ⟨h1, q, List.mem_cons_of_mem _ h2, h3⟩
    ·exact .inr ⟨List.mem_cons_of_mem _ h1, h2⟩
theorem Obs.mem_del {id : Nat} : ∀ {σ : Obs} {p : Nat × Ob}, p ∈ Obs.del id σ -> p ∈ σ /\ p.1 ≠ id
 | [], _, h => by cases h
 | x :: l, p, h => by
  unfold Obs.del at h
  cases hb : Nat.beq x.1 id with
  | true => rw [hb] at h; obtain ⟨h1, h2⟩ := Obs.mem_del h; exact ⟨List.mem_cons_of_mem _ h1, h2⟩
  | false =>
   rw [hb] at h
   cases h with
   | head => exact ⟨by simp, YcN hb⟩
   | tail _ h => obtain ⟨h1, h2⟩ := Obs.mem_del h; exact ⟨List.mem_cons_of_mem _ h1, h2⟩
structure Turn (w w' : World) (row : Option Nat) : Prop where
 os : w'.os = w.os
 tape : w'.tape = w.tape
 output : w'.output = w.output
 size : w.heap.size <= w'.heap.size
 block : ∀ k, k < w.heap.size -> some k ≠ row -> w'.heap[k]? = w.heap[k]?
theorem Turn.below {B : Nat} {w w' : World} {row : Option Nat} (h : Turn w w' row) (hB : B <= w.heap.size) (hr : ∀ g, row = some g -> B <= g) : Below B w w' :=
 ⟨h.os, h.tape, h.output, h.size, fun k hk => h.block k (by omega) (fun he => by have := hr k he.symm; omega)⟩
theorem RepS.turn {F F' : Nat -> Prop} {ρ : Nat -> Value} {w w' : World} {x : Value} {s : S} {row : Option Nat} (h : RepS F ρ w x s) (hF : ∀ b, F b -> b < w.heap.size) (hr : ∀ g, row = some g -> ¬ F g) (ht : Turn w w' row) (hu : ∀ b, F b -> F' b) : RepS F' ρ w' x s := by
 cases h with
 | d h => exact .d (h.mono hu fun b hb => ht.block b (hF b hb) (fun he => hr b he.symm hb))
 | own i => exact .own i
 | ptr i off g h => exact .ptr i off g h
 | clo f cs caps h => exact .clo f cs caps (h.to (fun _ => false) (fun _ _ h => h.mono hu fun b hb => ht.block b (hF b hb) (fun he => hr b he.symm hb)) (fun _ _ => rfl) (Cap.anyP_none _))
theorem Ybk {w w' : World} {row : Option Nat} {B e size n : Nat} {v : Value} {xs : List Value} (h : w.ownsRow B e size v n xs) (ht : Turn w w' row) (hr : ∀ g, blk v = some g -> row ≠ some g) : w'.ownsRow B e size v n xs := by
 refine ⟨h.1, ?_⟩
 rcases h.2 with h1 | ⟨g, cap, cur, h1, h2, h3, h4⟩
 ·exact .inl h1
 ·refine .inr ⟨g, cap, cur, h1, h2, ?_, h4⟩;rw [ht.block g (ZaS.1 h3).1 (fun he => hr g (by rw [h1]; rfl) he.symm)];exact h3
theorem ObOk.turn {B : Nat} {F F' : Nat -> Prop} {ρ ρ' : Nat -> Value} {w w' : World} {id i : Nat} {o : Ob} {row : Option Nat} (h : ObOk B F ρ w i o) (hi : i ≠ id) (hρ : ∀ j, j ≠ id -> ρ' j = ρ j) (hF : ∀ b, F b -> b < w.heap.size) (hrF : ∀ g, row = some g -> ¬ F g) (ht : Turn w w' row)
 (hr : ∀ g, blk (ρ i) = some g -> row ≠ some g) (hu : ∀ b, F b -> F' b) (hn : ∀ b, F' b -> F b \/ w.heap.size <= b) : ObOk B F' ρ' w' i (o.kill id) := by
 cases o with
 | row e size els =>
  obtain ⟨xs, h1, h2, h3, h4⟩ := h;refine ⟨xs, by rw [hρ i hi]; exact Ybk h1 ht hr, h2, fun k hk j hj => ⟨(h3 k hk j hj).1, (h3 k hk j hj).2.mono hu fun b hb => ht.block b (hF b hb) (fun he => hrF b he.symm hb)⟩, fun g hg hf => ?_⟩;rw [hρ i hi] at hg
  rcases hn g hf with h5 | h5
  ·exact h4 g hg h5
  ·have := (Ybm h1 hg).2; omega
 | cells ss =>
  obtain ⟨g, e, cs, h1, h2, h3, h4, h5, h6⟩ := h;have hg := (ZaS.1 h4).1;refine ⟨g, e, cs, by rw [hρ i hi]; exact h1, h2, fun hf => ?_, by rw [ht.block g hg (fun he => hr g (by rw [h1]; rfl) he.symm)]; exact h4, by simp [h5], fun j hj hj' => ⟨(h6 j hj (by simpa using hj')).1, ?_⟩⟩
  ·rcases hn g hf with h7 | h7
   ·exact h3 h7
   ·omega
  ·rw [ZgP]
   exact ((h6 j hj (by simpa using hj')).2.turn hF hrF ht hu).kill id hρ
 | cellsT ty0 ss =>
  obtain ⟨g, cs, h1, h2, h3, h4, h5, h6⟩ := h;have hg := (ZaS.1 h4).1;refine ⟨g, cs, by rw [hρ i hi]; exact h1, h2, fun hf => ?_, by rw [ht.block g hg (fun he => hr g (by rw [h1]; rfl) he.symm)]; exact h4, by simp [h5], fun j hj hj' => ⟨(h6 j hj (by simpa using hj')).1, ?_⟩⟩
  ·rcases hn g hf with h7 | h7
   ·exact h3 h7
   ·omega
  ·rw [ZgP]
   exact ((h6 j hj (by simpa using hj')).2.turn hF hrF ht hu).kill id hρ
 | map M =>
  obtain ⟨g, es, cl, h1, h2, h3, h4, h5, h6⟩ := h;have hg := (ZaS.1 h4).1;refine ⟨g, es, cl, by rw [hρ i hi]; exact h1, h2, fun hf => ?_, by rw [ht.block g hg (fun he => hr g (by rw [h1]; rfl) he.symm)]; exact h4, h5, fun j hj hj' => ⟨(h6 j hj hj').1, (h6 j hj hj').2.mono hu fun b hb => ht.block b (hF b hb) (fun he => hrF b he.symm hb)⟩⟩
  rcases hn g hf with h7 | h7
  ·exact h3 h7
  ·omega
 | rowS e size els =>
  obtain ⟨xs, h1, h2, h3, h4⟩ := h;refine ⟨xs, by rw [hρ i hi, ZlM]; exact Ybk h1 ht hr, fun k hk => by rw [ZgP, ZlM]; exact h2 k (by simpa using hk), fun k hk j hj => ?_, fun g hg hf => ?_⟩
  ·have hk' : k < els.length := by simpa using hk
   have hj' : j < els[k].length := by simpa using hj
   simp only [ZgP];exact ⟨(h3 k hk' j hj').1, ((h3 k hk' j hj').2.turn hF hrF ht hu).kill id hρ⟩
  ·rw [hρ i hi] at hg
   rcases hn g hf with h5 | h5
   ·exact h4 g hg h5
   ·have := (Ybm h1 hg).2; omega
 | bts l =>
  obtain ⟨g, e, cap, cur, fz, h1, h2, h3, h4, h5⟩ := h;have hg := (ZaS.1 h4).1;refine ⟨g, e, cap, cur, fz, by rw [hρ i hi]; exact h1, h2, fun hf => ?_, by rw [ht.block g hg (fun he => hr g (by rw [h1]; rfl) he.symm)]; exact h4, h5⟩
  rcases hn g hf with h7 | h7
  ·exact h3 h7
  ·omega
 | raw p =>
  obtain ⟨g, ob, h1, h2, h3, h4, h5⟩ := h;have hg := (ZaS.1 h4).1;refine ⟨g, ob, by rw [hρ i hi]; exact h1, h2, fun hf => ?_, by rw [ht.block g hg (fun he => hr g h1 he.symm)]; exact h4, by rw [hρ i hi]; exact h5⟩
  rcases hn g hf with h7 | h7
  ·exact h3 h7
  ·omega
 | mapS M =>
  obtain ⟨g, es, cl, h1, h2, h3, h4, h5, h6⟩ := h;have hg := (ZaS.1 h4).1;refine ⟨g, es, cl, by rw [hρ i hi]; exact h1, h2, fun hf => ?_, by rw [ht.block g hg (fun he => hr g (by rw [h1]; rfl) he.symm)]; exact h4, by rw [ZlM]; exact h5, fun j hj hj' => ?_⟩
  ·rcases hn g hf with h7 | h7
   ·exact h3 h7
   ·omega
  ·have hj2 : j < M.length := by simpa using hj'
   simp only [ZgP]
   exact ⟨(h6 j hj hj2).1, ((h6 j hj hj2).2.turn hF hrF ht hu).kill id hρ⟩
 | val ss =>
  obtain ⟨cs, h1, h2, h3⟩ := h;refine ⟨cs, by rw [hρ i hi]; exact h1, by simp [h2], fun j hj hj' => ⟨(h3 j hj (by simpa using hj')).1, ?_⟩⟩;rw [ZgP]
  exact ((h3 j hj (by simpa using hj')).2.turn hF hrF ht hu).kill id hρ
 | iter M done =>
  obtain ⟨g, b, es, cl, sn, c0, h1, h2, h3, h4, h5, h6, h7, h8⟩ := h;have hg := (ZaS.1 h4).1;refine ⟨g, b, es, cl, sn, c0, by rw [hρ i hi]; exact h1, h2, fun hf => ?_, by rw [ht.block g hg (fun he => hr g (by rw [h1]; rfl) he.symm)]; exact h4, hu b h5, by rw [ht.block b (hF b h5) (fun he => hrF b he.symm h5)]; exact h6, h7, fun j hj hj' => ⟨(h8 j hj hj').1, (h8 j hj hj').2.mono hu fun b hb => ht.block b (hF b hb) (fun he => hrF b he.symm hb)⟩⟩
  rcases hn g hf with h9 | h9
  ·exact h3 h9
  ·omega
theorem Kept.turn {fr : Nat -> Prop} {w0 w w' : World} {row : Option Nat} (h : Kept fr w0 w) (ht : Turn w w' row) (hr : ∀ g, row = some g -> fr g) : Kept fr w0 w' :=
 ⟨ht.os.trans h.os, ht.tape.trans h.tape, ht.output.trans h.output, ZnT h.size ht.size, fun k hk hf => by rw [ht.block k (Nat.lt_of_lt_of_le hk h.size) (fun he => hf (hr k he.symm)), h.block k hk hf]⟩
theorem R0.turn {cx : Cx} {F F' : Nat -> Prop} {ρ ρ' : Nat -> Value} {e : Env} {σ : Obs} {a : Act} {w w' : World} {id : Nat} {ob : Ob} {row : Option Nat} (h : R0 cx F ρ e σ a w) (hρ : ∀ j, j ≠ id -> ρ' j = ρ j) (ht : Turn w w' row)
 (hfx : cx.free id = true) (hrow : ∀ g, row = some g -> cx.fr g /\ ¬ F g /\ ∀ p ∈ σ, p.1 ≠ id -> blk (ρ p.1) ≠ some g) (hu : ∀ b, F b -> F' b) (hn : ∀ b, F' b -> F b \/ w.heap.size <= b) (hlt : ∀ b, F' b -> b < w'.heap.size)
 (hob : ObOk cx.B F' ρ' w' id ob) (hnew : ∀ g, blk (ρ' id) = some g -> row = some g \/ w.heap.size <= g) (σ' : Obs) (hσ : ∀ p ∈ σ', p = (id, ob) \/ ∃ q ∈ σ, q.1 ≠ id /\ p = (q.1, q.2.kill id)) :
 R0 cx F' ρ' (e.kill id) σ' a w' where
 size := h.size
 defers := h.defers
 lt := hlt
 base := fun b hb => hu b (h.base b hb)
 new := fun b hb => by
  rcases hn b hb with h1 | h1
  ·exact h.new b h1
  ·exact .inr (h.up _ (ZnT h.below.size h1))
 below := h.below.turn ht fun g hg => (hrow g hg).1
 up := h.up
 fixed := fun i hi => by rw [hρ _ (Cx.free_ne hfx i hi)]; exact h.fixed i hi
 kown := fun p hp g hg => by
  rcases hσ p hp with rfl | ⟨q, hq, hqi, rfl⟩
  ·rcases hnew g hg with h1 | h1
   ·exact (hrow g h1).1
   ·exact h.up _ (ZnT h.below.size h1)
  ·simp only at hg;rw [hρ _ hqi] at hg;exact h.kown q hq g hg
 hB := ZnT h.hB ht.size
 env := fun t => ((h.env t).turn h.lt (fun g hg => (hrow g hg).2.1) ht hu).kill id hρ
 obs := by
  have hap : ∀ q ∈ σ, q.1 ≠ id -> ∀ g, blk (ρ' id) = some g -> blk (ρ q.1) ≠ some g := fun q hq hqi g hg he => by
   rcases hnew g hg with h1 | h1
   ·exact (hrow g h1).2.2 q hq hqi he
   ·have := ((h.obs.ok q hq).blk_lt he).2; omega
  refine ⟨fun p hp => ?_, fun p hp q hq hne g hg => ?_, fun p hp q hq he => ?_⟩
  ·rcases hσ p hp with rfl | ⟨q, hq, hqi, rfl⟩
   ·exact hob
   ·exact (h.obs.ok q hq).turn hqi hρ h.lt (fun g hg => (hrow g hg).2.1) ht (fun g hg he => (hrow g he).2.2 q hq hqi hg) hu hn
  ·rcases hσ p hp with rfl | ⟨p', hp', hpi, rfl⟩
   ·rcases hσ q hq with rfl | ⟨q', hq', hqi, rfl⟩
    ·exact absurd J hne
    ·simp only at hg ⊢;rw [hρ _ hqi];exact hap q' hq' hqi g hg
   ·simp only at hg hne ⊢;rw [hρ _ hpi] at hg
    rcases hσ q hq with rfl | ⟨q', hq', hqi, rfl⟩
    ·intro he;exact hap p' hp' hpi g he hg
    ·simp only at hne ⊢;rw [hρ _ hqi];exact h.obs.apart p' hp' q' hq' hne g hg
  ·rcases hσ p hp with rfl | ⟨p', hp', hpi, rfl⟩
   ·rcases hσ q hq with rfl | ⟨q', hq', hqi, rfl⟩
    ·rfl
    ·exact absurd he.symm hqi
   ·rcases hσ q hq with rfl | ⟨q', hq', hqi, rfl⟩
    ·exact absurd he hpi
    ·have := h.obs.uniq p' hp' q' hq' he;rw [this]
theorem R0.setSlot {cx : Cx} {F : Nat -> Prop} {ρ : Nat -> Value} {e : Env} {σ : Obs} {a : Act} {w : World} (h : R0 cx F ρ e σ a w) {t : Nat} {s : S} (hs : RepS F ρ w (a.tmps.getD t undef) s) : R0 cx F ρ (e.put (some t) s) σ a w :=
 ⟨h.size, h.defers, h.lt, h.base, h.new, h.below, h.hB, fun u => by
  by_cases hu : u = t
  ·subst hu; rw [Env.put_same]; exact hs
  ·rw [Env.put_other _ _ _ _ hu]; exact h.env u, h.obs, h.up, h.kown, h.fixed⟩
theorem R0.adopt {cx : Cx} {F : Nat -> Prop} {ρ : Nat -> Value} {e : Env} {σ : Obs} {a : Act} {w : World} (h : R0 cx F ρ e σ a w) {t : Nat} (id ee size : Nat) (ht : e t = .d (.v (.slice none 0 0))) (hid : ∀ p ∈ σ, p.1 ≠ id) (hfx : cx.free id = true) :
 ∃ ρ', R0 cx F ρ' ((e.kill id).put (some t) (.own id)) ((id, .row ee size []) :: Obs.kill id σ) a w := by
 refine ⟨fun j => if j = id then .slice none 0 0 else ρ j, ?_⟩
 have h1 := h.turn (ρ' := fun j => if j = id then .slice none 0 0 else ρ j) (id := id) (ob := .row ee size []) (row := none) (w' := w) (F' := F) (fun j hj => by simp [hj])
  ⟨rfl, rfl, rfl, ZnR _, fun _ _ _ => rfl⟩ hfx (fun g hg => by simp at hg) (fun b hb => hb) (fun b hb => .inl hb) h.lt
  ⟨fun _ _ => undef, by simp [World.ownsRow], fun i hi => by simp at hi, fun i hi => by simp at hi, fun g hg => by simp [blk] at hg⟩ (fun g hg => by simp [blk] at hg) ((id, .row ee size []) :: Obs.kill id σ) (fun p hp => by
   cases hp with
   | head => exact .inl rfl
   | tail _ hp => obtain ⟨q, hq, rfl⟩ := Obs.mem_kill hp; exact .inr ⟨q, hq, hid q hq, rfl⟩)
 refine h1.setSlot ?_;have h2 := h.env t;rw [ht] at h2;rw [Yav h2];have := RepS.own (F := F) (ρ := fun j => if j = id then Value.slice none 0 0 else ρ j) (w := w) id;simpa using this
def Obs.fresh (id : Nat) : Obs -> Bool
 | [] => true
 | p :: l => !(Nat.beq p.1 id) && Obs.fresh id l
theorem Obs.fresh_spec {id : Nat} : ∀ {σ : Obs}, Obs.fresh id σ = true -> ∀ p ∈ σ, p.1 ≠ id
 | [], _, p, hp => by cases hp
 | x :: l, h, p, hp => by
  simp only [Obs.fresh, ZbA, Bool.not_eq_true'] at h
  cases hp with
  | head => exact YcN h.1
  | tail _ hp => exact Obs.fresh_spec h.2 p hp
theorem AWP.adopt {cx : Cx} {c : Code} {e : Env} {σ : Obs} {Q : Post} (t id ee size : Nat) (ht : e t = .d (.v (.slice none 0 0))) (hid : Obs.fresh id σ = true)
 (k : AWP cx c ((e.kill id).put (some t) (.own id)) ((id, .row ee size []) :: Obs.kill id σ) Q) (hfx : cx.free id = true := by rfl) : AWP cx c e σ Q := fun a w ⟨_, _, hr⟩ => by
 obtain ⟨ρ', h⟩ := hr.adopt id ee size ht (Obs.fresh_spec hid) hfx;exact k a w ⟨_, ρ', h⟩
theorem AOps.adopt {cx : Cx} {ops : Array Oper} {rest : List Oper} {e : Env} {σ : Obs} {Q : Post} (t id ee size : Nat) (ht : e t = .d (.v (.slice none 0 0))) (hid : Obs.fresh id σ = true)
 (k : AOps cx ops rest ((e.kill id).put (some t) (.own id)) ((id, .row ee size []) :: Obs.kill id σ) Q) (hfx : cx.free id = true := by rfl) : AOps cx ops rest e σ Q := fun a w ⟨_, _, hr⟩ => by
 obtain ⟨ρ', h⟩ := hr.adopt id ee size ht (Obs.fresh_spec hid) hfx;exact k a w ⟨_, ρ', h⟩
def flat (xs : Nat -> Nat -> Value) (n size : Nat) : List Value := ((List.range n).map fun i => (List.range size).map (xs i)).flatten
theorem Yar (xs : Nat -> Nat -> Value) (n size : Nat) : (flat xs n size).length = n * size := by
 unfold flat;rw [List.length_flatten, List.map_map];have : (List.length ∘ fun i => List.map (xs i) (List.range size)) = fun _ => size := by funext k; simp
 rw [this];exact YfX size n
theorem flat_append (xs ys : Nat -> Nat -> Value) (n m size : Nat) : flat xs n size ++ flat ys m size = flat (fun i j => if i < n then xs i j else ys (i - n) j) (n + m) size := by
 unfold flat;rw [List.range_add, ZmA, List.flatten_append];congr 1
 ·congr 1;apply List.map_congr_left;intro i hi;have : i < n := by simpa using hi
  simp [this]
 ·rw [List.map_map];congr 1;apply List.map_congr_left;intro i _;have : ¬ n + i < n := by omega
  simp only [Function.comp, if_neg this, Nat.add_sub_cancel_left]
theorem wpList_cat2 {P : Program} {ops : Array Oper} {rest : List Oper} {o : Oper} {a : Act} {w : World} {Q : Exit -> Act -> World -> Prop} {t e : TypeId} {size bytes : Nat} {z : Value} (T : ElemTy P t e size bytes z) (s x : Operand) (hgd : o.guard = none)
 (ho : o.op = .call { callee := .builtin .append, args := #[s, x], argTypes := #[t, t] })
 {B n m : Nat} {v vx : Value} {xs ys : List Value} (hown : w.ownsRow B e size v n xs) (hs : a.eval s = v) (hx : a.eval x = vx) (hsl : Sl w size vx m ys)
 (h1 : ∀ u ∈ ys, u.oneCell' = true) (hbytes : (n + m) * bytes <= 140737488355328) (hn : n + m <= 9223372036854775807) (hB : B <= w.heap.size)
 (h : ∀ v' w', w'.ownsRow B e size v' (n + m) (xs ++ ys) -> w.grownBy w' v.ownBlock -> (v'.ownBlock = v.ownBlock \/ ∃ g, v'.ownBlock = some g /\ w.heap.size <= g) -> wpList P ops Q rest (a.put o.dst v') w') :
 wpList P ops Q (o :: rest) a w := by
 obtain ⟨i, hi, hz0, hz1, hz2⟩ := info_parts T.hi
 rcases hsl.2 with ⟨rfl, rfl⟩ | ⟨ad, cap, rfl, _, _, hc⟩
 ·have hys : ys = [] := List.eq_nil_of_length_eq_zero (by simpa using hsl.1);subst hys;refine wpList_append_own_none hgd s x t ho B e i size T.ht hi v n xs hs hown hx ?_;have := h v w (by simpa using hown) ⟨rfl, rfl, rfl, ZnR _, fun _ _ _ => rfl⟩ (.inl rfl);exact this
 ·obtain ⟨v', w', hr, h2, h3, h4, h5⟩ := run_append_own_at (P := P) w B t o.type e i z size bytes T.ht hi hz0 hz1 hz2 T.hz T.hs v n xs hown ad m cap ys hsl.1 (by
   intro j u hj;have hlt := (ZgS.1 hj).1
   rw [hc j hlt, <- hj, ZgE hlt]) h1 (by unfold maxLen; omega) hbytes hB
  refine wpList_plain hgd fun K hK => ?_
  unfold Oper.wp execOp;simp only [ho, resolve, invoke, builtin, Sem.run_bind, Sem.run_pure, Result.andThen_ok, List.map_toArray, List.map_cons, List.map_nil, hs, hx, hr];refine hK _ _ (h v' w' h2 h3 ?_)
  rcases h5 with h5 | h5
  ·exact .inl h5
  ·exact .inr ⟨_, h5, by simp⟩
theorem AOps.append {cx : Cx} {ops : Array Oper} {o : Oper} {rest : List Oper} {e : Env} {σ : Obs} {Q : Post} {s x : Operand} {t ee size bytes id dst : Nat} {z : Value} {els els2 : List (List D)} (hg : o.guard = none)
 (ho : o.op = .call { callee := .builtin .append, args := #[s, x], argTypes := #[t, t] }) (hd : o.dst = some dst) (hdn' : Nat.blt dst cx.N = true) (T : ElemTy cx.P t ee size bytes z) (hs : e.ev s = .own id) (hm : (id, Ob.row ee size els) ∈ σ)
 (hx : e.ev x = .d (.sl els2)) (hsz : ∀ y ∈ els2, y.length = size) (hb : (els.length + els2.length) * bytes <= 140737488355328) (hn : els.length + els2.length <= 9223372036854775807)
 (k : AOps cx ops rest ((e.kill id).put (some dst) (.own id)) (Obs.upd id (.row ee size (els ++ els2)) (Obs.kill id σ)) Q) (hfx : cx.free id = true := by rfl) : AOps cx ops (o :: rest) e σ Q := by
 intro a w ⟨F, ρ, hr⟩;have hdn : dst < cx.N := by simpa [Nat.blt_eq] using hdn'
 have h1 := Ya1 (e := e) (x := s) (a := a) (fun t _ => hr.env t);have h2 := Ya1 (e := e) (x := x) (a := a) (fun t _ => hr.env t);rw [hs] at h1;rw [hx] at h2;obtain ⟨xs, hown, hlen, hrep, hnF⟩ := hr.obs.ok _ hm;dsimp only at hown hnF;have hv : a.eval s = ρ id := by generalize a.eval s = v at h1; cases h1; rfl
 -- the source, as a slice of cells
 obtain ⟨ys, hsl, hys⟩ : ∃ ys : Nat -> Nat -> Value, Sl w size (a.eval x) els2.length (flat ys els2.length size) /\ ∀ i (h : i < els2.length) j (h' : j < els2[i].length), (ys i j).oneCell' = true /\ Rep F w (ys i j) els2[i][j] := by
  rcases YbY (Yag h2) with ⟨h3, h4⟩ | ⟨ad, cap, size', vs, h3, hc, hm', hF', hs', hcell, hone, hrep'⟩
  ·subst h4;exact ⟨fun _ _ => undef, by rw [h3]; exact Sl.nil _ _, fun i hi => by simp at hi⟩
  ·refine ⟨vs, ⟨Yar _ _ _, .inr ⟨ad, cap, h3, hc, hm', ?_⟩⟩, fun i hi j hj => ?_⟩
   ·intro q hq;rw [Yar] at hq;have hs0 : 0 < size := T.hs;have e1 : q = (q / size) * size + q % size := by rw [Nat.mul_comm]; exact (Nat.div_add_mod q size).symm
    have hlt1 : q / size < els2.length := Nat.div_lt_of_lt_mul (by rw [Nat.mul_comm]; exact hq);have hlt2 : q % size < size := Nat.mod_lt _ hs0;have hss : size' = size := by rw [<- hs' (q / size) hlt1]; exact hsz _ (ZgM hlt1)
    subst hss;have h5 := hcell (q / size') (q % size') hlt1 hlt2;rw [<- e1] at h5;rw [h5];have h6 := YaE vs size' els2.length (q / size') (q % size') hlt1 hlt2;rw [<- e1] at h6;have h7 : (flat vs els2.length size')[q]? = some (vs (q / size') (q % size')) := h6;rw [ZgE (by rw [Yar]; exact hq)] at h7;rw [Option.some.inj h7]
   ·have hss : size' = size := by rw [<- hs' i hi]; exact hsz _ (ZgM hi)
    exact ⟨hone i j hi (by rw [<- hs' i hi]; exact hj), hrep' i hi j hj⟩
 refine wpList_cat2 (B := cx.B) T s x hg ho hown hv J hsl ?_ hb hn hr.hB ?_
 ·intro u hu;obtain ⟨q, hq, rfl⟩ := List.getElem_of_mem hu;rw [Yar] at hq;have hs0 : 0 < size := T.hs;have e1 : q = (q / size) * size + q % size := by rw [Nat.mul_comm]; exact (Nat.div_add_mod q size).symm
  have hlt1 : q / size < els2.length := Nat.div_lt_of_lt_mul (by rw [Nat.mul_comm]; exact hq);have hlt2 : q % size < size := Nat.mod_lt _ hs0;have h6 := YaE ys size els2.length (q / size) (q % size) hlt1 hlt2;rw [<- e1] at h6;have h7 : (flat ys els2.length size)[q]? = some (ys (q / size) (q % size)) := h6;rw [ZgE (by rw [Yar]; exact hq)] at h7;rw [Option.some.inj h7];exact (hys _ hlt1 _ (by rw [hsz _ (ZgM hlt1)]; exact hlt2)).1
 ·intro v' w' hown' hgr hat;rw [hd];refine k _ _ ⟨F, fun j => if j = id then v' else ρ j, ?_⟩
  have hnewb : ∀ g, blk v' = some g -> (ρ id).ownBlock = some g \/ w.heap.size <= g := by
   intro g hg
   have hg' : v'.ownBlock = some g := by
    rcases hown'.2 with ⟨h3, _⟩ | ⟨g', cap, cur, h3, _⟩
    ·rw [h3] at hg; simp [blk] at hg
    ·rw [h3] at hg ⊢; simpa [Value.ownBlock, blk] using hg
   rcases hat with h3 | ⟨g2, h3, h4⟩
   ·exact .inl (by rw [<- h3]; exact hg')
   ·rw [h3] at hg';exact .inr (by have := Option.some.inj hg'; omega)
  have hob' : ∀ g, (ρ id).ownBlock = some g -> blk (ρ id) = some g := by
   intro g hg
   rcases hown.2 with ⟨h3, _⟩ | ⟨g', cap, cur, h3, _⟩
   ·rw [h3] at hg; simp [Value.ownBlock] at hg
   ·rw [h3] at hg ⊢; simpa [Value.ownBlock, blk] using hg
  have hturn : Turn w w' (ρ id).ownBlock := ⟨hgr.os, hgr.tape, hgr.output, hgr.size, hgr.block⟩
  have h9 := hr.turn (ρ' := fun j => if j = id then v' else ρ j) (id := id) (ob := .row ee size (els ++ els2)) (row := (ρ id).ownBlock) (w' := w') (F' := F) (fun j hj => by simp [hj]) hturn hfx
   (fun g hg => ⟨hr.kown _ hm g (hob' g hg), hnF g (hob' g hg), fun p hp hpi => fun he => hr.obs.apart p hp _ hm hpi g he (hob' g hg)⟩) (fun b hb => hb) (fun b hb => .inl hb)
   (fun b hb => Nat.lt_of_lt_of_le (hr.lt b hb) hgr.size)
   (by
    refine ⟨fun i j => if i < els.length then xs i j else ys (i - els.length) j, ?_, fun i hi => ?_, fun i hi j hj => ?_, fun g hg hf => ?_⟩
    ·dsimp only; rw [if_pos rfl, ZlA];have h3 := flat_append xs ys els.length els2.length size;unfold flat at h3;rw [<- h3];exact hown'
    ·by_cases hi' : i < els.length
     ·rw [ZgL hi']; exact hlen i hi'
     ·rw [ZgR (by omega)];exact hsz _ (ZgM _)
    ·have keep : ∀ {u : Value} {d : D}, Rep F w u d -> Rep F w' u d := fun h => h.mono (fun b hb => hb) fun b hb => hgr.block b (hr.lt b hb) (fun he => hnF b (hob' b he.symm) hb)
     by_cases hi' : i < els.length
     ·simp only [if_pos hi', ZgL hi'] at hj ⊢;exact ⟨(hrep i hi' j hj).1, keep (hrep i hi' j hj).2⟩
     ·simp only [if_neg hi', ZgR (show els.length <= i by omega)] at hj ⊢;have := hys (i - els.length) (by simp at hi; omega) j hj;exact ⟨this.1, keep this.2⟩
    ·dsimp only at hg; rw [if_pos rfl] at hg
     rcases hnewb g hg with h3 | h3
     ·exact hnF g (hob' g h3) hf
     ·have := hr.lt g hf; omega)
   (fun g hg => by
    rw [if_pos rfl] at hg
    exact hnewb g hg)
   (Obs.upd id (.row ee size (els ++ els2)) (Obs.kill id σ)) (fun p hp => by
    rcases Obs.mem_upd hp with ⟨h3, _⟩ | ⟨h3, h4⟩
    ·exact .inl h3
    ·obtain ⟨q, hq, rfl⟩ := Obs.mem_kill h3
     exact .inr ⟨q, hq, h4, J⟩)
  have h10 := h9.put (o := ⟨some dst, .ready 0, 0, "", #[], none⟩) (v := v') (s := .own id) (Ext.refl h9.lt) (by
   have := RepS.own (F := F) (ρ := fun j => if j = id then v' else ρ j) (w := w') id
   simpa using this) (by simpa [DstOk, Nat.blt_eq] using hdn)
  exact h10
theorem Env.put_id {e : Env} {t : Nat} {s : S} (h : e t = s) : e.put (some t) s = e := by
 funext u
 by_cases hu : u = t
 ·subst hu; rw [Env.put_same, h]
 ·rw [Env.put_other _ _ _ _ hu]
theorem AOps.split {cx : Cx} {ops : Array Oper} {rest : List Oper} {e : Env} {σ : Obs} {Q : Post} (t : Nat) {b : Bool} (ht : e t = .d (.v (.bool b))) (h1 : b = true -> AOps cx ops rest (e.put (some t) (.d (.v (.bool true)))) σ Q)
 (h0 : b = false -> AOps cx ops rest (e.put (some t) (.d (.v (.bool false)))) σ Q) : AOps cx ops rest e σ Q := by
 cases b with
 | true => have := h1 rfl; rwa [Env.put_id ht] at this
 | false => have := h0 rfl; rwa [Env.put_id ht] at this
theorem AOps.sN {cx : Cx} {ops : Array Oper} {rest : List Oper} {e : Env} {σ : Obs} {Q : Post} (t : Nat) {p : Prop} [Decidable p] (ht : e t = .d (.v (.bool (!(decide p))))) (h1 : ¬ p -> AOps cx ops rest (e.put (some t) (.d (.v (.bool true)))) σ Q)
 (h0 : p -> AOps cx ops rest (e.put (some t) (.d (.v (.bool false)))) σ Q) : AOps cx ops rest e σ Q := AOps.split t ht (fun h => h1 (dcF (Yaw h))) (fun h => h0 (dcT (Yax h)))
theorem AOps.sT {cx : Cx} {ops : Array Oper} {rest : List Oper} {e : Env} {σ : Obs} {Q : Post} (t : Nat) {p : Prop} [Decidable p] (ht : e t = .d (.v (.bool (decide p)))) (h1 : p -> AOps cx ops rest (e.put (some t) (.d (.v (.bool true)))) σ Q)
 (h0 : ¬ p -> AOps cx ops rest (e.put (some t) (.d (.v (.bool false)))) σ Q) : AOps cx ops rest e σ Q := AOps.split t ht (fun h => h1 (dcT h)) (fun h => h0 (dcF h))
theorem DRun.split {cx : Cx} {ops : Array Oper} {rest : List Oper} {e : Env} {σ : Obs} {Q : Env -> Prop} (t : Nat) {b : Bool} (ht : e t = .d (.v (.bool b))) (h1 : b = true -> DRun cx ops σ rest (e.put (some t) (.d (.v (.bool true)))) Q)
 (h0 : b = false -> DRun cx ops σ rest (e.put (some t) (.d (.v (.bool false)))) Q) : DRun cx ops σ rest e Q := by
 cases b with
 | true => have := h1 rfl; rwa [Env.put_id ht] at this
 | false => have := h0 rfl; rwa [Env.put_id ht] at this
theorem DRun.sN {cx : Cx} {ops : Array Oper} {rest : List Oper} {e : Env} {σ : Obs} {Q : Env -> Prop} (t : Nat) {p : Prop} [Decidable p] (ht : e t = .d (.v (.bool (!(decide p))))) (h1 : ¬ p -> DRun cx ops σ rest (e.put (some t) (.d (.v (.bool true)))) Q)
 (h0 : p -> DRun cx ops σ rest (e.put (some t) (.d (.v (.bool false)))) Q) : DRun cx ops σ rest e Q := DRun.split t ht (fun h => h1 (dcF (Yaw h))) (fun h => h0 (dcT (Yax h)))
theorem DRun.sT {cx : Cx} {ops : Array Oper} {rest : List Oper} {e : Env} {σ : Obs} {Q : Env -> Prop} (t : Nat) {p : Prop} [Decidable p] (ht : e t = .d (.v (.bool (decide p)))) (h1 : p -> DRun cx ops σ rest (e.put (some t) (.d (.v (.bool true)))) Q)
 (h0 : ¬ p -> DRun cx ops σ rest (e.put (some t) (.d (.v (.bool false)))) Q) : DRun cx ops σ rest e Q := DRun.split t ht (fun h => h1 (dcT h)) (fun h => h0 (dcF h))
theorem rep_cut {F : Nat -> Prop} {w : World} {x : Value} {els : List (List D)} (h : Rep F w x (.sl els)) {size : Nat} (hsz : ∀ y ∈ els, y.length = size) (l k : Nat) (hlk : l <= k) (hk : k <= els.length) :
 ∃ a cap, x = .slice a els.length cap /\ els.length <= cap /\ Rep F w (sliced a l k cap size) (.sl ((els.drop l).take (k - l))) := by
 rcases YbY h with ⟨rfl, rfl⟩ | ⟨ad, cap, size', vs, rfl, hc, hm, hF, hs, hcell, hone, hrep⟩
 ·simp at hk;subst hk;have : l = 0 := by omega
  subst this;exact ⟨none, 0, rfl, ZnR _, by simpa [sliced] using Rep.nil⟩
 ·refine ⟨some ad, cap, J, hc, ?_⟩;have hlen : ((els.drop l).take (k - l)).length = k - l := by simp; omega
  have hss : els ≠ [] -> size' = size := fun hne => by
   have h0 : 0 < els.length := List.length_pos_iff.2 hne;rw [<- hs 0 h0];exact hsz _ (ZgM h0)
  have key : ∀ (ad' : Addr) (cap' : Nat), k - l <= cap' -> cap' <= 9223372036854775807 -> (k - l ≠ 0 -> ad'.block = ad.block) -> (k - l ≠ 0 -> ad' = ad.add (l * size)) -> Rep F w (.slice (some ad') (k - l) cap') (.sl ((els.drop l).take (k - l))) := by
   intro ad' cap' h1 h2 h3 h4
   have h5 := Rep.sl (F := F) (w := w) ad' cap' size ((els.drop l).take (k - l)) (fun i j => vs (l + i) j) (by rw [hlen]; exact h1) h2 (fun h0 => by rw [hlen] at h0; rw [h3 (by omega)]; exact hF (by omega)) (fun i hi => by
    rw [List.getElem_take, List.getElem_drop]; exact hsz _ (ZgM _)) (fun i j hi hj => by
    rw [hlen] at hi;have hne : els ≠ [] := by intro he; subst he; simp at hk; omega
    rw [h4 (by omega), Ycq, <- hcell (l + i) j (by omega) (by rw [hss hne]; exact hj), hss hne, Nat.add_mul, Nat.add_assoc]) (fun i j hi hj => by
    rw [hlen] at hi;have hne : els ≠ [] := by intro he; subst he; simp at hk; omega
    exact hone _ _ (by omega) (by rw [hss hne]; exact hj)) (fun i hi j hj => by
    have h6 := hrep (l + i) (by rw [hlen] at hi; omega) j;simp only [List.getElem_take, List.getElem_drop] at hj ⊢
    exact h6 hj)
   rw [hlen] at h5;exact h5
  unfold sliced
  by_cases hcap : cap = l
  ·rw [if_pos hcap];exact key ad (cap - l) (by omega) (by omega) (fun _ => J) (fun hne => by omega)
  ·rw [if_neg hcap];exact key (ad.add (l * size)) (cap - l) (by omega) (by omega) (fun _ => YbC _ _) (fun _ => J)
def PartsS (e : Env) (size : Nat) : Nat -> List (Nat × Operand) -> List D -> Prop
 | _, [], [] => True
 | k, (i, x) :: xs, d :: ds => i = k /\ e.ev x = .d d /\ d.one = true /\ d.parts.length = size /\ PartsS e size (k + 1) xs ds
 | _, _, _ => False
theorem PartsS.nil {e : Env} {size k : Nat} : PartsS e size k [] [] := trivial
theorem PartsS.cons {e : Env} {size k : Nat} {x : Operand} {d : D} {xs : List (Nat × Operand)} {ds : List D} (h : e.ev x = .d d) (h1 : d.one = true) (h2 : d.parts.length = size) (q : PartsS e size (k + 1) xs ds) : PartsS e size k ((k, x) :: xs) (d :: ds) := ⟨rfl, h, h1, h2, q⟩
theorem Yfd {size : Nat} : ∀ (k : Nat) (l : List (Nat × Value)) (cs : Array Value), (∀ i (h : i < l.length), l[i].1 = k + i /\ l[i].2.cells.size = size) -> (k + l.length) * size <= cs.size ->
 ∃ cs', Instr.fill (fun i => some (i * size, size)) cs l = some cs' /\ cs'.toList = cs.toList.take (k * size) ++ (l.map fun p => p.2.cells.toList).flatten ++ cs.toList.drop ((k + l.length) * size)
 | k, [], cs, _, _ => ⟨cs, rfl, by simp⟩
 | k, (i, v) :: l, cs, h, hc => by
  obtain ⟨h1, h2⟩ := h 0 (by simp);simp only [List.getElem_cons_zero, Nat.add_zero] at h1 h2;subst h1;simp only [List.length_cons] at hc;have e1 : (i + (l.length + 1)) * size = i * size + size + l.length * size := by rw [Nat.add_mul, Nat.add_mul]; omega
  have e2 : (i + 1 + l.length) * size = i * size + size + l.length * size := by rw [Nat.add_mul, Nat.add_mul]; omega
  have e3 : (i + 1) * size = i * size + size := by rw [Nat.add_mul]; omega
  have hvl : v.cells.toList.length = size := by simpa using h2
  have hf := Ygs (i * size) v.cells.toList cs (by rw [hvl]; omega)
  have hfold : (v.cells.zipIdx.foldl (fun cs (c, j) => cs.setIfInBounds (i * size + j) c) cs).toList = cs.toList.take (i * size) ++ v.cells.toList ++ cs.toList.drop (i * size + size) := by
   rw [<- Array.foldl_toList, Array.toList_zipIdx];rw [hvl] at hf;exact hf
  obtain ⟨cs', h3, h4⟩ := Yfd (size := size) (i + 1) l (v.cells.zipIdx.foldl (fun cs (c, j) => cs.setIfInBounds (i * size + j) c) cs) (fun j hj => by
   have := h (j + 1) (by simpa using hj);simp only [List.getElem_cons_succ] at this;exact ⟨by omega, this.2⟩) (by
   rw [<- ZaL, hfold];simp only [ZlA, ZlT, ZlD, ZaL, hvl]
   omega)
  refine ⟨cs', ?_, ?_⟩
  ·simp only [Instr.fill];rw [if_neg (by simp [h2]; omega)];exact h3
  ·rw [h4, hfold, e2, e3, List.length_cons, e1, List.map_cons, List.flatten_cons];have hn : cs.toList.length = cs.size := ZaL
   have t1 : (cs.toList.take (i * size) ++ v.cells.toList ++ cs.toList.drop (i * size + size)).take (i * size + size) = cs.toList.take (i * size) ++ v.cells.toList := by
    rw [List.take_append_of_le_length (by rw [ZlA, ZlT, hvl]; omega), List.take_of_length_le (by rw [ZlA, ZlT, hvl]; omega)]
   have t2 : (cs.toList.take (i * size) ++ v.cells.toList ++ cs.toList.drop (i * size + size)).drop (i * size + size + l.length * size) = cs.toList.drop (i * size + size + l.length * size) := by
    rw [List.drop_append, List.drop_eq_nil_of_le (by rw [ZlA, ZlT, hvl]; omega), List.nil_append, List.drop_drop];congr 1;rw [ZlA, ZlT, hvl];omega
   rw [t1, t2];simp
theorem PartsS.rep {e : Env} {size : Nat} {F : Nat -> Prop} {ρ : Nat -> Value} {w : World} {a : Act} : ∀ {k : Nat} {xs : List (Nat × Operand)} {ds : List D}, PartsS e size k xs ds -> (∀ x ∈ xs, RepS F ρ w (a.eval x.2) (e.ev x.2)) ->
 xs.length = ds.length /\ ∀ i (h : i < xs.length) (h' : i < ds.length), xs[i].1 = k + i /\ RepL F w (a.eval xs[i].2).cells.toList ds[i].parts /\ (∀ u ∈ (a.eval xs[i].2).cells.toList, u.oneCell' = true) /\ ds[i].parts.length = size
 | k, [], [], _, _ => ⟨rfl, fun i h => by simp at h⟩
 | k, (i, x) :: xs, d :: ds, h, hx => by
  obtain ⟨rfl, h1, h2, h3, h4⟩ := h;obtain ⟨h5, h6⟩ := PartsS.rep (a := a) h4 (fun y hy => hx y (List.mem_cons_of_mem _ hy));have h7 := hx (i, x) (by simp);dsimp only at h7;rw [h1] at h7;obtain ⟨h8, h9⟩ := Yb0 (Yag h7) h2;refine ⟨by simp [h5], fun j hj hj' => ?_⟩
  cases j with
  | zero => exact ⟨rfl, h8, h9, h3⟩
  | succ j =>
   obtain ⟨g1, g2⟩ := h6 j (by simpa using hj) (by simpa using hj');simp only [List.getElem_cons_succ]
   exact ⟨by omega, g2⟩
 | _, [], _ :: _, h, _ => h.elim
 | _, _ :: _, [], h, _ => h.elim
theorem flatten_at {size : Nat} : ∀ (l : List (List Value)), (∀ y ∈ l, y.length = size) -> ∀ i (h : i < l.length) j, j < size -> l.flatten[i * size + j]? = (l[i]'h)[j]?
 | [], _, i, h, _, _ => by simp at h
 | y :: l, hl, i, h, j, h' => by
  have hy : y.length = size := hl y (by simp)
  cases i with
  | zero => rw [List.flatten_cons, Nat.zero_mul, Nat.zero_add, List.getElem?_append_left (by omega)]; rfl
  | succ i =>
   have := flatten_at l (fun z hz => hl z (List.mem_cons_of_mem _ hz)) i (by simpa using h) j h';rw [List.flatten_cons, List.getElem?_append_right (by rw [hy, Nat.add_mul]; omega), hy, show (i + 1) * size + j - size = i * size + j by rw [Nat.add_mul]; omega];exact this
section
variable {P : Program} {B : Nat} {ops : Array Oper} {o : Oper} {e : Env} {σ : Obs}
theorem AOp.pickT {c x y : Operand} {d : D} (ho : o.op = .pick c x y) (hc : e.ev c = .d (.v (.bool true))) (hx : e.ev x = .d d) : AOp P B ops o e σ (.d d) := by
 have := AOp.pick (P := P) (B := B) (ops := ops) (σ := σ) ho hc; simpa [hx] using this
theorem AOp.pickF {c x y : Operand} {d : D} (ho : o.op = .pick c x y) (hc : e.ev c = .d (.v (.bool false))) (hx : e.ev y = .d d) : AOp P B ops o e σ (.d d) := by
 have := AOp.pick (P := P) (B := B) (ops := ops) (σ := σ) ho hc; simpa [hx] using this
theorem AOp.builtin2 {b : Builtin} {x y : Operand} {ts : Array TypeId} {u1 u2 u : Value} (ho : o.op = .call { callee := .builtin b, args := #[x, y], argTypes := ts }) (hx : e.ev x = .d (.v u1)) (hy : e.ev y = .d (.v u2))
 (h : ∀ a : Act, a.eval x = u1 -> a.eval y = u2 -> ∀ w, (execOp a.eval o).run P w = .ok (.value u) w) : AOp P B ops o e σ (.d (.v u)) := .value fun F ρ w a hF hr _ => by
 have h1 := hr x (by rw [ho]; simp [Op.operands, Call.operands]);have h2 := hr y (by rw [ho]; simp [Op.operands, Call.operands]);rw [hx] at h1;rw [hy] at h2;exact ⟨u, F, w, h a (Yav h1) (Yav h2) w, .d (.v _), Ext.refl hF⟩
theorem AOp.min {x y : Operand} {ts : Array TypeId} {k : IntKind} {a b : Int} (ho : o.op = .call { callee := .builtin .min, args := #[x, y], argTypes := ts }) (hx : e.ev x = .d (.v (.int k a))) (hy : e.ev y = .d (.v (.int k b))) :
 AOp P B ops o e σ (.d (.v (.int k (min a b)))) := .builtin2 ho hx hy fun ac h1 h2 w => by
 unfold execOp;simp only [ho, resolve, invoke, builtin, Sem.run_bind, Sem.run_pure, Result.andThen_ok, List.map_toArray, List.map_cons, List.map_nil, h1, h2, Ydg]
theorem AOp.max {x y : Operand} {ts : Array TypeId} {k : IntKind} {a b : Int} (ho : o.op = .call { callee := .builtin .max, args := #[x, y], argTypes := ts }) (hx : e.ev x = .d (.v (.int k a))) (hy : e.ev y = .d (.v (.int k b))) :
 AOp P B ops o e σ (.d (.v (.int k (max a b)))) := .builtin2 ho hx hy fun ac h1 h2 w => by
 unfold execOp;simp only [ho, resolve, invoke, builtin, Sem.run_bind, Sem.run_pure, Result.andThen_ok, List.map_toArray, List.map_cons, List.map_nil, h1, h2, Ydh]
theorem elem_of {t el : TypeId} (h : P.underlying t = some (.slice el)) : P.underlying t = some (.slice (P.elem t)) /\ P.elem t = el := ⟨by rw [h]; simp [Program.elem, h], by simp [Program.elem, h]⟩
theorem AOp.sliceH {t el : TypeId} {x hi : Operand} {size bytes : Nat} {z : Value} {k : Int} {els : List (List D)} (ho : o.op = .slice t x none (some hi) none) (T : ElemTy P t el size bytes z) (hx : e.ev x = .d (.sl els))
 (hhi : e.ev hi = .d (.v (.int .i64 k))) (h1 : 0 <= k) (h2 : k <= els.length) (hsz : ∀ y ∈ els, y.length = size) :
 AOp P B ops o e σ (.d (.sl (els.take k.toNat))) := .value fun F ρ w a hF hr _ => by
 have r1 := hr x (by rw [ho]; simp [Op.operands]);have r3 := hr hi (by rw [ho]; simp [Op.operands]);rw [hx] at r1; rw [hhi] at r3;obtain ⟨ad, cap, hv, hc, hrep⟩ := rep_cut (Yag r1) hsz 0 k.toNat (by omega) (by omega);rw [List.drop_zero, Nat.sub_zero] at hrep;refine ⟨_, F, w, ?_, .d hrep, Ext.refl hF⟩;obtain ⟨e1, e2⟩ := elem_of T.ht;unfold execOp;simp only [ho, hv, Yav r3, Option.map_some, Option.map_none];rw [Sem.run_bind, run_sliceAt_slice w t _ _ _ _ e1, run_slice_h w t ad els.length cap e1 .i64 k h1 (by omega), e2, T.sizeOf];rfl
theorem AOp.indexStr {t : TypeId} {x ix : Operand} {s : ByteArray} {n : Int} (ho : o.op = .index t x ix) (ht : P.underlying t = some .string) (hx : e.ev x = .d (.v (.string s))) (hi : e.ev ix = .d (.v (.int .i64 n)))
 (k : Nat) (hk : n = k) {c : UInt8} (hc : s.data.toList[k]? = some c) : AOp P B ops o e σ (.d (.v (.int .u8 c.toNat))) := .value fun F ρ w a hF hr _ => by
 have h1 := hr x (by rw [ho]; simp [Op.operands]);have h2 := hr ix (by rw [ho]; simp [Op.operands]);rw [hx] at h1; rw [hi] at h2;refine ⟨_, F, w, ?_, .d (.v _), Ext.refl hF⟩;have hlt : k < s.size := by have := (ZgS.1 hc).1; simpa using this
 have hcc : s[k] = c := by
  have := (ZgS.1 hc).2;rw [<- this];simp [ByteArray.getElem_eq_getElem_data]
 unfold execOp;simp only [ho, Yav h1, Yav h2, hk];simp [Instr.index, run_underlying ht, asIntOf, hlt, hcc]
theorem AOp.buildSlice {t el : TypeId} {n size bytes : Nat} {z : Value} {xs : List (Nat × Operand)} {ds : List D} (ho : o.op = .buildSlice t n xs.toArray) (T : ElemTy P t el size bytes z) (hp : PartsS e size 0 xs ds) (hn : ds.length = n) (hbig : n * size <= 16777216) :
 AOp P B ops o e σ (.d (.sl (ds.map D.parts))) := .value fun F ρ w a hF hr _ => by
 have hx : ∀ x ∈ xs, RepS F ρ w (a.eval x.2) (e.ev x.2) := fun x hx => hr x.2 (by
  rw [ho]; simp only [Op.operands]
  exact List.mem_map_of_mem (by simpa using hx))
 obtain ⟨hl, hparts⟩ := hp.rep (a := a) hx;obtain ⟨i, hi, hz0, hz1, hz2⟩ := info_parts T.hi;obtain ⟨zs, hzs⟩ : ∃ zs : Array Value, (if n * size = 0 then (#[] : Array Value) else z.cells) = zs := ⟨_, rfl⟩;have hsz : ((Array.range (n * size)).map (fun j => zs[j % zs.size]!)).size = n * size := by simp
 obtain ⟨cs', h1, h2⟩ := Yfd (size := size) 0 (xs.map fun p => (p.1, a.eval p.2)) ((Array.range (n * size)).map (fun j => zs[j % zs.size]!)) (fun j hj => by
  have hj' : j < xs.length := by simpa using hj
  obtain ⟨g1, g2, g3, g4⟩ := hparts j hj' (by omega);simp only [ZgP]
  exact ⟨g1, by have := g2.1; rw [ZaL] at this; omega⟩) (by rw [hsz]; simp [hl, hn])
 rw [Nat.zero_mul, List.take_zero, List.nil_append, Nat.zero_add, List.drop_eq_nil_of_le (by simp [hl, hn]), List.append_nil, List.map_map] at h2
 have hrun : (execOp a.eval o).run P w = .ok (.value (.slice (some ⟨w.heap.size, 0, none⟩) n n)) (w.alloc (.cells cs' el)) := by
  unfold execOp;simp only [ho, Instr.buildSlice, Sem.run_bind, run_underlying T.ht, Result.andThen_ok, T.sizeOf];rw [if_neg (by omega)]
  by_cases h0 : n * size = 0
  ·rw [if_pos h0] at hzs;subst hzs;simp only [h0, if_true, Sem.run_bind, Sem.run_pure, Result.andThen_ok];simp only [h0] at h1;simp only [List.map_toArray, h1];rfl
  ·rw [if_neg h0] at hzs;subst hzs;simp only [h0, if_false, Sem.run_bind, zeroValue, typeInfo, Sem.run_pure, Result.andThen_ok];have hprog : (program : Sem Program).run P w = .ok P w := rfl;simp only [hprog, Result.andThen_ok, hi, Sem.run_pure, hz0];simp only [List.map_toArray, h1];rfl
 have hne : ∀ (b : Nat), (F b \/ b = w.heap.size) -> b < (w.alloc (.cells cs' el)).heap.size := fun b hb => by
  rcases hb with hb | hb
  ·have := hF b hb; simp; omega
  ·simp; omega
 have hE : Ext F w (fun b => F b \/ b = w.heap.size) (w.alloc (.cells cs' el)) := by
  refine ⟨fun b hb => .inl hb, fun b hb => ?_, hne, (Below.refl _ _).alloc (ZnR _) _⟩
  rcases hb with hb | hb
  ·exact .inl hb
  ·exact .inr (by omega)
 refine ⟨_, fun b => F b \/ b = w.heap.size, _, hrun, .d ?_, hE⟩
 have hcl : ∀ i (h : i < xs.length), (a.eval xs[i].2).cells.toList.length = size := fun i h => by
  obtain ⟨_, g2, _, g4⟩ := hparts i h (by omega);rw [g2.1, g4]
 have hall : ∀ y ∈ xs.map ((fun p : Nat × Value => p.2.cells.toList) ∘ fun p => (p.1, a.eval p.2)), y.length = size := fun y hy => by
  obtain ⟨i, hi, rfl⟩ := List.getElem_of_mem hy;simp only [ZgP, Function.comp];exact hcl i (by simpa using hi)
 have hl2 : (ds.map D.parts).length = n := by simp [hn]
 have := Rep.sl (F := fun b => F b \/ b = w.heap.size) (w := w.alloc (.cells cs' el)) ⟨w.heap.size, 0, none⟩ n size (ds.map D.parts) (fun i j => ((xs.map fun p => (a.eval p.2).cells.toList).getD i []).getD j undef) (by omega) (by
  have hs0 : 0 < size := T.hs;have := Nat.le_mul_of_pos_right n hs0;omega) (fun _ => .inr rfl) (fun i hi => by
  simp only [ZgP];exact (hparts i (by rw [hl2] at hi; omega) (by rw [hl2] at hi; omega)).2.2.2) (fun i j hi hj => by
  rw [hl2] at hi;have hix : i < xs.length := by omega
  rw [YaN, Nat.zero_add, World.cell?_alloc_new, <- Array.getElem?_toList, h2, flatten_at _ hall i (by simpa using hix) j hj];have hj' : j < (a.eval xs[i].2).cells.toList.length := by rw [hcl i hix]; exact hj
  simp only [ZgP, Function.comp, ZgD, List.getElem?_map, ZgE hix, Option.map_some, Option.getD_some, ZgE hj']) (fun i j hi hj => by
  rw [hl2] at hi;have hix : i < xs.length := by omega
  have hj' : j < (a.eval xs[i].2).cells.toList.length := by rw [hcl i hix]; exact hj
  simp only [ZgD, List.getElem?_map, ZgE hix, Option.map_some, Option.getD_some, ZgE hj'];exact (hparts i hix (by omega)).2.2.1 _ (ZgM hj')) (fun i hi j hj => by
  rw [hl2] at hi;have hix : i < xs.length := by omega
  simp only [ZgP] at hj ⊢;obtain ⟨_, g2, g3, g4⟩ := hparts i hix (by omega);have hj' : j < (a.eval xs[i].2).cells.toList.length := by rw [hcl i hix, <- g4]; exact hj
  simp only [ZgD, List.getElem?_map, ZgE hix, Option.map_some, Option.getD_some, ZgE hj']
  exact (g2.2 j hj' hj).ext hF hE)
 rw [hl2] at this;exact this
end
theorem repL_v {F : Nat -> Prop} {w : World} : ∀ {vs us : List Value}, RepL F w vs (us.map D.v) -> vs = us
 | [], [], _ => rfl
 | [], _ :: _, h => by have := h.1; simp at this
 | _ :: _, [], h => by have := h.1; simp at this
 | v :: vs, u :: us, h => by
  have h1 := h.2 0 (by simp) (by simp);simp only [List.getElem_cons_zero, List.map_cons] at h1
  have h2 : RepL F w vs (us.map D.v) := ⟨by have := h.1; simpa using this, fun i hi hi' => by
   have := h.2 (i + 1) (by simpa using hi) (by simpa using hi')
   simpa using this⟩
  rw [rep_v h1, repL_v h2]
theorem YbD {P : Program} {f : FuncId} {us : List Value} {y : Value} (he : Enters P f) (h : ∀ w, Calls P f us.toArray w fun e w' => e = .returned y /\ Below w.heap.size w w') : Yad P f (us.map D.v) (.v y) :=
 ⟨he, fun F w vs hF hv => by
  rw [repL_v hv]
  exact (h w).mono fun e w' ⟨h1, h2⟩ => ⟨y, F, h1, .v _, Ext.of_below hF h2⟩⟩
def structB (P : Program) (t : TypeId) (places : Array (Nat × Nat)) : Bool :=
 match P.underlying t with
 | some (.struct fs) => fs.size == places.size && (fs.zip places).all fun (f, p) => f.offset == p.1 && (match P.info? f.type with | some i => i.size == p.2 | none => false)
 | _ => false
theorem StructT.of {P : Program} {t : TypeId} {places : Array (Nat × Nat)} {zero : List Value} (hz : (P.info? t).bind (·.zero) = some (.agg zero.toArray)) (hb : structB P t places = true) (h1 : ∀ u ∈ zero, u.oneCell' = true) :
 StructT P t (fun i => places[i]?) zero := by
 refine ⟨fun w parts => ?_, h1⟩;unfold structB at hb;split at hb
 ·rename_i fs hu;simp only [ZbA, beq_iff_eq, Array.all_eq_true] at hb;obtain ⟨hs, hall⟩ := hb;obtain ⟨i, hi, hzz⟩ := Option.bind_eq_some_iff.1 hz;have hprog : (program : Sem Program).run P w = .ok P w := rfl
  have hsz : ∀ (k : Nat) (hk : k < fs.size) (hk' : k < places.size), (fs[k].offset = places[k].1) /\ ∀ w, (sizeOf fs[k].type).run P w = .ok places[k].2 w := by
   intro k hk hk';have h2 := hall k (by simp; omega);rw [Array.getElem_zip] at h2;dsimp only at h2;refine ⟨h2.1, fun w => ?_⟩
   cases hi2 : P.info? fs[k].type with
   | none => rw [hi2] at h2; simp at h2
   | some i2 =>
    rw [hi2] at h2;simp only [beq_iff_eq] at h2;simp [sizeOf, typeInfo, hi2, h2.2]
  have hm : (fs.mapM fun f => do pure (f.offset, <- sizeOf f.type) : Sem (Array (Nat × Nat))).run P w = .ok places w := by
   have key : ∀ (l : List Field) (m : List (Nat × Nat)), l.length = m.length -> (∀ k (h1 : k < l.length) (h2 : k < m.length), l[k].offset = m[k].1 /\ ∀ w, (sizeOf l[k].type).run P w = .ok m[k].2 w) ->
    (List.mapM (fun f => do pure (f.offset, <- sizeOf f.type)) l : Sem (List (Nat × Nat))).run P w = .ok m w := by
    intro l
    induction l with
    | nil => intro m hm _; have : m = [] := List.eq_nil_of_length_eq_zero hm.symm; subst this; rfl
    | cons f l ih =>
     intro m hm h3
     cases m with
     | nil => simp at hm
     | cons p m =>
      have h4 := h3 0 (by simp) (by simp);simp only [List.getElem_cons_zero] at h4;rw [List.mapM_cons, Sem.run_bind, Sem.run_bind, h4.2 w];simp only [Result.andThen_ok, Sem.run_pure, Sem.run_bind];rw [ih m (by simpa using hm) (fun k h1 h2 => by have := h3 (k + 1) (by simpa using h1) (by simpa using h2); simpa using this)];simp only [Result.andThen_ok, h4.1]
   have e1 : fs = fs.toList.toArray := by simp
   rw [e1, List.mapM_toArray, Sem.run_map, key fs.toList places.toList (by simpa using hs) (fun k h1 h2 => by simpa using hsz k (by simpa using h1) (by simpa using h2))];rfl
  unfold Instr.build;simp only [Sem.run_bind, zeroValue, typeInfo, hprog, Result.andThen_ok, hi, Sem.run_pure, hzz, run_underlying hu, hm, Value.cells];cases Instr.fill (fun x => places[x]?) zero.toArray parts.toList <;> rfl
 ·simp at hb
def fieldB (P : Program) (t : TypeId) (f off : Nat) : Bool :=
 match P.underlying t with
 | some (.struct fs) => match fs[f]? with | some fl => fl.offset == off && scalB P fl.type | none => false
 | _ => false
section
variable {P : Program} {B : Nat} {ops : Array Oper} {o : Oper} {e : Env} {σ : Obs}
theorem AOp.field {t : TypeId} {x : Operand} {f off : Nat} {ds : List D} {d : D} (ho : o.op = .field t x f) (hf : fieldB P t f off = true) (hx : e.ev x = .d (.agg ds)) (hd : ds[off]? = some d) : AOp P B ops o e σ (.d d) :=
 .value fun F ρ w a hF hr _ => by
 have h1 := hr x (by rw [ho]; simp [Op.operands]);rw [hx] at h1;have h2 := Yag h1;generalize hv : a.eval x = v at h2
 cases h2 with
 | agg cs _ hl hone h =>
  have hlt : off < ds.length := (ZgS.1 hd).1;have hde : ds[off] = d := (ZgS.1 hd).2;have hlt' : off < cs.length := by omega
  refine ⟨cs[off], F, w, ?_, .d (by rw [<- hde]; exact h off hlt' hlt), Ext.refl hF⟩;unfold fieldB at hf;split at hf
  ·rename_i fs hu;split at hf
   ·rename_i fl hfl;simp only [ZbA, beq_iff_eq] at hf;have hsc := Scal.of hf.2 w;unfold execOp;simp only [ho, hv, Instr.field, Sem.run_bind, run_underlying hu, Result.andThen_ok, hfl, asAgg, Sem.run_pure, part, hsc, Bool.false_eq_true, if_false, hf.1];simp [hlt']
   ·simp at hf
  ·simp at hf
def Yfp (P : Program) (s t : TypeId) (k : IntKind) : Bool := (P.underlying s).isSome && (match P.underlying t with | some (.int k') => k' == k | _ => false)
theorem AOp.convInt {s t : TypeId} {x : Operand} {k k0 : IntKind} {n : Int} (ho : o.op = .convert s t x) (hc : Yfp P s t k = true) (hx : e.ev x = .d (.v (.int k0 n))) : AOp P B ops o e σ (.d (.v (.int k (k.wrap n)))) :=
 .value fun F ρ w a hF hr _ => by
 have h1 := hr x (by rw [ho]; simp [Op.operands]);rw [hx] at h1;refine ⟨_, F, w, ?_, .d (.v _), Ext.refl hF⟩;unfold Yfp at hc;simp only [ZbA] at hc;obtain ⟨u, hu⟩ := Option.isSome_iff_exists.1 hc.1
 cases ht : P.underlying t with
 | none => rw [ht] at hc; simp at hc
 | some d =>
  rw [ht] at hc
  cases d with
  | int k' =>
   simp only [beq_iff_eq] at hc;obtain rfl : k' = k := by have := hc.2; cases k' <;> cases k <;> first | rfl | (simp at this)
   unfold execOp;simp only [ho, Yav h1, convert, Sem.run_bind, run_underlying hu, run_underlying ht, Result.andThen_ok]
   cases u <;> rfl
  | _ => simp at hc
end
theorem Ye4 (w : World) (g off : Nat) (v : Value) : Turn w (w.setCell ⟨g, off, none⟩ v) (some g) :=
 ⟨rfl, rfl, rfl, by simp [World.setCell], fun k _ hne => Below.heap_setCell w ⟨g, off, none⟩ v k (fun e => hne (by rw [e]))⟩
theorem Turn.trans {a b c : World} {row : Option Nat} (h : Turn a b row) (k : Turn b c row) : Turn a c row :=
 ⟨k.os.trans h.os, k.tape.trans h.tape, k.output.trans h.output, ZnT h.size k.size, fun i hi hne => (k.block i (Nat.lt_of_lt_of_le hi h.size) hne).trans (h.block i hi hne)⟩
theorem YdP {P : Program} {g : Nat} {e : TypeId} (off : Nat) : ∀ (vs : List Value) (i : Nat) (w : World) (cur : List Value), w.heap[g]? = some (.cells cur.toArray e (0, 0)) -> off + i + vs.length <= cur.length -> (∀ v ∈ vs, v.oneCell' = true) ->
 ∃ w', (storeCells ⟨g, off, none⟩ vs i).run P w = .ok () w' /\ Turn w w' (some g) /\ w'.heap[g]? = some (.cells (cur.take (off + i) ++ vs ++ cur.drop (off + i + vs.length)).toArray e (0, 0))
 | [], i, w, cur, h, _, _ => ⟨w, rfl, ⟨rfl, rfl, rfl, ZnR _, fun _ _ _ => rfl⟩, by simpa using h⟩
 | v :: vs, i, w, cur, h, hl, h1 => by
  simp only [List.length_cons] at hl
  have hc : w.cell? ⟨g, off + i, none⟩ = some (cur[off + i]'(by omega)) := by
   rw [cell_of_row w g (off + i) cur.toArray e (0, 0) h]; simp [show off + i < cur.length by omega]
  have hf : w.frozen? ⟨g, off + i, none⟩ = false := by unfold World.frozen?; rw [h]; simp
  have hset : (w.setCell ⟨g, off + i, none⟩ v).heap[g]? = some (.cells (cur.set (off + i) v).toArray e (0, 0)) := by
   unfold World.setCell;simp [Array.getElem?_modify, h]
  obtain ⟨w', h2, h3, h4⟩ := YdP (P := P) (g := g) (e := e) off vs (i + 1) _ (cur.set (off + i) v) hset (by simp; omega) (fun u hu => h1 u (List.mem_cons_of_mem _ hu));refine ⟨w', ?_, (Ye4 w g (off + i) v).trans h3, ?_⟩
  ·simp only [storeCells, Sem.run_bind, YaN, run_store P w _ v _ (h1 v (by simp)), hc, hf, Bool.false_eq_true, if_false, Result.andThen_ok];exact h2
  ·rw [h4];congr 3;have hn : off + i < cur.length := by omega
   apply List.ext_getElem?;intro k;rw [get3, get3];simp only [ZlT, List.length_set, List.length_cons, Nat.min_eq_left (show off + (i + 1) <= cur.length by omega), Nat.min_eq_left (show off + i <= cur.length by omega)]
   by_cases k1 : k < off + i
   ·rw [if_pos (by omega), if_pos k1, ZgT, ZgT, if_pos (by omega), if_pos k1, List.getElem?_set, if_neg (by omega)]
   ·by_cases k2 : k = off + i
    ·subst k2;rw [if_pos (by omega), if_neg (by omega), if_pos (by omega), ZgT, if_pos (by omega), List.getElem?_set, if_pos rfl, if_pos hn, Nat.sub_self];rfl
    ·rw [if_neg (show ¬ k < off + (i + 1) by omega), if_neg k1]
     by_cases k3 : k < off + (i + 1) + vs.length
     ·rw [if_pos k3, if_pos (by omega), show k - (off + i) = (k - (off + (i + 1))) + 1 by omega, List.getElem?_cons_succ]
     ·rw [if_neg k3, if_neg (by omega), ZgO, ZgO, List.getElem?_set, if_neg (by omega)];congr 1;omega
theorem Ycf {P : Program} {g : Nat} {e t : TypeId} {off : Nat} {v : Value} {w : World} {cur : List Value} {size : Nat} (hs : ∀ w, (sizeOf t).run P w = .ok size w) (hv : v.cells.size = size) (h : w.heap[g]? = some (.cells cur.toArray e (0, 0))) (hl : off + size <= cur.length)
 (h1 : ∀ u ∈ v.cells.toList, u.oneCell' = true) :
 ∃ w', (storeVar t ⟨g, off, none⟩ v).run P w = .ok () w' /\ Turn w w' (some g) /\ w'.heap[g]? = some (.cells (cur.take off ++ v.cells.toList ++ cur.drop (off + size)).toArray e (0, 0)) := by
 have hlen : v.cells.toList.length = size := by rw [ZaL]; exact hv
 obtain ⟨w', h2, h3, h4⟩ := YdP (P := P) off v.cells.toList 0 w cur h (by rw [hlen]; exact hl) h1;refine ⟨w', ?_, h3, ?_⟩
 ·unfold storeVar;simp only [Sem.run_bind, hs w, Result.andThen_ok, hv, ne_eq, not_true_eq_false, if_false];exact h2
 ·rw [h4, hlen, Nat.add_zero]
theorem R0.newCells {cx : Cx} {F : Nat -> Prop} {ρ : Nat -> Value} {e : Env} {σ : Obs} {a : Act} {w : World} (h : R0 cx F ρ e σ a w) {id dst : Nat} {ty : TypeId} {cs : Array Value} {ds : List D} (hid : ∀ p ∈ σ, p.1 ≠ id) (hd : dst < cx.N) (hr : RepL F w cs.toList ds) (h1 : ∀ u ∈ cs.toList, u.oneCell' = true) (hfx : cx.free id = true) :
 ∃ ρ', R0 cx F ρ' ((e.kill id).put (some dst) (.ptr id 0)) ((id, .cells (ds.map S.d)) :: Obs.kill id σ) (a.put (some dst) (.pointer (some ⟨w.heap.size, 0, none⟩))) (w.alloc (.cells cs ty)) := by
 refine ⟨fun j => if j = id then .pointer (some ⟨w.heap.size, 0, none⟩) else ρ j, ?_⟩;have hE : Ext F w F (w.alloc (.cells cs ty)) := Ext.of_below h.lt ((Below.refl _ _).alloc (ZnR _) _)
 have h2 := h.turn (ρ' := fun j => if j = id then .pointer (some ⟨w.heap.size, 0, none⟩) else ρ j) (id := id) (ob := .cells (ds.map S.d)) (row := none) (w' := w.alloc (.cells cs ty)) (F' := F) (fun j hj => by simp [hj])
  ⟨hE.below.os, hE.below.tape, hE.below.output, hE.below.size, fun k hk _ => hE.below.block k hk⟩ hfx (fun g hg => by simp at hg) (fun b hb => hb) (fun b hb => .inl hb) hE.lt
  ⟨w.heap.size, ty, cs.toList, by simp, h.hB, fun hf => by have := h.lt _ hf; omega, by simpa using heap_alloc_new w _, by simpa using hr.1, fun j hj hj' => by
   rw [ZgP]
   exact ⟨h1 _ (ZgM hj), .d ((hr.2 j hj (by simpa using hj')).ext h.lt hE)⟩⟩
  (fun g hg => by simp [blk] at hg; exact .inr (by omega)) ((id, .cells (ds.map S.d)) :: Obs.kill id σ) (fun p hp => by
   cases hp with
   | head => exact .inl rfl
   | tail _ hp => obtain ⟨q, hq, rfl⟩ := Obs.mem_kill hp; exact .inr ⟨q, hq, hid q hq, rfl⟩)
 have h3 := h2.put (o := ⟨some dst, .ready 0, 0, "", #[], none⟩) (v := .pointer (some ⟨w.heap.size, 0, none⟩)) (s := .ptr id 0) (Ext.refl h2.lt) (.ptr id 0 w.heap.size (by simp [blk])) (by simpa [DstOk, Nat.blt_eq] using hd);exact h3
section
variable {cx : Cx} {ops : Array Oper} {o : Oper} {rest : List Oper} {e : Env} {σ : Obs} {Q : Post}
theorem AOps.boxOwn {t dst : Nat} {x : Operand} {d : D} (id : Nat) (hg : o.guard = none) (ht : o.dst = some dst) (hdn : Nat.blt dst cx.N = true) (ho : o.op = .box t x) (hx : e.ev x = .d d) (h1 : d.one = true) (hid : Obs.fresh id σ = true)
 (k : AOps cx ops rest ((e.kill id).put (some dst) (.ptr id 0)) ((id, .cells (d.parts.map S.d)) :: Obs.kill id σ) Q) (hfx : cx.free id = true := by rfl) : AOps cx ops (o :: rest) e σ Q := by
 intro a w ⟨F, ρ, hr⟩;have h2 := Ya1 (e := e) (x := x) (a := a) (fun t _ => hr.env t);rw [hx] at h2;obtain ⟨h3, h4⟩ := Yb0 (Yag h2) h1;obtain ⟨ρ', h5⟩ := hr.newCells (ty := t) (Obs.fresh_spec hid) (by simpa [Nat.blt_eq] using hdn) h3 h4 hfx;refine wpList_plain hg fun K hK => ?_
 unfold Oper.wp execOp;simp only [ho, Instr.box, newVar, newRow];have := k _ _ ⟨F, ρ', h5⟩;rw [<- ht] at this;exact hK _ _ this
theorem AOps.alloc {t dst : Nat} {z : Value} {zs : List Value} (id : Nat) (hg : o.guard = none) (ht : o.dst = some dst) (hdn : Nat.blt dst cx.N = true) (ho : o.op = .alloc t) (hz : (cx.P.info? t).bind (·.zero) = some z) (hzc : z.cells.toList = zs) (h1 : zs.all (·.oneCell') = true) (hid : Obs.fresh id σ = true)
 (k : AOps cx ops rest ((e.kill id).put (some dst) (.ptr id 0)) ((id, .cells ((zs.map D.v).map S.d)) :: Obs.kill id σ) Q) (hfx : cx.free id = true := by rfl) : AOps cx ops (o :: rest) e σ Q := by
 intro a w ⟨F, ρ, hr⟩;obtain ⟨ρ', h5⟩ := hr.newCells (ty := t) (cs := z.cells) (ds := zs.map D.v) (Obs.fresh_spec hid) (by simpa [Nat.blt_eq] using hdn) ⟨by simp [<- hzc], fun i hi hi' => by simp only [ZgP, <- hzc]; exact .v _⟩ (by rw [hzc]; simpa using h1) hfx;refine wpList_plain hg fun K hK => ?_
 obtain ⟨i, hi, hzz⟩ := Option.bind_eq_some_iff.1 hz;have hprog : (program : Sem Program).run cx.P w = .ok cx.P w := rfl;unfold Oper.wp execOp;simp only [ho, Instr.alloc, Sem.run_bind, zeroValue, typeInfo, hprog, Result.andThen_ok, hi, Sem.run_pure, hzz, newVar, newRow];have := k _ _ ⟨F, ρ', h5⟩;rw [<- ht] at this;exact hK _ _ this
theorem cells_of {cx : Cx} {F : Nat -> Prop} {ρ : Nat -> Value} {e : Env} {σ : Obs} {a : Act} {w : World} (hr : R0 cx F ρ e σ a w) {x : Operand} {id off : Nat} {ss : List S} (hx : e.ev x = .ptr id off) (hm : (id, Ob.cells ss) ∈ σ) :
 ∃ g ty, ∃ cs : List Value, a.eval x = .pointer (some ⟨g, off, none⟩) /\ ρ id = .pointer (some ⟨g, 0, none⟩) /\ cx.B <= g /\ ¬ F g /\ w.heap[g]? = some (.cells cs.toArray ty (0, 0)) /\ cs.length = ss.length /\ (∀ j (h : j < cs.length) (h' : j < ss.length), cs[j].oneCell' = true /\ RepS F ρ w cs[j] ss[j]) := by
 have h1 := Ya1 (e := e) (x := x) (a := a) (fun t _ => hr.env t);rw [hx] at h1;obtain ⟨g, ty, cs, h2, h3, h4, h5, h6, h7⟩ := hr.obs.ok _ hm;dsimp only at h2;refine ⟨g, ty, cs, ?_, h2, h3, h4, h5, h6, h7⟩;generalize a.eval x = v at h1
 cases h1 with
 | ptr _ _ g' hg =>
  rw [h2] at hg;simp [blk] at hg;rw [hg]
theorem R0.write {cx : Cx} {F : Nat -> Prop} {ρ : Nat -> Value} {e : Env} {σ : Obs} {a : Act} {w w' : World} (hr : R0 cx F ρ e σ a w) {id g : Nat} {ty : TypeId} {ss ss' : List S} {cs' : List Value} (hρ : ρ id = .pointer (some ⟨g, 0, none⟩)) (hm : (id, Ob.cells ss) ∈ σ)
 (hB : cx.B <= g) (hF : ¬ F g) (ht : Turn w w' (some g)) (hh : w'.heap[g]? = some (.cells cs'.toArray ty (0, 0))) (hl : cs'.length = ss'.length) (hcs : ∀ j (h : j < cs'.length) (h' : j < ss'.length), cs'[j].oneCell' = true /\ RepS F ρ w cs'[j] ss'[j]) :
 R0 cx F ρ e (Obs.upd id (.cells ss') σ) a w' := by
 have keep : ∀ {x : Value} {s : S}, RepS F ρ w x s -> RepS F ρ w' x s := fun h => h.turn hr.lt (fun g' hg' => by rw [<- Option.some.inj hg']; exact hF) ht (fun b hb => hb)
 have hblk : blk (ρ id) = some g := by rw [hρ]; rfl
 refine ⟨hr.size, hr.defers, fun b hb => Nat.lt_of_lt_of_le (hr.lt b hb) ht.size, hr.base, hr.new, hr.below.turn ht (fun g' hg' => by rw [<- Option.some.inj hg']; exact hr.kown _ hm g hblk), ZnT hr.hB ht.size, fun t => keep (hr.env t), ?_, hr.up, fun p hp => by
  rcases Obs.mem_upd hp with ⟨h1, _⟩ | ⟨h1, _⟩
  ·rw [h1]; exact fun g hg => hr.kown (id, Ob.cells ss) hm g hg
  ·exact hr.kown p h1, hr.fixed⟩
 have hmem : ∀ p, p ∈ Obs.upd id (.cells ss') σ -> p.1 = id -> p = (id, Ob.cells ss') := fun p hp he => by
  rcases Obs.mem_upd hp with ⟨h1, _⟩ | ⟨_, h2⟩
  ·exact h1
  ·exact absurd he h2
 have hold : ∀ p, p ∈ Obs.upd id (.cells ss') σ -> p.1 ≠ id -> p ∈ σ := fun p hp he => by
  rcases Obs.mem_upd hp with ⟨h1, _⟩ | ⟨h1, _⟩
  ·rw [h1] at he; exact absurd rfl he
  ·exact h1
 refine ⟨fun p hp => ?_, fun p hp q hq hne g' hg' => ?_, fun p hp q hq he => ?_⟩
 ·by_cases hpi : p.1 = id
  ·rw [hmem p hp hpi];exact ⟨g, ty, cs', hρ, hB, hF, hh, hl, fun j h h' => ⟨(hcs j h h').1, keep (hcs j h h').2⟩⟩
  ·have hp' := hold p hp hpi;have h1 := hr.obs.ok p hp'
   have hne : ∀ g', blk (ρ p.1) = some g' -> (some g) ≠ some g' := fun g' hg' he => by
    have := hr.obs.apart p hp' _ hm hpi g' hg';rw [hblk, he] at this;exact this J
   obtain ⟨i, ob⟩ := p
   cases ob with
   | row ee size els =>
    obtain ⟨xs, h2, h3, h4, h5⟩ := h1
    exact ⟨xs, Ybk h2 ht hne, h3, fun k hk j hj => ⟨(h4 k hk j hj).1, Yag (keep (.d (h4 k hk j hj).2))⟩, h5⟩
   | cells ss2 =>
    obtain ⟨g2, e2, cs2, h2, h3, h4, h5, h6, h7⟩ := h1;refine ⟨g2, e2, cs2, h2, h3, h4, ?_, h6, fun j hj hj' => ⟨(h7 j hj hj').1, keep (h7 j hj hj').2⟩⟩;rw [ht.block g2 (ZaS.1 h5).1 (fun he => hne g2 (by rw [h2]; rfl) he.symm)]
    exact h5
   | cellsT ty0 ss2 =>
    obtain ⟨g2, cs2, h2, h3, h4, h5, h6, h7⟩ := h1;refine ⟨g2, cs2, h2, h3, h4, ?_, h6, fun j hj hj' => ⟨(h7 j hj hj').1, keep (h7 j hj hj').2⟩⟩;rw [ht.block g2 (ZaS.1 h5).1 (fun he => hne g2 (by rw [h2]; rfl) he.symm)]
    exact h5
   | map M =>
    obtain ⟨g2, es, cl, h2, h3, h4, h5, h6, h7⟩ := h1;refine ⟨g2, es, cl, h2, h3, h4, ?_, h6, fun j hj hj' => ⟨(h7 j hj hj').1, Yag (keep (.d (h7 j hj hj').2))⟩⟩;rw [ht.block g2 (ZaS.1 h5).1 (fun he => hne g2 (by rw [h2]; rfl) he.symm)]
    exact h5
   | rowS ee size els =>
    obtain ⟨xs, h2, h3, h4, h5⟩ := h1
    exact ⟨xs, Ybk h2 ht hne, h3, fun k hk j hj => ⟨(h4 k hk j hj).1, keep (h4 k hk j hj).2⟩, h5⟩
   | bts l =>
    obtain ⟨g2, e2, cap2, cur2, fz2, h2, h3, h4, h5, h6⟩ := h1;refine ⟨g2, e2, cap2, cur2, fz2, h2, h3, h4, ?_, h6⟩;rw [ht.block g2 (ZaS.1 h5).1 (fun he => hne g2 (by rw [h2]; rfl) he.symm)]
    exact h5
   | raw p =>
    obtain ⟨g2, ob2, h2, h3, h4, h5, h6⟩ := h1;refine ⟨g2, ob2, h2, h3, h4, ?_, h6⟩;rw [ht.block g2 (ZaS.1 h5).1 (fun he => hne g2 h2 he.symm)]
    exact h5
   | mapS M =>
    obtain ⟨g2, es, cl, h2, h3, h4, h5, h6, h7⟩ := h1;refine ⟨g2, es, cl, h2, h3, h4, ?_, h6, fun j hj hj' => ⟨(h7 j hj hj').1, keep (h7 j hj hj').2⟩⟩;rw [ht.block g2 (ZaS.1 h5).1 (fun he => hne g2 (by rw [h2]; rfl) he.symm)]
    exact h5
   | val ss =>
    obtain ⟨cs, h2, h3, h4⟩ := h1
    exact ⟨cs, h2, h3, fun j hj hj' => ⟨(h4 j hj hj').1, keep (h4 j hj hj').2⟩⟩
   | iter M done =>
    obtain ⟨g2, b2, es, cl, sn, c0, h2, h3, h4, h5, h6, h7, h8, h9⟩ := h1;refine ⟨g2, b2, es, cl, sn, c0, h2, h3, h4, ?_, h6, ?_, h8, fun j hj hj' => ⟨(h9 j hj hj').1, Yag (keep (.d (h9 j hj hj').2))⟩⟩
    ·rw [ht.block g2 (ZaS.1 h5).1 (fun he => hne g2 (by rw [h2]; rfl) he.symm)];exact h5
    ·rw [ht.block b2 (hr.lt b2 h6) (fun he => hF (by rw [<- Option.some.inj he]; exact h6))];exact h7
 ·by_cases hpi : p.1 = id
  ·have hq' := hold q hq (fun he => hne (by rw [hpi, he]));rw [hpi] at hg' hne;exact hr.obs.apart _ hm q hq' hne g' hg'
  ·have hp' := hold p hp hpi
   by_cases hqi : q.1 = id
   ·rw [hqi] at hne ⊢;exact hr.obs.apart p hp' _ hm hne g' hg'
   ·exact hr.obs.apart p hp' q (hold q hq hqi) hne g' hg'
 ·by_cases hpi : p.1 = id
  ·rw [hmem p hp hpi, hmem q hq (by rw [<- he, hpi])]
  ·exact hr.obs.uniq p (hold p hp hpi) q (hold q hq (by rw [<- he]; exact hpi)) he
end
section
variable {P : Program} {B : Nat} {ops : Array Oper} {o : Oper} {e : Env} {σ : Obs}
theorem YbM {F : Nat -> Prop} {ρ : Nat -> Value} {w : World} {v : Value} {id off g : Nat} (h : RepS F ρ w v (.ptr id off)) (hb : blk (ρ id) = some g) : v = .pointer (some ⟨g, off, none⟩) := by
 cases h with
 | ptr _ _ g' hg => rw [hb] at hg; rw [Option.some.inj hg]
theorem ptr_blk {F : Nat -> Prop} {ρ : Nat -> Value} {w : World} {v : Value} {id off : Nat} (h : RepS F ρ w v (.ptr id off)) : ∃ g, blk (ρ id) = some g /\ v = .pointer (some ⟨g, off, none⟩) := by
 cases h with
 | ptr _ _ g' hg => exact ⟨g', hg, rfl⟩
theorem AOp.fieldAddrP {t : TypeId} {x : Operand} {f k id off : Nat} (ho : o.op = .fieldAddr t x f) (hf : Yac P t f = some k) (hx : e.ev x = .ptr id off) : AOp P B ops o e σ (.ptr id (off + k)) :=
 .value fun F ρ w a hF hr _ => by
 have h1 := hr x (by rw [ho]; simp [Op.operands]);rw [hx] at h1;obtain ⟨g, hb, hv⟩ := ptr_blk h1;refine ⟨.pointer (some ⟨g, off + k, none⟩), F, w, ?_, .ptr id _ g hb, Ext.refl hF⟩;unfold execOp;simp only [ho, hv];rw [Sem.run_bind, Ygt hf, YaN];rfl
theorem AOp.loadP {t : TypeId} {x : Operand} {id off : Nat} {ss : List S} {s : S} (ho : o.op = .load t x) (hT : Scal P t) (hx : e.ev x = .ptr id off) (hm : (id, Ob.cells ss) ∈ σ) (hs : ss[off]? = some s) : AOp P B ops o e σ s :=
 .value fun F ρ w a hF hr hσ => by
 have h1 := hr x (by rw [ho]; simp [Op.operands]);rw [hx] at h1;obtain ⟨g, ty, cs, h2, h3, h4, h5, h6, h7⟩ := hσ.ok _ hm;dsimp only at h2;have hv := YbM h1 (g := g) (by rw [h2]; rfl);have hlt : off < ss.length := (ZgS.1 hs).1;have hse : ss[off] = s := (ZgS.1 hs).2
 have hc : w.cell? ⟨g, off, none⟩ = some (cs[off]'(by omega)) := by
  rw [cell_of_row w g off cs.toArray ty (0, 0) h5]; simp [show off < cs.length by omega]
 refine ⟨cs[off]'(by omega), F, w, ?_, by rw [<- hse]; exact (h7 off (by omega) hlt).2, Ext.refl hF⟩;unfold execOp;simp only [ho, hv, Instr.loadAt, Instr.sureAddr, loadVar, Sem.run_bind, Sem.run_pure, Result.andThen_ok, hT w, Bool.false_eq_true, if_false, run_load, hc]
theorem AOp.loadPAgg {t : TypeId} {x : Operand} {id off size : Nat} {ss : List S} {ds : List D} (ho : o.op = .load t x) (hT : AggT P t size) (hx : e.ev x = .ptr id off) (hm : (id, Ob.cells ss) ∈ σ) (hs : (ss.drop off).take size = ds.map S.d) (hl : ds.length = size) :
 AOp P B ops o e σ (.d (.agg ds)) :=
 .value fun F ρ w a hF hr hσ => by
 have h1 := hr x (by rw [ho]; simp [Op.operands]);rw [hx] at h1;obtain ⟨g, ty, cs, h2, h3, h4, h5, h6, h7⟩ := hσ.ok _ hm;dsimp only at h2;have hv := YbM h1 (g := g) (by rw [h2]; rfl);have hlen : ((ss.drop off).take size).length = size := by rw [hs]; simpa using hl
 have hle : size = 0 \/ off + size <= ss.length := by
  rw [ZlT, ZlD] at hlen; omega
 have hl2 : ((cs.drop off).take size).length = size := by rw [ZlT, ZlD]; omega
 have hcells : (loadCells ⟨g, off, none⟩ ((cs.drop off).take size).length).run P w = .ok ((cs.drop off).take size).toArray w := run_loadCells_list w _ _ (fun j v hj => by
  have hlt := (ZgS.1 hj).1;rw [hl2] at hlt;rw [YaN, cell_of_row w g (off + j) cs.toArray ty (0, 0) h5, <- hj]
  simp [hlt])
 rw [hl2] at hcells;refine ⟨.agg ((cs.drop off).take size).toArray, F, w, ?_, .d (.agg _ _ (by rw [hl2, hl]) (fun i hi => ?_) (fun i hi hi' => ?_)), Ext.refl hF⟩
 ·unfold execOp;simp only [ho, hv, Instr.loadAt, Instr.sureAddr, loadVar, Sem.run_bind, Sem.run_pure, Result.andThen_ok, hT.agg w, hT.size w, if_true, hcells]
 ·rw [hl2] at hi;rw [List.getElem_take, List.getElem_drop];exact (h7 (off + i) (by omega) (by omega)).1
 ·rw [hl2] at hi;rw [List.getElem_take, List.getElem_drop];have h8 := (h7 (off + i) (by omega) (by omega)).2;have h9 : ((ss.drop off).take size)[i]? = (ds.map S.d)[i]? := by rw [hs]
  rw [ZgT, if_pos hi, ZgO, ZgE (by omega), List.getElem?_map, ZgE hi'] at h9;have h10 : ss[off + i] = S.d ds[i] := by simpa using h9
  rw [h10] at h8;exact Yag h8
def S.isD : S -> Bool
 | .d _ => true
 | _ => false
def S.un : S -> D
 | .d x => x
 | _ => .any
theorem map_un : ∀ {ss : List S}, ss.all S.isD = true -> ss = (ss.map S.un).map S.d
 | [], _ => rfl
 | s :: ss, h => by
  simp only [List.all_cons, ZbA] at h
  cases s with
  | d x => simp only [List.map_cons, S.un]; rw [<- map_un h.2]
  | own i => simp [S.isD] at h
  | ptr i off => simp [S.isD] at h
  | clo f caps => simp [S.isD] at h
theorem AOp.loadPU {t : TypeId} {x : Operand} {id off size : Nat} {ss : List S} (ho : o.op = .load t x) (hT : AggT P t size) (hx : e.ev x = .ptr id off) (hm : (id, Ob.cells ss) ∈ σ) (hs : ((ss.drop off).take size).all S.isD = true) (hl : ((ss.drop off).take size).length = size) :
 AOp P B ops o e σ (.d (.agg (((ss.drop off).take size).map S.un))) := .loadPAgg ho hT hx hm (map_un hs) (by simpa using hl)
theorem AOp.indexOwn {t el : TypeId} {x ix : Operand} {size bytes id : Nat} {z : Value} {n : Int} {els : List (List D)} (ho : o.op = .indexAddr t x ix) (T : ElemTy P t el size bytes z) (hx : e.ev x = .own id) (hi : e.ev ix = .d (.v (.int .i64 n)))
 (hm : (id, Ob.row el size els) ∈ σ) (k : Nat) (hk : n = k) (hlt : k < els.length) : AOp P B ops o e σ (.ptr id (k * size)) :=
 .value fun F ρ w a hF hr hσ => by
 have h1 := hr x (by rw [ho]; simp [Op.operands]);have h2 := hr ix (by rw [ho]; simp [Op.operands]);rw [hx] at h1;rw [hi] at h2;have hv2 := Yav h2;obtain ⟨xs, h3, h4, h5, h6⟩ := hσ.ok _ hm;dsimp only at h3;have hv : a.eval x = ρ id := by generalize a.eval x = v at h1; cases h1; rfl
 rcases h3.2 with ⟨_, h7⟩ | ⟨g, cap, cur, h7, _⟩
 ·omega
 ·refine ⟨.pointer (some ⟨g, k * size, none⟩), F, w, ?_, .ptr id _ g (by rw [h7]; rfl), Ext.refl hF⟩;unfold execOp;simp only [ho, hv, h7, hv2, hk];have hp : 0 <= (k : Int) /\ (k : Int) < (els.length : Int) := ⟨by omega, by omega⟩;simp [Instr.indexAt, run_underlying T.ht, asIntOf, hlt, T.sizeOf, YaN]
theorem Yej {w : World} {g e size n cap : Nat} {v : Value} {cur : Array Value} {xs : Nat -> Nat -> Value} {B : Nat} (h : w.ownsRow B e size v n (flat xs n size)) (hv : v = .slice (some ⟨g, 0, none⟩) n cap) (_ : w.heap[g]? = some (.cells cur e (0, 0))) {k j : Nat} (hk : k < n) (hj : j < size) :
 w.cell? ⟨g, k * size + j, none⟩ = some (xs k j) := by
 have h1 := World.ownsRow.cells h (g := g) (by rw [hv]; rfl) (k * size + j) (xs k j) (YaE xs size n k j hk hj);rw [YaN, Nat.zero_add] at h1;exact h1
theorem AOp.loadRow {t : TypeId} {x : Operand} {id off ee size : Nat} {els : List (List D)} {ds : List D} {d : D} (ho : o.op = .load t x) (hT : Scal P t) (hx : e.ev x = .ptr id off) (hm : (id, Ob.row ee size els) ∈ σ) (k j : Nat) (hoff : off = k * size + j) (hk : els[k]? = some ds) (hd : ds[j]? = some d) :
 AOp P B ops o e σ (.d d) :=
 .value fun F ρ w a hF hr hσ => by
 have h1 := hr x (by rw [ho]; simp [Op.operands]);rw [hx] at h1;obtain ⟨xs, h3, h4, h5, h6⟩ := hσ.ok _ hm;dsimp only at h3;have hlt : k < els.length := (ZgS.1 hk).1;have hde : els[k] = ds := (ZgS.1 hk).2;have hjl : j < ds.length := (ZgS.1 hd).1;have hdd : ds[j] = d := (ZgS.1 hd).2;have hsz := h4 k hlt;rw [hde] at hsz
 rcases h3.2 with ⟨_, h7⟩ | ⟨g, cap, cur, h7, _, h8, _⟩
 ·omega
 ·have hv := YbM h1 (g := g) (by rw [h7]; rfl);have hc := Yej h3 h7 h8 hlt (show j < size by omega);have hrep := (h5 k hlt j (by rw [hde]; exact hjl)).2;refine ⟨xs k j, F, w, ?_, .d ?_, Ext.refl hF⟩
  ·unfold execOp;simp only [ho, hv, hoff, Instr.loadAt, Instr.sureAddr, loadVar, Sem.run_bind, Sem.run_pure, Result.andThen_ok, hT w, Bool.false_eq_true, if_false, run_load, hc]
  ·simp only [hde, hdd] at hrep;exact hrep
end
section
variable {cx : Cx} {ops : Array Oper} {o : Oper} {rest : List Oper} {e : Env} {σ : Obs} {Q : Post}
theorem AOps.make {t el : TypeId} {l c : Operand} {size bytes dst : Nat} {z : Value} {n : Nat} (id : Nat) (hg : o.guard = none) (ht : o.dst = some dst) (hdn : Nat.blt dst cx.N = true) (ho : o.op = .makeSlice t l c) (T : ElemTy cx.P t el size bytes z)
 (hl : e.ev l = .d (.v (.int .i64 n))) (hc : e.ev c = .d (.v (.int .i64 n))) (hb : bytes * n <= 281474976710656) (hn : n <= 9223372036854775807) (h1 : z.cells.toList.all (·.oneCell') = true) (hid : Obs.fresh id σ = true)
 (k : AOps cx ops rest ((e.kill id).put (some dst) (.own id)) ((id, .row el size (List.replicate n (z.cells.toList.map D.v))) :: Obs.kill id σ) Q) (hfx : cx.free id = true := by rfl) : AOps cx ops (o :: rest) e σ Q := by
 intro a w ⟨F, ρ, hr⟩;have hdn' : dst < cx.N := by simpa [Nat.blt_eq] using hdn
 have r1 := Ya1 (e := e) (x := l) (a := a) (fun t _ => hr.env t);have r2 := Ya1 (e := e) (x := c) (a := a) (fun t _ => hr.env t);rw [hl] at r1;rw [hc] at r2;refine wpList_mk T l c hg ho (Yav r1) (Yav r2) hb hn ?_;rw [ht];refine k _ _ ⟨F, fun j => if j = id then .slice (some ⟨w.heap.size, 0, none⟩) n n else ρ j, ?_⟩;have hE : Ext F w F (w.alloc (.cells (madeCells z.cells (n * size)) el)) := Ext.of_below hr.lt ((Below.refl _ _).alloc (ZnR _) _);have hzl : z.cells.toList.length = size := by rw [ZaL]; exact T.hz
 have hone : ∀ u ∈ z.cells.toList, u.oneCell' = true := List.all_eq_true.1 h1
 have h2 := hr.turn (ρ' := fun j => if j = id then .slice (some ⟨w.heap.size, 0, none⟩) n n else ρ j) (id := id) (ob := .row el size (List.replicate n (z.cells.toList.map D.v))) (row := none) (w' := w.alloc (.cells (madeCells z.cells (n * size)) el)) (F' := F) (fun j hj => by simp [hj])
  ⟨hE.below.os, hE.below.tape, hE.below.output, hE.below.size, fun k hk _ => hE.below.block k hk⟩ hfx (fun g hg => by simp at hg) (fun b hb => hb) (fun b hb => .inl hb) hE.lt
  ⟨fun _ j => z.cells.toList.getD j undef, by
   have h3 := owns_made (w := w) (B := cx.B) (e := el) (z := z) (size := size) hr.hB hn
   have h4 : (madeCells z.cells (n * size)).toList = flat (fun _ j => z.cells.toList.getD j undef) n size := by
    apply List.ext_getElem?;intro q;have hs0 : 0 < size := T.hs
    by_cases hq : q < n * size
    ·have e1 : q = (q / size) * size + q % size := by rw [Nat.mul_comm]; exact (Nat.div_add_mod q size).symm
     have hlt1 : q / size < n := Nat.div_lt_of_lt_mul (by rw [Nat.mul_comm]; exact hq);have hlt2 : q % size < size := Nat.mod_lt _ hs0;have h6 := YaE (fun _ j => z.cells.toList.getD j undef) size n (q / size) (q % size) hlt1 hlt2;rw [<- e1] at h6;rw [show flat (fun _ j => z.cells.toList.getD j undef) n size = _ from rfl];unfold flat;rw [h6];have hzs : z.cells.size = size := T.hz;simp [madeCells, hq, hzs, ZgD, hlt2]
    ·rw [List.getElem?_eq_none (by simp [madeCells]; omega), List.getElem?_eq_none (by rw [Yar]; omega)]
   rw [h4] at h3;simp only [if_true, List.length_replicate];exact h3, fun i hi => by rw [List.getElem_replicate]; simpa using hzl, fun i hi j hj => by
   rw [List.getElem_replicate] at hj;simp only [ZlM] at hj;simp only [List.getElem_replicate, ZgP, ZgD, ZgE hj, Option.getD_some];exact ⟨hone _ (ZgM hj), .v _⟩, fun g hg hf => by
   simp only [if_true, blk, Option.some.injEq] at hg;have := hr.lt g hf
   omega⟩
  (fun g hg => by simp only [if_true, blk, Option.some.injEq] at hg; exact .inr (by omega)) ((id, .row el size (List.replicate n (z.cells.toList.map D.v))) :: Obs.kill id σ) (fun p hp => by
   cases hp with
   | head => exact .inl rfl
   | tail _ hp => obtain ⟨q, hq, rfl⟩ := Obs.mem_kill hp; exact .inr ⟨q, hq, Obs.fresh_spec hid q hq, rfl⟩)
 have h3 := h2.put (o := ⟨some dst, .ready 0, 0, "", #[], none⟩) (v := .slice (some ⟨w.heap.size, 0, none⟩) n n) (s := .own id) (Ext.refl h2.lt) (by
  have := RepS.own (F := F) (ρ := fun j => if j = id then Value.slice (some ⟨w.heap.size, 0, none⟩) n n else ρ j) (w := w.alloc (.cells (madeCells z.cells (n * size)) el)) id
  simpa using this) (by simpa [DstOk, Nat.blt_eq] using hdn')
 exact h3
end
theorem R0.freeze {cx : Cx} {F : Nat -> Prop} {ρ : Nat -> Value} {e : Env} {σ : Obs} {a : Act} {w : World} (h : R0 cx F ρ e σ a w) {t id ee size : Nat} {els : List (List D)} (ht : e t = .own id) (hm : (id, Ob.row ee size els) ∈ σ) :
 ∃ F', R0 cx F' ρ (e.put (some t) (.d (.sl els))) (Obs.del id σ) a w := by
 have hF2 : ∀ b, (F b \/ blk (ρ id) = some b) -> b < w.heap.size := fun b hb => by
  rcases hb with hb | hb
  ·exact h.lt b hb
  ·exact ((h.obs.ok _ hm).blk_lt hb).2
 refine ⟨fun b => F b \/ blk (ρ id) = some b, h.size, h.defers, hF2, fun b hb => .inl (h.base b hb), fun b hb => ?_, h.below, h.hB, fun u => ?_, ?_, h.up, fun p hp => h.kown p (Obs.mem_del hp).1, h.fixed⟩
 ·rcases hb with hb | hb
  ·exact h.new b hb
  ·exact .inr (h.kown _ hm b hb)
 ·by_cases hu : u = t
  ·subst hu;rw [Env.put_same];have h1 := h.env u;rw [ht] at h1;generalize a.tmps.getD u undef = x at h1;cases h1;exact .d (h.rep_row hm (fun b hb => .inl hb) (fun g hg => .inr hg))
  ·rw [Env.put_other _ _ _ _ hu];exact RepS.turn (row := none) (h.env u) h.lt (fun g hg => by simp at hg) ⟨rfl, rfl, rfl, ZnR _, fun _ _ _ => rfl⟩ (fun b hb => .inl hb)
 ·refine ⟨fun p hp => ?_, fun p hp q hq => h.obs.apart p (Obs.mem_del hp).1 q (Obs.mem_del hq).1, fun p hp q hq => h.obs.uniq p (Obs.mem_del hp).1 q (Obs.mem_del hq).1⟩;obtain ⟨h1, h2⟩ := Obs.mem_del hp;have h3 := h.obs.ok p h1;have hne : ∀ g, blk (ρ p.1) = some g -> blk (ρ id) ≠ some g := fun g hg => h.obs.apart p h1 _ hm h2 g hg
  have keep : ∀ {x : Value} {s : S}, RepS F ρ w x s -> RepS (fun b => F b \/ blk (ρ id) = some b) ρ w x s := fun hx =>
   RepS.turn (row := none) hx h.lt (fun g hg => by simp at hg) ⟨rfl, rfl, rfl, ZnR _, fun _ _ _ => rfl⟩ (fun b hb => .inl hb)
  obtain ⟨i, ob⟩ := p
  cases ob with
  | row ee2 size2 els2 =>
   obtain ⟨xs, h4, h5, h6, h7⟩ := h3
   exact ⟨xs, h4, h5, fun k hk j hj => ⟨(h6 k hk j hj).1, Yag (keep (.d (h6 k hk j hj).2))⟩, fun g hg hf => by
    rcases hf with hf | hf
    ·exact h7 g hg hf
    ·exact hne g hg hf⟩
  | cells ss =>
   obtain ⟨g, ty, cs, h4, h5, h6, h7, h8, h9⟩ := h3
   exact ⟨g, ty, cs, h4, h5, fun hf => by
    rcases hf with hf | hf
    ·exact h6 hf
    ·exact hne g (by rw [h4]; rfl) hf, h7, h8, fun j hj hj' => ⟨(h9 j hj hj').1, keep (h9 j hj hj').2⟩⟩
  | cellsT ty0 ss =>
   obtain ⟨g, cs, h4, h5, h6, h7, h8, h9⟩ := h3
   exact ⟨g, cs, h4, h5, fun hf => by
    rcases hf with hf | hf
    ·exact h6 hf
    ·exact hne g (by rw [h4]; rfl) hf, h7, h8, fun j hj hj' => ⟨(h9 j hj hj').1, keep (h9 j hj hj').2⟩⟩
  | map M =>
   obtain ⟨g, es, cl, h4, h5, h6, h7, h8, h9⟩ := h3
   exact ⟨g, es, cl, h4, h5, fun hf => by
    rcases hf with hf | hf
    ·exact h6 hf
    ·exact hne g (by rw [h4]; rfl) hf, h7, h8, fun j hj hj' => ⟨(h9 j hj hj').1, Yag (keep (.d (h9 j hj hj').2))⟩⟩
  | rowS ee2 size2 els2 =>
   obtain ⟨xs, h4, h5, h6, h7⟩ := h3
   exact ⟨xs, h4, h5, fun k hk j hj => ⟨(h6 k hk j hj).1, keep (h6 k hk j hj).2⟩, fun g hg hf => by
    rcases hf with hf | hf
    ·exact h7 g hg hf
    ·exact hne g hg hf⟩
  | bts l =>
   obtain ⟨g, e2, cap2, cur2, fz2, h4, h5, h6, h7, h8⟩ := h3
   exact ⟨g, e2, cap2, cur2, fz2, h4, h5, fun hf => by
    rcases hf with hf | hf
    ·exact h6 hf
    ·exact hne g (by rw [h4]; rfl) hf, h7, h8⟩
  | raw p =>
   obtain ⟨g, ob2, h4, h5, h6, h7, h8⟩ := h3
   exact ⟨g, ob2, h4, h5, fun hf => by
    rcases hf with hf | hf
    ·exact h6 hf
    ·exact hne g h4 hf, h7, h8⟩
  | mapS M =>
   obtain ⟨g, es, cl, h4, h5, h6, h7, h8, h9⟩ := h3
   exact ⟨g, es, cl, h4, h5, fun hf => by
    rcases hf with hf | hf
    ·exact h6 hf
    ·exact hne g (by rw [h4]; rfl) hf, h7, h8, fun j hj hj' => ⟨(h9 j hj hj').1, keep (h9 j hj hj').2⟩⟩
  | val ss =>
   obtain ⟨cs, h4, h5, h6⟩ := h3
   exact ⟨cs, h4, h5, fun j hj hj' => ⟨(h6 j hj hj').1, keep (h6 j hj hj').2⟩⟩
  | iter M done =>
   obtain ⟨g, b, es, cl, sn, c0, h4, h5, h6, h7, h8, h9, h10, h11⟩ := h3
   exact ⟨g, b, es, cl, sn, c0, h4, h5, fun hf => by
    rcases hf with hf | hf
    ·exact h6 hf
    ·exact hne g (by rw [h4]; rfl) hf, h7, .inl h8, h9, h10, fun j hj hj' => ⟨(h11 j hj hj').1, Yag (keep (.d (h11 j hj hj').2))⟩⟩
theorem AOps.freeze {cx : Cx} {ops : Array Oper} {rest : List Oper} {e : Env} {σ : Obs} {Q : Post} (t : Nat) {id ee size : Nat} {els : List (List D)} (ht : e t = .own id) (hm : (id, Ob.row ee size els) ∈ σ) (k : AOps cx ops rest (e.put (some t) (.d (.sl els))) (Obs.del id σ) Q) : AOps cx ops rest e σ Q :=
 fun a w ⟨_, ρ, hr⟩ => by
  obtain ⟨F', h⟩ := hr.freeze ht hm;exact k a w ⟨F', ρ, h⟩
end Go.Proofs.YtohllekllkcfiaaGreatDoor
