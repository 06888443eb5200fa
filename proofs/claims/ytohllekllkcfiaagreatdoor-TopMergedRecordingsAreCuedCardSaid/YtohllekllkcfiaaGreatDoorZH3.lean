/- Walks and laws over abstract values, merged by tools/merge.py. No statement of the seat. -/
import Derived.Lib.ConvBytes
import Derived.Lib.Strings
import Derived.Lib.RowBridge
import Derived.Laws.Cover3
import Derived.Shelf.Spec.SlicesInsert
import Derived.Shelf.Spec.SlicesInsertGrow
import Derived.Test.YtohllekllkcfiaaGreatDoorZH2
set_option linter.unusedSimpArgs false
set_option linter.unusedVariables false
open List renaming length_map -> ZlM, getElem?_eq_getElem -> ZgE, getElem?_eq_some_iff -> ZgS, length_take -> ZlT, getElem_append_left -> ZgL, getD_eq_getElem?_getD -> ZgD, getElem_map -> ZgP, getElem_append_right -> ZgR, getElem?_take -> ZgT, length_drop -> ZlD, mem_singleton -> ZmS, getElem?_drop -> ZgO
open Array renaming getElem?_eq_some_iff -> ZaS, length_toList -> ZaL, getD_eq_getD_getElem? -> ZaD
open Nat renaming le_of_ble_eq_true -> ZnB, zero_le -> ZnZ, le_refl -> ZnR, le_trans -> ZnT
open Bool renaming and_eq_true -> ZbA
namespace Go.Proofs.YtohllekllkcfiaaGreatDoor
section
open Go.RowKit
section
variable {cx : Cx} {ops : Array Oper} {o : Oper} {rest : List Oper} {e : Env} {σ : Obs} {Q : Post}
end
section
variable {P : Program} {B : Nat} {ops : Array Oper} {o : Oper} {e : Env} {σ : Obs}
end
section
variable {P : Program} {B : Nat} {ops : Array Oper} {o : Oper} {e : Env} {σ : Obs}
theorem AOp.loadAggT {t : TypeId} {x : Operand} {size : Nat} {ds : List D} (ho : o.op = .load t x) (hT : AggT P t size) (hx : e.ev x = .d (.fp ds)) (hl : size <= ds.length) : AOp P B ops o e σ (.d (.agg (ds.take size))) :=
 .value fun F ρ w a hF hr _ => by
 have h1 := hr x (by rw [ho]; simp [Op.operands]);rw [hx] at h1;have h2 := Yag h1;obtain ⟨ad, hv⟩ := rep_fp h2;rw [hv] at h2
 cases h2 with
 | fp _ _ vs hF' hcell hone hrep =>
  have hl' : (loadCells ad ((List.range size).map vs).length).run P w = .ok ((List.range size).map vs).toArray w := run_loadCells_list w _ _ (fun j v hj => by
   have hjl := (ZgS.1 hj).1;simp at hjl;rw [hcell j (by omega), <- hj]
   simp [hjl])
  simp only [ZlM, List.length_range] at hl';refine ⟨.agg ((List.range size).map vs).toArray, F, w, ?_, .d (.agg _ _ (by simp; omega) (fun i hi => ?_) (fun i hi hi2 => ?_)), Ext.refl hF⟩
  ·unfold execOp;simp only [ho, hv, Instr.loadAt, Instr.sureAddr, loadVar, Sem.run_bind, Sem.run_pure, Result.andThen_ok, hT.agg w, hT.size w, if_true, hl']
  ·simp at hi ⊢;exact hone i (by omega)
  ·simp at hi hi2 ⊢;exact hrep i (by omega)
end
end
section
open Go.RowKit Go.Lib
theorem bStr_inj {a b : List UInt8} (h : bStr a = bStr b) : a = b := by
 have := congrArg (fun x : ByteArray => x.data.toList) h;exact this
theorem bStr_cut (l : List UInt8) (i j : Nat) : (bStr l).extract i j = bStr ((l.drop i).take (j - i)) := ByteArray.extract_mk l i j
theorem c_idx (l : List UInt8) (c : UInt8) : Yad Tryz.prog 161 [.v (.string (bStr l)), .v (.int .u8 (c.toNat : Int))] (.v (.int .i64 (indexByte l c))) :=
 YbD (us := [_, _]) (.of Tryz.func161 (by kernel_rfl) rfl) fun w => by
  have h := Any.strings_IndexByte Tryz.l137 (bStr l) (c.toNat : Int) w;change Calls Tryz.prog 161 #[.string (bStr l), .int .u8 (c.toNat : Int)] w _ at h;refine h.mono fun _ _ ⟨h1, h2⟩ => ⟨?_, h2 ▸ Below.refl _ _⟩
  rw [h1, YbH];simp
theorem c_trimAll (b : Bool) (l : List UInt8) (hl : l.length <= 9223372036854775807) : Yad Tryz.prog 69 [.v (.string (bStr l)), .v (.string (bStr (Ybi b)))] (.v (.string (bStr (trimS l (Ybi b))))) :=
 YbD (us := [_, _]) (.of Tryz.func69 (by kernel_rfl) rfl) fun w => by
  have h := Any.strings_Trim_laid Tryz.l160 (by kernel_rfl) (bStr l) (bStr (Ybi b)) w (by rw [YaT]; exact hl) (by rw [YaT]; cases b <;> decide) (ascii_of_all (by rw [YbH]; cases b <;> decide));change Calls Tryz.prog 69 #[.string (bStr l), .string (bStr (Ybi b))] w _ at h;exact h
section
variable {P : Program} {B : Nat} {ops : Array Oper} {o : Oper} {e : Env} {σ : Obs}
theorem AOp.sliceTo {t : TypeId} {x hi : Operand} {l : List UInt8} {n : Int} (ho : o.op = .slice t x none (some hi) none) (ht : P.underlying t = some .string) (hx : e.ev x = .d (.v (.string (bStr l))))
 (hh : e.ev hi = .d (.v (.int .i64 n))) (k : Nat) (hn : n = k) (h1 : k <= l.length) : AOp P B ops o e σ (.d (.v (.string (bStr (l.take k))))) := .value fun F ρ w a hF hr _ => by
 have r1 := hr x (by rw [ho]; simp [Op.operands]);have r2 := hr hi (by rw [ho]; simp [Op.operands]);rw [hx] at r1; rw [hh, hn] at r2;refine ⟨_, F, w, ?_, .d (.v _), Ext.refl hF⟩;unfold execOp;simp only [ho, Yav r1, Yav r2, Option.map_some, Option.map_none];rw [Sem.run_bind, run_sliceAt_string w t _ _ _ _ ht, run_slice_string_h w t (bStr l) ht .i64 k (by omega) (by rw [YaT]; omega), bStr_cut];simp
theorem AOp.sliceFrom {t : TypeId} {x lo : Operand} {l : List UInt8} {n : Int} (ho : o.op = .slice t x (some lo) none none) (ht : P.underlying t = some .string) (hx : e.ev x = .d (.v (.string (bStr l))))
 (hh : e.ev lo = .d (.v (.int .i64 n))) (k : Nat) (hn : n = k) (h1 : k <= l.length) : AOp P B ops o e σ (.d (.v (.string (bStr (l.drop k))))) := .value fun F ρ w a hF hr _ => by
 have r1 := hr x (by rw [ho]; simp [Op.operands]);have r2 := hr lo (by rw [ho]; simp [Op.operands]);rw [hx] at r1; rw [hh, hn] at r2;refine ⟨_, F, w, ?_, .d (.v _), Ext.refl hF⟩;unfold execOp;simp only [ho, Yav r1, Yav r2, Option.map_some, Option.map_none];rw [Sem.run_bind, run_sliceAt_string w t _ _ _ _ ht, run_slice_string_l w t (bStr l) ht .i64 k (by omega) (by rw [YaT]; omega), Int.toNat_natCast, bStr_drop];rfl
end
end
section
open Go.RowKit
def OCall (P : Program) (f : FuncId) (ds : List D) (ee size : Nat) (els : List (List D)) : Prop := Enters P f /\
 ∀ (F : Nat -> Prop) (w : World) (vs : List Value), (∀ b, F b -> b < w.heap.size) -> RepL F w vs ds ->
  Calls P f vs.toArray w fun r w' => ∃ v F', r = .returned v /\ Ext F w F' w' /\ ObOk w.heap.size F' (fun _ => v) w' 0 (.row ee size els)
theorem OCall.toA {P : Program} {f : FuncId} {ds : List D} {ee size : Nat} {els : List (List D)} (h : OCall P f ds ee size els) : Yad P f ds (.sl els) :=
 ⟨h.1, fun F w vs hF hv => (h.2 F w vs hF hv).mono fun r w' ⟨v, F', h1, h2, h3⟩ => by
  have ho : ObsOk w.heap.size F' (fun _ => v) w' [(0, .row ee size els)] := by
   refine ⟨fun p hp => ?_, fun p hp q hq hne => ?_, fun p hp q hq _ => ?_⟩
   ·have : p = (0, .row ee size els) := by simpa using hp
    subst this;exact h3
   ·have h4 : p = (0, .row ee size els) := by simpa using hp
    have h5 : q = (0, .row ee size els) := by simpa using hq
    rw [h4, h5] at hne;exact absurd J hne
   ·have h4 : p = (0, .row ee size els) := by simpa using hp
    have h5 : q = (0, .row ee size els) := by simpa using hq
    rw [h4, h5]
  have hr := ob_rep ho (ZmS.2 rfl);refine ⟨v, _, h1, hr, fun b hb => .inl (h2.up b hb), ?_, ?_, h2.below⟩
  ·rintro b (hb | ⟨p, hp, hb⟩)
   ·exact h2.new b hb
   ·have h4 : p = (0, .row ee size els) := by simpa using hp
    subst h4;exact .inr (h3.blk_lt hb).1
  ·rintro b (hb | ⟨p, hp, hb⟩)
   ·exact h2.lt b hb
   ·have h4 : p = (0, .row ee size els) := by simpa using hp
    subst h4
    exact (h3.blk_lt hb).2⟩
theorem obOk_base {B B' : Nat} {F : Nat -> Prop} {ρ ρ' : Nat -> Value} {w : World} {id id' ee size : Nat} {els : List (List D)} (h : ObOk B F ρ w id (.row ee size els)) (hB : B' <= B) (he : ρ id = ρ' id') : ObOk B' F ρ' w id' (.row ee size els) := by
 obtain ⟨xs, h1, h2, h3, h4⟩ := h;rw [he] at h1 h4;refine ⟨xs, ⟨h1.1, ?_⟩, h2, h3, h4⟩
 rcases h1.2 with h5 | ⟨g, cap, cur, h5, h6, h7⟩
 ·exact .inl h5
 ·exact .inr ⟨g, cap, cur, h5, ZnT hB h6, h7⟩
theorem R0.newObF {cx : Cx} {F F' : Nat -> Prop} {ρ : Nat -> Value} {e : Env} {σ : Obs} {a : Act} {w w' : World} (hr : R0 cx F ρ e σ a w) {id dst : Nat} {ob : Ob} {v : Value} (hid : ∀ p ∈ σ, p.1 ≠ id) (hd : dst < cx.N) (hE : Ext F w F' w')
 (hob : ObOk cx.B F' (fun j => if j = id then v else ρ j) w' id ob) (hnew : ∀ g, blk v = some g -> w.heap.size <= g) (hfx : cx.free id = true) :
 ∃ ρ', R0 cx F' ρ' ((e.kill id).put (some dst) (.own id)) ((id, ob) :: Obs.kill id σ) (a.put (some dst) v) w' := by
 refine ⟨fun j => if j = id then v else ρ j, ?_⟩
 have h2 := hr.turn (ρ' := fun j => if j = id then v else ρ j) (id := id) (ob := ob) (row := none) (w' := w') (F' := F') (fun j hj => by simp [hj])
  ⟨hE.below.os, hE.below.tape, hE.below.output, hE.below.size, fun k hk _ => hE.below.block k hk⟩ hfx (fun g hg => by simp at hg) hE.up hE.new hE.lt hob
  (fun g hg => by rw [if_pos rfl] at hg; exact .inr (hnew g hg)) ((id, ob) :: Obs.kill id σ) (fun p hp => by
   cases hp with
   | head => exact .inl rfl
   | tail _ hp => obtain ⟨q, hq, rfl⟩ := Obs.mem_kill hp; exact .inr ⟨q, hq, hid q hq, rfl⟩)
 exact h2.put (o := ⟨some dst, .ready 0, 0, "", #[], none⟩) (v := v) (s := .own id) (Ext.refl h2.lt) (by
  have := RepS.own (F := F') (ρ := fun j => if j = id then v else ρ j) (w := w') id
  simpa using this) (by simpa [DstOk, Nat.blt_eq] using hd)
section
variable {cx : Cx} {ops : Array Oper} {o : Oper} {rest : List Oper} {e : Env} {σ : Obs} {Q : Post}
theorem AOps.callO {f : FuncId} {xs : List Operand} {ts : Array TypeId} {ds : List D} {ee size dst : Nat} {els : List (List D)} (id : Nat) (hg : o.guard = none) (ht : o.dst = some dst) (hdn : Nat.blt dst cx.N = true)
 (ho : o.op = .call { callee := .value (.func f), args := xs.toArray, argTypes := ts }) (ha : ArgsOk e xs ds) (h : OCall cx.P f ds ee size els) (hid : Obs.fresh id σ = true)
 (k : AOps cx ops rest ((e.kill id).put (some dst) (.own id)) ((id, .row ee size els) :: Obs.kill id σ) Q) (hfx : cx.free id = true := by rfl) : AOps cx ops (o :: rest) e σ Q := by
 intro a w ⟨F, ρ, hr⟩;have hdn' : dst < cx.N := by simpa [Nat.blt_eq] using hdn
 have h4 := h.2 F w (xs.map a.eval) hr.lt (Yfx ha (fun x _ => Ya1 fun t _ => hr.env t));have h5 := h.1 (xs.map a.eval).toArray w
 have hx : (execOp a.eval o).run cx.P w = .ok (.enter f (xs.map a.eval).toArray) w := by
  unfold execOp;simp only [ho, resolve, Deferred.ofValue, Act.eval, invoke, Sem.run_bind, Sem.run_pure, Result.andThen_ok];simpa using h5
 refine wpList_plain hg fun K hK => ?_
 unfold Oper.wp;rw [hx];refine h4.mono fun _ w' ⟨v, F', he, hE, hob⟩ => ?_
 subst he;obtain ⟨ρ', h6⟩ := hr.newObF (ob := .row ee size els) (v := v) (Obs.fresh_spec hid) hdn' hE (obOk_base hob hr.hB (by simp)) (fun g hg => (hob.blk_lt hg).1) hfx;have := k _ _ ⟨F', ρ', h6⟩;rw [<- ht] at this;exact hK _ _ this
theorem AOps.build0 {t el size bytes dst : Nat} {z : Value} (id : Nat) (hg : o.guard = none) (ht : o.dst = some dst) (hdn : Nat.blt dst cx.N = true) (ho : o.op = .buildSlice t 0 #[]) (T : ElemTy cx.P t el size bytes z) (hid : Obs.fresh id σ = true)
 (k : AOps cx ops rest ((e.kill id).put (some dst) (.own id)) ((id, .row el size []) :: Obs.kill id σ) Q) (hfx : cx.free id = true := by rfl) : AOps cx ops (o :: rest) e σ Q := by
 intro a w ⟨F, ρ, hr⟩;have hdn' : dst < cx.N := by simpa [Nat.blt_eq] using hdn
 have hrun : (execOp a.eval o).run cx.P w = .ok (.value (.slice (some ⟨w.heap.size, 0, none⟩) 0 0)) (w.alloc (.cells #[] el)) := by
  unfold execOp;simp only [ho, Instr.buildSlice, Sem.run_bind, run_underlying T.ht, Result.andThen_ok, T.sizeOf, Nat.zero_mul];rw [if_neg (show ¬ (0 > 2 ^ 24) by decide), if_pos trivial];simp only [Sem.run_bind, Sem.run_pure, Result.andThen_ok];have hfl : Instr.fill (fun i => some (i * size, size)) (Array.map (fun x => (#[] : Array Value)[x % (#[] : Array Value).size]!) (Array.range 0)) (Array.map (fun (x : Nat × Operand) => (x.fst, a.eval x.snd)) #[]).toList = some #[] := by simp [Instr.fill]
  rw [hfl];rfl
 have hrow : (w.alloc (.cells #[] el)).ownsRow cx.B el size (.slice (some ⟨w.heap.size, 0, none⟩) 0 0) 0 [] :=
  ⟨by simp, .inr ⟨w.heap.size, 0, #[], rfl, hr.hB, heap_alloc_new w _, ZnZ _, by unfold maxLen; omega, by simp, by simp⟩⟩
 obtain ⟨ρ', h5⟩ := hr.newRow (v := .slice (some ⟨w.heap.size, 0, none⟩) 0 0) (els := []) (Obs.fresh_spec hid) hdn' ((Below.refl _ _).alloc (ZnR _) (.cells #[] el))
  ⟨fun _ _ => undef, by dsimp only; rw [if_pos rfl]; exact hrow, fun i hi => by simp at hi, fun i hi => by simp at hi, fun g hg hf => by dsimp only at hg; rw [if_pos rfl] at hg; simp [blk] at hg; have := hr.lt g hf; omega⟩
  (fun g hg => by simp [blk] at hg; omega) hfx
 refine wpList_plain hg fun K hK => ?_
 unfold Oper.wp;rw [hrun];have := k _ _ ⟨F, ρ', h5⟩;rw [<- ht] at this;exact hK _ _ this
theorem R0.freeze0 {F : Nat -> Prop} {ρ : Nat -> Value} {a : Act} {w : World} (h : R0 cx F ρ e σ a w) {id ee size : Nat} {els : List (List D)} (hm : (id, Ob.row ee size els) ∈ σ) :
 ∃ F', R0 cx F' ρ e (Obs.del id σ) a w /\ Rep F' w (ρ id) (.sl els) := by
 have hF2 : ∀ b, (F b \/ blk (ρ id) = some b) -> b < w.heap.size := fun b hb => by
  rcases hb with hb | hb
  ·exact h.lt b hb
  ·exact ((h.obs.ok _ hm).blk_lt hb).2
 refine ⟨fun b => F b \/ blk (ρ id) = some b, ⟨h.size, h.defers, hF2, fun b hb => .inl (h.base b hb), fun b hb => ?_, h.below, h.hB, fun u => ?_, ?_, h.up, fun p hp => h.kown p (Obs.mem_del hp).1, h.fixed⟩, h.rep_row hm (fun b hb => .inl hb) (fun g hg => .inr hg)⟩
 ·rcases hb with hb | hb
  ·exact h.new b hb
  ·exact .inr (h.kown _ hm b hb)
 ·exact RepS.turn (row := none) (h.env u) h.lt (fun g hg => by simp at hg) ⟨rfl, rfl, rfl, ZnR _, fun _ _ _ => rfl⟩ (fun b hb => .inl hb)
 ·refine ⟨fun p hp => ?_, fun p hp q hq => h.obs.apart p (Obs.mem_del hp).1 q (Obs.mem_del hq).1, fun p hp q hq => h.obs.uniq p (Obs.mem_del hp).1 q (Obs.mem_del hq).1⟩;obtain ⟨h1, h2⟩ := Obs.mem_del hp;have h3 := h.obs.ok p h1;have hne : ∀ g, blk (ρ p.1) = some g -> blk (ρ id) ≠ some g := fun g hg => h.obs.apart p h1 _ hm h2 g hg
  exact h3.more h.lt (fun b hb => .inl hb) (fun g hg hf => by
   rcases hf with hf | hf
   ·exact h3.nF hg hf
   ·exact hne g hg hf)
theorem R0.freezeIn {F : Nat -> Prop} {ρ : Nat -> Value} {a : Act} {w : World} (h : R0 cx F ρ e σ a w) {c off id ee size : Nat} {ss : List S} {els : List (List D)} (hc : (c, Ob.cells ss) ∈ Obs.del id σ) (hs : ss[off]? = some (.own id)) (hm : (id, Ob.row ee size els) ∈ σ) :
 ∃ F', R0 cx F' ρ e (Obs.upd c (.cells (ss.set off (.d (.sl els)))) (Obs.del id σ)) a w := by
 obtain ⟨F', h1, h2⟩ := h.freeze0 hm;exact ⟨F', h1.recell hc hs fun x hx => by cases hx; exact .d h2⟩
theorem AWP.freezeIn {cd : Code} (c off : Nat) {id ee size : Nat} {ss : List S} {els : List (List D)} (hs : ss[off]? = some (.own id)) (hc : (c, Ob.cells ss) ∈ Obs.del id σ) (hm : (id, Ob.row ee size els) ∈ σ)
 (k : AWP cx cd e (Obs.upd c (.cells (ss.set off (.d (.sl els)))) (Obs.del id σ)) Q) : AWP cx cd e σ Q := fun a w ⟨_, ρ, hr⟩ => by
 obtain ⟨F', h⟩ := hr.freezeIn hc hs hm;exact k a w ⟨F', ρ, h⟩
theorem AWP.nilOr {cd : Code} (t : Nat) (ht : e t = .d (.sl [])) (h1 : AWP cx cd (e.put (some t) (.d (.v (.slice none 0 0)))) σ Q) (h2 : ∀ ad cap, cap <= 9223372036854775807 -> AWP cx cd (e.put (some t) (.d (.v (.slice (some ad) 0 cap)))) σ Q) : AWP cx cd e σ Q := fun a w ⟨F, ρ, hr⟩ => by
 have h3 := hr.env t;rw [ht] at h3;have h4 := Yag h3
 have key : ∀ {v : Value}, a.tmps.getD t undef = v -> R cx (e.put (some t) (.d (.v v))) σ a w := fun {v} hv => ⟨F, ρ, hr.size, hr.defers, hr.lt, hr.base, hr.new, hr.below, hr.hB, fun u => by
  by_cases hu : u = t
  ·subst hu;rw [Env.put_same, hv];exact .d (.v _)
  ·rw [Env.put_other _ _ _ _ hu]
   exact hr.env u, hr.obs, hr.up, hr.kown, hr.fixed⟩
 rcases YbY h4 with ⟨h5, _⟩ | ⟨ad, cap, size, vs, h5, hc, hm, _⟩
 ·exact h1 a w (key h5)
 ·exact h2 ad cap hm a w (key (by rw [h5]; rfl))
end
theorem Le.empty {ad : Addr} {cap : Nat} (h : cap <= 9223372036854775807) : Le (.v (.slice (some ad) 0 cap)) (.sl []) := fun F w x hx => by
 rw [rep_v hx];exact .sl ad cap 0 [] (fun _ _ => undef) (ZnZ _) h (fun h => absurd h (by simp)) (fun i hi => by simp at hi) (fun i j hi => by simp at hi) (fun i j hi => by simp at hi) (fun i hi => by simp at hi)
theorem AOps.le {cx : Cx} {ops : Array Oper} {rest : List Oper} {e : Env} {σ : Obs} {Q : Post} (t : Nat) {s' : S} {s : S} (ht : e t = s) (h : SLe s s') (k : AOps cx ops rest (e.put (some t) s') σ Q) : AOps cx ops rest e σ Q := fun a w ⟨F, ρ, hr⟩ =>
 k a w ⟨F, ρ, hr.size, hr.defers, hr.lt, hr.base, hr.new, hr.below, hr.hB, fun u => by
  by_cases hu : u = t
  ·subst hu;rw [Env.put_same];have := hr.env u;rw [ht] at this;exact h F ρ w _ this
  ·rw [Env.put_other _ _ _ _ hu]
   exact hr.env u, hr.obs, hr.up, hr.kown, hr.fixed⟩
section
variable {P : Program} {B : Nat} {ops : Array Oper} {o : Oper} {e : Env} {σ : Obs}
theorem eqGuard_sl (op : BinOp) (t : TypeId) (x y : Operand) (a b : Option Addr) (n m c d : Nat) (w : World) : (eqGuard op t x y (.slice a n c) (.slice b m d)).run P w = .ok () w := by
 unfold eqGuard; cases op <;> rfl
theorem Yc6 {t el : TypeId} (w : World) (a : Option Addr) (n c : Nat) (ht : P.underlying t = some (.slice el)) : (binOp .eql t (.slice a n c) (.slice none 0 0)).run P w = .ok (.bool a.isNone) w := by
 unfold binOp;simp only [Sem.run_bind, run_equal_slice_nil w t el a n c ht, Result.andThen_ok];rfl
theorem AOp.eqNilV {t ty el : TypeId} {x y : Operand} {a : Option Addr} {n c : Nat} (ho : o.op = .binOp .eql t x y ty) (ht : P.underlying t = some (.slice el)) (hx : e.ev x = .d (.v (.slice a n c))) (hy : e.ev y = .d (.v (.slice none 0 0))) :
 AOp P B ops o e σ (.d (.v (.bool a.isNone))) := .bin ho hx hy fun w => by
 rw [Sem.run_bind, eqGuard_sl];exact Yc6 w a n c ht
theorem AOp.eqNilS {t ty el : TypeId} {x y : Operand} {els : List (List D)} (ho : o.op = .binOp .eql t x y ty) (ht : P.underlying t = some (.slice el)) (hx : e.ev x = .d (.sl els)) (hy : e.ev y = .d (.v (.slice none 0 0))) (hne : els ≠ []) :
 AOp P B ops o e σ (.d (.v (.bool false))) := .value fun F ρ w a hF hr _ => by
 have h1 := hr x (by rw [ho]; simp [Op.operands]);have h2 := hr y (by rw [ho]; simp [Op.operands]);rw [hx] at h1;rw [hy] at h2;refine ⟨.bool false, F, w, ?_, .d (.v _), Ext.refl hF⟩
 rcases YbY (Yag h1) with ⟨_, h5⟩ | ⟨ad, cap, size, vs, h5, _⟩
 ·exact absurd h5 hne
 ·unfold execOp;simp only [ho, h5, Yav h2]
  have h3 : (do eqGuard .eql t x y (.slice (some ad) els.length cap) (.slice none 0 0); binOp .eql t (.slice (some ad) els.length cap) (.slice none 0 0) : Sem Value).run P w = .ok (.bool false) w := by
   rw [Sem.run_bind, eqGuard_sl];exact Yc6 w _ _ _ ht
  rw [Sem.run_bind, h3];rfl
end
def RetO (t ee size : Nat) (els : List (List D)) : Post := fun ex e σ => match ex with
 | .ret => ∃ id, e t = .own id /\ (id, Ob.row ee size els) ∈ σ
 | .normal => ∃ id, e t = .own id /\ (id, Ob.row ee size els) ∈ σ
 | _ => False
theorem ocall_of {P : Program} {f : FuncId} {fn : Func} {c : Code} {n ee size : Nat} {ds : List D} {els : List (List D)} (hf : P.funcs[f]? = some fn) (hb : fn.body = some c) (hn : (fn.name == "runtime.NumGoroutine") = false) (hN : fn.ntmps = n)
 (t : Nat) (hr : fn.results = #[.tmp t]) (hle' : Nat.ble ds.length n = true) (h : ∀ B w0 F0 fr, AWP ⟨P, n, B, w0, F0, fr, fun _ => false, fun _ => undef⟩ c (Env.args 0 ds) [] (RetO t ee size els)) : OCall P f ds ee size els := by
 have hle : ds.length <= n := ZnB hle';refine ⟨Enters.of hf hn (by rw [hb]; rfl), fun F w vs hF hv => ?_⟩;refine calls_of_wp hf hb ?_
 have hR : R ⟨P, n, w.heap.size, w, F, (fun b => w.heap.size <= b), fun _ => false, fun _ => undef⟩ (Env.args 0 ds) [] { tmps := vs.toArray ++ Array.replicate (fn.ntmps - vs.toArray.size) undef, defers := [] } w := by
  refine ⟨F, fun _ => undef, ?_, rfl, hF, fun b hb => hb, fun b hb => .inl hb, Kept.refl _ _, ZnR _, fun t => ?_, ⟨fun p hp => by simp at hp, fun p hp => by simp at hp, fun p hp => by simp at hp⟩, fun b hb => hb, fun p hp => by simp at hp, fun i hi => by simp at hi⟩
  ·simp [hN, hv.1]; omega
  ·by_cases ht : t < ds.length
   ·have := Env.args_get ds 0 t ht;rw [Nat.zero_add] at this;rw [this];have hvt : t < vs.length := by rw [hv.1]; exact ht
    have : (vs.toArray ++ Array.replicate (fn.ntmps - vs.toArray.size) undef).getD t undef = vs[t] := by
     rw [ZaD, Array.getElem?_append_left (by simpa using hvt)];simp [hvt]
    rw [this];exact .d (hv.2 t hvt ht)
   ·have := Env.args_out ds 0 t (by omega);rw [Nat.zero_add] at this;rw [this];exact .d (.any _)
 refine wp_mono (h _ _ _ _ _ _ hR) ?_;rintro ex a w' ⟨e', σ', hq, F', ρ', hr'⟩
 have hres : (results fn a.tmps).run P w' = .ok (a.tmps.getD t undef) w' := by
  have key : ∀ (ts : List Nat), (List.mapM (fun r => match r with | .tmp t => pure (a.tmps.getD t undef) | .cell b t => do loadVar t (<- asAddr (a.tmps.getD b undef))) (ts.map ResultVar.tmp) : Sem (List Value)).run P w' = .ok (ts.map fun t => a.tmps.getD t undef) w' := by
   intro ts
   induction ts with
   | nil => rfl
   | cons t ts ih =>
    rw [List.map_cons, List.mapM_cons, Sem.run_bind];simp only [Sem.run_pure, Result.andThen_ok, Sem.run_bind, ih, List.map_cons]
  unfold results;rw [hr, Sem.run_bind]
  have h2 : (Array.mapM (fun r => match r with | ResultVar.tmp t => pure (a.tmps.getD t undef) | ResultVar.cell b t => do loadVar t (<- asAddr (a.tmps.getD b undef))) (([t] : List Nat).map ResultVar.tmp).toArray : Sem (Array Value)).run P w' = .ok (([t] : List Nat).map fun t => a.tmps.getD t undef).toArray w' := by
   rw [List.mapM_toArray, Sem.run_map, key];rfl
  refine (congrArg (fun r => Result.andThen r _) h2).trans ?_;simp only [Result.andThen_ok];rfl
 have hends : (∃ id, e' t = .own id /\ (id, Ob.row ee size els) ∈ σ') -> bodyPost P fn (fun r w' => ∃ v F', r = .returned v /\ Ext F w F' w' /\ ObOk w.heap.size F' (fun _ => v) w' 0 (.row ee size els)) .ret a w' := by
  rintro ⟨id, h1, h2⟩;have h3 := hr'.env t;rw [h1] at h3;have h4 : a.tmps.getD t undef = ρ' id := by generalize a.tmps.getD t undef = v at h3; cases h3; rfl
  refine ⟨hr'.defers, _, hres, _, F', J, ⟨hr'.base, fun b hb => (hr'.new b hb).imp (fun x => x) fun x => x, hr'.lt, ⟨hr'.below.os, hr'.below.tape, hr'.below.output, hr'.below.size, fun k hk => hr'.below.block k hk (fun hf => by have h5 : w.heap.size <= k := hf; omega)⟩⟩, obOk_base (hr'.obs.ok _ h2) (ZnR _) h4.symm⟩
 cases ex with
 | ret => exact hends hq
 | normal => exact hends hq
 | exit id => exact hq.elim
 | goto l => exact hq.elim
 | panic c => exact hq.elim
 | outgrown => exact hq.elim
theorem YcP {T : World -> Prop} {P : Program} {f : FuncId} {fn : Func} {c : Code} {n : Nat} {ds ds' : List D} (hf : P.funcs[f]? = some fn) (hb : fn.body = some c) (hn : (fn.name == "runtime.NumGoroutine") = false) (hN : fn.ntmps = n)
 (rs : List ResultVar) (hr : fn.results = rs.toArray) (hle' : Nat.ble ds.length n = true) (h : ∀ B w0 F0, T w0 -> AWP ⟨P, n, B, w0, F0, (fun b => w0.heap.size <= b), fun _ => false, fun _ => undef⟩ c (Env.args 0 ds) [] (RetQR P rs ds')) : ACallT P T f ds (retOf ds') := by
 have hle : ds.length <= n := ZnB hle';refine ⟨Enters.of hf hn (by rw [hb]; rfl), fun F w vs hT hF hv => ?_⟩;refine calls_of_wp hf hb ?_
 have hR : R ⟨P, n, w.heap.size, w, F, (fun b => w.heap.size <= b), fun _ => false, fun _ => undef⟩ (Env.args 0 ds) [] { tmps := vs.toArray ++ Array.replicate (fn.ntmps - vs.toArray.size) undef, defers := [] } w := by
  refine ⟨F, fun _ => undef, ?_, rfl, hF, fun b hb => hb, fun b hb => .inl hb, Kept.refl _ _, ZnR _, fun t => ?_, ⟨fun p hp => by simp at hp, fun p hp => by simp at hp, fun p hp => by simp at hp⟩, fun b hb => hb, fun p hp => by simp at hp, fun i hi => by simp at hi⟩
  ·simp [hN, hv.1]; omega
  ·by_cases ht : t < ds.length
   ·have := Env.args_get ds 0 t ht;rw [Nat.zero_add] at this;rw [this];have hvt : t < vs.length := by rw [hv.1]; exact ht
    have : (vs.toArray ++ Array.replicate (fn.ntmps - vs.toArray.size) undef).getD t undef = vs[t] := by
     rw [ZaD, Array.getElem?_append_left (by simpa using hvt)];simp [hvt]
    rw [this];exact .d (hv.2 t hvt ht)
   ·have := Env.args_out ds 0 t (by omega);rw [Nat.zero_add] at this;rw [this];exact .d (.any _)
 refine wp_mono (h _ _ _ hT _ _ hR) ?_;rintro ex a w' ⟨e', σ', hq, F', ρ', hr'⟩
 have hends : RetRs P e' σ' rs ds' -> bodyPost P fn (fun e w' => ∃ v F', e = .returned v /\ Rep F' w' v (retOf ds') /\ Ext F w F' w') .ret a w' := by
  intro hq;obtain ⟨vs', hrun, hl⟩ := RetRs.rep hr' hq
  have hres : (results fn a.tmps).run P w' = .ok (match vs' with | [x] => x | l => .tuple l.toArray) w' := by
   unfold results;rw [hr, Sem.run_bind]
   have h2 : (Array.mapM (fun r => match r with | ResultVar.tmp t => pure (a.tmps.getD t undef) | ResultVar.cell b t => do loadVar t (<- asAddr (a.tmps.getD b undef))) rs.toArray : Sem (Array Value)).run P w' = .ok vs'.toArray w' := by
    rw [List.mapM_toArray, Sem.run_map];have h4 : (List.mapM (fun r => match r with | ResultVar.tmp t => pure (a.tmps.getD t undef) | ResultVar.cell b t => do loadVar t (<- asAddr (a.tmps.getD b undef))) rs : Sem (List Value)).run P w' = .ok vs' w' := hrun;rw [h4];rfl
   refine (congrArg (fun r => Result.andThen r _) h2).trans ?_;simp only [Result.andThen_ok]
   rcases vs' with _ | ⟨t, _ | ⟨t2, ts⟩⟩ <;> rfl
  refine ⟨hr'.defers, _, hres, _, endF F' ρ' σ', J, ?_, endF_ext hr' (fun b hb => hb)⟩;obtain ⟨h1, h2⟩ := hl
  rcases ds' with _ | ⟨d, _ | ⟨d2, ds'⟩⟩
  ·have : vs' = [] := List.eq_nil_of_length_eq_zero h1;subst this;exact .tup [] [] rfl (fun i h1 => absurd h1 (by simp))
  ·rcases vs' with _ | ⟨x, _ | ⟨y, vs'⟩⟩ <;> simp at h1
   exact h2 0 (by simp) (by simp)
  ·rcases vs' with _ | ⟨x, _ | ⟨y, vs'⟩⟩
   ·simp at h1
   ·simp at h1
   ·exact .tup _ _ h1 h2
 cases ex with
 | ret => exact hends hq
 | normal => exact hends hq
 | exit id => exact hq.elim
 | goto l => exact hq.elim
 | panic c => exact hq.elim
 | outgrown => exact hq.elim
inductive Snap (σ : Obs) : S -> D -> Prop where
 | d (x : D) : Snap σ (.d x) x
 | any (s : S) : Snap σ s .any
 | le {s : S} {d d' : D} (h : Snap σ s d) (k : Le d d') : Snap σ s d'
 | row {id e size : Nat} {els : List (List D)} (h : (id, Ob.row e size els) ∈ σ) : Snap σ (.own id) (.sl els)
 | rowS {id e size : Nat} {els : List (List S)} {ds : List (List D)} (h : (id, Ob.rowS e size els) ∈ σ) (hl : els.length = ds.length) (hs : ∀ i (h1 : i < els.length) (h2 : i < ds.length), els[i].length = ds[i].length)
  (hr : ∀ i (h1 : i < els.length) (h2 : i < ds.length) j (h3 : j < els[i].length) (h4 : j < ds[i].length), Snap σ els[i][j] ds[i][j]) : Snap σ (.own id) (.sl ds)
 | val {id : Nat} {ss : List S} {ds : List D} (h : (id, Ob.val ss) ∈ σ) (hl : ss.length = ds.length) (hr : ∀ i (h1 : i < ss.length) (h2 : i < ds.length), Snap σ ss[i] ds[i]) : Snap σ (.own id) (.agg ds)
 | ptr {id off : Nat} {ss : List S} {ds : List D} (h : (id, Ob.cells ss) ∈ σ) (hl : off + ds.length <= ss.length) (hr : ∀ i (h1 : off + i < ss.length) (h2 : i < ds.length), Snap σ ss[off + i] ds[i]) : Snap σ (.ptr id off) (.fp ds)
 | ptrS {id e size k : Nat} {els : List (List S)} {ds : List D} (h : (id, Ob.rowS e size els) ∈ σ) (hk : k < els.length) (hl : els[k].length = ds.length) (hr : ∀ j (h1 : j < els[k].length) (h2 : j < ds.length), Snap σ els[k][j] ds[j]) : Snap σ (.ptr id (k * size)) (.fp ds)
 | clo {f : FuncId} {caps : List Cap} {ds : List D} (hl : caps.length = ds.length) (hr : ∀ i (h1 : i < caps.length) (h2 : i < ds.length), Snap σ caps[i].toS ds[i]) : Snap σ (.clo f caps) (.clo (.func f) ds)
theorem obS_row {B : Nat} {F : Nat -> Prop} {ρ : Nat -> Value} {w : World} {σ : Obs} (h : ObsOk B F ρ w σ) {id ee size : Nat} {els : List (List S)} (hm : (id, Ob.rowS ee size els) ∈ σ) (hne : 0 < els.length) :
 ∃ g cap, ∃ vs : Nat -> Nat -> Value, ρ id = .slice (some ⟨g, 0, none⟩) els.length cap /\ blk (ρ id) = some g /\ els.length <= cap /\ cap <= 9223372036854775807 /\ (∀ k j, k < els.length -> j < size -> w.cell? ⟨g, k * size + j, none⟩ = some (vs k j)) /\
  (∀ k (hk : k < els.length), els[k].length = size) /\ (∀ k (hk : k < els.length) j (hj : j < els[k].length), (vs k j).oneCell' = true /\ RepS F ρ w (vs k j) els[k][j]) := by
 obtain ⟨xs, h1, h2, h3, _⟩ := h.ok _ hm;dsimp only at h1
 rcases h1.2 with ⟨_, h4⟩ | ⟨g, cap, cur, h4, h5, h6, h7, h8, _⟩
 ·omega
 ·exact ⟨g, cap, xs, h4, by rw [h4]; rfl, h7, by unfold maxLen at h8; omega, fun k j hk hj => Yej h1 h4 h6 hk hj, h2, h3⟩
theorem Snap.rep {B : Nat} {F : Nat -> Prop} {ρ : Nat -> Value} {w : World} {σ : Obs} (hσ : ObsOk B F ρ w σ) {s : S} {d : D} (h : Snap σ s d) : ∀ x, RepS F ρ w x s -> Rep (endF F ρ σ) w x d := by
 induction h with
 | d y => exact fun x hx => (Yag hx).mono (fun b hb => .inl hb) fun _ _ => rfl
 | any s => exact fun x _ => .any x
 | le h k ih => exact fun x hx => k _ _ _ (ih x hx)
 | row hm =>
  intro x hx;cases hx
  exact ob_rep hσ hm
 | @rowS id e size els ds hm hl hs hr ih =>
  intro x hx;cases hx
  by_cases hne : 0 < els.length
  ·obtain ⟨g, cap, vs, h1, h2, h3, h4, h5, h6, h7⟩ := obS_row hσ hm hne;rw [h1, hl];refine .sl ⟨g, 0, none⟩ cap size ds vs (by omega) h4 (fun _ => .inr ⟨_, hm, h2⟩) (fun i hi => by rw [<- hs i (by omega) hi]; exact h6 i (by omega)) (fun i j hi hj => ?_) (fun i j hi hj => ?_) (fun i hi j hj => ?_)
   ·rw [YaN, Nat.zero_add]; exact h5 i j (by omega) hj
   ·exact (h7 i (by omega) j (by rw [h6 i (by omega)]; exact hj)).1
   ·exact ih i (by omega) hi j (by rw [hs i (by omega) hi]; exact hj) hj _ (h7 i (by omega) j (by rw [hs i (by omega) hi]; exact hj)).2
  ·obtain ⟨xs, h1, _⟩ := hσ.ok _ hm;dsimp only at h1;have h0 : els.length = 0 := by omega
   have hds : ds = [] := List.eq_nil_of_length_eq_zero (by omega);subst hds
   rcases h1.2 with ⟨h4, _⟩ | ⟨g, cap, cur, h4, h5, h6, h7, h8, _⟩
   ·rw [h4]; exact .nil
   ·rw [h4, h0]
    exact .sl ⟨g, 0, none⟩ cap size [] (fun _ _ => undef) (by simp) (by unfold maxLen at h8; omega) (fun h => absurd h (by simp)) (fun i hi => absurd hi (by simp)) (fun i j hi => absurd hi (by simp)) (fun i j hi => absurd hi (by simp)) (fun i hi => absurd hi (by simp))
 | @val id ss ds hm hl hr ih =>
  intro x hx;cases hx;obtain ⟨cs, h1, h2, h3⟩ := hσ.ok _ hm;dsimp only at h1;rw [h1]
  exact .agg cs ds (by omega) (fun i hi => (h3 i hi (by omega)).1) (fun i hi hi2 => ih i (by omega) hi2 _ (h3 i hi (by omega)).2)
 | @ptr id off ss ds hm hl hr ih =>
  intro x hx;obtain ⟨g, ty, cs, h1, h2, h3, h4, h5, h6⟩ := hσ.ok _ hm;dsimp only at h1;have hv := YbM hx (g := g) (by rw [h1]; rfl);rw [hv];refine .fp ⟨g, off, none⟩ ds (fun j => cs.getD (off + j) undef) (.inr ⟨_, hm, by rw [h1]; rfl⟩) (fun j hj => ?_) (fun j hj => ?_) (fun j hj => ?_)
  ·have hjc : off + j < cs.length := by omega
   rw [YaN, cell_of_row w g (off + j) cs.toArray ty (0, 0) h4];simp [hjc]
  ·have hjc : off + j < cs.length := by omega
   have := (h6 (off + j) hjc (by omega)).1;simpa [hjc] using this
  ·have hjc : off + j < cs.length := by omega
   have := ih j (by omega) hj _ (h6 (off + j) hjc (by omega)).2
   simpa [hjc] using this
 | @ptrS id e size k els ds hm hk hl hr ih =>
  intro x hx;obtain ⟨g, cap, vs, h1, h2, h3, h4, h5, h6, h7⟩ := obS_row hσ hm (by omega);have hv := YbM hx (g := g) h2;rw [hv];refine .fp ⟨g, k * size, none⟩ ds (fun j => vs k j) (.inr ⟨_, hm, h2⟩) (fun j hj => ?_) (fun j hj => ?_) (fun j hj => ?_)
  ·rw [YaN];exact h5 k j hk (by rw [<- h6 k hk]; omega)
  ·exact (h7 k hk j (by omega)).1
  ·exact ih j (by omega) hj _ (h7 k hk j (by omega)).2
 | @clo f caps ds hl hr ih =>
  intro x hx
  cases hx with
  | clo _ cs _ hcs =>
   have h1 := hcs.toS;have h2 : cs.length = caps.length := by simpa using h1.1
   refine .clo (.func f) cs ds (by omega) fun i hi hi2 => ih i (by omega) hi2 _ ?_
   have h3 := h1.2 i hi (by simp; omega);rw [ZgP] at h3;exact h3
inductive Plain : D -> Prop where
 | v (x : Value) : Plain (.v x)
 | any : Plain .any
 | agg (ds : List D) (h : ∀ d ∈ ds, Plain d) : Plain (.agg ds)
 | tup (ds : List D) (h : ∀ d ∈ ds, Plain d) : Plain (.tup ds)
section
variable {P : Program} {B : Nat} {ops : Array Oper} {o : Oper} {e : Env} {σ : Obs}
def S.weak : S -> D
 | .d x => x
 | _ => .any
def Ob.weak : Ob -> Ob
 | .rowS e size els => .row e size (els.map fun ss => ss.map S.weak)
 | o => o
def Obs.weak : Obs -> Obs
 | [] => []
 | p :: l => (p.1, p.2.weak) :: Obs.weak l
end
section
variable {cx : Cx} {ops : Array Oper} {o : Oper} {rest : List Oper} {e : Env} {σ : Obs} {Q : Post}
theorem AWP.obs {c : Code} {σ' : Obs} (h : ∀ p ∈ σ', p ∈ σ) (k : AWP cx c e σ' Q) : AWP cx c e σ Q := fun a w ⟨F, ρ, hr⟩ => k a w ⟨F, ρ, hr.size, hr.defers, hr.lt, hr.base, hr.new, hr.below, hr.hB, hr.env, hr.obs.sub h, hr.up, fun p hp => hr.kown p (h p hp), hr.fixed⟩
theorem AllIn.of {σ : Obs} : ∀ {l : Obs}, (∀ p ∈ l, p ∈ σ) -> AllIn σ l
 | [], _ => trivial
 | x :: l, h => ⟨h x (by simp), AllIn.of fun p hp => h p (List.mem_cons_of_mem _ hp)⟩
end
def OneS (σ : Obs) (s : S) : Prop := (∃ x : D, s = .d x /\ x.one = true /\ x.parts = [x]) \/ ∃ i ee size els, s = .own i /\ (i, Ob.row ee size els) ∈ σ
theorem OneS.d {σ : Obs} {x : D} (h1 : x.one = true) (h2 : x.parts = [x]) : OneS σ (.d x) := .inl ⟨x, rfl, h1, h2⟩
theorem OneS.own {σ : Obs} {i ee size : Nat} {els : List (List D)} (h : (i, Ob.row ee size els) ∈ σ) : OneS σ (.own i) := .inr ⟨i, ee, size, els, rfl, h⟩
theorem OneS.cell {σ : Obs} {s : S} (h : OneS σ s) {B : Nat} {F : Nat -> Prop} {ρ : Nat -> Value} {w : World} (hσ : ObsOk B F ρ w σ) {u : Value} (hu : RepS F ρ w u s) : ∃ c, u.cells = #[c] /\ c.oneCell' = true /\ RepS F ρ w c s := by
 rcases h with ⟨x, rfl, h1, h2⟩ | ⟨i, ee, size, els, rfl, hm⟩
 ·obtain ⟨h3, h4⟩ := Yb0 (Yag hu) h1;have hl := h3.1;rw [h2] at hl;have hs : u.cells.size = 1 := by simpa using hl
  obtain ⟨c, hc⟩ : ∃ c, u.cells = #[c] := by
   have : u.cells.toList.length = 1 := by simpa using hl
   obtain ⟨c, hc⟩ := List.length_eq_one_iff.1 this;exact ⟨c, by rw [<- Array.toList_inj]; exact hc⟩
  refine ⟨c, hc, h4 c (by rw [hc]; simp), .d ?_⟩;have := h3.2 0 (by rw [hc]; simp) (by rw [h2]; simp);simp only [hc, h2] at this;simpa using this
 ·obtain ⟨xs, hown, _⟩ := hσ.ok _ hm;dsimp only at hown;have hv : u = ρ i := by cases hu; rfl
  refine ⟨ρ i, ?_, ?_, .own i⟩
  ·rw [hv]; rcases hown.2 with ⟨h3, _⟩ | ⟨g', cap, cur, h3, _⟩ <;> rw [h3] <;> rfl
  ·rcases hown.2 with ⟨h3, _⟩ | ⟨g', cap, cur, h3, _⟩ <;> rw [h3] <;> rfl
section
variable {cx : Cx} {ops : Array Oper} {o : Oper} {rest : List Oper} {e : Env} {σ : Obs} {Q : Post}
theorem R0.reOb {F : Nat -> Prop} {ρ : Nat -> Value} {a : Act} {w : World} (h : R0 cx F ρ e σ a w) {id : Nat} {o o' : Ob} (hm : (id, o) ∈ σ) (ho : ObOk cx.B F ρ w id o') : R0 cx F ρ e (Obs.upd id o' σ) a w := by
 refine ⟨h.size, h.defers, h.lt, h.base, h.new, h.below, h.hB, h.env, ⟨fun p hp => ?_, fun p hp q hq hne => ?_, fun p hp q hq he => ?_⟩, h.up, fun p hp => ?_, h.fixed⟩
 ·rcases Obs.mem_upd hp with ⟨rfl, _⟩ | ⟨h1, _⟩
  ·exact ho
  ·exact h.obs.ok p h1
 ·rcases Obs.mem_upd hp with ⟨rfl, _⟩ | ⟨h1, _⟩
  ·rcases Obs.mem_upd hq with ⟨rfl, _⟩ | ⟨h2, _⟩
   ·exact absurd J hne
   ·exact h.obs.apart (id, o) hm q h2 hne
  ·rcases Obs.mem_upd hq with ⟨rfl, _⟩ | ⟨h2, _⟩
   ·exact h.obs.apart p h1 (id, o) hm hne
   ·exact h.obs.apart p h1 q h2 hne
 ·rcases Obs.mem_upd hp with ⟨rfl, _⟩ | ⟨h1, h3⟩
  ·rcases Obs.mem_upd hq with ⟨rfl, _⟩ | ⟨h2, h4⟩
   ·rfl
   ·exact absurd he.symm h4
  ·rcases Obs.mem_upd hq with ⟨rfl, _⟩ | ⟨h2, _⟩
   ·exact absurd he h3
   ·exact h.obs.uniq p h1 q h2 he
 ·rcases Obs.mem_upd hp with ⟨rfl, _⟩ | ⟨h1, _⟩
  ·exact h.kown (id, o) hm
  ·exact h.kown p h1
theorem AOps.loadVal {t dst : Nat} {x : Operand} {cid off size : Nat} {ss : List S} (id : Nat) (hg : o.guard = none) (ht : o.dst = some dst) (hdn : Nat.blt dst cx.N = true) (ho : o.op = .load t x) (hT : AggT cx.P t size) (hx : e.ev x = .ptr cid off) (hm : (cid, Ob.cells ss) ∈ σ) (hl : off + size <= ss.length) (hid : Obs.fresh id σ = true)
 (k : AOps cx ops rest ((e.kill id).put (some dst) (.own id)) ((id, .val (((ss.drop off).take size).map (S.kill id))) :: Obs.kill id σ) Q) (hfx : cx.free id = true := by rfl) : AOps cx ops (o :: rest) e σ Q := by
 intro a w ⟨F, ρ, hr⟩;have h1 := Ya1 (e := e) (x := x) (a := a) (fun t _ => hr.env t);rw [hx] at h1;obtain ⟨g, ty, cs, h2, h3, h4, h5, h6, h7⟩ := hr.obs.ok _ hm;dsimp only at h2;have hv := YbM h1 (g := g) (by rw [h2]; rfl);have hl2 : ((cs.drop off).take size).length = size := by rw [ZlT, ZlD]; omega
 have hcells : (loadCells ⟨g, off, none⟩ ((cs.drop off).take size).length).run cx.P w = .ok ((cs.drop off).take size).toArray w := run_loadCells_list w _ _ (fun j v hj => by
  have hlt := (ZgS.1 hj).1;rw [hl2] at hlt;rw [YaN, cell_of_row w g (off + j) cs.toArray ty (0, 0) h5, <- hj]
  simp [hlt])
 rw [hl2] at hcells;refine wpList_plain hg fun K hK => ?_
 unfold Oper.wp execOp;simp only [ho, hv, Instr.loadAt, Instr.sureAddr, loadVar, Sem.run_bind, Sem.run_pure, Result.andThen_ok, hT.agg w, hT.size w, if_true, hcells]
 obtain ⟨ρ', h8⟩ := hr.newObF (id := id) (dst := dst) (ob := .val (((ss.drop off).take size).map (S.kill id))) (v := .agg ((cs.drop off).take size).toArray) (Obs.fresh_spec hid) (by simpa [Nat.blt_eq] using hdn) (Ext.refl hr.lt) (by
  refine ⟨(cs.drop off).take size, by simp, by rw [hl2, ZlM, ZlT, ZlD]; omega, fun j hj hj' => ?_⟩;have hj1 : j < size := by rw [hl2] at hj; exact hj
  simp only [ZgP, List.getElem_take, List.getElem_drop]
  exact ⟨(h7 (off + j) (by omega) (by omega)).1, (h7 (off + j) (by omega) (by omega)).2.kill id (fun i hi => by simp [hi])⟩) (fun g hg => by simp [blk] at hg) hfx
 have := k _ _ ⟨F, ρ', h8⟩;rw [<- ht] at this;exact hK _ _ this
end
def fam (e size : Nat) : Nat -> List (List (List D)) -> Obs
 | _, [] => []
 | b, x :: l => (b, .row e size x) :: fam e size (b + 1) l
theorem fam_get {e size : Nat} : ∀ {b : Nat} {l : List (List (List D))} {k : Nat} {x : List (List D)}, l[k]? = some x -> (b + k, Ob.row e size x) ∈ fam e size b l
 | b, y :: l, 0, x, h => by
  have : y = x := by simpa using h
  subst this
  exact .head _
 | b, y :: l, k + 1, x, h => by
  have := fam_get (e := e) (size := size) (b := b + 1) (l := l) (k := k) (x := x) (by simpa using h);rw [show b + 1 + k = b + (k + 1) by omega] at this;exact .tail _ this
theorem YfH {e size id : Nat} : ∀ {b : Nat} {l : List (List (List D))}, Obs.kill id (fam e size b l) = fam e size b l
 | _, [] => rfl
 | b, y :: l => by unfold fam Obs.kill; rw [YfH]; rfl
theorem Yd8 {e size id : Nat} {o : Ob} : ∀ {b : Nat} {l : List (List (List D))}, id < b -> Obs.upd id o (fam e size b l) = fam e size b l
 | _, [], _ => rfl
 | b, y :: l, h => by
  unfold fam Obs.upd;have : Nat.beq b id = false := by rw [Bool.eq_false_iff]; intro hh; have := Nat.eq_of_beq_eq_true hh; omega
  dsimp only;rw [this, Yd8 (by omega)]
theorem fam_upd {e size : Nat} {x : List (List D)} : ∀ {b : Nat} {l : List (List (List D))} {k : Nat}, k < l.length -> Obs.upd (b + k) (.row e size x) (fam e size b l) = fam e size b (l.set k x)
 | b, y :: l, 0, _ => by
  unfold fam Obs.upd;have : Nat.beq b (b + 0) = true := by simp
  dsimp only;rw [this];simp only [List.set_cons_zero, Nat.add_zero]
  rw [Yd8 (by omega)]
 | b, y :: l, k + 1, h => by
  unfold fam Obs.upd;have : Nat.beq b (b + (k + 1)) = false := by rw [Bool.eq_false_iff]; intro hh; have := Nat.eq_of_beq_eq_true hh; omega
  dsimp only;rw [this];simp only [List.set_cons_succ];have h2 := fam_upd (e := e) (size := size) (x := x) (b := b + 1) (l := l) (k := k) (by simpa using h);rw [show b + 1 + k = b + (k + 1) by omega] at h2;rw [h2]
theorem fam_fresh {e size id : Nat} : ∀ {b : Nat} {l : List (List (List D))}, id < b -> Obs.fresh id (fam e size b l) = true
 | _, [], _ => rfl
 | b, y :: l, h => by
  unfold fam Obs.fresh;have h2 := fam_fresh (e := e) (size := size) (id := id) (b := b + 1) (l := l) (by omega);have : Nat.beq b id = false := by rw [Bool.eq_false_iff]; intro hh; have := Nat.eq_of_beq_eq_true hh; omega
  simp [h2, this]
end
section
open Go.RowKit Go.Shelf
theorem Yeg (g : Nat) : ∀ (vs : List Value) (o : Nat) (w : World), Turn w (w.setCells g o vs) (some g)
 | [], _, _ => ⟨rfl, rfl, rfl, ZnR _, fun _ _ _ => rfl⟩
 | v :: vs, o, w => (Ye4 w g o v).trans (Yeg g vs (o + 1) _)
theorem Yeh {g : Nat} {e : TypeId} : ∀ (vs : List Value) (o : Nat) (w : World) (cur : List Value), w.heap[g]? = some (.cells cur.toArray e (0, 0)) -> o + vs.length <= cur.length ->
 (w.setCells g o vs).heap[g]? = some (.cells (cur.take o ++ vs ++ cur.drop (o + vs.length)).toArray e (0, 0))
 | [], o, w, cur, h, _ => by simpa [World.setCells] using h
 | v :: vs, o, w, cur, h, hl => by
  simp only [List.length_cons] at hl
  have hset : (w.setCell ⟨g, o, none⟩ v).heap[g]? = some (.cells (cur.set o v).toArray e (0, 0)) := by
   unfold World.setCell;simp [Array.getElem?_modify, h]
  rw [World.setCells, Yeh vs (o + 1) _ _ hset (by simp; omega)];congr 3;have hn : o < cur.length := by omega
  apply List.ext_getElem?;intro k;rw [get3, get3];simp only [ZlT, List.length_set, List.length_cons, Nat.min_eq_left (show o + 1 <= cur.length by omega), Nat.min_eq_left (show o <= cur.length by omega)]
  by_cases k1 : k < o
  ·rw [if_pos (by omega), if_pos k1, ZgT, ZgT, if_pos (by omega), if_pos k1, List.getElem?_set, if_neg (by omega)]
  ·by_cases k2 : k = o
   ·subst k2;rw [if_pos (by omega), if_neg (by omega), if_pos (by omega), ZgT, if_pos (by omega), List.getElem?_set, if_pos rfl, if_pos hn, Nat.sub_self];rfl
   ·rw [if_neg (show ¬ k < o + 1 by omega), if_neg k1]
    by_cases k3 : k < o + 1 + vs.length
    ·rw [if_pos k3, if_pos (by omega), show k - o = (k - (o + 1)) + 1 by omega, List.getElem?_cons_succ]
    ·rw [if_neg k3, if_neg (by omega), ZgO, ZgO, List.getElem?_set, if_neg (by omega)];congr 1;omega
end
section
open Go.RowKit
def Region.chain1B (ops : Array Oper) (b k : Nat) : Bool := Region.downB ops && Nat.ble k ops.size && Nat.ble b k && (List.range (ops.size - 1)).all fun j =>
 Nat.blt j b || (List.range ops.size).any fun m => Nat.blt j m && (Nat.ble m k || Nat.ble m (j + 1)) && Region.edge ops m j
structure Chain1 (ops : Array Oper) (b k : Nat) : Prop where
 down : Region.downB ops = true
 le : k <= ops.size
 bk : b <= k
 next : ∀ j, b <= j -> j < ops.size - 1 -> ∃ m, j < m /\ (m <= k \/ m <= j + 1) /\ Region.edge ops m j = true
theorem Chain1.of {ops : Array Oper} {b k : Nat} (h : Region.chain1B ops b k = true) : Chain1 ops b k := by
 unfold Region.chain1B at h;simp only [ZbA] at h;obtain ⟨⟨⟨h1, h2⟩, h5⟩, h3⟩ := h;refine ⟨h1, ZnB h2, ZnB h5, fun j hb hj => ?_⟩;have h4 := List.all_eq_true.1 h3 j (List.mem_range.2 hj);rw [Bool.or_eq_true] at h4
 rcases h4 with h4 | h4
 ·rw [Nat.blt_eq] at h4; omega
 ·obtain ⟨m, _, hm⟩ := List.any_eq_true.1 h4;simp only [ZbA, Bool.or_eq_true, Nat.blt_eq] at hm;exact ⟨m, hm.1.1, hm.1.2.imp ZnB ZnB, hm.2⟩
section
variable {P : Program} {ops : Array Oper} {Q Q0 : Exit -> Act -> World -> Prop} {b k : Nat}
end
theorem put_swap (a : Act) (x y : Option Nat) (u v : Value) (h : ∀ t, x = some t -> y ≠ some t) : (a.put x u).put y v = (a.put y v).put x u := by
 cases x with
 | none => rfl
 | some i =>
  cases y with
  | none => rfl
  | some j =>
   have hne : i ≠ j := fun he => h i rfl (by rw [he])
   simp only [Act.put];rw [Array.setIfInBounds_comm _ _ hne]
theorem Ycx (a : Act) (dst : Option Nat) (u : Value) (y : Operand) (h : ∀ t, y = .tmp t -> dst ≠ some t) : (a.put dst u).eval y = a.eval y := Act.eval_put fun d hd hyd => h d hyd hd
theorem wp_put {P : Program} {o : Oper} {ops : Array Oper} {a : Act} {w : World} {d : Nat} {v : Value} {K K' : Act -> World -> Prop} {Q : Exit -> Act -> World -> Prop} (hs : ∀ cs b, o.op ≠ .select cs b) (hl : d ∉ o.looksAt ops) (hd : o.dst ≠ some d) (hQ : ∀ e a w, e ≠ .normal -> ¬ Q e a w)
 (hK : ∀ a' w', (∀ y : Operand, (∀ t, y = .tmp t -> o.dst ≠ some t) -> a'.eval y = a.eval y) -> K (a'.put (some d) v) w' -> K' a' w') (h : o.wp P (a.put (some d) v) w K Q) : o.wp P a w K' Q := by
 unfold Oper.wp at *;rw [execOp_put (ops := ops) o hs a (some d) v (fun t ht => by cases ht; exact hl)] at h;have sw : ∀ (b : Act) (u : Value), (b.put (some d) v).put o.dst u = (b.put o.dst u).put (some d) v := fun b u => put_swap b (some d) o.dst v u (fun t ht he => by cases ht; exact hd he)
 have ev : ∀ (u : Value) (y : Operand), (∀ t, y = .tmp t -> o.dst ≠ some t) -> (a.put o.dst u).eval y = a.eval y := fun u y hy => Ycx a o.dst u y hy
 generalize (execOp a.eval o).run P w = r at *
 cases r with
 | ok n w' =>
  cases n with
  | value u => simp only [Oper.upon] at h ⊢; rw [sw] at h; exact hK _ _ (ev u) h
  | skip => simp only [Oper.upon] at h ⊢; rw [sw] at h; exact hK _ _ (ev _) h
  | defer c =>
   simp only [Oper.upon] at h ⊢;refine hK _ _ (fun y hy => ?_) ?_
   ·rw [Ycx _ o.dst undef y hy];cases y <;> rfl
   ·rw [<- sw]; exact h
  | enter f args =>
   simp only [Oper.upon] at h ⊢;refine Calls.mono h fun e w'' he => ?_
   cases e with
   | returned u => simp only at he ⊢; rw [sw] at he; exact hK _ _ (ev u) he
   | panicked c => exact absurd he (hQ _ _ _ (by simp))
   | outgrown => obtain ⟨a1, w1, h1⟩ := he; exact absurd h1 (hQ _ _ _ (by simp))
  | row r args =>
   simp only [Oper.upon] at h ⊢
   exact Rows.mono h fun u w'' he => by rw [sw] at he; exact hK _ _ (ev u) he
  | _ => simp only [Oper.upon] at h
 | halt x w' =>
  cases x <;> simp only [Oper.upon] at h ⊢ <;> first | exact absurd h (hQ _ _ _ (by simp)) | exact h
def Ydl (o : Oper) : Bool := match o.op with | .select _ _ => false | _ => true
theorem YgF {o : Oper} (h : Ydl o = true) : ∀ cs b, o.op ≠ .select cs b := fun cs b he => by unfold Ydl at h; rw [he] at h; simp at h
end
section
open Go.RowKit Go.Shelf
def intC (n : Int) : List D := [.v (.int .i64 n)]
theorem ints_row {B : Nat} {F : Nat -> Prop} {ρ : Nat -> Value} {w : World} {id e : Nat} {l : List Int} (h : w.ownsRow B e 1 (ρ id) l.length (l.map (Value.int .i64))) (hn : ∀ g, blk (ρ id) = some g -> ¬ F g) : ObOk B F ρ w id (.row e 1 (l.map intC)) := by
 refine ⟨fun i _ => Value.int .i64 (l.getD i 0), ?_, fun i hi => by simp [intC], fun i hi j hj => ⟨rfl, ?_⟩, hn⟩
 ·have h5 : (((List.range (l.map intC).length).map fun i => (List.range 1).map (fun _ => Value.int .i64 (l.getD i 0))).flatten) = l.map (Value.int .i64) := by
   have h6 : ((List.range (l.map intC).length).map fun i => (List.range 1).map (fun _ => Value.int .i64 (l.getD i 0))) = l.map (fun n => [Value.int .i64 n]) := by
    apply List.ext_getElem
    ·simp
    ·intro i hi hi2;have hl : i < l.length := by simpa using hi2
     simp [List.range_succ, ZgD, hl]
   rw [h6];clear h6 h hn
   induction l with
   | nil => rfl
   | cons a l ih => simp [ih]
  rw [h5, ZlM];exact h
 ·have hl : i < l.length := by simpa using hi
  have hj0 : j = 0 := by simp [intC] at hj; exact hj
  subst hj0;simp only [ZgP, intC, List.getElem_cons_zero, ZgD, ZgE hl, Option.getD_some];exact .v _
section
variable {cx : Cx} {ops : Array Oper} {o : Oper} {rest : List Oper} {e : Env} {σ : Obs} {Q : Post}
end
section
variable {cx : Cx} {ops : Array Oper} {o : Oper} {rest : List Oper} {e : Env} {σ : Obs} {Q : Post}
end
def dstB (Φ : List Fr) (l : List Oper) : Bool := Φ.all fun f => (List.range l.length).all fun i => (List.range l.length).all fun j => Nat.beq i j || ((l[i]?).map fun o => YgG o f.dst).getD true || ((l[j]?).map fun o => YgG o f.dst).getD true
end
section
open Go.RowKit
def OneC (σ : Obs) (s : S) : Prop := OneS σ s \/ ∃ id off, s = .ptr id off
theorem OneC.cell {σ : Obs} {s : S} (h : OneC σ s) {B : Nat} {F : Nat -> Prop} {ρ : Nat -> Value} {w : World} (hσ : ObsOk B F ρ w σ) {u : Value} (hu : RepS F ρ w u s) : ∃ c, u.cells = #[c] /\ c.oneCell' = true /\ RepS F ρ w c s := by
 rcases h with h | ⟨id, off, rfl⟩
 ·exact h.cell hσ hu
 ·cases hu with
  | ptr _ _ g hg => exact ⟨_, rfl, rfl, .ptr id off g hg⟩
theorem R0.newCellsS {cx : Cx} {F : Nat -> Prop} {ρ : Nat -> Value} {e : Env} {σ : Obs} {a : Act} {w : World} (h : R0 cx F ρ e σ a w) {id dst : Nat} {ty : TypeId} {cs : List Value} {ss : List S} (hid : ∀ p ∈ σ, p.1 ≠ id) (hd : dst < cx.N) (hl : cs.length = ss.length) (hr : ∀ j (h1 : j < cs.length) (h2 : j < ss.length), cs[j].oneCell' = true /\ RepS F ρ w cs[j] ss[j]) (hfx : cx.free id = true) :
 ∃ ρ', R0 cx F ρ' ((e.kill id).put (some dst) (.ptr id 0)) ((id, .cells (ss.map (S.kill id))) :: Obs.kill id σ) (a.put (some dst) (.pointer (some ⟨w.heap.size, 0, none⟩))) (w.alloc (.cells cs.toArray ty)) := by
 refine ⟨fun j => if j = id then .pointer (some ⟨w.heap.size, 0, none⟩) else ρ j, ?_⟩;have hE : Ext F w F (w.alloc (.cells cs.toArray ty)) := Ext.of_below h.lt ((Below.refl _ _).alloc (ZnR _) _)
 have h2 := h.turn (ρ' := fun j => if j = id then .pointer (some ⟨w.heap.size, 0, none⟩) else ρ j) (id := id) (ob := .cells (ss.map (S.kill id))) (row := none) (w' := w.alloc (.cells cs.toArray ty)) (F' := F) (fun j hj => by simp [hj])
  ⟨hE.below.os, hE.below.tape, hE.below.output, hE.below.size, fun k hk _ => hE.below.block k hk⟩ hfx (fun g hg => by simp at hg) (fun b hb => hb) (fun b hb => .inl hb) hE.lt
  ⟨w.heap.size, ty, cs, by simp, h.hB, fun hf => by have := h.lt _ hf; omega, by simpa using heap_alloc_new w _, by simpa using hl, fun j hj hj' => by
   rw [ZgP];have hj2 : j < ss.length := by simpa using hj'
   exact ⟨(hr j hj hj2).1, ((hr j hj hj2).2.ext h.lt hE).kill id (fun i hi => by simp [hi])⟩⟩
  (fun g hg => by simp [blk] at hg; exact .inr (by omega)) ((id, .cells (ss.map (S.kill id))) :: Obs.kill id σ) (fun p hp => by
   cases hp with
   | head => exact .inl rfl
   | tail _ hp => obtain ⟨q, hq, rfl⟩ := Obs.mem_kill hp; exact .inr ⟨q, hq, hid q hq, rfl⟩)
 have h3 := h2.put (o := ⟨some dst, .ready 0, 0, "", #[], none⟩) (v := .pointer (some ⟨w.heap.size, 0, none⟩)) (s := .ptr id 0) (Ext.refl h2.lt) (.ptr id 0 w.heap.size (by simp [blk])) (by simpa [DstOk, Nat.blt_eq] using hd);exact h3
section
variable {cx : Cx} {ops : Array Oper} {o : Oper} {rest : List Oper} {e : Env} {σ : Obs} {Q : Post}
theorem val_at {B : Nat} {F : Nat -> Prop} {ρ : Nat -> Value} {w : World} {vid : Nat} {ss : List S} {v : Value} (hσ : ObsOk B F ρ w σ) (hm : (vid, Ob.val ss) ∈ σ) (h : RepS F ρ w v (.own vid)) : ∃ cs : List Value, v = .agg cs.toArray /\ cs.length = ss.length /\ ∀ j (h1 : j < cs.length) (h2 : j < ss.length), cs[j].oneCell' = true /\ RepS F ρ w cs[j] ss[j] := by
 obtain ⟨cs, h1, h2, h3⟩ := hσ.ok _ hm;dsimp only at h1;refine ⟨cs, ?_, h2, h3⟩;cases h;exact h1
theorem AOps.boxVal {t dst vid : Nat} {x : Operand} {ss : List S} (id : Nat) (hg : o.guard = none) (ht : o.dst = some dst) (hdn : Nat.blt dst cx.N = true) (ho : o.op = .box t x) (hx : e.ev x = .own vid) (hm : (vid, Ob.val ss) ∈ σ) (hid : Obs.fresh id σ = true)
 (k : AOps cx ops rest ((e.kill id).put (some dst) (.ptr id 0)) ((id, .cells (ss.map (S.kill id))) :: Obs.kill id σ) Q) (hfx : cx.free id = true := by rfl) : AOps cx ops (o :: rest) e σ Q := by
 intro a w ⟨F, ρ, hr⟩;have h2 := Ya1 (e := e) (x := x) (a := a) (fun t _ => hr.env t);rw [hx] at h2;obtain ⟨cs, hv, hl, hc⟩ := val_at hr.obs hm h2;obtain ⟨ρ', h5⟩ := hr.newCellsS (ty := t) (Obs.fresh_spec hid) (by simpa [Nat.blt_eq] using hdn) hl hc hfx;refine wpList_plain hg fun K hK => ?_
 unfold Oper.wp execOp;simp only [ho, Instr.box, newVar, newRow, hv, Value.cells];have := k _ _ ⟨F, ρ', h5⟩;rw [<- ht] at this;exact hK _ _ this
theorem set_mid {α : Type} (cs vs : List α) (off size j : Nat) (hv : vs.length = size) (hle : off + size <= cs.length) (hj : j < (cs.take off ++ vs ++ cs.drop (off + size)).length) : (cs.take off ++ vs ++ cs.drop (off + size))[j] = if h : off <= j /\ j < off + size then vs[j - off]'(by omega) else cs[j]'(by simp at hj; omega) := by
 by_cases j1 : j < off
 ·rw [dif_neg (by omega), ZgL (by simp; omega), ZgL (by simp; omega), List.getElem_take]
 ·by_cases j2 : j < off + size
  ·rw [dif_pos ⟨by omega, j2⟩, ZgL (by simp; omega), ZgR (by simp; omega)];have e1 : (List.take off cs).length = off := by simp; omega
   simp only [e1]
  ·rw [dif_neg (by omega), ZgR (by simp; omega), List.getElem_drop];have e1 : (List.take off cs ++ vs).length = off + size := by simp; omega
   have e2 : off + size + (j - (off + size)) = j := by omega
   simp only [e1, e2]
theorem EOp.storeVal {t id off size vid : Nat} {x y : Operand} {ss ss' : List S} (ht : o.dst = none) (ho : o.op = .store t x y) (hs : ∀ w, (sizeOf t).run cx.P w = .ok size w) (hx : e.ev x = .ptr id off) (hm : (id, Ob.cells ss) ∈ σ) (hy : e.ev y = .own vid) (hmv : (vid, Ob.val ss') ∈ σ) (hl' : ss'.length = size)
 (hle : off + size <= ss.length) : EOp cx ops o e σ (Obs.upd id (.cells (ss.take off ++ ss' ++ ss.drop (off + size))) σ) := by
 intro F ρ a w e0 hr ha;have hop : ∀ y ∈ o.op.operands.toList, RepS F ρ w (a.eval y) (e.ev y) := fun y hy => Ya1 fun t ht => ha t (Ybo (by rw [<- ht]; exact hy))
 have r1 := hop x (by rw [ho]; simp [Op.operands]);have r2 := hop y (by rw [ho]; simp [Op.operands]);rw [hx] at r1;rw [hy] at r2;obtain ⟨cs, hv, hl, hc⟩ := val_at hr.obs hmv r2;obtain ⟨g, ty, cs0, hρ, hB, hF, hh, hcl, hcs⟩ := hr.obs.ok _ hm;dsimp only at hρ;have hxv := YbM r1 (g := g) (by rw [hρ]; rfl)
 have h4 : ∀ u ∈ (a.eval y).cells.toList, u.oneCell' = true := fun u hu => by
  rw [hv] at hu;simp only [Value.cells] at hu;obtain ⟨j, hj, rfl⟩ := List.getElem_of_mem hu;have hj' : j < cs.length := by simpa using hj
  simpa using (hc j hj' (by omega)).1
 have hsz : (a.eval y).cells.size = size := by rw [hv]; simp [Value.cells]; omega
 obtain ⟨w', h5, h6, h7⟩ := Ycf (P := cx.P) (off := off) hs hsz hh (by omega) h4;unfold Oper.wp execOp;simp only [ho, Instr.storeAt, hxv, Instr.sureAddr, Sem.run_bind, Sem.run_pure, Result.andThen_ok, h5];refine ⟨by rw [ht]; rfl, fun e2 hr2 => ⟨F, ρ, ?_⟩⟩;have hcl2 : (a.eval y).cells.toList = cs := by rw [hv]; simp [Value.cells]
 rw [hcl2] at h7;refine hr2.write hρ hm hB hF h6 h7 (by simp; omega) (fun j hj hj' => ?_);rw [set_mid cs0 cs off size j (by omega) (by omega) hj, set_mid ss ss' off size j hl' hle hj']
 by_cases hjj : off <= j /\ j < off + size
 ·rw [dif_pos hjj, dif_pos hjj];exact hc _ _ _
 ·rw [dif_neg hjj, dif_neg hjj];exact hcs _ _ _
end
def S.ren (i j : Nat) : S -> S
 | .own k => match Nat.beq k i with | true => .own j | false => match Nat.beq k j with | true => .d .any | false => .own k
 | .ptr k off => match Nat.beq k i with | true => .ptr j off | false => match Nat.beq k j with | true => .d .any | false => .ptr k off
 | .d x => .d x
 | .clo f caps => .d .any
def Ob.ren (i j : Nat) : Ob -> Ob
 | .row e size els => .row e size els
 | .cells ss => .cells (ss.map (S.ren i j))
 | .cellsT e ss => .cellsT e (ss.map (S.ren i j))
 | .map M => .map M
 | .rowS e size els => .rowS e size (els.map fun ss => ss.map (S.ren i j))
 | .bts l => .bts l
 | .raw p => .raw p
 | .mapS M => .mapS (M.map fun p => (p.1, p.2.ren i j))
 | .val ss => .val (ss.map (S.ren i j))
 | .iter M done => .iter M done
section
variable {cx : Cx} {ops : Array Oper} {rest : List Oper} {e : Env} {σ : Obs} {Q : Post}
end
theorem ArgOk.fn {e : Env} {x : Operand} {f : Fn} (h : e.ev x = .d (.v (.func f #[] #[]))) : ArgOk e x (.clo f []) := ⟨_, h, fun F w y hy => by
 rw [rep_v hy]
 exact .clo f [] [] rfl (fun i h1 => absurd h1 (by simp))⟩
def Yfh (P : Program) (f : FuncId) (ss : List S) (σ σ' : Obs) (chg : Nat -> Bool) (s : S) : Prop := Enters P f /\
 ∀ (F : Nat -> Prop) (ρ : Nat -> Value) (B : Nat) (w : World) (vs : List Value), (∀ b, F b -> b < w.heap.size) -> B <= w.heap.size -> ObsOk B F ρ w σ -> RepSL F ρ w vs ss ->
  Calls P f vs.toArray w fun e w' => ∃ v F' ρ', e = .returned v /\ RepS F' ρ' w' v s /\ XEnd B F ρ w σ F' ρ' w' σ' chg
theorem args_R {P : Program} {n : Nat} {ss : List S} {σ : Obs} {chg : Nat -> Bool} {F : Nat -> Prop} {ρ : Nat -> Value} {B : Nat} {w : World} {vs : List Value} {m : Nat} (hN : m = n) (hle : ss.length <= n) (hF : ∀ b, F b -> b < w.heap.size) (hB : B <= w.heap.size) (hσ : ObsOk B F ρ w σ) (hv : RepSL F ρ w vs ss) :
 R ⟨P, n, B, w, F, (fun b => w.heap.size <= b \/ ownB σ ρ b), fun i => !(chg i), ρ⟩ (Env.argsS 0 ss) σ { tmps := vs.toArray ++ Array.replicate (m - vs.toArray.size) undef, defers := [] } w := by
 refine ⟨F, ρ, ?_, J, hF, fun b hb => hb, fun b hb => .inl hb, Kept.refl _ _, hB, fun t => ?_, hσ, fun b hb => .inl hb, fun p hp g hg => .inr ⟨p, hp, hg⟩, fun i _ => J⟩
 ·simp [hN, hv.1]; omega
 ·by_cases ht : t < ss.length
  ·have := Env.argsS_get ss 0 t ht;rw [Nat.zero_add] at this;rw [this];have hvt : t < vs.length := by rw [hv.1]; exact ht
   have : (vs.toArray ++ Array.replicate (m - vs.toArray.size) undef).getD t undef = vs[t] := by
    rw [ZaD, Array.getElem?_append_left (by simpa using hvt)];simp [hvt]
   rw [this];exact hv.2 t hvt ht
  ·have := Env.argsS_out ss 0 t (by omega);rw [Nat.zero_add] at this;rw [this];exact .d (.any _)
theorem res_cell {cx : Cx} {F : Nat -> Prop} {ρ : Nat -> Value} {e : Env} {σ : Obs} {a : Act} {w : World} {fn : Func} {b t size cid : Nat} {ss : List S} (h : R0 cx F ρ e σ a w) (hr : fn.results = #[.cell b t]) (hT : AggT cx.P t size) (he : e b = .ptr cid 0) (hm : (cid, Ob.cells ss) ∈ σ) (hl : ss.length = size) :
 ∃ cs : List Value, (results fn a.tmps).run cx.P w = .ok (.agg cs.toArray) w /\ cs.length = ss.length /\ ∀ j (h1 : j < cs.length) (h2 : j < ss.length), cs[j].oneCell' = true /\ RepS F ρ w cs[j] ss[j] := by
 obtain ⟨g, ty, cs, k1, k2, k3, k4, k5, k6⟩ := h.obs.ok _ hm;dsimp only at k1
 have hv : a.tmps.getD b undef = .pointer (some ⟨g, 0, none⟩) := by
  have := h.env b;rw [he] at this;exact YbM this (by rw [k1]; rfl)
 have hcells : (loadCells ⟨g, 0, none⟩ cs.length).run cx.P w = .ok cs.toArray w := run_loadCells_list w _ cs (fun j v hj => by
  rw [YaN, cell_of_row w g (0 + j) cs.toArray ty (0, 0) k4]
  simpa using hj)
 have hn : cs.length = size := by omega
 rw [hn] at hcells;refine ⟨cs, ?_, k5, k6⟩
 have h1 : (List.mapM (YfZ a.tmps) [ResultVar.cell b t] : Sem (List Value)).run cx.P w = .ok [.agg cs.toArray] w := by
  rw [List.mapM_cons, Sem.run_bind]
  have h2 : (YfZ a.tmps (.cell b t)).run cx.P w = .ok (.agg cs.toArray) w := by
   simp only [YfZ, hv, asAddr, Sem.run_bind, Sem.run_pure, Result.andThen_ok, loadVar, hT.agg w, if_true, hT.size w, hcells]
  rw [h2];rfl
 unfold results;rw [hr, Sem.run_bind]
 have h2 : (Array.mapM (fun r => match r with | ResultVar.tmp t => pure (a.tmps.getD t undef) | ResultVar.cell b t => do loadVar t (<- asAddr (a.tmps.getD b undef))) [ResultVar.cell b t].toArray : Sem (Array Value)).run cx.P w = .ok [Value.agg cs.toArray].toArray w := by
  rw [List.mapM_toArray, Sem.run_map];have h4 : (List.mapM (fun r => match r with | ResultVar.tmp t => pure (a.tmps.getD t undef) | ResultVar.cell b t => do loadVar t (<- asAddr (a.tmps.getD b undef))) [ResultVar.cell b t] : Sem (List Value)).run cx.P w = .ok [.agg cs.toArray] w := h1;rw [h4];rfl
 exact (congrArg (fun r => Result.andThen r _) h2).trans J
def RetXC (b : Nat) (ds : List D) (σ' : Obs) : Post := fun ex e σ => match ex with
 | .ret => (∃ cid, e b = .ptr cid 0 /\ (cid, Ob.cells (ds.map S.d)) ∈ σ) /\ AllIn σ σ'
 | .normal => (∃ cid, e b = .ptr cid 0 /\ (cid, Ob.cells (ds.map S.d)) ∈ σ) /\ AllIn σ σ'
 | _ => False
def RetXV (b vid : Nat) (ss' : List S) (σr : Obs) : Post := fun ex e σ => match ex with
 | .ret => (∃ cid ssr, e b = .ptr cid 0 /\ (cid, Ob.cells ssr) ∈ σ /\ ssr.map (S.kill vid) = ss' /\ Obs.fresh vid σr = true /\ Obs.kill vid σr = σr) /\ AllIn σ σr
 | .normal => (∃ cid ssr, e b = .ptr cid 0 /\ (cid, Ob.cells ssr) ∈ σ /\ ssr.map (S.kill vid) = ss' /\ Obs.fresh vid σr = true /\ Obs.kill vid σr = σr) /\ AllIn σ σr
 | _ => False
theorem xval_of {P : Program} {f : FuncId} {fn : Func} {c : Code} {n b t size vid : Nat} {ss ss' : List S} {σ σr : Obs} {chg : Nat -> Bool} (hf : P.funcs[f]? = some fn) (hb : fn.body = some c) (hn : (fn.name == "runtime.NumGoroutine") = false) (hN : fn.ntmps = n)
 (hr : fn.results = #[.cell b t]) (hT : AggT P t size) (hl : ss'.length = size) (hle' : Nat.ble ss.length n = true) (hvid : chg vid = true)
 (h : ∀ B w0 F0 fr ρ0, AWP ⟨P, n, B, w0, F0, fr, fun i => !(chg i), ρ0⟩ c (Env.argsS 0 ss) σ (RetXV b vid ss' σr)) : Yfh P f ss σ ((vid, .val ss') :: σr) chg (.own vid) := by
 have hle : ss.length <= n := ZnB hle';refine ⟨Enters.of hf hn (by rw [hb]; rfl), fun F ρ B w vs hF hB hσ hv => ?_⟩;refine calls_of_wp hf hb ?_;refine wp_mono (h _ _ _ _ _ _ _ (args_R hN hle hF hB hσ hv)) ?_;rintro ex a w' ⟨e', σe, hq, F', ρ', hr'⟩
 have hends : (∃ cid ssr, e' b = .ptr cid 0 /\ (cid, Ob.cells ssr) ∈ σe /\ ssr.map (S.kill vid) = ss' /\ Obs.fresh vid σr = true /\ Obs.kill vid σr = σr) /\ AllIn σe σr ->
  bodyPost P fn (fun e w' => ∃ v F' ρ', e = .returned v /\ RepS F' ρ' w' v (.own vid) /\ XEnd B F ρ w σ F' ρ' w' ((vid, .val ss') :: σr) chg) .ret a w' := by
  rintro ⟨⟨cid, ssr, h1, h2, h3, h4, h5⟩, hin⟩;have hin := hin.mem;have hls : ssr.length = size := by rw [<- hl, <- h3]; simp
  obtain ⟨cs, k1, k2, k3⟩ := res_cell hr' hr hT h1 h2 hls
  have hT := hr'.turn (ρ' := fun j => if j = vid then .agg cs.toArray else ρ' j) (id := vid) (ob := .val ss') (row := none) (w' := w') (F' := F') (fun j hj => by simp [hj])
   ⟨rfl, rfl, rfl, ZnR _, fun _ _ _ => rfl⟩ (by unfold Cx.free; dsimp only; rw [hvid]; rfl) (fun g hg => by simp at hg) (fun b hb => hb) (fun b hb => .inl hb) hr'.lt
   ⟨cs, by simp, by rw [<- h3]; simpa using k2, fun j hj hj' => by
    subst h3;rw [ZgP];have hj2 : j < ssr.length := by simpa using hj'
    exact ⟨(k3 j hj hj2).1, (k3 j hj hj2).2.kill vid (fun i hi => by simp [hi])⟩⟩ (fun g hg => by simp [blk] at hg) ((vid, .val ss') :: σr) (fun p hp => by
    rcases List.mem_cons.1 hp with rfl | hp
    ·exact .inl J
    ·rw [<- h5] at hp;obtain ⟨q, hq, rfl⟩ := Obs.mem_kill hp
     exact .inr ⟨q, hin q hq, Obs.fresh_spec h4 q hq, J⟩)
  refine ⟨hr'.defers, _, k1, _, F', _, rfl, ?_, hT.base, hT.new, hT.lt, hT.below, hT.obs, hT.kown, fun i hi => hT.fixed i (by show (!(chg i)) = true; rw [hi]; rfl)⟩;have := RepS.own (F := F') (ρ := fun j => if j = vid then Value.agg cs.toArray else ρ' j) (w := w') vid;simpa using this
 cases ex with
 | ret => exact hends hq
 | normal => exact hends hq
 | exit id => exact hq.elim
 | goto l => exact hq.elim
 | panic c => exact hq.elim
 | outgrown => exact hq.elim
section
variable {cx : Cx} {ops : Array Oper} {o : Oper} {rest : List Oper} {e : Env} {σ : Obs} {Q : Post}
theorem AOps.callXS {f : FuncId} {xs : List Operand} {ts : Array TypeId} {ss : List S} {σc σ' : Obs} {chg : Nat -> Bool} {s : S} (hg : o.guard = none) (hd : DstOk cx.N o)
 (ho : o.op = .call { callee := .value (.func f), args := xs.toArray, argTypes := ts }) (ha : ArgsS e xs ss) (h : Yfh cx.P f ss σc σ' chg s) (hin : AllIn σ σc)
 (h1 : Obs.allIds (fun i => !(chg i)) (Obs.dels σc σ) = true) (h2 : Obs.allIds (fun i => Obs.allIds (fun j => !(Nat.beq i j)) (Obs.dels σc σ)) σ' = true) (h3 : ∀ i, chg i = true -> cx.fixp i = false)
 (k : AOps cx ops rest ((e.killP chg).put o.dst s) (Obs.join σ' (Obs.killP chg (Obs.dels σc σ))) Q) : AOps cx ops (o :: rest) e σ Q := by
 intro a w ⟨F, ρ, hr⟩;have h4 := h.2 F ρ cx.B w _ hr.lt hr.hB (hr.obs.sub hin.mem) (ArgsS.rep hr.env ha);have h5 := h.1 (xs.map a.eval).toArray w
 have hx : (execOp a.eval o).run cx.P w = .ok (.enter f (xs.map a.eval).toArray) w := by
  unfold execOp;simp only [ho, resolve, Deferred.ofValue, Act.eval, invoke, Sem.run_bind, Sem.run_pure, Result.andThen_ok];simpa using h5
 refine wpList_plain hg fun K hK => ?_
 unfold Oper.wp;rw [hx];refine h4.mono fun _ w' ⟨v, F', ρ', he, hv, hE⟩ => ?_
 subst he;exact hK _ _ (k _ _ ⟨F', ρ', (hr.after hin.mem hE h1 h2 h3).put (Ext.refl hE.lt) hv hd⟩)
end
section
variable {cx : Cx} {ops : Array Oper} {o : Oper} {rest : List Oper} {e : Env} {σ : Obs} {sl ef : Nat -> Bool} {I : Obs -> Prop} {n : Nat} {l : List Oper} {Q : Env -> Obs -> Prop}
end
def PureOp (P : Program) (o : Oper) (x : Operand) : Prop := ∀ u : Value, (∃ v, ∀ (a : Act) (w : World), a.eval x = u -> (execOp a.eval o).run P w = .ok (.value v) w) \/
 (∀ (a : Act) (w : World) (K : Act -> World -> Prop) (Q : Exit -> Act -> World -> Prop), (∀ e a w, e ≠ .normal -> ¬ Q e a w) -> a.eval x = u -> ¬ o.wp P a w K Q)
theorem PureOp.move {P : Program} {o : Oper} {x : Operand} (h : o.op = .move x) : PureOp P o x := fun u => .inl ⟨u, fun a w hx => by
 unfold execOp
 simp only [h, hx, Sem.run_pure]⟩
theorem PureOp.extract {P : Program} {o : Oper} {x : Operand} {i : Nat} (h : o.op = .extract x i) : PureOp P o x := fun u => by
 by_cases hu : ∃ vs v, u = .tuple vs /\ vs[i]? = some v
 ·obtain ⟨vs, v, rfl, hv⟩ := hu;refine .inl ⟨v, fun a w hx => ?_⟩;unfold execOp;simp only [h, hx, Instr.extract, hv, Sem.run_bind, Sem.run_pure, Result.andThen_ok]
 ·refine .inr fun a w K Q hQ hx hw => ?_
  unfold Oper.wp execOp at hw;simp only [h, hx] at hw
  cases u with
  | tuple vs =>
   cases hv : vs[i]? with
   | some v => exact hu ⟨vs, v, rfl, hv⟩
   | none => simp only [Instr.extract, hv, Sem.run_bind] at hw; exact hw
  | _ => simp only [Instr.extract, Sem.run_bind] at hw; exact hw
theorem wpAny_pure {P : Program} {ops : Array Oper} {Q : Exit -> Act -> World -> Prop} {i d : Nat} {oi : Oper} {x : Operand} {u v : Value} (hi : ops[i]? = some oi) (hv : ∀ (a : Act) (w : World), a.eval x = u -> (execOp a.eval oi).run P w = .ok (.value v) w) (hlk : ∀ t, x = .tmp t -> t ∈ oi.looksAt ops) (hd : oi.dst = some d) (hg : oi.guard = none) (hsel : ∀ (j : Nat) (oj : Oper), ops[j]? = some oj -> Ydl oj = true) (hQ : ∀ e a w, e ≠ .normal -> ¬ Q e a w) :
 ∀ (fuel : Nat) (listed : Array Bool) (a : Act) (w : World), a.eval x = u ->
  (∀ (j : Nat) (oj : Oper), ops[j]? = some oj -> j ≠ i -> listed.getD j true = false -> (∀ e ∈ oj.after, Region.binds .any e = true -> e.on ≠ i) -> oi.apart ops oj = true) ->
  i ∈ Region.ready .any ops listed -> wpAny P .any ops Q fuel (listed.setIfInBounds i true) (a.put (some d) v) w -> wpAny P .any ops Q (fuel + 1) listed a w := by
 have self : ∀ {fuel : Nat} {listed : Array Bool} {a : Act} {w : World}, a.eval x = u -> wpAny P .any ops Q fuel (listed.setIfInBounds i true) (a.put (some d) v) w -> wpOp P ops Q i (wpAny P .any ops Q fuel (listed.setIfInBounds i true)) a w := by
  intro fuel listed a w hx H;unfold wpOp;simp only [hi];have hw : Region.wanted oi (yielded ops a.tmps) = true := by simp [Region.wanted, hg]
  rw [if_pos hw];refine .inl ?_;unfold Oper.wp;rw [hv a w hx];simp only [Oper.upon, hd];exact H
 intro fuel
 induction fuel with
 | zero =>
  intro listed a w hx _ hr H;refine ⟨fun h => (by rw [h] at hr; cases hr), fun j hj => ?_⟩
  by_cases hji : j = i
  ·subst hji; exact self hx H
  ·have := ready_mono hj hji;rw [H.1] at this
   cases this
 | succ fuel ih =>
  intro listed a w hx hfree hr H;refine ⟨fun h => (by rw [h] at hr; cases hr), fun j hj => ?_⟩
  by_cases hji : j = i
  ·subst hji; exact self hx H
  ·have H2 := H.2 j (ready_mono hj hji);obtain ⟨hjun, oj, hoj, hall⟩ := mem_ready.1 hj
   have hnot : ∀ e ∈ oj.after, Region.binds .any e = true -> e.on ≠ i := fun e he hb heq => by
    have h1 := hall e he hb;have h0 := (mem_ready.1 hr).1;rw [heq] at h1
    rcases Nat.lt_or_ge i listed.size with h' | h'
    ·simp [h'] at h0 h1; rw [h0] at h1; cases h1
    ·simp [Array.getElem?_eq_none h'] at h1
   obtain ⟨a1, a2, a3⟩ := Oper.apart_spec (hfree j oj hoj hji hjun hnot);have hdl : d ∉ oj.looksAt ops := a1 d hd;have hdd : oj.dst ≠ some d := fun he => a2 d hd he
   have hxo : ∀ t, x = .tmp t -> oj.dst ≠ some t := fun t ht he => a3 t he (hlk t ht)
   have next : ∀ a' w', (∀ y : Operand, (∀ t, y = .tmp t -> oj.dst ≠ some t) -> a'.eval y = a.eval y) -> wpAny P .any ops Q fuel ((listed.setIfInBounds i true).setIfInBounds j true) (a'.put (some d) v) w' -> wpAny P .any ops Q (fuel + 1) (listed.setIfInBounds j true) a' w' := by
    intro a' w' he h;refine ih _ _ _ ((he x hxo).trans hx) (fun k ok hk hki hun hno => ?_) (ready_mono hr (Ne.symm hji)) ?_
    ·refine hfree k ok hk hki ?_ hno
     by_cases hjk : j = k
     ·subst hjk; exact hjun
     ·rw [getD_set_ne true hjk] at hun; exact hun
    ·rw [Array.setIfInBounds_comm _ _ hji];exact h
   unfold wpOp at H2 ⊢;simp only [hoj] at H2 ⊢;rw [wanted_put (ops := ops) oj a (some d) v (fun t ht => by cases ht; exact hdl)] at H2
   by_cases hw : Region.wanted oj (yielded ops a.tmps) = true
   ·rw [if_pos hw] at H2 ⊢
    rcases H2 with H2 | ⟨_, a1, w1, h1⟩
    ·exact .inl (wp_put (ops := ops) (YgF (hsel j oj hoj)) hdl hdd hQ next H2)
    ·exact absurd h1 (hQ _ _ _ (by simp))
   ·rw [if_neg hw] at H2 ⊢;refine next _ _ (fun y hy => Ycx a oj.dst undef y hy) ?_
    rw [put_swap a oj.dst (some d) undef v (fun t ht he => hdd (by rw [ht, he]))];exact H2
def Region.chainLB (ops : Array Oper) (L : Nat -> Bool) (k : Nat) : Bool := Region.downB ops && Nat.ble k ops.size && (List.range (ops.size - 1)).all fun j =>
 (L j && Nat.blt j k) || (List.range ops.size).any fun m => Nat.blt j m && (Nat.ble m k || Nat.ble m (j + 1)) && (!(L m) || Nat.ble k m) && Region.edge ops m j
structure ChainL (ops : Array Oper) (L : Nat -> Bool) (k : Nat) : Prop where
 down : Region.downB ops = true
 le : k <= ops.size
 next : ∀ j, (L j = false \/ k <= j) -> j < ops.size - 1 -> ∃ m, j < m /\ (m <= k \/ m <= j + 1) /\ (L m = false \/ k <= m) /\ Region.edge ops m j = true
theorem ChainL.of {ops : Array Oper} {L : Nat -> Bool} {k : Nat} (h : Region.chainLB ops L k = true) : ChainL ops L k := by
 unfold Region.chainLB at h;simp only [ZbA] at h;obtain ⟨⟨h1, h2⟩, h3⟩ := h;refine ⟨h1, ZnB h2, fun j hL hj => ?_⟩;have h4 := List.all_eq_true.1 h3 j (List.mem_range.2 hj);rw [Bool.or_eq_true] at h4
 rcases h4 with h4 | h4
 ·simp only [ZbA, Nat.blt_eq] at h4
  rcases hL with hL | hL
  ·rw [hL] at h4; simp at h4
  ·omega
 ·obtain ⟨m, _, hm⟩ := List.any_eq_true.1 h4;simp only [ZbA, Bool.or_eq_true, Nat.blt_eq, Bool.not_eq_true'] at hm;exact ⟨m, hm.1.1.1, hm.1.1.2.imp ZnB ZnB, hm.1.2.imp id ZnB, hm.2⟩
theorem ChainL.before {ops : Array Oper} {L : Nat -> Bool} {k : Nat} (hC : ChainL ops L k) {listed : Array Bool} (hc : Closed ops listed) {i : Nat} (hi : i ∈ Region.ready .any ops listed) (hk : k <= i) : ∀ d j, (L j = false \/ k <= j) -> j + d = i -> 0 < d -> listed.getD j false = true := by
 obtain ⟨_, oi, hoi, hall⟩ := mem_ready.1 hi;have hlt : i < ops.size := (ZaS.1 hoi).1;intro d
 induction d using Nat.strongRecOn with
 | ind d ih =>
  intro j hL hj hd;obtain ⟨m, h1, h2, h4, h3⟩ := hC.next j hL (by omega)
  obtain ⟨o, ho, e, he, hb, heq⟩ := Region.edge_spec h3
  by_cases hmi : m = i
  ·subst hmi;rw [hoi] at ho; cases ho;rw [<- heq]; exact hall e he hb
  ·have := ih (i - m) (by omega) m h4 (by omega) (by omega);rw [<- heq]; exact hc m o ho this e he hb
section
variable {P : Program} {ops : Array Oper} {Q Q0 : Exit -> Act -> World -> Prop} {k : Nat} {L : Nat -> Bool}
theorem Ye1 (hC : ChainL ops L k) : ∀ (l : List Oper) (i : Nat) (listed : Array Bool) (fuel : Nat) (a : Act) (w : World), (∀ j, l[j]? = ops[i + j]?) -> i + l.length = ops.size -> k <= i -> listed.size = ops.size ->
 (∀ j, j < i -> listed.getD j false = true) -> (∀ j, i <= j -> j < ops.size -> listed.getD j true = false) -> Closed ops listed -> l.length <= fuel -> wpList P ops Q l a w -> wpAny P .any ops Q fuel listed a w
 | [], i, listed, fuel, a, w, hl, hsz, hk, hls, h1, h2, hc, hf, h => by
  have hr : Region.ready .any ops listed = [] := by
   refine List.eq_nil_iff_forall_not_mem.2 fun m hm => ?_
   obtain ⟨hu, o, ho, _⟩ := mem_ready.1 hm;have hlt : m < ops.size := (ZaS.1 ho).1;have := h1 m (by simp at hsz; omega);rw [Ya7 (by omega) false true, hu] at this;simp at this
  cases fuel with
  | zero => exact ⟨hr, h⟩
  | succ f => exact ⟨fun _ => h, fun m hm => by rw [hr] at hm; cases hm⟩
 | o :: l, i, listed, fuel, a, w, hl, hsz, hk, hls, h1, h2, hc, hf, h => by
  have h0 : ops[i]? = some o := by simpa using (hl 0).symm
  have hlt : i < ops.size := (ZaS.1 h0).1;have hl' : ∀ j, l[j]? = ops[i + 1 + j]? := fun j => by have := hl (j + 1); simpa [Nat.add_assoc, Nat.add_comm 1 j] using this
  have hui := h2 i (ZnR _) hlt;have hir : i ∈ Region.ready .any ops listed := mem_ready.2 ⟨hui, o, h0, fun e he hb => h1 _ ((Region.down_spec hC.down h0).1 e he hb)⟩
  have hnext : ∀ (a' : Act) (w' : World), wpList P ops Q l a' w' -> wpAny P .any ops Q (fuel - 1) (listed.setIfInBounds i true) a' w' := fun a' w' h' =>
   Ye1 hC l (i + 1) _ _ a' w' hl' (by simp at hsz; omega) (by omega) (by simp [hls]) (fun j hj => by
    by_cases hji : i = j
    ·subst hji;simp [ZaD, hls, hlt]
    ·rw [getD_set_ne false hji]; exact h1 j (by omega)) (fun j hj hj2 => by rw [getD_set_ne true (by omega)]; exact h2 j (by omega) hj2) (hc.set hir) (by simp at hf; omega) h'
  obtain ⟨f, rfl⟩ : ∃ f, fuel = f + 1 := ⟨fuel - 1, by simp at hf; omega⟩;refine ⟨fun hr => (by rw [hr] at hir; cases hir), fun m hm => ?_⟩;obtain ⟨hu, o', ho', _⟩ := mem_ready.1 hm
  have hm2 : m = i := by
   have hmlt : m < ops.size := (ZaS.1 ho').1
   rcases Nat.lt_trichotomy m i with hh | hh | hh
   ·have := h1 m hh;rw [Ya7 (by omega) false true, hu] at this;simp at this
   ·exact hh
   ·have := hC.before hc hm (by omega) (m - i) i (.inr hk) (by omega) (by omega);rw [Ya7 (by omega) false true, hui] at this;simp at this
  subst hm2;unfold wpOp;simp only [h0];unfold wpList at h
  by_cases hw : Region.wanted o (yielded ops a.tmps) = true
  ·rw [if_pos hw] at h ⊢;exact h.imp (Oper.wp_mono hnext) id
  ·rw [if_neg hw] at h ⊢;exact hnext _ _ h
structure LateOk (P : Program) (ops : Array Oper) (L : Nat -> Bool) (k : Nat) : Prop where
 op : ∀ i, L i = true -> i < k -> ∃ oi x d, ops[i]? = some oi /\ PureOp P oi x /\ (∀ t, x = .tmp t -> t ∈ oi.looksAt ops) /\ oi.dst = some d /\ oi.guard = none
 sel : ∀ (j : Nat) (oj : Oper), ops[j]? = some oj -> Ydl oj = true
 apart : ∀ i oi, L i = true -> i < k -> ops[i]? = some oi -> ∀ (j : Nat) (oj : Oper), ops[j]? = some oj -> j ≠ i -> (∀ e ∈ oj.after, Region.binds .any e = true -> e.on ≠ i) -> (∀ e ∈ oi.after, Region.binds .any e = true -> e.on ≠ j) -> oi.apart ops oj = true
theorem wpAny_splitL (hC : ChainL ops L k) (hL : LateOk P ops L k) {ops0 : Array Oper} (h0 : ops0.size = k) (hpre : ∀ j, j < k -> ops0[j]? = ops[j]?) (hN : ∀ a w, Q0 .normal a w -> wpList P ops Q (ops.toList.drop k) a w) (hQ0 : ∀ e a w, e ≠ .normal -> ¬ Q0 e a w) (hQ : ∀ e a w, e ≠ .normal -> ¬ Q e a w) :
 ∀ (fuel0 : Nat) (listed0 listed : Array Bool) (fuel : Nat) (a : Act) (w : World), listed0.size = k -> listed.size = ops.size -> (∀ j, j < k -> ∀ d, listed0.getD j d = listed.getD j d) -> (∀ j, k <= j -> j < ops.size -> listed.getD j true = false) ->
  Closed ops listed -> fuel0 + (ops.size - k) <= fuel -> wpAny P .any ops0 Q0 fuel0 listed0 a w -> wpAny P .any ops Q fuel listed a w := by
 have hle := hC.le;have hE : ∀ e a w, e ≠ .normal -> Q0 e a w -> Q e a w := fun e a w h h2 => absurd h2 (hQ0 e a w h)
 have hd0 : Region.downB ops0 = true := by
  unfold Region.downB;refine List.all_eq_true.2 fun i hi => ?_
  have hik := List.mem_range.1 hi;have h1 := List.all_eq_true.1 hC.down i (List.mem_range.2 (by omega));rw [hpre i (by omega)];exact h1
 have all : ∀ (fuel0 : Nat) (listed0 listed : Array Bool) (fuel : Nat) (a : Act) (w : World), listed0.size = k -> listed.size = ops.size -> (∀ j, j < k -> ∀ d, listed0.getD j d = listed.getD j d) -> (∀ j, k <= j -> j < ops.size -> listed.getD j true = false) ->
  Closed ops listed -> fuel0 + (ops.size - k) <= fuel -> wpAny P .any ops0 Q0 fuel0 listed0 a w -> (∀ j, j < k -> listed.getD j false = true) -> wpAny P .any ops Q fuel listed a w := by
  intro fuel0 listed0 listed fuel a w hs0 hs hag hun hc hf H hall
  have hr0 : Region.ready .any ops0 listed0 = [] := by
   refine List.eq_nil_iff_forall_not_mem.2 fun m hm => ?_
   obtain ⟨hu, o, ho, _⟩ := mem_ready.1 hm;have hlt : m < ops0.size := (ZaS.1 ho).1;have h1 := hall m (by omega);rw [<- hag m (by omega), Ya7 (by omega) false true, hu] at h1;simp at h1
  have hQ : Q0 .normal a w := by
   cases fuel0 with
   | zero => exact H.2
   | succ f => exact H.1 hr0
  exact Ye1 hC (ops.toList.drop k) k listed fuel a w (fun j => by rw [ZgO, Array.getElem?_toList]) (by rw [ZlD, ZaL]; omega) (ZnR _) hs hall hun hc (by rw [ZlD, ZaL]; omega) (hN a w hQ)
 intro fuel0
 induction fuel0 with
 | zero =>
  intro listed0 listed fuel a w hs0 hs hag hun hc hf H;refine all 0 listed0 listed fuel a w hs0 hs hag hun hc hf H fun j hj => ?_
  cases hh : listed.getD j false with
  | true => rfl
  | false =>
   rw [<- hag j hj, Ya7 (by omega) false true] at hh;obtain ⟨m, _, hm⟩ := YbZ hd0 (by omega) j (by omega) hh
   rw [H.1] at hm; cases hm
 | succ fuel0 ih =>
  intro listed0 listed fuel a w hs0 hs hag hun hc hf H
  have hset : ∀ m, m < k -> m ∈ Region.ready .any ops listed -> ∀ (a' : Act) (w' : World) (f : Nat), fuel0 + (ops.size - k) <= f -> wpAny P .any ops0 Q0 fuel0 (listed0.setIfInBounds m true) a' w' -> wpAny P .any ops Q f (listed.setIfInBounds m true) a' w' := fun m hmk hm a' w' f hf' h' =>
   ih _ _ f a' w' (by simp [hs0]) (by simp [hs]) (fun j hj d => by
    by_cases hmj : m = j
    ·subst hmj;simp [ZaD, hs0, hs, hmk, show m < ops.size by omega]
    ·rw [getD_set_ne d hmj, getD_set_ne d hmj]; exact hag j hj d) (fun j hj hj2 => by rw [getD_set_ne true (by omega)]; exact hun j hj hj2) (hc.set hm) hf' h'
  by_cases hall : ∀ j, j < k -> listed.getD j false = true
  ·exact all _ listed0 listed fuel a w hs0 hs hag hun hc hf H hall
  ·obtain ⟨f, rfl⟩ : ∃ f, fuel = f + 1 := ⟨fuel - 1, by omega⟩
   have hready0 : ∀ m, m < k -> m ∈ Region.ready .any ops listed -> m ∈ Region.ready .any ops0 listed0 := fun m hmk hm => by
    obtain ⟨hu, o, ho, hdep⟩ := mem_ready.1 hm
    exact mem_ready.2 ⟨by rw [hag m hmk]; exact hu, o, by rw [hpre m hmk]; exact ho, fun e he hb => by
     have := (Region.down_spec hC.down ho).1 e he hb
     rw [hag _ (by omega)]; exact hdep e he hb⟩
   by_cases hlate : ∀ j, j < k -> L j = false -> listed.getD j false = true
   ·-- only late ones are left: the least of them is made first
    simp only [Classical.not_forall] at hall;obtain ⟨j, hj, hjn⟩ := hall;have hju : listed.getD j true = false := by rw [Ya7 (by omega) true false]; simpa using hjn
    obtain ⟨m, hmj, hm⟩ := YbZ hC.down hs j (by omega) hju;have hmk : m < k := by omega
    have hmL : L m = true := by
     cases hh : L m with
     | true => rfl
     | false =>
      have := hlate m hmk hh;rw [Ya7 (by omega) false true, (mem_ready.1 hm).1] at this;simp at this
    obtain ⟨oi, x, d, hoi, hp, hlk, hd, hg⟩ := hL.op m hmL hmk;have H1 := H.2 m (hready0 m hmk hm);unfold wpOp at H1;have ho0 : ops0[m]? = some oi := by rw [hpre m hmk]; exact hoi
    simp only [ho0] at H1;have hw : Region.wanted oi (yielded ops0 a.tmps) = true := by simp [Region.wanted, hg]
    rw [if_pos hw] at H1
    rcases H1 with H1 | ⟨_, a1, w1, h1⟩
    ·rcases hp (a.eval x) with ⟨v, hv⟩ | hno
     ·unfold Oper.wp at H1;rw [hv a w rfl] at H1;simp only [Oper.upon, hd] at H1
      exact wpAny_pure hoi hv hlk hd hg hL.sel hQ f listed a w J (fun j oj hoj hji hun hno => hL.apart m oi hmL hmk hoi j oj hoj hji hno fun e he hb heq => by
       obtain ⟨_, o', ho', hdep⟩ := mem_ready.1 hm;rw [hoi] at ho'; cases ho';have h5 := hdep e he hb;have hjl : j < listed.size := by rw [hs]; exact (ZaS.1 hoj).1
       rw [heq, Ya7 hjl false true, hun] at h5
       simp at h5) hm (hset m hmk hm _ _ f (by omega) H1)
     ·exact absurd H1 (hno a w _ _ hQ0 J)
    ·exact absurd h1 (hQ0 _ _ _ (by simp))
   ·simp only [Classical.not_forall] at hlate;obtain ⟨j, hj, hjL, hjn⟩ := hlate;have hju : listed.getD j true = false := by rw [Ya7 (by omega) true false]; simpa using hjn
    refine ⟨fun hr => ?_, fun m hm => ?_⟩
    ·obtain ⟨m, _, hm⟩ := YbZ hC.down hs j (by omega) hju;rw [hr] at hm; cases hm
    ·have hmk : m < k := by
      refine Nat.lt_of_not_le fun hkm => hjn ?_
      exact hC.before hc hm hkm (m - j) j (.inl hjL) (by omega) (by omega)
     have h1 := H.2 m (hready0 m hmk hm);obtain ⟨hu, o, ho, hdep⟩ := mem_ready.1 hm;have ho0 : ops0[m]? = some o := by rw [hpre m hmk]; exact ho
     unfold wpOp at h1 ⊢;simp only [ho, ho0] at h1 ⊢;rw [YfT (ops := ops) fun p hp => hpre _ (by have := (Region.down_spec hC.down ho).2 p hp; omega)] at h1;have hnext : ∀ (a' : Act) (w' : World), wpAny P .any ops0 Q0 fuel0 (listed0.setIfInBounds m true) a' w' -> wpAny P .any ops Q f (listed.setIfInBounds m true) a' w' := fun a' w' h' => hset m hmk hm a' w' f (by omega) h'
     by_cases hw : Region.wanted o (yielded ops a.tmps) = true
     ·rw [if_pos hw] at h1 ⊢;exact h1.imp (wp_to2 hnext hE) fun h => ⟨h.1, h.2.imp fun _ => Exists.imp fun _ => hE _ _ _ (by simp)⟩
     ·rw [if_neg hw] at h1 ⊢;exact hnext _ _ h1
end
def pureB (o : Oper) : Bool := (match o.op with | .move _ => true | .extract _ _ => true | _ => false) && o.guard.isNone && o.dst.isSome
theorem pureB_spec {P : Program} {ops : Array Oper} {o : Oper} (h : pureB o = true) : ∃ x d, PureOp P o x /\ (∀ t, x = .tmp t -> t ∈ o.looksAt ops) /\ o.dst = some d /\ o.guard = none := by
 unfold pureB at h;simp only [ZbA] at h;obtain ⟨⟨h1, h2⟩, h3⟩ := h;obtain ⟨d, hd⟩ := Option.isSome_iff_exists.1 h3;have hg : o.guard = none := by simpa using h2
 cases hop : o.op with
 | move x => exact ⟨x, d, .move hop, fun t ht => Ybo (by rw [hop, ht]; simp [Op.operands]), hd, hg⟩
 | extract x i => exact ⟨x, d, .extract hop, fun t ht => Ybo (by rw [hop, ht]; simp [Op.operands]), hd, hg⟩
 | _ => rw [hop] at h1; simp at h1
def lateB (ops : Array Oper) (L : List Nat) (k : Nat) : Bool := (ops.toList.all Ydl) && L.all fun i => Nat.blt i k && ((ops[i]?).map fun oi => pureB oi && (List.range ops.size).all fun j => Nat.beq j i || Region.edge ops j i || Region.edge ops i j || ((ops[j]?).map fun oj => oi.apart ops oj).getD true).getD false
theorem LateOk.of {P : Program} {ops : Array Oper} {L : List Nat} {k : Nat} (h : lateB ops L k = true) : LateOk P ops (fun i => L.contains i) k := by
 unfold lateB at h;simp only [ZbA] at h
 have hL : ∀ i, L.contains i = true -> ∃ oi, ops[i]? = some oi /\ pureB oi = true /\ ∀ j oj, ops[j]? = some oj -> j ≠ i -> (∀ e ∈ oj.after, Region.binds .any e = true -> e.on ≠ i) -> (∀ e ∈ oi.after, Region.binds .any e = true -> e.on ≠ j) -> oi.apart ops oj = true := fun i hi => by
  have h1 := List.all_eq_true.1 h.2 i (List.contains_iff_mem.1 hi);simp only [ZbA] at h1
  cases ho : ops[i]? with
  | none => rw [ho] at h1; simp at h1
  | some oi =>
   rw [ho] at h1;simp only [Option.map_some, Option.getD_some, ZbA] at h1;refine ⟨oi, J, h1.2.1, fun j oj hj hji hn hn2 => ?_⟩;have h2 := List.all_eq_true.1 h1.2.2 j (List.mem_range.2 (ZaS.1 hj).1);rw [hj] at h2;simp only [Option.map_some, Option.getD_some, Bool.or_eq_true] at h2
   rcases h2 with ((h2 | h2) | h2) | h2
   ·exact absurd (Nat.eq_of_beq_eq_true h2) hji
   ·obtain ⟨o, ho2, e, he, hb, heq⟩ := Region.edge_spec h2;rw [hj] at ho2; cases ho2;exact absurd heq (hn e he hb)
   ·obtain ⟨o, ho2, e, he, hb, heq⟩ := Region.edge_spec h2;rw [ho] at ho2; cases ho2;exact absurd heq (hn2 e he hb)
   ·exact h2
 refine ⟨fun i hi _ => ?_, fun j oj hj => List.all_eq_true.1 h.1 oj (by simpa using Array.mem_of_getElem? hj), fun i oi hi _ hoi j oj hj hji hn hn2 => ?_⟩
 ·obtain ⟨oi, h1, h2, _⟩ := hL i hi;obtain ⟨x, d, h3, h4, h5, h6⟩ := pureB_spec (P := P) (ops := ops) h2;exact ⟨oi, x, d, h1, h3, h4, h5, h6⟩
 ·obtain ⟨oi', h1, _, h3⟩ := hL i hi;rw [hoi] at h1; cases h1;exact h3 j oj hj hji hn hn2
def QN (Q : Post) : Post := fun ex e σ => match ex with | .normal => Q .normal e σ | _ => False
theorem AWP.drawFreshL {cx : Cx} {rid : Nat} {l : List Oper} {e : Env} {σ : Obs} {Q : Post} (k : Nat) (L : List Nat) (Φ : List Fr) (ok : FrOk cx Φ σ) (hm : cx.P.follows .mixedOrders = true) (hB : Region.lexB .any (l.take k).toArray = true) (hC : Region.chainLB l.toArray (fun i => L.contains i) k = true) (hL : lateB l.toArray L k = true) (hlk : dstB Φ (l.take k) = true)
 (h : XRun cx (l.take k).toArray σ Φ (l.take k) (Env.killAll Φ e) (fun e => AOps cx l.toArray (l.drop k) e (Yfm Φ ++ σ) (QN Q))) : AWP cx (.region rid l.toArray true) e σ Q := by
 intro a w ⟨F, ρ, hr⟩;simp only [Region.lexB, ZbA] at hB;have hch := ChainL.of hC;have hkl : k <= l.length := by simpa using hch.le
 have h1 := anyX_lex (l.take k) 0 (Array.replicate (l.take k).toArray.size false) (Env.killAll Φ e) (by simp) (by simpa using hB.2) h
 have hone : ∀ f ∈ Φ, ∀ (i j : Nat) (o o' : Oper), (l.take k).toArray[i]? = some o -> (l.take k).toArray[j]? = some o' -> o.dst = some f.dst -> o'.dst = some f.dst -> i = j := fun f hf i j o o' hi hj ho ho' => by
  rw [List.getElem?_toArray] at hi hj;have h3 := List.all_eq_true.1 (List.all_eq_true.1 (List.all_eq_true.1 hlk f hf) i (List.mem_range.2 (ZgS.1 hi).1)) j (List.mem_range.2 (ZgS.1 hj).1);rw [hi, hj] at h3;simp only [Option.map_some, Option.getD_some, Bool.or_eq_true] at h3
  rcases h3 with (h3 | h3) | h3
  ·exact Nat.eq_of_beq_eq_true h3
  ·exact absurd ho (Ybl h3)
  ·exact absurd ho' (Ybl h3)
 have h2 := wpAny_of_X (cx := cx) (ops := (l.take k).toArray) (Q := fun ex e σ => match ex with | .normal => AOps cx l.toArray (l.drop k) e σ (QN Q) | _ => False) (fun o ho => XRun.dsts _ _ h o (by simpa using ho)) hone ok _ _ (Env.killAll Φ e) _ _
  ⟨[], fun g hg => (nomatch hg), fun g hg => (nomatch hg), fun g hg => (nomatch hg), fun f hf _ t => Ygg Φ _ f hf t, R.killAll Φ ⟨F, ρ, hr.drew⟩⟩ h1
 have h3 : wpAny cx.P .any l.toArray (lift cx (QN Q)) l.toArray.size (Array.replicate l.toArray.size false) a { w with drawn := w.drawn + 1 } := by
  refine wpAny_splitL hch (LateOk.of hL) (ops0 := (l.take k).toArray) (by simp; omega) (fun j hj => ?_) ?_ ?_ ?_ (l.take k).length _ _ _ _ _ (by simp; omega) (by simp) ?_ ?_ ?_ (by simp; omega) h2
  ·rw [List.getElem?_toArray, List.getElem?_toArray, ZgT, if_pos hj]
  ·rintro a w ⟨e, σ, h3, h4⟩;have := h3 a w h4;simpa using this
  ·rintro ex a w hne ⟨e, σ, h3, _⟩;cases ex <;> first | exact absurd rfl hne | exact h3.elim
  ·rintro ex a w hne ⟨e, σ, h3, _⟩;cases ex <;> first | exact absurd rfl hne | exact h3.elim
  ·intro j hj d;have h5 : j < l.length := by omega
   have h6 : j < min k l.length := by omega
   simp [ZaD, h5, h6]
  ·intro j hj hj2;have : j < l.length := by simpa using hj2
   simp [ZaD, this]
  ·intro i o ho hi;have : i < l.length := by simpa using (ZaS.1 ho).1
   simp [ZaD, this] at hi
 refine wp_mono (wp_region_any hm h3) ?_;rintro ex a w ⟨e, σ, h4, h5⟩
 cases ex with
 | normal => exact ⟨e, σ, h4, h5⟩
 | exit id => exact h4.elim
 | goto l => exact h4.elim
 | ret => exact h4.elim
 | panic c => exact h4.elim
 | outgrown => exact h4.elim
end
end Go.Proofs.YtohllekllkcfiaaGreatDoor
