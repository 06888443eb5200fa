/- Walks and laws over abstract values, merged by tools/merge.py. No statement of the seat. -/
import Derived.ChangeKeysEq
import Derived.ProofKit
import Derived.OpenShut
import Derived.ShutString
import Derived.ChangeOld
import Derived.Below
import Derived.Lib.EndianBits
import Derived.Laws.StructEq
import Derived.MapKept
import Derived.Carry
import Derived.WalkKit
import Derived.Ground.NamesProg
import Derived.Shelf.Strings.Prefix
import Derived.Shelf.Small.Wraps
import Derived.Shelf.Strings.SlTrimAscii
import Derived.Shelf.Small.Strs
import Derived.Shelf.Strings.Search3
import Derived.Shelf.LaysM
import Derived.Test.YtohllekllkcfiaaGreatDoorProg
import Derived.Lib.Strings
import Derived.Lib.FieldsLaws
import Derived.Lib.Bytealg
import Derived.Lib.IndexLaws
import Derived.Lib.SlTrimSet
import Derived.Lib.SlicesCompact
import Derived.Lib.RowBridge
import Derived.Test.YtohllekllkcfiaaGreatDoorZH1
set_option linter.unusedSimpArgs false
set_option linter.unusedVariables false
open List renaming length_map -> ZlM, getElem?_eq_getElem -> ZgE, getElem?_eq_some_iff -> ZgS, getElem_mem -> ZgM, length_take -> ZlT, getElem_append_left -> ZgL, getD_eq_getElem?_getD -> ZgD, getElem_map -> ZgP, getElem_append_right -> ZgR, getElem?_take -> ZgT, map_append -> ZmA, length_append -> ZlA, length_drop -> ZlD, mem_singleton -> ZmS, mem_map -> ZmM, getElem?_drop -> ZgO
open Array renaming getElem?_eq_some_iff -> ZaS, length_toList -> ZaL, getD_eq_getD_getElem? -> ZaD
open Nat renaming le_of_ble_eq_true -> ZnB, zero_le -> ZnZ, le_refl -> ZnR, le_trans -> ZnT
open Bool renaming and_eq_true -> ZbA
namespace Go.Proofs.YtohllekllkcfiaaGreatDoor
section
open Go.RowKit
theorem SizeT.of {P : Program} {t : TypeId} {size : Nat} (h : (P.info? t).map (·.size) = some size) : ∀ w, (sizeOf t).run P w = .ok size w := by
 intro w;obtain ⟨i, hi, hz⟩ := Option.map_eq_some_iff.1 h;simp [sizeOf, typeInfo, hi, hz]
def CellD (σ : Obs) (s : S) (d : D) : Prop := (∃ d0, s = .d d0 /\ Le d0 d) \/ ∃ id ee size els, s = .own id /\ (id, Ob.row ee size els) ∈ σ /\ d = .sl els
theorem CellD.d {σ : Obs} {d : D} : CellD σ (.d d) d := .inl ⟨d, rfl, Le.refl d⟩
theorem CellD.eq {σ : Obs} {d d' : D} (h : d = d') : CellD σ (.d d) d' := .inl ⟨d, rfl, Le.of_eq h⟩
theorem CellD.nil {σ : Obs} : CellD σ (.d (.v (.slice none 0 0))) (.sl []) := .inl ⟨_, rfl, Le.nil⟩
theorem CellD.own {σ : Obs} {id ee size : Nat} {els els' : List (List D)} (hm : (id, Ob.row ee size els) ∈ σ) (h : els = els') : CellD σ (.own id) (.sl els') := .inr ⟨id, ee, size, els, rfl, hm, by rw [h]⟩
def CellsD (σ : Obs) : List S -> List D -> Prop
 | [], [] => True
 | s :: ss, d :: ds => CellD σ s d /\ CellsD σ ss ds
 | _, _ => False
theorem CellsD.nil {σ : Obs} : CellsD σ [] [] := trivial
theorem CellsD.cons {σ : Obs} {s : S} {d : D} {ss : List S} {ds : List D} (h : CellD σ s d) (k : CellsD σ ss ds) : CellsD σ (s :: ss) (d :: ds) := ⟨h, k⟩
theorem CellD.rep {cx : Cx} {F : Nat -> Prop} {ρ : Nat -> Value} {e : Env} {σ : Obs} {a : Act} {w : World} (h : R0 cx F ρ e σ a w) {s : S} {d : D} {x : Value} (hx : RepS F ρ w x s) (hd : CellD σ s d) : Rep (endF F ρ σ) w x d := by
 rcases hd with ⟨d0, rfl, h2⟩ | ⟨id, ee, size, els, rfl, h2, rfl⟩
 ·exact h2 _ _ _ ((Yag hx).mono (fun b hb => .inl hb) fun _ _ => J)
 ·cases hx;exact h.rep_row h2 (fun b hb => .inl hb) (fun g hg => .inr ⟨_, h2, hg⟩)
theorem CellsD.len {σ : Obs} : ∀ {ss : List S} {ds : List D}, CellsD σ ss ds -> ss.length = ds.length
 | [], [], _ => rfl
 | _ :: _, _ :: _, h => by simp [CellsD.len h.2]
 | [], _ :: _, h => h.elim
 | _ :: _, [], h => h.elim
theorem CellsD.at {σ : Obs} : ∀ {ss : List S} {ds : List D}, CellsD σ ss ds -> ∀ i (h : i < ss.length) (h' : i < ds.length), CellD σ ss[i] ds[i]
 | s :: ss, d :: ds, h, i, h1, h2 => by
  cases i with
  | zero => exact h.1
  | succ i => exact CellsD.at h.2 i (by simpa using h1) (by simpa using h2)
 | [], _, _, i, h, _ => absurd h (by simp)
 | _ :: _, [], h, _, _, _ => h.elim
def RetR (P : Program) (e : Env) (σ : Obs) : ResultVar -> D -> Prop
 | .tmp t, d => RetD e σ t d
 | .cell a t, d => (∃ id ss ds n, e a = .ptr id 0 /\ (id, Ob.cells ss) ∈ σ /\ AggT P t n /\ ss.length = n /\ d = .agg ds /\ CellsD σ ss ds) \/ (∃ id s, e a = .ptr id 0 /\ (id, Ob.cells [s]) ∈ σ /\ Scal P t /\ CellD σ s d)
theorem RetR.agg {P : Program} {e : Env} {σ : Obs} {a t id n : Nat} {ss : List S} {ds : List D} (h : e a = .ptr id 0) (hm : (id, Ob.cells ss) ∈ σ) (hT : AggT P t n) (hl : ss.length = n) (k : CellsD σ ss ds) : RetR P e σ (.cell a t) (.agg ds) := .inl ⟨id, ss, ds, n, h, hm, hT, hl, rfl, k⟩
theorem CellsD.c0 {σ : Obs} {s : S} {ss : List S} {d : D} {ds : List D} (k : CellsD σ ss ds) (h : CellD σ s d := by first | exact CellD.nil | exact CellD.d | exact CellD.eq (by first | rfl | rw [decide_eq_true (by omega)] | rw [decide_eq_false (by omega)]) | (refine CellD.own (by first | exact .head _ | exact .tail _ (.head _)) ?_; rfl)) : CellsD σ (s :: ss) (d :: ds) := .cons h k
theorem CellsD.c1 {σ : Obs} {s : S} {ss : List S} {d : D} {ds : List D} (k : CellsD σ ss ds) (h : CellD σ s d := by first | exact CellD.nil | exact CellD.d | exact CellD.eq (by first | rfl | rw [Int.natAbs_neg] | exact congrArg (fun b => D.v (Value.bool b)) (Yai (hw.trans (by omega))) | rw [decide_eq_false (show ¬ -z < 0 by omega)]) | (refine CellD.own (by first | exact .head _ | exact .tail _ (.head _)) ?_; rfl)) : CellsD σ (s :: ss) (d :: ds) := .cons h k
theorem CellsD.c2 {σ : Obs} {s : S} {ss : List S} {d : D} {ds : List D} (k : CellsD σ ss ds) (h : CellD σ s d := by first | exact CellD.nil | exact CellD.d | exact CellD.eq (by first | rfl | exact congrArg (fun n => D.sl (natW n)) (by omega) | exact congrArg (fun b => D.v (Value.bool b)) (Yai (by omega))) | (refine CellD.own (by first | exact .head _ | exact .tail _ (.head _)) ?_; rfl)) : CellsD σ (s :: ss) (d :: ds) := .cons h k
theorem CellsD.c3 {σ : Obs} {s : S} {ss : List S} {d : D} {ds : List D} (k : CellsD σ ss ds) (h : CellD σ s d := by first | exact CellD.nil | exact CellD.d | exact CellD.eq (by first | rfl | exact congrArg (fun n => D.sl (natW n)) (Int.natAbs_mul a b).symm | exact congrArg (fun b => D.v (Value.bool b)) (Yai (mul_sg hs)) | rw [decide_eq_false (mul_sg2 hs)]) | (refine CellD.own (by first | exact .head _ | exact .tail _ (.head _)) ?_; rfl)) : CellsD σ (s :: ss) (d :: ds) := .cons h k
theorem CellsD.c4 {σ : Obs} {s : S} {ss : List S} {d : D} {ds : List D} (k : CellsD σ ss ds) (h : CellD σ s d := by first | exact CellD.nil | exact CellD.d | exact CellD.eq (by first | rfl | exact congrArg (fun n => D.sl (natW n)) hsg.1.symm | exact congrArg (fun b => D.v (Value.bool b)) (Yai hsg.2.symm)) | (refine CellD.own (by first | exact .head _ | exact .tail _ (.head _)) ?_; rfl)) : CellsD σ (s :: ss) (d :: ds) := .cons h k
theorem CellsD.c5 {σ : Obs} {s : S} {ss : List S} {d : D} {ds : List D} (k : CellsD σ ss ds) (h : CellD σ s d := by first | exact CellD.nil | exact CellD.d | exact CellD.eq (by simp) | (refine CellD.own (by first | exact .head _ | exact .tail _ (.head _)) ?_; rfl)) : CellsD σ (s :: ss) (d :: ds) := .cons h k
theorem CellsD.c6 {σ : Obs} {s : S} {ss : List S} {d : D} {ds : List D} (k : CellsD σ ss ds) (h : CellD σ s d := by first | exact CellD.nil | exact CellD.d | exact CellD.eq (by first | rfl | exact congrArg (fun n => D.sl (natW n)) (parse_abs s).symm | exact congrArg (fun b => D.v (Value.bool b)) (Yai (parse_neg hs)) | rw [decide_eq_false (parse_pos hs)]) | (refine CellD.own (by first | exact .head _ | exact .tail _ (.head _)) ?_; rfl)) : CellsD σ (s :: ss) (d :: ds) := .cons h k
theorem CellsD.c7 {σ : Obs} {s : S} {ss : List S} {d : D} {ds : List D} (k : CellsD σ ss ds) (h : CellD σ s d := by first | exact CellD.nil | exact CellD.d | exact CellD.eq (by simp [chgO, Function.comp_def]; try rfl) | (refine CellD.own (by first | exact .head _ | exact .tail _ (.head _)) ?_; rfl)) : CellsD σ (s :: ss) (d :: ds) := .cons h k
def RetRs (P : Program) (e : Env) (σ : Obs) : List ResultVar -> List D -> Prop
 | [], [] => True
 | r :: rs, d :: ds => RetR P e σ r d /\ RetRs P e σ rs ds
 | _, _ => False
def RetQR (P : Program) (rs : List ResultVar) (ds : List D) : Post := fun ex e σ => match ex with
 | .ret => RetRs P e σ rs ds
 | .normal => RetRs P e σ rs ds
 | _ => False
def YfZ (tmps : Array Value) (r : ResultVar) : Sem Value := match r with
 | .tmp t => pure (tmps.getD t undef)
 | .cell b t => do loadVar t (<- asAddr (tmps.getD b undef))
theorem RetR.rep {cx : Cx} {F : Nat -> Prop} {ρ : Nat -> Value} {e : Env} {σ : Obs} {a : Act} {w : World} (h : R0 cx F ρ e σ a w) {r : ResultVar} {d : D} (hd : RetR cx.P e σ r d) :
 ∃ v, (YfZ a.tmps r).run cx.P w = .ok v w /\ Rep (endF F ρ σ) w v d := by
 cases r with
 | tmp t => exact ⟨_, rfl, RetD.rep h hd⟩
 | cell b t =>
  rcases hd with ⟨id, ss, ds, n, h1, h2, h3, h4, rfl, h5⟩ | ⟨id, s, h1, h2, h3, h4⟩
  ·obtain ⟨g, ty, cs, k1, k2, k3, k4, k5, k6⟩ := h.obs.ok _ h2;dsimp only at k1
   have hv : a.tmps.getD b undef = .pointer (some ⟨g, 0, none⟩) := by
    have := h.env b;rw [h1] at this;exact YbM this (by rw [k1]; rfl)
   have hcells : (loadCells ⟨g, 0, none⟩ cs.length).run cx.P w = .ok cs.toArray w := run_loadCells_list w _ cs (fun j v hj => by
    rw [YaN, cell_of_row w g (0 + j) cs.toArray ty (0, 0) k4]
    simpa using hj)
   have hn : cs.length = n := by omega
   rw [hn] at hcells;have hl := h5.len;refine ⟨.agg cs.toArray, ?_, .agg cs ds (by omega) (fun i hi => (k6 i hi (by omega)).1) (fun i hi hi' => CellD.rep h (k6 i hi (by omega)).2 (h5.at i (by omega) hi'))⟩;simp only [YfZ, hv, asAddr, Sem.run_bind, Sem.run_pure, Result.andThen_ok, loadVar, h3.agg w, if_true, h3.size w, hcells]
  ·obtain ⟨g, ty, cs, k1, k2, k3, k4, k5, k6⟩ := h.obs.ok _ h2;dsimp only at k1
   have hv : a.tmps.getD b undef = .pointer (some ⟨g, 0, none⟩) := by
    have := h.env b;rw [h1] at this;exact YbM this (by rw [k1]; rfl)
   simp only [List.length_cons, List.length_nil] at k5
   have hc : w.cell? ⟨g, 0, none⟩ = some (cs[0]'(by omega)) := by
    rw [cell_of_row w g 0 cs.toArray ty (0, 0) k4]; simp [show 0 < cs.length by omega]
   have h6 := (k6 0 (by omega) (by simp)).2;refine ⟨cs[0]'(by omega), ?_, CellD.rep h h6 h4⟩;simp only [YfZ, hv, asAddr, Sem.run_bind, Sem.run_pure, Result.andThen_ok, loadVar, h3 w, Bool.false_eq_true, if_false, run_load, hc]
theorem RetRs.rep {cx : Cx} {F : Nat -> Prop} {ρ : Nat -> Value} {e : Env} {σ : Obs} {a : Act} {w : World} (h : R0 cx F ρ e σ a w) : ∀ {rs : List ResultVar} {ds : List D}, RetRs cx.P e σ rs ds ->
 ∃ vs, (List.mapM (YfZ a.tmps) rs : Sem (List Value)).run cx.P w = .ok vs w /\ RepL (endF F ρ σ) w vs ds
 | [], [], _ => ⟨[], rfl, RepL.nil⟩
 | r :: rs, d :: ds, hd => by
  obtain ⟨v, h1, h2⟩ := hd.1.rep h;obtain ⟨vs, h3, h4⟩ := RetRs.rep h hd.2;refine ⟨v :: vs, ?_, RepL.cons h2 h4⟩;rw [List.mapM_cons, Sem.run_bind, h1]
  simp only [Result.andThen_ok, Sem.run_bind, h3, Sem.run_pure]
 | [], _ :: _, hd => hd.elim
 | _ :: _, [], hd => hd.elim
section
variable {cx : Cx} {ops : Array Oper} {o : Oper} {rest : List Oper} {e : Env} {σ : Obs} {Q : Post}
theorem AOps.storeS {t id off i : Nat} {x y : Operand} {ss : List S} (hg : o.guard = none) (ht : o.dst = none) (ho : o.op = .store t x y) (hs : ∀ w, (sizeOf t).run cx.P w = .ok 1 w) (hx : e.ev x = .ptr id off) (hm : (id, Ob.cells ss) ∈ σ) (hy : e.ev y = .own i)
 {ee size : Nat} {els : List (List D)} (hmi : (i, Ob.row ee size els) ∈ σ) (hle : off < ss.length) (k : AOps cx ops rest e (Obs.upd id (.cells (ss.take off ++ [S.own i] ++ ss.drop (off + 1))) σ) Q) : AOps cx ops (o :: rest) e σ Q := by
 intro a w ⟨F, ρ, hr⟩;obtain ⟨g, ty, cs, hv, hρ, hB, hF, hh, hcl, hcs⟩ := cells_of hr hx hm;have h2 := Ya1 (e := e) (x := y) (a := a) (fun t _ => hr.env t);rw [hy] at h2;obtain ⟨xs, hown, _⟩ := hr.obs.ok _ hmi;dsimp only at hown;have hvy : a.eval y = ρ i := by generalize a.eval y = v at h2; cases h2; rfl
 have hone : (ρ i).oneCell' = true := by rcases hown.2 with ⟨h3, _⟩ | ⟨g', cap, cur, h3, _⟩ <;> rw [h3] <;> rfl
 have hcell : (a.eval y).cells = #[ρ i] := by rw [hvy]; rcases hown.2 with ⟨h3, _⟩ | ⟨g', cap, cur, h3, _⟩ <;> rw [h3] <;> rfl
 obtain ⟨w', h5, h6, h7⟩ := Ycf (P := cx.P) (off := off) (v := a.eval y) (size := 1) hs (by rw [hcell]; rfl) hh (by omega) (by rw [hcell]; intro u hu; simp at hu; rw [hu]; exact hone);refine wpList_plain hg fun K hK => ?_
 unfold Oper.wp execOp;simp only [ho, Instr.storeAt, hv, Instr.sureAddr, Sem.run_bind, Sem.run_pure, Result.andThen_ok, h5];refine hK _ _ (k _ _ ⟨F, ρ, ?_⟩);rw [ht];rw [hcell] at h7
 exact hr.write hρ hm hB hF h6 h7 (by simp; omega) (fun j hj hj' => by
  by_cases j1 : j < off
  ·rw [ZgL (by simp; omega), ZgL (by simp; omega), ZgL (by simp; omega), ZgL (by simp; omega), List.getElem_take, List.getElem_take];exact hcs j (by omega) (by omega)
  ·by_cases j2 : j < off + 1
   ·have : j = off := by omega
    subst this;rw [ZgL (by simp; omega), ZgR (by simp; omega), ZgL (by simp; omega), ZgR (by simp; omega)];have e1 : (List.take j cs).length = j := by simp; omega
    have e2 : (List.take j ss).length = j := by simp; omega
    simp only [e1, e2, Nat.sub_self, List.getElem_cons_zero];exact ⟨hone, .own i⟩
   ·rw [ZgR (by simp; omega), ZgR (by simp; omega), List.getElem_drop, List.getElem_drop];have e1 : (List.take off cs ++ (#[ρ i] : Array Value).toList).length = off + 1 := by simp; omega
    have e2 : (List.take off ss ++ [S.own i]).length = off + 1 := by simp; omega
    simp only [e1, e2]
    exact hcs _ _ _)
end
theorem AWP.bound {cx : Cx} {c : Code} {e : Env} {σ : Obs} {Q : Post} (t : Nat) {els : List (List D)} (h : e t = .d (.sl els)) (k : els.length <= 9223372036854775807 -> AWP cx c e σ Q) : AWP cx c e σ Q := by
 intro a w ⟨F, ρ, hr⟩;have h1 := hr.env t;rw [h] at h1;refine k ?_ a w ⟨F, ρ, hr⟩
 rcases YbY (Yag h1) with ⟨_, h2⟩ | ⟨ad, cap, size, vs, _, h2, h3, _⟩
 ·subst h2; simp
 ·omega
def ArgV (e : Env) (σ : Obs) (x : Operand) (d : D) : Prop := ArgOk e x d \/ ∃ id ee size els, e.ev x = .own id /\ (id, Ob.row ee size els) ∈ σ /\ d = .sl els
theorem ArgV.own {e : Env} {σ : Obs} {x : Operand} {id ee size : Nat} {els : List (List D)} (h : e.ev x = .own id) (hm : (id, Ob.row ee size els) ∈ σ) : ArgV e σ x (.sl els) := .inr ⟨id, ee, size, els, h, hm, rfl⟩
theorem ArgV.d {e : Env} {σ : Obs} {x : Operand} {d : D} (h : e.ev x = .d d) : ArgV e σ x d := .inl (.rfl' h)
theorem ob_rep {B : Nat} {F : Nat -> Prop} {ρ : Nat -> Value} {w : World} {σ : Obs} (h : ObsOk B F ρ w σ) {id ee size : Nat} {els : List (List D)} (hm : (id, Ob.row ee size els) ∈ σ) : Rep (endF F ρ σ) w (ρ id) (.sl els) := by
 obtain ⟨xs, h1, h2, h3, _⟩ := h.ok _ hm;dsimp only at h1;have hb : ∀ g, blk (ρ id) = some g -> endF F ρ σ g := fun g hg => .inr ⟨_, hm, hg⟩
 generalize ρ id = v at *
 rcases h1.2 with ⟨rfl, h4⟩ | ⟨g, cap, cur, rfl, hg, hh, hn, hmx, hcs, ht⟩
 ·have : els = [] := List.eq_nil_of_length_eq_zero h4;subst this;exact .nil
 ·refine .sl ⟨g, 0, none⟩ cap size els xs hn (by unfold maxLen at hmx; omega) (fun _ => hb g J) h2 ?_ (fun i j hi hj => (h3 i hi j (by rw [h2]; exact hj)).1) (fun i hi j hj => (h3 i hi j hj).2.mono (fun b hb => .inl hb) fun _ _ => J);intro i j hi hj;exact World.ownsRow.cells h1 (g := g) J _ _ (YaE xs size els.length i j hi hj)
theorem R0.writeOb {cx : Cx} {F : Nat -> Prop} {ρ : Nat -> Value} {e : Env} {σ : Obs} {a : Act} {w w' : World} (hr : R0 cx F ρ e σ a w) {id g : Nat} {ob ob' : Ob} (hblk : blk (ρ id) = some g) (hm : (id, ob) ∈ σ)
 (hB : cx.B <= g) (hF : ¬ F g) (ht : Turn w w' (some g)) (hob : ObOk cx.B F ρ w' id ob') : R0 cx F ρ e (Obs.upd id ob' σ) a w' := by
 have keep : ∀ {x : Value} {s : S}, RepS F ρ w x s -> RepS F ρ w' x s := fun h => h.turn hr.lt (fun g' hg' => by rw [<- Option.some.inj hg']; exact hF) ht (fun b hb => hb)
 refine ⟨hr.size, hr.defers, fun b hb => Nat.lt_of_lt_of_le (hr.lt b hb) ht.size, hr.base, hr.new, hr.below.turn ht (fun g' hg' => by rw [<- Option.some.inj hg']; exact hr.kown _ hm g hblk), ZnT hr.hB ht.size, fun t => keep (hr.env t), ?_, hr.up, fun p hp => by
  rcases Obs.mem_upd hp with ⟨h1, _⟩ | ⟨h1, _⟩
  ·rw [h1]; exact fun g hg => hr.kown (id, ob) hm g hg
  ·exact hr.kown p h1, hr.fixed⟩
 have hmem : ∀ p, p ∈ Obs.upd id ob' σ -> p.1 = id -> p = (id, ob') := fun p hp he => by
  rcases Obs.mem_upd hp with ⟨h1, _⟩ | ⟨_, h2⟩
  ·exact h1
  ·exact absurd he h2
 have hold : ∀ p, p ∈ Obs.upd id ob' σ -> p.1 ≠ id -> p ∈ σ := fun p hp he => by
  rcases Obs.mem_upd hp with ⟨h1, _⟩ | ⟨h1, _⟩
  ·rw [h1] at he; exact absurd rfl he
  ·exact h1
 refine ⟨fun p hp => ?_, fun p hp q hq hne g' hg' => ?_, fun p hp q hq he => ?_⟩
 ·by_cases hpi : p.1 = id
  ·rw [hmem p hp hpi]; exact hob
  ·have hp' := hold p hp hpi;have h1 := hr.obs.ok p hp'
   have hne : ∀ g', blk (ρ p.1) = some g' -> (some g) ≠ some g' := fun g' hg' he => by
    have := hr.obs.apart p hp' _ hm hpi g' hg';rw [hblk, he] at this;exact this J
   obtain ⟨i, ob2⟩ := p
   cases ob2 with
   | row ee size els =>
    obtain ⟨xs, h2, h3, h4, h5⟩ := h1
    exact ⟨xs, Ybk h2 ht hne, h3, fun k hk j hj => ⟨(h4 k hk j hj).1, Yag (keep (.d (h4 k hk j hj).2))⟩, h5⟩
   | cells ss2 =>
    obtain ⟨g2, e2, cs2, h2, h3, h4, h5, h6, h7⟩ := h1;refine ⟨g2, e2, cs2, h2, h3, h4, ?_, h6, fun j hj hj' => ⟨(h7 j hj hj').1, keep (h7 j hj hj').2⟩⟩;rw [ht.block g2 (ZaS.1 h5).1 (fun he => hne g2 (by rw [h2]; rfl) he.symm)]
    exact h5
   | cellsT ty0 ss2 =>
    obtain ⟨g2, cs2, h2, h3, h4, h5, h6, h7⟩ := h1;refine ⟨g2, cs2, h2, h3, h4, ?_, h6, fun j hj hj' => ⟨(h7 j hj hj').1, keep (h7 j hj hj').2⟩⟩;rw [ht.block g2 (ZaS.1 h5).1 (fun he => hne g2 (by rw [h2]; rfl) he.symm)]
    exact h5
   | map M =>
    obtain ⟨g2, es, cl, h2, h3, h4, h5, h6, h7⟩ := h1;refine ⟨g2, es, cl, h2, h3, h4, ?_, h6, fun j hj hj' => ⟨(h7 j hj hj').1, Yag (keep (.d (h7 j hj hj').2))⟩⟩;rw [ht.block g2 (ZaS.1 h5).1 (fun he => hne g2 (by rw [h2]; rfl) he.symm)]
    exact h5
   | rowS ee size els =>
    obtain ⟨xs, h2, h3, h4, h5⟩ := h1
    exact ⟨xs, Ybk h2 ht hne, h3, fun k hk j hj => ⟨(h4 k hk j hj).1, keep (h4 k hk j hj).2⟩, h5⟩
   | bts l =>
    obtain ⟨g2, e2, cap2, cur2, fz2, h2, h3, h4, h5, h6⟩ := h1;refine ⟨g2, e2, cap2, cur2, fz2, h2, h3, h4, ?_, h6⟩;rw [ht.block g2 (ZaS.1 h5).1 (fun he => hne g2 (by rw [h2]; rfl) he.symm)]
    exact h5
   | raw p =>
    obtain ⟨g2, ob2, h2, h3, h4, h5, h6⟩ := h1;refine ⟨g2, ob2, h2, h3, h4, ?_, h6⟩;rw [ht.block g2 (ZaS.1 h5).1 (fun he => hne g2 h2 he.symm)]
    exact h5
   | mapS M =>
    obtain ⟨g2, es, cl, h2, h3, h4, h5, h6, h7⟩ := h1;refine ⟨g2, es, cl, h2, h3, h4, ?_, h6, fun j hj hj' => ⟨(h7 j hj hj').1, keep (h7 j hj hj').2⟩⟩;rw [ht.block g2 (ZaS.1 h5).1 (fun he => hne g2 (by rw [h2]; rfl) he.symm)]
    exact h5
   | val ss =>
    obtain ⟨cs, h2, h3, h4⟩ := h1
    exact ⟨cs, h2, h3, fun j hj hj' => ⟨(h4 j hj hj').1, keep (h4 j hj hj').2⟩⟩
   | iter M done =>
    obtain ⟨g2, b2, es, cl, sn, c0, h2, h3, h4, h5, h6, h7, h8, h9⟩ := h1;refine ⟨g2, b2, es, cl, sn, c0, h2, h3, h4, ?_, h6, ?_, h8, fun j hj hj' => ⟨(h9 j hj hj').1, Yag (keep (.d (h9 j hj hj').2))⟩⟩
    ·rw [ht.block g2 (ZaS.1 h5).1 (fun he => hne g2 (by rw [h2]; rfl) he.symm)];exact h5
    ·rw [ht.block b2 (hr.lt b2 h6) (fun he => hF (by rw [<- Option.some.inj he]; exact h6))];exact h7
 ·by_cases hpi : p.1 = id
  ·have hq' := hold q hq (fun he => hne (by rw [hpi, he]));rw [hpi] at hg' hne;exact hr.obs.apart _ hm q hq' hne g' hg'
  ·have hp' := hold p hp hpi
   by_cases hqi : q.1 = id
   ·rw [hqi] at hne ⊢;exact hr.obs.apart p hp' _ hm hne g' hg'
   ·exact hr.obs.apart p hp' q (hold q hq hqi) hne g' hg'
 ·by_cases hpi : p.1 = id
  ·rw [hmem p hp hpi, hmem q hq (by rw [<- he, hpi])]
  ·exact hr.obs.uniq p (hold p hp hpi) q (hold q hq (by rw [<- he]; exact hpi)) he
theorem flat_store (xs : Nat -> Nat -> Value) (n size k j : Nat) (vs : List Value) (hk : k < n) (hj : j + vs.length <= size) :
 (flat xs n size).take (k * size + j) ++ vs ++ (flat xs n size).drop (k * size + j + vs.length) = flat (fun i q => if i = k /\ j <= q /\ q < j + vs.length then vs.getD (q - j) undef else xs i q) n size := by
 have hle : k * size + size <= n * size := by rw [<- Nat.succ_mul]; exact Nat.mul_le_mul_right _ hk
 apply List.ext_getElem?;intro p
 by_cases hp : p < n * size
 ·have hs0 : 0 < size := by
   rcases Nat.eq_zero_or_pos size with h | h
   ·subst h; omega
   ·exact h
  have e1 : p = (p / size) * size + p % size := by rw [Nat.mul_comm]; exact (Nat.div_add_mod p size).symm
  have hlt1 : p / size < n := Nat.div_lt_of_lt_mul (by rw [Nat.mul_comm]; exact hp);have hlt2 : p % size < size := Nat.mod_lt _ hs0;have hR := YaE (fun i q => if i = k /\ j <= q /\ q < j + vs.length then vs.getD (q - j) undef else xs i q) size n (p / size) (p % size) hlt1 hlt2;have hL := YaE xs size n (p / size) (p % size) hlt1 hlt2;rw [<- e1] at hR hL;have hR' : (flat (fun i q => if i = k /\ j <= q /\ q < j + vs.length then vs.getD (q - j) undef else xs i q) n size)[p]? = _ := hR;have hL' : (flat xs n size)[p]? = some (xs (p / size) (p % size)) := hL;rw [hR', get3];have hfl := Yar xs n size;rw [ZlT, hfl, Nat.min_eq_left (by omega)]
  have cmp1 : p < k * size + j -> ¬ (p / size = k /\ j <= p % size /\ p % size < j + vs.length) := by
   rintro h ⟨h1, h2, _⟩;rw [h1] at e1; omega
  have cmp2 : k * size + j <= p -> p < k * size + j + vs.length -> p / size = k /\ p % size = p - k * size := by
   intro h1 h2;have h3 : p / size = k := Nat.div_eq_of_lt_le (by omega) (by rw [Nat.add_mul]; omega);exact ⟨h3, by rw [h3] at e1; omega⟩
  by_cases c1 : p < k * size + j
  ·rw [if_pos c1, ZgT, if_pos c1, hL', if_neg (cmp1 c1)]
  ·rw [if_neg c1]
   by_cases c2 : p < k * size + j + vs.length
   ·obtain ⟨h1, h2⟩ := cmp2 (by omega) c2;rw [if_pos c2, if_pos ⟨h1, by omega, by omega⟩, h2, show p - k * size - j = p - (k * size + j) by omega, ZgD, ZgE (by omega)];rfl
   ·rw [if_neg c2, ZgO, show k * size + j + vs.length + (p - (k * size + j + vs.length)) = p by omega, hL', if_neg];rintro ⟨h1, h2, h3⟩;rw [h1] at e1; omega
 ·rw [List.getElem?_eq_none (by simp [Yar]; omega), List.getElem?_eq_none (by rw [Yar]; omega)]
section
variable {cx : Cx} {ops : Array Oper} {o : Oper} {rest : List Oper} {e : Env} {σ : Obs} {Q : Post}
theorem R0.newRow {cx : Cx} {F : Nat -> Prop} {ρ : Nat -> Value} {e : Env} {σ : Obs} {a : Act} {w w' : World} (hr : R0 cx F ρ e σ a w) {id dst el size : Nat} {els : List (List D)} {v : Value} (hid : ∀ p ∈ σ, p.1 ≠ id) (hd : dst < cx.N) (hbel : Below w.heap.size w w')
 (hob : ObOk cx.B F (fun j => if j = id then v else ρ j) w' id (.row el size els)) (hnew : ∀ g, blk v = some g -> w.heap.size <= g) (hfx : cx.free id = true) :
 ∃ ρ', R0 cx F ρ' ((e.kill id).put (some dst) (.own id)) ((id, .row el size els) :: Obs.kill id σ) (a.put (some dst) v) w' := by
 refine ⟨fun j => if j = id then v else ρ j, ?_⟩;have hE : Ext F w F w' := Ext.of_below hr.lt hbel
 have h2 := hr.turn (ρ' := fun j => if j = id then v else ρ j) (id := id) (ob := .row el size els) (row := none) (w' := w') (F' := F) (fun j hj => by simp [hj])
  ⟨hE.below.os, hE.below.tape, hE.below.output, hE.below.size, fun k hk _ => hE.below.block k hk⟩ hfx (fun g hg => by simp at hg) (fun b hb => hb) (fun b hb => .inl hb) hE.lt hob
  (fun g hg => by rw [if_pos rfl] at hg; exact .inr (hnew g hg)) ((id, .row el size els) :: Obs.kill id σ) (fun p hp => by
   cases hp with
   | head => exact .inl rfl
   | tail _ hp => obtain ⟨q, hq, rfl⟩ := Obs.mem_kill hp; exact .inr ⟨q, hq, hid q hq, rfl⟩)
 exact h2.put (o := ⟨some dst, .ready 0, 0, "", #[], none⟩) (v := v) (s := .own id) (Ext.refl h2.lt) (by
  have := RepS.own (F := F) (ρ := fun j => if j = id then v else ρ j) (w := w') id
  simpa using this) (by simpa [DstOk, Nat.blt_eq] using hd)
theorem AOps.makeI {t el : TypeId} {l c : Operand} {size bytes dst : Nat} {z : Value} {m : Int} (id n : Nat) (hg : o.guard = none) (ht : o.dst = some dst) (hdn : Nat.blt dst cx.N = true) (ho : o.op = .makeSlice t l c) (T : ElemTy cx.P t el size bytes z)
 (hl : e.ev l = .d (.v (.int .i64 m))) (hc : e.ev c = .d (.v (.int .i64 m))) (hmn : m = n) (hb : bytes * n <= 281474976710656) (hn : n <= 9223372036854775807) (h1 : z.cells.toList.all (·.oneCell') = true) (hid : Obs.fresh id σ = true)
 (k : AOps cx ops rest ((e.kill id).put (some dst) (.own id)) ((id, .row el size (List.replicate n (z.cells.toList.map D.v))) :: Obs.kill id σ) Q) (hfx : cx.free id = true := by rfl) : AOps cx ops (o :: rest) e σ Q := by
 subst hmn;exact .make id hg ht hdn ho T hl hc hb hn h1 hid k hfx
end
section
variable {P : Program} {B : Nat} {ops : Array Oper} {o : Oper} {e : Env} {σ : Obs}
structure ArrT (P : Program) (t el n size : Nat) : Prop where
 ht : P.underlying t = some (.array n el)
 hs : ∀ w, (sizeOf el).run P w = .ok size w
theorem ArrT.of {t el n size : Nat} (h : P.underlying t = some (.array n el)) (h2 : (P.info? el).map (·.size) = some size) : ArrT P t el n size := ⟨h, SizeT.of h2⟩
end
def ownB (σ : Obs) (ρ : Nat -> Value) (b : Nat) : Prop := ∃ p ∈ σ, blk (ρ p.1) = some b
def RepSL (F : Nat -> Prop) (ρ : Nat -> Value) (w : World) (vs : List Value) (ss : List S) : Prop := vs.length = ss.length /\ ∀ i (h1 : i < vs.length) (h2 : i < ss.length), RepS F ρ w vs[i] ss[i]
structure XEnd (B : Nat) (F : Nat -> Prop) (ρ : Nat -> Value) (w : World) (σ : Obs) (F' : Nat -> Prop) (ρ' : Nat -> Value) (w' : World) (σ' : Obs) (chg : Nat -> Bool) : Prop where
 up : ∀ b, F b -> F' b
 new : ∀ b, F' b -> F b \/ (w.heap.size <= b \/ ownB σ ρ b)
 lt : ∀ b, F' b -> b < w'.heap.size
 kept : Kept (fun b => w.heap.size <= b \/ ownB σ ρ b) w w'
 obs : ObsOk B F' ρ' w' σ'
 own : ∀ p ∈ σ', ∀ g, blk (ρ' p.1) = some g -> w.heap.size <= g \/ ownB σ ρ g
 same : ∀ i, chg i = false -> ρ' i = ρ i
def XCall (P : Program) (f : FuncId) (ss : List S) (σ σ' : Obs) (chg : Nat -> Bool) (d : D) : Prop := Enters P f /\
 ∀ (F : Nat -> Prop) (ρ : Nat -> Value) (B : Nat) (w : World) (vs : List Value), (∀ b, F b -> b < w.heap.size) -> B <= w.heap.size -> ObsOk B F ρ w σ -> RepSL F ρ w vs ss ->
  Calls P f vs.toArray w fun e w' => ∃ v F' ρ', e = .returned v /\ Rep F' w' v d /\ XEnd B F ρ w σ F' ρ' w' σ' chg
theorem ObOk.more {B : Nat} {F F2 : Nat -> Prop} {ρ : Nat -> Value} {w : World} {id : Nat} {o : Ob} (h : ObOk B F ρ w id o) (hF : ∀ b, F b -> b < w.heap.size) (hu : ∀ b, F b -> F2 b) (hn : ∀ g, blk (ρ id) = some g -> ¬ F2 g) : ObOk B F2 ρ w id o := by
 cases o with
 | row e size els =>
  obtain ⟨xs, h1, h2, h3, h4⟩ := h
  exact ⟨xs, h1, h2, fun k hk j hj => ⟨(h3 k hk j hj).1, (h3 k hk j hj).2.mono hu fun _ _ => J⟩, hn⟩
 | cells ss =>
  obtain ⟨g, e, cs, h1, h2, h3, h4, h5, h6⟩ := h
  exact ⟨g, e, cs, h1, h2, hn g (by rw [h1]; rfl), h4, h5, fun j hj hj' => ⟨(h6 j hj hj').1, RepS.turn (row := none) (h6 j hj hj').2 hF (fun g hg => by simp at hg) ⟨rfl, rfl, rfl, ZnR _, fun _ _ _ => rfl⟩ hu⟩⟩
 | cellsT ty0 ss =>
  obtain ⟨g, cs, h1, h2, h3, h4, h5, h6⟩ := h
  exact ⟨g, cs, h1, h2, hn g (by rw [h1]; rfl), h4, h5, fun j hj hj' => ⟨(h6 j hj hj').1, RepS.turn (row := none) (h6 j hj hj').2 hF (fun g hg => by simp at hg) ⟨rfl, rfl, rfl, ZnR _, fun _ _ _ => rfl⟩ hu⟩⟩
 | map M =>
  obtain ⟨g, es, cl, h1, h2, h3, h4, h5, h6⟩ := h
  exact ⟨g, es, cl, h1, h2, hn g (by rw [h1]; rfl), h4, h5, fun j hj hj' => ⟨(h6 j hj hj').1, (h6 j hj hj').2.mono hu fun _ _ => rfl⟩⟩
 | rowS e size els =>
  obtain ⟨xs, h1, h2, h3, h4⟩ := h
  exact ⟨xs, h1, h2, fun k hk j hj => ⟨(h3 k hk j hj).1, RepS.turn (row := none) (h3 k hk j hj).2 hF (fun g hg => by simp at hg) ⟨rfl, rfl, rfl, ZnR _, fun _ _ _ => rfl⟩ hu⟩, hn⟩
 | bts l =>
  obtain ⟨g, e, cap, cur, fz, h1, h2, h3, h4, h5⟩ := h
  exact ⟨g, e, cap, cur, fz, h1, h2, hn g (by rw [h1]; rfl), h4, h5⟩
 | raw p =>
  obtain ⟨g, ob, h1, h2, h3, h4, h5⟩ := h
  exact ⟨g, ob, h1, h2, hn g h1, h4, h5⟩
 | mapS M =>
  obtain ⟨g, es, cl, h1, h2, h3, h4, h5, h6⟩ := h
  exact ⟨g, es, cl, h1, h2, hn g (by rw [h1]; rfl), h4, h5, fun j hj hj' => ⟨(h6 j hj hj').1, RepS.turn (row := none) (h6 j hj hj').2 hF (fun g hg => by simp at hg) ⟨rfl, rfl, rfl, ZnR _, fun _ _ _ => rfl⟩ hu⟩⟩
 | val ss =>
  obtain ⟨cs, h1, h2, h3⟩ := h
  exact ⟨cs, h1, h2, fun j hj hj' => ⟨(h3 j hj hj').1, RepS.turn (row := none) (h3 j hj hj').2 hF (fun g hg => by simp at hg) ⟨rfl, rfl, rfl, ZnR _, fun _ _ _ => rfl⟩ hu⟩⟩
 | iter M done =>
  obtain ⟨g, b, es, cl, sn, c0, h1, h2, h3, h4, h5, h6, h7, h8⟩ := h;exact ⟨g, b, es, cl, sn, c0, h1, h2, hn g (by rw [h1]; rfl), h4, hu b h5, h6, h7, fun j hj hj' => ⟨(h8 j hj hj').1, (h8 j hj hj').2.mono hu fun _ _ => rfl⟩⟩
def Env.argsS : Nat -> List S -> Env
 | _, [] => fun _ => .d .any
 | k, d :: ds => fun u => match Nat.beq u k with | true => d | false => Env.argsS (k + 1) ds u
theorem Env.argsS_get : ∀ (ds : List S) (k t : Nat), (h : t < ds.length) -> Env.argsS k ds (k + t) = ds[t]
 | [], _, _, h => absurd h (by simp)
 | d :: ds, k, t, h => by
  cases t with
  | zero => simp [Env.argsS]
  | succ t =>
   have hb : Nat.beq (k + (t + 1)) k = false := by rw [Bool.eq_false_iff]; intro hh; have := Nat.eq_of_beq_eq_true hh; omega
   simp only [Env.argsS, hb];have := Env.argsS_get ds (k + 1) t (by simpa using h);rw [show k + (t + 1) = k + 1 + t by omega, this];simp
theorem Env.argsS_out : ∀ (ds : List S) (k t : Nat), (h : ds.length <= t) -> Env.argsS k ds (k + t) = .d .any
 | [], _, _, _ => rfl
 | d :: ds, k, t, h => by
  have hb : Nat.beq (k + t) k = false := by rw [Bool.eq_false_iff]; intro hh; have := Nat.eq_of_beq_eq_true hh; simp at h; omega
  simp only [Env.argsS, hb];have := Env.argsS_out ds (k + 1) (t - 1) (by simp at h; omega);rw [show k + t = k + 1 + (t - 1) by simp at h; omega, this]
def RetDX (e : Env) (σ σ' : Obs) (t : Nat) (d : D) : Prop := (∃ d0, e t = .d d0 /\ Le d0 d) \/ ∃ id ee size els, e t = .own id /\ (id, Ob.row ee size els) ∈ σ /\ (∀ q ∈ σ', q.1 ≠ id) /\ d = .sl els
theorem RetDX.eq {e : Env} {σ σ' : Obs} {t : Nat} {d d' : D} (h : e t = .d d) (hd : d = d') : RetDX e σ σ' t d' := .inl ⟨d, h, Le.of_eq hd⟩
theorem RetDX.own {e : Env} {σ σ' : Obs} {t id ee size : Nat} {els els' : List (List D)} (h : e t = .own id) (hm : (id, Ob.row ee size els) ∈ σ) (hn : Obs.fresh id σ' = true) (hd : els = els') : RetDX e σ σ' t (.sl els') :=
 .inr ⟨id, ee, size, els, h, hm, Obs.fresh_spec hn, by rw [hd]⟩
def RetLX (e : Env) (σ σ' : Obs) : List Nat -> List D -> Prop
 | [], [] => True
 | t :: ts, d :: ds => RetDX e σ σ' t d /\ RetLX e σ σ' ts ds
 | _, _ => False
def AllIn (σ : Obs) : Obs -> Prop
 | [] => True
 | p :: l => p ∈ σ /\ AllIn σ l
theorem AllIn.mem {σ : Obs} : ∀ {l : Obs}, AllIn σ l -> ∀ p ∈ l, p ∈ σ
 | [], _, p, hp => by cases hp
 | x :: l, h, p, hp => by
  cases hp with
  | head => exact h.1
  | tail _ hp => exact h.2.mem p hp
def RetX (ts : List Nat) (ds : List D) (σ' : Obs) : Post := fun ex e σ => match ex with
 | .ret => RetLX e σ σ' ts ds /\ AllIn σ σ'
 | .normal => RetLX e σ σ' ts ds /\ AllIn σ σ'
 | _ => False
def endFX (F : Nat -> Prop) (ρ : Nat -> Value) (σ σ' : Obs) : Nat -> Prop := fun b => F b \/ ∃ p ∈ σ, (∀ q ∈ σ', q.1 ≠ p.1) /\ blk (ρ p.1) = some b
theorem RetDX.rep {cx : Cx} {F : Nat -> Prop} {ρ : Nat -> Value} {e : Env} {σ σ' : Obs} {a : Act} {w : World} (h : R0 cx F ρ e σ a w) {t : Nat} {d : D} (hd : RetDX e σ σ' t d) : Rep (endFX F ρ σ σ') w (a.tmps.getD t undef) d := by
 have hx := h.env t
 rcases hd with ⟨d0, h1, h2⟩ | ⟨id, ee, size, els, h1, h2, h3, rfl⟩
 ·rw [h1] at hx;exact h2 _ _ _ ((Yag hx).mono (fun b hb => .inl hb) fun _ _ => J)
 ·rw [h1] at hx;generalize a.tmps.getD t undef = x at hx;cases hx;exact h.rep_row h2 (fun b hb => .inl hb) (fun g hg => .inr ⟨_, h2, h3, hg⟩)
theorem RetLX.rep {cx : Cx} {F : Nat -> Prop} {ρ : Nat -> Value} {e : Env} {σ σ' : Obs} {a : Act} {w : World} (h : R0 cx F ρ e σ a w) : ∀ {ts : List Nat} {ds : List D}, RetLX e σ σ' ts ds -> RepL (endFX F ρ σ σ') w (ts.map fun t => a.tmps.getD t undef) ds
 | [], [], _ => RepL.nil
 | _ :: _, _ :: _, hd => RepL.cons (hd.1.rep h) (RetLX.rep h hd.2)
 | [], _ :: _, hd => hd.elim
 | _ :: _, [], hd => hd.elim
theorem xcall_of {P : Program} {f : FuncId} {fn : Func} {c : Code} {n : Nat} {ss : List S} {σ σ' : Obs} {chg : Nat -> Bool} {ds' : List D} (hf : P.funcs[f]? = some fn) (hb : fn.body = some c) (hn : (fn.name == "runtime.NumGoroutine") = false) (hN : fn.ntmps = n)
 (ts : List Nat) (hr : fn.results = (ts.map ResultVar.tmp).toArray) (hle' : Nat.ble ss.length n = true)
 (h : ∀ B w0 F0 fr ρ0, AWP ⟨P, n, B, w0, F0, fr, fun i => !(chg i), ρ0⟩ c (Env.argsS 0 ss) σ (RetX ts ds' σ')) : XCall P f ss σ σ' chg (retOf ds') := by
 have hle : ss.length <= n := ZnB hle';refine ⟨Enters.of hf hn (by rw [hb]; rfl), fun F ρ B w vs hF hB hσ hv => ?_⟩;refine calls_of_wp hf hb ?_
 have hR : R ⟨P, n, B, w, F, (fun b => w.heap.size <= b \/ ownB σ ρ b), fun i => !(chg i), ρ⟩ (Env.argsS 0 ss) σ { tmps := vs.toArray ++ Array.replicate (fn.ntmps - vs.toArray.size) undef, defers := [] } w := by
  refine ⟨F, ρ, ?_, J, hF, fun b hb => hb, fun b hb => .inl hb, Kept.refl _ _, hB, fun t => ?_, hσ, fun b hb => .inl hb, fun p hp g hg => .inr ⟨p, hp, hg⟩, fun i _ => J⟩
  ·simp [hN, hv.1]; omega
  ·by_cases ht : t < ss.length
   ·have := Env.argsS_get ss 0 t ht;rw [Nat.zero_add] at this;rw [this];have hvt : t < vs.length := by rw [hv.1]; exact ht
    have : (vs.toArray ++ Array.replicate (fn.ntmps - vs.toArray.size) undef).getD t undef = vs[t] := by
     rw [ZaD, Array.getElem?_append_left (by simpa using hvt)];simp [hvt]
    rw [this];exact hv.2 t hvt ht
   ·have := Env.argsS_out ss 0 t (by omega);rw [Nat.zero_add] at this;rw [this];exact .d (.any _)
 refine wp_mono (h _ _ _ _ _ _ _ hR) ?_;rintro ex a w' ⟨e', σe, hq, F', ρ', hr'⟩
 have hres : (results fn a.tmps).run P w' = .ok (match ts.map fun t => a.tmps.getD t undef with | [x] => x | l => .tuple l.toArray) w' := by
  have key : ∀ (ts : List Nat), (List.mapM (fun r => match r with | .tmp t => pure (a.tmps.getD t undef) | .cell b t => do loadVar t (<- asAddr (a.tmps.getD b undef))) (ts.map ResultVar.tmp) : Sem (List Value)).run P w' = .ok (ts.map fun t => a.tmps.getD t undef) w' := by
   intro ts
   induction ts with
   | nil => rfl
   | cons t ts ih =>
    rw [List.map_cons, List.mapM_cons, Sem.run_bind];simp only [Sem.run_pure, Result.andThen_ok, Sem.run_bind, ih, List.map_cons]
  unfold results;rw [hr, Sem.run_bind]
  have h2 : (Array.mapM (fun r => match r with | ResultVar.tmp t => pure (a.tmps.getD t undef) | ResultVar.cell b t => do loadVar t (<- asAddr (a.tmps.getD b undef))) (ts.map ResultVar.tmp).toArray : Sem (Array Value)).run P w' = .ok (ts.map fun t => a.tmps.getD t undef).toArray w' := by
   rw [List.mapM_toArray, Sem.run_map, key];rfl
  have h3 := h2;refine (congrArg (fun r => Result.andThen r _) h3).trans ?_;simp only [Result.andThen_ok]
  rcases ts with _ | ⟨t, _ | ⟨t2, ts⟩⟩ <;> rfl
 have hends : RetLX e' σe σ' ts ds' /\ AllIn σe σ' -> bodyPost P fn (fun e w' => ∃ v F' ρ', e = .returned v /\ Rep F' w' v (retOf ds') /\ XEnd B F ρ w σ F' ρ' w' σ' chg) .ret a w' := by
  rintro ⟨hq, hin⟩;have hl := hq.rep hr';have hin := hin.mem;refine ⟨hr'.defers, _, hres, _, endFX F' ρ' σe σ', ρ', J, ?_, ?_⟩
  ·generalize (ts.map fun t => a.tmps.getD t undef) = vs' at hl;obtain ⟨h1, h2⟩ := hl
   rcases ds' with _ | ⟨d, _ | ⟨d2, ds'⟩⟩
   ·have : vs' = [] := List.eq_nil_of_length_eq_zero h1;subst this;exact .tup [] [] rfl (fun i h1 => absurd h1 (by simp))
   ·rcases vs' with _ | ⟨x, _ | ⟨y, vs'⟩⟩ <;> simp at h1
    exact h2 0 (by simp) (by simp)
   ·rcases vs' with _ | ⟨x, _ | ⟨y, vs'⟩⟩
    ·simp at h1
    ·simp at h1
    ·exact .tup _ _ h1 h2
  ·have hlt : ∀ b, endFX F' ρ' σe σ' b -> b < w'.heap.size := by
    rintro b (hb | ⟨p, hp, _, hb⟩)
    ·exact hr'.lt b hb
    ·exact ((hr'.obs.ok p hp).blk_lt hb).2
   refine ⟨fun b hb => .inl (hr'.base b hb), ?_, hlt, hr'.below, ⟨fun p hp => ?_, fun p hp q hq => hr'.obs.apart p (hin p hp) q (hin q hq), fun p hp q hq => hr'.obs.uniq p (hin p hp) q (hin q hq)⟩, fun p hp => hr'.kown p (hin p hp), fun i hi => hr'.fixed i (by show (!(chg i)) = true; rw [hi]; rfl)⟩
   ·rintro b (hb | ⟨p, hp, _, hb⟩)
    ·exact hr'.new b hb
    ·exact .inr (hr'.kown p hp b hb)
   ·refine (hr'.obs.ok p (hin p hp)).more hr'.lt (fun b hb => .inl hb) ?_;rintro g hg (hf | ⟨q, hq, hne, hb⟩)
    ·exact (hr'.obs.ok p (hin p hp)).nF hg hf
    ·exact hr'.obs.apart p (hin p hp) q hq (hne p hp) g hg hb
 cases ex with
 | ret => exact hends hq
 | normal => exact hends hq
 | exit id => exact hq.elim
 | goto l => exact hq.elim
 | panic c => exact hq.elim
 | outgrown => exact hq.elim
def S.killP (c : Nat -> Bool) : S -> S
 | .own i => match c i with | true => .d .any | false => .own i
 | .ptr i off => match c i with | true => .d .any | false => .ptr i off
 | .d x => .d x
 | .clo f caps => match Cap.anyP c caps with | true => .d .any | false => .clo f caps
def Env.killP (c : Nat -> Bool) (e : Env) : Env := fun t => (e t).killP c
def Ob.killP (c : Nat -> Bool) : Ob -> Ob
 | .row e size els => .row e size els
 | .cells ss => .cells (ss.map (S.killP c))
 | .cellsT e ss => .cellsT e (ss.map (S.killP c))
 | .map M => .map M
 | .rowS e size els => .rowS e size (els.map fun ss => ss.map (S.killP c))
 | .bts l => .bts l
 | .raw p => .raw p
 | .mapS M => .mapS (M.map fun p => (p.1, p.2.killP c))
 | .val ss => .val (ss.map (S.killP c))
 | .iter M done => .iter M done
def Obs.killP (c : Nat -> Bool) : Obs -> Obs
 | [] => []
 | p :: l => (p.1, p.2.killP c) :: Obs.killP c l
def Obs.dels : Obs -> Obs -> Obs
 | [], σ => σ
 | p :: l, σ => Obs.dels l (Obs.del p.1 σ)
def Obs.join : Obs -> Obs -> Obs
 | [], σ => σ
 | p :: l, σ => p :: Obs.join l σ
def Obs.allIds (c : Nat -> Bool) : Obs -> Bool
 | [] => true
 | p :: l => c p.1 && Obs.allIds c l
theorem Obs.allIds_mem {c : Nat -> Bool} : ∀ {σ : Obs}, Obs.allIds c σ = true -> ∀ p ∈ σ, c p.1 = true
 | [], _, p, hp => by cases hp
 | x :: l, h, p, hp => by
  simp only [Obs.allIds, ZbA] at h
  cases hp with
  | head => exact h.1
  | tail _ hp => exact Obs.allIds_mem h.2 p hp
theorem Obs.mem_join {a b : Obs} {p : Nat × Ob} : p ∈ Obs.join a b -> p ∈ a \/ p ∈ b := by
 induction a with
 | nil => exact fun h => .inr h
 | cons x l ih =>
  intro h
  cases h with
  | head => exact .inl (.head _)
  | tail _ h => exact (ih h).imp (.tail _) id
theorem Obs.mem_killP {c : Nat -> Bool} : ∀ {σ : Obs} {p : Nat × Ob}, p ∈ Obs.killP c σ -> ∃ q ∈ σ, p = (q.1, q.2.killP c)
 | [], _, h => by cases h
 | x :: l, p, h => by
  unfold Obs.killP at h
  cases h with
  | head => exact ⟨x, by simp, rfl⟩
  | tail _ h => obtain ⟨q, hq, he⟩ := Obs.mem_killP h; exact ⟨q, List.mem_cons_of_mem _ hq, he⟩
theorem Obs.mem_dels : ∀ {l σ : Obs} {p : Nat × Ob}, p ∈ Obs.dels l σ -> p ∈ σ /\ ∀ q ∈ l, p.1 ≠ q.1
 | [], _, _, h => ⟨h, fun q hq => by cases hq⟩
 | x :: l, σ, p, h => by
  obtain ⟨h1, h2⟩ := Obs.mem_dels (l := l) h;obtain ⟨h3, h4⟩ := Obs.mem_del h1;refine ⟨h3, fun q hq => ?_⟩
  cases hq with
  | head => exact h4
  | tail _ hq => exact h2 q hq
theorem RepS.over {F F' : Nat -> Prop} {ρ ρ' : Nat -> Value} {w w' : World} {x : Value} {s : S} {chg : Nat -> Bool} (h : RepS F ρ w x s) (hu : ∀ b, F b -> F' b) (hw : ∀ b, F b -> w'.heap[b]? = w.heap[b]?) (hρ : ∀ i, chg i = false -> ρ' i = ρ i) : RepS F' ρ' w' x (s.killP chg) := by
 cases h with
 | d h => exact .d (h.mono hu hw)
 | own i =>
  cases hb : chg i with
  | true => simp only [S.killP, hb]; exact .d (.any _)
  | false => simp only [S.killP, hb]; rw [<- hρ i hb]; exact .own i
 | ptr i off g h =>
  cases hb : chg i with
  | true => simp only [S.killP, hb]; exact .d (.any _)
  | false => simp only [S.killP, hb]; exact .ptr i off g (by rw [hρ i hb]; exact h)
 | clo f cs caps h =>
  cases hb : Cap.anyP chg caps with
  | true => simp only [S.killP, hb]; exact .d (.any _)
  | false => simp only [S.killP, hb]; exact .clo f cs caps (h.to chg (fun _ _ h => h.mono hu hw) hρ hb)
theorem ObOk.over {B : Nat} {F F' : Nat -> Prop} {ρ ρ' : Nat -> Value} {w w' : World} {id : Nat} {o : Ob} {chg : Nat -> Bool} (h : ObOk B F ρ w id o) (hid : chg id = false) (hu : ∀ b, F b -> F' b) (hw : ∀ b, F b -> w'.heap[b]? = w.heap[b]?) (hρ : ∀ i, chg i = false -> ρ' i = ρ i)
 (hg : ∀ g, blk (ρ id) = some g -> w'.heap[g]? = w.heap[g]? /\ ¬ F' g) : ObOk B F' ρ' w' id (o.killP chg) := by
 cases o with
 | row e size els =>
  obtain ⟨xs, h1, h2, h3, h4⟩ := h;refine ⟨xs, ?_, h2, fun k hk j hj => ⟨(h3 k hk j hj).1, (h3 k hk j hj).2.mono hu hw⟩, fun g hg' => (hg g (by rw [<- hρ id hid]; exact hg')).2⟩;rw [hρ id hid];refine ⟨h1.1, ?_⟩
  rcases h1.2 with h5 | ⟨g, cap, cur, h5, h6, h7, h8⟩
  ·exact .inl h5
  ·refine .inr ⟨g, cap, cur, h5, h6, ?_, h8⟩;rw [(hg g (by rw [h5]; rfl)).1]
   exact h7
 | cells ss =>
  obtain ⟨g, e, cs, h1, h2, h3, h4, h5, h6⟩ := h;have hgg := hg g (by rw [h1]; rfl);refine ⟨g, e, cs, by rw [hρ id hid]; exact h1, h2, hgg.2, by rw [hgg.1]; exact h4, by simp [h5], fun j hj hj' => ⟨(h6 j hj (by simpa using hj')).1, ?_⟩⟩;rw [ZgP]
  exact (h6 j hj (by simpa using hj')).2.over hu hw hρ
 | cellsT ty0 ss =>
  obtain ⟨g, cs, h1, h2, h3, h4, h5, h6⟩ := h;have hgg := hg g (by rw [h1]; rfl);refine ⟨g, cs, by rw [hρ id hid]; exact h1, h2, hgg.2, by rw [hgg.1]; exact h4, by simp [h5], fun j hj hj' => ⟨(h6 j hj (by simpa using hj')).1, ?_⟩⟩;rw [ZgP]
  exact (h6 j hj (by simpa using hj')).2.over hu hw hρ
 | map M =>
  obtain ⟨g, es, cl, h1, h2, h3, h4, h5, h6⟩ := h;have hgg := hg g (by rw [h1]; rfl)
  exact ⟨g, es, cl, by rw [hρ id hid]; exact h1, h2, hgg.2, by rw [hgg.1]; exact h4, h5, fun j hj hj' => ⟨(h6 j hj hj').1, (h6 j hj hj').2.mono hu hw⟩⟩
 | rowS e size els =>
  obtain ⟨xs, h1, h2, h3, h4⟩ := h;refine ⟨xs, ?_, fun k hk => by rw [ZgP, ZlM]; exact h2 k (by simpa using hk), fun k hk j hj => ?_, fun g hg' => (hg g (by rw [<- hρ id hid]; exact hg')).2⟩
  ·rw [hρ id hid, ZlM];refine ⟨h1.1, ?_⟩
   rcases h1.2 with h5 | ⟨g, cap, cur, h5, h6, h7, h8⟩
   ·exact .inl h5
   ·refine .inr ⟨g, cap, cur, h5, h6, ?_, h8⟩;rw [(hg g (by rw [h5]; rfl)).1];exact h7
  ·have hk' : k < els.length := by simpa using hk
   have hj' : j < els[k].length := by simpa using hj
   simp only [ZgP]
   exact ⟨(h3 k hk' j hj').1, (h3 k hk' j hj').2.over hu hw hρ⟩
 | bts l =>
  obtain ⟨g, e, cap, cur, fz, h1, h2, h3, h4, h5⟩ := h;have hgg := hg g (by rw [h1]; rfl)
  exact ⟨g, e, cap, cur, fz, by rw [hρ id hid]; exact h1, h2, hgg.2, by rw [hgg.1]; exact h4, h5⟩
 | raw p =>
  obtain ⟨g, ob, h1, h2, h3, h4, h5⟩ := h;have hgg := hg g h1
  exact ⟨g, ob, by rw [hρ id hid]; exact h1, h2, hgg.2, by rw [hgg.1]; exact h4, by rw [hρ id hid]; exact h5⟩
 | mapS M =>
  obtain ⟨g, es, cl, h1, h2, h3, h4, h5, h6⟩ := h;have hgg := hg g (by rw [h1]; rfl);refine ⟨g, es, cl, by rw [hρ id hid]; exact h1, h2, hgg.2, by rw [hgg.1]; exact h4, by rw [ZlM]; exact h5, fun j hj hj' => ?_⟩;have hj2 : j < M.length := by simpa using hj'
  simp only [ZgP]
  exact ⟨(h6 j hj hj2).1, (h6 j hj hj2).2.over hu hw hρ⟩
 | val ss =>
  obtain ⟨cs, h1, h2, h3⟩ := h;refine ⟨cs, by rw [hρ id hid]; exact h1, by simp [h2], fun j hj hj' => ⟨(h3 j hj (by simpa using hj')).1, ?_⟩⟩;rw [ZgP]
  exact (h3 j hj (by simpa using hj')).2.over hu hw hρ
 | iter M done =>
  obtain ⟨g, b, es, cl, sn, c0, h1, h2, h3, h4, h5, h6, h7, h8⟩ := h;have hgg := hg g (by rw [h1]; rfl);exact ⟨g, b, es, cl, sn, c0, by rw [hρ id hid]; exact h1, h2, hgg.2, by rw [hgg.1]; exact h4, hu b h5, by rw [hw b h5]; exact h6, h7, fun j hj hj' => ⟨(h8 j hj hj').1, (h8 j hj hj').2.mono hu hw⟩⟩
theorem ObsOk.sub {B : Nat} {F : Nat -> Prop} {ρ : Nat -> Value} {w : World} {σ σ' : Obs} (h : ObsOk B F ρ w σ) (hs : ∀ p ∈ σ', p ∈ σ) : ObsOk B F ρ w σ' :=
 ⟨fun p hp => h.ok p (hs p hp), fun p hp q hq => h.apart p (hs p hp) q (hs q hq), fun p hp q hq => h.uniq p (hs p hp) q (hs q hq)⟩
theorem R0.after {cx : Cx} {F F' : Nat -> Prop} {ρ ρ' : Nat -> Value} {e : Env} {σ σc σ' : Obs} {a : Act} {w w' : World} {chg : Nat -> Bool} (hr : R0 cx F ρ e σ a w) (hin : ∀ p ∈ σc, p ∈ σ) (hx : XEnd cx.B F ρ w σc F' ρ' w' σ' chg)
 (h1 : Obs.allIds (fun i => !(chg i)) (Obs.dels σc σ) = true) (h2 : Obs.allIds (fun i => Obs.allIds (fun j => !(Nat.beq i j)) (Obs.dels σc σ)) σ' = true) (h3 : ∀ i, chg i = true -> cx.fixp i = false) :
 R0 cx F' ρ' (e.killP chg) (Obs.join σ' (Obs.killP chg (Obs.dels σc σ))) a w' := by
 have hown : ∀ b, ownB σc ρ b -> cx.fr b /\ ¬ F b /\ b < w.heap.size := fun b ⟨p, hp, hb⟩ => ⟨hr.kown p (hin p hp) b hb, (hr.obs.ok p (hin p hp)).nF hb, ((hr.obs.ok p (hin p hp)).blk_lt hb).2⟩
 have hfr : ∀ b, (w.heap.size <= b \/ ownB σc ρ b) -> cx.fr b := fun b hb => by
  rcases hb with hb | hb
  ·exact hr.up _ (ZnT hr.below.size hb)
  ·exact (hown b hb).1
 have hw : ∀ b, F b -> w'.heap[b]? = w.heap[b]? := fun b hb => hx.kept.block b (hr.lt b hb) (fun hh => by
  rcases hh with hh | hh
  ·have := hr.lt b hb; omega
  ·exact (hown b hh).2.1 hb)
 have hrest : ∀ p ∈ Obs.dels σc σ, p ∈ σ /\ (∀ q ∈ σc, p.1 ≠ q.1) /\ chg p.1 = false := fun p hp => by
  obtain ⟨h4, h5⟩ := Obs.mem_dels hp;have := Obs.allIds_mem h1 p hp;exact ⟨h4, h5, by simpa using this⟩
 have hblk : ∀ p ∈ Obs.dels σc σ, ∀ g, blk (ρ p.1) = some g -> g < w.heap.size /\ ¬ ownB σc ρ g /\ ¬ F g := fun p hp g hg => by
  obtain ⟨h4, h5, _⟩ := hrest p hp;exact ⟨((hr.obs.ok p h4).blk_lt hg).2, fun ⟨q, hq, hb⟩ => hr.obs.apart p h4 q (hin q hq) (h5 q hq) g hg hb, (hr.obs.ok p h4).nF hg⟩
 refine ⟨hr.size, hr.defers, hx.lt, fun b hb => hx.up b (hr.base b hb), fun b hb => ?_, ?_, ZnT hr.hB hx.kept.size, fun t => (hr.env t).over hx.up hw hx.same, ?_, hr.up, fun p hp g hg => ?_, fun i hi => ?_⟩
 ·rcases hx.new b hb with h4 | h4
  ·exact hr.new b h4
  ·exact .inr (hfr b h4)
 ·exact ⟨hx.kept.os.trans hr.below.os, hx.kept.tape.trans hr.below.tape, hx.kept.output.trans hr.below.output, ZnT hr.below.size hx.kept.size, fun k hk hf => by
   rw [hx.kept.block k (Nat.lt_of_lt_of_le hk hr.below.size) (fun hh => hf (hfr k hh)), hr.below.block k hk hf]⟩
 ·have hmix : ∀ p ∈ σ', ∀ q ∈ Obs.dels σc σ, p.1 ≠ q.1 /\ ∀ g, blk (ρ' p.1) = some g -> blk (ρ' q.1) ≠ some g := fun p hp q hq => by
   refine ⟨fun he => ?_, fun g hg hg2 => ?_⟩
   ·have := Obs.allIds_mem (Obs.allIds_mem h2 p hp) q hq;rw [he] at this;simp at this
   ·rw [hx.same _ (hrest q hq).2.2] at hg2;obtain ⟨h4, h5, _⟩ := hblk q hq g hg2
    rcases hx.own p hp g hg with h6 | h6
    ·omega
    ·exact h5 h6
  refine ⟨fun p hp => ?_, fun p hp q hq hne g hg => ?_, fun p hp q hq he => ?_⟩
  ·rcases Obs.mem_join hp with hp | hp
   ·exact hx.obs.ok p hp
   ·obtain ⟨q, hq, rfl⟩ := Obs.mem_killP hp;obtain ⟨h4, h5, h6⟩ := hrest q hq;refine (hr.obs.ok q h4).over h6 hx.up hw hx.same fun g hg => ?_
    obtain ⟨h7, h8, h9⟩ := hblk q hq g hg
    have hnn : ¬ (w.heap.size <= g \/ ownB σc ρ g) := fun hh => by
     rcases hh with hh | hh
     ·omega
     ·exact h8 hh
    refine ⟨hx.kept.block g h7 hnn, fun hf => ?_⟩
    rcases hx.new g hf with h10 | h10
    ·exact h9 h10
    ·exact hnn h10
  ·rcases Obs.mem_join hp with hp | hp
   ·rcases Obs.mem_join hq with hq | hq
    ·exact hx.obs.apart p hp q hq hne g hg
    ·obtain ⟨q', hq', rfl⟩ := Obs.mem_killP hq;exact (hmix p hp q' hq').2 g hg
   ·obtain ⟨p', hp', rfl⟩ := Obs.mem_killP hp
    rcases Obs.mem_join hq with hq | hq
    ·exact fun he => (hmix q hq p' hp').2 g he hg
    ·obtain ⟨q', hq', rfl⟩ := Obs.mem_killP hq;simp only at hg hne ⊢;rw [hx.same _ (hrest p' hp').2.2] at hg;rw [hx.same _ (hrest q' hq').2.2];exact hr.obs.apart p' (hrest p' hp').1 q' (hrest q' hq').1 hne g hg
  ·rcases Obs.mem_join hp with hp | hp
   ·rcases Obs.mem_join hq with hq | hq
    ·exact hx.obs.uniq p hp q hq he
    ·obtain ⟨q', hq', rfl⟩ := Obs.mem_killP hq;exact absurd he (hmix p hp q' hq').1
   ·obtain ⟨p', hp', rfl⟩ := Obs.mem_killP hp
    rcases Obs.mem_join hq with hq | hq
    ·exact absurd he.symm (hmix q hq p' hp').1
    ·obtain ⟨q', hq', rfl⟩ := Obs.mem_killP hq;have := hr.obs.uniq p' (hrest p' hp').1 q' (hrest q' hq').1 he;rw [this]
 ·rcases Obs.mem_join hp with hp | hp
  ·exact hfr g (hx.own p hp g hg)
  ·obtain ⟨q, hq, rfl⟩ := Obs.mem_killP hp;simp only at hg;rw [hx.same _ (hrest q hq).2.2] at hg;exact hr.kown q (hrest q hq).1 g hg
 ·have : chg i = false := by
   cases hc : chg i with
   | false => rfl
   | true => rw [h3 i hc] at hi; simp at hi
  rw [hx.same i this];exact hr.fixed i hi
def ArgsS (e : Env) : List Operand -> List S -> Prop
 | [], [] => True
 | x :: xs, s :: ss => SLe (e.ev x) s /\ ArgsS e xs ss
 | _, _ => False
theorem ArgsS.nil {e : Env} : ArgsS e [] [] := trivial
theorem ArgsS.cons {e : Env} {x : Operand} {s : S} {xs : List Operand} {ss : List S} (h : SLe (e.ev x) s) (k : ArgsS e xs ss) : ArgsS e (x :: xs) (s :: ss) := ⟨h, k⟩
theorem ArgsS.rep {e : Env} {F : Nat -> Prop} {ρ : Nat -> Value} {w : World} {a : Act} (ha : ∀ t, RepS F ρ w (a.tmps.getD t undef) (e t)) : ∀ {xs : List Operand} {ss : List S}, ArgsS e xs ss -> RepSL F ρ w (xs.map a.eval) ss
 | [], [], _ => ⟨rfl, fun i h => absurd h (by simp)⟩
 | x :: xs, s :: ss, h => by
  have h1 := ArgsS.rep ha h.2;refine ⟨by simp [h1.1], fun i h2 h3 => ?_⟩
  cases i with
  | zero => exact h.1 _ _ _ _ (Ya1 fun t _ => ha t)
  | succ i => exact h1.2 i (by simpa using h2) (by simpa using h3)
 | [], _ :: _, h => h.elim
 | _ :: _, [], h => h.elim
section
variable {cx : Cx} {ops : Array Oper} {o : Oper} {rest : List Oper} {e : Env} {σ : Obs} {Q : Post}
theorem AOps.callX {f : FuncId} {xs : List Operand} {ts : Array TypeId} {ss : List S} {σc σ' : Obs} {chg : Nat -> Bool} {d : D} (hg : o.guard = none) (hd : DstOk cx.N o)
 (ho : o.op = .call { callee := .value (.func f), args := xs.toArray, argTypes := ts }) (ha : ArgsS e xs ss) (h : XCall cx.P f ss σc σ' chg d) (hin : AllIn σ σc)
 (h1 : Obs.allIds (fun i => !(chg i)) (Obs.dels σc σ) = true) (h2 : Obs.allIds (fun i => Obs.allIds (fun j => !(Nat.beq i j)) (Obs.dels σc σ)) σ' = true) (h3 : ∀ i, chg i = true -> cx.fixp i = false)
 (k : AOps cx ops rest ((e.killP chg).put o.dst (.d d)) (Obs.join σ' (Obs.killP chg (Obs.dels σc σ))) Q) : AOps cx ops (o :: rest) e σ Q := by
 intro a w ⟨F, ρ, hr⟩;have h4 := h.2 F ρ cx.B w _ hr.lt hr.hB (hr.obs.sub hin.mem) (ArgsS.rep hr.env ha);have h5 := h.1 (xs.map a.eval).toArray w
 have hx : (execOp a.eval o).run cx.P w = .ok (.enter f (xs.map a.eval).toArray) w := by
  unfold execOp;simp only [ho, resolve, Deferred.ofValue, Act.eval, invoke, Sem.run_bind, Sem.run_pure, Result.andThen_ok];simpa using h5
 refine wpList_plain hg fun K hK => ?_
 unfold Oper.wp;rw [hx];refine h4.mono fun _ w' ⟨v, F', ρ', he, hv, hE⟩ => ?_
 subst he;exact hK _ _ (k _ _ ⟨F', ρ', (hr.after hin.mem hE h1 h2 h3).put (Ext.refl hE.lt) (.d hv) hd⟩)
end
section
variable {P : Program} {B : Nat} {ops : Array Oper} {o : Oper} {e : Env} {σ : Obs}
theorem Yfe (op : BinOp) (t : TypeId) (x y : Operand) (a b : Bool) (w : World) : (eqGuard op t x y (.bool a) (.bool b)).run P w = .ok () w := by
 unfold eqGuard; cases op <;> rfl
theorem AOp.beql {t ty : TypeId} {x y : Operand} {a b : Bool} (ho : o.op = .binOp .eql t x y ty) (ht : P.underlying t = some .bool) (hx : e.ev x = .d (.v (.bool a))) (hy : e.ev y = .d (.v (.bool b))) :
 AOp P B ops o e σ (.d (.v (.bool (decide (a = b))))) := .bin ho hx hy fun w => by
 rw [Sem.run_bind, Yfe];have h : (Op.equal t (.bool a) (.bool b)).run P w = .ok (a == b) w := run_equalIn_bool w 9999 t a b ht;simp only [Result.andThen_ok, binOp, Sem.run_bind, h, Sem.run_pure, Bool.beq_eq_decide_eq]
theorem AOp.bneq {t ty : TypeId} {x y : Operand} {a b : Bool} (ho : o.op = .binOp .neq t x y ty) (ht : P.underlying t = some .bool) (hx : e.ev x = .d (.v (.bool a))) (hy : e.ev y = .d (.v (.bool b))) :
 AOp P B ops o e σ (.d (.v (.bool (decide (a ≠ b))))) := .bin ho hx hy fun w => by
 rw [Sem.run_bind, Yfe];have h : (Op.equal t (.bool a) (.bool b)).run P w = .ok (a == b) w := run_equalIn_bool w 9999 t a b ht;simp only [Result.andThen_ok, binOp, Sem.run_bind, h, Sem.run_pure];cases a <;> cases b <;> rfl
theorem Yb7 (op : BinOp) (t : TypeId) (x y : Operand) (a b : Option Addr) (w : World) : (eqGuard op t x y (.pointer a) (.pointer b)).run P w = .ok () w := by
 unfold eqGuard; cases op <;> rfl
theorem YbO {t el : TypeId} (w : World) (a : Option Addr) (ht : P.underlying t = some (.pointer el)) : (Op.equal t (.pointer a) (.pointer none)).run P w = .ok a.isNone w := by
 unfold Op.equal Op.equalIn;simp only [Op.maxDepth, Sem.run_bind, run_underlying ht, Result.andThen_ok];cases a <;> rfl
theorem AOp.nilNe {t ty el : TypeId} {x y : Operand} (ho : o.op = .binOp .neq t x y ty) (ht : P.underlying t = some (.pointer el)) (hx : e.ev x = .d (.v (.pointer none))) (hy : e.ev y = .d (.v (.pointer none))) :
 AOp P B ops o e σ (.d (.v (.bool false))) := .bin ho hx hy fun w => by
 rw [Sem.run_bind, Yb7];simp only [Result.andThen_ok, binOp, Sem.run_bind, YbO w none ht, Sem.run_pure];rfl
theorem AOp.nilEq {t ty el : TypeId} {x y : Operand} (ho : o.op = .binOp .eql t x y ty) (ht : P.underlying t = some (.pointer el)) (hx : e.ev x = .d (.v (.pointer none))) (hy : e.ev y = .d (.v (.pointer none))) :
 AOp P B ops o e σ (.d (.v (.bool true))) := .bin ho hx hy fun w => by
 rw [Sem.run_bind, Yb7];simp only [Result.andThen_ok, binOp, Sem.run_bind, YbO w none ht, Sem.run_pure];rfl
theorem AOp.fpNe {t ty el : TypeId} {x y : Operand} {ds : List D} (ho : o.op = .binOp .neq t x y ty) (ht : P.underlying t = some (.pointer el)) (hx : e.ev x = .d (.fp ds)) (hy : e.ev y = .d (.v (.pointer none))) :
 AOp P B ops o e σ (.d (.v (.bool true))) := .value fun F ρ w a hF hr _ => by
 have h1 := hr x (by rw [ho]; simp [Op.operands]);have h2 := hr y (by rw [ho]; simp [Op.operands]);rw [hx] at h1;rw [hy] at h2;have h3 := Yag h1;refine ⟨.bool true, F, w, ?_, .d (.v _), Ext.refl hF⟩;unfold execOp;simp only [ho, Yav h2];generalize a.eval x = v at h3;cases h3;rw [Sem.run_bind, Sem.run_bind, Yb7];simp only [Result.andThen_ok, binOp, Sem.run_bind, YbO w _ ht, Sem.run_pure];rfl
theorem AOp.nilCheck {x : Operand} {ds : List D} (ho : o.op = .nilCheck x) (hx : e.ev x = .d (.fp ds)) : AOp P B ops o e σ (.d (.fp ds)) := .value fun F ρ w a hF hr _ => by
 have h1 := hr x (by rw [ho]; simp [Op.operands]);rw [hx] at h1;have h3 := Yag h1;refine ⟨a.eval x, F, w, ?_, .d h3, Ext.refl hF⟩;unfold execOp;simp only [ho];generalize a.eval x = v at h3;cases h3;rfl
end
def u32D (n : Nat) : List D := [.v (.int .u32 (n : Int))]
def intD (n : Int) : List D := [.v (.int .i64 n)]
section
variable {P : Program} {B : Nat} {ops : Array Oper} {o : Oper} {e : Env} {σ : Obs}
end
end
section
open Go.ChangeShapes Go.WideShapes Go.ChangeAt Go.RowKit
theorem blk_append {H : Type} (l r : List (DataW H)) : Rows.uptoBulkAll (l ++ r) = Rows.uptoBulkAll l + Rows.uptoBulkAll r := by
 induction l with
 | nil => simp [Rows.uptoBulkAll]
 | cons x l ih => simp only [List.cons_append, Rows.uptoBulkAll, ih]; omega
def sumOf {α : Type} (B : α -> Nat) : List α -> Nat
 | [] => 0
 | x :: l => B x + sumOf B l
theorem sumOf_append {α : Type} (B : α -> Nat) (l r : List α) : sumOf B (l ++ r) = sumOf B l + sumOf B r := by
 induction l with
 | nil => simp [sumOf]
 | cons x l ih => simp only [List.cons_append, sumOf, ih]; omega
theorem cells?_all {w : World} {base n : Nat} {ad : Addr} {cs : List Value} (h : w.cells? base ad n = some cs) : cs.length = n /\ ∀ j (hj : j < cs.length), w.cell? (ad.add j) = some cs[j] := by
 unfold World.cells? at h;split at h
 ·have hl := mapM_some_length h;simp at hl;refine ⟨hl, fun j hj => ?_⟩;have h2 := mapM_some_get h j j (by rw [List.getElem?_range (by omega)]);rw [h2, ZgE hj]
 ·cases h
abbrev allF (w : World) : Nat -> Prop := fun b => b < w.heap.size
structure Opens {α : Type} (P : Program) (t size : Nat) (enc : α -> List D) (ok : α -> Prop) (B : α -> Nat) : Prop where
 len : ∀ y, (enc y).length = size
 get : ∀ {H : Type} {encH : TypeId × Value -> H} {w : World} {n : Nat} {cs : List Value} {x : DataW H × List MemPlace}, DataW.trod encH P w 0 (fun _ => true) true n t cs = some x -> cs.length = size ->
  ∃ y, ok y /\ RepL (allF w) w cs (enc y) /\ (∀ u ∈ cs, u.oneCell' = true) /\ B y <= Rows.uptoBulk x.1
theorem Opens.map {α β : Type} {P : Program} {t size : Nat} {enc : α -> List D} {ok : α -> Prop} {B : α -> Nat} {enc' : β -> List D} {ok' : β -> Prop} {B' : β -> Nat} (O : Opens P t size enc ok B) (f : α -> β) (h : ∀ y, enc' (f y) = enc y) (hl : ∀ y, (enc' y).length = size) (ho : ∀ y, ok y -> ok' (f y)) (hb : ∀ y, B' (f y) <= B y) :
 Opens P t size enc' ok' B' :=
 ⟨hl, fun hx hc => by
  obtain ⟨y, h1, h2, h3, h4⟩ := O.get hx hc
  exact ⟨f y, ho y h1, by rw [h]; exact h2, h3, ZnT (hb y) h4⟩⟩
section
variable {P : Program} {t : Nat}
theorem opens_i64 (ht : P.underlying t = some (.int .i64)) : Opens P t 1 intD (fun n => -9223372036854775808 <= n /\ n <= 9223372036854775807) (fun _ => 1) :=
 ⟨fun _ => rfl, fun hx _ => by
  obtain ⟨n, rfl, rfl, h1⟩ := DataW.trod_int ht hx;have h2 : -9223372036854775808 <= n /\ n <= 9223372036854775807 := by simpa [Lit.wf, IntKind.min, IntKind.max, IntKind.signed, IntKind.bits] using h1
  exact ⟨n, h2, RepL.cons (.v _) RepL.nil, fun u hu => by simp at hu; rw [hu]; rfl, by simp [Rows.uptoBulk]⟩⟩
def strD (s : ByteArray) : List D := [.v (.string s)]
theorem opens_str (ht : P.underlying t = some .string) : Opens P t 1 strD (fun s => s.size <= 9223372036854775807) (fun s => s.size + 1) :=
 ⟨fun _ => rfl, fun hx _ => by
  obtain ⟨s, rfl, rfl, h1⟩ := DataW.trod_string ht hx;refine ⟨s, by unfold maxLen at h1; omega, RepL.cons (.v _) RepL.nil, fun u hu => by simp at hu; rw [hu]; rfl, ?_⟩;simp only [Rows.uptoBulk, ZaL]
  exact ZnR _⟩
def slD {α : Type} (enc : α -> List D) (l : List α) : List D := [.sl (l.map enc)]
theorem opens_slice {α : Type} {e size : Nat} {enc : α -> List D} {ok : α -> Prop} {B : α -> Nat} (ht : P.underlying t = some (.slice e)) (hc : P.cellsOf e = size) (hs : 0 < size) (O : Opens P e size enc ok B) :
 Opens P t 1 (slD enc) (fun l => ∀ y ∈ l, ok y) (fun l => sumOf B l + 1) :=
 ⟨fun _ => rfl, fun {H encH w n cs x} hx _ => by
  rcases DataW.trod_slice ht hx with ⟨rfl, rfl⟩ | ⟨a, len, cap, elems, rest, n', _, rfl, rfl, _, hl, hm, hlen, hel, _, _⟩
  ·exact ⟨[], fun y hy => by simp at hy, RepL.cons .nil RepL.nil, fun u hu => by simp at hu; rw [hu]; rfl, by simp [sumOf, Rows.uptoBulk]⟩
  ·have each : ∀ m, m <= len -> ∃ l : List α, l.length = m /\ (∀ y ∈ l, ok y) /\ (∀ i (hi : i < l.length), ∃ cs : List Value, cs.length = size /\ (∀ j (hj : j < cs.length), w.cell? ((a.add (i * size)).add j) = some cs[j]) /\ RepL (allF w) w cs (enc l[i]) /\ ∀ u ∈ cs, u.oneCell' = true) /\
    sumOf B l <= Rows.uptoBulkAll ((elems.take m).map (·.1)) := by
    intro m
    induction m with
    | zero => intro _; exact ⟨[], rfl, fun y hy => by simp at hy, fun i hi => absurd hi (by simp), by simp [sumOf]⟩
    | succ m ih =>
     intro hm1;obtain ⟨l, h1, h2, h3, h4⟩ := ih (by omega);have hme : m < elems.length := by omega
     have hh := hel m (by omega);rw [hc, ZgE hme, Option.bind_eq_some_iff] at hh;obtain ⟨cs, hcs, htr⟩ := hh;obtain ⟨hcl, hcg⟩ := cells?_all hcs;obtain ⟨y, hy1, hy2, hy3, hy4⟩ := O.get htr hcl;refine ⟨l ++ [y], by simp [h1], fun z hz => ?_, fun i hi => ?_, ?_⟩
     ·rw [List.mem_append] at hz
      rcases hz with hz | hz
      ·exact h2 z hz
      ·simp at hz; rw [hz]; exact hy1
     ·rw [ZlA, List.length_singleton] at hi
      by_cases hlt : i < l.length
      ·rw [ZgL hlt]; exact h3 i hlt
      ·have he : i = m := by omega
       subst he;refine ⟨cs, hcl, hcg, ?_, hy3⟩;rw [ZgR (by omega)];simpa using hy2
     ·rw [List.take_succ_eq_append_getElem hme, ZmA, blk_append, sumOf_append];simp only [sumOf, List.map_cons, List.map_nil, Rows.uptoBulkAll];omega
   obtain ⟨l, h1, h2, h3, h4⟩ := each len (ZnR _);have h6 : elems.take len = elems := List.take_of_length_le (by omega);rw [h6] at h4;refine ⟨l, h2, RepL.cons ?_ RepL.nil, fun u hu => by simp at hu; rw [hu]; rfl, by simp only [Rows.uptoBulk]; omega⟩
   have hch : ∀ i : Nat, ∃ cs : List Value, ∀ (hi : i < l.length), cs.length = size /\ (∀ j (hj : j < cs.length), w.cell? ((a.add (i * size)).add j) = some cs[j]) /\ RepL (allF w) w cs (enc l[i]) /\ ∀ u ∈ cs, u.oneCell' = true := fun i => by
    by_cases hi : i < l.length
    ·obtain ⟨cs, h⟩ := h3 i hi; exact ⟨cs, fun _ => h⟩
    ·exact ⟨[], fun h => absurd h hi⟩
   let f : Nat -> List Value := fun i => Classical.choose (hch i)
   have hf : ∀ i (hi : i < l.length), (f i).length = size /\ (∀ j (hj : j < (f i).length), w.cell? ((a.add (i * size)).add j) = some (f i)[j]) /\ RepL (allF w) w (f i) (enc l[i]) /\ ∀ u ∈ f i, u.oneCell' = true := fun i hi => Classical.choose_spec (hch i) hi
   have hll : (l.map enc).length = len := by simp [h1]
   have := Rep.sl (F := allF w) (w := w) a cap size (l.map enc) (fun i j => (f i).getD j undef) (by omega) (by unfold maxLen at hm; omega) (fun h0 => by
    rw [ZlM] at h0;obtain ⟨g1, g2, _⟩ := hf 0 h0;have h7 := World.block_lt_of_cell? w _ (g2 0 (by omega));rw [YbC, YbC] at h7;exact h7) (fun i hi => by rw [ZgP]; exact O.len _) (fun i j hi hj => by
    rw [ZlM] at hi;obtain ⟨g1, g2, _⟩ := hf i hi;rw [<- Ycq, g2 j (by omega), ZgD, ZgE (by omega), Option.getD_some]) (fun i j hi hj => by
    rw [ZlM] at hi;obtain ⟨g1, _, _, g4⟩ := hf i hi;rw [ZgD, ZgE (by omega), Option.getD_some];exact g4 _ (ZgM _)) (fun i hi j hj => by
    rw [ZlM] at hi;obtain ⟨g1, _, g3, _⟩ := hf i hi;simp only [ZgP] at hj ⊢;have hj' : j < (f i).length := by rw [g3.1]; exact hj
    rw [ZgD, ZgE hj', Option.getD_some]
    exact g3.2 j hj' hj)
   rw [hll] at this
   exact this⟩
structure OpensF {α : Type} (P : Program) (fs : List (Nat × Nat × Nat)) (off total : Nat) (enc : α -> List D) (ok : α -> Prop) (B : α -> Nat) : Prop where
 len : ∀ y, off + (enc y).length = total
 get : ∀ {H : Type} {encH : TypeId × Value -> H} {w : World} {n : Nat} {cs : List Value} {xs : List (DataW H × List MemPlace)}, cs.length = total -> xs.length = fs.length ->
  (∀ (i : Nat) (f : Nat × Nat × Nat), fs[i]? = some f -> DataW.trod encH P w 0 (fun _ => true) true n f.1 ((cs.drop f.2.1).take f.2.2) = xs[i]?) -> ∃ y, ok y /\ RepL (allF w) w (cs.drop off) (enc y) /\ (∀ u ∈ cs.drop off, u.oneCell' = true) /\ B y <= Rows.uptoBulkAll (xs.map (·.1))
theorem OpensF.nil {total : Nat} : OpensF (α := Unit) P [] total total (fun _ => []) (fun _ => True) (fun _ => 0) :=
 ⟨fun _ => rfl, fun {H encH w n cs xs} hc _ _ => ⟨(), trivial, by rw [List.drop_eq_nil_of_le (by omega)]; exact RepL.nil, fun u hu => by rw [List.drop_eq_nil_of_le (by omega)] at hu; simp at hu, ZnZ _⟩⟩
theorem OpensF.cons {α β : Type} {ft off size total : Nat} {fs : List (Nat × Nat × Nat)} {enc : α -> List D} {ok : α -> Prop} {B : α -> Nat} {enc2 : β -> List D} {ok2 : β -> Prop} {B2 : β -> Nat} (O : Opens P ft size enc ok B) (R : OpensF P fs (off + size) total enc2 ok2 B2) :
 OpensF (α := α × β) P ((ft, off, size) :: fs) off total (fun y => enc y.1 ++ enc2 y.2) (fun y => ok y.1 /\ ok2 y.2) (fun y => B y.1 + B2 y.2) :=
 ⟨fun y => by have := R.len y.2; rw [ZlA, O.len]; omega, fun {H encH w n cs xs} hc hl h => by
  rcases xs with _ | ⟨x, xs⟩
  ·simp at hl
  have h0 := h 0 (ft, off, size) rfl;simp only [List.getElem?_cons_zero] at h0
  obtain ⟨y2, k1, k2, k3, k4⟩ := R.get (encH := encH) (w := w) (n := n) (xs := xs) hc (by simpa using hl) (fun i f hf => by
   have := h (i + 1) f (by simpa using hf)
   simpa using this)
  have hle := R.len y2;obtain ⟨y1, g1, g2, g3, g4⟩ := O.get h0 (by rw [ZlT, ZlD]; omega)
  have hsplit : cs.drop off = (cs.drop off).take size ++ cs.drop (off + size) := by
   rw [<- List.drop_drop]; exact (List.take_append_drop size (cs.drop off)).symm
  refine ⟨(y1, y2), ⟨g1, k1⟩, ?_, fun u hu => ?_, ?_⟩
  ·rw [hsplit]; exact g2.append k2
  ·rw [hsplit, List.mem_append] at hu
   rcases hu with hu | hu
   ·exact g3 u hu
   ·exact k3 u hu
  ·simp only [List.map_cons, Rows.uptoBulkAll]; omega⟩
def structF (P : Program) (t total : Nat) (fs : List (Nat × Nat × Nat)) : Bool :=
 match P.underlying t with
 | some (.struct gs) => gs.size == fs.length && (gs.toList.zip fs).all (fun (g, f) => g.type == f.1 && g.offset == f.2.1 && P.cellsOf g.type == f.2.2) && P.cellsOf t == total
 | _ => false
theorem opens_struct {α : Type} {total : Nat} {fs : List (Nat × Nat × Nat)} {enc : α -> List D} {ok : α -> Prop} {B : α -> Nat} (hb : structF P t total fs = true) (O : OpensF P fs 0 total enc ok B) : Opens P t total enc ok (fun y => B y + 1) :=
 ⟨fun y => by have := O.len y; omega, fun {H encH w n cs x} hx hc => by
  unfold structF at hb;split at hb
  ·rename_i gs hu;simp only [ZbA, beq_iff_eq, List.all_eq_true] at hb;obtain ⟨⟨h1, h2⟩, h3⟩ := hb;obtain ⟨xs, n', _, rfl, _, hl, hf⟩ := DataW.trod_struct hu hx
   obtain ⟨y, k1, k2, k3, k4⟩ := O.get (encH := encH) (w := w) (n := n') (cs := cs) (xs := xs) hc (by omega) (fun i f hf' => by
    have hi : i < fs.length := (ZgS.1 hf').1;have hfe : fs[i] = f := (ZgS.1 hf').2;have hi' : i < gs.size := by omega
    have h4 := h2 (gs[i], f) (by
     rw [List.mem_iff_getElem]
     exact ⟨i, by simp; omega, by simp [hfe]⟩)
    simp only at h4;have h5 := hf i gs[i] (by simp [hi']);rw [h4.2, h4.1.1, h4.1.2] at h5
    exact h5)
   rw [List.drop_zero] at k2 k3;exact ⟨y, k1, k2, k3, by simp only [Rows.uptoBulk]; omega⟩
  ·simp at hb⟩
theorem one_of {F : Nat -> Prop} {w : World} {v : Value} {d : D} (h : RepL F w v.cells.toList [d]) (hc : v.cells = #[v]) : Rep F w v d := by
 rw [hc] at h;exact h.2 0 (by simp) (by simp)
theorem agg_of {F : Nat -> Prop} {w : World} {cs : Array Value} {ds : List D} (h : RepL F w (Value.agg cs).cells.toList ds) (h1 : ∀ u ∈ (Value.agg cs).cells.toList, u.oneCell' = true) : Rep F w (.agg cs) (.agg ds) := by
 have e : cs = cs.toList.toArray := by simp
 rw [e];exact .agg _ _ h.1 (fun i hi => h1 _ (ZgM hi)) h.2
theorem Opens.arg {α : Type} {size : Nat} {enc : α -> List D} {ok : α -> Prop} {B : α -> Nat} (O : Opens P t size enc ok B) {H : Type} {encH : TypeId × Value -> H} {w : World} {v : Value} {d : DataW H} {p : List MemPlace} (h : DataW.Trod encH P w 0 (fun _ => true) true t v d p) (hc : v.cells.size = size) :
 ∃ y, ok y /\ RepL (allF w) w v.cells.toList (enc y) /\ (∀ u ∈ v.cells.toList, u.oneCell' = true) /\ B y <= Rows.uptoBulk d := by
 obtain ⟨fuel, hf⟩ := h;exact O.get hf (by rw [ZaL]; exact hc)
end
end
section
open Go.RowKit
def RCall (P : Program) (f : FuncId) (e size : Nat) (els els' : List (List D)) (ds : List D) (d : D) : Prop :=
 ∀ id, XCall P f (.own id :: ds.map S.d) [(id, .row e size els)] [(id, .row e size els')] (fun _ => false) d
theorem YdC {id e size : Nat} {els els' : List (List D)} {σ : Obs} (h : (id, Ob.row e size els) ∈ σ) (hd : els = els') : (id, Ob.row e size els') ∈ σ := hd ▸ h
def EOp (cx : Cx) (ops : Array Oper) (o : Oper) (e : Env) (σ σ' : Obs) : Prop :=
 ∀ (F : Nat -> Prop) (ρ : Nat -> Value) (a : Act) (w : World) (e0 : Env), R0 cx F ρ e0 σ a w -> (∀ t, t ∈ o.looksAt ops -> RepS F ρ w (a.tmps.getD t undef) (e t)) ->
  o.wp cx.P a w (fun a' w' => a' = a /\ ∀ e2, R0 cx F ρ e2 σ a w -> ∃ F' ρ', R0 cx F' ρ' e2 σ' a w') (fun _ _ _ => False)
theorem EOp.same {cx : Cx} {ops : Array Oper} {o : Oper} {e e' : Env} {σ σ' : Obs} (h : EOp cx ops o e σ σ') (he : ∀ t, t ∈ o.looksAt ops -> e' t = e t) : EOp cx ops o e' σ σ' :=
 fun F ρ a w e0 hr ha => h F ρ a w e0 hr fun t ht => by rw [<- he t ht]; exact ha t ht
theorem AOp.same {P : Program} {B : Nat} {ops : Array Oper} {o : Oper} {e e' : Env} {σ : Obs} {s : S} (h : AOp P B ops o e σ s) (he : ∀ t, t ∈ o.looksAt ops -> e' t = e t) : AOp P B ops o e' σ s :=
 fun F ρ w a hF ha hσ => h F ρ w a hF (fun t ht => by rw [<- he t ht]; exact ha t ht) hσ
def Region.lateOf (ops : Array Oper) (k : Nat) : List Nat :=
 (List.range ops.size).foldl (fun acc j => if ((ops[j]?).map fun o => o.after.any fun e => Region.binds .any e && (Nat.beq e.on k || acc.any fun i => Nat.beq i e.on)).getD false then j :: acc else acc) []
def Region.lateB (ops : Array Oper) (k j : Nat) : Bool := Nat.blt j ops.size && (Region.lateOf ops k).any fun i => Nat.beq i j
section
variable {cx : Cx} {ops : Array Oper} {o : Oper} {rest : List Oper} {e : Env} {σ : Obs} {sl ef : Nat -> Bool} {n : Nat} {l : List Oper} {Q : Env -> Obs -> Prop}
end
section
variable {cx : Cx} {ops : Array Oper} {o : Oper} {e : Env} {σ : Obs}
theorem EOp.storeRow {t id off ee size len : Nat} {x y : Operand} {d : D} {els : List (List D)} {ds : List D} (ht : o.dst = none) (ho : o.op = .store t x y) (hs : ∀ w, (sizeOf t).run cx.P w = .ok len w) (hx : e.ev x = .ptr id off) (hm : (id, Ob.row ee size els) ∈ σ)
 (hy : e.ev y = .d d) (h1 : d.one = true) (hl : d.parts.length = len) (k j : Nat) (hoff : off = k * size + j) (hd : els[k]? = some ds) (hj : j + len <= size) :
 EOp cx ops o e σ (Obs.upd id (.row ee size (els.set k (ds.take j ++ d.parts ++ ds.drop (j + len)))) σ) := by
 intro F ρ a w e0 hr ha;have hop : ∀ y ∈ o.op.operands.toList, RepS F ρ w (a.eval y) (e.ev y) := fun y hy => Ya1 fun t ht => ha t (Ybo (by rw [<- ht]; exact hy))
 have r1 := hop x (by rw [ho]; simp [Op.operands]);have r2 := hop y (by rw [ho]; simp [Op.operands]);rw [hx] at r1;rw [hy] at r2;obtain ⟨h3, h4⟩ := Yb0 (Yag r2) h1;have hlt : k < els.length := (ZgS.1 hd).1;have hde : els[k] = ds := (ZgS.1 hd).2;obtain ⟨xs, hown, hlen, hrep, hnF⟩ := hr.obs.ok _ hm;dsimp only at hown hnF;have hown' : w.ownsRow cx.B ee size (ρ id) els.length (flat xs els.length size) := hown
 rcases hown'.2 with ⟨_, h0⟩ | ⟨g, cap, cur, hv, hB, hh, hn, hmx, hcs, htk⟩
 ·omega
 have hblk : blk (ρ id) = some g := by rw [hv]; rfl
 have hxv := YbM r1 hblk;have hsz : (a.eval y).cells.size = len := by have := h3.1; rw [ZaL] at this; omega
 have hle : k * size + size <= els.length * size := by rw [<- Nat.succ_mul]; exact Nat.mul_le_mul_right _ hlt
 have hcap : els.length * size <= cap * size := Nat.mul_le_mul_right _ hn;obtain ⟨w', h5, h6, h7⟩ := Ycf (P := cx.P) (off := off) hs hsz (cur := cur.toList) (by simpa using hh) (by rw [ZaL]; omega) h4;unfold Oper.wp execOp;simp only [ho, Instr.storeAt, hxv, Instr.sureAddr, Sem.run_bind, Sem.run_pure, Result.andThen_ok, h5];refine ⟨by rw [ht]; rfl, fun e2 hr2 => ⟨F, ρ, ?_⟩⟩;have hvl : (a.eval y).cells.toList.length = len := by rw [ZaL]; exact hsz
 have keep : ∀ {u : Value} {d : D}, Rep F w u d -> Rep F w' u d := fun h => h.mono (fun b hb => hb) fun b hb => h6.block b (hr.lt b hb) (fun he => hnF g hblk (by rw [<- Option.some.inj he]; exact hb))
 refine hr2.writeOb hblk hm hB (hnF g hblk) h6 ⟨fun i p => if i = k /\ j <= p /\ p < j + (a.eval y).cells.toList.length then (a.eval y).cells.toList.getD (p - j) undef else xs i p, ?_, fun i hi => ?_, fun i hi p hp => ?_, hnF⟩
 ·rw [List.length_set];have hst := flat_store xs els.length size k j (a.eval y).cells.toList hlt (by omega);refine ⟨Yar _ _ _, .inr ⟨g, cap, _, hv, hB, h7, hn, hmx, ?_, ?_⟩⟩
  ·simp only [List.size_toArray, ZlA, ZlT, ZlD, ZaL, hcs, hsz];omega
  ·refine Eq.trans ?_ hst;rw [<- htk];have hcl : cur.toList.length = cap * size := by rw [ZaL]; exact hcs
   rw [hoff, <- hvl];apply List.ext_getElem?;intro p
   by_cases hp : p < els.length * size
   ·rw [ZgT, if_pos hp, get3, get3];simp only [ZlT, hcl, ZgT, ZgO];rw [Nat.min_eq_left (show k * size + j <= cap * size by omega), Nat.min_eq_left (show k * size + j <= min (els.length * size) (cap * size) by omega)]
    by_cases c1 : p < k * size + j
    ·simp [c1, hp]
    ·by_cases c2 : p < k * size + j + (a.eval y).cells.toList.length
     ·simp only [c1, c2, if_false, if_true]
     ·simp only [c1, c2, if_false];rw [if_pos (by omega)]
   ·rw [List.getElem?_eq_none (by rw [ZlT]; omega), List.getElem?_eq_none (by
     simp only [ZlA, ZlT, ZlD, hcl]
     omega)]
 ·rw [List.getElem_set];split
  ·rw [ZlA, ZlA, ZlT, ZlD, hl];have := hlen k hlt;rw [hde] at this;omega
  ·exact hlen i _
 ·rw [List.length_set] at hi;have hk2 := hlen k hlt;rw [hde] at hk2;simp only [List.getElem_set] at hp ⊢
  by_cases hik : k = i
  ·subst hik;simp only [if_true] at hp ⊢;rw [ZlA, ZlA, ZlT, ZlD, hl] at hp
   by_cases c1 : j <= p /\ p < j + (a.eval y).cells.toList.length
   ·simp only [c1, and_self, if_true];have hpl : p - j < (a.eval y).cells.toList.length := by omega
    rw [ZgD, ZgE hpl, Option.getD_some];refine ⟨h4 _ (ZgM _), keep ?_⟩;rw [ZgL (by simp; omega), ZgR (by simp; omega)];have e1 : (List.take j ds).length = j := by simp; omega
    simp only [e1];exact h3.2 _ _ _
   ·rw [if_neg (by rintro ⟨_, h8, h9⟩; exact c1 ⟨h8, h9⟩)];have h10 := hrep k hlt p (by rw [hde]; omega);simp only [hde] at h10;refine ⟨h10.1, keep ?_⟩
    by_cases c2 : p < j
    ·rw [ZgL (by simp; omega), ZgL (by simp; omega), List.getElem_take];exact h10.2
    ·rw [ZgR (by simp; omega), List.getElem_drop];have e1 : (List.take j ds ++ d.parts).length = j + len := by simp; omega
     simp only [e1];have e2 : j + len + (p - (j + len)) = p := by omega
     simp only [e2];exact h10.2
  ·simp only [hik, if_false] at hp ⊢;rw [if_neg (by rintro ⟨h8, _⟩; exact hik h8.symm)];exact ⟨(hrep i hi p hp).1, keep (hrep i hi p hp).2⟩
end
section
variable {P : Program} {B : Nat} {ops : Array Oper} {o : Oper} {e : Env} {σ : Obs}
end
section
variable {P : Program} {B : Nat} {ops : Array Oper} {o : Oper} {e : Env} {σ : Obs}
theorem AOp.convSame {s t : TypeId} {x : Operand} {k k0 : IntKind} {n : Int} (ho : o.op = .convert s t x) (hc : Yfp P s t k = true) (hx : e.ev x = .d (.v (.int k0 n))) (hw : k.wrap n = n) : AOp P B ops o e σ (.d (.v (.int k n))) := by
 have := AOp.convInt (P := P) (B := B) (ops := ops) (σ := σ) ho hc hx;rwa [hw] at this
theorem wrapU64 {n : Int} (h0 : 0 <= n) (h1 : n <= 9223372036854775807) : IntKind.u64.wrap n = n := by rw [IntKind.wrap_u64]; omega
theorem AOp.half {t ty : TypeId} {x y : Operand} {a : Int} (ho : o.op = .binOp .shr t x y ty) (hx : e.ev x = .d (.v (.int .u64 a))) (hy : e.ev y = .d (.v (.int .u64 1))) : AOp P B ops o e σ (.d (.v (.int .u64 (a / 2)))) :=
 .bin ho hx hy fun w => by
 rw [Sem.run_bind, Yak];simp only [Result.andThen_ok, binOp, Op.shift];have h1 : ¬ ((1 : Int) < 0) := by decide
 rw [if_neg h1];have h2 : Min.min (1 : Int).toNat IntKind.u64.bits = 1 := by decide
 rw [h2];simp only [Sem.run_pure];congr 2;rw [Int.fdiv_eq_ediv_of_nonneg _ (by decide)];rfl
end
inductive Kd where
 | int (k : IntKind)
 | str
 | bool
def Kd.fits : Kd -> Value -> Bool
 | .int k, .int k' _ => decide (k' = k)
 | .str, .string _ => true
 | .bool, .bool _ => true
 | _, _ => false
def Kd.ofType (P : Program) (t : TypeId) : Kd -> Bool
 | .int k => match P.underlying t with | some (.int k') => decide (k' = k) | _ => false
 | .str => match P.underlying t with | some .string => true | _ => false
 | .bool => match P.underlying t with | some .bool => true | _ => false
def Yc9 : List Kd -> List Value -> Bool
 | [], [] => true
 | k :: ks, v :: vs => k.fits v && Yc9 ks vs
 | _, _ => false
def YeW (P : Program) : Nat -> List Kd -> List Field -> Bool
 | _, [], [] => true
 | i, k :: ks, f :: fs => (f.name != "_") && (f.offset == i) && k.ofType P f.type && YeW P (i + 1) ks fs
 | _, _, _ => false
def sameV : Value -> Value -> Bool
 | .int _ a, .int _ b => decide (a = b)
 | .string a, .string b => decide (a = b)
 | .bool a, .bool b => decide (a = b)
 | _, _ => false
def sameL : List Value -> List Value -> Bool
 | [], [] => true
 | a :: l, b :: r => sameV a b && sameL l r
 | _, _ => false
theorem run_eqCell {P : Program} (w : World) {k : Kd} {t : TypeId} (hk : k.ofType P t = true) {a b : Value} (ha : k.fits a = true) (hb : k.fits b = true) (d : Nat) : (Op.equalIn (d + 1) t a b).run P w = .ok (sameV a b) w := by
 cases k with
 | int q =>
  simp only [Kd.ofType] at hk;split at hk
  ·rename_i q' hu;have hq := dcT hk;subst hq;cases a <;> simp only [Kd.fits, Bool.false_eq_true] at ha;cases b <;> simp only [Kd.fits, Bool.false_eq_true] at hb;have h1 := dcT ha;have h2 := dcT hb;subst h1;rename_i x _ y;subst h2;rw [run_equalIn_int w d t _ _ x y hu];rw [show (x == y) = decide (x = y) by by_cases hxy : x = y <;> simp [hxy]]; rfl
  ·cases hk
 | str =>
  simp only [Kd.ofType] at hk;split at hk
  ·rename_i hu;cases a <;> simp only [Kd.fits, Bool.false_eq_true] at ha;cases b <;> simp only [Kd.fits, Bool.false_eq_true] at hb;rename_i x y;rw [run_equalIn_string w d t x y hu, toList_eq];rfl
  ·cases hk
 | bool =>
  simp only [Kd.ofType] at hk;split at hk
  ·rename_i hu;cases a <;> simp only [Kd.fits, Bool.false_eq_true] at ha;cases b <;> simp only [Kd.fits, Bool.false_eq_true] at hb;rename_i x y;rw [run_equalIn_bool w d t x y hu];cases x <;> cases y <;> rfl
  ·cases hk
theorem Ye7 {P : Program} {t : TypeId} {k : Kd} (h : k.ofType P t = true) : P.plainKey t = true := by
 unfold Program.plainKey;cases k <;> simp only [Kd.ofType] at h <;> split at h <;> first | cases h; done | simp_all
theorem YcA {P : Program} (w : World) (d : Nat) : ∀ (ks : List Kd) (fs : List Field) (pre pre' us vs : List Value), pre.length = pre'.length -> YeW P pre.length ks fs = true -> Yc9 ks us = true -> Yc9 ks vs = true ->
 (Op.eqFields (d + 1) (pre ++ us).toArray (pre' ++ vs).toArray fs).run P w = .ok (sameL us vs) w
 | [], [], _, _, [], [], _, _, _, _ => by simp [Op.eqFields, sameL]
 | k :: ks, f :: fs, pre, pre', u :: us, v :: vs, hl, hf, hu, hv => by
  simp only [YeW, Yc9, ZbA, bne_iff_ne, beq_iff_eq] at hf hu hv;obtain ⟨⟨⟨hn, ho⟩, hk⟩, hf⟩ := hf;have ih := YcA w d ks fs (pre ++ [u]) (pre' ++ [v]) us vs (by simp [hl]) (by simpa using hf) hu.2 hv.2;have p1 : (part f.type (pre ++ u :: us).toArray f.offset).run P w = .ok u w := run_part_plain w (Ye7 hk) (by rw [ho]; simp);have p2 : (part f.type (pre' ++ v :: vs).toArray f.offset).run P w = .ok v w := run_part_plain w (Ye7 hk) (by rw [ho, hl]; simp);rw [List.append_assoc, List.append_assoc] at ih;simp only [List.cons_append, List.nil_append] at ih;simp only [Op.eqFields, hn, ne_eq, not_false_eq_true, if_true, Sem.run_bind, p1, p2, run_eqCell w hk hu.1 hv.1, Result.andThen_ok, sameL];cases sameV u v
  ·simp
  ·simpa using ih
 | [], _ :: _, _, _, _, _, _, h, _, _ => by simp [YeW] at h
 | _ :: _, [], _, _, _, _, _, h, _, _ => by simp [YeW] at h
 | [], [], _, _, _ :: _, _, _, _, h, _ => by simp [Yc9] at h
 | [], [], _, _, [], _ :: _, _, _, _, h => by simp [Yc9] at h
 | _ :: _, _ :: _, _, _, [], _, _, _, h, _ => by simp [Yc9] at h
 | _ :: _, _ :: _, _, _, _ :: _, [], _, _, _, h => by simp [Yc9] at h
def eqStructB (P : Program) (t : TypeId) (ks : List Kd) : Bool :=
 (match P.underlying t with | some (.struct fs) => YeW P 0 ks fs.toList | _ => false) && !P.stoodInHeld t && !P.eqGuardType P.depth t
structure EqT (P : Program) (t : TypeId) (ks : List Kd) : Prop where
 guard : ∀ (op : BinOp) (x y : Operand) (us vs : Array Value) (w : World), (eqGuard op t x y (.agg us) (.agg vs)).run P w = .ok () w
 run : ∀ (us vs : List Value) (w : World), Yc9 ks us = true -> Yc9 ks vs = true -> (Op.equal t (.agg us.toArray) (.agg vs.toArray)).run P w = .ok (sameL us vs) w
theorem EqT.of {P : Program} {t : TypeId} {ks : List Kd} (h : eqStructB P t ks = true) : EqT P t ks := by
 unfold eqStructB at h;simp only [ZbA, Bool.not_eq_true'] at h;obtain ⟨⟨h1, h2⟩, h3⟩ := h;split at h1
 ·rename_i fs hu;have hfs : P.fieldsOf t = fs := by simp [Program.fieldsOf, hu]
  refine ⟨fun op x y us vs w => ?_, fun us vs w hk1 hk2 => ?_⟩
  ·unfold eqGuard;cases op <;> first | rfl | (simp [run_program, h3])
  ·have h4 := YcA w 9998 ks fs.toList [] [] us vs rfl (by simpa using h1) hk1 hk2;unfold Op.equal;rw [show Op.maxDepth = 9999 + 1 from rfl, run_equalIn_struct w 9999 t us.toArray vs.toArray (by rw [hfs]; exact hu) h2, hfs];simpa using h4
 ·cases h1
def EqD (P : Program) (t : TypeId) (ds1 ds2 : List D) (b : Bool) : Prop := ∃ us vs : List Value, ds1 = us.map D.v /\ ds2 = vs.map D.v /\ (∀ (op : BinOp) (x y : Operand) (w : World), (eqGuard op t x y (.agg us.toArray) (.agg vs.toArray)).run P w = .ok () w) /\
 ∀ w, (Op.equal t (.agg us.toArray) (.agg vs.toArray)).run P w = .ok b w
theorem EqD.of {P : Program} {t : TypeId} {ks : List Kd} {ds1 ds2 : List D} {b : Bool} (T : EqT P t ks) (us vs : List Value) (h1 : ds1 = us.map D.v) (h2 : ds2 = vs.map D.v) (k1 : Yc9 ks us = true) (k2 : Yc9 ks vs = true) (hb : sameL us vs = b) : EqD P t ds1 ds2 b :=
 ⟨us, vs, h1, h2, fun op x y w => T.guard op x y _ _ w, fun w => by rw [T.run us vs w k1 k2, hb]⟩
theorem rep_vs {F : Nat -> Prop} {w : World} {x : Value} {us : List Value} (h : Rep F w x (.agg (us.map D.v))) : x = .agg us.toArray := by
 cases h with
 | agg cs ds hl hone h =>
  congr 2;rw [ZlM] at hl;refine List.ext_getElem hl fun i h1 h2 => ?_
  have := h i h1 (by rw [ZlM]; exact h2);rw [ZgP] at this;exact rep_v this
section
variable {P : Program} {B : Nat} {ops : Array Oper} {o : Oper} {e : Env} {σ : Obs}
theorem AOp.aggEql {t ty : TypeId} {x y : Operand} {ds1 ds2 : List D} {b : Bool} (ho : o.op = .binOp .eql t x y ty) (hx : e.ev x = .d (.agg ds1)) (hy : e.ev y = .d (.agg ds2)) (E : EqD P t ds1 ds2 b) : AOp P B ops o e σ (.d (.v (.bool b))) := .value fun F ρ w a hF hr _ => by
 obtain ⟨us, vs, rfl, rfl, hg, hq⟩ := E;have h1 := hr x (by rw [ho]; simp [Op.operands]);have h2 := hr y (by rw [ho]; simp [Op.operands]);rw [hx] at h1;rw [hy] at h2;refine ⟨.bool b, F, w, ?_, .d (.v _), Ext.refl hF⟩;unfold execOp;simp only [ho, rep_vs (Yag h1), rep_vs (Yag h2)];rw [Sem.run_bind, Sem.run_bind, hg];simp only [Result.andThen_ok, binOp, Sem.run_bind, hq, Sem.run_pure]
end
theorem wp_to2 {P : Program} {o : Oper} {a : Act} {w : World} {K K' : Act -> World -> Prop} {Q Q' : Exit -> Act -> World -> Prop} (h : ∀ a w, K a w -> K' a w) (hq : ∀ e a w, e ≠ .normal -> Q e a w -> Q' e a w)
 (hh : o.wp P a w K Q) : o.wp P a w K' Q' := by
 unfold Oper.wp at *;generalize (execOp a.eval o).run P w = r at *
 cases r with
 | ok n w' =>
  cases n <;> simp only [Oper.upon] at hh ⊢ <;>
   first
    | exact h _ _ hh
    | exact Calls.mono hh (fun e w'' he => by cases e <;> first | exact h _ _ he | exact hq _ _ _ (by simp) he | exact he.imp fun _ => Exists.imp fun _ => hq _ _ _ (by simp))
    | exact Rows.mono hh (fun _ _ he => h _ _ he)
 | halt x w' => cases x <;> simp only [Oper.upon] at hh ⊢ <;> first | exact hq _ _ _ (by simp) hh | exact hh
def Region.edge (ops : Array Oper) (m j : Nat) : Bool := ((ops[m]?).map fun o => o.after.any fun e => Region.binds .any e && Nat.beq e.on j).getD false
def Region.downB (ops : Array Oper) : Bool := (List.range ops.size).all fun i =>
 ((ops[i]?).map fun o => (o.after.all fun e => !Region.binds .any e || Nat.blt e.on i) && (match o.guard with | none => true | some p => Nat.blt p.1 i)).getD true
def Region.chainB (ops : Array Oper) (k : Nat) : Bool := Region.downB ops && Nat.ble k ops.size && (List.range (ops.size - 1)).all fun j =>
 (List.range ops.size).any fun m => Nat.blt j m && (Nat.ble m k || Nat.ble m (j + 1)) && Region.edge ops m j
theorem Region.edge_spec {ops : Array Oper} {m j : Nat} (h : Region.edge ops m j = true) : ∃ o, ops[m]? = some o /\ ∃ e ∈ o.after, Region.binds .any e = true /\ e.on = j := by
 unfold Region.edge at h
 cases ho : ops[m]? with
 | none => rw [ho] at h; simp at h
 | some o =>
  rw [ho] at h;simp only [Option.map_some, Option.getD_some, Array.any_eq_true'] at h;obtain ⟨e, he, hb⟩ := h;simp only [ZbA] at hb;exact ⟨o, J, e, he, hb.1, Nat.eq_of_beq_eq_true hb.2⟩
theorem Region.down_spec {ops : Array Oper} (h : Region.downB ops = true) {i : Nat} {o : Oper} (ho : ops[i]? = some o) : (∀ e ∈ o.after, Region.binds .any e = true -> e.on < i) /\ ∀ p, o.guard = some p -> p.1 < i := by
 have h1 := List.all_eq_true.1 h i (List.mem_range.2 (ZaS.1 ho).1);rw [ho] at h1;simp only [Option.map_some, Option.getD_some, ZbA] at h1;refine ⟨fun e he hb => ?_, fun p hp => ?_⟩
 ·have := Array.all_eq_true_iff_forall_mem.1 h1.1 e he;rw [hb] at this;simpa [Nat.blt_eq] using this
 ·have h2 := h1.2;rw [hp] at h2;simpa [Nat.blt_eq] using h2
structure Chain (ops : Array Oper) (k : Nat) : Prop where
 down : Region.downB ops = true
 le : k <= ops.size
 next : ∀ j, j < ops.size - 1 -> ∃ m, j < m /\ (m <= k \/ m <= j + 1) /\ Region.edge ops m j = true
theorem Chain.of {ops : Array Oper} {k : Nat} (h : Region.chainB ops k = true) : Chain ops k := by
 unfold Region.chainB at h;simp only [ZbA] at h;obtain ⟨⟨h1, h2⟩, h3⟩ := h;refine ⟨h1, ZnB h2, fun j hj => ?_⟩;have h4 := List.all_eq_true.1 h3 j (List.mem_range.2 hj);obtain ⟨m, _, hm⟩ := List.any_eq_true.1 h4;simp only [ZbA, Bool.or_eq_true, Nat.blt_eq] at hm;exact ⟨m, hm.1.1, hm.1.2.imp ZnB ZnB, hm.2⟩
def Closed (ops : Array Oper) (listed : Array Bool) : Prop := ∀ i o, ops[i]? = some o -> listed.getD i false = true -> ∀ e ∈ o.after, Region.binds .any e = true -> listed.getD e.on false = true
theorem Ya7 {listed : Array Bool} {j : Nat} (h : j < listed.size) (a b : Bool) : listed.getD j a = listed.getD j b := by simp [ZaD, h]
theorem Closed.set {ops : Array Oper} {listed : Array Bool} (h : Closed ops listed) {i : Nat} (hi : i ∈ Region.ready .any ops listed) : Closed ops (listed.setIfInBounds i true) := by
 intro m o ho hm e he hb
 by_cases hmi : i = m
 ·subst hmi;obtain ⟨_, o', ho', hall⟩ := mem_ready.1 hi;rw [ho] at ho'; cases ho';exact getD_set_true (hall e he hb)
 ·rw [getD_set_ne false hmi] at hm;exact getD_set_true (h m o ho hm e he hb)
theorem Chain.before {ops : Array Oper} {k : Nat} (hC : Chain ops k) {listed : Array Bool} (hc : Closed ops listed) {i : Nat} (hi : i ∈ Region.ready .any ops listed) (hk : k <= i) : ∀ d j, j + d = i -> 0 < d -> listed.getD j false = true := by
 obtain ⟨_, oi, hoi, hall⟩ := mem_ready.1 hi;have hlt : i < ops.size := (ZaS.1 hoi).1;intro d
 induction d using Nat.strongRecOn with
 | ind d ih =>
  intro j hj hd;obtain ⟨m, h1, h2, h3⟩ := hC.next j (by omega)
  obtain ⟨o, ho, e, he, hb, heq⟩ := Region.edge_spec h3
  by_cases hmi : m = i
  ·subst hmi;rw [hoi] at ho; cases ho;rw [<- heq]; exact hall e he hb
  ·have := ih (i - m) (by omega) m (by omega) (by omega);rw [<- heq]; exact hc m o ho this e he hb
theorem YbZ {ops : Array Oper} (hd : Region.downB ops = true) {listed : Array Bool} (hs : listed.size = ops.size) : ∀ j, j < ops.size -> listed.getD j true = false -> ∃ m, m <= j /\ m ∈ Region.ready .any ops listed := by
 intro j
 induction j using Nat.strongRecOn with
 | ind j ih =>
  intro hj hu
  by_cases hr : j ∈ Region.ready .any ops listed
  ·exact ⟨j, ZnR _, hr⟩
  ·have ho : ops[j]? = some ops[j] := Array.getElem?_eq_getElem hj;have : ¬ ∀ e ∈ ops[j].after, Region.binds .any e = true -> listed.getD e.on false = true := fun hh => hr (mem_ready.2 ⟨hu, _, ho, hh⟩)
   simp only [Classical.not_forall] at this;obtain ⟨e, he, hb, hn⟩ := this;have hlt := (Region.down_spec hd ho).1 e he hb
   obtain ⟨m, h1, h2⟩ := ih e.on hlt (by omega) (by
    rw [Ya7 (by omega) true false]
    simpa using hn)
   exact ⟨m, by omega, h2⟩
section
variable {P : Program} {ops : Array Oper} {Q Q0 : Exit -> Act -> World -> Prop} {k : Nat}
theorem YfS (hC : Chain ops k) : ∀ (l : List Oper) (i : Nat) (listed : Array Bool) (fuel : Nat) (a : Act) (w : World), (∀ j, l[j]? = ops[i + j]?) -> i + l.length = ops.size -> k <= i -> listed.size = ops.size ->
 (∀ j, j < i -> listed.getD j false = true) -> (∀ j, i <= j -> j < ops.size -> listed.getD j true = false) -> Closed ops listed -> l.length <= fuel -> wpList P ops Q l a w -> wpAny P .any ops Q fuel listed a w
 | [], i, listed, fuel, a, w, hl, hsz, hk, hls, h1, h2, hc, hf, h => by
  have hr : Region.ready .any ops listed = [] := by
   refine List.eq_nil_iff_forall_not_mem.2 fun m hm => ?_
   obtain ⟨hu, o, ho, _⟩ := mem_ready.1 hm;have hlt : m < ops.size := (ZaS.1 ho).1;have := h1 m (by simp at hsz; omega);rw [Ya7 (by omega) false true, hu] at this;simp at this
  cases fuel with
  | zero => exact ⟨hr, h⟩
  | succ f => exact ⟨fun _ => h, fun m hm => by rw [hr] at hm; cases hm⟩
 | o :: l, i, listed, fuel, a, w, hl, hsz, hk, hls, h1, h2, hc, hf, h => by
  have h0 : ops[i]? = some o := by simpa using (hl 0).symm
  have hlt : i < ops.size := (ZaS.1 h0).1;have hl' : ∀ j, l[j]? = ops[i + 1 + j]? := fun j => by have := hl (j + 1); simpa [Nat.add_assoc, Nat.add_comm 1 j] using this
  have hui := h2 i (ZnR _) hlt;have hir : i ∈ Region.ready .any ops listed := mem_ready.2 ⟨hui, o, h0, fun e he hb => h1 _ ((Region.down_spec hC.down h0).1 e he hb)⟩
  have hnext : ∀ (a' : Act) (w' : World), wpList P ops Q l a' w' -> wpAny P .any ops Q (fuel - 1) (listed.setIfInBounds i true) a' w' := fun a' w' h' =>
   YfS hC l (i + 1) _ _ a' w' hl' (by simp at hsz; omega) (by omega) (by simp [hls]) (fun j hj => by
    by_cases hji : i = j
    ·subst hji;simp [ZaD, hls, hlt]
    ·rw [getD_set_ne false hji]; exact h1 j (by omega)) (fun j hj hj2 => by rw [getD_set_ne true (by omega)]; exact h2 j (by omega) hj2) (hc.set hir) (by simp at hf; omega) h'
  obtain ⟨f, rfl⟩ : ∃ f, fuel = f + 1 := ⟨fuel - 1, by simp at hf; omega⟩;refine ⟨fun hr => (by rw [hr] at hir; cases hir), fun m hm => ?_⟩;obtain ⟨hu, o', ho', _⟩ := mem_ready.1 hm
  have hm2 : m = i := by
   have hmlt : m < ops.size := (ZaS.1 ho').1
   rcases Nat.lt_trichotomy m i with hh | hh | hh
   ·have := h1 m hh;rw [Ya7 (by omega) false true, hu] at this;simp at this
   ·exact hh
   ·have := hC.before hc hm (by omega) (m - i) i (by omega) (by omega);rw [Ya7 (by omega) false true, hui] at this;simp at this
  subst hm2;unfold wpOp;simp only [h0];unfold wpList at h
  by_cases hw : Region.wanted o (yielded ops a.tmps) = true
  ·rw [if_pos hw] at h ⊢;exact h.imp (Oper.wp_mono hnext) id
  ·rw [if_neg hw] at h ⊢;exact hnext _ _ h
theorem YfT {ops0 : Array Oper} {o : Oper} {tmps : Array Value} (h : ∀ p, o.guard = some p -> ops0[p.1]? = ops[p.1]?) : Region.wanted o (yielded ops0 tmps) = Region.wanted o (yielded ops tmps) := by
 unfold Region.wanted
 cases hg : o.guard with
 | none => rfl
 | some p =>
  obtain ⟨j, want⟩ := p;have := h (j, want) hg;dsimp only at this ⊢;unfold yielded;rw [this]
theorem wpAny_split (hC : Chain ops k) {ops0 : Array Oper} (h0 : ops0.size = k) (hpre : ∀ j, j < k -> ops0[j]? = ops[j]?) (hN : ∀ a w, Q0 .normal a w -> wpList P ops Q (ops.toList.drop k) a w) (hE : ∀ e a w, e ≠ .normal -> Q0 e a w -> Q e a w) :
 ∀ (fuel0 : Nat) (listed0 listed : Array Bool) (fuel : Nat) (a : Act) (w : World), listed0.size = k -> listed.size = ops.size -> (∀ j, j < k -> ∀ d, listed0.getD j d = listed.getD j d) -> (∀ j, k <= j -> j < ops.size -> listed.getD j true = false) ->
  Closed ops listed -> fuel0 + (ops.size - k) <= fuel -> wpAny P .any ops0 Q0 fuel0 listed0 a w -> wpAny P .any ops Q fuel listed a w := by
 have hle := hC.le
 have hd0 : Region.downB ops0 = true := by
  unfold Region.downB;refine List.all_eq_true.2 fun i hi => ?_
  have hik := List.mem_range.1 hi;have h1 := List.all_eq_true.1 hC.down i (List.mem_range.2 (by omega));rw [hpre i (by omega)];exact h1
 have all : ∀ (fuel0 : Nat) (listed0 listed : Array Bool) (fuel : Nat) (a : Act) (w : World), listed0.size = k -> listed.size = ops.size -> (∀ j, j < k -> ∀ d, listed0.getD j d = listed.getD j d) -> (∀ j, k <= j -> j < ops.size -> listed.getD j true = false) ->
  Closed ops listed -> fuel0 + (ops.size - k) <= fuel -> wpAny P .any ops0 Q0 fuel0 listed0 a w -> (∀ j, j < k -> listed.getD j false = true) -> wpAny P .any ops Q fuel listed a w := by
  intro fuel0 listed0 listed fuel a w hs0 hs hag hun hc hf H hall
  have hr0 : Region.ready .any ops0 listed0 = [] := by
   refine List.eq_nil_iff_forall_not_mem.2 fun m hm => ?_
   obtain ⟨hu, o, ho, _⟩ := mem_ready.1 hm;have hlt : m < ops0.size := (ZaS.1 ho).1;have h1 := hall m (by omega);rw [<- hag m (by omega), Ya7 (by omega) false true, hu] at h1;simp at h1
  have hQ : Q0 .normal a w := by
   cases fuel0 with
   | zero => exact H.2
   | succ f => exact H.1 hr0
  exact YfS hC (ops.toList.drop k) k listed fuel a w (fun j => by rw [ZgO, Array.getElem?_toList]) (by rw [ZlD, ZaL]; omega) (ZnR _) hs hall hun hc (by rw [ZlD, ZaL]; omega) (hN a w hQ)
 intro fuel0
 induction fuel0 with
 | zero =>
  intro listed0 listed fuel a w hs0 hs hag hun hc hf H;refine all 0 listed0 listed fuel a w hs0 hs hag hun hc hf H fun j hj => ?_
  cases hh : listed.getD j false with
  | true => rfl
  | false =>
   rw [<- hag j hj, Ya7 (by omega) false true] at hh;obtain ⟨m, _, hm⟩ := YbZ hd0 (by omega) j (by omega) hh
   rw [H.1] at hm; cases hm
 | succ fuel0 ih =>
  intro listed0 listed fuel a w hs0 hs hag hun hc hf H
  by_cases hall : ∀ j, j < k -> listed.getD j false = true
  ·exact all _ listed0 listed fuel a w hs0 hs hag hun hc hf H hall
  ·simp only [Classical.not_forall] at hall;obtain ⟨j, hj, hjn⟩ := hall;have hju : listed.getD j true = false := by rw [Ya7 (by omega) true false]; simpa using hjn
   obtain ⟨f, rfl⟩ : ∃ f, fuel = f + 1 := ⟨fuel - 1, by omega⟩;refine ⟨fun hr => ?_, fun m hm => ?_⟩
   ·obtain ⟨m, _, hm⟩ := YbZ hC.down hs j (by omega) hju;rw [hr] at hm; cases hm
   ·obtain ⟨hu, o, ho, hdep⟩ := mem_ready.1 hm;have hmlt : m < ops.size := (ZaS.1 ho).1
    have hmk : m < k := by
     refine Nat.lt_of_not_le fun hkm => hjn ?_
     exact hC.before hc hm hkm (m - j) j (by omega) (by omega)
    have ho0 : ops0[m]? = some o := by rw [hpre m hmk]; exact ho
    have hm0 : m ∈ Region.ready .any ops0 listed0 := mem_ready.2 ⟨by rw [hag m hmk]; exact hu, o, ho0, fun e he hb => by
     have := (Region.down_spec hC.down ho).1 e he hb
     rw [hag _ (by omega)]; exact hdep e he hb⟩
    have h1 := H.2 m hm0;unfold wpOp at h1 ⊢;simp only [ho, ho0] at h1 ⊢;rw [YfT (ops := ops) fun p hp => hpre _ (by have := (Region.down_spec hC.down ho).2 p hp; omega)] at h1
    have hnext : ∀ (a' : Act) (w' : World), wpAny P .any ops0 Q0 fuel0 (listed0.setIfInBounds m true) a' w' -> wpAny P .any ops Q f (listed.setIfInBounds m true) a' w' := fun a' w' h' =>
     ih _ _ f a' w' (by simp [hs0]) (by simp [hs]) (fun j hj d => by
      by_cases hmj : m = j
      ·subst hmj;simp [ZaD, hs0, hs, hmk, hmlt]
      ·rw [getD_set_ne d hmj, getD_set_ne d hmj]; exact hag j hj d) (fun j hj hj2 => by rw [getD_set_ne true (by omega)]; exact hun j hj hj2) (hc.set hm) (by omega) h'
    by_cases hw : Region.wanted o (yielded ops a.tmps) = true
    ·rw [if_pos hw] at h1 ⊢;exact h1.imp (wp_to2 hnext hE) fun h => ⟨h.1, h.2.imp fun _ => Exists.imp fun _ => hE _ _ _ (by simp)⟩
    ·rw [if_neg hw] at h1 ⊢;exact hnext _ _ h1
end
end
section
open Go.RowKit Go.MapKept
def MPut (M : List (Value × D)) (key : Value) (d : D) (M' : List (Value × D)) : Prop :=
 (∃ i d0, M[i]? = some (key, d0) /\ (∀ (j : Nat) (p : Value × D), M[j]? = some p -> p.1 = key -> j = i) /\ M' = M.set i (key, d)) \/ ((∀ p ∈ M, p.1 ≠ key) /\ M' = M ++ [(key, d)])
def MGet (M : List (Value × D)) (key : Value) (z d : D) : Prop := (∃ i, M[i]? = some (key, d) /\ ∀ (j : Nat) (p : Value × D), M[j]? = some p -> p.1 = key -> j = i) \/ ((∀ p ∈ M, p.1 ≠ key) /\ d = z)
theorem Yc1 {F : Nat -> Prop} {w : World} {M : List (Value × D)} {es : Array MapEntry} (hl : es.size = M.length) (h : ∀ i (h : i < es.size) (h' : i < M.length), es[i].key = M[i].1 /\ Rep F w es[i].val M[i].2) {j : Nat} {en : MapEntry} (hj : es.toList[j]? = some en) :
 ∃ p, M[j]? = some p /\ en.key = p.1 /\ Rep F w en.val p.2 := by
 rw [Array.getElem?_toList] at hj;obtain ⟨h1, h2⟩ := ZaS.1 hj;refine ⟨M[j]'(by omega), ZgE _, ?_, ?_⟩
 ·rw [<- h2]; exact (h j h1 (by omega)).1
 ·rw [<- h2]; exact (h j h1 (by omega)).2
theorem YbX {w : World} {b : Nat} {o : Obj} : Turn w { w with heap := w.heap.setIfInBounds b o } (some b) :=
 ⟨rfl, rfl, rfl, by simp, fun k _ hne => by
  have : b ≠ k := fun h => hne (by rw [h])
  simp [this]⟩
section
variable {cx : Cx} {ops : Array Oper} {o : Oper} {rest : List Oper} {e : Env} {σ σ' : Obs} {Q : Post}
theorem AOps.eff (hg : o.guard = none) (ht : o.dst = none) (h : EOp cx ops o e σ σ') (k : AOps cx ops rest e σ' Q) : AOps cx ops (o :: rest) e σ Q := by
 intro a w ⟨F, ρ, hr⟩;refine wpList_plain hg fun K hK => ?_
 refine wp_to ?_ (fun _ _ _ => False.elim) (h F ρ a w e hr (fun t _ => hr.env t));rintro a' w' ⟨rfl, h3⟩;obtain ⟨F', ρ', h4⟩ := h3 e hr;exact hK _ _ (k _ _ ⟨F', ρ', h4⟩)
theorem AOps.makeMap {t dst : Nat} (id : Nat) (hg : o.guard = none) (ht : o.dst = some dst) (hdn : Nat.blt dst cx.N = true) (ho : o.op = .makeMap t none) (hid : Obs.fresh id σ = true)
 (k : AOps cx ops rest ((e.kill id).put (some dst) (.own id)) ((id, .map []) :: Obs.kill id σ) Q) (hfx : cx.free id = true := by rfl) : AOps cx ops (o :: rest) e σ Q := by
 intro a w ⟨F, ρ, h⟩;refine wpList_plain hg fun K hK => ?_
 unfold Oper.wp execOp;simp only [ho, Option.map_none, Sem.run_bind, run_makeMap, Result.andThen_ok, Sem.run_pure];refine hK _ _ (k _ _ ⟨F, fun j => if j = id then .map (some w.heap.size) else ρ j, ?_⟩);have hE : Ext F w F (w.alloc (.map #[] 0)) := Ext.of_below h.lt ((Below.refl _ _).alloc (ZnR _) _)
 have h2 := h.turn (ρ' := fun j => if j = id then .map (some w.heap.size) else ρ j) (id := id) (ob := .map []) (row := none) (w' := w.alloc (.map #[] 0)) (F' := F) (fun j hj => by simp [hj])
  ⟨hE.below.os, hE.below.tape, hE.below.output, hE.below.size, fun k hk _ => hE.below.block k hk⟩ hfx (fun g hg => by simp at hg) (fun b hb => hb) (fun b hb => .inl hb) hE.lt
  ⟨w.heap.size, #[], 0, by simp, h.hB, fun hf => by have := h.lt _ hf; omega, (MapKept.heap_alloc w _).1, MapC.nil 0, fun i hi => by simp at hi⟩
  (fun g hg => by simp [blk] at hg; exact .inr (by omega)) ((id, .map []) :: Obs.kill id σ) (fun p hp => by
   cases hp with
   | head => exact .inl rfl
   | tail _ hp => obtain ⟨q, hq, rfl⟩ := Obs.mem_kill hp; exact .inr ⟨q, hq, Obs.fresh_spec hid q hq, rfl⟩)
 have h3 := h2.put (o := ⟨some dst, .ready 0, 0, "", #[], none⟩) (v := .map (some w.heap.size)) (s := .own id) (Ext.refl h2.lt) (by
  have := RepS.own (F := F) (ρ := fun j => if j = id then Value.map (some w.heap.size) else ρ j) (w := w.alloc (.map #[] 0)) id
  simpa using this) (by simpa [DstOk, Nat.blt_eq] using hdn)
 rw [ht];exact h3
end
section
variable {P : Program} {B : Nat} {ops : Array Oper} {o : Oper} {e : Env} {σ : Obs}
def CapsOk (e : Env) : List Operand -> List Cap -> Prop
 | [], [] => True
 | x :: xs, .p id off :: cs => e.ev x = .ptr id off /\ CapsOk e xs cs
 | x :: xs, .d y :: cs => e.ev x = .d y /\ CapsOk e xs cs
 | _, _ => False
theorem CapsOk.d {x : Operand} {xs : List Operand} {y : D} {cs : List Cap} (h : e.ev x = .d y) (k : CapsOk e xs cs) : CapsOk e (x :: xs) (.d y :: cs) := ⟨h, k⟩
end
def Cap.toS : Cap -> S
 | .p id off => .ptr id off
 | .d y => .d y
theorem RepCL.toS {F : Nat -> Prop} {ρ : Nat -> Value} {w : World} : ∀ {cs : List Value} {caps : List Cap}, RepCL F ρ w cs caps -> RepSL F ρ w cs (caps.map Cap.toS)
 | [], [], _ => ⟨rfl, fun i h => absurd h (by simp)⟩
 | x :: xs, c :: cs, h => by
  have h1 := RepCL.toS h.2;refine ⟨by simpa using h1.1, fun i h2 h3 => ?_⟩
  cases i with
  | zero =>
   have h4 := h.1
   cases c with
   | p id off => cases h4 with | p _ _ g hg => exact .ptr id off g hg
   | d y => cases h4 with | d h4 => exact .d h4
  | succ i => exact h1.2 i (by simpa using h2) (by simpa using h3)
 | [], _ :: _, h => h.elim
 | _ :: _, [], h => h.elim
section
variable {cx : Cx} {ops : Array Oper} {o : Oper} {rest : List Oper} {e : Env} {σ : Obs} {Q : Post}
end
theorem YbF {id : Nat} {o o' : Ob} {σ : Obs} (h : (id, o) ∈ σ) (hd : o = o') : (id, o') ∈ σ := hd ▸ h
theorem R0.recell {cx : Cx} {F : Nat -> Prop} {ρ : Nat -> Value} {e : Env} {σ : Obs} {a : Act} {w : World} (hr : R0 cx F ρ e σ a w) {id off : Nat} {ss : List S} {s s' : S} (hm : (id, Ob.cells ss) ∈ σ) (hs : ss[off]? = some s) (h : ∀ x, RepS F ρ w x s -> RepS F ρ w x s') :
 R0 cx F ρ e (Obs.upd id (.cells (ss.set off s')) σ) a w := by
 obtain ⟨g, ty, cs, h2, h3, h4, h5, h6, h7⟩ := hr.obs.ok _ hm;dsimp only at h2;refine hr.writeOb (g := g) (by rw [h2]; rfl) hm h3 h4 ⟨rfl, rfl, rfl, ZnR _, fun _ _ _ => rfl⟩ ⟨g, ty, cs, h2, h3, h4, h5, by simp [h6], fun j hj hj' => ⟨(h7 j hj (by simpa using hj')).1, ?_⟩⟩;rw [List.getElem_set]
 by_cases hj2 : off = j
 ·rw [if_pos hj2];subst hj2;have h8 := (h7 off hj (by simpa using hj')).2;rw [(ZgS.1 hs).2] at h8;exact h _ h8
 ·rw [if_neg hj2];exact (h7 j hj (by simpa using hj')).2
theorem R0.adoptCell {cx : Cx} {F : Nat -> Prop} {ρ : Nat -> Value} {e : Env} {σ : Obs} {a : Act} {w : World} (h : R0 cx F ρ e σ a w) {id off : Nat} {ss : List S} (id2 ee size : Nat) (hm : (id, Ob.cells ss) ∈ σ) (hs : ss[off]? = some (.d (.v (.slice none 0 0)))) (hid : ∀ p ∈ σ, p.1 ≠ id2) (hfx : cx.free id2 = true) :
 ∃ ρ', R0 cx F ρ' (e.kill id2) (Obs.upd id (.cells ((ss.map (S.kill id2)).set off (.own id2))) ((id2, .row ee size []) :: Obs.kill id2 σ)) a w := by
 refine ⟨fun j => if j = id2 then .slice none 0 0 else ρ j, ?_⟩
 have h1 := h.turn (ρ' := fun j => if j = id2 then .slice none 0 0 else ρ j) (id := id2) (ob := .row ee size []) (row := none) (w' := w) (F' := F) (fun j hj => by simp [hj])
  ⟨rfl, rfl, rfl, ZnR _, fun _ _ _ => rfl⟩ hfx (fun g hg => by simp at hg) (fun b hb => hb) (fun b hb => .inl hb) h.lt
  ⟨fun _ _ => undef, by simp [World.ownsRow], fun i hi => by simp at hi, fun i hi => by simp at hi, fun g hg => by simp [blk] at hg⟩ (fun g hg => by simp [blk] at hg) ((id2, .row ee size []) :: Obs.kill id2 σ) (fun p hp => by
   cases hp with
   | head => exact .inl rfl
   | tail _ hp => obtain ⟨q, hq, rfl⟩ := Obs.mem_kill hp; exact .inr ⟨q, hq, hid q hq, rfl⟩)
 have hmk : ∀ {σ : Obs}, (id, Ob.cells ss) ∈ σ -> (id, Ob.cells (ss.map (S.kill id2))) ∈ Obs.kill id2 σ := by
  intro σ hh
  induction σ with
  | nil => cases hh
  | cons p l ih =>
   cases hh with
   | head => exact .head _
   | tail _ hh => exact .tail _ (ih hh)
 refine h1.recell (s := .d (.v (.slice none 0 0))) (.tail _ (hmk hm)) (by rw [List.getElem?_map, hs]; rfl) fun x hx => ?_
 rw [Yav hx];have := RepS.own (F := F) (ρ := fun j => if j = id2 then Value.slice none 0 0 else ρ j) (w := w) id2;simpa using this
theorem AWP.adoptCell {cx : Cx} {c : Code} {e : Env} {σ : Obs} {Q : Post} (id2 ee size id off : Nat) {ss : List S} (hm : (id, Ob.cells ss) ∈ σ) (hs : ss[off]? = some (.d (.v (.slice none 0 0)))) (hid : Obs.fresh id2 σ = true)
 (k : AWP cx c (e.kill id2) (Obs.upd id (.cells ((ss.map (S.kill id2)).set off (.own id2))) ((id2, .row ee size []) :: Obs.kill id2 σ)) Q) (hfx : cx.free id2 = true := by rfl) : AWP cx c e σ Q := fun a w ⟨_, _, hr⟩ => by
 obtain ⟨ρ', h⟩ := hr.adoptCell id2 ee size hm hs (Obs.fresh_spec hid) hfx;exact k a w ⟨_, ρ', h⟩
theorem AOps.adoptCell {cx : Cx} {ops : Array Oper} {rest : List Oper} {e : Env} {σ : Obs} {Q : Post} (id2 ee size id off : Nat) {ss : List S} (hm : (id, Ob.cells ss) ∈ σ) (hs : ss[off]? = some (.d (.v (.slice none 0 0)))) (hid : Obs.fresh id2 σ = true)
 (k : AOps cx ops rest (e.kill id2) (Obs.upd id (.cells ((ss.map (S.kill id2)).set off (.own id2))) ((id2, .row ee size []) :: Obs.kill id2 σ)) Q) (hfx : cx.free id2 = true := by rfl) : AOps cx ops rest e σ Q := fun a w ⟨_, _, hr⟩ => by
 obtain ⟨ρ', h⟩ := hr.adoptCell id2 ee size hm hs (Obs.fresh_spec hid) hfx;exact k a w ⟨_, ρ', h⟩
theorem R0.freezeCells {cx : Cx} {F : Nat -> Prop} {ρ : Nat -> Value} {e : Env} {σ : Obs} {a : Act} {w : World} (h : R0 cx F ρ e σ a w) {t id : Nat} {ds : List D} (ht : e t = .ptr id 0) (hm : (id, Ob.cells (ds.map S.d)) ∈ σ) :
 ∃ F', R0 cx F' ρ (e.put (some t) (.d (.fp ds))) (Obs.del id σ) a w := by
 have hF2 : ∀ b, (F b \/ blk (ρ id) = some b) -> b < w.heap.size := fun b hb => by
  rcases hb with hb | hb
  ·exact h.lt b hb
  ·exact ((h.obs.ok _ hm).blk_lt hb).2
 have keep : ∀ {x : Value} {s : S}, RepS F ρ w x s -> RepS (fun b => F b \/ blk (ρ id) = some b) ρ w x s := fun hx =>
  RepS.turn (row := none) hx h.lt (fun g hg => by simp at hg) ⟨rfl, rfl, rfl, ZnR _, fun _ _ _ => rfl⟩ (fun b hb => .inl hb)
 refine ⟨fun b => F b \/ blk (ρ id) = some b, h.size, h.defers, hF2, fun b hb => .inl (h.base b hb), fun b hb => ?_, h.below, h.hB, fun u => ?_, ?_, h.up, fun p hp => h.kown p (Obs.mem_del hp).1, h.fixed⟩
 ·rcases hb with hb | hb
  ·exact h.new b hb
  ·exact .inr (h.kown _ hm b hb)
 ·by_cases hu : u = t
  ·subst hu;rw [Env.put_same];have h1 := h.env u;rw [ht] at h1;obtain ⟨g, ty, cs, h2, h3, h4, h5, h6, h7⟩ := h.obs.ok _ hm;dsimp only at h2;have hv := YbM h1 (g := g) (by rw [h2]; rfl);rw [hv];refine .d (.fp ⟨g, 0, none⟩ ds (fun j => cs.getD j undef) (.inr (by rw [h2]; rfl)) (fun j hj => ?_) (fun j hj => ?_) (fun j hj => ?_))
   ·have hjc : j < cs.length := by simp at h6; omega
    rw [YaN, cell_of_row w g (0 + j) cs.toArray ty (0, 0) h5];simp [hjc]
   ·have hjc : j < cs.length := by simp at h6; omega
    have := (h7 j hjc (by simpa using hj)).1;simpa [hjc] using this
   ·have hjc : j < cs.length := by simp at h6; omega
    have h8 := (h7 j hjc (by simpa using hj)).2;rw [ZgP] at h8;have h9 := Yag (keep h8);simpa [hjc] using h9
  ·rw [Env.put_other _ _ _ _ hu];exact keep (h.env u)
 ·refine ⟨fun p hp => ?_, fun p hp q hq => h.obs.apart p (Obs.mem_del hp).1 q (Obs.mem_del hq).1, fun p hp q hq => h.obs.uniq p (Obs.mem_del hp).1 q (Obs.mem_del hq).1⟩;obtain ⟨h1, h2⟩ := Obs.mem_del hp
  exact (h.obs.ok p h1).more h.lt (fun b hb => .inl hb) fun g hg hf => by
   rcases hf with hf | hf
   ·exact (h.obs.ok p h1).nF hg hf
   ·exact h.obs.apart p h1 _ hm h2 g hg hf
theorem AWP.freezeCells {cx : Cx} {c : Code} {e : Env} {σ : Obs} {Q : Post} (t : Nat) {id : Nat} {ds : List D} (ht : e t = .ptr id 0) (hm : (id, Ob.cells (ds.map S.d)) ∈ σ) (k : AWP cx c (e.put (some t) (.d (.fp ds))) (Obs.del id σ) Q) : AWP cx c e σ Q :=
 fun a w ⟨_, ρ, hr⟩ => by
  obtain ⟨F', h⟩ := hr.freezeCells ht hm;exact k a w ⟨F', ρ, h⟩
theorem AOps.freezeCells {cx : Cx} {ops : Array Oper} {rest : List Oper} {e : Env} {σ : Obs} {Q : Post} (t : Nat) {id : Nat} {ds : List D} (ht : e t = .ptr id 0) (hm : (id, Ob.cells (ds.map S.d)) ∈ σ) (k : AOps cx ops rest (e.put (some t) (.d (.fp ds))) (Obs.del id σ) Q) : AOps cx ops rest e σ Q :=
 fun a w ⟨_, ρ, hr⟩ => by
  obtain ⟨F', h⟩ := hr.freezeCells ht hm;exact k a w ⟨F', ρ, h⟩
end
section
open Go.RowKit
theorem S.kill_kill (id : Nat) (s : S) : (s.kill id).kill id = s.kill id := by
 cases s with
 | d x => rfl
 | own i => cases h : Nat.beq i id <;> simp only [S.kill, h]
 | ptr i off => cases h : Nat.beq i id <;> simp only [S.kill, h]
 | clo f caps => cases h : Cap.anyP (fun i => Nat.beq i id) caps <;> simp only [S.kill, h]
theorem R0.killEnv {cx : Cx} {F : Nat -> Prop} {ρ : Nat -> Value} {e : Env} {σ : Obs} {a : Act} {w : World} (h : R0 cx F ρ e σ a w) (id : Nat) : R0 cx F ρ (e.kill id) σ a w :=
 ⟨h.size, h.defers, h.lt, h.base, h.new, h.below, h.hB, fun t => (h.env t).kill id (fun _ _ => rfl), h.obs, h.up, h.kown, h.fixed⟩
def QF (dst id : Nat) (s0 : S) (ob : Ob) (e0 : Env) (σ : Obs) : Post := fun ex e' σ' => match ex with
 | .normal => e' = (e0.kill id).put (some dst) s0 /\ σ' = (id, ob) :: Obs.kill id σ
 | _ => False
structure Fr where
 dst : Nat
 id : Nat
 s0 : S
 ob : Ob
def Yfm (Φ : List Fr) : Obs := Φ.map fun f => (f.id, f.ob)
structure FrOk (cx : Cx) (Φ : List Fr) (σ : Obs) : Prop where
 uid : ∀ f ∈ Φ, ∀ g ∈ Φ, f.id = g.id -> f = g
 udst : ∀ f ∈ Φ, ∀ g ∈ Φ, f.dst = g.dst -> f = g
 own : ∀ f ∈ Φ, f.s0.kill f.id = .d .any /\ f.s0 ≠ .d .any
 other : ∀ f ∈ Φ, ∀ g ∈ Φ, g.id ≠ f.id -> g.s0.kill f.id = g.s0 /\ g.ob.kill f.id = g.ob
 fresh : ∀ f ∈ Φ, Obs.fresh f.id σ = true
 kill : ∀ f ∈ Φ, Obs.kill f.id σ = σ
 free : ∀ f ∈ Φ, cx.free f.id = true
theorem FrOk.one {cx : Cx} {σ : Obs} {f : Fr} (h1 : f.s0.kill f.id = .d .any) (h2 : f.s0 ≠ .d .any) (h3 : Obs.fresh f.id σ = true) (h4 : Obs.kill f.id σ = σ) (h5 : cx.free f.id = true) : FrOk cx [f] σ where
 uid := fun a ha b hb _ => by rw [ZmS] at ha hb; rw [ha, hb]
 udst := fun a ha b hb _ => by rw [ZmS] at ha hb; rw [ha, hb]
 own := fun a ha => by rw [ZmS] at ha; subst ha; exact ⟨h1, h2⟩
 other := fun a ha b hb hne => by rw [ZmS] at ha hb; subst ha; subst hb; exact absurd rfl hne
 fresh := fun a ha => by rw [ZmS] at ha; subst ha; exact h3
 kill := fun a ha => by rw [ZmS] at ha; subst ha; exact h4
 free := fun a ha => by rw [ZmS] at ha; subst ha; exact h5
theorem Ycu {α : Type} {a f g : α} (h : a ∈ [f, g]) : a = f \/ a = g := by simpa using h
theorem FrOk.two {cx : Cx} {σ : Obs} {f g : Fr} (h1 : f.s0.kill f.id = .d .any) (h2 : f.s0 ≠ .d .any) (h3 : Obs.fresh f.id σ = true) (h4 : Obs.kill f.id σ = σ) (h5 : cx.free f.id = true) (k1 : g.s0.kill g.id = .d .any) (k2 : g.s0 ≠ .d .any) (k3 : Obs.fresh g.id σ = true) (k4 : Obs.kill g.id σ = σ) (k5 : cx.free g.id = true)
 (hid : f.id ≠ g.id) (hdst : f.dst ≠ g.dst) (x1 : g.s0.kill f.id = g.s0) (x2 : g.ob.kill f.id = g.ob) (x3 : f.s0.kill g.id = f.s0) (x4 : f.ob.kill g.id = f.ob) : FrOk cx [f, g] σ where
 uid := fun a ha b hb he => by
  rcases Ycu ha with rfl | rfl <;> rcases Ycu hb with rfl | rfl <;> first | rfl | exact absurd he hid | exact absurd he.symm hid
 udst := fun a ha b hb he => by
  rcases Ycu ha with rfl | rfl <;> rcases Ycu hb with rfl | rfl <;> first | rfl | exact absurd he hdst | exact absurd he.symm hdst
 own := fun a ha => by rcases Ycu ha with rfl | rfl; exact ⟨h1, h2⟩; exact ⟨k1, k2⟩
 other := fun a ha b hb hne => by
  rcases Ycu ha with rfl | rfl <;> rcases Ycu hb with rfl | rfl <;> first | exact absurd rfl hne | exact ⟨x1, x2⟩ | exact ⟨x3, x4⟩
 fresh := fun a ha => by rcases Ycu ha with rfl | rfl; exact h3; exact k3
 kill := fun a ha => by rcases Ycu ha with rfl | rfl; exact h4; exact k4
 free := fun a ha => by rcases Ycu ha with rfl | rfl; exact h5; exact k5
def FreshOp (cx : Cx) (ops : Array Oper) (τ : Obs) (f : Fr) (o : Oper) (e : Env) : Prop :=
 o.dst = some f.dst /\ ∀ (e0 : Env) (σ : Obs), (∀ p ∈ τ, p ∈ σ) -> (∀ t, t ∈ o.looksAt ops -> e0 t = e t) -> Obs.fresh f.id σ = true -> AOps cx ops [o] e0 σ (QF f.dst f.id f.s0 f.ob e0 σ)
theorem FreshOp.same {cx : Cx} {ops : Array Oper} {τ : Obs} {f : Fr} {o : Oper} {e e' : Env} (h : FreshOp cx ops τ f o e) (he : ∀ t, t ∈ o.looksAt ops -> e' t = e t) : FreshOp cx ops τ f o e' :=
 ⟨h.1, fun e0 σ hτ h0 hf => h.2 e0 σ hτ (fun t ht => (h0 t ht).trans (he t ht)) hf⟩
def notDst (Φ : List Fr) (o : Oper) : Prop := ∀ f ∈ Φ, o.dst ≠ some f.dst
def XStep (cx : Cx) (ops : Array Oper) (σ : Obs) (Φ : List Fr) (o : Oper) (e : Env) (s : S) : Prop :=
 (GW ops o e true /\ ((∃ f ∈ Φ, FreshOp cx ops σ f o e /\ s = f.s0) \/ (AOp cx.P cx.B ops o e σ s /\ notDst Φ o /\ ∀ f ∈ Φ, s.kill f.id = s \/ ∃ t, t ∈ o.looksAt ops /\ (e t).kill f.id ≠ e t))) \/ (GW ops o e false /\ s = .d (.v undef) /\ notDst Φ o)
theorem XStep.same {cx : Cx} {ops : Array Oper} {σ : Obs} {Φ : List Fr} {o : Oper} {e e' : Env} {s : S} (h : XStep cx ops σ Φ o e s) (he : ∀ t, t ∈ o.looksAt ops -> e' t = e t) : XStep cx ops σ Φ o e' s := by
 rcases h with ⟨h1, h2⟩ | ⟨h1, h2⟩
 ·exact .inl ⟨h1.same he, h2.imp (fun ⟨f, hf, h, h'⟩ => ⟨f, hf, h.same he, h'⟩) fun h => ⟨h.1.same he, h.2.1, fun f hf => (h.2.2 f hf).imp (fun h => h) fun ⟨t, ht, hn⟩ => ⟨t, ht, by rw [he t ht]; exact hn⟩⟩⟩
 ·exact .inr ⟨h1.same he, h2⟩
def XRun (cx : Cx) (ops : Array Oper) (σ : Obs) (Φ : List Fr) : List Oper -> Env -> (Env -> Prop) -> Prop
 | [], e, Qe => (∀ f ∈ Φ, e f.dst = f.s0) /\ Qe e
 | o :: l, e, Qe => DstOk cx.N o /\ ∃ s, XStep cx ops σ Φ o e s /\ XRun cx ops σ Φ l (e.put o.dst s) Qe
def anyX (cx : Cx) (ops : Array Oper) (σ : Obs) (Φ : List Fr) (Qe : Env -> Prop) : Nat -> Array Bool -> Env -> Prop
 | 0, listed, e => Region.ready .any ops listed = [] /\ Qe e
 | fuel + 1, listed, e => (Region.ready .any ops listed = [] -> Qe e) /\
  ∀ i ∈ Region.ready .any ops listed, ∀ o, ops[i]? = some o -> ∃ s, XStep cx ops σ Φ o e s /\ anyX cx ops σ Φ Qe fuel (listed.setIfInBounds i true) (e.put o.dst s)
theorem anyX_first {cx : Cx} {ops : Array Oper} {σ : Obs} {Φ : List Fr} {Qe : Env -> Prop} {i : Nat} {oi : Oper} {s : S} (hi : ops[i]? = some oi) :
 ∀ (fuel : Nat) (listed : Array Bool) (e : Env),
  (∀ j oj, ops[j]? = some oj -> j ≠ i -> listed.getD j true = false -> (∀ e ∈ oj.after, Region.binds .any e = true -> e.on ≠ i) -> oi.apart ops oj = true) ->
  i ∈ Region.ready .any ops listed -> XStep cx ops σ Φ oi e s -> anyX cx ops σ Φ Qe fuel (listed.setIfInBounds i true) (e.put oi.dst s) -> anyX cx ops σ Φ Qe (fuel + 1) listed e := by
 intro fuel
 induction fuel with
 | zero =>
  intro listed e _ hr hy H;refine ⟨fun h => (by rw [h] at hr; cases hr), fun j hj o ho => ?_⟩
  by_cases hji : j = i
  ·subst hji;rw [hi] at ho; cases ho;exact ⟨s, hy, H⟩
  ·have := ready_mono hj hji;rw [H.1] at this
   cases this
 | succ fuel ih =>
  intro listed e hfree hr hy H;refine ⟨fun h => (by rw [h] at hr; cases hr), fun j hj oj hoj => ?_⟩
  by_cases hji : j = i
  ·subst hji;rw [hi] at hoj; cases hoj;exact ⟨s, hy, H⟩
  ·obtain ⟨sj, h1, h2⟩ := H.2 j (ready_mono hj hji) oj hoj;obtain ⟨hjun, oj', hoj', hall⟩ := mem_ready.1 hj;rw [hoj] at hoj'; cases hoj'
   have hnot : ∀ e ∈ oj.after, Region.binds .any e = true -> e.on ≠ i := fun e he hb heq => by
    have h1 := hall e he hb;have h0 := (mem_ready.1 hr).1;rw [heq] at h1
    rcases Nat.lt_or_ge i listed.size with h' | h'
    ·simp [h'] at h0 h1; rw [h0] at h1; cases h1
    ·simp [Array.getElem?_eq_none h'] at h1
   obtain ⟨a1, a2, a3⟩ := Oper.apart_spec (hfree j oj hoj hji hjun hnot);refine ⟨sj, h1.same (fun t ht => (YcE a1 t ht).symm), ?_⟩;refine ih (listed.setIfInBounds j true) (e.put oj.dst sj) (fun k ok hk hki hun hno => ?_) (ready_mono hr (Ne.symm hji)) (hy.same (YcE a3)) ?_
   ·refine hfree k ok hk hki ?_ hno
    by_cases hjk : j = k
    ·subst hjk; exact hjun
    ·rw [getD_set_ne true hjk] at hun; exact hun
   ·rw [Array.setIfInBounds_comm _ _ hji, <- Env.put_comm e oi.dst oj.dst s sj a2];exact h2
theorem anyX_lex {cx : Cx} {ops : Array Oper} {σ : Obs} {Φ : List Fr} {Qe : Env -> Prop} : ∀ (l : List Oper) (k : Nat) (listed : Array Bool) (e : Env), (∀ j, l[j]? = ops[k + j]?) ->
 Region.lexFrom .any ops l.length k listed = true -> XRun cx ops σ Φ l e Qe -> anyX cx ops σ Φ (fun e => (∀ f ∈ Φ, e f.dst = f.s0) /\ Qe e) l.length listed e
 | [], _, _, _, _, hB, h => ⟨by simpa [Region.lexFrom] using hB, h⟩
 | o :: l, k, listed, e, hl, hB, h => by
  have h0 : ops[k]? = some o := by simpa using (hl 0).symm
  simp only [List.length_cons, Region.lexFrom, ZbA] at hB;obtain ⟨⟨hr, hf⟩, hB'⟩ := hB;have hl' : ∀ j, l[j]? = ops[k + 1 + j]? := fun j => by have := hl (j + 1); simpa [Nat.add_assoc, Nat.add_comm 1 j] using this
  obtain ⟨_, s, hs, hK⟩ := h;exact anyX_first h0 l.length listed e (Region.free_spec h0 hf) (by simpa using hr) hs (anyX_lex l (k + 1) _ _ hl' hB' hK)
theorem XRun.dsts {cx : Cx} {ops : Array Oper} {σ : Obs} {Φ : List Fr} {Qe : Env -> Prop} : ∀ (l : List Oper) (e : Env), XRun cx ops σ Φ l e Qe -> ∀ o ∈ l, DstOk cx.N o
 | [], _, _, o, ho => by cases ho
 | x :: l, e, h, o, ho => by
  obtain ⟨h1, s, _, h2⟩ := h
  cases ho with
  | head => exact h1
  | tail _ ho => exact XRun.dsts l _ h2 o ho
def RelX (cx : Cx) (ops : Array Oper) (σ : Obs) (Φ : List Fr) (listed : Array Bool) (e : Env) (a : Act) (w : World) : Prop :=
 ∃ Δ : List Fr, (∀ g ∈ Δ, g ∈ Φ) /\ (∀ g ∈ Δ, ∃ i o, ops[i]? = some o /\ listed.getD i false = true /\ o.dst = some g.dst) /\ (∀ g ∈ Δ, e g.dst = g.s0) /\ (∀ f ∈ Φ, ¬ f ∈ Δ -> ∀ t, (e t).kill f.id = e t) /\ R cx e (Yfm Δ ++ σ) a w
theorem R.sub {cx : Cx} {e : Env} {σ σ' : Obs} {a : Act} {w : World} (h : R cx e σ a w) (hs : ∀ p ∈ σ', p ∈ σ) : R cx e σ' a w := by
 obtain ⟨F, ρ, h⟩ := h;exact ⟨F, ρ, h.size, h.defers, h.lt, h.base, h.new, h.below, h.hB, h.env, h.obs.sub hs, h.up, fun q hq => h.kown q (hs q hq), h.fixed⟩
theorem Obs.kill_append (id : Nat) : ∀ (a b : Obs), Obs.kill id (a ++ b) = Obs.kill id a ++ Obs.kill id b
 | [], _ => rfl
 | p :: a, b => by show (p.1, p.2.kill id) :: Obs.kill id (a ++ b) = _; rw [Obs.kill_append id a b]; rfl
theorem kill_frObs {id : Nat} : ∀ {Δ : List Fr}, (∀ g ∈ Δ, g.ob.kill id = g.ob) -> Obs.kill id (Yfm Δ) = Yfm Δ
 | [], _ => rfl
 | g :: Δ, h => by
  show (g.id, g.ob.kill id) :: Obs.kill id (Yfm Δ) = _
  rw [h g List.mem_cons_self, kill_frObs fun g hg => h g (List.mem_cons_of_mem _ hg)];rfl
theorem Yfc {id : Nat} {σ : Obs} : ∀ {a : Obs}, (∀ p ∈ a, p.1 ≠ id) -> Obs.fresh id σ = true -> Obs.fresh id (a ++ σ) = true
 | [], _, h => h
 | p :: a, h1, h => by
  show (!(Nat.beq p.1 id) && Obs.fresh id (a ++ σ)) = true
  rw [Yfc (fun q hq => h1 q (List.mem_cons_of_mem _ hq)) h, Bool.and_true];have := h1 p List.mem_cons_self
  cases hb : Nat.beq p.1 id with
  | true => exact absurd (beq_true hb) this
  | false => rfl
theorem wpAny_of_X {cx : Cx} {ops : Array Oper} {σ : Obs} {Φ : List Fr} {Q : Post} (hd : ∀ o ∈ ops.toList, DstOk cx.N o) (hone : ∀ f ∈ Φ, ∀ (i j : Nat) (o o' : Oper), ops[i]? = some o -> ops[j]? = some o' -> o.dst = some f.dst -> o'.dst = some f.dst -> i = j) (ok : FrOk cx Φ σ) :
 ∀ (fuel : Nat) (listed : Array Bool) (e : Env) (a : Act) (w : World), RelX cx ops σ Φ listed e a w ->
 anyX cx ops σ Φ (fun e => (∀ f ∈ Φ, e f.dst = f.s0) /\ Q .normal e (Yfm Φ ++ σ)) fuel listed e -> wpAny cx.P .any ops (lift cx Q) fuel listed a w := by
 have fin : ∀ (listed : Array Bool) (e : Env) (a : Act) (w : World), RelX cx ops σ Φ listed e a w -> ((∀ f ∈ Φ, e f.dst = f.s0) /\ Q .normal e (Yfm Φ ++ σ)) -> lift cx Q .normal a w := by
  rintro listed e a w ⟨Δ, h1, _, h2, h3, h4⟩ ⟨h5, h6⟩
  have hall : ∀ f ∈ Φ, f ∈ Δ := fun f hf => Classical.byContradiction fun hn => by
   have h7 := h3 f hf hn f.dst;rw [h5 f hf, (ok.own f hf).1] at h7;exact (ok.own f hf).2 h7.symm
  refine ⟨e, _, h6, h4.sub fun p hp => ?_⟩
  rcases List.mem_append.1 hp with hp | hp
  ·obtain ⟨f, hf, rfl⟩ := ZmM.1 hp;exact List.mem_append.2 (.inl (ZmM.2 ⟨f, hall f hf, J⟩))
  ·exact List.mem_append.2 (.inr hp)
 have pure : ∀ {e : Env} {o : Oper} {s : S} {Δ : List Fr}, (∀ g ∈ Δ, g ∈ Φ) -> (∀ g ∈ Δ, e g.dst = g.s0) -> (∀ f ∈ Φ, ¬ f ∈ Δ -> ∀ t, (e t).kill f.id = e t) -> notDst Φ o -> (∀ f ∈ Φ, ¬ f ∈ Δ -> s.kill f.id = s) ->
  (∀ g ∈ Δ, (e.put o.dst s) g.dst = g.s0) /\ (∀ f ∈ Φ, ¬ f ∈ Δ -> ∀ t, ((e.put o.dst s) t).kill f.id = (e.put o.dst s) t) := by
  intro e o s Δ h1 h2 h3 hn hs
  cases ho : o.dst with
  | none => exact ⟨h2, h3⟩
  | some u =>
   refine ⟨fun g hg => ?_, fun f hf hfn t => ?_⟩
   ·rw [Env.put_other _ _ _ _ (fun he => hn g (h1 g hg) (by rw [ho, he]))]; exact h2 g hg
   ·by_cases hu : t = u
    ·subst hu; rw [Env.put_same]; exact hs f hf hfn
    ·rw [Env.put_other _ _ _ _ hu]; exact h3 f hf hfn t
 intro fuel
 induction fuel with
 | zero => exact fun listed e a w hr h => ⟨h.1, fin listed e a w hr h.2⟩
 | succ fuel ih =>
  intro listed e a w hr h;refine ⟨fun h0 => fin listed e a w hr (h.1 h0), fun i hi => ?_⟩;obtain ⟨hui, o, ho, _⟩ := mem_ready.1 hi;obtain ⟨s, hs, hkk⟩ := h.2 i hi o ho;have hdo : DstOk cx.N o := hd o (Array.mem_toList_iff.2 (Array.mem_of_getElem? ho));have hil : i < listed.size := Nat.lt_of_not_le fun hle => by simp [ZaD, Array.getElem?_eq_none hle] at hui
  obtain ⟨Δ, h1, hL, h2, h3, hR⟩ := hr
  have hL' : ∀ g ∈ Δ, ∃ j o, ops[j]? = some o /\ (listed.setIfInBounds i true).getD j false = true /\ o.dst = some g.dst := fun g hg => by
   obtain ⟨j, o', q1, q2, q3⟩ := hL g hg;exact ⟨j, o', q1, getD_set_true q2, q3⟩
  have hR' := hR;obtain ⟨F, ρ, hr⟩ := hR';unfold wpOp;simp only [ho]
  rcases hs with ⟨hg, ⟨f, hf, ⟨hdst, hop⟩, rfl⟩ | ⟨hop, hne, hsk⟩⟩ | ⟨hg, rfl, hne⟩
  ·rw [if_pos (hg.wanted (fun t _ => hr.env t))]
   have hfn : ¬ f ∈ Δ := fun hfd => by
    obtain ⟨j, o', q1, q2, q3⟩ := hL f hfd;have := hone f hf i j o o' ho q1 hdst q3;subst this;rw [Ya7 hil false true, hui] at q2;simp at q2
   have hgi : ∀ g ∈ Δ, g.id ≠ f.id := fun g hg he => hfn (by rw [<- ok.uid g (h1 g hg) f hf he]; exact hg)
   have hek : e.kill f.id = e := funext fun t => h3 f hf hfn t
   have hok : Obs.kill f.id (Yfm Δ ++ σ) = Yfm Δ ++ σ := by
    rw [Obs.kill_append, ok.kill f hf, kill_frObs fun g hg => (ok.other f hf g (h1 g hg) (hgi g hg)).2]
   have hfr : Obs.fresh f.id (Yfm Δ ++ σ) = true := Yfc (fun p hp => by obtain ⟨g, hg, rfl⟩ := ZmM.1 hp; exact hgi g hg) (ok.fresh f hf);have h4 := hop e (Yfm Δ ++ σ) (fun p hp => List.mem_append.2 (.inr hp)) (fun _ _ => rfl) hfr a w hR;unfold wpList at h4;have hw : Region.wanted o (yielded ops a.tmps) = true := hg.wanted (fun t _ => hr.env t);rw [if_pos hw] at h4;rw [hdst] at hkk;refine h4.imp (wp_to2 ?_ ?_) fun h => ⟨h.1, ?_⟩
   ·rintro a' w' ⟨e', σ', ⟨rfl, rfl⟩, hr'⟩;rw [hok, hek] at hr';refine ih _ _ _ _ ⟨f :: Δ, fun g hg => ?_, fun g hg => ?_, fun g hg => ?_, fun k hk hkn t => ?_, hr'⟩ hkk
    ·rcases List.mem_cons.1 hg with rfl | hg
     ·exact hf
     ·exact h1 g hg
    ·rcases List.mem_cons.1 hg with rfl | hg
     ·exact ⟨i, o, ho, by simp [ZaD, hil], hdst⟩
     ·exact hL' g hg
    ·rcases List.mem_cons.1 hg with rfl | hg
     ·rw [Env.put_same]
     ·rw [Env.put_other _ _ _ _ (fun he => hgi g hg (by rw [ok.udst g (h1 g hg) f hf he]))];exact h2 g hg
    ·have hkf : f.id ≠ k.id := fun he => hkn (by rw [<- ok.uid f hf k hk he]; exact List.mem_cons_self)
     by_cases ht : t = f.dst
     ·subst ht; rw [Env.put_same]; exact (ok.other k hk f hf hkf).1
     ·rw [Env.put_other _ _ _ _ ht]; exact h3 k hk (fun hh => hkn (List.mem_cons_of_mem _ hh)) t
   ·rintro ex a' w' hne ⟨e', σ', hq, _⟩;cases ex <;> first | exact absurd rfl hne | exact hq.elim
   ·obtain ⟨a', w', e', σ', hq, _⟩ := h.2;exact hq.elim
  ·rw [if_pos (hg.wanted (fun t _ => hr.env t))];refine .inl (wp_to ?_ (fun _ _ _ => False.elim) (hop F ρ w a hr.lt (fun t _ => hr.env t) (hr.obs.sub fun q hq => List.mem_append.2 (.inr hq))));rintro a' w' ⟨v, F', rfl, hv, hE⟩
   obtain ⟨p1, p2⟩ := pure (o := o) (s := s) h1 h2 h3 hne fun f hf hfn => by
    rcases hsk f hf with hh | ⟨t, _, hh⟩
    ·exact hh
    ·exact absurd (h3 f hf hfn t) hh
   exact ih _ _ _ _ ⟨Δ, h1, hL', p1, p2, F', ρ, hr.put hE hv hdo⟩ hkk
  ·rw [if_neg (by rw [hg.wanted (fun t _ => hr.env t)]; simp)];obtain ⟨p1, p2⟩ := pure (o := o) (s := .d (.v undef)) h1 h2 h3 hne (fun _ _ _ => rfl);exact ih _ _ _ _ ⟨Δ, h1, hL', p1, p2, F, ρ, hr.put (Ext.refl hr.lt) YcB hdo⟩ hkk
section
variable {cx : Cx} {ops : Array Oper} {σ : Obs} {Φ : List Fr} {e : Env} {Qe : Env -> Prop} {o : Oper} {l : List Oper}
def Holds (p : Fr -> Prop) : List Fr -> Prop
 | [] => True
 | f :: l => p f /\ Holds p l
theorem Holds.all {p : Fr -> Prop} : ∀ {l : List Fr}, Holds p l -> ∀ f ∈ l, p f
 | [], _, f, hf => by cases hf
 | g :: l, h, f, hf => by
  cases hf with
  | head => exact h.1
  | tail _ hf => exact Holds.all h.2 f hf
theorem XRun.nil (hd : Holds (fun f => e f.dst = f.s0) Φ) (h : Qe e) : XRun cx ops σ Φ [] e Qe := ⟨hd.all, h⟩
def YgG (o : Oper) (dst : Nat) : Bool := match o.dst with | none => true | some t => !(Nat.beq t dst)
theorem Ybl {dst : Nat} (h : YgG o dst = true) : o.dst ≠ some dst := fun he => by unfold YgG at h; rw [he] at h; simp at h
def neAll (Φ : List Fr) (o : Oper) : Bool := Φ.all fun f => YgG o f.dst
theorem neAll_spec (h : neAll Φ o = true) : notDst Φ o := fun f hf => Ybl (List.all_eq_true.1 h f hf)
theorem XRun.step {s : S} {t : Nat} (hg : GW ops o e true) (ht : o.dst = some t) (hd : Nat.blt t cx.N = true) (h : AOp cx.P cx.B ops o e σ s) (k : XRun cx ops σ Φ l (e.put (some t) s) Qe) (hne : neAll Φ o = true := by rfl) (hs : Holds (fun f => s.kill f.id = s \/ ∃ t, t ∈ o.looksAt ops /\ (e t).kill f.id ≠ e t) Φ := by first | exact ⟨.inl rfl, trivial⟩ | exact ⟨.inl rfl, .inl rfl, trivial⟩ | exact ⟨.inr ⟨_, .head _, S.noConfusion⟩, trivial⟩ | exact ⟨.inr ⟨_, .head _, S.noConfusion⟩, .inl rfl, trivial⟩ | exact ⟨.inl rfl, .inr ⟨_, .head _, S.noConfusion⟩, trivial⟩) : XRun cx ops σ Φ (o :: l) e Qe :=
 ⟨by unfold DstOk; rw [ht]; exact hd, s, .inl ⟨hg, .inr ⟨h, neAll_spec hne, hs.all⟩⟩, by rw [ht]; exact k⟩
theorem ev_same {e0 e : Env} {x : Operand} (h : ∀ t, x = .tmp t -> e0 t = e t) : e0.ev x = e.ev x := by
 cases x with
 | tmp t => exact h t rfl
 | const v => rfl
 | global g => rfl
 | func f => rfl
theorem XRun.alloc {t : Nat} {z : Value} {zs : List Value} (f : Fr) (hf : f ∈ Φ) (hg : GW ops o e true) (hgn : o.guard = none) (ht : o.dst = some f.dst) (hd : Nat.blt f.dst cx.N = true) (ho : o.op = .alloc t) (hz : (cx.P.info? t).bind (·.zero) = some z) (hzc : z.cells.toList = zs) (h1 : zs.all (·.oneCell') = true) (hob : f.ob = .cells ((zs.map D.v).map S.d)) (hs : f.s0 = .ptr f.id 0)
 (k : XRun cx ops σ Φ l (e.put (some f.dst) f.s0) Qe) (hfx : cx.free f.id = true := by rfl) : XRun cx ops σ Φ (o :: l) e Qe :=
 ⟨by unfold DstOk; rw [ht]; exact hd, _, .inl ⟨hg, .inl ⟨f, hf, ⟨ht, fun e0 σ _ _ hfr => AOps.alloc f.id hgn ht hd ho hz hzc h1 hfr (.nil ⟨by rw [hs], by rw [hob]⟩) hfx⟩, rfl⟩⟩, by rw [ht]; exact k⟩
end
def Env.killAll : List Fr -> Env -> Env
 | [], e => e
 | f :: l, e => Env.killAll l (e.kill f.id)
theorem kill_comm (i j : Nat) (s : S) : (s.kill i).kill j = (s.kill j).kill i := by
 cases s with
 | d x => rfl
 | own k => cases h1 : Nat.beq k i <;> cases h2 : Nat.beq k j <;> simp only [S.kill, h1, h2]
 | ptr k off => cases h1 : Nat.beq k i <;> cases h2 : Nat.beq k j <;> simp only [S.kill, h1, h2]
 | clo f caps => cases h1 : Cap.anyP (fun k => Nat.beq k i) caps <;> cases h2 : Cap.anyP (fun k => Nat.beq k j) caps <;> simp only [S.kill, h1, h2]
theorem Yfa (id : Nat) : ∀ (Φ : List Fr) (e : Env), (∀ t, (e t).kill id = e t) -> ∀ t, (Env.killAll Φ e t).kill id = Env.killAll Φ e t
 | [], _, h => h
 | f :: l, e, h => Yfa id l (e.kill f.id) fun t => by unfold Env.kill; rw [kill_comm, h t]
theorem Ygg : ∀ (Φ : List Fr) (e : Env), ∀ f ∈ Φ, ∀ t, (Env.killAll Φ e t).kill f.id = Env.killAll Φ e t
 | g :: l, e, f, hf, t => by
  rcases List.mem_cons.1 hf with rfl | hf
  ·exact Yfa f.id l (e.kill f.id) (fun t => S.kill_kill f.id (e t)) t
  ·exact Ygg l (e.kill g.id) f hf t
theorem R.killAll {cx : Cx} {σ : Obs} {a : Act} {w : World} : ∀ (Φ : List Fr) {e : Env}, R cx e σ a w -> R cx (Env.killAll Φ e) σ a w
 | [], _, h => h
 | f :: l, _, ⟨F, ρ, h⟩ => R.killAll l ⟨F, ρ, h.killEnv f.id⟩
def Stays (T : World -> Prop) : Prop := ∀ w w', Kept (fun b => w.heap.size <= b) w w' -> T w -> T w'
def ACallT (P : Program) (T : World -> Prop) (f : FuncId) (ds : List D) (d : D) : Prop := Enters P f /\
 ∀ (F : Nat -> Prop) (w : World) (vs : List Value), T w -> (∀ b, F b -> b < w.heap.size) -> RepL F w vs ds -> Calls P f vs.toArray w fun e w' => ∃ v F', e = .returned v /\ Rep F' w' v d /\ Ext F w F' w'
theorem AOps.callT {cx : Cx} {ops : Array Oper} {o : Oper} {rest : List Oper} {e : Env} {σ : Obs} {Q : Post} {T : World -> Prop} {f : FuncId} {xs : List Operand} {ts : Array TypeId} {ds : List D} {d : D} (hg : GW ops o e true) (hd : DstOk cx.N o)
 (ho : o.op = .call { callee := .value (.func f), args := xs.toArray, argTypes := ts }) (hT : T cx.w0) (hS : Stays T) (hfr : cx.fr = fun b => cx.w0.heap.size <= b) (ha : ArgsOk e xs ds) (h : ACallT cx.P T f ds d)
 (k : AOps cx ops rest (e.put o.dst (.d d)) σ Q) : AOps cx ops (o :: rest) e σ Q := by
 intro a w ⟨F, ρ, hr⟩;have hw := hg.wanted (fun t _ => hr.env t);have hTw : T w := hS _ _ (by rw [<- hfr]; exact hr.below) hT;have h1 : RepL F w (xs.map a.eval) ds := ha.rep (ρ := ρ) fun t _ => hr.env t
 have h2 := h.2 F w _ hTw hr.lt h1;have h3 := h.1 (xs.map a.eval).toArray w
 have hx : (execOp a.eval o).run cx.P w = .ok (.enter f (xs.map a.eval).toArray) w := by
  unfold execOp;simp only [ho, resolve, Deferred.ofValue, Act.eval, invoke, Sem.run_bind, Sem.run_pure, Result.andThen_ok];simpa using h3
 unfold wpList;rw [if_pos hw];refine .inl ?_;unfold Oper.wp;rw [hx];refine h2.mono fun _ w' ⟨v, F', he, hv, hE⟩ => ?_
 subst he;exact k _ _ ⟨F', ρ, hr.put hE (.d hv) hd⟩
end
end Go.Proofs.YtohllekllkcfiaaGreatDoor
namespace Go.Proofs
open Go.Shelf
def Tryz.l99_ren : Go.Shelf.Ren := ⟨fun | 99 => 210 | 206 => 219 | n => n, fun | 9 => 9 | 4 => 4 | 3 => 3 | n => n, fun | n => n⟩
theorem Tryz.l99 : Go.Proofs.Lays.n99 Tryz.prog Tryz.l99_ren := {
 mixed := by kernel_rfl
 f99 := ZfC Tryz.func210
 f206 := ZfC Tryz.func219
 t3 := Tryz.underlying3
 a3 := Tryz.isAgg3
 z3 := Tryz.sizeOf3
 v3 := Tryz.zeroValue3
 t4 := Tryz.underlying4
 a4 := Tryz.isAgg4
 z4 := Tryz.sizeOf4
 v4 := Tryz.zeroValue4
 t9 := Tryz.underlying9
 a9 := Tryz.isAgg9
 z9 := Tryz.sizeOf9
 v9 := Tryz.zeroValue9 }
def Tryz.l101_ren : Go.Shelf.Ren := ⟨fun | 101 => 139 | 208 => 186 | 206 => 219 | n => n, fun | 9 => 9 | 4 => 4 | 3 => 3 | n => n, fun | n => n⟩
theorem Tryz.l101 : Go.Proofs.Lays.n101 Tryz.prog Tryz.l101_ren := {
 mixed := by kernel_rfl
 f101 := ZfC Tryz.func139
 f206 := ZfC Tryz.func219
 f208 := ZfC Tryz.func186
 t3 := Tryz.underlying3
 a3 := Tryz.isAgg3
 z3 := Tryz.sizeOf3
 v3 := Tryz.zeroValue3
 t4 := Tryz.underlying4
 a4 := Tryz.isAgg4
 z4 := Tryz.sizeOf4
 v4 := Tryz.zeroValue4
 t9 := Tryz.underlying9
 a9 := Tryz.isAgg9
 z9 := Tryz.sizeOf9
 v9 := Tryz.zeroValue9 }
def Tryz.l103_ren : Go.Shelf.Ren := ⟨fun | 103 => 183 | 210 => 218 | 206 => 219 | n => n, fun | 9 => 9 | 4 => 4 | 24 => 241 | 3 => 3 | n => n, fun | n => n⟩
theorem Tryz.l103 : Go.Proofs.Lays.n103 Tryz.prog Tryz.l103_ren := {
 mixed := by kernel_rfl
 f103 := ZfC Tryz.func183
 f206 := ZfC Tryz.func219
 f210 := ZfC Tryz.func218
 t3 := Tryz.underlying3
 a3 := Tryz.isAgg3
 z3 := Tryz.sizeOf3
 v3 := Tryz.zeroValue3
 t4 := Tryz.underlying4
 a4 := Tryz.isAgg4
 z4 := Tryz.sizeOf4
 v4 := Tryz.zeroValue4
 t9 := Tryz.underlying9
 a9 := Tryz.isAgg9
 z9 := Tryz.sizeOf9
 v9 := Tryz.zeroValue9
 t24 := Tryz.underlying241
 a24 := Tryz.isAgg241
 z24 := Tryz.sizeOf241
 v24 := Tryz.zeroValue241 }
def Tryz.l137_ren : Go.Shelf.Ren := ⟨fun | 137 => 161 | 217 => 212 | 266 => 227 | n => n, fun | 9 => 9 | 5 => 5 | 3 => 3 | n => n, fun | n => n⟩
theorem Tryz.l137 : Go.Proofs.Lays.n137 Tryz.prog Tryz.l137_ren := {
 mixed := by kernel_rfl
 f137 := ZfC Tryz.func161
 f217 := ZfC Tryz.func212
 f266 := ZfC Tryz.func227
 t3 := Tryz.underlying3
 a3 := Tryz.isAgg3
 z3 := Tryz.sizeOf3
 v3 := Tryz.zeroValue3
 t5 := Tryz.underlying5
 a5 := Tryz.isAgg5
 z5 := Tryz.sizeOf5
 v5 := Tryz.zeroValue5
 t9 := Tryz.underlying9
 a9 := Tryz.isAgg9
 z9 := Tryz.sizeOf9
 v9 := Tryz.zeroValue9 }
def Tryz.l160_ren : Go.Shelf.Ren := ⟨fun | 160 => 69 | 232 => 132 | 231 => 131 | 227 => 133 | 234 => 135 | 233 => 134 | 236 => 137 | 235 => 136 | 228 => 179 | 271 => 182 | 151 => 181 | 197 => 180 | 120 => 217 | 152 => 216 | 260 => 215 | 137 => 161 | 119 => 228 | 224 => 229 | 225 => 230 | 217 => 212 | 266 => 227 | n => n, fun | 9 => 9 | 4 => 4 | 3 => 3 | 5 => 5 | 117 => 205 | 116 => 204 | 0 => 0 | 124 => 208 | 21 => 21 | 105 => 238 | 46 => 107 | 119 => 267 | 139 => 270 | 138 => 269 | n => n, fun | 3 => 1 | 4 => 2 | n => n⟩
theorem Tryz.l160 : Go.Proofs.Lays.n160 Tryz.prog Tryz.l160_ren := {
 mixed := by kernel_rfl
 f119 := ZfC Tryz.func228
 f120 := ZfC Tryz.func217
 f137 := ZfC Tryz.func161
 f151 := ZfC Tryz.func181
 f152 := ZfC Tryz.func216
 f160 := ZfC Tryz.func69
 f197 := ZfC Tryz.func180
 f217 := ZfC Tryz.func212
 f224 := ZfC Tryz.func229
 f225 := ZfC Tryz.func230
 f227 := ZfC Tryz.func133
 f228 := ZfC Tryz.func179
 f231 := ZfC Tryz.func131
 f232 := ZfC Tryz.func132
 f233 := ZfC Tryz.func134
 f234 := ZfC Tryz.func135
 f235 := ZfC Tryz.func136
 f236 := ZfC Tryz.func137
 f260 := ZfC Tryz.func215
 f266 := ZfC Tryz.func227
 f271 := ZfC Tryz.func182
 t0 := Tryz.underlying0
 a0 := Tryz.isAgg0
 z0 := Tryz.sizeOf0
 v0 := Tryz.zeroValue0
 t3 := Tryz.underlying3
 a3 := Tryz.isAgg3
 z3 := Tryz.sizeOf3
 v3 := Tryz.zeroValue3
 t4 := Tryz.underlying4
 a4 := Tryz.isAgg4
 z4 := Tryz.sizeOf4
 v4 := Tryz.zeroValue4
 t5 := Tryz.underlying5
 a5 := Tryz.isAgg5
 z5 := Tryz.sizeOf5
 v5 := Tryz.zeroValue5
 t9 := Tryz.underlying9
 a9 := Tryz.isAgg9
 z9 := Tryz.sizeOf9
 v9 := Tryz.zeroValue9
 t21 := Tryz.underlying21
 a21 := Tryz.isAgg21
 z21 := Tryz.sizeOf21
 v21 := Tryz.zeroValue21
 t46 := Tryz.underlying107
 a46 := Tryz.isAgg107
 z46 := Tryz.sizeOf107
 v46 := Tryz.zeroValue107
 t105 := Tryz.underlying238
 a105 := Tryz.isAgg238
 z105 := Tryz.sizeOf238
 v105 := Tryz.zeroValue238
 t116 := Tryz.underlying204
 a116 := Tryz.isAgg204
 z116 := Tryz.sizeOf204
 t117 := Tryz.underlying205
 a117 := Tryz.isAgg205
 z117 := Tryz.sizeOf205
 v117 := Tryz.zeroValue205
 t119 := Tryz.underlying267
 a119 := Tryz.isAgg267
 z119 := Tryz.sizeOf267
 t124 := Tryz.underlying208
 a124 := Tryz.isAgg208
 z124 := Tryz.sizeOf208
 v124 := Tryz.zeroValue208
 t138 := Tryz.underlying269
 a138 := Tryz.isAgg269
 z138 := Tryz.sizeOf269
 v138 := Tryz.zeroValue269
 t139 := Tryz.underlying270
 a139 := Tryz.isAgg270
 z139 := Tryz.sizeOf270
 v139 := Tryz.zeroValue270
 g3 := by kernel_rfl
 g4 := by kernel_rfl }
def Tryz.l144_ren : Go.Shelf.Ren := ⟨fun | 144 => 159 | 143 => 209 | 219 => 226 | 217 => 212 | 225 => 230 | 224 => 229 | 267 => 233 | 266 => 227 | 314 => 234 | n => n, fun | 9 => 9 | 4 => 4 | 3 => 3 | 5 => 5 | 46 => 107 | 146 => 274 | 51 => 171 | n => n, fun | 1 => 0 | n => n⟩
theorem Tryz.l144 : Go.Proofs.LaysM.n144 Tryz.prog Tryz.l144_ren := {
 mixed := by kernel_rfl
 f143 := ZfC Tryz.func209
 f144 := ZfC Tryz.func159
 f217 := ZfC Tryz.func212
 f219 := ZfC Tryz.func226
 f224 := ZfC Tryz.func229
 f225 := ZfC Tryz.func230
 f266 := ZfC Tryz.func227
 f267 := ZfC Tryz.func233
 f314 := ZfC Tryz.func234
 t3 := Tryz.underlying3
 a3 := Tryz.isAgg3
 z3 := Tryz.sizeOf3
 v3 := Tryz.zeroValue3
 t4 := Tryz.underlying4
 a4 := Tryz.isAgg4
 z4 := Tryz.sizeOf4
 v4 := Tryz.zeroValue4
 t5 := Tryz.underlying5
 a5 := Tryz.isAgg5
 z5 := Tryz.sizeOf5
 v5 := Tryz.zeroValue5
 t9 := Tryz.underlying9
 a9 := Tryz.isAgg9
 z9 := Tryz.sizeOf9
 v9 := Tryz.zeroValue9
 t46 := Tryz.underlying107
 a46 := Tryz.isAgg107
 z46 := Tryz.sizeOf107
 v46 := Tryz.zeroValue107
 t51 := Tryz.underlying171
 a51 := Tryz.isAgg171
 z51 := Tryz.sizeOf171
 v51 := Tryz.zeroValue171
 t146 := Tryz.underlying274
 a146 := Tryz.isAgg274
 z146 := Tryz.sizeOf274
 v146 := Tryz.zeroValue274
 g1 := by kernel_rfl
 i3 := by kernel_rfl
 i4 := by kernel_rfl
 i5 := by kernel_rfl
 i9 := by kernel_rfl
 i46 := by kernel_rfl
 i51 := by kernel_rfl
 i146 := by kernel_rfl
 m1 := by kernel_rfl
 s1_3 := fun w h => Go.Proofs.cell_of_shapedOpen_int (zero := #[.int .i64 0]) (t := 3) h (of_decide_eq_true (by kernel_rfl)) (by kernel_rfl) rfl (by kernel_rfl) (by kernel_rfl) Tryz.underlying3 }
end Go.Proofs
namespace Go.Proofs.YtohllekllkcfiaaGreatDoor
section
open Go.RowKit
open Ty
theorem c_hasPrefix (s p : ByteArray) : Yad Tryz.prog 210 [.v (.string s), .v (.string p)] (.v (.bool (Lib.hasPrefix s.data.toList p.data.toList))) :=
 YbD (us := [_, _]) (.of Tryz.func210 (by kernel_rfl) rfl) fun w => by
  have h := Any.strings_HasPrefix Tryz.l99 s p w;change Calls Tryz.prog 210 #[.string s, .string p] w _ at h;exact h.mono fun _ _ ⟨h1, h2⟩ => ⟨h1, h2 ▸ Below.refl _ _⟩
theorem c_cutPrefix (s p : ByteArray) : Yad Tryz.prog 183 [.v (.string s), .v (.string p)] (.tup [.v (.string ⟨(Lib.trimPrefix s.data.toList p.data.toList).toArray⟩), .v (.bool (Lib.hasPrefix s.data.toList p.data.toList))]) :=
 ⟨.of Tryz.func183 (by kernel_rfl) rfl, fun F w vs hF hv => by
  rw [repL_v (us := [.string s, .string p]) hv];have h := Any.strings_CutPrefix Tryz.l103 s p w;change Calls Tryz.prog 183 #[.string s, .string p] w _ at h;refine h.mono fun e w' ⟨h1, h2⟩ => ?_
  subst h2
  exact ⟨_, F, h1, .tup [_, _] [_, _] J (fun i h1 h2 => by
   match i, h1 with
   | 0, _ => exact .v _
   | 1, _ => exact .v _), Ext.refl hF⟩⟩
theorem c_trimPrefix (s p : ByteArray) : Yad Tryz.prog 139 [.v (.string s), .v (.string p)] (.v (.string ⟨(Lib.trimPrefix s.data.toList p.data.toList).toArray⟩)) :=
 YbD (us := [_, _]) (.of Tryz.func139 (by kernel_rfl) rfl) fun w => by
  have h := Any.strings_TrimPrefix Tryz.l101 s p w;change Calls Tryz.prog 139 #[.string s, .string p] w _ at h;exact h.mono fun _ _ ⟨h1, h2⟩ => ⟨h1, h2 ▸ Below.refl _ _⟩
def JoinQ (P : Prop) (e2 : Env) (σ2 : Obs) (Q : Post) : Post := fun ex e σ => match ex with
 | .normal => P /\ Sub e σ e2 σ2
 | .ret => Q .ret e σ
 | .exit id => Q (.exit id) e σ
 | .goto l => Q (.goto l) e σ
 | .panic c => Q (.panic c) e σ
 | .outgrown => Q .outgrown e σ
theorem AWP.seqJ {cx : Cx} {x y : Code} {e : Env} {σ : Obs} {Q : Post} (P : Prop) (e2 : Env) (σ2 : Obs) (h1 : AWP cx x e σ (JoinQ P e2 σ2 Q)) (h2 : P -> AWP cx y e2 σ2 Q) : AWP cx (.seq x y) e σ Q := fun a w hr => by
 refine wp_seq (wp_mono (h1 a w hr) ?_);rintro ex a' w' ⟨e', σ', hq, hr'⟩
 cases ex with
 | normal => exact h2 hq.1 a' w' (hq.2 cx a' w' hr')
 | ret => exact ⟨e', σ', hq, hr'⟩
 | exit id => exact ⟨e', σ', hq, hr'⟩
 | goto l => exact ⟨e', σ', hq, hr'⟩
 | panic c => exact ⟨e', σ', hq, hr'⟩
 | outgrown => exact ⟨e', σ', hq, hr'⟩
theorem Yb9 {b : Bool} {E : Prop} [Decidable E] (h : b = true ↔ E) : S.d (D.v (.bool b)) = S.d (D.v (.bool (decide E))) := by
 have : b = decide E := by
  cases hb : b with
  | true => exact (decide_eq_true (h.1 hb)).symm
  | false => exact (decide_eq_false fun he => by rw [h.2 he] at hb; cases hb).symm
 rw [this]
theorem at_list {α : Type} {l : List α} {f : α -> List D} {k : Nat} (h : k < l.length) : (l.map f)[k]? = some (f l[k]) := by simp [h]
def bStr (l : List UInt8) : ByteArray := ⟨l.toArray⟩
theorem YbH (l : List UInt8) : (bStr l).data.toList = l := rfl
theorem YaT (l : List UInt8) : (bStr l).size = l.length := by rw [Lib.size_eq]; rfl
theorem bStr_drop (l : List UInt8) (k : Nat) : (bStr l).extract k (bStr l).size = bStr (l.drop k) := by
 have h2 : ((bStr l).extract k (bStr l).size).data = (l.drop k).toArray := by
  rw [ByteArray.data_extract, YaT];show l.toArray.extract k l.length = _
  simp only [List.extract_toArray, List.extract_eq_take_drop];rw [List.take_of_length_le (by simp)]
 exact congrArg ByteArray.mk h2
theorem c_hasP (l p : List UInt8) : Yad Tryz.prog 210 [.v (.string (bStr l)), .v (.string (bStr p))] (.v (.bool (Lib.hasPrefix l p))) := c_hasPrefix (bStr l) (bStr p)
end
section
open Go.Lib
def digL : List UInt8 := [48, 49, 50, 51, 52, 53, 54, 55, 56, 57]
def sgnL : List UInt8 := [48, 49, 50, 51, 52, 53, 54, 55, 56, 57, 65, 66, 67, 68, 69, 70, 71, 72, 73, 74, 75, 76, 77, 78, 79, 80, 81, 82, 83, 84, 85, 86, 87, 88, 89, 90]
def YcJ (c : UInt8) : Bool := decide (48 <= c.toNat) && decide (c.toNat <= 57)
def isSgn (c : UInt8) : Bool := YcJ c || (decide (65 <= c.toNat) && decide (c.toNat <= 90))
def YcO (two : Bool) (c : UInt8) : Bool := match two with | true => isSgn c | false => YcJ c
def Ybi (two : Bool) : List UInt8 := match two with | true => sgnL | false => digL
theorem sg_nat : ∀ n : Fin 256, (decide (0 <= indexByte sgnL (UInt8.ofNat n.val)) = isSgn (UInt8.ofNat n.val)) /\ (decide (0 <= indexByte digL (UInt8.ofNat n.val)) = YcJ (UInt8.ofNat n.val)) /\ indexByte sgnL (UInt8.ofNat n.val) < 36 /\ digL.contains (UInt8.ofNat n.val) = YcJ (UInt8.ofNat n.val) /\ sgnL.contains (UInt8.ofNat n.val) = isSgn (UInt8.ofNat n.val) /\ (YcJ (UInt8.ofNat n.val) = true -> indexByte sgnL (UInt8.ofNat n.val) < 10 /\ 0 <= indexByte sgnL (UInt8.ofNat n.val)) := by decide +kernel
theorem sg_all (c : UInt8) : (decide (0 <= indexByte sgnL c) = isSgn c) /\ (decide (0 <= indexByte digL c) = YcJ c) /\ indexByte sgnL c < 36 /\ digL.contains c = YcJ c /\ sgnL.contains c = isSgn c /\ (YcJ c = true -> indexByte sgnL c < 10 /\ 0 <= indexByte sgnL c) := by
 have := sg_nat ⟨c.toNat, c.toNat_lt⟩;simp only [UInt8.ofNat_toNat] at this;exact this
theorem sg_pos {c : UInt8} : 0 <= indexByte sgnL c ↔ isSgn c = true := by rw [<- (sg_all c).1]; simp
theorem dg_pos {c : UInt8} : 0 <= indexByte digL c ↔ YcJ c = true := by rw [<- (sg_all c).2.1]; simp
theorem sg_of {b : Bool} {c : UInt8} : 0 <= indexByte (Ybi b) c ↔ YcO b c = true := by cases b <;> first | exact dg_pos | exact sg_pos
theorem contains_of (b : Bool) (c : UInt8) : (Ybi b).contains c = YcO b c := by cases b <;> first | exact (sg_all c).2.2.2.1 | exact (sg_all c).2.2.2.2.1
theorem at_nat : ∀ k : Fin 36, indexByte sgnL (sgnL[k.val]'k.isLt) = k.val /\ isSgn (sgnL[k.val]'k.isLt) = true /\ (k.val < 10 -> YcJ (sgnL[k.val]'k.isLt) = true /\ digL[k.val]? = sgnL[k.val]?) := by decide +kernel
theorem YfJ {α : Type} (p : α -> Bool) : ∀ l : List α, l.dropWhile p = [] ↔ l.all p = true
 | [] => by simp
 | x :: l => by
  cases h : p x
  ·simp [h]
  ·simp [h, YfJ p l]
theorem trim_all (b : Bool) (l : List UInt8) : (trimS l (Ybi b) = []) ↔ l.all (YcO b) = true := by
 have hf : (fun c => (Ybi b).contains c) = YcO b := funext (contains_of b);unfold trimS trimLeftS trimRightS;rw [YfJ, hf];constructor
 ·intro h;rw [List.all_reverse] at h
  have h2 : (l.reverse.dropWhile (YcO b)) = [] := by
   cases hd : l.reverse.dropWhile (YcO b) with
   | nil => rfl
   | cons x r =>
    have h3 := List.head?_dropWhile_not (YcO b) l.reverse;rw [hd] at h h3;simp at h h3;rw [h.1] at h3;cases h3
  rw [YfJ, List.all_reverse] at h2;exact h2
 ·intro h;have : l.reverse.dropWhile (YcO b) = [] := by rw [YfJ, List.all_reverse]; exact h
  rw [this]; rfl
def Ycz (f : Nat -> Int) : Nat -> Int
 | 0 => 0
 | n + 1 => Ycz f n + f n
theorem Yd0 {f : Nat -> Int} {M : Int} : ∀ (n : Nat), (∀ i, i < n -> 0 <= f i /\ f i <= M) -> 0 <= Ycz f n /\ Ycz f n <= n * M
 | 0, _ => by unfold Ycz; simp
 | n + 1, h => by
  have h1 := Yd0 n (fun i hi => h i (by omega));have h2 := h n (by omega);show 0 <= Ycz f n + f n /\ Ycz f n + f n <= ((n + 1 : Nat) : Int) * M
  rw [show ((n + 1 : Nat) : Int) * M = n * M + M by rw [Int.natCast_add, Int.add_mul]; simp];omega
def dv (c : UInt8) : Int := (c.toNat : Int) - 48
def at0 (l : List UInt8) (i : Nat) : UInt8 := l.getD i 0
theorem YdW {l : List UInt8} {i : Nat} (h : i < l.length) : at0 l i = l[i] := by unfold at0; rw [ZgD, ZgE h]; rfl
def Yfi (l : List UInt8) (i : Nat) : Int := ((i : Int) + 1) * dv (at0 l (i + 1))
def Yfo (l : List UInt8) (i : Nat) : Int := (1 + (i : Int) % 2 * 2) * dv (at0 l i)
def rStep (p : Int) (c : UInt8) : Int := let r := (p + indexByte sgnL c) % 36; 2 * (if r = 0 then 36 else r) % 37
def qTo (l : List UInt8) (k : Nat) : Int := (l.take k).foldl rStep 36
theorem qTo_next {l : List UInt8} {k : Nat} (h : k < l.length) : qTo l (k + 1) = rStep (qTo l k) l[k] := by
 unfold qTo;rw [List.take_add_one, ZgE h, Option.toList_some, List.foldl_append]; rfl
theorem Yf1 (l : List UInt8) : ∀ k, 0 <= qTo l k /\ qTo l k <= 36
 | 0 => by unfold qTo; simp
 | k + 1 => by
  by_cases h : k < l.length
  ·rw [qTo_next h]; unfold rStep; dsimp only; omega
  ·have e : l.take (k + 1) = l.take k := by rw [List.take_of_length_le (by omega), List.take_of_length_le (by omega)]
   have h2 := Yf1 l k;unfold qTo at h2 ⊢;rw [e]; exact h2
def chk (kind : Int) (l : List UInt8) : Int :=
 if kind = 1 then (10 - (1 + Ycz (Yfi l) 9) % 10) % 10 else if kind = 2 then (1 - qTo l 10 % 36 + 36) % 36 else (10 - Ycz (Yfo l) 12 % 10) % 10
def two (kind : Int) : Bool := decide (kind = 2)
def YcV (kind : Int) : Bool := decide (1 <= kind) && decide (kind <= 4)
def YbT (kind : Int) (l : List UInt8) : Bool :=
 if kind = 1 then decide (l.length = 10) && decide (at0 l 0 = 84) && (l.drop 1).all YcJ
 else if kind = 2 then decide (l.length = 10) && l.all isSgn else decide (l.length = 12) && l.all YcJ
theorem body1 {l : List UInt8} (h : YbT 1 l = true) : l.length = 10 /\ at0 l 0 = 84 /\ ∀ i, 1 <= i -> i < 10 -> YcJ (at0 l i) = true := by
 unfold YbT at h;simp only [if_true, ZbA, decide_eq_true_eq] at h;obtain ⟨⟨h1, h2⟩, h3⟩ := h;refine ⟨h1, h2, fun i hi hj => ?_⟩;rw [YdW (by omega)];rw [List.all_eq_true] at h3;apply h3;have : l[i] = (l.drop 1)[i - 1]'(by rw [ZlD]; omega) := by rw [List.getElem_drop]; congr 1; omega
 rw [this];exact ZgM _
theorem body2 {l : List UInt8} (h : YbT 2 l = true) : l.length = 10 /\ ∀ c ∈ l, isSgn c = true := by
 unfold YbT at h;simp only [show ¬ ((2 : Int) = 1) by decide, if_false, if_true, ZbA, decide_eq_true_eq, List.all_eq_true] at h;exact h
theorem body3 {kind : Int} {l : List UInt8} (h1 : kind ≠ 1) (h2 : kind ≠ 2) (h : YbT kind l = true) : l.length = 12 /\ ∀ c ∈ l, YcJ c = true := by
 unfold YbT at h;rw [if_neg h1, if_neg h2] at h;simp only [ZbA, decide_eq_true_eq, List.all_eq_true] at h;exact h
theorem dig_iff {c : UInt8} : YcJ c = true ↔ 48 <= c.toNat /\ c.toNat <= 57 := by unfold YcJ; simp
theorem dv_bound {c : UInt8} (h : YcJ c = true) : 0 <= dv c /\ dv c <= 9 := by have := dig_iff.1 h; unfold dv; omega
theorem YfU {l : List UInt8} (h : YbT 1 l = true) {i : Nat} (hi : i < 9) : 0 <= Yfi l i /\ Yfi l i <= 81 := by
 have h2 := dv_bound ((body1 h).2.2 (i + 1) (by omega) (by omega));unfold Yfi;have : ((i : Int) + 1) * dv (at0 l (i + 1)) <= 9 * 9 := Int.mul_le_mul (by omega) h2.2 h2.1 (by decide);exact ⟨Int.mul_nonneg (by omega) h2.1, this⟩
theorem Ygv {kind : Int} {l : List UInt8} (h1 : kind ≠ 1) (h2 : kind ≠ 2) (h : YbT kind l = true) {i : Nat} (hi : i < 12) : 0 <= Yfo l i /\ Yfo l i <= 27 := by
 have h3 := body3 h1 h2 h;have h4 := dv_bound (h3.2 (at0 l i) (by rw [YdW (by omega)]; exact ZgM _));unfold Yfo;have : (1 + (i : Int) % 2 * 2) * dv (at0 l i) <= 3 * 9 := Int.mul_le_mul (by omega) h4.2 h4.1 (by decide);exact ⟨Int.mul_nonneg (by omega) h4.1, this⟩
theorem wSum_bound {l : List UInt8} (h : YbT 1 l = true) (k : Nat) (hk : k <= 9) : 0 <= Ycz (Yfi l) k /\ Ycz (Yfi l) k <= 729 := by
 have := Yd0 (f := Yfi l) (M := 81) k (fun i hi => YfU h (by omega));omega
theorem eSum_bound {kind : Int} {l : List UInt8} (h1 : kind ≠ 1) (h2 : kind ≠ 2) (h : YbT kind l = true) (k : Nat) (hk : k <= 12) : 0 <= Ycz (Yfo l) k /\ Ycz (Yfo l) k <= 324 := by
 have := Yd0 (f := Yfo l) (M := 27) k (fun i hi => Ygv h1 h2 h (by omega));omega
theorem Ydv (kind : Int) (l : List UInt8) : 0 <= chk kind l /\ chk kind l < 36 /\ (kind ≠ 2 -> chk kind l < 10) := by
 unfold chk;split
 ·omega
 ·split
  ·omega
  ·omega
def chkS (kind : Int) (l : List UInt8) : UInt8 := at0 sgnL (chk kind l).toNat
theorem dig_at {v : Nat} (h : v < 10) : YcJ (at0 sgnL v) = true /\ at0 digL v = at0 sgnL v := by
 have := (at_nat ⟨v, by omega⟩).2.2 h;refine ⟨?_, ?_⟩
 ·rw [YdW (show v < sgnL.length from by show v < 36; omega)]; exact this.1
 ·unfold at0;rw [ZgD, ZgD, this.2]
def fitsB (kind : Int) (l : List UInt8) (c : UInt8) : Bool := decide (c = chkS kind l)
def cBody (l : List UInt8) : List UInt8 := l.take (l.length - 1)
def cSign (l : List UInt8) : UInt8 := at0 l (l.length - 1)
def YcM (kind : Int) (l : List UInt8) : Int :=
 if YcV kind = false then 4 else if l.length = 0 then 3 else if YbT kind (cBody l) = false then 3 else if YcO (two kind) (cSign l) = false then 3 else if fitsB kind (cBody l) (cSign l) = false then 16 else 0
end
end Go.Proofs.YtohllekllkcfiaaGreatDoor
