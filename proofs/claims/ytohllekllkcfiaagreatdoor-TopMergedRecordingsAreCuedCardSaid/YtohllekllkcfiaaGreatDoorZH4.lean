/- Walks and laws over abstract values, merged by tools/merge.py. No statement of the seat. -/
import Derived.DeepKeys4
import Derived.Maps.Keyed
import Derived.Maps.RangeRun
import Derived.Test.YtohllekllkcfiaaGreatDoorZH3
set_option linter.unusedSectionVars false
set_option linter.unusedSimpArgs false
set_option linter.unusedVariables false
set_option maxHeartbeats 1000000
set_option maxRecDepth 100000
open List renaming length_map -> ZlM, getElem?_eq_getElem -> ZgE, getElem?_eq_some_iff -> ZgS, getElem_mem -> ZgM, length_take -> ZlT, getElem_append_left -> ZgL, getElem_map -> ZgP, getElem_append_right -> ZgR, map_append -> ZmA, length_drop -> ZlD, mem_singleton -> ZmS, mem_map -> ZmM
open Array renaming getElem?_eq_some_iff -> ZaS, length_toList -> ZaL
open Nat renaming le_of_ble_eq_true -> ZnB, zero_le -> ZnZ, le_refl -> ZnR
open Bool renaming and_eq_true -> ZbA
namespace Go.Proofs.YtohllekllkcfiaaGreatDoor
section
open Go.RowKit
def Env.puts (e : Env) : List (Nat × S) -> Env
 | [] => e
 | p :: l => Env.puts (e.put (some p.1) p.2) l
theorem YcD {t : Nat} : ∀ {l : List (Nat × S)} {e : Env}, t ∉ l.map Prod.fst -> Env.puts e l t = e t
 | [], _, _ => rfl
 | p :: l, e, h => by
  simp only [List.map_cons, List.mem_cons, not_or] at h;unfold Env.puts;rw [YcD h.2, Env.put_other _ _ _ _ h.1]
theorem Yen {dst : Option Nat} {s : S} : ∀ {l : List (Nat × S)} {e : Env}, (∀ d, dst = some d -> d ∉ l.map Prod.fst) -> Env.puts (e.put dst s) l = (Env.puts e l).put dst s
 | [], _, _ => rfl
 | p :: l, e, h => by
  unfold Env.puts;rw [Env.put_comm e dst (some p.1) s p.2 (fun d hd he => h d hd (by rw [<- Option.some.inj he]; simp)), Yen fun d hd hm => h d hd (by simp only [List.map_cons, List.mem_cons]; exact .inr hm)]
structure Fc where
 id : Nat
 slots : List Nat
def Clean (Φ : List Fc) (e : Env) : Prop := ∀ f ∈ Φ, ∀ t, f.slots.contains t = false -> (e t).kill f.id = e t
def QE (e1 : Env) (σ1 : Obs) : Post := fun ex e σ => match ex with | .normal => e = e1 /\ σ = σ1 | _ => False
def GE (cx : Cx) (ops : Array Oper) (Φ : List Fc) (o : Oper) (e : Env) (σ : Obs) (si : List (Nat × S)) (σ' : Obs) : Prop :=
 ∀ e0 : Env, (∀ t, t ∈ o.looksAt ops -> e0 t = e t) -> (∀ t, t ∈ si.map Prod.fst -> e0 t = e t) -> Clean Φ e0 -> AOps cx ops [o] e0 σ (QE (Env.puts e0 si) σ')
def YcW (ops : Array Oper) (K : Nat -> List Nat) (i j : Nat) (oi oj : Oper) : Bool :=
 ((K i).all fun k => !((oj.looksAt ops).contains k) && YgG oj k) && ((K j).all fun k => !((oi.looksAt ops).contains k) && YgG oi k) && (!(K i).any fun k => (K j).contains k)
theorem keysOk_l {ops : Array Oper} {K : Nat -> List Nat} {i j : Nat} {oi oj : Oper} (h : YcW ops K i j oi oj = true) : ∀ k ∈ K i, k ∉ oj.looksAt ops /\ oj.dst ≠ some k := fun k hk => by
 unfold YcW at h;simp only [ZbA] at h;have h1 := List.all_eq_true.1 h.1.1 k hk;simp only [ZbA, Bool.not_eq_true', List.contains_eq_mem, decide_eq_false_iff_not] at h1;exact ⟨h1.1, Ybl h1.2⟩
theorem keysOk_r {ops : Array Oper} {K : Nat -> List Nat} {i j : Nat} {oi oj : Oper} (h : YcW ops K i j oi oj = true) : ∀ k ∈ K j, k ∉ oi.looksAt ops /\ oi.dst ≠ some k := fun k hk => by
 unfold YcW at h;simp only [ZbA] at h;have h1 := List.all_eq_true.1 h.1.2 k hk;simp only [ZbA, Bool.not_eq_true', List.contains_eq_mem, decide_eq_false_iff_not] at h1;exact ⟨h1.1, Ybl h1.2⟩
theorem GE.same {cx : Cx} {ops : Array Oper} {Φ : List Fc} {o : Oper} {e e' : Env} {σ σ' : Obs} {si : List (Nat × S)} (h : GE cx ops Φ o e σ si σ') (h1 : ∀ t, t ∈ o.looksAt ops -> e' t = e t) (h2 : ∀ t, t ∈ si.map Prod.fst -> e' t = e t) : GE cx ops Φ o e' σ si σ' :=
 fun e0 k1 k2 k3 => h e0 (fun t ht => (k1 t ht).trans (h1 t ht)) (fun t ht => (k2 t ht).trans (h2 t ht)) k3
theorem Clean.put {Φ : List Fc} {e : Env} {dst : Option Nat} {s : S} (h : Clean Φ e) (hs : ∀ f ∈ Φ, (∃ t, dst = some t /\ f.slots.contains t = true) \/ s.kill f.id = s) : Clean Φ (e.put dst s) := fun f hf t ht => by
 cases dst with
 | none => exact h f hf t ht
 | some d =>
  by_cases hd : t = d
  ·subst hd;rw [Env.put_same]
   rcases hs f hf with ⟨t', h1, h2⟩ | h1
   ·cases h1; rw [ht] at h2; simp at h2
   ·exact h1
  ·rw [Env.put_other _ _ _ _ hd]; exact h f hf t ht
theorem Clean.puts {Φ : List Fc} : ∀ {l : List (Nat × S)} {e : Env}, Clean Φ e -> (∀ p ∈ l, ∀ f ∈ Φ, f.slots.contains p.1 = true \/ p.2.kill f.id = p.2) -> Clean Φ (Env.puts e l)
 | [], _, h, _ => h
 | p :: l, e, h, hs => by
  unfold Env.puts;refine Clean.puts (fun f hf t ht => ?_) fun q hq => hs q (List.mem_cons_of_mem _ hq)
  by_cases hd : t = p.1
  ·subst hd;rw [Env.put_same]
   rcases hs p (by simp) f hf with h1 | h1
   ·rw [ht] at h1; simp at h1
   ·exact h1
  ·rw [Env.put_other _ _ _ _ hd]; exact h f hf t ht
def Env.killOut (f : Fc) (e : Env) : Env := fun t => match f.slots.contains t with | true => e t | false => (e t).kill f.id
def Env.killIds : List Fc -> Env -> Env
 | [], e => e
 | f :: l, e => Env.killIds l (e.killOut f)
theorem killOut_keep {f : Fc} {g : Fc} {e : Env} (h : Clean [g] e) : Clean [g] (e.killOut f) := fun g' hg t ht => by
 have h1 := h g' hg t ht;unfold Env.killOut
 cases f.slots.contains t with
 | true => exact h1
 | false => show S.kill g'.id (S.kill f.id (e t)) = S.kill f.id (e t); rw [kill_comm, h1]
theorem Ye9 {g : Fc} : ∀ {Φ : List Fc} {e : Env}, Clean [g] e -> Clean [g] (Env.killIds Φ e)
 | [], _, h => h
 | _ :: l, _, h => Ye9 (Φ := l) (killOut_keep h)
theorem killOut_clean (f : Fc) (e : Env) : Clean [f] (e.killOut f) := fun g hg t ht => by
 obtain rfl := ZmS.1 hg;unfold Env.killOut;rw [ht];exact S.kill_kill g.id (e t)
theorem Yes : ∀ (Φ : List Fc) (e : Env), Clean Φ (Env.killIds Φ e)
 | g :: l, e, f, hf, t, ht => by
  rcases List.mem_cons.1 hf with rfl | hf
  ·exact Ye9 (Φ := l) (killOut_clean f e) f (by simp) t ht
  ·exact Yes l (e.killOut g) f hf t ht
theorem R.killOut {cx : Cx} {σ : Obs} {a : Act} {w : World} {e : Env} (f : Fc) : R cx e σ a w -> R cx (e.killOut f) σ a w
 | ⟨F, ρ, h⟩ => by
  have henv : ∀ t, RepS F ρ w (a.tmps.getD t undef) (e.killOut f t) := fun t => by
   unfold Env.killOut
   cases f.slots.contains t with
   | true => exact h.env t
   | false => exact (h.killEnv f.id).env t
  exact ⟨F, ρ, h.size, h.defers, h.lt, h.base, h.new, h.below, h.hB, henv, h.obs, h.up, h.kown, h.fixed⟩
theorem R.killIds {cx : Cx} {σ : Obs} {a : Act} {w : World} : ∀ (Φ : List Fc) {e : Env}, R cx e σ a w -> R cx (Env.killIds Φ e) σ a w
 | [], _, h => h
 | f :: l, _, h => R.killIds l (R.killOut f h)
section
variable {cx : Cx} {ops : Array Oper} {Φ : List Fc} {ef : Nat -> Bool} {K : Nat -> List Nat} {I : Obs -> Prop} {n : Nat} {o : Oper} {l : List Oper} {e : Env} {σ : Obs} {Q : Env -> Obs -> Prop}
def cleanS (t : Nat) (s : S) : List Fc -> Prop
 | [] => True
 | f :: l => (f.slots.contains t = true \/ s.kill f.id = s) /\ cleanS t s l
theorem cleanS.all {t : Nat} {s : S} : ∀ {l : List Fc}, cleanS t s l -> ∀ f ∈ l, f.slots.contains t = true \/ s.kill f.id = s
 | [], _, f, hf => by cases hf
 | g :: l, h, f, hf => by
  cases hf with
  | head => exact h.1
  | tail _ hf => exact cleanS.all h.2 f hf
theorem GE.store {σ' : Obs} (hg : o.guard = none) (ht : o.dst = none) (h : EOp cx ops o e σ σ') : GE cx ops Φ o e σ [] σ' := fun e0 h1 _ _ =>
 AOps.eff hg ht (h.same fun t ht => h1 t ht) (.nil ⟨rfl, rfl⟩)
end
theorem EOp.store {cx : Cx} {ops : Array Oper} {o : Oper} {e : Env} {σ : Obs} {t id off size : Nat} {x y : Operand} {d : D} {ss : List S} (ht : o.dst = none) (ho : o.op = .store t x y) (hs : ∀ w, (sizeOf t).run cx.P w = .ok size w) (hx : e.ev x = .ptr id off) (hm : (id, Ob.cells ss) ∈ σ) (hy : e.ev y = .d d) (h1 : d.one = true) (hl : d.parts.length = size)
 (hle : off + size <= ss.length) : EOp cx ops o e σ (Obs.upd id (.cells (ss.take off ++ d.parts.map S.d ++ ss.drop (off + size))) σ) := by
 intro F ρ a w e0 hr ha;have hop : ∀ y ∈ o.op.operands.toList, RepS F ρ w (a.eval y) (e.ev y) := fun y hy => Ya1 fun t ht => ha t (Ybo (by rw [<- ht]; exact hy))
 have r1 := hop x (by rw [ho]; simp [Op.operands]);have r2 := hop y (by rw [ho]; simp [Op.operands]);rw [hx] at r1;rw [hy] at r2;obtain ⟨h3, h4⟩ := Yb0 (Yag r2) h1;obtain ⟨g, ty, cs, hρ, hB, hF, hh, hcl, hcs⟩ := hr.obs.ok _ hm;dsimp only at hρ;have hxv := YbM r1 (g := g) (by rw [hρ]; rfl);have hsz : (a.eval y).cells.size = size := by have := h3.1; rw [ZaL] at this; omega
 obtain ⟨w', h5, h6, h7⟩ := Ycf (P := cx.P) (off := off) hs hsz hh (by omega) h4;unfold Oper.wp execOp;simp only [ho, Instr.storeAt, hxv, Instr.sureAddr, Sem.run_bind, Sem.run_pure, Result.andThen_ok, h5];refine ⟨by rw [ht]; rfl, fun e2 hr2 => ⟨F, ρ, ?_⟩⟩
 refine hr2.write hρ hm hB hF h6 h7 (by simp; omega) (fun j hj hj' => by
  have hlen : (a.eval y).cells.toList.length = size := by rw [ZaL]; exact hsz
  by_cases j1 : j < off
  ·rw [ZgL (by simp; omega), ZgL (by simp; omega), ZgL (by simp; omega), ZgL (by simp; omega), List.getElem_take, List.getElem_take];exact hcs j (by omega) (by omega)
  ·by_cases j2 : j < off + size
   ·rw [ZgL (by simp; omega), ZgR (by simp; omega), ZgL (by simp; omega), ZgR (by simp; omega), ZgP];have e1 : (List.take off cs).length = off := by simp; omega
    have e2 : (List.take off ss).length = off := by simp; omega
    simp only [e1, e2];exact ⟨h4 _ (ZgM _), .d (h3.2 _ _ _)⟩
   ·rw [ZgR (by simp; omega), ZgR (by simp; omega), List.getElem_drop, List.getElem_drop];have e1 : (List.take off cs ++ (a.eval y).cells.toList).length = off + size := by simp; omega
    have e2 : (List.take off ss ++ d.parts.map S.d).length = off + size := by simp; omega
    simp only [e1, e2]
    exact hcs _ _ _)
theorem DRun.toX {cx : Cx} {ops : Array Oper} {σ : Obs} {Qe : Env -> Prop} : ∀ (l : List Oper) (e : Env), DRun cx ops σ l e Qe -> XRun cx ops σ [] l e Qe
 | [], _, h => ⟨fun f hf => absurd hf List.not_mem_nil, h⟩
 | o :: l, e, h => by
  obtain ⟨hd, ⟨s, hg, ha, k⟩ | ⟨hg, k⟩⟩ := h
  ·exact ⟨hd, s, .inl ⟨hg, .inr ⟨ha, fun f hf => absurd hf List.not_mem_nil, fun f hf => absurd hf List.not_mem_nil⟩⟩, DRun.toX l _ k⟩
  ·exact ⟨hd, _, .inr ⟨hg, J, fun f hf => absurd hf List.not_mem_nil⟩, DRun.toX l _ k⟩
theorem FrOk.nil {cx : Cx} {σ : Obs} : FrOk cx [] σ := ⟨fun f h => by simp at h, fun f h => by simp at h, fun f h => by simp at h, fun f h => by simp at h, fun f h => by simp at h, fun f h => by simp at h, fun f h => by simp at h⟩
theorem AWP.drw {cx : Cx} {id : Nat} {l : List Oper} {e : Env} {σ : Obs} {Q : Post} (k : Nat) (h : DRun cx (l.take k).toArray σ (l.take k) e (fun e => AOps cx l.toArray (l.drop k) e σ (QN Q)))
 (hm : cx.P.follows .mixedOrders = true := by kernel_rfl) (hB : Region.lexB .any (l.take k).toArray = true := by kernel_rfl) (hC : Region.chainLB l.toArray (fun i => ([] : List Nat).contains i) k = true := by kernel_rfl) (hL : lateB l.toArray [] k = true := by kernel_rfl) :
 AWP cx (.region id l.toArray true) e σ Q := .drawFreshL k [] [] FrOk.nil hm hB hC hL rfl (h.toX _ _)
theorem AWP.drwF {cx : Cx} {id : Nat} {l : List Oper} {e : Env} {σ : Obs} {Q : Post} (k : Nat) (L : List Nat) (Φ : List Fr) (ok : FrOk cx Φ σ) (h : XRun cx (l.take k).toArray σ Φ (l.take k) (Env.killAll Φ e) (fun e => AOps cx l.toArray (l.drop k) e (Yfm Φ ++ σ) (QN Q)))
 (hm : cx.P.follows .mixedOrders = true := by kernel_rfl) (hB : Region.lexB .any (l.take k).toArray = true := by kernel_rfl) (hC : Region.chainLB l.toArray (fun i => L.contains i) k = true := by kernel_rfl) (hL : lateB l.toArray L k = true := by kernel_rfl) (hlk : dstB Φ (l.take k) = true := by kernel_rfl) :
 AWP cx (.region id l.toArray true) e σ Q := .drawFreshL k L Φ ok hm hB hC hL hlk h
theorem ACallT.toA {P : Program} {f : FuncId} {ds : List D} {d : D} (h : ACallT P (fun _ => True) f ds d) : Yad P f ds d := ⟨h.1, fun F w vs hF hv => h.2 F w vs trivial hF hv⟩
section
variable {cx : Cx} {ops : Array Oper} {o o2 o3 : Oper} {rest : List Oper} {e : Env} {σ : Obs} {Q : Post} {t t2 t3 : Nat}
theorem AOps.mm {x x2 : Operand} {d d2 : D} (k : AOps cx ops rest ((e.put (some t) (.d d)).put (some t2) (.d d2)) σ Q) (ho : o.op = .move x := by exact rfl) (hx : e.ev x = .d d := by exact rfl) (ht : o.dst = some t := by exact rfl) (ho2 : o2.op = .move x2 := by exact rfl) (hx2 : (e.put (some t) (.d d)).ev x2 = .d d2 := by exact rfl) (ht2 : o2.dst = some t2 := by exact rfl) (hg : GW ops o e true := by exact rfl) (hd : Nat.blt t cx.N = true := by exact rfl) (hg2 : GW ops o2 (e.put (some t) (.d d)) true := by exact rfl) (hd2 : Nat.blt t2 cx.N = true := by exact rfl) : AOps cx ops (o :: o2 :: rest) e σ Q := .mA (.mA k ho2 hx2 hg2 ht2 hd2) ho hx hg ht hd
theorem AOps.ma {x x2 : Operand} {d d2 : D} (k : AOps cx ops rest ((e.put (some t) (.d d)).put (some t2) (.d d2)) σ Q) (ho : o.op = .move x := by exact rfl) (hx : e.ev x = .d d := by exact rfl) (ht : o.dst = some t := by exact rfl) (ho2 : o2.op = .assign x2 := by exact rfl) (hx2 : (e.put (some t) (.d d)).ev x2 = .d d2 := by exact rfl) (ht2 : o2.dst = some t2 := by exact rfl) (hg : GW ops o e true := by exact rfl) (hd : Nat.blt t cx.N = true := by exact rfl) (hg2 : GW ops o2 (e.put (some t) (.d d)) true := by exact rfl) (hd2 : Nat.blt t2 cx.N = true := by exact rfl) : AOps cx ops (o :: o2 :: rest) e σ Q := .mA (.aA k ho2 hx2 hg2 ht2 hd2) ho hx hg ht hd
theorem AOps.aa {x x2 : Operand} {d d2 : D} (k : AOps cx ops rest ((e.put (some t) (.d d)).put (some t2) (.d d2)) σ Q) (ho : o.op = .assign x := by exact rfl) (hx : e.ev x = .d d := by exact rfl) (ht : o.dst = some t := by exact rfl) (ho2 : o2.op = .assign x2 := by exact rfl) (hx2 : (e.put (some t) (.d d)).ev x2 = .d d2 := by exact rfl) (ht2 : o2.dst = some t2 := by exact rfl) (hg : GW ops o e true := by exact rfl) (hd : Nat.blt t cx.N = true := by exact rfl) (hg2 : GW ops o2 (e.put (some t) (.d d)) true := by exact rfl) (hd2 : Nat.blt t2 cx.N = true := by exact rfl) : AOps cx ops (o :: o2 :: rest) e σ Q := .aA (.aA k ho2 hx2 hg2 ht2 hd2) ho hx hg ht hd
theorem AOps.fl {s y : TypeId} {x : Operand} {f k : Nat} {ds ds2 : List D} {d : D} (hf : Yac cx.P s f = some k) (hT : Scal cx.P y) (q : AOps cx ops rest ((e.put (some t) (.d (.fp (ds.drop k)))).put (some t2) (.d d)) σ Q) (ho : o.op = .fieldAddr s x f := by exact rfl) (hx : e.ev x = .d (.fp ds) := by exact rfl) (he : ds.drop k = d :: ds2 := by exact rfl) (ht : o.dst = some t := by exact rfl) (ht2 : o2.dst = some t2 := by exact rfl) (ho2 : o2.op = .load y (.tmp t) := by exact rfl) (hg : GW ops o e true := by exact rfl) (hd : Nat.blt t cx.N = true := by exact rfl) (hg2 : GW ops o2 (e.put (some t) (.d (.fp (ds.drop k)))) true := by exact rfl) (hd2 : Nat.blt t2 cx.N = true := by exact rfl) : AOps cx ops (o :: o2 :: rest) e σ Q := .step hg ht hd (.fieldAddr ho hf hx) (.step hg2 ht2 hd2 (.load ho2 hT ((Env.put_same e t _).trans (congrArg (fun l => S.d (D.fp l)) he))) q)
theorem AOps.pB (k : AOps cx ops rest ((e.put (some t) (.d (.v undef))).put (some t2) (.d (.v undef))) σ Q) (ht : o.dst = some t := by exact rfl) (ht2 : o2.dst = some t2 := by exact rfl) (hg : GW ops o e false := by exact ⟨_, rfl, .inl ⟨_, rfl, rfl⟩⟩) (hg2 : GW ops o2 (e.put (some t) (.d (.v undef))) false := by exact ⟨_, rfl, .inl ⟨_, rfl, rfl⟩⟩) (hd : Nat.blt t cx.N = true := by exact rfl) (hd2 : Nat.blt t2 cx.N = true := by exact rfl) : AOps cx ops (o :: o2 :: rest) e σ Q := .pass hg ht hd (.pass hg2 ht2 hd2 k)
end
section
variable {cx : Cx} {ops : Array Oper} {o o2 : Oper} {l : List Oper} {e : Env} {σ : Obs} {Qe : Env -> Prop} {t t2 : Nat}
theorem DRun.fl {s y : TypeId} {x : Operand} {f k : Nat} {ds ds2 : List D} {d : D} (hf : Yac cx.P s f = some k) (hT : Scal cx.P y) (q : DRun cx ops σ l ((e.put (some t) (.d (.fp (ds.drop k)))).put (some t2) (.d d)) Qe) (ho : o.op = .fieldAddr s x f := by exact rfl) (hx : e.ev x = .d (.fp ds) := by exact rfl) (he : ds.drop k = d :: ds2 := by exact rfl) (ht : o.dst = some t := by exact rfl) (ht2 : o2.dst = some t2 := by exact rfl) (ho2 : o2.op = .load y (.tmp t) := by exact rfl) (hg : GW ops o e true := by exact rfl) (hd : Nat.blt t cx.N = true := by exact rfl) (hg2 : GW ops o2 (e.put (some t) (.d (.fp (ds.drop k)))) true := by exact rfl) (hd2 : Nat.blt t2 cx.N = true := by exact rfl) : DRun cx ops σ (o :: o2 :: l) e Qe := .step hg ht hd (.fieldAddr ho hf hx) (.step hg2 ht2 hd2 (.load ho2 hT ((Env.put_same e t _).trans (congrArg (fun l => S.d (D.fp l)) he))) q)
theorem DRun.pB (k : DRun cx ops σ l ((e.put (some t) (.d (.v undef))).put (some t2) (.d (.v undef))) Qe) (ht : o.dst = some t := by exact rfl) (ht2 : o2.dst = some t2 := by exact rfl) (hg : GW ops o e false := by exact ⟨_, rfl, .inl ⟨_, rfl, rfl⟩⟩) (hg2 : GW ops o2 (e.put (some t) (.d (.v undef))) false := by exact ⟨_, rfl, .inl ⟨_, rfl, rfl⟩⟩) (hd : Nat.blt t cx.N = true := by exact rfl) (hd2 : Nat.blt t2 cx.N = true := by exact rfl) : DRun cx ops σ (o :: o2 :: l) e Qe := .pass hg ht hd (.pass hg2 ht2 hd2 k)
end
theorem RetL.rs {P : Program} {e : Env} {σ : Obs} : ∀ {ts : List Nat} {ds : List D}, RetL e σ ts ds -> RetRs P e σ (ts.map .tmp) ds
 | [], [], h => h
 | _ :: _, _ :: _, h => ⟨h.1, RetL.rs h.2⟩
 | [], _ :: _, h => h
 | _ :: _, [], h => h
section
variable {T : World -> Prop} {P : Program} {f : FuncId} {fn : Func} {c : Code} {n : Nat} {ds ds' : List D} (hf : P.funcs[f]? = some fn) (hb : fn.body = some c) (hn : (fn.name == "runtime.NumGoroutine") = false) (hN : fn.ntmps = n)
include hf hb hn hN
theorem Yap (rs : List ResultVar) (hr : fn.results = rs.toArray) (hle' : Nat.ble ds.length n = true) (h : ∀ B w0 F0 fr, AWP ⟨P, n, B, w0, F0, fr, fun _ => false, fun _ => undef⟩ c (Env.args 0 ds) [] (RetQR P rs ds')) : Yad P f ds (retOf ds') :=
 (YcP (T := fun _ => True) hf hb hn hN rs hr hle' fun B w0 F0 _ => h B w0 F0 _).toA
theorem Ycr (ts : List Nat) (hr : fn.results = (ts.map ResultVar.tmp).toArray) (hle' : Nat.ble ds.length n = true) (h : ∀ B w0 F0, T w0 -> AWP ⟨P, n, B, w0, F0, (fun b => w0.heap.size <= b), fun _ => false, fun _ => undef⟩ c (Env.args 0 ds) [] (RetQ ts ds')) : ACallT P T f ds (retOf ds') :=
 YcP hf hb hn hN (ts.map .tmp) hr hle' fun B w0 F0 hT a w hR => wp_mono (h B w0 F0 hT a w hR) fun ex a w ⟨e', σ', hq, hr⟩ => ⟨e', σ', (by cases ex <;> first | exact RetL.rs hq | exact hq), hr⟩
theorem Yab (ts : List Nat) (hr : fn.results = (ts.map ResultVar.tmp).toArray) (hle' : Nat.ble ds.length n = true) (h : ∀ B w0 F0 fr, AWP ⟨P, n, B, w0, F0, fr, fun _ => false, fun _ => undef⟩ c (Env.args 0 ds) [] (RetQ ts ds')) : Yad P f ds (retOf ds') :=
 (Ycr (T := fun _ => True) hf hb hn hN ts hr hle' fun B w0 F0 _ => h B w0 F0 _).toA
end
section
variable {cx : Cx} {ops : Array Oper} {o : Oper} {rest : List Oper} {e : Env} {σ : Obs} {Q : Post}
theorem AOps.stR {t id off ee size len : Nat} {x y : Operand} {d : D} {els : List (List D)} {ds : List D} (hg : o.guard = none) (ht : o.dst = none) (ho : o.op = .store t x y) (hs : ∀ w, (sizeOf t).run cx.P w = .ok len w) (hx : e.ev x = .ptr id off) (hm : (id, Ob.row ee size els) ∈ σ)
 (hy : e.ev y = .d d) (h1 : d.one = true) (hl : d.parts.length = len) (k j : Nat) (hoff : off = k * size + j) (hd : els[k]? = some ds) (hj : j + len <= size)
 (q : AOps cx ops rest e (Obs.upd id (.row ee size (els.set k (ds.take j ++ d.parts ++ ds.drop (j + len)))) σ) Q) : AOps cx ops (o :: rest) e σ Q := .eff hg ht (EOp.storeRow ht ho hs hx hm hy h1 hl k j hoff hd hj) q
theorem AOps.st {t id off size : Nat} {x y : Operand} {d : D} {ss : List S} (hg : o.guard = none) (ht : o.dst = none) (ho : o.op = .store t x y) (hs : ∀ w, (sizeOf t).run cx.P w = .ok size w) (hx : e.ev x = .ptr id off) (hm : (id, Ob.cells ss) ∈ σ) (hy : e.ev y = .d d) (h1 : d.one = true) (hl : d.parts.length = size)
 (hle : off + size <= ss.length) (k : AOps cx ops rest e (Obs.upd id (.cells (ss.take off ++ d.parts.map S.d ++ ss.drop (off + size))) σ) Q) : AOps cx ops (o :: rest) e σ Q := .eff hg ht (EOp.store ht ho hs hx hm hy h1 hl hle) k
end
namespace Ty
theorem st_9 : Tryz.prog.underlying 9 = some .string := by kernel_rfl
end Ty
open Ty
open Go.Lib
theorem kindB_t {kind : Int} (h : kind ≥ 1) : YcV kind = decide (kind <= 4) := by unfold YcV; rw [decide_eq_true (show 1 <= kind by omega), Bool.true_and]
theorem kindB_f {kind : Int} (h : ¬ kind ≥ 1) : YcV kind = false := by unfold YcV; rw [decide_eq_false (show ¬ 1 <= kind by omega), Bool.false_and]
theorem bStr_dec (a b : List UInt8) : decide (bStr a = bStr b) = decide (a = b) := decide_eq_decide.2 ⟨bStr_inj, fun h => by rw [h]⟩
def bEmp : ByteArray := ⟨#[]⟩
theorem trim_dec (b : Bool) (l : List UInt8) : decide (bStr (trimS l (Ybi b)) = bEmp) = l.all (YcO b) := by
 rw [show bEmp = bStr [] from rfl, bStr_dec, Bool.eq_iff_iff, decide_eq_true_eq, trim_all]
theorem pre_T {l : List UInt8} : hasPrefix l [84] = (decide (1 <= l.length) && decide (at0 l 0 = 84)) := by
 unfold hasPrefix at0
 cases l with
 | nil => rfl
 | cons x r =>
  show ((84 == x) && List.isPrefixOf [] r) = (decide (1 <= r.length + 1) && decide (x = 84))
  rw [decide_eq_true (show 1 <= r.length + 1 by omega), Bool.true_and, show List.isPrefixOf [] r = true by cases r <;> rfl, Bool.and_true]
  by_cases hx : x = 84
  ·subst hx; rfl
  ·rw [decide_eq_false hx]; exact beq_false_of_ne (Ne.symm hx)
theorem body_pT {l : List UInt8} (h : hasPrefix l [84] = true) : (decide (((l.drop 1).length : Int) = 9) && (l.drop 1).all (YcO false)) = YbT 1 l := by
 rw [pre_T, ZbA, decide_eq_true_eq, decide_eq_true_eq] at h;unfold YbT;rw [if_pos rfl, decide_eq_true h.2, Bool.and_true, ZlD];congr 1;exact decide_eq_decide.2 (by omega)
theorem body_pF {l : List UInt8} (h : hasPrefix l [84] = false) : YbT 1 l = false := by
 rw [pre_T] at h;unfold YbT;rw [if_pos rfl]
 by_cases h1 : l.length = 10
 ·rw [decide_eq_true (show 1 <= l.length by omega), Bool.true_and] at h;rw [h, Bool.and_false, Bool.false_and]
 ·rw [decide_eq_false h1, Bool.false_and, Bool.false_and]
theorem body_p2 (l : List UInt8) : (decide ((l.length : Int) = 10) && l.all (YcO true)) = YbT 2 l := by
 unfold YbT;rw [if_neg (by decide), if_pos rfl];congr 1;exact decide_eq_decide.2 (by omega)
theorem body_p3 {kind : Int} (h1 : ¬ kind = 1) (h2 : ¬ kind = 2) (l : List UInt8) : (decide ((l.length : Int) = 12) && l.all (YcO false)) = YbT kind l := by
 unfold YbT;rw [if_neg h1, if_neg h2];congr 1;exact decide_eq_decide.2 (by omega)
theorem pre1 {l : List UInt8} (h : hasPrefix l [84] = true) : 1 <= l.length := by
 rw [pre_T, ZbA, decide_eq_true_eq] at h;exact h.1
theorem at0_some {l : List UInt8} {i : Nat} (h : i < l.length) : l[i]? = some (at0 l i) := by rw [YdW h, ZgE h]
theorem dv_nat : ∀ n : Fin 256, YcJ (UInt8.ofNat n.val) = true -> IntKind.i64.wrap (IntKind.u8.wrap ((n.val : Int) - 48)) = dv (UInt8.ofNat n.val) := by decide +kernel
theorem dv_wrap {c : UInt8} (h : YcJ c = true) : IntKind.i64.wrap (IntKind.u8.wrap ((c.toNat : Int) - 48)) = dv c := by
 have := dv_nat ⟨c.toNat, c.toNat_lt⟩;simp only [UInt8.ofNat_toNat] at this;exact this h
theorem w_next (l : List UInt8) (k : Nat) (a : Int) : a + Ycz (Yfi l) k + ((k : Int) + 1) * dv (at0 l (k + 1)) = a + Ycz (Yfi l) (k + 1) := by rw [Int.add_assoc]; rfl
theorem e_next (l : List UInt8) (k : Nat) (a : Int) : a + Ycz (Yfo l) k + (1 + (k : Int) % 2 * 2) * dv (at0 l k) = a + Ycz (Yfo l) (k + 1) := by rw [Int.add_assoc]; rfl
theorem chk_1 (l : List UInt8) : (10 - (1 + Ycz (Yfi l) 9) % 10) % 10 = (((chk 1 l).toNat : Nat) : Int) := by
 have := Ydv 1 l;rw [Int.toNat_of_nonneg this.1];rfl
theorem chk_2 (l : List UInt8) : (1 - qTo l 10 % 36 + 36) % 36 = (((chk 2 l).toNat : Nat) : Int) := by
 have := Ydv 2 l;rw [Int.toNat_of_nonneg this.1];rfl
theorem chk_3 {kind : Int} (h1 : ¬ kind = 1) (h2 : ¬ kind = 2) (l : List UInt8) : (10 - Ycz (Yfo l) 12 % 10) % 10 = (((chk kind l).toNat : Nat) : Int) := by
 have := Ydv kind l;rw [Int.toNat_of_nonneg this.1];unfold chk;rw [if_neg h1, if_neg h2]
theorem q_next {l : List UInt8} {k : Nat} (h : k < l.length) : qTo l (k + 1) = 2 * (if (qTo l k + indexByte sgnL (at0 l k)) % 36 = 0 then 36 else (qTo l k + indexByte sgnL (at0 l k)) % 36) % 37 := by rw [qTo_next h, YdW h]; rfl
theorem q_next0 {l : List UInt8} {k : Nat} (h : k < l.length) (h0 : (qTo l k + indexByte sgnL (at0 l k)) % 36 = 0) : qTo l (k + 1) = 2 * 36 % 37 := by rw [q_next h, if_pos h0]
theorem q_next1 {l : List UInt8} {k : Nat} (h : k < l.length) (h0 : ¬ (qTo l k + indexByte sgnL (at0 l k)) % 36 = 0) : qTo l (k + 1) = 2 * ((qTo l k + indexByte sgnL (at0 l k)) % 36) % 37 := by rw [q_next h, if_neg h0]
theorem dig_get {kind : Int} {l : List UInt8} (h2 : ¬ kind = 2) : digL[(chk kind l).toNat]? = some (chkS kind l) := by
 have h := Ydv kind l;have h3 := h.2.2 h2;have h4 := (dig_at (v := (chk kind l).toNat) (by omega)).2;rw [at0_some (show (chk kind l).toNat < digL.length by show _ < 10; omega), h4];rfl
theorem sgn_get (kind : Int) (l : List UInt8) : sgnL[(chk kind l).toNat]? = some (chkS kind l) := at0_some (by have := Ydv kind l; show _ < 36; omega)
theorem c_pKind (kind : Int) : Yad Tryz.prog 98 [.v (.int .i64 kind)] (.v (.bool (YcV kind))) := by
 refine Yab (n := 9) (ds' := [.v (.bool (YcV kind))]) Tryz.func98 J (by kernel_rfl) J [2] J J ?_;intro B w0 F0 fr;refine .sr (.aN ?_);refine .sr (.mA ?_);refine .sA (.geq J J J) ?_;refine .mA ?_;refine .sT 5 J (fun g1 => ?_) fun g1 => ?_
 ·rw [kindB_t g1];refine .sG (.moveD J J) ?_;refine .sG (.leq J J J) ?_;refine .sA (.pickT J J J) ?_;refine .aN ?_;refine .ret (rDq J ?_)
  all_goals (rfl)
 rw [kindB_f g1];refine .pB ?_;refine .sA (.pickF J J J) ?_;refine .aN ?_;refine .ret (rDq J ?_)
 all_goals (rfl)
theorem c_all (b : Bool) (l : List UInt8) (n : Int) (hl : l.length <= 9223372036854775807) : Yad Tryz.prog 211 [.v (.string (bStr l)), .v (.int .i64 n), .v (.string (bStr (Ybi b)))] (.v (.bool (decide ((l.length : Int) = n) && l.all (YcO b)))) := by
 refine Yab (n := 17) (ds' := [.v (.bool (decide ((l.length : Int) = n) && l.all (YcO b)))]) Tryz.func211 J (by kernel_rfl) J [6] J J ?_;intro B w0 F0 fr;refine .sr (.aN ?_);refine .sr (.mA ?_);refine .sA (.lenStr J st_9 J) ?_;rw [YaT];refine .mA ?_;refine .sA (.eql J J J) ?_;refine .mA ?_;refine .sT 11 J (fun g1 => ?_) fun g1 => ?_
 ·rw [decide_eq_true g1, Bool.true_and];refine .sG (.moveD J J) ?_;refine .sG (.moveD J J) ?_;refine .sG (.call J (.cons (.rfl' J) (.cons (.rfl' J) .nil)) (c_trimAll b l hl)) ?_;refine .sG (.seql J J J) ?_;refine .sA (.pickT J J J) ?_;refine .aN ?_;refine .ret (rDq J ?_)
  all_goals (first | rfl | (rw [<- trim_dec]; rfl))
 rw [decide_eq_false g1, Bool.false_and];refine .pB ?_;refine .pB ?_;refine .sA (.pickF J J J) ?_;refine .aN ?_;refine .ret (rDq J ?_)
 all_goals (first | rfl | (rw [<- trim_dec]; rfl))
theorem c_pBody (kind : Int) (l : List UInt8) (hl : l.length <= 9223372036854775807) : Yad Tryz.prog 160 [.v (.int .i64 kind), .v (.string (bStr l))] (.v (.bool (YbT kind l))) := by
 refine Yab (n := 21) (ds' := [.v (.bool (YbT kind l))]) Tryz.func160 J (by kernel_rfl) J [4] J J ?_;intro B w0 F0 fr;refine .sr (.aN ?_);refine .seq (.sr (.mN ?_));refine .block (.sr (.sA (.eql J J J) ?_));refine .aN ?_;refine .cT J (fun h1 => ?_) fun h1 => ?_
 ·subst h1;refine .sr (.mA ?_);refine .sA (.call J (.cons (.rfl' J) (.cons (.rfl' J) .nil)) (c_hasP l [84])) ?_;refine .mA ?_;refine .split 10 J (fun g2 => ?_) (fun g2 => ?_)
  ·skip;rw [<- body_pT g2];have hp1 := pre1 g2;refine .sG (.moveD J J) ?_;refine .sG (.sliceFrom J Tryz.underlying9 J J 1 J hp1) ?_;refine .sG (.call J (.cons (.rfl' J) (.cons (.rfl' J) (.cons (.rfl' J) .nil))) (c_all false (l.drop 1) 9 (by rw [ZlD]; omega))) ?_;refine .sA (.pickT J J J) ?_;refine .aN ?_;refine .ret (rDq J ?_)
   all_goals (rfl)
  rw [body_pF g2];refine .pB ?_;refine .pA ?_;refine .sA (.pickF J J J) ?_;refine .aN ?_;refine .ret (rDq J ?_)
  all_goals (rfl)
 refine .sr (.sA (.eql J J J) ?_);refine .aN ?_;refine .cT J (fun h3 => ?_) fun h3 => ?_
 ·subst h3;rw [<- body_p2];refine .sr (.mA ?_);refine .sA (.call J (.cons (.rfl' J) (.cons (.rfl' J) (.cons (.rfl' J) .nil))) (c_all true l 10 hl)) ?_;refine .aN ?_;refine .ret (rDq J ?_)
  all_goals (rfl)
 rw [<- body_p3 h1 h3];refine .skip (.sr (.mA ?_));refine .sA (.call J (.cons (.rfl' J) (.cons (.rfl' J) (.cons (.rfl' J) .nil))) (c_all false l 12 hl)) ?_;refine .aN ?_;refine .ret (rDq J ?_)
 all_goals (rfl)
namespace Ty
theorem cv_5_3 : Yfp Tryz.prog 5 3 .i64 = true := by kernel_rfl
end Ty
open Go.Lib
theorem at0_s {l : List UInt8} {i : Nat} (h : i < l.length) : (bStr l).data.toList[i]? = some (at0 l i) := at0_some h
theorem codeF_k {kind : Int} (l : List UInt8) (h : YcV kind = false) : YcM kind l = 4 := if_pos h
theorem codeF_0 {kind : Int} {l : List UInt8} (h : YcV kind = true) (h0 : l.length = 0) : YcM kind l = 3 := by unfold YcM; rw [if_neg (by rw [h]; decide), if_pos h0]
theorem codeF_b {kind : Int} {l : List UInt8} (h : YcV kind = true) (hb : YbT kind (cBody l) = false) : YcM kind l = 3 := by unfold YcM; rw [if_neg (by rw [h]; decide), if_pos hb]; split <;> rfl
theorem codeF_s {kind : Int} {l : List UInt8} (h : YcV kind = true) (hs : YcO (two kind) (cSign l) = false) : YcM kind l = 3 := by unfold YcM; rw [if_neg (by rw [h]; decide), if_pos hs]; split <;> (try split) <;> rfl
theorem codeF_f {kind : Int} {l : List UInt8} (h : YcV kind = true) (h0 : ¬ l.length = 0) (hb : YbT kind (cBody l) = true) (hs : YcO (two kind) (cSign l) = true) : YcM kind l = if fitsB kind (cBody l) (cSign l) = false then 16 else 0 := by
 unfold YcM;rw [if_neg (by rw [h]; decide), if_neg h0, if_neg (by rw [hb]; decide), if_neg (by rw [hs]; decide)]
theorem fits_no {kind : Int} {l : List UInt8} {c : UInt8} (h : ((chkS kind l).toNat : Int) ≠ (c.toNat : Int)) : fitsB kind l c = false := decide_eq_false fun e => h (by rw [e])
theorem fits_yes {kind : Int} {l : List UInt8} {c : UInt8} (h : ((chkS kind l).toNat : Int) = (c.toNat : Int)) : fitsB kind l c = true := decide_eq_true (UInt8.toNat_inj.1 (by omega))
theorem among_no {b : Bool} {c : UInt8} (h : indexByte (Ybi b) c < 0) : YcO b c = false := by
 cases ha : YcO b c with
 | false => rfl
 | true => have := sg_of.2 ha; omega
theorem among_yes {b : Bool} {c : UInt8} (h : ¬ indexByte (Ybi b) c < 0) : YcO b c = true := sg_of.1 (by omega)
theorem c_digit (kind : Int) (l : List UInt8) (hb : YbT kind l = true) : Yad Tryz.prog 163 [.v (.int .i64 kind), .v (.string (bStr l))] (.v (.int .u8 ((chkS kind l).toNat : Int))) := by
 refine Yab (n := 82) (ds' := [.v (.int .u8 ((chkS kind l).toNat : Int))]) Tryz.func163 J (by kernel_rfl) J [4] J J ?_;intro B w0 F0 fr;refine .sr (.aN ?_);refine .seq (.sr (.mN ?_));refine .block (.sr (.sA (.eql J J J) ?_));refine .aN ?_;refine .cT J (fun h1 => ?_) fun h1 => ?_
 ·subst h1;have hlen := (body1 hb).1;refine .sr (.aN ?_);refine .seq (.sr (.aN ?_));refine .block (.loop (G := Nat) (fun k => Env.of [(6, .iv ((k : Int) + 1)), (5, .iv (1 + Ycz (Yfi l) k)), (1, .d (.v (.string (bStr l))))]) (fun k => []) (fun k => k <= 9) (fun k => 9 - k) 0 (ZnZ _) (Sub.less ⟨U, U, U, trivial⟩ (fun _ h => h)) ?_);intro k hk;refine .seq (.sr (.mA ?_));refine .sA (.leq J J J) (.nil ?_);refine .cT J (fun h2 => ?_) fun h2 => ?_
  ·have hlt : k < 9 := by omega
   have hdg := (body1 hb).2.2 (k + 1) (by omega) (by omega);have hwt := YfU hb hlt;have hws := wSum_bound hb k (by omega);unfold Yfi at hwt;refine .skip (.seq (.block (.region (.mm ?_))));refine .mm ?_;refine .sA (.indexStr J st_9 J J (k + 1) J (at0_s (by omega))) ?_;refine .sA (.sub J J J) (.sA (.convInt J cv_5_3 J) ?_);rw [dv_wrap hdg];refine .sA (.mul64 J J J) ?_;refine .sA (.add64 J J J) ?_;refine .aN ?_;refine .region (.mA ?_);refine .sA (.add64 J J J) ?_;refine .aN ?_;refine ⟨k + 1, (by omega), (by dsimp only; omega), Sub.less ⟨U, (SLe.of_eq (by rw [w_next]; rfl)), U, trivial⟩ (fun _ h => h)⟩
  obtain rfl : k = 9 := by omega
  have hws := wSum_bound hb 9 (by omega);refine .exit (.sr (.mA ?_));refine .sA (.rem64 J J J (by omega) (by omega)) ?_;refine .sA (.sub64 J J J) ?_;refine .sA (.rem64 J J J (by omega) (by omega)) ?_;rw [chk_1];refine .sA (.indexStr J st_9 J J (chk 1 l).toNat J (dig_get (by decide))) ?_;refine .aN ?_;refine .ret (rDq J ?_)
  all_goals (rfl)
 have k1 : ¬ kind = 1 := h1;refine .sr (.sA (.eql J J J) ?_);refine .aN ?_;refine .cT J (fun h3 => ?_) fun h3 => ?_
 ·subst h3;have hlen := (body2 hb).1;refine .sr (.aN ?_);refine .seq (.sr (.mA ?_));refine .sA (.lenStr J st_9 J) ?_;rw [YaT];refine .mN ?_;refine .block (.loop (G := Nat) (fun k => Env.of [(37, .iv k), (36, .iv l.length), (7, .iv (qTo l k)), (1, .d (.v (.string (bStr l))))]) (fun k => []) (fun k => k <= l.length) (fun k => l.length - k) 0 (ZnZ _) (Sub.less ⟨U, U, U, U, trivial⟩ (fun _ h => h)) ?_);intro k hk;refine .sr (.sA (.lss J J J) (.nil ?_));refine .seq (.cT J (fun h4 => ?_) fun h4 => ?_)
  ·have hlt : k < l.length := by omega
   have hqb := Yf1 l k;have hsg := sg_pos.2 ((body2 hb).2 (at0 l k) (by rw [YdW hlt]; exact ZgM _));have hsu := (sg_all (at0 l k)).2.2.1;refine .skip (.seq (.block (.sr (.ma (.nil ?_)))));refine .sr (.mm ?_);refine .mA ?_;refine .sA (.indexStr J st_9 J J k J (at0_s hlt)) (.sA (.call J (.cons (.rfl' J) (.cons (.rfl' J) .nil)) (c_idx sgnL (at0 l k))) ?_);refine .sA (.add64 J J J) ?_;refine .sA (.rem64 J J J (by omega) (by omega)) ?_;refine .aN ?_;refine .seq (.sr (.mA ?_));refine .sA (.eql J J J) (.nil ?_);refine .cT J (fun h5 => ?_) fun h5 => ?_
   ·have HN := q_next0 hlt h5;refine .region (.aN ?_);refine .region (.mA ?_);refine .sA (.mul64 J J J) ?_;refine .sA (.rem64 J J J (by omega) (by omega)) ?_;refine .aN ?_;refine .region (.sA (.add64 J J J) ?_);refine .mN ?_;refine ⟨k + 1, (by omega), (by dsimp only; omega), Sub.less ⟨U, U, (SLe.of_eq (by rw [HN]; rfl)), U, trivial⟩ (fun _ h => h)⟩
   have HN := q_next1 hlt h5;refine .skip (.region (.mA ?_));refine .sA (.mul64 J J J) ?_;refine .sA (.rem64 J J J (by omega) (by omega)) ?_;refine .aN ?_;refine .region (.sA (.add64 J J J) ?_);refine .mN ?_;refine ⟨k + 1, (by omega), (by dsimp only; omega), Sub.less ⟨U, U, (SLe.of_eq (by rw [HN]; rfl)), U, trivial⟩ (fun _ h => h)⟩
  obtain rfl : k = 10 := by omega
  have hqb := Yf1 l 10;refine .exit (.sr (.mA ?_));refine .sA (.rem64 J J J (by omega) (by omega)) ?_;refine .sA (.sub64 J J J) ?_;refine .sA (.add64 J J J) ?_;refine .sA (.rem64 J J J (by omega) (by omega)) ?_;rw [chk_2];refine .sA (.indexStr J st_9 J J (chk 2 l).toNat J (sgn_get 2 l)) ?_;refine .aN ?_;refine .ret (rDq J ?_)
  all_goals (rfl)
 have k2 : ¬ kind = 2 := h3;have hlen := (body3 k1 k2 hb).1;refine .skip (.sr (.aN ?_));refine .seq (.sr (.mA ?_));refine .sA (.lenStr J st_9 J) ?_;rw [YaT];refine .mN ?_;refine .block (.loop (G := Nat) (fun k => Env.of [(61, .iv k), (60, .iv l.length), (10, .iv (0 + Ycz (Yfo l) k)), (1, .d (.v (.string (bStr l))))]) (fun k => []) (fun k => k <= l.length) (fun k => l.length - k) 0 (ZnZ _) (Sub.less ⟨U, U, U, U, trivial⟩ (fun _ h => h)) ?_);intro k hk;refine .sr (.sA (.lss J J J) (.nil ?_));refine .seq (.cT J (fun h6 => ?_) fun h6 => ?_)
 ·have hlt : k < l.length := by omega
  have hdg := (body3 k1 k2 hb).2 (at0 l k) (by rw [YdW hlt]; exact ZgM _);have het := Ygv k1 k2 hb (i := k) (by omega);have hes := eSum_bound k1 k2 hb k (by omega);unfold Yfo at het;refine .skip (.seq (.block (.sr (.ma (.nil ?_)))));refine .region (.mm ?_);refine .sA (.rem64 J J J (by omega) (by omega)) ?_;refine .sA (.mul64 J J J) ?_;refine .sA (.add64 J J J) ?_;refine .mm ?_;refine .sA (.indexStr J st_9 J J k J (at0_s hlt)) (.sA (.sub J J J) (.sA (.convInt J cv_5_3 J) ?_));rw [dv_wrap hdg];refine .sA (.mul64 J J J) ?_;refine .sA (.add64 J J J) ?_;refine .aN ?_;refine .region (.sA (.add64 J J J) ?_);refine .mN ?_;refine ⟨k + 1, (by omega), (by dsimp only; omega), Sub.less ⟨U, U, (SLe.of_eq (by rw [e_next]; rfl)), U, trivial⟩ (fun _ h => h)⟩
 obtain rfl : k = 12 := by omega
 have hes := eSum_bound k1 k2 hb 12 (by omega);refine .exit (.sr (.mA ?_));rw [Int.zero_add];refine .sA (.rem64 J J J (by omega) (by omega)) ?_;refine .sA (.sub64 J J J) ?_;refine .sA (.rem64 J J J (by omega) (by omega)) ?_;rw [chk_3 k1 k2];refine .sA (.indexStr J st_9 J J (chk kind l).toNat J (dig_get k2)) ?_;refine .aN ?_;refine .ret (rDq J ?_)
 all_goals (rfl)
theorem c_digitsOf (kind : Int) : Yad Tryz.prog 162 [.v (.int .i64 kind)] (.v (.string (bStr (Ybi (two kind))))) := by
 refine Yab (n := 5) (ds' := [.v (.string (bStr (Ybi (two kind))))]) Tryz.func162 J (by kernel_rfl) J [2] J J ?_;intro B w0 F0 fr;refine .sr (.aN ?_);refine .seq (.sr (.mA ?_));refine .sA (.eql J J J) (.nil ?_);refine .cT J (fun h1 => ?_) fun h1 => ?_
 ·subst h1;refine .sr (.aN ?_);refine .ret (rDq J ?_)
  all_goals (rfl)
 rw [show two kind = false from decide_eq_false h1];refine .skip (.sr (.aN ?_));refine .ret (rDq J ?_)
 all_goals (rfl)
theorem c_pCode (kind : Int) (l : List UInt8) (hl : l.length <= 9223372036854775807) : Yad Tryz.prog 100 [.v (.int .i64 kind), .v (.string (bStr l))] (.v (.int .i64 (YcM kind l))) := by
 refine Yab (n := 40) (ds' := [.v (.int .i64 (YcM kind l))]) Tryz.func100 J (by kernel_rfl) J [4] J J ?_;intro B w0 F0 fr;refine .sr (.aN ?_);refine .seq (.sr (.mA ?_));refine .sA (.call J (.cons (.rfl' J) .nil) (c_pKind kind)) ?_;refine .sA (.not J J) (.nil ?_);refine .cond J (fun h1 => ?_) (fun h1 => ?_)
 ·replace h1 := Yaw h1;have HR := codeF_k l h1;refine .sr (.aN ?_);refine .ret (rDq J ?_)
  all_goals (rw [HR])
 replace h1 := Yax h1;have hk := h1;refine .skip (.sr (.mA ?_));refine .sA (.lenStr J st_9 J) ?_;rw [YaT];refine .sA (.sub64 J J J) ?_;refine .aN ?_;refine .seq (.seq (.drw 19 ?_));refine .sA (.moveD J J) (.sA (.lss J J J) (.sA (.moveD J J) ?_));refine .sT 14 J (fun g2 => ?_) fun g2 => ?_
 ·have HR := codeF_0 (l := l) hk (by omega);refine .pB ?_;refine .pB ?_;refine .pB ?_;refine .sA (.pickT J J J) (.sA (.moveD J J) ?_);refine .pB ?_;refine .pB ?_;refine .pB ?_;refine .pA ?_;refine .sA (.pickT J J J) ?_;refine .nil ?_;refine .nil ?_;refine .cond J (fun _ => ?_) (fun h => nomatch h);refine .sr (.aN ?_);refine .ret (rDq J ?_)
  all_goals (rw [HR])
 have h0 : ¬ l.length = 0 := by omega
 refine .sG (.moveD J J) ?_;refine .sG (.moveD J J) ?_;refine .sG (.moveD J J) ?_;refine .sG (.sliceTo J Tryz.underlying9 J J (l.length - 1) (by omega) (by omega)) ?_;refine .sG (.call J (.cons (.rfl' J) (.cons (.rfl' J) .nil)) (c_pBody kind (cBody l) (by unfold cBody; rw [ZlT]; omega))) ?_;refine .sG (.not J J) ?_;refine .sA (.pickF J J J) (.sA (.moveD J J) ?_);refine .split 22 J (fun g3 => ?_) (fun g3 => ?_)
 ·replace g3 := Yaw g3;have HR := codeF_b hk g3;refine .pB ?_;refine .pB ?_;refine .pB ?_;refine .pA ?_;refine .sA (.pickT J J J) ?_;refine .nil ?_;refine .nil ?_;refine .cond J (fun _ => ?_) (fun h => nomatch h);refine .sr (.aN ?_);refine .ret (rDq J ?_)
  all_goals (rw [HR])
 replace g3 := Yax g3;have hb := g3;refine .sG (.moveD J J) ?_;refine .sG (.call J (.cons (.rfl' J) .nil) (c_digitsOf kind)) ?_;refine .sG (.moveD J J) ?_;refine .sG (.moveD J J) ?_;refine .sG (.indexStr J st_9 J J (l.length - 1) (by omega) (at0_s (by omega))) ?_;refine .sG (.call J (.cons (.rfl' J) (.cons (.rfl' J) .nil)) (c_idx (Ybi (two kind)) (cSign l))) ?_;refine .sG (.lss J J J) ?_;refine .sA (.pickF J J J) ?_;refine .nil ?_;refine .nil ?_;refine .cT J (fun h4 => ?_) fun h4 => ?_
 ·have HR := codeF_s hk (among_no h4);refine .sr (.aN ?_);refine .ret (rDq J ?_)
  all_goals (rw [HR])
 have hs := among_yes h4;have HF := codeF_f hk h0 hb hs;refine .skip (.seq (.seq (.drw 9 ?_)));refine .sA (.moveD J J) (.sA (.moveD J J) (.sA (.moveD J J) ?_));refine .sA (.sliceTo J Tryz.underlying9 J J (l.length - 1) (by omega) (by omega)) ?_;refine .sA (.call J (.cons (.rfl' J) (.cons (.rfl' J) .nil)) (c_digit kind (cBody l) hb)) (.sA (.moveD J J) (.sA (.moveD J J) ?_));refine .sA (.indexStr J st_9 J J (l.length - 1) (by omega) (at0_s (by omega))) ?_;refine .sA (.neq J J J) ?_;refine .nil ?_;refine .nil ?_;refine .cT J (fun h5 => ?_) fun h5 => ?_
 ·have HR := HF.trans (if_pos (fits_no (c := cSign l) h5));refine .sr (.aN ?_);refine .ret (rDq J ?_)
  all_goals (rw [HR])
 have HR := HF.trans (if_neg (by rw [fits_yes (c := cSign l) (Decidable.not_not.1 h5)]; decide));refine .skip (.sr (.aN ?_));refine .ret (rDq J ?_)
 all_goals (rw [HR])
open Go.Lib
end
section
open Go.RowKit Go.MapKept
def YgD (M : List (Value × D)) (key : Value) (z d : D) (ok : Bool) : Prop := (ok = true /\ ∃ i, M[i]? = some (key, d) /\ ∀ (j : Nat) (p : Value × D), M[j]? = some p -> p.1 = key -> j = i) \/ (ok = false /\ (∀ p ∈ M, p.1 ≠ key) /\ d = z)
theorem rep_agg2 {F : Nat -> Prop} {w : World} {v k1 k2 : Value} (h : Rep F w v (.agg [.v k1, .v k2])) : v = .agg #[k1, k2] := by
 cases h with
 | agg cs _ hl hone h =>
  obtain ⟨a, b, rfl⟩ : ∃ a b, cs = [a, b] := by
   match cs, hl with
   | [a, b], _ => exact ⟨a, b, rfl⟩
  have h1 := h 0 (by simp) (by simp);have h2 := h 1 (by simp) (by simp);simp only [List.getElem_cons_zero, List.getElem_cons_succ] at h1 h2;rw [rep_v h1, rep_v h2]
section
variable {cx : Cx} {ops : Array Oper} {o : Oper} {rest : List Oper} {e : Env} {σ σ' : Obs} {Q : Post} {P : Program} {B : Nat}
end
def DExact (kd : D) (key : Value) : Prop := ∀ F w v, Rep F w v kd -> v = key
theorem DExact.v (x : Value) : DExact (.v x) x := fun _ _ _ h => rep_v h
theorem DExact.agg2 (k1 k2 : Value) : DExact (.agg [.v k1, .v k2]) (.agg #[k1, k2]) := fun _ _ _ h => rep_agg2 h
section
variable {cx : Cx} {ops : Array Oper} {o : Oper} {rest : List Oper} {e : Env} {σ σ' : Obs} {Q : Post} {P : Program} {B : Nat}
theorem EOp.mapUpdateX {t k et : TypeId} {id : Nat} {m x v : Operand} {key : Value} {d kd : D} {M M' : List (Value × D)}  (hdst : o.dst = none) (ho : o.op = .mapUpdate t m x v) (ht : cx.P.underlying t = some (.map k et)) (K : Maps.Keyed cx.P k) (hm : e.ev m = .own id) (hmem : (id, Ob.map M) ∈ σ)
 (hx : e.ev x = .d kd) (hke : DExact kd key) (hv : e.ev v = .d d) (hg : ∃ l, keyOf cx.P k key = some l) (hgs : ∀ p ∈ M, ∃ l, keyOf cx.P k p.1 = some l) (hp : MPut M key d M') : EOp cx ops o e σ (Obs.upd id (.map M') σ) := by
 intro F ρ a w e0 hr ha;have hop : ∀ y ∈ o.op.operands.toList, RepS F ρ w (a.eval y) (e.ev y) := fun y hy => Ya1 fun t ht => ha t (Ybo (by rw [<- ht]; exact hy))
 have r1 := hop m (by rw [ho]; simp [Op.operands]);have r2 := hop x (by rw [ho]; simp [Op.operands]);have r3 := hop v (by rw [ho]; simp [Op.operands]);rw [hm] at r1;rw [hx] at r2;rw [hv] at r3;obtain ⟨b, es, clock, hρ, hB, hF, hh, hMC, hall⟩ := hr.obs.ok _ hmem;have hl := hMC.size;dsimp only at hρ;have hmv : a.eval m = .map (some b) := by rw [<- hρ]; generalize a.eval m = u at r1; cases r1; rfl
 have hxv := hke _ _ _ (Yag r2);have r3' := Yag r3
 have hks : ∀ en ∈ es.toList, ∃ l, keyOf cx.P k en.key = some l := fun en hen => by
  obtain ⟨j, hj⟩ := List.mem_iff_getElem?.1 hen;obtain ⟨p, h1, h2, _⟩ := Yc1 hl hall hj;rw [h2]; exact hgs p (List.mem_of_getElem? h1)
 obtain ⟨kl, hkl⟩ := hg;have hblk : blk (ρ id) = some b := by rw [hρ]; rfl
 unfold Oper.wp execOp;simp only [ho, hmv, hxv]
 rcases K.find w hkl es.toList hks with ⟨h1, h2⟩ | ⟨j, en, h1, h2, h3⟩
 ·have hrun : (Instr.mapUpdate t (.map (some b)) key (a.eval v)).run cx.P w = .ok () { w with heap := w.heap.setIfInBounds b (.map (es.push { key := key, val := a.eval v, born := clock }) (clock + 1)) } := by
   simp [Instr.mapUpdate, run_underlying ht, MapKept.run_getObj_map hh, K.check w _ hkl, h1, MapKept.run_setObj_map _ hh, Result.andThen]
  rw [Sem.run_bind, hrun];refine ⟨by rw [hdst]; rfl, fun e2 hr2 => ⟨F, ρ, hr2.writeOb hblk hmem hB hF YbX ?_⟩⟩
  have hM' : M' = M ++ [(key, d)] := by
   rcases hp with ⟨i, d0, hi, _, _⟩ | ⟨_, hM'⟩
   ·exfalso;have hil : i < M.length := (ZgS.1 hi).1;have h4 := (hall i (by omega) hil).1;have h5 : M[i] = (key, d0) := (ZgS.1 hi).2;rw [h5] at h4;exact h2 es[i] (by simp) h4
   ·exact hM'
  have hkeep : ∀ {u : Value} {y : D}, Rep F w u y -> Rep F { w with heap := w.heap.setIfInBounds b (.map (es.push { key := key, val := a.eval v, born := clock }) (clock + 1)) } u y := fun h => h.mono (fun _ h => h) fun c hc => by
   have : b ≠ c := fun h => hF (by rw [h]; exact hc)
   simp [this]
  subst hM';refine ⟨b, _, _, hρ, hB, hF, (MapKept.heap_set hh).1, by simpa using hMC.push key (a.eval v), fun i hi hi' => ?_⟩
  by_cases hc : i < es.size
  ·have hc' : i < M.length := by omega
   rw [Array.getElem_push_lt hc, ZgL hc'];exact ⟨(hall i hc hc').1, hkeep (hall i hc hc').2⟩
  ·have : i = es.size := by simp at hi; omega
   subst this;rw [Array.getElem_push_eq, ZgR (by omega)];simp only [hl, Nat.sub_self, List.getElem_cons_zero];exact ⟨trivial, hkeep r3'⟩
 ·have hjs : j < es.size := by simpa using (ZgS.1 h2).1
  have hej : es[j] = en := by have := (ZgS.1 h2).2; simpa using this
  have hrun : (Instr.mapUpdate t (.map (some b)) key (a.eval v)).run cx.P w = .ok () { w with heap := w.heap.setIfInBounds b (.map (es.modify j fun e => { e with key := key, val := a.eval v }) clock) } := by
   have h0 : ((es[j]?).map (·.key)).getD key = key := by rw [Array.getElem?_eq_getElem hjs, hej]; simp [h3]
   simp only [Instr.mapUpdate, run_underlying ht, Sem.run_bind, Result.andThen_ok, MapKept.run_getObj_map hh, K.check w _ hkl, h1, h0, K.stays w hkl, MapKept.run_setObj_map _ hh]
  rw [Sem.run_bind, hrun];refine ⟨by rw [hdst]; rfl, fun e2 hr2 => ⟨F, ρ, hr2.writeOb hblk hmem hB hF YbX ?_⟩⟩;have hjl : j < M.length := by omega
  have hkj : M[j].1 = key := by rw [<- (hall j hjs hjl).1, hej]; exact h3
  have hM' : M' = M.set j (key, d) := by
   rcases hp with ⟨i, d0, hi, hu, hM'⟩ | ⟨hno, _⟩
   ·have := hu j M[j] (ZgE hjl) hkj;rw [this]; exact hM'
   ·exact absurd hkj (hno _ (ZgM hjl))
  have hkeep : ∀ {u : Value} {y : D}, Rep F w u y -> Rep F { w with heap := w.heap.setIfInBounds b (.map (es.modify j fun e => { e with key := key, val := a.eval v }) clock) } u y := fun h => h.mono (fun _ h => h) fun c hc => by
   have : b ≠ c := fun h => hF (by rw [h]; exact hc)
   simp [this]
  subst hM';refine ⟨b, _, _, hρ, hB, hF, (MapKept.heap_set hh).1, by rw [List.length_set]; exact hMC.modify _ _ (fun _ => J), fun i hi hi' => ?_⟩;have hc : i < es.size := by simpa using hi
  have hc' : i < M.length := by omega
  rw [Array.getElem_modify, List.getElem_set]
  by_cases hij : j = i
  ·rw [if_pos hij, if_pos hij];exact ⟨J, hkeep r3'⟩
  ·rw [if_neg hij, if_neg hij];exact ⟨(hall i hc hc').1, hkeep (hall i hc hc').2⟩
theorem AOp.lookupX {x ix : Operand} {t k et : TypeId} {id : Nat} {M : List (Value × D)} {key z : Value} {d kd zd : D}  (ho : o.op = .lookup t x ix false) (ht : P.underlying t = some (.map k et)) (K : Maps.Keyed P k) (hz : (P.info? et).bind (·.zero) = some z) (hzd : ∀ F w, Rep F w z zd) (hx : e.ev x = .own id) (hm : (id, Ob.map M) ∈ σ)
 (hi : e.ev ix = .d kd) (hke : DExact kd key) (hg : ∃ l, keyOf P k key = some l) (hgs : ∀ p ∈ M, ∃ l, keyOf P k p.1 = some l) (hd : MGet M key zd d) : AOp P B ops o e σ (.d d) := .value fun F ρ w a hF hr hσ => by
 have h1 := hr x (by rw [ho]; simp [Op.operands]);have h2 := hr ix (by rw [ho]; simp [Op.operands]);rw [hx] at h1;rw [hi] at h2;have hxv := hke _ _ _ (Yag h2);obtain ⟨b, es, clock, hρ, hB, hFb, hh, ⟨hl, _, _⟩, hall⟩ := hσ.ok _ hm;dsimp only at hρ;have hv : a.eval x = .map (some b) := by rw [<- hρ]; generalize a.eval x = u at h1; cases h1; rfl
 have hks : ∀ en ∈ es.toList, ∃ l, keyOf P k en.key = some l := fun en hen => by
  obtain ⟨j, hj⟩ := List.mem_iff_getElem?.1 hen;obtain ⟨p, h1, h2, _⟩ := Yc1 hl hall hj;rw [h2]; exact hgs p (List.mem_of_getElem? h1)
 obtain ⟨kl, hkl⟩ := hg;obtain ⟨ti, hti, hzz⟩ := Option.bind_eq_some_iff.1 hz;have hprog : (program : Sem Program).run P w = .ok P w := rfl
 rcases K.find w hkl es.toList hks with ⟨h3, h4⟩ | ⟨j, en, h3, h4, h5⟩
 ·refine ⟨z, F, w, ?_, ?_, Ext.refl hF⟩
  ·unfold execOp;simp only [ho, hv, hxv, Sem.run_bind];simp [Instr.lookup, run_underlying ht, MapKept.run_getObj_map hh, K.check w _ hkl, h3, zeroValue, typeInfo, hti, hzz, Result.andThen]
  ·rcases hd with ⟨i, hi2, _⟩ | ⟨_, rfl⟩
   ·exfalso;have hil : i < M.length := (ZgS.1 hi2).1;have h6 := (hall i (by omega) hil).1;rw [(ZgS.1 hi2).2] at h6;exact h4 es[i] (by simp) h6
   ·exact .d (hzd _ _)
 ·have hjs : j < es.size := by simpa using (ZgS.1 h4).1
  have hej : es[j] = en := by have := (ZgS.1 h4).2; simpa using this
  have hjl : j < M.length := by omega
  refine ⟨en.val, F, w, ?_, ?_, Ext.refl hF⟩
  ·unfold execOp;simp only [ho, hv, hxv, Sem.run_bind];simp [Instr.lookup, run_underlying ht, MapKept.run_getObj_map hh, K.check w _ hkl, h3, Result.andThen]
  ·have hkj : M[j].1 = key := by rw [<- (hall j hjs hjl).1, hej]; exact h5
   rcases hd with ⟨i, hi2, hu⟩ | ⟨hno, _⟩
   ·have := hu j M[j] (ZgE hjl) hkj;subst this;have h6 := (hall j hjs hjl).2;rw [(ZgS.1 hi2).2, hej] at h6;exact .d h6
   ·exact absurd hkj (hno _ (ZgM hjl))
theorem R0.freezeAny {F : Nat -> Prop} {ρ : Nat -> Value} {a : Act} {w : World} (h : R0 cx F ρ e σ a w) {id : Nat} {ob : Ob} (hm : (id, ob) ∈ σ) : R0 cx (fun b => F b \/ blk (ρ id) = some b) ρ e (Obs.del id σ) a w := by
 have hF2 : ∀ b, (F b \/ blk (ρ id) = some b) -> b < w.heap.size := fun b hb => by
  rcases hb with hb | hb
  ·exact h.lt b hb
  ·exact ((h.obs.ok _ hm).blk_lt hb).2
 refine ⟨h.size, h.defers, hF2, fun b hb => .inl (h.base b hb), fun b hb => ?_, h.below, h.hB, fun u => ?_, ?_, h.up, fun p hp => h.kown p (Obs.mem_del hp).1, h.fixed⟩
 ·rcases hb with hb | hb
  ·exact h.new b hb
  ·exact .inr (h.kown _ hm b hb)
 ·exact RepS.turn (row := none) (h.env u) h.lt (fun g hg => by simp at hg) ⟨rfl, rfl, rfl, ZnR _, fun _ _ _ => rfl⟩ (fun b hb => .inl hb)
 ·refine ⟨fun p hp => ?_, fun p hp q hq => h.obs.apart p (Obs.mem_del hp).1 q (Obs.mem_del hq).1, fun p hp q hq => h.obs.uniq p (Obs.mem_del hp).1 q (Obs.mem_del hq).1⟩;obtain ⟨h1, h2⟩ := Obs.mem_del hp;have h3 := h.obs.ok p h1;have hne : ∀ g, blk (ρ p.1) = some g -> blk (ρ id) ≠ some g := fun g hg => h.obs.apart p h1 _ hm h2 g hg
  exact h3.more h.lt (fun b hb => .inl hb) (fun g hg hf => by
   rcases hf with hf | hf
   ·exact h3.nF hg hf
   ·exact hne g hg hf)
theorem AOps.range {t k et dst idm : Nat} {m : Operand} {M : List (Value × D)} (id : Nat) (hg : o.guard = none) (ht : o.dst = some dst) (hdn : Nat.blt dst cx.N = true) (ho : o.op = .range t m) (hu : cx.P.underlying t = some (.map k et)) (hm : e.ev m = .own idm) (hmem : (idm, Ob.map M) ∈ σ) (hid : Obs.fresh id σ = true)
 (kk : AOps cx ops rest ((e.kill id).put (some dst) (.ptr id 0)) ((id, .iter M []) :: Obs.kill id (Obs.del idm σ)) Q) (hfx : cx.free id = true := by rfl) : AOps cx ops (o :: rest) e σ Q := by
 intro a w ⟨F, ρ, hr⟩;have r1 := Ya1 (e := e) (x := m) (a := a) (fun t _ => hr.env t);rw [hm] at r1;obtain ⟨b, es, clock, hρ, hB, hFb, hh, hMC, hall⟩ := hr.obs.ok _ hmem;dsimp only at hρ;have hv : a.eval m = .map (some b) := by rw [<- hρ]; generalize a.eval m = u at r1; cases r1; rfl
 have hfz := hr.freezeAny hmem;have hbb : blk (ρ idm) = some b := by rw [hρ]; rfl
 have hblt : b < w.heap.size := (ZaS.1 hh).1;have hE : Ext (fun c => F c \/ blk (ρ idm) = some c) w (fun c => F c \/ blk (ρ idm) = some c) (w.alloc (.mapIter (some b) clock #[] clock)) := Ext.of_below hfz.lt ((Below.refl _ _).alloc (ZnR _) _);have hid' : ∀ p ∈ Obs.del idm σ, p.1 ≠ id := fun p hp => Obs.fresh_spec hid p (Obs.mem_del hp).1
 have h2 := hfz.turn (ρ' := fun j => if j = id then .pointer (some ⟨w.heap.size, 0, none⟩) else ρ j) (id := id) (ob := .iter M []) (row := none) (w' := w.alloc (.mapIter (some b) clock #[] clock)) (F' := fun c => F c \/ blk (ρ idm) = some c) (fun j hj => by simp [hj])
  ⟨hE.below.os, hE.below.tape, hE.below.output, hE.below.size, fun k hk _ => hE.below.block k hk⟩ hfx (fun g hg => by simp at hg) (fun b hb => hb) (fun b hb => .inl hb) hE.lt
  ⟨w.heap.size, b, es, clock, #[], clock, by simp, hr.hB, fun hf => by have := hfz.lt _ hf; omega, by simpa using heap_alloc_new w _, .inr hbb, by rw [hE.below.block b hblt]; exact hh, ⟨hMC, rfl, by simp, rfl⟩,
   fun i hi hi' => ⟨(hall i hi hi').1, (hall i hi hi').2.mono (fun c hc => .inl hc) fun c hc => hE.below.block c (hr.lt c hc)⟩⟩
  (fun g hg => by simp [blk] at hg; exact .inr (by omega)) ((id, .iter M []) :: Obs.kill id (Obs.del idm σ)) (fun p hp => by
   cases hp with
   | head => exact .inl rfl
   | tail _ hp => obtain ⟨q, hq, rfl⟩ := Obs.mem_kill hp; exact .inr ⟨q, hq, hid' q hq, rfl⟩)
 have h3 := h2.put (o := ⟨some dst, .ready 0, 0, "", #[], none⟩) (v := .pointer (some ⟨w.heap.size, 0, none⟩)) (s := .ptr id 0) (Ext.refl h2.lt) (.ptr id 0 w.heap.size (by simp [blk])) (by simpa [DstOk, Nat.blt_eq] using hdn);refine wpList_plain hg fun K hK => ?_
 unfold Oper.wp execOp;simp only [ho, hv, Sem.run_bind, run_range_map w t k et b es clock hu hh, Result.andThen_ok, Sem.run_pure];have := kk _ _ ⟨_, _, h3⟩;rw [<- ht] at this;exact hK _ _ this
theorem R0.drewMaybe {F : Nat -> Prop} {ρ : Nat -> Value} {a : Act} {w w1 : World} (h : R0 cx F ρ e σ a w) (hw : w1 = w \/ w1 = w.drew) : R0 cx F ρ e σ a w1 := by
 rcases hw with rfl | rfl
 ·exact h
 ·exact h.drew
theorem iter_of {F : Nat -> Prop} {ρ : Nat -> Value} {a : Act} {w : World} (hr : R0 cx F ρ e σ a w) {it : Operand} {id : Nat} {M : List (Value × D)} {done : List Nat} (hi : e.ev it = .ptr id 0) (hm : (id, Ob.iter M done) ∈ σ) :
 ∃ g b, ∃ es : Array MapEntry, ∃ clock seen, a.eval it = .pointer (some ⟨g, 0, none⟩) /\ ρ id = .pointer (some ⟨g, 0, none⟩) /\ cx.B <= g /\ ¬ F g /\ w.heap[g]? = some (.mapIter (some b) clock seen clock) /\ F b /\ w.heap[b]? = some (.map es clock) /\ IterC M.length done es clock seen clock /\
  (∀ i (h : i < es.size) (h' : i < M.length), es[i].key = M[i].1 /\ Rep F w es[i].val M[i].2) := by
 have r1 := Ya1 (e := e) (x := it) (a := a) (fun t _ => hr.env t);rw [hi] at r1;obtain ⟨g, b, es, clock, seen, c0, hρ, hB, hF, hg, hb, hh, hI, hall⟩ := hr.obs.ok _ hm;dsimp only at hρ;have hl := hI.late;subst hl;exact ⟨g, b, es, c0, seen, YbM r1 (by rw [hρ]; rfl), hρ, hB, hF, hg, hb, hh, hI, hall⟩
theorem seen_mem {n : Nat} {done : List Nat} {es : Array MapEntry} {clock c0 : Nat} {seen : Array Nat} (h : IterC n done es clock seen c0) {i : Nat} (hi : i < es.size) : seen.contains es[i].born = true ↔ i ∈ done := by
 rw [h.seen, Array.contains_iff_mem, List.mem_toArray, ZmM];constructor
 ·rintro ⟨j, hj, he⟩;have hjs : j < es.size := by rw [h.size]; exact h.lt j hj
  rw [Array.getElem?_eq_getElem hjs, Option.map_some, Option.getD_some] at he;have hnd := h.born
  have : j = i := by
   have h1 : j < (es.toList.map (·.born)).length := by simpa using hjs
   have h2 : i < (es.toList.map (·.born)).length := by simpa using hi
   exact (List.getElem_inj hnd (h₀ := h1) (h₁ := h2)).1 (by simpa using he)
  rw [<- this]; exact hj
 ·intro hj;exact ⟨i, hj, by rw [Array.getElem?_eq_getElem hi]; rfl⟩
theorem AOps.next {dst id : Nat} {it : Operand} {M : List (Value × D)} {done : List Nat} (hg : o.guard = none) (ht : o.dst = some dst) (hdn : Nat.blt dst cx.N = true) (ho : o.op = .next it false) (hi : e.ev it = .ptr id 0) (hmem : (id, Ob.iter M done) ∈ σ)
 (k0 : (∀ i, i < M.length -> i ∈ done) -> AOps cx ops rest (e.put (some dst) (.d (.tup [.v (.bool false)]))) σ Q)
 (k1 : ∀ i (h : i < M.length), i ∉ done -> AOps cx ops rest (e.put (some dst) (.d (.tup [.v (.bool true), .v M[i].1, M[i].2]))) (Obs.upd id (.iter M (done ++ [i])) σ) Q) : AOps cx ops (o :: rest) e σ Q := by
 intro a w ⟨F, ρ, hr⟩;obtain ⟨g, b, es, clock, seen, hv, hρ, hB, hF, hgg, hb, hh, hI, hall⟩ := iter_of hr hi hmem;have hl := hI.size;refine wpList_plain hg fun K hK => ?_
 unfold Oper.wp
 rcases run_next_at (P := cx.P) w o.type g b clock clock seen es clock hgg hh hI.old (ZnR _) with ⟨h0, hrun⟩ | ⟨en, hen, w1, hal, hrun⟩
 ·have hx : (execOp a.eval o).run cx.P w = .ok (.value (.tuple #[.bool false])) w := by
   unfold execOp;simp only [ho, hv, Sem.run_bind, hrun, Result.andThen_ok, Sem.run_pure]
  rw [hx]
  have h2 := hr.put (o := ⟨some dst, .ready 0, 0, "", #[], none⟩) (v := .tuple #[.bool false]) (s := .d (.tup [.v (.bool false)])) (Ext.refl hr.lt) (.d (.tup [_] [_] rfl (fun i a b => by
   match i, a with
   | 0, _ => exact .v _))) (by simpa [DstOk, Nat.blt_eq] using hdn)
  have := k0 (fun i hi2 => by
   have h3 : leftOf es seen = #[] := Array.eq_empty_of_size_eq_zero h0;unfold leftOf at h3;rw [Array.filter_eq_empty_iff] at h3;have h4 := h3 es[i] (Array.getElem_mem (by omega));simp only [Bool.not_eq_true', Bool.not_eq_false] at h4
   exact (seen_mem hI (by omega)).1 h4) _ _ ⟨F, ρ, h2⟩
  rw [<- ht] at this;exact hK _ _ this
 ·have hx : (execOp a.eval o).run cx.P w = .ok (.value (.tuple #[.bool true, en.key, en.val])) (ChangeMaps.setBlock w1 g (.mapIter (some b) clock (seen.push en.born) clock)) := by
   unfold execOp;simp only [ho, hv, Sem.run_bind, hrun, Result.andThen_ok, Sem.run_pure]
  rw [hx];unfold leftOf at hen;simp only [Array.toList_filter, List.mem_filter, Bool.not_eq_true'] at hen;obtain ⟨i, hil, rfl⟩ := List.mem_iff_getElem.1 hen.1;have his : i < es.size := by simpa using hil
  have hgi : es.toList[i] = es[i] := by simp
  have hiM : i < M.length := by omega
  have hnd : i ∉ done := fun h => by
   have := (seen_mem hI his).2 h;rw [hgi] at hen;rw [hen.2] at this;cases this
  have hr1 := hr.drewMaybe hal;have hg1 : w1.heap[g]? = some (.mapIter (some b) clock seen clock) := by rcases hal with rfl | rfl <;> exact hgg
  have hh1 : w1.heap[b]? = some (.map es clock) := by rcases hal with rfl | rfl <;> exact hh
  have hbg : b ≠ g := fun h => hF (h ▸ hb)
  have hall1 : ∀ i (h : i < es.size) (h' : i < M.length), es[i].key = M[i].1 /\ Rep F w1 es[i].val M[i].2 := fun i h h' => ⟨(hall i h h').1, (hall i h h').2.mono (fun _ h => h) fun c _ => by rcases hal with rfl | rfl <;> rfl⟩
  have hkeep : ∀ {u : Value} {y : D}, Rep F w1 u y -> Rep F (ChangeMaps.setBlock w1 g (.mapIter (some b) clock (seen.push es[i].born) clock)) u y := fun h => h.mono (fun _ h => h) fun c hc => by
   have : g ≠ c := fun h => hF (by rw [h]; exact hc)
   simp [ChangeMaps.setBlock, this]
  have h2 := hr1.writeOb (ob' := .iter M (done ++ [i])) (g := g) (by rw [hρ]; rfl) hmem hB hF (YbX (o := .mapIter (some b) clock (seen.push es[i].born) clock))
   ⟨g, b, es, clock, seen.push es[i].born, clock, hρ, hB, hF, (MapKept.heap_set hg1).1, hb, by
    have : g ≠ b := fun h => hbg h.symm
    simp [this]; simpa using hh1, ⟨hI.toMapC, by
     rw [hI.seen];simp [Array.getElem?_eq_getElem his], fun j hj => by
     rcases List.mem_append.1 hj with hj | hj
     ·exact hI.lt j hj
     ·rw [ZmS] at hj; omega, rfl⟩, fun j hj hj' => ⟨(hall1 j hj hj').1, hkeep (hall1 j hj hj').2⟩⟩
  have h3 := h2.put (o := ⟨some dst, .ready 0, 0, "", #[], none⟩) (v := .tuple #[.bool true, es[i].key, es[i].val]) (s := .d (.tup [.v (.bool true), .v M[i].1, M[i].2])) (Ext.refl h2.lt) (.d (.tup [_, _, _] [_, _, _] rfl (fun j a b => by
   match j, a with
   | 0, _ => exact .v _
   | 1, _ => rw [show [Value.bool true, es[i].key, es[i].val][1] = M[i].1 from (hall i his hiM).1]; exact .v _
   | 2, _ => exact hkeep (hall1 i his hiM).2))) (by simpa [DstOk, Nat.blt_eq] using hdn)
  have := k1 i hiM hnd _ _ ⟨F, ρ, h3⟩;rw [<- ht] at this;rw [hgi];exact hK _ _ this
theorem AOp.entry {id i : Nat} {it : Operand} {M : List (Value × D)} {done : List Nat} (ho : o.op = .entry it) (hi : e.ev it = .ptr id 0) (hmem : (id, Ob.iter M (done ++ [i])) ∈ σ) (hiM : i < M.length) : AOp P B ops o e σ (.d (.tup [.v M[i].1, M[i].2])) := .value fun F ρ w a hF hr hσ => by
 have r1 := hr it (by rw [ho]; simp [Op.operands]);rw [hi] at r1;obtain ⟨g, b, es, clock, seen, c0, hρ, hB, hFg, hgg, hb, hh, hI, hall⟩ := hσ.ok _ hmem;dsimp only at hρ;have hv := YbM r1 (g := g) (by rw [hρ]; rfl);have hl := hI.size;have his : i < es.size := by omega
 have hs : seen = ((done.map fun i => ((es[i]?).map (·.born)).getD 0).toArray).push es[i].born := by
  rw [hI.seen];simp [Array.getElem?_eq_getElem his]
 have hc := hI.late;subst hc;rw [hs] at hgg
 refine ⟨.tuple #[es[i].key, es[i].val], F, w, ?_, .d (.tup [_, _] [_, _] J (fun j a b => by
  match j, a with
  | 0, _ => rw [show [es[i].key, es[i].val][0] = M[i].1 from (hall i his hiM).1]; exact .v _
  | 1, _ => exact (hall i his hiM).2)), Ext.refl hF⟩
 unfold execOp;simp only [ho, hv, Sem.run_bind, run_entry_at w g b _ _ es _ es[i] hgg hh (by simp) hI.born, Result.andThen_ok, Sem.run_pure]
theorem AOps.nextL {γ : Type} {L : List γ} {f : γ -> Value × D} {dst id : Nat} {it : Operand} {done : List Nat} (hg : o.guard = none) (ht : o.dst = some dst) (hdn : Nat.blt dst cx.N = true) (ho : o.op = .next it false) (hi : e.ev it = .ptr id 0) (hmem : (id, Ob.iter (L.map f) done) ∈ σ)
 (k0 : (∀ i, i < L.length -> i ∈ done) -> AOps cx ops rest (e.put (some dst) (.d (.tup [.v (.bool false)]))) σ Q)
 (k1 : ∀ i (h : i < L.length), i ∉ done -> AOps cx ops rest (e.put (some dst) (.d (.tup [.v (.bool true), .v (f L[i]).1, (f L[i]).2]))) (Obs.upd id (.iter (L.map f) (done ++ [i])) σ) Q) : AOps cx ops (o :: rest) e σ Q :=
 .next hg ht hdn ho hi hmem (fun h => k0 fun i hi => h i (by simpa using hi)) fun i h hn => by
  have := k1 i (by simpa using h) hn;simpa only [ZgP] using this
theorem AOp.entryL {γ : Type} {L : List γ} {f : γ -> Value × D} {id i : Nat} {it : Operand} {done : List Nat} (ho : o.op = .entry it) (hi : e.ev it = .ptr id 0) (hmem : (id, Ob.iter (L.map f) (done ++ [i])) ∈ σ) (hiL : i < L.length) : AOp P B ops o e σ (.d (.tup [.v (f L[i]).1, (f L[i]).2])) := by
 have := AOp.entry (P := P) (B := B) (ops := ops) ho hi hmem (by simpa using hiL);simpa only [ZgP] using this
end
theorem uniq_split {M : List (Value × D)} {key : Value} {d : D} {i : Nat} (h : M[i]? = some (key, d)) (hu : ∀ (j : Nat) (p : Value × D), M[j]? = some p -> p.1 = key -> j = i) :
 M = M.take i ++ (key, d) :: M.drop (i + 1) /\ ∀ p ∈ M.take i ++ M.drop (i + 1), p.1 ≠ key := by
 obtain ⟨hi, he⟩ := ZgS.1 h;refine ⟨?_, fun p hp hk => ?_⟩
 ·rw [<- he, <- List.drop_eq_getElem_cons hi, List.take_append_drop]
 ·rcases List.mem_append.1 hp with hp | hp
  ·obtain ⟨j, hj, rfl⟩ := List.mem_iff_getElem.1 hp;rw [ZlT] at hj;rw [List.getElem_take] at hk;have := hu j _ (ZgE (by omega)) hk;omega
  ·obtain ⟨j, hj, rfl⟩ := List.mem_iff_getElem.1 hp;rw [ZlD] at hj;rw [List.getElem_drop] at hk;have := hu (i + 1 + j) _ (ZgE (by omega)) hk;omega
theorem split_uniq {A C : List (Value × D)} {key : Value} {d : D} (h : ∀ p ∈ A ++ C, p.1 ≠ key) :
 (A ++ (key, d) :: C)[A.length]? = some (key, d) /\ ∀ (j : Nat) (p : Value × D), (A ++ (key, d) :: C)[j]? = some p -> p.1 = key -> j = A.length := by
 refine ⟨by simp, fun j p hp hk => ?_⟩
 rcases Nat.lt_trichotomy j A.length with hj | hj | hj
 ·rw [List.getElem?_append_left hj] at hp;exact absurd hk (h p (List.mem_append_left _ (List.mem_of_getElem? hp)))
 ·exact hj
 ·rw [List.getElem?_append_right (by omega)] at hp;obtain ⟨m, hm⟩ : ∃ m, j - A.length = m + 1 := ⟨j - A.length - 1, by omega⟩;rw [hm, List.getElem?_cons_succ] at hp;exact absurd hk (h p (List.mem_append_right _ (List.mem_of_getElem? hp)))
theorem perm_split {M0 M : List (Value × D)} (hp : M0.Perm M) {key : Value} {d : D} {A C : List (Value × D)} (hM : M = A ++ (key, d) :: C) (h : ∀ p ∈ A ++ C, p.1 ≠ key) :
 ∃ A' C', M0 = A' ++ (key, d) :: C' /\ (∀ p ∈ A' ++ C', p.1 ≠ key) /\ (A' ++ C').Perm (A ++ C) := by
 have hm : (key, d) ∈ M0 := hp.mem_iff.2 (by rw [hM]; simp);obtain ⟨A', C', rfl⟩ := List.append_of_mem hm;subst hM
 have h2 : (A' ++ C').Perm (A ++ C) := by
  have h3 := (List.perm_middle.symm.trans hp).trans List.perm_middle;exact (List.perm_cons _).1 h3
 exact ⟨A', C', J, fun p hq => h p (h2.mem_iff.1 hq), h2⟩
theorem mget_perm {M0 M : List (Value × D)} (hp : M0.Perm M) {key : Value} {z d : D} (h : MGet M key z d) : MGet M0 key z d := by
 rcases h with ⟨i, h1, h2⟩ | ⟨h1, h2⟩
 ·obtain ⟨h3, h4⟩ := uniq_split h1 h2;obtain ⟨A', C', rfl, h5, _⟩ := perm_split hp h3 h4;exact .inl ⟨_, split_uniq h5⟩
 ·exact .inr ⟨fun p hq => h1 p (hp.mem_iff.1 hq), h2⟩
theorem mgetok_perm {M0 M : List (Value × D)} (hp : M0.Perm M) {key : Value} {z d : D} {ok : Bool} (h : YgD M key z d ok) : YgD M0 key z d ok := by
 rcases h with ⟨h0, i, h1, h2⟩ | ⟨h0, h1, h2⟩
 ·obtain ⟨h3, h4⟩ := uniq_split h1 h2;obtain ⟨A', C', rfl, h5, _⟩ := perm_split hp h3 h4;exact .inl ⟨h0, _, split_uniq h5⟩
 ·exact .inr ⟨h0, fun p hq => h1 p (hp.mem_iff.1 hq), h2⟩
theorem R0.freezeMap {cx : Cx} {F : Nat -> Prop} {ρ : Nat -> Value} {e : Env} {σ : Obs} {a : Act} {w : World} (h : R0 cx F ρ e σ a w) {t id : Nat} {M0 M : List (Value × D)} (ht : e t = .own id) (hm : (id, Ob.map M0) ∈ σ) (hpm : M0.Perm M) :
 ∃ F', R0 cx F' ρ (e.put (some t) (.d (.fm M))) (Obs.del id σ) a w := by
 have hF2 : ∀ b, (F b \/ blk (ρ id) = some b) -> b < w.heap.size := fun b hb => by
  rcases hb with hb | hb
  ·exact h.lt b hb
  ·exact ((h.obs.ok _ hm).blk_lt hb).2
 have keep : ∀ {x : Value} {s : S}, RepS F ρ w x s -> RepS (fun b => F b \/ blk (ρ id) = some b) ρ w x s := fun hx =>
  RepS.turn (row := none) hx h.lt (fun g hg => by simp at hg) ⟨rfl, rfl, rfl, ZnR _, fun _ _ _ => rfl⟩ (fun b hb => .inl hb)
 refine ⟨fun b => F b \/ blk (ρ id) = some b, h.size, h.defers, hF2, fun b hb => .inl (h.base b hb), fun b hb => ?_, h.below, h.hB, fun u => ?_, ?_, h.up, fun p hp => h.kown p (Obs.mem_del hp).1, h.fixed⟩
 ·rcases hb with hb | hb
  ·exact h.new b hb
  ·exact .inr (h.kown _ hm b hb)
 ·by_cases hu : u = t
  ·subst hu;rw [Env.put_same];have h1 := h.env u;rw [ht] at h1;obtain ⟨b, es, clock, h2, h3, h4, h5, h6, h7⟩ := h.obs.ok _ hm;dsimp only at h2;have hv : a.tmps.getD u undef = .map (some b) := by rw [<- h2]; generalize a.tmps.getD u undef = x at h1; cases h1; rfl
   rw [hv];exact .d (.fm b clock es M0 M hpm (.inr (by rw [h2]; rfl)) h5 h6 (fun i h1 h2 => (h7 i h1 h2).1) fun i h1 h2 => (h7 i h1 h2).2.mono (fun _ h => .inl h) fun _ _ => rfl)
  ·rw [Env.put_other _ _ _ _ hu];exact keep (h.env u)
 ·refine ⟨fun p hp => ?_, fun p hp q hq => h.obs.apart p (Obs.mem_del hp).1 q (Obs.mem_del hq).1, fun p hp q hq => h.obs.uniq p (Obs.mem_del hp).1 q (Obs.mem_del hq).1⟩;obtain ⟨h1, h2⟩ := Obs.mem_del hp
  exact (h.obs.ok p h1).more h.lt (fun b hb => .inl hb) fun g hg hf => by
   rcases hf with hf | hf
   ·exact (h.obs.ok p h1).nF hg hf
   ·exact h.obs.apart p h1 _ hm h2 g hg hf
theorem AWP.freezeMap {cx : Cx} {c : Code} {e : Env} {σ : Obs} {Q : Post} (t : Nat) {id : Nat} {M : List (Value × D)} (ht : e t = .own id) (hm : (id, Ob.map M) ∈ σ) (k : AWP cx c (e.put (some t) (.d (.fm M))) (Obs.del id σ) Q) : AWP cx c e σ Q :=
 fun a w ⟨_, ρ, hr⟩ => by
  obtain ⟨F', h⟩ := hr.freezeMap ht hm (List.Perm.refl _);exact k a w ⟨F', ρ, h⟩
theorem rep_fm {F : Nat -> Prop} {w : World} {x : Value} {M : List (Value × D)} (h : Rep F w x (.fm M)) :
 ∃ M0 : List (Value × D), M0.Perm M /\ ∃ b clock, ∃ es : Array MapEntry, x = .map (some b) /\ w.heap[b]? = some (.map es clock) /\ es.size = M0.length /\ ∀ i (h1 : i < es.size) (h2 : i < M0.length), es[i].key = M0[i].1 /\ Rep F w es[i].val M0[i].2 := by
 cases h with
 | fm b clock es M0 _ hp hF hh hc hk h => exact ⟨M0, hp, b, clock, es, rfl, hh, hc.size, fun i h1 h2 => ⟨hk i h1 h2, h i h1 h2⟩⟩
theorem rep_fmC {F : Nat -> Prop} {w : World} {x : Value} {M : List (Value × D)} (h : Rep F w x (.fm M)) :
 ∃ M0 : List (Value × D), M0.Perm M /\ ∃ b clock, ∃ es : Array MapEntry, x = .map (some b) /\ F b /\ w.heap[b]? = some (.map es clock) /\ MapC es clock M0.length /\ ∀ i (h1 : i < es.size) (h2 : i < M0.length), es[i].key = M0[i].1 /\ Rep F w es[i].val M0[i].2 := by
 cases h with
 | fm b clock es M0 _ hp hF hh hc hk h => exact ⟨M0, hp, b, clock, es, rfl, hF, hh, hc, fun i h1 h2 => ⟨hk i h1 h2, h i h1 h2⟩⟩
section
variable {P : Program} {B : Nat} {ops : Array Oper} {o : Oper} {e : Env} {σ : Obs}
theorem AOp.lenF {x : Operand} {t k et : TypeId} {M : List (Value × D)} (ho : o.op = .call { callee := .builtin .len, args := #[x], argTypes := #[t] }) (ht : P.underlying t = some (.map k et)) (hx : e.ev x = .d (.fm M)) :
 AOp P B ops o e σ (.d (.v (.int .i64 (M.length : Int)))) := .value fun F ρ w a hF hr hσ => by
 have h1 := hr x (by rw [ho]; simp [Op.operands, Call.operands]);rw [hx] at h1;obtain ⟨M0, hpm, b, clock, es, hv, hh, hl, _⟩ := rep_fm (Yag h1);rw [hpm.length_eq] at hl;refine ⟨.int .i64 (M.length : Int), F, w, ?_, .d (.v _), Ext.refl hF⟩;unfold execOp;simp only [ho, resolve, invoke, builtin, Sem.run_bind, Sem.run_pure, Result.andThen_ok, List.map_toArray, List.map_cons, List.map_nil, hv];simp [Builtin.len_, run_underlying ht, MapKept.run_getObj_map hh, Result.andThen, hl, goInt]
theorem AOp.lookupF {x ix : Operand} {t k et : TypeId} {M : List (Value × D)} {key z : Value} {d kd zd : D} (ho : o.op = .lookup t x ix false) (ht : P.underlying t = some (.map k et)) (K : Maps.Keyed P k) (hz : (P.info? et).bind (·.zero) = some z) (hzd : ∀ F w, Rep F w z zd) (hx : e.ev x = .d (.fm M))
 (hi : e.ev ix = .d kd) (hke : DExact kd key) (hg : ∃ l, keyOf P k key = some l) (hgs : ∀ p ∈ M, ∃ l, keyOf P k p.1 = some l) (hd : MGet M key zd d) : AOp P B ops o e σ (.d d) := .value fun F ρ w a hF hr hσ => by
 have h1 := hr x (by rw [ho]; simp [Op.operands]);have h2 := hr ix (by rw [ho]; simp [Op.operands]);rw [hx] at h1;rw [hi] at h2;have hxv := hke _ _ _ (Yag h2);obtain ⟨M0, hpm, b, clock, es, hv, hh, hl, hall⟩ := rep_fm (Yag h1);replace hgs := fun p hp => hgs p (hpm.mem_iff.1 hp)
 replace hd := mget_perm hpm hd
 have hks : ∀ en ∈ es.toList, ∃ l, keyOf P k en.key = some l := fun en hen => by
  obtain ⟨j, hj⟩ := List.mem_iff_getElem?.1 hen;obtain ⟨p, h1, h2, _⟩ := Yc1 hl hall hj;rw [h2]; exact hgs p (List.mem_of_getElem? h1)
 obtain ⟨kl, hkl⟩ := hg;obtain ⟨ti, hti, hzz⟩ := Option.bind_eq_some_iff.1 hz;have hprog : (program : Sem Program).run P w = .ok P w := rfl
 rcases K.find w hkl es.toList hks with ⟨h3, h4⟩ | ⟨j, en, h3, h4, h5⟩
 ·refine ⟨z, F, w, ?_, ?_, Ext.refl hF⟩
  ·unfold execOp;simp only [ho, hv, hxv, Sem.run_bind];simp [Instr.lookup, run_underlying ht, MapKept.run_getObj_map hh, K.check w _ hkl, h3, zeroValue, typeInfo, hti, hzz, Result.andThen]
  ·rcases hd with ⟨i, hi2, _⟩ | ⟨_, rfl⟩
   ·exfalso;have hil : i < M0.length := (ZgS.1 hi2).1;have h6 := (hall i (by omega) hil).1;rw [(ZgS.1 hi2).2] at h6;exact h4 es[i] (by simp) h6
   ·exact .d (hzd _ _)
 ·have hjs : j < es.size := by simpa using (ZgS.1 h4).1
  have hej : es[j] = en := by have := (ZgS.1 h4).2; simpa using this
  have hjl : j < M0.length := by omega
  refine ⟨en.val, F, w, ?_, ?_, Ext.refl hF⟩
  ·unfold execOp;simp only [ho, hv, hxv, Sem.run_bind];simp [Instr.lookup, run_underlying ht, MapKept.run_getObj_map hh, K.check w _ hkl, h3, Result.andThen]
  ·have hkj : M0[j].1 = key := by rw [<- (hall j hjs hjl).1, hej]; exact h5
   rcases hd with ⟨i, hi2, hu⟩ | ⟨hno, _⟩
   ·have := hu j M0[j] (ZgE hjl) hkj;subst this;have h6 := (hall j hjs hjl).2;rw [(ZgS.1 hi2).2, hej] at h6;exact .d h6
   ·exact absurd hkj (hno _ (ZgM hjl))
theorem AOp.lookupOkF {x ix : Operand} {t k et : TypeId} {M : List (Value × D)} {key z : Value} {d kd zd : D} (ho : o.op = .lookup t x ix true) (ht : P.underlying t = some (.map k et)) (K : Maps.Keyed P k) (hz : (P.info? et).bind (·.zero) = some z) (hzd : ∀ F w, Rep F w z zd) (hx : e.ev x = .d (.fm M))
 (hi : e.ev ix = .d kd) (hke : DExact kd key) (hg : ∃ l, keyOf P k key = some l) (hgs : ∀ p ∈ M, ∃ l, keyOf P k p.1 = some l) (ok : Bool) (hd : YgD M key zd d ok) : AOp P B ops o e σ (.d (.tup [d, .v (.bool ok)])) := .value fun F ρ w a hF hr hσ => by
 have h1 := hr x (by rw [ho]; simp [Op.operands]);have h2 := hr ix (by rw [ho]; simp [Op.operands]);rw [hx] at h1;rw [hi] at h2;have hxv := hke _ _ _ (Yag h2);obtain ⟨M0, hpm, b, clock, es, hv, hh, hl, hall⟩ := rep_fm (Yag h1);replace hgs := fun p hp => hgs p (hpm.mem_iff.1 hp)
 replace hd := mgetok_perm hpm hd
 have hks : ∀ en ∈ es.toList, ∃ l, keyOf P k en.key = some l := fun en hen => by
  obtain ⟨j, hj⟩ := List.mem_iff_getElem?.1 hen;obtain ⟨p, h1, h2, _⟩ := Yc1 hl hall hj;rw [h2]; exact hgs p (List.mem_of_getElem? h1)
 obtain ⟨kl, hkl⟩ := hg;obtain ⟨ti, hti, hzz⟩ := Option.bind_eq_some_iff.1 hz;have hprog : (program : Sem Program).run P w = .ok P w := rfl
 rcases K.find w hkl es.toList hks with ⟨h3, h4⟩ | ⟨j, en, h3, h4, h5⟩
 ·refine ⟨.tuple #[z, .bool false], F, w, ?_, ?_, Ext.refl hF⟩
  ·unfold execOp;simp only [ho, hv, hxv, Sem.run_bind];simp [Instr.lookup, run_underlying ht, MapKept.run_getObj_map hh, K.check w _ hkl, h3, zeroValue, typeInfo, hti, hzz, Result.andThen]
  ·rcases hd with ⟨_, i, hi2, _⟩ | ⟨hok, _, rfl⟩
   ·exfalso;have hil : i < M0.length := (ZgS.1 hi2).1;have h6 := (hall i (by omega) hil).1;rw [(ZgS.1 hi2).2] at h6;exact h4 es[i] (by simp) h6
   ·subst hok
    exact .d (.tup [_, _] [_, _] J (fun i a b => by
     match i, a with
     | 0, _ => exact hzd _ _
     | 1, _ => exact .v _))
 ·have hjs : j < es.size := by simpa using (ZgS.1 h4).1
  have hej : es[j] = en := by have := (ZgS.1 h4).2; simpa using this
  have hjl : j < M0.length := by omega
  refine ⟨.tuple #[en.val, .bool true], F, w, ?_, ?_, Ext.refl hF⟩
  ·unfold execOp;simp only [ho, hv, hxv, Sem.run_bind];simp [Instr.lookup, run_underlying ht, MapKept.run_getObj_map hh, K.check w _ hkl, h3, Result.andThen]
  ·have hkj : M0[j].1 = key := by rw [<- (hall j hjs hjl).1, hej]; exact h5
   rcases hd with ⟨hok, i, hi2, hu⟩ | ⟨_, hno, _⟩
   ·have := hu j M0[j] (ZgE hjl) hkj;subst this;have h6 := (hall j hjs hjl).2;rw [(ZgS.1 hi2).2, hej] at h6;subst hok
    exact .d (.tup [_, _] [_, _] J (fun i a b => by
     match i, a with
     | 0, _ => exact h6
     | 1, _ => exact .v _))
   ·exact absurd hkj (hno _ (ZgM hjl))
end
end
section
open Go.RowKit
namespace Ty
theorem et_34 : ElemTy Tryz.prog 34 3 1 8 (.int .i64 0) := ⟨by kernel_rfl, by kernel_rfl, by kernel_rfl, by decide⟩
theorem sc_3 : Scal Tryz.prog 3 := .of (by kernel_rfl)
end Ty
open Ty
open Go.Lib
theorem YaU {α : Type} {l : List α} {f : α -> List D} {k : Nat} (h : k < l.length) : (l.map f)[k]? = some (f l[k]) := by simp [h]
def ffst (f : Nat -> Int) : Nat -> Int
 | 0 => 0
 | n + 1 => if ffst f n = 0 then f n else ffst f n
theorem YaL {f : Nat -> Int} {k : Nat} (h : ffst f k = 0) (h2 : f k = 0) : ffst f (k + 1) = 0 := by simp [ffst, h, h2]
theorem Yau {f : Nat -> Int} {k : Nat} (h : ffst f k = 0) (h2 : f k ≠ 0) : ∀ n, k < n -> ffst f n = f k
 | 0, hn => by omega
 | n + 1, hn => by
  unfold ffst
  by_cases hk : k = n
  ·subst hk; rw [if_pos h]
  ·rw [Yau h h2 n (by omega), if_neg h2]
theorem Ya5 {f : Nat -> Int} : ∀ n, ffst f n = 0 -> ∀ k, k < n -> f k = 0
 | 0, _, k, hk => by omega
 | n + 1, h, k, hk => by
  unfold ffst at h
  by_cases hn : ffst f n = 0
  ·rw [if_pos hn] at h
   by_cases hk2 : k = n
   ·rw [hk2]; exact h
   ·exact Ya5 n hn k (by omega)
  ·rw [if_neg hn] at h; exact absurd h hn
def prB (c : UInt8) : Bool := decide (32 <= c.toNat) && decide (c.toNat <= 126)
def titleB (l : List UInt8) : Bool := decide (1 <= l.length) && decide (l.length <= 100) && !(decide (at0 l 0 = 32)) && !(decide (at0 l (l.length - 1) = 32)) && !(Lib.contains l [32, 32]) && l.all prB
def YaZ (s : ByteArray) : Bool := titleB s.data.toList
def MaxT (w : World) : Prop := ∃ m, w.cell? ⟨Tryz.l144_ren.g 1, 0, none⟩ = some (.int .i64 m)
theorem Yam : Stays MaxT := fun w w' k ⟨m, hm⟩ => by
 refine ⟨m, ?_⟩;have hlt := World.block_lt_of_cell? _ _ hm;dsimp only at hlt;rw [World.cell?_of_block (k.block _ hlt (fun h => by have h2 : w.heap.size <= Tryz.l144_ren.g 1 := h; omega))];exact hm
theorem c_contains (s p : ByteArray) (hs : s.size < 4294967281) : ACallT Tryz.prog MaxT 159 [.v (.string s), .v (.string p)] (.v (.bool (Lib.contains s.data.toList p.data.toList))) :=
 ⟨.of Tryz.func159 (by kernel_rfl) rfl, fun F w vs hT hF hv => by
  rw [repL_v (us := [.string s, .string p]) hv];obtain ⟨m, hm⟩ := hT;have h := Any.strings_Contains { Tryz.l144 with } s p m w hs hm;change Calls Tryz.prog 159 #[.string s, .string p] w _ at h;refine h.mono fun e w' ⟨h1, h2⟩ => ?_
  subst h2
  exact ⟨_, F, h1, .v _, Ext.refl hF⟩⟩
theorem c_contains2 (s : ByteArray) (hs : s.size <= 100) : ACallT Tryz.prog MaxT 159 [.v (.string s), .v (.string ⟨#[32, 32]⟩)] (.v (.bool (Lib.contains s.data.toList [32, 32]))) := c_contains s ⟨#[32, 32]⟩ (by omega)
theorem at0_ba {s : ByteArray} {i : Nat} (h : i < s.data.toList.length) : s.data.toList[i]? = some (at0 s.data.toList i) := by rw [YdW h, ZgE h]
theorem all_nx {p : UInt8 -> Bool} {l : List UInt8} {k : Nat} (hk : k < l.length) (h : ∀ c ∈ l.take k, p c = true) (h2 : p (at0 l k) = true) : ∀ c ∈ l.take (k + 1), p c = true := fun c hc => by
 rw [List.take_add_one, ZgE hk, Option.toList_some, List.mem_append, ZmS] at hc
 rcases hc with hc | hc
 ·exact h c hc
 ·rw [hc, <- YdW hk]; exact h2
theorem all_end {p : UInt8 -> Bool} {l : List UInt8} {k : Nat} (hk : l.length <= k) (h : ∀ c ∈ l.take k, p c = true) : l.all p = true := by
 rw [List.take_of_length_le hk] at h;rw [List.all_eq_true]; exact h
theorem Ydw {p : UInt8 -> Bool} {l : List UInt8} {k : Nat} (hk : k < l.length) (h : ¬ p (at0 l k) = true) : l.all p = false := by
 cases ha : l.all p with
 | false => rfl
 | true => exact absurd (by rw [YdW hk]; exact List.all_eq_true.1 ha _ (ZgM hk)) h
theorem YeC {l : List UInt8} (h : ¬ (1 <= l.length /\ l.length <= 100 /\ at0 l 0 ≠ 32 /\ at0 l (l.length - 1) ≠ 32 /\ Lib.contains l [32, 32] = false /\ l.all prB = true)) : titleB l = false := by
 rw [Bool.eq_false_iff];intro hb;unfold titleB at hb;simp only [ZbA, decide_eq_true_eq, Bool.not_eq_true', decide_eq_false_iff_not] at hb;exact h ⟨hb.1.1.1.1.1, hb.1.1.1.1.2, hb.1.1.1.2, hb.1.1.2, hb.1.2, hb.2⟩
theorem tt_yes {l : List UInt8} (h1 : 1 <= l.length) (h2 : l.length <= 100) (h3 : at0 l 0 ≠ 32) (h4 : at0 l (l.length - 1) ≠ 32) (h5 : Lib.contains l [32, 32] = false) (h6 : l.all prB = true) : titleB l = true := by
 unfold titleB;simp only [h1, h2, h3, h4, h5, h6, decide_true, decide_false, Bool.not_false, Bool.and_true]
theorem u32' {x : UInt8} (h : (x.toNat : Int) = 32) : x = 32 := UInt8.toNat_inj.1 (by show x.toNat = 32; omega)
theorem u32n {x : UInt8} (h : ¬ (x.toNat : Int) = 32) : x ≠ 32 := fun e => h (by rw [e]; rfl)
theorem prB_iff {c : UInt8} : prB c = true ↔ 32 <= c.toNat /\ c.toNat <= 126 := by unfold prB; simp
theorem c_pTitle (s : ByteArray) (hs : s.size <= 9223372036854775807) : ACallT Tryz.prog MaxT 99 [.v (.string s)] (.v (.bool (YaZ s))) := by
 refine Ycr (n := 45) (ds' := [.v (.bool (YaZ s))]) Tryz.func99 J (by kernel_rfl) J [2] J J ?_;intro B w0 F0 hT;have hsz := Lib.size_eq s;refine .sr (.aN ?_);refine .seq (.sr (.mA ?_));refine .sA (.lenStr J st_9 J) (.sA (.lss J J J) ?_);refine .mA ?_;refine .sT 7 J (fun g1 => ?_) fun g1 => ?_
 ·have HR : YaZ s = false := YeC (fun hh => by omega);refine .pB ?_;refine .pA ?_;refine .sA (.pickT J J J) ?_;refine .mA ?_;refine .pB ?_;refine .pA ?_;refine .sA (.pickT J J J) ?_;refine .mA ?_;refine .pB ?_;refine .pB ?_;refine .pB ?_;refine .sA (.pickT J J J) ?_;refine .mA ?_;refine .pB ?_;refine .sA (.pickT J J J) (.nil ?_);refine .cond J (fun _ => ?_) (fun h => nomatch h);refine .sr (.aN ?_);refine .ret (rDq J ?_)
  all_goals (first | rw [HR] | rw [show YaZ s = false from YeC (fun hh => by rw [Ydw hlt (fun hc => by have := prB_iff.1 hc; omega)] at hh; exact absurd hh.2.2.2.2.2 (by decide))])
 have hp : 0 < s.size := by omega
 refine .sG (.moveD J J) ?_;refine .sG (.lenStr J st_9 J) ?_;refine .sG (.gtr J J J) ?_;refine .sA (.pickF J J J) ?_;refine .mA ?_;refine .sT 12 J (fun g2 => ?_) fun g2 => ?_
 ·have HR : YaZ s = false := YeC (fun hh => by omega);refine .pB ?_;refine .pA ?_;refine .sA (.pickT J J J) ?_;refine .mA ?_;refine .pB ?_;refine .pB ?_;refine .pB ?_;refine .sA (.pickT J J J) ?_;refine .mA ?_;refine .pB ?_;refine .sA (.pickT J J J) (.nil ?_);refine .cond J (fun _ => ?_) (fun h => nomatch h);refine .sr (.aN ?_);refine .ret (rDq J ?_)
  all_goals (first | rw [HR] | rw [show YaZ s = false from YeC (fun hh => by rw [Ydw hlt (fun hc => by have := prB_iff.1 hc; omega)] at hh; exact absurd hh.2.2.2.2.2 (by decide))])
 have hq : s.size <= 100 := by omega
 refine .sG (.moveD J J) ?_;refine .sG (.indexStr J st_9 J J 0 J (at0_ba (by omega))) ?_;refine .sG (.eql J J J) ?_;refine .sA (.pickF J J J) ?_;refine .mA ?_;refine .sT 17 J (fun g3 => ?_) fun g3 => ?_
 ·have HR : YaZ s = false := YeC (fun hh => hh.2.2.1 (u32' g3));refine .pB ?_;refine .pB ?_;refine .pB ?_;refine .sA (.pickT J J J) ?_;refine .mA ?_;refine .pB ?_;refine .sA (.pickT J J J) (.nil ?_);refine .cond J (fun _ => ?_) (fun h => nomatch h);refine .sr (.aN ?_);refine .ret (rDq J ?_)
  all_goals (first | rw [HR] | rw [show YaZ s = false from YeC (fun hh => by rw [Ydw hlt (fun hc => by have := prB_iff.1 hc; omega)] at hh; exact absurd hh.2.2.2.2.2 (by decide))])
 have hf := u32n g3;refine .sG (.moveD J J) ?_;refine .sG (.moveD J J) ?_;refine .sG (.lenStr J st_9 J) ?_;refine .sG (.sub64 J J J) ?_;refine .sG (.indexStr J st_9 J J (s.data.toList.length - 1) (by omega) (at0_ba (by omega))) ?_;refine .sG (.eql J J J) ?_;refine .sA (.pickF J J J) ?_;refine .mA ?_;refine .sT 25 J (fun g4 => ?_) fun g4 => ?_
 ·have HR : YaZ s = false := YeC (fun hh => hh.2.2.2.1 (u32' g4));refine .pB ?_;refine .sA (.pickT J J J) (.nil ?_);refine .cond J (fun _ => ?_) (fun h => nomatch h);refine .sr (.aN ?_);refine .ret (rDq J ?_)
  all_goals (first | rw [HR] | rw [show YaZ s = false from YeC (fun hh => by rw [Ydw hlt (fun hc => by have := prB_iff.1 hc; omega)] at hh; exact absurd hh.2.2.2.2.2 (by decide))])
 have hl := u32n g4;refine .sG (.moveD J J) ?_
 -- wants the world
 refine .callT ⟨25, J, .inl ⟨_, J, J⟩⟩ J J hT Yam J (.cons (.rfl' J) (.cons (.rfl' J) .nil)) (c_contains2 s hq) ?_;refine .sA (.pickF J J J) (.nil ?_);refine .cond J (fun h5 => ?_) (fun h5 => ?_)
 ·skip;have HR : YaZ s = false := YeC (fun hh => by rw [hh.2.2.2.2.1] at h5; cases h5);refine .sr (.aN ?_);refine .ret (rDq J ?_)
  all_goals (first | rw [HR] | rw [show YaZ s = false from YeC (fun hh => by rw [Ydw hlt (fun hc => by have := prB_iff.1 hc; omega)] at hh; exact absurd hh.2.2.2.2.2 (by decide))])
 have hcn := h5;refine .skip (.seq (.sr (.mA ?_)));refine .sA (.lenStr J st_9 J) ?_;refine .mN ?_;refine .block (.loop (G := Nat) (fun k => Env.of [(31, .iv k), (30, .iv s.size), (0, .d (.v (.string s)))]) (fun k => []) (fun k => k <= s.size /\ ∀ c ∈ s.data.toList.take k, prB c = true) (fun k => s.size - k) 0 ⟨ZnZ _, fun c h => by simp at h⟩ (Sub.less ⟨U, U, U, trivial⟩ (fun _ h => h)) ?_);intro k hk;refine .sr (.sA (.lss J J J) (.nil ?_));refine .seq (.cT J (fun h6 => ?_) fun h6 => ?_)
 ·have hlt : k < s.data.toList.length := by omega
  refine .skip (.seq (.block (.sr (.ma (.nil ?_)))));refine .sr (.mm ?_);refine .sA (.indexStr J st_9 J J k J (at0_ba hlt)) (.sA (.lss J J J) ?_);refine .mA ?_;refine .sT 38 J (fun g7 => ?_) fun g7 => ?_
  ·refine .pB ?_;refine .pB ?_;refine .sA (.pickT J J J) (.nil ?_);refine .cond J (fun _ => ?_) (fun h => nomatch h);refine .sr (.aN ?_);refine .ret (rDq J ?_)
   all_goals (first | rw [HR] | rw [show YaZ s = false from YeC (fun hh => by rw [Ydw hlt (fun hc => by have := prB_iff.1 hc; omega)] at hh; exact absurd hh.2.2.2.2.2 (by decide))])
  refine .sG (.moveD J J) ?_;refine .sG (.moveD J J) ?_;refine .sG (.indexStr J st_9 J J k J (at0_ba hlt)) ?_;refine .sG (.gtr J J J) ?_;refine .sA (.pickF J J J) (.nil ?_);refine .cT J (fun h8 => ?_) fun h8 => ?_
  ·refine .sr (.aN ?_);refine .ret (rDq J ?_)
   all_goals (first | rw [HR] | rw [show YaZ s = false from YeC (fun hh => by rw [Ydw hlt (fun hc => by have := prB_iff.1 hc; omega)] at hh; exact absurd hh.2.2.2.2.2 (by decide))])
  refine .skip (.region (.sA (.add64 J J J) ?_));refine .mN ?_;refine ⟨k + 1, ⟨by omega, all_nx hlt hk.2 (prB_iff.2 (by omega))⟩, (by dsimp only; omega), Sub.less ⟨U, U, U, trivial⟩ (fun _ h => h)⟩
 have HR : YaZ s = true := tt_yes (by omega) (by omega) hf hl hcn (all_end (by omega) hk.2);refine .exit (.sr (.aN ?_));refine .ret (rDq J ?_)
 all_goals (first | rw [HR] | rw [show YaZ s = false from YeC (fun hh => by rw [Ydw hlt (fun hc => by have := prB_iff.1 hc; omega)] at hh; exact absurd hh.2.2.2.2.2 (by decide))])
def Ygi {α : Type} (p : α -> Bool) (l : List α) : Int := if l.any p then (l.findIdx p : Int) else -1
theorem idxBy_yes {α : Type} {p : α -> Bool} {l : List α} {k : Nat} (hk : k < l.length) (h : ∀ c ∈ l.take k, p c = false) (h2 : p l[k] = true) : Ygi p l = k := by
 have hm : l.any p = true := List.any_eq_true.2 ⟨_, ZgM hk, h2⟩;unfold Ygi;rw [if_pos hm];congr 1;rw [List.findIdx_eq hk];refine ⟨h2, fun j hj => ?_⟩;have := h l[j] (List.mem_take_iff_getElem.2 ⟨j, by omega, rfl⟩);simpa using this
theorem idxBy_no {α : Type} {p : α -> Bool} {l : List α} (h : ∀ c ∈ l.take l.length, p c = false) : Ygi p l = -1 := by
 unfold Ygi;rw [if_neg];intro hx;obtain ⟨c, hc, hp⟩ := List.any_eq_true.1 hx;have := h c (by rw [List.take_length]; exact hc);rw [hp] at this; simp at this
theorem idxBy_some {α : Type} {p : α -> Bool} {l : List α} (h : 0 <= Ygi p l) : ∃ k, ∃ hk : k < l.length, Ygi p l = (k : Int) /\ p l[k] = true := by
 unfold Ygi at h ⊢
 by_cases hm : l.any p = true
 ·rw [if_pos hm]
  have hlt : l.findIdx p < l.length := by
   rw [List.findIdx_lt_length];obtain ⟨c, hc, hp⟩ := List.any_eq_true.1 hm;exact ⟨c, hc, hp⟩
  exact ⟨_, hlt, J, List.findIdx_getElem⟩
 ·rw [if_neg hm] at h; omega
theorem take_false' {α : Type} {p : α -> Bool} {l : List α} {k : Nat} (hk : k < l.length) (h : ∀ c ∈ l.take k, p c = false) (h2 : p l[k] = false) : ∀ c ∈ l.take (k + 1), p c = false := by
 intro c hc;rw [List.take_add_one, ZgE hk] at hc;simp only [Option.toList_some, List.mem_append, ZmS] at hc
 rcases hc with h1 | h1
 ·exact h c h1
 ·rw [h1]; exact h2
theorem idx_int {l : List Int} {s : Int} : Ygi (fun x => decide (s = x)) l ≥ 0 ↔ s ∈ l := by
 constructor
 ·intro h;obtain ⟨k, hk, _, hp⟩ := idxBy_some h;rw [dcT hp]; exact ZgM hk
 ·intro h;unfold Ygi;rw [if_pos (List.any_eq_true.2 ⟨s, h, by simp⟩)];omega
theorem c_indexInt (l : List Int) (s : Int) : Yad Tryz.prog 111 [.sl (l.map intD), .v (.int .i64 s)] (.v (.int .i64 (Ygi (fun x => decide (s = x)) l))) := by
 refine Yab (n := 19) (ds' := [.v (.int .i64 (Ygi (fun x => decide (s = x)) l))]) Tryz.func111 J (by kernel_rfl) J [4] J J ?_;intro B w0 F0 fr;refine .bound 0 J (fun hbd0 => ?_);rw [ZlM] at hbd0;refine .sr (.aN ?_);refine .seq (.sr (.mA ?_));refine .sA (.lenSl J et_34.ht J) ?_;refine .mN ?_;refine .block (.loop (G := Nat) (fun k => Env.of [(8, .iv k), (0, .d (.sl (l.map intD))), (1, .d (.v (.int .i64 s))), (7, .iv (l.map intD).length)]) (fun k => []) (fun k => k <= l.length /\ ∀ c ∈ l.take k, decide (s = c) = false) (fun k => l.length - k) 0 ⟨ZnZ _, fun c h => by simp at h⟩ (Sub.less ⟨U, U, U, U, trivial⟩ (fun _ h => h)) ?_);intro k hk;refine .sr (.sA (.lss J J J) (.nil ?_));refine .seq (.cT J (fun h1 => ?_) fun h1 => ?_)
 ·rw [ZlM] at h1;have hlt : k < l.length := by omega
  refine .skip (.seq (.block (.sr (.ma (.nil ?_)))));refine .sr (.mm ?_);refine .mA ?_;refine .sA (.indexAddr J et_34 J J k J (at_list hlt) J) (.sA (.load J sc_3 J) ?_);refine .sA (.eql J J J) (.nil ?_);refine .cT J (fun h2 => ?_) fun h2 => ?_
  ·rw [idxBy_yes hlt hk.2 (decide_eq_true h2)];refine .sr (.ma (.nil ?_));refine .ret (rDq J ?_)
   all_goals (rfl)
  have hT := take_false' (p := fun x : Int => decide (s = x)) hlt hk.2 (decide_eq_false h2);refine .skip (.region (.sA (.add64 J J J) ?_));refine .mN ?_;refine ⟨k + 1, ⟨by omega, hT⟩, (by dsimp only; omega), Sub.less ⟨U, U, U, U, trivial⟩ (fun _ h => h)⟩
 rw [ZlM] at h1;obtain rfl : k = l.length := by omega
 rw [idxBy_no hk.2];refine .exit (.sr (.aN ?_));refine .ret (rDq J ?_)
 all_goals (rfl)
theorem Yey (l : List Int) (s : Int) : Yad Tryz.prog 60 [.sl (l.map intD), .v (.int .i64 s)] (.v (.bool (decide (s ∈ l)))) := by
 refine Yab (n := 9) (ds' := [.v (.bool (decide (s ∈ l)))]) Tryz.func60 J (by kernel_rfl) J [4] J J ?_;intro B w0 F0 fr;refine .sr (.aN ?_);refine .sr (.mm ?_);refine .sA (.call J (.cons (.rfl' J) (.cons (.rfl' J) .nil)) (c_indexInt _ _)) (.sA (.geq J J J) ?_);refine .aN ?_;refine .ret (rDq J ?_)
 all_goals (rw [decide_eq_decide.2 idx_int])
section
variable {κ β : Type} [DecidableEq κ]
def hasG (L : List (κ × β)) (k : κ) : Bool := L.any fun p => decide (p.1 = k)
def Yaa (L : List (κ × β)) (k : κ) : Option β := (L.find? fun p => decide (p.1 = k)).map (·.2)
def putG (L : List (κ × β)) (k : κ) (v : β) : List (κ × β) := if hasG L k = true then L.map (fun p => if p.1 = k then (k, v) else p) else L ++ [(k, v)]
def NkG (L : List (κ × β)) : Prop := L.Pairwise fun p q => p.1 ≠ q.1
theorem hasG_iff {L : List (κ × β)} {k : κ} : hasG L k = true ↔ ∃ p ∈ L, p.1 = k := by
 unfold hasG;rw [List.any_eq_true];constructor
 ·rintro ⟨p, h1, h2⟩; exact ⟨p, h1, dcT h2⟩
 ·rintro ⟨p, h1, h2⟩; exact ⟨p, h1, decide_eq_true h2⟩
theorem Ydj {L : List (κ × β)} (h : NkG L) (k : κ) (v : β) : NkG (putG L k v) := by
 unfold putG
 by_cases hh : hasG L k = true
 ·rw [if_pos hh];unfold NkG;rw [List.pairwise_map];refine h.imp fun {p q} hpq => ?_
  by_cases h1 : p.1 = k <;> by_cases h2 : q.1 = k
  ·exact absurd (h1.trans h2.symm) hpq
  ·rw [if_pos h1, if_neg h2]; exact fun e => h2 e.symm
  ·rw [if_neg h1, if_pos h2]; exact h1
  ·rw [if_neg h1, if_neg h2]; exact hpq
 ·rw [if_neg hh];refine List.pairwise_append.2 ⟨h, by simp, fun p hp q hq => ?_⟩;rw [ZmS] at hq;subst hq;exact fun e => hh (hasG_iff.2 ⟨p, hp, e⟩)
theorem Yah (p : κ × β) (L : List (κ × β)) (k : κ) : Yaa (p :: L) k = if p.1 = k then some p.2 else Yaa L k := by
 unfold Yaa;rw [List.find?_cons]
 by_cases h : p.1 = k <;> simp [h]
theorem Ybb (k : κ) : Yaa ([] : List (κ × β)) k = none := rfl
theorem findG_append (L M : List (κ × β)) (k : κ) : Yaa (L ++ M) k = match Yaa L k with | some v => some v | none => Yaa M k := by
 induction L with
 | nil => rfl
 | cons p L ih =>
  rw [List.cons_append, Yah, Yah, ih]
  by_cases h : p.1 = k <;> simp [h]
theorem findG_none {L : List (κ × β)} {k : κ} : Yaa L k = none ↔ hasG L k = false := by
 induction L with
 | nil => simp [Ybb, hasG]
 | cons p L ih =>
  rw [Yah];have : hasG (p :: L) k = (decide (p.1 = k) || hasG L k) := by simp [hasG]
  rw [this]
  by_cases h : p.1 = k <;> simp [h, ih]
theorem findG_map (L : List (κ × β)) (k k' : κ) (v : β) : Yaa (L.map fun p => if p.1 = k then (k, v) else p) k' = if k' = k then (if hasG L k = true then some v else none) else Yaa L k' := by
 induction L with
 | nil => by_cases h : k' = k <;> simp [h, Ybb, hasG]
 | cons p L ih =>
  rw [List.map_cons, Yah, Yah, ih];have hh : hasG (p :: L) k = (decide (p.1 = k) || hasG L k) := by simp [hasG]
  rw [hh]
  by_cases h : p.1 = k
  ·rw [if_pos h]
   by_cases h2 : k' = k
   ·subst h2; simp [h]
   ·have h3 : ¬ k = k' := fun e => h2 e.symm
    have h4 : ¬ p.1 = k' := fun e => h2 (e.symm.trans h)
    simp [h2, h3, h4]
  ·rw [if_neg h]
   by_cases h2 : k' = k
   ·subst h2; simp [h]
   ·simp [h2]
theorem Ybg (L : List (κ × β)) (k : κ) (v : β) (k' : κ) : Yaa (putG L k v) k' = if k' = k then some v else Yaa L k' := by
 unfold putG
 by_cases hh : hasG L k = true
 ·rw [if_pos hh, findG_map, if_pos hh]
 ·rw [if_neg hh, findG_append, Yah, Ybb]
  by_cases h : k' = k
  ·subst h;rw [findG_none.2 (by simpa using hh)]
   try simp
  ·have h3 : ¬ k = k' := fun e => h e.symm
   rw [if_neg h, if_neg h3];cases Yaa L k' <;> rfl
theorem YaR {L : List (κ × β)} (h : NkG L) (p : κ × β) : p ∈ L ↔ Yaa L p.1 = some p.2 := by
 induction L with
 | nil => simp [Ybb]
 | cons q L ih =>
  obtain ⟨h1, h2⟩ := List.pairwise_cons.1 h;rw [Yah, List.mem_cons]
  by_cases hq : q.1 = p.1
  ·rw [if_pos hq];constructor
   ·rintro (rfl | hp)
    ·rfl
    ·exact absurd hq (h1 p hp)
   ·intro e;exact .inl (Prod.ext hq.symm (Option.some.inj e).symm)
  ·rw [if_neg hq, <- ih h2];constructor
   ·rintro (rfl | hp)
    ·exact absurd J hq
    ·exact hp
   ·exact .inr
theorem putG_mem {L : List (κ × β)} {k : κ} {v : β} {p : κ × β} (h : p ∈ putG L k v) : p = (k, v) \/ p ∈ L := by
 unfold putG at h
 by_cases hh : hasG L k = true
 ·rw [if_pos hh] at h;obtain ⟨q, hq, rfl⟩ := ZmM.1 h
  by_cases h2 : q.1 = k
  ·rw [if_pos h2]; exact .inl rfl
  ·rw [if_neg h2]; exact .inr hq
 ·rw [if_neg hh, List.mem_append, ZmS] at h;exact h.elim .inr .inl
theorem Yeo (L : List (κ × β)) (k : κ) (v : β) : (putG L k v).length <= L.length + 1 := by
 unfold putG;split <;> simp
end
section
variable {κ β : Type} [DecidableEq κ] (kv : κ -> Value) (dv : κ × β -> D)
def encG (L : List (κ × β)) : List (Value × D) := L.map fun p => (kv p.1, dv p)
variable {kv dv}
theorem nkG_one {L : List (κ × β)} (h : NkG L) {i j : Nat} (hi : i < L.length) (hj : j < L.length) (he : L[j].1 = L[i].1) : j = i := by
 rcases Nat.lt_trichotomy i j with h1 | h1 | h1
 ·exact absurd he.symm (List.pairwise_iff_getElem.1 h i j hi hj h1)
 ·exact h1.symm
 ·exact absurd he (List.pairwise_iff_getElem.1 h j i hj hi h1)
theorem encG_at {L : List (κ × β)} {j : Nat} {p : Value × D} (h : (encG kv dv L)[j]? = some p) : ∃ hj : j < L.length, p = (kv L[j].1, dv L[j]) := by
 unfold encG at h;rw [List.getElem?_map] at h
 cases h2 : L[j]? with
 | none => rw [h2] at h; cases h
 | some q =>
  rw [h2] at h;obtain ⟨hj, rfl⟩ := ZgS.1 h2;exact ⟨hj, (Option.some.inj h).symm⟩
theorem encG_one (hinj : ∀ {a b}, kv a = kv b -> a = b) {L : List (κ × β)} (h : NkG L) {i : Nat} (hi : i < L.length) : ∀ (j : Nat) (p : Value × D), (encG kv dv L)[j]? = some p -> p.1 = kv L[i].1 -> j = i := fun j p hp he => by
 obtain ⟨hj, rfl⟩ := encG_at hp;exact nkG_one h hi hj (hinj he)
theorem encG_no (hinj : ∀ {a b}, kv a = kv b -> a = b) {L : List (κ × β)} {k : κ} (h : ¬ hasG L k = true) : ∀ p ∈ encG kv dv L, p.1 ≠ kv k := fun p hp e => by
 unfold encG at hp;obtain ⟨q, hq, rfl⟩ := ZmM.1 hp;exact h (hasG_iff.2 ⟨q, hq, hinj e⟩)
theorem YgH (hinj : ∀ {a b}, kv a = kv b -> a = b) {L : List (κ × β)} (h : NkG L) (k : κ) (v : β) : MPut (encG kv dv L) (kv k) (dv (k, v)) (encG kv dv (putG L k v)) := by
 by_cases hh : hasG L k = true
 ·obtain ⟨p, hp, rfl⟩ := hasG_iff.1 hh;obtain ⟨i, hi, rfl⟩ := List.mem_iff_getElem.1 hp;refine .inl ⟨i, dv L[i], ?_, encG_one hinj h hi, ?_⟩
  ·unfold encG; rw [List.getElem?_map, ZgE hi]; rfl
  ·unfold putG;rw [if_pos hh];apply List.ext_getElem
   ·simp [encG]
   ·intro j h1 h2;have hj : j < L.length := by simpa [encG] using h1
    rw [List.getElem_set];simp only [encG, ZgP]
    by_cases he : i = j
    ·subst he; simp
    ·have : ¬ L[j].1 = L[i].1 := fun e => he (nkG_one h hi hj e).symm
     rw [if_neg he, if_neg this]
 ·refine .inr ⟨encG_no hinj hh, ?_⟩;unfold putG;rw [if_neg hh];simp [encG]
theorem mgetG (hinj : ∀ {a b}, kv a = kv b -> a = b) {L : List (κ × β)} (h : NkG L) (k : κ) (zd d : D) (hd : d = match Yaa L k with | some v => dv (k, v) | none => zd) : MGet (encG kv dv L) (kv k) zd d := by
 subst hd
 by_cases hh : hasG L k = true
 ·obtain ⟨p, hp, rfl⟩ := hasG_iff.1 hh;obtain ⟨i, hi, rfl⟩ := List.mem_iff_getElem.1 hp;refine .inl ⟨i, ?_, encG_one hinj h hi⟩;rw [(YaR h L[i]).1 hp];unfold encG; rw [List.getElem?_map, ZgE hi]; rfl
 ·refine .inr ⟨encG_no hinj hh, ?_⟩;rw [findG_none.2 (by simpa using hh)]
end
structure Thg where
 id : Int
 kind : Int
 title : ByteArray
 code : ByteArray
 since : Int
 parent : Int
 parts : List Int
deriving DecidableEq
structure Mvd where
 src : Int
 dst : Int
deriving DecidableEq
structure Ctl where
 things : List Thg
 moved : List Mvd
deriving DecidableEq
def zT : Thg := ⟨0, 0, ⟨#[]⟩, ⟨#[]⟩, 0, 0, []⟩
instance : Inhabited Thg := ⟨zT⟩
instance : Inhabited Mvd := ⟨⟨0, 0⟩⟩
instance : Inhabited Ctl := ⟨⟨[], []⟩⟩
def Thg.ds (x : Thg) : List D := [.v (.int .i64 x.id), .v (.int .i64 x.kind), .v (.string x.title), .v (.string x.code), .v (.int .i64 x.since), .v (.int .i64 x.parent), .sl (x.parts.map intD)]
def Mvd.ds (x : Mvd) : List D := [.v (.int .i64 x.src), .v (.int .i64 x.dst)]
def Ctl.ds (x : Ctl) : List D := [.sl (x.things.map Thg.ds), .sl (x.moved.map Mvd.ds)]
def i64 (n : Int) : Prop := -9223372036854775808 <= n /\ n <= 9223372036854775807
structure ThgOk (x : Thg) : Prop where
 id : i64 x.id
 kind : i64 x.kind
 title : x.title.size <= 9223372036854775807
 code : x.code.size <= 9223372036854775807
 since : i64 x.since
 parent : i64 x.parent
 parts : ∀ n ∈ x.parts, i64 n
structure CtlOk (c : Ctl) : Prop where
 things : ∀ x ∈ c.things, ThgOk x
 moved : ∀ x ∈ c.moved, i64 x.src /\ i64 x.dst
def Lim (c : Ctl) : Prop := c.things.length <= 300 /\ c.moved.length <= 300
theorem i64_0 : i64 0 := ⟨by decide, by decide⟩
theorem zT_ok : ThgOk zT := ⟨i64_0, i64_0, by decide, by decide, i64_0, i64_0, fun n h => by cases h⟩
def idxL (l : List Thg) : List (Int × Thg) := l.map fun t => (t.id, t)
def Yds (l : List Thg) (id : Int) : Option Thg := Yaa (idxL l) id
def getT (l : List Thg) (id : Int) : Thg := (Yds l id).getD zT
def Yae (l : List Thg) (id : Int) : Bool := (Yds l id).isSome
theorem YeU (t : Thg) (l : List Thg) (id : Int) : Yds (t :: l) id = if t.id = id then some t else Yds l id := Yah _ _ _
theorem YdH {l : List Thg} {id : Int} {t : Thg} (h : Yds l id = some t) : t ∈ l /\ t.id = id := by
 induction l with
 | nil => cases h
 | cons x l ih =>
  rw [YeU] at h
  by_cases hx : x.id = id
  ·rw [if_pos hx] at h;obtain rfl := Option.some.inj h;exact ⟨List.mem_cons_self, hx⟩
  ·rw [if_neg hx] at h;exact ⟨List.mem_cons_of_mem _ (ih h).1, (ih h).2⟩
theorem findT_none {l : List Thg} {id : Int} : Yds l id = none ↔ ∀ t ∈ l, t.id ≠ id := by
 induction l with
 | nil => simp [Yds, idxL, Ybb]
 | cons x l ih =>
  rw [YeU]
  by_cases hx : x.id = id
  ·simp [hx]
  ·simp [hx, ih]
theorem findT_first {l : List Thg} {id : Int} {k : Nat} (hk : k < l.length) (h : ∀ t ∈ l.take k, t.id ≠ id) (he : l[k].id = id) : Yds l id = some l[k] := by
 induction l generalizing k with
 | nil => simp at hk
 | cons x l ih =>
  rw [YeU]
  cases k with
  | zero => exact if_pos he
  | succ k =>
   rw [if_neg (h x (by simp))];exact ih (by simpa using hk) (fun t ht => h t (by rw [List.take_succ_cons]; exact List.mem_cons_of_mem _ ht)) he
theorem thereB_iff {l : List Thg} {id : Int} : Yae l id = true ↔ ∃ t ∈ l, t.id = id := by
 unfold Yae
 cases h : Yds l id with
 | none =>
  have := findT_none.1 h
  simp; exact this
 | some t => have := YdH h; simp; exact ⟨t, this⟩
theorem thereB_no {l : List Thg} {id : Int} : Yae l id = false ↔ Yds l id = none := by
 unfold Yae;cases Yds l id <;> simp
theorem Ygj {l : List Thg} (h : ∀ x ∈ l, ThgOk x) (id : Int) : ThgOk (getT l id) := by
 unfold getT
 cases hf : Yds l id with
 | none => exact zT_ok
 | some t => exact h t (YdH hf).1
theorem YeP {l : List Thg} {id : Int} (h : Yae l id = true) : (getT l id).id = id /\ getT l id ∈ l := by
 unfold Yae at h;unfold getT
 cases hf : Yds l id with
 | none => rw [hf] at h; cases h
 | some t => exact ⟨(YdH hf).2, (YdH hf).1⟩
theorem getT_no {l : List Thg} {id : Int} (h : Yae l id = false) : getT l id = zT := by unfold getT; rw [thereB_no.1 h]; rfl
theorem first_hit {l : List Thg} {id : Int} {k : Nat} (hk : k < l.length) (h : ∀ t ∈ l.take k, t.id ≠ id) (he : l[k].id = id) : getT l id = l[k] /\ Yae l id = true := by
 have h1 := findT_first hk h he;unfold getT Yae;rw [h1]; exact ⟨rfl, rfl⟩
def mvL (m : List Mvd) : List (Int × Int) := m.map fun x => (x.src, x.dst)
def getM (m : List Mvd) (id : Int) : Int := (Yaa (mvL m) id).getD 0
def hasM (m : List Mvd) (id : Int) : Bool := (Yaa (mvL m) id).isSome
theorem findM_cons (x : Mvd) (m : List Mvd) (id : Int) : Yaa (mvL (x :: m)) id = if x.src = id then some x.dst else Yaa (mvL m) id := Yah _ _ _
theorem findM_none {m : List Mvd} {id : Int} : Yaa (mvL m) id = none ↔ ∀ x ∈ m, x.src ≠ id := by
 induction m with
 | nil => simp [mvL, Ybb]
 | cons x m ih =>
  rw [findM_cons]
  by_cases hx : x.src = id
  ·simp [hx]
  ·simp [hx, ih]
def hasPB (k : Int) : Bool := decide (k = 3) || decide (k = 4)
def thgF (x : Thg) : Int :=
 if YcV x.kind = false then 4
 else if YaZ x.title = false then 3
 else if ¬ x.code = ⟨#[]⟩ /\ YcM x.kind x.code.data.toList ≠ 0 then YcM x.kind x.code.data.toList
 else if x.since < 0 \/ 200000 < x.since then 1
 else if (x.kind = 3 /\ x.parent ≠ 0) \/ (x.kind = 4 /\ x.parent = 0) \/ (x.kind <= 2 /\ 0 < x.parts.length) then 3
 else if 50 < x.parts.length then 2 else 0
def thF (l : List Thg) (k : Nat) : Int :=
 if h : k < l.length then
  if l[k].id < 1 \/ 1000000 < l[k].id then 1
  else if 0 < k /\ l[k].id <= (l[k-1]'(by omega)).id then 8
  else thgF l[k]
 else 0
def wantK (t : Thg) : Int := if t.kind = 4 then 3 else 1
def parF (l : List Thg) (t : Thg) : Int := if t.parent = 0 then 0 else if Yae l t.parent = false then 9 else if (getT l t.parent).kind ≠ wantK t then 6 else 0
def ptF (l : List Thg) (t : Thg) (k : Nat) : Int := if h : k < t.parts.length then (if Yae l t.parts[k] = false then 9 else if (getT l t.parts[k]).kind ≠ 2 then 6 else 0) else 0
def upN (l : List Thg) (a : Int) : Nat -> Int
 | 0 => a
 | n + 1 => (getT l (upN l a n)).parent
def loopB (l : List Thg) (t : Thg) : Bool := (List.range l.length).any fun k => decide (upN l t.parent k = t.id)
def Ybz (l : List Thg) (t : Thg) : Int := if parF l t ≠ 0 then parF l t else if ffst (ptF l t) t.parts.length ≠ 0 then ffst (ptF l t) t.parts.length else if loopB l t = true then 14 else 0
def twB (l : List Thg) (i : Nat) (t : Thg) : Bool := (l.take i).any fun x => decide (x.kind = t.kind) && decide (x.code = t.code)
def lkF (l : List Thg) (i : Nat) : Int :=
 if h : i < l.length then
  if Ybz l l[i] ≠ 0 then Ybz l l[i]
  else if ¬ l[i].code = ⟨#[]⟩ /\ twB l i l[i] = true then 7 else 0
 else 0
def led (c : Ctl) : Nat -> Int -> Option Int
 | 0, _ => none
 | n + 1, id => if Yae c.things id = true then some id else if hasM c.moved id = true then led c n (getM c.moved id) else none
def ledC (c : Ctl) (id : Int) : Option Int := led c (c.moved.length + 1) id
def mvF (c : Ctl) (i : Nat) : Int :=
 if h : i < c.moved.length then
  if c.moved[i].src < 1 \/ 1000000 < c.moved[i].src then 1
  else if 0 < i /\ c.moved[i].src <= (c.moved[i-1]'(by omega)).src then 8
  else if Yae c.things c.moved[i].src = true then 7
  else if Yae c.things c.moved[i].dst = false /\ hasM c.moved c.moved[i].dst = false then 9 else 0
 else 0
def lpF (c : Ctl) (i : Nat) : Int := if h : i < c.moved.length then (if (ledC c c.moved[i].src).isSome = false then 14 else 0) else 0
def mvdF (c : Ctl) : Int := if ffst (mvF c) c.moved.length ≠ 0 then ffst (mvF c) c.moved.length else ffst (lpF c) c.moved.length
def chkF (c : Ctl) : Int :=
 if 300 < c.things.length \/ 300 < c.moved.length then 2
 else if ffst (thF c.things) c.things.length ≠ 0 then ffst (thF c.things) c.things.length
 else if ffst (lkF c.things) c.things.length ≠ 0 then ffst (lkF c.things) c.things.length
 else mvdF c
theorem thF_0 {l : List Thg} {k : Nat} (hk : k < l.length) (h : thF l k = 0) : (1 <= l[k].id /\ l[k].id <= 1000000) /\ (∀ h0 : 0 < k, (l[k-1]'(by omega)).id < l[k].id) /\ thgF l[k] = 0 := by
 unfold thF at h;rw [dif_pos hk] at h
 by_cases h1 : l[k].id < 1 \/ 1000000 < l[k].id
 ·rw [if_pos h1] at h; omega
 ·rw [if_neg h1] at h
  by_cases h2 : 0 < k /\ l[k].id <= (l[k-1]'(by omega)).id
  ·rw [if_pos h2] at h; omega
  ·rw [if_neg h2] at h
   exact ⟨by omega, fun h0 => by
    have h3 : ¬ l[k].id <= (l[k-1]'(by omega)).id := fun h3 => h2 ⟨h0, h3⟩
    omega, h⟩
structure RisT (l : List Thg) : Prop where
 rng : ∀ t ∈ l, 1 <= t.id /\ t.id <= 1000000
 up : ∀ i j (hi : i < l.length) (hj : j < l.length), i < j -> l[i].id < l[j].id
theorem risT_of {l : List Thg} (h : ffst (thF l) l.length = 0) : RisT l := by
 have h0 := fun k (hk : k < l.length) => thF_0 hk (Ya5 _ h k hk)
 refine ⟨fun t ht => ?_, ?_⟩
 ·obtain ⟨k, hk, rfl⟩ := List.mem_iff_getElem.1 ht;exact (h0 k hk).1
 ·intro i j hi hj hij
  induction j with
  | zero => omega
  | succ j ih =>
   have h1 := (h0 (j + 1) hj).2.1 (by omega);simp only [Nat.add_sub_cancel] at h1
   by_cases he : i = j
   ·subst he; exact h1
   ·have := ih (by omega) (by omega); omega
theorem RisT.nk {l : List Thg} (h : RisT l) : NkG (idxL l) := by
 unfold NkG idxL;rw [List.pairwise_map, List.pairwise_iff_getElem];intro i j hi hj hij;have := h.up i j hi hj hij;show l[i].id ≠ l[j].id
 omega
theorem RisT.take {l : List Thg} (h : RisT l) (k : Nat) : RisT (l.take k) :=
 ⟨fun t ht => h.rng t (List.mem_of_mem_take ht), fun i j hi hj hij => by
  simp only [List.getElem_take]
  exact h.up i j _ _ hij⟩
theorem RisT.get {l : List Thg} (h : RisT l) {t : Thg} (ht : t ∈ l) : getT l t.id = t /\ Yae l t.id = true := by
 obtain ⟨k, hk, rfl⟩ := List.mem_iff_getElem.1 ht;refine first_hit hk (fun x hx => ?_) J;obtain ⟨j, hj, rfl⟩ := List.mem_iff_getElem.1 hx;have hj2 : j < k := by rw [ZlT] at hj; omega
 rw [List.getElem_take];have := h.up j k (by omega) hk hj2;omega
theorem RisT.zero {l : List Thg} (h : RisT l) : Yae l 0 = false := thereB_no.2 (findT_none.2 fun t ht => by have := h.rng t ht; omega)
theorem loop_yes {l : List Thg} {t : Thg} {k : Nat} (hk : k < l.length) (h : upN l t.parent k = t.id) : loopB l t = true := List.any_eq_true.2 ⟨k, List.mem_range.2 hk, decide_eq_true h⟩
theorem loop_no {l : List Thg} {t : Thg} (h : ∀ j, j < l.length -> upN l t.parent j ≠ t.id) : loopB l t = false := by
 rw [Bool.eq_false_iff];intro hh;obtain ⟨k, hk, h2⟩ := List.any_eq_true.1 hh;exact h k (List.mem_range.1 hk) (dcT h2)
theorem up_next {l : List Thg} {t : Thg} {k : Nat} (h : ∀ j, j < k -> upN l t.parent j ≠ t.id) (h2 : ¬ upN l t.parent k = t.id) : ∀ j, j < k + 1 -> upN l t.parent j ≠ t.id := fun j hj => by
 by_cases he : j = k
 ·subst he; exact h2
 ·exact h j (by omega)
theorem link_p {l : List Thg} {t : Thg} {n : Int} (h : parF l t = n) (hn : n ≠ 0) : Ybz l t = n := by unfold Ybz; rw [if_pos (by rw [h]; exact hn), h]
theorem link_q {l : List Thg} {t : Thg} {k : Nat} {n : Int} (h : parF l t = 0) (hk : k < t.parts.length) (hf : ffst (ptF l t) k = 0) (h2 : ptF l t k = n) (hn : n ≠ 0) : Ybz l t = n := by
 have h3 := Yau hf (by rw [h2]; exact hn) _ hk;unfold Ybz;rw [if_neg (by omega), h3, h2, if_pos hn]
theorem link_l {l : List Thg} {t : Thg} (h : parF l t = 0) (hf : ffst (ptF l t) t.parts.length = 0) : Ybz l t = if loopB l t = true then 14 else 0 := by
 unfold Ybz;rw [if_neg (by omega), if_neg (by omega)]
theorem par_0 {l : List Thg} {t : Thg} (h : t.parent = 0) : parF l t = 0 := if_pos h
theorem par_9 {l : List Thg} {t : Thg} (h : ¬ t.parent = 0) (h2 : Yae l t.parent = false) : parF l t = 9 := by unfold parF; rw [if_neg h, if_pos h2]
theorem par_6 {l : List Thg} {t : Thg} (h : ¬ t.parent = 0) (h2 : Yae l t.parent = true) (h3 : ¬ (getT l t.parent).kind = wantK t) : parF l t = 6 := by unfold parF; rw [if_neg h, if_neg (by rw [h2]; decide), if_pos h3]
theorem par_ok {l : List Thg} {t : Thg} (h : ¬ t.parent = 0) (h2 : Yae l t.parent = true) (h3 : (getT l t.parent).kind = wantK t) : parF l t = 0 := by unfold parF; rw [if_neg h, if_neg (by rw [h2]; decide), if_neg (by rw [h3]; exact fun hh => hh rfl)]
theorem pt_9 {l : List Thg} {t : Thg} {k : Nat} (hk : k < t.parts.length) (h2 : Yae l t.parts[k] = false) : ptF l t k = 9 := by unfold ptF; rw [dif_pos hk, if_pos h2]
theorem pt_6 {l : List Thg} {t : Thg} {k : Nat} (hk : k < t.parts.length) (h2 : Yae l t.parts[k] = true) (h3 : ¬ (getT l t.parts[k]).kind = 2) : ptF l t k = 6 := by unfold ptF; rw [dif_pos hk, if_neg (by rw [h2]; decide), if_pos h3]
theorem pt_ok {l : List Thg} {t : Thg} {k : Nat} (hk : k < t.parts.length) (h2 : Yae l t.parts[k] = true) (h3 : (getT l t.parts[k]).kind = 2) : ptF l t k = 0 := by unfold ptF; rw [dif_pos hk, if_neg (by rw [h2]; decide), if_neg (by rw [h3]; exact fun hh => hh rfl)]
namespace Ty
theorem Ybh : AggT Tryz.prog 72 7 := .of (by kernel_rfl)
theorem et_22 : ElemTy Tryz.prog 22 72 7 88 (.agg #[(.int .i64 0), (.int .i64 0), (.string ⟨#[]⟩), (.string ⟨#[]⟩), (.int .i64 0), (.int .i64 0), (.slice none 0 0)]) := ⟨by kernel_rfl, by kernel_rfl, by kernel_rfl, by decide⟩
theorem Ydr : Yac Tryz.prog 25 0 = some 0 := by kernel_rfl
theorem YaW : Yac Tryz.prog 72 0 = some 0 := by kernel_rfl
theorem Ya4 : Yac Tryz.prog 72 1 = some 1 := by kernel_rfl
theorem fo_72_2 : Yac Tryz.prog 72 2 = some 2 := by kernel_rfl
theorem Yb5 : Yac Tryz.prog 72 3 = some 3 := by kernel_rfl
theorem Yd3 : Yac Tryz.prog 72 4 = some 4 := by kernel_rfl
theorem Ya0 : Yac Tryz.prog 72 5 = some 5 := by kernel_rfl
theorem Ya8 : Yac Tryz.prog 72 6 = some 6 := by kernel_rfl
theorem YdK : Scal Tryz.prog 22 := .of (by kernel_rfl)
theorem Ybt : Scal Tryz.prog 34 := .of (by kernel_rfl)
theorem sc_9 : Scal Tryz.prog 9 := .of (by kernel_rfl)
theorem Ycc : ∀ w, (sizeOf 72).run Tryz.prog w = .ok 7 w := SizeT.of (by kernel_rfl)
theorem Ycs : (Tryz.prog.info? 72).bind (·.zero) = some (.agg #[(.int .i64 0), (.int .i64 0), (.string ⟨#[]⟩), (.string ⟨#[]⟩), (.int .i64 0), (.int .i64 0), (.slice none 0 0)]) := by kernel_rfl
end Ty
theorem bs_of (s : ByteArray) : bStr s.data.toList = s := by cases s; simp [bStr]
theorem c_pCodeS (kind : Int) (s : ByteArray) (h : s.size <= 9223372036854775807) : Yad Tryz.prog 100 [.v (.int .i64 kind), .v (.string s)] (.v (.int .i64 (YcM kind s.data.toList))) := by
 have := c_pCode kind s.data.toList (by rw [<- Lib.size_eq]; exact h);rw [bs_of] at this; exact this
theorem has_no {k : Int} (hk : YcV k = true) (h : hasPB k = false) : k <= 2 := by
 unfold YcV at hk; unfold hasPB at h;simp at hk h;omega
theorem has_yes {k : Int} (hk : YcV k = true) (h : hasPB k = true) : ¬ k <= 2 := by
 unfold YcV at hk; unfold hasPB at h;simp at hk h;omega
def kI (n : Int) : Value := .int .i64 n
def dT (p : Int × Thg) : D := .agg p.2.ds
def dI (p : Int × Int) : D := .v (.int .i64 p.2)
def idxM (l : List Thg) : List (Value × D) := encG kI dT (idxL l)
def toM (L : List (Int × Int)) : List (Value × D) := encG kI dI L
theorem Yb2 {a b : Int} (h : kI a = kI b) : a = b := by unfold kI at h; injection h
theorem wf64 {n : Int} (h : i64 n) : (Lit.int .i64 n).wf = true := by unfold i64 at h; simpa [Lit.wf, IntKind.min, IntKind.max, IntKind.signed, IntKind.bits] using h
theorem Yer : Tryz.prog.underlying 69 = some (.map 3 72) := by kernel_rfl
theorem mt_to : Tryz.prog.underlying 83 = some (.map 3 3) := by kernel_rfl
theorem YaC : Maps.Keyed Tryz.prog 3 := Maps.int_keyed (q := .i64) Tryz.underlying3
theorem Ya3 {n : Int} (h : i64 n) : ∃ l, keyOf Tryz.prog 3 (kI n) = some l := ⟨_, Maps.keyOf_int_mk Tryz.underlying3 (wf64 h)⟩
def zThg : List Value := [.int .i64 0, .int .i64 0, .string ⟨#[]⟩, .string ⟨#[]⟩, .int .i64 0, .int .i64 0, .slice none 0 0]
theorem YeZ : (Tryz.prog.info? 72).bind (·.zero) = some (.agg zThg.toArray) := by kernel_rfl
theorem zt_int : (Tryz.prog.info? 3).bind (·.zero) = some (.int .i64 0) := by kernel_rfl
theorem Ye0 (F : Nat -> Prop) (w : World) : Rep F w (.agg zThg.toArray) (.agg zT.ds) := .agg zThg zT.ds rfl (fun i hi => by
 match i, hi with
 | 0, _ => rfl
 | 1, _ => rfl
 | 2, _ => rfl
 | 3, _ => rfl
 | 4, _ => rfl
 | 5, _ => rfl
 | 6, _ => rfl) fun i hi _ => by
 match i, hi with
 | 0, _ => exact .v _
 | 1, _ => exact .v _
 | 2, _ => exact .v _
 | 3, _ => exact .v _
 | 4, _ => exact .v _
 | 5, _ => exact .v _
 | 6, _ => exact .nil
theorem zd_int (F : Nat -> Prop) (w : World) : Rep F w (.int .i64 0) (.v (.int .i64 0)) := .v _
theorem Ybp {l : List Thg} (h : ∀ x ∈ l, ThgOk x) : ∀ p ∈ idxM l, ∃ q, keyOf Tryz.prog 3 p.1 = some q := fun p hp => by
 unfold idxM encG idxL at hp;rw [List.map_map] at hp;obtain ⟨t, ht, rfl⟩ := ZmM.1 hp;exact Ya3 (h t ht).id
theorem Yfu {L : List (Int × Int)} (h : ∀ p ∈ L, i64 p.1) : ∀ p ∈ toM L, ∃ q, keyOf Tryz.prog 3 p.1 = some q := fun p hp => by
 unfold toM encG at hp;obtain ⟨t, ht, rfl⟩ := ZmM.1 hp;exact Ya3 (h t ht)
theorem idx_len (l : List Thg) : (idxM l).length = l.length := by simp [idxM, encG, idxL]
theorem put_idx {l : List Thg} (h : RisT l) {k : Nat} (hk : k < l.length) : MPut (idxM (l.take k)) (kI l[k].id) (.agg l[k].ds) (idxM (l.take (k + 1))) := by
 have h1 := YgH (kv := kI) (dv := dT) Yb2 (h.take k).nk l[k].id l[k]
 have h2 : putG (idxL (l.take k)) l[k].id l[k] = idxL (l.take (k + 1)) := by
  have hno : ¬ hasG (idxL (l.take k)) l[k].id = true := fun hh => by
   obtain ⟨p, hp, he⟩ := hasG_iff.1 hh;unfold idxL at hp;obtain ⟨t, ht, rfl⟩ := ZmM.1 hp;obtain ⟨j, hj, rfl⟩ := List.mem_iff_getElem.1 ht;rw [ZlT] at hj;rw [List.getElem_take] at he;have := h.up j k (by omega) hk (by omega);dsimp only at he;omega
  unfold putG;rw [if_neg hno];unfold idxL;rw [List.take_add_one, ZgE hk, Option.toList_some, ZmA];rfl
 rw [h2] at h1;exact h1
theorem get_idx {l : List Thg} (h : NkG (idxL l)) (id : Int) : MGet (idxM l) (kI id) (.agg zT.ds) (.agg (getT l id).ds) :=
 mgetG (kv := kI) (dv := dT) Yb2 h id _ _ (by unfold getT Yds; cases Yaa (idxL l) id <;> rfl)
theorem mgetokG {κ β : Type} [DecidableEq κ] {kv : κ -> Value} {dv : κ × β -> D} (hinj : ∀ {a b}, kv a = kv b -> a = b) {L : List (κ × β)} (h : NkG L) (k : κ) (zd d : D) (hd : d = match Yaa L k with | some v => dv (k, v) | none => zd) : YgD (encG kv dv L) (kv k) zd d (Yaa L k).isSome := by
 subst hd
 by_cases hh : hasG L k = true
 ·obtain ⟨p, hp, rfl⟩ := hasG_iff.1 hh;obtain ⟨i, hi, rfl⟩ := List.mem_iff_getElem.1 hp;refine .inl ⟨?_, i, ?_, encG_one hinj h hi⟩
  ·rw [(YaR h L[i]).1 hp]; rfl
  ·rw [(YaR h L[i]).1 hp];unfold encG; rw [List.getElem?_map, ZgE hi]; rfl
 ·refine .inr ⟨?_, encG_no hinj hh, ?_⟩
  ·rw [findG_none.2 (by simpa using hh)]; rfl
  ·rw [findG_none.2 (by simpa using hh)]
theorem Yb3 {l : List Thg} (h : NkG (idxL l)) (id : Int) : YgD (idxM l) (kI id) (.agg zT.ds) (.agg (getT l id).ds) (Yae l id) :=
 mgetokG (kv := kI) (dv := dT) Yb2 h id _ _ (by unfold getT Yds; cases Yaa (idxL l) id <;> rfl)
theorem Yf9 {i : Nat} {A A' : List (Value × D)} {τ : Obs} (h : A = A') : ∀ p ∈ [(i, Ob.map A')], p ∈ (i, Ob.map A) :: τ := fun p hp => by
 subst h;rw [ZmS] at hp;subst hp; exact .head _
theorem c_pHas (k : Int) : Yad Tryz.prog 101 [.v (.int .i64 k)] (.v (.bool (hasPB k))) := by
 refine Yab (n := 9) (ds' := [.v (.bool (hasPB k))]) Tryz.func101 J (by kernel_rfl) J [2] J J ?_;intro B w0 F0 fr;refine .sr (.aN ?_);refine .sr (.mA ?_);refine .sA (.eql J J J) ?_;refine .mA ?_;refine .sT 5 J (fun g1 => ?_) fun g1 => ?_
 ·refine .pB ?_;refine .sA (.pickT J J J) ?_;refine .aN ?_;refine .ret (rDq J ?_)
  all_goals (simp [hasPB]; omega)
 refine .sG (.moveD J J) ?_;refine .sG (.eql J J J) ?_;refine .sA (.pickF J J J) ?_;refine .aN ?_;refine .ret (rDq J ?_)
 all_goals (simp [hasPB]; omega)
theorem c_pThg (x : Thg) (hx : ThgOk x) : ACallT Tryz.prog MaxT 44 [.agg x.ds] (.v (.int .i64 (thgF x))) := by
 refine Ycr (n := 66) (ds' := [.v (.int .i64 (thgF x))]) Tryz.func44 J (by kernel_rfl) J [2] J J ?_;intro B w0 F0 hT;have hpl : (x.parts.map intD).length = x.parts.length := ZlM ..;refine .sr (.sA (.box J J J) ?_);refine .aN ?_;refine .seq (.block (.sr (.fl Ya4 sc_3 ?_)));refine .sA (.call J (.cons (.rfl' J) .nil) (c_pKind _)) (.sA (.not J J) ?_);refine .aN ?_;refine .cond J (fun h1 => ?_) (fun h1 => ?_)
 ·replace h1 := Yaw h1;have HR : thgF x = 4 := if_pos h1;refine .sr (.aN ?_);refine .ret (rDq J ?_)
  all_goals (first | (exfalso; omega) | rw [HR] | rw [show thgF x = 1 from by unfold thgF; grind] | rw [show thgF x = 3 from by unfold thgF; grind] | rw [show thgF x = 2 from by unfold thgF; grind] | rw [show thgF x = 0 from by unfold thgF; grind])
 replace h1 := Yax h1;have hkd := h1;have n0 : ¬ YcV x.kind = false := by rw [hkd]; decide
 refine .sr (.fl fo_72_2 sc_9 ?_)
 -- wants the world
 refine .callT J J J hT Yam J (.cons (.rfl' J) .nil) (c_pTitle _ hx.title) ?_;refine .sA (.not J J) ?_;refine .aN ?_;refine .cond J (fun h2 => ?_) (fun h2 => ?_)
 ·replace h2 := Yaw h2;have n1 : YaZ x.title = false := h2;have HR : thgF x = 3 := by unfold thgF; grind
  refine .sr (.aN ?_);refine .ret (rDq J ?_)
  all_goals (first | (exfalso; omega) | rw [HR] | rw [show thgF x = 1 from by unfold thgF; grind] | rw [show thgF x = 3 from by unfold thgF; grind] | rw [show thgF x = 2 from by unfold thgF; grind] | rw [show thgF x = 0 from by unfold thgF; grind])
 replace h2 := Yax h2;have n1 : ¬ YaZ x.title = false := by rw [h2]; decide
 refine .skip (.seqJ ((¬ (¬ x.code = ⟨#[]⟩ /\ YcM x.kind x.code.data.toList ≠ 0))) (Env.of [(1, .d (.fp x.ds))]) [] ?_ (fun n2 => ?_))
 ·skip;refine .sr (.fl Yb5 sc_9 ?_);refine .sA (.sneq J J J) (.nil ?_);refine .cT J (fun h3 => ?_) fun h3 => ?_
  ·have hco := h3;refine .sr (.fl Ya4 sc_3 ?_);refine .fl Yb5 sc_9 ?_;refine .sA (.call J (.cons (.rfl' J) (.cons (.rfl' J) .nil)) (c_pCodeS _ _ hx.code)) ?_;refine .aN ?_;refine .sr (.mA ?_);refine .sA (.neq J J J) (.nil ?_);refine .cT J (fun h4 => ?_) fun h4 => ?_
   ·have n2 : ¬ x.code = ⟨#[]⟩ /\ YcM x.kind x.code.data.toList ≠ 0 := ⟨hco, h4⟩;have HR : thgF x = YcM x.kind x.code.data.toList := by unfold thgF; grind
    refine .sr (.ma (.nil ?_));refine .ret (rDq J ?_)
    all_goals (first | (exfalso; omega) | rw [HR] | rw [show thgF x = 1 from by unfold thgF; grind] | rw [show thgF x = 3 from by unfold thgF; grind] | rw [show thgF x = 2 from by unfold thgF; grind] | rw [show thgF x = 0 from by unfold thgF; grind])
   have n2 : ¬ (¬ x.code = ⟨#[]⟩ /\ YcM x.kind x.code.data.toList ≠ 0) := fun hh => h4 hh.2
   refine .skip ?_;refine ⟨?_, Sub.less ⟨U, trivial⟩ (fun _ h => h)⟩;exact n2
  have n2 : ¬ (¬ x.code = ⟨#[]⟩ /\ YcM x.kind x.code.data.toList ≠ 0) := fun hh => h3 hh.1
  refine .skip ?_;refine ⟨?_, Sub.less ⟨U, trivial⟩ (fun _ h => h)⟩;exact n2
 refine .seq (.block (.sr (.fl Yd3 sc_3 ?_)));refine .sA (.lss J J J) ?_;refine .mA ?_;refine .sT 29 J (fun g5 => ?_) fun g5 => ?_
 ·refine .pB ?_;refine .pA ?_;refine .sA (.pickT J J J) ?_;refine .aN ?_;refine .cond J (fun _ => ?_) (fun h => nomatch h);refine .sr (.aN ?_);refine .ret (rDq J ?_)
  all_goals (first | (exfalso; omega) | rw [HR] | rw [show thgF x = 1 from by unfold thgF; grind] | rw [show thgF x = 3 from by unfold thgF; grind] | rw [show thgF x = 2 from by unfold thgF; grind] | rw [show thgF x = 0 from by unfold thgF; grind])
 refine .sG (.fieldAddr J Yd3 J) ?_;refine .sG (.load J sc_3 J) ?_;refine .sG (.gtr J J J) ?_;refine .sA (.pickF J J J) ?_;refine .aN ?_;refine .cT J (fun h6 => ?_) fun h6 => ?_
 ·refine .sr (.aN ?_);refine .ret (rDq J ?_)
  all_goals (first | (exfalso; omega) | rw [HR] | rw [show thgF x = 1 from by unfold thgF; grind] | rw [show thgF x = 3 from by unfold thgF; grind] | rw [show thgF x = 2 from by unfold thgF; grind] | rw [show thgF x = 0 from by unfold thgF; grind])
 refine .seqJ ((¬ (x.since < 0 \/ 200000 < x.since))) (Env.of [(1, .d (.fp x.ds)), (34, .d (.v (.bool (decide ((x.kind = 3 /\ x.parent ≠ 0) \/ (x.kind = 4 /\ x.parent = 0) \/ (x.kind <= 2 /\ 0 < x.parts.length))))))]) [] ?_ (fun hS => ?_)
 ·skip;refine .sr (.fl Ya4 sc_3 ?_);refine .sA (.eql J J J) ?_;refine .mA ?_;refine .sT 38 J (fun g7 => ?_) fun g7 => ?_
  ·refine .sG (.fieldAddr J Ya0 J) ?_;refine .sG (.load J sc_3 J) ?_;refine .sG (.neq J J J) ?_;refine .sA (.pickT J J J) ?_;refine .aN ?_;refine .cT J (fun h8 => ?_) fun h8 => ?_
   ·refine .skip ?_;refine ⟨?_, Sub.less ⟨U, (SLe.of_eq (Yb9 (by first | (simp only [true_iff, decide_eq_true_eq, Bool.false_eq_true, false_iff]; omega) | (simp; omega)))), trivial⟩ (fun _ h => h)⟩;omega
   refine .sr (.fl Ya4 sc_3 ?_);refine .sA (.eql J J J) ?_;refine .mA ?_;refine .sT 46 J (fun g9 => ?_) fun g9 => ?_
   ·refine .sG (.fieldAddr J Ya0 J) ?_;refine .sG (.load J sc_3 J) ?_;refine .sG (.eql J J J) ?_;refine .sA (.pickT J J J) ?_;refine .aN ?_;refine .cT J (fun h10 => ?_) fun h10 => ?_
    ·refine .skip ?_;refine ⟨?_, Sub.less ⟨U, (SLe.of_eq (Yb9 (by first | (simp only [true_iff, decide_eq_true_eq, Bool.false_eq_true, false_iff]; omega) | (simp; omega)))), trivial⟩ (fun _ h => h)⟩;omega
    refine .region (.fl Ya4 sc_3 ?_);refine .sA (.call J (.cons (.rfl' J) .nil) (c_pHas _)) (.sA (.not J J) ?_);refine .mA ?_;refine .split 55 J (fun g11 => ?_) (fun g11 => ?_)
    ·replace g11 := Yaw g11;have hk2 := has_no hkd g11;refine .sG (.fieldAddr J Ya8 J) ?_;refine .sG (.load J Ybt J) ?_;refine .sG (.lenSl J et_34.ht J) ?_;refine .sG (.gtr J J J) ?_;refine .sA (.pickT J J J) ?_;refine .aN ?_;refine ⟨?_, Sub.less ⟨U, (SLe.of_eq (Yb9 (by first | (simp only [true_iff, decide_eq_true_eq, Bool.false_eq_true, false_iff]; omega) | (simp; omega)))), trivial⟩ (fun _ h => h)⟩;omega
    replace g11 := Yax g11;have hk3 := has_yes hkd g11;refine .pB ?_;refine .pB ?_;refine .sA (.pickF J J J) ?_;refine .aN ?_;refine ⟨?_, Sub.less ⟨U, (SLe.of_eq (Yb9 (by first | (simp only [true_iff, decide_eq_true_eq, Bool.false_eq_true, false_iff]; omega) | (simp; omega)))), trivial⟩ (fun _ h => h)⟩;omega
   refine .pB ?_;refine .pA ?_;refine .sA (.pickF J J J) ?_;refine .aN ?_;refine .cond J (fun h => nomatch h) (fun _ => ?_);refine .region (.fl Ya4 sc_3 ?_);refine .sA (.call J (.cons (.rfl' J) .nil) (c_pHas _)) (.sA (.not J J) ?_);refine .mA ?_;refine .split 55 J (fun g12 => ?_) (fun g12 => ?_)
   ·replace g12 := Yaw g12;have hk2 := has_no hkd g12;refine .sG (.fieldAddr J Ya8 J) ?_;refine .sG (.load J Ybt J) ?_;refine .sG (.lenSl J et_34.ht J) ?_;refine .sG (.gtr J J J) ?_;refine .sA (.pickT J J J) ?_;refine .aN ?_;refine ⟨?_, Sub.less ⟨U, (SLe.of_eq (Yb9 (by first | (simp only [true_iff, decide_eq_true_eq, Bool.false_eq_true, false_iff]; omega) | (simp; omega)))), trivial⟩ (fun _ h => h)⟩;omega
   replace g12 := Yax g12;have hk3 := has_yes hkd g12;refine .pB ?_;refine .pB ?_;refine .sA (.pickF J J J) ?_;refine .aN ?_;refine ⟨?_, Sub.less ⟨U, (SLe.of_eq (Yb9 (by first | (simp only [true_iff, decide_eq_true_eq, Bool.false_eq_true, false_iff]; omega) | (simp; omega)))), trivial⟩ (fun _ h => h)⟩;omega
  refine .pB ?_;refine .pA ?_;refine .sA (.pickF J J J) ?_;refine .aN ?_;refine .cond J (fun h => nomatch h) (fun _ => ?_);refine .sr (.fl Ya4 sc_3 ?_);refine .sA (.eql J J J) ?_;refine .mA ?_;refine .sT 46 J (fun g13 => ?_) fun g13 => ?_
  ·refine .sG (.fieldAddr J Ya0 J) ?_;refine .sG (.load J sc_3 J) ?_;refine .sG (.eql J J J) ?_;refine .sA (.pickT J J J) ?_;refine .aN ?_;refine .cT J (fun h14 => ?_) fun h14 => ?_
   ·refine .skip ?_;refine ⟨?_, Sub.less ⟨U, (SLe.of_eq (Yb9 (by first | (simp only [true_iff, decide_eq_true_eq, Bool.false_eq_true, false_iff]; omega) | (simp; omega)))), trivial⟩ (fun _ h => h)⟩;omega
   refine .region (.fl Ya4 sc_3 ?_);refine .sA (.call J (.cons (.rfl' J) .nil) (c_pHas _)) (.sA (.not J J) ?_);refine .mA ?_;refine .split 55 J (fun g15 => ?_) (fun g15 => ?_)
   ·replace g15 := Yaw g15;have hk2 := has_no hkd g15;refine .sG (.fieldAddr J Ya8 J) ?_;refine .sG (.load J Ybt J) ?_;refine .sG (.lenSl J et_34.ht J) ?_;refine .sG (.gtr J J J) ?_;refine .sA (.pickT J J J) ?_;refine .aN ?_;refine ⟨?_, Sub.less ⟨U, (SLe.of_eq (Yb9 (by first | (simp only [true_iff, decide_eq_true_eq, Bool.false_eq_true, false_iff]; omega) | (simp; omega)))), trivial⟩ (fun _ h => h)⟩;omega
   replace g15 := Yax g15;have hk3 := has_yes hkd g15;refine .pB ?_;refine .pB ?_;refine .sA (.pickF J J J) ?_;refine .aN ?_;refine ⟨?_, Sub.less ⟨U, (SLe.of_eq (Yb9 (by first | (simp only [true_iff, decide_eq_true_eq, Bool.false_eq_true, false_iff]; omega) | (simp; omega)))), trivial⟩ (fun _ h => h)⟩;omega
  refine .pB ?_;refine .pA ?_;refine .sA (.pickF J J J) ?_;refine .aN ?_;refine .cond J (fun h => nomatch h) (fun _ => ?_);refine .region (.fl Ya4 sc_3 ?_);refine .sA (.call J (.cons (.rfl' J) .nil) (c_pHas _)) (.sA (.not J J) ?_);refine .mA ?_;refine .split 55 J (fun g16 => ?_) (fun g16 => ?_)
  ·replace g16 := Yaw g16;have hk2 := has_no hkd g16;refine .sG (.fieldAddr J Ya8 J) ?_;refine .sG (.load J Ybt J) ?_;refine .sG (.lenSl J et_34.ht J) ?_;refine .sG (.gtr J J J) ?_;refine .sA (.pickT J J J) ?_;refine .aN ?_;refine ⟨?_, Sub.less ⟨U, (SLe.of_eq (Yb9 (by first | (simp only [true_iff, decide_eq_true_eq, Bool.false_eq_true, false_iff]; omega) | (simp; omega)))), trivial⟩ (fun _ h => h)⟩;omega
  replace g16 := Yax g16;have hk3 := has_yes hkd g16;refine .pB ?_;refine .pB ?_;refine .sA (.pickF J J J) ?_;refine .aN ?_;refine ⟨?_, Sub.less ⟨U, (SLe.of_eq (Yb9 (by first | (simp only [true_iff, decide_eq_true_eq, Bool.false_eq_true, false_iff]; omega) | (simp; omega)))), trivial⟩ (fun _ h => h)⟩;omega
 refine .cT J (fun h17 => ?_) fun h17 => ?_
 ·refine .sr (.aN ?_);refine .ret (rDq J ?_)
  all_goals (first | (exfalso; omega) | rw [HR] | rw [show thgF x = 1 from by unfold thgF; grind] | rw [show thgF x = 3 from by unfold thgF; grind] | rw [show thgF x = 2 from by unfold thgF; grind] | rw [show thgF x = 0 from by unfold thgF; grind])
 refine .sr (.fl Ya8 Ybt ?_);refine .sA (.lenSl J et_34.ht J) (.sA (.gtr J J J) ?_);refine .aN ?_;refine .cT J (fun h18 => ?_) fun h18 => ?_
 ·refine .sr (.aN ?_);refine .ret (rDq J ?_)
  all_goals (first | (exfalso; omega) | rw [HR] | rw [show thgF x = 1 from by unfold thgF; grind] | rw [show thgF x = 3 from by unfold thgF; grind] | rw [show thgF x = 2 from by unfold thgF; grind] | rw [show thgF x = 0 from by unfold thgF; grind])
 refine .skip (.sr (.aN ?_));refine .ret (rDq J ?_)
 all_goals (first | (exfalso; omega) | rw [HR] | rw [show thgF x = 1 from by unfold thgF; grind] | rw [show thgF x = 3 from by unfold thgF; grind] | rw [show thgF x = 2 from by unfold thgF; grind] | rw [show thgF x = 0 from by unfold thgF; grind])
theorem c_idxOf (c : Ctl) (hl : Lim c) (hc : CtlOk c) (hr : RisT c.things) : Yad Tryz.prog 19 [.agg c.ds] (.fm (idxM c.things)) := by
 refine Yab (n := 20) (ds' := [.fm (idxM c.things)]) Tryz.func19 J (by kernel_rfl) J [2] J J ?_;intro B w0 F0 fr;have hl1 := hl.1;refine .sr (.sA (.box J J J) ?_);refine .aN ?_;refine .sr (.makeMap 91 J J J J J ?_);refine .sA (.assignO J J) (.nil ?_);refine .seq (.sr (.fl Ydr YdK ?_));refine .sA (.lenSl J et_22.ht J) ?_;refine .mN ?_;refine .block (.loop (G := Nat) (fun k => Env.of [(10, .iv k), (8, .d (.sl (c.things.map Thg.ds))), (9, .iv (c.things.map Thg.ds).length), (3, .own 91)]) (fun k => [(91, .map (idxM (c.things.take k)))]) (fun k => k <= c.things.length) (fun k => c.things.length - k) 0 (ZnZ _) (Sub.less ⟨U, U, U, U, trivial⟩ (Yf9 J)) ?_);intro k hk;refine .sr (.sA (.lss J J J) (.nil ?_));refine .seq (.cT J (fun h1 => ?_) fun h1 => ?_)
 ·rw [ZlM] at h1;have hlt : k < c.things.length := by omega
  refine .skip (.seq (.block (.sr (.sA (.indexAddr J et_22 J J k J (YaU hlt) J) ?_))));refine .sA (.loadAgg J Ybh J J) ?_;refine .alloc 102 J J J J Ycs J J J ?_;refine .st J J J Ycc J (.head _) J J J (ZnB J) ?_;refine .freezeCells 5 (ds := c.things[k].ds) J (.head _) (.nil ?_);refine .region (.sA (.moveO J J) ?_);refine .fl YaW sc_3 ?_;refine .sA (.loadAgg J Ybh J J) ?_;refine .eff J J (.mapUpdateX (key := kI c.things[k].id) J J Yer YaC J (.head _) J (DExact.v _) J (Ya3 (hc.things _ (ZgM hlt)).id) (Ybp fun x hx => hc.things x (List.mem_of_mem_take hx)) (put_idx hr hlt)) (.nil ?_);refine .region (.sA (.add64 J J J) ?_);refine .mN ?_;refine ⟨k + 1, (by omega), (by dsimp only; omega), Sub.less ⟨U, U, U, U, trivial⟩ (Yf9 rfl)⟩
 rw [ZlM] at h1;obtain rfl : k = c.things.length := by omega
 rw [List.take_length];refine .exit (.seq (.freezeMap 3 J (.head _) ?_));refine .region (.ma (.nil ?_));refine .ret (rDq J ?_)
 all_goals (rfl)
end
end Go.Proofs.YtohllekllkcfiaaGreatDoor
