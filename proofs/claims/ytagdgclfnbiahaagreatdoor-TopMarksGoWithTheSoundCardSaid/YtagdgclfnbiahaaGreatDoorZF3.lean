/- Walks and laws over abstract values, merged by tools/merge.py. No statement of the seat. -/
import Derived.Shelf.Spec.SlicesInsert
import Derived.Shelf.Spec.SlicesInsertGrow
import Derived.Laws.MathBits
import Derived.WalkKit
import Derived.Ground.NamesProg
import Derived.Shelf.Strings.SlTrimAscii
import Derived.Shelf.Small.Strs
import Derived.Test.YtagdgclfnbiahaaGreatDoorProg
import Derived.Test.YtagdgclfnbiahaaGreatDoorZF2

namespace Go.Proofs.YtagdgclfnbiahaaGreatDoor
open Go.RowKit
set_option linter.unusedVariables false

/-- One operation, from worlds that keep what was there at the beginning. -/
def AOpK (cx : Cx) (ops : Array Oper) (o : Oper) (e : Env) (σ : Obs) (s : S) : Prop :=
  ∀ (F : Nat → Prop) (ρ : Nat → Value) (w : World) (a : Act), Kept cx.fr cx.w0 w → (∀ b, F b → b < w.heap.size) → (∀ t, t ∈ o.looksAt ops → RepS F ρ w (a.tmps.getD t undef) (e t)) → ObsOk cx.B F ρ w σ →
    o.wp cx.P a w (fun a' w' => ∃ v F', a' = a.put o.dst v ∧ RepS F' ρ w' v s ∧ Ext F w F' w') (fun _ _ _ => False)
def KRun (cx : Cx) (ops : Array Oper) (σ : Obs) : List Oper → Env → (Env → Prop) → Prop
  | [], e, Qe => Qe e
  | o :: l, e, Qe => DstOk cx.N o ∧ ((∃ s, GW ops o e true ∧ AOpK cx ops o e σ s ∧ KRun cx ops σ l (e.put o.dst s) Qe) ∨ (GW ops o e false ∧ KRun cx ops σ l (e.put o.dst (.d (.v undef))) Qe))

theorem KRun.nil {cx : Cx} {ops : Array Oper} {σ : Obs} {e : Env} {Qe : Env → Prop} (h : Qe e) : KRun cx ops σ [] e Qe := h
def KStep (cx : Cx) (ops : Array Oper) (σ : Obs) (o : Oper) (e : Env) (s : S) : Prop :=
  (GW ops o e true ∧ AOpK cx ops o e σ s) ∨ (GW ops o e false ∧ s = .d (.v undef))

def anyK (cx : Cx) (ops : Array Oper) (σ : Obs) (Qe : Env → Prop) : Nat → Array Bool → Env → Prop
  | 0, listed, e => Region.ready .any ops listed = [] ∧ Qe e
  | fuel + 1, listed, e => (Region.ready .any ops listed = [] → Qe e) ∧
      ∀ i ∈ Region.ready .any ops listed, ∀ o, ops[i]? = some o → ∃ s, KStep cx ops σ o e s ∧ anyK cx ops σ Qe fuel (listed.setIfInBounds i true) (e.put o.dst s)

end Go.Proofs.YtagdgclfnbiahaaGreatDoor

namespace Go.Proofs.YtagdgclfnbiahaaGreatDoor
open Go.RowKit
set_option linter.unusedVariables false

/-- What it is as data, while the own objects rest. -/
inductive Snap (σ : Obs) : S → D → Prop where
  | d (x : D) : Snap σ (.d x) x
  | any (s : S) : Snap σ s .any
  | le {s : S} {d d' : D} (h : Snap σ s d) (k : Le d d') : Snap σ s d'
  | row {id e size : Nat} {els : List (List D)} (h : (id, Ob.row e size els) ∈ σ) : Snap σ (.own id) (.sl els)
  | rowS {id e size : Nat} {els : List (List S)} {ds : List (List D)} (h : (id, Ob.rowS e size els) ∈ σ) (hl : els.length = ds.length) (hs : ∀ i (h1 : i < els.length) (h2 : i < ds.length), els[i].length = ds[i].length)
      (hr : ∀ i (h1 : i < els.length) (h2 : i < ds.length) j (h3 : j < els[i].length) (h4 : j < ds[i].length), Snap σ els[i][j] ds[i][j]) : Snap σ (.own id) (.sl ds)
  | val {id : Nat} {ss : List S} {ds : List D} (h : (id, Ob.val ss) ∈ σ) (hl : ss.length = ds.length) (hr : ∀ i (h1 : i < ss.length) (h2 : i < ds.length), Snap σ ss[i] ds[i]) : Snap σ (.own id) (.agg ds)
  | ptr {id off : Nat} {ss : List S} {ds : List D} (h : (id, Ob.cells ss) ∈ σ) (hl : off + ds.length ≤ ss.length) (hr : ∀ i (h1 : off + i < ss.length) (h2 : i < ds.length), Snap σ ss[off + i] ds[i]) : Snap σ (.ptr id off) (.fp ds)
  | ptrS {id e size k : Nat} {els : List (List S)} {ds : List D} (h : (id, Ob.rowS e size els) ∈ σ) (hk : k < els.length) (hl : els[k].length = ds.length) (hr : ∀ j (h1 : j < els[k].length) (h2 : j < ds.length), Snap σ els[k][j] ds[j]) : Snap σ (.ptr id (k * size)) (.fp ds)
  | clo {f : FuncId} {caps : List Cap} {ds : List D} (hl : caps.length = ds.length) (hr : ∀ i (h1 : i < caps.length) (h2 : i < ds.length), Snap σ caps[i].toS ds[i]) : Snap σ (.clo f caps) (.clo (.func f) ds)

/-- Data that holds no memory. -/
inductive Plain : D → Prop where
  | v (x : Value) : Plain (.v x)
  | any : Plain .any
  | agg (ds : List D) (h : ∀ d ∈ ds, Plain d) : Plain (.agg ds)
  | tup (ds : List D) (h : ∀ d ∈ ds, Plain d) : Plain (.tup ds)
def SnapArgs (e : Env) (σ : Obs) : List Operand → List D → Prop
  | [], [] => True
  | x :: xs, d :: ds => Snap σ (e.ev x) d ∧ SnapArgs e σ xs ds
  | _, _ => False
theorem SnapArgs.nil {e : Env} {σ : Obs} : SnapArgs e σ [] [] := trivial
section
variable {P : Program} {B : Nat} {ops : Array Oper} {o : Oper} {e : Env} {σ : Obs}
/-- What of it is data. -/
def S.weak : S → D
  | .d x => x
  | _ => .any
def Ob.weak : Ob → Ob
  | .rowS e size els => .row e size (els.map fun ss => ss.map S.weak)
  | o => o
def Obs.weak : Obs → Obs
  | [] => []
  | p :: l => (p.1, p.2.weak) :: Obs.weak l
end
section
variable {cx : Cx} {ops : Array Oper} {o : Oper} {rest : List Oper} {e : Env} {σ : Obs} {Q : Post}
end
end Go.Proofs.YtagdgclfnbiahaaGreatDoor

namespace Go.Proofs.YtagdgclfnbiahaaGreatDoor
open Go.RowKit
set_option linter.unusedVariables false

/-- One cell's worth. -/
def OneS (σ : Obs) (s : S) : Prop := (∃ x : D, s = .d x ∧ x.one = true ∧ x.parts = [x]) ∨ ∃ i ee size els, s = .own i ∧ (i, Ob.row ee size els) ∈ σ
theorem OneS.d {σ : Obs} {x : D} (h1 : x.one = true) (h2 : x.parts = [x]) : OneS σ (.d x) := .inl ⟨x, rfl, h1, h2⟩
theorem OneS.own {σ : Obs} {i ee size : Nat} {els : List (List D)} (h : (i, Ob.row ee size els) ∈ σ) : OneS σ (.own i) := .inr ⟨i, ee, size, els, rfl, h⟩
section
variable {cx : Cx} {ops : Array Oper} {o : Oper} {rest : List Oper} {e : Env} {σ : Obs} {Q : Post}
end
/-! A family of own rows: the numbers b + k, b + k + 1, .. -/
def fam (e size : Nat) : Nat → List (List (List D)) → Obs
  | _, [] => []
  | b, x :: l => (b, .row e size x) :: fam e size (b + 1) l
end Go.Proofs.YtagdgclfnbiahaaGreatDoor

namespace Go.Proofs.YtagdgclfnbiahaaGreatDoor
open Go.RowKit Go.Shelf
set_option linter.unusedVariables false

/-- What Insert does with an own row. -/
structure InsEnd (B : Nat) (e : TypeId) (w : World) (v : Value) (n : Nat) (ys : List Value) (v' : Value) (w' : World) : Prop where
  own : w'.ownsRow B e 1 v' n ys
  turn : Turn w w' (blk v)
  new : ∀ g, blk v' = some g → blk v = some g ∨ w.heap.size ≤ g

end Go.Proofs.YtagdgclfnbiahaaGreatDoor

namespace Go.Proofs.YtagdgclfnbiahaaGreatDoor
open Go.RowKit
set_option linter.unusedVariables false

/-- From k on each one waits for all before it but for the first b. -/
def Region.chain1B (ops : Array Oper) (b k : Nat) : Bool := Region.downB ops && Nat.ble k ops.size && Nat.ble b k && (List.range (ops.size - 1)).all fun j =>
  Nat.blt j b || (List.range ops.size).any fun m => Nat.blt j m && (Nat.ble m k || Nat.ble m (j + 1)) && Region.edge ops m j
structure Chain1 (ops : Array Oper) (b k : Nat) : Prop where
  down : Region.downB ops = true
  le : k ≤ ops.size
  bk : b ≤ k
  next : ∀ j, b ≤ j → j < ops.size - 1 → ∃ m, j < m ∧ (m ≤ k ∨ m ≤ j + 1) ∧ Region.edge ops m j = true
section
variable {P : Program} {ops : Array Oper} {Q Q0 : Exit → Act → World → Prop} {b k : Nat}
end

def notSelect (o : Oper) : Bool := match o.op with | .select _ _ => false | _ => true
end Go.Proofs.YtagdgclfnbiahaaGreatDoor

namespace Go.Proofs.YtagdgclfnbiahaaGreatDoor
open Go.RowKit Go.Shelf
set_option linter.unusedVariables false

def intC (n : Int) : List D := [.v (.int .i64 n)]
section
variable {cx : Cx} {ops : Array Oper} {o : Oper} {rest : List Oper} {e : Env} {σ : Obs} {Q : Post}
end
section
variable {cx : Cx} {ops : Array Oper} {o : Oper} {rest : List Oper} {e : Env} {σ : Obs} {Q : Post}
end
def apartB (ops : Array Oper) (o0 : Oper) : Bool := (List.range ops.size).all fun j => Nat.beq j 0 || Region.edge ops j 0 || ((ops[j]?).map fun oj => o0.apart ops oj).getD true
def dstB (Φ : List Fr) (l : List Oper) : Bool := Φ.all fun f => (List.range l.length).all fun i => (List.range l.length).all fun j => Nat.beq i j || ((l[i]?).map fun o => neDst o f.dst).getD true || ((l[j]?).map fun o => neDst o f.dst).getD true
def openB (l : List Oper) (k2 k : Nat) (o0 : Oper) : Bool := Nat.blt 0 k2 && Nat.ble k2 k && Region.chainB l.toArray k && Region.chain1B (l.take k).toArray 1 k2 && (l.take k).all notSelect && apartB (l.take k).toArray o0 && (Array.all o0.after fun e => !(Region.binds .any e)) && Region.lexFrom .any (l.take k2).toArray (k2 - 1) 1 ((Array.replicate k2 false).setIfInBounds 0 true)
end Go.Proofs.YtagdgclfnbiahaaGreatDoor

namespace Go.Proofs.YtagdgclfnbiahaaGreatDoor
open Go.RowKit
set_option linter.unusedVariables false

def OneC (σ : Obs) (s : S) : Prop := OneS σ s ∨ ∃ id off, s = .ptr id off
section
variable {cx : Cx} {ops : Array Oper} {o : Oper} {rest : List Oper} {e : Env} {σ : Obs} {Q : Post}
end
/-! One object takes another's place. -/
def S.ren (i j : Nat) : S → S
  | .own k => match Nat.beq k i with | true => .own j | false => match Nat.beq k j with | true => .d .any | false => .own k
  | .ptr k off => match Nat.beq k i with | true => .ptr j off | false => match Nat.beq k j with | true => .d .any | false => .ptr k off
  | .d x => .d x
  | .clo f caps => .d .any
def Ob.ren (i j : Nat) : Ob → Ob
  | .row e size els => .row e size els
  | .cells ss => .cells (ss.map (S.ren i j))
  | .cellsT e ss => .cellsT e (ss.map (S.ren i j))
  | .map M => .map M
  | .rowS e size els => .rowS e size (els.map fun ss => ss.map (S.ren i j))
  | .bts l => .bts l
  | .val ss => .val (ss.map (S.ren i j))
  | .iter M done => .iter M done
section
variable {cx : Cx} {ops : Array Oper} {rest : List Oper} {e : Env} {σ : Obs} {Q : Post}
end
end Go.Proofs.YtagdgclfnbiahaaGreatDoor

namespace Go.Proofs.YtagdgclfnbiahaaGreatDoor
open Go.RowKit
set_option linter.unusedVariables false

section
variable {P : Program} {B : Nat} {ops : Array Oper} {o : Oper} {e : Env} {σ : Obs}
theorem AOp.andG {t ty : TypeId} {x y : Operand} {a b : Int} {k : IntKind} (ho : o.op = .binOp .and t x y ty) (hx : e.ev x = .d (.v (.int k a))) (hy : e.ev y = .d (.v (.int k b))) : AOp P B ops o e σ (.d (.v (.int k (bits .and k a b)))) :=
  .bin ho hx hy fun w => by
    rw [Sem.run_bind, eqGuard_int]
    simp only [Result.andThen_ok, binOp]
    rw [if_neg (fun h => h rfl)]
    rfl
theorem AOp.orG {t ty : TypeId} {x y : Operand} {a b : Int} {k : IntKind} (ho : o.op = .binOp .or t x y ty) (hx : e.ev x = .d (.v (.int k a))) (hy : e.ev y = .d (.v (.int k b))) : AOp P B ops o e σ (.d (.v (.int k (bits .or k a b)))) :=
  .bin ho hx hy fun w => by
    rw [Sem.run_bind, eqGuard_int]
    simp only [Result.andThen_ok, binOp]
    rw [if_neg (fun h => h rfl)]
    rfl
theorem AOp.xorG {t ty : TypeId} {x y : Operand} {a b : Int} {k : IntKind} (ho : o.op = .binOp .xor t x y ty) (hx : e.ev x = .d (.v (.int k a))) (hy : e.ev y = .d (.v (.int k b))) : AOp P B ops o e σ (.d (.v (.int k (bits .xor k a b)))) :=
  .bin ho hx hy fun w => by
    rw [Sem.run_bind, eqGuard_int]
    simp only [Result.andThen_ok, binOp]
    rw [if_neg (fun h => h rfl)]
    rfl
/-- a >> n, of 64 bits without a sign -/
theorem AOp.shrG {t ty : TypeId} {x y : Operand} {a n : Int} {k j : IntKind} (ho : o.op = .binOp .shr t x y ty) (hx : e.ev x = .d (.v (.int k a))) (hy : e.ev y = .d (.v (.int j n))) (h0 : 0 ≤ n) (h1 : n ≤ k.bits) : AOp P B ops o e σ (.d (.v (.int k (a / 2 ^ n.toNat)))) :=
  .bin ho hx hy fun w => by
  rw [Sem.run_bind, eqGuard_int]
  simp only [Result.andThen_ok, binOp, Op.shift]
  rw [if_neg (by omega)]
  have h2 : Min.min n.toNat k.bits = n.toNat := by omega
  rw [h2]
  simp only [Sem.run_pure]
  congr 3
  exact Int.fdiv_eq_ediv_of_nonneg _ (Int.le_of_lt (Int.pow_pos (by decide)))
/-- a << n -/
theorem AOp.shlG {t ty : TypeId} {x y : Operand} {a n : Int} {k j : IntKind} (ho : o.op = .binOp .shl t x y ty) (hx : e.ev x = .d (.v (.int k a))) (hy : e.ev y = .d (.v (.int j n))) (h0 : 0 ≤ n) (h1 : n ≤ k.bits) : AOp P B ops o e σ (.d (.v (.int k (k.wrap (a * 2 ^ n.toNat))))) :=
  .bin ho hx hy fun w => by
  rw [Sem.run_bind, eqGuard_int]
  simp only [Result.andThen_ok, binOp, Op.shift]
  rw [if_neg (by omega)]
  have h2 : Min.min n.toNat k.bits = n.toNat := by omega
  rw [h2]
  simp only [Sem.run_pure]
/-- -n -/
theorem AOp.neg64 {t : TypeId} {x : Operand} {n : Int} (ho : o.op = .unOp .neg t x) (hx : e.ev x = .d (.v (.int .i64 n))) (h0 : -9223372036854775807 ≤ n) (h1 : n ≤ 9223372036854775807) : AOp P B ops o e σ (.d (.v (.int .i64 (-n)))) := .value fun F ρ w a hF hr _ => by
  have h2 := hr x (by rw [ho]; simp [Op.operands])
  rw [hx] at h2
  refine ⟨_, F, w, ?_, .d (.v _), Ext.refl hF⟩
  unfold execOp
  simp only [ho, repS_v h2, Op.unary, Op.intArith]
  rw [show (0 : Int) - n = -n by omega, w64 (by omega) (by omega)]
  rfl
end
end Go.Proofs.YtagdgclfnbiahaaGreatDoor

namespace Go.Proofs.YtagdgclfnbiahaaGreatDoor
open Go.RowKit
set_option linter.unusedVariables false

/-! Types. -/
namespace TyXB
theorem ag_24 : AggT Tryz.prog 24 2 := .of (by kernel_rfl)
theorem et_22 : ElemTy Tryz.prog 22 25 1 24 (.slice none 0 0) := ⟨by kernel_rfl, by kernel_rfl, by kernel_rfl, by decide⟩
theorem et_25 : ElemTy Tryz.prog 25 3 1 8 (.int .i64 0) := ⟨by kernel_rfl, by kernel_rfl, by kernel_rfl, by decide⟩
theorem fo_24_0 : fieldOff Tryz.prog 24 0 = some 0 := by kernel_rfl
theorem fo_24_1 : fieldOff Tryz.prog 24 1 = some 1 := by kernel_rfl
theorem sc_22 : Scal Tryz.prog 22 := .of (by kernel_rfl)
theorem sc_25 : Scal Tryz.prog 25 := .of (by kernel_rfl)
theorem sc_3 : Scal Tryz.prog 3 := .of (by kernel_rfl)
theorem sz_3 : ∀ w, (sizeOf 3).run Tryz.prog w = .ok 1 w := SizeT.of (by kernel_rfl)
end TyXB
open TyXA TyXB

set_option linter.unusedSimpArgs false
theorem at_lst {α : Type} {l : List α} {f : α → List D} {k : Nat} (h : k < l.length) : (l.map f)[k]? = some (f l[k]) := by simp [h]
theorem SLe.i64 {a b : Int} (h : a = b) : SLe (S.d (D.v (Value.int .i64 a))) (S.d (D.v (Value.int .i64 b))) := SLe.of_eq (by rw [h])
theorem takeS {α : Type} {l : List α} {k : Nat} (h : k < l.length) : l.take (k + 1) = l.take k ++ [l[k]] := by
  rw [List.take_add_one, List.getElem?_eq_getElem h]; rfl
theorem row_eqP {e s : Nat} {A B : List (List D)} (h : A = B) : Ob.row e s A = Ob.row e s B := congrArg (Ob.row e s) h
theorem row_sameP {id e s : Nat} {a b : List (List D)} {τ : Obs} (h : a = b) : ∀ p ∈ [(id, Ob.row e s b)], p ∈ (id, Ob.row e s a) :: τ := fun p hp => by
  rcases List.mem_cons.1 hp with rfl | hp
  · rw [h]; exact .head _
  · cases hp
theorem head_at {s : Snd} (h : 0 < s.tracks.length) : (s.tracks.map trD)[0]? = some (trD s.tracks[0]) := at_lst h
theorem head_len {s : Snd} (h : 0 < s.tracks.length) : s.tracks[0].length = s.len := by
  unfold Snd.len
  obtain ⟨r, tr⟩ := s
  cases tr with
  | nil => simp at h
  | cons t l => rfl
theorem snd_1 {s : Snd} (h : ¬ (1 ≤ s.rate ∧ s.rate ≤ 1000000)) : sndF s = 1 := if_pos h
theorem snd_9 {s : Snd} (h : 1 ≤ s.rate ∧ s.rate ≤ 1000000) (h2 : s.tracks.length = 0) : sndF s = 9 := (if_neg (fun hh => hh h)).trans (if_pos h2)
theorem snd_2 {s : Snd} (h : 1 ≤ s.rate ∧ s.rate ≤ 1000000) (h2 : ¬ s.tracks.length = 0) (h3 : 16 < s.tracks.length ∨ 100000 < s.len) : sndF s = 2 := (if_neg (fun hh => hh h)).trans ((if_neg h2).trans (if_pos h3))
theorem snd_k {s : Snd} (h : 1 ≤ s.rate ∧ s.rate ≤ 1000000) (h2 : ¬ s.tracks.length = 0) (h3 : ¬ (16 < s.tracks.length ∨ 100000 < s.len)) : sndF s = fst (tkF s.len s.tracks) s.tracks.length := (if_neg (fun hh => hh h)).trans ((if_neg h2).trans (if_neg h3))
theorem tk_3 {n : Nat} {l : List (List Int)} {k : Nat} (hk : k < l.length) (h : l[k].length ≠ n) : tkF n l k = 3 := by unfold tkF; rw [dif_pos hk, if_pos h]
theorem tk_s {n : Nat} {l : List (List Int)} {k : Nat} (hk : k < l.length) (h : ¬ l[k].length ≠ n) : tkF n l k = fst (smF l[k]) l[k].length := by unfold tkF; rw [dif_pos hk, if_neg h]
theorem sm_0 {t : List Int} {i : Nat} (hi : i < t.length) (h : -8388608 ≤ t[i] ∧ t[i] ≤ 8388607) : smF t i = 0 := by unfold smF; rw [dif_pos hi, if_pos h]
theorem sm_1 {t : List Int} {i : Nat} (hi : i < t.length) (h : ¬ (-8388608 ≤ t[i] ∧ t[i] ≤ 8388607)) : smF t i = 1 := by unfold smF; rw [dif_pos hi, if_neg h]
/-! ## Rows of numbers by what lies where -/
def rwI (f : Nat → Int) (n : Nat) : List (List D) := (List.range n).map fun i => sI (f i)
theorem rwI_len (f : Nat → Int) (n : Nat) : (rwI f n).length = n := by unfold rwI; simp
theorem rwI_at {f : Nat → Int} {n k : Nat} (h : k < n) : (rwI f n)[k]? = some (sI (f k)) := by unfold rwI; simp [h]
theorem rwI_congr {f g : Nat → Int} {n : Nat} (h : ∀ i, i < n → f i = g i) : rwI f n = rwI g n := by
  unfold rwI
  refine List.map_congr_left fun i hi => ?_
  rw [h i (List.mem_range.1 hi)]
theorem rwI_set {f g : Nat → Int} {n k : Nat} {v : Int} (hk : k < n) (h : ∀ i, i < n → g i = if i = k then v else f i) : (rwI f n).set k (sI v) = rwI g n := by
  unfold rwI
  refine List.ext_getElem (by simp) fun i h1 h2 => ?_
  have hi : i < n := by simpa using h2
  rw [List.getElem_set, List.getElem_map, List.getElem_map, List.getElem_range, h i hi]
  by_cases e : k = i
  · subst e; simp
  · rw [if_neg e, if_neg (fun hh => e hh.symm)]
theorem rwI_zero (n : Nat) : List.replicate n [D.v (.int .i64 0)] = rwI (fun _ => 0) n := by
  unfold rwI
  exact (List.eq_replicate_iff.2 ⟨by simp, fun x hx => by obtain ⟨i, _, rfl⟩ := List.mem_map.1 hx; rfl⟩).symm
theorem rwI_lst (f : Nat → Int) (n : Nat) : rwI f n = ((List.range n).map f).map sI := by unfold rwI; rw [List.map_map]; rfl
/-- What lies at the level j before the sample i of the track k. -/
def lvK (s : Snd) (p n k i j : Nat) : Int := sumT p n (s.tracks.take k) j + pre p (s.tracks.getD k []) i j
theorem lvK_0 (s : Snd) (p n k j : Nat) : lvK s p n k 0 j = sumT p n (s.tracks.take k) j := by unfold lvK; show _ + (0 : Int) = _; omega
theorem lvK_end {s : Snd} {p n k j : Nat} (h : k < s.tracks.length) : lvK s p n k n j = sumT p n (s.tracks.take (k + 1)) j := by
  unfold lvK
  rw [takeS h, sumT_snoc, List.getD_eq_getElem?_getD, List.getElem?_eq_getElem h]; rfl
theorem lvK_next {s : Snd} {p n k i : Nat} (hk : k < s.tracks.length) (hi : i < s.tracks[k].length) (j : Nat) : lvK s p n k (i + 1) j = if j = i / p then lvK s p n k i (i / p) + max s.tracks[k][i] (-s.tracks[k][i]) else lvK s p n k i j := by
  unfold lvK
  show _ + (pre p (s.tracks.getD k []) i j + if i / p = j then absI ((s.tracks.getD k []).getD i 0) else 0) = _
  have e : s.tracks.getD k [] = s.tracks[k] := by rw [List.getD_eq_getElem?_getD, List.getElem?_eq_getElem hk]; rfl
  have e2 : s.tracks[k].getD i 0 = s.tracks[k][i] := by rw [List.getD_eq_getElem?_getD, List.getElem?_eq_getElem hi]; rfl
  rw [e, e2]
  by_cases h : j = i / p
  · rw [if_pos h, if_pos h.symm, h]; unfold absI; omega
  · rw [if_neg h, if_neg (fun hh => h hh.symm)]; omega
theorem lvK_rng {s : Snd} (ok : SndOk s) {p n k i j : Nat} (hk : k < s.tracks.length) (hn : n ≤ 100000) (hi : i ≤ 100000) : 0 ≤ lvK s p n k i j ∧ lvK s p n k i j ≤ 15000000000000 := by
  have h1 := sumT_rng (p := p) (n := n) (j := j) (l := s.tracks.take k) fun t ht => ok.smp t (List.mem_of_mem_take ht)
  have e : s.tracks.getD k [] = s.tracks[k] := by rw [List.getD_eq_getElem?_getD, List.getElem?_eq_getElem hk]; rfl
  have h2 := pre_rng (t := s.tracks.getD k []) (by rw [e]; exact ok.smp _ (List.getElem_mem hk)) p j i
  rw [List.length_take] at h1
  have htl := ok.tl
  have h3 : 8388608 * (n : Int) * ((min k s.tracks.length : Nat) : Int) ≤ 838860800000 * 16 := Int.mul_le_mul (by omega) (by omega) (by omega) (by omega)
  unfold lvK
  omega
theorem levS_eq {s : Snd} (p : Nat) : (fun j => sumT p (s.len / p * p) (s.tracks.take s.tracks.length) j) = levS s p := by funext j; rw [List.take_length]; rfl
/-! ## Bits -/
theorem or_bit (m : Int) (i : Nat) (hi : i < 8) (h0 : 0 ≤ m) (h1 : m < 2 ^ i) : bits .or .i64 m (2 ^ i) = m + 2 ^ i := by
  have key : ∀ i : Fin 8, ∀ n : Fin 128, n.val < 2 ^ i.val → bits .or .i64 (n.val : Int) (2 ^ i.val) = (n.val : Int) + 2 ^ i.val := by decide +kernel
  obtain ⟨n, rfl⟩ := Int.eq_ofNat_of_zero_le h0
  have h2 : n < 2 ^ i := by exact_mod_cast h1
  have h3 : 2 ^ i ≤ 2 ^ 7 := Nat.pow_le_pow_right (by decide) (by omega)
  exact key ⟨i, hi⟩ ⟨n, by omega⟩ h2
theorem shl_bit (i : Nat) (hi : i < 8) : IntKind.i64.wrap (1 * 2 ^ ((i : Int)).toNat) = 2 ^ i := by
  have key : ∀ i : Fin 8, IntKind.i64.wrap (1 * 2 ^ ((i.val : Int)).toNat) = 2 ^ i.val := by decide +kernel
  exact key ⟨i, hi⟩
theorem mk_step {f : Nat → Int} {k i : Nat} (hi : i < 8) (h : f (k + i) < f (k + i + 1)) : bits .or .i64 (mkB f k i) (2 ^ i) = mkB f k (i + 1) := by
  have := mkB_rng f k i
  rw [or_bit _ i hi this.1 this.2]
  show _ = mkB f k i + if _ then _ else _
  rw [if_pos h]
theorem mk_stay {f : Nat → Int} {k i : Nat} (h : ¬ f (k + i) < f (k + i + 1)) : mkB f k i = mkB f k (i + 1) := by
  show _ = mkB f k i + if _ then _ else _
  rw [if_neg h]; omega
def mrkF (s : Snd) (part : Int) : Int := if sndF s ≠ 0 then sndF s else if ¬ (1 ≤ part ∧ part ≤ 100000) then 1 else 0
def mrkR (s : Snd) (part : Int) : Int := if mrkF s part ≠ 0 then mrkF s part else if 500 + 8 < s.len / part.toNat then 2 else 0
def mrkV (s : Snd) (part : Int) : List Int := if mrkR s part = 0 then mrkL s part.toNat else []

set_option maxRecDepth 100000 in
set_option maxHeartbeats 1000000 in
theorem c_isSm (n : Int) : ACall Tryz.prog 34 [.v (.int .i64 n)] (.v (.bool (decide (-8388608 ≤ n ∧ n ≤ 8388607)))) := by
 refine acall_of (n := 9) (ds' := [.v (.bool (decide (-8388608 ≤ n ∧ n ≤ 8388607)))]) Tryz.func34 rfl (by kernel_rfl) rfl [2] rfl rfl ?_
 intro B w0 F0 fr
 refine .sr ?_
 refine .aA (.nil ?_)
 refine .sr ?_
 refine .mA ?_
 refine .sA (.geq rfl rfl rfl) ?_
 refine .mA ?_
 refine .split 5 rfl (fun g1 => ?_) (fun g1 => ?_)
 ·replace g1 := of_decide_eq_true g1
  refine .sG (.moveD rfl rfl) ?_
  refine .sG (.leq rfl rfl rfl) ?_
  refine .sA (.pickT rfl rfl rfl) ?_
  refine .aA (.nil ?_)
  refine .ret ?_
  refine ⟨RetD.eq rfl ?_, trivial⟩
  all_goals (simp; omega)
 replace g1 := of_decide_eq_false g1
 refine .pA ?_
 refine .pA ?_
 refine .sA (.pickF rfl rfl rfl) ?_
 refine .aA (.nil ?_)
 refine .ret ?_
 refine ⟨RetD.eq rfl ?_, trivial⟩
 all_goals (simp; omega)

set_option maxRecDepth 100000 in
set_option maxHeartbeats 1000000 in
theorem c_rate (n : Int) : ACall Tryz.prog 26 [.v (.int .i64 n)] (.v (.bool (decide (1 ≤ n ∧ n ≤ 1000000)))) := by
 refine acall_of (n := 9) (ds' := [.v (.bool (decide (1 ≤ n ∧ n ≤ 1000000)))]) Tryz.func26 rfl (by kernel_rfl) rfl [2] rfl rfl ?_
 intro B w0 F0 fr
 refine .sr ?_
 refine .aA (.nil ?_)
 refine .sr ?_
 refine .mA ?_
 refine .sA (.geq rfl rfl rfl) ?_
 refine .mA ?_
 refine .split 5 rfl (fun g1 => ?_) (fun g1 => ?_)
 ·replace g1 := of_decide_eq_true g1
  refine .sG (.moveD rfl rfl) ?_
  refine .sG (.leq rfl rfl rfl) ?_
  refine .sA (.pickT rfl rfl rfl) ?_
  refine .aA (.nil ?_)
  refine .ret ?_
  refine ⟨RetD.eq rfl ?_, trivial⟩
  all_goals (simp; omega)
 replace g1 := of_decide_eq_false g1
 refine .pA ?_
 refine .pA ?_
 refine .sA (.pickF rfl rfl rfl) ?_
 refine .aA (.nil ?_)
 refine .ret ?_
 refine ⟨RetD.eq rfl ?_, trivial⟩
 all_goals (simp; omega)

set_option maxRecDepth 100000 in
set_option maxHeartbeats 1000000 in
theorem c_len (s : Snd) (h : 0 < s.tracks.length) : ACall Tryz.prog 33 [.agg s.ds] (.v (.int .i64 (s.len : Int))) := by
 refine acall_of (n := 8) (ds' := [.v (.int .i64 (s.len : Int))]) Tryz.func33 rfl (by kernel_rfl) rfl [2] rfl rfl ?_
 intro B w0 F0 fr
 refine .sr ?_
 refine .sA (.box rfl rfl rfl) ?_
 refine .aA (.nil ?_)
 refine .sr ?_
 refine .sA (.fieldAddr rfl fo_24_1 rfl) ?_
 refine .sA (.load rfl sc_22 rfl) ?_
 refine .sA (.indexAddr rfl et_22 rfl rfl 0 rfl (head_at h) rfl) ?_
 refine .sA (.load rfl sc_25 rfl) ?_
 refine .sA (.lenSl rfl et_25.ht rfl) ?_
 rw [List.length_map, head_len h]
 refine .aA (.nil ?_)
 refine .ret ?_
 refine ⟨RetD.eq rfl ?_, trivial⟩
 all_goals (rfl)

set_option maxRecDepth 100000 in
set_option maxHeartbeats 1000000 in
theorem c_chk (s : Snd) : ACall Tryz.prog 13 [.agg s.ds] (.v (.int .i64 (sndF s))) := by
 refine acall_of (n := 50) (ds' := [.v (.int .i64 (sndF s))]) Tryz.func13 rfl (by kernel_rfl) rfl [2] rfl rfl ?_
 intro B w0 F0 fr
 refine .sr ?_
 refine .sA (.box rfl rfl rfl) ?_
 refine .aA (.nil ?_)
 refine .seq ?_
 refine .block ?_
 refine .sr ?_
 refine .sA (.fieldAddr rfl fo_24_0 rfl) ?_
 refine .sA (.load rfl sc_3 rfl) ?_
 refine .sA (.call rfl (.cons (.rfl' rfl) .nil) (c_rate _)) ?_
 refine .sA (.not rfl rfl) ?_
 refine .aA (.nil ?_)
 refine .cond rfl (fun h1 => ?_) (fun h1 => ?_)
 ·replace h1 := bnot_t h1; replace h1 := of_decide_eq_false h1
  rw [snd_1 h1]
  refine .sr ?_
  refine .aA (.nil ?_)
  refine .ret ?_
  refine ⟨RetD.eq rfl ?_, trivial⟩
  all_goals (first | rfl)
 replace h1 := bnot_f h1; replace h1 := of_decide_eq_true h1
 have n1 := h1
 refine .sr ?_
 refine .sA (.fieldAddr rfl fo_24_1 rfl) ?_
 refine .sA (.load rfl sc_22 rfl) ?_
 refine .sA (.lenSl rfl et_22.ht rfl) ?_
 refine .sA (.eql rfl rfl rfl) ?_
 refine .aA (.nil ?_)
 refine .cond rfl (fun h2 => ?_) (fun h2 => ?_)
 ·replace h2 := of_decide_eq_true h2
  rw [List.length_map] at h2
  rw [snd_9 n1 (by omega)]
  refine .sr ?_
  refine .aA (.nil ?_)
  refine .ret ?_
  refine ⟨RetD.eq rfl ?_, trivial⟩
  all_goals (first | rfl)
 replace h2 := of_decide_eq_false h2
 rw [List.length_map] at h2
 have n2 : ¬ s.tracks.length = 0 := by omega
 refine .sr ?_
 refine .sA (.fieldAddr rfl fo_24_1 rfl) ?_
 refine .sA (.load rfl sc_22 rfl) ?_
 refine .sA (.lenSl rfl et_22.ht rfl) ?_
 refine .sA (.gtr rfl rfl rfl) ?_
 refine .mA ?_
 refine .split 22 rfl (fun g3 => ?_) (fun g3 => ?_)
 ·replace g3 := of_decide_eq_true g3
  rw [List.length_map] at g3
  rw [snd_2 n1 n2 (by omega)]
  refine .pA ?_
  refine .pA ?_
  refine .pA ?_
  refine .sA (.pickT rfl rfl rfl) ?_
  refine .aA (.nil ?_)
  refine .cond rfl (fun _ => ?_) (fun h => nomatch h)
  refine .sr ?_
  refine .aA (.nil ?_)
  refine .ret ?_
  refine ⟨RetD.eq rfl ?_, trivial⟩
  all_goals (first | rfl)
 replace g3 := of_decide_eq_false g3
 rw [List.length_map] at g3
 refine .sG (.loadAgg rfl ag_24 rfl rfl) ?_
 refine .sG (.call rfl (.cons (.rfl' rfl) .nil) (c_len s (by omega))) ?_
 refine .sG (.gtr rfl rfl rfl) ?_
 refine .sA (.pickF rfl rfl rfl) ?_
 refine .aA (.nil ?_)
 refine .cond rfl (fun h4 => ?_) (fun h4 => ?_)
 ·replace h4 := of_decide_eq_true h4
  have HF := snd_2 n1 n2 (by omega)
  rw [HF]
  refine .sr ?_
  refine .aA (.nil ?_)
  refine .ret ?_
  refine ⟨RetD.eq rfl ?_, trivial⟩
  all_goals (first | rfl)
 replace h4 := of_decide_eq_false h4
 have n3 : ¬ (16 < s.tracks.length ∨ 100000 < s.len) := by omega
 have HK := snd_k n1 n2 n3
 rw [HK]
 refine .skip ?_
 refine .seq ?_
 refine .sr ?_
 refine .sA (.fieldAddr rfl fo_24_1 rfl) ?_
 refine .sA (.load rfl sc_22 rfl) ?_
 refine .sA (.lenSl rfl et_22.ht rfl) ?_
 refine .mA (.nil ?_)
 refine .block ?_
 refine .loop (G := Nat) (fun k => Env.of [(30, .d (.v (.int .i64 (k : Int)))), (28, .d (.sl (s.tracks.map trD))), (29, .d (.v (.int .i64 ((s.tracks.map trD).length : Int)))), (1, .d (.fp s.ds))]) (fun k => []) (fun k => k ≤ s.tracks.length ∧ fst (tkF s.len s.tracks) k = 0) (fun k => s.tracks.length - k) 0 ⟨Nat.zero_le _, rfl⟩ (Sub.less ⟨(SLe.of_eq rfl), SLe.refl _, SLe.refl _, SLe.refl _, trivial⟩ (fun _ h => h)) ?_
 intro k hk
 refine .sr ?_
 refine .sA (.lss rfl rfl rfl) (.nil ?_)
 refine .seq ?_
 refine .cond rfl (fun h5 => ?_) (fun h5 => ?_)
 ·replace h5 := of_decide_eq_true h5
  rw [List.length_map] at h5
  have hlt : k < s.tracks.length := by omega
  refine .skip ?_
  refine .seq ?_
  refine .block ?_
  refine .sr ?_
  refine .sA (.indexAddr rfl et_22 rfl rfl k rfl (at_lst hlt) rfl) ?_
  refine .sA (.load rfl sc_25 rfl) ?_
  refine .aA (.nil ?_)
  refine .seq ?_
  refine .sr ?_
  refine .mA ?_
  refine .sA (.lenSl rfl et_25.ht rfl) ?_
  refine .sA (.loadAgg rfl ag_24 rfl rfl) ?_
  refine .sA (.call rfl (.cons (.rfl' rfl) .nil) (c_len s (by omega))) ?_
  refine .sA (.neq rfl rfl rfl) (.nil ?_)
  refine .cond rfl (fun h6 => ?_) (fun h6 => ?_)
  ·replace h6 := of_decide_eq_true h6
   rw [List.length_map] at h6
   have h3 : s.tracks[k].length ≠ s.len := by omega
   rw [fst_hit hk.2 (by rw [tk_3 hlt h3]; decide) _ hlt, tk_3 hlt h3]
   refine .sr ?_
   refine .aA (.nil ?_)
   refine .ret ?_
   refine ⟨RetD.eq rfl ?_, trivial⟩
   all_goals (first | rfl)
  replace h6 := of_decide_eq_false h6
  rw [List.length_map] at h6
  have h3 : ¬ s.tracks[k].length ≠ s.len := by omega
  refine .skip ?_
  refine .sr ?_
  refine .mA ?_
  refine .sA (.lenSl rfl et_25.ht rfl) ?_
  refine .mA (.nil ?_)
  refine .block ?_
  refine .loop (G := Nat) (fun i => Env.of [(41, .d (.v (.int .i64 (i : Int)))), (39, .d (.sl (s.tracks[k].map sI))), (40, .d (.v (.int .i64 ((s.tracks[k].map sI).length : Int)))), (30, .d (.v (.int .i64 (k : Int)))), (28, .d (.sl (s.tracks.map trD))), (29, .d (.v (.int .i64 ((s.tracks.map trD).length : Int)))), (1, .d (.fp s.ds))]) (fun i => []) (fun i => i ≤ s.tracks[k].length ∧ fst (smF s.tracks[k]) i = 0) (fun i => s.tracks[k].length - i) 0 ⟨Nat.zero_le _, rfl⟩ (Sub.less ⟨(SLe.of_eq rfl), SLe.refl _, SLe.refl _, SLe.refl _, SLe.refl _, SLe.refl _, SLe.refl _, trivial⟩ (fun _ h => h)) ?_
  intro i hi
  refine .sr ?_
  refine .sA (.lss rfl rfl rfl) (.nil ?_)
  refine .seq ?_
  refine .cond rfl (fun h7 => ?_) (fun h7 => ?_)
  ·replace h7 := of_decide_eq_true h7
   rw [List.length_map] at h7
   have hil : i < s.tracks[k].length := by omega
   refine .skip ?_
   refine .seq ?_
   refine .block ?_
   refine .sr ?_
   refine .sA (.indexAddr rfl et_25 rfl rfl i rfl (at_lst hil) rfl) ?_
   refine .sA (.load rfl sc_3 rfl) ?_
   refine .aA (.nil ?_)
   refine .sr ?_
   refine .mA ?_
   refine .sA (.call rfl (.cons (.rfl' rfl) .nil) (c_isSm _)) ?_
   refine .sA (.not rfl rfl) (.nil ?_)
   refine .cond rfl (fun h8 => ?_) (fun h8 => ?_)
   ·replace h8 := bnot_t h8; replace h8 := of_decide_eq_false h8
    have HX := fst_hit hi.2 (show smF s.tracks[k] i ≠ 0 by rw [sm_1 hil h8]; decide) _ hil
    rw [sm_1 hil h8] at HX
    have HY := (tk_s hlt h3).trans HX
    rw [fst_hit hk.2 (by rw [HY]; decide) _ hlt, HY]
    refine .sr ?_
    refine .aA (.nil ?_)
    refine .ret ?_
    refine ⟨RetD.eq rfl ?_, trivial⟩
    all_goals (first | rfl)
   replace h8 := bnot_f h8; replace h8 := of_decide_eq_true h8
   have HS := sm_0 hil h8
   refine .skip ?_
   refine .region ?_
   refine .sA (.add64 rfl rfl rfl (by omega) (by omega)) ?_
   refine .mA (.nil ?_)
   refine ⟨i + 1, ⟨by omega, fst_next hi.2 HS⟩, (by dsimp only; omega), Sub.less ⟨(SLe.of_eq rfl), SLe.refl _, SLe.refl _, SLe.refl _, SLe.refl _, SLe.refl _, SLe.refl _, trivial⟩ (fun _ h => h)⟩
  replace h7 := of_decide_eq_false h7
  rw [List.length_map] at h7
  obtain rfl : i = s.tracks[k].length := by omega
  have HZ : tkF s.len s.tracks k = 0 := (tk_s hlt h3).trans hi.2
  refine .exit ?_
  refine .region ?_
  refine .sA (.add64 rfl rfl rfl (by omega) (by omega)) ?_
  refine .mA (.nil ?_)
  refine ⟨k + 1, ⟨by omega, fst_next hk.2 HZ⟩, (by dsimp only; omega), Sub.less ⟨(SLe.of_eq rfl), SLe.refl _, SLe.refl _, SLe.refl _, trivial⟩ (fun _ h => h)⟩
 replace h5 := of_decide_eq_false h5
 rw [List.length_map] at h5
 obtain rfl : k = s.tracks.length := by omega
 rw [hk.2]
 refine .exit ?_
 refine .sr ?_
 refine .aA (.nil ?_)
 refine .ret ?_
 refine ⟨RetD.eq rfl ?_, trivial⟩
 all_goals (first | rfl)

set_option maxRecDepth 100000 in
set_option maxHeartbeats 1000000 in
theorem c_chkP (s : Snd) (p : Int) : ACall Tryz.prog 10 [.agg s.ds, .v (.int .i64 p)] (.v (.int .i64 (mrkF s p))) := by
 refine acall_of (n := 17) (ds' := [.v (.int .i64 (mrkF s p))]) Tryz.func10 rfl (by kernel_rfl) rfl [4] rfl rfl ?_
 intro B w0 F0 fr
 refine .sr ?_
 refine .sA (.box rfl rfl rfl) ?_
 refine .aA (.nil ?_)
 refine .seq ?_
 refine .sr ?_
 refine .sA (.loadAgg rfl ag_24 rfl rfl) ?_
 refine .sA (.call rfl (.cons (.rfl' rfl) .nil) (c_chk s)) ?_
 refine .aA (.nil ?_)
 refine .sr ?_
 refine .mA ?_
 refine .sA (.neq rfl rfl rfl) (.nil ?_)
 refine .cond rfl (fun h1 => ?_) (fun h1 => ?_)
 ·replace h1 := of_decide_eq_true h1
  rw [show mrkF s p = sndF s from if_pos h1]
  refine .sr ?_
  refine .mA ?_
  refine .aA (.nil ?_)
  refine .ret ?_
  refine ⟨RetD.eq rfl ?_, trivial⟩
  all_goals (first | rfl)
 replace h1 := of_decide_eq_false h1
 have n0 : mrkF s p = if ¬ (1 ≤ p ∧ p ≤ 100000) then 1 else 0 := if_neg h1
 refine .skip ?_
 refine .seq ?_
 refine .sr ?_
 refine .mA ?_
 refine .sA (.lss rfl rfl rfl) ?_
 refine .mA ?_
 refine .split 13 rfl (fun g2 => ?_) (fun g2 => ?_)
 ·replace g2 := of_decide_eq_true g2
  rw [n0, if_pos (by omega)]
  refine .pA ?_
  refine .pA ?_
  refine .sA (.pickT rfl rfl rfl) (.nil ?_)
  refine .cond rfl (fun _ => ?_) (fun h => nomatch h)
  refine .sr ?_
  refine .aA (.nil ?_)
  refine .ret ?_
  refine ⟨RetD.eq rfl ?_, trivial⟩
  all_goals (first | rfl)
 replace g2 := of_decide_eq_false g2
 refine .sG (.moveD rfl rfl) ?_
 refine .sG (.gtr rfl rfl rfl) ?_
 refine .sA (.pickF rfl rfl rfl) (.nil ?_)
 refine .cond rfl (fun h3 => ?_) (fun h3 => ?_)
 ·replace h3 := of_decide_eq_true h3
  rw [n0, if_pos (by omega)]
  refine .sr ?_
  refine .aA (.nil ?_)
  refine .ret ?_
  refine ⟨RetD.eq rfl ?_, trivial⟩
  all_goals (first | rfl)
 replace h3 := of_decide_eq_false h3
 rw [n0, if_neg (by omega)]
 refine .skip ?_
 refine .sr ?_
 refine .aA (.nil ?_)
 refine .ret ?_
 refine ⟨RetD.eq rfl ?_, trivial⟩
 all_goals (first | rfl)

set_option maxRecDepth 100000 in
set_option maxHeartbeats 4000000 in
theorem c_lev (s : Snd) (p : Int) (ok : SndOk s) (hp : 1 ≤ p ∧ p ≤ 100000) : ACall Tryz.prog 11 [.agg s.ds, .v (.int .i64 p)] (.sl (rwI (levS s p.toNat) (s.len / p.toNat))) := by
 refine acall_of (n := 52) (ds' := [.sl (rwI (levS s p.toNat) (s.len / p.toNat))]) Tryz.func11 rfl (by kernel_rfl) rfl [4] rfl rfl ?_
 intro B w0 F0 fr
 have htl := ok.tl
 have hln := ok.len
 have hpp : 0 < p.toNat := by omega
 have hpe : ((p.toNat : Nat) : Int) = p := by omega
 have hmul := Nat.div_mul_le_self s.len p.toNat
 have hNI : ((s.len / p.toNat : Nat) : Int) = (s.len : Int) / p := by rw [Int.natCast_ediv, hpe]
 have hNl : s.len / p.toNat ≤ s.len := Nat.div_le_self ..
 have hmI : ((s.len / p.toNat * p.toNat : Nat) : Int) = (s.len : Int) / p * p := by rw [Int.natCast_mul, hNI, hpe]
 refine .sr ?_
 refine .sA (.box rfl rfl rfl) ?_
 refine .aA (.nil ?_)
 refine .sr ?_
 refine .sA (.fieldAddr rfl fo_24_1 rfl) ?_
 refine .sA (.load rfl sc_22 rfl) ?_
 refine .sA (.indexAddr rfl et_22 rfl rfl 0 rfl (head_at htl.1) rfl) ?_
 refine .sA (.load rfl sc_25 rfl) ?_
 refine .sA (.lenSl rfl et_25.ht rfl) ?_
 rw [List.length_map, head_len htl.1]
 refine .mA ?_
 refine .sA (.quo64 rfl rfl rfl (by omega) (by omega) (by omega)) ?_
 refine .makeI 901 (s.len / p.toNat) rfl rfl rfl rfl et_25 rfl rfl hNI.symm (by omega) (by omega) rfl rfl ?_
 refine .sA (.assignO rfl rfl) (.nil ?_)
 refine .seq ?_
 refine .sr ?_
 refine .sA (.fieldAddr rfl fo_24_1 rfl) ?_
 refine .sA (.load rfl sc_22 rfl) ?_
 refine .sA (.lenSl rfl et_22.ht rfl) ?_
 refine .mA (.nil ?_)
 refine .block ?_
 refine .loop (G := Nat) (fun k => Env.of [(21, .d (.v (.int .i64 (k : Int)))), (19, .d (.sl (s.tracks.map trD))), (20, .d (.v (.int .i64 ((s.tracks.map trD).length : Int)))), (5, .own 901), (1, .d (.v (.int .i64 p)))]) (fun k => [(901, .row 3 1 (rwI (fun j => sumT p.toNat ((s.len / p.toNat) * p.toNat) (s.tracks.take k) j) (s.len / p.toNat)))]) (fun k => k ≤ s.tracks.length) (fun k => s.tracks.length - k) 0 (Nat.zero_le _) (Sub.less ⟨(SLe.of_eq rfl), SLe.refl _, SLe.refl _, SLe.refl _, SLe.refl _, trivial⟩ (row_sameP (rwI_zero _))) ?_
 intro k hk
 refine .sr ?_
 refine .sA (.lss rfl rfl rfl) (.nil ?_)
 refine .seq ?_
 refine .cond rfl (fun h1 => ?_) (fun h1 => ?_)
 ·replace h1 := of_decide_eq_true h1
  rw [List.length_map] at h1
  have hlt : k < s.tracks.length := by omega
  have htk := ok.eq _ (List.getElem_mem hlt)
  have HCT : (s.tracks[k].map sI).take ((s.len : Int) / p * p).toNat = (s.tracks[k].take ((s.len / p.toNat) * p.toNat)).map sI := by rw [← List.map_take, ← hmI]; rfl
  have hcl : (s.tracks[k].take ((s.len / p.toNat) * p.toNat)).length = (s.len / p.toNat) * p.toNat := by rw [List.length_take]; omega
  refine .skip ?_
  refine .seq ?_
  refine .block ?_
  refine .sr ?_
  refine .sA (.indexAddr rfl et_22 rfl rfl k rfl (at_lst hlt) rfl) ?_
  refine .sA (.load rfl sc_25 rfl) ?_
  refine .aA (.nil ?_)
  refine .sr ?_
  refine .mA ?_
  refine .sA (.moveO rfl rfl) ?_
  refine .sA (.lenOwn rfl et_25.ht rfl (.head _)) ?_
  rw [rwI_len, hNI]
  refine .mA ?_
  refine .sA (.mul64 rfl rfl rfl (by omega) (by omega)) ?_
  refine .sA (.sliceH rfl et_25 rfl rfl (by rw [← hmI]; omega) (by rw [← hmI, List.length_map]; omega) (fun y hy => by obtain ⟨z, _, rfl⟩ := List.mem_map.1 hy; rfl)) ?_
  refine .sA (.lenSl rfl et_25.ht rfl) ?_
  refine .mA (.nil ?_)
  refine .block ?_
  rw [HCT]
  refine .loop (G := Nat) (fun i => Env.of [(32, .d (.v (.int .i64 (i : Int)))), (30, .d (.sl ((s.tracks[k].take ((s.len / p.toNat) * p.toNat)).map sI))), (31, .d (.v (.int .i64 (((s.tracks[k].take ((s.len / p.toNat) * p.toNat)).map sI).length : Int)))), (21, .d (.v (.int .i64 (k : Int)))), (19, .d (.sl (s.tracks.map trD))), (20, .d (.v (.int .i64 ((s.tracks.map trD).length : Int)))), (5, .own 901), (1, .d (.v (.int .i64 p)))]) (fun i => [(901, .row 3 1 (rwI (lvK s p.toNat ((s.len / p.toNat) * p.toNat) k i) (s.len / p.toNat)))]) (fun i => i ≤ (s.tracks[k].take ((s.len / p.toNat) * p.toNat)).length) (fun i => (s.tracks[k].take ((s.len / p.toNat) * p.toNat)).length - i) 0 (Nat.zero_le _) (Sub.less ⟨(SLe.of_eq rfl), SLe.refl _, SLe.refl _, SLe.refl _, SLe.refl _, SLe.refl _, SLe.refl _, SLe.refl _, trivial⟩ (row_sameP (rwI_congr fun j _ => (lvK_0 ..).symm))) ?_
  intro i hk
  refine .sr ?_
  refine .sA (.lss rfl rfl rfl) (.nil ?_)
  refine .seq ?_
  refine .cond rfl (fun h2 => ?_) (fun h2 => ?_)
  ·replace h2 := of_decide_eq_true h2
   rw [List.length_map] at h2
   have hic : i < (s.tracks[k].take ((s.len / p.toNat) * p.toNat)).length := by omega
   have hil : i < s.tracks[k].length := by omega
   have hci : ((s.tracks[k].take ((s.len / p.toNat) * p.toNat)).map sI)[i]? = some (sI s.tracks[k][i]) := by rw [at_lst hic]; congr 2; exact List.getElem_take ..
   have hdl : i / p.toNat < (s.len / p.toNat) := (Nat.div_lt_iff_lt_mul hpp).2 (by omega)
   have hdI : (i : Int) / p = ((i / p.toNat : Nat) : Int) := by rw [Int.natCast_ediv, hpe]
   have hsr := ok.smp _ (List.getElem_mem hlt) _ (List.getElem_mem hil)
   have hlr := lvK_rng ok (p := p.toNat) (n := (s.len / p.toNat) * p.toNat) (k := k) (i := i) (j := i / p.toNat) hlt (by omega) (by omega)
   have HSET : (rwI (lvK s p.toNat ((s.len / p.toNat) * p.toNat) k i) (s.len / p.toNat)).set (i / p.toNat) (sI (lvK s p.toNat ((s.len / p.toNat) * p.toNat) k i (i / p.toNat) + max s.tracks[k][i] (-s.tracks[k][i]))) = rwI (lvK s p.toNat ((s.len / p.toNat) * p.toNat) k (i + 1)) (s.len / p.toNat) := rwI_set hdl fun j _ => lvK_next hlt hil j
   refine .skip ?_
   refine .seq ?_
   refine .block ?_
   refine .sr ?_
   refine .mA ?_
   refine .sA (.indexAddr rfl et_25 rfl rfl i rfl hci rfl) ?_
   refine .sA (.load rfl sc_3 rfl) ?_
   refine .aA ?_
   refine .aA (.nil ?_)
   refine .region ?_
   refine .sA (.moveO rfl rfl) ?_
   refine .mA ?_
   refine .mA ?_
   refine .sA (.quo64 rfl rfl rfl (by omega) (by omega) (by omega)) ?_
   refine .sA (.indexOwn rfl et_25 rfl rfl (.head _) (i / p.toNat) hdI (by rw [rwI_len]; exact hdl)) ?_
   refine .sA (.loadRow rfl sc_3 rfl (.head _) (i / p.toNat) 0 rfl (rwI_at hdl) rfl) ?_
   refine .mA ?_
   refine .mA ?_
   refine .sA (.neg64 rfl rfl (by omega) (by omega)) ?_
   refine .sA (.max rfl rfl rfl) ?_
   refine .sA (.add64 rfl rfl rfl (by omega) (by omega)) ?_
   refine .sA (.indexOwn rfl et_25 rfl rfl (.head _) (i / p.toNat) hdI (by rw [rwI_len]; exact hdl)) ?_
   refine .storeRow rfl rfl rfl sz_3 rfl (.head _) rfl rfl rfl (i / p.toNat) 0 rfl (rwI_at hdl) (Nat.le_of_ble_eq_true rfl) (.nil ?_)
   refine .region ?_
   refine .sA (.add64 rfl rfl rfl (by omega) (by omega)) ?_
   refine .mA (.nil ?_)
   refine ⟨i + 1, (by omega), (by dsimp only; omega), Sub.less ⟨(SLe.of_eq rfl), SLe.refl _, SLe.refl _, SLe.refl _, SLe.refl _, SLe.refl _, SLe.refl _, SLe.refl _, trivial⟩ (row_sameP HSET)⟩
  replace h2 := of_decide_eq_false h2
  rw [List.length_map] at h2
  obtain rfl : i = (s.tracks[k].take ((s.len / p.toNat) * p.toNat)).length := by omega
  rw [hcl]
  have HE : lvK s p.toNat ((s.len / p.toNat) * p.toNat) k ((s.len / p.toNat) * p.toNat) = fun j => sumT p.toNat ((s.len / p.toNat) * p.toNat) (s.tracks.take (k + 1)) j := by funext j; exact lvK_end hlt
  rw [HE]
  refine .exit ?_
  refine .region ?_
  refine .sA (.add64 rfl rfl rfl (by omega) (by omega)) ?_
  refine .mA (.nil ?_)
  refine ⟨k + 1, (by omega), (by dsimp only; omega), Sub.less ⟨(SLe.of_eq rfl), SLe.refl _, SLe.refl _, SLe.refl _, SLe.refl _, trivial⟩ (row_sameP rfl)⟩
 replace h1 := of_decide_eq_false h1
 rw [List.length_map] at h1
 obtain rfl : k = s.tracks.length := by omega
 rw [show (fun j => sumT p.toNat (s.len / p.toNat * p.toNat) (s.tracks.take s.tracks.length) j) = levS s p.toNat from levS_eq _]
 refine .exit ?_
 refine .sr ?_
 refine .sA (.moveO rfl rfl) ?_
 refine .sA (.assignO rfl rfl) (.nil ?_)
 refine .ret ?_
 refine ⟨RetD.own rfl (.head _) ?_, trivial⟩
 all_goals (first | rfl)

end Go.Proofs.YtagdgclfnbiahaaGreatDoor

namespace Go.Proofs
open Go.Shelf
def Tryz.l160_ren : Go.Shelf.Ren := ⟨fun | 160 => 50 | 232 => 75 | 231 => 74 | 227 => 76 | 234 => 78 | 233 => 77 | 236 => 80 | 235 => 79 | 228 => 88 | 271 => 91 | 151 => 90 | 197 => 89 | 120 => 95 | 152 => 94 | 260 => 93 | 137 => 96 | 119 => 97 | 224 => 98 | 225 => 99 | 217 => 100 | 266 => 101 | n => n, fun | 9 => 9 | 4 => 4 | 3 => 3 | 5 => 5 | 117 => 112 | 116 => 111 | 0 => 0 | 124 => 115 | 21 => 21 | 105 => 123 | 46 => 79 | 119 => 129 | 139 => 132 | 138 => 131 | n => n, fun | 3 => 1 | 4 => 2 | n => n⟩
theorem Tryz.l160 : Go.Proofs.Lays.n160 Tryz.prog Tryz.l160_ren := {
  mixed := by kernel_rfl
  f119 := Tryz.func97.trans (congrArg some (by kernel_rfl))
  f120 := Tryz.func95.trans (congrArg some (by kernel_rfl))
  f137 := Tryz.func96.trans (congrArg some (by kernel_rfl))
  f151 := Tryz.func90.trans (congrArg some (by kernel_rfl))
  f152 := Tryz.func94.trans (congrArg some (by kernel_rfl))
  f160 := Tryz.func50.trans (congrArg some (by kernel_rfl))
  f197 := Tryz.func89.trans (congrArg some (by kernel_rfl))
  f217 := Tryz.func100.trans (congrArg some (by kernel_rfl))
  f224 := Tryz.func98.trans (congrArg some (by kernel_rfl))
  f225 := Tryz.func99.trans (congrArg some (by kernel_rfl))
  f227 := Tryz.func76.trans (congrArg some (by kernel_rfl))
  f228 := Tryz.func88.trans (congrArg some (by kernel_rfl))
  f231 := Tryz.func74.trans (congrArg some (by kernel_rfl))
  f232 := Tryz.func75.trans (congrArg some (by kernel_rfl))
  f233 := Tryz.func77.trans (congrArg some (by kernel_rfl))
  f234 := Tryz.func78.trans (congrArg some (by kernel_rfl))
  f235 := Tryz.func79.trans (congrArg some (by kernel_rfl))
  f236 := Tryz.func80.trans (congrArg some (by kernel_rfl))
  f260 := Tryz.func93.trans (congrArg some (by kernel_rfl))
  f266 := Tryz.func101.trans (congrArg some (by kernel_rfl))
  f271 := Tryz.func91.trans (congrArg some (by kernel_rfl))
  t0 := Tryz.underlying0
  a0 := Tryz.isAgg0
  z0 := Tryz.sizeOf0
  v0 := Tryz.zeroValue0
  t3 := Tryz.underlying3
  a3 := Tryz.isAgg3
  z3 := Tryz.sizeOf3
  v3 := Tryz.zeroValue3
  t4 := Tryz.underlying4
  a4 := Tryz.isAgg4
  z4 := Tryz.sizeOf4
  v4 := Tryz.zeroValue4
  t5 := Tryz.underlying5
  a5 := Tryz.isAgg5
  z5 := Tryz.sizeOf5
  v5 := Tryz.zeroValue5
  t9 := Tryz.underlying9
  a9 := Tryz.isAgg9
  z9 := Tryz.sizeOf9
  v9 := Tryz.zeroValue9
  t21 := Tryz.underlying21
  a21 := Tryz.isAgg21
  z21 := Tryz.sizeOf21
  v21 := Tryz.zeroValue21
  t46 := Tryz.underlying79
  a46 := Tryz.isAgg79
  z46 := Tryz.sizeOf79
  v46 := Tryz.zeroValue79
  t105 := Tryz.underlying123
  a105 := Tryz.isAgg123
  z105 := Tryz.sizeOf123
  v105 := Tryz.zeroValue123
  t116 := Tryz.underlying111
  a116 := Tryz.isAgg111
  z116 := Tryz.sizeOf111
  t117 := Tryz.underlying112
  a117 := Tryz.isAgg112
  z117 := Tryz.sizeOf112
  v117 := Tryz.zeroValue112
  t119 := Tryz.underlying129
  a119 := Tryz.isAgg129
  z119 := Tryz.sizeOf129
  t124 := Tryz.underlying115
  a124 := Tryz.isAgg115
  z124 := Tryz.sizeOf115
  v124 := Tryz.zeroValue115
  t138 := Tryz.underlying131
  a138 := Tryz.isAgg131
  z138 := Tryz.sizeOf131
  v138 := Tryz.zeroValue131
  t139 := Tryz.underlying132
  a139 := Tryz.isAgg132
  z139 := Tryz.sizeOf132
  v139 := Tryz.zeroValue132
  g3 := by kernel_rfl
  g4 := by kernel_rfl }
def Tryz.l106_ren : Go.Shelf.Ren := ⟨fun | 106 => 24 | 213 => 40 | 265 => 63 | n => n, fun | 9 => 9 | 3 => 3 | n => n, fun | n => n⟩
end Go.Proofs

namespace Go.Proofs.YtagdgclfnbiahaaGreatDoor
open Go.RowKit
attribute [local go_sem ↓] run_min_kept run_max_kept

/-- Bytes as values. -/
def u8s (l : List UInt8) : List Value := l.map fun c => .int .u8 (c.toNat : Int)
/-- Sums as values. -/
def u32s (l : List Nat) : List Value := l.map fun (c : Nat) => .int .u32 (c : Int)

def fstep (x : Nat) (c : UInt8) : Nat := ((x ^^^ c.toNat) * 16777619) % 4294967296
def fseed : Nat := 2166136261
def fnv (l : List UInt8) : Nat := l.foldl fstep fseed

end Go.Proofs.YtagdgclfnbiahaaGreatDoor

namespace Go.Proofs.YtagdgclfnbiahaaGreatDoor
open Go.RowKit Go.Shelf Go.Lib
attribute [local go_sem ↓] run_min_kept run_max_kept

/-- a to z, 0 to 9, the hyphen. -/
def nameB (b : UInt8) : Bool := (decide (97 ≤ b.toNat) && decide (b.toNat ≤ 122)) || (decide (48 ≤ b.toNat) && decide (b.toNat ≤ 57)) || decide (b.toNat = 45)
def headB (b : UInt8) : Bool := decide (97 ≤ b.toNat) && decide (b.toNat ≤ 122)
/-- What a name is. -/
def isName (l : List UInt8) : Bool := decide (1 ≤ l.length) && decide (l.length ≤ 40) && headB (l.headD 0) && l.all nameB

def letters : List UInt8 := [97, 98, 99, 100, 101, 102, 103, 104, 105, 106, 107, 108, 109, 110, 111, 112, 113, 114, 115, 116, 117, 118, 119, 120, 121, 122, 48, 49, 50, 51, 52, 53, 54, 55, 56, 57, 45]
theorem letters_nat : ∀ n : Fin 256, letters.contains (UInt8.ofNat n.val) = nameB (UInt8.ofNat n.val) := by decide +kernel
theorem letters_eq (b : UInt8) : letters.contains b = nameB b := by
  have := letters_nat ⟨b.toNat, b.toNat_lt⟩
  simpa using this

theorem dropWhile_nil {α : Type} (p : α → Bool) : ∀ l : List α, l.dropWhile p = [] ↔ l.all p = true
  | [] => by simp
  | x :: l => by
    cases h : p x
    · simp [h]
    · simp [h, dropWhile_nil p l]
theorem trim_nil (l : List UInt8) : (Lib.trimS l letters = []) ↔ l.all nameB = true := by
  have hf : (fun b => letters.contains b) = nameB := funext letters_eq
  unfold Lib.trimS Lib.trimLeftS Lib.trimRightS
  rw [dropWhile_nil, hf]
  constructor
  · intro h
    rw [List.all_reverse] at h
    have h2 : (l.reverse.dropWhile nameB) = [] := by
      cases hd : l.reverse.dropWhile nameB with
      | nil => rfl
      | cons x r =>
        have h3 := List.head?_dropWhile_not nameB l.reverse
        rw [hd] at h h3
        simp at h h3
        rw [h.1] at h3
        cases h3
    rw [dropWhile_nil, List.all_reverse] at h2
    exact h2
  · intro h
    have : l.reverse.dropWhile nameB = [] := by rw [dropWhile_nil, List.all_reverse]; exact h
    rw [this]; rfl

set_option maxHeartbeats 800000 in
theorem pName_any (s : ByteArray) (w : World) (hs : s.size ≤ 9223372036854775807) :
    Calls Tryz.prog 35 #[.string s] w fun e w' => e = .returned (.bool (isName s.data.toList)) ∧ Below w.heap.size w w' := by
  have hl : s.data.toList.length = s.size := by rw [Array.length_toList]; rfl
  by_cases h0 : s.size < 1
  · have HR := Lib.hid (show isName s.data.toList = false by unfold isName; rw [hl]; simp; omega)
    clear hl
    go_enter Tryz.func35, Tryz.ntmps35
    go_wp2_with fail
    go_ret
    exact ⟨by rw [HR.out]; rfl, Below.refl _ _⟩
  by_cases h1 : 40 < s.size
  · have HR := Lib.hid (show isName s.data.toList = false by unfold isName; rw [hl]; simp; omega)
    clear hl
    go_enter Tryz.func35, Tryz.ntmps35
    go_wp2_with fail
    go_ret
    exact ⟨by rw [HR.out]; rfl, Below.refl _ _⟩
  have hp : 0 < s.size := by omega
  have hh : s.data.toList.headD 0 = s[0] := by
    obtain ⟨⟨l⟩⟩ := s
    cases l with
    | nil => simp [ByteArray.size] at hp
    | cons x r => rfl
  have hlen : (decide (1 ≤ s.data.toList.length) && decide (s.data.toList.length ≤ 40)) = true := by rw [hl]; simp; omega
  have hname : isName s.data.toList = (headB s[0] && s.data.toList.all nameB) := by unfold isName; rw [hlen, hh, Bool.true_and]
  clear hl hlen hh
  by_cases ha : s[0].toNat < 97
  · have HR := Lib.hid (show isName s.data.toList = false by rw [hname]; unfold headB; simp; omega)
    clear hname
    go_enter Tryz.func35, Tryz.ntmps35
    go_wp2_with fail
    go_ret
    exact ⟨by rw [HR.out]; rfl, Below.refl _ _⟩
  by_cases hb : 122 < s[0].toNat
  · have HR := Lib.hid (show isName s.data.toList = false by rw [hname]; unfold headB; simp; omega)
    clear hname
    go_enter Tryz.func35, Tryz.ntmps35
    go_wp2_with fail
    go_ret
    exact ⟨by rw [HR.out]; rfl, Below.refl _ _⟩
  have hhd : headB s[0] = true := by unfold headB; simp; omega
  rw [hhd, Bool.true_and] at hname
  have hlet : (⟨letters.toArray⟩ : ByteArray).size < 4294967281 := by decide
  have hcon := Any.strings_Trim_laid Tryz.l160 (by kernel_rfl) s ⟨letters.toArray⟩ w hs hlet (ascii_of_all (by decide))
  change Calls Tryz.prog 50 #[.string s, .string ⟨#[97, 98, 99, 100, 101, 102, 103, 104, 105, 106, 107, 108, 109, 110, 111, 112, 113, 114, 115, 116, 117, 118, 119, 120, 121, 122, 48, 49, 50, 51, 52, 53, 54, 55, 56, 57, 45]⟩] w (fun e w' => e = .returned (.string ⟨(Lib.trimS s.data.toList letters).toArray⟩) ∧ Below w.heap.size w w') at hcon
  have ha' : 97 ≤ s[0].toNat := by omega
  have hb' : s[0].toNat ≤ 122 := by omega
  by_cases hall : s.data.toList.all nameB = true
  · have HR := Lib.hid (hname.trans hall)
    rw [(trim_nil s.data.toList).2 hall] at hcon
    have HC := Lib.hid hcon
    clear hname hall hcon hhd
    go_enter Tryz.func35, Tryz.ntmps35
    go_wp2_with fail
    refine HC.out.mono ?_
    rintro e w' ⟨rfl, hbel⟩
    go_wp2_with fail
    go_ret
    exact ⟨by rw [HR.out]; rfl, hbel⟩
  · have hne : (⟨(Lib.trimS s.data.toList letters).toArray⟩ : ByteArray) ≠ ⟨#[]⟩ := by
      intro h
      apply hall
      rw [← trim_nil]
      injection h with h
      simpa using h
    have HR := Lib.hid (hname.trans (by simpa using hall))
    have hneb : (⟨(Lib.trimS s.data.toList letters).toArray⟩ : ByteArray).toList.isEmpty = false := by
      rw [ByteArray.toList_eq]
      cases hl : (⟨(Lib.trimS s.data.toList letters).toArray⟩ : ByteArray).data.toList with
      | nil => exact absurd (by simp at hl; rw [hl]) hne
      | cons _ _ => rfl
    generalize (⟨(Lib.trimS s.data.toList letters).toArray⟩ : ByteArray) = r at *
    have HC := Lib.hid hcon
    clear hname hall hcon hhd
    go_enter Tryz.func35, Tryz.ntmps35
    go_wp2_with fail
    refine HC.out.mono ?_
    rintro e w' ⟨rfl, hbel⟩
    go_wp2_with fail
    go_ret
    exact ⟨by rw [HR.out]; rfl, hbel⟩
end Go.Proofs.YtagdgclfnbiahaaGreatDoor

namespace Go.Proofs.YtagdgclfnbiahaaGreatDoor
open Go.RowKit
set_option linter.unusedVariables false

/-! Types. -/
namespace TyXC
theorem ag_40 : AggT Tryz.prog 40 2 := .of (by kernel_rfl)
theorem cv_89_3 : convB Tryz.prog 89 3 .i64 = true := by kernel_rfl
theorem et_41 : ElemTy Tryz.prog 41 40 2 40 (.agg #[(.string ⟨#[]⟩), (.slice none 0 0)]) := ⟨by kernel_rfl, by kernel_rfl, by kernel_rfl, by decide⟩
theorem fo_34_0 : fieldOff Tryz.prog 34 0 = some 0 := by kernel_rfl
theorem fo_34_1 : fieldOff Tryz.prog 34 1 = some 1 := by kernel_rfl
theorem fo_40_0 : fieldOff Tryz.prog 40 0 = some 0 := by kernel_rfl
theorem fo_40_1 : fieldOff Tryz.prog 40 1 = some 1 := by kernel_rfl
theorem sc_9 : Scal Tryz.prog 9 := .of (by kernel_rfl)
theorem sz_40 : ∀ w, (sizeOf 40).run Tryz.prog w = .ok 2 w := SizeT.of (by kernel_rfl)
theorem zt_40 : (Tryz.prog.info? 40).bind (·.zero) = some (.agg #[(.string ⟨#[]⟩), (.slice none 0 0)]) := by kernel_rfl
end TyXC
open TyXA TyXB TyXC

set_option linter.unusedSimpArgs false
theorem rwI_snoc (f : Nat → Int) (n : Nat) : rwI f (n + 1) = rwI f n ++ [sI (f n)] := by unfold rwI; rw [List.range_succ, List.map_append]; rfl
theorem mrk_bad {s : Snd} {p : Int} (h : mrkF s p ≠ 0) : mrkR s p = mrkF s p := if_pos h
theorem mrk_2 {s : Snd} {p : Int} (h : ¬ mrkF s p ≠ 0) (h2 : 500 + 8 < s.len / p.toNat) : mrkR s p = 2 := (if_neg h).trans (if_pos h2)
theorem mrk_0 {s : Snd} {p : Int} (h : ¬ mrkF s p ≠ 0) (h2 : ¬ 500 + 8 < s.len / p.toNat) : mrkR s p = 0 := (if_neg h).trans (if_neg h2)
theorem mrkV_bad {s : Snd} {p : Int} (h : mrkR s p ≠ 0) : mrkV s p = [] := if_neg h
theorem mrkV_ok {s : Snd} {p : Int} (h : mrkR s p = 0) : mrkV s p = mrkL s p.toNat := if_pos h
theorem mrkF_ok {s : Snd} {p : Int} (h : mrkF s p = 0) : sndF s = 0 ∧ 1 ≤ p ∧ p ≤ 100000 := by
  unfold mrkF at h
  by_cases h1 : sndF s ≠ 0
  · rw [if_pos h1] at h; exact absurd h h1
  rw [if_neg h1] at h
  by_cases h2 : ¬ (1 ≤ p ∧ p ≤ 100000)
  · rw [if_pos h2] at h; exact absurd h (by decide)
  exact ⟨Decidable.not_not.1 h1, Decidable.not_not.1 h2⟩
theorem mrkL_row (s : Snd) (p : Nat) : rwI (mkV (levS s p)) (mrkN s p) = (mrkL s p).map sI := rwI_lst _ _
theorem c_pName (s : ByteArray) (hs : s.size ≤ 9223372036854775807) : ACall Tryz.prog 35 [.v (.string s)] (.v (.bool (isName s.data.toList))) :=
 acall_exact (us := [_]) (.of Tryz.func35 (by kernel_rfl) rfl) fun w => pName_any s w hs
theorem nm_a : isName (⟨#[97]⟩ : ByteArray).data.toList = true := by decide
theorem c_nmA : ACall Tryz.prog 35 [.v (.string ⟨#[97]⟩)] (.v (.bool true)) := by
 have h := c_pName ⟨#[97]⟩ (by decide)
 rwa [nm_a] at h
/-! ## How many bits -/
def wU (z : Int) : Int := IntKind.u64.wrap z
def pp1 (x : Int) : Int := wU (bits .and .u64 (x / 2 ^ (1 : Int).toNat) 6148914691236517205 + bits .and .u64 x 6148914691236517205)
def pp2 (x : Int) : Int := wU (bits .and .u64 (x / 2 ^ (2 : Int).toNat) 3689348814741910323 + bits .and .u64 x 3689348814741910323)
def pp3 (x : Int) : Int := bits .and .u64 (wU (x / 2 ^ (4 : Int).toNat + x)) 1085102592571150095
def pp4 (x : Int) : Int := wU (x + x / 2 ^ (8 : Int).toNat)
def pp5 (x : Int) : Int := wU (x + x / 2 ^ (16 : Int).toNat)
def pp6 (x : Int) : Int := wU (x + x / 2 ^ (32 : Int).toNat)
def popV (x : Int) : Int := bits .and .i64 (IntKind.i64.wrap (pp6 (pp5 (pp4 (pp3 (pp2 (pp1 x))))))) 127
theorem and127 (z : Int) : 0 ≤ bits .and .i64 z 127 ∧ bits .and .i64 z 127 ≤ 127 := by
  have h : bits .and .i64 z 127 = IntKind.i64.wrap (((BitVec.ofInt 64 z &&& BitVec.ofInt 64 127).toNat : Nat) : Int) := rfl
  have h2 : (BitVec.ofInt 64 z &&& BitVec.ofInt 64 127).toNat ≤ 127 := by
    rw [BitVec.toNat_and]
    exact Nat.and_le_right
  rw [h, w64 (by omega) (by omega)]
  omega
theorem pop_rng (x : Int) : 0 ≤ popV x ∧ popV x ≤ 127 := and127 _
theorem pop_0 : popV 0 = 0 := by decide +kernel
def xorV (a b : Int) : Int := popV (IntKind.u64.wrap (bits .xor .i64 a b))
theorem xor_self {a : Int} : xorV a a = 0 := by
  have h : bits .xor .i64 a a = 0 := by
    have h1 : bits .xor .i64 a a = IntKind.i64.wrap (((BitVec.ofInt 64 a ^^^ BitVec.ofInt 64 a).toNat : Nat) : Int) := rfl
    rw [h1, BitVec.xor_self]
    decide
  unfold xorV
  rw [h]
  exact pop_0
theorem xor_rng (a b : Int) : 0 ≤ xorV a b ∧ xorV a b ≤ 127 := pop_rng _

set_option maxRecDepth 100000 in
set_option maxHeartbeats 4000000 in
theorem c_marks (s : Snd) (p : Int) : ACall Tryz.prog 4 [.agg s.ds, .v (.int .i64 p)] (.tup [.sl ((mrkV s p).map sI), .v (.int .i64 (mrkR s p))]) := by
 refine acall_of (n := 59) (ds' := [.sl ((mrkV s p).map sI), .v (.int .i64 (mrkR s p))]) Tryz.func4 rfl (by kernel_rfl) rfl [4, 5] rfl rfl ?_
 intro B w0 F0 fr
 refine .sr ?_
 refine .sA (.box rfl rfl rfl) ?_
 refine .aA ?_
 refine .aA (.nil ?_)
 refine .seq ?_
 refine .sr ?_
 refine .sA (.loadAgg rfl ag_24 rfl rfl) ?_
 refine .mA ?_
 refine .sA (.call rfl (.cons (.rfl' rfl) (.cons (.rfl' rfl) .nil)) (c_chkP s p)) ?_
 refine .aA (.nil ?_)
 refine .sr ?_
 refine .mA ?_
 refine .sA (.neq rfl rfl rfl) (.nil ?_)
 refine .cond rfl (fun h1 => ?_) (fun h1 => ?_)
 ·replace h1 := of_decide_eq_true h1
  have HR := mrk_bad h1
  rw [mrkV_bad (by rw [HR]; exact h1), HR]
  refine .sr ?_
  refine .mA ?_
  refine .aA ?_
  refine .aA (.nil ?_)
  refine .ret ?_
  refine ⟨RetD.nil rfl, RetD.eq rfl ?_, trivial⟩
  all_goals (first | rfl)
 replace h1 := of_decide_eq_false h1
 have n0 := h1
 obtain ⟨hs0, hp⟩ := mrkF_ok (Decidable.not_not.1 n0)
 have ok := sndOk hs0
 have hln := ok.len
 have hNl : s.len / p.toNat ≤ s.len := Nat.div_le_self ..
 have hNz : (0 : Int) ≤ (s.len : Int) / (p.toNat : Int) := Int.ediv_nonneg (by omega) (by omega)
 have hMN : mrkN s p.toNat = s.len / p.toNat - 8 := rfl
 refine .skip ?_
 refine .sr ?_
 refine .sA (.loadAgg rfl ag_24 rfl rfl) ?_
 refine .mA ?_
 refine .sA (.call rfl (.cons (.rfl' rfl) (.cons (.rfl' rfl) .nil)) (c_lev s p ok hp)) ?_
 refine .aA (.nil ?_)
 refine .seq ?_
 refine .sr ?_
 refine .mA ?_
 refine .sA (.lenSl rfl et_25.ht rfl) ?_
 rw [rwI_len]
 refine .sA (.sub64 rfl rfl rfl (by omega) (by omega)) ?_
 refine .sA (.gtr rfl rfl rfl) (.nil ?_)
 refine .cond rfl (fun h2 => ?_) (fun h2 => ?_)
 ·replace h2 := of_decide_eq_true h2
  have HR := mrk_2 n0 (by omega)
  rw [mrkV_bad (by rw [HR]; decide), HR]
  refine .sr ?_
  refine .aA ?_
  refine .aA (.nil ?_)
  refine .ret ?_
  refine ⟨RetD.nil rfl, RetD.eq rfl ?_, trivial⟩
  all_goals (first | rfl)
 replace h2 := of_decide_eq_false h2
 have HR := mrk_0 n0 (by omega)
 rw [mrkV_ok HR, HR]
 refine .skip ?_
 refine .sr ?_
 refine .aA (.nil ?_)
 refine .seq ?_
 refine .sr ?_
 refine .aA (.nil ?_)
 refine .block ?_
 refine .adopt 8 61 3 1 rfl rfl ?_
 refine .loop (G := Nat) (fun k => Env.of [(9, .d (.v (.int .i64 (k : Int)))), (8, .own 61), (7, .d (.sl (rwI (levS s p.toNat) (s.len / p.toNat))))]) (fun k => [(61, .row 3 1 (rwI (mkV (levS s p.toNat)) k))]) (fun k => k ≤ mrkN s p.toNat) (fun k => mrkN s p.toNat - k) 0 (Nat.zero_le _) (Sub.less ⟨(SLe.of_eq rfl), SLe.refl _, SLe.refl _, trivial⟩ (row_sameP rfl)) ?_
 intro k hk
 refine .seq ?_
 refine .sr ?_
 refine .mA ?_
 refine .sA (.add64 rfl rfl rfl (by omega) (by omega)) ?_
 refine .mA ?_
 refine .sA (.lenSl rfl et_25.ht rfl) ?_
 rw [rwI_len]
 refine .sA (.lss rfl rfl rfl) (.nil ?_)
 refine .cond rfl (fun h3 => ?_) (fun h3 => ?_)
 ·replace h3 := of_decide_eq_true h3
  have hlt : k + 8 < (s.len / p.toNat) := by omega
  refine .skip ?_
  refine .seq ?_
  refine .block ?_
  refine .sr ?_
  refine .aA (.nil ?_)
  refine .seq ?_
  refine .sr ?_
  refine .mA (.nil ?_)
  refine .block ?_
  refine .loop (G := Nat) (fun i => Env.of [(32, .d (.v (.int .i64 (i : Int)))), (10, .d (.v (.int .i64 (mkB (levS s p.toNat) k i)))), (9, .d (.v (.int .i64 (k : Int)))), (8, .own 61), (7, .d (.sl (rwI (levS s p.toNat) (s.len / p.toNat))))]) (fun i => [(61, .row 3 1 (rwI (mkV (levS s p.toNat)) k))]) (fun i => i ≤ 8) (fun i => 8 - i) 0 (Nat.zero_le _) (Sub.less ⟨(SLe.of_eq rfl), (SLe.i64 rfl), SLe.refl _, SLe.refl _, SLe.refl _, trivial⟩ (fun _ h => h)) ?_
  intro i hi
  refine .sr ?_
  refine .sA (.lss rfl rfl rfl) (.nil ?_)
  refine .seq ?_
  refine .cond rfl (fun h4 => ?_) (fun h4 => ?_)
  ·replace h4 := of_decide_eq_true h4
   refine .skip ?_
   refine .seq ?_
   refine .block ?_
   refine .sr ?_
   refine .mA ?_
   refine .aA (.nil ?_)
   refine .seq ?_
   refine .draw (by kernel_rfl) (by kernel_rfl) ?_
   refine .sA (.moveD rfl rfl) ?_
   refine .sA (.moveD rfl rfl) ?_
   refine .sA (.moveD rfl rfl) ?_
   refine .sA (.add64 rfl rfl rfl (by omega) (by omega)) ?_
   refine .sA (.add64 rfl rfl rfl (by omega) (by omega)) ?_
   refine .sA (.indexAddr rfl et_25 rfl rfl (k + i + 1) (by omega) (rwI_at (by omega)) rfl) ?_
   refine .sA (.load rfl sc_3 rfl) ?_
   refine .sA (.moveD rfl rfl) ?_
   refine .sA (.moveD rfl rfl) ?_
   refine .sA (.moveD rfl rfl) ?_
   refine .sA (.add64 rfl rfl rfl (by omega) (by omega)) ?_
   refine .sA (.indexAddr rfl et_25 rfl rfl (k + i) (by omega) (rwI_at (by omega)) rfl) ?_
   refine .sA (.load rfl sc_3 rfl) ?_
   refine .sA (.gtr rfl rfl rfl) ?_
   refine .nil ?_
   refine .cond rfl (fun h5 => ?_) (fun h5 => ?_)
   ·replace h5 := of_decide_eq_true h5
    have hM := h5
    refine .region ?_
    refine .mA ?_
    refine .mA ?_
    refine .sA (.shlG rfl rfl rfl (by omega) (by show (i : Int) ≤ 64; omega)) ?_
    rw [shl_bit i (by omega)]
    refine .sA (.orG rfl rfl rfl) ?_
    rw [mk_step (by omega) hM]
    refine .aA (.nil ?_)
    refine .region ?_
    refine .sA (.add64 rfl rfl rfl (by omega) (by omega)) ?_
    refine .mA (.nil ?_)
    refine ⟨i + 1, (by omega), (by dsimp only; omega), Sub.less ⟨(SLe.of_eq rfl), (SLe.i64 rfl), SLe.refl _, SLe.refl _, SLe.refl _, trivial⟩ (fun _ h => h)⟩
   replace h5 := of_decide_eq_false h5
   have hM := h5
   refine .skip ?_
   refine .region ?_
   refine .sA (.add64 rfl rfl rfl (by omega) (by omega)) ?_
   refine .mA (.nil ?_)
   refine ⟨i + 1, (by omega), (by dsimp only; omega), Sub.less ⟨(SLe.of_eq rfl), (SLe.i64 (mk_stay hM)), SLe.refl _, SLe.refl _, SLe.refl _, trivial⟩ (fun _ h => h)⟩
  replace h4 := of_decide_eq_false h4
  obtain rfl : i = 8 := by omega
  refine .exit ?_
  refine .region ?_
  refine .sA (.moveO rfl rfl) ?_
  refine .mA ?_
  refine .sA (.buildSlice rfl et_25 (.cons rfl rfl rfl .nil) rfl (by decide)) ?_
  -- append 57
  refine .append rfl rfl rfl rfl et_25 rfl (.head _) rfl (by simp [D.parts]) (by simp [rwI_len]; omega) (by simp [rwI_len]; omega) ?_
  refine .sA (.assignO rfl rfl) (.nil ?_)
  refine .region ?_
  refine .mA ?_
  refine .sA (.add64 rfl rfl rfl (by omega) (by omega)) ?_
  refine .aA (.nil ?_)
  refine ⟨k + 1, (by omega), (by dsimp only; omega), Sub.less ⟨(SLe.of_eq rfl), SLe.refl _, SLe.refl _, trivial⟩ (row_sameP (rwI_snoc ..).symm)⟩
 replace h3 := of_decide_eq_false h3
 obtain rfl : k = mrkN s p.toNat := by omega
 rw [mrkL_row]
 refine .exit ?_
 refine .sr ?_
 refine .sA (.moveO rfl rfl) ?_
 refine .sA (.assignO rfl rfl) ?_
 refine .aA (.nil ?_)
 refine .ret ?_
 refine ⟨RetD.own rfl (.head _) ?_, RetD.eq rfl ?_, trivial⟩
 all_goals (first | rfl)

set_option maxRecDepth 100000 in
set_option maxHeartbeats 1000000 in
theorem c_ckM (l : List Int) (hl : l.length ≤ 500) (hr : ∀ m ∈ l, 0 ≤ m ∧ m ≤ 255) : ACall Tryz.prog 17 [.sl [trD l]] (.v (.int .i64 0)) := by
 refine acall_of (n := 30) (ds' := [.v (.int .i64 0)]) Tryz.func17 rfl (by kernel_rfl) rfl [2] rfl rfl ?_
 intro B w0 F0 fr
 refine .sr ?_
 refine .aA (.nil ?_)
 refine .seq ?_
 refine .sr ?_
 refine .mA ?_
 refine .sA (.lenSl rfl et_22.ht rfl) ?_
 refine .mA (.nil ?_)
 refine .block ?_
 refine .loop (G := Nat) (fun k => Env.of [(9, .d (.v (.int .i64 (k : Int)))), (7, .d (.sl [trD l])), (8, .d (.v (.int .i64 (([trD l]).length : Int))))]) (fun k => []) (fun k => k ≤ 1) (fun k => 1 - k) 0 (Nat.zero_le _) (Sub.less ⟨(SLe.of_eq rfl), SLe.refl _, SLe.refl _, trivial⟩ (fun _ h => h)) ?_
 intro k hk
 refine .sr ?_
 refine .sA (.lss rfl rfl rfl) (.nil ?_)
 refine .seq ?_
 refine .cond rfl (fun h1 => ?_) (fun h1 => ?_)
 ·replace h1 := of_decide_eq_true h1
  have hk0 : k = 0 := by simp at h1; omega
  refine .skip ?_
  refine .seq ?_
  refine .block ?_
  refine .sr ?_
  refine .sA (.indexAddr rfl et_22 rfl rfl k rfl (by rw [hk0]; rfl) rfl) ?_
  refine .sA (.load rfl sc_25 rfl) ?_
  refine .aA (.nil ?_)
  refine .seq ?_
  refine .sr ?_
  refine .mA ?_
  refine .sA (.lenSl rfl et_25.ht rfl) ?_
  refine .sA (.gtr rfl rfl rfl) (.nil ?_)
  refine .cond rfl (fun h2 => ?_) (fun h2 => ?_)
  ·replace h2 := of_decide_eq_true h2
   rw [List.length_map] at h2; omega
  replace h2 := of_decide_eq_false h2
  refine .skip ?_
  refine .sr ?_
  refine .mA ?_
  refine .sA (.lenSl rfl et_25.ht rfl) ?_
  refine .mA (.nil ?_)
  refine .block ?_
  refine .loop (G := Nat) (fun i => Env.of [(18, .d (.v (.int .i64 (i : Int)))), (16, .d (.sl (l.map sI))), (17, .d (.v (.int .i64 ((l.map sI).length : Int)))), (9, .d (.v (.int .i64 (k : Int)))), (7, .d (.sl [trD l])), (8, .d (.v (.int .i64 (([trD l]).length : Int))))]) (fun i => []) (fun i => i ≤ l.length) (fun i => l.length - i) 0 (Nat.zero_le _) (Sub.less ⟨(SLe.of_eq rfl), SLe.refl _, SLe.refl _, SLe.refl _, SLe.refl _, SLe.refl _, trivial⟩ (fun _ h => h)) ?_
  intro i hi
  refine .sr ?_
  refine .sA (.lss rfl rfl rfl) (.nil ?_)
  refine .seq ?_
  refine .cond rfl (fun h3 => ?_) (fun h3 => ?_)
  ·replace h3 := of_decide_eq_true h3
   rw [List.length_map] at h3
   have hil : i < l.length := by omega
   have hx := hr _ (List.getElem_mem hil)
   refine .skip ?_
   refine .seq ?_
   refine .block ?_
   refine .sr ?_
   refine .sA (.indexAddr rfl et_25 rfl rfl i rfl (at_lst hil) rfl) ?_
   refine .sA (.load rfl sc_3 rfl) ?_
   refine .aA (.nil ?_)
   refine .sr ?_
   refine .mA ?_
   refine .sA (.lss rfl rfl rfl) ?_
   refine .mA ?_
   refine .split 24 rfl (fun g4 => ?_) (fun g4 => ?_)
   ·replace g4 := of_decide_eq_true g4
    omega
   replace g4 := of_decide_eq_false g4
   refine .sG (.moveD rfl rfl) ?_
   refine .sG (.gtr rfl rfl rfl) ?_
   refine .sA (.pickF rfl rfl rfl) (.nil ?_)
   refine .cond rfl (fun h5 => ?_) (fun h5 => ?_)
   ·replace h5 := of_decide_eq_true h5
    omega
   replace h5 := of_decide_eq_false h5
   refine .skip ?_
   refine .region ?_
   refine .sA (.add64 rfl rfl rfl (by omega) (by omega)) ?_
   refine .mA (.nil ?_)
   refine ⟨i + 1, (by omega), (by dsimp only; omega), Sub.less ⟨(SLe.of_eq rfl), SLe.refl _, SLe.refl _, SLe.refl _, SLe.refl _, SLe.refl _, trivial⟩ (fun _ h => h)⟩
  replace h3 := of_decide_eq_false h3
  refine .exit ?_
  refine .region ?_
  refine .sA (.add64 rfl rfl rfl (by omega) (by omega)) ?_
  refine .mA (.nil ?_)
  refine ⟨k + 1, (by omega), (by dsimp only; omega), Sub.less ⟨(SLe.of_eq rfl), SLe.refl _, SLe.refl _, trivial⟩ (fun _ h => h)⟩
 replace h1 := of_decide_eq_false h1
 refine .exit ?_
 refine .sr ?_
 refine .aA (.nil ?_)
 refine .ret ?_
 refine ⟨RetD.eq rfl ?_, trivial⟩
 all_goals (first | rfl)

set_option maxRecDepth 100000 in
set_option maxHeartbeats 1000000 in
theorem c_ckS (M : List Int) (hl : M.length ≤ 500) (hr : ∀ m ∈ M, 0 ≤ m ∧ m ≤ 255) : ACall Tryz.prog 16 [.sl [[.v (.string ⟨#[97]⟩), .sl (M.map sI)]]] (.v (.int .i64 0)) := by
 refine acall_of (n := 41) (ds' := [.v (.int .i64 0)]) Tryz.func16 rfl (by kernel_rfl) rfl [2] rfl rfl ?_
 intro B w0 F0 fr
 refine .sr ?_
 refine .aA (.nil ?_)
 refine .seq ?_
 refine .sr ?_
 refine .mA ?_
 refine .sA (.lenSl rfl et_41.ht rfl) ?_
 refine .sA (.gtr rfl rfl rfl) (.nil ?_)
 refine .cond rfl (fun h1 => ?_) (fun h1 => ?_)
 ·replace h1 := of_decide_eq_true h1
  simp at h1
 replace h1 := of_decide_eq_false h1
 refine .skip ?_
 refine .seq ?_
 refine .sr ?_
 refine .mA ?_
 refine .sA (.lenSl rfl et_41.ht rfl) ?_
 refine .mA (.nil ?_)
 refine .block ?_
 refine .loop (G := Nat) (fun k => Env.of [(11, .d (.v (.int .i64 (k : Int)))), (9, .d (.sl [[.v (.string ⟨#[97]⟩), .sl (M.map sI)]])), (10, .d (.v (.int .i64 (([[.v (.string ⟨#[97]⟩), .sl (M.map sI)]]).length : Int)))), (0, .d (.sl [[.v (.string ⟨#[97]⟩), .sl (M.map sI)]]))]) (fun k => []) (fun k => k ≤ 1) (fun k => 1 - k) 0 (Nat.zero_le _) (Sub.less ⟨(SLe.of_eq rfl), SLe.refl _, SLe.refl _, SLe.refl _, trivial⟩ (fun _ h => h)) ?_
 intro k hk
 refine .sr ?_
 refine .sA (.lss rfl rfl rfl) (.nil ?_)
 refine .seq ?_
 refine .cond rfl (fun h2 => ?_) (fun h2 => ?_)
 ·replace h2 := of_decide_eq_true h2
  have hk0 : k = 0 := by simp at h2; omega
  refine .skip ?_
  refine .seq ?_
  refine .block ?_
  refine .sr ?_
  refine .mA ?_
  refine .sA (.indexAddr rfl et_41 rfl rfl k rfl (by rw [hk0]; rfl) rfl) ?_
  refine .sA (.loadAgg rfl ag_40 rfl rfl) ?_
  refine .alloc 101 rfl rfl rfl rfl zt_40 rfl rfl rfl ?_
  refine .aA ?_
  refine .store rfl rfl rfl sz_40 rfl (.head _) rfl rfl rfl (Nat.le_of_ble_eq_true rfl) ?_
  refine .freezeCells 4 (ds := [.v (.string ⟨#[97]⟩), .sl (M.map sI)]) rfl (.head _) (.nil ?_)
  refine .seq ?_
  refine .sr ?_
  refine .sA (.fieldAddr rfl fo_40_0 rfl) ?_
  refine .sA (.load rfl sc_9 rfl) ?_
  refine .sA (.call rfl (.cons (.rfl' rfl) .nil) c_nmA) ?_
  refine .sA (.not rfl rfl) (.nil ?_)
  refine .cond rfl (fun h3 => ?_) (fun h3 => ?_)
  ·replace h3 := bnot_t h3
   exact absurd h3 (by decide)
  replace h3 := bnot_f h3
  refine .skip ?_
  refine .seq ?_
  refine .seq ?_
  refine .draw (by kernel_rfl) (by kernel_rfl) ?_
  refine .sA (.moveD rfl rfl) ?_
  refine .sA (.gtr rfl rfl rfl) ?_
  refine .sA (.moveD rfl rfl) ?_
  refine .split 22 rfl (fun g4 => ?_) (fun g4 => ?_)
  ·replace g4 := of_decide_eq_true g4
   omega
  replace g4 := of_decide_eq_false g4
  refine .pA ?_
  refine .pA ?_
  refine .pA ?_
  refine .pA ?_
  refine .pA ?_
  refine .pA ?_
  refine .pA ?_
  refine .pA ?_
  refine .pA ?_
  refine .sA (.pickF rfl rfl rfl) ?_
  refine .nil ?_
  refine .cond rfl (fun h => nomatch h) (fun _ => ?_)
  refine .skip ?_
  refine .sr ?_
  refine .sA (.fieldAddr rfl fo_40_1 rfl) ?_
  refine .sA (.load rfl sc_25 rfl) ?_
  refine .sA (.buildSlice rfl et_22 (.cons rfl rfl rfl .nil) rfl (by decide)) ?_
  refine .sA (.call rfl (.cons (.rfl' rfl) .nil) (c_ckM M hl hr)) ?_
  refine .aA (.nil ?_)
  refine .sr ?_
  refine .mA ?_
  refine .sA (.neq rfl rfl rfl) (.nil ?_)
  refine .cond rfl (fun h5 => ?_) (fun h5 => ?_)
  ·replace h5 := of_decide_eq_true h5
   exact absurd rfl h5
  replace h5 := of_decide_eq_false h5
  refine .skip ?_
  refine .region ?_
  refine .sA (.add64 rfl rfl rfl (by omega) (by omega)) ?_
  refine .mA (.nil ?_)
  refine ⟨k + 1, (by omega), (by dsimp only; omega), Sub.less ⟨(SLe.of_eq rfl), SLe.refl _, SLe.refl _, SLe.refl _, trivial⟩ (fun _ h => h)⟩
 replace h2 := of_decide_eq_false h2
 refine .exit ?_
 refine .sr ?_
 refine .aA (.nil ?_)
 refine .ret ?_
 refine ⟨RetD.eq rfl ?_, trivial⟩
 all_goals (first | rfl)

set_option maxRecDepth 100000 in
set_option maxHeartbeats 1000000 in
theorem c_ckF (n : Nat) (h : 1 ≤ n ∧ n ≤ 500) : ACall Tryz.prog 18 [.v (.int .i64 (n : Int)), .v (.int .i64 100)] (.v (.int .i64 0)) := by
 refine acall_of (n := 19) (ds' := [.v (.int .i64 0)]) Tryz.func18 rfl (by kernel_rfl) rfl [4] rfl rfl ?_
 intro B w0 F0 fr
 refine .sr ?_
 refine .aA (.nil ?_)
 refine .seq ?_
 refine .sr ?_
 refine .mA ?_
 refine .sA (.lss rfl rfl rfl) ?_
 refine .mA ?_
 refine .split 7 rfl (fun g1 => ?_) (fun g1 => ?_)
 ·replace g1 := of_decide_eq_true g1
  omega
 replace g1 := of_decide_eq_false g1
 refine .sG (.moveD rfl rfl) ?_
 refine .sG (.gtr rfl rfl rfl) ?_
 refine .sA (.pickF rfl rfl rfl) ?_
 refine .mA ?_
 refine .split 11 rfl (fun g2 => ?_) (fun g2 => ?_)
 ·replace g2 := of_decide_eq_true g2
  omega
 replace g2 := of_decide_eq_false g2
 refine .sG (.moveD rfl rfl) ?_
 refine .sG (.lss rfl rfl rfl) ?_
 refine .sA (.pickF rfl rfl rfl) ?_
 refine .mA ?_
 refine .split 15 rfl (fun g3 => ?_) (fun g3 => ?_)
 ·replace g3 := of_decide_eq_true g3
  simp at g3
 replace g3 := of_decide_eq_false g3
 refine .sG (.moveD rfl rfl) ?_
 refine .sG (.gtr rfl rfl rfl) ?_
 refine .sA (.pickF rfl rfl rfl) (.nil ?_)
 refine .cond rfl (fun h4 => ?_) (fun h4 => ?_)
 ·replace h4 := of_decide_eq_true h4
  omega
 replace h4 := of_decide_eq_false h4
 refine .skip ?_
 refine .sr ?_
 refine .aA (.nil ?_)
 refine .ret ?_
 refine ⟨RetD.eq rfl ?_, trivial⟩
 all_goals (first | rfl)

set_option maxRecDepth 100000 in
set_option maxHeartbeats 1000000 in
theorem c_pop64 (x : Int) : ACall Tryz.prog 82 [.v (.int .u64 x)] (.v (.int .i64 (popV x))) := by
 refine acall_of (n := 35) (ds' := [.v (.int .i64 (popV x))]) Tryz.func82 rfl (by kernel_rfl) rfl [2] rfl rfl ?_
 intro B w0 F0 fr
 refine .sr ?_
 refine .aA (.nil ?_)
 refine .sr ?_
 refine .mA ?_
 refine .sA (.shrG rfl rfl rfl (by decide) (by decide)) ?_
 refine .sA (.andG rfl rfl rfl) ?_
 refine .mA ?_
 refine .sA (.andG rfl rfl rfl) ?_
 refine .sA (.add rfl rfl rfl) ?_
 refine .aA (.nil ?_)
 refine .sr ?_
 refine .mA ?_
 refine .sA (.shrG rfl rfl rfl (by decide) (by decide)) ?_
 refine .sA (.andG rfl rfl rfl) ?_
 refine .mA ?_
 refine .sA (.andG rfl rfl rfl) ?_
 refine .sA (.add rfl rfl rfl) ?_
 refine .aA (.nil ?_)
 refine .sr ?_
 refine .mA ?_
 refine .sA (.shrG rfl rfl rfl (by decide) (by decide)) ?_
 refine .mA ?_
 refine .sA (.add rfl rfl rfl) ?_
 refine .sA (.andG rfl rfl rfl) ?_
 refine .aA (.nil ?_)
 refine .sr ?_
 refine .mA ?_
 refine .mA ?_
 refine .sA (.shrG rfl rfl rfl (by decide) (by decide)) ?_
 refine .sA (.add rfl rfl rfl) ?_
 refine .aA (.nil ?_)
 refine .sr ?_
 refine .mA ?_
 refine .mA ?_
 refine .sA (.shrG rfl rfl rfl (by decide) (by decide)) ?_
 refine .sA (.add rfl rfl rfl) ?_
 refine .aA (.nil ?_)
 refine .sr ?_
 refine .mA ?_
 refine .mA ?_
 refine .sA (.shrG rfl rfl rfl (by decide) (by decide)) ?_
 refine .sA (.add rfl rfl rfl) ?_
 refine .aA (.nil ?_)
 refine .sr ?_
 refine .mA ?_
 refine .sA (.convInt rfl cv_89_3 rfl) ?_
 refine .sA (.andG rfl rfl rfl) ?_
 refine .aA (.nil ?_)
 refine .ret ?_
 refine ⟨RetD.eq rfl ?_, trivial⟩
 all_goals (rfl)

set_option maxRecDepth 100000 in
set_option maxHeartbeats 1000000 in
theorem c_pop (x : Int) : ACall Tryz.prog 51 [.v (.int .u64 x)] (.v (.int .i64 (popV x))) := by
 refine acall_of (n := 8) (ds' := [.v (.int .i64 (popV x))]) Tryz.func51 rfl (by kernel_rfl) rfl [2] rfl rfl ?_
 intro B w0 F0 fr
 refine .sr ?_
 refine .aA (.nil ?_)
 refine .seq ?_
 refine .cond rfl (fun h => nomatch h) (fun _ => ?_)
 refine .skip ?_
 refine .sr ?_
 refine .mA ?_
 refine .sA (.call rfl (.cons (.rfl' rfl) .nil) (c_pop64 x)) ?_
 refine .aA (.nil ?_)
 refine .ret ?_
 refine ⟨RetD.eq rfl ?_, trivial⟩
 all_goals (rfl)

set_option maxRecDepth 100000 in
set_option maxHeartbeats 1000000 in
theorem c_ckC (s : Snd) (a n : Nat) (ht : 0 < s.tracks.length) (h : a + n ≤ s.len) : ACall Tryz.prog 14 [.agg s.ds, .agg [.v (.int .i64 (a : Int)), .v (.int .i64 ((a + n : Nat) : Int))]] (.v (.int .i64 0)) := by
 refine acall_of (n := 22) (ds' := [.v (.int .i64 0)]) Tryz.func14 rfl (by kernel_rfl) rfl [4] rfl rfl ?_
 intro B w0 F0 fr
 refine .sr ?_
 refine .sA (.box rfl rfl rfl) ?_
 refine .sA (.box rfl rfl rfl) ?_
 refine .aA (.nil ?_)
 refine .seq ?_
 refine .seq ?_
 refine .draw (by kernel_rfl) (by kernel_rfl) ?_
 refine .sA (.fieldAddr rfl fo_34_0 rfl) ?_
 refine .sA (.load rfl sc_3 rfl) ?_
 refine .sA (.lss rfl rfl rfl) ?_
 refine .sA (.moveD rfl rfl) ?_
 refine .split 8 rfl (fun g1 => ?_) (fun g1 => ?_)
 ·replace g1 := of_decide_eq_true g1
  omega
 replace g1 := of_decide_eq_false g1
 refine .sG (.fieldAddr rfl fo_34_1 rfl) ?_
 refine .sG (.load rfl sc_3 rfl) ?_
 refine .sG (.fieldAddr rfl fo_34_0 rfl) ?_
 refine .sG (.load rfl sc_3 rfl) ?_
 refine .sG (.lss rfl rfl rfl) ?_
 refine .sA (.pickF rfl rfl rfl) ?_
 refine .sA (.moveD rfl rfl) ?_
 refine .split 15 rfl (fun g2 => ?_) (fun g2 => ?_)
 ·replace g2 := of_decide_eq_true g2
  omega
 replace g2 := of_decide_eq_false g2
 refine .sG (.fieldAddr rfl fo_34_1 rfl) ?_
 refine .sG (.load rfl sc_3 rfl) ?_
 refine .sG (.loadAgg rfl ag_24 rfl rfl) ?_
 refine .sG (.call rfl (.cons (.rfl' rfl) .nil) (c_len s ht)) ?_
 refine .sG (.gtr rfl rfl rfl) ?_
 refine .sA (.pickF rfl rfl rfl) ?_
 refine .nil ?_
 refine .cond rfl (fun h3 => ?_) (fun h3 => ?_)
 ·replace h3 := of_decide_eq_true h3
  omega
 replace h3 := of_decide_eq_false h3
 refine .skip ?_
 refine .sr ?_
 refine .aA (.nil ?_)
 refine .ret ?_
 refine ⟨RetD.eq rfl ?_, trivial⟩
 all_goals (first | rfl)

end Go.Proofs.YtagdgclfnbiahaaGreatDoor

namespace Go.Proofs.YtagdgclfnbiahaaGreatDoor
open Go.RowKit
set_option linter.unusedVariables false

/-- f returns a struct whose parts are as ss', some of them own objects; the object vid is that struct. -/
def XSCall (P : Program) (f : FuncId) (ss : List S) (σ σ' : Obs) (chg : Nat → Bool) (s : S) : Prop := Enters P f ∧
  ∀ (F : Nat → Prop) (ρ : Nat → Value) (B : Nat) (w : World) (vs : List Value), (∀ b, F b → b < w.heap.size) → B ≤ w.heap.size → ObsOk B F ρ w σ → RepSL F ρ w vs ss →
    Calls P f vs.toArray w fun e w' => ∃ v F' ρ', e = .returned v ∧ RepS F' ρ' w' v s ∧ XEnd B F ρ w σ F' ρ' w' σ' chg

def RetXC (b : Nat) (ds : List D) (σ' : Obs) : Post := fun ex e σ => match ex with
  | .ret => (∃ cid, e b = .ptr cid 0 ∧ (cid, Ob.cells (ds.map S.d)) ∈ σ) ∧ AllIn σ σ'
  | .normal => (∃ cid, e b = .ptr cid 0 ∧ (cid, Ob.cells (ds.map S.d)) ∈ σ) ∧ AllIn σ σ'
  | _ => False
def RetXV (b vid : Nat) (ss' : List S) (σr : Obs) : Post := fun ex e σ => match ex with
  | .ret => (∃ cid ssr, e b = .ptr cid 0 ∧ (cid, Ob.cells ssr) ∈ σ ∧ ssr.map (S.kill vid) = ss' ∧ Obs.fresh vid σr = true ∧ Obs.kill vid σr = σr) ∧ AllIn σ σr
  | .normal => (∃ cid ssr, e b = .ptr cid 0 ∧ (cid, Ob.cells ssr) ∈ σ ∧ ssr.map (S.kill vid) = ss' ∧ Obs.fresh vid σr = true ∧ Obs.kill vid σr = σr) ∧ AllIn σ σr
  | _ => False
section
variable {cx : Cx} {ops : Array Oper} {o : Oper} {rest : List Oper} {e : Env} {σ : Obs} {Q : Post}
end
end Go.Proofs.YtagdgclfnbiahaaGreatDoor

namespace Go.Proofs.YtagdgclfnbiahaaGreatDoor
open Go.RowKit
set_option linter.unusedVariables false

/-- One step; sl: who reads objects, ef: who writes them. -/
def HStep (cx : Cx) (ops : Array Oper) (sl ef : Nat → Bool) (I : Obs → Prop) (k : Nat) (o : Oper) (e : Env) (σ : Obs) (e' : Env) (σ' : Obs) : Prop :=
  (GW ops o e true ∧ ∃ s, ((sl k = true ∧ AOp cx.P cx.B ops o e σ s) ∨ (I σ ∧ ∀ τ, I τ → AOp cx.P cx.B ops o e τ s)) ∧ e' = e.put o.dst s ∧ σ' = σ) ∨
  (GW ops o e false ∧ e' = e.put o.dst (.d (.v undef)) ∧ σ' = σ) ∨
  (GW ops o e true ∧ ef k = true ∧ o.dst = none ∧ EOp cx ops o e σ σ' ∧ e' = e ∧ I σ ∧ I σ')

def HRun (cx : Cx) (ops : Array Oper) (sl ef : Nat → Bool) (I : Obs → Prop) : Nat → List Oper → Env → Obs → (Env → Obs → Prop) → Prop
  | _, [], e, σ, Q => Q e σ
  | k, o :: l, e, σ, Q => DstOk cx.N o ∧ ∃ e' σ', HStep cx ops sl ef I k o e σ e' σ' ∧ HRun cx ops sl ef I (k + 1) l e' σ' Q

def anyH (cx : Cx) (ops : Array Oper) (sl ef : Nat → Bool) (I : Obs → Prop) (Q : Env → Obs → Prop) : Nat → Array Bool → Env → Obs → Prop
  | 0, listed, e, σ => Region.ready .any ops listed = [] ∧ Q e σ
  | fuel + 1, listed, e, σ => (Region.ready .any ops listed = [] → Q e σ) ∧
      ∀ i ∈ Region.ready .any ops listed, ∀ o, ops[i]? = some o → ∃ e' σ', HStep cx ops sl ef I i o e σ e' σ' ∧ anyH cx ops sl ef I Q fuel (listed.setIfInBounds i true) e' σ'

theorem anyH_first {cx : Cx} {ops : Array Oper} {sl ef : Nat → Bool} {I : Obs → Prop} (hse : ∀ k, ef k = true → sl k = true) {Q : Env → Obs → Prop} {i : Nat} {oi : Oper} (hi : ops[i]? = some oi) (late : Nat → Bool)
    (hclos : ∀ j oj, ops[j]? = some oj → late j = true → ∃ e ∈ oj.after, Region.binds .any e = true ∧ (e.on = i ∨ late e.on = true)) :
    ∀ (fuel : Nat) (listed : Array Bool) (e : Env) (σ : Obs) (e1 : Env) (σ1 : Obs), (∀ j, late j = true → listed.getD j false = false) →
      (∀ j oj, ops[j]? = some oj → j ≠ i → listed.getD j true = false → (∀ e ∈ oj.after, Region.binds .any e = true → e.on ≠ i) → oi.apart ops oj = true ∧ (late j = false → (ef i = false ∨ sl j = false) ∧ (sl i = false ∨ ef j = false))) →
      i ∈ Region.ready .any ops listed → HStep cx ops sl ef I i oi e σ e1 σ1 → anyH cx ops sl ef I Q fuel (listed.setIfInBounds i true) e1 σ1 → anyH cx ops sl ef I Q (fuel + 1) listed e σ := by
  intro fuel
  induction fuel with
  | zero =>
    intro listed e σ e1 σ1 _ _ hr hy H
    refine ⟨fun h => (by rw [h] at hr; cases hr), fun j hj o ho => ?_⟩
    by_cases hji : j = i
    · subst hji
      rw [hi] at ho; cases ho
      exact ⟨e1, σ1, hy, H⟩
    · have := ready_mono hj hji
      rw [H.1] at this
      cases this
  | succ fuel ih =>
    intro listed e σ e1 σ1 hlate hfree hr hy H
    refine ⟨fun h => (by rw [h] at hr; cases hr), fun j hj oj hoj => ?_⟩
    by_cases hji : j = i
    · subst hji
      rw [hi] at hoj; cases hoj
      exact ⟨e1, σ1, hy, H⟩
    · obtain ⟨e2, σ2, h1, h2⟩ := H.2 j (ready_mono hj hji) oj hoj
      obtain ⟨hjun, oj', hoj', hall⟩ := mem_ready.1 hj
      rw [hoj] at hoj'; cases hoj'
      have hnot : ∀ e ∈ oj.after, Region.binds .any e = true → e.on ≠ i := fun e he hb heq => by
        have h1 := hall e he hb
        have h0 := (mem_ready.1 hr).1
        rw [heq] at h1
        rcases Nat.lt_or_ge i listed.size with h' | h'
        · simp [h'] at h0 h1; rw [h0] at h1; cases h1
        · simp [Array.getElem?_eq_none h'] at h1
      have hjl : late j = false := by
        cases hl : late j with
        | false => rfl
        | true =>
          obtain ⟨e, he, hb, hh⟩ := hclos j oj hoj hl
          rcases hh with hh | hh
          · exact absurd hh (hnot e he hb)
          · have h3 := hall e he hb
            rw [hlate _ hh] at h3
            simp at h3
      obtain ⟨hap, hss⟩ := hfree j oj hoj hji hjun hnot
      obtain ⟨hs1, hs2⟩ := hss hjl
      obtain ⟨a1, a2, a3⟩ := Oper.apart_spec hap
      have fin : ∀ ej σj, HStep cx ops sl ef I j oj e σ ej σj → HStep cx ops sl ef I i oi ej σj e2 σ2 → ∃ e' σ', HStep cx ops sl ef I j oj e σ e' σ' ∧ anyH cx ops sl ef I Q (fuel + 1) (listed.setIfInBounds j true) e' σ' := fun ej σj hsj hsi => by
        refine ⟨ej, σj, hsj, ?_⟩
        refine ih (listed.setIfInBounds j true) ej σj e2 σ2 (fun k hk => ?_) (fun k ok hk hki hun hno => ?_) (ready_mono hr (Ne.symm hji)) hsi ?_
        · have hkj : j ≠ k := fun h => by rw [h, hk] at hjl; simp at hjl
          rw [getD_set_ne false hkj]
          exact hlate k hk
        · refine hfree k ok hk hki ?_ hno
          by_cases hjk : j = k
          · subst hjk; exact hjun
          · rw [getD_set_ne true hjk] at hun; exact hun
        · rw [Array.setIfInBounds_comm _ _ hji]
          exact h2
      rcases hy with ⟨hgi, s, hopi, rfl, rfl⟩ | ⟨hgi, rfl, rfl⟩ | ⟨hgi, hefi, hdi, hopi, rfl, hi1, hi2⟩
      · rcases h1 with ⟨hgj, sj, hopj, rfl, rfl⟩ | ⟨hgj, rfl, rfl⟩ | ⟨hgj, hefj, hdj, hopj, rfl, hj1, hj2⟩
        · refine fin (e.put oj.dst sj) _ (.inl ⟨hgj.same fun t ht => (put_looks a1 t ht).symm, sj, ?_, rfl, rfl⟩) (.inl ⟨hgi.same (put_looks a3), s, ?_, (Env.put_comm e oi.dst oj.dst s sj a2), rfl⟩)
          · exact hopj.imp (fun h => ⟨h.1, h.2.same fun t ht => (put_looks a1 t ht).symm⟩) (fun h => ⟨h.1, fun τ hτ => (h.2 τ hτ).same fun t ht => (put_looks a1 t ht).symm⟩)
          · exact hopi.imp (fun h => ⟨h.1, h.2.same (put_looks a3)⟩) (fun h => ⟨h.1, fun τ hτ => (h.2 τ hτ).same (put_looks a3)⟩)
        · refine fin (e.put oj.dst (.d (.v undef))) _ (.inr (.inl ⟨hgj.same fun t ht => (put_looks a1 t ht).symm, rfl, rfl⟩)) (.inl ⟨hgi.same (put_looks a3), s, ?_, (Env.put_comm e oi.dst oj.dst s _ a2), rfl⟩)
          exact hopi.imp (fun h => ⟨h.1, h.2.same (put_looks a3)⟩) (fun h => ⟨h.1, fun τ hτ => (h.2 τ hτ).same (put_looks a3)⟩)
        · have hsi : sl i = false := by
            rcases hs2 with h | h
            · exact h
            · rw [hefj] at h; simp at h
          refine fin e σ2 (.inr (.inr ⟨hgj.same fun t ht => (put_looks a1 t ht).symm, hefj, hdj, hopj.same fun t ht => (put_looks a1 t ht).symm, rfl, hj1, hj2⟩)) (.inl ⟨hgi, s, .inr ?_, rfl, rfl⟩)
          rcases hopi with h | h
          · rw [h.1] at hsi; simp at hsi
          · exact ⟨hj2, h.2⟩
      · rcases h1 with ⟨hgj, sj, hopj, rfl, rfl⟩ | ⟨hgj, rfl, rfl⟩ | ⟨hgj, hefj, hdj, hopj, rfl, hj1, hj2⟩
        · refine fin (e.put oj.dst sj) _ (.inl ⟨hgj.same fun t ht => (put_looks a1 t ht).symm, sj, ?_, rfl, rfl⟩) (.inr (.inl ⟨hgi.same (put_looks a3), (Env.put_comm e oi.dst oj.dst _ sj a2), rfl⟩))
          exact hopj.imp (fun h => ⟨h.1, h.2.same fun t ht => (put_looks a1 t ht).symm⟩) (fun h => ⟨h.1, fun τ hτ => (h.2 τ hτ).same fun t ht => (put_looks a1 t ht).symm⟩)
        · exact fin (e.put oj.dst (.d (.v undef))) _ (.inr (.inl ⟨hgj.same fun t ht => (put_looks a1 t ht).symm, rfl, rfl⟩)) (.inr (.inl ⟨hgi.same (put_looks a3), (Env.put_comm e oi.dst oj.dst _ _ a2), rfl⟩))
        · exact fin e σ2 (.inr (.inr ⟨hgj.same fun t ht => (put_looks a1 t ht).symm, hefj, hdj, hopj.same fun t ht => (put_looks a1 t ht).symm, rfl, hj1, hj2⟩)) (.inr (.inl ⟨hgi, rfl, rfl⟩))
      · have hsj : sl j = false := by
          rcases hs1 with h | h
          · rw [hefi] at h; simp at h
          · exact h
        rcases h1 with ⟨hgj, sj, hopj, rfl, rfl⟩ | ⟨hgj, rfl, rfl⟩ | ⟨hgj, hefj, hdj, hopj, rfl, hj1, hj2⟩
        · have hall : ∀ τ, I τ → AOp cx.P cx.B ops oj e1 τ sj := by
            rcases hopj with h | h
            · rw [h.1] at hsj; simp at hsj
            · exact h.2
          exact fin (e1.put oj.dst sj) σ (.inl ⟨hgj, sj, .inr ⟨hi1, hall⟩, rfl, rfl⟩) (.inr (.inr ⟨hgi.same (put_looks a3), hefi, hdi, hopi.same (put_looks a3), rfl, hi1, hi2⟩))
        · exact fin (e1.put oj.dst (.d (.v undef))) σ (.inr (.inl ⟨hgj, rfl, rfl⟩)) (.inr (.inr ⟨hgi.same (put_looks a3), hefi, hdi, hopi.same (put_looks a3), rfl, hi1, hi2⟩))
        · rw [hse j hefj] at hsj; simp at hsj

theorem anyH_lex {cx : Cx} {ops : Array Oper} {sl ef : Nat → Bool} {I : Obs → Prop} (hse : ∀ k, ef k = true → sl k = true) {Q : Env → Obs → Prop} : ∀ (l : List Oper) (k : Nat) (listed : Array Bool) (e : Env) (σ : Obs), (∀ j, l[j]? = ops[k + j]?) →
    Region.lexFrom .any ops l.length k listed = true → Region.sensFrom ops sl ef l.length k listed = true → HRun cx ops sl ef I k l e σ Q → anyH cx ops sl ef I Q l.length listed e σ
  | [], _, _, _, _, _, hB, _, h => ⟨by simpa [Region.lexFrom] using hB, h⟩
  | o :: l, k, listed, e, σ, hl, hB, hS, h => by
    have h0 : ops[k]? = some o := by simpa using (hl 0).symm
    simp only [List.length_cons, Region.lexFrom, Bool.and_eq_true] at hB
    simp only [List.length_cons, Region.sensFrom, Bool.and_eq_true] at hS
    obtain ⟨⟨hr, hf⟩, hB'⟩ := hB
    have hl' : ∀ j, l[j]? = ops[k + 1 + j]? := fun j => by have := hl (j + 1); simpa [Nat.add_assoc, Nat.add_comm 1 j] using this
    obtain ⟨_, e', σ', hs, hK⟩ := h
    have hgo := anyH_lex hse l (k + 1) _ _ _ hl' hB' hS.2 hK
    by_cases hc : (sl k || ef k) = true
    · have h1 := hS.1
      rw [if_pos hc] at h1
      obtain ⟨k1, k2, k3⟩ := Region.sensFree_spec h1 (fun j hj => by
        unfold Region.lateB at hj
        simp only [Bool.and_eq_true, Nat.blt_eq] at hj
        exact hj.1)
      exact anyH_first hse h0 _ k1 l.length listed e σ e' σ' k2 (fun j oj hj hji hun hno => ⟨Region.free_spec h0 hf j oj hj hji hun hno, fun hl => k3 j oj hj hji hun hl⟩) (by simpa using hr) hs hgo
    · have h2 : sl k = false ∧ ef k = false := by simpa using hc
      exact anyH_first hse h0 (fun _ => false) (fun _ _ _ h => by simp at h) l.length listed e σ e' σ' (fun _ h => by simp at h) (fun j oj hj hji hun hno => ⟨Region.free_spec h0 hf j oj hj hji hun hno, fun _ => ⟨.inl h2.2, .inl h2.1⟩⟩) (by simpa using hr) hs hgo

theorem HRun.dsts {cx : Cx} {ops : Array Oper} {sl ef : Nat → Bool} {I : Obs → Prop} {Q : Env → Obs → Prop} : ∀ (l : List Oper) (k : Nat) (e : Env) (σ : Obs), HRun cx ops sl ef I k l e σ Q → ∀ o ∈ l, DstOk cx.N o
  | [], _, _, _, _, o, ho => by cases ho
  | x :: l, k, e, σ, h, o, ho => by
    obtain ⟨h1, _, _, _, h2⟩ := h
    cases ho with
    | head => exact h1
    | tail _ ho => exact HRun.dsts l _ _ _ h2 o ho

theorem wpAny_of_H {cx : Cx} {ops : Array Oper} {sl ef : Nat → Bool} {I : Obs → Prop} {Q : Post} (hd : ∀ o ∈ ops.toList, DstOk cx.N o) : ∀ (fuel : Nat) (listed : Array Bool) (e : Env) (σ : Obs) (a : Act) (w : World), R cx e σ a w →
    anyH cx ops sl ef I (fun e σ => Q .normal e σ) fuel listed e σ → wpAny cx.P .any ops (lift cx Q) fuel listed a w
  | 0, _, e, σ, _, _, hr, h => ⟨h.1, e, σ, h.2, hr⟩
  | fuel + 1, listed, e, σ, a, w, hr, h => by
    refine ⟨fun h0 => ⟨e, σ, h.1 h0, hr⟩, fun i hi => ?_⟩
    obtain ⟨_, o, ho, _⟩ := mem_ready.1 hi
    obtain ⟨e', σ', hs, hk⟩ := h.2 i hi o ho
    have hdo : DstOk cx.N o := hd o (Array.mem_toList_iff.2 (Array.mem_of_getElem? ho))
    unfold wpOp
    simp only [ho]
    obtain ⟨F, ρ, hr⟩ := hr
    rcases hs with ⟨hg, s, hop, rfl, rfl⟩ | ⟨hg, rfl, rfl⟩ | ⟨hg, _, hdst, hop, rfl, _, _⟩
    · rw [if_pos (hg.wanted (fun t _ => hr.env t))]
      have hop' : AOp cx.P cx.B ops o e σ' s := by
        rcases hop with h | h
        · exact h.2
        · exact h.2 _ h.1
      refine .inl (wp_to ?_ (fun _ _ _ => False.elim) (hop' F ρ w a hr.lt (fun t _ => hr.env t) hr.obs))
      rintro a' w' ⟨v, F', rfl, hv, he⟩
      exact wpAny_of_H hd fuel _ _ _ _ _ ⟨F', ρ, hr.put he hv hdo⟩ hk
    · rw [if_neg (by rw [hg.wanted (fun t _ => hr.env t)]; simp)]
      exact wpAny_of_H hd fuel _ _ _ _ _ ⟨F, ρ, hr.put (Ext.refl hr.lt) repS_undef hdo⟩ hk
    · rw [if_pos (hg.wanted (fun t _ => hr.env t))]
      refine .inl (wp_to ?_ (fun _ _ _ => False.elim) (hop F ρ a w e' hr (fun t _ => hr.env t)))
      rintro a' w' ⟨rfl, h3⟩
      obtain ⟨F', ρ', h4⟩ := h3 e' hr
      exact wpAny_of_H hd fuel _ _ _ _ _ ⟨F', ρ', h4⟩ hk

/-- A region that draws its order and writes, walked once, in the order of the text. -/
theorem AWP.drawH {cx : Cx} {id : Nat} {l : List Oper} {e : Env} {σ : Obs} {Q : Post} (sl ef : Nat → Bool) (I : Obs → Prop) (hse : ∀ k, ef k = true → sl k = true) (hm : cx.P.follows .mixedOrders = true) (hB : Region.lexB .any l.toArray = true)
    (hS : Region.sensFrom l.toArray sl ef l.length 0 (Array.replicate l.length false) = true) (h : HRun cx l.toArray sl ef I 0 l e σ (fun e σ => Q .normal e σ)) : AWP cx (.region id l.toArray true) e σ Q := by
  intro a w ⟨F, ρ, hr⟩
  simp only [Region.lexB, Bool.and_eq_true] at hB
  have h1 := anyH_lex hse l 0 (Array.replicate l.toArray.size false) e σ (by simp) (by simpa using hB.2) (by simpa using hS) h
  exact wp_region_any hm (wpAny_of_H (by simpa using HRun.dsts l 0 e σ h) _ _ e σ a _ ⟨F, ρ, hr.drew⟩ (by simpa using h1))
section
variable {cx : Cx} {ops : Array Oper} {o : Oper} {rest : List Oper} {e : Env} {σ : Obs} {sl ef : Nat → Bool} {I : Obs → Prop} {n : Nat} {l : List Oper} {Q : Env → Obs → Prop}
theorem HRun.nil (h : Q e σ) : HRun cx ops sl ef I n [] e σ Q := h
/-- It reads no object. -/
theorem HRun.step {s : S} {t : Nat} (hg : GW ops o e true) (ht : o.dst = some t) (hd : Nat.blt t cx.N = true) (hI : I σ) (h : ∀ τ, I τ → AOp cx.P cx.B ops o e τ s) (k : HRun cx ops sl ef I (n + 1) l (e.put (some t) s) σ Q) : HRun cx ops sl ef I n (o :: l) e σ Q :=
  ⟨by unfold DstOk; rw [ht]; exact hd, _, _, .inl ⟨hg, s, .inr ⟨hI, h⟩, rfl, rfl⟩, by rw [ht]; exact k⟩
/-- It writes. -/
theorem HRun.eff {σ' : Obs} (hf : ef n = true) (hg : GW ops o e true) (ht : o.dst = none) (h : EOp cx ops o e σ σ') (h1 : I σ) (h2 : I σ') (k : HRun cx ops sl ef I (n + 1) l e σ' Q) : HRun cx ops sl ef I n (o :: l) e σ Q :=
  ⟨by unfold DstOk; rw [ht], _, _, .inr (.inr ⟨hg, hf, ht, h, rfl, h1, h2⟩), k⟩
end
end Go.Proofs.YtagdgclfnbiahaaGreatDoor
