/- Walks and laws over abstract values, merged by tools/merge.py. No statement of the seat. -/
import Derived.ChangeKeysEq
import Derived.ProofKit
import Derived.OpenShut
import Derived.ShutString
import Derived.ChangeOld
import Derived.Below
import Derived.Lib.EndianBits
import Derived.Laws.StructEq
import Derived.MapKept
import Derived.Carry
import Derived.Lib.FieldsLaws
import Derived.Lib.Fields
import Derived.Lib.Join
import Derived.Lib.Strings
import Derived.WalkKit
import Derived.Ground.NamesProg
import Derived.Shelf.Strings.Prefix
import Derived.Shelf.Small.Wraps
import Derived.Shelf.Strings.OnBuilder
import Derived.Shelf.Strings.Fields
import Derived.Shelf.Strings.SlTrimAscii
import Derived.Shelf.Small.Strs
import Derived.Shelf.Strings.Search3
import Derived.Shelf.LaysM
import Derived.Test.YtfjnbgldlnanhaaDoorProg
import Derived.Test.YtfjnbgldlnanhaaDoorXT1

namespace Go.Proofs.YtfjnbgldlnanhaaDoor
open Go.RowKit

def ownB (σ : Obs) (ρ : Nat → Value) (b : Nat) : Prop := ∃ p ∈ σ, blk (ρ p.1) = some b
def RepSL (F : Nat → Prop) (ρ : Nat → Value) (w : World) (vs : List Value) (ss : List S) : Prop := vs.length = ss.length ∧ ∀ i (h1 : i < vs.length) (h2 : i < ss.length), RepS F ρ w vs[i] ss[i]

/-- How such a call ends: what was frozen stays; of the rest only the told objects may have changed. -/
structure XEnd (B : Nat) (F : Nat → Prop) (ρ : Nat → Value) (w : World) (σ : Obs) (F' : Nat → Prop) (ρ' : Nat → Value) (w' : World) (σ' : Obs) (chg : Nat → Bool) : Prop where
  up : ∀ b, F b → F' b
  new : ∀ b, F' b → F b ∨ (w.heap.size ≤ b ∨ ownB σ ρ b)
  lt : ∀ b, F' b → b < w'.heap.size
  kept : Kept (fun b => w.heap.size ≤ b ∨ ownB σ ρ b) w w'
  obs : ObsOk B F' ρ' w' σ'
  own : ∀ p ∈ σ', ∀ g, blk (ρ' p.1) = some g → w.heap.size ≤ g ∨ ownB σ ρ g
  same : ∀ i, chg i = false → ρ' i = ρ i

/-- f, called with what reads as ss, where the caller's objects are σ, returns what reads as d; the objects are σ' then. -/
def XCall (P : Program) (f : FuncId) (ss : List S) (σ σ' : Obs) (chg : Nat → Bool) (d : D) : Prop := Enters P f ∧
  ∀ (F : Nat → Prop) (ρ : Nat → Value) (B : Nat) (w : World) (vs : List Value), (∀ b, F b → b < w.heap.size) → B ≤ w.heap.size → ObsOk B F ρ w σ → RepSL F ρ w vs ss →
    Calls P f vs.toArray w fun e w' => ∃ v F' ρ', e = .returned v ∧ Rep F' w' v d ∧ XEnd B F ρ w σ F' ρ' w' σ' chg

theorem ObOk.more {B : Nat} {F F2 : Nat → Prop} {ρ : Nat → Value} {w : World} {id : Nat} {o : Ob} (h : ObOk B F ρ w id o) (hF : ∀ b, F b → b < w.heap.size) (hu : ∀ b, F b → F2 b) (hn : ∀ g, blk (ρ id) = some g → ¬ F2 g) : ObOk B F2 ρ w id o := by
  cases o with
  | row e size els =>
    obtain ⟨xs, h1, h2, h3, h4⟩ := h
    exact ⟨xs, h1, h2, fun k hk j hj => ⟨(h3 k hk j hj).1, (h3 k hk j hj).2.mono hu fun _ _ => rfl⟩, hn⟩
  | cells ss =>
    obtain ⟨g, e, cs, h1, h2, h3, h4, h5, h6⟩ := h
    exact ⟨g, e, cs, h1, h2, hn g (by rw [h1]; rfl), h4, h5, fun j hj hj' => ⟨(h6 j hj hj').1, RepS.turn (row := none) (h6 j hj hj').2 hF (fun g hg => by simp at hg) ⟨rfl, rfl, rfl, Nat.le_refl _, fun _ _ _ => rfl⟩ hu⟩⟩
  | cellsT ty0 ss =>
    obtain ⟨g, cs, h1, h2, h3, h4, h5, h6⟩ := h
    exact ⟨g, cs, h1, h2, hn g (by rw [h1]; rfl), h4, h5, fun j hj hj' => ⟨(h6 j hj hj').1, RepS.turn (row := none) (h6 j hj hj').2 hF (fun g hg => by simp at hg) ⟨rfl, rfl, rfl, Nat.le_refl _, fun _ _ _ => rfl⟩ hu⟩⟩
  | map M =>
    obtain ⟨g, es, cl, h1, h2, h3, h4, h5, h6⟩ := h
    exact ⟨g, es, cl, h1, h2, hn g (by rw [h1]; rfl), h4, h5, fun j hj hj' => ⟨(h6 j hj hj').1, (h6 j hj hj').2.mono hu fun _ _ => rfl⟩⟩
  | rowS e size els =>
    obtain ⟨xs, h1, h2, h3, h4⟩ := h
    exact ⟨xs, h1, h2, fun k hk j hj => ⟨(h3 k hk j hj).1, RepS.turn (row := none) (h3 k hk j hj).2 hF (fun g hg => by simp at hg) ⟨rfl, rfl, rfl, Nat.le_refl _, fun _ _ _ => rfl⟩ hu⟩, hn⟩
  | bts l =>
    obtain ⟨g, e, cap, cur, fz, h1, h2, h3, h4, h5⟩ := h
    exact ⟨g, e, cap, cur, fz, h1, h2, hn g (by rw [h1]; rfl), h4, h5⟩
  | val ss =>
    obtain ⟨cs, h1, h2, h3⟩ := h
    exact ⟨cs, h1, h2, fun j hj hj' => ⟨(h3 j hj hj').1, RepS.turn (row := none) (h3 j hj hj').2 hF (fun g hg => by simp at hg) ⟨rfl, rfl, rfl, Nat.le_refl _, fun _ _ _ => rfl⟩ hu⟩⟩
  | iter M done =>
    obtain ⟨g, b, es, cl, sn, c0, h1, h2, h3, h4, h5, h6, h7, h8⟩ := h
    exact ⟨g, b, es, cl, sn, c0, h1, h2, hn g (by rw [h1]; rfl), h4, hu b h5, h6, h7, fun j hj hj' => ⟨(h8 j hj hj').1, (h8 j hj hj').2.mono hu fun _ _ => rfl⟩⟩

def Env.argsS : Nat → List S → Env
  | _, [] => fun _ => .d .any
  | k, d :: ds => fun u => match Nat.beq u k with | true => d | false => Env.argsS (k + 1) ds u
def RetDX (e : Env) (σ σ' : Obs) (t : Nat) (d : D) : Prop := (∃ d0, e t = .d d0 ∧ Le d0 d) ∨ ∃ id ee size els, e t = .own id ∧ (id, Ob.row ee size els) ∈ σ ∧ (∀ q ∈ σ', q.1 ≠ id) ∧ d = .sl els
theorem RetDX.eq {e : Env} {σ σ' : Obs} {t : Nat} {d d' : D} (h : e t = .d d) (hd : d = d') : RetDX e σ σ' t d' := .inl ⟨d, h, Le.of_eq hd⟩
theorem RetDX.own {e : Env} {σ σ' : Obs} {t id ee size : Nat} {els els' : List (List D)} (h : e t = .own id) (hm : (id, Ob.row ee size els) ∈ σ) (hn : Obs.fresh id σ' = true) (hd : els = els') : RetDX e σ σ' t (.sl els') :=
  .inr ⟨id, ee, size, els, h, hm, Obs.fresh_spec hn, by rw [hd]⟩
def RetLX (e : Env) (σ σ' : Obs) : List Nat → List D → Prop
  | [], [] => True
  | t :: ts, d :: ds => RetDX e σ σ' t d ∧ RetLX e σ σ' ts ds
  | _, _ => False
def AllIn (σ : Obs) : Obs → Prop
  | [] => True
  | p :: l => p ∈ σ ∧ AllIn σ l
def RetX (ts : List Nat) (ds : List D) (σ' : Obs) : Post := fun ex e σ => match ex with
  | .ret => RetLX e σ σ' ts ds ∧ AllIn σ σ'
  | .normal => RetLX e σ σ' ts ds ∧ AllIn σ σ'
  | _ => False

def endFX (F : Nat → Prop) (ρ : Nat → Value) (σ σ' : Obs) : Nat → Prop := fun b => F b ∨ ∃ p ∈ σ, (∀ q ∈ σ', q.1 ≠ p.1) ∧ blk (ρ p.1) = some b

/-! ## The caller -/
def S.killP (c : Nat → Bool) : S → S
  | .own i => match c i with | true => .d .any | false => .own i
  | .ptr i off => match c i with | true => .d .any | false => .ptr i off
  | .d x => .d x
  | .clo f caps => match Cap.anyP c caps with | true => .d .any | false => .clo f caps
def Env.killP (c : Nat → Bool) (e : Env) : Env := fun t => (e t).killP c
def Ob.killP (c : Nat → Bool) : Ob → Ob
  | .row e size els => .row e size els
  | .cells ss => .cells (ss.map (S.killP c))
  | .cellsT e ss => .cellsT e (ss.map (S.killP c))
  | .map M => .map M
  | .rowS e size els => .rowS e size (els.map fun ss => ss.map (S.killP c))
  | .bts l => .bts l
  | .val ss => .val (ss.map (S.killP c))
  | .iter M done => .iter M done
def Obs.killP (c : Nat → Bool) : Obs → Obs
  | [] => []
  | p :: l => (p.1, p.2.killP c) :: Obs.killP c l
def Obs.dels : Obs → Obs → Obs
  | [], σ => σ
  | p :: l, σ => Obs.dels l (Obs.del p.1 σ)
def Obs.join : Obs → Obs → Obs
  | [], σ => σ
  | p :: l, σ => p :: Obs.join l σ
def Obs.allIds (c : Nat → Bool) : Obs → Bool
  | [] => true
  | p :: l => c p.1 && Obs.allIds c l
def ArgsS (e : Env) : List Operand → List S → Prop
  | [], [] => True
  | x :: xs, s :: ss => SLe (e.ev x) s ∧ ArgsS e xs ss
  | _, _ => False
section
variable {cx : Cx} {ops : Array Oper} {o : Oper} {rest : List Oper} {e : Env} {σ : Obs} {Q : Post}
end

end Go.Proofs.YtfjnbgldlnanhaaDoor


namespace Go.Proofs.YtfjnbgldlnanhaaDoor
open Go.RowKit
section
variable {P : Program} {B : Nat} {ops : Array Oper} {o : Oper} {e : Env} {σ : Obs}
end
end Go.Proofs.YtfjnbgldlnanhaaDoor


namespace Go.Proofs.YtfjnbgldlnanhaaDoor
open Go.RowKit

/-- One cell an element, each of a plain value: the elder word for it. -/
theorem sl_of_rep {α : Type} {F : Nat → Prop} {w : World} {x : Value} (l : List α) (f : α → Value) (h : Rep F w x (.sl (l.map fun a => [D.v (f a)]))) : Sl w 1 x l.length (l.map f) := by
  refine ⟨by simp, ?_⟩
  rcases rep_sl_sl h with ⟨rfl, h2⟩ | ⟨ad, cap, size, vs, rfl, hc, hm, hF, hs, hcell, hone, hrep⟩
  · have : l = [] := by simpa using h2
    subst this
    exact .inl ⟨rfl, rfl⟩
  · rw [List.length_map] at hc hcell
    refine .inr ⟨ad, cap, by simp, hc, hm, fun i hi => ?_⟩
    rw [List.length_map] at hi
    have hs1 : size = 1 := by rw [← hs i (by simpa using hi)]; simp
    subst hs1
    have h3 := hcell i 0 hi (by omega)
    have h4 := hrep i (by simpa using hi) 0 (by simp)
    simp only [List.getElem_map, List.getElem_cons_zero] at h4
    rw [Nat.mul_one, Nat.add_zero] at h3
    rw [h3, rep_v h4]
    simp

def u8D (c : UInt8) : List D := [.v (.int .u8 (c.toNat : Int))]
def u32D (n : Nat) : List D := [.v (.int .u32 (n : Int))]
def intD (n : Int) : List D := [.v (.int .i64 n)]

section
variable {P : Program} {B : Nat} {ops : Array Oper} {o : Oper} {e : Env} {σ : Obs}
/-- string(b), b frozen bytes. -/
theorem AOp.bytesStr {s t el : TypeId} {x : Operand} {l : List UInt8} (ho : o.op = .convert s t x) (hs : P.underlying s = some (.slice el)) (he : P.underlying el = some (.int .u8)) (hd : P.underlying t = some .string) (hx : e.ev x = .d (.sl (l.map u8D))) :
    AOp P B ops o e σ (.d (.v (.string ⟨l.toArray⟩))) := .value fun F ρ w a hF hr _ => by
  have h1 := hr x (by rw [ho]; simp [Op.operands])
  rw [hx] at h1
  have h2 := sl_of_rep l (fun c => .int .u8 (c.toNat : Int)) (repS_d h1)
  refine ⟨_, F, w, ?_, .d (.v _), Ext.refl hF⟩
  unfold execOp
  simp only [ho]
  rw [Sem.run_bind]
  rcases h2.2 with ⟨h3, h4⟩ | ⟨ad, cap, h3, h4, h5, h6⟩
  · have : l = [] := List.eq_nil_of_length_eq_zero h4
    subst this
    rw [h3, run_convert_bytes_nil w s el hs he 0 0 t hd]
    rfl
  · rw [h3, run_convert_bytes_back w s t el ad cap l hs he hd (fun j hj => by
      have := h6 j (by simpa using hj)
      simpa using this)]
    rfl
end
end Go.Proofs.YtfjnbgldlnanhaaDoor


namespace Go.Proofs.YtfjnbgldlnanhaaDoor
open Go.ChangeShapes Go.WideShapes Go.ChangeAt Go.RowKit

theorem blk_append {H : Type} (l r : List (DataW H)) : Rows.uptoBulkAll (l ++ r) = Rows.uptoBulkAll l + Rows.uptoBulkAll r := by
  induction l with
  | nil => simp [Rows.uptoBulkAll]
  | cons x l ih => simp only [List.cons_append, Rows.uptoBulkAll, ih]; omega
def sumOf {α : Type} (B : α → Nat) : List α → Nat
  | [] => 0
  | x :: l => B x + sumOf B l
theorem sumOf_append {α : Type} (B : α → Nat) (l r : List α) : sumOf B (l ++ r) = sumOf B l + sumOf B r := by
  induction l with
  | nil => simp [sumOf]
  | cons x l ih => simp only [List.cons_append, sumOf, ih]; omega
theorem cells?_all {w : World} {base n : Nat} {ad : Addr} {cs : List Value} (h : w.cells? base ad n = some cs) : cs.length = n ∧ ∀ j (hj : j < cs.length), w.cell? (ad.add j) = some cs[j] := by
  unfold World.cells? at h
  split at h
  · have hl := mapM_some_length h
    simp at hl
    refine ⟨hl, fun j hj => ?_⟩
    have h2 := mapM_some_get h j j (by rw [List.getElem?_range (by omega)])
    rw [h2, List.getElem?_eq_getElem hj]
  · cases h

/-- All blocks that are there. -/
abbrev allF (w : World) : Nat → Prop := fun b => b < w.heap.size

/-- A reading of the type t is one of enc. -/
structure Opens {α : Type} (P : Program) (t size : Nat) (enc : α → List D) (ok : α → Prop) (B : α → Nat) : Prop where
  len : ∀ y, (enc y).length = size
  get : ∀ {H : Type} {encH : TypeId × Value → H} {w : World} {n : Nat} {cs : List Value} {x : DataW H × List MemPlace}, DataW.trod encH P w 0 (fun _ => true) true n t cs = some x → cs.length = size →
    ∃ y, ok y ∧ RepL (allF w) w cs (enc y) ∧ (∀ u ∈ cs, u.oneCell' = true) ∧ B y ≤ Rows.uptoBulk x.1

theorem Opens.map {α β : Type} {P : Program} {t size : Nat} {enc : α → List D} {ok : α → Prop} {B : α → Nat} {enc' : β → List D} {ok' : β → Prop} {B' : β → Nat} (O : Opens P t size enc ok B) (f : α → β) (h : ∀ y, enc' (f y) = enc y) (hl : ∀ y, (enc' y).length = size) (ho : ∀ y, ok y → ok' (f y)) (hb : ∀ y, B' (f y) ≤ B y) :
    Opens P t size enc' ok' B' :=
  ⟨hl, fun hx hc => by
    obtain ⟨y, h1, h2, h3, h4⟩ := O.get hx hc
    exact ⟨f y, ho y h1, by rw [h]; exact h2, h3, Nat.le_trans (hb y) h4⟩⟩

section
variable {P : Program} {t : Nat}
theorem opens_i64 (ht : P.underlying t = some (.int .i64)) : Opens P t 1 intD (fun n => -9223372036854775808 ≤ n ∧ n ≤ 9223372036854775807) (fun _ => 1) :=
  ⟨fun _ => rfl, fun hx _ => by
    obtain ⟨n, rfl, rfl, h1⟩ := DataW.trod_int ht hx
    have h2 : -9223372036854775808 ≤ n ∧ n ≤ 9223372036854775807 := by simpa [Lit.wf, IntKind.min, IntKind.max, IntKind.signed, IntKind.bits] using h1
    exact ⟨n, h2, RepL.cons (.v _) RepL.nil, fun u hu => by simp at hu; rw [hu]; rfl, by simp [Rows.uptoBulk]⟩⟩
def boolD (b : Bool) : List D := [.v (.bool b)]
def strD (s : ByteArray) : List D := [.v (.string s)]
theorem opens_str (ht : P.underlying t = some .string) : Opens P t 1 strD (fun s => s.size ≤ 9223372036854775807) (fun s => s.size + 1) :=
  ⟨fun _ => rfl, fun hx _ => by
    obtain ⟨s, rfl, rfl, h1⟩ := DataW.trod_string ht hx
    refine ⟨s, by unfold maxLen at h1; omega, RepL.cons (.v _) RepL.nil, fun u hu => by simp at hu; rw [hu]; rfl, ?_⟩
    simp only [Rows.uptoBulk, Array.length_toList]
    exact Nat.le_refl _⟩

def slD {α : Type} (enc : α → List D) (l : List α) : List D := [.sl (l.map enc)]
theorem opens_slice {α : Type} {e size : Nat} {enc : α → List D} {ok : α → Prop} {B : α → Nat} (ht : P.underlying t = some (.slice e)) (hc : P.cellsOf e = size) (hs : 0 < size) (O : Opens P e size enc ok B) :
    Opens P t 1 (slD enc) (fun l => ∀ y ∈ l, ok y) (fun l => sumOf B l + 1) :=
  ⟨fun _ => rfl, fun {H encH w n cs x} hx _ => by
    rcases DataW.trod_slice ht hx with ⟨rfl, rfl⟩ | ⟨a, len, cap, elems, rest, n', _, rfl, rfl, _, hl, hm, hlen, hel, _, _⟩
    · exact ⟨[], fun y hy => by simp at hy, RepL.cons .nil RepL.nil, fun u hu => by simp at hu; rw [hu]; rfl, by simp [sumOf, Rows.uptoBulk]⟩
    · have each : ∀ m, m ≤ len → ∃ l : List α, l.length = m ∧ (∀ y ∈ l, ok y) ∧ (∀ i (hi : i < l.length), ∃ cs : List Value, cs.length = size ∧ (∀ j (hj : j < cs.length), w.cell? ((a.add (i * size)).add j) = some cs[j]) ∧ RepL (allF w) w cs (enc l[i]) ∧ ∀ u ∈ cs, u.oneCell' = true) ∧
          sumOf B l ≤ Rows.uptoBulkAll ((elems.take m).map (·.1)) := by
        intro m
        induction m with
        | zero => intro _; exact ⟨[], rfl, fun y hy => by simp at hy, fun i hi => absurd hi (by simp), by simp [sumOf]⟩
        | succ m ih =>
          intro hm1
          obtain ⟨l, h1, h2, h3, h4⟩ := ih (by omega)
          have hme : m < elems.length := by omega
          have hh := hel m (by omega)
          rw [hc, List.getElem?_eq_getElem hme, Option.bind_eq_some_iff] at hh
          obtain ⟨cs, hcs, htr⟩ := hh
          obtain ⟨hcl, hcg⟩ := cells?_all hcs
          obtain ⟨y, hy1, hy2, hy3, hy4⟩ := O.get htr hcl
          refine ⟨l ++ [y], by simp [h1], fun z hz => ?_, fun i hi => ?_, ?_⟩
          · rw [List.mem_append] at hz
            rcases hz with hz | hz
            · exact h2 z hz
            · simp at hz; rw [hz]; exact hy1
          · rw [List.length_append, List.length_singleton] at hi
            by_cases hlt : i < l.length
            · rw [List.getElem_append_left hlt]; exact h3 i hlt
            · have he : i = m := by omega
              subst he
              refine ⟨cs, hcl, hcg, ?_, hy3⟩
              rw [List.getElem_append_right (by omega)]
              simpa using hy2
          · rw [List.take_succ_eq_append_getElem hme, List.map_append, blk_append, sumOf_append]
            simp only [sumOf, List.map_cons, List.map_nil, Rows.uptoBulkAll]
            omega
      obtain ⟨l, h1, h2, h3, h4⟩ := each len (Nat.le_refl _)
      have h6 : elems.take len = elems := List.take_of_length_le (by omega)
      rw [h6] at h4
      refine ⟨l, h2, RepL.cons ?_ RepL.nil, fun u hu => by simp at hu; rw [hu]; rfl, by simp only [Rows.uptoBulk]; omega⟩
      have hch : ∀ i : Nat, ∃ cs : List Value, ∀ (hi : i < l.length), cs.length = size ∧ (∀ j (hj : j < cs.length), w.cell? ((a.add (i * size)).add j) = some cs[j]) ∧ RepL (allF w) w cs (enc l[i]) ∧ ∀ u ∈ cs, u.oneCell' = true := fun i => by
        by_cases hi : i < l.length
        · obtain ⟨cs, h⟩ := h3 i hi; exact ⟨cs, fun _ => h⟩
        · exact ⟨[], fun h => absurd h hi⟩
      let f : Nat → List Value := fun i => Classical.choose (hch i)
      have hf : ∀ i (hi : i < l.length), (f i).length = size ∧ (∀ j (hj : j < (f i).length), w.cell? ((a.add (i * size)).add j) = some (f i)[j]) ∧ RepL (allF w) w (f i) (enc l[i]) ∧ ∀ u ∈ f i, u.oneCell' = true := fun i hi => Classical.choose_spec (hch i) hi
      have hll : (l.map enc).length = len := by simp [h1]
      have := Rep.sl (F := allF w) (w := w) a cap size (l.map enc) (fun i j => (f i).getD j undef) (by omega) (by unfold maxLen at hm; omega) (fun h0 => by
          rw [List.length_map] at h0
          obtain ⟨g1, g2, _⟩ := hf 0 h0
          have h7 := World.block_lt_of_cell? w _ (g2 0 (by omega))
          rw [addr_block, addr_block] at h7
          exact h7) (fun i hi => by rw [List.getElem_map]; exact O.len _) (fun i j hi hj => by
          rw [List.length_map] at hi
          obtain ⟨g1, g2, _⟩ := hf i hi
          rw [← addr_add_add, g2 j (by omega), List.getD_eq_getElem?_getD, List.getElem?_eq_getElem (by omega), Option.getD_some]) (fun i j hi hj => by
          rw [List.length_map] at hi
          obtain ⟨g1, _, _, g4⟩ := hf i hi
          rw [List.getD_eq_getElem?_getD, List.getElem?_eq_getElem (by omega), Option.getD_some]
          exact g4 _ (List.getElem_mem _)) (fun i hi j hj => by
          rw [List.length_map] at hi
          obtain ⟨g1, _, g3, _⟩ := hf i hi
          simp only [List.getElem_map] at hj ⊢
          have hj' : j < (f i).length := by rw [g3.1]; exact hj
          rw [List.getD_eq_getElem?_getD, List.getElem?_eq_getElem hj', Option.getD_some]
          exact g3.2 j hj' hj)
      rw [hll] at this
      exact this⟩

/-- A struct's fields, from one on. -/
structure OpensF {α : Type} (P : Program) (fs : List (Nat × Nat × Nat)) (off total : Nat) (enc : α → List D) (ok : α → Prop) (B : α → Nat) : Prop where
  len : ∀ y, off + (enc y).length = total
  get : ∀ {H : Type} {encH : TypeId × Value → H} {w : World} {n : Nat} {cs : List Value} {xs : List (DataW H × List MemPlace)}, cs.length = total → xs.length = fs.length →
    (∀ (i : Nat) (f : Nat × Nat × Nat), fs[i]? = some f → DataW.trod encH P w 0 (fun _ => true) true n f.1 ((cs.drop f.2.1).take f.2.2) = xs[i]?) → ∃ y, ok y ∧ RepL (allF w) w (cs.drop off) (enc y) ∧ (∀ u ∈ cs.drop off, u.oneCell' = true) ∧ B y ≤ Rows.uptoBulkAll (xs.map (·.1))
theorem OpensF.nil {total : Nat} : OpensF (α := Unit) P [] total total (fun _ => []) (fun _ => True) (fun _ => 0) :=
  ⟨fun _ => rfl, fun {H encH w n cs xs} hc _ _ => ⟨(), trivial, by rw [List.drop_eq_nil_of_le (by omega)]; exact RepL.nil, fun u hu => by rw [List.drop_eq_nil_of_le (by omega)] at hu; simp at hu, Nat.zero_le _⟩⟩
theorem OpensF.cons {α β : Type} {ft off size total : Nat} {fs : List (Nat × Nat × Nat)} {enc : α → List D} {ok : α → Prop} {B : α → Nat} {enc2 : β → List D} {ok2 : β → Prop} {B2 : β → Nat} (O : Opens P ft size enc ok B) (R : OpensF P fs (off + size) total enc2 ok2 B2) :
    OpensF (α := α × β) P ((ft, off, size) :: fs) off total (fun y => enc y.1 ++ enc2 y.2) (fun y => ok y.1 ∧ ok2 y.2) (fun y => B y.1 + B2 y.2) :=
  ⟨fun y => by have := R.len y.2; rw [List.length_append, O.len]; omega, fun {H encH w n cs xs} hc hl h => by
    rcases xs with _ | ⟨x, xs⟩
    · simp at hl
    have h0 := h 0 (ft, off, size) rfl
    simp only [List.getElem?_cons_zero] at h0
    obtain ⟨y2, k1, k2, k3, k4⟩ := R.get (encH := encH) (w := w) (n := n) (xs := xs) hc (by simpa using hl) (fun i f hf => by
      have := h (i + 1) f (by simpa using hf)
      simpa using this)
    have hle := R.len y2
    obtain ⟨y1, g1, g2, g3, g4⟩ := O.get h0 (by rw [List.length_take, List.length_drop]; omega)
    have hsplit : cs.drop off = (cs.drop off).take size ++ cs.drop (off + size) := by
      rw [← List.drop_drop]; exact (List.take_append_drop size (cs.drop off)).symm
    refine ⟨(y1, y2), ⟨g1, k1⟩, ?_, fun u hu => ?_, ?_⟩
    · rw [hsplit]; exact g2.append k2
    · rw [hsplit, List.mem_append] at hu
      rcases hu with hu | hu
      · exact g3 u hu
      · exact k3 u hu
    · simp only [List.map_cons, Rows.uptoBulkAll]; omega⟩

def structF (P : Program) (t total : Nat) (fs : List (Nat × Nat × Nat)) : Bool :=
  match P.underlying t with
  | some (.struct gs) => gs.size == fs.length && (gs.toList.zip fs).all (fun (g, f) => g.type == f.1 && g.offset == f.2.1 && P.cellsOf g.type == f.2.2) && P.cellsOf t == total
  | _ => false
theorem opens_struct {α : Type} {total : Nat} {fs : List (Nat × Nat × Nat)} {enc : α → List D} {ok : α → Prop} {B : α → Nat} (hb : structF P t total fs = true) (O : OpensF P fs 0 total enc ok B) : Opens P t total enc ok (fun y => B y + 1) :=
  ⟨fun y => by have := O.len y; omega, fun {H encH w n cs x} hx hc => by
    unfold structF at hb
    split at hb
    · rename_i gs hu
      simp only [Bool.and_eq_true, beq_iff_eq, List.all_eq_true] at hb
      obtain ⟨⟨h1, h2⟩, h3⟩ := hb
      obtain ⟨xs, n', _, rfl, _, hl, hf⟩ := DataW.trod_struct hu hx
      obtain ⟨y, k1, k2, k3, k4⟩ := O.get (encH := encH) (w := w) (n := n') (cs := cs) (xs := xs) hc (by omega) (fun i f hf' => by
        have hi : i < fs.length := (List.getElem?_eq_some_iff.1 hf').1
        have hfe : fs[i] = f := (List.getElem?_eq_some_iff.1 hf').2
        have hi' : i < gs.size := by omega
        have h4 := h2 (gs[i], f) (by
          rw [List.mem_iff_getElem]
          exact ⟨i, by simp; omega, by simp [hfe]⟩)
        simp only at h4
        have h5 := hf i gs[i] (by simp [hi'])
        rw [h4.2, h4.1.1, h4.1.2] at h5
        exact h5)
      rw [List.drop_zero] at k2 k3
      exact ⟨y, k1, k2, k3, by simp only [Rows.uptoBulk]; omega⟩
    · simp at hb⟩

theorem one_of {F : Nat → Prop} {w : World} {v : Value} {d : D} (h : RepL F w v.cells.toList [d]) (hc : v.cells = #[v]) : Rep F w v d := by
  rw [hc] at h
  exact h.2 0 (by simp) (by simp)
theorem agg_of {F : Nat → Prop} {w : World} {cs : Array Value} {ds : List D} (h : RepL F w (Value.agg cs).cells.toList ds) (h1 : ∀ u ∈ (Value.agg cs).cells.toList, u.oneCell' = true) : Rep F w (.agg cs) (.agg ds) := by
  have e : cs = cs.toList.toArray := by simp
  rw [e]
  exact .agg _ _ h.1 (fun i hi => h1 _ (List.getElem_mem hi)) h.2

/-- An argument that came in. -/
theorem Opens.arg {α : Type} {size : Nat} {enc : α → List D} {ok : α → Prop} {B : α → Nat} (O : Opens P t size enc ok B) {H : Type} {encH : TypeId × Value → H} {w : World} {v : Value} {d : DataW H} {p : List MemPlace} (h : DataW.Trod encH P w 0 (fun _ => true) true t v d p) (hc : v.cells.size = size) :
    ∃ y, ok y ∧ RepL (allF w) w v.cells.toList (enc y) ∧ (∀ u ∈ v.cells.toList, u.oneCell' = true) ∧ B y ≤ Rows.uptoBulk d := by
  obtain ⟨fuel, hf⟩ := h
  exact O.get hf (by rw [Array.length_toList]; exact hc)
end
end Go.Proofs.YtfjnbgldlnanhaaDoor


namespace Go.Proofs.YtfjnbgldlnanhaaDoor
open Go.RowKit
set_option linter.unusedVariables false

/-- f, called with an own row of the caller's (whichever) and data, turns the row's elements from els to els' and returns d. -/
def RCall (P : Program) (f : FuncId) (e size : Nat) (els els' : List (List D)) (ds : List D) (d : D) : Prop :=
  ∀ id, XCall P f (.own id :: ds.map S.d) [(id, .row e size els)] [(id, .row e size els')] (fun _ => false) d

/-- A call that only reads, where an own row is handed on: the row as it is. -/
theorem RCall.eq {P : Program} {f : FuncId} {e size : Nat} {els els' els2 els2' : List (List D)} {ds : List D} {d : D} (h : RCall P f e size els els' ds d) (h1 : els = els2) (h2 : els' = els2') : RCall P f e size els2 els2' ds d := by
  subst h1; subst h2; exact h
end Go.Proofs.YtfjnbgldlnanhaaDoor


namespace Go.Proofs.YtfjnbgldlnanhaaDoor
open Go.RowKit
set_option linter.unusedVariables false

/-- An operation that writes: from the objects σ to σ'; whatever else the slots hold. -/
def EOp (cx : Cx) (ops : Array Oper) (o : Oper) (e : Env) (σ σ' : Obs) : Prop :=
  ∀ (F : Nat → Prop) (ρ : Nat → Value) (a : Act) (w : World) (e0 : Env), R0 cx F ρ e0 σ a w → (∀ t, t ∈ o.looksAt ops → RepS F ρ w (a.tmps.getD t undef) (e t)) →
    o.wp cx.P a w (fun a' w' => a' = a ∧ ∀ e2, R0 cx F ρ e2 σ a w → ∃ F' ρ', R0 cx F' ρ' e2 σ' a w') (fun _ _ _ => False)

/-- One step; sl: who reads objects, ef: who writes them. -/
def GStep (cx : Cx) (ops : Array Oper) (sl ef : Nat → Bool) (k : Nat) (o : Oper) (e : Env) (σ : Obs) (e' : Env) (σ' : Obs) : Prop :=
  (GW ops o e true ∧ ∃ s, ((sl k = true ∧ AOp cx.P cx.B ops o e σ s) ∨ (∀ τ, AOp cx.P cx.B ops o e τ s)) ∧ e' = e.put o.dst s ∧ σ' = σ) ∨
  (GW ops o e false ∧ e' = e.put o.dst (.d (.v undef)) ∧ σ' = σ) ∨
  (GW ops o e true ∧ ef k = true ∧ o.dst = none ∧ EOp cx ops o e σ σ' ∧ e' = e)

def GRun (cx : Cx) (ops : Array Oper) (sl ef : Nat → Bool) : Nat → List Oper → Env → Obs → (Env → Obs → Prop) → Prop
  | _, [], e, σ, Q => Q e σ
  | k, o :: l, e, σ, Q => DstOk cx.N o ∧ ∃ e' σ', GStep cx ops sl ef k o e σ e' σ' ∧ GRun cx ops sl ef (k + 1) l e' σ' Q

def anyG (cx : Cx) (ops : Array Oper) (sl ef : Nat → Bool) (Q : Env → Obs → Prop) : Nat → Array Bool → Env → Obs → Prop
  | 0, listed, e, σ => Region.ready .any ops listed = [] ∧ Q e σ
  | fuel + 1, listed, e, σ => (Region.ready .any ops listed = [] → Q e σ) ∧
      ∀ i ∈ Region.ready .any ops listed, ∀ o, ops[i]? = some o → ∃ e' σ', GStep cx ops sl ef i o e σ e' σ' ∧ anyG cx ops sl ef Q fuel (listed.setIfInBounds i true) e' σ'

/-- Who comes after k, directly or not. -/
def Region.lateOf (ops : Array Oper) (k : Nat) : List Nat :=
  (List.range ops.size).foldl (fun acc j => if ((ops[j]?).map fun o => o.after.any fun e => Region.binds .any e && (Nat.beq e.on k || acc.any fun i => Nat.beq i e.on)).getD false then j :: acc else acc) []
/-- No two operations, of which one writes and the other one reads or writes, are free to change places. -/
def Region.sensFree (ops : Array Oper) (sl ef : Nat → Bool) (listed : Array Bool) (k : Nat) (late : Nat → Bool) : Bool :=
  (List.range ops.size).all fun j =>
    (!(late j) || (!(listed.getD j false) && ((ops[j]?).map fun o => o.after.any fun e => Region.binds .any e && (Nat.beq e.on k || late e.on)).getD true)) &&
    (Nat.beq j k || listed.getD j true || late j || (!(ef k && sl j) && !(sl k && ef j)))
def Region.lateB (ops : Array Oper) (k j : Nat) : Bool := Nat.blt j ops.size && (Region.lateOf ops k).any fun i => Nat.beq i j
def Region.sensFrom (ops : Array Oper) (sl ef : Nat → Bool) : Nat → Nat → Array Bool → Bool
  | 0, _, _ => true
  | fuel + 1, k, listed => (if sl k || ef k then Region.sensFree ops sl ef listed k (Region.lateB ops k) else true) && Region.sensFrom ops sl ef fuel (k + 1) (listed.setIfInBounds k true)
end Go.Proofs.YtfjnbgldlnanhaaDoor


namespace Go.Proofs.YtfjnbgldlnanhaaDoor
open Go.RowKit
set_option linter.unusedVariables false
section
variable {cx : Cx} {ops : Array Oper} {o : Oper} {rest : List Oper} {e : Env} {σ : Obs} {sl ef : Nat → Bool} {n : Nat} {l : List Oper} {Q : Env → Obs → Prop}
end
section
variable {cx : Cx} {ops : Array Oper} {o : Oper} {e : Env} {σ : Obs}
end
end Go.Proofs.YtfjnbgldlnanhaaDoor


namespace Go.Proofs.YtfjnbgldlnanhaaDoor
open Go.RowKit
set_option linter.unusedVariables false
section
variable {P : Program} {B : Nat} {ops : Array Oper} {o : Oper} {e : Env} {σ : Obs}
end
theorem row_same {id e size : Nat} {els els' : List (List D)} {τ : Obs} (h : els = els') : ∀ p ∈ [(id, Ob.row e size els')], p ∈ (id, Ob.row e size els) :: τ := fun p hp => by
  have : p = (id, Ob.row e size els') := by simpa using hp
  rw [this, ← h]
  exact .head _
end Go.Proofs.YtfjnbgldlnanhaaDoor


namespace Go.Proofs.YtfjnbgldlnanhaaDoor
open Go.RowKit
set_option linter.unusedVariables false
section
variable {P : Program} {B : Nat} {ops : Array Oper} {o : Oper} {e : Env} {σ : Obs}
end
end Go.Proofs.YtfjnbgldlnanhaaDoor


namespace Go.Proofs.YtfjnbgldlnanhaaDoor
open Go.RowKit
/-- A plain field's kind. -/
inductive Kd where
  | int (k : IntKind)
  | str
  | bool
def Kd.fits : Kd → Value → Bool
  | .int k, .int k' _ => decide (k' = k)
  | .str, .string _ => true
  | .bool, .bool _ => true
  | _, _ => false
def Kd.ofType (P : Program) (t : TypeId) : Kd → Bool
  | .int k => match P.underlying t with | some (.int k') => decide (k' = k) | _ => false
  | .str => match P.underlying t with | some .string => true | _ => false
  | .bool => match P.underlying t with | some .bool => true | _ => false
def kindsB : List Kd → List Value → Bool
  | [], [] => true
  | k :: ks, v :: vs => k.fits v && kindsB ks vs
  | _, _ => false
def fieldsB (P : Program) : Nat → List Kd → List Field → Bool
  | _, [], [] => true
  | i, k :: ks, f :: fs => (f.name != "_") && (f.offset == i) && k.ofType P f.type && fieldsB P (i + 1) ks fs
  | _, _, _ => false
def sameV : Value → Value → Bool
  | .int _ a, .int _ b => decide (a = b)
  | .string a, .string b => decide (a = b)
  | .bool a, .bool b => decide (a = b)
  | _, _ => false
def sameL : List Value → List Value → Bool
  | [], [] => true
  | a :: l, b :: r => sameV a b && sameL l r
  | _, _ => false
def eqStructB (P : Program) (t : TypeId) (ks : List Kd) : Bool :=
  (match P.underlying t with | some (.struct fs) => fieldsB P 0 ks fs.toList | _ => false) && !P.stoodInHeld t && !P.eqGuardType P.depth t
/-- Structs of plain fields compare field by field. -/
structure EqT (P : Program) (t : TypeId) (ks : List Kd) : Prop where
  guard : ∀ (op : BinOp) (x y : Operand) (us vs : Array Value) (w : World), (eqGuard op t x y (.agg us) (.agg vs)).run P w = .ok () w
  run : ∀ (us vs : List Value) (w : World), kindsB ks us = true → kindsB ks vs = true → (Op.equal t (.agg us.toArray) (.agg vs.toArray)).run P w = .ok (sameL us vs) w
/-- Two cell lists whose values compare as b. -/
def EqD (P : Program) (t : TypeId) (ds1 ds2 : List D) (b : Bool) : Prop := ∃ us vs : List Value, ds1 = us.map D.v ∧ ds2 = vs.map D.v ∧ (∀ (op : BinOp) (x y : Operand) (w : World), (eqGuard op t x y (.agg us.toArray) (.agg vs.toArray)).run P w = .ok () w) ∧
  ∀ w, (Op.equal t (.agg us.toArray) (.agg vs.toArray)).run P w = .ok b w
section
variable {P : Program} {B : Nat} {ops : Array Oper} {o : Oper} {e : Env} {σ : Obs}
end
end Go.Proofs.YtfjnbgldlnanhaaDoor


namespace Go.Proofs.YtfjnbgldlnanhaaDoor
open Go.RowKit
set_option linter.unusedVariables false

def Region.edge (ops : Array Oper) (m j : Nat) : Bool := ((ops[m]?).map fun o => o.after.any fun e => Region.binds .any e && Nat.beq e.on j).getD false
/-- Who must come before lies before. -/
def Region.downB (ops : Array Oper) : Bool := (List.range ops.size).all fun i =>
  ((ops[i]?).map fun o => (o.after.all fun e => !Region.binds .any e || Nat.blt e.on i) && (match o.guard with | none => true | some p => Nat.blt p.1 i)).getD true
/-- From k on each one waits for all before it. -/
def Region.chainB (ops : Array Oper) (k : Nat) : Bool := Region.downB ops && Nat.ble k ops.size && (List.range (ops.size - 1)).all fun j =>
  (List.range ops.size).any fun m => Nat.blt j m && (Nat.ble m k || Nat.ble m (j + 1)) && Region.edge ops m j
structure Chain (ops : Array Oper) (k : Nat) : Prop where
  down : Region.downB ops = true
  le : k ≤ ops.size
  next : ∀ j, j < ops.size - 1 → ∃ m, j < m ∧ (m ≤ k ∨ m ≤ j + 1) ∧ Region.edge ops m j = true
def Closed (ops : Array Oper) (listed : Array Bool) : Prop := ∀ i o, ops[i]? = some o → listed.getD i false = true → ∀ e ∈ o.after, Region.binds .any e = true → listed.getD e.on false = true
section
variable {P : Program} {ops : Array Oper} {Q Q0 : Exit → Act → World → Prop} {k : Nat}
end
end Go.Proofs.YtfjnbgldlnanhaaDoor


namespace Go.Proofs.YtfjnbgldlnanhaaDoor
open Go.RowKit Go.MapKept
set_option linter.unusedVariables false

/-- m[key] = d: what the map holds then. -/
def MPut (M : List (Value × D)) (key : Value) (d : D) (M' : List (Value × D)) : Prop :=
  (∃ i d0, M[i]? = some (key, d0) ∧ (∀ (j : Nat) (p : Value × D), M[j]? = some p → p.1 = key → j = i) ∧ M' = M.set i (key, d)) ∨ ((∀ p ∈ M, p.1 ≠ key) ∧ M' = M ++ [(key, d)])
/-- m[key]; z: the zero value. -/
def MGet (M : List (Value × D)) (key : Value) (z d : D) : Prop := (∃ i, M[i]? = some (key, d) ∧ ∀ (j : Nat) (p : Value × D), M[j]? = some p → p.1 = key → j = i) ∨ ((∀ p ∈ M, p.1 ≠ key) ∧ d = z)

theorem entries_get {F : Nat → Prop} {w : World} {M : List (Value × D)} {es : Array MapEntry} (hl : es.size = M.length) (h : ∀ i (h : i < es.size) (h' : i < M.length), es[i].key = M[i].1 ∧ Rep F w es[i].val M[i].2) {j : Nat} {en : MapEntry} (hj : es.toList[j]? = some en) :
    ∃ p, M[j]? = some p ∧ en.key = p.1 ∧ Rep F w en.val p.2 := by
  rw [Array.getElem?_toList] at hj
  obtain ⟨h1, h2⟩ := Array.getElem?_eq_some_iff.1 hj
  refine ⟨M[j]'(by omega), List.getElem?_eq_getElem _, ?_, ?_⟩
  · rw [← h2]; exact (h j h1 (by omega)).1
  · rw [← h2]; exact (h j h1 (by omega)).2
theorem setObj_turn {w : World} {b : Nat} {o : Obj} : Turn w { w with heap := w.heap.setIfInBounds b o } (some b) :=
  ⟨rfl, rfl, rfl, by simp, fun k _ hne => by
    have : b ≠ k := fun h => hne (by rw [h])
    simp [this]⟩
section
variable {cx : Cx} {ops : Array Oper} {o : Oper} {rest : List Oper} {e : Env} {σ σ' : Obs} {Q : Post}
theorem AOps.eff (hg : o.guard = none) (ht : o.dst = none) (h : EOp cx ops o e σ σ') (k : AOps cx ops rest e σ' Q) : AOps cx ops (o :: rest) e σ Q := by
  intro a w ⟨F, ρ, hr⟩
  refine wpList_plain hg fun K hK => ?_
  refine wp_to ?_ (fun _ _ _ => False.elim) (h F ρ a w e hr (fun t _ => hr.env t))
  rintro a' w' ⟨rfl, h3⟩
  obtain ⟨F', ρ', h4⟩ := h3 e hr
  exact hK _ _ (k _ _ ⟨F', ρ', h4⟩)
/-- make(map[K]V) -/
theorem AOps.makeMap {t dst : Nat} (id : Nat) (hg : o.guard = none) (ht : o.dst = some dst) (hdn : Nat.blt dst cx.N = true) (ho : o.op = .makeMap t none) (hid : Obs.fresh id σ = true)
    (k : AOps cx ops rest ((e.kill id).put (some dst) (.own id)) ((id, .map []) :: Obs.kill id σ) Q) (hfx : cx.free id = true := by rfl) : AOps cx ops (o :: rest) e σ Q := by
  intro a w ⟨F, ρ, h⟩
  refine wpList_plain hg fun K hK => ?_
  unfold Oper.wp execOp
  simp only [ho, Option.map_none, Sem.run_bind, run_makeMap, Result.andThen_ok, Sem.run_pure]
  refine hK _ _ (k _ _ ⟨F, fun j => if j = id then .map (some w.heap.size) else ρ j, ?_⟩)
  have hE : Ext F w F (w.alloc (.map #[] 0)) := Ext.of_below h.lt ((Below.refl _ _).alloc (Nat.le_refl _) _)
  have h2 := h.turn (ρ' := fun j => if j = id then .map (some w.heap.size) else ρ j) (id := id) (ob := .map []) (row := none) (w' := w.alloc (.map #[] 0)) (F' := F) (fun j hj => by simp [hj])
    ⟨hE.below.os, hE.below.tape, hE.below.output, hE.below.size, fun k hk _ => hE.below.block k hk⟩ hfx (fun g hg => by simp at hg) (fun b hb => hb) (fun b hb => .inl hb) hE.lt
    ⟨w.heap.size, #[], 0, by simp, h.hB, fun hf => by have := h.lt _ hf; omega, (MapKept.heap_alloc w _).1, MapC.nil 0, fun i hi => by simp at hi⟩
    (fun g hg => by simp [blk] at hg; exact .inr (by omega)) ((id, .map []) :: Obs.kill id σ) (fun p hp => by
      cases hp with
      | head => exact .inl rfl
      | tail _ hp => obtain ⟨q, hq, rfl⟩ := Obs.mem_kill hp; exact .inr ⟨q, hq, Obs.fresh_spec hid q hq, rfl⟩)
  have h3 := h2.put (o := ⟨some dst, .ready 0, 0, "", #[], none⟩) (v := .map (some w.heap.size)) (s := .own id) (Ext.refl h2.lt) (by
    have := RepS.own (F := F) (ρ := fun j => if j = id then Value.map (some w.heap.size) else ρ j) (w := w.alloc (.map #[] 0)) id
    simpa using this) (by simpa [DstOk, Nat.blt_eq] using hdn)
  rw [ht]
  exact h3
end
section
variable {P : Program} {B : Nat} {ops : Array Oper} {o : Oper} {e : Env} {σ : Obs}
/-! Closures. -/
def CapsOk (e : Env) : List Operand → List Cap → Prop
  | [], [] => True
  | x :: xs, .p id off :: cs => e.ev x = .ptr id off ∧ CapsOk e xs cs
  | x :: xs, .d y :: cs => e.ev x = .d y ∧ CapsOk e xs cs
  | _, _ => False
theorem CapsOk.d {x : Operand} {xs : List Operand} {y : D} {cs : List Cap} (h : e.ev x = .d y) (k : CapsOk e xs cs) : CapsOk e (x :: xs) (.d y :: cs) := ⟨h, k⟩
end
def Cap.toS : Cap → S
  | .p id off => .ptr id off
  | .d y => .d y
section
variable {cx : Cx} {ops : Array Oper} {o : Oper} {rest : List Oper} {e : Env} {σ : Obs} {Q : Post}
end
/-! Cells. -/
/-- An own block of cells that is written no more: it is data now. -/
theorem R0.freezeCells {cx : Cx} {F : Nat → Prop} {ρ : Nat → Value} {e : Env} {σ : Obs} {a : Act} {w : World} (h : R0 cx F ρ e σ a w) {t id : Nat} {ds : List D} (ht : e t = .ptr id 0) (hm : (id, Ob.cells (ds.map S.d)) ∈ σ) :
    ∃ F', R0 cx F' ρ (e.put (some t) (.d (.fp ds))) (Obs.del id σ) a w := by
  have hF2 : ∀ b, (F b ∨ blk (ρ id) = some b) → b < w.heap.size := fun b hb => by
    rcases hb with hb | hb
    · exact h.lt b hb
    · exact ((h.obs.ok _ hm).blk_lt hb).2
  have keep : ∀ {x : Value} {s : S}, RepS F ρ w x s → RepS (fun b => F b ∨ blk (ρ id) = some b) ρ w x s := fun hx =>
    RepS.turn (row := none) hx h.lt (fun g hg => by simp at hg) ⟨rfl, rfl, rfl, Nat.le_refl _, fun _ _ _ => rfl⟩ (fun b hb => .inl hb)
  refine ⟨fun b => F b ∨ blk (ρ id) = some b, h.size, h.defers, hF2, fun b hb => .inl (h.base b hb), fun b hb => ?_, h.below, h.hB, fun u => ?_, ?_, h.up, fun p hp => h.kown p (Obs.mem_del hp).1, h.fixed⟩
  · rcases hb with hb | hb
    · exact h.new b hb
    · exact .inr (h.kown _ hm b hb)
  · by_cases hu : u = t
    · subst hu
      rw [Env.put_same]
      have h1 := h.env u
      rw [ht] at h1
      obtain ⟨g, ty, cs, h2, h3, h4, h5, h6, h7⟩ := h.obs.ok _ hm
      dsimp only at h2
      have hv := ptr_at h1 (g := g) (by rw [h2]; rfl)
      rw [hv]
      refine .d (.fp ⟨g, 0, none⟩ ds (fun j => cs.getD j undef) (.inr (by rw [h2]; rfl)) (fun j hj => ?_) (fun j hj => ?_) (fun j hj => ?_))
      · have hjc : j < cs.length := by simp at h6; omega
        rw [addr_add, cell_of_row w g (0 + j) cs.toArray ty (0, 0) h5]
        simp [hjc]
      · have hjc : j < cs.length := by simp at h6; omega
        have := (h7 j hjc (by simpa using hj)).1
        simpa [hjc] using this
      · have hjc : j < cs.length := by simp at h6; omega
        have h8 := (h7 j hjc (by simpa using hj)).2
        rw [List.getElem_map] at h8
        have h9 := repS_d (keep h8)
        simpa [hjc] using h9
    · rw [Env.put_other _ _ _ _ hu]
      exact keep (h.env u)
  · refine ⟨fun p hp => ?_, fun p hp q hq => h.obs.apart p (Obs.mem_del hp).1 q (Obs.mem_del hq).1, fun p hp q hq => h.obs.uniq p (Obs.mem_del hp).1 q (Obs.mem_del hq).1⟩
    obtain ⟨h1, h2⟩ := Obs.mem_del hp
    exact (h.obs.ok p h1).more h.lt (fun b hb => .inl hb) fun g hg hf => by
      rcases hf with hf | hf
      · exact (h.obs.ok p h1).nF hg hf
      · exact h.obs.apart p h1 _ hm h2 g hg hf
theorem AOps.freezeCells {cx : Cx} {ops : Array Oper} {rest : List Oper} {e : Env} {σ : Obs} {Q : Post} (t : Nat) {id : Nat} {ds : List D} (ht : e t = .ptr id 0) (hm : (id, Ob.cells (ds.map S.d)) ∈ σ) (k : AOps cx ops rest (e.put (some t) (.d (.fp ds))) (Obs.del id σ) Q) : AOps cx ops rest e σ Q :=
  fun a w ⟨_, ρ, hr⟩ => by
    obtain ⟨F', h⟩ := hr.freezeCells ht hm
    exact k a w ⟨F', ρ, h⟩
end Go.Proofs.YtfjnbgldlnanhaaDoor


namespace Go.Proofs.YtfjnbgldlnanhaaDoor
open Go.RowKit
set_option linter.unusedVariables false

/-- The operation that makes the block. -/
def QF (dst id : Nat) (s0 : S) (ob : Ob) (e0 : Env) (σ : Obs) : Post := fun ex e' σ' => match ex with
  | .normal => e' = (e0.kill id).put (some dst) s0 ∧ σ' = (id, ob) :: Obs.kill id σ
  | _ => False
/-- What a region makes: the slot, the object, how the slot reads, what the object is. -/
structure Fr where
  dst : Nat
  id : Nat
  s0 : S
  ob : Ob
def frObs (Φ : List Fr) : Obs := Φ.map fun f => (f.id, f.ob)
structure FrOk (cx : Cx) (Φ : List Fr) (σ : Obs) : Prop where
  uid : ∀ f ∈ Φ, ∀ g ∈ Φ, f.id = g.id → f = g
  udst : ∀ f ∈ Φ, ∀ g ∈ Φ, f.dst = g.dst → f = g
  own : ∀ f ∈ Φ, f.s0.kill f.id = .d .any ∧ f.s0 ≠ .d .any
  other : ∀ f ∈ Φ, ∀ g ∈ Φ, g.id ≠ f.id → g.s0.kill f.id = g.s0 ∧ g.ob.kill f.id = g.ob
  fresh : ∀ f ∈ Φ, Obs.fresh f.id σ = true
  kill : ∀ f ∈ Φ, Obs.kill f.id σ = σ
  free : ∀ f ∈ Φ, cx.free f.id = true
theorem FrOk.one {cx : Cx} {σ : Obs} {f : Fr} (h1 : f.s0.kill f.id = .d .any) (h2 : f.s0 ≠ .d .any) (h3 : Obs.fresh f.id σ = true) (h4 : Obs.kill f.id σ = σ) (h5 : cx.free f.id = true) : FrOk cx [f] σ where
  uid := fun a ha b hb _ => by rw [List.mem_singleton] at ha hb; rw [ha, hb]
  udst := fun a ha b hb _ => by rw [List.mem_singleton] at ha hb; rw [ha, hb]
  own := fun a ha => by rw [List.mem_singleton] at ha; subst ha; exact ⟨h1, h2⟩
  other := fun a ha b hb hne => by rw [List.mem_singleton] at ha hb; subst ha; subst hb; exact absurd rfl hne
  fresh := fun a ha => by rw [List.mem_singleton] at ha; subst ha; exact h3
  kill := fun a ha => by rw [List.mem_singleton] at ha; subst ha; exact h4
  free := fun a ha => by rw [List.mem_singleton] at ha; subst ha; exact h5
def FreshOp (cx : Cx) (ops : Array Oper) (τ : Obs) (f : Fr) (o : Oper) (e : Env) : Prop :=
  o.dst = some f.dst ∧ ∀ (e0 : Env) (σ : Obs), (∀ p ∈ τ, p ∈ σ) → (∀ t, t ∈ o.looksAt ops → e0 t = e t) → Obs.fresh f.id σ = true → AOps cx ops [o] e0 σ (QF f.dst f.id f.s0 f.ob e0 σ)
def notDst (Φ : List Fr) (o : Oper) : Prop := ∀ f ∈ Φ, o.dst ≠ some f.dst
def XStep (cx : Cx) (ops : Array Oper) (σ : Obs) (Φ : List Fr) (o : Oper) (e : Env) (s : S) : Prop :=
  (GW ops o e true ∧ ((∃ f ∈ Φ, FreshOp cx ops σ f o e ∧ s = f.s0) ∨ (AOp cx.P cx.B ops o e σ s ∧ notDst Φ o ∧ ∀ f ∈ Φ, s.kill f.id = s ∨ ∃ t, t ∈ o.looksAt ops ∧ (e t).kill f.id ≠ e t))) ∨ (GW ops o e false ∧ s = .d (.v undef) ∧ notDst Φ o)
def XRun (cx : Cx) (ops : Array Oper) (σ : Obs) (Φ : List Fr) : List Oper → Env → (Env → Prop) → Prop
  | [], e, Qe => (∀ f ∈ Φ, e f.dst = f.s0) ∧ Qe e
  | o :: l, e, Qe => DstOk cx.N o ∧ ∃ s, XStep cx ops σ Φ o e s ∧ XRun cx ops σ Φ l (e.put o.dst s) Qe
def anyX (cx : Cx) (ops : Array Oper) (σ : Obs) (Φ : List Fr) (Qe : Env → Prop) : Nat → Array Bool → Env → Prop
  | 0, listed, e => Region.ready .any ops listed = [] ∧ Qe e
  | fuel + 1, listed, e => (Region.ready .any ops listed = [] → Qe e) ∧
      ∀ i ∈ Region.ready .any ops listed, ∀ o, ops[i]? = some o → ∃ s, XStep cx ops σ Φ o e s ∧ anyX cx ops σ Φ Qe fuel (listed.setIfInBounds i true) (e.put o.dst s)
def RelX (cx : Cx) (ops : Array Oper) (σ : Obs) (Φ : List Fr) (listed : Array Bool) (e : Env) (a : Act) (w : World) : Prop :=
  ∃ Δ : List Fr, (∀ g ∈ Δ, g ∈ Φ) ∧ (∀ g ∈ Δ, ∃ i o, ops[i]? = some o ∧ listed.getD i false = true ∧ o.dst = some g.dst) ∧ (∀ g ∈ Δ, e g.dst = g.s0) ∧ (∀ f ∈ Φ, ¬ f ∈ Δ → ∀ t, (e t).kill f.id = e t) ∧ R cx e (frObs Δ ++ σ) a w
section
variable {cx : Cx} {ops : Array Oper} {σ : Obs} {Φ : List Fr} {e : Env} {Qe : Env → Prop} {o : Oper} {l : List Oper}
def Holds (p : Fr → Prop) : List Fr → Prop
  | [] => True
  | f :: l => p f ∧ Holds p l
def neDst (o : Oper) (dst : Nat) : Bool := match o.dst with | none => true | some t => !(Nat.beq t dst)
def neAll (Φ : List Fr) (o : Oper) : Bool := Φ.all fun f => neDst o f.dst
end
def Env.killAll : List Fr → Env → Env
  | [], e => e
  | f :: l, e => Env.killAll l (e.kill f.id)
end Go.Proofs.YtfjnbgldlnanhaaDoor


namespace Go.Proofs.YtfjnbgldlnanhaaDoor
open Go.RowKit
set_option linter.unusedVariables false

/-- What is so stays so while what was there is kept. -/
def Stays (T : World → Prop) : Prop := ∀ w w', Kept (fun b => w.heap.size ≤ b) w w' → T w → T w'
/-- A contract that wants T of the world. -/
def ACallT (P : Program) (T : World → Prop) (f : FuncId) (ds : List D) (d : D) : Prop := Enters P f ∧
  ∀ (F : Nat → Prop) (w : World) (vs : List Value), T w → (∀ b, F b → b < w.heap.size) → RepL F w vs ds → Calls P f vs.toArray w fun e w' => ∃ v F', e = .returned v ∧ Rep F' w' v d ∧ Ext F w F' w'
theorem AOps.callT {cx : Cx} {ops : Array Oper} {o : Oper} {rest : List Oper} {e : Env} {σ : Obs} {Q : Post} {T : World → Prop} {f : FuncId} {xs : List Operand} {ts : Array TypeId} {ds : List D} {d : D} (hg : GW ops o e true) (hd : DstOk cx.N o)
    (ho : o.op = .call { callee := .value (.func f), args := xs.toArray, argTypes := ts }) (hT : T cx.w0) (hS : Stays T) (hfr : cx.fr = fun b => cx.w0.heap.size ≤ b) (ha : ArgsOk e xs ds) (h : ACallT cx.P T f ds d)
    (k : AOps cx ops rest (e.put o.dst (.d d)) σ Q) : AOps cx ops (o :: rest) e σ Q := by
  intro a w ⟨F, ρ, hr⟩
  have hw := hg.wanted (fun t _ => hr.env t)
  have hTw : T w := hS _ _ (by rw [← hfr]; exact hr.below) hT
  have h1 : RepL F w (xs.map a.eval) ds := ha.rep (ρ := ρ) fun t _ => hr.env t
  have h2 := h.2 F w _ hTw hr.lt h1
  have h3 := h.1 (xs.map a.eval).toArray w
  have hx : (execOp a.eval o).run cx.P w = .ok (.enter f (xs.map a.eval).toArray) w := by
    unfold execOp
    simp only [ho, resolve, Deferred.ofValue, Act.eval, invoke, Sem.run_bind, Sem.run_pure, Result.andThen_ok]
    simpa using h3
  unfold wpList
  rw [if_pos hw]
  refine .inl ?_
  unfold Oper.wp
  rw [hx]
  refine h2.mono fun _ w' ⟨v, F', he, hv, hE⟩ => ?_
  subst he
  exact k _ _ ⟨F', ρ, hr.put hE (.d hv) hd⟩

theorem acall_ofT {T : World → Prop} {P : Program} {f : FuncId} {fn : Func} {c : Code} {n : Nat} {ds ds' : List D} (hf : P.funcs[f]? = some fn) (hb : fn.body = some c) (hn : (fn.name == "runtime.NumGoroutine") = false) (hN : fn.ntmps = n)
    (ts : List Nat) (hr : fn.results = (ts.map ResultVar.tmp).toArray) (hle' : Nat.ble ds.length n = true) (h : ∀ B w0 F0, T w0 → AWP ⟨P, n, B, w0, F0, (fun b => w0.heap.size ≤ b), fun _ => false, fun _ => undef⟩ c (Env.args 0 ds) [] (RetQ ts ds')) : ACallT P T f ds (retOf ds') := by
  have hle : ds.length ≤ n := Nat.le_of_ble_eq_true hle'
  refine ⟨Enters.of hf hn (by rw [hb]; rfl), fun F w vs hT hF hv => ?_⟩
  refine calls_of_wp hf hb ?_
  have hR : R ⟨P, n, w.heap.size, w, F, (fun b => w.heap.size ≤ b), fun _ => false, fun _ => undef⟩ (Env.args 0 ds) [] { tmps := vs.toArray ++ Array.replicate (fn.ntmps - vs.toArray.size) undef, defers := [] } w := by
    refine ⟨F, fun _ => undef, ?_, rfl, hF, fun b hb => hb, fun b hb => .inl hb, Kept.refl _ _, Nat.le_refl _, fun t => ?_, ⟨fun p hp => by simp at hp, fun p hp => by simp at hp, fun p hp => by simp at hp⟩, fun b hb => hb, fun p hp => by simp at hp, fun i hi => by simp at hi⟩
    · simp [hN, hv.1]; omega
    · by_cases ht : t < ds.length
      · have := Env.args_get ds 0 t ht
        rw [Nat.zero_add] at this
        rw [this]
        have hvt : t < vs.length := by rw [hv.1]; exact ht
        have : (vs.toArray ++ Array.replicate (fn.ntmps - vs.toArray.size) undef).getD t undef = vs[t] := by
          rw [Array.getD_eq_getD_getElem?, Array.getElem?_append_left (by simpa using hvt)]
          simp [hvt]
        rw [this]
        exact .d (hv.2 t hvt ht)
      · have := Env.args_out ds 0 t (by omega)
        rw [Nat.zero_add] at this
        rw [this]
        exact .d (.any _)
  refine wp_mono (h _ _ _ hT _ _ hR) ?_
  rintro ex a w' ⟨e', σ', hq, F', ρ', hr'⟩
  have hres : (results fn a.tmps).run P w' = .ok (match ts.map fun t => a.tmps.getD t undef with | [x] => x | l => .tuple l.toArray) w' := by
    have key : ∀ (ts : List Nat), (List.mapM (fun r => match r with | .tmp t => pure (a.tmps.getD t undef) | .cell b t => do loadVar t (← asAddr (a.tmps.getD b undef))) (ts.map ResultVar.tmp) : Sem (List Value)).run P w' = .ok (ts.map fun t => a.tmps.getD t undef) w' := by
      intro ts
      induction ts with
      | nil => rfl
      | cons t ts ih =>
        rw [List.map_cons, List.mapM_cons, Sem.run_bind]
        simp only [Sem.run_pure, Result.andThen_ok, Sem.run_bind, ih, List.map_cons]
    unfold results
    rw [hr, Sem.run_bind]
    have h2 : (Array.mapM (fun r => match r with | ResultVar.tmp t => pure (a.tmps.getD t undef) | ResultVar.cell b t => do loadVar t (← asAddr (a.tmps.getD b undef))) (ts.map ResultVar.tmp).toArray : Sem (Array Value)).run P w' = .ok (ts.map fun t => a.tmps.getD t undef).toArray w' := by
      rw [List.mapM_toArray, Sem.run_map, key]
      rfl
    have h3 := h2
    refine (congrArg (fun r => Result.andThen r _) h3).trans ?_
    simp only [Result.andThen_ok]
    rcases ts with _ | ⟨t, _ | ⟨t2, ts⟩⟩ <;> rfl
  have hends : RetL e' σ' ts ds' → bodyPost P fn (fun e w' => ∃ v F', e = .returned v ∧ Rep F' w' v (retOf ds') ∧ Ext F w F' w') .ret a w' := by
    intro hq
    have hl := hq.rep hr'
    refine ⟨hr'.defers, _, hres, _, endF F' ρ' σ', rfl, ?_, endF_ext hr' (fun b hb => hb)⟩
    generalize (ts.map fun t => a.tmps.getD t undef) = vs' at hl
    obtain ⟨h1, h2⟩ := hl
    rcases ds' with _ | ⟨d, _ | ⟨d2, ds'⟩⟩
    · have : vs' = [] := List.eq_nil_of_length_eq_zero h1
      subst this
      exact .tup [] [] rfl (fun i h1 => absurd h1 (by simp))
    · rcases vs' with _ | ⟨x, _ | ⟨y, vs'⟩⟩ <;> simp at h1
      exact h2 0 (by simp) (by simp)
    · rcases vs' with _ | ⟨x, _ | ⟨y, vs'⟩⟩
      · simp at h1
      · simp at h1
      · exact .tup _ _ h1 h2
  cases ex with
  | ret => exact hends hq
  | normal => exact hends hq
  | exit id => exact hq.elim
  | goto l => exact hq.elim
  | panic c => exact hq.elim
  | outgrown => exact hq.elim

/-! ## Operations -/

end Go.Proofs.YtfjnbgldlnanhaaDoor


namespace Go.Proofs.YtfjnbgldlnanhaaDoor
open Go.Lib
set_option linter.unusedVariables false

def lowB (b : UInt8) : UInt8 := if 65 ≤ b.toNat ∧ b.toNat ≤ 90 then UInt8.ofNat (b.toNat + 32) else b
def alnB (b : UInt8) : Bool := (decide (97 ≤ b.toNat) && decide (b.toNat ≤ 122)) || (decide (48 ≤ b.toNat) && decide (b.toNat ≤ 57))
def pStep (b : List UInt8) (c : UInt8) : List UInt8 := if alnB (lowB c) then b ++ [lowB c] else if b ≠ [] ∧ b.getLast? ≠ some 32 then b ++ [32] else b
def rMap (c : UInt8) : UInt8 := if alnB (lowB c) then lowB c else 32
/-- What was read: whole fields, and the one under way. -/
def pj (ds : List (List UInt8)) (cur : List UInt8) : List UInt8 := (ds.map (· ++ [32])).flatten ++ cur
/-- The article away. -/
def strip (s : List UInt8) : List UInt8 := if hasPrefix s [116, 104, 101, 32] then s.drop 4 else if hasPrefix s [97, 110, 32] then s.drop 3 else if hasPrefix s [97, 32] then s.drop 2 else s
def foldS (l : List UInt8) : List UInt8 := strip (trimSuffix (l.foldl pStep []) [32])
theorem fold_len (l : List UInt8) : ∀ k, ((l.take k).foldl pStep []).length ≤ k := by
  have h : ∀ (m : List UInt8) (b : List UInt8), (m.foldl pStep b).length ≤ b.length + m.length := by
    intro m
    induction m with
    | nil => intro b; simp
    | cons c m ih =>
      intro b
      rw [List.foldl_cons]
      have h1 : (pStep b c).length ≤ b.length + 1 := by
        unfold pStep
        split
        · simp
        · split <;> simp
      have := ih (pStep b c)
      simp only [List.length_cons]
      omega
  intro k
  have := h (l.take k) []
  simp only [List.length_nil, Nat.zero_add, List.length_take] at this
  omega
end Go.Proofs.YtfjnbgldlnanhaaDoor


namespace Go.Proofs
open Go.Shelf
def Tryd.l99_ren : Go.Shelf.Ren := ⟨fun | 99 => 56 | 206 => 60 | n => n, fun | 9 => 9 | 4 => 4 | 3 => 3 | n => n, fun | n => n⟩
theorem Tryd.l99 : Go.Proofs.Lays.n99 Tryd.prog Tryd.l99_ren := {
  mixed := by kernel_rfl
  f99 := Tryd.func56.trans (congrArg some (by kernel_rfl))
  f206 := Tryd.func60.trans (congrArg some (by kernel_rfl))
  t3 := Tryd.underlying3
  a3 := Tryd.isAgg3
  z3 := Tryd.sizeOf3
  v3 := Tryd.zeroValue3
  t4 := Tryd.underlying4
  a4 := Tryd.isAgg4
  z4 := Tryd.sizeOf4
  v4 := Tryd.zeroValue4
  t9 := Tryd.underlying9
  a9 := Tryd.isAgg9
  z9 := Tryd.sizeOf9
  v9 := Tryd.zeroValue9 }
def Tryd.l102_ren : Go.Shelf.Ren := ⟨fun | 102 => 41 | 209 => 53 | 207 => 59 | n => n, fun | 9 => 9 | 4 => 4 | 3 => 3 | n => n, fun | n => n⟩
theorem Tryd.l102 : Go.Proofs.Lays.n102 Tryd.prog Tryd.l102_ren := {
  mixed := by kernel_rfl
  f102 := Tryd.func41.trans (congrArg some (by kernel_rfl))
  f207 := Tryd.func59.trans (congrArg some (by kernel_rfl))
  f209 := Tryd.func53.trans (congrArg some (by kernel_rfl))
  t3 := Tryd.underlying3
  a3 := Tryd.isAgg3
  z3 := Tryd.sizeOf3
  v3 := Tryd.zeroValue3
  t4 := Tryd.underlying4
  a4 := Tryd.isAgg4
  z4 := Tryd.sizeOf4
  v4 := Tryd.zeroValue4
  t9 := Tryd.underlying9
  a9 := Tryd.isAgg9
  z9 := Tryd.sizeOf9
  v9 := Tryd.zeroValue9 }
def Tryd.l103_ren : Go.Shelf.Ren := ⟨fun | 103 => 42 | 210 => 54 | 206 => 60 | n => n, fun | 9 => 9 | 4 => 4 | 24 => 69 | 3 => 3 | n => n, fun | n => n⟩
theorem Tryd.l103 : Go.Proofs.Lays.n103 Tryd.prog Tryd.l103_ren := {
  mixed := by kernel_rfl
  f103 := Tryd.func42.trans (congrArg some (by kernel_rfl))
  f206 := Tryd.func60.trans (congrArg some (by kernel_rfl))
  f210 := Tryd.func54.trans (congrArg some (by kernel_rfl))
  t3 := Tryd.underlying3
  a3 := Tryd.isAgg3
  z3 := Tryd.sizeOf3
  v3 := Tryd.zeroValue3
  t4 := Tryd.underlying4
  a4 := Tryd.isAgg4
  z4 := Tryd.sizeOf4
  v4 := Tryd.zeroValue4
  t9 := Tryd.underlying9
  a9 := Tryd.isAgg9
  z9 := Tryd.sizeOf9
  v9 := Tryd.zeroValue9
  t24 := Tryd.underlying69
  a24 := Tryd.isAgg69
  z24 := Tryd.sizeOf69
  v24 := Tryd.zeroValue69 }
def Tryd.l137_ren : Go.Shelf.Ren := ⟨fun | 137 => 45 | 217 => 58 | 266 => 63 | n => n, fun | 9 => 9 | 5 => 5 | 3 => 3 | n => n, fun | n => n⟩
theorem Tryd.l137 : Go.Proofs.Lays.n137 Tryd.prog Tryd.l137_ren := {
  mixed := by kernel_rfl
  f137 := Tryd.func45.trans (congrArg some (by kernel_rfl))
  f217 := Tryd.func58.trans (congrArg some (by kernel_rfl))
  f266 := Tryd.func63.trans (congrArg some (by kernel_rfl))
  t3 := Tryd.underlying3
  a3 := Tryd.isAgg3
  z3 := Tryd.sizeOf3
  v3 := Tryd.zeroValue3
  t5 := Tryd.underlying5
  a5 := Tryd.isAgg5
  z5 := Tryd.sizeOf5
  v5 := Tryd.zeroValue5
  t9 := Tryd.underlying9
  a9 := Tryd.isAgg9
  z9 := Tryd.sizeOf9
  v9 := Tryd.zeroValue9 }
def Tryd.l160_ren : Go.Shelf.Ren := ⟨fun | 160 => 62 | 232 => 68 | 231 => 67 | 227 => 69 | 234 => 71 | 233 => 70 | 236 => 73 | 235 => 72 | 228 => 75 | 271 => 78 | 151 => 77 | 197 => 76 | 120 => 81 | 152 => 80 | 260 => 79 | 137 => 45 | 119 => 82 | 224 => 65 | 225 => 64 | 217 => 58 | 266 => 63 | n => n, fun | 9 => 9 | 4 => 4 | 3 => 3 | 5 => 5 | 117 => 85 | 116 => 84 | 0 => 0 | 124 => 88 | 21 => 21 | 105 => 93 | 46 => 81 | 119 => 97 | 139 => 100 | 138 => 99 | n => n, fun | 3 => 1 | 4 => 2 | n => n⟩
theorem Tryd.l160 : Go.Proofs.Lays.n160 Tryd.prog Tryd.l160_ren := {
  mixed := by kernel_rfl
  f119 := Tryd.func82.trans (congrArg some (by kernel_rfl))
  f120 := Tryd.func81.trans (congrArg some (by kernel_rfl))
  f137 := Tryd.func45.trans (congrArg some (by kernel_rfl))
  f151 := Tryd.func77.trans (congrArg some (by kernel_rfl))
  f152 := Tryd.func80.trans (congrArg some (by kernel_rfl))
  f160 := Tryd.func62.trans (congrArg some (by kernel_rfl))
  f197 := Tryd.func76.trans (congrArg some (by kernel_rfl))
  f217 := Tryd.func58.trans (congrArg some (by kernel_rfl))
  f224 := Tryd.func65.trans (congrArg some (by kernel_rfl))
  f225 := Tryd.func64.trans (congrArg some (by kernel_rfl))
  f227 := Tryd.func69.trans (congrArg some (by kernel_rfl))
  f228 := Tryd.func75.trans (congrArg some (by kernel_rfl))
  f231 := Tryd.func67.trans (congrArg some (by kernel_rfl))
  f232 := Tryd.func68.trans (congrArg some (by kernel_rfl))
  f233 := Tryd.func70.trans (congrArg some (by kernel_rfl))
  f234 := Tryd.func71.trans (congrArg some (by kernel_rfl))
  f235 := Tryd.func72.trans (congrArg some (by kernel_rfl))
  f236 := Tryd.func73.trans (congrArg some (by kernel_rfl))
  f260 := Tryd.func79.trans (congrArg some (by kernel_rfl))
  f266 := Tryd.func63.trans (congrArg some (by kernel_rfl))
  f271 := Tryd.func78.trans (congrArg some (by kernel_rfl))
  t0 := Tryd.underlying0
  a0 := Tryd.isAgg0
  z0 := Tryd.sizeOf0
  v0 := Tryd.zeroValue0
  t3 := Tryd.underlying3
  a3 := Tryd.isAgg3
  z3 := Tryd.sizeOf3
  v3 := Tryd.zeroValue3
  t4 := Tryd.underlying4
  a4 := Tryd.isAgg4
  z4 := Tryd.sizeOf4
  v4 := Tryd.zeroValue4
  t5 := Tryd.underlying5
  a5 := Tryd.isAgg5
  z5 := Tryd.sizeOf5
  v5 := Tryd.zeroValue5
  t9 := Tryd.underlying9
  a9 := Tryd.isAgg9
  z9 := Tryd.sizeOf9
  v9 := Tryd.zeroValue9
  t21 := Tryd.underlying21
  a21 := Tryd.isAgg21
  z21 := Tryd.sizeOf21
  v21 := Tryd.zeroValue21
  t46 := Tryd.underlying81
  a46 := Tryd.isAgg81
  z46 := Tryd.sizeOf81
  v46 := Tryd.zeroValue81
  t105 := Tryd.underlying93
  a105 := Tryd.isAgg93
  z105 := Tryd.sizeOf93
  v105 := Tryd.zeroValue93
  t116 := Tryd.underlying84
  a116 := Tryd.isAgg84
  z116 := Tryd.sizeOf84
  t117 := Tryd.underlying85
  a117 := Tryd.isAgg85
  z117 := Tryd.sizeOf85
  v117 := Tryd.zeroValue85
  t119 := Tryd.underlying97
  a119 := Tryd.isAgg97
  z119 := Tryd.sizeOf97
  t124 := Tryd.underlying88
  a124 := Tryd.isAgg88
  z124 := Tryd.sizeOf88
  v124 := Tryd.zeroValue88
  t138 := Tryd.underlying99
  a138 := Tryd.isAgg99
  z138 := Tryd.sizeOf99
  v138 := Tryd.zeroValue99
  t139 := Tryd.underlying100
  a139 := Tryd.isAgg100
  z139 := Tryd.sizeOf100
  v139 := Tryd.zeroValue100
  g3 := by kernel_rfl
  g4 := by kernel_rfl }
def Tryd.l144_ren : Go.Shelf.Ren := ⟨fun | 144 => 43 | 143 => 55 | 219 => 61 | 217 => 58 | 225 => 64 | 224 => 65 | 267 => 66 | 266 => 63 | 314 => 74 | n => n, fun | 9 => 9 | 4 => 4 | 3 => 3 | 5 => 5 | 46 => 81 | 146 => 90 | 51 => 89 | n => n, fun | 1 => 0 | n => n⟩
theorem Tryd.l144 : Go.Proofs.LaysM.n144 Tryd.prog Tryd.l144_ren := {
  mixed := by kernel_rfl
  f143 := Tryd.func55.trans (congrArg some (by kernel_rfl))
  f144 := Tryd.func43.trans (congrArg some (by kernel_rfl))
  f217 := Tryd.func58.trans (congrArg some (by kernel_rfl))
  f219 := Tryd.func61.trans (congrArg some (by kernel_rfl))
  f224 := Tryd.func65.trans (congrArg some (by kernel_rfl))
  f225 := Tryd.func64.trans (congrArg some (by kernel_rfl))
  f266 := Tryd.func63.trans (congrArg some (by kernel_rfl))
  f267 := Tryd.func66.trans (congrArg some (by kernel_rfl))
  f314 := Tryd.func74.trans (congrArg some (by kernel_rfl))
  t3 := Tryd.underlying3
  a3 := Tryd.isAgg3
  z3 := Tryd.sizeOf3
  v3 := Tryd.zeroValue3
  t4 := Tryd.underlying4
  a4 := Tryd.isAgg4
  z4 := Tryd.sizeOf4
  v4 := Tryd.zeroValue4
  t5 := Tryd.underlying5
  a5 := Tryd.isAgg5
  z5 := Tryd.sizeOf5
  v5 := Tryd.zeroValue5
  t9 := Tryd.underlying9
  a9 := Tryd.isAgg9
  z9 := Tryd.sizeOf9
  v9 := Tryd.zeroValue9
  t46 := Tryd.underlying81
  a46 := Tryd.isAgg81
  z46 := Tryd.sizeOf81
  v46 := Tryd.zeroValue81
  t51 := Tryd.underlying89
  a51 := Tryd.isAgg89
  z51 := Tryd.sizeOf89
  v51 := Tryd.zeroValue89
  t146 := Tryd.underlying90
  a146 := Tryd.isAgg90
  z146 := Tryd.sizeOf90
  v146 := Tryd.zeroValue90
  g1 := by kernel_rfl
  i3 := by kernel_rfl
  i4 := by kernel_rfl
  i5 := by kernel_rfl
  i9 := by kernel_rfl
  i46 := by kernel_rfl
  i51 := by kernel_rfl
  i146 := by kernel_rfl
  m1 := by kernel_rfl
  s1_3 := fun w h => Go.Proofs.cell_of_shapedOpen_int (zero := #[.int .i64 0]) (t := 3) h (of_decide_eq_true (by kernel_rfl)) (by kernel_rfl) rfl (by kernel_rfl) (by kernel_rfl) Tryd.underlying3 }
end Go.Proofs


namespace Go.Proofs.YtfjnbgldlnanhaaDoor
open Go.RowKit
set_option linter.unusedVariables false

theorem c_hasPrefix (s p : ByteArray) : ACall Tryd.prog 56 [.v (.string s), .v (.string p)] (.v (.bool (Lib.hasPrefix s.data.toList p.data.toList))) :=
  acall_exact (us := [_, _]) (.of Tryd.func56 (by kernel_rfl) rfl) fun w => by
    have h := Any.strings_HasPrefix Tryd.l99 s p w
    change Calls Tryd.prog 56 #[.string s, .string p] w _ at h
    exact h.mono fun _ _ ⟨h1, h2⟩ => ⟨h1, h2 ▸ Below.refl _ _⟩
theorem c_trimSuffix (s p : ByteArray) (hs : s.size ≤ 9223372036854775807) : ACall Tryd.prog 41 [.v (.string s), .v (.string p)] (.v (.string ⟨(Lib.trimSuffix s.data.toList p.data.toList).toArray⟩)) :=
  acall_exact (us := [_, _]) (.of Tryd.func41 (by kernel_rfl) rfl) fun w => by
    have h := Any.strings_TrimSuffix Tryd.l102 s p w hs
    change Calls Tryd.prog 41 #[.string s, .string p] w _ at h
    exact h.mono fun _ _ ⟨h1, h2⟩ => ⟨h1, h2 ▸ Below.refl _ _⟩
theorem c_cutPrefix (s p : ByteArray) : ACall Tryd.prog 42 [.v (.string s), .v (.string p)] (.tup [.v (.string ⟨(Lib.trimPrefix s.data.toList p.data.toList).toArray⟩), .v (.bool (Lib.hasPrefix s.data.toList p.data.toList))]) :=
  ⟨.of Tryd.func42 (by kernel_rfl) rfl, fun F w vs hF hv => by
    rw [repL_v (us := [.string s, .string p]) hv]
    have h := Any.strings_CutPrefix Tryd.l103 s p w
    change Calls Tryd.prog 42 #[.string s, .string p] w _ at h
    refine h.mono fun e w' ⟨h1, h2⟩ => ?_
    subst h2
    exact ⟨_, F, h1, .tup [_, _] [_, _] rfl (fun i h1 h2 => by
      match i, h1 with
      | 0, _ => exact .v _
      | 1, _ => exact .v _), Ext.refl hF⟩⟩
def fldD (l : List UInt8) : List D := [.v (.string ⟨l.toArray⟩)]
end Go.Proofs.YtfjnbgldlnanhaaDoor
