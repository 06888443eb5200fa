/- Walks and laws over abstract values, merged by tools/merge.py. No statement of the seat. -/
import Derived.ChangeKeysEq
import Derived.ProofKit
import Derived.OpenShut
import Derived.ShutString
import Derived.ChangeOld
import Derived.Below
import Derived.Lib.EndianBits
import Derived.Laws.StructEq
import Derived.MapKept
import Derived.Carry
import Derived.Lib.FieldsLaws
import Derived.Lib.Fields
import Derived.Lib.Join
import Derived.Lib.Strings
import Derived.WalkKit
import Derived.Ground.NamesProg
import Derived.Shelf.Strings.Prefix
import Derived.Shelf.Small.Wraps
import Derived.Shelf.Strings.OnBuilder
import Derived.Shelf.Strings.Fields
import Derived.Shelf.Strings.SlTrimAscii
import Derived.Shelf.Small.Strs
import Derived.Shelf.Strings.Search3
import Derived.Shelf.LaysM
import Derived.Test.YthcdjmkkgbcaaaaGreatDoorProg
import Derived.Test.YthcdjmkkgbcaaaaGreatDoorXW1

namespace Go.Proofs.YthcdjmkkgbcaaaaGreatDoor
open Go.RowKit
set_option linter.unusedVariables false

/-- An own block has been written: what object it is now is told. -/
theorem R0.writeOb {cx : Cx} {F : Nat → Prop} {ρ : Nat → Value} {e : Env} {σ : Obs} {a : Act} {w w' : World} (hr : R0 cx F ρ e σ a w) {id g : Nat} {ob ob' : Ob} (hblk : blk (ρ id) = some g) (hm : (id, ob) ∈ σ)
    (hB : cx.B ≤ g) (hF : ¬ F g) (ht : Turn w w' (some g)) (hob : ObOk cx.B F ρ w' id ob') : R0 cx F ρ e (Obs.upd id ob' σ) a w' := by
  have keep : ∀ {x : Value} {s : S}, RepS F ρ w x s → RepS F ρ w' x s := fun h => h.turn hr.lt (fun g' hg' => by rw [← Option.some.inj hg']; exact hF) ht (fun b hb => hb)
  refine ⟨hr.size, hr.defers, fun b hb => Nat.lt_of_lt_of_le (hr.lt b hb) ht.size, hr.base, hr.new, hr.below.turn ht (fun g' hg' => by rw [← Option.some.inj hg']; exact hr.kown _ hm g hblk), Nat.le_trans hr.hB ht.size, fun t => keep (hr.env t), ?_, hr.up, fun p hp => by
    rcases Obs.mem_upd hp with ⟨h1, _⟩ | ⟨h1, _⟩
    · rw [h1]; exact fun g hg => hr.kown (id, ob) hm g hg
    · exact hr.kown p h1, hr.fixed⟩
  have hmem : ∀ p, p ∈ Obs.upd id ob' σ → p.1 = id → p = (id, ob') := fun p hp he => by
    rcases Obs.mem_upd hp with ⟨h1, _⟩ | ⟨_, h2⟩
    · exact h1
    · exact absurd he h2
  have hold : ∀ p, p ∈ Obs.upd id ob' σ → p.1 ≠ id → p ∈ σ := fun p hp he => by
    rcases Obs.mem_upd hp with ⟨h1, _⟩ | ⟨h1, _⟩
    · rw [h1] at he; exact absurd rfl he
    · exact h1
  refine ⟨fun p hp => ?_, fun p hp q hq hne g' hg' => ?_, fun p hp q hq he => ?_⟩
  · by_cases hpi : p.1 = id
    · rw [hmem p hp hpi]; exact hob
    · have hp' := hold p hp hpi
      have h1 := hr.obs.ok p hp'
      have hne : ∀ g', blk (ρ p.1) = some g' → (some g) ≠ some g' := fun g' hg' he => by
        have := hr.obs.apart p hp' _ hm hpi g' hg'
        rw [hblk, he] at this
        exact this rfl
      obtain ⟨i, ob2⟩ := p
      cases ob2 with
      | row ee size els =>
        obtain ⟨xs, h2, h3, h4, h5⟩ := h1
        exact ⟨xs, ownsRow_turn h2 ht hne, h3, fun k hk j hj => ⟨(h4 k hk j hj).1, repS_d (keep (.d (h4 k hk j hj).2))⟩, h5⟩
      | cells ss2 =>
        obtain ⟨g2, e2, cs2, h2, h3, h4, h5, h6, h7⟩ := h1
        refine ⟨g2, e2, cs2, h2, h3, h4, ?_, h6, fun j hj hj' => ⟨(h7 j hj hj').1, keep (h7 j hj hj').2⟩⟩
        rw [ht.block g2 (Array.getElem?_eq_some_iff.1 h5).1 (fun he => hne g2 (by rw [h2]; rfl) he.symm)]
        exact h5
      | cellsT ty0 ss2 =>
        obtain ⟨g2, cs2, h2, h3, h4, h5, h6, h7⟩ := h1
        refine ⟨g2, cs2, h2, h3, h4, ?_, h6, fun j hj hj' => ⟨(h7 j hj hj').1, keep (h7 j hj hj').2⟩⟩
        rw [ht.block g2 (Array.getElem?_eq_some_iff.1 h5).1 (fun he => hne g2 (by rw [h2]; rfl) he.symm)]
        exact h5
      | map M =>
        obtain ⟨g2, es, cl, h2, h3, h4, h5, h6, h7⟩ := h1
        refine ⟨g2, es, cl, h2, h3, h4, ?_, h6, fun j hj hj' => ⟨(h7 j hj hj').1, repS_d (keep (.d (h7 j hj hj').2))⟩⟩
        rw [ht.block g2 (Array.getElem?_eq_some_iff.1 h5).1 (fun he => hne g2 (by rw [h2]; rfl) he.symm)]
        exact h5
      | rowS ee size els =>
        obtain ⟨xs, h2, h3, h4, h5⟩ := h1
        exact ⟨xs, ownsRow_turn h2 ht hne, h3, fun k hk j hj => ⟨(h4 k hk j hj).1, keep (h4 k hk j hj).2⟩, h5⟩
      | bts l =>
        obtain ⟨g2, e2, cap2, cur2, fz2, h2, h3, h4, h5, h6⟩ := h1
        refine ⟨g2, e2, cap2, cur2, fz2, h2, h3, h4, ?_, h6⟩
        rw [ht.block g2 (Array.getElem?_eq_some_iff.1 h5).1 (fun he => hne g2 (by rw [h2]; rfl) he.symm)]
        exact h5
      | val ss =>
        obtain ⟨cs, h2, h3, h4⟩ := h1
        exact ⟨cs, h2, h3, fun j hj hj' => ⟨(h4 j hj hj').1, keep (h4 j hj hj').2⟩⟩
      | iter M done =>
        obtain ⟨g2, b2, es, cl, sn, c0, h2, h3, h4, h5, h6, h7, h8, h9⟩ := h1
        refine ⟨g2, b2, es, cl, sn, c0, h2, h3, h4, ?_, h6, ?_, h8, fun j hj hj' => ⟨(h9 j hj hj').1, repS_d (keep (.d (h9 j hj hj').2))⟩⟩
        · rw [ht.block g2 (Array.getElem?_eq_some_iff.1 h5).1 (fun he => hne g2 (by rw [h2]; rfl) he.symm)]
          exact h5
        · rw [ht.block b2 (hr.lt b2 h6) (fun he => hF (by rw [← Option.some.inj he]; exact h6))]
          exact h7
  · by_cases hpi : p.1 = id
    · have hq' := hold q hq (fun he => hne (by rw [hpi, he]))
      rw [hpi] at hg' hne
      exact hr.obs.apart _ hm q hq' hne g' hg'
    · have hp' := hold p hp hpi
      by_cases hqi : q.1 = id
      · rw [hqi] at hne ⊢
        exact hr.obs.apart p hp' _ hm hne g' hg'
      · exact hr.obs.apart p hp' q (hold q hq hqi) hne g' hg'
  · by_cases hpi : p.1 = id
    · rw [hmem p hp hpi, hmem q hq (by rw [← he, hpi])]
    · exact hr.obs.uniq p (hold p hp hpi) q (hold q hq (by rw [← he]; exact hpi)) he

section
variable {cx : Cx} {ops : Array Oper} {o : Oper} {rest : List Oper} {e : Env} {σ : Obs} {Q : Post}
/-- A new own row. -/
theorem R0.newRow {cx : Cx} {F : Nat → Prop} {ρ : Nat → Value} {e : Env} {σ : Obs} {a : Act} {w w' : World} (hr : R0 cx F ρ e σ a w) {id dst el size : Nat} {els : List (List D)} {v : Value} (hid : ∀ p ∈ σ, p.1 ≠ id) (hd : dst < cx.N) (hbel : Below w.heap.size w w')
    (hob : ObOk cx.B F (fun j => if j = id then v else ρ j) w' id (.row el size els)) (hnew : ∀ g, blk v = some g → w.heap.size ≤ g) (hfx : cx.free id = true) :
    ∃ ρ', R0 cx F ρ' ((e.kill id).put (some dst) (.own id)) ((id, .row el size els) :: Obs.kill id σ) (a.put (some dst) v) w' := by
  refine ⟨fun j => if j = id then v else ρ j, ?_⟩
  have hE : Ext F w F w' := Ext.of_below hr.lt hbel
  have h2 := hr.turn (ρ' := fun j => if j = id then v else ρ j) (id := id) (ob := .row el size els) (row := none) (w' := w') (F' := F) (fun j hj => by simp [hj])
    ⟨hE.below.os, hE.below.tape, hE.below.output, hE.below.size, fun k hk _ => hE.below.block k hk⟩ hfx (fun g hg => by simp at hg) (fun b hb => hb) (fun b hb => .inl hb) hE.lt hob
    (fun g hg => by rw [if_pos rfl] at hg; exact .inr (hnew g hg)) ((id, .row el size els) :: Obs.kill id σ) (fun p hp => by
      cases hp with
      | head => exact .inl rfl
      | tail _ hp => obtain ⟨q, hq, rfl⟩ := Obs.mem_kill hp; exact .inr ⟨q, hq, hid q hq, rfl⟩)
  exact h2.put (o := ⟨some dst, .ready 0, 0, "", #[], none⟩) (v := v) (s := .own id) (Ext.refl h2.lt) (by
      have := RepS.own (F := F) (ρ := fun j => if j = id then v else ρ j) (w := w') id
      simpa using this) (by simpa [DstOk, Nat.blt_eq] using hd)

end

section
variable {P : Program} {B : Nat} {ops : Array Oper} {o : Oper} {e : Env} {σ : Obs}
/-- An array type's elements. -/
structure ArrT (P : Program) (t el n size : Nat) : Prop where
  ht : P.underlying t = some (.array n el)
  hs : ∀ w, (sizeOf el).run P w = .ok size w
theorem ArrT.of {t el n size : Nat} (h : P.underlying t = some (.array n el)) (h2 : (P.info? el).map (·.size) = some size) : ArrT P t el n size := ⟨h, SizeT.of h2⟩
end
end Go.Proofs.YthcdjmkkgbcaaaaGreatDoor

namespace Go.Proofs.YthcdjmkkgbcaaaaGreatDoor
open Go.RowKit

def ownB (σ : Obs) (ρ : Nat → Value) (b : Nat) : Prop := ∃ p ∈ σ, blk (ρ p.1) = some b
def RepSL (F : Nat → Prop) (ρ : Nat → Value) (w : World) (vs : List Value) (ss : List S) : Prop := vs.length = ss.length ∧ ∀ i (h1 : i < vs.length) (h2 : i < ss.length), RepS F ρ w vs[i] ss[i]

/-- How such a call ends: what was frozen stays; of the rest only the told objects may have changed. -/
structure XEnd (B : Nat) (F : Nat → Prop) (ρ : Nat → Value) (w : World) (σ : Obs) (F' : Nat → Prop) (ρ' : Nat → Value) (w' : World) (σ' : Obs) (chg : Nat → Bool) : Prop where
  up : ∀ b, F b → F' b
  new : ∀ b, F' b → F b ∨ (w.heap.size ≤ b ∨ ownB σ ρ b)
  lt : ∀ b, F' b → b < w'.heap.size
  kept : Kept (fun b => w.heap.size ≤ b ∨ ownB σ ρ b) w w'
  obs : ObsOk B F' ρ' w' σ'
  own : ∀ p ∈ σ', ∀ g, blk (ρ' p.1) = some g → w.heap.size ≤ g ∨ ownB σ ρ g
  same : ∀ i, chg i = false → ρ' i = ρ i

/-- f, called with what reads as ss, where the caller's objects are σ, returns what reads as d; the objects are σ' then. -/
def XCall (P : Program) (f : FuncId) (ss : List S) (σ σ' : Obs) (chg : Nat → Bool) (d : D) : Prop := Enters P f ∧
  ∀ (F : Nat → Prop) (ρ : Nat → Value) (B : Nat) (w : World) (vs : List Value), (∀ b, F b → b < w.heap.size) → B ≤ w.heap.size → ObsOk B F ρ w σ → RepSL F ρ w vs ss →
    Calls P f vs.toArray w fun e w' => ∃ v F' ρ', e = .returned v ∧ Rep F' w' v d ∧ XEnd B F ρ w σ F' ρ' w' σ' chg

theorem ObOk.more {B : Nat} {F F2 : Nat → Prop} {ρ : Nat → Value} {w : World} {id : Nat} {o : Ob} (h : ObOk B F ρ w id o) (hF : ∀ b, F b → b < w.heap.size) (hu : ∀ b, F b → F2 b) (hn : ∀ g, blk (ρ id) = some g → ¬ F2 g) : ObOk B F2 ρ w id o := by
  cases o with
  | row e size els =>
    obtain ⟨xs, h1, h2, h3, h4⟩ := h
    exact ⟨xs, h1, h2, fun k hk j hj => ⟨(h3 k hk j hj).1, (h3 k hk j hj).2.mono hu fun _ _ => rfl⟩, hn⟩
  | cells ss =>
    obtain ⟨g, e, cs, h1, h2, h3, h4, h5, h6⟩ := h
    exact ⟨g, e, cs, h1, h2, hn g (by rw [h1]; rfl), h4, h5, fun j hj hj' => ⟨(h6 j hj hj').1, RepS.turn (row := none) (h6 j hj hj').2 hF (fun g hg => by simp at hg) ⟨rfl, rfl, rfl, Nat.le_refl _, fun _ _ _ => rfl⟩ hu⟩⟩
  | cellsT ty0 ss =>
    obtain ⟨g, cs, h1, h2, h3, h4, h5, h6⟩ := h
    exact ⟨g, cs, h1, h2, hn g (by rw [h1]; rfl), h4, h5, fun j hj hj' => ⟨(h6 j hj hj').1, RepS.turn (row := none) (h6 j hj hj').2 hF (fun g hg => by simp at hg) ⟨rfl, rfl, rfl, Nat.le_refl _, fun _ _ _ => rfl⟩ hu⟩⟩
  | map M =>
    obtain ⟨g, es, cl, h1, h2, h3, h4, h5, h6⟩ := h
    exact ⟨g, es, cl, h1, h2, hn g (by rw [h1]; rfl), h4, h5, fun j hj hj' => ⟨(h6 j hj hj').1, (h6 j hj hj').2.mono hu fun _ _ => rfl⟩⟩
  | rowS e size els =>
    obtain ⟨xs, h1, h2, h3, h4⟩ := h
    exact ⟨xs, h1, h2, fun k hk j hj => ⟨(h3 k hk j hj).1, RepS.turn (row := none) (h3 k hk j hj).2 hF (fun g hg => by simp at hg) ⟨rfl, rfl, rfl, Nat.le_refl _, fun _ _ _ => rfl⟩ hu⟩, hn⟩
  | bts l =>
    obtain ⟨g, e, cap, cur, fz, h1, h2, h3, h4, h5⟩ := h
    exact ⟨g, e, cap, cur, fz, h1, h2, hn g (by rw [h1]; rfl), h4, h5⟩
  | val ss =>
    obtain ⟨cs, h1, h2, h3⟩ := h
    exact ⟨cs, h1, h2, fun j hj hj' => ⟨(h3 j hj hj').1, RepS.turn (row := none) (h3 j hj hj').2 hF (fun g hg => by simp at hg) ⟨rfl, rfl, rfl, Nat.le_refl _, fun _ _ _ => rfl⟩ hu⟩⟩
  | iter M done =>
    obtain ⟨g, b, es, cl, sn, c0, h1, h2, h3, h4, h5, h6, h7, h8⟩ := h
    exact ⟨g, b, es, cl, sn, c0, h1, h2, hn g (by rw [h1]; rfl), h4, hu b h5, h6, h7, fun j hj hj' => ⟨(h8 j hj hj').1, (h8 j hj hj').2.mono hu fun _ _ => rfl⟩⟩

def Env.argsS : Nat → List S → Env
  | _, [] => fun _ => .d .any
  | k, d :: ds => fun u => match Nat.beq u k with | true => d | false => Env.argsS (k + 1) ds u
def RetDX (e : Env) (σ σ' : Obs) (t : Nat) (d : D) : Prop := (∃ d0, e t = .d d0 ∧ Le d0 d) ∨ ∃ id ee size els, e t = .own id ∧ (id, Ob.row ee size els) ∈ σ ∧ (∀ q ∈ σ', q.1 ≠ id) ∧ d = .sl els
theorem RetDX.eq {e : Env} {σ σ' : Obs} {t : Nat} {d d' : D} (h : e t = .d d) (hd : d = d') : RetDX e σ σ' t d' := .inl ⟨d, h, Le.of_eq hd⟩
theorem RetDX.own {e : Env} {σ σ' : Obs} {t id ee size : Nat} {els els' : List (List D)} (h : e t = .own id) (hm : (id, Ob.row ee size els) ∈ σ) (hn : Obs.fresh id σ' = true) (hd : els = els') : RetDX e σ σ' t (.sl els') :=
  .inr ⟨id, ee, size, els, h, hm, Obs.fresh_spec hn, by rw [hd]⟩
def RetLX (e : Env) (σ σ' : Obs) : List Nat → List D → Prop
  | [], [] => True
  | t :: ts, d :: ds => RetDX e σ σ' t d ∧ RetLX e σ σ' ts ds
  | _, _ => False
def AllIn (σ : Obs) : Obs → Prop
  | [] => True
  | p :: l => p ∈ σ ∧ AllIn σ l
theorem AllIn.mem {σ : Obs} : ∀ {l : Obs}, AllIn σ l → ∀ p ∈ l, p ∈ σ
  | [], _, p, hp => by cases hp
  | x :: l, h, p, hp => by
    cases hp with
    | head => exact h.1
    | tail _ hp => exact h.2.mem p hp
def RetX (ts : List Nat) (ds : List D) (σ' : Obs) : Post := fun ex e σ => match ex with
  | .ret => RetLX e σ σ' ts ds ∧ AllIn σ σ'
  | .normal => RetLX e σ σ' ts ds ∧ AllIn σ σ'
  | _ => False

def endFX (F : Nat → Prop) (ρ : Nat → Value) (σ σ' : Obs) : Nat → Prop := fun b => F b ∨ ∃ p ∈ σ, (∀ q ∈ σ', q.1 ≠ p.1) ∧ blk (ρ p.1) = some b

/-! ## The caller -/
def S.killP (c : Nat → Bool) : S → S
  | .own i => match c i with | true => .d .any | false => .own i
  | .ptr i off => match c i with | true => .d .any | false => .ptr i off
  | .d x => .d x
  | .clo f caps => match Cap.anyP c caps with | true => .d .any | false => .clo f caps
def Env.killP (c : Nat → Bool) (e : Env) : Env := fun t => (e t).killP c
def Ob.killP (c : Nat → Bool) : Ob → Ob
  | .row e size els => .row e size els
  | .cells ss => .cells (ss.map (S.killP c))
  | .cellsT e ss => .cellsT e (ss.map (S.killP c))
  | .map M => .map M
  | .rowS e size els => .rowS e size (els.map fun ss => ss.map (S.killP c))
  | .bts l => .bts l
  | .val ss => .val (ss.map (S.killP c))
  | .iter M done => .iter M done
def Obs.killP (c : Nat → Bool) : Obs → Obs
  | [] => []
  | p :: l => (p.1, p.2.killP c) :: Obs.killP c l
def Obs.dels : Obs → Obs → Obs
  | [], σ => σ
  | p :: l, σ => Obs.dels l (Obs.del p.1 σ)
def Obs.join : Obs → Obs → Obs
  | [], σ => σ
  | p :: l, σ => p :: Obs.join l σ
def Obs.allIds (c : Nat → Bool) : Obs → Bool
  | [] => true
  | p :: l => c p.1 && Obs.allIds c l
theorem Obs.allIds_mem {c : Nat → Bool} : ∀ {σ : Obs}, Obs.allIds c σ = true → ∀ p ∈ σ, c p.1 = true
  | [], _, p, hp => by cases hp
  | x :: l, h, p, hp => by
    simp only [Obs.allIds, Bool.and_eq_true] at h
    cases hp with
    | head => exact h.1
    | tail _ hp => exact Obs.allIds_mem h.2 p hp
theorem Obs.mem_join {a b : Obs} {p : Nat × Ob} : p ∈ Obs.join a b → p ∈ a ∨ p ∈ b := by
  induction a with
  | nil => exact fun h => .inr h
  | cons x l ih =>
    intro h
    cases h with
    | head => exact .inl (.head _)
    | tail _ h => exact (ih h).imp (.tail _) id
theorem Obs.mem_killP {c : Nat → Bool} : ∀ {σ : Obs} {p : Nat × Ob}, p ∈ Obs.killP c σ → ∃ q ∈ σ, p = (q.1, q.2.killP c)
  | [], _, h => by cases h
  | x :: l, p, h => by
    unfold Obs.killP at h
    cases h with
    | head => exact ⟨x, by simp, rfl⟩
    | tail _ h => obtain ⟨q, hq, he⟩ := Obs.mem_killP h; exact ⟨q, List.mem_cons_of_mem _ hq, he⟩
theorem Obs.mem_dels : ∀ {l σ : Obs} {p : Nat × Ob}, p ∈ Obs.dels l σ → p ∈ σ ∧ ∀ q ∈ l, p.1 ≠ q.1
  | [], _, _, h => ⟨h, fun q hq => by cases hq⟩
  | x :: l, σ, p, h => by
    obtain ⟨h1, h2⟩ := Obs.mem_dels (l := l) h
    obtain ⟨h3, h4⟩ := Obs.mem_del h1
    refine ⟨h3, fun q hq => ?_⟩
    cases hq with
    | head => exact h4
    | tail _ hq => exact h2 q hq

theorem RepS.over {F F' : Nat → Prop} {ρ ρ' : Nat → Value} {w w' : World} {x : Value} {s : S} {chg : Nat → Bool} (h : RepS F ρ w x s) (hu : ∀ b, F b → F' b) (hw : ∀ b, F b → w'.heap[b]? = w.heap[b]?) (hρ : ∀ i, chg i = false → ρ' i = ρ i) : RepS F' ρ' w' x (s.killP chg) := by
  cases h with
  | d h => exact .d (h.mono hu hw)
  | own i =>
    cases hb : chg i with
    | true => simp only [S.killP, hb]; exact .d (.any _)
    | false => simp only [S.killP, hb]; rw [← hρ i hb]; exact .own i
  | ptr i off g h =>
    cases hb : chg i with
    | true => simp only [S.killP, hb]; exact .d (.any _)
    | false => simp only [S.killP, hb]; exact .ptr i off g (by rw [hρ i hb]; exact h)
  | clo f cs caps h =>
    cases hb : Cap.anyP chg caps with
    | true => simp only [S.killP, hb]; exact .d (.any _)
    | false => simp only [S.killP, hb]; exact .clo f cs caps (h.to chg (fun _ _ h => h.mono hu hw) hρ hb)

theorem ObOk.over {B : Nat} {F F' : Nat → Prop} {ρ ρ' : Nat → Value} {w w' : World} {id : Nat} {o : Ob} {chg : Nat → Bool} (h : ObOk B F ρ w id o) (hid : chg id = false) (hu : ∀ b, F b → F' b) (hw : ∀ b, F b → w'.heap[b]? = w.heap[b]?) (hρ : ∀ i, chg i = false → ρ' i = ρ i)
    (hg : ∀ g, blk (ρ id) = some g → w'.heap[g]? = w.heap[g]? ∧ ¬ F' g) : ObOk B F' ρ' w' id (o.killP chg) := by
  cases o with
  | row e size els =>
    obtain ⟨xs, h1, h2, h3, h4⟩ := h
    refine ⟨xs, ?_, h2, fun k hk j hj => ⟨(h3 k hk j hj).1, (h3 k hk j hj).2.mono hu hw⟩, fun g hg' => (hg g (by rw [← hρ id hid]; exact hg')).2⟩
    rw [hρ id hid]
    refine ⟨h1.1, ?_⟩
    rcases h1.2 with h5 | ⟨g, cap, cur, h5, h6, h7, h8⟩
    · exact .inl h5
    · refine .inr ⟨g, cap, cur, h5, h6, ?_, h8⟩
      rw [(hg g (by rw [h5]; rfl)).1]
      exact h7
  | cells ss =>
    obtain ⟨g, e, cs, h1, h2, h3, h4, h5, h6⟩ := h
    have hgg := hg g (by rw [h1]; rfl)
    refine ⟨g, e, cs, by rw [hρ id hid]; exact h1, h2, hgg.2, by rw [hgg.1]; exact h4, by simp [h5], fun j hj hj' => ⟨(h6 j hj (by simpa using hj')).1, ?_⟩⟩
    rw [List.getElem_map]
    exact (h6 j hj (by simpa using hj')).2.over hu hw hρ
  | cellsT ty0 ss =>
    obtain ⟨g, cs, h1, h2, h3, h4, h5, h6⟩ := h
    have hgg := hg g (by rw [h1]; rfl)
    refine ⟨g, cs, by rw [hρ id hid]; exact h1, h2, hgg.2, by rw [hgg.1]; exact h4, by simp [h5], fun j hj hj' => ⟨(h6 j hj (by simpa using hj')).1, ?_⟩⟩
    rw [List.getElem_map]
    exact (h6 j hj (by simpa using hj')).2.over hu hw hρ
  | map M =>
    obtain ⟨g, es, cl, h1, h2, h3, h4, h5, h6⟩ := h
    have hgg := hg g (by rw [h1]; rfl)
    exact ⟨g, es, cl, by rw [hρ id hid]; exact h1, h2, hgg.2, by rw [hgg.1]; exact h4, h5, fun j hj hj' => ⟨(h6 j hj hj').1, (h6 j hj hj').2.mono hu hw⟩⟩
  | rowS e size els =>
    obtain ⟨xs, h1, h2, h3, h4⟩ := h
    refine ⟨xs, ?_, fun k hk => by rw [List.getElem_map, List.length_map]; exact h2 k (by simpa using hk), fun k hk j hj => ?_, fun g hg' => (hg g (by rw [← hρ id hid]; exact hg')).2⟩
    · rw [hρ id hid, List.length_map]
      refine ⟨h1.1, ?_⟩
      rcases h1.2 with h5 | ⟨g, cap, cur, h5, h6, h7, h8⟩
      · exact .inl h5
      · refine .inr ⟨g, cap, cur, h5, h6, ?_, h8⟩
        rw [(hg g (by rw [h5]; rfl)).1]
        exact h7
    · have hk' : k < els.length := by simpa using hk
      have hj' : j < els[k].length := by simpa using hj
      simp only [List.getElem_map]
      exact ⟨(h3 k hk' j hj').1, (h3 k hk' j hj').2.over hu hw hρ⟩
  | bts l =>
    obtain ⟨g, e, cap, cur, fz, h1, h2, h3, h4, h5⟩ := h
    have hgg := hg g (by rw [h1]; rfl)
    exact ⟨g, e, cap, cur, fz, by rw [hρ id hid]; exact h1, h2, hgg.2, by rw [hgg.1]; exact h4, h5⟩
  | val ss =>
    obtain ⟨cs, h1, h2, h3⟩ := h
    refine ⟨cs, by rw [hρ id hid]; exact h1, by simp [h2], fun j hj hj' => ⟨(h3 j hj (by simpa using hj')).1, ?_⟩⟩
    rw [List.getElem_map]
    exact (h3 j hj (by simpa using hj')).2.over hu hw hρ
  | iter M done =>
    obtain ⟨g, b, es, cl, sn, c0, h1, h2, h3, h4, h5, h6, h7, h8⟩ := h
    have hgg := hg g (by rw [h1]; rfl)
    exact ⟨g, b, es, cl, sn, c0, by rw [hρ id hid]; exact h1, h2, hgg.2, by rw [hgg.1]; exact h4, hu b h5, by rw [hw b h5]; exact h6, h7, fun j hj hj' => ⟨(h8 j hj hj').1, (h8 j hj hj').2.mono hu hw⟩⟩

theorem ObsOk.sub {B : Nat} {F : Nat → Prop} {ρ : Nat → Value} {w : World} {σ σ' : Obs} (h : ObsOk B F ρ w σ) (hs : ∀ p ∈ σ', p ∈ σ) : ObsOk B F ρ w σ' :=
  ⟨fun p hp => h.ok p (hs p hp), fun p hp q hq => h.apart p (hs p hp) q (hs q hq), fun p hp q hq => h.uniq p (hs p hp) q (hs q hq)⟩

/-- After such a call. -/
theorem R0.after {cx : Cx} {F F' : Nat → Prop} {ρ ρ' : Nat → Value} {e : Env} {σ σc σ' : Obs} {a : Act} {w w' : World} {chg : Nat → Bool} (hr : R0 cx F ρ e σ a w) (hin : ∀ p ∈ σc, p ∈ σ) (hx : XEnd cx.B F ρ w σc F' ρ' w' σ' chg)
    (h1 : Obs.allIds (fun i => !(chg i)) (Obs.dels σc σ) = true) (h2 : Obs.allIds (fun i => Obs.allIds (fun j => !(Nat.beq i j)) (Obs.dels σc σ)) σ' = true) (h3 : ∀ i, chg i = true → cx.fixp i = false) :
    R0 cx F' ρ' (e.killP chg) (Obs.join σ' (Obs.killP chg (Obs.dels σc σ))) a w' := by
  have hown : ∀ b, ownB σc ρ b → cx.fr b ∧ ¬ F b ∧ b < w.heap.size := fun b ⟨p, hp, hb⟩ => ⟨hr.kown p (hin p hp) b hb, (hr.obs.ok p (hin p hp)).nF hb, ((hr.obs.ok p (hin p hp)).blk_lt hb).2⟩
  have hfr : ∀ b, (w.heap.size ≤ b ∨ ownB σc ρ b) → cx.fr b := fun b hb => by
    rcases hb with hb | hb
    · exact hr.up _ (Nat.le_trans hr.below.size hb)
    · exact (hown b hb).1
  have hw : ∀ b, F b → w'.heap[b]? = w.heap[b]? := fun b hb => hx.kept.block b (hr.lt b hb) (fun hh => by
    rcases hh with hh | hh
    · have := hr.lt b hb; omega
    · exact (hown b hh).2.1 hb)
  have hrest : ∀ p ∈ Obs.dels σc σ, p ∈ σ ∧ (∀ q ∈ σc, p.1 ≠ q.1) ∧ chg p.1 = false := fun p hp => by
    obtain ⟨h4, h5⟩ := Obs.mem_dels hp
    have := Obs.allIds_mem h1 p hp
    exact ⟨h4, h5, by simpa using this⟩
  have hblk : ∀ p ∈ Obs.dels σc σ, ∀ g, blk (ρ p.1) = some g → g < w.heap.size ∧ ¬ ownB σc ρ g ∧ ¬ F g := fun p hp g hg => by
    obtain ⟨h4, h5, _⟩ := hrest p hp
    exact ⟨((hr.obs.ok p h4).blk_lt hg).2, fun ⟨q, hq, hb⟩ => hr.obs.apart p h4 q (hin q hq) (h5 q hq) g hg hb, (hr.obs.ok p h4).nF hg⟩
  refine ⟨hr.size, hr.defers, hx.lt, fun b hb => hx.up b (hr.base b hb), fun b hb => ?_, ?_, Nat.le_trans hr.hB hx.kept.size, fun t => (hr.env t).over hx.up hw hx.same, ?_, hr.up, fun p hp g hg => ?_, fun i hi => ?_⟩
  · rcases hx.new b hb with h4 | h4
    · exact hr.new b h4
    · exact .inr (hfr b h4)
  · exact ⟨hx.kept.os.trans hr.below.os, hx.kept.tape.trans hr.below.tape, hx.kept.output.trans hr.below.output, Nat.le_trans hr.below.size hx.kept.size, fun k hk hf => by
      rw [hx.kept.block k (Nat.lt_of_lt_of_le hk hr.below.size) (fun hh => hf (hfr k hh)), hr.below.block k hk hf]⟩
  · have hmix : ∀ p ∈ σ', ∀ q ∈ Obs.dels σc σ, p.1 ≠ q.1 ∧ ∀ g, blk (ρ' p.1) = some g → blk (ρ' q.1) ≠ some g := fun p hp q hq => by
      refine ⟨fun he => ?_, fun g hg hg2 => ?_⟩
      · have := Obs.allIds_mem (Obs.allIds_mem h2 p hp) q hq
        rw [he] at this
        simp at this
      · rw [hx.same _ (hrest q hq).2.2] at hg2
        obtain ⟨h4, h5, _⟩ := hblk q hq g hg2
        rcases hx.own p hp g hg with h6 | h6
        · omega
        · exact h5 h6
    refine ⟨fun p hp => ?_, fun p hp q hq hne g hg => ?_, fun p hp q hq he => ?_⟩
    · rcases Obs.mem_join hp with hp | hp
      · exact hx.obs.ok p hp
      · obtain ⟨q, hq, rfl⟩ := Obs.mem_killP hp
        obtain ⟨h4, h5, h6⟩ := hrest q hq
        refine (hr.obs.ok q h4).over h6 hx.up hw hx.same fun g hg => ?_
        obtain ⟨h7, h8, h9⟩ := hblk q hq g hg
        have hnn : ¬ (w.heap.size ≤ g ∨ ownB σc ρ g) := fun hh => by
          rcases hh with hh | hh
          · omega
          · exact h8 hh
        refine ⟨hx.kept.block g h7 hnn, fun hf => ?_⟩
        rcases hx.new g hf with h10 | h10
        · exact h9 h10
        · exact hnn h10
    · rcases Obs.mem_join hp with hp | hp
      · rcases Obs.mem_join hq with hq | hq
        · exact hx.obs.apart p hp q hq hne g hg
        · obtain ⟨q', hq', rfl⟩ := Obs.mem_killP hq
          exact (hmix p hp q' hq').2 g hg
      · obtain ⟨p', hp', rfl⟩ := Obs.mem_killP hp
        rcases Obs.mem_join hq with hq | hq
        · exact fun he => (hmix q hq p' hp').2 g he hg
        · obtain ⟨q', hq', rfl⟩ := Obs.mem_killP hq
          simp only at hg hne ⊢
          rw [hx.same _ (hrest p' hp').2.2] at hg
          rw [hx.same _ (hrest q' hq').2.2]
          exact hr.obs.apart p' (hrest p' hp').1 q' (hrest q' hq').1 hne g hg
    · rcases Obs.mem_join hp with hp | hp
      · rcases Obs.mem_join hq with hq | hq
        · exact hx.obs.uniq p hp q hq he
        · obtain ⟨q', hq', rfl⟩ := Obs.mem_killP hq
          exact absurd he (hmix p hp q' hq').1
      · obtain ⟨p', hp', rfl⟩ := Obs.mem_killP hp
        rcases Obs.mem_join hq with hq | hq
        · exact absurd he.symm (hmix q hq p' hp').1
        · obtain ⟨q', hq', rfl⟩ := Obs.mem_killP hq
          have := hr.obs.uniq p' (hrest p' hp').1 q' (hrest q' hq').1 he
          rw [this]
  · rcases Obs.mem_join hp with hp | hp
    · exact hfr g (hx.own p hp g hg)
    · obtain ⟨q, hq, rfl⟩ := Obs.mem_killP hp
      simp only at hg
      rw [hx.same _ (hrest q hq).2.2] at hg
      exact hr.kown q (hrest q hq).1 g hg
  · have : chg i = false := by
      cases hc : chg i with
      | false => rfl
      | true => rw [h3 i hc] at hi; simp at hi
    rw [hx.same i this]
    exact hr.fixed i hi

def ArgsS (e : Env) : List Operand → List S → Prop
  | [], [] => True
  | x :: xs, s :: ss => SLe (e.ev x) s ∧ ArgsS e xs ss
  | _, _ => False
theorem ArgsS.nil {e : Env} : ArgsS e [] [] := trivial
theorem ArgsS.cons {e : Env} {x : Operand} {s : S} {xs : List Operand} {ss : List S} (h : SLe (e.ev x) s) (k : ArgsS e xs ss) : ArgsS e (x :: xs) (s :: ss) := ⟨h, k⟩
theorem ArgsS.rep {e : Env} {F : Nat → Prop} {ρ : Nat → Value} {w : World} {a : Act} (ha : ∀ t, RepS F ρ w (a.tmps.getD t undef) (e t)) : ∀ {xs : List Operand} {ss : List S}, ArgsS e xs ss → RepSL F ρ w (xs.map a.eval) ss
  | [], [], _ => ⟨rfl, fun i h => absurd h (by simp)⟩
  | x :: xs, s :: ss, h => by
    have h1 := ArgsS.rep ha h.2
    refine ⟨by simp [h1.1], fun i h2 h3 => ?_⟩
    cases i with
    | zero => exact h.1 _ _ _ _ (ev_rep fun t _ => ha t)
    | succ i => exact h1.2 i (by simpa using h2) (by simpa using h3)
  | [], _ :: _, h => h.elim
  | _ :: _, [], h => h.elim

section
variable {cx : Cx} {ops : Array Oper} {o : Oper} {rest : List Oper} {e : Env} {σ : Obs} {Q : Post}
theorem AOps.callX {f : FuncId} {xs : List Operand} {ts : Array TypeId} {ss : List S} {σc σ' : Obs} {chg : Nat → Bool} {d : D} (hg : o.guard = none) (hd : DstOk cx.N o)
    (ho : o.op = .call { callee := .value (.func f), args := xs.toArray, argTypes := ts }) (ha : ArgsS e xs ss) (h : XCall cx.P f ss σc σ' chg d) (hin : AllIn σ σc)
    (h1 : Obs.allIds (fun i => !(chg i)) (Obs.dels σc σ) = true) (h2 : Obs.allIds (fun i => Obs.allIds (fun j => !(Nat.beq i j)) (Obs.dels σc σ)) σ' = true) (h3 : ∀ i, chg i = true → cx.fixp i = false)
    (k : AOps cx ops rest ((e.killP chg).put o.dst (.d d)) (Obs.join σ' (Obs.killP chg (Obs.dels σc σ))) Q) : AOps cx ops (o :: rest) e σ Q := by
  intro a w ⟨F, ρ, hr⟩
  have h4 := h.2 F ρ cx.B w _ hr.lt hr.hB (hr.obs.sub hin.mem) (ArgsS.rep hr.env ha)
  have h5 := h.1 (xs.map a.eval).toArray w
  have hx : (execOp a.eval o).run cx.P w = .ok (.enter f (xs.map a.eval).toArray) w := by
    unfold execOp
    simp only [ho, resolve, Deferred.ofValue, Act.eval, invoke, Sem.run_bind, Sem.run_pure, Result.andThen_ok]
    simpa using h5
  refine wpList_plain hg fun K hK => ?_
  unfold Oper.wp
  rw [hx]
  refine h4.mono fun _ w' ⟨v, F', ρ', he, hv, hE⟩ => ?_
  subst he
  exact hK _ _ (k _ _ ⟨F', ρ', (hr.after hin.mem hE h1 h2 h3).put (Ext.refl hE.lt) (.d hv) hd⟩)
end

end Go.Proofs.YthcdjmkkgbcaaaaGreatDoor

namespace Go.Proofs.YthcdjmkkgbcaaaaGreatDoor
open Go.RowKit
section
variable {P : Program} {B : Nat} {ops : Array Oper} {o : Oper} {e : Env} {σ : Obs}
end
end Go.Proofs.YthcdjmkkgbcaaaaGreatDoor

namespace Go.Proofs.YthcdjmkkgbcaaaaGreatDoor
open Go.RowKit

/-- One cell an element, each of a plain value: the elder word for it. -/
theorem sl_of_rep {α : Type} {F : Nat → Prop} {w : World} {x : Value} (l : List α) (f : α → Value) (h : Rep F w x (.sl (l.map fun a => [D.v (f a)]))) : Sl w 1 x l.length (l.map f) := by
  refine ⟨by simp, ?_⟩
  rcases rep_sl_sl h with ⟨rfl, h2⟩ | ⟨ad, cap, size, vs, rfl, hc, hm, hF, hs, hcell, hone, hrep⟩
  · have : l = [] := by simpa using h2
    subst this
    exact .inl ⟨rfl, rfl⟩
  · rw [List.length_map] at hc hcell
    refine .inr ⟨ad, cap, by simp, hc, hm, fun i hi => ?_⟩
    rw [List.length_map] at hi
    have hs1 : size = 1 := by rw [← hs i (by simpa using hi)]; simp
    subst hs1
    have h3 := hcell i 0 hi (by omega)
    have h4 := hrep i (by simpa using hi) 0 (by simp)
    simp only [List.getElem_map, List.getElem_cons_zero] at h4
    rw [Nat.mul_one, Nat.add_zero] at h3
    rw [h3, rep_v h4]
    simp

def u8D (c : UInt8) : List D := [.v (.int .u8 (c.toNat : Int))]
def u32D (n : Nat) : List D := [.v (.int .u32 (n : Int))]
def intD (n : Int) : List D := [.v (.int .i64 n)]

section
variable {P : Program} {B : Nat} {ops : Array Oper} {o : Oper} {e : Env} {σ : Obs}
/-- string(b), b frozen bytes. -/
theorem AOp.bytesStr {s t el : TypeId} {x : Operand} {l : List UInt8} (ho : o.op = .convert s t x) (hs : P.underlying s = some (.slice el)) (he : P.underlying el = some (.int .u8)) (hd : P.underlying t = some .string) (hx : e.ev x = .d (.sl (l.map u8D))) :
    AOp P B ops o e σ (.d (.v (.string ⟨l.toArray⟩))) := .value fun F ρ w a hF hr _ => by
  have h1 := hr x (by rw [ho]; simp [Op.operands])
  rw [hx] at h1
  have h2 := sl_of_rep l (fun c => .int .u8 (c.toNat : Int)) (repS_d h1)
  refine ⟨_, F, w, ?_, .d (.v _), Ext.refl hF⟩
  unfold execOp
  simp only [ho]
  rw [Sem.run_bind]
  rcases h2.2 with ⟨h3, h4⟩ | ⟨ad, cap, h3, h4, h5, h6⟩
  · have : l = [] := List.eq_nil_of_length_eq_zero h4
    subst this
    rw [h3, run_convert_bytes_nil w s el hs he 0 0 t hd]
    rfl
  · rw [h3, run_convert_bytes_back w s t el ad cap l hs he hd (fun j hj => by
      have := h6 j (by simpa using hj)
      simpa using this)]
    rfl
end
end Go.Proofs.YthcdjmkkgbcaaaaGreatDoor

namespace Go.Proofs.YthcdjmkkgbcaaaaGreatDoor
open Go.ChangeShapes Go.WideShapes Go.ChangeAt Go.RowKit

theorem blk_append {H : Type} (l r : List (DataW H)) : Rows.uptoBulkAll (l ++ r) = Rows.uptoBulkAll l + Rows.uptoBulkAll r := by
  induction l with
  | nil => simp [Rows.uptoBulkAll]
  | cons x l ih => simp only [List.cons_append, Rows.uptoBulkAll, ih]; omega
def sumOf {α : Type} (B : α → Nat) : List α → Nat
  | [] => 0
  | x :: l => B x + sumOf B l
theorem sumOf_append {α : Type} (B : α → Nat) (l r : List α) : sumOf B (l ++ r) = sumOf B l + sumOf B r := by
  induction l with
  | nil => simp [sumOf]
  | cons x l ih => simp only [List.cons_append, sumOf, ih]; omega
theorem cells?_all {w : World} {base n : Nat} {ad : Addr} {cs : List Value} (h : w.cells? base ad n = some cs) : cs.length = n ∧ ∀ j (hj : j < cs.length), w.cell? (ad.add j) = some cs[j] := by
  unfold World.cells? at h
  split at h
  · have hl := mapM_some_length h
    simp at hl
    refine ⟨hl, fun j hj => ?_⟩
    have h2 := mapM_some_get h j j (by rw [List.getElem?_range (by omega)])
    rw [h2, List.getElem?_eq_getElem hj]
  · cases h

/-- All blocks that are there. -/
abbrev allF (w : World) : Nat → Prop := fun b => b < w.heap.size

/-- A reading of the type t is one of enc. -/
structure Opens {α : Type} (P : Program) (t size : Nat) (enc : α → List D) (ok : α → Prop) (B : α → Nat) : Prop where
  len : ∀ y, (enc y).length = size
  get : ∀ {H : Type} {encH : TypeId × Value → H} {w : World} {n : Nat} {cs : List Value} {x : DataW H × List MemPlace}, DataW.trod encH P w 0 (fun _ => true) true n t cs = some x → cs.length = size →
    ∃ y, ok y ∧ RepL (allF w) w cs (enc y) ∧ (∀ u ∈ cs, u.oneCell' = true) ∧ B y ≤ Rows.uptoBulk x.1

theorem Opens.map {α β : Type} {P : Program} {t size : Nat} {enc : α → List D} {ok : α → Prop} {B : α → Nat} {enc' : β → List D} {ok' : β → Prop} {B' : β → Nat} (O : Opens P t size enc ok B) (f : α → β) (h : ∀ y, enc' (f y) = enc y) (hl : ∀ y, (enc' y).length = size) (ho : ∀ y, ok y → ok' (f y)) (hb : ∀ y, B' (f y) ≤ B y) :
    Opens P t size enc' ok' B' :=
  ⟨hl, fun hx hc => by
    obtain ⟨y, h1, h2, h3, h4⟩ := O.get hx hc
    exact ⟨f y, ho y h1, by rw [h]; exact h2, h3, Nat.le_trans (hb y) h4⟩⟩

section
variable {P : Program} {t : Nat}
theorem opens_i64 (ht : P.underlying t = some (.int .i64)) : Opens P t 1 intD (fun n => -9223372036854775808 ≤ n ∧ n ≤ 9223372036854775807) (fun _ => 1) :=
  ⟨fun _ => rfl, fun hx _ => by
    obtain ⟨n, rfl, rfl, h1⟩ := DataW.trod_int ht hx
    have h2 : -9223372036854775808 ≤ n ∧ n ≤ 9223372036854775807 := by simpa [Lit.wf, IntKind.min, IntKind.max, IntKind.signed, IntKind.bits] using h1
    exact ⟨n, h2, RepL.cons (.v _) RepL.nil, fun u hu => by simp at hu; rw [hu]; rfl, by simp [Rows.uptoBulk]⟩⟩
def boolD (b : Bool) : List D := [.v (.bool b)]
def strD (s : ByteArray) : List D := [.v (.string s)]
theorem opens_str (ht : P.underlying t = some .string) : Opens P t 1 strD (fun s => s.size ≤ 9223372036854775807) (fun s => s.size + 1) :=
  ⟨fun _ => rfl, fun hx _ => by
    obtain ⟨s, rfl, rfl, h1⟩ := DataW.trod_string ht hx
    refine ⟨s, by unfold maxLen at h1; omega, RepL.cons (.v _) RepL.nil, fun u hu => by simp at hu; rw [hu]; rfl, ?_⟩
    simp only [Rows.uptoBulk, Array.length_toList]
    exact Nat.le_refl _⟩

def slD {α : Type} (enc : α → List D) (l : List α) : List D := [.sl (l.map enc)]
theorem opens_slice {α : Type} {e size : Nat} {enc : α → List D} {ok : α → Prop} {B : α → Nat} (ht : P.underlying t = some (.slice e)) (hc : P.cellsOf e = size) (hs : 0 < size) (O : Opens P e size enc ok B) :
    Opens P t 1 (slD enc) (fun l => ∀ y ∈ l, ok y) (fun l => sumOf B l + 1) :=
  ⟨fun _ => rfl, fun {H encH w n cs x} hx _ => by
    rcases DataW.trod_slice ht hx with ⟨rfl, rfl⟩ | ⟨a, len, cap, elems, rest, n', _, rfl, rfl, _, hl, hm, hlen, hel, _, _⟩
    · exact ⟨[], fun y hy => by simp at hy, RepL.cons .nil RepL.nil, fun u hu => by simp at hu; rw [hu]; rfl, by simp [sumOf, Rows.uptoBulk]⟩
    · have each : ∀ m, m ≤ len → ∃ l : List α, l.length = m ∧ (∀ y ∈ l, ok y) ∧ (∀ i (hi : i < l.length), ∃ cs : List Value, cs.length = size ∧ (∀ j (hj : j < cs.length), w.cell? ((a.add (i * size)).add j) = some cs[j]) ∧ RepL (allF w) w cs (enc l[i]) ∧ ∀ u ∈ cs, u.oneCell' = true) ∧
          sumOf B l ≤ Rows.uptoBulkAll ((elems.take m).map (·.1)) := by
        intro m
        induction m with
        | zero => intro _; exact ⟨[], rfl, fun y hy => by simp at hy, fun i hi => absurd hi (by simp), by simp [sumOf]⟩
        | succ m ih =>
          intro hm1
          obtain ⟨l, h1, h2, h3, h4⟩ := ih (by omega)
          have hme : m < elems.length := by omega
          have hh := hel m (by omega)
          rw [hc, List.getElem?_eq_getElem hme, Option.bind_eq_some_iff] at hh
          obtain ⟨cs, hcs, htr⟩ := hh
          obtain ⟨hcl, hcg⟩ := cells?_all hcs
          obtain ⟨y, hy1, hy2, hy3, hy4⟩ := O.get htr hcl
          refine ⟨l ++ [y], by simp [h1], fun z hz => ?_, fun i hi => ?_, ?_⟩
          · rw [List.mem_append] at hz
            rcases hz with hz | hz
            · exact h2 z hz
            · simp at hz; rw [hz]; exact hy1
          · rw [List.length_append, List.length_singleton] at hi
            by_cases hlt : i < l.length
            · rw [List.getElem_append_left hlt]; exact h3 i hlt
            · have he : i = m := by omega
              subst he
              refine ⟨cs, hcl, hcg, ?_, hy3⟩
              rw [List.getElem_append_right (by omega)]
              simpa using hy2
          · rw [List.take_succ_eq_append_getElem hme, List.map_append, blk_append, sumOf_append]
            simp only [sumOf, List.map_cons, List.map_nil, Rows.uptoBulkAll]
            omega
      obtain ⟨l, h1, h2, h3, h4⟩ := each len (Nat.le_refl _)
      have h6 : elems.take len = elems := List.take_of_length_le (by omega)
      rw [h6] at h4
      refine ⟨l, h2, RepL.cons ?_ RepL.nil, fun u hu => by simp at hu; rw [hu]; rfl, by simp only [Rows.uptoBulk]; omega⟩
      have hch : ∀ i : Nat, ∃ cs : List Value, ∀ (hi : i < l.length), cs.length = size ∧ (∀ j (hj : j < cs.length), w.cell? ((a.add (i * size)).add j) = some cs[j]) ∧ RepL (allF w) w cs (enc l[i]) ∧ ∀ u ∈ cs, u.oneCell' = true := fun i => by
        by_cases hi : i < l.length
        · obtain ⟨cs, h⟩ := h3 i hi; exact ⟨cs, fun _ => h⟩
        · exact ⟨[], fun h => absurd h hi⟩
      let f : Nat → List Value := fun i => Classical.choose (hch i)
      have hf : ∀ i (hi : i < l.length), (f i).length = size ∧ (∀ j (hj : j < (f i).length), w.cell? ((a.add (i * size)).add j) = some (f i)[j]) ∧ RepL (allF w) w (f i) (enc l[i]) ∧ ∀ u ∈ f i, u.oneCell' = true := fun i hi => Classical.choose_spec (hch i) hi
      have hll : (l.map enc).length = len := by simp [h1]
      have := Rep.sl (F := allF w) (w := w) a cap size (l.map enc) (fun i j => (f i).getD j undef) (by omega) (by unfold maxLen at hm; omega) (fun h0 => by
          rw [List.length_map] at h0
          obtain ⟨g1, g2, _⟩ := hf 0 h0
          have h7 := World.block_lt_of_cell? w _ (g2 0 (by omega))
          rw [addr_block, addr_block] at h7
          exact h7) (fun i hi => by rw [List.getElem_map]; exact O.len _) (fun i j hi hj => by
          rw [List.length_map] at hi
          obtain ⟨g1, g2, _⟩ := hf i hi
          rw [← addr_add_add, g2 j (by omega), List.getD_eq_getElem?_getD, List.getElem?_eq_getElem (by omega), Option.getD_some]) (fun i j hi hj => by
          rw [List.length_map] at hi
          obtain ⟨g1, _, _, g4⟩ := hf i hi
          rw [List.getD_eq_getElem?_getD, List.getElem?_eq_getElem (by omega), Option.getD_some]
          exact g4 _ (List.getElem_mem _)) (fun i hi j hj => by
          rw [List.length_map] at hi
          obtain ⟨g1, _, g3, _⟩ := hf i hi
          simp only [List.getElem_map] at hj ⊢
          have hj' : j < (f i).length := by rw [g3.1]; exact hj
          rw [List.getD_eq_getElem?_getD, List.getElem?_eq_getElem hj', Option.getD_some]
          exact g3.2 j hj' hj)
      rw [hll] at this
      exact this⟩

/-- A struct's fields, from one on. -/
structure OpensF {α : Type} (P : Program) (fs : List (Nat × Nat × Nat)) (off total : Nat) (enc : α → List D) (ok : α → Prop) (B : α → Nat) : Prop where
  len : ∀ y, off + (enc y).length = total
  get : ∀ {H : Type} {encH : TypeId × Value → H} {w : World} {n : Nat} {cs : List Value} {xs : List (DataW H × List MemPlace)}, cs.length = total → xs.length = fs.length →
    (∀ (i : Nat) (f : Nat × Nat × Nat), fs[i]? = some f → DataW.trod encH P w 0 (fun _ => true) true n f.1 ((cs.drop f.2.1).take f.2.2) = xs[i]?) → ∃ y, ok y ∧ RepL (allF w) w (cs.drop off) (enc y) ∧ (∀ u ∈ cs.drop off, u.oneCell' = true) ∧ B y ≤ Rows.uptoBulkAll (xs.map (·.1))
theorem OpensF.nil {total : Nat} : OpensF (α := Unit) P [] total total (fun _ => []) (fun _ => True) (fun _ => 0) :=
  ⟨fun _ => rfl, fun {H encH w n cs xs} hc _ _ => ⟨(), trivial, by rw [List.drop_eq_nil_of_le (by omega)]; exact RepL.nil, fun u hu => by rw [List.drop_eq_nil_of_le (by omega)] at hu; simp at hu, Nat.zero_le _⟩⟩
theorem OpensF.cons {α β : Type} {ft off size total : Nat} {fs : List (Nat × Nat × Nat)} {enc : α → List D} {ok : α → Prop} {B : α → Nat} {enc2 : β → List D} {ok2 : β → Prop} {B2 : β → Nat} (O : Opens P ft size enc ok B) (R : OpensF P fs (off + size) total enc2 ok2 B2) :
    OpensF (α := α × β) P ((ft, off, size) :: fs) off total (fun y => enc y.1 ++ enc2 y.2) (fun y => ok y.1 ∧ ok2 y.2) (fun y => B y.1 + B2 y.2) :=
  ⟨fun y => by have := R.len y.2; rw [List.length_append, O.len]; omega, fun {H encH w n cs xs} hc hl h => by
    rcases xs with _ | ⟨x, xs⟩
    · simp at hl
    have h0 := h 0 (ft, off, size) rfl
    simp only [List.getElem?_cons_zero] at h0
    obtain ⟨y2, k1, k2, k3, k4⟩ := R.get (encH := encH) (w := w) (n := n) (xs := xs) hc (by simpa using hl) (fun i f hf => by
      have := h (i + 1) f (by simpa using hf)
      simpa using this)
    have hle := R.len y2
    obtain ⟨y1, g1, g2, g3, g4⟩ := O.get h0 (by rw [List.length_take, List.length_drop]; omega)
    have hsplit : cs.drop off = (cs.drop off).take size ++ cs.drop (off + size) := by
      rw [← List.drop_drop]; exact (List.take_append_drop size (cs.drop off)).symm
    refine ⟨(y1, y2), ⟨g1, k1⟩, ?_, fun u hu => ?_, ?_⟩
    · rw [hsplit]; exact g2.append k2
    · rw [hsplit, List.mem_append] at hu
      rcases hu with hu | hu
      · exact g3 u hu
      · exact k3 u hu
    · simp only [List.map_cons, Rows.uptoBulkAll]; omega⟩

def structF (P : Program) (t total : Nat) (fs : List (Nat × Nat × Nat)) : Bool :=
  match P.underlying t with
  | some (.struct gs) => gs.size == fs.length && (gs.toList.zip fs).all (fun (g, f) => g.type == f.1 && g.offset == f.2.1 && P.cellsOf g.type == f.2.2) && P.cellsOf t == total
  | _ => false
theorem opens_struct {α : Type} {total : Nat} {fs : List (Nat × Nat × Nat)} {enc : α → List D} {ok : α → Prop} {B : α → Nat} (hb : structF P t total fs = true) (O : OpensF P fs 0 total enc ok B) : Opens P t total enc ok (fun y => B y + 1) :=
  ⟨fun y => by have := O.len y; omega, fun {H encH w n cs x} hx hc => by
    unfold structF at hb
    split at hb
    · rename_i gs hu
      simp only [Bool.and_eq_true, beq_iff_eq, List.all_eq_true] at hb
      obtain ⟨⟨h1, h2⟩, h3⟩ := hb
      obtain ⟨xs, n', _, rfl, _, hl, hf⟩ := DataW.trod_struct hu hx
      obtain ⟨y, k1, k2, k3, k4⟩ := O.get (encH := encH) (w := w) (n := n') (cs := cs) (xs := xs) hc (by omega) (fun i f hf' => by
        have hi : i < fs.length := (List.getElem?_eq_some_iff.1 hf').1
        have hfe : fs[i] = f := (List.getElem?_eq_some_iff.1 hf').2
        have hi' : i < gs.size := by omega
        have h4 := h2 (gs[i], f) (by
          rw [List.mem_iff_getElem]
          exact ⟨i, by simp; omega, by simp [hfe]⟩)
        simp only at h4
        have h5 := hf i gs[i] (by simp [hi'])
        rw [h4.2, h4.1.1, h4.1.2] at h5
        exact h5)
      rw [List.drop_zero] at k2 k3
      exact ⟨y, k1, k2, k3, by simp only [Rows.uptoBulk]; omega⟩
    · simp at hb⟩

theorem one_of {F : Nat → Prop} {w : World} {v : Value} {d : D} (h : RepL F w v.cells.toList [d]) (hc : v.cells = #[v]) : Rep F w v d := by
  rw [hc] at h
  exact h.2 0 (by simp) (by simp)
theorem agg_of {F : Nat → Prop} {w : World} {cs : Array Value} {ds : List D} (h : RepL F w (Value.agg cs).cells.toList ds) (h1 : ∀ u ∈ (Value.agg cs).cells.toList, u.oneCell' = true) : Rep F w (.agg cs) (.agg ds) := by
  have e : cs = cs.toList.toArray := by simp
  rw [e]
  exact .agg _ _ h.1 (fun i hi => h1 _ (List.getElem_mem hi)) h.2

/-- An argument that came in. -/
theorem Opens.arg {α : Type} {size : Nat} {enc : α → List D} {ok : α → Prop} {B : α → Nat} (O : Opens P t size enc ok B) {H : Type} {encH : TypeId × Value → H} {w : World} {v : Value} {d : DataW H} {p : List MemPlace} (h : DataW.Trod encH P w 0 (fun _ => true) true t v d p) (hc : v.cells.size = size) :
    ∃ y, ok y ∧ RepL (allF w) w v.cells.toList (enc y) ∧ (∀ u ∈ v.cells.toList, u.oneCell' = true) ∧ B y ≤ Rows.uptoBulk d := by
  obtain ⟨fuel, hf⟩ := h
  exact O.get hf (by rw [Array.length_toList]; exact hc)
end
end Go.Proofs.YthcdjmkkgbcaaaaGreatDoor

namespace Go.Proofs.YthcdjmkkgbcaaaaGreatDoor
open Go.RowKit
set_option linter.unusedVariables false

/-- f, called with an own row of the caller's (whichever) and data, turns the row's elements from els to els' and returns d. -/
def RCall (P : Program) (f : FuncId) (e size : Nat) (els els' : List (List D)) (ds : List D) (d : D) : Prop :=
  ∀ id, XCall P f (.own id :: ds.map S.d) [(id, .row e size els)] [(id, .row e size els')] (fun _ => false) d

/-- A call that only reads, where an own row is handed on: the row as it is. -/
theorem RCall.eq {P : Program} {f : FuncId} {e size : Nat} {els els' els2 els2' : List (List D)} {ds : List D} {d : D} (h : RCall P f e size els els' ds d) (h1 : els = els2) (h2 : els' = els2') : RCall P f e size els2 els2' ds d := by
  subst h1; subst h2; exact h
end Go.Proofs.YthcdjmkkgbcaaaaGreatDoor

namespace Go.Proofs.YthcdjmkkgbcaaaaGreatDoor
open Go.RowKit
set_option linter.unusedVariables false

/-- An operation that writes: from the objects σ to σ'; whatever else the slots hold. -/
def EOp (cx : Cx) (ops : Array Oper) (o : Oper) (e : Env) (σ σ' : Obs) : Prop :=
  ∀ (F : Nat → Prop) (ρ : Nat → Value) (a : Act) (w : World) (e0 : Env), R0 cx F ρ e0 σ a w → (∀ t, t ∈ o.looksAt ops → RepS F ρ w (a.tmps.getD t undef) (e t)) →
    o.wp cx.P a w (fun a' w' => a' = a ∧ ∀ e2, R0 cx F ρ e2 σ a w → ∃ F' ρ', R0 cx F' ρ' e2 σ' a w') (fun _ _ _ => False)

/-- One step; sl: who reads objects, ef: who writes them. -/
def GStep (cx : Cx) (ops : Array Oper) (sl ef : Nat → Bool) (k : Nat) (o : Oper) (e : Env) (σ : Obs) (e' : Env) (σ' : Obs) : Prop :=
  (GW ops o e true ∧ ∃ s, ((sl k = true ∧ AOp cx.P cx.B ops o e σ s) ∨ (∀ τ, AOp cx.P cx.B ops o e τ s)) ∧ e' = e.put o.dst s ∧ σ' = σ) ∨
  (GW ops o e false ∧ e' = e.put o.dst (.d (.v undef)) ∧ σ' = σ) ∨
  (GW ops o e true ∧ ef k = true ∧ o.dst = none ∧ EOp cx ops o e σ σ' ∧ e' = e)

def GRun (cx : Cx) (ops : Array Oper) (sl ef : Nat → Bool) : Nat → List Oper → Env → Obs → (Env → Obs → Prop) → Prop
  | _, [], e, σ, Q => Q e σ
  | k, o :: l, e, σ, Q => DstOk cx.N o ∧ ∃ e' σ', GStep cx ops sl ef k o e σ e' σ' ∧ GRun cx ops sl ef (k + 1) l e' σ' Q

def anyG (cx : Cx) (ops : Array Oper) (sl ef : Nat → Bool) (Q : Env → Obs → Prop) : Nat → Array Bool → Env → Obs → Prop
  | 0, listed, e, σ => Region.ready .any ops listed = [] ∧ Q e σ
  | fuel + 1, listed, e, σ => (Region.ready .any ops listed = [] → Q e σ) ∧
      ∀ i ∈ Region.ready .any ops listed, ∀ o, ops[i]? = some o → ∃ e' σ', GStep cx ops sl ef i o e σ e' σ' ∧ anyG cx ops sl ef Q fuel (listed.setIfInBounds i true) e' σ'

/-- Who comes after k, directly or not. -/
def Region.lateOf (ops : Array Oper) (k : Nat) : List Nat :=
  (List.range ops.size).foldl (fun acc j => if ((ops[j]?).map fun o => o.after.any fun e => Region.binds .any e && (Nat.beq e.on k || acc.any fun i => Nat.beq i e.on)).getD false then j :: acc else acc) []
/-- No two operations, of which one writes and the other one reads or writes, are free to change places. -/
def Region.sensFree (ops : Array Oper) (sl ef : Nat → Bool) (listed : Array Bool) (k : Nat) (late : Nat → Bool) : Bool :=
  (List.range ops.size).all fun j =>
    (!(late j) || (!(listed.getD j false) && ((ops[j]?).map fun o => o.after.any fun e => Region.binds .any e && (Nat.beq e.on k || late e.on)).getD true)) &&
    (Nat.beq j k || listed.getD j true || late j || (!(ef k && sl j) && !(sl k && ef j)))
def Region.lateB (ops : Array Oper) (k j : Nat) : Bool := Nat.blt j ops.size && (Region.lateOf ops k).any fun i => Nat.beq i j
def Region.sensFrom (ops : Array Oper) (sl ef : Nat → Bool) : Nat → Nat → Array Bool → Bool
  | 0, _, _ => true
  | fuel + 1, k, listed => (if sl k || ef k then Region.sensFree ops sl ef listed k (Region.lateB ops k) else true) && Region.sensFrom ops sl ef fuel (k + 1) (listed.setIfInBounds k true)
end Go.Proofs.YthcdjmkkgbcaaaaGreatDoor

namespace Go.Proofs.YthcdjmkkgbcaaaaGreatDoor
open Go.RowKit
set_option linter.unusedVariables false
section
variable {cx : Cx} {ops : Array Oper} {o : Oper} {rest : List Oper} {e : Env} {σ : Obs} {sl ef : Nat → Bool} {n : Nat} {l : List Oper} {Q : Env → Obs → Prop}
end
section
variable {cx : Cx} {ops : Array Oper} {o : Oper} {e : Env} {σ : Obs}
end
end Go.Proofs.YthcdjmkkgbcaaaaGreatDoor

namespace Go.Proofs.YthcdjmkkgbcaaaaGreatDoor
open Go.RowKit
set_option linter.unusedVariables false
section
variable {P : Program} {B : Nat} {ops : Array Oper} {o : Oper} {e : Env} {σ : Obs}
end
theorem row_same {id e size : Nat} {els els' : List (List D)} {τ : Obs} (h : els = els') : ∀ p ∈ [(id, Ob.row e size els')], p ∈ (id, Ob.row e size els) :: τ := fun p hp => by
  have : p = (id, Ob.row e size els') := by simpa using hp
  rw [this, ← h]
  exact .head _
end Go.Proofs.YthcdjmkkgbcaaaaGreatDoor

namespace Go.Proofs.YthcdjmkkgbcaaaaGreatDoor
open Go.RowKit
set_option linter.unusedVariables false
section
variable {P : Program} {B : Nat} {ops : Array Oper} {o : Oper} {e : Env} {σ : Obs}
end
end Go.Proofs.YthcdjmkkgbcaaaaGreatDoor

namespace Go.Proofs.YthcdjmkkgbcaaaaGreatDoor
open Go.RowKit
/-- A plain field's kind. -/
inductive Kd where
  | int (k : IntKind)
  | str
  | bool
def Kd.fits : Kd → Value → Bool
  | .int k, .int k' _ => decide (k' = k)
  | .str, .string _ => true
  | .bool, .bool _ => true
  | _, _ => false
def Kd.ofType (P : Program) (t : TypeId) : Kd → Bool
  | .int k => match P.underlying t with | some (.int k') => decide (k' = k) | _ => false
  | .str => match P.underlying t with | some .string => true | _ => false
  | .bool => match P.underlying t with | some .bool => true | _ => false
def kindsB : List Kd → List Value → Bool
  | [], [] => true
  | k :: ks, v :: vs => k.fits v && kindsB ks vs
  | _, _ => false
def fieldsB (P : Program) : Nat → List Kd → List Field → Bool
  | _, [], [] => true
  | i, k :: ks, f :: fs => (f.name != "_") && (f.offset == i) && k.ofType P f.type && fieldsB P (i + 1) ks fs
  | _, _, _ => false
def sameV : Value → Value → Bool
  | .int _ a, .int _ b => decide (a = b)
  | .string a, .string b => decide (a = b)
  | .bool a, .bool b => decide (a = b)
  | _, _ => false
def sameL : List Value → List Value → Bool
  | [], [] => true
  | a :: l, b :: r => sameV a b && sameL l r
  | _, _ => false
theorem run_eqCell {P : Program} (w : World) {k : Kd} {t : TypeId} (hk : k.ofType P t = true) {a b : Value} (ha : k.fits a = true) (hb : k.fits b = true) (d : Nat) : (Op.equalIn (d + 1) t a b).run P w = .ok (sameV a b) w := by
  cases k with
  | int q =>
    simp only [Kd.ofType] at hk
    split at hk
    · rename_i q' hu
      have hq := of_decide_eq_true hk
      subst hq
      cases a <;> simp only [Kd.fits, Bool.false_eq_true] at ha
      cases b <;> simp only [Kd.fits, Bool.false_eq_true] at hb
      have h1 := of_decide_eq_true ha
      have h2 := of_decide_eq_true hb
      subst h1
      rename_i x _ y
      subst h2
      rw [run_equalIn_int w d t _ _ x y hu]
      rw [show (x == y) = decide (x = y) by by_cases hxy : x = y <;> simp [hxy]]; rfl
    · cases hk
  | str =>
    simp only [Kd.ofType] at hk
    split at hk
    · rename_i hu
      cases a <;> simp only [Kd.fits, Bool.false_eq_true] at ha
      cases b <;> simp only [Kd.fits, Bool.false_eq_true] at hb
      rename_i x y
      rw [run_equalIn_string w d t x y hu, toList_eq]
      rfl
    · cases hk
  | bool =>
    simp only [Kd.ofType] at hk
    split at hk
    · rename_i hu
      cases a <;> simp only [Kd.fits, Bool.false_eq_true] at ha
      cases b <;> simp only [Kd.fits, Bool.false_eq_true] at hb
      rename_i x y
      rw [run_equalIn_bool w d t x y hu]
      cases x <;> cases y <;> rfl
    · cases hk
theorem ofType_plain {P : Program} {t : TypeId} {k : Kd} (h : k.ofType P t = true) : P.plainKey t = true := by
  unfold Program.plainKey
  cases k <;> simp only [Kd.ofType] at h <;> split at h <;> first | cases h; done | simp_all
theorem run_eqFields_same {P : Program} (w : World) (d : Nat) : ∀ (ks : List Kd) (fs : List Field) (pre pre' us vs : List Value), pre.length = pre'.length → fieldsB P pre.length ks fs = true → kindsB ks us = true → kindsB ks vs = true →
    (Op.eqFields (d + 1) (pre ++ us).toArray (pre' ++ vs).toArray fs).run P w = .ok (sameL us vs) w
  | [], [], _, _, [], [], _, _, _, _ => by simp [Op.eqFields, sameL]
  | k :: ks, f :: fs, pre, pre', u :: us, v :: vs, hl, hf, hu, hv => by
    simp only [fieldsB, kindsB, Bool.and_eq_true, bne_iff_ne, beq_iff_eq] at hf hu hv
    obtain ⟨⟨⟨hn, ho⟩, hk⟩, hf⟩ := hf
    have ih := run_eqFields_same w d ks fs (pre ++ [u]) (pre' ++ [v]) us vs (by simp [hl]) (by simpa using hf) hu.2 hv.2
    have p1 : (part f.type (pre ++ u :: us).toArray f.offset).run P w = .ok u w := run_part_plain w (ofType_plain hk) (by rw [ho]; simp)
    have p2 : (part f.type (pre' ++ v :: vs).toArray f.offset).run P w = .ok v w := run_part_plain w (ofType_plain hk) (by rw [ho, hl]; simp)
    rw [List.append_assoc, List.append_assoc] at ih
    simp only [List.cons_append, List.nil_append] at ih
    simp only [Op.eqFields, hn, ne_eq, not_false_eq_true, if_true, Sem.run_bind, p1, p2, run_eqCell w hk hu.1 hv.1, Result.andThen_ok, sameL]
    cases sameV u v
    · simp
    · simpa using ih
  | [], _ :: _, _, _, _, _, _, h, _, _ => by simp [fieldsB] at h
  | _ :: _, [], _, _, _, _, _, h, _, _ => by simp [fieldsB] at h
  | [], [], _, _, _ :: _, _, _, _, h, _ => by simp [kindsB] at h
  | [], [], _, _, [], _ :: _, _, _, _, h => by simp [kindsB] at h
  | _ :: _, _ :: _, _, _, [], _, _, _, h, _ => by simp [kindsB] at h
  | _ :: _, _ :: _, _, _, _ :: _, [], _, _, _, h => by simp [kindsB] at h
def eqStructB (P : Program) (t : TypeId) (ks : List Kd) : Bool :=
  (match P.underlying t with | some (.struct fs) => fieldsB P 0 ks fs.toList | _ => false) && !P.stoodInHeld t && !P.eqGuardType P.depth t
/-- Structs of plain fields compare field by field. -/
structure EqT (P : Program) (t : TypeId) (ks : List Kd) : Prop where
  guard : ∀ (op : BinOp) (x y : Operand) (us vs : Array Value) (w : World), (eqGuard op t x y (.agg us) (.agg vs)).run P w = .ok () w
  run : ∀ (us vs : List Value) (w : World), kindsB ks us = true → kindsB ks vs = true → (Op.equal t (.agg us.toArray) (.agg vs.toArray)).run P w = .ok (sameL us vs) w
theorem EqT.of {P : Program} {t : TypeId} {ks : List Kd} (h : eqStructB P t ks = true) : EqT P t ks := by
  unfold eqStructB at h
  simp only [Bool.and_eq_true, Bool.not_eq_true'] at h
  obtain ⟨⟨h1, h2⟩, h3⟩ := h
  split at h1
  · rename_i fs hu
    have hfs : P.fieldsOf t = fs := by simp [Program.fieldsOf, hu]
    refine ⟨fun op x y us vs w => ?_, fun us vs w hk1 hk2 => ?_⟩
    · unfold eqGuard
      cases op <;> first | rfl | (simp [run_program, h3])
    · have h4 := run_eqFields_same w 9998 ks fs.toList [] [] us vs rfl (by simpa using h1) hk1 hk2
      unfold Op.equal
      rw [show Op.maxDepth = 9999 + 1 from rfl, run_equalIn_struct w 9999 t us.toArray vs.toArray (by rw [hfs]; exact hu) h2, hfs]
      simpa using h4
  · cases h1
/-- Two cell lists whose values compare as b. -/
def EqD (P : Program) (t : TypeId) (ds1 ds2 : List D) (b : Bool) : Prop := ∃ us vs : List Value, ds1 = us.map D.v ∧ ds2 = vs.map D.v ∧ (∀ (op : BinOp) (x y : Operand) (w : World), (eqGuard op t x y (.agg us.toArray) (.agg vs.toArray)).run P w = .ok () w) ∧
  ∀ w, (Op.equal t (.agg us.toArray) (.agg vs.toArray)).run P w = .ok b w
theorem EqD.of {P : Program} {t : TypeId} {ks : List Kd} {ds1 ds2 : List D} {b : Bool} (T : EqT P t ks) (us vs : List Value) (h1 : ds1 = us.map D.v) (h2 : ds2 = vs.map D.v) (k1 : kindsB ks us = true) (k2 : kindsB ks vs = true) (hb : sameL us vs = b) : EqD P t ds1 ds2 b :=
  ⟨us, vs, h1, h2, fun op x y w => T.guard op x y _ _ w, fun w => by rw [T.run us vs w k1 k2, hb]⟩
section
variable {P : Program} {B : Nat} {ops : Array Oper} {o : Oper} {e : Env} {σ : Obs}
end
end Go.Proofs.YthcdjmkkgbcaaaaGreatDoor

namespace Go.Proofs.YthcdjmkkgbcaaaaGreatDoor
open Go.RowKit
set_option linter.unusedVariables false

def Region.edge (ops : Array Oper) (m j : Nat) : Bool := ((ops[m]?).map fun o => o.after.any fun e => Region.binds .any e && Nat.beq e.on j).getD false
/-- Who must come before lies before. -/
def Region.downB (ops : Array Oper) : Bool := (List.range ops.size).all fun i =>
  ((ops[i]?).map fun o => (o.after.all fun e => !Region.binds .any e || Nat.blt e.on i) && (match o.guard with | none => true | some p => Nat.blt p.1 i)).getD true
/-- From k on each one waits for all before it. -/
def Region.chainB (ops : Array Oper) (k : Nat) : Bool := Region.downB ops && Nat.ble k ops.size && (List.range (ops.size - 1)).all fun j =>
  (List.range ops.size).any fun m => Nat.blt j m && (Nat.ble m k || Nat.ble m (j + 1)) && Region.edge ops m j
theorem Region.edge_spec {ops : Array Oper} {m j : Nat} (h : Region.edge ops m j = true) : ∃ o, ops[m]? = some o ∧ ∃ e ∈ o.after, Region.binds .any e = true ∧ e.on = j := by
  unfold Region.edge at h
  cases ho : ops[m]? with
  | none => rw [ho] at h; simp at h
  | some o =>
    rw [ho] at h
    simp only [Option.map_some, Option.getD_some, Array.any_eq_true'] at h
    obtain ⟨e, he, hb⟩ := h
    simp only [Bool.and_eq_true] at hb
    exact ⟨o, rfl, e, he, hb.1, Nat.eq_of_beq_eq_true hb.2⟩
structure Chain (ops : Array Oper) (k : Nat) : Prop where
  down : Region.downB ops = true
  le : k ≤ ops.size
  next : ∀ j, j < ops.size - 1 → ∃ m, j < m ∧ (m ≤ k ∨ m ≤ j + 1) ∧ Region.edge ops m j = true
theorem Chain.of {ops : Array Oper} {k : Nat} (h : Region.chainB ops k = true) : Chain ops k := by
  unfold Region.chainB at h
  simp only [Bool.and_eq_true] at h
  obtain ⟨⟨h1, h2⟩, h3⟩ := h
  refine ⟨h1, Nat.le_of_ble_eq_true h2, fun j hj => ?_⟩
  have h4 := List.all_eq_true.1 h3 j (List.mem_range.2 hj)
  obtain ⟨m, _, hm⟩ := List.any_eq_true.1 h4
  simp only [Bool.and_eq_true, Bool.or_eq_true, Nat.blt_eq] at hm
  exact ⟨m, hm.1.1, hm.1.2.imp Nat.le_of_ble_eq_true Nat.le_of_ble_eq_true, hm.2⟩

def Closed (ops : Array Oper) (listed : Array Bool) : Prop := ∀ i o, ops[i]? = some o → listed.getD i false = true → ∀ e ∈ o.after, Region.binds .any e = true → listed.getD e.on false = true
section
variable {P : Program} {ops : Array Oper} {Q Q0 : Exit → Act → World → Prop} {k : Nat}
end
end Go.Proofs.YthcdjmkkgbcaaaaGreatDoor

namespace Go.Proofs.YthcdjmkkgbcaaaaGreatDoor
open Go.RowKit Go.MapKept
set_option linter.unusedVariables false

/-- m[key] = d: what the map holds then. -/
def MPut (M : List (Value × D)) (key : Value) (d : D) (M' : List (Value × D)) : Prop :=
  (∃ i d0, M[i]? = some (key, d0) ∧ (∀ (j : Nat) (p : Value × D), M[j]? = some p → p.1 = key → j = i) ∧ M' = M.set i (key, d)) ∨ ((∀ p ∈ M, p.1 ≠ key) ∧ M' = M ++ [(key, d)])
/-- m[key]; z: the zero value. -/
def MGet (M : List (Value × D)) (key : Value) (z d : D) : Prop := (∃ i, M[i]? = some (key, d) ∧ ∀ (j : Nat) (p : Value × D), M[j]? = some p → p.1 = key → j = i) ∨ ((∀ p ∈ M, p.1 ≠ key) ∧ d = z)

theorem entries_get {F : Nat → Prop} {w : World} {M : List (Value × D)} {es : Array MapEntry} (hl : es.size = M.length) (h : ∀ i (h : i < es.size) (h' : i < M.length), es[i].key = M[i].1 ∧ Rep F w es[i].val M[i].2) {j : Nat} {en : MapEntry} (hj : es.toList[j]? = some en) :
    ∃ p, M[j]? = some p ∧ en.key = p.1 ∧ Rep F w en.val p.2 := by
  rw [Array.getElem?_toList] at hj
  obtain ⟨h1, h2⟩ := Array.getElem?_eq_some_iff.1 hj
  refine ⟨M[j]'(by omega), List.getElem?_eq_getElem _, ?_, ?_⟩
  · rw [← h2]; exact (h j h1 (by omega)).1
  · rw [← h2]; exact (h j h1 (by omega)).2
theorem setObj_turn {w : World} {b : Nat} {o : Obj} : Turn w { w with heap := w.heap.setIfInBounds b o } (some b) :=
  ⟨rfl, rfl, rfl, by simp, fun k _ hne => by
    have : b ≠ k := fun h => hne (by rw [h])
    simp [this]⟩
section
variable {cx : Cx} {ops : Array Oper} {o : Oper} {rest : List Oper} {e : Env} {σ σ' : Obs} {Q : Post}
theorem AOps.eff (hg : o.guard = none) (ht : o.dst = none) (h : EOp cx ops o e σ σ') (k : AOps cx ops rest e σ' Q) : AOps cx ops (o :: rest) e σ Q := by
  intro a w ⟨F, ρ, hr⟩
  refine wpList_plain hg fun K hK => ?_
  refine wp_to ?_ (fun _ _ _ => False.elim) (h F ρ a w e hr (fun t _ => hr.env t))
  rintro a' w' ⟨rfl, h3⟩
  obtain ⟨F', ρ', h4⟩ := h3 e hr
  exact hK _ _ (k _ _ ⟨F', ρ', h4⟩)
/-- make(map[K]V) -/
theorem AOps.makeMap {t dst : Nat} (id : Nat) (hg : o.guard = none) (ht : o.dst = some dst) (hdn : Nat.blt dst cx.N = true) (ho : o.op = .makeMap t none) (hid : Obs.fresh id σ = true)
    (k : AOps cx ops rest ((e.kill id).put (some dst) (.own id)) ((id, .map []) :: Obs.kill id σ) Q) (hfx : cx.free id = true := by rfl) : AOps cx ops (o :: rest) e σ Q := by
  intro a w ⟨F, ρ, h⟩
  refine wpList_plain hg fun K hK => ?_
  unfold Oper.wp execOp
  simp only [ho, Option.map_none, Sem.run_bind, run_makeMap, Result.andThen_ok, Sem.run_pure]
  refine hK _ _ (k _ _ ⟨F, fun j => if j = id then .map (some w.heap.size) else ρ j, ?_⟩)
  have hE : Ext F w F (w.alloc (.map #[] 0)) := Ext.of_below h.lt ((Below.refl _ _).alloc (Nat.le_refl _) _)
  have h2 := h.turn (ρ' := fun j => if j = id then .map (some w.heap.size) else ρ j) (id := id) (ob := .map []) (row := none) (w' := w.alloc (.map #[] 0)) (F' := F) (fun j hj => by simp [hj])
    ⟨hE.below.os, hE.below.tape, hE.below.output, hE.below.size, fun k hk _ => hE.below.block k hk⟩ hfx (fun g hg => by simp at hg) (fun b hb => hb) (fun b hb => .inl hb) hE.lt
    ⟨w.heap.size, #[], 0, by simp, h.hB, fun hf => by have := h.lt _ hf; omega, (MapKept.heap_alloc w _).1, MapC.nil 0, fun i hi => by simp at hi⟩
    (fun g hg => by simp [blk] at hg; exact .inr (by omega)) ((id, .map []) :: Obs.kill id σ) (fun p hp => by
      cases hp with
      | head => exact .inl rfl
      | tail _ hp => obtain ⟨q, hq, rfl⟩ := Obs.mem_kill hp; exact .inr ⟨q, hq, Obs.fresh_spec hid q hq, rfl⟩)
  have h3 := h2.put (o := ⟨some dst, .ready 0, 0, "", #[], none⟩) (v := .map (some w.heap.size)) (s := .own id) (Ext.refl h2.lt) (by
    have := RepS.own (F := F) (ρ := fun j => if j = id then Value.map (some w.heap.size) else ρ j) (w := w.alloc (.map #[] 0)) id
    simpa using this) (by simpa [DstOk, Nat.blt_eq] using hdn)
  rw [ht]
  exact h3
end
section
variable {P : Program} {B : Nat} {ops : Array Oper} {o : Oper} {e : Env} {σ : Obs}
/-! Closures. -/
def CapsOk (e : Env) : List Operand → List Cap → Prop
  | [], [] => True
  | x :: xs, .p id off :: cs => e.ev x = .ptr id off ∧ CapsOk e xs cs
  | x :: xs, .d y :: cs => e.ev x = .d y ∧ CapsOk e xs cs
  | _, _ => False
theorem CapsOk.d {x : Operand} {xs : List Operand} {y : D} {cs : List Cap} (h : e.ev x = .d y) (k : CapsOk e xs cs) : CapsOk e (x :: xs) (.d y :: cs) := ⟨h, k⟩
end
def Cap.toS : Cap → S
  | .p id off => .ptr id off
  | .d y => .d y
theorem RepCL.toS {F : Nat → Prop} {ρ : Nat → Value} {w : World} : ∀ {cs : List Value} {caps : List Cap}, RepCL F ρ w cs caps → RepSL F ρ w cs (caps.map Cap.toS)
  | [], [], _ => ⟨rfl, fun i h => absurd h (by simp)⟩
  | x :: xs, c :: cs, h => by
    have h1 := RepCL.toS h.2
    refine ⟨by simpa using h1.1, fun i h2 h3 => ?_⟩
    cases i with
    | zero =>
      have h4 := h.1
      cases c with
      | p id off => cases h4 with | p _ _ g hg => exact .ptr id off g hg
      | d y => cases h4 with | d h4 => exact .d h4
    | succ i => exact h1.2 i (by simpa using h2) (by simpa using h3)
  | [], _ :: _, h => h.elim
  | _ :: _, [], h => h.elim
section
variable {cx : Cx} {ops : Array Oper} {o : Oper} {rest : List Oper} {e : Env} {σ : Obs} {Q : Post}
end
/-! Cells. -/
theorem R0.recell {cx : Cx} {F : Nat → Prop} {ρ : Nat → Value} {e : Env} {σ : Obs} {a : Act} {w : World} (hr : R0 cx F ρ e σ a w) {id off : Nat} {ss : List S} {s s' : S} (hm : (id, Ob.cells ss) ∈ σ) (hs : ss[off]? = some s) (h : ∀ x, RepS F ρ w x s → RepS F ρ w x s') :
    R0 cx F ρ e (Obs.upd id (.cells (ss.set off s')) σ) a w := by
  obtain ⟨g, ty, cs, h2, h3, h4, h5, h6, h7⟩ := hr.obs.ok _ hm
  dsimp only at h2
  refine hr.writeOb (g := g) (by rw [h2]; rfl) hm h3 h4 ⟨rfl, rfl, rfl, Nat.le_refl _, fun _ _ _ => rfl⟩ ⟨g, ty, cs, h2, h3, h4, h5, by simp [h6], fun j hj hj' => ⟨(h7 j hj (by simpa using hj')).1, ?_⟩⟩
  rw [List.getElem_set]
  by_cases hj2 : off = j
  · rw [if_pos hj2]
    subst hj2
    have h8 := (h7 off hj (by simpa using hj')).2
    rw [(List.getElem?_eq_some_iff.1 hs).2] at h8
    exact h _ h8
  · rw [if_neg hj2]
    exact (h7 j hj (by simpa using hj')).2
/-- An own block of cells that is written no more: it is data now. -/
theorem R0.freezeCells {cx : Cx} {F : Nat → Prop} {ρ : Nat → Value} {e : Env} {σ : Obs} {a : Act} {w : World} (h : R0 cx F ρ e σ a w) {t id : Nat} {ds : List D} (ht : e t = .ptr id 0) (hm : (id, Ob.cells (ds.map S.d)) ∈ σ) :
    ∃ F', R0 cx F' ρ (e.put (some t) (.d (.fp ds))) (Obs.del id σ) a w := by
  have hF2 : ∀ b, (F b ∨ blk (ρ id) = some b) → b < w.heap.size := fun b hb => by
    rcases hb with hb | hb
    · exact h.lt b hb
    · exact ((h.obs.ok _ hm).blk_lt hb).2
  have keep : ∀ {x : Value} {s : S}, RepS F ρ w x s → RepS (fun b => F b ∨ blk (ρ id) = some b) ρ w x s := fun hx =>
    RepS.turn (row := none) hx h.lt (fun g hg => by simp at hg) ⟨rfl, rfl, rfl, Nat.le_refl _, fun _ _ _ => rfl⟩ (fun b hb => .inl hb)
  refine ⟨fun b => F b ∨ blk (ρ id) = some b, h.size, h.defers, hF2, fun b hb => .inl (h.base b hb), fun b hb => ?_, h.below, h.hB, fun u => ?_, ?_, h.up, fun p hp => h.kown p (Obs.mem_del hp).1, h.fixed⟩
  · rcases hb with hb | hb
    · exact h.new b hb
    · exact .inr (h.kown _ hm b hb)
  · by_cases hu : u = t
    · subst hu
      rw [Env.put_same]
      have h1 := h.env u
      rw [ht] at h1
      obtain ⟨g, ty, cs, h2, h3, h4, h5, h6, h7⟩ := h.obs.ok _ hm
      dsimp only at h2
      have hv := ptr_at h1 (g := g) (by rw [h2]; rfl)
      rw [hv]
      refine .d (.fp ⟨g, 0, none⟩ ds (fun j => cs.getD j undef) (.inr (by rw [h2]; rfl)) (fun j hj => ?_) (fun j hj => ?_) (fun j hj => ?_))
      · have hjc : j < cs.length := by simp at h6; omega
        rw [addr_add, cell_of_row w g (0 + j) cs.toArray ty (0, 0) h5]
        simp [hjc]
      · have hjc : j < cs.length := by simp at h6; omega
        have := (h7 j hjc (by simpa using hj)).1
        simpa [hjc] using this
      · have hjc : j < cs.length := by simp at h6; omega
        have h8 := (h7 j hjc (by simpa using hj)).2
        rw [List.getElem_map] at h8
        have h9 := repS_d (keep h8)
        simpa [hjc] using h9
    · rw [Env.put_other _ _ _ _ hu]
      exact keep (h.env u)
  · refine ⟨fun p hp => ?_, fun p hp q hq => h.obs.apart p (Obs.mem_del hp).1 q (Obs.mem_del hq).1, fun p hp q hq => h.obs.uniq p (Obs.mem_del hp).1 q (Obs.mem_del hq).1⟩
    obtain ⟨h1, h2⟩ := Obs.mem_del hp
    exact (h.obs.ok p h1).more h.lt (fun b hb => .inl hb) fun g hg hf => by
      rcases hf with hf | hf
      · exact (h.obs.ok p h1).nF hg hf
      · exact h.obs.apart p h1 _ hm h2 g hg hf
theorem AOps.freezeCells {cx : Cx} {ops : Array Oper} {rest : List Oper} {e : Env} {σ : Obs} {Q : Post} (t : Nat) {id : Nat} {ds : List D} (ht : e t = .ptr id 0) (hm : (id, Ob.cells (ds.map S.d)) ∈ σ) (k : AOps cx ops rest (e.put (some t) (.d (.fp ds))) (Obs.del id σ) Q) : AOps cx ops rest e σ Q :=
  fun a w ⟨_, ρ, hr⟩ => by
    obtain ⟨F', h⟩ := hr.freezeCells ht hm
    exact k a w ⟨F', ρ, h⟩
end Go.Proofs.YthcdjmkkgbcaaaaGreatDoor

namespace Go.Proofs.YthcdjmkkgbcaaaaGreatDoor
open Go.RowKit
set_option linter.unusedVariables false

/-- The operation that makes the block. -/
def QF (dst id : Nat) (s0 : S) (ob : Ob) (e0 : Env) (σ : Obs) : Post := fun ex e' σ' => match ex with
  | .normal => e' = (e0.kill id).put (some dst) s0 ∧ σ' = (id, ob) :: Obs.kill id σ
  | _ => False
/-- What a region makes: the slot, the object, how the slot reads, what the object is. -/
structure Fr where
  dst : Nat
  id : Nat
  s0 : S
  ob : Ob
def frObs (Φ : List Fr) : Obs := Φ.map fun f => (f.id, f.ob)
structure FrOk (cx : Cx) (Φ : List Fr) (σ : Obs) : Prop where
  uid : ∀ f ∈ Φ, ∀ g ∈ Φ, f.id = g.id → f = g
  udst : ∀ f ∈ Φ, ∀ g ∈ Φ, f.dst = g.dst → f = g
  own : ∀ f ∈ Φ, f.s0.kill f.id = .d .any ∧ f.s0 ≠ .d .any
  other : ∀ f ∈ Φ, ∀ g ∈ Φ, g.id ≠ f.id → g.s0.kill f.id = g.s0 ∧ g.ob.kill f.id = g.ob
  fresh : ∀ f ∈ Φ, Obs.fresh f.id σ = true
  kill : ∀ f ∈ Φ, Obs.kill f.id σ = σ
  free : ∀ f ∈ Φ, cx.free f.id = true
theorem FrOk.one {cx : Cx} {σ : Obs} {f : Fr} (h1 : f.s0.kill f.id = .d .any) (h2 : f.s0 ≠ .d .any) (h3 : Obs.fresh f.id σ = true) (h4 : Obs.kill f.id σ = σ) (h5 : cx.free f.id = true) : FrOk cx [f] σ where
  uid := fun a ha b hb _ => by rw [List.mem_singleton] at ha hb; rw [ha, hb]
  udst := fun a ha b hb _ => by rw [List.mem_singleton] at ha hb; rw [ha, hb]
  own := fun a ha => by rw [List.mem_singleton] at ha; subst ha; exact ⟨h1, h2⟩
  other := fun a ha b hb hne => by rw [List.mem_singleton] at ha hb; subst ha; subst hb; exact absurd rfl hne
  fresh := fun a ha => by rw [List.mem_singleton] at ha; subst ha; exact h3
  kill := fun a ha => by rw [List.mem_singleton] at ha; subst ha; exact h4
  free := fun a ha => by rw [List.mem_singleton] at ha; subst ha; exact h5
def FreshOp (cx : Cx) (ops : Array Oper) (τ : Obs) (f : Fr) (o : Oper) (e : Env) : Prop :=
  o.dst = some f.dst ∧ ∀ (e0 : Env) (σ : Obs), (∀ p ∈ τ, p ∈ σ) → (∀ t, t ∈ o.looksAt ops → e0 t = e t) → Obs.fresh f.id σ = true → AOps cx ops [o] e0 σ (QF f.dst f.id f.s0 f.ob e0 σ)
def notDst (Φ : List Fr) (o : Oper) : Prop := ∀ f ∈ Φ, o.dst ≠ some f.dst
def XStep (cx : Cx) (ops : Array Oper) (σ : Obs) (Φ : List Fr) (o : Oper) (e : Env) (s : S) : Prop :=
  (GW ops o e true ∧ ((∃ f ∈ Φ, FreshOp cx ops σ f o e ∧ s = f.s0) ∨ (AOp cx.P cx.B ops o e σ s ∧ notDst Φ o ∧ ∀ f ∈ Φ, s.kill f.id = s ∨ ∃ t, t ∈ o.looksAt ops ∧ (e t).kill f.id ≠ e t))) ∨ (GW ops o e false ∧ s = .d (.v undef) ∧ notDst Φ o)
def XRun (cx : Cx) (ops : Array Oper) (σ : Obs) (Φ : List Fr) : List Oper → Env → (Env → Prop) → Prop
  | [], e, Qe => (∀ f ∈ Φ, e f.dst = f.s0) ∧ Qe e
  | o :: l, e, Qe => DstOk cx.N o ∧ ∃ s, XStep cx ops σ Φ o e s ∧ XRun cx ops σ Φ l (e.put o.dst s) Qe
def anyX (cx : Cx) (ops : Array Oper) (σ : Obs) (Φ : List Fr) (Qe : Env → Prop) : Nat → Array Bool → Env → Prop
  | 0, listed, e => Region.ready .any ops listed = [] ∧ Qe e
  | fuel + 1, listed, e => (Region.ready .any ops listed = [] → Qe e) ∧
      ∀ i ∈ Region.ready .any ops listed, ∀ o, ops[i]? = some o → ∃ s, XStep cx ops σ Φ o e s ∧ anyX cx ops σ Φ Qe fuel (listed.setIfInBounds i true) (e.put o.dst s)
def RelX (cx : Cx) (ops : Array Oper) (σ : Obs) (Φ : List Fr) (listed : Array Bool) (e : Env) (a : Act) (w : World) : Prop :=
  ∃ Δ : List Fr, (∀ g ∈ Δ, g ∈ Φ) ∧ (∀ g ∈ Δ, ∃ i o, ops[i]? = some o ∧ listed.getD i false = true ∧ o.dst = some g.dst) ∧ (∀ g ∈ Δ, e g.dst = g.s0) ∧ (∀ f ∈ Φ, ¬ f ∈ Δ → ∀ t, (e t).kill f.id = e t) ∧ R cx e (frObs Δ ++ σ) a w
section
variable {cx : Cx} {ops : Array Oper} {σ : Obs} {Φ : List Fr} {e : Env} {Qe : Env → Prop} {o : Oper} {l : List Oper}
def Holds (p : Fr → Prop) : List Fr → Prop
  | [] => True
  | f :: l => p f ∧ Holds p l
def neDst (o : Oper) (dst : Nat) : Bool := match o.dst with | none => true | some t => !(Nat.beq t dst)
def neAll (Φ : List Fr) (o : Oper) : Bool := Φ.all fun f => neDst o f.dst
end
def Env.killAll : List Fr → Env → Env
  | [], e => e
  | f :: l, e => Env.killAll l (e.kill f.id)
end Go.Proofs.YthcdjmkkgbcaaaaGreatDoor

namespace Go.Proofs.YthcdjmkkgbcaaaaGreatDoor
open Go.RowKit
set_option linter.unusedVariables false

/-- What is so stays so while what was there is kept. -/
def Stays (T : World → Prop) : Prop := ∀ w w', Kept (fun b => w.heap.size ≤ b) w w' → T w → T w'
/-- A contract that wants T of the world. -/
def ACallT (P : Program) (T : World → Prop) (f : FuncId) (ds : List D) (d : D) : Prop := Enters P f ∧
  ∀ (F : Nat → Prop) (w : World) (vs : List Value), T w → (∀ b, F b → b < w.heap.size) → RepL F w vs ds → Calls P f vs.toArray w fun e w' => ∃ v F', e = .returned v ∧ Rep F' w' v d ∧ Ext F w F' w'
theorem AOps.callT {cx : Cx} {ops : Array Oper} {o : Oper} {rest : List Oper} {e : Env} {σ : Obs} {Q : Post} {T : World → Prop} {f : FuncId} {xs : List Operand} {ts : Array TypeId} {ds : List D} {d : D} (hg : GW ops o e true) (hd : DstOk cx.N o)
    (ho : o.op = .call { callee := .value (.func f), args := xs.toArray, argTypes := ts }) (hT : T cx.w0) (hS : Stays T) (hfr : cx.fr = fun b => cx.w0.heap.size ≤ b) (ha : ArgsOk e xs ds) (h : ACallT cx.P T f ds d)
    (k : AOps cx ops rest (e.put o.dst (.d d)) σ Q) : AOps cx ops (o :: rest) e σ Q := by
  intro a w ⟨F, ρ, hr⟩
  have hw := hg.wanted (fun t _ => hr.env t)
  have hTw : T w := hS _ _ (by rw [← hfr]; exact hr.below) hT
  have h1 : RepL F w (xs.map a.eval) ds := ha.rep (ρ := ρ) fun t _ => hr.env t
  have h2 := h.2 F w _ hTw hr.lt h1
  have h3 := h.1 (xs.map a.eval).toArray w
  have hx : (execOp a.eval o).run cx.P w = .ok (.enter f (xs.map a.eval).toArray) w := by
    unfold execOp
    simp only [ho, resolve, Deferred.ofValue, Act.eval, invoke, Sem.run_bind, Sem.run_pure, Result.andThen_ok]
    simpa using h3
  unfold wpList
  rw [if_pos hw]
  refine .inl ?_
  unfold Oper.wp
  rw [hx]
  refine h2.mono fun _ w' ⟨v, F', he, hv, hE⟩ => ?_
  subst he
  exact k _ _ ⟨F', ρ, hr.put hE (.d hv) hd⟩

theorem acall_ofT {T : World → Prop} {P : Program} {f : FuncId} {fn : Func} {c : Code} {n : Nat} {ds ds' : List D} (hf : P.funcs[f]? = some fn) (hb : fn.body = some c) (hn : (fn.name == "runtime.NumGoroutine") = false) (hN : fn.ntmps = n)
    (ts : List Nat) (hr : fn.results = (ts.map ResultVar.tmp).toArray) (hle' : Nat.ble ds.length n = true) (h : ∀ B w0 F0, T w0 → AWP ⟨P, n, B, w0, F0, (fun b => w0.heap.size ≤ b), fun _ => false, fun _ => undef⟩ c (Env.args 0 ds) [] (RetQ ts ds')) : ACallT P T f ds (retOf ds') := by
  have hle : ds.length ≤ n := Nat.le_of_ble_eq_true hle'
  refine ⟨Enters.of hf hn (by rw [hb]; rfl), fun F w vs hT hF hv => ?_⟩
  refine calls_of_wp hf hb ?_
  have hR : R ⟨P, n, w.heap.size, w, F, (fun b => w.heap.size ≤ b), fun _ => false, fun _ => undef⟩ (Env.args 0 ds) [] { tmps := vs.toArray ++ Array.replicate (fn.ntmps - vs.toArray.size) undef, defers := [] } w := by
    refine ⟨F, fun _ => undef, ?_, rfl, hF, fun b hb => hb, fun b hb => .inl hb, Kept.refl _ _, Nat.le_refl _, fun t => ?_, ⟨fun p hp => by simp at hp, fun p hp => by simp at hp, fun p hp => by simp at hp⟩, fun b hb => hb, fun p hp => by simp at hp, fun i hi => by simp at hi⟩
    · simp [hN, hv.1]; omega
    · by_cases ht : t < ds.length
      · have := Env.args_get ds 0 t ht
        rw [Nat.zero_add] at this
        rw [this]
        have hvt : t < vs.length := by rw [hv.1]; exact ht
        have : (vs.toArray ++ Array.replicate (fn.ntmps - vs.toArray.size) undef).getD t undef = vs[t] := by
          rw [Array.getD_eq_getD_getElem?, Array.getElem?_append_left (by simpa using hvt)]
          simp [hvt]
        rw [this]
        exact .d (hv.2 t hvt ht)
      · have := Env.args_out ds 0 t (by omega)
        rw [Nat.zero_add] at this
        rw [this]
        exact .d (.any _)
  refine wp_mono (h _ _ _ hT _ _ hR) ?_
  rintro ex a w' ⟨e', σ', hq, F', ρ', hr'⟩
  have hres : (results fn a.tmps).run P w' = .ok (match ts.map fun t => a.tmps.getD t undef with | [x] => x | l => .tuple l.toArray) w' := by
    have key : ∀ (ts : List Nat), (List.mapM (fun r => match r with | .tmp t => pure (a.tmps.getD t undef) | .cell b t => do loadVar t (← asAddr (a.tmps.getD b undef))) (ts.map ResultVar.tmp) : Sem (List Value)).run P w' = .ok (ts.map fun t => a.tmps.getD t undef) w' := by
      intro ts
      induction ts with
      | nil => rfl
      | cons t ts ih =>
        rw [List.map_cons, List.mapM_cons, Sem.run_bind]
        simp only [Sem.run_pure, Result.andThen_ok, Sem.run_bind, ih, List.map_cons]
    unfold results
    rw [hr, Sem.run_bind]
    have h2 : (Array.mapM (fun r => match r with | ResultVar.tmp t => pure (a.tmps.getD t undef) | ResultVar.cell b t => do loadVar t (← asAddr (a.tmps.getD b undef))) (ts.map ResultVar.tmp).toArray : Sem (Array Value)).run P w' = .ok (ts.map fun t => a.tmps.getD t undef).toArray w' := by
      rw [List.mapM_toArray, Sem.run_map, key]
      rfl
    have h3 := h2
    refine (congrArg (fun r => Result.andThen r _) h3).trans ?_
    simp only [Result.andThen_ok]
    rcases ts with _ | ⟨t, _ | ⟨t2, ts⟩⟩ <;> rfl
  have hends : RetL e' σ' ts ds' → bodyPost P fn (fun e w' => ∃ v F', e = .returned v ∧ Rep F' w' v (retOf ds') ∧ Ext F w F' w') .ret a w' := by
    intro hq
    have hl := hq.rep hr'
    refine ⟨hr'.defers, _, hres, _, endF F' ρ' σ', rfl, ?_, endF_ext hr' (fun b hb => hb)⟩
    generalize (ts.map fun t => a.tmps.getD t undef) = vs' at hl
    obtain ⟨h1, h2⟩ := hl
    rcases ds' with _ | ⟨d, _ | ⟨d2, ds'⟩⟩
    · have : vs' = [] := List.eq_nil_of_length_eq_zero h1
      subst this
      exact .tup [] [] rfl (fun i h1 => absurd h1 (by simp))
    · rcases vs' with _ | ⟨x, _ | ⟨y, vs'⟩⟩ <;> simp at h1
      exact h2 0 (by simp) (by simp)
    · rcases vs' with _ | ⟨x, _ | ⟨y, vs'⟩⟩
      · simp at h1
      · simp at h1
      · exact .tup _ _ h1 h2
  cases ex with
  | ret => exact hends hq
  | normal => exact hends hq
  | exit id => exact hq.elim
  | goto l => exact hq.elim
  | panic c => exact hq.elim
  | outgrown => exact hq.elim

/-! ## Operations -/

theorem AOp.sliceStrL {P : Program} {B : Nat} {ops : Array Oper} {o : Oper} {e : Env} {σ : Obs} {t : TypeId} {x lo : Operand} {s : ByteArray} {k : Int} (ho : o.op = .slice t x (some lo) none none) (ht : P.underlying t = some .string) (hx : e.ev x = .d (.v (.string s)))
    (hlo : e.ev lo = .d (.v (.int .i64 k))) (h0 : 0 ≤ k) (h1 : k ≤ s.size) : AOp P B ops o e σ (.d (.v (.string (s.extract k.toNat s.size)))) := .value fun F ρ w a hF hr _ => by
  have r1 := hr x (by rw [ho]; simp [Op.operands])
  have r2 := hr lo (by rw [ho]; simp [Op.operands])
  rw [hx] at r1; rw [hlo] at r2
  refine ⟨_, F, w, ?_, .d (.v _), Ext.refl hF⟩
  unfold execOp
  simp only [ho, repS_v r1, repS_v r2, Option.map_some, Option.map_none]
  rw [Sem.run_bind, run_sliceAt_string w t _ _ _ _ ht, run_slice_string_l w t s ht .i64 k h0 h1]
  rfl

/-- One cell an element, each of a plain value, at a new block: data. -/
theorem rep_newRow {w w' : World} {F : Nat → Prop} {A c : Nat} {vals : List Value} (hlt : ∀ b, F b → b < w.heap.size) (hA : w.heap.size ≤ A) (hA' : A < w'.heap.size) (hb : Below w.heap.size w w') (hc : vals.length ≤ c) (hm : c ≤ 9223372036854775807)
    (hcell : ∀ i (h : i < vals.length), w'.cell? ⟨A, i, none⟩ = some vals[i]) (hone : ∀ v ∈ vals, v.oneCell' = true) :
    ∃ F', Rep F' w' (.slice (some ⟨A, 0, none⟩) vals.length c) (.sl (vals.map fun v => [D.v v])) ∧ Ext F w F' w' := by
  refine ⟨fun b => F b ∨ b = A, ?_, ⟨fun b h => .inl h, fun b h => h.imp id fun h => by rw [h]; exact hA, fun b h => ?_, hb⟩⟩
  · have hl : (vals.map fun v => [D.v v]).length = vals.length := by simp
    have := Rep.sl (F := fun b => F b ∨ b = A) (w := w') ⟨A, 0, none⟩ c 1 (vals.map fun v => [D.v v]) (fun i _ => vals.getD i undef) (by rw [hl]; exact hc) hm (fun _ => .inr rfl) (fun i h => by simp) (fun i j hi hj => ?_) (fun i j hi hj => ?_) (fun i hi j hj => ?_)
    · rw [hl] at this; exact this
    · rw [hl] at hi
      obtain rfl : j = 0 := by omega
      have := hcell i hi
      have e : (Addr.add ⟨A, 0, none⟩ (i * 1 + 0)) = ⟨A, i, none⟩ := by unfold Addr.add; by_cases h0 : i = 0 <;> simp [h0]
      rw [e, this, List.getD_eq_getElem?_getD, List.getElem?_eq_getElem hi]; rfl
    · rw [hl] at hi
      rw [List.getD_eq_getElem?_getD, List.getElem?_eq_getElem hi]
      exact hone _ (List.getElem_mem hi)
    · rw [hl] at hi
      rw [List.getD_eq_getElem?_getD, List.getElem?_eq_getElem hi]
      simp only [List.getElem_map, List.length_cons, List.length_nil, Nat.zero_add] at hj ⊢
      obtain rfl : j = 0 := by omega
      exact .v _
  · rcases h with h | rfl
    · exact Nat.lt_of_lt_of_le (hlt b h) hb.size
    · exact hA'
end Go.Proofs.YthcdjmkkgbcaaaaGreatDoor

namespace Go.Proofs.YthcdjmkkgbcaaaaGreatDoor
open Go.Lib
set_option linter.unusedVariables false

def lowB (b : UInt8) : UInt8 := if 65 ≤ b.toNat ∧ b.toNat ≤ 90 then UInt8.ofNat (b.toNat + 32) else b
def alnB (b : UInt8) : Bool := (decide (97 ≤ b.toNat) && decide (b.toNat ≤ 122)) || (decide (48 ≤ b.toNat) && decide (b.toNat ≤ 57))
def pStep (b : List UInt8) (c : UInt8) : List UInt8 := if alnB (lowB c) then b ++ [lowB c] else if b ≠ [] ∧ b.getLast? ≠ some 32 then b ++ [32] else b
def rMap (c : UInt8) : UInt8 := if alnB (lowB c) then lowB c else 32
theorem alnB_sp_nat : ∀ n : Fin 256, alnB (UInt8.ofNat n.val) = true → isSp (UInt8.ofNat n.val) = false ∧ UInt8.ofNat n.val ≠ 32 := by decide +kernel
theorem alnB_sp {b : UInt8} (h : alnB b = true) : isSp b = false ∧ b ≠ 32 := by
  have := alnB_sp_nat ⟨b.toNat, b.toNat_lt⟩
  simp only [UInt8.ofNat_toNat] at this
  exact this h
/-- What was read: whole fields, and the one under way. -/
def pj (ds : List (List UInt8)) (cur : List UInt8) : List UInt8 := (ds.map (· ++ [32])).flatten ++ cur
theorem pj_done (ds : List (List UInt8)) (cur : List UInt8) : pj ds cur ++ [32] = pj (ds ++ [cur]) [] := by unfold pj; simp
theorem pj_cur (ds : List (List UInt8)) (cur : List UInt8) (x : UInt8) : pj ds cur ++ [x] = pj ds (cur ++ [x]) := by unfold pj; simp
theorem join_snoc : ∀ (ds : List (List UInt8)) (c : List UInt8), join (ds ++ [c]) [32] = pj ds c
  | [], c => by rw [List.nil_append, join_one]; simp [pj]
  | d :: ds, c => by
    have h := join_snoc ds c
    have hne : ds ++ [c] ≠ [] := by simp
    obtain ⟨x, r, hx⟩ := List.exists_cons_of_ne_nil hne
    rw [List.cons_append, join_cons, hx]
    rw [hx, join_cons] at h
    unfold joinTail at h ⊢
    rw [List.map_cons, List.flatten_cons, List.append_assoc, h]
    unfold pj
    simp
theorem trim_snoc (l : List UInt8) : trimSuffix (l ++ [32]) [32] = l := by
  unfold trimSuffix hasSuffix
  rw [if_pos (by simp)]
  simp
theorem trim_not {l : List UInt8} (h : l.getLast? ≠ some 32) : trimSuffix l [32] = l := by
  unfold trimSuffix hasSuffix
  rw [if_neg]
  intro hs
  rw [List.isSuffixOf_iff_suffix] at hs
  obtain ⟨t, rfl⟩ := hs
  simp at h
theorem fold_go : ∀ (l : List UInt8) (ds : List (List UInt8)) (cur : List UInt8), (∀ b ∈ cur, b ≠ 32) →
    trimSuffix (l.foldl pStep (pj ds cur)) [32] = join (ds ++ fieldsGo cur (l.map rMap)) [32]
  | [], ds, cur, hc => by
    rw [List.map_nil, List.foldl_nil]
    unfold fieldsGo
    cases cur with
    | nil =>
      simp only [List.isEmpty_nil, if_true, List.append_nil]
      rcases List.eq_nil_or_concat ds with rfl | ⟨e, d, rfl⟩
      · rfl
      · rw [List.concat_eq_append, join_snoc, ← pj_done, trim_snoc]
    | cons x r =>
      simp only [List.isEmpty_cons, Bool.false_eq_true, if_false]
      rw [join_snoc, trim_not]
      unfold pj
      rw [List.getLast?_append]
      have h1 : (x :: r).getLast? = some ((x :: r).getLast (by simp)) := List.getLast?_eq_some_getLast (by simp)
      rw [h1]
      simp only [Option.some_or]
      intro h2
      exact hc _ (List.getLast_mem _) (Option.some.inj h2)
  | c :: l, ds, cur, hc => by
    rw [List.map_cons, List.foldl_cons]
    by_cases ha : alnB (lowB c) = true
    · have h1 : pStep (pj ds cur) c = pj ds (cur ++ [lowB c]) := by unfold pStep; rw [if_pos ha, pj_cur]
      have h2 : rMap c = lowB c := if_pos ha
      rw [h1, h2, fieldsGo_more _ _ _ (alnB_sp ha).1]
      exact fold_go l ds _ fun b hb => by
        rcases List.mem_append.1 hb with hb | hb
        · exact hc b hb
        · rw [List.mem_singleton] at hb; subst hb; exact (alnB_sp ha).2
    · have h2 : rMap c = 32 := if_neg ha
      rw [h2]
      cases cur with
      | nil =>
        have h1 : pStep (pj ds []) c = pj ds [] := by
          unfold pStep
          rw [if_neg ha, if_neg]
          rintro ⟨hn, hl⟩
          rcases List.eq_nil_or_concat ds with rfl | ⟨e, d, rfl⟩
          · exact hn rfl
          · rw [List.concat_eq_append, ← pj_done] at hl
            simp at hl
        rw [h1, fieldsGo_sp _ _ rfl]
        exact fold_go l ds [] hc
      | cons x r =>
        have h1 : pStep (pj ds (x :: r)) c = pj (ds ++ [x :: r]) [] := by
          unfold pStep
          rw [if_neg ha, if_pos, pj_done]
          refine ⟨by simp [pj], ?_⟩
          unfold pj
          rw [List.getLast?_append]
          have h1 : (x :: r).getLast? = some ((x :: r).getLast (by simp)) := List.getLast?_eq_some_getLast (by simp)
          rw [h1]
          simp only [Option.some_or]
          intro h2
          exact hc _ (List.getLast_mem _) (Option.some.inj h2)
        rw [h1, fieldsGo_end _ _ _ rfl (by simp)]
        have := fold_go l (ds ++ [x :: r]) [] (fun b hb => by cases hb)
        rw [this, List.append_assoc]
        rfl
/-- Fold's first half. -/
theorem fold_eq (l : List UInt8) : trimSuffix (l.foldl pStep []) [32] = join (fields (l.map rMap)) [32] := by
  have := fold_go l [] [] (fun b hb => by cases hb)
  simpa [pj, fields] using this
/-- The article away. -/
def strip (s : List UInt8) : List UInt8 := if hasPrefix s [116, 104, 101, 32] then s.drop 4 else if hasPrefix s [97, 110, 32] then s.drop 3 else if hasPrefix s [97, 32] then s.drop 2 else s
def foldS (l : List UInt8) : List UInt8 := strip (trimSuffix (l.foldl pStep []) [32])
theorem fold_len (l : List UInt8) : ∀ k, ((l.take k).foldl pStep []).length ≤ k := by
  have h : ∀ (m : List UInt8) (b : List UInt8), (m.foldl pStep b).length ≤ b.length + m.length := by
    intro m
    induction m with
    | nil => intro b; simp
    | cons c m ih =>
      intro b
      rw [List.foldl_cons]
      have h1 : (pStep b c).length ≤ b.length + 1 := by
        unfold pStep
        split
        · simp
        · split <;> simp
      have := ih (pStep b c)
      simp only [List.length_cons]
      omega
  intro k
  have := h (l.take k) []
  simp only [List.length_nil, Nat.zero_add, List.length_take] at this
  omega
end Go.Proofs.YthcdjmkkgbcaaaaGreatDoor

namespace Go.Proofs
open Go.Shelf
def Tryz.l99_ren : Go.Shelf.Ren := ⟨fun | 99 => 80 | 206 => 120 | n => n, fun | 9 => 9 | 4 => 4 | 3 => 3 | n => n, fun | n => n⟩
theorem Tryz.l99 : Go.Proofs.Lays.n99 Tryz.prog Tryz.l99_ren := {
  mixed := by kernel_rfl
  f99 := Tryz.func80.trans (congrArg some (by kernel_rfl))
  f206 := Tryz.func120.trans (congrArg some (by kernel_rfl))
  t3 := Tryz.underlying3
  a3 := Tryz.isAgg3
  z3 := Tryz.sizeOf3
  v3 := Tryz.zeroValue3
  t4 := Tryz.underlying4
  a4 := Tryz.isAgg4
  z4 := Tryz.sizeOf4
  v4 := Tryz.zeroValue4
  t9 := Tryz.underlying9
  a9 := Tryz.isAgg9
  z9 := Tryz.sizeOf9
  v9 := Tryz.zeroValue9 }
def Tryz.l102_ren : Go.Shelf.Ren := ⟨fun | 102 => 68 | 209 => 102 | 207 => 147 | n => n, fun | 9 => 9 | 4 => 4 | 3 => 3 | n => n, fun | n => n⟩
theorem Tryz.l102 : Go.Proofs.Lays.n102 Tryz.prog Tryz.l102_ren := {
  mixed := by kernel_rfl
  f102 := Tryz.func68.trans (congrArg some (by kernel_rfl))
  f207 := Tryz.func147.trans (congrArg some (by kernel_rfl))
  f209 := Tryz.func102.trans (congrArg some (by kernel_rfl))
  t3 := Tryz.underlying3
  a3 := Tryz.isAgg3
  z3 := Tryz.sizeOf3
  v3 := Tryz.zeroValue3
  t4 := Tryz.underlying4
  a4 := Tryz.isAgg4
  z4 := Tryz.sizeOf4
  v4 := Tryz.zeroValue4
  t9 := Tryz.underlying9
  a9 := Tryz.isAgg9
  z9 := Tryz.sizeOf9
  v9 := Tryz.zeroValue9 }
def Tryz.l103_ren : Go.Shelf.Ren := ⟨fun | 103 => 51 | 210 => 85 | 206 => 120 | n => n, fun | 9 => 9 | 4 => 4 | 24 => 92 | 3 => 3 | n => n, fun | n => n⟩
theorem Tryz.l103 : Go.Proofs.Lays.n103 Tryz.prog Tryz.l103_ren := {
  mixed := by kernel_rfl
  f103 := Tryz.func51.trans (congrArg some (by kernel_rfl))
  f206 := Tryz.func120.trans (congrArg some (by kernel_rfl))
  f210 := Tryz.func85.trans (congrArg some (by kernel_rfl))
  t3 := Tryz.underlying3
  a3 := Tryz.isAgg3
  z3 := Tryz.sizeOf3
  v3 := Tryz.zeroValue3
  t4 := Tryz.underlying4
  a4 := Tryz.isAgg4
  z4 := Tryz.sizeOf4
  v4 := Tryz.zeroValue4
  t9 := Tryz.underlying9
  a9 := Tryz.isAgg9
  z9 := Tryz.sizeOf9
  v9 := Tryz.zeroValue9
  t24 := Tryz.underlying92
  a24 := Tryz.isAgg92
  z24 := Tryz.sizeOf92
  v24 := Tryz.zeroValue92 }
def Tryz.l156_ren : Go.Shelf.Ren := ⟨fun | 156 => 28 | 165 => 71 | 166 => 27 | 169 => 32 | 240 => 70 | 241 => 105 | 276 => 104 | 277 => 152 | n => n, fun | 31 => 68 | 9 => 9 | 3 => 3 | 4 => 4 | 0 => 0 | 20 => 20 | 72 => 59 | 76 => 65 | 70 => 56 | 37 => 57 | 75 => 64 | 127 => 115 | 164 => 140 | 5 => 5 | 80 => 70 | n => n, fun | n => n⟩
theorem Tryz.l156 : Go.Proofs.Lays.n156 Tryz.prog Tryz.l156_ren := {
  mixed := by kernel_rfl
  f156 := Tryz.func28.trans (congrArg some (by kernel_rfl))
  f165 := Tryz.func71.trans (congrArg some (by kernel_rfl))
  f166 := Tryz.func27.trans (congrArg some (by kernel_rfl))
  f169 := Tryz.func32.trans (congrArg some (by kernel_rfl))
  f240 := Tryz.func70.trans (congrArg some (by kernel_rfl))
  f241 := Tryz.func105.trans (congrArg some (by kernel_rfl))
  f276 := Tryz.func104.trans (congrArg some (by kernel_rfl))
  f277 := Tryz.func152.trans (congrArg some (by kernel_rfl))
  t0 := Tryz.underlying0
  a0 := Tryz.isAgg0
  z0 := Tryz.sizeOf0
  v0 := Tryz.zeroValue0
  t3 := Tryz.underlying3
  a3 := Tryz.isAgg3
  z3 := Tryz.sizeOf3
  v3 := Tryz.zeroValue3
  t4 := Tryz.underlying4
  a4 := Tryz.isAgg4
  z4 := Tryz.sizeOf4
  v4 := Tryz.zeroValue4
  t9 := Tryz.underlying9
  a9 := Tryz.isAgg9
  z9 := Tryz.sizeOf9
  v9 := Tryz.zeroValue9
  t20 := Tryz.underlying20
  a20 := Tryz.isAgg20
  z20 := Tryz.sizeOf20
  v20 := Tryz.zeroValue20
  t31 := Tryz.underlying68
  a31 := Tryz.isAgg68
  z31 := Tryz.sizeOf68
  v31 := Tryz.zeroValue68
  t37 := Tryz.underlying57
  a37 := Tryz.isAgg57
  z37 := Tryz.sizeOf57
  v37 := Tryz.zeroValue57
  t70 := Tryz.underlying56
  a70 := Tryz.isAgg56
  z70 := Tryz.sizeOf56
  v70 := Tryz.zeroValue56
  t72 := Tryz.underlying59
  a72 := Tryz.isAgg59
  z72 := Tryz.sizeOf59
  v72 := Tryz.zeroValue59
  t75 := Tryz.underlying64
  a75 := Tryz.isAgg64
  z75 := Tryz.sizeOf64
  v75 := Tryz.zeroValue64
  t76 := Tryz.underlying65
  a76 := Tryz.isAgg65
  z76 := Tryz.sizeOf65
  v76 := Tryz.zeroValue65
  t127 := Tryz.underlying115
  a127 := Tryz.isAgg115
  z127 := Tryz.sizeOf115
  v127 := Tryz.zeroValue115
  t164 := Tryz.underlying140
  a164 := Tryz.isAgg140
  z164 := Tryz.sizeOf140
  v164 := Tryz.zeroValue140 }
def Tryz.l157_ren : Go.Shelf.Ren := ⟨fun | 157 => 39 | 229 => 73 | 199 => 74 | 261 => 106 | 311 => 153 | 312 => 154 | n => n, fun | 9 => 9 | 31 => 68 | 3 => 3 | 5 => 5 | 4 => 4 | 119 => 117 | 0 => 0 | 40 => 119 | 152 => 142 | 21 => 21 | 154 => 144 | 51 => 145 | 141 => 147 | 196 => 179 | 193 => 176 | 198 => 182 | 49 => 180 | 194 => 177 | 201 => 185 | 226 => 212 | 46 => 122 | 227 => 213 | n => n, fun | 0 => 0 | 6 => 1 | n => n⟩
theorem Tryz.l157 : Go.Proofs.Lays.n157 Tryz.prog Tryz.l157_ren := {
  mixed := by kernel_rfl
  f157 := Tryz.func39.trans (congrArg some (by kernel_rfl))
  f199 := Tryz.func74.trans (congrArg some (by kernel_rfl))
  f229 := Tryz.func73.trans (congrArg some (by kernel_rfl))
  f261 := Tryz.func106.trans (congrArg some (by kernel_rfl))
  f311 := Tryz.func153.trans (congrArg some (by kernel_rfl))
  f312 := Tryz.func154.trans (congrArg some (by kernel_rfl))
  t0 := Tryz.underlying0
  a0 := Tryz.isAgg0
  z0 := Tryz.sizeOf0
  v0 := Tryz.zeroValue0
  t3 := Tryz.underlying3
  a3 := Tryz.isAgg3
  z3 := Tryz.sizeOf3
  v3 := Tryz.zeroValue3
  t4 := Tryz.underlying4
  a4 := Tryz.isAgg4
  z4 := Tryz.sizeOf4
  v4 := Tryz.zeroValue4
  t5 := Tryz.underlying5
  a5 := Tryz.isAgg5
  z5 := Tryz.sizeOf5
  v5 := Tryz.zeroValue5
  t9 := Tryz.underlying9
  a9 := Tryz.isAgg9
  z9 := Tryz.sizeOf9
  v9 := Tryz.zeroValue9
  t21 := Tryz.underlying21
  a21 := Tryz.isAgg21
  z21 := Tryz.sizeOf21
  v21 := Tryz.zeroValue21
  t31 := Tryz.underlying68
  a31 := Tryz.isAgg68
  z31 := Tryz.sizeOf68
  v31 := Tryz.zeroValue68
  t40 := Tryz.underlying119
  a40 := Tryz.isAgg119
  z40 := Tryz.sizeOf119
  v40 := Tryz.zeroValue119
  t46 := Tryz.underlying122
  a46 := Tryz.isAgg122
  z46 := Tryz.sizeOf122
  v46 := Tryz.zeroValue122
  t49 := Tryz.underlying180
  a49 := Tryz.isAgg180
  z49 := Tryz.sizeOf180
  v49 := Tryz.zeroValue180
  t51 := Tryz.underlying145
  a51 := Tryz.isAgg145
  z51 := Tryz.sizeOf145
  v51 := Tryz.zeroValue145
  t119 := Tryz.underlying117
  a119 := Tryz.isAgg117
  z119 := Tryz.sizeOf117
  t141 := Tryz.underlying147
  a141 := Tryz.isAgg147
  z141 := Tryz.sizeOf147
  v141 := Tryz.zeroValue147
  t152 := Tryz.underlying142
  a152 := Tryz.isAgg142
  z152 := Tryz.sizeOf142
  v152 := Tryz.zeroValue142
  t154 := Tryz.underlying144
  a154 := Tryz.isAgg144
  z154 := Tryz.sizeOf144
  v154 := Tryz.zeroValue144
  t193 := Tryz.underlying176
  a193 := Tryz.isAgg176
  z193 := Tryz.sizeOf176
  v193 := Tryz.zeroValue176
  t194 := Tryz.underlying177
  a194 := Tryz.isAgg177
  z194 := Tryz.sizeOf177
  v194 := Tryz.zeroValue177
  t196 := Tryz.underlying179
  a196 := Tryz.isAgg179
  z196 := Tryz.sizeOf179
  v196 := Tryz.zeroValue179
  t198 := Tryz.underlying182
  a198 := Tryz.isAgg182
  z198 := Tryz.sizeOf182
  v198 := Tryz.zeroValue182
  t201 := Tryz.underlying185
  a201 := Tryz.isAgg185
  z201 := Tryz.sizeOf185
  v201 := Tryz.zeroValue185
  t226 := Tryz.underlying212
  a226 := Tryz.isAgg212
  z226 := Tryz.sizeOf212
  v226 := Tryz.zeroValue212
  t227 := Tryz.underlying213
  a227 := Tryz.isAgg213
  z227 := Tryz.sizeOf213
  v227 := Tryz.zeroValue213
  g0 := by kernel_rfl
  g6 := by kernel_rfl }
def Tryz.l137_ren : Go.Shelf.Ren := ⟨fun | 137 => 140 | 217 => 129 | 266 => 164 | n => n, fun | 9 => 9 | 5 => 5 | 3 => 3 | n => n, fun | n => n⟩
theorem Tryz.l137 : Go.Proofs.Lays.n137 Tryz.prog Tryz.l137_ren := {
  mixed := by kernel_rfl
  f137 := Tryz.func140.trans (congrArg some (by kernel_rfl))
  f217 := Tryz.func129.trans (congrArg some (by kernel_rfl))
  f266 := Tryz.func164.trans (congrArg some (by kernel_rfl))
  t3 := Tryz.underlying3
  a3 := Tryz.isAgg3
  z3 := Tryz.sizeOf3
  v3 := Tryz.zeroValue3
  t5 := Tryz.underlying5
  a5 := Tryz.isAgg5
  z5 := Tryz.sizeOf5
  v5 := Tryz.zeroValue5
  t9 := Tryz.underlying9
  a9 := Tryz.isAgg9
  z9 := Tryz.sizeOf9
  v9 := Tryz.zeroValue9 }
def Tryz.l160_ren : Go.Shelf.Ren := ⟨fun | 160 => 133 | 232 => 167 | 231 => 166 | 227 => 168 | 234 => 170 | 233 => 169 | 236 => 172 | 235 => 171 | 228 => 185 | 271 => 187 | 151 => 186 | 197 => 176 | 120 => 197 | 152 => 196 | 260 => 193 | 137 => 140 | 119 => 201 | 224 => 131 | 225 => 130 | 217 => 129 | 266 => 164 | n => n, fun | 9 => 9 | 4 => 4 | 3 => 3 | 5 => 5 | 117 => 200 | 116 => 199 | 0 => 0 | 124 => 203 | 21 => 21 | 105 => 206 | 46 => 122 | 119 => 117 | 139 => 233 | 138 => 232 | n => n, fun | 3 => 6 | 4 => 7 | n => n⟩
theorem Tryz.l160 : Go.Proofs.Lays.n160 Tryz.prog Tryz.l160_ren := {
  mixed := by kernel_rfl
  f119 := Tryz.func201.trans (congrArg some (by kernel_rfl))
  f120 := Tryz.func197.trans (congrArg some (by kernel_rfl))
  f137 := Tryz.func140.trans (congrArg some (by kernel_rfl))
  f151 := Tryz.func186.trans (congrArg some (by kernel_rfl))
  f152 := Tryz.func196.trans (congrArg some (by kernel_rfl))
  f160 := Tryz.func133.trans (congrArg some (by kernel_rfl))
  f197 := Tryz.func176.trans (congrArg some (by kernel_rfl))
  f217 := Tryz.func129.trans (congrArg some (by kernel_rfl))
  f224 := Tryz.func131.trans (congrArg some (by kernel_rfl))
  f225 := Tryz.func130.trans (congrArg some (by kernel_rfl))
  f227 := Tryz.func168.trans (congrArg some (by kernel_rfl))
  f228 := Tryz.func185.trans (congrArg some (by kernel_rfl))
  f231 := Tryz.func166.trans (congrArg some (by kernel_rfl))
  f232 := Tryz.func167.trans (congrArg some (by kernel_rfl))
  f233 := Tryz.func169.trans (congrArg some (by kernel_rfl))
  f234 := Tryz.func170.trans (congrArg some (by kernel_rfl))
  f235 := Tryz.func171.trans (congrArg some (by kernel_rfl))
  f236 := Tryz.func172.trans (congrArg some (by kernel_rfl))
  f260 := Tryz.func193.trans (congrArg some (by kernel_rfl))
  f266 := Tryz.func164.trans (congrArg some (by kernel_rfl))
  f271 := Tryz.func187.trans (congrArg some (by kernel_rfl))
  t0 := Tryz.underlying0
  a0 := Tryz.isAgg0
  z0 := Tryz.sizeOf0
  v0 := Tryz.zeroValue0
  t3 := Tryz.underlying3
  a3 := Tryz.isAgg3
  z3 := Tryz.sizeOf3
  v3 := Tryz.zeroValue3
  t4 := Tryz.underlying4
  a4 := Tryz.isAgg4
  z4 := Tryz.sizeOf4
  v4 := Tryz.zeroValue4
  t5 := Tryz.underlying5
  a5 := Tryz.isAgg5
  z5 := Tryz.sizeOf5
  v5 := Tryz.zeroValue5
  t9 := Tryz.underlying9
  a9 := Tryz.isAgg9
  z9 := Tryz.sizeOf9
  v9 := Tryz.zeroValue9
  t21 := Tryz.underlying21
  a21 := Tryz.isAgg21
  z21 := Tryz.sizeOf21
  v21 := Tryz.zeroValue21
  t46 := Tryz.underlying122
  a46 := Tryz.isAgg122
  z46 := Tryz.sizeOf122
  v46 := Tryz.zeroValue122
  t105 := Tryz.underlying206
  a105 := Tryz.isAgg206
  z105 := Tryz.sizeOf206
  v105 := Tryz.zeroValue206
  t116 := Tryz.underlying199
  a116 := Tryz.isAgg199
  z116 := Tryz.sizeOf199
  t117 := Tryz.underlying200
  a117 := Tryz.isAgg200
  z117 := Tryz.sizeOf200
  v117 := Tryz.zeroValue200
  t119 := Tryz.underlying117
  a119 := Tryz.isAgg117
  z119 := Tryz.sizeOf117
  t124 := Tryz.underlying203
  a124 := Tryz.isAgg203
  z124 := Tryz.sizeOf203
  v124 := Tryz.zeroValue203
  t138 := Tryz.underlying232
  a138 := Tryz.isAgg232
  z138 := Tryz.sizeOf232
  v138 := Tryz.zeroValue232
  t139 := Tryz.underlying233
  a139 := Tryz.isAgg233
  z139 := Tryz.sizeOf233
  v139 := Tryz.zeroValue233
  g3 := by kernel_rfl
  g4 := by kernel_rfl }
def Tryz.l144_ren : Go.Shelf.Ren := ⟨fun | 144 => 138 | 143 => 137 | 219 => 84 | 217 => 129 | 225 => 130 | 224 => 131 | 267 => 132 | 266 => 164 | 314 => 165 | n => n, fun | 9 => 9 | 4 => 4 | 3 => 3 | 5 => 5 | 46 => 122 | 146 => 195 | 51 => 145 | n => n, fun | 1 => 2 | n => n⟩
theorem Tryz.l144 : Go.Proofs.LaysM.n144 Tryz.prog Tryz.l144_ren := {
  mixed := by kernel_rfl
  f143 := Tryz.func137.trans (congrArg some (by kernel_rfl))
  f144 := Tryz.func138.trans (congrArg some (by kernel_rfl))
  f217 := Tryz.func129.trans (congrArg some (by kernel_rfl))
  f219 := Tryz.func84.trans (congrArg some (by kernel_rfl))
  f224 := Tryz.func131.trans (congrArg some (by kernel_rfl))
  f225 := Tryz.func130.trans (congrArg some (by kernel_rfl))
  f266 := Tryz.func164.trans (congrArg some (by kernel_rfl))
  f267 := Tryz.func132.trans (congrArg some (by kernel_rfl))
  f314 := Tryz.func165.trans (congrArg some (by kernel_rfl))
  t3 := Tryz.underlying3
  a3 := Tryz.isAgg3
  z3 := Tryz.sizeOf3
  v3 := Tryz.zeroValue3
  t4 := Tryz.underlying4
  a4 := Tryz.isAgg4
  z4 := Tryz.sizeOf4
  v4 := Tryz.zeroValue4
  t5 := Tryz.underlying5
  a5 := Tryz.isAgg5
  z5 := Tryz.sizeOf5
  v5 := Tryz.zeroValue5
  t9 := Tryz.underlying9
  a9 := Tryz.isAgg9
  z9 := Tryz.sizeOf9
  v9 := Tryz.zeroValue9
  t46 := Tryz.underlying122
  a46 := Tryz.isAgg122
  z46 := Tryz.sizeOf122
  v46 := Tryz.zeroValue122
  t51 := Tryz.underlying145
  a51 := Tryz.isAgg145
  z51 := Tryz.sizeOf145
  v51 := Tryz.zeroValue145
  t146 := Tryz.underlying195
  a146 := Tryz.isAgg195
  z146 := Tryz.sizeOf195
  v146 := Tryz.zeroValue195
  g1 := by kernel_rfl
  i3 := by kernel_rfl
  i4 := by kernel_rfl
  i5 := by kernel_rfl
  i9 := by kernel_rfl
  i46 := by kernel_rfl
  i51 := by kernel_rfl
  i146 := by kernel_rfl
  m1 := by kernel_rfl
  s1_3 := fun w h => Go.Proofs.cell_of_shapedOpen_int (zero := #[.int .i64 0]) (t := 3) h (of_decide_eq_true (by kernel_rfl)) (by kernel_rfl) rfl (by kernel_rfl) (by kernel_rfl) Tryz.underlying3 }
end Go.Proofs

namespace Go.Proofs.YthcdjmkkgbcaaaaGreatDoor
open Go.RowKit
set_option linter.unusedVariables false

theorem c_hasPrefix (s p : ByteArray) : ACall Tryz.prog 80 [.v (.string s), .v (.string p)] (.v (.bool (Lib.hasPrefix s.data.toList p.data.toList))) :=
 acall_exact (us := [_, _]) (.of Tryz.func80 (by kernel_rfl) rfl) fun w => by
  have h := Any.strings_HasPrefix Tryz.l99 s p w
  change Calls Tryz.prog 80 #[.string s, .string p] w _ at h
  exact h.mono fun _ _ ⟨h1, h2⟩ => ⟨h1, h2 ▸ Below.refl _ _⟩
theorem c_trimSuffix (s p : ByteArray) (hs : s.size ≤ 9223372036854775807) : ACall Tryz.prog 68 [.v (.string s), .v (.string p)] (.v (.string ⟨(Lib.trimSuffix s.data.toList p.data.toList).toArray⟩)) :=
 acall_exact (us := [_, _]) (.of Tryz.func68 (by kernel_rfl) rfl) fun w => by
  have h := Any.strings_TrimSuffix Tryz.l102 s p w hs
  change Calls Tryz.prog 68 #[.string s, .string p] w _ at h
  exact h.mono fun _ _ ⟨h1, h2⟩ => ⟨h1, h2 ▸ Below.refl _ _⟩
theorem c_cutPrefix (s p : ByteArray) : ACall Tryz.prog 51 [.v (.string s), .v (.string p)] (.tup [.v (.string ⟨(Lib.trimPrefix s.data.toList p.data.toList).toArray⟩), .v (.bool (Lib.hasPrefix s.data.toList p.data.toList))]) :=
 ⟨.of Tryz.func51 (by kernel_rfl) rfl, fun F w vs hF hv => by
  rw [repL_v (us := [.string s, .string p]) hv]
  have h := Any.strings_CutPrefix Tryz.l103 s p w
  change Calls Tryz.prog 51 #[.string s, .string p] w _ at h
  refine h.mono fun e w' ⟨h1, h2⟩ => ?_
  subst h2
  exact ⟨_, F, h1, .tup [_, _] [_, _] rfl (fun i h1 h2 => by
   match i, h1 with
   | 0, _ => exact .v _
   | 1, _ => exact .v _), Ext.refl hF⟩⟩
def fldD (l : List UInt8) : List D := [.v (.string ⟨l.toArray⟩)]
end Go.Proofs.YthcdjmkkgbcaaaaGreatDoor

namespace Go.Proofs.YthcdjmkkgbcaaaaGreatDoor
open Go.RowKit
def JoinQ (P : Prop) (e2 : Env) (σ2 : Obs) (Q : Post) : Post := fun ex e σ => match ex with
  | .normal => P ∧ Sub e σ e2 σ2
  | .ret => Q .ret e σ
  | .exit id => Q (.exit id) e σ
  | .goto l => Q (.goto l) e σ
  | .panic c => Q (.panic c) e σ
  | .outgrown => Q .outgrown e σ
theorem AWP.seqJ {cx : Cx} {x y : Code} {e : Env} {σ : Obs} {Q : Post} (P : Prop) (e2 : Env) (σ2 : Obs) (h1 : AWP cx x e σ (JoinQ P e2 σ2 Q)) (h2 : P → AWP cx y e2 σ2 Q) : AWP cx (.seq x y) e σ Q := fun a w hr => by
  refine wp_seq (wp_mono (h1 a w hr) ?_)
  rintro ex a' w' ⟨e', σ', hq, hr'⟩
  cases ex with
  | normal => exact h2 hq.1 a' w' (hq.2 cx a' w' hr')
  | ret => exact ⟨e', σ', hq, hr'⟩
  | exit id => exact ⟨e', σ', hq, hr'⟩
  | goto l => exact ⟨e', σ', hq, hr'⟩
  | panic c => exact ⟨e', σ', hq, hr'⟩
  | outgrown => exact ⟨e', σ', hq, hr'⟩
theorem bool_eq {b : Bool} {E : Prop} [Decidable E] (h : b = true ↔ E) : S.d (D.v (.bool b)) = S.d (D.v (.bool (decide E))) := by
  have : b = decide E := by
    cases hb : b with
    | true => exact (decide_eq_true (h.1 hb)).symm
    | false => exact (decide_eq_false fun he => by rw [h.2 he] at hb; cases hb).symm
  rw [this]
end Go.Proofs.YthcdjmkkgbcaaaaGreatDoor

namespace Go.Proofs.YthcdjmkkgbcaaaaGreatDoor
open Go.RowKit
set_option linter.unusedVariables false

/-! Types. -/
namespace TyH3
theorem et_57 : ElemTy Tryz.prog 57 5 1 1 (.int .u8 0) := ⟨by kernel_rfl, by kernel_rfl, by kernel_rfl, by decide⟩
theorem et_68 : ElemTy Tryz.prog 68 9 1 16 (.string ⟨#[]⟩) := ⟨by kernel_rfl, by kernel_rfl, by kernel_rfl, by decide⟩
theorem sc_5 : Scal Tryz.prog 5 := .of (by kernel_rfl)
theorem sc_9 : Scal Tryz.prog 9 := .of (by kernel_rfl)
theorem st_9 : Tryz.prog.underlying 9 = some .string := by kernel_rfl
end TyH3
open TyH3

set_option linter.unusedSimpArgs false
theorem at_list {α : Type} {l : List α} {f : α → List D} {k : Nat} (h : k < l.length) : (l.map f)[k]? = some (f l[k]) := by simp [h]
def bStr (l : List UInt8) : ByteArray := ⟨l.toArray⟩
theorem bStr_list (l : List UInt8) : (bStr l).data.toList = l := rfl
theorem bStr_size (l : List UInt8) : (bStr l).size = l.length := by rw [Lib.size_eq]; rfl
theorem bStr_drop (l : List UInt8) (k : Nat) : (bStr l).extract k (bStr l).size = bStr (l.drop k) := by
  have h2 : ((bStr l).extract k (bStr l).size).data = (l.drop k).toArray := by
    rw [ByteArray.data_extract, bStr_size]
    show l.toArray.extract k l.length = _
    simp only [List.extract_toArray, List.extract_eq_take_drop]
    rw [List.take_of_length_le (by simp)]
  exact congrArg ByteArray.mk h2
theorem c_trim (l : List UInt8) (hl : l.length ≤ 9223372036854775807) : ACall Tryz.prog 68 [.v (.string ⟨l.toArray⟩), .v (.string ⟨#[32]⟩)] (.v (.string (bStr (Lib.trimSuffix l [32])))) := c_trimSuffix (bStr l) ⟨#[32]⟩ (by rw [bStr_size]; exact hl)
theorem c_cut (l p : List UInt8) : ACall Tryz.prog 51 [.v (.string (bStr l)), .v (.string (bStr p))] (.tup [.v (.string (bStr (Lib.trimPrefix l p))), .v (.bool (Lib.hasPrefix l p))]) := c_cutPrefix (bStr l) (bStr p)
theorem c_hasP (l p : List UInt8) : ACall Tryz.prog 80 [.v (.string (bStr l)), .v (.string (bStr p))] (.v (.bool (Lib.hasPrefix l p))) := c_hasPrefix (bStr l) (bStr p)
def arts : List (List UInt8) := [[116, 104, 101, 32], [97, 110, 32], [97, 32]]
def artD (l : List UInt8) : List D := [.v (.string (bStr l))]
theorem strip_hit {S : List UInt8} {i : Nat} (hi : i < arts.length) (h0 : ∀ p ∈ arts.take i, Lib.hasPrefix S p = false) (h : Lib.hasPrefix S arts[i] = true) : strip S = S.drop arts[i].length := by
  unfold strip
  match i, hi with
  | 0, _ => rw [if_pos (show Lib.hasPrefix S [116, 104, 101, 32] = true from h)]; rfl
  | 1, _ =>
    have e0 := h0 [116, 104, 101, 32] (by decide)
    rw [if_neg (by rw [e0]; decide), if_pos (show Lib.hasPrefix S [97, 110, 32] = true from h)]; rfl
  | 2, _ =>
    have e0 := h0 [116, 104, 101, 32] (by decide)
    have e1 := h0 [97, 110, 32] (by decide)
    rw [if_neg (by rw [e0]; decide), if_neg (by rw [e1]; decide), if_pos (show Lib.hasPrefix S [97, 32] = true from h)]; rfl
theorem strip_none {S : List UInt8} (h0 : ∀ p ∈ arts.take 3, Lib.hasPrefix S p = false) : strip S = S := by
  unfold strip
  have e0 := h0 [116, 104, 101, 32] (by decide)
  have e1 := h0 [97, 110, 32] (by decide)
  have e2 := h0 [97, 32] (by decide)
  rw [if_neg (by rw [e0]; decide), if_neg (by rw [e1]; decide), if_neg (by rw [e2]; decide)]
theorem art_next {P : List UInt8 → Prop} {i : Nat} (hi : i < arts.length) (h : ∀ p ∈ arts.take i, P p) (h2 : P arts[i]) : ∀ p ∈ arts.take (i + 1), P p := by
  intro w hw
  rw [List.take_add_one, List.getElem?_eq_getElem hi] at hw
  simp only [Option.toList_some, List.mem_append, List.mem_singleton] at hw
  rcases hw with h1 | h1
  · exact h w h1
  · rw [h1]; exact h2
/-- The program's loop, so far. -/
def pTo (s : ByteArray) (k : Nat) : List UInt8 := (s.data.toList.take k).foldl pStep []
theorem pTo_next {s : ByteArray} {k : Nat} (h : k < s.data.toList.length) : pTo s (k + 1) = pStep (pTo s k) s.data.toList[k] := by
  unfold pTo
  rw [List.take_add_one, List.getElem?_eq_getElem h, Option.toList_some, List.foldl_append]; rfl
theorem pTo_len (s : ByteArray) (k : Nat) : (pTo s k).length ≤ k := fold_len _ k
theorem pTo_all (s : ByteArray) : pTo s s.size = s.data.toList.foldl pStep [] := by unfold pTo; rw [Lib.size_eq, List.take_length]
theorem low_nat : ∀ n : Fin 256, 65 ≤ n.val ∧ n.val ≤ 90 → IntKind.u8.wrap ((n.val : Int) + 32) = ((lowB (UInt8.ofNat n.val)).toNat : Int) := by decide +kernel
theorem low_wrap {c : UInt8} (h : 65 ≤ c.toNat ∧ c.toNat ≤ 90) : IntKind.u8.wrap ((c.toNat : Int) + 32) = ((lowB c).toNat : Int) := by
  have := low_nat ⟨c.toNat, c.toNat_lt⟩ h
  simp only [UInt8.ofNat_toNat] at this
  exact this
theorem low_wrap2_nat : ∀ n : Fin 256, 65 ≤ n.val ∧ n.val ≤ 90 → IntKind.u8.wrap (IntKind.u8.wrap ((n.val : Int) - 65) + 97) = ((lowB (UInt8.ofNat n.val)).toNat : Int) := by decide +kernel
theorem low_wrap2 {c : UInt8} (h : 65 ≤ c.toNat ∧ c.toNat ≤ 90) : IntKind.u8.wrap (IntKind.u8.wrap ((c.toNat : Int) - 65) + 97) = ((lowB c).toNat : Int) := by
  have := low_wrap2_nat ⟨c.toNat, c.toNat_lt⟩ h
  simp only [UInt8.ofNat_toNat] at this
  exact this
theorem low_same {c : UInt8} (h : ¬ (65 ≤ c.toNat ∧ c.toNat ≤ 90)) : lowB c = c := if_neg h
theorem aln_iff {x : UInt8} : alnB x = true ↔ (97 ≤ x.toNat ∧ x.toNat ≤ 122) ∨ (48 ≤ x.toNat ∧ x.toNat ≤ 57) := by unfold alnB; simp
theorem step_aln {b : List UInt8} {c : UInt8} (h : alnB (lowB c) = true) : pStep b c = b ++ [lowB c] := if_pos h
theorem step_sp {b : List UInt8} {c : UInt8} (h : ¬ alnB (lowB c) = true) (h2 : 0 < b.length) (h3 : b[b.length - 1]'(by omega) ≠ 32) : pStep b c = b ++ [32] := by
  have h4 : b ≠ [] ∧ b.getLast? ≠ some 32 := ⟨fun e => (by rw [e] at h2; exact absurd h2 (by simp)), fun e => by
    rw [List.getLast?_eq_getElem?, List.getElem?_eq_getElem (by omega)] at e
    exact h3 (Option.some.inj e)⟩
  unfold pStep
  rw [if_neg h, if_pos h4]
theorem u8_32 {x : UInt8} (h : (x.toNat : Int) = 32) : x = 32 := UInt8.toNat_inj.1 (by show x.toNat = 32; omega)
theorem u8_n32 {x : UInt8} (h : (x.toNat : Int) ≠ 32) : x ≠ 32 := fun e => h (by rw [e]; rfl)
theorem last_32 {b : List UInt8} (h2 : 0 < b.length) (h3 : b[b.length - 1]'(by omega) = 32) : b.getLast? = some 32 := by rw [List.getLast?_eq_getElem?, List.getElem?_eq_getElem (by omega), h3]
theorem step_no {b : List UInt8} {c : UInt8} (h : ¬ alnB (lowB c) = true) (h2 : b = [] ∨ b.getLast? = some 32) : pStep b c = b := by
  unfold pStep
  rw [if_neg h, if_neg]
  rintro ⟨h3, h4⟩
  exact h2.elim h3 h4

set_option maxRecDepth 100000 in
set_option maxHeartbeats 1000000 in
theorem c_pFold (s : ByteArray) (hs : s.size ≤ 1048576) : ACall Tryz.prog 25 [.v (.string s)] (.v (.string (bStr (foldS s.data.toList)))) := by
 refine acall_of (n := 82) (ds' := [.v (.string (bStr (foldS s.data.toList)))]) Tryz.func25 rfl (by kernel_rfl) rfl [2] rfl rfl ?_
 intro B w0 F0 fr
 have hsz := Lib.size_eq s
 refine .sr ?_
 refine .aA (.nil ?_)
 refine .sr ?_
 refine .aA (.nil ?_)
 refine .seq ?_
 refine .sr ?_
 refine .mA ?_
 refine .sA (.lenStr rfl st_9 rfl) ?_
 refine .mA (.nil ?_)
 refine .block ?_
 refine .adopt 3 1 5 1 rfl rfl ?_
 refine .loop (G := Nat) (fun k => Env.of [(13, .d (.v (.int .i64 (k : Int)))), (11, .d (.v (.string s))), (12, .d (.v (.int .i64 (s.size : Int)))), (0, .d (.v (.string s))), (3, .own 1)]) (fun k => [(1, .row 5 1 ((pTo s k).map u8D))]) (fun k => k ≤ s.size) (fun k => s.size - k) 0 (Nat.zero_le _) (Sub.less ⟨(SLe.of_eq rfl), SLe.refl _, SLe.refl _, SLe.refl _, SLe.refl _, trivial⟩ (row_same rfl)) ?_
 intro k hk
 refine .sr ?_
 refine .sA (.lss rfl rfl rfl) (.nil ?_)
 refine .seq ?_
 refine .cond rfl (fun h1 => ?_) (fun h1 => ?_)
 ·replace h1 := of_decide_eq_true h1
  have hlt : k < s.data.toList.length := by omega
  have hc := List.getElem?_eq_getElem hlt
  have hpl := pTo_len s k
  have hpn := pTo_next hlt
  generalize s.data.toList[k] = c at hc hpn
  refine .skip ?_
  refine .seq ?_
  refine .block ?_
  refine .sr ?_
  refine .mA ?_
  refine .aA (.nil ?_)
  refine .sr ?_
  refine .mA ?_
  refine .mA ?_
  refine .sA (.indexStr rfl st_9 rfl rfl k rfl hc) ?_
  refine .aA (.nil ?_)
  refine .seqJ (True) (Env.of [(13, .d (.v (.int .i64 (k : Int)))), (11, .d (.v (.string s))), (12, .d (.v (.int .i64 (s.size : Int)))), (0, .d (.v (.string s))), (3, .own 1), (5, .d (.v (.int .u8 ((lowB c).toNat : Int))))]) [(1, .row 5 1 ((pTo s k).map u8D))] ?_ (fun _ => ?_)
  ·skip
   refine .sr ?_
   refine .mA ?_
   refine .sA (.geq rfl rfl rfl) ?_
   refine .mA ?_
   refine .split 21 rfl (fun g2 => ?_) (fun g2 => ?_)
   ·replace g2 := of_decide_eq_true g2
    refine .sG (.moveD rfl rfl) ?_
    refine .sG (.leq rfl rfl rfl) ?_
    refine .sA (.pickT rfl rfl rfl) (.nil ?_)
    refine .cond rfl (fun h3 => ?_) (fun h3 => ?_)
    ·replace h3 := of_decide_eq_true h3
     refine .region ?_
     refine .mA ?_
     refine .sA (.add rfl rfl rfl) ?_
     rw [low_wrap (by omega)]
     refine .aA (.nil ?_)
     refine ⟨?_, Sub.less ⟨SLe.refl _, SLe.refl _, SLe.refl _, SLe.refl _, SLe.refl _, (SLe.of_eq (by first | rfl | (rw [low_same (by omega)]; rfl))), trivial⟩ (fun _ h => h)⟩
     trivial
    replace h3 := of_decide_eq_false h3
    refine .skip ?_
    refine ⟨?_, Sub.less ⟨SLe.refl _, SLe.refl _, SLe.refl _, SLe.refl _, SLe.refl _, (SLe.of_eq (by first | rfl | (rw [low_same (by omega)]; rfl))), trivial⟩ (fun _ h => h)⟩
    trivial
   replace g2 := of_decide_eq_false g2
   refine .pA ?_
   refine .pA ?_
   refine .sA (.pickF rfl rfl rfl) (.nil ?_)
   refine .cond rfl (fun h => nomatch h) (fun _ => ?_)
   refine .skip ?_
   refine ⟨?_, Sub.less ⟨SLe.refl _, SLe.refl _, SLe.refl _, SLe.refl _, SLe.refl _, (SLe.of_eq (by first | rfl | (rw [low_same (by omega)]; rfl))), trivial⟩ (fun _ h => h)⟩
   trivial
  refine .block ?_
  refine .seqJ (True) (Env.of [(13, .d (.v (.int .i64 (k : Int)))), (11, .d (.v (.string s))), (12, .d (.v (.int .i64 (s.size : Int)))), (0, .d (.v (.string s))), (3, .own 1), (5, .d (.v (.int .u8 ((lowB c).toNat : Int)))), (27, .d (.v (.bool (decide ((97 ≤ (lowB c).toNat ∧ (lowB c).toNat ≤ 122) ∨ (48 ≤ (lowB c).toNat ∧ (lowB c).toNat ≤ 57))))))]) [(1, .row 5 1 ((pTo s k).map u8D))] ?_ (fun _ => ?_)
  ·skip
   refine .region ?_
   refine .mA ?_
   refine .sA (.geq rfl rfl rfl) ?_
   refine .mA ?_
   refine .split 30 rfl (fun g4 => ?_) (fun g4 => ?_)
   ·replace g4 := of_decide_eq_true g4
    refine .sG (.moveD rfl rfl) ?_
    refine .sG (.leq rfl rfl rfl) ?_
    refine .sA (.pickT rfl rfl rfl) ?_
    refine .mA ?_
    refine .split 34 rfl (fun g5 => ?_) (fun g5 => ?_)
    ·replace g5 := of_decide_eq_true g5
     refine .pA ?_
     refine .pA ?_
     refine .pA ?_
     refine .pass ⟨37, rfl, .inr ⟨rfl, rfl⟩⟩ rfl rfl ?_
     refine .pass ⟨37, rfl, .inr ⟨rfl, rfl⟩⟩ rfl rfl ?_
     refine .pA ?_
     refine .sA (.pickT rfl rfl rfl) ?_
     refine .aA (.nil ?_)
     refine ⟨?_, Sub.less ⟨SLe.refl _, SLe.refl _, SLe.refl _, SLe.refl _, SLe.refl _, SLe.refl _, (SLe.of_eq (bool_eq (by first | (simp only [true_iff, decide_eq_true_eq, Bool.false_eq_true, false_iff]; omega) | (simp; omega)))), trivial⟩ (fun _ h => h)⟩
     trivial
    replace g5 := of_decide_eq_false g5
    refine .sG (.moveD rfl rfl) ?_
    refine .sG (.geq rfl rfl rfl) ?_
    refine .sG (.moveD rfl rfl) ?_
    refine .split 37 rfl (fun g6 => ?_) (fun g6 => ?_)
    ·replace g6 := of_decide_eq_true g6
     refine .sG (.moveD rfl rfl) ?_
     refine .sG (.leq rfl rfl rfl) ?_
     refine .sG (.pickT rfl rfl rfl) ?_
     refine .sA (.pickF rfl rfl rfl) ?_
     refine .aA (.nil ?_)
     refine ⟨?_, Sub.less ⟨SLe.refl _, SLe.refl _, SLe.refl _, SLe.refl _, SLe.refl _, SLe.refl _, (SLe.of_eq (bool_eq (by first | (simp only [true_iff, decide_eq_true_eq, Bool.false_eq_true, false_iff]; omega) | (simp; omega)))), trivial⟩ (fun _ h => h)⟩
     trivial
    replace g6 := of_decide_eq_false g6
    refine .pA ?_
    refine .pA ?_
    refine .sG (.pickF rfl rfl rfl) ?_
    refine .sA (.pickF rfl rfl rfl) ?_
    refine .aA (.nil ?_)
    refine ⟨?_, Sub.less ⟨SLe.refl _, SLe.refl _, SLe.refl _, SLe.refl _, SLe.refl _, SLe.refl _, (SLe.of_eq (bool_eq (by first | (simp only [true_iff, decide_eq_true_eq, Bool.false_eq_true, false_iff]; omega) | (simp; omega)))), trivial⟩ (fun _ h => h)⟩
    trivial
   replace g4 := of_decide_eq_false g4
   refine .pA ?_
   refine .pA ?_
   refine .sA (.pickF rfl rfl rfl) ?_
   refine .mA ?_
   refine .sG (.moveD rfl rfl) ?_
   refine .sG (.geq rfl rfl rfl) ?_
   refine .sG (.moveD rfl rfl) ?_
   refine .split 37 rfl (fun g7 => ?_) (fun g7 => ?_)
   ·replace g7 := of_decide_eq_true g7
    refine .sG (.moveD rfl rfl) ?_
    refine .sG (.leq rfl rfl rfl) ?_
    refine .sG (.pickT rfl rfl rfl) ?_
    refine .sA (.pickF rfl rfl rfl) ?_
    refine .aA (.nil ?_)
    refine ⟨?_, Sub.less ⟨SLe.refl _, SLe.refl _, SLe.refl _, SLe.refl _, SLe.refl _, SLe.refl _, (SLe.of_eq (bool_eq (by first | (simp only [true_iff, decide_eq_true_eq, Bool.false_eq_true, false_iff]; omega) | (simp; omega)))), trivial⟩ (fun _ h => h)⟩
    trivial
   replace g7 := of_decide_eq_false g7
   refine .pA ?_
   refine .pA ?_
   refine .sG (.pickF rfl rfl rfl) ?_
   refine .sA (.pickF rfl rfl rfl) ?_
   refine .aA (.nil ?_)
   refine ⟨?_, Sub.less ⟨SLe.refl _, SLe.refl _, SLe.refl _, SLe.refl _, SLe.refl _, SLe.refl _, (SLe.of_eq (bool_eq (by first | (simp only [true_iff, decide_eq_true_eq, Bool.false_eq_true, false_iff]; omega) | (simp; omega)))), trivial⟩ (fun _ h => h)⟩
   trivial
  refine .cond rfl (fun h8 => ?_) (fun h8 => ?_)
  ·replace h8 := of_decide_eq_true h8
   refine .region ?_
   refine .sA (.moveO rfl rfl) ?_
   refine .mA ?_
   refine .sA (.buildSlice rfl et_57 (.cons rfl rfl rfl .nil) rfl (by decide)) ?_
   -- append 45
   refine .append rfl rfl rfl rfl et_57 rfl (.head _) rfl (by simp [D.parts]) (by simp; omega) (by simp; omega) ?_
   refine .sA (.assignO rfl rfl) (.nil ?_)
   refine .region ?_
   refine .sA (.add64 rfl rfl rfl (by omega) (by omega)) ?_
   refine .mA (.nil ?_)
   refine ⟨k + 1, (by omega), (by dsimp only; omega), Sub.less ⟨(SLe.of_eq rfl), SLe.refl _, SLe.refl _, SLe.refl _, SLe.refl _, trivial⟩ (row_same (by first | (rw [hpn, step_aln (aln_iff.2 (by omega)), List.map_append]; rfl) | (rw [hpn, step_no (fun h => by have := aln_iff.1 h; omega) HNO]) | (rw [hpn, step_sp (fun h => by have := aln_iff.1 h; omega) hlp (u8_n32 HSP), List.map_append]; rfl)))⟩
  replace h8 := of_decide_eq_false h8
  refine .sr ?_
  refine .sA (.moveO rfl rfl) ?_
  refine .sA (.lenOwn rfl et_57.ht rfl (.head _)) ?_
  refine .sA (.gtr rfl rfl rfl) ?_
  refine .mA ?_
  refine .split 50 rfl (fun g9 => ?_) (fun g9 => ?_)
  ·replace g9 := of_decide_eq_true g9
   rw [List.length_map] at g9
   have hlp : 0 < (pTo s k).length := by omega
   refine .sG (.moveO rfl rfl) ?_
   refine .sG (.moveO rfl rfl) ?_
   refine .sG (.lenOwn rfl et_57.ht rfl (.head _)) ?_
   refine .sG (.sub64 rfl rfl rfl (by rw [List.length_map]; omega) (by rw [List.length_map]; omega)) ?_
   refine .sG (.indexOwn rfl et_57 rfl rfl (.head _) ((pTo s k).length - 1) (by rw [List.length_map]; omega) (by rw [List.length_map]; omega)) ?_
   refine .sG (.loadRow rfl sc_5 rfl (.head _) ((pTo s k).length - 1) 0 rfl (at_list (by omega)) rfl) ?_
   refine .sG (.neq rfl rfl rfl) ?_
   refine .sA (.pickT rfl rfl rfl) ?_
   refine .aA (.nil ?_)
   refine .cond rfl (fun h10 => ?_) (fun h10 => ?_)
   ·replace h10 := of_decide_eq_true h10
    have HSP := h10
    refine .region ?_
    refine .sA (.moveO rfl rfl) ?_
    refine .sA (.buildSlice rfl et_57 (.cons rfl rfl rfl .nil) rfl (by decide)) ?_
    -- append 61
    refine .append rfl rfl rfl rfl et_57 rfl (.head _) rfl (by simp [D.parts]) (by simp; omega) (by simp; omega) ?_
    refine .sA (.assignO rfl rfl) (.nil ?_)
    refine .region ?_
    refine .sA (.add64 rfl rfl rfl (by omega) (by omega)) ?_
    refine .mA (.nil ?_)
    refine ⟨k + 1, (by omega), (by dsimp only; omega), Sub.less ⟨(SLe.of_eq rfl), SLe.refl _, SLe.refl _, SLe.refl _, SLe.refl _, trivial⟩ (row_same (by first | (rw [hpn, step_aln (aln_iff.2 (by omega)), List.map_append]; rfl) | (rw [hpn, step_no (fun h => by have := aln_iff.1 h; omega) HNO]) | (rw [hpn, step_sp (fun h => by have := aln_iff.1 h; omega) hlp (u8_n32 HSP), List.map_append]; rfl)))⟩
   replace h10 := of_decide_eq_false h10
   have HNO : pTo s k = [] ∨ (pTo s k).getLast? = some 32 := .inr (last_32 hlp (u8_32 (Decidable.not_not.1 h10)))
   refine .skip ?_
   refine .region ?_
   refine .sA (.add64 rfl rfl rfl (by omega) (by omega)) ?_
   refine .mA (.nil ?_)
   refine ⟨k + 1, (by omega), (by dsimp only; omega), Sub.less ⟨(SLe.of_eq rfl), SLe.refl _, SLe.refl _, SLe.refl _, SLe.refl _, trivial⟩ (row_same (by first | (rw [hpn, step_aln (aln_iff.2 (by omega)), List.map_append]; rfl) | (rw [hpn, step_no (fun h => by have := aln_iff.1 h; omega) HNO]) | (rw [hpn, step_sp (fun h => by have := aln_iff.1 h; omega) hlp (u8_n32 HSP), List.map_append]; rfl)))⟩
  replace g9 := of_decide_eq_false g9
  rw [List.length_map] at g9
  have HNO : pTo s k = [] ∨ (pTo s k).getLast? = some 32 := .inl (List.eq_nil_of_length_eq_zero (by omega))
  refine .pA ?_
  refine .pA ?_
  refine .pA ?_
  refine .pA ?_
  refine .pA ?_
  refine .pA ?_
  refine .pA ?_
  refine .sA (.pickF rfl rfl rfl) ?_
  refine .aA (.nil ?_)
  refine .cond rfl (fun h => nomatch h) (fun _ => ?_)
  refine .skip ?_
  refine .region ?_
  refine .sA (.add64 rfl rfl rfl (by omega) (by omega)) ?_
  refine .mA (.nil ?_)
  refine ⟨k + 1, (by omega), (by dsimp only; omega), Sub.less ⟨(SLe.of_eq rfl), SLe.refl _, SLe.refl _, SLe.refl _, SLe.refl _, trivial⟩ (row_same (by first | (rw [hpn, step_aln (aln_iff.2 (by omega)), List.map_append]; rfl) | (rw [hpn, step_no (fun h => by have := aln_iff.1 h; omega) HNO]) | (rw [hpn, step_sp (fun h => by have := aln_iff.1 h; omega) hlp (u8_n32 HSP), List.map_append]; rfl)))⟩
 replace h1 := of_decide_eq_false h1
 obtain rfl : k = s.size := by omega
 rw [pTo_all]
 have hpl := pTo_len s s.size
 rw [pTo_all] at hpl
 refine .exit ?_
 refine .sr ?_
 refine .sA (.moveO rfl rfl) ?_
 refine .freeze 63 rfl (.head _) ?_
 refine .sA (.bytesStr rfl et_57.ht Tryz.underlying5 st_9 rfl) ?_
 refine .sA (.call rfl (.cons (.rfl' rfl) (.cons (.rfl' rfl) .nil)) (c_trim _ (by omega))) ?_
 refine .aA (.nil ?_)
 refine .seq ?_
 refine .sr ?_
 refine .sA (.buildSlice rfl et_68 (.cons rfl rfl rfl (.cons rfl rfl rfl (.cons rfl rfl rfl .nil))) rfl (by decide)) ?_
 refine .sA (.lenSl rfl et_68.ht rfl) ?_
 refine .mA (.nil ?_)
 refine .block ?_
 refine .loop (G := Nat) (fun i => Env.of [(68, .d (.v (.int .i64 (i : Int)))), (66, .d (.sl (arts.map artD))), (67, .d (.v (.int .i64 3))), (6, .d (.v (.string (bStr (Lib.trimSuffix (s.data.toList.foldl pStep []) [32])))))]) (fun i => []) (fun i => i ≤ 3 ∧ ∀ p ∈ arts.take i, Lib.hasPrefix (Lib.trimSuffix (s.data.toList.foldl pStep []) [32]) p = false) (fun i => 3 - i) 0 ⟨Nat.zero_le _, fun p hp => by simp at hp⟩ (Sub.less ⟨(SLe.of_eq rfl), (SLe.of_eq rfl), (SLe.of_eq rfl), SLe.refl _, trivial⟩ (fun _ h => h)) ?_
 rintro i ⟨hi, h0⟩
 refine .sr ?_
 refine .sA (.lss rfl rfl rfl) (.nil ?_)
 refine .seq ?_
 refine .cond rfl (fun h11 => ?_) (fun h11 => ?_)
 ·replace h11 := of_decide_eq_true h11
  have hlt : i < arts.length := by show i < 3; omega
  refine .skip ?_
  refine .seq ?_
  refine .block ?_
  refine .sr ?_
  refine .sA (.indexAddr rfl et_68 rfl rfl i rfl (at_list hlt) rfl) ?_
  refine .sA (.load rfl sc_9 rfl) ?_
  refine .aA (.nil ?_)
  refine .sr ?_
  refine .mA ?_
  refine .mA ?_
  refine .sA (.call rfl (.cons (.rfl' rfl) (.cons (.rfl' rfl) .nil)) (c_cut _ _)) ?_
  refine .mA ?_
  refine .sA (.extract rfl rfl rfl) ?_
  refine .sA (.extract rfl rfl rfl) ?_
  refine .aA ?_
  refine .aA (.nil ?_)
  refine .sr ?_
  refine .mA (.nil ?_)
  refine .cond rfl (fun h12 => ?_) (fun h12 => ?_)
  ·skip
   have HR : foldS s.data.toList = Lib.trimPrefix (Lib.trimSuffix (s.data.toList.foldl pStep []) [32]) arts[i] := by unfold Lib.trimPrefix; rw [if_pos h12]; exact strip_hit hlt h0 h12
   rw [HR]
   refine .sr ?_
   refine .mA ?_
   refine .aA (.nil ?_)
   refine .ret ?_
   refine ⟨RetD.eq rfl ?_, trivial⟩
   all_goals (rfl)
  have HN := art_next hlt h0 h12
  refine .skip ?_
  refine .region ?_
  refine .sA (.add64 rfl rfl rfl (by omega) (by omega)) ?_
  refine .mA (.nil ?_)
  refine ⟨i + 1, ⟨by omega, HN⟩, (by dsimp only; omega), Sub.less ⟨(SLe.of_eq rfl), SLe.refl _, SLe.refl _, SLe.refl _, trivial⟩ (fun _ h => h)⟩
 replace h11 := of_decide_eq_false h11
 obtain rfl : i = 3 := by omega
 have HR : foldS s.data.toList = Lib.trimSuffix (s.data.toList.foldl pStep []) [32] := strip_none h0
 rw [HR]
 refine .exit ?_
 refine .sr ?_
 refine .mA ?_
 refine .aA (.nil ?_)
 refine .ret ?_
 refine ⟨RetD.eq rfl ?_, trivial⟩
 all_goals (rfl)

end Go.Proofs.YthcdjmkkgbcaaaaGreatDoor
