/- Walks and laws over abstract values, merged by tools/merge.py. No statement of the seat. -/
import Derived.ChangeKeysEq
import Derived.ProofKit
import Derived.OpenShut
import Derived.ShutString
import Derived.ChangeOld
import Derived.Below
import Derived.Deep.RegionHeld3
import Derived.Deep.LoopGhost
import Derived.WalkKit
import Derived.Ground.NamesProg
import Derived.Shelf.Strings.SlTrimAscii
import Derived.Test.YtnapkooefpkicaaGreatDoorProg
import Derived.Lib.EndianBits
import Derived.Laws.StructEq
import Derived.MapKept
import Derived.Carry
import Derived.Lib.ConvBytes
import Derived.Lib.Strings
import Derived.Test.YtnapkooefpkicaaGreatDoorXS1

namespace Go.Proofs.YtnapkooefpkicaaGreatDoor
open Go.RowKit

def ownB (σ : Obs) (ρ : Nat → Value) (b : Nat) : Prop := ∃ p ∈ σ, blk (ρ p.1) = some b
def RepSL (F : Nat → Prop) (ρ : Nat → Value) (w : World) (vs : List Value) (ss : List S) : Prop := vs.length = ss.length ∧ ∀ i (h1 : i < vs.length) (h2 : i < ss.length), RepS F ρ w vs[i] ss[i]

/-- How such a call ends: what was frozen stays; of the rest only the told objects may have changed. -/
structure XEnd (B : Nat) (F : Nat → Prop) (ρ : Nat → Value) (w : World) (σ : Obs) (F' : Nat → Prop) (ρ' : Nat → Value) (w' : World) (σ' : Obs) (chg : Nat → Bool) : Prop where
  up : ∀ b, F b → F' b
  new : ∀ b, F' b → F b ∨ (w.heap.size ≤ b ∨ ownB σ ρ b)
  lt : ∀ b, F' b → b < w'.heap.size
  kept : Kept (fun b => w.heap.size ≤ b ∨ ownB σ ρ b) w w'
  obs : ObsOk B F' ρ' w' σ'
  own : ∀ p ∈ σ', ∀ g, blk (ρ' p.1) = some g → w.heap.size ≤ g ∨ ownB σ ρ g
  same : ∀ i, chg i = false → ρ' i = ρ i

/-- f, called with what reads as ss, where the caller's objects are σ, returns what reads as d; the objects are σ' then. -/
def XCall (P : Program) (f : FuncId) (ss : List S) (σ σ' : Obs) (chg : Nat → Bool) (d : D) : Prop := Enters P f ∧
  ∀ (F : Nat → Prop) (ρ : Nat → Value) (B : Nat) (w : World) (vs : List Value), (∀ b, F b → b < w.heap.size) → B ≤ w.heap.size → ObsOk B F ρ w σ → RepSL F ρ w vs ss →
    Calls P f vs.toArray w fun e w' => ∃ v F' ρ', e = .returned v ∧ Rep F' w' v d ∧ XEnd B F ρ w σ F' ρ' w' σ' chg

theorem XCall.le {P : Program} {f : FuncId} {ss : List S} {σ σ' : Obs} {chg : Nat → Bool} {d d' : D} (h : XCall P f ss σ σ' chg d) (hd : Le d d') : XCall P f ss σ σ' chg d' :=
  ⟨h.1, fun F ρ B w vs h1 h2 h3 h4 => (h.2 F ρ B w vs h1 h2 h3 h4).mono fun _ _ ⟨v, F', ρ', h5, h6, h7⟩ => ⟨v, F', ρ', h5, hd _ _ _ h6, h7⟩⟩

theorem ObOk.more {B : Nat} {F F2 : Nat → Prop} {ρ : Nat → Value} {w : World} {id : Nat} {o : Ob} (h : ObOk B F ρ w id o) (hF : ∀ b, F b → b < w.heap.size) (hu : ∀ b, F b → F2 b) (hn : ∀ g, blk (ρ id) = some g → ¬ F2 g) : ObOk B F2 ρ w id o := by
  cases o with
  | row e size els =>
    obtain ⟨xs, h1, h2, h3, h4⟩ := h
    exact ⟨xs, h1, h2, fun k hk j hj => ⟨(h3 k hk j hj).1, (h3 k hk j hj).2.mono hu fun _ _ => rfl⟩, hn⟩
  | cells ss =>
    obtain ⟨g, e, cs, h1, h2, h3, h4, h5, h6⟩ := h
    exact ⟨g, e, cs, h1, h2, hn g (by rw [h1]; rfl), h4, h5, fun j hj hj' => ⟨(h6 j hj hj').1, RepS.turn (row := none) (h6 j hj hj').2 hF (fun g hg => by simp at hg) ⟨rfl, rfl, rfl, Nat.le_refl _, fun _ _ _ => rfl⟩ hu⟩⟩
  | cellsT ty0 ss =>
    obtain ⟨g, cs, h1, h2, h3, h4, h5, h6⟩ := h
    exact ⟨g, cs, h1, h2, hn g (by rw [h1]; rfl), h4, h5, fun j hj hj' => ⟨(h6 j hj hj').1, RepS.turn (row := none) (h6 j hj hj').2 hF (fun g hg => by simp at hg) ⟨rfl, rfl, rfl, Nat.le_refl _, fun _ _ _ => rfl⟩ hu⟩⟩
  | map M =>
    obtain ⟨g, es, cl, h1, h2, h3, h4, h5, h6⟩ := h
    exact ⟨g, es, cl, h1, h2, hn g (by rw [h1]; rfl), h4, h5, fun j hj hj' => ⟨(h6 j hj hj').1, (h6 j hj hj').2.mono hu fun _ _ => rfl⟩⟩
  | rowS e size els =>
    obtain ⟨xs, h1, h2, h3, h4⟩ := h
    exact ⟨xs, h1, h2, fun k hk j hj => ⟨(h3 k hk j hj).1, RepS.turn (row := none) (h3 k hk j hj).2 hF (fun g hg => by simp at hg) ⟨rfl, rfl, rfl, Nat.le_refl _, fun _ _ _ => rfl⟩ hu⟩, hn⟩
  | bts l =>
    obtain ⟨g, e, cap, cur, fz, h1, h2, h3, h4, h5⟩ := h
    exact ⟨g, e, cap, cur, fz, h1, h2, hn g (by rw [h1]; rfl), h4, h5⟩
  | val ss =>
    obtain ⟨cs, h1, h2, h3⟩ := h
    exact ⟨cs, h1, h2, fun j hj hj' => ⟨(h3 j hj hj').1, RepS.turn (row := none) (h3 j hj hj').2 hF (fun g hg => by simp at hg) ⟨rfl, rfl, rfl, Nat.le_refl _, fun _ _ _ => rfl⟩ hu⟩⟩
  | iter M done =>
    obtain ⟨g, b, es, cl, sn, c0, h1, h2, h3, h4, h5, h6, h7, h8⟩ := h
    exact ⟨g, b, es, cl, sn, c0, h1, h2, hn g (by rw [h1]; rfl), h4, hu b h5, h6, h7, fun j hj hj' => ⟨(h8 j hj hj').1, (h8 j hj hj').2.mono hu fun _ _ => rfl⟩⟩

def Env.argsS : Nat → List S → Env
  | _, [] => fun _ => .d .any
  | k, d :: ds => fun u => match Nat.beq u k with | true => d | false => Env.argsS (k + 1) ds u
theorem Env.argsS_get : ∀ (ds : List S) (k t : Nat), (h : t < ds.length) → Env.argsS k ds (k + t) = ds[t]
  | [], _, _, h => absurd h (by simp)
  | d :: ds, k, t, h => by
    cases t with
    | zero => simp [Env.argsS]
    | succ t =>
      have hb : Nat.beq (k + (t + 1)) k = false := by rw [Bool.eq_false_iff]; intro hh; have := Nat.eq_of_beq_eq_true hh; omega
      simp only [Env.argsS, hb]
      have := Env.argsS_get ds (k + 1) t (by simpa using h)
      rw [show k + (t + 1) = k + 1 + t by omega, this]
      simp
theorem Env.argsS_out : ∀ (ds : List S) (k t : Nat), (h : ds.length ≤ t) → Env.argsS k ds (k + t) = .d .any
  | [], _, _, _ => rfl
  | d :: ds, k, t, h => by
    have hb : Nat.beq (k + t) k = false := by rw [Bool.eq_false_iff]; intro hh; have := Nat.eq_of_beq_eq_true hh; simp at h; omega
    simp only [Env.argsS, hb]
    have := Env.argsS_out ds (k + 1) (t - 1) (by simp at h; omega)
    rw [show k + t = k + 1 + (t - 1) by simp at h; omega, this]

def RetDX (e : Env) (σ σ' : Obs) (t : Nat) (d : D) : Prop := (∃ d0, e t = .d d0 ∧ Le d0 d) ∨ ∃ id ee size els, e t = .own id ∧ (id, Ob.row ee size els) ∈ σ ∧ (∀ q ∈ σ', q.1 ≠ id) ∧ d = .sl els
theorem RetDX.eq {e : Env} {σ σ' : Obs} {t : Nat} {d d' : D} (h : e t = .d d) (hd : d = d') : RetDX e σ σ' t d' := .inl ⟨d, h, Le.of_eq hd⟩
theorem RetDX.nil {e : Env} {σ σ' : Obs} {t : Nat} (h : e t = .d (.v (.slice none 0 0))) : RetDX e σ σ' t (.sl []) := .inl ⟨_, h, Le.nil⟩
theorem RetDX.own {e : Env} {σ σ' : Obs} {t id ee size : Nat} {els els' : List (List D)} (h : e t = .own id) (hm : (id, Ob.row ee size els) ∈ σ) (hn : Obs.fresh id σ' = true) (hd : els = els') : RetDX e σ σ' t (.sl els') :=
  .inr ⟨id, ee, size, els, h, hm, Obs.fresh_spec hn, by rw [hd]⟩
def RetLX (e : Env) (σ σ' : Obs) : List Nat → List D → Prop
  | [], [] => True
  | t :: ts, d :: ds => RetDX e σ σ' t d ∧ RetLX e σ σ' ts ds
  | _, _ => False
def AllIn (σ : Obs) : Obs → Prop
  | [] => True
  | p :: l => p ∈ σ ∧ AllIn σ l
theorem AllIn.mem {σ : Obs} : ∀ {l : Obs}, AllIn σ l → ∀ p ∈ l, p ∈ σ
  | [], _, p, hp => by cases hp
  | x :: l, h, p, hp => by
    cases hp with
    | head => exact h.1
    | tail _ hp => exact h.2.mem p hp
def RetX (ts : List Nat) (ds : List D) (σ' : Obs) : Post := fun ex e σ => match ex with
  | .ret => RetLX e σ σ' ts ds ∧ AllIn σ σ'
  | .normal => RetLX e σ σ' ts ds ∧ AllIn σ σ'
  | _ => False

def endFX (F : Nat → Prop) (ρ : Nat → Value) (σ σ' : Obs) : Nat → Prop := fun b => F b ∨ ∃ p ∈ σ, (∀ q ∈ σ', q.1 ≠ p.1) ∧ blk (ρ p.1) = some b

theorem RetDX.rep {cx : Cx} {F : Nat → Prop} {ρ : Nat → Value} {e : Env} {σ σ' : Obs} {a : Act} {w : World} (h : R0 cx F ρ e σ a w) {t : Nat} {d : D} (hd : RetDX e σ σ' t d) : Rep (endFX F ρ σ σ') w (a.tmps.getD t undef) d := by
  have hx := h.env t
  rcases hd with ⟨d0, h1, h2⟩ | ⟨id, ee, size, els, h1, h2, h3, rfl⟩
  · rw [h1] at hx
    exact h2 _ _ _ ((repS_d hx).mono (fun b hb => .inl hb) fun _ _ => rfl)
  · rw [h1] at hx
    generalize a.tmps.getD t undef = x at hx
    cases hx
    exact h.rep_row h2 (fun b hb => .inl hb) (fun g hg => .inr ⟨_, h2, h3, hg⟩)
theorem RetLX.rep {cx : Cx} {F : Nat → Prop} {ρ : Nat → Value} {e : Env} {σ σ' : Obs} {a : Act} {w : World} (h : R0 cx F ρ e σ a w) : ∀ {ts : List Nat} {ds : List D}, RetLX e σ σ' ts ds → RepL (endFX F ρ σ σ') w (ts.map fun t => a.tmps.getD t undef) ds
  | [], [], _ => RepL.nil
  | _ :: _, _ :: _, hd => RepL.cons (hd.1.rep h) (RetLX.rep h hd.2)
  | [], _ :: _, hd => hd.elim
  | _ :: _, [], hd => hd.elim

theorem xcall_of {P : Program} {f : FuncId} {fn : Func} {c : Code} {n : Nat} {ss : List S} {σ σ' : Obs} {chg : Nat → Bool} {ds' : List D} (hf : P.funcs[f]? = some fn) (hb : fn.body = some c) (hn : (fn.name == "runtime.NumGoroutine") = false) (hN : fn.ntmps = n)
    (ts : List Nat) (hr : fn.results = (ts.map ResultVar.tmp).toArray) (hle' : Nat.ble ss.length n = true)
    (h : ∀ B w0 F0 fr ρ0, AWP ⟨P, n, B, w0, F0, fr, fun i => !(chg i), ρ0⟩ c (Env.argsS 0 ss) σ (RetX ts ds' σ')) : XCall P f ss σ σ' chg (retOf ds') := by
  have hle : ss.length ≤ n := Nat.le_of_ble_eq_true hle'
  refine ⟨Enters.of hf hn (by rw [hb]; rfl), fun F ρ B w vs hF hB hσ hv => ?_⟩
  refine calls_of_wp hf hb ?_
  have hR : R ⟨P, n, B, w, F, (fun b => w.heap.size ≤ b ∨ ownB σ ρ b), fun i => !(chg i), ρ⟩ (Env.argsS 0 ss) σ { tmps := vs.toArray ++ Array.replicate (fn.ntmps - vs.toArray.size) undef, defers := [] } w := by
    refine ⟨F, ρ, ?_, rfl, hF, fun b hb => hb, fun b hb => .inl hb, Kept.refl _ _, hB, fun t => ?_, hσ, fun b hb => .inl hb, fun p hp g hg => .inr ⟨p, hp, hg⟩, fun i _ => rfl⟩
    · simp [hN, hv.1]; omega
    · by_cases ht : t < ss.length
      · have := Env.argsS_get ss 0 t ht
        rw [Nat.zero_add] at this
        rw [this]
        have hvt : t < vs.length := by rw [hv.1]; exact ht
        have : (vs.toArray ++ Array.replicate (fn.ntmps - vs.toArray.size) undef).getD t undef = vs[t] := by
          rw [Array.getD_eq_getD_getElem?, Array.getElem?_append_left (by simpa using hvt)]
          simp [hvt]
        rw [this]
        exact hv.2 t hvt ht
      · have := Env.argsS_out ss 0 t (by omega)
        rw [Nat.zero_add] at this
        rw [this]
        exact .d (.any _)
  refine wp_mono (h _ _ _ _ _ _ _ hR) ?_
  rintro ex a w' ⟨e', σe, hq, F', ρ', hr'⟩
  have hres : (results fn a.tmps).run P w' = .ok (match ts.map fun t => a.tmps.getD t undef with | [x] => x | l => .tuple l.toArray) w' := by
    have key : ∀ (ts : List Nat), (List.mapM (fun r => match r with | .tmp t => pure (a.tmps.getD t undef) | .cell b t => do loadVar t (← asAddr (a.tmps.getD b undef))) (ts.map ResultVar.tmp) : Sem (List Value)).run P w' = .ok (ts.map fun t => a.tmps.getD t undef) w' := by
      intro ts
      induction ts with
      | nil => rfl
      | cons t ts ih =>
        rw [List.map_cons, List.mapM_cons, Sem.run_bind]
        simp only [Sem.run_pure, Result.andThen_ok, Sem.run_bind, ih, List.map_cons]
    unfold results
    rw [hr, Sem.run_bind]
    have h2 : (Array.mapM (fun r => match r with | ResultVar.tmp t => pure (a.tmps.getD t undef) | ResultVar.cell b t => do loadVar t (← asAddr (a.tmps.getD b undef))) (ts.map ResultVar.tmp).toArray : Sem (Array Value)).run P w' = .ok (ts.map fun t => a.tmps.getD t undef).toArray w' := by
      rw [List.mapM_toArray, Sem.run_map, key]
      rfl
    have h3 := h2
    refine (congrArg (fun r => Result.andThen r _) h3).trans ?_
    simp only [Result.andThen_ok]
    rcases ts with _ | ⟨t, _ | ⟨t2, ts⟩⟩ <;> rfl
  have hends : RetLX e' σe σ' ts ds' ∧ AllIn σe σ' → bodyPost P fn (fun e w' => ∃ v F' ρ', e = .returned v ∧ Rep F' w' v (retOf ds') ∧ XEnd B F ρ w σ F' ρ' w' σ' chg) .ret a w' := by
    rintro ⟨hq, hin⟩
    have hl := hq.rep hr'
    have hin := hin.mem
    refine ⟨hr'.defers, _, hres, _, endFX F' ρ' σe σ', ρ', rfl, ?_, ?_⟩
    · generalize (ts.map fun t => a.tmps.getD t undef) = vs' at hl
      obtain ⟨h1, h2⟩ := hl
      rcases ds' with _ | ⟨d, _ | ⟨d2, ds'⟩⟩
      · have : vs' = [] := List.eq_nil_of_length_eq_zero h1
        subst this
        exact .tup [] [] rfl (fun i h1 => absurd h1 (by simp))
      · rcases vs' with _ | ⟨x, _ | ⟨y, vs'⟩⟩ <;> simp at h1
        exact h2 0 (by simp) (by simp)
      · rcases vs' with _ | ⟨x, _ | ⟨y, vs'⟩⟩
        · simp at h1
        · simp at h1
        · exact .tup _ _ h1 h2
    · have hlt : ∀ b, endFX F' ρ' σe σ' b → b < w'.heap.size := by
        rintro b (hb | ⟨p, hp, _, hb⟩)
        · exact hr'.lt b hb
        · exact ((hr'.obs.ok p hp).blk_lt hb).2
      refine ⟨fun b hb => .inl (hr'.base b hb), ?_, hlt, hr'.below, ⟨fun p hp => ?_, fun p hp q hq => hr'.obs.apart p (hin p hp) q (hin q hq), fun p hp q hq => hr'.obs.uniq p (hin p hp) q (hin q hq)⟩, fun p hp => hr'.kown p (hin p hp), fun i hi => hr'.fixed i (by show (!(chg i)) = true; rw [hi]; rfl)⟩
      · rintro b (hb | ⟨p, hp, _, hb⟩)
        · exact hr'.new b hb
        · exact .inr (hr'.kown p hp b hb)
      · refine (hr'.obs.ok p (hin p hp)).more hr'.lt (fun b hb => .inl hb) ?_
        rintro g hg (hf | ⟨q, hq, hne, hb⟩)
        · exact (hr'.obs.ok p (hin p hp)).nF hg hf
        · exact hr'.obs.apart p (hin p hp) q hq (hne p hp) g hg hb
  cases ex with
  | ret => exact hends hq
  | normal => exact hends hq
  | exit id => exact hq.elim
  | goto l => exact hq.elim
  | panic c => exact hq.elim
  | outgrown => exact hq.elim

/-! ## The caller -/
def S.killP (c : Nat → Bool) : S → S
  | .own i => match c i with | true => .d .any | false => .own i
  | .ptr i off => match c i with | true => .d .any | false => .ptr i off
  | .d x => .d x
  | .clo f caps => match Cap.anyP c caps with | true => .d .any | false => .clo f caps
def Env.killP (c : Nat → Bool) (e : Env) : Env := fun t => (e t).killP c
def Ob.killP (c : Nat → Bool) : Ob → Ob
  | .row e size els => .row e size els
  | .cells ss => .cells (ss.map (S.killP c))
  | .cellsT e ss => .cellsT e (ss.map (S.killP c))
  | .map M => .map M
  | .rowS e size els => .rowS e size (els.map fun ss => ss.map (S.killP c))
  | .bts l => .bts l
  | .val ss => .val (ss.map (S.killP c))
  | .iter M done => .iter M done
def Obs.killP (c : Nat → Bool) : Obs → Obs
  | [] => []
  | p :: l => (p.1, p.2.killP c) :: Obs.killP c l
def Obs.dels : Obs → Obs → Obs
  | [], σ => σ
  | p :: l, σ => Obs.dels l (Obs.del p.1 σ)
def Obs.join : Obs → Obs → Obs
  | [], σ => σ
  | p :: l, σ => p :: Obs.join l σ
def Obs.allIds (c : Nat → Bool) : Obs → Bool
  | [] => true
  | p :: l => c p.1 && Obs.allIds c l
theorem Obs.allIds_mem {c : Nat → Bool} : ∀ {σ : Obs}, Obs.allIds c σ = true → ∀ p ∈ σ, c p.1 = true
  | [], _, p, hp => by cases hp
  | x :: l, h, p, hp => by
    simp only [Obs.allIds, Bool.and_eq_true] at h
    cases hp with
    | head => exact h.1
    | tail _ hp => exact Obs.allIds_mem h.2 p hp
theorem Obs.mem_join {a b : Obs} {p : Nat × Ob} : p ∈ Obs.join a b → p ∈ a ∨ p ∈ b := by
  induction a with
  | nil => exact fun h => .inr h
  | cons x l ih =>
    intro h
    cases h with
    | head => exact .inl (.head _)
    | tail _ h => exact (ih h).imp (.tail _) id
theorem Obs.mem_killP {c : Nat → Bool} : ∀ {σ : Obs} {p : Nat × Ob}, p ∈ Obs.killP c σ → ∃ q ∈ σ, p = (q.1, q.2.killP c)
  | [], _, h => by cases h
  | x :: l, p, h => by
    unfold Obs.killP at h
    cases h with
    | head => exact ⟨x, by simp, rfl⟩
    | tail _ h => obtain ⟨q, hq, he⟩ := Obs.mem_killP h; exact ⟨q, List.mem_cons_of_mem _ hq, he⟩
theorem Obs.mem_dels : ∀ {l σ : Obs} {p : Nat × Ob}, p ∈ Obs.dels l σ → p ∈ σ ∧ ∀ q ∈ l, p.1 ≠ q.1
  | [], _, _, h => ⟨h, fun q hq => by cases hq⟩
  | x :: l, σ, p, h => by
    obtain ⟨h1, h2⟩ := Obs.mem_dels (l := l) h
    obtain ⟨h3, h4⟩ := Obs.mem_del h1
    refine ⟨h3, fun q hq => ?_⟩
    cases hq with
    | head => exact h4
    | tail _ hq => exact h2 q hq

theorem RepS.over {F F' : Nat → Prop} {ρ ρ' : Nat → Value} {w w' : World} {x : Value} {s : S} {chg : Nat → Bool} (h : RepS F ρ w x s) (hu : ∀ b, F b → F' b) (hw : ∀ b, F b → w'.heap[b]? = w.heap[b]?) (hρ : ∀ i, chg i = false → ρ' i = ρ i) : RepS F' ρ' w' x (s.killP chg) := by
  cases h with
  | d h => exact .d (h.mono hu hw)
  | own i =>
    cases hb : chg i with
    | true => simp only [S.killP, hb]; exact .d (.any _)
    | false => simp only [S.killP, hb]; rw [← hρ i hb]; exact .own i
  | ptr i off g h =>
    cases hb : chg i with
    | true => simp only [S.killP, hb]; exact .d (.any _)
    | false => simp only [S.killP, hb]; exact .ptr i off g (by rw [hρ i hb]; exact h)
  | clo f cs caps h =>
    cases hb : Cap.anyP chg caps with
    | true => simp only [S.killP, hb]; exact .d (.any _)
    | false => simp only [S.killP, hb]; exact .clo f cs caps (h.to chg (fun _ _ h => h.mono hu hw) hρ hb)

theorem ObOk.over {B : Nat} {F F' : Nat → Prop} {ρ ρ' : Nat → Value} {w w' : World} {id : Nat} {o : Ob} {chg : Nat → Bool} (h : ObOk B F ρ w id o) (hid : chg id = false) (hu : ∀ b, F b → F' b) (hw : ∀ b, F b → w'.heap[b]? = w.heap[b]?) (hρ : ∀ i, chg i = false → ρ' i = ρ i)
    (hg : ∀ g, blk (ρ id) = some g → w'.heap[g]? = w.heap[g]? ∧ ¬ F' g) : ObOk B F' ρ' w' id (o.killP chg) := by
  cases o with
  | row e size els =>
    obtain ⟨xs, h1, h2, h3, h4⟩ := h
    refine ⟨xs, ?_, h2, fun k hk j hj => ⟨(h3 k hk j hj).1, (h3 k hk j hj).2.mono hu hw⟩, fun g hg' => (hg g (by rw [← hρ id hid]; exact hg')).2⟩
    rw [hρ id hid]
    refine ⟨h1.1, ?_⟩
    rcases h1.2 with h5 | ⟨g, cap, cur, h5, h6, h7, h8⟩
    · exact .inl h5
    · refine .inr ⟨g, cap, cur, h5, h6, ?_, h8⟩
      rw [(hg g (by rw [h5]; rfl)).1]
      exact h7
  | cells ss =>
    obtain ⟨g, e, cs, h1, h2, h3, h4, h5, h6⟩ := h
    have hgg := hg g (by rw [h1]; rfl)
    refine ⟨g, e, cs, by rw [hρ id hid]; exact h1, h2, hgg.2, by rw [hgg.1]; exact h4, by simp [h5], fun j hj hj' => ⟨(h6 j hj (by simpa using hj')).1, ?_⟩⟩
    rw [List.getElem_map]
    exact (h6 j hj (by simpa using hj')).2.over hu hw hρ
  | cellsT ty0 ss =>
    obtain ⟨g, cs, h1, h2, h3, h4, h5, h6⟩ := h
    have hgg := hg g (by rw [h1]; rfl)
    refine ⟨g, cs, by rw [hρ id hid]; exact h1, h2, hgg.2, by rw [hgg.1]; exact h4, by simp [h5], fun j hj hj' => ⟨(h6 j hj (by simpa using hj')).1, ?_⟩⟩
    rw [List.getElem_map]
    exact (h6 j hj (by simpa using hj')).2.over hu hw hρ
  | map M =>
    obtain ⟨g, es, cl, h1, h2, h3, h4, h5, h6⟩ := h
    have hgg := hg g (by rw [h1]; rfl)
    exact ⟨g, es, cl, by rw [hρ id hid]; exact h1, h2, hgg.2, by rw [hgg.1]; exact h4, h5, fun j hj hj' => ⟨(h6 j hj hj').1, (h6 j hj hj').2.mono hu hw⟩⟩
  | rowS e size els =>
    obtain ⟨xs, h1, h2, h3, h4⟩ := h
    refine ⟨xs, ?_, fun k hk => by rw [List.getElem_map, List.length_map]; exact h2 k (by simpa using hk), fun k hk j hj => ?_, fun g hg' => (hg g (by rw [← hρ id hid]; exact hg')).2⟩
    · rw [hρ id hid, List.length_map]
      refine ⟨h1.1, ?_⟩
      rcases h1.2 with h5 | ⟨g, cap, cur, h5, h6, h7, h8⟩
      · exact .inl h5
      · refine .inr ⟨g, cap, cur, h5, h6, ?_, h8⟩
        rw [(hg g (by rw [h5]; rfl)).1]
        exact h7
    · have hk' : k < els.length := by simpa using hk
      have hj' : j < els[k].length := by simpa using hj
      simp only [List.getElem_map]
      exact ⟨(h3 k hk' j hj').1, (h3 k hk' j hj').2.over hu hw hρ⟩
  | bts l =>
    obtain ⟨g, e, cap, cur, fz, h1, h2, h3, h4, h5⟩ := h
    have hgg := hg g (by rw [h1]; rfl)
    exact ⟨g, e, cap, cur, fz, by rw [hρ id hid]; exact h1, h2, hgg.2, by rw [hgg.1]; exact h4, h5⟩
  | val ss =>
    obtain ⟨cs, h1, h2, h3⟩ := h
    refine ⟨cs, by rw [hρ id hid]; exact h1, by simp [h2], fun j hj hj' => ⟨(h3 j hj (by simpa using hj')).1, ?_⟩⟩
    rw [List.getElem_map]
    exact (h3 j hj (by simpa using hj')).2.over hu hw hρ
  | iter M done =>
    obtain ⟨g, b, es, cl, sn, c0, h1, h2, h3, h4, h5, h6, h7, h8⟩ := h
    have hgg := hg g (by rw [h1]; rfl)
    exact ⟨g, b, es, cl, sn, c0, by rw [hρ id hid]; exact h1, h2, hgg.2, by rw [hgg.1]; exact h4, hu b h5, by rw [hw b h5]; exact h6, h7, fun j hj hj' => ⟨(h8 j hj hj').1, (h8 j hj hj').2.mono hu hw⟩⟩

theorem ObsOk.sub {B : Nat} {F : Nat → Prop} {ρ : Nat → Value} {w : World} {σ σ' : Obs} (h : ObsOk B F ρ w σ) (hs : ∀ p ∈ σ', p ∈ σ) : ObsOk B F ρ w σ' :=
  ⟨fun p hp => h.ok p (hs p hp), fun p hp q hq => h.apart p (hs p hp) q (hs q hq), fun p hp q hq => h.uniq p (hs p hp) q (hs q hq)⟩

/-- After such a call. -/
theorem R0.after {cx : Cx} {F F' : Nat → Prop} {ρ ρ' : Nat → Value} {e : Env} {σ σc σ' : Obs} {a : Act} {w w' : World} {chg : Nat → Bool} (hr : R0 cx F ρ e σ a w) (hin : ∀ p ∈ σc, p ∈ σ) (hx : XEnd cx.B F ρ w σc F' ρ' w' σ' chg)
    (h1 : Obs.allIds (fun i => !(chg i)) (Obs.dels σc σ) = true) (h2 : Obs.allIds (fun i => Obs.allIds (fun j => !(Nat.beq i j)) (Obs.dels σc σ)) σ' = true) (h3 : ∀ i, chg i = true → cx.fixp i = false) :
    R0 cx F' ρ' (e.killP chg) (Obs.join σ' (Obs.killP chg (Obs.dels σc σ))) a w' := by
  have hown : ∀ b, ownB σc ρ b → cx.fr b ∧ ¬ F b ∧ b < w.heap.size := fun b ⟨p, hp, hb⟩ => ⟨hr.kown p (hin p hp) b hb, (hr.obs.ok p (hin p hp)).nF hb, ((hr.obs.ok p (hin p hp)).blk_lt hb).2⟩
  have hfr : ∀ b, (w.heap.size ≤ b ∨ ownB σc ρ b) → cx.fr b := fun b hb => by
    rcases hb with hb | hb
    · exact hr.up _ (Nat.le_trans hr.below.size hb)
    · exact (hown b hb).1
  have hw : ∀ b, F b → w'.heap[b]? = w.heap[b]? := fun b hb => hx.kept.block b (hr.lt b hb) (fun hh => by
    rcases hh with hh | hh
    · have := hr.lt b hb; omega
    · exact (hown b hh).2.1 hb)
  have hrest : ∀ p ∈ Obs.dels σc σ, p ∈ σ ∧ (∀ q ∈ σc, p.1 ≠ q.1) ∧ chg p.1 = false := fun p hp => by
    obtain ⟨h4, h5⟩ := Obs.mem_dels hp
    have := Obs.allIds_mem h1 p hp
    exact ⟨h4, h5, by simpa using this⟩
  have hblk : ∀ p ∈ Obs.dels σc σ, ∀ g, blk (ρ p.1) = some g → g < w.heap.size ∧ ¬ ownB σc ρ g ∧ ¬ F g := fun p hp g hg => by
    obtain ⟨h4, h5, _⟩ := hrest p hp
    exact ⟨((hr.obs.ok p h4).blk_lt hg).2, fun ⟨q, hq, hb⟩ => hr.obs.apart p h4 q (hin q hq) (h5 q hq) g hg hb, (hr.obs.ok p h4).nF hg⟩
  refine ⟨hr.size, hr.defers, hx.lt, fun b hb => hx.up b (hr.base b hb), fun b hb => ?_, ?_, Nat.le_trans hr.hB hx.kept.size, fun t => (hr.env t).over hx.up hw hx.same, ?_, hr.up, fun p hp g hg => ?_, fun i hi => ?_⟩
  · rcases hx.new b hb with h4 | h4
    · exact hr.new b h4
    · exact .inr (hfr b h4)
  · exact ⟨hx.kept.os.trans hr.below.os, hx.kept.tape.trans hr.below.tape, hx.kept.output.trans hr.below.output, Nat.le_trans hr.below.size hx.kept.size, fun k hk hf => by
      rw [hx.kept.block k (Nat.lt_of_lt_of_le hk hr.below.size) (fun hh => hf (hfr k hh)), hr.below.block k hk hf]⟩
  · have hmix : ∀ p ∈ σ', ∀ q ∈ Obs.dels σc σ, p.1 ≠ q.1 ∧ ∀ g, blk (ρ' p.1) = some g → blk (ρ' q.1) ≠ some g := fun p hp q hq => by
      refine ⟨fun he => ?_, fun g hg hg2 => ?_⟩
      · have := Obs.allIds_mem (Obs.allIds_mem h2 p hp) q hq
        rw [he] at this
        simp at this
      · rw [hx.same _ (hrest q hq).2.2] at hg2
        obtain ⟨h4, h5, _⟩ := hblk q hq g hg2
        rcases hx.own p hp g hg with h6 | h6
        · omega
        · exact h5 h6
    refine ⟨fun p hp => ?_, fun p hp q hq hne g hg => ?_, fun p hp q hq he => ?_⟩
    · rcases Obs.mem_join hp with hp | hp
      · exact hx.obs.ok p hp
      · obtain ⟨q, hq, rfl⟩ := Obs.mem_killP hp
        obtain ⟨h4, h5, h6⟩ := hrest q hq
        refine (hr.obs.ok q h4).over h6 hx.up hw hx.same fun g hg => ?_
        obtain ⟨h7, h8, h9⟩ := hblk q hq g hg
        have hnn : ¬ (w.heap.size ≤ g ∨ ownB σc ρ g) := fun hh => by
          rcases hh with hh | hh
          · omega
          · exact h8 hh
        refine ⟨hx.kept.block g h7 hnn, fun hf => ?_⟩
        rcases hx.new g hf with h10 | h10
        · exact h9 h10
        · exact hnn h10
    · rcases Obs.mem_join hp with hp | hp
      · rcases Obs.mem_join hq with hq | hq
        · exact hx.obs.apart p hp q hq hne g hg
        · obtain ⟨q', hq', rfl⟩ := Obs.mem_killP hq
          exact (hmix p hp q' hq').2 g hg
      · obtain ⟨p', hp', rfl⟩ := Obs.mem_killP hp
        rcases Obs.mem_join hq with hq | hq
        · exact fun he => (hmix q hq p' hp').2 g he hg
        · obtain ⟨q', hq', rfl⟩ := Obs.mem_killP hq
          simp only at hg hne ⊢
          rw [hx.same _ (hrest p' hp').2.2] at hg
          rw [hx.same _ (hrest q' hq').2.2]
          exact hr.obs.apart p' (hrest p' hp').1 q' (hrest q' hq').1 hne g hg
    · rcases Obs.mem_join hp with hp | hp
      · rcases Obs.mem_join hq with hq | hq
        · exact hx.obs.uniq p hp q hq he
        · obtain ⟨q', hq', rfl⟩ := Obs.mem_killP hq
          exact absurd he (hmix p hp q' hq').1
      · obtain ⟨p', hp', rfl⟩ := Obs.mem_killP hp
        rcases Obs.mem_join hq with hq | hq
        · exact absurd he.symm (hmix q hq p' hp').1
        · obtain ⟨q', hq', rfl⟩ := Obs.mem_killP hq
          have := hr.obs.uniq p' (hrest p' hp').1 q' (hrest q' hq').1 he
          rw [this]
  · rcases Obs.mem_join hp with hp | hp
    · exact hfr g (hx.own p hp g hg)
    · obtain ⟨q, hq, rfl⟩ := Obs.mem_killP hp
      simp only at hg
      rw [hx.same _ (hrest q hq).2.2] at hg
      exact hr.kown q (hrest q hq).1 g hg
  · have : chg i = false := by
      cases hc : chg i with
      | false => rfl
      | true => rw [h3 i hc] at hi; simp at hi
    rw [hx.same i this]
    exact hr.fixed i hi

def ArgsS (e : Env) : List Operand → List S → Prop
  | [], [] => True
  | x :: xs, s :: ss => SLe (e.ev x) s ∧ ArgsS e xs ss
  | _, _ => False
theorem ArgsS.nil {e : Env} : ArgsS e [] [] := trivial
theorem ArgsS.cons {e : Env} {x : Operand} {s : S} {xs : List Operand} {ss : List S} (h : SLe (e.ev x) s) (k : ArgsS e xs ss) : ArgsS e (x :: xs) (s :: ss) := ⟨h, k⟩
theorem ArgsS.rep {e : Env} {F : Nat → Prop} {ρ : Nat → Value} {w : World} {a : Act} (ha : ∀ t, RepS F ρ w (a.tmps.getD t undef) (e t)) : ∀ {xs : List Operand} {ss : List S}, ArgsS e xs ss → RepSL F ρ w (xs.map a.eval) ss
  | [], [], _ => ⟨rfl, fun i h => absurd h (by simp)⟩
  | x :: xs, s :: ss, h => by
    have h1 := ArgsS.rep ha h.2
    refine ⟨by simp [h1.1], fun i h2 h3 => ?_⟩
    cases i with
    | zero => exact h.1 _ _ _ _ (ev_rep fun t _ => ha t)
    | succ i => exact h1.2 i (by simpa using h2) (by simpa using h3)
  | [], _ :: _, h => h.elim
  | _ :: _, [], h => h.elim

section
variable {cx : Cx} {ops : Array Oper} {o : Oper} {rest : List Oper} {e : Env} {σ : Obs} {Q : Post}
theorem AOps.callX {f : FuncId} {xs : List Operand} {ts : Array TypeId} {ss : List S} {σc σ' : Obs} {chg : Nat → Bool} {d : D} (hg : o.guard = none) (hd : DstOk cx.N o)
    (ho : o.op = .call { callee := .value (.func f), args := xs.toArray, argTypes := ts }) (ha : ArgsS e xs ss) (h : XCall cx.P f ss σc σ' chg d) (hin : AllIn σ σc)
    (h1 : Obs.allIds (fun i => !(chg i)) (Obs.dels σc σ) = true) (h2 : Obs.allIds (fun i => Obs.allIds (fun j => !(Nat.beq i j)) (Obs.dels σc σ)) σ' = true) (h3 : ∀ i, chg i = true → cx.fixp i = false)
    (k : AOps cx ops rest ((e.killP chg).put o.dst (.d d)) (Obs.join σ' (Obs.killP chg (Obs.dels σc σ))) Q) : AOps cx ops (o :: rest) e σ Q := by
  intro a w ⟨F, ρ, hr⟩
  have h4 := h.2 F ρ cx.B w _ hr.lt hr.hB (hr.obs.sub hin.mem) (ArgsS.rep hr.env ha)
  have h5 := h.1 (xs.map a.eval).toArray w
  have hx : (execOp a.eval o).run cx.P w = .ok (.enter f (xs.map a.eval).toArray) w := by
    unfold execOp
    simp only [ho, resolve, Deferred.ofValue, Act.eval, invoke, Sem.run_bind, Sem.run_pure, Result.andThen_ok]
    simpa using h5
  refine wpList_plain hg fun K hK => ?_
  unfold Oper.wp
  rw [hx]
  refine h4.mono fun _ w' ⟨v, F', ρ', he, hv, hE⟩ => ?_
  subst he
  exact hK _ _ (k _ _ ⟨F', ρ', (hr.after hin.mem hE h1 h2 h3).put (Ext.refl hE.lt) (.d hv) hd⟩)
end

/-- A call that only reads is such a call of no objects. -/
theorem ACall.toX {P : Program} {f : FuncId} {ds : List D} {d : D} (h : ACall P f ds d) (chg : Nat → Bool) : XCall P f (ds.map S.d) [] [] chg d :=
  ⟨h.1, fun F ρ B w vs hF hB _ hv => by
    refine (h.2 F w vs hF ⟨by simpa using hv.1, fun i h1 h2 => ?_⟩).mono fun e w' ⟨v, F', he, hr, hE⟩ => ⟨v, F', ρ, he, hr, hE.up, fun b hb => (hE.new b hb).imp id .inl, hE.lt, ⟨hE.below.os, hE.below.tape, hE.below.output, hE.below.size, fun k hk _ => hE.below.block k hk⟩, ⟨fun p hp => by simp at hp, fun p hp => by simp at hp, fun p hp => by simp at hp⟩, fun p hp => by simp at hp, fun _ _ => rfl⟩
    have := hv.2 i h1 (by simpa using h2)
    rw [List.getElem_map] at this
    exact repS_d this⟩
end Go.Proofs.YtnapkooefpkicaaGreatDoor


namespace Go.Proofs.YtnapkooefpkicaaGreatDoor
open Go.RowKit
section
variable {P : Program} {B : Nat} {ops : Array Oper} {o : Oper} {e : Env} {σ : Obs}
theorem eqGuard_bool (op : BinOp) (t : TypeId) (x y : Operand) (a b : Bool) (w : World) : (eqGuard op t x y (.bool a) (.bool b)).run P w = .ok () w := by
  unfold eqGuard; cases op <;> rfl
theorem AOp.beql {t ty : TypeId} {x y : Operand} {a b : Bool} (ho : o.op = .binOp .eql t x y ty) (ht : P.underlying t = some .bool) (hx : e.ev x = .d (.v (.bool a))) (hy : e.ev y = .d (.v (.bool b))) :
    AOp P B ops o e σ (.d (.v (.bool (decide (a = b))))) := .bin ho hx hy fun w => by
  rw [Sem.run_bind, eqGuard_bool]
  have h : (Op.equal t (.bool a) (.bool b)).run P w = .ok (a == b) w := run_equalIn_bool w 9999 t a b ht
  simp only [Result.andThen_ok, binOp, Sem.run_bind, h, Sem.run_pure, Bool.beq_eq_decide_eq]
theorem AOp.bneq {t ty : TypeId} {x y : Operand} {a b : Bool} (ho : o.op = .binOp .neq t x y ty) (ht : P.underlying t = some .bool) (hx : e.ev x = .d (.v (.bool a))) (hy : e.ev y = .d (.v (.bool b))) :
    AOp P B ops o e σ (.d (.v (.bool (decide (a ≠ b))))) := .bin ho hx hy fun w => by
  rw [Sem.run_bind, eqGuard_bool]
  have h : (Op.equal t (.bool a) (.bool b)).run P w = .ok (a == b) w := run_equalIn_bool w 9999 t a b ht
  simp only [Result.andThen_ok, binOp, Sem.run_bind, h, Sem.run_pure]
  cases a <;> cases b <;> rfl
theorem eqGuard_ptr (op : BinOp) (t : TypeId) (x y : Operand) (a b : Option Addr) (w : World) : (eqGuard op t x y (.pointer a) (.pointer b)).run P w = .ok () w := by
  unfold eqGuard; cases op <;> rfl
theorem run_equal_nil {t el : TypeId} (w : World) (a : Option Addr) (ht : P.underlying t = some (.pointer el)) : (Op.equal t (.pointer a) (.pointer none)).run P w = .ok a.isNone w := by
  unfold Op.equal Op.equalIn
  simp only [Op.maxDepth, Sem.run_bind, run_underlying ht, Result.andThen_ok]
  cases a <;> rfl
/-- nil != nil. -/
theorem AOp.nilNe {t ty el : TypeId} {x y : Operand} (ho : o.op = .binOp .neq t x y ty) (ht : P.underlying t = some (.pointer el)) (hx : e.ev x = .d (.v (.pointer none))) (hy : e.ev y = .d (.v (.pointer none))) :
    AOp P B ops o e σ (.d (.v (.bool false))) := .bin ho hx hy fun w => by
  rw [Sem.run_bind, eqGuard_ptr]
  simp only [Result.andThen_ok, binOp, Sem.run_bind, run_equal_nil w none ht, Sem.run_pure]
  rfl
theorem AOp.nilEq {t ty el : TypeId} {x y : Operand} (ho : o.op = .binOp .eql t x y ty) (ht : P.underlying t = some (.pointer el)) (hx : e.ev x = .d (.v (.pointer none))) (hy : e.ev y = .d (.v (.pointer none))) :
    AOp P B ops o e σ (.d (.v (.bool true))) := .bin ho hx hy fun w => by
  rw [Sem.run_bind, eqGuard_ptr]
  simp only [Result.andThen_ok, binOp, Sem.run_bind, run_equal_nil w none ht, Sem.run_pure]
  rfl
/-- A pointer to data != nil. -/
theorem AOp.fpNe {t ty el : TypeId} {x y : Operand} {ds : List D} (ho : o.op = .binOp .neq t x y ty) (ht : P.underlying t = some (.pointer el)) (hx : e.ev x = .d (.fp ds)) (hy : e.ev y = .d (.v (.pointer none))) :
    AOp P B ops o e σ (.d (.v (.bool true))) := .value fun F ρ w a hF hr _ => by
  have h1 := hr x (by rw [ho]; simp [Op.operands])
  have h2 := hr y (by rw [ho]; simp [Op.operands])
  rw [hx] at h1
  rw [hy] at h2
  have h3 := repS_d h1
  refine ⟨.bool true, F, w, ?_, .d (.v _), Ext.refl hF⟩
  unfold execOp
  simp only [ho, repS_v h2]
  generalize a.eval x = v at h3
  cases h3
  rw [Sem.run_bind, Sem.run_bind, eqGuard_ptr]
  simp only [Result.andThen_ok, binOp, Sem.run_bind, run_equal_nil w _ ht, Sem.run_pure]
  rfl
theorem AOp.nilCheck {x : Operand} {ds : List D} (ho : o.op = .nilCheck x) (hx : e.ev x = .d (.fp ds)) : AOp P B ops o e σ (.d (.fp ds)) := .value fun F ρ w a hF hr _ => by
  have h1 := hr x (by rw [ho]; simp [Op.operands])
  rw [hx] at h1
  have h3 := repS_d h1
  refine ⟨a.eval x, F, w, ?_, .d h3, Ext.refl hF⟩
  unfold execOp
  simp only [ho]
  generalize a.eval x = v at h3
  cases h3
  rfl
theorem AOp.nilCheckP {x : Operand} {id off : Nat} (ho : o.op = .nilCheck x) (hx : e.ev x = .ptr id off) : AOp P B ops o e σ (.ptr id off) := .value fun F ρ w a hF hr _ => by
  have h1 := hr x (by rw [ho]; simp [Op.operands])
  rw [hx] at h1
  refine ⟨a.eval x, F, w, ?_, h1, Ext.refl hF⟩
  unfold execOp
  simp only [ho]
  generalize a.eval x = v at h1
  cases h1
  rfl
end
end Go.Proofs.YtnapkooefpkicaaGreatDoor


namespace Go.Proofs.YtnapkooefpkicaaGreatDoor
open Go.RowKit

/-- One cell an element, each of a plain value: the elder word for it. -/
theorem sl_of_rep {α : Type} {F : Nat → Prop} {w : World} {x : Value} (l : List α) (f : α → Value) (h : Rep F w x (.sl (l.map fun a => [D.v (f a)]))) : Sl w 1 x l.length (l.map f) := by
  refine ⟨by simp, ?_⟩
  rcases rep_sl_sl h with ⟨rfl, h2⟩ | ⟨ad, cap, size, vs, rfl, hc, hm, hF, hs, hcell, hone, hrep⟩
  · have : l = [] := by simpa using h2
    subst this
    exact .inl ⟨rfl, rfl⟩
  · rw [List.length_map] at hc hcell
    refine .inr ⟨ad, cap, by simp, hc, hm, fun i hi => ?_⟩
    rw [List.length_map] at hi
    have hs1 : size = 1 := by rw [← hs i (by simpa using hi)]; simp
    subst hs1
    have h3 := hcell i 0 hi (by omega)
    have h4 := hrep i (by simpa using hi) 0 (by simp)
    simp only [List.getElem_map, List.getElem_cons_zero] at h4
    rw [Nat.mul_one, Nat.add_zero] at h3
    rw [h3, rep_v h4]
    simp

def u8D (c : UInt8) : List D := [.v (.int .u8 (c.toNat : Int))]
def u32D (n : Nat) : List D := [.v (.int .u32 (n : Int))]
def intD (n : Int) : List D := [.v (.int .i64 n)]

theorem at_map {α : Type} {l : List α} {f : α → List D} {k : Nat} (h : k < l.length) : (l.map f)[k]? = some (f l[k]) := by simp [h]


section
variable {P : Program} {B : Nat} {ops : Array Oper} {o : Oper} {e : Env} {σ : Obs}
/-- string(b), b frozen bytes. -/
theorem AOp.bytesStr {s t el : TypeId} {x : Operand} {l : List UInt8} (ho : o.op = .convert s t x) (hs : P.underlying s = some (.slice el)) (he : P.underlying el = some (.int .u8)) (hd : P.underlying t = some .string) (hx : e.ev x = .d (.sl (l.map u8D))) :
    AOp P B ops o e σ (.d (.v (.string ⟨l.toArray⟩))) := .value fun F ρ w a hF hr _ => by
  have h1 := hr x (by rw [ho]; simp [Op.operands])
  rw [hx] at h1
  have h2 := sl_of_rep l (fun c => .int .u8 (c.toNat : Int)) (repS_d h1)
  refine ⟨_, F, w, ?_, .d (.v _), Ext.refl hF⟩
  unfold execOp
  simp only [ho]
  rw [Sem.run_bind]
  rcases h2.2 with ⟨h3, h4⟩ | ⟨ad, cap, h3, h4, h5, h6⟩
  · have : l = [] := List.eq_nil_of_length_eq_zero h4
    subst this
    rw [h3, run_convert_bytes_nil w s el hs he 0 0 t hd]
    rfl
  · rw [h3, run_convert_bytes_back w s t el ad cap l hs he hd (fun j hj => by
      have := h6 j (by simpa using hj)
      simpa using this)]
    rfl
end
end Go.Proofs.YtnapkooefpkicaaGreatDoor


namespace Go.Proofs.YtnapkooefpkicaaGreatDoor
open Go.ChangeShapes Go.WideShapes Go.ChangeAt Go.RowKit

theorem blk_append {H : Type} (l r : List (DataW H)) : Rows.uptoBulkAll (l ++ r) = Rows.uptoBulkAll l + Rows.uptoBulkAll r := by
  induction l with
  | nil => simp [Rows.uptoBulkAll]
  | cons x l ih => simp only [List.cons_append, Rows.uptoBulkAll, ih]; omega
def sumOf {α : Type} (B : α → Nat) : List α → Nat
  | [] => 0
  | x :: l => B x + sumOf B l
theorem sumOf_append {α : Type} (B : α → Nat) (l r : List α) : sumOf B (l ++ r) = sumOf B l + sumOf B r := by
  induction l with
  | nil => simp [sumOf]
  | cons x l ih => simp only [List.cons_append, sumOf, ih]; omega
theorem sumOf_mem {α : Type} (B : α → Nat) {l : List α} {x : α} (h : x ∈ l) : B x ≤ sumOf B l := by
  induction l with
  | nil => cases h
  | cons y l ih =>
    simp only [sumOf]
    cases h with
    | head => omega
    | tail _ h => have := ih h; omega
theorem sumOf_len {α : Type} (B : α → Nat) (h1 : ∀ x, 1 ≤ B x) : ∀ l : List α, l.length ≤ sumOf B l
  | [] => by simp [sumOf]
  | x :: l => by have := h1 x; have := sumOf_len B h1 l; simp only [sumOf, List.length_cons]; omega

theorem cells?_all {w : World} {base n : Nat} {ad : Addr} {cs : List Value} (h : w.cells? base ad n = some cs) : cs.length = n ∧ ∀ j (hj : j < cs.length), w.cell? (ad.add j) = some cs[j] := by
  unfold World.cells? at h
  split at h
  · have hl := mapM_some_length h
    simp at hl
    refine ⟨hl, fun j hj => ?_⟩
    have h2 := mapM_some_get h j j (by rw [List.getElem?_range (by omega)])
    rw [h2, List.getElem?_eq_getElem hj]
  · cases h

/-- All blocks that are there. -/
abbrev allF (w : World) : Nat → Prop := fun b => b < w.heap.size

/-- A reading of the type t is one of enc. -/
structure Opens {α : Type} (P : Program) (t size : Nat) (enc : α → List D) (ok : α → Prop) (B : α → Nat) : Prop where
  len : ∀ y, (enc y).length = size
  get : ∀ {H : Type} {encH : TypeId × Value → H} {w : World} {n : Nat} {cs : List Value} {x : DataW H × List MemPlace}, DataW.trod encH P w 0 (fun _ => true) true n t cs = some x → cs.length = size →
    ∃ y, ok y ∧ RepL (allF w) w cs (enc y) ∧ (∀ u ∈ cs, u.oneCell' = true) ∧ B y ≤ Rows.uptoBulk x.1

theorem Opens.map {α β : Type} {P : Program} {t size : Nat} {enc : α → List D} {ok : α → Prop} {B : α → Nat} {enc' : β → List D} {ok' : β → Prop} {B' : β → Nat} (O : Opens P t size enc ok B) (f : α → β) (h : ∀ y, enc' (f y) = enc y) (hl : ∀ y, (enc' y).length = size) (ho : ∀ y, ok y → ok' (f y)) (hb : ∀ y, B' (f y) ≤ B y) :
    Opens P t size enc' ok' B' :=
  ⟨hl, fun hx hc => by
    obtain ⟨y, h1, h2, h3, h4⟩ := O.get hx hc
    exact ⟨f y, ho y h1, by rw [h]; exact h2, h3, Nat.le_trans (hb y) h4⟩⟩

section
variable {P : Program} {t : Nat}
theorem u8_back {n : Int} (h : (Lit.int .u8 n).wf = true) : ((UInt8.ofNat n.toNat).toNat : Int) = n := by
  have h1 : 0 ≤ n ∧ n ≤ 255 := by simpa [Lit.wf, IntKind.min, IntKind.max, IntKind.signed, IntKind.bits] using h
  rw [UInt8.toNat_ofNat']
  omega
theorem opens_u8 (ht : P.underlying t = some (.int .u8)) : Opens P t 1 u8D (fun _ => True) (fun _ => 1) :=
  ⟨fun _ => rfl, fun hx _ => by
    obtain ⟨n, rfl, rfl, h1⟩ := DataW.trod_int ht hx
    refine ⟨UInt8.ofNat n.toNat, trivial, RepL.cons ?_ RepL.nil, fun u hu => by simp at hu; rw [hu]; rfl, by simp [Rows.uptoBulk]⟩
    rw [u8_back h1]
    exact .v _⟩
theorem opens_u32 (ht : P.underlying t = some (.int .u32)) : Opens P t 1 u32D (fun n => n < 4294967296) (fun _ => 1) :=
  ⟨fun _ => rfl, fun hx _ => by
    obtain ⟨n, rfl, rfl, h1⟩ := DataW.trod_int ht hx
    have h2 : 0 ≤ n ∧ n ≤ 4294967295 := by simpa [Lit.wf, IntKind.min, IntKind.max, IntKind.signed, IntKind.bits] using h1
    refine ⟨n.toNat, by omega, RepL.cons ?_ RepL.nil, fun u hu => by simp at hu; rw [hu]; rfl, by simp [Rows.uptoBulk]⟩
    rw [Int.toNat_of_nonneg h2.1]
    exact .v _⟩
theorem opens_i64 (ht : P.underlying t = some (.int .i64)) : Opens P t 1 intD (fun n => -9223372036854775808 ≤ n ∧ n ≤ 9223372036854775807) (fun _ => 1) :=
  ⟨fun _ => rfl, fun hx _ => by
    obtain ⟨n, rfl, rfl, h1⟩ := DataW.trod_int ht hx
    have h2 : -9223372036854775808 ≤ n ∧ n ≤ 9223372036854775807 := by simpa [Lit.wf, IntKind.min, IntKind.max, IntKind.signed, IntKind.bits] using h1
    exact ⟨n, h2, RepL.cons (.v _) RepL.nil, fun u hu => by simp at hu; rw [hu]; rfl, by simp [Rows.uptoBulk]⟩⟩
def boolD (b : Bool) : List D := [.v (.bool b)]
theorem opens_bool (ht : P.underlying t = some .bool) : Opens P t 1 boolD (fun _ => True) (fun _ => 1) :=
  ⟨fun _ => rfl, fun hx _ => by
    obtain ⟨b, rfl, rfl⟩ := DataW.trod_bool ht hx
    exact ⟨b, trivial, RepL.cons (.v _) RepL.nil, fun u hu => by simp at hu; rw [hu]; rfl, by simp [Rows.uptoBulk]⟩⟩
def strD (s : ByteArray) : List D := [.v (.string s)]
theorem opens_str (ht : P.underlying t = some .string) : Opens P t 1 strD (fun s => s.size ≤ 9223372036854775807) (fun s => s.size + 1) :=
  ⟨fun _ => rfl, fun hx _ => by
    obtain ⟨s, rfl, rfl, h1⟩ := DataW.trod_string ht hx
    refine ⟨s, by unfold maxLen at h1; omega, RepL.cons (.v _) RepL.nil, fun u hu => by simp at hu; rw [hu]; rfl, ?_⟩
    simp only [Rows.uptoBulk, Array.length_toList]
    exact Nat.le_refl _⟩

def slD {α : Type} (enc : α → List D) (l : List α) : List D := [.sl (l.map enc)]
theorem opens_slice {α : Type} {e size : Nat} {enc : α → List D} {ok : α → Prop} {B : α → Nat} (ht : P.underlying t = some (.slice e)) (hc : P.cellsOf e = size) (hs : 0 < size) (O : Opens P e size enc ok B) :
    Opens P t 1 (slD enc) (fun l => ∀ y ∈ l, ok y) (fun l => sumOf B l + 1) :=
  ⟨fun _ => rfl, fun {H encH w n cs x} hx _ => by
    rcases DataW.trod_slice ht hx with ⟨rfl, rfl⟩ | ⟨a, len, cap, elems, rest, n', _, rfl, rfl, _, hl, hm, hlen, hel, _, _⟩
    · exact ⟨[], fun y hy => by simp at hy, RepL.cons .nil RepL.nil, fun u hu => by simp at hu; rw [hu]; rfl, by simp [sumOf, Rows.uptoBulk]⟩
    · have each : ∀ m, m ≤ len → ∃ l : List α, l.length = m ∧ (∀ y ∈ l, ok y) ∧ (∀ i (hi : i < l.length), ∃ cs : List Value, cs.length = size ∧ (∀ j (hj : j < cs.length), w.cell? ((a.add (i * size)).add j) = some cs[j]) ∧ RepL (allF w) w cs (enc l[i]) ∧ ∀ u ∈ cs, u.oneCell' = true) ∧
          sumOf B l ≤ Rows.uptoBulkAll ((elems.take m).map (·.1)) := by
        intro m
        induction m with
        | zero => intro _; exact ⟨[], rfl, fun y hy => by simp at hy, fun i hi => absurd hi (by simp), by simp [sumOf]⟩
        | succ m ih =>
          intro hm1
          obtain ⟨l, h1, h2, h3, h4⟩ := ih (by omega)
          have hme : m < elems.length := by omega
          have hh := hel m (by omega)
          rw [hc, List.getElem?_eq_getElem hme, Option.bind_eq_some_iff] at hh
          obtain ⟨cs, hcs, htr⟩ := hh
          obtain ⟨hcl, hcg⟩ := cells?_all hcs
          obtain ⟨y, hy1, hy2, hy3, hy4⟩ := O.get htr hcl
          refine ⟨l ++ [y], by simp [h1], fun z hz => ?_, fun i hi => ?_, ?_⟩
          · rw [List.mem_append] at hz
            rcases hz with hz | hz
            · exact h2 z hz
            · simp at hz; rw [hz]; exact hy1
          · rw [List.length_append, List.length_singleton] at hi
            by_cases hlt : i < l.length
            · rw [List.getElem_append_left hlt]; exact h3 i hlt
            · have he : i = m := by omega
              subst he
              refine ⟨cs, hcl, hcg, ?_, hy3⟩
              rw [List.getElem_append_right (by omega)]
              simpa using hy2
          · rw [List.take_succ_eq_append_getElem hme, List.map_append, blk_append, sumOf_append]
            simp only [sumOf, List.map_cons, List.map_nil, Rows.uptoBulkAll]
            omega
      obtain ⟨l, h1, h2, h3, h4⟩ := each len (Nat.le_refl _)
      have h6 : elems.take len = elems := List.take_of_length_le (by omega)
      rw [h6] at h4
      refine ⟨l, h2, RepL.cons ?_ RepL.nil, fun u hu => by simp at hu; rw [hu]; rfl, by simp only [Rows.uptoBulk]; omega⟩
      have hch : ∀ i : Nat, ∃ cs : List Value, ∀ (hi : i < l.length), cs.length = size ∧ (∀ j (hj : j < cs.length), w.cell? ((a.add (i * size)).add j) = some cs[j]) ∧ RepL (allF w) w cs (enc l[i]) ∧ ∀ u ∈ cs, u.oneCell' = true := fun i => by
        by_cases hi : i < l.length
        · obtain ⟨cs, h⟩ := h3 i hi; exact ⟨cs, fun _ => h⟩
        · exact ⟨[], fun h => absurd h hi⟩
      let f : Nat → List Value := fun i => Classical.choose (hch i)
      have hf : ∀ i (hi : i < l.length), (f i).length = size ∧ (∀ j (hj : j < (f i).length), w.cell? ((a.add (i * size)).add j) = some (f i)[j]) ∧ RepL (allF w) w (f i) (enc l[i]) ∧ ∀ u ∈ f i, u.oneCell' = true := fun i hi => Classical.choose_spec (hch i) hi
      have hll : (l.map enc).length = len := by simp [h1]
      have := Rep.sl (F := allF w) (w := w) a cap size (l.map enc) (fun i j => (f i).getD j undef) (by omega) (by unfold maxLen at hm; omega) (fun h0 => by
          rw [List.length_map] at h0
          obtain ⟨g1, g2, _⟩ := hf 0 h0
          have h7 := World.block_lt_of_cell? w _ (g2 0 (by omega))
          rw [addr_block, addr_block] at h7
          exact h7) (fun i hi => by rw [List.getElem_map]; exact O.len _) (fun i j hi hj => by
          rw [List.length_map] at hi
          obtain ⟨g1, g2, _⟩ := hf i hi
          rw [← addr_add_add, g2 j (by omega), List.getD_eq_getElem?_getD, List.getElem?_eq_getElem (by omega), Option.getD_some]) (fun i j hi hj => by
          rw [List.length_map] at hi
          obtain ⟨g1, _, _, g4⟩ := hf i hi
          rw [List.getD_eq_getElem?_getD, List.getElem?_eq_getElem (by omega), Option.getD_some]
          exact g4 _ (List.getElem_mem _)) (fun i hi j hj => by
          rw [List.length_map] at hi
          obtain ⟨g1, _, g3, _⟩ := hf i hi
          simp only [List.getElem_map] at hj ⊢
          have hj' : j < (f i).length := by rw [g3.1]; exact hj
          rw [List.getD_eq_getElem?_getD, List.getElem?_eq_getElem hj', Option.getD_some]
          exact g3.2 j hj' hj)
      rw [hll] at this
      exact this⟩

/-- A struct's fields, from one on. -/
structure OpensF {α : Type} (P : Program) (fs : List (Nat × Nat × Nat)) (off total : Nat) (enc : α → List D) (ok : α → Prop) (B : α → Nat) : Prop where
  len : ∀ y, off + (enc y).length = total
  get : ∀ {H : Type} {encH : TypeId × Value → H} {w : World} {n : Nat} {cs : List Value} {xs : List (DataW H × List MemPlace)}, cs.length = total → xs.length = fs.length →
    (∀ (i : Nat) (f : Nat × Nat × Nat), fs[i]? = some f → DataW.trod encH P w 0 (fun _ => true) true n f.1 ((cs.drop f.2.1).take f.2.2) = xs[i]?) → ∃ y, ok y ∧ RepL (allF w) w (cs.drop off) (enc y) ∧ (∀ u ∈ cs.drop off, u.oneCell' = true) ∧ B y ≤ Rows.uptoBulkAll (xs.map (·.1))
theorem OpensF.nil {total : Nat} : OpensF (α := Unit) P [] total total (fun _ => []) (fun _ => True) (fun _ => 0) :=
  ⟨fun _ => rfl, fun {H encH w n cs xs} hc _ _ => ⟨(), trivial, by rw [List.drop_eq_nil_of_le (by omega)]; exact RepL.nil, fun u hu => by rw [List.drop_eq_nil_of_le (by omega)] at hu; simp at hu, Nat.zero_le _⟩⟩
theorem OpensF.cons {α β : Type} {ft off size total : Nat} {fs : List (Nat × Nat × Nat)} {enc : α → List D} {ok : α → Prop} {B : α → Nat} {enc2 : β → List D} {ok2 : β → Prop} {B2 : β → Nat} (O : Opens P ft size enc ok B) (R : OpensF P fs (off + size) total enc2 ok2 B2) :
    OpensF (α := α × β) P ((ft, off, size) :: fs) off total (fun y => enc y.1 ++ enc2 y.2) (fun y => ok y.1 ∧ ok2 y.2) (fun y => B y.1 + B2 y.2) :=
  ⟨fun y => by have := R.len y.2; rw [List.length_append, O.len]; omega, fun {H encH w n cs xs} hc hl h => by
    rcases xs with _ | ⟨x, xs⟩
    · simp at hl
    have h0 := h 0 (ft, off, size) rfl
    simp only [List.getElem?_cons_zero] at h0
    obtain ⟨y2, k1, k2, k3, k4⟩ := R.get (encH := encH) (w := w) (n := n) (xs := xs) hc (by simpa using hl) (fun i f hf => by
      have := h (i + 1) f (by simpa using hf)
      simpa using this)
    have hle := R.len y2
    obtain ⟨y1, g1, g2, g3, g4⟩ := O.get h0 (by rw [List.length_take, List.length_drop]; omega)
    have hsplit : cs.drop off = (cs.drop off).take size ++ cs.drop (off + size) := by
      rw [← List.drop_drop]; exact (List.take_append_drop size (cs.drop off)).symm
    refine ⟨(y1, y2), ⟨g1, k1⟩, ?_, fun u hu => ?_, ?_⟩
    · rw [hsplit]; exact g2.append k2
    · rw [hsplit, List.mem_append] at hu
      rcases hu with hu | hu
      · exact g3 u hu
      · exact k3 u hu
    · simp only [List.map_cons, Rows.uptoBulkAll]; omega⟩

def structF (P : Program) (t total : Nat) (fs : List (Nat × Nat × Nat)) : Bool :=
  match P.underlying t with
  | some (.struct gs) => gs.size == fs.length && (gs.toList.zip fs).all (fun (g, f) => g.type == f.1 && g.offset == f.2.1 && P.cellsOf g.type == f.2.2) && P.cellsOf t == total
  | _ => false
theorem opens_struct {α : Type} {total : Nat} {fs : List (Nat × Nat × Nat)} {enc : α → List D} {ok : α → Prop} {B : α → Nat} (hb : structF P t total fs = true) (O : OpensF P fs 0 total enc ok B) : Opens P t total enc ok (fun y => B y + 1) :=
  ⟨fun y => by have := O.len y; omega, fun {H encH w n cs x} hx hc => by
    unfold structF at hb
    split at hb
    · rename_i gs hu
      simp only [Bool.and_eq_true, beq_iff_eq, List.all_eq_true] at hb
      obtain ⟨⟨h1, h2⟩, h3⟩ := hb
      obtain ⟨xs, n', _, rfl, _, hl, hf⟩ := DataW.trod_struct hu hx
      obtain ⟨y, k1, k2, k3, k4⟩ := O.get (encH := encH) (w := w) (n := n') (cs := cs) (xs := xs) hc (by omega) (fun i f hf' => by
        have hi : i < fs.length := (List.getElem?_eq_some_iff.1 hf').1
        have hfe : fs[i] = f := (List.getElem?_eq_some_iff.1 hf').2
        have hi' : i < gs.size := by omega
        have h4 := h2 (gs[i], f) (by
          rw [List.mem_iff_getElem]
          exact ⟨i, by simp; omega, by simp [hfe]⟩)
        simp only at h4
        have h5 := hf i gs[i] (by simp [hi'])
        rw [h4.2, h4.1.1, h4.1.2] at h5
        exact h5)
      rw [List.drop_zero] at k2 k3
      exact ⟨y, k1, k2, k3, by simp only [Rows.uptoBulk]; omega⟩
    · simp at hb⟩

theorem one_of {F : Nat → Prop} {w : World} {v : Value} {d : D} (h : RepL F w v.cells.toList [d]) (hc : v.cells = #[v]) : Rep F w v d := by
  rw [hc] at h
  exact h.2 0 (by simp) (by simp)
theorem agg_of {F : Nat → Prop} {w : World} {cs : Array Value} {ds : List D} (h : RepL F w (Value.agg cs).cells.toList ds) (h1 : ∀ u ∈ (Value.agg cs).cells.toList, u.oneCell' = true) : Rep F w (.agg cs) (.agg ds) := by
  have e : cs = cs.toList.toArray := by simp
  rw [e]
  exact .agg _ _ h.1 (fun i hi => h1 _ (List.getElem_mem hi)) h.2

/-- An argument that came in. -/
theorem Opens.arg {α : Type} {size : Nat} {enc : α → List D} {ok : α → Prop} {B : α → Nat} (O : Opens P t size enc ok B) {H : Type} {encH : TypeId × Value → H} {w : World} {v : Value} {d : DataW H} {p : List MemPlace} (h : DataW.Trod encH P w 0 (fun _ => true) true t v d p) (hc : v.cells.size = size) :
    ∃ y, ok y ∧ RepL (allF w) w v.cells.toList (enc y) ∧ (∀ u ∈ v.cells.toList, u.oneCell' = true) ∧ B y ≤ Rows.uptoBulk d := by
  obtain ⟨fuel, hf⟩ := h
  exact O.get hf (by rw [Array.length_toList]; exact hc)
end
end Go.Proofs.YtnapkooefpkicaaGreatDoor


namespace Go.Proofs.YtnapkooefpkicaaGreatDoor
open Go.RowKit
attribute [local go_sem ↓] run_min_kept run_max_kept

/-- Bytes as values. -/
def u8s (l : List UInt8) : List Value := l.map fun c => .int .u8 (c.toNat : Int)
/-- Sums as values. -/
def u32s (l : List Nat) : List Value := l.map fun (c : Nat) => .int .u32 (c : Int)

theorem u8s_length (l : List UInt8) : (u8s l).length = l.length := by simp [u8s]
theorem u32s_length (l : List Nat) : (u32s l).length = l.length := by simp [u32s]
theorem u8s_getD (l : List UInt8) (k : Nat) (h : k < l.length) : (u8s l).getD k undef = .int .u8 (l[k].toNat : Int) := by
  simp [u8s, List.getD_eq_getElem?_getD, h]
theorem u32s_getD (l : List Nat) (k : Nat) (h : k < l.length) : (u32s l).getD k undef = .int .u32 (l[k] : Int) := by
  simp [u32s, List.getD_eq_getElem?_getD, h]
theorem u8s_cut (l : List UInt8) (a b : Nat) : ((u8s l).drop a).take b = u8s ((l.drop a).take b) := by
  simp [u8s, List.map_take, List.map_drop]

def fstep (x : Nat) (c : UInt8) : Nat := ((x ^^^ c.toNat) * 16777619) % 4294967296
def fseed : Nat := 2166136261
def fnv (l : List UInt8) : Nat := l.foldl fstep fseed

theorem fnv_snoc (l : List UInt8) (c : UInt8) : fnv (l ++ [c]) = fstep (fnv l) c := by unfold fnv; rw [List.foldl_append, List.foldl_cons, List.foldl_nil]
theorem fstep_lt (x : Nat) (c : UInt8) : fstep x c < 4294967296 := by unfold fstep; omega
theorem fnv_lt (l : List UInt8) : fnv l < 4294967296 := by
  rcases List.eq_nil_or_concat l with rfl | ⟨l', c, rfl⟩
  · show fseed < _; unfold fseed; omega
  · rw [List.concat_eq_append, fnv_snoc]; exact fstep_lt _ _

theorem take_snoc {α : Type} (l : List α) (k : Nat) (h : k < l.length) : l.take (k + 1) = l.take k ++ [l[k]] := by
  rw [List.take_succ_eq_append_getElem h]

theorem fstep_u32 (x : Nat) (c : UInt8) (hx : x < 4294967296) : bits .xor .u32 (x : Int) (c.toNat : Int) * 16777619 % 4294967296 = ((fstep x c : Nat) : Int) := by
  rw [u32_xor_nat x c.toNat hx (by have := c.toNat_lt; omega)]
  unfold fstep
  omega
theorem fstep_u64 (x : Nat) (c : UInt8) (hx : x < 4294967296) : bits .xor .u64 (x : Int) (c.toNat : Int) * 16777619 % 4294967296 = ((fstep x c : Nat) : Int) ∧
    0 ≤ bits .xor .u64 (x : Int) (c.toNat : Int) ∧ bits .xor .u64 (x : Int) (c.toNat : Int) < 4294967296 := by
  rw [u64_xor_nat x c.toNat (by omega) (by have := c.toNat_lt; omega)]
  have hlt : x ^^^ c.toNat < 2 ^ 32 := Nat.xor_lt_two_pow (by omega) (by have := c.toNat_lt; omega)
  unfold fstep
  refine ⟨by omega, by omega, by omega⟩

end Go.Proofs.YtnapkooefpkicaaGreatDoor


namespace Go.Proofs.YtnapkooefpkicaaGreatDoor
open Go.RowKit
attribute [local go_sem ↓] run_min_kept run_max_kept

theorem et_u8s : ElemTy Tryz.prog 76 5 1 1 (.int .u8 0) := ⟨by kernel_rfl, by kernel_rfl, by kernel_rfl, by decide⟩
theorem et_u32s : ElemTy Tryz.prog 38 53 1 4 (.int .u32 0) := ⟨by kernel_rfl, by kernel_rfl, by kernel_rfl, by decide⟩
theorem u32s_snoc (l : List Nat) (x : Nat) : u32s (l ++ [x]) = u32s l ++ [.int .u32 (x : Int)] := by simp [u32s]
end Go.Proofs.YtnapkooefpkicaaGreatDoor


namespace Go.Proofs.YtnapkooefpkicaaGreatDoor
open Go.RowKit
attribute [local go_sem ↓] run_min_kept run_max_kept

theorem et_u64s : ElemTy Tryz.prog 33 41 1 8 (.int .u64 0) := ⟨by kernel_rfl, by kernel_rfl, by kernel_rfl, by decide⟩

def mstep (x : Nat) (c : UInt8) : Nat := ((x ^^^ c.toNat) * 1099511628211) % 18446744073709551616
def mseed : Nat := 14695981039346656037
def mixN (x : Nat) (l : List UInt8) : Nat := l.foldl mstep x

theorem mixN_snoc (x : Nat) (l : List UInt8) (c : UInt8) : mixN x (l ++ [c]) = mstep (mixN x l) c := by unfold mixN; rw [List.foldl_append, List.foldl_cons, List.foldl_nil]
theorem mixN_append (x : Nat) (l r : List UInt8) : mixN x (l ++ r) = mixN (mixN x l) r := by unfold mixN; rw [List.foldl_append]
theorem mstep_lt (x : Nat) (c : UInt8) : mstep x c < 18446744073709551616 := by unfold mstep; omega
theorem mixN_lt (x : Nat) (hx : x < 18446744073709551616) (l : List UInt8) : mixN x l < 18446744073709551616 := by
  rcases List.eq_nil_or_concat l with rfl | ⟨l', c, rfl⟩
  · exact hx
  · rw [List.concat_eq_append, mixN_snoc]; exact mstep_lt _ _
theorem mseed_lt : mseed < 18446744073709551616 := by unfold mseed; omega

/-- The bytes of a number, the highest one first. -/
def be (n many : Nat) : List UInt8 := (List.range many).map fun j => UInt8.ofNat (n / 2 ^ (8 * (many - 1 - j)))
theorem be_length (n many : Nat) : (be n many).length = many := by simp [be]
theorem be_get (n many j : Nat) (h : j < (be n many).length) : (be n many)[j] = UInt8.ofNat (n / 2 ^ (8 * (many - 1 - j))) := by simp [be]

theorem be_byte (n s : Nat) : UInt8.ofNat ((n : Int) / 2 ^ s % 256).toNat = UInt8.ofNat (n / 2 ^ s) := by
  have e : ((n : Int) / 2 ^ s % 256).toNat = n / 2 ^ s % 256 := by
    have h1 : ((2 : Int) ^ s) = ((2 ^ s : Nat) : Int) := by simp
    rw [h1]
    omega
  rw [e]
  apply UInt8.toNat.inj
  rw [UInt8.toNat_ofNat', UInt8.toNat_ofNat']
  omega

theorem mstep_u64 (x : Nat) (c : Int) (hx : x < 18446744073709551616) (h0 : 0 ≤ c) (h1 : c < 256) : IntKind.u64.wrap (bits .xor .u64 (x : Int) c * 1099511628211) = ((mstep x (UInt8.ofNat c.toNat) : Nat) : Int) := by
  rw [show ∀ z : Int, IntKind.u64.wrap z = z % 18446744073709551616 from fun z => by simp [IntKind.wrap, IntKind.signed, IntKind.bits]]
  obtain ⟨k, rfl⟩ := Int.eq_ofNat_of_zero_le h0
  rw [u64_xor_nat x k hx (by omega), Int.toNat_natCast]
  unfold mstep
  rw [UInt8.toNat_ofNat', Nat.mod_eq_of_lt (show k < 2 ^ 8 by omega)]
  omega

set_option maxHeartbeats 400000 in
theorem mixerByte_any (ad : Addr) (x : Nat) (c : Int) (w : World) (hx : x < 18446744073709551616) (h0 : 0 ≤ c) (h1 : c < 256) (hc : w.cell? ad = some (.int .u64 x)) (hf : w.frozen? ad = false) :
    Calls Tryz.prog 76 #[.pointer (some ad), .int .u8 c] w fun e w' => e = .returned (.tuple #[]) ∧ w.setCell ad (.int .u64 (mstep x (UInt8.ofNat c.toNat) : Nat)) = w' := by
  have HS := Lib.hid (mstep_u64 x c hx h0 h1)
  have hxi : ((x : Nat) : Int) < 18446744073709551616 := by omega
  go_enter Tryz.func76, Tryz.ntmps76
  go_wp2
  go_end0
  exact ⟨rfl, by rw [← HS.out]⟩

/-- A cell of a block is as said; no other block has turned. -/
structure One (ad : Addr) (v : Value) (w w' : World) : Prop where
  cell : w'.cell? ad = some v
  free : w'.frozen? ad = false
  grown : w.grownBy w' (some ad.block)

theorem One.set {ad : Addr} {v u : Value} {w : World} (hc : w.cell? ad = some u) (hf : w.frozen? ad = false) : One ad v w (w.setCell ad v) := by
  refine ⟨World.cell?_setCell_same w ad v hc, ?_, ⟨rfl, rfl, rfl, by simp [World.setCell], fun k _ hne => Below.heap_setCell w ad v k (fun e => hne (by rw [e]))⟩⟩
  rw [World.frozen?_setCell]
  exact hf

theorem One.trans {ad : Addr} {v u : Value} {a b c : World} (h : One ad v a b) (k : One ad u b c) : One ad u a c :=
  ⟨k.cell, k.free, ⟨k.grown.os.trans h.grown.os, k.grown.tape.trans h.grown.tape, k.grown.output.trans h.grown.output, Nat.le_trans h.grown.size k.grown.size,
    fun i hi hne => (k.grown.block i (Nat.lt_of_lt_of_le hi h.grown.size) hne).trans (h.grown.block i hi hne)⟩⟩

set_option maxHeartbeats 400000 in
theorem mixerNumber_any (ad : Addr) (x n many : Nat) (w : World) (hx : x < 18446744073709551616) (_hn : n < 18446744073709551616) (hm : many ≤ 8) (hc : w.cell? ad = some (.int .u64 x)) (hf : w.frozen? ad = false) :
    Calls Tryz.prog 77 #[.pointer (some ad), .int .u64 n, .int .i64 many] w fun e w' => e = .returned (.tuple #[]) ∧ One ad (.int .u64 (mixN x (be n many) : Nat)) w w' := by
  have HC := Lib.hid hc
  have HF := Lib.hid hf
  clear hc hf
  go_enter Tryz.func77, Tryz.ntmps77
  go_wp2_with fail
  go_loopw [6] (fun i wr => ∃ k : Nat, k ≤ many ∧ i = .int .i64 ((many : Int) - 1 - k) ∧ One ad (.int .u64 (mixN x ((be n many).take k) : Nat)) w wr) (fun i _ => (intOf i + 1).toNat)
  case atStart => exact ⟨0, by omega, by simp, ⟨HC.out, HF.out, ⟨rfl, rfl, rfl, Nat.le_refl _, fun _ _ _ => rfl⟩⟩⟩
  case round =>
    obtain ⟨k, hk, rfl, ho⟩ := hrel
    have hcell := ho.cell
    have hfree := ho.free
    have HO := Lib.hid ho
    clear ho
    by_cases hlt : k < many
    · have hs0 : (0 : Int) ≤ 8 * ((many : Int) - 1 - k) := by omega
      have hs1 : 8 * ((many : Int) - 1 - k) ≤ 64 := by omega
      go_wp2_with fail
      refine (mixerByte_any _ _ _ _ (mixN_lt x hx _) (by omega) (by omega) hcell hfree).mono ?_
      rintro e w' ⟨rfl, rfl⟩
      have hset : One ad (.int .u64 (mixN x ((be n many).take (k + 1)) : Nat)) w (wr.setCell ad (.int .u64 (mstep (mixN x ((be n many).take k)) (UInt8.ofNat ((n : Int) / 2 ^ (8 * (many - 1 - k)) % 256).toNat) : Nat))) := by
        refine HO.out.trans ?_
        rw [take_snoc (be n many) k (by rw [be_length]; exact hlt), mixN_snoc, be_get, be_byte]
        exact One.set hcell hfree
      have HS := Lib.hid hset
      clear hset hcell hfree
      go_wp2
      go_roundw
      case rel => exact ⟨k + 1, by omega, by go_num, HS.out⟩
      case measure => simp [intOf]; omega
    · have e : k = many := by omega
      subst e
      have HO' := Lib.hid (show One ad (.int .u64 (mixN x (be n k) : Nat)) w wr by
        have := HO.out
        rwa [List.take_of_length_le (by rw [be_length]; exact Nat.le_refl _)] at this)
      clear hcell hfree
      go_wp2
      go_end0
      exact ⟨rfl, HO'.out⟩

theorem mixerByte_one (ad : Addr) (x : Nat) (c : Int) (w : World) (hx : x < 18446744073709551616) (h0 : 0 ≤ c) (h1 : c < 256) (hc : w.cell? ad = some (.int .u64 x)) (hf : w.frozen? ad = false) :
    Calls Tryz.prog 76 #[.pointer (some ad), .int .u8 c] w fun e w' => e = .returned (.tuple #[]) ∧ One ad (.int .u64 (mstep x (UInt8.ofNat c.toNat) : Nat)) w w' :=
  (mixerByte_any ad x c w hx h0 h1 hc hf).mono (by rintro e w' ⟨rfl, rfl⟩; exact ⟨rfl, One.set hc hf⟩)

theorem newMixer_any (w : World) : Calls Tryz.prog 30 #[] w fun e w' => e = .returned (.int .u64 (mseed : Nat)) ∧ w = w' := by
  go_enter Tryz.func30, Tryz.ntmps30
  go_wp2
  go_ret
  exact ⟨rfl, rfl⟩

/-- A new block of one cell, and what is written to it alone. -/
theorem One.below {v u : Value} {w w' : World} {t : TypeId} (h : One ⟨w.heap.size, 0, none⟩ v (w.alloc (.cells #[u] t)) w') : Below w.heap.size w w' :=
  ((Below.refl w.heap.size w).alloc (Nat.le_refl _) _).grown h.grown (by simp) (fun k hk => by simp at hk; omega)
theorem cell_new (w : World) (u : Value) (t : TypeId) : (w.alloc (.cells #[u] t)).cell? ⟨w.heap.size, 0, none⟩ = some u := by
  rw [cell_of_row (w.alloc (.cells #[u] t)) w.heap.size 0 #[u] t (0, 0) (heap_alloc_new w _)]; rfl
theorem free_new (w : World) (u : Value) (t : TypeId) : (w.alloc (.cells #[u] t)).frozen? ⟨w.heap.size, 0, none⟩ = false := by
  have h := heap_alloc_new w (.cells #[u] t)
  unfold World.frozen?
  rw [h]
  simp

/-- The node of a sum. -/
def leafN (n : Nat) : Nat := mixN mseed (0 :: be n 4)
/-- The node of two nodes. -/
def bothN (a b : Nat) : Nat := mixN mseed (1 :: (be a 8 ++ be b 8))
theorem leafN_lt (n : Nat) : leafN n < 18446744073709551616 := mixN_lt _ mseed_lt _
theorem bothN_lt (a b : Nat) : bothN a b < 18446744073709551616 := mixN_lt _ mseed_lt _
theorem leafN_eq (n : Nat) : mixN (mstep mseed (UInt8.ofNat (0 : Int).toNat)) (be n 4) = leafN n := by unfold leafN mixN; rw [List.foldl_cons]; rfl
theorem bothN_eq (a b : Nat) : mixN (mixN (mstep mseed (UInt8.ofNat (1 : Int).toNat)) (be a 8)) (be b 8) = bothN a b := by
  unfold bothN; rw [← mixN_append]; unfold mixN; rw [List.foldl_cons]; rfl

set_option maxHeartbeats 400000 in
theorem leaf_any (n : Nat) (w : World) (hn : n < 4294967296) :
    Calls Tryz.prog 50 #[.int .u32 n] w fun e w' => e = .returned (.int .u64 (leafN n : Nat)) ∧ Below w.heap.size w w' := by
  have hni : ((n : Nat) : Int) < 4294967296 := by omega
  go_enter Tryz.func50, Tryz.ntmps50
  go_wp2_with fail
  refine (newMixer_any _).mono ?_
  rintro e w' ⟨rfl, rfl⟩
  go_wp2_with fail
  refine (mixerByte_one _ _ _ _ mseed_lt (by omega) (by omega) (cell_new _ _ _) (free_new _ _ _)).mono ?_
  rintro e w1 ⟨rfl, h1⟩
  have hc1 := h1.cell
  have hf1 := h1.free
  have H1 := Lib.hid h1
  clear h1
  go_wp2_with fail
  refine (mixerNumber_any _ _ n 4 _ (mstep_lt _ _) (by omega) (by omega) hc1 hf1).mono ?_
  rintro e w2 ⟨rfl, h2⟩
  have hc2 := h2.cell
  rw [leafN_eq] at hc2
  have H2 := Lib.hid (H1.out.trans h2).below
  clear h2 hc1 hf1
  go_wp2
  go_ret
  exact ⟨rfl, H2.out⟩

set_option maxHeartbeats 400000 in
theorem both_any (a b : Nat) (w : World) (ha : a < 18446744073709551616) (hb : b < 18446744073709551616) :
    Calls Tryz.prog 51 #[.int .u64 a, .int .u64 b] w fun e w' => e = .returned (.int .u64 (bothN a b : Nat)) ∧ Below w.heap.size w w' := by
  go_enter Tryz.func51, Tryz.ntmps51
  go_wp2_with fail
  refine (newMixer_any _).mono ?_
  rintro e w' ⟨rfl, rfl⟩
  go_wp2_with fail
  refine (mixerByte_one _ _ _ _ mseed_lt (by omega) (by omega) (cell_new _ _ _) (free_new _ _ _)).mono ?_
  rintro e w1 ⟨rfl, h1⟩
  have hc1 := h1.cell
  have hf1 := h1.free
  have H1 := Lib.hid h1
  clear h1
  go_wp2_with fail
  refine (mixerNumber_any _ _ a 8 _ (mstep_lt _ _) ha (by omega) hc1 hf1).mono ?_
  rintro e w2 ⟨rfl, h2⟩
  have hc2 := h2.cell
  have hf2 := h2.free
  have H2 := Lib.hid (H1.out.trans h2)
  clear h2 hc1 hf1
  go_wp2_with fail
  refine (mixerNumber_any _ _ b 8 _ (mixN_lt _ (mstep_lt _ _) _) hb (by omega) hc2 hf2).mono ?_
  rintro e w3 ⟨rfl, h3⟩
  have hc3 := h3.cell
  rw [bothN_eq] at hc3
  have H3 := Lib.hid (H2.out.trans h3).below
  clear h3 hc2 hf2
  go_wp2
  go_ret
  exact ⟨rfl, H3.out⟩

set_option maxHeartbeats 400000 in
theorem mix_any (v : Value) (l : List UInt8) (w : World) (h : Sl w 1 v l.length (u8s l)) :
    Calls Tryz.prog 37 #[v] w fun e w' => e = .returned (.int .u64 (mixN mseed l : Nat)) ∧ w = w' := by
  have hl := h.bound
  have hlen := h.len et_u8s.ht 3
  have HH := Lib.hid h
  clear h
  go_enter Tryz.func37, Tryz.ntmps37
  go_wp2
  go_loop [3, 8] (fun x i => ∃ k : Nat, k ≤ l.length ∧ i = .int .i64 k ∧ x = .int .u64 (mixN mseed (l.take k) : Nat)) (fun _ i => l.length - (intOf i).toNat)
  case atStart => exact ⟨0, Nat.zero_le _, rfl, rfl⟩
  case round =>
    obtain ⟨k, hk, rfl, rfl⟩ := hrel
    by_cases hlt : k < l.length
    · obtain ⟨ad, hix, hcell⟩ := HH.out.idx1 et_u8s k (by omega) (by omega)
      rw [Int.toNat_natCast, u8s_getD l k hlt] at hcell
      have hb : (l[k].toNat : Int) < 256 := by have := l[k].toNat_lt; omega
      have HS := Lib.hid (mstep_u64 (mixN mseed (l.take k)) (l[k].toNat : Int) (mixN_lt _ mseed_lt _) (by omega) hb)
      go_wp2
      go_round
      case rel => 
        refine ⟨k + 1, by omega, by go_num, ?_⟩
        rw [take_snoc l k hlt, mixN_snoc]
        have := HS.out
        rw [Int.toNat_natCast, UInt8.ofNat_toNat] at this
        rw [← this]
      case measure => simp [intOf]; omega
    · have e : k = l.length := by omega
      subst e
      rw [List.take_length]
      go_wp2
      go_ret
      exact ⟨rfl, rfl⟩
end Go.Proofs.YtnapkooefpkicaaGreatDoor


namespace Go.Proofs.YtnapkooefpkicaaGreatDoor
open Go.RowKit
attribute [local go_sem ↓] run_min_kept run_max_kept

theorem et_u8ss2 : ElemTy Tryz.prog 125 76 1 24 (.slice none 0 0) := ⟨by kernel_rfl, by kernel_rfl, by kernel_rfl, by decide⟩

theorem u8s_one (l : List UInt8) : ∀ u ∈ u8s l, u.oneCell' = true := by
  intro u hu
  simp only [u8s, List.mem_map] at hu
  obtain ⟨c, _, rfl⟩ := hu
  rfl
theorem u8s_append (l r : List UInt8) : u8s (l ++ r) = u8s l ++ u8s r := by simp [u8s]

/-- The bytes of a number while they are written, from the last one on. -/
def beTo (n many k : Nat) : List Value := List.replicate (many - k) (.int .u8 0) ++ (u8s (be n many)).drop (many - k)
theorem beTo_length (n many k : Nat) (_hk : k ≤ many) : (beTo n many k).length = many := by
  simp [beTo, u8s_length, be_length]
theorem beTo_step (n many k : Nat) (hk : k < many) : (beTo n many k).set (many - 1 - k) (.int .u8 ((n : Int) / 2 ^ (8 * k) % 256)) = beTo n many (k + 1) := by
  have h1 : many - k = (many - 1 - k) + 1 := by omega
  have h2 : many - (k + 1) = many - 1 - k := by omega
  unfold beTo
  rw [h2, h1, List.replicate_succ', List.append_assoc, List.set_append_right _ _ (by simp)]
  congr 1
  simp only [List.length_replicate, Nat.sub_self]
  rw [List.cons_append, List.set_cons_zero, List.nil_append]
  have hlt : many - 1 - k < (u8s (be n many)).length := by rw [u8s_length, be_length]; omega
  rw [List.drop_eq_getElem_cons hlt]
  congr 1
  simp only [u8s, List.getElem_map, be_get]
  rw [show many - 1 - (many - 1 - k) = k by omega]
  have h0 := Int.emod_nonneg ((n : Int) / 2 ^ (8 * k)) (show (256 : Int) ≠ 0 by omega)
  have h1 : (((UInt8.ofNat (n / 2 ^ (8 * k))).toNat : Nat) : Int) = (n : Int) / 2 ^ (8 * k) % 256 := by
    rw [← be_byte, UInt8.toNat_ofNat']
    omega
  rw [h1]

set_option maxHeartbeats 400000 in
theorem bytesOf_any (n many : Nat) (w : World) (_hn : n < 18446744073709551616) (hm : many ≤ 8) :
    Calls Tryz.prog 79 #[.int .u64 n, .int .i64 many] w fun e w' => ∃ v', e = .returned v' ∧
      w'.ownsRow w.heap.size 5 1 v' many (u8s (be n many)) ∧ Below w.heap.size w w' := by
  go_enter Tryz.func79, Tryz.ntmps79
  go_wp2_with (at_make; refine wpList_mkRow et_u8s _ _ rfl rfl rfl rfl rfl (by omega) (by omega) (Below.refl _ _) (Nat.le_refl _) ?_; intro w1 hrow hbel hsz1)
  have HR := Lib.hid hrow
  have HB := Lib.hid hbel
  clear hrow hbel
  go_loopw [10] (fun i wr => ∃ k : Nat, k ≤ many ∧ i = .int .i64 k ∧ Row wr w.heap.size 5 (beTo n many k) ∧ Below w.heap.size w wr) (fun i _ => many - (intOf i).toNat)
  case atStart => exact ⟨0, Nat.zero_le _, rfl, by
      unfold beTo
      rw [List.drop_eq_nil_of_le (by rw [u8s_length, be_length]; omega), List.append_nil]
      exact HR.out, HB.out⟩
  case round =>
    obtain ⟨k, hk, rfl, hr, hb⟩ := hrel
    have HR := Lib.hid hr
    have HB := Lib.hid hb
    clear hr hb
    by_cases hlt : k < many
    · have hi : many - 1 - k < (beTo n many k).length := by rw [beTo_length n many k hk]; omega
      have hcell := HR.out.cell hi
      have hfree := HR.out.free (many - 1 - k)
      have HS := Lib.hid (beTo_step n many k hlt)
      have hs1 : 8 * (k : Int) ≤ 64 := by omega
      generalize (beTo n many k)[many - 1 - k] = old at *
      go_wp2
      go_roundw
      case rel =>
        refine ⟨k + 1, by omega, by go_num, ?_, HB.out.setCell (Nat.le_refl _) _⟩
        rw [← HS.out]
        exact HR.out.set _ _
      case measure => simp [intOf]; omega
    · have e : k = many := by omega
      subst e
      have HR' := Lib.hid (show wr.ownsRow w.heap.size 5 1 (.slice (some ⟨w.heap.size, 0, none⟩) k k) k (u8s (be n k)) by
        have h1 := HR.out.owns (Nat.le_refl _) (by rw [beTo_length n k k (by omega)]; omega)
        rw [beTo_length n k k (by omega)] at h1
        simpa [beTo] using h1)
      go_wp2
      go_ret
      exact ⟨_, rfl, HR'.out, HB.out⟩

set_option maxHeartbeats 400000 in
theorem low_any (n : Nat) (w : World) (hn : n < 4294967296) :
    Calls Tryz.prog 54 #[.int .u32 n] w fun e w' => e = .returned (.int .u64 (leafN n : Nat)) ∧ Below w.heap.size w w' := by
  have hni : ((n : Nat) : Int) < 4294967296 := by omega
  go_enter Tryz.func54, Tryz.ntmps54
  go_wp2_with fail
  have hrow : Row (w.alloc (.cells #[.int .u8 0] 5)) w.heap.size 5 [.int .u8 0] := heap_alloc_new w _
  have hbel : Below w.heap.size w (w.alloc (.cells #[.int .u8 0] 5)) := (Below.refl _ _).alloc (Nat.le_refl _) _
  have hsz : (w.alloc (.cells #[.int .u8 0] 5)).heap.size = w.heap.size + 1 := by simp
  generalize (w.alloc (.cells #[.int .u8 0] 5)) = w1 at *
  refine (bytesOf_any n 4 _ (by omega) (by omega)).mono ?_
  rintro e w2 ⟨v2, rfl, ho2, hb2⟩
  have hown : w2.ownsRow w.heap.size 5 1 (.slice (some ⟨w.heap.size, 0, none⟩) 1 1) 1 [.int .u8 0] := (hrow.below hb2 (by omega)).owns (Nat.le_refl _) (by simp)
  have HO := Lib.hid hown
  have HS := Lib.hid (Sl.ofOwns ho2)
  have HB := Lib.hid (hbel.trans (hb2.mono (by omega)))
  have hsz2 : w.heap.size ≤ w2.heap.size := by have := hb2.size; omega
  clear hown ho2 hbel hb2 hrow hsz
  go_wp2_with (at_builtin; refine wpList_cat et_u8s _ _ rfl rfl HO.out rfl rfl HS.out (u8s_one _) (by omega) (by omega) HB.out hsz2 ?_; intro v3 w3 hown3 hbel3 hsz3 _)
  have hsl : Sl w3 1 v3 (0 :: be n 4).length (u8s (0 :: be n 4)) := by
    have := Sl.ofOwns hown3
    simpa [u8s, be_length] using this
  have HB3 := Lib.hid hbel3
  have HS3 := Lib.hid hsl
  clear hown3 hbel3 hsl
  go_wp2_with fail
  refine (mix_any _ (0 :: be n 4) _ HS3.out).mono ?_
  rintro e w' ⟨rfl, rfl⟩
  go_wp2
  go_ret
  exact ⟨rfl, HB3.out⟩

set_option maxHeartbeats 400000 in
theorem grow_any (n : Nat) (w : World) (hn : n ≤ 1000000000) :
    Calls Tryz.prog 96 #[.slice none 0 0, .int .i64 n] w fun e w' => ∃ v', e = .returned v' ∧ w'.ownsRow w.heap.size 5 1 v' 0 [] ∧ Below w.heap.size w w' := by
  by_cases h0 : n = 0
  · subst h0
    go_enter Tryz.func96, Tryz.ntmps96
    go_wp2
    go_ret
    exact ⟨_, rfl, World.ownsRow_nil _ _ _ _, Below.refl _ _⟩
  · go_enter Tryz.func96, Tryz.ntmps96
    go_wp2_with (at_builtin; refine wpList_appendMk et_u8s (by kernel_rfl) _ _ rfl rfl rfl rfl (by omega) (by omega) (by omega) (Below.refl w.heap.size w) (Nat.le_refl _) ?_; intro c w1 hc1 hc0 hc2 hown hbel hsz)
    have HO := Lib.hid hown
    have HB := Lib.hid hbel
    clear hown hbel
    have hc3 : ¬ (c = 0) := by omega
    go_wp2
    go_ret
    exact ⟨_, rfl, HO.out, HB.out⟩

/-- The slices vs read as the lists of bytes ls. -/
def Lists (w : World) (vs : List Value) (ls : List (List UInt8)) : Prop := vs.length = ls.length ∧ ∀ i (h : i < vs.length) (h' : i < ls.length), Sl w 1 vs[i] ls[i].length (u8s ls[i])
theorem Lists.below {B : Nat} {w w' : World} {vs : List Value} {ls : List (List UInt8)} (h : Lists w vs ls) (hb : Below B w w') (hB : w.heap.size ≤ B) : Lists w' vs ls :=
  ⟨h.1, fun i hi hi' => (h.2 i hi hi').below hb hB⟩

def catL (ls : List (List UInt8)) : List UInt8 := ls.flatten
theorem sum_take_le (ls : List (List UInt8)) (k : Nat) : (catL (ls.take k)).length ≤ (catL ls).length := by
  have h := List.take_append_drop k ls
  have h2 : (catL ls) = (catL (ls.take k)) ++ (catL (ls.drop k)) := by unfold catL; rw [← List.flatten_append, h]
  rw [h2, List.length_append]; omega
theorem flatten_take_succ (ls : List (List UInt8)) (k : Nat) (h : k < ls.length) : (catL (ls.take (k + 1))) = (catL (ls.take k)) ++ ls[k] := by
  unfold catL; rw [take_snoc ls k h, List.flatten_append]; simp

set_option maxHeartbeats 800000 in
theorem concat_any (v : Value) (vs : List Value) (ls : List (List UInt8)) (w : World) (h : Sl w 1 v vs.length vs) (hls : Lists w vs ls) (hn : (catL ls).length ≤ 1000000000) (hm : vs.length ≤ 1000) :
    Calls Tryz.prog 80 #[v] w fun e w' => ∃ v', e = .returned v' ∧ w'.ownsRow w.heap.size 5 1 v' (catL ls).length (u8s (catL ls)) ∧ Below w.heap.size w w' := by
  have hlen := h.len et_u8ss2.ht 3
  have H := Lib.hid h
  have HL := Lib.hid hls
  have HE := Lib.hid hls.1
  have HT := Lib.hid (sum_take_le ls)
  clear h hls
  go_enter Tryz.func80, Tryz.ntmps80
  go_wp2_with fail
  go_loop [3, 11] (fun x i => ∃ k : Nat, k ≤ vs.length ∧ i = .int .i64 k ∧ x = .int .i64 ((catL (ls.take k)).length : Nat)) (fun _ i => vs.length - (intOf i).toNat)
  case atStart => exact ⟨0, Nat.zero_le _, rfl, rfl⟩
  case round =>
    obtain ⟨k, hk, rfl, rfl⟩ := hrel
    by_cases hlt : k < vs.length
    · have hlt' : k < ls.length := by rw [← HE.out]; exact hlt
      obtain ⟨ad, hix, hcell⟩ := H.out.idx1 et_u8ss2 k (by omega) (by omega)
      rw [Int.toNat_natCast, List.getD_eq_getElem?_getD, List.getElem?_eq_getElem hlt, Option.getD_some] at hcell
      have hlk := (HL.out.2 k hlt hlt').len et_u8s.ht 3
      have HF := Lib.hid (flatten_take_succ ls k hlt')
      have ht0 := HT.out (k + 1)
      have ht1 : (catL (ls.take (k + 1))).length = (catL (ls.take k)).length + ls[k].length := by rw [HF.out, List.length_append]
      generalize ls[k].length = m at *
      generalize (catL (ls.take k)).length = a at *
      generalize hb : (catL (ls.take (k + 1))).length = b at *
      have HB := Lib.hid hb
      have HT1 := Lib.hid ht1
      have hb1 : a + m ≤ 1000000000 := by omega
      clear hb ht0 ht1
      go_wp2
      go_round
      case rel => exact ⟨k + 1, by omega, by go_num, by rw [HB.out, HT1.out]; go_num⟩
      case measure => simp [intOf]; omega
    · have e : k = vs.length := by omega
      subst e
      have HN := Lib.hid (show (catL (ls.take vs.length)) = (catL ls) by rw [HE.out, List.take_length])
      rw [HN.out]
      go_wp2_with fail
      refine (grow_any _ _ hn).mono ?_
      rintro e w1 ⟨v1, rfl, ho1, hb1⟩
      have HO1 := Lib.hid ho1
      have HB1 := Lib.hid hb1
      clear ho1 hb1
      go_wp2_with fail
      go_loopw [6, 27] (fun x i wr => ∃ k : Nat, k ≤ vs.length ∧ i = .int .i64 k ∧ wr.ownsRow w.heap.size 5 1 x (catL (ls.take k)).length (u8s (catL (ls.take k))) ∧ Below w.heap.size w wr) (fun _ i _ => vs.length - (intOf i).toNat)
      case atStart => exact ⟨0, Nat.zero_le _, rfl, by simpa [u8s, catL] using HO1.out, HB1.out⟩
      case round =>
        obtain ⟨k, hk, rfl, hown, hbel⟩ := hrel
        have HO := Lib.hid hown
        have HB := Lib.hid hbel
        have hsz := hbel.size
        clear hown hbel
        by_cases hlt : k < vs.length
        · have hlt' : k < ls.length := by rw [← HE.out]; exact hlt
          obtain ⟨ad, hix, hcell⟩ := (H.out.below HB.out (Nat.le_refl _)).idx1 et_u8ss2 k (by omega) (by omega)
          rw [Int.toNat_natCast, List.getD_eq_getElem?_getD, List.getElem?_eq_getElem hlt, Option.getD_some] at hcell
          have HK := Lib.hid ((HL.out.below HB.out (Nat.le_refl _)).2 k hlt hlt')
          have HF := Lib.hid (flatten_take_succ ls k hlt')
          have ht0 := HT.out (k + 1)
          rw [HF.out, List.length_append] at ht0
          go_wp2_with (at_builtin; refine wpList_cat et_u8s _ _ rfl rfl HO.out rfl rfl HK.out (u8s_one _) (by omega) (by omega) HB.out hsz ?_; intro v3 w3 hown3 hbel3 hsz3 _)
          have HO3 := Lib.hid hown3
          have HB3 := Lib.hid hbel3
          clear hown3 hbel3
          go_wp2
          go_roundw
          case rel => exact ⟨k + 1, by omega, by go_num, by rw [HF.out, List.length_append, u8s_append]; exact HO3.out, HB3.out⟩
          case measure => simp [intOf]; omega
        · have e : k = vs.length := by omega
          subst e
          have HO' := Lib.hid (show wr.ownsRow w.heap.size 5 1 u6 (catL ls).length (u8s (catL ls)) by
            have := HO.out
            rwa [HN.out] at this)
          go_wp2
          go_ret
          exact ⟨_, rfl, HO'.out, HB.out⟩
end Go.Proofs.YtnapkooefpkicaaGreatDoor


namespace Go.Proofs.YtnapkooefpkicaaGreatDoor
open Go.RowKit
attribute [local go_sem ↓] run_min_kept run_max_kept

/-- Nodes as values. -/
def u64s (l : List Nat) : List Value := l.map fun (c : Nat) => .int .u64 (c : Int)
theorem u64s_length (l : List Nat) : (u64s l).length = l.length := by simp [u64s]
theorem u64s_snoc (l : List Nat) (x : Nat) : u64s (l ++ [x]) = u64s l ++ [.int .u64 (x : Int)] := by simp [u64s]
theorem u64s_getD (l : List Nat) (k : Nat) (h : k < l.length) : (u64s l).getD k undef = .int .u64 (l.getD k 0 : Nat) := by
  simp [u64s, List.getD_eq_getElem?_getD, h]

set_option maxRecDepth 100000 in
set_option maxHeartbeats 400000 in
theorem rboth_any (a b : Nat) (w : World) (ha : a < 18446744073709551616) (hb : b < 18446744073709551616) :
    Calls Tryz.prog 55 #[.int .u64 a, .int .u64 b] w fun e w' => e = .returned (.int .u64 (bothN a b : Nat)) ∧ Below w.heap.size w w' := by
  go_enter Tryz.func55, Tryz.ntmps55
  go_wp2_with fail
  have hrow : Row (w.alloc (.cells #[.int .u8 1] 5)) w.heap.size 5 [.int .u8 1] := heap_alloc_new w _
  have hbel : Below w.heap.size w (w.alloc (.cells #[.int .u8 1] 5)) := (Below.refl _ _).alloc (Nat.le_refl _) _
  have hsz : (w.alloc (.cells #[.int .u8 1] 5)).heap.size = w.heap.size + 1 := by simp
  generalize (w.alloc (.cells #[.int .u8 1] 5)) = w1 at *
  refine (bytesOf_any a 8 _ ha (by omega)).mono ?_
  rintro e w2 ⟨v2, rfl, ho2, hb2⟩
  have HR := Lib.hid (hrow.below hb2 (by omega))
  have hs2 := Sl.ofOwns ho2
  have HS2 := Lib.hid hs2
  have k2 := hs2.oneCell
  have hz2 := hb2.size
  have HB := Lib.hid (hbel.trans (hb2.mono (by omega)))
  clear hrow hbel ho2 hb2 hs2
  go_wp2_with fail
  refine (bytesOf_any b 8 _ hb (by omega)).mono ?_
  rintro e w3 ⟨v3, rfl, ho3, hb3⟩
  have hs1 : Sl w3 1 (.slice (some ⟨w.heap.size, 0, none⟩) 1 1) 1 [.int .u8 1] := Sl.ofOwns ((HR.out.below hb3 (by omega)).owns (Nat.le_refl _) (by simp))
  have hs3 := Sl.ofOwns ho3
  have k3 := hs3.oneCell
  have hls : Lists w3 [.slice (some ⟨w.heap.size, 0, none⟩) 1 1, v2, v3] [[1], be a 8, be b 8] := by
    refine ⟨rfl, ?_⟩
    intro i hi hi'
    match i, hi with
    | 0, _ => exact hs1
    | 1, _ => have := HS2.out.below hb3 (Nat.le_refl _); simpa [be_length] using this
    | 2, _ => simpa [be_length] using hs3
  have HL := Lib.hid hls
  have HB3 := Lib.hid (HB.out.trans (hb3.mono (by omega)))
  have hz3 := hb3.size
  clear hs1 hs3 hls ho3 hb3
  go_wp2_with (refine wpList_lit3 et_u8ss2 _ _ _ rfl rfl rfl rfl rfl rfl k2 k3 ?_)
  have hb4 : Below w.heap.size w (w3.alloc (.cells #[.slice (some ⟨w.heap.size, 0, none⟩) 1 1, v2, v3] 76)) := HB3.out.alloc (by omega) _
  have hr4 : Row (w3.alloc (.cells #[.slice (some ⟨w.heap.size, 0, none⟩) 1 1, v2, v3] 76)) w3.heap.size 76 [.slice (some ⟨w.heap.size, 0, none⟩) 1 1, v2, v3] := heap_alloc_new w3 _
  have hl4 := HL.out.below ((Below.refl w3.heap.size w3).alloc (Nat.le_refl _) (.cells #[.slice (some ⟨w.heap.size, 0, none⟩) 1 1, v2, v3] 76)) (Nat.le_refl _)
  have hz4 : (w3.alloc (.cells #[.slice (some ⟨w.heap.size, 0, none⟩) 1 1, v2, v3] 76)).heap.size = w3.heap.size + 1 := by simp
  generalize (w3.alloc (.cells #[.slice (some ⟨w.heap.size, 0, none⟩) 1 1, v2, v3] 76)) = w4 at *
  refine (concat_any _ [.slice (some ⟨w.heap.size, 0, none⟩) 1 1, v2, v3] [[1], be a 8, be b 8] _ (Sl.ofOwns (hr4.owns (Nat.le_refl _) (by simp))) hl4 (by simp [catL, be_length]) (by simp)).mono ?_
  rintro e w5 ⟨v5, rfl, ho5, hb5⟩
  have e5 : catL [[1], be a 8, be b 8] = 1 :: (be a 8 ++ be b 8) := by simp [catL]
  rw [e5] at ho5
  have HS5 := Lib.hid (Sl.ofOwns ho5)
  have HB5 := Lib.hid (hb4.trans (hb5.mono (by omega)))
  clear hb4 hr4 hl4 ho5 hb5 e5
  go_wp2_with fail
  refine (mix_any _ (1 :: (be a 8 ++ be b 8)) _ HS5.out).mono ?_
  rintro e w' ⟨rfl, rfl⟩
  go_wp2
  go_ret
  exact ⟨rfl, HB5.out⟩

/-- All numbers of a list are words. -/
def Words (l : List Nat) : Prop := ∀ x ∈ l, x < 18446744073709551616
theorem Words.getD {l : List Nat} (h : Words l) (k : Nat) : l.getD k 0 < 18446744073709551616 := by
  rw [List.getD_eq_getElem?_getD]
  cases hk : l[k]? with
  | none => simp
  | some x => exact h x (List.mem_of_getElem? hk)

def lowL (s : List Nat) : List Nat := s.map leafN
theorem lowL_words (s : List Nat) : Words (lowL s) := by
  intro x hx
  obtain ⟨n, _, rfl⟩ := List.mem_map.1 hx
  exact leafN_lt n
def aboveAt (row : List Nat) (i : Nat) : Nat := if 2 * i + 1 < row.length then bothN (row.getD (2 * i) 0) (row.getD (2 * i + 1) 0) else row.getD (2 * i) 0
def aboveL (row : List Nat) : List Nat := (List.range ((row.length + 1) / 2)).map (aboveAt row)
theorem aboveL_length (row : List Nat) : (aboveL row).length = (row.length + 1) / 2 := by simp [aboveL]
theorem aboveL_words (row : List Nat) (h : Words row) : Words (aboveL row) := by
  intro x hx
  obtain ⟨n, _, rfl⟩ := List.mem_map.1 hx
  unfold aboveAt
  split
  · exact bothN_lt _ _
  · exact h.getD _
theorem aboveL_take (row : List Nat) (k : Nat) (h : k < (row.length + 1) / 2) : (aboveL row).take (k + 1) = (aboveL row).take k ++ [aboveAt row k] := by
  rw [take_snoc _ k (by rw [aboveL_length]; exact h)]
  simp [aboveL]

/-- Sums that fit. -/
def Sums32 (l : List Nat) : Prop := ∀ x ∈ l, x < 4294967296

set_option maxRecDepth 100000 in
set_option maxHeartbeats 400000 in
theorem lowest_any (v : Value) (s : List Nat) (w : World) (h : Sl w 1 v s.length (u32s s)) (hs : Sums32 s) (hn : s.length ≤ 10000000) :
    Calls Tryz.prog 31 #[v] w fun e w' => ∃ v', e = .returned v' ∧ w'.ownsRow w.heap.size 41 1 v' s.length (u64s (lowL s)) ∧ Below w.heap.size w w' := by
  have hlen := h.len et_u32s.ht 3
  have H := Lib.hid h
  clear h
  go_enter Tryz.func31, Tryz.ntmps31
  go_wp2_with fail
  go_loopw [3, 8] (fun x i wr => ∃ k : Nat, k ≤ s.length ∧ i = .int .i64 k ∧ wr.ownsRow w.heap.size 41 1 x k (u64s (lowL (s.take k))) ∧ Below w.heap.size w wr) (fun _ i _ => s.length - (intOf i).toNat)
  case atStart => exact ⟨0, Nat.zero_le _, rfl, World.ownsRow_nil _ _ _ _, Below.refl _ _⟩
  case round =>
    obtain ⟨k, hk, rfl, hown, hbel⟩ := hrel
    have hsz := hbel.size
    have HO := Lib.hid hown
    have HB := Lib.hid hbel
    clear hown hbel
    by_cases hlt : k < s.length
    · obtain ⟨ad, hix, hcell⟩ := (H.out.below HB.out (Nat.le_refl _)).idx1 et_u32s k (by omega) (by omega)
      rw [Int.toNat_natCast, u32s_getD s k hlt] at hcell
      have hx := hs s[k] (List.getElem_mem hlt)
      go_wp2_with fail
      refine (leaf_any _ _ hx).mono ?_
      rintro e w2 ⟨rfl, hb2⟩
      have HO2 := Lib.hid (owns_below HO.out hb2)
      have HB2 := Lib.hid (HB.out.trans (hb2.mono hsz))
      have hsz2 : w.heap.size ≤ w2.heap.size := Nat.le_trans hsz hb2.size
      clear hb2
      go_wp2_with (at_builtin; refine wpList_push et_u64s _ _ rfl rfl HO2.out rfl rfl rfl (one1 rfl) (by omega) (by omega) HB2.out hsz2 ?_; intro v' w' hown' hbel' hsz' _)
      have HO' := Lib.hid hown'
      have HE' := Lib.hid hbel'
      clear hown' hbel'
      go_wp2
      go_roundw
      case rel => exact ⟨k + 1, by omega, by go_num, by rw [take_snoc s k hlt, lowL, List.map_append, u64s, List.map_append]; exact HO'.out, HE'.out⟩
      case measure => simp [intOf]; omega
    · have e : k = s.length := by omega
      subst e
      rw [List.take_length] at HO
      go_wp2
      go_ret
      exact ⟨_, rfl, HO.out, HB.out⟩

set_option maxRecDepth 100000 in
set_option maxHeartbeats 800000 in
theorem above_any (v : Value) (row : List Nat) (w : World) (h : Sl w 1 v row.length (u64s row)) (hr : Words row) (hn : row.length ≤ 10000000) :
    Calls Tryz.prog 32 #[v] w fun e w' => ∃ v', e = .returned v' ∧ w'.ownsRow w.heap.size 41 1 v' (aboveL row).length (u64s (aboveL row)) ∧ Below w.heap.size w w' := by
  have hlen := h.len et_u64s.ht 3
  have H := Lib.hid h
  have HL := Lib.hid (aboveL_length row)
  clear h
  go_enter Tryz.func32, Tryz.ntmps32
  go_wp2_with fail
  go_loopw [3, 4] (fun x i wr => ∃ k : Nat, 2 * k ≤ row.length + 1 ∧ i = .int .i64 (2 * (k : Int)) ∧ wr.ownsRow w.heap.size 41 1 x k (u64s ((aboveL row).take k)) ∧ Below w.heap.size w wr) (fun _ i _ => row.length + 2 - (intOf i).toNat)
  case atStart => exact ⟨0, by omega, rfl, World.ownsRow_nil _ _ _ _, Below.refl _ _⟩
  case round =>
    obtain ⟨k, hk, rfl, hown, hbel⟩ := hrel
    have hsz := hbel.size
    have HO := Lib.hid hown
    have HB := Lib.hid hbel
    clear hown hbel
    by_cases hlt : 2 * k < row.length
    · obtain ⟨ad, hix, hcell0⟩ := H.out.idx1 et_u64s (2 * (k : Int)) (by omega) (by omega)
      rw [show (2 * (k : Int)).toNat = 2 * k by omega, u64s_getD row (2 * k) hlt] at hcell0
      have hcell := cell_behind HB.out hcell0
      have hw1 := hr.getD (2 * k)
      have HT := Lib.hid (aboveL_take row k (by omega))
      by_cases hlt2 : 2 * k + 1 < row.length
      · obtain ⟨ad2, hix2, hcell20⟩ := H.out.idx1 et_u64s (2 * (k : Int) + 1) (by omega) (by omega)
        rw [show (2 * (k : Int) + 1).toNat = 2 * k + 1 by omega, u64s_getD row (2 * k + 1) hlt2] at hcell20
        have hcell2 := cell_behind HB.out hcell20
        have hw2 := hr.getD (2 * k + 1)
        have HA := Lib.hid (show aboveAt row k = bothN (row.getD (2 * k) 0) (row.getD (2 * k + 1) 0) by unfold aboveAt; rw [if_pos hlt2])
        generalize row.getD (2 * k) 0 = n1 at *
        generalize row.getD (2 * k + 1) 0 = n2 at *
        have hsum : IntKind.i64.wrap (2 * (k : Int) + 1) = 2 * (k : Int) + 1 := IntWalk.i64_in _ (by omega)
        go_wp2_with fail
        go_region_held3 (fun w' => w'.cell? ad = some (.int .u64 n1) ∧ w'.cell? ad2 = some (.int .u64 n2)) (go_keep) (first | (go_at_call 51; refine (both_any n1 n2 _ hw1 hw2).mono ?_; rintro e w2 ⟨rfl, hb2⟩; have q1 := cell_drewn hb2 hcell; have q2 := cell_drewn hb2 hcell2) | (refine step_push (w := w2) et_u64s _ _ (by rfl) (by rfl) (owns_below HO.out.drew hb2) (by rfl) (by rfl) rfl (one1 rfl) (by omega) (by omega) (HB.out.drew.trans (hb2.mono hsz)) (Nat.le_trans hsz hb2.size) ?_; intro v' w' hown' hbel' hsz' _; have q3 := cell_behind hbel' hcell0; have q4 := cell_behind hbel' hcell20))
        have HO' := Lib.hid hown'
        have HE' := Lib.hid hbel'
        clear hown' hbel'
        go_wp2
        go_roundw
        case rel => exact ⟨k + 1, by omega, by go_num, by rw [HT.out, u64s_snoc, HA.out]; exact HO'.out, HE'.out⟩
        case measure => simp [intOf]; omega
      · have HA := Lib.hid (show aboveAt row k = row.getD (2 * k) 0 by unfold aboveAt; rw [if_neg hlt2])
        generalize row.getD (2 * k) 0 = n1 at *
        go_wp2_with (at_builtin; refine wpList_push et_u64s _ _ rfl rfl HO.out rfl rfl rfl (one1 rfl) (by omega) (by omega) HB.out hsz ?_; intro v' w' hown' hbel' hsz' _)
        have HO' := Lib.hid hown'
        have HE' := Lib.hid hbel'
        clear hown' hbel'
        go_wp2
        go_roundw
        case rel => exact ⟨k + 1, by omega, by go_num, by rw [HT.out, u64s_snoc, HA.out]; exact HO'.out, HE'.out⟩
        case measure => simp [intOf]; omega
    · have e : k = (row.length + 1) / 2 := by omega
      have HO' := Lib.hid (show wr.ownsRow w.heap.size 41 1 u3 (aboveL row).length (u64s (aboveL row)) by
        have := HO.out
        rw [List.take_of_length_le (by rw [HL.out]; omega)] at this
        rw [HL.out, ← e]; exact this)
      clear e
      go_wp2
      go_ret
      exact ⟨_, rfl, HO'.out, HB.out⟩
end Go.Proofs.YtnapkooefpkicaaGreatDoor


namespace Go.Proofs.YtnapkooefpkicaaGreatDoor
open Go.RowKit
attribute [local go_sem ↓] run_min_kept run_max_kept

/-- The rows of nodes. -/
def rowAt (s : List Nat) : Nat → List Nat
  | 0 => lowL s
  | j + 1 => aboveL (rowAt s j)
theorem rowAt_words (s : List Nat) : ∀ j, Words (rowAt s j)
  | 0 => lowL_words s
  | j + 1 => aboveL_words _ (rowAt_words s j)
theorem rowAt_le (s : List Nat) : ∀ j, (rowAt s j).length ≤ s.length
  | 0 => by simp [rowAt, lowL]
  | j + 1 => by
    have := rowAt_le s j
    rw [rowAt, aboveL_length]
    omega
theorem rowAt_pos (s : List Nat) (h : 0 < s.length) : ∀ j, 0 < (rowAt s j).length
  | 0 => by simpa [rowAt, lowL] using h
  | j + 1 => by
    have := rowAt_pos s h j
    rw [rowAt, aboveL_length]
    omega
/-- Row m is the first one of at most one node. -/
def IsTop (s : List Nat) (m : Nat) : Prop := (rowAt s m).length ≤ 1 ∧ ∀ j, j < m → 1 < (rowAt s j).length
theorem IsTop.uniq {s : List Nat} {m n : Nat} (h : IsTop s m) (k : IsTop s n) : m = n := by
  rcases Nat.lt_trichotomy m n with hl | he | hl
  · have := k.2 m hl; have := h.1; omega
  · exact he
  · have := h.2 n hl; have := k.1; omega

set_option maxRecDepth 100000 in
set_option maxHeartbeats 400000 in
theorem vRoot_any (v : Value) (s : List Nat) (w : World) (h : Sl w 1 v s.length (u32s s)) (hs : Sums32 s) (hn : s.length ≤ 10000000) (h0 : 0 < s.length) :
    Calls Tryz.prog 13 #[v] w fun e w' => ∃ m, IsTop s m ∧ e = .returned (.int .u64 ((rowAt s m).getD 0 0 : Nat)) ∧ Below w.heap.size w w' := by
  have hlen := h.len et_u32s.ht 3
  have H := Lib.hid h
  have hne : ((s.length : Int) == 0) = false := by rw [beq_eq_false_iff_ne]; omega
  clear h
  go_enter Tryz.func13, Tryz.ntmps13
  go_wp2_with fail
  refine (lowest_any v s _ H.out hs hn).mono ?_
  rintro e w1 ⟨v1, rfl, ho1, hb1⟩
  have HO1 := Lib.hid ho1
  have HB1 := Lib.hid hb1
  clear ho1 hb1
  go_wp2_with fail
  go_loopg [3] (s.length + 1) (fun g x wr => ∃ j : Nat, g = (rowAt s j).length + 1 ∧ (∀ i, i < j → 1 < (rowAt s i).length) ∧ Sl wr 1 x (rowAt s j).length (u64s (rowAt s j)) ∧ Below w.heap.size w wr)
  case atStart => exact ⟨0, by simp [rowAt, lowL], fun i hi => absurd hi (by omega), by simpa [rowAt, lowL] using Sl.ofOwns HO1.out, HB1.out⟩
  case round =>
    obtain ⟨j, rfl, htop, hsl, hbel⟩ := hrel
    have hl := rowAt_le s j
    have hp := rowAt_pos s h0 j
    have HT := Lib.hid htop
    have HS := Lib.hid hsl
    have HB := Lib.hid hbel
    have hsz := hbel.size
    have hlj := hsl.len et_u64s.ht 3
    have HA := Lib.hid (above_any u3 (rowAt s j) wr hsl (rowAt_words s j) (by omega))
    have HL := Lib.hid (aboveL_length (rowAt s j))
    have HZ := Lib.hid (u64s_getD (rowAt s j) 0 hp)
    clear htop hsl hbel
    generalize hr : rowAt s j = row at *
    have HR := Lib.hid hr
    clear hr
    by_cases hlt : 1 < row.length
    · go_wp2_with fail
      refine HA.out.mono ?_
      rintro e w2 ⟨v2, rfl, ho2, hb2⟩
      have HO2 := Lib.hid (Sl.ofOwns ho2)
      have HB2 := Lib.hid (HB.out.trans (hb2.mono hsz))
      clear ho2 hb2
      go_wp2_with fail
      go_roundg ((aboveL row).length + 1)
      case rel =>
        refine ⟨j + 1, by rw [rowAt, HR.out], ?_, by rw [rowAt, HR.out]; exact HO2.out, HB2.out⟩
        intro i hi
        rcases Nat.lt_or_ge i j with h1 | h1
        · exact HT.out i h1
        · have : i = j := by omega
          subst this; rw [HR.out]; exact hlt
      case measure => rw [HL.out]; omega
    · obtain ⟨ad, hix, hcell⟩ := HS.out.idx1 et_u64s 0 (by omega) (by omega)
      rw [Int.toNat_zero, HZ.out] at hcell
      clear HA HL HZ
      generalize hx0 : row.getD 0 0 = x0 at *
      have HX := Lib.hid hx0
      clear hx0
      go_wp2_with fail
      go_ret
      exact ⟨j, ⟨by rw [HR.out]; omega, HT.out⟩, by rw [HR.out, HX.out]; rfl, HB.out⟩

theorem vRoot_nil (v : Value) (w : World) (h : Sl w 1 v 0 []) :
    Calls Tryz.prog 13 #[v] w fun e w' => e = .returned (.int .u64 (mseed : Nat)) ∧ w = w' := by
  have hlen := h.len et_u32s.ht 3
  clear h
  go_enter Tryz.func13, Tryz.ntmps13
  go_wp2_with fail
  refine (newMixer_any _).mono ?_
  rintro e w' ⟨rfl, rfl⟩
  go_wp2
  go_ret
  exact ⟨rfl, rfl⟩

theorem top_le (s : List Nat) : ∀ j, (∀ k, k < j → 1 < (rowAt s k).length) → j + (rowAt s j).length ≤ s.length + 1
  | 0, _ => by simp [rowAt, lowL]
  | j + 1, h => by
    have h1 := top_le s j (fun k hk => h k (by omega))
    have h2 := h j (by omega)
    rw [rowAt, aboveL_length]
    omega
end Go.Proofs.YtnapkooefpkicaaGreatDoor


namespace Go.Proofs.YtnapkooefpkicaaGreatDoor
open Go.RowKit
attribute [local go_sem ↓] run_min_kept run_max_kept

theorem et_u64ss : ElemTy Tryz.prog 71 33 1 24 (.slice none 0 0) := ⟨by kernel_rfl, by kernel_rfl, by kernel_rfl, by decide⟩

/-- The rows that were gathered, each in a block of its own. -/
def RowsAt (w : World) (B : Nat) (out : Value) (s : List Nat) (vs : List Value) : Prop :=
  AllAt (fun j x => w.ownsRow B 41 1 x (rowAt s j).length (u64s (rowAt s j)) ∧ Apart x out) vs

theorem RowsAt.below {w w' : World} {B : Nat} {out : Value} {s : List Nat} {vs : List Value} (h : RowsAt w B out s vs) (hb : Below w.heap.size w w') : RowsAt w' B out s vs :=
  h.imp fun _ _ ⟨h1, h2⟩ => ⟨owns_below h1 hb, h2⟩
theorem RowsAt.push {w w' : World} {B : Nat} {out out' : Value} {s : List Nat} {vs : List Value} (h : RowsAt w B out s vs) (hp : Pushed w out w' out') : RowsAt w' B out' s vs :=
  h.imp fun _ _ ⟨h1, h2⟩ => hp.keep h1 h2

theorem owns_oneCell {w : World} {B e size n : Nat} {v : Value} {xs : List Value} (h : w.ownsRow B e size v n xs) : v.oneCell' = true := (Sl.ofOwns h).oneCell

/-- What holds while the next row is made. -/
def Inner (row : List Nat) (wo : World) (x i : Value) (wr : World) : Prop :=
  ∃ k : Nat, 2 * k ≤ row.length + 1 ∧ i = .int .i64 (2 * (k : Int)) ∧ wr.ownsRow wo.heap.size 41 1 x k (u64s ((aboveL row).take k)) ∧ Below wo.heap.size wo wr

set_option maxRecDepth 100000 in
set_option maxHeartbeats 1600000 in
theorem rows_any (v : Value) (s : List Nat) (w : World) (h : Sl w 1 v s.length (u32s s)) (hs : Sums32 s) (hn : s.length ≤ 10000000) :
    Calls Tryz.prog 38 #[v] w fun e w' => ∃ m v' vs, IsTop s m ∧ e = .returned v' ∧ w'.ownsRow w.heap.size 33 1 v' (m + 1) vs ∧ vs.length = m + 1 ∧
      RowsAt w' w.heap.size v' s vs ∧ Below w.heap.size w w' := by
  have hlen := h.len et_u32s.ht 3
  have H := Lib.hid h
  clear h
  go_enter Tryz.func38, Tryz.ntmps38
  go_wp2_with fail
  go_loopw [3, 11] (fun x i wr => ∃ k : Nat, k ≤ s.length ∧ i = .int .i64 k ∧ wr.ownsRow w.heap.size 41 1 x k (u64s (lowL (s.take k))) ∧ Below w.heap.size w wr) (fun _ i _ => s.length - (intOf i).toNat)
  case atStart => exact ⟨0, Nat.zero_le _, rfl, World.ownsRow_nil _ _ _ _, Below.refl _ _⟩
  case round =>
    obtain ⟨k, hk, rfl, hown, hbel⟩ := hrel
    have hsz := hbel.size
    have HO := Lib.hid hown
    have HB := Lib.hid hbel
    clear hown hbel
    by_cases hlt : k < s.length
    · obtain ⟨ad, hix, hcell⟩ := (H.out.below HB.out (Nat.le_refl _)).idx1 et_u32s k (by omega) (by omega)
      rw [Int.toNat_natCast, u32s_getD s k hlt] at hcell
      have hx := hs s[k] (List.getElem_mem hlt)
      go_wp2_with fail
      refine (low_any _ _ hx).mono ?_
      rintro e w2 ⟨rfl, hb2⟩
      have HO2 := Lib.hid (owns_below HO.out hb2)
      have HB2 := Lib.hid (HB.out.trans (hb2.mono hsz))
      have hsz2 : w.heap.size ≤ w2.heap.size := Nat.le_trans hsz hb2.size
      clear hb2
      go_wp2_with (at_builtin; refine wpList_push et_u64s _ _ rfl rfl HO2.out rfl rfl rfl (one1 rfl) (by omega) (by omega) HB2.out hsz2 ?_; intro v' w' hown' hbel' hsz' _)
      have HO' := Lib.hid hown'
      have HE' := Lib.hid hbel'
      clear hown' hbel'
      go_wp2
      go_roundw
      case rel => exact ⟨k + 1, by omega, by go_num, by rw [take_snoc s k hlt, lowL, List.map_append, u64s, List.map_append]; exact HO'.out, HE'.out⟩
      case measure => simp [intOf]; omega
    · have e : k = s.length := by omega
      subst e
      rw [List.take_length] at HO
      have hone := owns_oneCell HO.out
      go_wp2_with (refine wpList_lit1 et_u64ss _ rfl rfl rfl hone ?_)
      have hrow : Row (wr.alloc (.cells #[u3] 33)) wr.heap.size 33 [u3] := heap_alloc_new wr _
      have hb1 : Below wr.heap.size wr (wr.alloc (.cells #[u3] 33)) := (Below.refl _ _).alloc (Nat.le_refl _) _
      have hz1 : (wr.alloc (.cells #[u3] 33)).heap.size = wr.heap.size + 1 := by simp
      generalize (wr.alloc (.cells #[u3] 33)) = w1 at *
      have HO1 := Lib.hid (owns_below HO.out hb1)
      have HB1 := Lib.hid (HB.out.trans (hb1.mono hsz))
      have HX1 := Lib.hid (hrow.owns hsz (by simp))
      have hap : Apart u3 (.slice (some ⟨wr.heap.size, 0, none⟩) 1 1) := by
        cases hb : u3.ownBlock with
        | none => exact .inl hb
        | some g =>
          refine .inr ?_
          rw [hb]
          intro he
          have := (World.ownsRow.lt HO.out g hb).2
          simp [Value.ownBlock] at he
          omega
      have HAP := Lib.hid hap
      clear hrow hb1 hap hone
      go_loopg [3, 6] (s.length + 1) (fun g x out wr => ∃ (j : Nat) (vs : List Value), g = (rowAt s j).length + 1 ∧ (∀ i, i < j → 1 < (rowAt s i).length) ∧ wr.ownsRow w.heap.size 41 1 x (rowAt s j).length (u64s (rowAt s j)) ∧
        wr.ownsRow w.heap.size 33 1 out (j + 1) vs ∧ vs.length = j + 1 ∧ RowsAt wr w.heap.size out s vs ∧ Below w.heap.size w wr)
      case atStart =>
        refine ⟨0, [u3], by simp [rowAt, lowL], fun i hi => absurd hi (by omega), by simpa [rowAt, lowL] using HO1.out, HX1.out, rfl, ?_, HB1.out⟩
        intro i x hx
        match i, hx with
        | 0, hx => simp at hx; subst hx; exact ⟨by simpa [rowAt, lowL] using HO1.out, HAP.out⟩
      case round =>
        obtain ⟨j, vs, rfl, htop, hrowj, hout, hvs, hrows, hbel⟩ := hrel
        have hl := rowAt_le s j
        have hsl := Sl.ofOwns hrowj
        have hlj := hsl.len et_u64s.ht 3
        have htl := top_le s j htop
        have HT := Lib.hid htop
        have HJ := Lib.hid hsl
        have HB := Lib.hid hbel
        have HO := Lib.hid hout
        have HV := Lib.hid hvs
        have HR := Lib.hid hrows
        have hsz := hbel.size
        have HW := Lib.hid (rowAt_words s j)
        have HL := Lib.hid (aboveL_length (rowAt s j))
        have HZ := Lib.hid (u64s_getD (rowAt s j))
        have hone : ∀ {B e size n v xs}, World.ownsRow wr B e size v n xs → v.oneCell' = true := owns_oneCell
        clear htop hsl hbel hout hvs hrows hone hrowj
        generalize hr : rowAt s j = row at *
        have HRW := Lib.hid hr
        clear hr HO1 HB1 HX1 HAP
        by_cases hlt : 1 < row.length
        · obtain ⟨wo, rfl⟩ : ∃ wo : World, wo = wr := ⟨_, rfl⟩
          go_wp2_with fail
          go_loopw [7, 8] (fun x i wr => Inner row wo x i wr) (fun _ i _ => row.length + 2 - (intOf i).toNat)
          case atStart => unfold Inner; exact ⟨0, by omega, rfl, World.ownsRow_nil _ _ _ _, Below.refl _ _⟩
          case round =>
            obtain ⟨k, hk, rfl, hown, hbel⟩ := hrel
            have hszi := hbel.size
            have HOi := Lib.hid hown
            have HBi := Lib.hid hbel
            clear hown hbel
            by_cases hlt : 2 * k < row.length
            · obtain ⟨ad, hix, hcell0⟩ := HJ.out.idx1 et_u64s (2 * (k : Int)) (by omega) (by omega)
              rw [show (2 * (k : Int)).toNat = 2 * k by omega, HZ.out (2 * k) hlt] at hcell0
              have hcell := cell_behind HBi.out hcell0
              have hw1 := HW.out.getD (2 * k)
              have HT2 := Lib.hid (aboveL_take row k (by omega))
              by_cases hlt2 : 2 * k + 1 < row.length
              · obtain ⟨ad2, hix2, hcell20⟩ := HJ.out.idx1 et_u64s (2 * (k : Int) + 1) (by omega) (by omega)
                rw [show (2 * (k : Int) + 1).toNat = 2 * k + 1 by omega, HZ.out (2 * k + 1) hlt2] at hcell20
                have hcell2 := cell_behind HBi.out hcell20
                have hw2 := HW.out.getD (2 * k + 1)
                have HA := Lib.hid (show aboveAt row k = bothN (row.getD (2 * k) 0) (row.getD (2 * k + 1) 0) by unfold aboveAt; rw [if_pos hlt2])
                clear HZ
                generalize row.getD (2 * k) 0 = n1 at *
                generalize row.getD (2 * k + 1) 0 = n2 at *
                have hsum : IntKind.i64.wrap (2 * (k : Int) + 1) = 2 * (k : Int) + 1 := IntWalk.i64_in _ (by omega)
                go_wp2_with fail
                go_region_held3 (fun w' => w'.cell? ad = some (.int .u64 n1) ∧ w'.cell? ad2 = some (.int .u64 n2)) (go_keep) (first | (go_at_call 55; refine (rboth_any n1 n2 _ hw1 hw2).mono ?_; rintro e w2 ⟨rfl, hb2⟩; have q1 := cell_drewn hb2 hcell; have q2 := cell_drewn hb2 hcell2) | (refine step_push (w := w2) et_u64s _ _ (by rfl) (by rfl) (owns_below HOi.out.drew hb2) (by rfl) (by rfl) rfl (one1 rfl) (by omega) (by omega) (HBi.out.drew.trans (hb2.mono hszi)) (Nat.le_trans hszi hb2.size) ?_; intro v' w' hown' hbel' hsz' _; have q3 := cell_behind hbel' hcell0; have q4 := cell_behind hbel' hcell20))
                have HO' := Lib.hid hown'
                have HE' := Lib.hid hbel'
                clear hown' hbel'
                go_wp2
                go_roundw
                case rel => unfold Inner; exact ⟨k + 1, by omega, by go_num, by rw [HT2.out, u64s_snoc, HA.out]; exact HO'.out, HE'.out⟩
                case measure => simp [intOf]; omega
              · have HA := Lib.hid (show aboveAt row k = row.getD (2 * k) 0 by unfold aboveAt; rw [if_neg hlt2])
                clear HZ
                generalize row.getD (2 * k) 0 = n1 at *
                go_wp2_with (at_builtin; refine wpList_push et_u64s _ _ rfl rfl HOi.out rfl rfl rfl (one1 rfl) (by omega) (by omega) HBi.out hszi ?_; intro v' w' hown' hbel' hsz' _)
                have HO' := Lib.hid hown'
                have HE' := Lib.hid hbel'
                clear hown' hbel'
                go_wp2
                go_roundw
                case rel => unfold Inner; exact ⟨k + 1, by omega, by go_num, by rw [HT2.out, u64s_snoc, HA.out]; exact HO'.out, HE'.out⟩
                case measure => simp [intOf]; omega
            · have e : k = (row.length + 1) / 2 := by omega
              have ho' : wr.ownsRow wo.heap.size 41 1 u7 (aboveL row).length (u64s (aboveL row)) := by
                have := HOi.out
                rw [List.take_of_length_le (by rw [HL.out]; omega)] at this
                rw [HL.out, ← e]; exact this
              have hone := owns_oneCell ho'
              have HON := Lib.hid (owns_below HO.out HBi.out)
              have HBN := Lib.hid (HB.out.trans (HBi.out.mono hsz))
              have HRN := Lib.hid (HR.out.below HBi.out)
              have HAP := Lib.hid (apart_new HO.out ho')
              have HN := Lib.hid (ho'.base hsz)
              have hszn : w.heap.size ≤ wr.heap.size := by omega
              clear e ho'
              go_wp2_with (first | (refine wpList_lit1 et_u64ss _ rfl rfl rfl hone ?_) | (at_builtin; refine wpList_push et_u64ss _ _ rfl rfl HON.out rfl rfl rfl (one1 hone) (by omega) (by omega) HBN.out hszn ?_; intro v' w' hown' hbel' hsz' hpush))
              have HO' := Lib.hid hown'
              have HB' := Lib.hid hbel'
              have HP := Lib.hid (hpush.keep HN.out HAP.out)
              have HR' := Lib.hid (HRN.out.push hpush)
              clear hown' hbel' hpush
              go_wp2
              go_roundg ((aboveL row).length + 1)
              case rel =>
                have ej : rowAt s (j + 1) = aboveL row := by rw [rowAt, HRW.out]
                refine ⟨j + 1, vs ++ [u7], by rw [ej], ?_, by rw [ej]; exact HP.out.1, HO'.out, by simp [HV.out], ?_, HB'.out⟩
                · intro i hi
                  rcases Nat.lt_or_ge i j with h1 | h1
                  · exact HT.out i h1
                  · have : i = j := by omega
                    subst this; rw [HRW.out]; omega
                · exact HR'.out.snoc (by rw [HV.out, ej]; exact HP.out)
              case measure => rw [HL.out]; omega
        · go_wp2_with fail
          go_ret
          exact ⟨j, _, vs, ⟨by rw [HRW.out]; omega, HT.out⟩, rfl, HO.out, HV.out, HR.out, HB.out⟩

set_option maxRecDepth 100000 in
set_option maxHeartbeats 400000 in
theorem rRoot_any (v : Value) (s : List Nat) (w : World) (h : Sl w 1 v s.length (u32s s)) (hs : Sums32 s) (hn : s.length ≤ 10000000) (h0 : 0 < s.length) :
    Calls Tryz.prog 19 #[v] w fun e w' => ∃ m, IsTop s m ∧ e = .returned (.int .u64 ((rowAt s m).getD 0 0 : Nat)) ∧ Below w.heap.size w w' := by
  have hlen := h.len et_u32s.ht 3
  have H := Lib.hid h
  have hne : ((s.length : Int) == 0) = false := by rw [beq_eq_false_iff_ne]; omega
  clear h
  go_enter Tryz.func19, Tryz.ntmps19
  go_wp2_with fail
  refine (rows_any v s _ H.out hs hn).mono ?_
  rintro e w1 ⟨m, v1, vs, hm, rfl, ho1, hvs, hrows, hb1⟩
  have hs1 := Sl.ofOwns ho1
  have hlen1 := hs1.len et_u64ss.ht 3
  have htl := top_le s m hm.2
  obtain ⟨ad, hix, hcell⟩ := hs1.idx1 et_u64ss ((m : Int) + 1 - 1) (by omega) (by omega)
  have hmv : m < vs.length := by omega
  rw [show ((m : Int) + 1 - 1).toNat = m by omega, List.getD_eq_getElem?_getD, List.getElem?_eq_getElem hmv, Option.getD_some] at hcell
  have hrow := Sl.ofOwns (hrows.at hmv).1
  have hp := rowAt_pos s h0 m
  obtain ⟨ad2, hix2, hcell2⟩ := hrow.idx1 et_u64s 0 (by omega) (by omega)
  rw [Int.toNat_zero, u64s_getD (rowAt s m) 0 hp] at hcell2
  have HM := Lib.hid hm
  have HB1 := Lib.hid hb1
  have hix' : ∀ w', Sem.run Tryz.prog (Instr.indexAt 71 v1 (.int .i64 m)) w' = .ok (.pointer (some ad)) w' := by
    intro w'
    have := hix w'
    rwa [show (m : Int) + 1 - 1 = m by omega] at this
  clear hm hb1 hrow hrows hs1 ho1 hix
  generalize vs[m] = vm at *
  generalize hx0 : (rowAt s m).getD 0 0 = x0 at *
  have HX := Lib.hid hx0
  clear hx0 hp
  have hmb : (m : Int) ≤ 10000001 := by omega
  go_wp2_with fail
  go_ret
  exact ⟨m, HM.out, by rw [HX.out]; rfl, HB1.out⟩

theorem rRoot_nil (v : Value) (w : World) (h : Sl w 1 v 0 []) :
    Calls Tryz.prog 19 #[v] w fun e w' => e = .returned (.int .u64 (mseed : Nat)) ∧ w = w' := by
  have hlen := h.len et_u32s.ht 3
  clear h
  go_enter Tryz.func19, Tryz.ntmps19
  go_wp2_with fail
  refine (mix_any _ [] _ (Sl.nil _ _)).mono ?_
  rintro e w' ⟨rfl, rfl⟩
  rw [show mixN mseed [] = mseed from rfl]
  go_wp2
  go_ret
  exact ⟨rfl, rfl⟩
end Go.Proofs.YtnapkooefpkicaaGreatDoor


namespace Go.Proofs
open Go.Shelf
def Tryz.l160_ren : Go.Shelf.Ren := ⟨fun | 160 => 47 | 232 => 68 | 231 => 67 | 227 => 69 | 234 => 71 | 233 => 70 | 236 => 73 | 235 => 72 | 228 => 88 | 271 => 90 | 151 => 89 | 197 => 86 | 120 => 103 | 152 => 102 | 260 => 101 | 137 => 49 | 119 => 112 | 224 => 62 | 225 => 61 | 217 => 60 | 266 => 83 | n => n, fun | 9 => 9 | 4 => 4 | 3 => 3 | 5 => 5 | 117 => 98 | 116 => 97 | 0 => 0 | 124 => 101 | 21 => 21 | 105 => 114 | 46 => 88 | 119 => 144 | 139 => 147 | 138 => 146 | n => n, fun | 3 => 4 | 4 => 5 | n => n⟩
theorem Tryz.l160 : Go.Proofs.Lays.n160 Tryz.prog Tryz.l160_ren := {
  mixed := by kernel_rfl
  f119 := Tryz.func112.trans (congrArg some (by kernel_rfl))
  f120 := Tryz.func103.trans (congrArg some (by kernel_rfl))
  f137 := Tryz.func49.trans (congrArg some (by kernel_rfl))
  f151 := Tryz.func89.trans (congrArg some (by kernel_rfl))
  f152 := Tryz.func102.trans (congrArg some (by kernel_rfl))
  f160 := Tryz.func47.trans (congrArg some (by kernel_rfl))
  f197 := Tryz.func86.trans (congrArg some (by kernel_rfl))
  f217 := Tryz.func60.trans (congrArg some (by kernel_rfl))
  f224 := Tryz.func62.trans (congrArg some (by kernel_rfl))
  f225 := Tryz.func61.trans (congrArg some (by kernel_rfl))
  f227 := Tryz.func69.trans (congrArg some (by kernel_rfl))
  f228 := Tryz.func88.trans (congrArg some (by kernel_rfl))
  f231 := Tryz.func67.trans (congrArg some (by kernel_rfl))
  f232 := Tryz.func68.trans (congrArg some (by kernel_rfl))
  f233 := Tryz.func70.trans (congrArg some (by kernel_rfl))
  f234 := Tryz.func71.trans (congrArg some (by kernel_rfl))
  f235 := Tryz.func72.trans (congrArg some (by kernel_rfl))
  f236 := Tryz.func73.trans (congrArg some (by kernel_rfl))
  f260 := Tryz.func101.trans (congrArg some (by kernel_rfl))
  f266 := Tryz.func83.trans (congrArg some (by kernel_rfl))
  f271 := Tryz.func90.trans (congrArg some (by kernel_rfl))
  t0 := Tryz.underlying0
  a0 := Tryz.isAgg0
  z0 := Tryz.sizeOf0
  v0 := Tryz.zeroValue0
  t3 := Tryz.underlying3
  a3 := Tryz.isAgg3
  z3 := Tryz.sizeOf3
  v3 := Tryz.zeroValue3
  t4 := Tryz.underlying4
  a4 := Tryz.isAgg4
  z4 := Tryz.sizeOf4
  v4 := Tryz.zeroValue4
  t5 := Tryz.underlying5
  a5 := Tryz.isAgg5
  z5 := Tryz.sizeOf5
  v5 := Tryz.zeroValue5
  t9 := Tryz.underlying9
  a9 := Tryz.isAgg9
  z9 := Tryz.sizeOf9
  v9 := Tryz.zeroValue9
  t21 := Tryz.underlying21
  a21 := Tryz.isAgg21
  z21 := Tryz.sizeOf21
  v21 := Tryz.zeroValue21
  t46 := Tryz.underlying88
  a46 := Tryz.isAgg88
  z46 := Tryz.sizeOf88
  v46 := Tryz.zeroValue88
  t105 := Tryz.underlying114
  a105 := Tryz.isAgg114
  z105 := Tryz.sizeOf114
  v105 := Tryz.zeroValue114
  t116 := Tryz.underlying97
  a116 := Tryz.isAgg97
  z116 := Tryz.sizeOf97
  t117 := Tryz.underlying98
  a117 := Tryz.isAgg98
  z117 := Tryz.sizeOf98
  v117 := Tryz.zeroValue98
  t119 := Tryz.underlying144
  a119 := Tryz.isAgg144
  z119 := Tryz.sizeOf144
  t124 := Tryz.underlying101
  a124 := Tryz.isAgg101
  z124 := Tryz.sizeOf101
  v124 := Tryz.zeroValue101
  t138 := Tryz.underlying146
  a138 := Tryz.isAgg146
  z138 := Tryz.sizeOf146
  v138 := Tryz.zeroValue146
  t139 := Tryz.underlying147
  a139 := Tryz.isAgg147
  z139 := Tryz.sizeOf147
  v139 := Tryz.zeroValue147
  g3 := by kernel_rfl
  g4 := by kernel_rfl }
end Go.Proofs


namespace Go.Proofs.YtnapkooefpkicaaGreatDoor
open Go.RowKit Go.Shelf Go.Lib
attribute [local go_sem ↓] run_min_kept run_max_kept

/-- a to z, 0 to 9, the hyphen. -/
def nameB (b : UInt8) : Bool := (decide (97 ≤ b.toNat) && decide (b.toNat ≤ 122)) || (decide (48 ≤ b.toNat) && decide (b.toNat ≤ 57)) || decide (b.toNat = 45)
def headB (b : UInt8) : Bool := decide (97 ≤ b.toNat) && decide (b.toNat ≤ 122)
/-- What a name is. -/
def isName (l : List UInt8) : Bool := decide (1 ≤ l.length) && decide (l.length ≤ 40) && headB (l.headD 0) && l.all nameB

def letters : List UInt8 := [97, 98, 99, 100, 101, 102, 103, 104, 105, 106, 107, 108, 109, 110, 111, 112, 113, 114, 115, 116, 117, 118, 119, 120, 121, 122, 48, 49, 50, 51, 52, 53, 54, 55, 56, 57, 45]
theorem letters_nat : ∀ n : Fin 256, letters.contains (UInt8.ofNat n.val) = nameB (UInt8.ofNat n.val) := by decide +kernel
theorem letters_eq (b : UInt8) : letters.contains b = nameB b := by
  have := letters_nat ⟨b.toNat, b.toNat_lt⟩
  simpa using this

theorem dropWhile_nil {α : Type} (p : α → Bool) : ∀ l : List α, l.dropWhile p = [] ↔ l.all p = true
  | [] => by simp
  | x :: l => by
    cases h : p x
    · simp [h]
    · simp [h, dropWhile_nil p l]
theorem trim_nil (l : List UInt8) : (Lib.trimS l letters = []) ↔ l.all nameB = true := by
  have hf : (fun b => letters.contains b) = nameB := funext letters_eq
  unfold Lib.trimS Lib.trimLeftS Lib.trimRightS
  rw [dropWhile_nil, hf]
  constructor
  · intro h
    rw [List.all_reverse] at h
    have h2 : (l.reverse.dropWhile nameB) = [] := by
      cases hd : l.reverse.dropWhile nameB with
      | nil => rfl
      | cons x r =>
        have h3 := List.head?_dropWhile_not nameB l.reverse
        rw [hd] at h h3
        simp at h h3
        rw [h.1] at h3
        cases h3
    rw [dropWhile_nil, List.all_reverse] at h2
    exact h2
  · intro h
    have : l.reverse.dropWhile nameB = [] := by rw [dropWhile_nil, List.all_reverse]; exact h
    rw [this]; rfl

set_option maxHeartbeats 800000 in
theorem pName_any (s : ByteArray) (w : World) (hs : s.size ≤ 9223372036854775807) :
    Calls Tryz.prog 52 #[.string s] w fun e w' => e = .returned (.bool (isName s.data.toList)) ∧ Below w.heap.size w w' := by
  have hl : s.data.toList.length = s.size := by rw [Array.length_toList]; rfl
  by_cases h0 : s.size < 1
  · have HR := Lib.hid (show isName s.data.toList = false by unfold isName; rw [hl]; simp; omega)
    clear hl
    go_enter Tryz.func52, Tryz.ntmps52
    go_wp2_with fail
    go_ret
    exact ⟨by rw [HR.out]; rfl, Below.refl _ _⟩
  by_cases h1 : 40 < s.size
  · have HR := Lib.hid (show isName s.data.toList = false by unfold isName; rw [hl]; simp; omega)
    clear hl
    go_enter Tryz.func52, Tryz.ntmps52
    go_wp2_with fail
    go_ret
    exact ⟨by rw [HR.out]; rfl, Below.refl _ _⟩
  have hp : 0 < s.size := by omega
  have hh : s.data.toList.headD 0 = s[0] := by
    obtain ⟨⟨l⟩⟩ := s
    cases l with
    | nil => simp [ByteArray.size] at hp
    | cons x r => rfl
  have hlen : (decide (1 ≤ s.data.toList.length) && decide (s.data.toList.length ≤ 40)) = true := by rw [hl]; simp; omega
  have hname : isName s.data.toList = (headB s[0] && s.data.toList.all nameB) := by unfold isName; rw [hlen, hh, Bool.true_and]
  clear hl hlen hh
  by_cases ha : s[0].toNat < 97
  · have HR := Lib.hid (show isName s.data.toList = false by rw [hname]; unfold headB; simp; omega)
    clear hname
    go_enter Tryz.func52, Tryz.ntmps52
    go_wp2_with fail
    go_ret
    exact ⟨by rw [HR.out]; rfl, Below.refl _ _⟩
  by_cases hb : 122 < s[0].toNat
  · have HR := Lib.hid (show isName s.data.toList = false by rw [hname]; unfold headB; simp; omega)
    clear hname
    go_enter Tryz.func52, Tryz.ntmps52
    go_wp2_with fail
    go_ret
    exact ⟨by rw [HR.out]; rfl, Below.refl _ _⟩
  have hhd : headB s[0] = true := by unfold headB; simp; omega
  rw [hhd, Bool.true_and] at hname
  have hlet : (⟨letters.toArray⟩ : ByteArray).size < 4294967281 := by decide
  have hcon := Any.strings_Trim_laid Tryz.l160 (by kernel_rfl) s ⟨letters.toArray⟩ w hs hlet (ascii_of_all (by decide))
  change Calls Tryz.prog 47 #[.string s, .string ⟨#[97, 98, 99, 100, 101, 102, 103, 104, 105, 106, 107, 108, 109, 110, 111, 112, 113, 114, 115, 116, 117, 118, 119, 120, 121, 122, 48, 49, 50, 51, 52, 53, 54, 55, 56, 57, 45]⟩] w (fun e w' => e = .returned (.string ⟨(Lib.trimS s.data.toList letters).toArray⟩) ∧ Below w.heap.size w w') at hcon
  have ha' : 97 ≤ s[0].toNat := by omega
  have hb' : s[0].toNat ≤ 122 := by omega
  by_cases hall : s.data.toList.all nameB = true
  · have HR := Lib.hid (hname.trans hall)
    rw [(trim_nil s.data.toList).2 hall] at hcon
    have HC := Lib.hid hcon
    clear hname hall hcon hhd
    go_enter Tryz.func52, Tryz.ntmps52
    go_wp2_with fail
    refine HC.out.mono ?_
    rintro e w' ⟨rfl, hbel⟩
    go_wp2_with fail
    go_ret
    exact ⟨by rw [HR.out]; rfl, hbel⟩
  · have hne : (⟨(Lib.trimS s.data.toList letters).toArray⟩ : ByteArray) ≠ ⟨#[]⟩ := by
      intro h
      apply hall
      rw [← trim_nil]
      injection h with h
      simpa using h
    have HR := Lib.hid (hname.trans (by simpa using hall))
    have hneb : (⟨(Lib.trimS s.data.toList letters).toArray⟩ : ByteArray).toList.isEmpty = false := by
      rw [ByteArray.toList_eq]
      cases hl : (⟨(Lib.trimS s.data.toList letters).toArray⟩ : ByteArray).data.toList with
      | nil => exact absurd (by simp at hl; rw [hl]) hne
      | cons _ _ => rfl
    generalize (⟨(Lib.trimS s.data.toList letters).toArray⟩ : ByteArray) = r at *
    have HC := Lib.hid hcon
    clear hname hall hcon hhd
    go_enter Tryz.func52, Tryz.ntmps52
    go_wp2_with fail
    refine HC.out.mono ?_
    rintro e w' ⟨rfl, hbel⟩
    go_wp2_with fail
    go_ret
    exact ⟨by rw [HR.out]; rfl, hbel⟩
end Go.Proofs.YtnapkooefpkicaaGreatDoor


namespace Go.Proofs.YtnapkooefpkicaaGreatDoor
open Go.RowKit Go.Shelf
attribute [local go_sem ↓] run_min_kept run_max_kept

theorem bytes_at (s : ByteArray) (k : Nat) (h : k < s.size) : s.data.toList[k]'(by rw [Array.length_toList]; exact h) = s[k] := by
  rw [Array.getElem_toList]; rfl
theorem all_take (l : List UInt8) (k : Nat) (h : k < l.length) (p : UInt8 → Bool) (h1 : (l.take k).all p = true) (h2 : p l[k] = true) : (l.take (k + 1)).all p = true := by
  rw [List.take_succ_eq_append_getElem h, List.all_append, h1]; simp [h2]
theorem all_bad (l : List UInt8) (k : Nat) (h : k < l.length) (p : UInt8 → Bool) (h2 : p l[k] = false) : l.all p = false := by
  rw [List.all_eq_false]; exact ⟨l[k], List.getElem_mem h, by simp [h2]⟩

set_option maxHeartbeats 1600000 in
theorem rName_any (s : ByteArray) (w : World) (hs : s.size ≤ 9223372036854775807) :
    Calls Tryz.prog 56 #[.string s] w fun e w' => e = .returned (.bool (isName s.data.toList)) ∧ Below w.heap.size w w' := by
  have hl : s.data.toList.length = s.size := by rw [Array.length_toList]; rfl
  by_cases h0 : s.size < 1
  · have HR := Lib.hid (show isName s.data.toList = false by unfold isName; rw [hl]; simp; omega)
    have he : s.toList.isEmpty = true := by
      rw [ByteArray.toList_eq]
      cases hh : s.data.toList with
      | nil => rfl
      | cons _ _ => rw [hh] at hl; simp at hl; omega
    clear hl
    go_enter Tryz.func56, Tryz.ntmps56
    go_wp2_with fail
    go_ret
    exact ⟨by rw [HR.out]; rfl, Below.refl _ _⟩
  have he : s.toList.isEmpty = false := by
    rw [ByteArray.toList_eq]
    cases hh : s.data.toList with
    | nil => rw [hh] at hl; simp at hl; omega
    | cons _ _ => rfl
  by_cases h1 : 40 < s.size
  · have HR := Lib.hid (show isName s.data.toList = false by unfold isName; rw [hl]; simp; omega)
    clear hl
    go_enter Tryz.func56, Tryz.ntmps56
    go_wp2_with fail
    go_ret
    exact ⟨by rw [HR.out]; rfl, Below.refl _ _⟩
  have hp : 0 < s.size := by omega
  have hh : s.data.toList.headD 0 = s[0] := by
    obtain ⟨⟨l⟩⟩ := s
    cases l with
    | nil => simp [ByteArray.size] at hp
    | cons x r => rfl
  have hlen : (decide (1 ≤ s.data.toList.length) && decide (s.data.toList.length ≤ 40)) = true := by rw [hl]; simp; omega
  have hname : isName s.data.toList = (headB s[0] && s.data.toList.all nameB) := by unfold isName; rw [hlen, hh, Bool.true_and]
  clear hlen hh
  by_cases ha : s[0].toNat < 97
  · have HR := Lib.hid (show isName s.data.toList = false by rw [hname]; unfold headB; simp; omega)
    clear hname hl
    go_enter Tryz.func56, Tryz.ntmps56
    go_wp2_with fail
    go_ret
    exact ⟨by rw [HR.out]; rfl, Below.refl _ _⟩
  by_cases hb : 122 < s[0].toNat
  · have HR := Lib.hid (show isName s.data.toList = false by rw [hname]; unfold headB; simp; omega)
    clear hname hl
    go_enter Tryz.func56, Tryz.ntmps56
    go_wp2_with fail
    go_ret
    exact ⟨by rw [HR.out]; rfl, Below.refl _ _⟩
  have hhd : headB s[0] = true := by unfold headB; simp; omega
  rw [hhd, Bool.true_and] at hname
  have ha' : 97 ≤ s[0].toNat := by omega
  have hb' : s[0].toNat ≤ 122 := by omega
  have HN := Lib.hid hname
  have HL := Lib.hid hl
  clear hname hl hhd ha hb
  go_enter Tryz.func56, Tryz.ntmps56
  go_wp2_with fail
  go_loopw [24] (fun i wr => ∃ k : Nat, k ≤ s.size ∧ i = .int .i64 k ∧ (s.data.toList.take k).all nameB = true ∧ Below w.heap.size w wr) (fun i _ => s.size - (intOf i).toNat)
  case atStart => exact ⟨0, Nat.zero_le _, rfl, by simp, Below.refl _ _⟩
  case round =>
    obtain ⟨k, hk, rfl, htake, hbel0⟩ := hrel
    have HBL := Lib.hid hbel0
    clear hbel0
    have HT := Lib.hid htake
    clear htake
    by_cases hlt : k < s.size
    · have hkl : k < s.data.toList.length := by rw [HL.out]; exact hlt
      have HG := Lib.hid (fun h2 => all_take s.data.toList k hkl nameB HT.out (by rw [bytes_at s k hlt]; exact h2))
      have HB := Lib.hid (fun h2 => (HN.out.trans (all_bad s.data.toList k hkl nameB (by rw [bytes_at s k hlt]; exact h2))))
      have hb256 : (s[k]'hlt).toNat < 256 := (s[k]'hlt).toNat_lt
      clear hkl
      by_cases hu0 : s[k].toNat < 45
      · have q0 : (s[k].toNat : Int) < 97 := by omega
        have q1 : (s[k].toNat : Int) ≤ 122 := by omega
        have q2 : (s[k].toNat : Int) < 48 := by omega
        have q3 : (s[k].toNat : Int) ≤ 57 := by omega
        have q4 : ((s[k].toNat : Int) != 45) = true := by simp; omega
        have HQ := Lib.hid (HB.out (by unfold nameB; simp; omega))
        clear HB HG
        go_wp2_with fail
        go_ret
        exact ⟨by rw [HQ.out]; rfl, HBL.out⟩
      by_cases hu1 : s[k].toNat < 46
      · have q0 : (s[k].toNat : Int) < 97 := by omega
        have q1 : (s[k].toNat : Int) ≤ 122 := by omega
        have q2 : (s[k].toNat : Int) < 48 := by omega
        have q3 : (s[k].toNat : Int) ≤ 57 := by omega
        have q4 : ((s[k].toNat : Int) != 45) = false := by simp; omega
        have HQ := Lib.hid (HG.out (by unfold nameB; simp; omega))
        clear HB HG
        go_wp2_with fail
        go_roundw
        case rel => exact ⟨k + 1, by omega, by go_num, HQ.out, HBL.out⟩
        case measure => simp [intOf]; omega
      by_cases hu2 : s[k].toNat < 48
      · have q0 : (s[k].toNat : Int) < 97 := by omega
        have q1 : (s[k].toNat : Int) ≤ 122 := by omega
        have q2 : (s[k].toNat : Int) < 48 := by omega
        have q3 : (s[k].toNat : Int) ≤ 57 := by omega
        have q4 : ((s[k].toNat : Int) != 45) = true := by simp; omega
        have HQ := Lib.hid (HB.out (by unfold nameB; simp; omega))
        clear HB HG
        go_wp2_with fail
        go_ret
        exact ⟨by rw [HQ.out]; rfl, HBL.out⟩
      by_cases hu3 : s[k].toNat < 58
      · have q0 : (s[k].toNat : Int) < 97 := by omega
        have q1 : (s[k].toNat : Int) ≤ 122 := by omega
        have q2 : 48 ≤ (s[k].toNat : Int) := by omega
        have q3 : (s[k].toNat : Int) ≤ 57 := by omega
        have q4 : ((s[k].toNat : Int) != 45) = true := by simp; omega
        have HQ := Lib.hid (HG.out (by unfold nameB; simp; omega))
        clear HB HG
        go_wp2_with fail
        go_roundw
        case rel => exact ⟨k + 1, by omega, by go_num, HQ.out, HBL.out⟩
        case measure => simp [intOf]; omega
      by_cases hu4 : s[k].toNat < 97
      · have q0 : (s[k].toNat : Int) < 97 := by omega
        have q1 : (s[k].toNat : Int) ≤ 122 := by omega
        have q2 : 48 ≤ (s[k].toNat : Int) := by omega
        have q3 : 57 < (s[k].toNat : Int) := by omega
        have q4 : ((s[k].toNat : Int) != 45) = true := by simp; omega
        have HQ := Lib.hid (HB.out (by unfold nameB; simp; omega))
        clear HB HG
        go_wp2_with fail
        go_ret
        exact ⟨by rw [HQ.out]; rfl, HBL.out⟩
      by_cases hu5 : s[k].toNat < 123
      · have q0 : 97 ≤ (s[k].toNat : Int) := by omega
        have q1 : (s[k].toNat : Int) ≤ 122 := by omega
        have q2 : 48 ≤ (s[k].toNat : Int) := by omega
        have q3 : 57 < (s[k].toNat : Int) := by omega
        have q4 : ((s[k].toNat : Int) != 45) = true := by simp; omega
        have HQ := Lib.hid (HG.out (by unfold nameB; simp; omega))
        clear HB HG
        go_wp2_with fail
        go_roundw
        case rel => exact ⟨k + 1, by omega, by go_num, HQ.out, HBL.out⟩
        case measure => simp [intOf]; omega
      have q0 : 97 ≤ (s[k].toNat : Int) := by omega
      have q1 : 122 < (s[k].toNat : Int) := by omega
      have q2 : 48 ≤ (s[k].toNat : Int) := by omega
      have q3 : 57 < (s[k].toNat : Int) := by omega
      have q4 : ((s[k].toNat : Int) != 45) = true := by simp; omega
      have HQ := Lib.hid (HB.out (by unfold nameB; simp; omega))
      clear HB HG
      go_wp2_with fail
      go_ret
      exact ⟨by rw [HQ.out]; rfl, HBL.out⟩
    · have e : k = s.size := by omega
      subst e
      have hall : isName s.data.toList = true := by
        have := HT.out
        rw [← HL.out, List.take_length] at this
        exact HN.out.trans this
      have HQ := Lib.hid hall
      clear hall
      go_wp2_with fail
      go_ret
      exact ⟨by rw [HQ.out]; rfl, HBL.out⟩
end Go.Proofs.YtnapkooefpkicaaGreatDoor


namespace Go.Proofs.YtnapkooefpkicaaGreatDoor
open Go.RowKit

theorem c_pName (s : ByteArray) (hs : s.size ≤ 9223372036854775807) : ACall Tryz.prog 52 [.v (.string s)] (.v (.bool (isName s.data.toList))) :=
  acall_exact (us := [_]) (.of Tryz.func52 (by kernel_rfl) rfl) fun w => pName_any s w hs
theorem c_rName (s : ByteArray) (hs : s.size ≤ 9223372036854775807) : ACall Tryz.prog 56 [.v (.string s)] (.v (.bool (isName s.data.toList))) :=
  acall_exact (us := [_]) (.of Tryz.func56 (by kernel_rfl) rfl) fun w => rName_any s w hs
end Go.Proofs.YtnapkooefpkicaaGreatDoor


namespace Go.Proofs.YtnapkooefpkicaaGreatDoor
open Go.RowKit
set_option linter.unusedVariables false

/-- f, called with an own row of the caller's (whichever) and data, turns the row's elements from els to els' and returns d. -/
def RCall (P : Program) (f : FuncId) (e size : Nat) (els els' : List (List D)) (ds : List D) (d : D) : Prop :=
  ∀ id, XCall P f (.own id :: ds.map S.d) [(id, .row e size els)] [(id, .row e size els')] (fun _ => false) d

theorem RCall.of1 {P : Program} {f : FuncId} {e size : Nat} {els els' : List (List D)} {ds : List D} {d : D} {chg : Nat → Bool} (h : XCall P f (.own 1 :: ds.map S.d) [(1, .row e size els)] [(1, .row e size els')] chg d) (h1 : chg 1 = false) :
    RCall P f e size els els' ds d := by
  intro id
  refine ⟨h.1, fun F ρ B w vs hF hB hσ hv => ?_⟩
  have h2 : ObsOk B F (fun _ => ρ id) w [(1, .row e size els)] := by
    refine ⟨fun p hp => ?_, fun p hp q hq hne => ?_, fun p hp q hq _ => ?_⟩
    · have : p = (1, .row e size els) := by simpa using hp
      subst this
      exact hσ.ok (id, .row e size els) (by simp)
    · have : p = (1, .row e size els) := by simpa using hp
      have h2 : q = (1, .row e size els) := by simpa using hq
      rw [this, h2] at hne
      exact absurd rfl hne
    · have : p = (1, .row e size els) := by simpa using hp
      have h2 : q = (1, .row e size els) := by simpa using hq
      rw [this, h2]
  have h3 : RepSL F (fun _ => ρ id) w vs (.own 1 :: ds.map S.d) := by
    refine ⟨by simpa using hv.1, fun i hi hi2 => ?_⟩
    have h4 := hv.2 i hi (by simpa using hi2)
    cases i with
    | zero =>
      simp only [List.getElem_cons_zero] at h4 ⊢
      generalize vs[0] = x at h4
      cases h4
      exact RepS.own (ρ := fun _ => ρ id) 1
    | succ i =>
      simp only [List.getElem_cons_succ, List.getElem_map] at h4 ⊢
      exact .d (repS_d h4)
  refine (h.2 F (fun _ => ρ id) B w vs hF hB h2 h3).mono ?_
  rintro e' w' ⟨v, F', ρ', he, hr, hx⟩
  have hρ : ρ' 1 = ρ id := hx.same 1 h1
  have hblk : ∀ b, ownB [(1, Ob.row e size els)] (fun _ => ρ id) b ↔ ownB [(id, Ob.row e size els)] ρ b := fun b => by simp [ownB]
  refine ⟨v, F', ρ, he, hr, hx.up, fun b hb => (hx.new b hb).imp (fun x => x) (fun hh => hh.imp (fun x => x) (hblk b).1), hx.lt, ⟨hx.kept.os, hx.kept.tape, hx.kept.output, hx.kept.size, fun k hk hn => hx.kept.block k hk (fun hh => hn (hh.imp (fun x => x) (hblk k).1))⟩, ?_, ?_, fun _ _ => rfl⟩
  · refine ⟨fun p hp => ?_, fun p hp q hq hne => ?_, fun p hp q hq _ => ?_⟩
    · have : p = (id, .row e size els') := by simpa using hp
      subst this
      have h5 := hx.obs.ok (1, .row e size els') (by simp)
      obtain ⟨xs, h6, h7, h8, h9⟩ := h5
      dsimp only at h6 h9
      rw [hρ] at h6 h9
      exact ⟨xs, h6, h7, h8, h9⟩
    · have : p = (id, .row e size els') := by simpa using hp
      have h2 : q = (id, .row e size els') := by simpa using hq
      rw [this, h2] at hne
      exact absurd rfl hne
    · have : p = (id, .row e size els') := by simpa using hp
      have h2 : q = (id, .row e size els') := by simpa using hq
      rw [this, h2]
  · intro p hp g hg
    have : p = (id, .row e size els') := by simpa using hp
    subst this
    have h5 := hx.own (1, .row e size els') (by simp) g (by rw [hρ]; exact hg)
    exact h5.imp (fun x => x) (hblk g).1

theorem mem_row_eq {id e size : Nat} {els els' : List (List D)} {σ : Obs} (h : (id, Ob.row e size els) ∈ σ) (hd : els = els') : (id, Ob.row e size els') ∈ σ := hd ▸ h

/-- A call that only reads, where an own row is handed on: the row as it is. -/
theorem RCall.eq {P : Program} {f : FuncId} {e size : Nat} {els els' els2 els2' : List (List D)} {ds : List D} {d : D} (h : RCall P f e size els els' ds d) (h1 : els = els2) (h2 : els' = els2') : RCall P f e size els2 els2' ds d := by
  subst h1; subst h2; exact h
end Go.Proofs.YtnapkooefpkicaaGreatDoor


namespace Go.Proofs.YtnapkooefpkicaaGreatDoor
open Go.RowKit
set_option linter.unusedVariables false

/-- An operation that writes: from the objects σ to σ'; whatever else the slots hold. -/
def EOp (cx : Cx) (ops : Array Oper) (o : Oper) (e : Env) (σ σ' : Obs) : Prop :=
  ∀ (F : Nat → Prop) (ρ : Nat → Value) (a : Act) (w : World) (e0 : Env), R0 cx F ρ e0 σ a w → (∀ t, t ∈ o.looksAt ops → RepS F ρ w (a.tmps.getD t undef) (e t)) →
    o.wp cx.P a w (fun a' w' => a' = a ∧ ∀ e2, R0 cx F ρ e2 σ a w → ∃ F' ρ', R0 cx F' ρ' e2 σ' a w') (fun _ _ _ => False)

theorem EOp.same {cx : Cx} {ops : Array Oper} {o : Oper} {e e' : Env} {σ σ' : Obs} (h : EOp cx ops o e σ σ') (he : ∀ t, t ∈ o.looksAt ops → e' t = e t) : EOp cx ops o e' σ σ' :=
  fun F ρ a w e0 hr ha => h F ρ a w e0 hr fun t ht => by rw [← he t ht]; exact ha t ht
theorem AOp.same {P : Program} {B : Nat} {ops : Array Oper} {o : Oper} {e e' : Env} {σ : Obs} {s : S} (h : AOp P B ops o e σ s) (he : ∀ t, t ∈ o.looksAt ops → e' t = e t) : AOp P B ops o e' σ s :=
  fun F ρ w a hF ha hσ => h F ρ w a hF (fun t ht => by rw [← he t ht]; exact ha t ht) hσ

/-- One step; sl: who reads objects, ef: who writes them. -/
def GStep (cx : Cx) (ops : Array Oper) (sl ef : Nat → Bool) (k : Nat) (o : Oper) (e : Env) (σ : Obs) (e' : Env) (σ' : Obs) : Prop :=
  (GW ops o e true ∧ ∃ s, ((sl k = true ∧ AOp cx.P cx.B ops o e σ s) ∨ (∀ τ, AOp cx.P cx.B ops o e τ s)) ∧ e' = e.put o.dst s ∧ σ' = σ) ∨
  (GW ops o e false ∧ e' = e.put o.dst (.d (.v undef)) ∧ σ' = σ) ∨
  (GW ops o e true ∧ ef k = true ∧ o.dst = none ∧ EOp cx ops o e σ σ' ∧ e' = e)

def GRun (cx : Cx) (ops : Array Oper) (sl ef : Nat → Bool) : Nat → List Oper → Env → Obs → (Env → Obs → Prop) → Prop
  | _, [], e, σ, Q => Q e σ
  | k, o :: l, e, σ, Q => DstOk cx.N o ∧ ∃ e' σ', GStep cx ops sl ef k o e σ e' σ' ∧ GRun cx ops sl ef (k + 1) l e' σ' Q

def anyG (cx : Cx) (ops : Array Oper) (sl ef : Nat → Bool) (Q : Env → Obs → Prop) : Nat → Array Bool → Env → Obs → Prop
  | 0, listed, e, σ => Region.ready .any ops listed = [] ∧ Q e σ
  | fuel + 1, listed, e, σ => (Region.ready .any ops listed = [] → Q e σ) ∧
      ∀ i ∈ Region.ready .any ops listed, ∀ o, ops[i]? = some o → ∃ e' σ', GStep cx ops sl ef i o e σ e' σ' ∧ anyG cx ops sl ef Q fuel (listed.setIfInBounds i true) e' σ'

theorem anyG_first {cx : Cx} {ops : Array Oper} {sl ef : Nat → Bool} (hse : ∀ k, ef k = true → sl k = true) {Q : Env → Obs → Prop} {i : Nat} {oi : Oper} (hi : ops[i]? = some oi) (late : Nat → Bool)
    (hclos : ∀ j oj, ops[j]? = some oj → late j = true → ∃ e ∈ oj.after, Region.binds .any e = true ∧ (e.on = i ∨ late e.on = true)) :
    ∀ (fuel : Nat) (listed : Array Bool) (e : Env) (σ : Obs) (e1 : Env) (σ1 : Obs), (∀ j, late j = true → listed.getD j false = false) →
      (∀ j oj, ops[j]? = some oj → j ≠ i → listed.getD j true = false → (∀ e ∈ oj.after, Region.binds .any e = true → e.on ≠ i) → oi.apart ops oj = true ∧ (late j = false → (ef i = false ∨ sl j = false) ∧ (sl i = false ∨ ef j = false))) →
      i ∈ Region.ready .any ops listed → GStep cx ops sl ef i oi e σ e1 σ1 → anyG cx ops sl ef Q fuel (listed.setIfInBounds i true) e1 σ1 → anyG cx ops sl ef Q (fuel + 1) listed e σ := by
  intro fuel
  induction fuel with
  | zero =>
    intro listed e σ e1 σ1 _ _ hr hy H
    refine ⟨fun h => (by rw [h] at hr; cases hr), fun j hj o ho => ?_⟩
    by_cases hji : j = i
    · subst hji
      rw [hi] at ho; cases ho
      exact ⟨e1, σ1, hy, H⟩
    · have := ready_mono hj hji
      rw [H.1] at this
      cases this
  | succ fuel ih =>
    intro listed e σ e1 σ1 hlate hfree hr hy H
    refine ⟨fun h => (by rw [h] at hr; cases hr), fun j hj oj hoj => ?_⟩
    by_cases hji : j = i
    · subst hji
      rw [hi] at hoj; cases hoj
      exact ⟨e1, σ1, hy, H⟩
    · obtain ⟨e2, σ2, h1, h2⟩ := H.2 j (ready_mono hj hji) oj hoj
      obtain ⟨hjun, oj', hoj', hall⟩ := mem_ready.1 hj
      rw [hoj] at hoj'; cases hoj'
      have hnot : ∀ e ∈ oj.after, Region.binds .any e = true → e.on ≠ i := fun e he hb heq => by
        have h1 := hall e he hb
        have h0 := (mem_ready.1 hr).1
        rw [heq] at h1
        rcases Nat.lt_or_ge i listed.size with h' | h'
        · simp [h'] at h0 h1; rw [h0] at h1; cases h1
        · simp [Array.getElem?_eq_none h'] at h1
      have hjl : late j = false := by
        cases hl : late j with
        | false => rfl
        | true =>
          obtain ⟨e, he, hb, hh⟩ := hclos j oj hoj hl
          rcases hh with hh | hh
          · exact absurd hh (hnot e he hb)
          · have h3 := hall e he hb
            rw [hlate _ hh] at h3
            simp at h3
      obtain ⟨hap, hss⟩ := hfree j oj hoj hji hjun hnot
      obtain ⟨hs1, hs2⟩ := hss hjl
      obtain ⟨a1, a2, a3⟩ := Oper.apart_spec hap
      have fin : ∀ ej σj, GStep cx ops sl ef j oj e σ ej σj → GStep cx ops sl ef i oi ej σj e2 σ2 → ∃ e' σ', GStep cx ops sl ef j oj e σ e' σ' ∧ anyG cx ops sl ef Q (fuel + 1) (listed.setIfInBounds j true) e' σ' := fun ej σj hsj hsi => by
        refine ⟨ej, σj, hsj, ?_⟩
        refine ih (listed.setIfInBounds j true) ej σj e2 σ2 (fun k hk => ?_) (fun k ok hk hki hun hno => ?_) (ready_mono hr (Ne.symm hji)) hsi ?_
        · have hkj : j ≠ k := fun h => by rw [h, hk] at hjl; simp at hjl
          rw [getD_set_ne false hkj]
          exact hlate k hk
        · refine hfree k ok hk hki ?_ hno
          by_cases hjk : j = k
          · subst hjk; exact hjun
          · rw [getD_set_ne true hjk] at hun; exact hun
        · rw [Array.setIfInBounds_comm _ _ hji]
          exact h2
      rcases hy with ⟨hgi, s, hopi, rfl, rfl⟩ | ⟨hgi, rfl, rfl⟩ | ⟨hgi, hefi, hdi, hopi, rfl⟩
      · rcases h1 with ⟨hgj, sj, hopj, rfl, rfl⟩ | ⟨hgj, rfl, rfl⟩ | ⟨hgj, hefj, hdj, hopj, rfl⟩
        · refine fin (e.put oj.dst sj) _ (.inl ⟨hgj.same fun t ht => (put_looks a1 t ht).symm, sj, ?_, rfl, rfl⟩) (.inl ⟨hgi.same (put_looks a3), s, ?_, (Env.put_comm e oi.dst oj.dst s sj a2), rfl⟩)
          · exact hopj.imp (fun h => ⟨h.1, h.2.same fun t ht => (put_looks a1 t ht).symm⟩) (fun h τ => (h τ).same fun t ht => (put_looks a1 t ht).symm)
          · exact hopi.imp (fun h => ⟨h.1, h.2.same (put_looks a3)⟩) (fun h τ => (h τ).same (put_looks a3))
        · refine fin (e.put oj.dst (.d (.v undef))) _ (.inr (.inl ⟨hgj.same fun t ht => (put_looks a1 t ht).symm, rfl, rfl⟩)) (.inl ⟨hgi.same (put_looks a3), s, ?_, (Env.put_comm e oi.dst oj.dst s _ a2), rfl⟩)
          exact hopi.imp (fun h => ⟨h.1, h.2.same (put_looks a3)⟩) (fun h τ => (h τ).same (put_looks a3))
        · have hsi : sl i = false := by
            rcases hs2 with h | h
            · exact h
            · rw [hefj] at h; simp at h
          refine fin e σ2 (.inr (.inr ⟨hgj.same fun t ht => (put_looks a1 t ht).symm, hefj, hdj, hopj.same fun t ht => (put_looks a1 t ht).symm, rfl⟩)) (.inl ⟨hgi, s, .inr ?_, rfl, rfl⟩)
          rcases hopi with h | h
          · rw [h.1] at hsi; simp at hsi
          · exact h
      · rcases h1 with ⟨hgj, sj, hopj, rfl, rfl⟩ | ⟨hgj, rfl, rfl⟩ | ⟨hgj, hefj, hdj, hopj, rfl⟩
        · refine fin (e.put oj.dst sj) _ (.inl ⟨hgj.same fun t ht => (put_looks a1 t ht).symm, sj, ?_, rfl, rfl⟩) (.inr (.inl ⟨hgi.same (put_looks a3), (Env.put_comm e oi.dst oj.dst _ sj a2), rfl⟩))
          exact hopj.imp (fun h => ⟨h.1, h.2.same fun t ht => (put_looks a1 t ht).symm⟩) (fun h τ => (h τ).same fun t ht => (put_looks a1 t ht).symm)
        · exact fin (e.put oj.dst (.d (.v undef))) _ (.inr (.inl ⟨hgj.same fun t ht => (put_looks a1 t ht).symm, rfl, rfl⟩)) (.inr (.inl ⟨hgi.same (put_looks a3), (Env.put_comm e oi.dst oj.dst _ _ a2), rfl⟩))
        · exact fin e σ2 (.inr (.inr ⟨hgj.same fun t ht => (put_looks a1 t ht).symm, hefj, hdj, hopj.same fun t ht => (put_looks a1 t ht).symm, rfl⟩)) (.inr (.inl ⟨hgi, rfl, rfl⟩))
      · have hsj : sl j = false := by
          rcases hs1 with h | h
          · rw [hefi] at h; simp at h
          · exact h
        rcases h1 with ⟨hgj, sj, hopj, rfl, rfl⟩ | ⟨hgj, rfl, rfl⟩ | ⟨hgj, hefj, hdj, hopj, rfl⟩
        · have hall : ∀ τ, AOp cx.P cx.B ops oj e1 τ sj := by
            rcases hopj with h | h
            · rw [h.1] at hsj; simp at hsj
            · exact h
          exact fin (e1.put oj.dst sj) σ (.inl ⟨hgj, sj, .inr hall, rfl, rfl⟩) (.inr (.inr ⟨hgi.same (put_looks a3), hefi, hdi, hopi.same (put_looks a3), rfl⟩))
        · exact fin (e1.put oj.dst (.d (.v undef))) σ (.inr (.inl ⟨hgj, rfl, rfl⟩)) (.inr (.inr ⟨hgi.same (put_looks a3), hefi, hdi, hopi.same (put_looks a3), rfl⟩))
        · rw [hse j hefj] at hsj; simp at hsj

/-- Who comes after k, directly or not. -/
def Region.lateOf (ops : Array Oper) (k : Nat) : List Nat :=
  (List.range ops.size).foldl (fun acc j => if ((ops[j]?).map fun o => o.after.any fun e => Region.binds .any e && (Nat.beq e.on k || acc.any fun i => Nat.beq i e.on)).getD false then j :: acc else acc) []
/-- No two operations, of which one writes and the other one reads or writes, are free to change places. -/
def Region.sensFree (ops : Array Oper) (sl ef : Nat → Bool) (listed : Array Bool) (k : Nat) (late : Nat → Bool) : Bool :=
  (List.range ops.size).all fun j =>
    (!(late j) || (!(listed.getD j false) && ((ops[j]?).map fun o => o.after.any fun e => Region.binds .any e && (Nat.beq e.on k || late e.on)).getD true)) &&
    (Nat.beq j k || listed.getD j true || late j || (!(ef k && sl j) && !(sl k && ef j)))
def Region.lateB (ops : Array Oper) (k j : Nat) : Bool := Nat.blt j ops.size && (Region.lateOf ops k).any fun i => Nat.beq i j
def Region.sensFrom (ops : Array Oper) (sl ef : Nat → Bool) : Nat → Nat → Array Bool → Bool
  | 0, _, _ => true
  | fuel + 1, k, listed => (if sl k || ef k then Region.sensFree ops sl ef listed k (Region.lateB ops k) else true) && Region.sensFrom ops sl ef fuel (k + 1) (listed.setIfInBounds k true)
theorem Region.sensFree_spec {ops : Array Oper} {sl ef : Nat → Bool} {listed : Array Bool} {k : Nat} {late : Nat → Bool} (h : Region.sensFree ops sl ef listed k late = true) (hl : ∀ j, late j = true → j < ops.size) :
    (∀ j oj, ops[j]? = some oj → late j = true → ∃ e ∈ oj.after, Region.binds .any e = true ∧ (e.on = k ∨ late e.on = true)) ∧ (∀ j, late j = true → listed.getD j false = false) ∧
    ∀ j oj, ops[j]? = some oj → j ≠ k → listed.getD j true = false → late j = false → (ef k = false ∨ sl j = false) ∧ (sl k = false ∨ ef j = false) := by
  have h1 : ∀ j, j < ops.size → _ := fun j hj => List.all_eq_true.1 h j (List.mem_range.2 hj)
  simp only [Bool.and_eq_true] at h1
  refine ⟨fun j oj hoj hlj => ?_, fun j hlj => ?_, fun j oj hoj hjk hun hlj => ?_⟩
  · have h2 := (h1 j (Array.getElem?_eq_some_iff.1 hoj).1).1
    rw [hlj, hoj] at h2
    simp only [Bool.not_true, Bool.false_or, Option.map_some, Option.getD_some, Bool.and_eq_true, Array.any_eq_true'] at h2
    obtain ⟨_, e, he, hb⟩ := h2
    simp only [Bool.or_eq_true] at hb
    exact ⟨e, he, hb.1, hb.2.imp Nat.eq_of_beq_eq_true (fun x => x)⟩
  · have h2 := (h1 j (hl j hlj)).1
    rw [hlj] at h2
    simp only [Bool.not_true, Bool.false_or, Bool.and_eq_true, Bool.not_eq_true'] at h2
    exact h2.1
  · have h2 := (h1 j (Array.getElem?_eq_some_iff.1 hoj).1).2
    have hb : Nat.beq j k = false := by rw [Bool.eq_false_iff]; exact fun hh => hjk (Nat.eq_of_beq_eq_true hh)
    rw [hb, hun, hlj] at h2
    simp only [Bool.false_or, Bool.and_eq_true, Bool.not_eq_true', Bool.and_eq_false_iff] at h2
    exact h2

theorem anyG_lex {cx : Cx} {ops : Array Oper} {sl ef : Nat → Bool} (hse : ∀ k, ef k = true → sl k = true) {Q : Env → Obs → Prop} : ∀ (l : List Oper) (k : Nat) (listed : Array Bool) (e : Env) (σ : Obs), (∀ j, l[j]? = ops[k + j]?) →
    Region.lexFrom .any ops l.length k listed = true → Region.sensFrom ops sl ef l.length k listed = true → GRun cx ops sl ef k l e σ Q → anyG cx ops sl ef Q l.length listed e σ
  | [], _, _, _, _, _, hB, _, h => ⟨by simpa [Region.lexFrom] using hB, h⟩
  | o :: l, k, listed, e, σ, hl, hB, hS, h => by
    have h0 : ops[k]? = some o := by simpa using (hl 0).symm
    simp only [List.length_cons, Region.lexFrom, Bool.and_eq_true] at hB
    simp only [List.length_cons, Region.sensFrom, Bool.and_eq_true] at hS
    obtain ⟨⟨hr, hf⟩, hB'⟩ := hB
    have hl' : ∀ j, l[j]? = ops[k + 1 + j]? := fun j => by have := hl (j + 1); simpa [Nat.add_assoc, Nat.add_comm 1 j] using this
    obtain ⟨_, e', σ', hs, hK⟩ := h
    have hgo := anyG_lex hse l (k + 1) _ _ _ hl' hB' hS.2 hK
    by_cases hc : (sl k || ef k) = true
    · have h1 := hS.1
      rw [if_pos hc] at h1
      obtain ⟨k1, k2, k3⟩ := Region.sensFree_spec h1 (fun j hj => by
        unfold Region.lateB at hj
        simp only [Bool.and_eq_true, Nat.blt_eq] at hj
        exact hj.1)
      exact anyG_first hse h0 _ k1 l.length listed e σ e' σ' k2 (fun j oj hj hji hun hno => ⟨Region.free_spec h0 hf j oj hj hji hun hno, fun hl => k3 j oj hj hji hun hl⟩) (by simpa using hr) hs hgo
    · have h2 : sl k = false ∧ ef k = false := by simpa using hc
      exact anyG_first hse h0 (fun _ => false) (fun _ _ _ h => by simp at h) l.length listed e σ e' σ' (fun _ h => by simp at h) (fun j oj hj hji hun hno => ⟨Region.free_spec h0 hf j oj hj hji hun hno, fun _ => ⟨.inl h2.2, .inl h2.1⟩⟩) (by simpa using hr) hs hgo

theorem GRun.dsts {cx : Cx} {ops : Array Oper} {sl ef : Nat → Bool} {Q : Env → Obs → Prop} : ∀ (l : List Oper) (k : Nat) (e : Env) (σ : Obs), GRun cx ops sl ef k l e σ Q → ∀ o ∈ l, DstOk cx.N o
  | [], _, _, _, _, o, ho => by cases ho
  | x :: l, k, e, σ, h, o, ho => by
    obtain ⟨h1, _, _, _, h2⟩ := h
    cases ho with
    | head => exact h1
    | tail _ ho => exact GRun.dsts l _ _ _ h2 o ho

theorem wpAny_of_G {cx : Cx} {ops : Array Oper} {sl ef : Nat → Bool} {Q : Post} (hd : ∀ o ∈ ops.toList, DstOk cx.N o) : ∀ (fuel : Nat) (listed : Array Bool) (e : Env) (σ : Obs) (a : Act) (w : World), R cx e σ a w →
    anyG cx ops sl ef (fun e σ => Q .normal e σ) fuel listed e σ → wpAny cx.P .any ops (lift cx Q) fuel listed a w
  | 0, _, e, σ, _, _, hr, h => ⟨h.1, e, σ, h.2, hr⟩
  | fuel + 1, listed, e, σ, a, w, hr, h => by
    refine ⟨fun h0 => ⟨e, σ, h.1 h0, hr⟩, fun i hi => ?_⟩
    obtain ⟨_, o, ho, _⟩ := mem_ready.1 hi
    obtain ⟨e', σ', hs, hk⟩ := h.2 i hi o ho
    have hdo : DstOk cx.N o := hd o (Array.mem_toList_iff.2 (Array.mem_of_getElem? ho))
    unfold wpOp
    simp only [ho]
    obtain ⟨F, ρ, hr⟩ := hr
    rcases hs with ⟨hg, s, hop, rfl, rfl⟩ | ⟨hg, rfl, rfl⟩ | ⟨hg, _, hdst, hop, rfl⟩
    · rw [if_pos (hg.wanted (fun t _ => hr.env t))]
      have hop' : AOp cx.P cx.B ops o e σ' s := by
        rcases hop with h | h
        · exact h.2
        · exact h _
      refine .inl (wp_to ?_ (fun _ _ _ => False.elim) (hop' F ρ w a hr.lt (fun t _ => hr.env t) hr.obs))
      rintro a' w' ⟨v, F', rfl, hv, he⟩
      exact wpAny_of_G hd fuel _ _ _ _ _ ⟨F', ρ, hr.put he hv hdo⟩ hk
    · rw [if_neg (by rw [hg.wanted (fun t _ => hr.env t)]; simp)]
      exact wpAny_of_G hd fuel _ _ _ _ _ ⟨F, ρ, hr.put (Ext.refl hr.lt) repS_undef hdo⟩ hk
    · rw [if_pos (hg.wanted (fun t _ => hr.env t))]
      refine .inl (wp_to ?_ (fun _ _ _ => False.elim) (hop F ρ a w e' hr (fun t _ => hr.env t)))
      rintro a' w' ⟨rfl, h3⟩
      obtain ⟨F', ρ', h4⟩ := h3 e' hr
      exact wpAny_of_G hd fuel _ _ _ _ _ ⟨F', ρ', h4⟩ hk

/-- A region that draws its order and writes, walked once, in the order of the text. -/
theorem AWP.drawG {cx : Cx} {id : Nat} {l : List Oper} {e : Env} {σ : Obs} {Q : Post} (sl ef : Nat → Bool) (hse : ∀ k, ef k = true → sl k = true) (hm : cx.P.follows .mixedOrders = true) (hB : Region.lexB .any l.toArray = true)
    (hS : Region.sensFrom l.toArray sl ef l.length 0 (Array.replicate l.length false) = true) (h : GRun cx l.toArray sl ef 0 l e σ (fun e σ => Q .normal e σ)) : AWP cx (.region id l.toArray true) e σ Q := by
  intro a w ⟨F, ρ, hr⟩
  simp only [Region.lexB, Bool.and_eq_true] at hB
  have h1 := anyG_lex hse l 0 (Array.replicate l.toArray.size false) e σ (by simp) (by simpa using hB.2) (by simpa using hS) h
  exact wp_region_any hm (wpAny_of_G (by simpa using GRun.dsts l 0 e σ h) _ _ e σ a _ ⟨F, ρ, hr.drew⟩ (by simpa using h1))
end Go.Proofs.YtnapkooefpkicaaGreatDoor


namespace Go.Proofs.YtnapkooefpkicaaGreatDoor
open Go.RowKit
set_option linter.unusedVariables false
section
variable {cx : Cx} {ops : Array Oper} {o : Oper} {rest : List Oper} {e : Env} {σ : Obs} {sl ef : Nat → Bool} {n : Nat} {l : List Oper} {Q : Env → Obs → Prop}
theorem GRun.nil (h : Q e σ) : GRun cx ops sl ef n [] e σ Q := h
/-- It reads no object. -/
theorem GRun.step {s : S} {t : Nat} (hg : GW ops o e true) (ht : o.dst = some t) (hd : Nat.blt t cx.N = true) (h : ∀ τ, AOp cx.P cx.B ops o e τ s) (k : GRun cx ops sl ef (n + 1) l (e.put (some t) s) σ Q) : GRun cx ops sl ef n (o :: l) e σ Q :=
  ⟨by unfold DstOk; rw [ht]; exact hd, _, _, .inl ⟨hg, s, .inr h, rfl, rfl⟩, by rw [ht]; exact k⟩
theorem GRun.cons {s : S} (hg : GW ops o e true) (ht : o.dst = none) (h : ∀ τ, AOp cx.P cx.B ops o e τ s) (k : GRun cx ops sl ef (n + 1) l e σ Q) : GRun cx ops sl ef n (o :: l) e σ Q :=
  ⟨by unfold DstOk; rw [ht], _, _, .inl ⟨hg, s, .inr h, rfl, rfl⟩, by rw [ht]; exact k⟩
/-- It reads objects. -/
theorem GRun.stepS {s : S} {t : Nat} (hs : sl n = true) (hg : GW ops o e true) (ht : o.dst = some t) (hd : Nat.blt t cx.N = true) (h : AOp cx.P cx.B ops o e σ s) (k : GRun cx ops sl ef (n + 1) l (e.put (some t) s) σ Q) : GRun cx ops sl ef n (o :: l) e σ Q :=
  ⟨by unfold DstOk; rw [ht]; exact hd, _, _, .inl ⟨hg, s, .inl ⟨hs, h⟩, rfl, rfl⟩, by rw [ht]; exact k⟩
theorem GRun.pass {t : Nat} (hg : GW ops o e false) (ht : o.dst = some t) (hd : Nat.blt t cx.N = true) (k : GRun cx ops sl ef (n + 1) l (e.put (some t) (.d (.v undef))) σ Q) : GRun cx ops sl ef n (o :: l) e σ Q :=
  ⟨by unfold DstOk; rw [ht]; exact hd, _, _, .inr (.inl ⟨hg, rfl, rfl⟩), by rw [ht]; exact k⟩
theorem GRun.split (t : Nat) {b : Bool} (ht : e t = .d (.v (.bool b))) (h1 : b = true → GRun cx ops sl ef n l (e.put (some t) (.d (.v (.bool true)))) σ Q) (h0 : b = false → GRun cx ops sl ef n l (e.put (some t) (.d (.v (.bool false)))) σ Q) : GRun cx ops sl ef n l e σ Q := by
  cases b with
  | true => have := h1 rfl; rwa [Env.put_id ht] at this
  | false => have := h0 rfl; rwa [Env.put_id ht] at this
/-- It writes. -/
theorem GRun.eff {σ' : Obs} (hf : ef n = true) (hg : GW ops o e true) (ht : o.dst = none) (h : EOp cx ops o e σ σ') (k : GRun cx ops sl ef (n + 1) l e σ' Q) : GRun cx ops sl ef n (o :: l) e σ Q :=
  ⟨by unfold DstOk; rw [ht], _, _, .inr (.inr ⟨hg, hf, ht, h, rfl⟩), k⟩
end
section
variable {cx : Cx} {ops : Array Oper} {o : Oper} {e : Env} {σ : Obs}
/-- b[k] = v in such a region. -/
theorem EOp.storeRow {t id off ee size len : Nat} {x y : Operand} {d : D} {els : List (List D)} {ds : List D} (ht : o.dst = none) (ho : o.op = .store t x y) (hs : ∀ w, (sizeOf t).run cx.P w = .ok len w) (hx : e.ev x = .ptr id off) (hm : (id, Ob.row ee size els) ∈ σ)
    (hy : e.ev y = .d d) (h1 : d.one = true) (hl : d.parts.length = len) (k j : Nat) (hoff : off = k * size + j) (hd : els[k]? = some ds) (hj : j + len ≤ size) :
    EOp cx ops o e σ (Obs.upd id (.row ee size (els.set k (ds.take j ++ d.parts ++ ds.drop (j + len)))) σ) := by
  intro F ρ a w e0 hr ha
  have hop : ∀ y ∈ o.op.operands.toList, RepS F ρ w (a.eval y) (e.ev y) := fun y hy => ev_rep fun t ht => ha t (looks_op (by rw [← ht]; exact hy))
  have r1 := hop x (by rw [ho]; simp [Op.operands])
  have r2 := hop y (by rw [ho]; simp [Op.operands])
  rw [hx] at r1
  rw [hy] at r2
  obtain ⟨h3, h4⟩ := parts_rep (repS_d r2) h1
  have hlt : k < els.length := (List.getElem?_eq_some_iff.1 hd).1
  have hde : els[k] = ds := (List.getElem?_eq_some_iff.1 hd).2
  obtain ⟨xs, hown, hlen, hrep, hnF⟩ := hr.obs.ok _ hm
  dsimp only at hown hnF
  have hown' : w.ownsRow cx.B ee size (ρ id) els.length (flat xs els.length size) := hown
  rcases hown'.2 with ⟨_, h0⟩ | ⟨g, cap, cur, hv, hB, hh, hn, hmx, hcs, htk⟩
  · omega
  have hblk : blk (ρ id) = some g := by rw [hv]; rfl
  have hxv := ptr_at r1 hblk
  have hsz : (a.eval y).cells.size = len := by have := h3.1; rw [Array.length_toList] at this; omega
  have hle : k * size + size ≤ els.length * size := by rw [← Nat.succ_mul]; exact Nat.mul_le_mul_right _ hlt
  have hcap : els.length * size ≤ cap * size := Nat.mul_le_mul_right _ hn
  obtain ⟨w', h5, h6, h7⟩ := storeVar_run (P := cx.P) (off := off) hs hsz (cur := cur.toList) (by simpa using hh) (by rw [Array.length_toList]; omega) h4
  unfold Oper.wp execOp
  simp only [ho, Instr.storeAt, hxv, Instr.sureAddr, Sem.run_bind, Sem.run_pure, Result.andThen_ok, h5]
  refine ⟨by rw [ht]; rfl, fun e2 hr2 => ⟨F, ρ, ?_⟩⟩
  have hvl : (a.eval y).cells.toList.length = len := by rw [Array.length_toList]; exact hsz
  have keep : ∀ {u : Value} {d : D}, Rep F w u d → Rep F w' u d := fun h => h.mono (fun b hb => hb) fun b hb => h6.block b (hr.lt b hb) (fun he => hnF g hblk (by rw [← Option.some.inj he]; exact hb))
  refine hr2.writeOb hblk hm hB (hnF g hblk) h6 ⟨fun i p => if i = k ∧ j ≤ p ∧ p < j + (a.eval y).cells.toList.length then (a.eval y).cells.toList.getD (p - j) undef else xs i p, ?_, fun i hi => ?_, fun i hi p hp => ?_, hnF⟩
  · rw [List.length_set]
    have hst := flat_store xs els.length size k j (a.eval y).cells.toList hlt (by omega)
    refine ⟨flat_length _ _ _, .inr ⟨g, cap, _, hv, hB, h7, hn, hmx, ?_, ?_⟩⟩
    · simp only [List.size_toArray, List.length_append, List.length_take, List.length_drop, Array.length_toList, hcs, hsz]
      omega
    · refine Eq.trans ?_ hst
      rw [← htk]
      have hcl : cur.toList.length = cap * size := by rw [Array.length_toList]; exact hcs
      rw [hoff, ← hvl]
      apply List.ext_getElem?
      intro p
      by_cases hp : p < els.length * size
      · rw [List.getElem?_take, if_pos hp, get3, get3]
        simp only [List.length_take, hcl, List.getElem?_take, List.getElem?_drop]
        rw [Nat.min_eq_left (show k * size + j ≤ cap * size by omega), Nat.min_eq_left (show k * size + j ≤ min (els.length * size) (cap * size) by omega)]
        by_cases c1 : p < k * size + j
        · simp [c1, hp]
        · by_cases c2 : p < k * size + j + (a.eval y).cells.toList.length
          · simp only [c1, c2, if_false, if_true]
          · simp only [c1, c2, if_false]
            rw [if_pos (by omega)]
      · rw [List.getElem?_eq_none (by rw [List.length_take]; omega), List.getElem?_eq_none (by
          simp only [List.length_append, List.length_take, List.length_drop, hcl]
          omega)]
  · rw [List.getElem_set]
    split
    · rw [List.length_append, List.length_append, List.length_take, List.length_drop, hl]
      have := hlen k hlt
      rw [hde] at this
      omega
    · exact hlen i _
  · rw [List.length_set] at hi
    have hk2 := hlen k hlt
    rw [hde] at hk2
    simp only [List.getElem_set] at hp ⊢
    by_cases hik : k = i
    · subst hik
      simp only [if_true] at hp ⊢
      rw [List.length_append, List.length_append, List.length_take, List.length_drop, hl] at hp
      by_cases c1 : j ≤ p ∧ p < j + (a.eval y).cells.toList.length
      · simp only [c1, and_self, if_true]
        have hpl : p - j < (a.eval y).cells.toList.length := by omega
        rw [List.getD_eq_getElem?_getD, List.getElem?_eq_getElem hpl, Option.getD_some]
        refine ⟨h4 _ (List.getElem_mem _), keep ?_⟩
        rw [List.getElem_append_left (by simp; omega), List.getElem_append_right (by simp; omega)]
        have e1 : (List.take j ds).length = j := by simp; omega
        simp only [e1]
        exact h3.2 _ _ _
      · rw [if_neg (by rintro ⟨_, h8, h9⟩; exact c1 ⟨h8, h9⟩)]
        have h10 := hrep k hlt p (by rw [hde]; omega)
        simp only [hde] at h10
        refine ⟨h10.1, keep ?_⟩
        by_cases c2 : p < j
        · rw [List.getElem_append_left (by simp; omega), List.getElem_append_left (by simp; omega), List.getElem_take]
          exact h10.2
        · rw [List.getElem_append_right (by simp; omega), List.getElem_drop]
          have e1 : (List.take j ds ++ d.parts).length = j + len := by simp; omega
          simp only [e1]
          have e2 : j + len + (p - (j + len)) = p := by omega
          simp only [e2]
          exact h10.2
    · simp only [hik, if_false] at hp ⊢
      rw [if_neg (by rintro ⟨h8, _⟩; exact hik h8.symm)]
      exact ⟨(hrep i hi p hp).1, keep (hrep i hi p hp).2⟩
end
end Go.Proofs.YtnapkooefpkicaaGreatDoor


namespace Go.Proofs.YtnapkooefpkicaaGreatDoor
open Go.RowKit
set_option linter.unusedVariables false
section
variable {P : Program} {B : Nat} {ops : Array Oper} {o : Oper} {e : Env} {σ : Obs}
/-- An element that is a struct, loaded whole out of an own row. -/
theorem AOp.loadRowAgg {t : TypeId} {x : Operand} {id off ee size : Nat} {els : List (List D)} {ds : List D} (ho : o.op = .load t x) (hT : AggT P t size) (hx : e.ev x = .ptr id off) (hm : (id, Ob.row ee size els) ∈ σ) (k : Nat) (hoff : off = k * size) (hk : els[k]? = some ds) :
    AOp P B ops o e σ (.d (.agg ds)) :=
  .value fun F ρ w a hF hr hσ => by
  have h1 := hr x (by rw [ho]; simp [Op.operands])
  rw [hx] at h1
  obtain ⟨xs, h3, h4, h5, h6⟩ := hσ.ok _ hm
  dsimp only at h3
  have hlt : k < els.length := (List.getElem?_eq_some_iff.1 hk).1
  have hde : els[k] = ds := (List.getElem?_eq_some_iff.1 hk).2
  have hsz := h4 k hlt
  rw [hde] at hsz
  rcases h3.2 with ⟨_, h7⟩ | ⟨g, cap, cur, h7, _, h8, _⟩
  · omega
  · have hv := ptr_at h1 (g := g) (by rw [h7]; rfl)
    have hl' : (loadCells ⟨g, off, none⟩ ((List.range size).map (xs k)).length).run P w = .ok ((List.range size).map (xs k)).toArray w := run_loadCells_list w _ _ (fun j v hj => by
      have hjl := (List.getElem?_eq_some_iff.1 hj).1
      simp at hjl
      have hc := row_cell h3 h7 h8 hlt hjl
      rw [addr_add, hoff, hc, ← hj]
      simp [hjl])
    simp only [List.length_map, List.length_range] at hl'
    refine ⟨.agg ((List.range size).map (xs k)).toArray, F, w, ?_, .d (.agg _ _ (by simp [hsz]) (fun i hi => ?_) (fun i hi hi2 => ?_)), Ext.refl hF⟩
    · unfold execOp
      simp only [ho, hv, Instr.loadAt, Instr.sureAddr, loadVar, Sem.run_bind, Sem.run_pure, Result.andThen_ok, hT.agg w, hT.size w, if_true, hl']
    · simp at hi ⊢
      exact (h5 k hlt i (by rw [hde, hsz]; exact hi)).1
    · simp at hi ⊢
      have := (h5 k hlt i (by rw [hde, hsz]; exact hi)).2
      simp only [hde] at this
      exact this
end
theorem row_same {id e size : Nat} {els els' : List (List D)} {τ : Obs} (h : els = els') : ∀ p ∈ [(id, Ob.row e size els')], p ∈ (id, Ob.row e size els) :: τ := fun p hp => by
  have : p = (id, Ob.row e size els') := by simpa using hp
  rw [this, ← h]
  exact .head _
end Go.Proofs.YtnapkooefpkicaaGreatDoor


namespace Go.Proofs.YtnapkooefpkicaaGreatDoor
open Go.RowKit
set_option linter.unusedVariables false
section
variable {P : Program} {B : Nat} {ops : Array Oper} {o : Oper} {e : Env} {σ : Obs}
/-- A number that fits, turned into another kind. -/
theorem AOp.convSame {s t : TypeId} {x : Operand} {k k0 : IntKind} {n : Int} (ho : o.op = .convert s t x) (hc : convB P s t k = true) (hx : e.ev x = .d (.v (.int k0 n))) (hw : k.wrap n = n) : AOp P B ops o e σ (.d (.v (.int k n))) := by
  have := AOp.convInt (P := P) (B := B) (ops := ops) (σ := σ) ho hc hx
  rwa [hw] at this
theorem wrapU64 {n : Int} (h0 : 0 ≤ n) (h1 : n ≤ 9223372036854775807) : IntKind.u64.wrap n = n := by rw [IntKind.wrap_u64]; omega
/-- n >> 1. -/
theorem AOp.half {t ty : TypeId} {x y : Operand} {a : Int} (ho : o.op = .binOp .shr t x y ty) (hx : e.ev x = .d (.v (.int .u64 a))) (hy : e.ev y = .d (.v (.int .u64 1))) : AOp P B ops o e σ (.d (.v (.int .u64 (a / 2)))) :=
  .bin ho hx hy fun w => by
  rw [Sem.run_bind, eqGuard_int]
  simp only [Result.andThen_ok, binOp, Op.shift]
  have h1 : ¬ ((1 : Int) < 0) := by decide
  rw [if_neg h1]
  have h2 : Min.min (1 : Int).toNat IntKind.u64.bits = 1 := by decide
  rw [h2]
  simp only [Sem.run_pure]
  congr 2
  rw [Int.fdiv_eq_ediv_of_nonneg _ (by decide)]
  rfl
end
end Go.Proofs.YtnapkooefpkicaaGreatDoor


namespace Go.Proofs.YtnapkooefpkicaaGreatDoor
open Go.RowKit
/-- A plain field's kind. -/
inductive Kd where
  | int (k : IntKind)
  | str
  | bool
def Kd.fits : Kd → Value → Bool
  | .int k, .int k' _ => decide (k' = k)
  | .str, .string _ => true
  | .bool, .bool _ => true
  | _, _ => false
def Kd.ofType (P : Program) (t : TypeId) : Kd → Bool
  | .int k => match P.underlying t with | some (.int k') => decide (k' = k) | _ => false
  | .str => match P.underlying t with | some .string => true | _ => false
  | .bool => match P.underlying t with | some .bool => true | _ => false
def kindsB : List Kd → List Value → Bool
  | [], [] => true
  | k :: ks, v :: vs => k.fits v && kindsB ks vs
  | _, _ => false
def fieldsB (P : Program) : Nat → List Kd → List Field → Bool
  | _, [], [] => true
  | i, k :: ks, f :: fs => (f.name != "_") && (f.offset == i) && k.ofType P f.type && fieldsB P (i + 1) ks fs
  | _, _, _ => false
def sameV : Value → Value → Bool
  | .int _ a, .int _ b => decide (a = b)
  | .string a, .string b => decide (a = b)
  | .bool a, .bool b => decide (a = b)
  | _, _ => false
def sameL : List Value → List Value → Bool
  | [], [] => true
  | a :: l, b :: r => sameV a b && sameL l r
  | _, _ => false
theorem run_eqCell {P : Program} (w : World) {k : Kd} {t : TypeId} (hk : k.ofType P t = true) {a b : Value} (ha : k.fits a = true) (hb : k.fits b = true) (d : Nat) : (Op.equalIn (d + 1) t a b).run P w = .ok (sameV a b) w := by
  cases k with
  | int q =>
    simp only [Kd.ofType] at hk
    split at hk
    · rename_i q' hu
      have hq := of_decide_eq_true hk
      subst hq
      cases a <;> simp only [Kd.fits, Bool.false_eq_true] at ha
      cases b <;> simp only [Kd.fits, Bool.false_eq_true] at hb
      have h1 := of_decide_eq_true ha
      have h2 := of_decide_eq_true hb
      subst h1
      rename_i x _ y
      subst h2
      rw [run_equalIn_int w d t _ _ x y hu]
      rw [show (x == y) = decide (x = y) by by_cases hxy : x = y <;> simp [hxy]]; rfl
    · cases hk
  | str =>
    simp only [Kd.ofType] at hk
    split at hk
    · rename_i hu
      cases a <;> simp only [Kd.fits, Bool.false_eq_true] at ha
      cases b <;> simp only [Kd.fits, Bool.false_eq_true] at hb
      rename_i x y
      rw [run_equalIn_string w d t x y hu, toList_eq]
      rfl
    · cases hk
  | bool =>
    simp only [Kd.ofType] at hk
    split at hk
    · rename_i hu
      cases a <;> simp only [Kd.fits, Bool.false_eq_true] at ha
      cases b <;> simp only [Kd.fits, Bool.false_eq_true] at hb
      rename_i x y
      rw [run_equalIn_bool w d t x y hu]
      cases x <;> cases y <;> rfl
    · cases hk
theorem ofType_plain {P : Program} {t : TypeId} {k : Kd} (h : k.ofType P t = true) : P.plainKey t = true := by
  unfold Program.plainKey
  cases k <;> simp only [Kd.ofType] at h <;> split at h <;> first | cases h; done | simp_all
theorem run_eqFields_same {P : Program} (w : World) (d : Nat) : ∀ (ks : List Kd) (fs : List Field) (pre pre' us vs : List Value), pre.length = pre'.length → fieldsB P pre.length ks fs = true → kindsB ks us = true → kindsB ks vs = true →
    (Op.eqFields (d + 1) (pre ++ us).toArray (pre' ++ vs).toArray fs).run P w = .ok (sameL us vs) w
  | [], [], _, _, [], [], _, _, _, _ => by simp [Op.eqFields, sameL]
  | k :: ks, f :: fs, pre, pre', u :: us, v :: vs, hl, hf, hu, hv => by
    simp only [fieldsB, kindsB, Bool.and_eq_true, bne_iff_ne, beq_iff_eq] at hf hu hv
    obtain ⟨⟨⟨hn, ho⟩, hk⟩, hf⟩ := hf
    have ih := run_eqFields_same w d ks fs (pre ++ [u]) (pre' ++ [v]) us vs (by simp [hl]) (by simpa using hf) hu.2 hv.2
    have p1 : (part f.type (pre ++ u :: us).toArray f.offset).run P w = .ok u w := run_part_plain w (ofType_plain hk) (by rw [ho]; simp)
    have p2 : (part f.type (pre' ++ v :: vs).toArray f.offset).run P w = .ok v w := run_part_plain w (ofType_plain hk) (by rw [ho, hl]; simp)
    rw [List.append_assoc, List.append_assoc] at ih
    simp only [List.cons_append, List.nil_append] at ih
    simp only [Op.eqFields, hn, ne_eq, not_false_eq_true, if_true, Sem.run_bind, p1, p2, run_eqCell w hk hu.1 hv.1, Result.andThen_ok, sameL]
    cases sameV u v
    · simp
    · simpa using ih
  | [], _ :: _, _, _, _, _, _, h, _, _ => by simp [fieldsB] at h
  | _ :: _, [], _, _, _, _, _, h, _, _ => by simp [fieldsB] at h
  | [], [], _, _, _ :: _, _, _, _, h, _ => by simp [kindsB] at h
  | [], [], _, _, [], _ :: _, _, _, _, h => by simp [kindsB] at h
  | _ :: _, _ :: _, _, _, [], _, _, _, h, _ => by simp [kindsB] at h
  | _ :: _, _ :: _, _, _, _ :: _, [], _, _, _, h => by simp [kindsB] at h
def eqStructB (P : Program) (t : TypeId) (ks : List Kd) : Bool :=
  (match P.underlying t with | some (.struct fs) => fieldsB P 0 ks fs.toList | _ => false) && !P.stoodInHeld t && !P.eqGuardType P.depth t
/-- Structs of plain fields compare field by field. -/
structure EqT (P : Program) (t : TypeId) (ks : List Kd) : Prop where
  guard : ∀ (op : BinOp) (x y : Operand) (us vs : Array Value) (w : World), (eqGuard op t x y (.agg us) (.agg vs)).run P w = .ok () w
  run : ∀ (us vs : List Value) (w : World), kindsB ks us = true → kindsB ks vs = true → (Op.equal t (.agg us.toArray) (.agg vs.toArray)).run P w = .ok (sameL us vs) w
theorem EqT.of {P : Program} {t : TypeId} {ks : List Kd} (h : eqStructB P t ks = true) : EqT P t ks := by
  unfold eqStructB at h
  simp only [Bool.and_eq_true, Bool.not_eq_true'] at h
  obtain ⟨⟨h1, h2⟩, h3⟩ := h
  split at h1
  · rename_i fs hu
    have hfs : P.fieldsOf t = fs := by simp [Program.fieldsOf, hu]
    refine ⟨fun op x y us vs w => ?_, fun us vs w hk1 hk2 => ?_⟩
    · unfold eqGuard
      cases op <;> first | rfl | (simp [run_program, h3])
    · have h4 := run_eqFields_same w 9998 ks fs.toList [] [] us vs rfl (by simpa using h1) hk1 hk2
      unfold Op.equal
      rw [show Op.maxDepth = 9999 + 1 from rfl, run_equalIn_struct w 9999 t us.toArray vs.toArray (by rw [hfs]; exact hu) h2, hfs]
      simpa using h4
  · cases h1
/-- Two cell lists whose values compare as b. -/
def EqD (P : Program) (t : TypeId) (ds1 ds2 : List D) (b : Bool) : Prop := ∃ us vs : List Value, ds1 = us.map D.v ∧ ds2 = vs.map D.v ∧ (∀ (op : BinOp) (x y : Operand) (w : World), (eqGuard op t x y (.agg us.toArray) (.agg vs.toArray)).run P w = .ok () w) ∧
  ∀ w, (Op.equal t (.agg us.toArray) (.agg vs.toArray)).run P w = .ok b w
theorem EqD.of {P : Program} {t : TypeId} {ks : List Kd} {ds1 ds2 : List D} {b : Bool} (T : EqT P t ks) (us vs : List Value) (h1 : ds1 = us.map D.v) (h2 : ds2 = vs.map D.v) (k1 : kindsB ks us = true) (k2 : kindsB ks vs = true) (hb : sameL us vs = b) : EqD P t ds1 ds2 b :=
  ⟨us, vs, h1, h2, fun op x y w => T.guard op x y _ _ w, fun w => by rw [T.run us vs w k1 k2, hb]⟩
theorem rep_vs {F : Nat → Prop} {w : World} {x : Value} {us : List Value} (h : Rep F w x (.agg (us.map D.v))) : x = .agg us.toArray := by
  cases h with
  | agg cs ds hl hone h =>
    congr 2
    rw [List.length_map] at hl
    refine List.ext_getElem hl fun i h1 h2 => ?_
    have := h i h1 (by rw [List.length_map]; exact h2)
    rw [List.getElem_map] at this
    exact rep_v this
section
variable {P : Program} {B : Nat} {ops : Array Oper} {o : Oper} {e : Env} {σ : Obs}
theorem AOp.aggEql {t ty : TypeId} {x y : Operand} {ds1 ds2 : List D} {b : Bool} (ho : o.op = .binOp .eql t x y ty) (hx : e.ev x = .d (.agg ds1)) (hy : e.ev y = .d (.agg ds2)) (E : EqD P t ds1 ds2 b) : AOp P B ops o e σ (.d (.v (.bool b))) := .value fun F ρ w a hF hr _ => by
  obtain ⟨us, vs, rfl, rfl, hg, hq⟩ := E
  have h1 := hr x (by rw [ho]; simp [Op.operands])
  have h2 := hr y (by rw [ho]; simp [Op.operands])
  rw [hx] at h1
  rw [hy] at h2
  refine ⟨.bool b, F, w, ?_, .d (.v _), Ext.refl hF⟩
  unfold execOp
  simp only [ho, rep_vs (repS_d h1), rep_vs (repS_d h2)]
  rw [Sem.run_bind, Sem.run_bind, hg]
  simp only [Result.andThen_ok, binOp, Sem.run_bind, hq, Sem.run_pure]
theorem AOp.aggNeq {t ty : TypeId} {x y : Operand} {ds1 ds2 : List D} {b : Bool} (ho : o.op = .binOp .neq t x y ty) (hx : e.ev x = .d (.agg ds1)) (hy : e.ev y = .d (.agg ds2)) (E : EqD P t ds1 ds2 b) : AOp P B ops o e σ (.d (.v (.bool (!b)))) := .value fun F ρ w a hF hr _ => by
  obtain ⟨us, vs, rfl, rfl, hg, hq⟩ := E
  have h1 := hr x (by rw [ho]; simp [Op.operands])
  have h2 := hr y (by rw [ho]; simp [Op.operands])
  rw [hx] at h1
  rw [hy] at h2
  refine ⟨.bool (!b), F, w, ?_, .d (.v _), Ext.refl hF⟩
  unfold execOp
  simp only [ho, rep_vs (repS_d h1), rep_vs (repS_d h2)]
  rw [Sem.run_bind, Sem.run_bind, hg]
  simp only [Result.andThen_ok, binOp, Sem.run_bind, hq, Sem.run_pure]
end
end Go.Proofs.YtnapkooefpkicaaGreatDoor


namespace Go.Proofs.YtnapkooefpkicaaGreatDoor
open Go.RowKit
set_option linter.unusedVariables false

theorem wp_to2 {P : Program} {o : Oper} {a : Act} {w : World} {K K' : Act → World → Prop} {Q Q' : Exit → Act → World → Prop} (h : ∀ a w, K a w → K' a w) (hq : ∀ e a w, e ≠ .normal → Q e a w → Q' e a w)
    (hh : o.wp P a w K Q) : o.wp P a w K' Q' := by
  unfold Oper.wp at *
  generalize (execOp a.eval o).run P w = r at *
  cases r with
  | ok n w' =>
    cases n <;> simp only [Oper.upon] at hh ⊢ <;>
      first
        | exact h _ _ hh
        | exact Calls.mono hh (fun e w'' he => by cases e <;> first | exact h _ _ he | exact hq _ _ _ (by simp) he | exact he.imp fun _ => Exists.imp fun _ => hq _ _ _ (by simp))
        | exact Rows.mono hh (fun _ _ he => h _ _ he)
  | halt x w' => cases x <;> simp only [Oper.upon] at hh ⊢ <;> first | exact hq _ _ _ (by simp) hh | exact hh

def Region.edge (ops : Array Oper) (m j : Nat) : Bool := ((ops[m]?).map fun o => o.after.any fun e => Region.binds .any e && Nat.beq e.on j).getD false
/-- Who must come before lies before. -/
def Region.downB (ops : Array Oper) : Bool := (List.range ops.size).all fun i =>
  ((ops[i]?).map fun o => (o.after.all fun e => !Region.binds .any e || Nat.blt e.on i) && (match o.guard with | none => true | some p => Nat.blt p.1 i)).getD true
/-- From k on each one waits for all before it. -/
def Region.chainB (ops : Array Oper) (k : Nat) : Bool := Region.downB ops && Nat.ble k ops.size && (List.range (ops.size - 1)).all fun j =>
  (List.range ops.size).any fun m => Nat.blt j m && (Nat.ble m k || Nat.ble m (j + 1)) && Region.edge ops m j
theorem Region.edge_spec {ops : Array Oper} {m j : Nat} (h : Region.edge ops m j = true) : ∃ o, ops[m]? = some o ∧ ∃ e ∈ o.after, Region.binds .any e = true ∧ e.on = j := by
  unfold Region.edge at h
  cases ho : ops[m]? with
  | none => rw [ho] at h; simp at h
  | some o =>
    rw [ho] at h
    simp only [Option.map_some, Option.getD_some, Array.any_eq_true'] at h
    obtain ⟨e, he, hb⟩ := h
    simp only [Bool.and_eq_true] at hb
    exact ⟨o, rfl, e, he, hb.1, Nat.eq_of_beq_eq_true hb.2⟩
theorem Region.down_spec {ops : Array Oper} (h : Region.downB ops = true) {i : Nat} {o : Oper} (ho : ops[i]? = some o) : (∀ e ∈ o.after, Region.binds .any e = true → e.on < i) ∧ ∀ p, o.guard = some p → p.1 < i := by
  have h1 := List.all_eq_true.1 h i (List.mem_range.2 (Array.getElem?_eq_some_iff.1 ho).1)
  rw [ho] at h1
  simp only [Option.map_some, Option.getD_some, Bool.and_eq_true] at h1
  refine ⟨fun e he hb => ?_, fun p hp => ?_⟩
  · have := Array.all_eq_true_iff_forall_mem.1 h1.1 e he
    rw [hb] at this
    simpa [Nat.blt_eq] using this
  · have h2 := h1.2
    rw [hp] at h2
    simpa [Nat.blt_eq] using h2
structure Chain (ops : Array Oper) (k : Nat) : Prop where
  down : Region.downB ops = true
  le : k ≤ ops.size
  next : ∀ j, j < ops.size - 1 → ∃ m, j < m ∧ (m ≤ k ∨ m ≤ j + 1) ∧ Region.edge ops m j = true
theorem Chain.of {ops : Array Oper} {k : Nat} (h : Region.chainB ops k = true) : Chain ops k := by
  unfold Region.chainB at h
  simp only [Bool.and_eq_true] at h
  obtain ⟨⟨h1, h2⟩, h3⟩ := h
  refine ⟨h1, Nat.le_of_ble_eq_true h2, fun j hj => ?_⟩
  have h4 := List.all_eq_true.1 h3 j (List.mem_range.2 hj)
  obtain ⟨m, _, hm⟩ := List.any_eq_true.1 h4
  simp only [Bool.and_eq_true, Bool.or_eq_true, Nat.blt_eq] at hm
  exact ⟨m, hm.1.1, hm.1.2.imp Nat.le_of_ble_eq_true Nat.le_of_ble_eq_true, hm.2⟩

def Closed (ops : Array Oper) (listed : Array Bool) : Prop := ∀ i o, ops[i]? = some o → listed.getD i false = true → ∀ e ∈ o.after, Region.binds .any e = true → listed.getD e.on false = true
theorem getD_tf {listed : Array Bool} {j : Nat} (h : j < listed.size) (a b : Bool) : listed.getD j a = listed.getD j b := by simp [Array.getD_eq_getD_getElem?, h]
theorem Closed.set {ops : Array Oper} {listed : Array Bool} (h : Closed ops listed) {i : Nat} (hi : i ∈ Region.ready .any ops listed) : Closed ops (listed.setIfInBounds i true) := by
  intro m o ho hm e he hb
  by_cases hmi : i = m
  · subst hmi
    obtain ⟨_, o', ho', hall⟩ := mem_ready.1 hi
    rw [ho] at ho'; cases ho'
    exact getD_set_true (hall e he hb)
  · rw [getD_set_ne false hmi] at hm
    exact getD_set_true (h m o ho hm e he hb)
theorem Chain.before {ops : Array Oper} {k : Nat} (hC : Chain ops k) {listed : Array Bool} (hc : Closed ops listed) {i : Nat} (hi : i ∈ Region.ready .any ops listed) (hk : k ≤ i) : ∀ d j, j + d = i → 0 < d → listed.getD j false = true := by
  obtain ⟨_, oi, hoi, hall⟩ := mem_ready.1 hi
  have hlt : i < ops.size := (Array.getElem?_eq_some_iff.1 hoi).1
  intro d
  induction d using Nat.strongRecOn with
  | ind d ih =>
    intro j hj hd
    obtain ⟨m, h1, h2, h3⟩ := hC.next j (by omega)
    obtain ⟨o, ho, e, he, hb, heq⟩ := Region.edge_spec h3
    by_cases hmi : m = i
    · subst hmi
      rw [hoi] at ho; cases ho
      rw [← heq]; exact hall e he hb
    · have := ih (i - m) (by omega) m (by omega) (by omega)
      rw [← heq]; exact hc m o ho this e he hb
theorem ready_least {ops : Array Oper} (hd : Region.downB ops = true) {listed : Array Bool} (hs : listed.size = ops.size) : ∀ j, j < ops.size → listed.getD j true = false → ∃ m, m ≤ j ∧ m ∈ Region.ready .any ops listed := by
  intro j
  induction j using Nat.strongRecOn with
  | ind j ih =>
    intro hj hu
    by_cases hr : j ∈ Region.ready .any ops listed
    · exact ⟨j, Nat.le_refl _, hr⟩
    · have ho : ops[j]? = some ops[j] := Array.getElem?_eq_getElem hj
      have : ¬ ∀ e ∈ ops[j].after, Region.binds .any e = true → listed.getD e.on false = true := fun hh => hr (mem_ready.2 ⟨hu, _, ho, hh⟩)
      simp only [Classical.not_forall] at this
      obtain ⟨e, he, hb, hn⟩ := this
      have hlt := (Region.down_spec hd ho).1 e he hb
      obtain ⟨m, h1, h2⟩ := ih e.on hlt (by omega) (by
        rw [getD_tf (by omega) true false]
        simpa using hn)
      exact ⟨m, by omega, h2⟩
section
variable {P : Program} {ops : Array Oper} {Q Q0 : Exit → Act → World → Prop} {k : Nat}
theorem wpAny_chain (hC : Chain ops k) : ∀ (l : List Oper) (i : Nat) (listed : Array Bool) (fuel : Nat) (a : Act) (w : World), (∀ j, l[j]? = ops[i + j]?) → i + l.length = ops.size → k ≤ i → listed.size = ops.size →
    (∀ j, j < i → listed.getD j false = true) → (∀ j, i ≤ j → j < ops.size → listed.getD j true = false) → Closed ops listed → l.length ≤ fuel → wpList P ops Q l a w → wpAny P .any ops Q fuel listed a w
  | [], i, listed, fuel, a, w, hl, hsz, hk, hls, h1, h2, hc, hf, h => by
    have hr : Region.ready .any ops listed = [] := by
      refine List.eq_nil_iff_forall_not_mem.2 fun m hm => ?_
      obtain ⟨hu, o, ho, _⟩ := mem_ready.1 hm
      have hlt : m < ops.size := (Array.getElem?_eq_some_iff.1 ho).1
      have := h1 m (by simp at hsz; omega)
      rw [getD_tf (by omega) false true, hu] at this
      simp at this
    cases fuel with
    | zero => exact ⟨hr, h⟩
    | succ f => exact ⟨fun _ => h, fun m hm => by rw [hr] at hm; cases hm⟩
  | o :: l, i, listed, fuel, a, w, hl, hsz, hk, hls, h1, h2, hc, hf, h => by
    have h0 : ops[i]? = some o := by simpa using (hl 0).symm
    have hlt : i < ops.size := (Array.getElem?_eq_some_iff.1 h0).1
    have hl' : ∀ j, l[j]? = ops[i + 1 + j]? := fun j => by have := hl (j + 1); simpa [Nat.add_assoc, Nat.add_comm 1 j] using this
    have hui := h2 i (Nat.le_refl _) hlt
    have hir : i ∈ Region.ready .any ops listed := mem_ready.2 ⟨hui, o, h0, fun e he hb => h1 _ ((Region.down_spec hC.down h0).1 e he hb)⟩
    have hnext : ∀ (a' : Act) (w' : World), wpList P ops Q l a' w' → wpAny P .any ops Q (fuel - 1) (listed.setIfInBounds i true) a' w' := fun a' w' h' =>
      wpAny_chain hC l (i + 1) _ _ a' w' hl' (by simp at hsz; omega) (by omega) (by simp [hls]) (fun j hj => by
        by_cases hji : i = j
        · subst hji
          simp [Array.getD_eq_getD_getElem?, hls, hlt]
        · rw [getD_set_ne false hji]; exact h1 j (by omega)) (fun j hj hj2 => by rw [getD_set_ne true (by omega)]; exact h2 j (by omega) hj2) (hc.set hir) (by simp at hf; omega) h'
    obtain ⟨f, rfl⟩ : ∃ f, fuel = f + 1 := ⟨fuel - 1, by simp at hf; omega⟩
    refine ⟨fun hr => (by rw [hr] at hir; cases hir), fun m hm => ?_⟩
    obtain ⟨hu, o', ho', _⟩ := mem_ready.1 hm
    have hm2 : m = i := by
      have hmlt : m < ops.size := (Array.getElem?_eq_some_iff.1 ho').1
      rcases Nat.lt_trichotomy m i with hh | hh | hh
      · have := h1 m hh
        rw [getD_tf (by omega) false true, hu] at this
        simp at this
      · exact hh
      · have := hC.before hc hm (by omega) (m - i) i (by omega) (by omega)
        rw [getD_tf (by omega) false true, hui] at this
        simp at this
    subst hm2
    unfold wpOp
    simp only [h0]
    unfold wpList at h
    by_cases hw : Region.wanted o (yielded ops a.tmps) = true
    · rw [if_pos hw] at h ⊢
      exact h.imp (Oper.wp_mono hnext) id
    · rw [if_neg hw] at h ⊢
      exact hnext _ _ h
theorem wanted_same {ops0 : Array Oper} {o : Oper} {tmps : Array Value} (h : ∀ p, o.guard = some p → ops0[p.1]? = ops[p.1]?) : Region.wanted o (yielded ops0 tmps) = Region.wanted o (yielded ops tmps) := by
  unfold Region.wanted
  cases hg : o.guard with
  | none => rfl
  | some p =>
    obtain ⟨j, want⟩ := p
    have := h (j, want) hg
    dsimp only at this ⊢
    unfold yielded
    rw [this]
theorem wpAny_split (hC : Chain ops k) {ops0 : Array Oper} (h0 : ops0.size = k) (hpre : ∀ j, j < k → ops0[j]? = ops[j]?) (hN : ∀ a w, Q0 .normal a w → wpList P ops Q (ops.toList.drop k) a w) (hE : ∀ e a w, e ≠ .normal → Q0 e a w → Q e a w) :
    ∀ (fuel0 : Nat) (listed0 listed : Array Bool) (fuel : Nat) (a : Act) (w : World), listed0.size = k → listed.size = ops.size → (∀ j, j < k → ∀ d, listed0.getD j d = listed.getD j d) → (∀ j, k ≤ j → j < ops.size → listed.getD j true = false) →
      Closed ops listed → fuel0 + (ops.size - k) ≤ fuel → wpAny P .any ops0 Q0 fuel0 listed0 a w → wpAny P .any ops Q fuel listed a w := by
  have hle := hC.le
  have hd0 : Region.downB ops0 = true := by
    unfold Region.downB
    refine List.all_eq_true.2 fun i hi => ?_
    have hik := List.mem_range.1 hi
    have h1 := List.all_eq_true.1 hC.down i (List.mem_range.2 (by omega))
    rw [hpre i (by omega)]
    exact h1
  have all : ∀ (fuel0 : Nat) (listed0 listed : Array Bool) (fuel : Nat) (a : Act) (w : World), listed0.size = k → listed.size = ops.size → (∀ j, j < k → ∀ d, listed0.getD j d = listed.getD j d) → (∀ j, k ≤ j → j < ops.size → listed.getD j true = false) →
      Closed ops listed → fuel0 + (ops.size - k) ≤ fuel → wpAny P .any ops0 Q0 fuel0 listed0 a w → (∀ j, j < k → listed.getD j false = true) → wpAny P .any ops Q fuel listed a w := by
    intro fuel0 listed0 listed fuel a w hs0 hs hag hun hc hf H hall
    have hr0 : Region.ready .any ops0 listed0 = [] := by
      refine List.eq_nil_iff_forall_not_mem.2 fun m hm => ?_
      obtain ⟨hu, o, ho, _⟩ := mem_ready.1 hm
      have hlt : m < ops0.size := (Array.getElem?_eq_some_iff.1 ho).1
      have h1 := hall m (by omega)
      rw [← hag m (by omega), getD_tf (by omega) false true, hu] at h1
      simp at h1
    have hQ : Q0 .normal a w := by
      cases fuel0 with
      | zero => exact H.2
      | succ f => exact H.1 hr0
    exact wpAny_chain hC (ops.toList.drop k) k listed fuel a w (fun j => by rw [List.getElem?_drop, Array.getElem?_toList]) (by rw [List.length_drop, Array.length_toList]; omega) (Nat.le_refl _) hs hall hun hc (by rw [List.length_drop, Array.length_toList]; omega) (hN a w hQ)
  intro fuel0
  induction fuel0 with
  | zero =>
    intro listed0 listed fuel a w hs0 hs hag hun hc hf H
    refine all 0 listed0 listed fuel a w hs0 hs hag hun hc hf H fun j hj => ?_
    cases hh : listed.getD j false with
    | true => rfl
    | false =>
      rw [← hag j hj, getD_tf (by omega) false true] at hh
      obtain ⟨m, _, hm⟩ := ready_least hd0 (by omega) j (by omega) hh
      rw [H.1] at hm; cases hm
  | succ fuel0 ih =>
    intro listed0 listed fuel a w hs0 hs hag hun hc hf H
    by_cases hall : ∀ j, j < k → listed.getD j false = true
    · exact all _ listed0 listed fuel a w hs0 hs hag hun hc hf H hall
    · simp only [Classical.not_forall] at hall
      obtain ⟨j, hj, hjn⟩ := hall
      have hju : listed.getD j true = false := by rw [getD_tf (by omega) true false]; simpa using hjn
      obtain ⟨f, rfl⟩ : ∃ f, fuel = f + 1 := ⟨fuel - 1, by omega⟩
      refine ⟨fun hr => ?_, fun m hm => ?_⟩
      · obtain ⟨m, _, hm⟩ := ready_least hC.down hs j (by omega) hju
        rw [hr] at hm; cases hm
      · obtain ⟨hu, o, ho, hdep⟩ := mem_ready.1 hm
        have hmlt : m < ops.size := (Array.getElem?_eq_some_iff.1 ho).1
        have hmk : m < k := by
          refine Nat.lt_of_not_le fun hkm => hjn ?_
          exact hC.before hc hm hkm (m - j) j (by omega) (by omega)
        have ho0 : ops0[m]? = some o := by rw [hpre m hmk]; exact ho
        have hm0 : m ∈ Region.ready .any ops0 listed0 := mem_ready.2 ⟨by rw [hag m hmk]; exact hu, o, ho0, fun e he hb => by
          have := (Region.down_spec hC.down ho).1 e he hb
          rw [hag _ (by omega)]; exact hdep e he hb⟩
        have h1 := H.2 m hm0
        unfold wpOp at h1 ⊢
        simp only [ho, ho0] at h1 ⊢
        rw [wanted_same (ops := ops) fun p hp => hpre _ (by have := (Region.down_spec hC.down ho).2 p hp; omega)] at h1
        have hnext : ∀ (a' : Act) (w' : World), wpAny P .any ops0 Q0 fuel0 (listed0.setIfInBounds m true) a' w' → wpAny P .any ops Q f (listed.setIfInBounds m true) a' w' := fun a' w' h' =>
          ih _ _ f a' w' (by simp [hs0]) (by simp [hs]) (fun j hj d => by
            by_cases hmj : m = j
            · subst hmj
              simp [Array.getD_eq_getD_getElem?, hs0, hs, hmk, hmlt]
            · rw [getD_set_ne d hmj, getD_set_ne d hmj]; exact hag j hj d) (fun j hj hj2 => by rw [getD_set_ne true (by omega)]; exact hun j hj hj2) (hc.set hm) (by omega) h'
        by_cases hw : Region.wanted o (yielded ops a.tmps) = true
        · rw [if_pos hw] at h1 ⊢
          exact h1.imp (wp_to2 hnext hE) fun h => ⟨h.1, h.2.imp fun _ => Exists.imp fun _ => hE _ _ _ (by simp)⟩
        · rw [if_neg hw] at h1 ⊢
          exact hnext _ _ h1
end
/-- A region that draws its order, whose operations from k on wait for all before them: in the order of the text. -/
theorem AWP.drawTail {cx : Cx} {id : Nat} {l : List Oper} {e : Env} {σ : Obs} {Q : Post} (k : Nat) (hm : cx.P.follows .mixedOrders = true) (hB : Region.lexB .any (l.take k).toArray = true) (hC : Region.chainB l.toArray k = true)
    (h : DRun cx (l.take k).toArray σ (l.take k) e (fun e => AOps cx l.toArray (l.drop k) e σ Q)) : AWP cx (.region id l.toArray true) e σ Q := by
  intro a w ⟨F, ρ, hr⟩
  simp only [Region.lexB, Bool.and_eq_true] at hB
  have hch := Chain.of hC
  have hkl : k ≤ l.length := by simpa using hch.le
  have h1 := anyD_lex (l.take k) 0 (Array.replicate (l.take k).toArray.size false) e (by simp) (by simpa using hB.2) h
  have h2 := wpAny_of_D (cx := cx) (ops := (l.take k).toArray) (Q := fun ex e σ => match ex with | .normal => AOps cx l.toArray (l.drop k) e σ Q | _ => False) (by simpa using DRun.dsts _ e h) _ _ e a _ ⟨F, ρ, hr.drew⟩ h1
  refine wp_region_any hm (wpAny_split hch (ops0 := (l.take k).toArray) (by simp; omega) (fun j hj => by simp [hj]) ?_ ?_ (l.take k).length _ _ _ _ _ (by simp; omega) (by simp) ?_ ?_ ?_ (by simp; omega) h2)
  · rintro a w ⟨e, σ, h3, h4⟩
    have := h3 a w h4
    simpa using this
  · rintro ex a w hne ⟨e, σ, h3, _⟩
    cases ex <;> first | exact absurd rfl hne | exact h3.elim
  · intro j hj d
    have h5 : j < l.length := by omega
    have h6 : j < min k l.length := by omega
    simp [Array.getD_eq_getD_getElem?, h5, h6]
  · intro j hj hj2
    have : j < l.length := by simpa using hj2
    simp [Array.getD_eq_getD_getElem?, this]
  · intro i o ho hi
    have : i < l.length := by simpa using (Array.getElem?_eq_some_iff.1 ho).1
    simp [Array.getD_eq_getD_getElem?, this] at hi
end Go.Proofs.YtnapkooefpkicaaGreatDoor


namespace Go.Proofs.YtnapkooefpkicaaGreatDoor
open Go.RowKit Go.MapKept
set_option linter.unusedVariables false

/-- m[key] = d: what the map holds then. -/
def MPut (M : List (Value × D)) (key : Value) (d : D) (M' : List (Value × D)) : Prop :=
  (∃ i d0, M[i]? = some (key, d0) ∧ (∀ (j : Nat) (p : Value × D), M[j]? = some p → p.1 = key → j = i) ∧ M' = M.set i (key, d)) ∨ ((∀ p ∈ M, p.1 ≠ key) ∧ M' = M ++ [(key, d)])
/-- m[key]; z: the zero value. -/
def MGet (M : List (Value × D)) (key : Value) (z d : D) : Prop := (∃ i, M[i]? = some (key, d) ∧ ∀ (j : Nat) (p : Value × D), M[j]? = some p → p.1 = key → j = i) ∨ ((∀ p ∈ M, p.1 ≠ key) ∧ d = z)

theorem entries_get {F : Nat → Prop} {w : World} {M : List (Value × D)} {es : Array MapEntry} (hl : es.size = M.length) (h : ∀ i (h : i < es.size) (h' : i < M.length), es[i].key = M[i].1 ∧ Rep F w es[i].val M[i].2) {j : Nat} {en : MapEntry} (hj : es.toList[j]? = some en) :
    ∃ p, M[j]? = some p ∧ en.key = p.1 ∧ Rep F w en.val p.2 := by
  rw [Array.getElem?_toList] at hj
  obtain ⟨h1, h2⟩ := Array.getElem?_eq_some_iff.1 hj
  refine ⟨M[j]'(by omega), List.getElem?_eq_getElem _, ?_, ?_⟩
  · rw [← h2]; exact (h j h1 (by omega)).1
  · rw [← h2]; exact (h j h1 (by omega)).2
theorem entries_keys {F : Nat → Prop} {w : World} {M : List (Value × D)} {es : Array MapEntry} {kd : TypeDesc} (hl : es.size = M.length) (h : ∀ i (h : i < es.size) (h' : i < M.length), es[i].key = M[i].1 ∧ Rep F w es[i].val M[i].2) (hg : ∀ p ∈ M, IsKey kd p.1) : ∀ x ∈ es.toList, IsKey kd x.key := fun x hx => by
  obtain ⟨j, hj⟩ := List.mem_iff_getElem?.1 hx
  obtain ⟨p, h1, h2, _⟩ := entries_get hl h hj
  rw [h2]; exact hg p (List.mem_of_getElem? h1)
theorem setObj_turn {w : World} {b : Nat} {o : Obj} : Turn w { w with heap := w.heap.setIfInBounds b o } (some b) :=
  ⟨rfl, rfl, rfl, by simp, fun k _ hne => by
    have : b ≠ k := fun h => hne (by rw [h])
    simp [this]⟩
section
variable {cx : Cx} {ops : Array Oper} {o : Oper} {rest : List Oper} {e : Env} {σ σ' : Obs} {Q : Post}
theorem AOps.eff (hg : o.guard = none) (ht : o.dst = none) (h : EOp cx ops o e σ σ') (k : AOps cx ops rest e σ' Q) : AOps cx ops (o :: rest) e σ Q := by
  intro a w ⟨F, ρ, hr⟩
  refine wpList_plain hg fun K hK => ?_
  refine wp_to ?_ (fun _ _ _ => False.elim) (h F ρ a w e hr (fun t _ => hr.env t))
  rintro a' w' ⟨rfl, h3⟩
  obtain ⟨F', ρ', h4⟩ := h3 e hr
  exact hK _ _ (k _ _ ⟨F', ρ', h4⟩)
theorem EOp.mapUpdate {t k et : TypeId} {id : Nat} {m x v : Operand} {key : Value} {d : D} {M M' : List (Value × D)} {kd : TypeDesc} (hdst : o.dst = none) (ho : o.op = .mapUpdate t m x v) (ht : cx.P.underlying t = some (.map k et)) (hk : cx.P.underlying k = some kd) (hm : e.ev m = .own id) (hmem : (id, Ob.map M) ∈ σ)
    (hx : e.ev x = .d (.v key)) (hv : e.ev v = .d d) (hg : IsKey kd key) (hgs : ∀ p ∈ M, IsKey kd p.1) (hp : MPut M key d M') : EOp cx ops o e σ (Obs.upd id (.map M') σ) := by
  intro F ρ a w e0 hr ha
  have hop : ∀ y ∈ o.op.operands.toList, RepS F ρ w (a.eval y) (e.ev y) := fun y hy => ev_rep fun t ht => ha t (looks_op (by rw [← ht]; exact hy))
  have r1 := hop m (by rw [ho]; simp [Op.operands])
  have r2 := hop x (by rw [ho]; simp [Op.operands])
  have r3 := hop v (by rw [ho]; simp [Op.operands])
  rw [hm] at r1
  rw [hx] at r2
  rw [hv] at r3
  obtain ⟨b, es, clock, hρ, hB, hF, hh, hMC, hall⟩ := hr.obs.ok _ hmem
  have hl := hMC.size
  dsimp only at hρ
  have hmv : a.eval m = .map (some b) := by rw [← hρ]; generalize a.eval m = u at r1; cases r1; rfl
  have hxv := repS_v r2
  have r3' := repS_d r3
  have hks := entries_keys hl hall hgs
  have hblk : blk (ρ id) = some b := by rw [hρ]; rfl
  unfold Oper.wp execOp
  simp only [ho, hmv, hxv]
  rcases MapKept.findNow_spec hg es.toList 0 hks with ⟨h1, h2⟩ | ⟨j, en, h1, h2, h3⟩
  · have hrun : (Instr.mapUpdate t (.map (some b)) key (a.eval v)).run cx.P w = .ok () { w with heap := w.heap.setIfInBounds b (.map (es.push { key := key, val := a.eval v, born := clock }) (clock + 1)) } := by
      simp [Instr.mapUpdate, run_underlying ht, MapKept.run_getObj_map hh, MapKept.run_checkKey hk hg, MapKept.run_findKey hk h1, MapKept.run_setObj_map _ hh, Result.andThen]
    rw [Sem.run_bind, hrun]
    refine ⟨by rw [hdst]; rfl, fun e2 hr2 => ⟨F, ρ, hr2.writeOb hblk hmem hB hF setObj_turn ?_⟩⟩
    have hM' : M' = M ++ [(key, d)] := by
      rcases hp with ⟨i, d0, hi, _, _⟩ | ⟨_, hM'⟩
      · exfalso
        have hil : i < M.length := (List.getElem?_eq_some_iff.1 hi).1
        have h4 := (hall i (by omega) hil).1
        have h5 : M[i] = (key, d0) := (List.getElem?_eq_some_iff.1 hi).2
        rw [h5] at h4
        exact h2 es[i] (by simp) h4
      · exact hM'
    have hkeep : ∀ {u : Value} {y : D}, Rep F w u y → Rep F { w with heap := w.heap.setIfInBounds b (.map (es.push { key := key, val := a.eval v, born := clock }) (clock + 1)) } u y := fun h => h.mono (fun _ h => h) fun c hc => by
      have : b ≠ c := fun h => hF (by rw [h]; exact hc)
      simp [this]
    subst hM'
    refine ⟨b, _, _, hρ, hB, hF, (MapKept.heap_set hh).1, by simpa using hMC.push key (a.eval v), fun i hi hi' => ?_⟩
    by_cases hc : i < es.size
    · have hc' : i < M.length := by omega
      rw [Array.getElem_push_lt hc, List.getElem_append_left hc']
      exact ⟨(hall i hc hc').1, hkeep (hall i hc hc').2⟩
    · have : i = es.size := by simp at hi; omega
      subst this
      rw [Array.getElem_push_eq, List.getElem_append_right (by omega)]
      simp only [hl, Nat.sub_self, List.getElem_cons_zero]
      exact ⟨trivial, hkeep r3'⟩
  · have hjs : j < es.size := by simpa using (List.getElem?_eq_some_iff.1 h2).1
    have hej : es[j] = en := by have := (List.getElem?_eq_some_iff.1 h2).2; simpa using this
    have hrun : (Instr.mapUpdate t (.map (some b)) key (a.eval v)).run cx.P w = .ok () { w with heap := w.heap.setIfInBounds b (.map (es.modify j fun e => { e with key := key, val := a.eval v }) clock) } := by
      have h0 : ((es[j]?).map (·.key)).getD key = key := by rw [Array.getElem?_eq_getElem hjs, hej]; simp [h3]
      simp only [Nat.zero_add] at h1
      simp only [Instr.mapUpdate, run_underlying ht, Sem.run_bind, Result.andThen_ok, MapKept.run_getObj_map hh, MapKept.run_checkKey hk hg, MapKept.run_findKey hk h1, h0, MapKept.run_keyThatStays hg, MapKept.run_setObj_map _ hh]
    rw [Sem.run_bind, hrun]
    refine ⟨by rw [hdst]; rfl, fun e2 hr2 => ⟨F, ρ, hr2.writeOb hblk hmem hB hF setObj_turn ?_⟩⟩
    have hjl : j < M.length := by omega
    have hkj : M[j].1 = key := by rw [← (hall j hjs hjl).1, hej]; exact h3
    have hM' : M' = M.set j (key, d) := by
      rcases hp with ⟨i, d0, hi, hu, hM'⟩ | ⟨hno, _⟩
      · have := hu j M[j] (List.getElem?_eq_getElem hjl) hkj
        rw [this]; exact hM'
      · exact absurd hkj (hno _ (List.getElem_mem hjl))
    have hkeep : ∀ {u : Value} {y : D}, Rep F w u y → Rep F { w with heap := w.heap.setIfInBounds b (.map (es.modify j fun e => { e with key := key, val := a.eval v }) clock) } u y := fun h => h.mono (fun _ h => h) fun c hc => by
      have : b ≠ c := fun h => hF (by rw [h]; exact hc)
      simp [this]
    subst hM'
    refine ⟨b, _, _, hρ, hB, hF, (MapKept.heap_set hh).1, by rw [List.length_set]; exact hMC.modify _ _ (fun _ => rfl), fun i hi hi' => ?_⟩
    have hc : i < es.size := by simpa using hi
    have hc' : i < M.length := by omega
    rw [Array.getElem_modify, List.getElem_set]
    by_cases hij : j = i
    · rw [if_pos hij, if_pos hij]
      exact ⟨rfl, hkeep r3'⟩
    · rw [if_neg hij, if_neg hij]
      exact ⟨(hall i hc hc').1, hkeep (hall i hc hc').2⟩
/-- make(map[K]V) -/
theorem AOps.makeMap {t dst : Nat} (id : Nat) (hg : o.guard = none) (ht : o.dst = some dst) (hdn : Nat.blt dst cx.N = true) (ho : o.op = .makeMap t none) (hid : Obs.fresh id σ = true)
    (k : AOps cx ops rest ((e.kill id).put (some dst) (.own id)) ((id, .map []) :: Obs.kill id σ) Q) (hfx : cx.free id = true := by rfl) : AOps cx ops (o :: rest) e σ Q := by
  intro a w ⟨F, ρ, h⟩
  refine wpList_plain hg fun K hK => ?_
  unfold Oper.wp execOp
  simp only [ho, Option.map_none, Sem.run_bind, run_makeMap, Result.andThen_ok, Sem.run_pure]
  refine hK _ _ (k _ _ ⟨F, fun j => if j = id then .map (some w.heap.size) else ρ j, ?_⟩)
  have hE : Ext F w F (w.alloc (.map #[] 0)) := Ext.of_below h.lt ((Below.refl _ _).alloc (Nat.le_refl _) _)
  have h2 := h.turn (ρ' := fun j => if j = id then .map (some w.heap.size) else ρ j) (id := id) (ob := .map []) (row := none) (w' := w.alloc (.map #[] 0)) (F' := F) (fun j hj => by simp [hj])
    ⟨hE.below.os, hE.below.tape, hE.below.output, hE.below.size, fun k hk _ => hE.below.block k hk⟩ hfx (fun g hg => by simp at hg) (fun b hb => hb) (fun b hb => .inl hb) hE.lt
    ⟨w.heap.size, #[], 0, by simp, h.hB, fun hf => by have := h.lt _ hf; omega, (MapKept.heap_alloc w _).1, MapC.nil 0, fun i hi => by simp at hi⟩
    (fun g hg => by simp [blk] at hg; exact .inr (by omega)) ((id, .map []) :: Obs.kill id σ) (fun p hp => by
      cases hp with
      | head => exact .inl rfl
      | tail _ hp => obtain ⟨q, hq, rfl⟩ := Obs.mem_kill hp; exact .inr ⟨q, hq, Obs.fresh_spec hid q hq, rfl⟩)
  have h3 := h2.put (o := ⟨some dst, .ready 0, 0, "", #[], none⟩) (v := .map (some w.heap.size)) (s := .own id) (Ext.refl h2.lt) (by
    have := RepS.own (F := F) (ρ := fun j => if j = id then Value.map (some w.heap.size) else ρ j) (w := w.alloc (.map #[] 0)) id
    simpa using this) (by simpa [DstOk, Nat.blt_eq] using hdn)
  rw [ht]
  exact h3
end
section
variable {P : Program} {B : Nat} {ops : Array Oper} {o : Oper} {e : Env} {σ : Obs}
theorem AOp.lenMap {x : Operand} {t k et : TypeId} {id : Nat} {M : List (Value × D)} (ho : o.op = .call { callee := .builtin .len, args := #[x], argTypes := #[t] }) (ht : P.underlying t = some (.map k et)) (hx : e.ev x = .own id) (hm : (id, Ob.map M) ∈ σ) :
    AOp P B ops o e σ (.d (.v (.int .i64 (M.length : Int)))) := .value fun F ρ w a hF hr hσ => by
  have h1 := hr x (by rw [ho]; simp [Op.operands, Call.operands])
  rw [hx] at h1
  obtain ⟨b, es, clock, hρ, hB, hFb, hh, ⟨hl, _, _⟩, _⟩ := hσ.ok _ hm
  dsimp only at hρ
  have hv : a.eval x = .map (some b) := by rw [← hρ]; generalize a.eval x = u at h1; cases h1; rfl
  refine ⟨.int .i64 (M.length : Int), F, w, ?_, .d (.v _), Ext.refl hF⟩
  unfold execOp
  simp only [ho, resolve, invoke, builtin, Sem.run_bind, Sem.run_pure, Result.andThen_ok, List.map_toArray, List.map_cons, List.map_nil, hv]
  simp [Builtin.len_, run_underlying ht, MapKept.run_getObj_map hh, Result.andThen, hl, goInt]
theorem AOp.lookup {x ix : Operand} {t k et : TypeId} {id : Nat} {M : List (Value × D)} {key z : Value} {d : D} {kd : TypeDesc} (ho : o.op = .lookup t x ix false) (ht : P.underlying t = some (.map k et)) (hk : P.underlying k = some kd) (hz : (P.info? et).bind (·.zero) = some z) (hx : e.ev x = .own id) (hm : (id, Ob.map M) ∈ σ)
    (hi : e.ev ix = .d (.v key)) (hg : IsKey kd key) (hgs : ∀ p ∈ M, IsKey kd p.1) (hd : MGet M key (.v z) d) : AOp P B ops o e σ (.d d) := .value fun F ρ w a hF hr hσ => by
  have h1 := hr x (by rw [ho]; simp [Op.operands])
  have h2 := hr ix (by rw [ho]; simp [Op.operands])
  rw [hx] at h1
  rw [hi] at h2
  obtain ⟨b, es, clock, hρ, hB, hFb, hh, ⟨hl, _, _⟩, hall⟩ := hσ.ok _ hm
  dsimp only at hρ
  have hv : a.eval x = .map (some b) := by rw [← hρ]; generalize a.eval x = u at h1; cases h1; rfl
  have hks := entries_keys hl hall hgs
  obtain ⟨ti, hti, hzz⟩ := Option.bind_eq_some_iff.1 hz
  have hprog : (program : Sem Program).run P w = .ok P w := rfl
  rcases MapKept.findNow_spec hg es.toList 0 hks with ⟨h3, h4⟩ | ⟨j, en, h3, h4, h5⟩
  · refine ⟨z, F, w, ?_, ?_, Ext.refl hF⟩
    · unfold execOp
      simp only [ho, hv, repS_v h2, Sem.run_bind]
      simp [Instr.lookup, run_underlying ht, MapKept.run_getObj_map hh, MapKept.run_checkKey hk hg, MapKept.run_findKey hk h3, zeroValue, typeInfo, hti, hzz, Result.andThen]
    · rcases hd with ⟨i, hi2, _⟩ | ⟨_, rfl⟩
      · exfalso
        have hil : i < M.length := (List.getElem?_eq_some_iff.1 hi2).1
        have h6 := (hall i (by omega) hil).1
        rw [(List.getElem?_eq_some_iff.1 hi2).2] at h6
        exact h4 es[i] (by simp) h6
      · exact .d (.v _)
  · have hjs : j < es.size := by simpa using (List.getElem?_eq_some_iff.1 h4).1
    have hej : es[j] = en := by have := (List.getElem?_eq_some_iff.1 h4).2; simpa using this
    have hjl : j < M.length := by omega
    refine ⟨en.val, F, w, ?_, ?_, Ext.refl hF⟩
    · unfold execOp
      simp only [ho, hv, repS_v h2, Sem.run_bind]
      simp only [Nat.zero_add] at h3
      simp [Instr.lookup, run_underlying ht, MapKept.run_getObj_map hh, MapKept.run_checkKey hk hg, MapKept.run_findKey hk h3, Result.andThen]
    · have hkj : M[j].1 = key := by rw [← (hall j hjs hjl).1, hej]; exact h5
      rcases hd with ⟨i, hi2, hu⟩ | ⟨hno, _⟩
      · have := hu j M[j] (List.getElem?_eq_getElem hjl) hkj
        subst this
        have h6 := (hall j hjs hjl).2
        rw [(List.getElem?_eq_some_iff.1 hi2).2, hej] at h6
        exact .d h6
      · exact absurd hkj (hno _ (List.getElem_mem hjl))
/-! Closures. -/
def CapsOk (e : Env) : List Operand → List Cap → Prop
  | [], [] => True
  | x :: xs, .p id off :: cs => e.ev x = .ptr id off ∧ CapsOk e xs cs
  | x :: xs, .d y :: cs => e.ev x = .d y ∧ CapsOk e xs cs
  | _, _ => False
theorem CapsOk.nil : CapsOk e [] [] := trivial
theorem CapsOk.p {x : Operand} {xs : List Operand} {id off : Nat} {cs : List Cap} (h : e.ev x = .ptr id off) (k : CapsOk e xs cs) : CapsOk e (x :: xs) (.p id off :: cs) := ⟨h, k⟩
theorem CapsOk.d {x : Operand} {xs : List Operand} {y : D} {cs : List Cap} (h : e.ev x = .d y) (k : CapsOk e xs cs) : CapsOk e (x :: xs) (.d y :: cs) := ⟨h, k⟩
theorem CapsOk.rep {F : Nat → Prop} {ρ : Nat → Value} {w : World} {a : Act} : ∀ {xs : List Operand} {cs : List Cap}, CapsOk e xs cs → (∀ x ∈ xs, RepS F ρ w (a.eval x) (e.ev x)) → RepCL F ρ w (xs.map a.eval) cs
  | [], [], _, _ => trivial
  | x :: xs, .p id off :: cs, h, ha => by
    refine ⟨?_, CapsOk.rep h.2 fun y hy => ha y (List.mem_cons_of_mem _ hy)⟩
    have h1 := ha x (by simp)
    rw [h.1] at h1
    generalize a.eval x = v at h1
    cases h1 with
    | ptr _ _ g hg => exact .p id off g hg
  | x :: xs, .d y :: cs, h, ha => by
    refine ⟨?_, CapsOk.rep h.2 fun y hy => ha y (List.mem_cons_of_mem _ hy)⟩
    have h1 := ha x (by simp)
    rw [h.1] at h1
    exact .d (repS_d h1)
  | [], _ :: _, h, _ => h.elim
  | _ :: _, [], h, _ => h.elim
theorem AOp.makeClo {f : FuncId} {cs : List Operand} {caps : List Cap} (ho : o.op = .makeFunc (.func f) #[] cs.toArray) (hc : CapsOk e cs caps) : AOp P B ops o e σ (.clo f caps) := .value fun F ρ w a hF hr hσ => by
  refine ⟨.func (.func f) #[] (cs.map a.eval).toArray, F, w, ?_, .clo f _ caps (hc.rep fun x hx => hr x (by rw [ho]; simp [Op.operands, hx])), Ext.refl hF⟩
  unfold execOp
  simp only [ho]
  simp [Instr.makeFunc]
theorem AOp.moveC {x : Operand} {f : FuncId} {caps : List Cap} (ho : o.op = .move x) (hx : e.ev x = .clo f caps) : AOp P B ops o e σ (.clo f caps) := hx ▸ .move ho
theorem AOp.assignC {x : Operand} {f : FuncId} {caps : List Cap} (ho : o.op = .assign x) (hx : e.ev x = .clo f caps) : AOp P B ops o e σ (.clo f caps) := hx ▸ .assign ho
end
def Cap.toS : Cap → S
  | .p id off => .ptr id off
  | .d y => .d y
theorem RepCL.toS {F : Nat → Prop} {ρ : Nat → Value} {w : World} : ∀ {cs : List Value} {caps : List Cap}, RepCL F ρ w cs caps → RepSL F ρ w cs (caps.map Cap.toS)
  | [], [], _ => ⟨rfl, fun i h => absurd h (by simp)⟩
  | x :: xs, c :: cs, h => by
    have h1 := RepCL.toS h.2
    refine ⟨by simpa using h1.1, fun i h2 h3 => ?_⟩
    cases i with
    | zero =>
      have h4 := h.1
      cases c with
      | p id off => cases h4 with | p _ _ g hg => exact .ptr id off g hg
      | d y => cases h4 with | d h4 => exact .d h4
    | succ i => exact h1.2 i (by simpa using h2) (by simpa using h3)
  | [], _ :: _, h => h.elim
  | _ :: _, [], h => h.elim
theorem RepSL.append {F : Nat → Prop} {ρ : Nat → Value} {w : World} {vs vs' : List Value} {ss ss' : List S} (h : RepSL F ρ w vs ss) (k : RepSL F ρ w vs' ss') : RepSL F ρ w (vs ++ vs') (ss ++ ss') := by
  refine ⟨by simp [h.1, k.1], fun i h1 h2 => ?_⟩
  by_cases hi : i < vs.length
  · rw [List.getElem_append_left hi, List.getElem_append_left (by rw [← h.1]; exact hi)]
    exact h.2 _ _ _
  · rw [List.getElem_append_right (by omega), List.getElem_append_right (by rw [← h.1]; omega)]
    simp only [← h.1]
    exact k.2 _ _ _
section
variable {cx : Cx} {ops : Array Oper} {o : Oper} {rest : List Oper} {e : Env} {σ : Obs} {Q : Post}
/-- A call of such a closure. -/
theorem AOps.callXC {f : FuncId} {x : Operand} {caps : List Cap} {xs : List Operand} {ts : Array TypeId} {ss : List S} {σc σ' : Obs} {chg : Nat → Bool} {d : D} (hg : o.guard = none) (hd : DstOk cx.N o)
    (ho : o.op = .call { callee := .value x, args := xs.toArray, argTypes := ts }) (hx : e.ev x = .clo f caps) (ha : ArgsS e xs ss) (h : XCall cx.P f (ss ++ caps.map Cap.toS) σc σ' chg d) (hin : AllIn σ σc)
    (h1 : Obs.allIds (fun i => !(chg i)) (Obs.dels σc σ) = true) (h2 : Obs.allIds (fun i => Obs.allIds (fun j => !(Nat.beq i j)) (Obs.dels σc σ)) σ' = true) (h3 : ∀ i, chg i = true → cx.fixp i = false)
    (k : AOps cx ops rest ((e.killP chg).put o.dst (.d d)) (Obs.join σ' (Obs.killP chg (Obs.dels σc σ))) Q) : AOps cx ops (o :: rest) e σ Q := by
  intro a w ⟨F, ρ, hr⟩
  have hc := ev_rep (e := e) (x := x) (a := a) (fun t _ => hr.env t)
  rw [hx] at hc
  generalize hv : a.eval x = v at hc
  cases hc with
  | clo _ cs _ hcs =>
    have h4 := h.2 F ρ cx.B w _ hr.lt hr.hB (hr.obs.sub hin.mem) ((ArgsS.rep hr.env ha).append hcs.toS)
    have h5 := h.1 (xs.map a.eval ++ cs).toArray w
    have hx : (execOp a.eval o).run cx.P w = .ok (.enter f (xs.map a.eval ++ cs).toArray) w := by
      unfold execOp
      simp only [ho, resolve, Deferred.ofValue, hv, invoke, Sem.run_bind, Sem.run_pure, Result.andThen_ok]
      simpa using h5
    refine wpList_plain hg fun K hK => ?_
    unfold Oper.wp
    rw [hx]
    refine h4.mono fun _ w' ⟨v, F', ρ', he, hv, hE⟩ => ?_
    subst he
    exact hK _ _ (k _ _ ⟨F', ρ', (hr.after hin.mem hE h1 h2 h3).put (Ext.refl hE.lt) (.d hv) hd⟩)
end
/-! Cells. -/
theorem mem_ob_eq {id : Nat} {o o' : Ob} {σ : Obs} (h : (id, o) ∈ σ) (hd : o = o') : (id, o') ∈ σ := hd ▸ h
theorem R0.recell {cx : Cx} {F : Nat → Prop} {ρ : Nat → Value} {e : Env} {σ : Obs} {a : Act} {w : World} (hr : R0 cx F ρ e σ a w) {id off : Nat} {ss : List S} {s s' : S} (hm : (id, Ob.cells ss) ∈ σ) (hs : ss[off]? = some s) (h : ∀ x, RepS F ρ w x s → RepS F ρ w x s') :
    R0 cx F ρ e (Obs.upd id (.cells (ss.set off s')) σ) a w := by
  obtain ⟨g, ty, cs, h2, h3, h4, h5, h6, h7⟩ := hr.obs.ok _ hm
  dsimp only at h2
  refine hr.writeOb (g := g) (by rw [h2]; rfl) hm h3 h4 ⟨rfl, rfl, rfl, Nat.le_refl _, fun _ _ _ => rfl⟩ ⟨g, ty, cs, h2, h3, h4, h5, by simp [h6], fun j hj hj' => ⟨(h7 j hj (by simpa using hj')).1, ?_⟩⟩
  rw [List.getElem_set]
  by_cases hj2 : off = j
  · rw [if_pos hj2]
    subst hj2
    have h8 := (h7 off hj (by simpa using hj')).2
    rw [(List.getElem?_eq_some_iff.1 hs).2] at h8
    exact h _ h8
  · rw [if_neg hj2]
    exact (h7 j hj (by simpa using hj')).2
theorem R0.setSlot' {cx : Cx} {F : Nat → Prop} {ρ : Nat → Value} {e : Env} {σ : Obs} {a : Act} {w : World} {t : Nat} {s : S} (h : R0 cx F ρ (e.put (some t) s) σ a w) : R0 cx F ρ (e.put (some t) (.d .any)) σ a w := by
  have h1 := h.setSlot (t := t) (s := .d .any) (.d (.any _))
  have : ((e.put (some t) s).put (some t) (.d .any)) = e.put (some t) (.d .any) := by
    funext u
    by_cases hu : u = t
    · subst hu; rw [Env.put_same, Env.put_same]
    · rw [Env.put_other _ _ _ _ hu, Env.put_other _ _ _ _ hu, Env.put_other _ _ _ _ hu]
  rwa [this] at h1
/-- A nil slice in an own cell, taken for an own row of nothing. -/
theorem R0.adoptCell {cx : Cx} {F : Nat → Prop} {ρ : Nat → Value} {e : Env} {σ : Obs} {a : Act} {w : World} (h : R0 cx F ρ e σ a w) {id off : Nat} {ss : List S} (id2 ee size : Nat) (hm : (id, Ob.cells ss) ∈ σ) (hs : ss[off]? = some (.d (.v (.slice none 0 0)))) (hid : ∀ p ∈ σ, p.1 ≠ id2) (hfx : cx.free id2 = true) :
    ∃ ρ', R0 cx F ρ' (e.kill id2) (Obs.upd id (.cells ((ss.map (S.kill id2)).set off (.own id2))) ((id2, .row ee size []) :: Obs.kill id2 σ)) a w := by
  refine ⟨fun j => if j = id2 then .slice none 0 0 else ρ j, ?_⟩
  have h1 := h.turn (ρ' := fun j => if j = id2 then .slice none 0 0 else ρ j) (id := id2) (ob := .row ee size []) (row := none) (w' := w) (F' := F) (fun j hj => by simp [hj])
    ⟨rfl, rfl, rfl, Nat.le_refl _, fun _ _ _ => rfl⟩ hfx (fun g hg => by simp at hg) (fun b hb => hb) (fun b hb => .inl hb) h.lt
    ⟨fun _ _ => undef, by simp [World.ownsRow], fun i hi => by simp at hi, fun i hi => by simp at hi, fun g hg => by simp [blk] at hg⟩ (fun g hg => by simp [blk] at hg) ((id2, .row ee size []) :: Obs.kill id2 σ) (fun p hp => by
      cases hp with
      | head => exact .inl rfl
      | tail _ hp => obtain ⟨q, hq, rfl⟩ := Obs.mem_kill hp; exact .inr ⟨q, hq, hid q hq, rfl⟩)
  have hmk : ∀ {σ : Obs}, (id, Ob.cells ss) ∈ σ → (id, Ob.cells (ss.map (S.kill id2))) ∈ Obs.kill id2 σ := by
    intro σ hh
    induction σ with
    | nil => cases hh
    | cons p l ih =>
      cases hh with
      | head => exact .head _
      | tail _ hh => exact .tail _ (ih hh)
  refine h1.recell (s := .d (.v (.slice none 0 0))) (.tail _ (hmk hm)) (by rw [List.getElem?_map, hs]; rfl) fun x hx => ?_
  rw [repS_v hx]
  have := RepS.own (F := F) (ρ := fun j => if j = id2 then Value.slice none 0 0 else ρ j) (w := w) id2
  simpa using this
theorem AWP.adoptCell {cx : Cx} {c : Code} {e : Env} {σ : Obs} {Q : Post} (id2 ee size id off : Nat) {ss : List S} (hm : (id, Ob.cells ss) ∈ σ) (hs : ss[off]? = some (.d (.v (.slice none 0 0)))) (hid : Obs.fresh id2 σ = true)
    (k : AWP cx c (e.kill id2) (Obs.upd id (.cells ((ss.map (S.kill id2)).set off (.own id2))) ((id2, .row ee size []) :: Obs.kill id2 σ)) Q) (hfx : cx.free id2 = true := by rfl) : AWP cx c e σ Q := fun a w ⟨_, _, hr⟩ => by
  obtain ⟨ρ', h⟩ := hr.adoptCell id2 ee size hm hs (Obs.fresh_spec hid) hfx
  exact k a w ⟨_, ρ', h⟩
theorem AOps.adoptCell {cx : Cx} {ops : Array Oper} {rest : List Oper} {e : Env} {σ : Obs} {Q : Post} (id2 ee size id off : Nat) {ss : List S} (hm : (id, Ob.cells ss) ∈ σ) (hs : ss[off]? = some (.d (.v (.slice none 0 0)))) (hid : Obs.fresh id2 σ = true)
    (k : AOps cx ops rest (e.kill id2) (Obs.upd id (.cells ((ss.map (S.kill id2)).set off (.own id2))) ((id2, .row ee size []) :: Obs.kill id2 σ)) Q) (hfx : cx.free id2 = true := by rfl) : AOps cx ops rest e σ Q := fun a w ⟨_, _, hr⟩ => by
  obtain ⟨ρ', h⟩ := hr.adoptCell id2 ee size hm hs (Obs.fresh_spec hid) hfx
  exact k a w ⟨_, ρ', h⟩
/-- An own block of cells that is written no more: it is data now. -/
theorem R0.freezeCells {cx : Cx} {F : Nat → Prop} {ρ : Nat → Value} {e : Env} {σ : Obs} {a : Act} {w : World} (h : R0 cx F ρ e σ a w) {t id : Nat} {ds : List D} (ht : e t = .ptr id 0) (hm : (id, Ob.cells (ds.map S.d)) ∈ σ) :
    ∃ F', R0 cx F' ρ (e.put (some t) (.d (.fp ds))) (Obs.del id σ) a w := by
  have hF2 : ∀ b, (F b ∨ blk (ρ id) = some b) → b < w.heap.size := fun b hb => by
    rcases hb with hb | hb
    · exact h.lt b hb
    · exact ((h.obs.ok _ hm).blk_lt hb).2
  have keep : ∀ {x : Value} {s : S}, RepS F ρ w x s → RepS (fun b => F b ∨ blk (ρ id) = some b) ρ w x s := fun hx =>
    RepS.turn (row := none) hx h.lt (fun g hg => by simp at hg) ⟨rfl, rfl, rfl, Nat.le_refl _, fun _ _ _ => rfl⟩ (fun b hb => .inl hb)
  refine ⟨fun b => F b ∨ blk (ρ id) = some b, h.size, h.defers, hF2, fun b hb => .inl (h.base b hb), fun b hb => ?_, h.below, h.hB, fun u => ?_, ?_, h.up, fun p hp => h.kown p (Obs.mem_del hp).1, h.fixed⟩
  · rcases hb with hb | hb
    · exact h.new b hb
    · exact .inr (h.kown _ hm b hb)
  · by_cases hu : u = t
    · subst hu
      rw [Env.put_same]
      have h1 := h.env u
      rw [ht] at h1
      obtain ⟨g, ty, cs, h2, h3, h4, h5, h6, h7⟩ := h.obs.ok _ hm
      dsimp only at h2
      have hv := ptr_at h1 (g := g) (by rw [h2]; rfl)
      rw [hv]
      refine .d (.fp ⟨g, 0, none⟩ ds (fun j => cs.getD j undef) (.inr (by rw [h2]; rfl)) (fun j hj => ?_) (fun j hj => ?_) (fun j hj => ?_))
      · have hjc : j < cs.length := by simp at h6; omega
        rw [addr_add, cell_of_row w g (0 + j) cs.toArray ty (0, 0) h5]
        simp [hjc]
      · have hjc : j < cs.length := by simp at h6; omega
        have := (h7 j hjc (by simpa using hj)).1
        simpa [hjc] using this
      · have hjc : j < cs.length := by simp at h6; omega
        have h8 := (h7 j hjc (by simpa using hj)).2
        rw [List.getElem_map] at h8
        have h9 := repS_d (keep h8)
        simpa [hjc] using h9
    · rw [Env.put_other _ _ _ _ hu]
      exact keep (h.env u)
  · refine ⟨fun p hp => ?_, fun p hp q hq => h.obs.apart p (Obs.mem_del hp).1 q (Obs.mem_del hq).1, fun p hp q hq => h.obs.uniq p (Obs.mem_del hp).1 q (Obs.mem_del hq).1⟩
    obtain ⟨h1, h2⟩ := Obs.mem_del hp
    exact (h.obs.ok p h1).more h.lt (fun b hb => .inl hb) fun g hg hf => by
      rcases hf with hf | hf
      · exact (h.obs.ok p h1).nF hg hf
      · exact h.obs.apart p h1 _ hm h2 g hg hf
theorem AWP.freezeCells {cx : Cx} {c : Code} {e : Env} {σ : Obs} {Q : Post} (t : Nat) {id : Nat} {ds : List D} (ht : e t = .ptr id 0) (hm : (id, Ob.cells (ds.map S.d)) ∈ σ) (k : AWP cx c (e.put (some t) (.d (.fp ds))) (Obs.del id σ) Q) : AWP cx c e σ Q :=
  fun a w ⟨_, ρ, hr⟩ => by
    obtain ⟨F', h⟩ := hr.freezeCells ht hm
    exact k a w ⟨F', ρ, h⟩
theorem AOps.freezeCells {cx : Cx} {ops : Array Oper} {rest : List Oper} {e : Env} {σ : Obs} {Q : Post} (t : Nat) {id : Nat} {ds : List D} (ht : e t = .ptr id 0) (hm : (id, Ob.cells (ds.map S.d)) ∈ σ) (k : AOps cx ops rest (e.put (some t) (.d (.fp ds))) (Obs.del id σ) Q) : AOps cx ops rest e σ Q :=
  fun a w ⟨_, ρ, hr⟩ => by
    obtain ⟨F', h⟩ := hr.freezeCells ht hm
    exact k a w ⟨F', ρ, h⟩
end Go.Proofs.YtnapkooefpkicaaGreatDoor


namespace Go.Proofs.YtnapkooefpkicaaGreatDoor
open Go.RowKit
set_option linter.unusedVariables false

theorem S.kill_kill (id : Nat) (s : S) : (s.kill id).kill id = s.kill id := by
  cases s with
  | d x => rfl
  | own i => cases h : Nat.beq i id <;> simp only [S.kill, h]
  | ptr i off => cases h : Nat.beq i id <;> simp only [S.kill, h]
  | clo f caps => cases h : Cap.anyP (fun i => Nat.beq i id) caps <;> simp only [S.kill, h]
theorem Env.kill_kill (id : Nat) (e : Env) : (e.kill id).kill id = e.kill id := by funext t; exact S.kill_kill id (e t)
theorem Env.kill_put {id : Nat} {e : Env} {dst : Option Nat} {s : S} (he : e.kill id = e) (hs : s.kill id = s) : (e.put dst s).kill id = e.put dst s := by
  cases dst with
  | none => exact he
  | some t =>
    funext u
    unfold Env.kill
    by_cases hu : u = t
    · subst hu; rw [Env.put_same, hs]
    · rw [Env.put_other _ _ _ _ hu]; exact congrFun he u
theorem R0.killEnv {cx : Cx} {F : Nat → Prop} {ρ : Nat → Value} {e : Env} {σ : Obs} {a : Act} {w : World} (h : R0 cx F ρ e σ a w) (id : Nat) : R0 cx F ρ (e.kill id) σ a w :=
  ⟨h.size, h.defers, h.lt, h.base, h.new, h.below, h.hB, fun t => (h.env t).kill id (fun _ _ => rfl), h.obs, h.up, h.kown, h.fixed⟩

/-- The operation that makes the block. -/
def QF (dst id : Nat) (s0 : S) (ob : Ob) (e0 : Env) (σ : Obs) : Post := fun ex e' σ' => match ex with
  | .normal => e' = (e0.kill id).put (some dst) s0 ∧ σ' = (id, ob) :: Obs.kill id σ
  | _ => False
/-- What a region makes: the slot, the object, how the slot reads, what the object is. -/
structure Fr where
  dst : Nat
  id : Nat
  s0 : S
  ob : Ob
def frObs (Φ : List Fr) : Obs := Φ.map fun f => (f.id, f.ob)
structure FrOk (cx : Cx) (Φ : List Fr) (σ : Obs) : Prop where
  uid : ∀ f ∈ Φ, ∀ g ∈ Φ, f.id = g.id → f = g
  udst : ∀ f ∈ Φ, ∀ g ∈ Φ, f.dst = g.dst → f = g
  own : ∀ f ∈ Φ, f.s0.kill f.id = .d .any ∧ f.s0 ≠ .d .any
  other : ∀ f ∈ Φ, ∀ g ∈ Φ, g.id ≠ f.id → g.s0.kill f.id = g.s0 ∧ g.ob.kill f.id = g.ob
  fresh : ∀ f ∈ Φ, Obs.fresh f.id σ = true
  kill : ∀ f ∈ Φ, Obs.kill f.id σ = σ
  free : ∀ f ∈ Φ, cx.free f.id = true
theorem FrOk.one {cx : Cx} {σ : Obs} {f : Fr} (h1 : f.s0.kill f.id = .d .any) (h2 : f.s0 ≠ .d .any) (h3 : Obs.fresh f.id σ = true) (h4 : Obs.kill f.id σ = σ) (h5 : cx.free f.id = true) : FrOk cx [f] σ where
  uid := fun a ha b hb _ => by rw [List.mem_singleton] at ha hb; rw [ha, hb]
  udst := fun a ha b hb _ => by rw [List.mem_singleton] at ha hb; rw [ha, hb]
  own := fun a ha => by rw [List.mem_singleton] at ha; subst ha; exact ⟨h1, h2⟩
  other := fun a ha b hb hne => by rw [List.mem_singleton] at ha hb; subst ha; subst hb; exact absurd rfl hne
  fresh := fun a ha => by rw [List.mem_singleton] at ha; subst ha; exact h3
  kill := fun a ha => by rw [List.mem_singleton] at ha; subst ha; exact h4
  free := fun a ha => by rw [List.mem_singleton] at ha; subst ha; exact h5
theorem mem_two {α : Type} {a f g : α} (h : a ∈ [f, g]) : a = f ∨ a = g := by simpa using h
theorem FrOk.two {cx : Cx} {σ : Obs} {f g : Fr} (h1 : f.s0.kill f.id = .d .any) (h2 : f.s0 ≠ .d .any) (h3 : Obs.fresh f.id σ = true) (h4 : Obs.kill f.id σ = σ) (h5 : cx.free f.id = true) (k1 : g.s0.kill g.id = .d .any) (k2 : g.s0 ≠ .d .any) (k3 : Obs.fresh g.id σ = true) (k4 : Obs.kill g.id σ = σ) (k5 : cx.free g.id = true)
    (hid : f.id ≠ g.id) (hdst : f.dst ≠ g.dst) (x1 : g.s0.kill f.id = g.s0) (x2 : g.ob.kill f.id = g.ob) (x3 : f.s0.kill g.id = f.s0) (x4 : f.ob.kill g.id = f.ob) : FrOk cx [f, g] σ where
  uid := fun a ha b hb he => by
    rcases mem_two ha with rfl | rfl <;> rcases mem_two hb with rfl | rfl <;> first | rfl | exact absurd he hid | exact absurd he.symm hid
  udst := fun a ha b hb he => by
    rcases mem_two ha with rfl | rfl <;> rcases mem_two hb with rfl | rfl <;> first | rfl | exact absurd he hdst | exact absurd he.symm hdst
  own := fun a ha => by rcases mem_two ha with rfl | rfl; exact ⟨h1, h2⟩; exact ⟨k1, k2⟩
  other := fun a ha b hb hne => by
    rcases mem_two ha with rfl | rfl <;> rcases mem_two hb with rfl | rfl <;> first | exact absurd rfl hne | exact ⟨x1, x2⟩ | exact ⟨x3, x4⟩
  fresh := fun a ha => by rcases mem_two ha with rfl | rfl; exact h3; exact k3
  kill := fun a ha => by rcases mem_two ha with rfl | rfl; exact h4; exact k4
  free := fun a ha => by rcases mem_two ha with rfl | rfl; exact h5; exact k5
def FreshOp (cx : Cx) (ops : Array Oper) (τ : Obs) (f : Fr) (o : Oper) (e : Env) : Prop :=
  o.dst = some f.dst ∧ ∀ (e0 : Env) (σ : Obs), (∀ p ∈ τ, p ∈ σ) → (∀ t, t ∈ o.looksAt ops → e0 t = e t) → Obs.fresh f.id σ = true → AOps cx ops [o] e0 σ (QF f.dst f.id f.s0 f.ob e0 σ)
theorem FreshOp.same {cx : Cx} {ops : Array Oper} {τ : Obs} {f : Fr} {o : Oper} {e e' : Env} (h : FreshOp cx ops τ f o e) (he : ∀ t, t ∈ o.looksAt ops → e' t = e t) : FreshOp cx ops τ f o e' :=
  ⟨h.1, fun e0 σ hτ h0 hf => h.2 e0 σ hτ (fun t ht => (h0 t ht).trans (he t ht)) hf⟩
def notDst (Φ : List Fr) (o : Oper) : Prop := ∀ f ∈ Φ, o.dst ≠ some f.dst
def XStep (cx : Cx) (ops : Array Oper) (σ : Obs) (Φ : List Fr) (o : Oper) (e : Env) (s : S) : Prop :=
  (GW ops o e true ∧ ((∃ f ∈ Φ, FreshOp cx ops σ f o e ∧ s = f.s0) ∨ (AOp cx.P cx.B ops o e σ s ∧ notDst Φ o ∧ ∀ f ∈ Φ, s.kill f.id = s ∨ ∃ t, t ∈ o.looksAt ops ∧ (e t).kill f.id ≠ e t))) ∨ (GW ops o e false ∧ s = .d (.v undef) ∧ notDst Φ o)
theorem XStep.same {cx : Cx} {ops : Array Oper} {σ : Obs} {Φ : List Fr} {o : Oper} {e e' : Env} {s : S} (h : XStep cx ops σ Φ o e s) (he : ∀ t, t ∈ o.looksAt ops → e' t = e t) : XStep cx ops σ Φ o e' s := by
  rcases h with ⟨h1, h2⟩ | ⟨h1, h2⟩
  · exact .inl ⟨h1.same he, h2.imp (fun ⟨f, hf, h, h'⟩ => ⟨f, hf, h.same he, h'⟩) fun h => ⟨h.1.same he, h.2.1, fun f hf => (h.2.2 f hf).imp (fun h => h) fun ⟨t, ht, hn⟩ => ⟨t, ht, by rw [he t ht]; exact hn⟩⟩⟩
  · exact .inr ⟨h1.same he, h2⟩
def XRun (cx : Cx) (ops : Array Oper) (σ : Obs) (Φ : List Fr) : List Oper → Env → (Env → Prop) → Prop
  | [], e, Qe => (∀ f ∈ Φ, e f.dst = f.s0) ∧ Qe e
  | o :: l, e, Qe => DstOk cx.N o ∧ ∃ s, XStep cx ops σ Φ o e s ∧ XRun cx ops σ Φ l (e.put o.dst s) Qe
def anyX (cx : Cx) (ops : Array Oper) (σ : Obs) (Φ : List Fr) (Qe : Env → Prop) : Nat → Array Bool → Env → Prop
  | 0, listed, e => Region.ready .any ops listed = [] ∧ Qe e
  | fuel + 1, listed, e => (Region.ready .any ops listed = [] → Qe e) ∧
      ∀ i ∈ Region.ready .any ops listed, ∀ o, ops[i]? = some o → ∃ s, XStep cx ops σ Φ o e s ∧ anyX cx ops σ Φ Qe fuel (listed.setIfInBounds i true) (e.put o.dst s)
theorem anyX_first {cx : Cx} {ops : Array Oper} {σ : Obs} {Φ : List Fr} {Qe : Env → Prop} {i : Nat} {oi : Oper} {s : S} (hi : ops[i]? = some oi) :
    ∀ (fuel : Nat) (listed : Array Bool) (e : Env),
      (∀ j oj, ops[j]? = some oj → j ≠ i → listed.getD j true = false → (∀ e ∈ oj.after, Region.binds .any e = true → e.on ≠ i) → oi.apart ops oj = true) →
      i ∈ Region.ready .any ops listed → XStep cx ops σ Φ oi e s → anyX cx ops σ Φ Qe fuel (listed.setIfInBounds i true) (e.put oi.dst s) → anyX cx ops σ Φ Qe (fuel + 1) listed e := by
  intro fuel
  induction fuel with
  | zero =>
    intro listed e _ hr hy H
    refine ⟨fun h => (by rw [h] at hr; cases hr), fun j hj o ho => ?_⟩
    by_cases hji : j = i
    · subst hji
      rw [hi] at ho; cases ho
      exact ⟨s, hy, H⟩
    · have := ready_mono hj hji
      rw [H.1] at this
      cases this
  | succ fuel ih =>
    intro listed e hfree hr hy H
    refine ⟨fun h => (by rw [h] at hr; cases hr), fun j hj oj hoj => ?_⟩
    by_cases hji : j = i
    · subst hji
      rw [hi] at hoj; cases hoj
      exact ⟨s, hy, H⟩
    · obtain ⟨sj, h1, h2⟩ := H.2 j (ready_mono hj hji) oj hoj
      obtain ⟨hjun, oj', hoj', hall⟩ := mem_ready.1 hj
      rw [hoj] at hoj'; cases hoj'
      have hnot : ∀ e ∈ oj.after, Region.binds .any e = true → e.on ≠ i := fun e he hb heq => by
        have h1 := hall e he hb
        have h0 := (mem_ready.1 hr).1
        rw [heq] at h1
        rcases Nat.lt_or_ge i listed.size with h' | h'
        · simp [h'] at h0 h1; rw [h0] at h1; cases h1
        · simp [Array.getElem?_eq_none h'] at h1
      obtain ⟨a1, a2, a3⟩ := Oper.apart_spec (hfree j oj hoj hji hjun hnot)
      refine ⟨sj, h1.same (fun t ht => (put_looks a1 t ht).symm), ?_⟩
      refine ih (listed.setIfInBounds j true) (e.put oj.dst sj) (fun k ok hk hki hun hno => ?_) (ready_mono hr (Ne.symm hji)) (hy.same (put_looks a3)) ?_
      · refine hfree k ok hk hki ?_ hno
        by_cases hjk : j = k
        · subst hjk; exact hjun
        · rw [getD_set_ne true hjk] at hun; exact hun
      · rw [Array.setIfInBounds_comm _ _ hji, ← Env.put_comm e oi.dst oj.dst s sj a2]
        exact h2
theorem anyX_lex {cx : Cx} {ops : Array Oper} {σ : Obs} {Φ : List Fr} {Qe : Env → Prop} : ∀ (l : List Oper) (k : Nat) (listed : Array Bool) (e : Env), (∀ j, l[j]? = ops[k + j]?) →
    Region.lexFrom .any ops l.length k listed = true → XRun cx ops σ Φ l e Qe → anyX cx ops σ Φ (fun e => (∀ f ∈ Φ, e f.dst = f.s0) ∧ Qe e) l.length listed e
  | [], _, _, _, _, hB, h => ⟨by simpa [Region.lexFrom] using hB, h⟩
  | o :: l, k, listed, e, hl, hB, h => by
    have h0 : ops[k]? = some o := by simpa using (hl 0).symm
    simp only [List.length_cons, Region.lexFrom, Bool.and_eq_true] at hB
    obtain ⟨⟨hr, hf⟩, hB'⟩ := hB
    have hl' : ∀ j, l[j]? = ops[k + 1 + j]? := fun j => by have := hl (j + 1); simpa [Nat.add_assoc, Nat.add_comm 1 j] using this
    obtain ⟨_, s, hs, hK⟩ := h
    exact anyX_first h0 l.length listed e (Region.free_spec h0 hf) (by simpa using hr) hs (anyX_lex l (k + 1) _ _ hl' hB' hK)
theorem XRun.dsts {cx : Cx} {ops : Array Oper} {σ : Obs} {Φ : List Fr} {Qe : Env → Prop} : ∀ (l : List Oper) (e : Env), XRun cx ops σ Φ l e Qe → ∀ o ∈ l, DstOk cx.N o
  | [], _, _, o, ho => by cases ho
  | x :: l, e, h, o, ho => by
    obtain ⟨h1, s, _, h2⟩ := h
    cases ho with
    | head => exact h1
    | tail _ ho => exact XRun.dsts l _ h2 o ho
def RelX (cx : Cx) (ops : Array Oper) (σ : Obs) (Φ : List Fr) (listed : Array Bool) (e : Env) (a : Act) (w : World) : Prop :=
  ∃ Δ : List Fr, (∀ g ∈ Δ, g ∈ Φ) ∧ (∀ g ∈ Δ, ∃ i o, ops[i]? = some o ∧ listed.getD i false = true ∧ o.dst = some g.dst) ∧ (∀ g ∈ Δ, e g.dst = g.s0) ∧ (∀ f ∈ Φ, ¬ f ∈ Δ → ∀ t, (e t).kill f.id = e t) ∧ R cx e (frObs Δ ++ σ) a w
theorem R.sub {cx : Cx} {e : Env} {σ σ' : Obs} {a : Act} {w : World} (h : R cx e σ a w) (hs : ∀ p ∈ σ', p ∈ σ) : R cx e σ' a w := by
  obtain ⟨F, ρ, h⟩ := h
  exact ⟨F, ρ, h.size, h.defers, h.lt, h.base, h.new, h.below, h.hB, h.env, h.obs.sub hs, h.up, fun q hq => h.kown q (hs q hq), h.fixed⟩
theorem put_put (e : Env) (t : Nat) (s s' : S) : (e.put (some t) s).put (some t) s' = e.put (some t) s' := by
  funext u
  by_cases hu : u = t
  · subst hu; rw [Env.put_same, Env.put_same]
  · rw [Env.put_other _ _ _ _ hu, Env.put_other _ _ _ _ hu, Env.put_other _ _ _ _ hu]
theorem Obs.kill_append (id : Nat) : ∀ (a b : Obs), Obs.kill id (a ++ b) = Obs.kill id a ++ Obs.kill id b
  | [], _ => rfl
  | p :: a, b => by show (p.1, p.2.kill id) :: Obs.kill id (a ++ b) = _; rw [Obs.kill_append id a b]; rfl
theorem kill_frObs {id : Nat} : ∀ {Δ : List Fr}, (∀ g ∈ Δ, g.ob.kill id = g.ob) → Obs.kill id (frObs Δ) = frObs Δ
  | [], _ => rfl
  | g :: Δ, h => by
    show (g.id, g.ob.kill id) :: Obs.kill id (frObs Δ) = _
    rw [h g List.mem_cons_self, kill_frObs fun g hg => h g (List.mem_cons_of_mem _ hg)]
    rfl
theorem fresh_append {id : Nat} {σ : Obs} : ∀ {a : Obs}, (∀ p ∈ a, p.1 ≠ id) → Obs.fresh id σ = true → Obs.fresh id (a ++ σ) = true
  | [], _, h => h
  | p :: a, h1, h => by
    show (!(Nat.beq p.1 id) && Obs.fresh id (a ++ σ)) = true
    rw [fresh_append (fun q hq => h1 q (List.mem_cons_of_mem _ hq)) h, Bool.and_true]
    have := h1 p List.mem_cons_self
    cases hb : Nat.beq p.1 id with
    | true => exact absurd (beq_true hb) this
    | false => rfl
theorem wpAny_of_X {cx : Cx} {ops : Array Oper} {σ : Obs} {Φ : List Fr} {Q : Post} (hd : ∀ o ∈ ops.toList, DstOk cx.N o) (hone : ∀ f ∈ Φ, ∀ (i j : Nat) (o o' : Oper), ops[i]? = some o → ops[j]? = some o' → o.dst = some f.dst → o'.dst = some f.dst → i = j) (ok : FrOk cx Φ σ) :
    ∀ (fuel : Nat) (listed : Array Bool) (e : Env) (a : Act) (w : World), RelX cx ops σ Φ listed e a w →
    anyX cx ops σ Φ (fun e => (∀ f ∈ Φ, e f.dst = f.s0) ∧ Q .normal e (frObs Φ ++ σ)) fuel listed e → wpAny cx.P .any ops (lift cx Q) fuel listed a w := by
  have fin : ∀ (listed : Array Bool) (e : Env) (a : Act) (w : World), RelX cx ops σ Φ listed e a w → ((∀ f ∈ Φ, e f.dst = f.s0) ∧ Q .normal e (frObs Φ ++ σ)) → lift cx Q .normal a w := by
    rintro listed e a w ⟨Δ, h1, _, h2, h3, h4⟩ ⟨h5, h6⟩
    have hall : ∀ f ∈ Φ, f ∈ Δ := fun f hf => Classical.byContradiction fun hn => by
      have h7 := h3 f hf hn f.dst
      rw [h5 f hf, (ok.own f hf).1] at h7
      exact (ok.own f hf).2 h7.symm
    refine ⟨e, _, h6, h4.sub fun p hp => ?_⟩
    rcases List.mem_append.1 hp with hp | hp
    · obtain ⟨f, hf, rfl⟩ := List.mem_map.1 hp
      exact List.mem_append.2 (.inl (List.mem_map.2 ⟨f, hall f hf, rfl⟩))
    · exact List.mem_append.2 (.inr hp)
  have pure : ∀ {e : Env} {o : Oper} {s : S} {Δ : List Fr}, (∀ g ∈ Δ, g ∈ Φ) → (∀ g ∈ Δ, e g.dst = g.s0) → (∀ f ∈ Φ, ¬ f ∈ Δ → ∀ t, (e t).kill f.id = e t) → notDst Φ o → (∀ f ∈ Φ, ¬ f ∈ Δ → s.kill f.id = s) →
      (∀ g ∈ Δ, (e.put o.dst s) g.dst = g.s0) ∧ (∀ f ∈ Φ, ¬ f ∈ Δ → ∀ t, ((e.put o.dst s) t).kill f.id = (e.put o.dst s) t) := by
    intro e o s Δ h1 h2 h3 hn hs
    cases ho : o.dst with
    | none => exact ⟨h2, h3⟩
    | some u =>
      refine ⟨fun g hg => ?_, fun f hf hfn t => ?_⟩
      · rw [Env.put_other _ _ _ _ (fun he => hn g (h1 g hg) (by rw [ho, he]))]; exact h2 g hg
      · by_cases hu : t = u
        · subst hu; rw [Env.put_same]; exact hs f hf hfn
        · rw [Env.put_other _ _ _ _ hu]; exact h3 f hf hfn t
  intro fuel
  induction fuel with
  | zero => exact fun listed e a w hr h => ⟨h.1, fin listed e a w hr h.2⟩
  | succ fuel ih =>
    intro listed e a w hr h
    refine ⟨fun h0 => fin listed e a w hr (h.1 h0), fun i hi => ?_⟩
    obtain ⟨hui, o, ho, _⟩ := mem_ready.1 hi
    obtain ⟨s, hs, hkk⟩ := h.2 i hi o ho
    have hdo : DstOk cx.N o := hd o (Array.mem_toList_iff.2 (Array.mem_of_getElem? ho))
    have hil : i < listed.size := Nat.lt_of_not_le fun hle => by simp [Array.getD_eq_getD_getElem?, Array.getElem?_eq_none hle] at hui
    obtain ⟨Δ, h1, hL, h2, h3, hR⟩ := hr
    have hL' : ∀ g ∈ Δ, ∃ j o, ops[j]? = some o ∧ (listed.setIfInBounds i true).getD j false = true ∧ o.dst = some g.dst := fun g hg => by
      obtain ⟨j, o', q1, q2, q3⟩ := hL g hg
      exact ⟨j, o', q1, getD_set_true q2, q3⟩
    have hR' := hR
    obtain ⟨F, ρ, hr⟩ := hR'
    unfold wpOp
    simp only [ho]
    rcases hs with ⟨hg, ⟨f, hf, ⟨hdst, hop⟩, rfl⟩ | ⟨hop, hne, hsk⟩⟩ | ⟨hg, rfl, hne⟩
    · rw [if_pos (hg.wanted (fun t _ => hr.env t))]
      have hfn : ¬ f ∈ Δ := fun hfd => by
        obtain ⟨j, o', q1, q2, q3⟩ := hL f hfd
        have := hone f hf i j o o' ho q1 hdst q3
        subst this
        rw [getD_tf hil false true, hui] at q2
        simp at q2
      have hgi : ∀ g ∈ Δ, g.id ≠ f.id := fun g hg he => hfn (by rw [← ok.uid g (h1 g hg) f hf he]; exact hg)
      have hek : e.kill f.id = e := funext fun t => h3 f hf hfn t
      have hok : Obs.kill f.id (frObs Δ ++ σ) = frObs Δ ++ σ := by
        rw [Obs.kill_append, ok.kill f hf, kill_frObs fun g hg => (ok.other f hf g (h1 g hg) (hgi g hg)).2]
      have hfr : Obs.fresh f.id (frObs Δ ++ σ) = true := fresh_append (fun p hp => by obtain ⟨g, hg, rfl⟩ := List.mem_map.1 hp; exact hgi g hg) (ok.fresh f hf)
      have h4 := hop e (frObs Δ ++ σ) (fun p hp => List.mem_append.2 (.inr hp)) (fun _ _ => rfl) hfr a w hR
      unfold wpList at h4
      have hw : Region.wanted o (yielded ops a.tmps) = true := hg.wanted (fun t _ => hr.env t)
      rw [if_pos hw] at h4
      rw [hdst] at hkk
      refine h4.imp (wp_to2 ?_ ?_) fun h => ⟨h.1, ?_⟩
      · rintro a' w' ⟨e', σ', ⟨rfl, rfl⟩, hr'⟩
        rw [hok, hek] at hr'
        refine ih _ _ _ _ ⟨f :: Δ, fun g hg => ?_, fun g hg => ?_, fun g hg => ?_, fun k hk hkn t => ?_, hr'⟩ hkk
        · rcases List.mem_cons.1 hg with rfl | hg
          · exact hf
          · exact h1 g hg
        · rcases List.mem_cons.1 hg with rfl | hg
          · exact ⟨i, o, ho, by simp [Array.getD_eq_getD_getElem?, hil], hdst⟩
          · exact hL' g hg
        · rcases List.mem_cons.1 hg with rfl | hg
          · rw [Env.put_same]
          · rw [Env.put_other _ _ _ _ (fun he => hgi g hg (by rw [ok.udst g (h1 g hg) f hf he]))]
            exact h2 g hg
        · have hkf : f.id ≠ k.id := fun he => hkn (by rw [← ok.uid f hf k hk he]; exact List.mem_cons_self)
          by_cases ht : t = f.dst
          · subst ht; rw [Env.put_same]; exact (ok.other k hk f hf hkf).1
          · rw [Env.put_other _ _ _ _ ht]; exact h3 k hk (fun hh => hkn (List.mem_cons_of_mem _ hh)) t
      · rintro ex a' w' hne ⟨e', σ', hq, _⟩
        cases ex <;> first | exact absurd rfl hne | exact hq.elim
      · obtain ⟨a', w', e', σ', hq, _⟩ := h.2
        exact hq.elim
    · rw [if_pos (hg.wanted (fun t _ => hr.env t))]
      refine .inl (wp_to ?_ (fun _ _ _ => False.elim) (hop F ρ w a hr.lt (fun t _ => hr.env t) (hr.obs.sub fun q hq => List.mem_append.2 (.inr hq))))
      rintro a' w' ⟨v, F', rfl, hv, hE⟩
      obtain ⟨p1, p2⟩ := pure (o := o) (s := s) h1 h2 h3 hne fun f hf hfn => by
        rcases hsk f hf with hh | ⟨t, _, hh⟩
        · exact hh
        · exact absurd (h3 f hf hfn t) hh
      exact ih _ _ _ _ ⟨Δ, h1, hL', p1, p2, F', ρ, hr.put hE hv hdo⟩ hkk
    · rw [if_neg (by rw [hg.wanted (fun t _ => hr.env t)]; simp)]
      obtain ⟨p1, p2⟩ := pure (o := o) (s := .d (.v undef)) h1 h2 h3 hne (fun _ _ _ => rfl)
      exact ih _ _ _ _ ⟨Δ, h1, hL', p1, p2, F, ρ, hr.put (Ext.refl hr.lt) repS_undef hdo⟩ hkk
section
variable {cx : Cx} {ops : Array Oper} {σ : Obs} {Φ : List Fr} {e : Env} {Qe : Env → Prop} {o : Oper} {l : List Oper}
def Holds (p : Fr → Prop) : List Fr → Prop
  | [] => True
  | f :: l => p f ∧ Holds p l
theorem Holds.all {p : Fr → Prop} : ∀ {l : List Fr}, Holds p l → ∀ f ∈ l, p f
  | [], _, f, hf => by cases hf
  | g :: l, h, f, hf => by
    cases hf with
    | head => exact h.1
    | tail _ hf => exact Holds.all h.2 f hf
theorem XRun.nil (hd : Holds (fun f => e f.dst = f.s0) Φ) (h : Qe e) : XRun cx ops σ Φ [] e Qe := ⟨hd.all, h⟩
def neDst (o : Oper) (dst : Nat) : Bool := match o.dst with | none => true | some t => !(Nat.beq t dst)
theorem neDst_spec {dst : Nat} (h : neDst o dst = true) : o.dst ≠ some dst := fun he => by unfold neDst at h; rw [he] at h; simp at h
def neAll (Φ : List Fr) (o : Oper) : Bool := Φ.all fun f => neDst o f.dst
theorem neAll_spec (h : neAll Φ o = true) : notDst Φ o := fun f hf => neDst_spec (List.all_eq_true.1 h f hf)
theorem XRun.step {s : S} {t : Nat} (hg : GW ops o e true) (ht : o.dst = some t) (hd : Nat.blt t cx.N = true) (h : AOp cx.P cx.B ops o e σ s) (k : XRun cx ops σ Φ l (e.put (some t) s) Qe) (hne : neAll Φ o = true := by rfl) (hs : Holds (fun f => s.kill f.id = s ∨ ∃ t, t ∈ o.looksAt ops ∧ (e t).kill f.id ≠ e t) Φ := by first | exact ⟨.inl rfl, trivial⟩ | exact ⟨.inl rfl, .inl rfl, trivial⟩ | exact ⟨.inr ⟨_, .head _, S.noConfusion⟩, trivial⟩ | exact ⟨.inr ⟨_, .head _, S.noConfusion⟩, .inl rfl, trivial⟩ | exact ⟨.inl rfl, .inr ⟨_, .head _, S.noConfusion⟩, trivial⟩) : XRun cx ops σ Φ (o :: l) e Qe :=
  ⟨by unfold DstOk; rw [ht]; exact hd, s, .inl ⟨hg, .inr ⟨h, neAll_spec hne, hs.all⟩⟩, by rw [ht]; exact k⟩
theorem XRun.pass {t : Nat} (hg : GW ops o e false) (ht : o.dst = some t) (hd : Nat.blt t cx.N = true) (k : XRun cx ops σ Φ l (e.put (some t) (.d (.v undef))) Qe) (hne : neAll Φ o = true := by rfl) : XRun cx ops σ Φ (o :: l) e Qe :=
  ⟨by unfold DstOk; rw [ht]; exact hd, _, .inr ⟨hg, rfl, neAll_spec hne⟩, by rw [ht]; exact k⟩
theorem ev_same {e0 e : Env} {x : Operand} (h : ∀ t, x = .tmp t → e0 t = e t) : e0.ev x = e.ev x := by
  cases x with
  | tmp t => exact h t rfl
  | const v => rfl
  | global g => rfl
  | func f => rfl
theorem XRun.alloc {t : Nat} {z : Value} {zs : List Value} (f : Fr) (hf : f ∈ Φ) (hg : GW ops o e true) (hgn : o.guard = none) (ht : o.dst = some f.dst) (hd : Nat.blt f.dst cx.N = true) (ho : o.op = .alloc t) (hz : (cx.P.info? t).bind (·.zero) = some z) (hzc : z.cells.toList = zs) (h1 : zs.all (·.oneCell') = true) (hob : f.ob = .cells ((zs.map D.v).map S.d)) (hs : f.s0 = .ptr f.id 0)
    (k : XRun cx ops σ Φ l (e.put (some f.dst) f.s0) Qe) (hfx : cx.free f.id = true := by rfl) : XRun cx ops σ Φ (o :: l) e Qe :=
  ⟨by unfold DstOk; rw [ht]; exact hd, _, .inl ⟨hg, .inl ⟨f, hf, ⟨ht, fun e0 σ _ _ hfr => AOps.alloc f.id hgn ht hd ho hz hzc h1 hfr (.nil ⟨by rw [hs], by rw [hob]⟩) hfx⟩, rfl⟩⟩, by rw [ht]; exact k⟩
theorem XRun.make {t el : TypeId} {lo c : Operand} {size bytes : Nat} {z : Value} {m : Int} (f : Fr) (hf : f ∈ Φ) (n : Nat) (hg : GW ops o e true) (hgn : o.guard = none) (ht : o.dst = some f.dst) (hd : Nat.blt f.dst cx.N = true) (ho : o.op = .makeSlice t lo c) (T : ElemTy cx.P t el size bytes z) (hl : e.ev lo = .d (.v (.int .i64 m))) (hc : e.ev c = .d (.v (.int .i64 m))) (hmn : m = n) (hb : bytes * n ≤ 281474976710656) (hn : n ≤ 9223372036854775807)
    (h1 : z.cells.toList.all (·.oneCell') = true) (hob : f.ob = .row el size (List.replicate n (z.cells.toList.map D.v))) (hs : f.s0 = .own f.id) (k : XRun cx ops σ Φ l (e.put (some f.dst) f.s0) Qe) (hfx : cx.free f.id = true := by rfl) : XRun cx ops σ Φ (o :: l) e Qe :=
  ⟨by unfold DstOk; rw [ht]; exact hd, _, .inl ⟨hg, .inl ⟨f, hf, ⟨ht, fun e0 σ _ he hfr => by
    have h2 : e0.ev lo = e.ev lo := ev_same fun t ht => he t (looks_op (by rw [ho, ht]; simp [Op.operands]))
    have h3 : e0.ev c = e.ev c := ev_same fun t ht => he t (looks_op (by rw [ho, ht]; simp [Op.operands]))
    exact AOps.makeI f.id n hgn ht hd ho T (h2.trans hl) (h3.trans hc) hmn hb hn h1 hfr (.nil ⟨by rw [hs], by rw [hob]⟩) hfx⟩, rfl⟩⟩, by rw [ht]; exact k⟩
theorem XRun.split (t : Nat) {b : Bool} (ht : e t = .d (.v (.bool b))) (h1 : b = true → XRun cx ops σ Φ l (e.put (some t) (.d (.v (.bool true)))) Qe) (h0 : b = false → XRun cx ops σ Φ l (e.put (some t) (.d (.v (.bool false)))) Qe) : XRun cx ops σ Φ l e Qe := by
  cases b with
  | true => have := h1 rfl; rwa [Env.put_id ht] at this
  | false => have := h0 rfl; rwa [Env.put_id ht] at this
end
def Env.killAll : List Fr → Env → Env
  | [], e => e
  | f :: l, e => Env.killAll l (e.kill f.id)
theorem kill_comm (i j : Nat) (s : S) : (s.kill i).kill j = (s.kill j).kill i := by
  cases s with
  | d x => rfl
  | own k => cases h1 : Nat.beq k i <;> cases h2 : Nat.beq k j <;> simp only [S.kill, h1, h2]
  | ptr k off => cases h1 : Nat.beq k i <;> cases h2 : Nat.beq k j <;> simp only [S.kill, h1, h2]
  | clo f caps => cases h1 : Cap.anyP (fun k => Nat.beq k i) caps <;> cases h2 : Cap.anyP (fun k => Nat.beq k j) caps <;> simp only [S.kill, h1, h2]
theorem killAll_kill (id : Nat) : ∀ (Φ : List Fr) (e : Env), (∀ t, (e t).kill id = e t) → ∀ t, (Env.killAll Φ e t).kill id = Env.killAll Φ e t
  | [], _, h => h
  | f :: l, e, h => killAll_kill id l (e.kill f.id) fun t => by unfold Env.kill; rw [kill_comm, h t]
theorem killAll_all : ∀ (Φ : List Fr) (e : Env), ∀ f ∈ Φ, ∀ t, (Env.killAll Φ e t).kill f.id = Env.killAll Φ e t
  | g :: l, e, f, hf, t => by
    rcases List.mem_cons.1 hf with rfl | hf
    · exact killAll_kill f.id l (e.kill f.id) (fun t => S.kill_kill f.id (e t)) t
    · exact killAll_all l (e.kill g.id) f hf t
theorem R.killAll {cx : Cx} {σ : Obs} {a : Act} {w : World} : ∀ (Φ : List Fr) {e : Env}, R cx e σ a w → R cx (Env.killAll Φ e) σ a w
  | [], _, h => h
  | f :: l, _, ⟨F, ρ, h⟩ => R.killAll l ⟨F, ρ, h.killEnv f.id⟩
/-- A region that draws its order; some of its first k operations make own objects; those from k on wait for all before them. -/
theorem AWP.drawFresh {cx : Cx} {rid : Nat} {l : List Oper} {e : Env} {σ : Obs} {Q : Post} (k : Nat) (Φ : List Fr) (ok : FrOk cx Φ σ) (hm : cx.P.follows .mixedOrders = true) (hB : Region.lexB .any (l.take k).toArray = true) (hC : Region.chainB l.toArray k = true) (hlk : (Φ.all fun f => (List.range (l.take k).length).all fun i => (List.range (l.take k).length).all fun j => Nat.beq i j || (((l.take k)[i]?).map fun o => neDst o f.dst).getD true || (((l.take k)[j]?).map fun o => neDst o f.dst).getD true) = true)
    (h : XRun cx (l.take k).toArray σ Φ (l.take k) (Env.killAll Φ e) (fun e => AOps cx l.toArray (l.drop k) e (frObs Φ ++ σ) Q)) : AWP cx (.region rid l.toArray true) e σ Q := by
  intro a w ⟨F, ρ, hr⟩
  simp only [Region.lexB, Bool.and_eq_true] at hB
  have hch := Chain.of hC
  have hkl : k ≤ l.length := by simpa using hch.le
  have h1 := anyX_lex (l.take k) 0 (Array.replicate (l.take k).toArray.size false) (Env.killAll Φ e) (by simp) (by simpa using hB.2) h
  have hone : ∀ f ∈ Φ, ∀ (i j : Nat) (o o' : Oper), (l.take k).toArray[i]? = some o → (l.take k).toArray[j]? = some o' → o.dst = some f.dst → o'.dst = some f.dst → i = j := fun f hf i j o o' hi hj ho ho' => by
    rw [List.getElem?_toArray] at hi hj
    have h3 := List.all_eq_true.1 (List.all_eq_true.1 (List.all_eq_true.1 hlk f hf) i (List.mem_range.2 (List.getElem?_eq_some_iff.1 hi).1)) j (List.mem_range.2 (List.getElem?_eq_some_iff.1 hj).1)
    rw [hi, hj] at h3
    simp only [Option.map_some, Option.getD_some, Bool.or_eq_true] at h3
    rcases h3 with (h3 | h3) | h3
    · exact Nat.eq_of_beq_eq_true h3
    · exact absurd ho (neDst_spec h3)
    · exact absurd ho' (neDst_spec h3)
  have h2 := wpAny_of_X (cx := cx) (ops := (l.take k).toArray) (Q := fun ex e σ => match ex with | .normal => AOps cx l.toArray (l.drop k) e σ Q | _ => False) (by simpa using XRun.dsts _ _ h) hone ok _ _ (Env.killAll Φ e) a _
    ⟨[], fun g hg => (nomatch hg), fun g hg => (nomatch hg), fun g hg => (nomatch hg), fun f hf _ t => killAll_all Φ e f hf t, R.killAll Φ ⟨F, ρ, hr.drew⟩⟩ h1
  refine wp_region_any hm (wpAny_split hch (ops0 := (l.take k).toArray) (by simp; omega) (fun j hj => by simp [hj]) ?_ ?_ (l.take k).length _ _ _ _ _ (by simp; omega) (by simp) ?_ ?_ ?_ (by simp; omega) h2)
  · rintro a w ⟨e, σ, h3, h4⟩
    have := h3 a w h4
    simpa using this
  · rintro ex a w hne ⟨e, σ, h3, _⟩
    cases ex <;> first | exact absurd rfl hne | exact h3.elim
  · intro j hj d
    have h5 : j < l.length := by omega
    have h6 : j < min k l.length := by omega
    simp [Array.getD_eq_getD_getElem?, h5, h6]
  · intro j hj hj2
    have : j < l.length := by simpa using hj2
    simp [Array.getD_eq_getD_getElem?, this]
  · intro i o ho hi
    have : i < l.length := by simpa using (Array.getElem?_eq_some_iff.1 ho).1
    simp [Array.getD_eq_getD_getElem?, this] at hi
end Go.Proofs.YtnapkooefpkicaaGreatDoor


namespace Go.Proofs.YtnapkooefpkicaaGreatDoor
open Go.RowKit
set_option linter.unusedVariables false

/-- What is so stays so while what was there is kept. -/
def Stays (T : World → Prop) : Prop := ∀ w w', Kept (fun b => w.heap.size ≤ b) w w' → T w → T w'
/-- A contract that wants T of the world. -/
def ACallT (P : Program) (T : World → Prop) (f : FuncId) (ds : List D) (d : D) : Prop := Enters P f ∧
  ∀ (F : Nat → Prop) (w : World) (vs : List Value), T w → (∀ b, F b → b < w.heap.size) → RepL F w vs ds → Calls P f vs.toArray w fun e w' => ∃ v F', e = .returned v ∧ Rep F' w' v d ∧ Ext F w F' w'
theorem ACallT.le {P : Program} {T : World → Prop} {f : FuncId} {ds : List D} {d d' : D} (h : ACallT P T f ds d) (hd : Le d d') : ACallT P T f ds d' :=
  ⟨h.1, fun F w vs hT hF hv => (h.2 F w vs hT hF hv).mono fun _ _ ⟨v, F', h1, h2, h3⟩ => ⟨v, F', h1, hd _ _ _ h2, h3⟩⟩
theorem AOps.callT {cx : Cx} {ops : Array Oper} {o : Oper} {rest : List Oper} {e : Env} {σ : Obs} {Q : Post} {T : World → Prop} {f : FuncId} {xs : List Operand} {ts : Array TypeId} {ds : List D} {d : D} (hg : GW ops o e true) (hd : DstOk cx.N o)
    (ho : o.op = .call { callee := .value (.func f), args := xs.toArray, argTypes := ts }) (hT : T cx.w0) (hS : Stays T) (hfr : cx.fr = fun b => cx.w0.heap.size ≤ b) (ha : ArgsOk e xs ds) (h : ACallT cx.P T f ds d)
    (k : AOps cx ops rest (e.put o.dst (.d d)) σ Q) : AOps cx ops (o :: rest) e σ Q := by
  intro a w ⟨F, ρ, hr⟩
  have hw := hg.wanted (fun t _ => hr.env t)
  have hTw : T w := hS _ _ (by rw [← hfr]; exact hr.below) hT
  have h1 : RepL F w (xs.map a.eval) ds := ha.rep (ρ := ρ) fun t _ => hr.env t
  have h2 := h.2 F w _ hTw hr.lt h1
  have h3 := h.1 (xs.map a.eval).toArray w
  have hx : (execOp a.eval o).run cx.P w = .ok (.enter f (xs.map a.eval).toArray) w := by
    unfold execOp
    simp only [ho, resolve, Deferred.ofValue, Act.eval, invoke, Sem.run_bind, Sem.run_pure, Result.andThen_ok]
    simpa using h3
  unfold wpList
  rw [if_pos hw]
  refine .inl ?_
  unfold Oper.wp
  rw [hx]
  refine h2.mono fun _ w' ⟨v, F', he, hv, hE⟩ => ?_
  subst he
  exact k _ _ ⟨F', ρ, hr.put hE (.d hv) hd⟩

theorem acall_ofT {T : World → Prop} {P : Program} {f : FuncId} {fn : Func} {c : Code} {n : Nat} {ds ds' : List D} (hf : P.funcs[f]? = some fn) (hb : fn.body = some c) (hn : (fn.name == "runtime.NumGoroutine") = false) (hN : fn.ntmps = n)
    (ts : List Nat) (hr : fn.results = (ts.map ResultVar.tmp).toArray) (hle' : Nat.ble ds.length n = true) (h : ∀ B w0 F0, T w0 → AWP ⟨P, n, B, w0, F0, (fun b => w0.heap.size ≤ b), fun _ => false, fun _ => undef⟩ c (Env.args 0 ds) [] (RetQ ts ds')) : ACallT P T f ds (retOf ds') := by
  have hle : ds.length ≤ n := Nat.le_of_ble_eq_true hle'
  refine ⟨Enters.of hf hn (by rw [hb]; rfl), fun F w vs hT hF hv => ?_⟩
  refine calls_of_wp hf hb ?_
  have hR : R ⟨P, n, w.heap.size, w, F, (fun b => w.heap.size ≤ b), fun _ => false, fun _ => undef⟩ (Env.args 0 ds) [] { tmps := vs.toArray ++ Array.replicate (fn.ntmps - vs.toArray.size) undef, defers := [] } w := by
    refine ⟨F, fun _ => undef, ?_, rfl, hF, fun b hb => hb, fun b hb => .inl hb, Kept.refl _ _, Nat.le_refl _, fun t => ?_, ⟨fun p hp => by simp at hp, fun p hp => by simp at hp, fun p hp => by simp at hp⟩, fun b hb => hb, fun p hp => by simp at hp, fun i hi => by simp at hi⟩
    · simp [hN, hv.1]; omega
    · by_cases ht : t < ds.length
      · have := Env.args_get ds 0 t ht
        rw [Nat.zero_add] at this
        rw [this]
        have hvt : t < vs.length := by rw [hv.1]; exact ht
        have : (vs.toArray ++ Array.replicate (fn.ntmps - vs.toArray.size) undef).getD t undef = vs[t] := by
          rw [Array.getD_eq_getD_getElem?, Array.getElem?_append_left (by simpa using hvt)]
          simp [hvt]
        rw [this]
        exact .d (hv.2 t hvt ht)
      · have := Env.args_out ds 0 t (by omega)
        rw [Nat.zero_add] at this
        rw [this]
        exact .d (.any _)
  refine wp_mono (h _ _ _ hT _ _ hR) ?_
  rintro ex a w' ⟨e', σ', hq, F', ρ', hr'⟩
  have hres : (results fn a.tmps).run P w' = .ok (match ts.map fun t => a.tmps.getD t undef with | [x] => x | l => .tuple l.toArray) w' := by
    have key : ∀ (ts : List Nat), (List.mapM (fun r => match r with | .tmp t => pure (a.tmps.getD t undef) | .cell b t => do loadVar t (← asAddr (a.tmps.getD b undef))) (ts.map ResultVar.tmp) : Sem (List Value)).run P w' = .ok (ts.map fun t => a.tmps.getD t undef) w' := by
      intro ts
      induction ts with
      | nil => rfl
      | cons t ts ih =>
        rw [List.map_cons, List.mapM_cons, Sem.run_bind]
        simp only [Sem.run_pure, Result.andThen_ok, Sem.run_bind, ih, List.map_cons]
    unfold results
    rw [hr, Sem.run_bind]
    have h2 : (Array.mapM (fun r => match r with | ResultVar.tmp t => pure (a.tmps.getD t undef) | ResultVar.cell b t => do loadVar t (← asAddr (a.tmps.getD b undef))) (ts.map ResultVar.tmp).toArray : Sem (Array Value)).run P w' = .ok (ts.map fun t => a.tmps.getD t undef).toArray w' := by
      rw [List.mapM_toArray, Sem.run_map, key]
      rfl
    have h3 := h2
    refine (congrArg (fun r => Result.andThen r _) h3).trans ?_
    simp only [Result.andThen_ok]
    rcases ts with _ | ⟨t, _ | ⟨t2, ts⟩⟩ <;> rfl
  have hends : RetL e' σ' ts ds' → bodyPost P fn (fun e w' => ∃ v F', e = .returned v ∧ Rep F' w' v (retOf ds') ∧ Ext F w F' w') .ret a w' := by
    intro hq
    have hl := hq.rep hr'
    refine ⟨hr'.defers, _, hres, _, endF F' ρ' σ', rfl, ?_, endF_ext hr' (fun b hb => hb)⟩
    generalize (ts.map fun t => a.tmps.getD t undef) = vs' at hl
    obtain ⟨h1, h2⟩ := hl
    rcases ds' with _ | ⟨d, _ | ⟨d2, ds'⟩⟩
    · have : vs' = [] := List.eq_nil_of_length_eq_zero h1
      subst this
      exact .tup [] [] rfl (fun i h1 => absurd h1 (by simp))
    · rcases vs' with _ | ⟨x, _ | ⟨y, vs'⟩⟩ <;> simp at h1
      exact h2 0 (by simp) (by simp)
    · rcases vs' with _ | ⟨x, _ | ⟨y, vs'⟩⟩
      · simp at h1
      · simp at h1
      · exact .tup _ _ h1 h2
  cases ex with
  | ret => exact hends hq
  | normal => exact hends hq
  | exit id => exact hq.elim
  | goto l => exact hq.elim
  | panic c => exact hq.elim
  | outgrown => exact hq.elim

/-! ## Operations -/

theorem AOp.sliceStrL {P : Program} {B : Nat} {ops : Array Oper} {o : Oper} {e : Env} {σ : Obs} {t : TypeId} {x lo : Operand} {s : ByteArray} {k : Int} (ho : o.op = .slice t x (some lo) none none) (ht : P.underlying t = some .string) (hx : e.ev x = .d (.v (.string s)))
    (hlo : e.ev lo = .d (.v (.int .i64 k))) (h0 : 0 ≤ k) (h1 : k ≤ s.size) : AOp P B ops o e σ (.d (.v (.string (s.extract k.toNat s.size)))) := .value fun F ρ w a hF hr _ => by
  have r1 := hr x (by rw [ho]; simp [Op.operands])
  have r2 := hr lo (by rw [ho]; simp [Op.operands])
  rw [hx] at r1; rw [hlo] at r2
  refine ⟨_, F, w, ?_, .d (.v _), Ext.refl hF⟩
  unfold execOp
  simp only [ho, repS_v r1, repS_v r2, Option.map_some, Option.map_none]
  rw [Sem.run_bind, run_sliceAt_string w t _ _ _ _ ht, run_slice_string_l w t s ht .i64 k h0 h1]
  rfl

/-- One cell an element, each of a plain value, at a new block: data. -/
theorem rep_newRow {w w' : World} {F : Nat → Prop} {A c : Nat} {vals : List Value} (hlt : ∀ b, F b → b < w.heap.size) (hA : w.heap.size ≤ A) (hA' : A < w'.heap.size) (hb : Below w.heap.size w w') (hc : vals.length ≤ c) (hm : c ≤ 9223372036854775807)
    (hcell : ∀ i (h : i < vals.length), w'.cell? ⟨A, i, none⟩ = some vals[i]) (hone : ∀ v ∈ vals, v.oneCell' = true) :
    ∃ F', Rep F' w' (.slice (some ⟨A, 0, none⟩) vals.length c) (.sl (vals.map fun v => [D.v v])) ∧ Ext F w F' w' := by
  refine ⟨fun b => F b ∨ b = A, ?_, ⟨fun b h => .inl h, fun b h => h.imp id fun h => by rw [h]; exact hA, fun b h => ?_, hb⟩⟩
  · have hl : (vals.map fun v => [D.v v]).length = vals.length := by simp
    have := Rep.sl (F := fun b => F b ∨ b = A) (w := w') ⟨A, 0, none⟩ c 1 (vals.map fun v => [D.v v]) (fun i _ => vals.getD i undef) (by rw [hl]; exact hc) hm (fun _ => .inr rfl) (fun i h => by simp) (fun i j hi hj => ?_) (fun i j hi hj => ?_) (fun i hi j hj => ?_)
    · rw [hl] at this; exact this
    · rw [hl] at hi
      obtain rfl : j = 0 := by omega
      have := hcell i hi
      have e : (Addr.add ⟨A, 0, none⟩ (i * 1 + 0)) = ⟨A, i, none⟩ := by unfold Addr.add; by_cases h0 : i = 0 <;> simp [h0]
      rw [e, this, List.getD_eq_getElem?_getD, List.getElem?_eq_getElem hi]; rfl
    · rw [hl] at hi
      rw [List.getD_eq_getElem?_getD, List.getElem?_eq_getElem hi]
      exact hone _ (List.getElem_mem hi)
    · rw [hl] at hi
      rw [List.getD_eq_getElem?_getD, List.getElem?_eq_getElem hi]
      simp only [List.getElem_map, List.length_cons, List.length_nil, Nat.zero_add] at hj ⊢
      obtain rfl : j = 0 := by omega
      exact .v _
  · rcases h with h | rfl
    · exact Nat.lt_of_lt_of_le (hlt b h) hb.size
    · exact hA'
end Go.Proofs.YtnapkooefpkicaaGreatDoor


namespace Go.Proofs.YtnapkooefpkicaaGreatDoor
open Go.RowKit
set_option linter.unusedVariables false

/-- A new own object that is told by a value. -/
theorem R0.newOb {cx : Cx} {F : Nat → Prop} {ρ : Nat → Value} {e : Env} {σ : Obs} {a : Act} {w w' : World} (hr : R0 cx F ρ e σ a w) {id dst : Nat} {ob : Ob} {v : Value} (hid : ∀ p ∈ σ, p.1 ≠ id) (hd : dst < cx.N) (hbel : Below w.heap.size w w')
    (hob : ObOk cx.B F (fun j => if j = id then v else ρ j) w' id ob) (hnew : ∀ g, blk v = some g → w.heap.size ≤ g) (hfx : cx.free id = true) :
    ∃ ρ', R0 cx F ρ' ((e.kill id).put (some dst) (.own id)) ((id, ob) :: Obs.kill id σ) (a.put (some dst) v) w' := by
  refine ⟨fun j => if j = id then v else ρ j, ?_⟩
  have hE : Ext F w F w' := Ext.of_below hr.lt hbel
  have h2 := hr.turn (ρ' := fun j => if j = id then v else ρ j) (id := id) (ob := ob) (row := none) (w' := w') (F' := F) (fun j hj => by simp [hj])
    ⟨hE.below.os, hE.below.tape, hE.below.output, hE.below.size, fun k hk _ => hE.below.block k hk⟩ hfx (fun g hg => by simp at hg) (fun b hb => hb) (fun b hb => .inl hb) hE.lt hob
    (fun g hg => by rw [if_pos rfl] at hg; exact .inr (hnew g hg)) ((id, ob) :: Obs.kill id σ) (fun p hp => by
      cases hp with
      | head => exact .inl rfl
      | tail _ hp => obtain ⟨q, hq, rfl⟩ := Obs.mem_kill hp; exact .inr ⟨q, hq, hid q hq, rfl⟩)
  exact h2.put (o := ⟨some dst, .ready 0, 0, "", #[], none⟩) (v := v) (s := .own id) (Ext.refl h2.lt) (by
      have := RepS.own (F := F) (ρ := fun j => if j = id then v else ρ j) (w := w') id
      simpa using this) (by simpa [DstOk, Nat.blt_eq] using hd)

/-- The type of bytes. -/
structure U8T (P : Program) (t : TypeId) : Prop where
  hu : P.underlying t = some (.int .u8)
def at0' (l : List UInt8) (i : Nat) : UInt8 := l.getD i 0
section
variable {cx : Cx} {ops : Array Oper} {o : Oper} {rest : List Oper} {e : Env} {σ : Obs} {Q : Post}
/-- []byte(s). -/
theorem AOps.bytesOf {s t el dst : Nat} {x : Operand} {b : ByteArray} (id : Nat) (hg : o.guard = none) (ht : o.dst = some dst) (hdn : Nat.blt dst cx.N = true) (ho : o.op = .convert s t x) (hs : cx.P.underlying s = some .string) (hd : cx.P.underlying t = some (.slice el)) (he : cx.P.underlying el = some (.int .u8))
    (hx : e.ev x = .d (.v (.string b))) (hlen : b.size ≤ 281474976710656) (hid : Obs.fresh id σ = true)
    (k : AOps cx ops rest ((e.kill id).put (some dst) (.own id)) ((id, .bts b.data.toList) :: Obs.kill id σ) Q) (hfx : cx.free id = true := by rfl) : AOps cx ops (o :: rest) e σ Q := by
  intro a w ⟨F, ρ, hr⟩
  have hdn' : dst < cx.N := by simpa [Nat.blt_eq] using hdn
  have r1 := ev_rep (e := e) (x := x) (a := a) (fun t _ => hr.env t)
  rw [hx] at r1
  have hrun := Lib.run_convert_string_bytes w s t el b hs hd he
  have hsz : b.data.toList.length = b.size := (Lib.size_eq b).symm
  have hbel : Below w.heap.size w (Lib.bytesWorld w el b) := ⟨rfl, rfl, rfl, by rw [Lib.bytesWorld_size]; omega, fun j hj => Lib.bytesWorld_at_old w el b j hj⟩
  have hC : BtsC b.data.toList (grownCap w b.size 0 el) (Lib.bytesCells w el b) ((Lib.bytesCells w el b).size, (Lib.bytesCells w el b).size + 1) := by
    refine ⟨?_, by rw [hsz]; exact grownCap_ge _ _ _ _, grownCap_le_maxLen _ _ _ _ (by unfold maxLen; omega), fun j hj => ?_⟩
    · show _ ≤ (Lib.bytesCells w el b).size
      unfold Lib.bytesCells
      rw [Array.size_append, Array.size_map, hsz]
      exact Nat.le_add_right _ _
    · unfold Lib.bytesCells
      rw [Array.getElem?_append_left (by rw [Array.size_map]; simpa using hj)]
      have hj' : j < b.data.size := by simpa using hj
      rw [Array.getElem?_map, Array.getElem?_eq_getElem hj']
      simp
  obtain ⟨ρ', h5⟩ := hr.newOb (ob := .bts b.data.toList) (v := .slice (some ⟨w.heap.size, 0, none⟩) b.size (grownCap w b.size 0 el)) (Obs.fresh_spec hid) hdn' hbel
    ⟨w.heap.size, el, _, _, _, by dsimp only; rw [if_pos rfl, hsz], hr.hB, fun hf => (by have := hr.lt _ hf; omega), Lib.bytesWorld_at_new w el b, hC⟩ (fun g hg => by simp [blk] at hg; omega) hfx
  refine wpList_plain hg fun K hK => ?_
  unfold Oper.wp execOp
  simp only [ho, repS_v r1, Sem.run_bind, hrun, Result.andThen_ok, Sem.run_pure]
  have := k _ _ ⟨F, ρ', h5⟩
  rw [← ht] at this
  exact hK _ _ this

/-- b[k] = c. -/
theorem EOp.storeBts {t id k : Nat} {x y : Operand} {l : List UInt8} {c : UInt8} (ht : o.dst = none) (ho : o.op = .store t x y) (hs : ∀ w, (sizeOf t).run cx.P w = .ok 1 w) (hx : e.ev x = .ptr id k) (hm : (id, Ob.bts l) ∈ σ)
    (hy : e.ev y = .d (.v (.int .u8 (c.toNat : Int)))) (hk : k < l.length) : EOp cx ops o e σ (Obs.upd id (.bts (l.set k c)) σ) := by
  intro F ρ a w e0 hr ha
  have hop : ∀ y ∈ o.op.operands.toList, RepS F ρ w (a.eval y) (e.ev y) := fun y hy => ev_rep fun t ht => ha t (looks_op (by rw [← ht]; exact hy))
  have r1 := hop x (by rw [ho]; simp [Op.operands])
  have r2 := hop y (by rw [ho]; simp [Op.operands])
  rw [hx] at r1
  rw [hy] at r2
  obtain ⟨g, ee, cap, cur, fz, hv, hB, hnF, hh, hC⟩ := hr.obs.ok _ hm
  dsimp only at hv
  have hblk : blk (ρ id) = some g := by rw [hv]; rfl
  have hxv := ptr_at r1 hblk
  have hyv := repS_v r2
  have hcell : w.cell? ⟨g, k, none⟩ = some (.int .u8 (l[k].toNat : Int)) := by rw [cell_of_row w g k cur ee fz hh]; exact hC.hcur k hk
  have hfr : w.frozen? ⟨g, k, none⟩ = false := by
    unfold World.frozen?
    rw [hh]
    have := hC.hfz
    simp
    omega
  have hst : (storeVar t ⟨g, k, none⟩ (.int .u8 (c.toNat : Int))).run cx.P w = .ok () (w.setCell ⟨g, k, none⟩ (.int .u8 (c.toNat : Int))) := by
    have hcs : (Value.int .u8 (c.toNat : Int)).cells = #[.int .u8 (c.toNat : Int)] := rfl
    unfold storeVar
    simp only [Sem.run_bind, hs w, Result.andThen_ok, hcs, List.size_toArray, List.length_cons, List.length_nil, Nat.zero_add, ne_eq, not_true_eq_false, if_false]
    simp only [storeCells, Sem.run_bind, addr_add, Nat.add_zero, run_store cx.P w _ _ _ (show (Value.int .u8 (c.toNat : Int)).oneCell' = true from rfl), hcell, hfr, Bool.false_eq_true, if_false, Result.andThen_ok]
    rfl
  have hturn := setCell_turn w g k (.int .u8 (c.toNat : Int))
  unfold Oper.wp execOp
  simp only [ho, Instr.storeAt, hxv, hyv, Instr.sureAddr, Sem.run_bind, Sem.run_pure, Result.andThen_ok, hst]
  refine ⟨by rw [ht]; rfl, fun e2 hr2 => ⟨F, ρ, ?_⟩⟩
  refine hr2.writeOb hblk hm hB hnF hturn ⟨g, ee, cap, cur.setIfInBounds k (.int .u8 (c.toNat : Int)), fz, by rw [List.length_set]; exact hv, hB, hnF, ?_, ⟨by rw [List.length_set]; exact hC.hfz, by rw [List.length_set]; exact hC.hcap, hC.hmax, fun j hj => ?_⟩⟩
  · unfold World.setCell
    simp [Array.getElem?_modify, hh]
  · rw [List.length_set] at hj
    rw [Array.getElem?_setIfInBounds]
    have hks : k < cur.size := (Array.getElem?_eq_some_iff.1 (hC.hcur k hk)).1
    by_cases h : k = j
    · subst h
      rw [if_pos rfl, if_pos hks]
      simp
    · rw [if_neg h, hC.hcur j hj]
      simp [h]
theorem AOps.storeBts {t id k : Nat} {x y : Operand} {l : List UInt8} {c : UInt8} (hg : o.guard = none) (ht : o.dst = none) (ho : o.op = .store t x y) (hs : ∀ w, (sizeOf t).run cx.P w = .ok 1 w) (hx : e.ev x = .ptr id k) (hm : (id, Ob.bts l) ∈ σ)
    (hy : e.ev y = .d (.v (.int .u8 (c.toNat : Int)))) (hk : k < l.length) (q : AOps cx ops rest e (Obs.upd id (.bts (l.set k c)) σ) Q) : AOps cx ops (o :: rest) e σ Q :=
  .eff hg ht (.storeBts ht ho hs hx hm hy hk) q

/-- The row is data from here on. -/
theorem R0.freezeBts {F : Nat → Prop} {ρ : Nat → Value} {a : Act} {w : World} (h : R0 cx F ρ e σ a w) {t id : Nat} {l : List UInt8} (ht : e t = .own id) (hm : (id, Ob.bts l) ∈ σ) :
    ∃ F', R0 cx F' ρ (e.put (some t) (.d (.sl (l.map u8D)))) (Obs.del id σ) a w := by
  have hF2 : ∀ b, (F b ∨ blk (ρ id) = some b) → b < w.heap.size := fun b hb => by
    rcases hb with hb | hb
    · exact h.lt b hb
    · exact ((h.obs.ok _ hm).blk_lt hb).2
  refine ⟨fun b => F b ∨ blk (ρ id) = some b, h.size, h.defers, hF2, fun b hb => .inl (h.base b hb), fun b hb => ?_, h.below, h.hB, fun u => ?_, ?_, h.up, fun p hp => h.kown p (Obs.mem_del hp).1, h.fixed⟩
  · rcases hb with hb | hb
    · exact h.new b hb
    · exact .inr (h.kown _ hm b hb)
  · by_cases hu : u = t
    · subst hu
      rw [Env.put_same]
      have h1 := h.env u
      rw [ht] at h1
      generalize a.tmps.getD u undef = x at h1
      cases h1
      obtain ⟨g, ee, cap, cur, fz, hv, hB, hnF, hh, hC⟩ := h.obs.ok _ hm
      dsimp only at hv
      have hl : (l.map u8D).length = l.length := List.length_map ..
      have hr : Rep (fun b => F b ∨ blk (ρ id) = some b) w (.slice (some ⟨g, 0, none⟩) (l.map u8D).length cap) (.sl (l.map u8D)) := by
        refine .sl ⟨g, 0, none⟩ cap 1 (l.map u8D) (fun i _ => .int .u8 ((at0' l i).toNat : Int)) (by rw [hl]; exact hC.hcap) hC.hmax (fun _ => .inr (by rw [hv]; rfl)) (fun i hi => by simp [u8D]) (fun i j hi hj => ?_) (fun _ _ _ _ => rfl) (fun i hi j hj => ?_)
        · rw [hl] at hi
          obtain rfl : j = 0 := by omega
          rw [addr_add, Nat.mul_one, Nat.add_zero, Nat.zero_add, cell_of_row w g i cur ee fz hh, hC.hcur i hi]
          simp [at0', List.getD_eq_getElem?_getD, List.getElem?_eq_getElem hi]
        · rw [hl] at hi
          simp only [List.getElem_map] at hj ⊢
          unfold u8D at hj ⊢
          obtain rfl : j = 0 := by simpa using hj
          simp only [List.getElem_cons_zero]
          rw [show at0' l i = l[i] by simp [at0', List.getD_eq_getElem?_getD, List.getElem?_eq_getElem hi]]
          exact .v _
      rw [hl, ← hv] at hr
      exact .d hr
    · rw [Env.put_other _ _ _ _ hu]
      exact RepS.turn (row := none) (h.env u) h.lt (fun g hg => by simp at hg) ⟨rfl, rfl, rfl, Nat.le_refl _, fun _ _ _ => rfl⟩ (fun b hb => .inl hb)
  · refine ⟨fun p hp => ?_, fun p hp q hq => h.obs.apart p (Obs.mem_del hp).1 q (Obs.mem_del hq).1, fun p hp q hq => h.obs.uniq p (Obs.mem_del hp).1 q (Obs.mem_del hq).1⟩
    obtain ⟨h1, h2⟩ := Obs.mem_del hp
    have h3 := h.obs.ok p h1
    have hne : ∀ g, blk (ρ p.1) = some g → blk (ρ id) ≠ some g := fun g hg => h.obs.apart p h1 _ hm h2 g hg
    exact h3.more h.lt (fun b hb => .inl hb) (fun g hg hf => by
      rcases hf with hf | hf
      · exact h3.nF hg hf
      · exact hne g hg hf)
theorem AOps.freezeBts (t : Nat) {id : Nat} {l : List UInt8} (ht : e t = .own id) (hm : (id, Ob.bts l) ∈ σ) (k : AOps cx ops rest (e.put (some t) (.d (.sl (l.map u8D)))) (Obs.del id σ) Q) : AOps cx ops rest e σ Q :=
  fun a w ⟨_, ρ, hr⟩ => by
    obtain ⟨F', h⟩ := hr.freezeBts ht hm
    exact k a w ⟨F', ρ, h⟩
theorem AWP.freezeBts {c : Code} (t : Nat) {id : Nat} {l : List UInt8} (ht : e t = .own id) (hm : (id, Ob.bts l) ∈ σ) (k : AWP cx c (e.put (some t) (.d (.sl (l.map u8D)))) (Obs.del id σ) Q) : AWP cx c e σ Q :=
  fun a w ⟨_, ρ, hr⟩ => by
    obtain ⟨F', h⟩ := hr.freezeBts ht hm
    exact k a w ⟨F', ρ, h⟩
end

section
variable {P : Program} {B : Nat} {ops : Array Oper} {o : Oper} {e : Env} {σ : Obs}
/-- The address of a byte of such a row. -/
theorem AOp.indexBts {t el : TypeId} {x ix : Operand} {bytes id : Nat} {z : Value} {n : Int} {l : List UInt8} (ho : o.op = .indexAddr t x ix) (T : ElemTy P t el 1 bytes z) (hx : e.ev x = .own id) (hi : e.ev ix = .d (.v (.int .i64 n)))
    (hm : (id, Ob.bts l) ∈ σ) (k : Nat) (hk : n = k) (hlt : k < l.length) : AOp P B ops o e σ (.ptr id k) :=
  .value fun F ρ w a hF hr hσ => by
  have h1 := hr x (by rw [ho]; simp [Op.operands])
  have h2 := hr ix (by rw [ho]; simp [Op.operands])
  rw [hx] at h1
  rw [hi] at h2
  have hv2 := repS_v h2
  obtain ⟨g, ee, cap, cur, fz, h7, _⟩ := hσ.ok _ hm
  dsimp only at h7
  have hv : a.eval x = ρ id := by generalize a.eval x = v at h1; cases h1; rfl
  refine ⟨.pointer (some ⟨g, k, none⟩), F, w, ?_, .ptr id _ g (by rw [h7]; rfl), Ext.refl hF⟩
  unfold execOp
  simp only [ho, hv, h7, hv2, hk]
  simp [Instr.indexAt, run_underlying T.ht, asIntOf, hlt, T.sizeOf, addr_add]
/-- b[k]. -/
theorem AOp.loadBts {t : TypeId} {x : Operand} {id k : Nat} {l : List UInt8} {c : UInt8} (ho : o.op = .load t x) (hT : Scal P t) (hx : e.ev x = .ptr id k) (hm : (id, Ob.bts l) ∈ σ) (hc : l[k]? = some c) :
    AOp P B ops o e σ (.d (.v (.int .u8 (c.toNat : Int)))) :=
  .value fun F ρ w a hF hr hσ => by
  have h1 := hr x (by rw [ho]; simp [Op.operands])
  rw [hx] at h1
  obtain ⟨g, ee, cap, cur, fz, h7, _, _, hh, hC⟩ := hσ.ok _ hm
  dsimp only at h7
  have hv := ptr_at h1 (g := g) (by rw [h7]; rfl)
  obtain ⟨hk, hk2⟩ := List.getElem?_eq_some_iff.1 hc
  have hcell : w.cell? ⟨g, k, none⟩ = some (.int .u8 (c.toNat : Int)) := by rw [cell_of_row w g k cur ee fz hh, hC.hcur k hk, hk2]
  refine ⟨_, F, w, ?_, .d (.v _), Ext.refl hF⟩
  unfold execOp
  simp only [ho, hv, Instr.loadAt, Instr.sureAddr, loadVar, Sem.run_bind, Sem.run_pure, Result.andThen_ok, hT w, Bool.false_eq_true, if_false, run_load, hcell]
end

section
variable {P : Program} {B : Nat} {ops : Array Oper} {o : Oper} {e : Env} {σ : Obs}
/-- A struct within a struct, loaded whole: the first cells of what lies there. -/
theorem AOp.loadAggT {t : TypeId} {x : Operand} {size : Nat} {ds : List D} (ho : o.op = .load t x) (hT : AggT P t size) (hx : e.ev x = .d (.fp ds)) (hl : size ≤ ds.length) : AOp P B ops o e σ (.d (.agg (ds.take size))) :=
  .value fun F ρ w a hF hr _ => by
  have h1 := hr x (by rw [ho]; simp [Op.operands])
  rw [hx] at h1
  have h2 := repS_d h1
  obtain ⟨ad, hv⟩ := rep_fp h2
  rw [hv] at h2
  cases h2 with
  | fp _ _ vs hF' hcell hone hrep =>
    have hl' : (loadCells ad ((List.range size).map vs).length).run P w = .ok ((List.range size).map vs).toArray w := run_loadCells_list w _ _ (fun j v hj => by
      have hjl := (List.getElem?_eq_some_iff.1 hj).1
      simp at hjl
      rw [hcell j (by omega), ← hj]
      simp [hjl])
    simp only [List.length_map, List.length_range] at hl'
    refine ⟨.agg ((List.range size).map vs).toArray, F, w, ?_, .d (.agg _ _ (by simp; omega) (fun i hi => ?_) (fun i hi hi2 => ?_)), Ext.refl hF⟩
    · unfold execOp
      simp only [ho, hv, Instr.loadAt, Instr.sureAddr, loadVar, Sem.run_bind, Sem.run_pure, Result.andThen_ok, hT.agg w, hT.size w, if_true, hl']
    · simp at hi ⊢
      exact hone i (by omega)
    · simp at hi hi2 ⊢
      exact hrep i (by omega)
end
end Go.Proofs.YtnapkooefpkicaaGreatDoor
