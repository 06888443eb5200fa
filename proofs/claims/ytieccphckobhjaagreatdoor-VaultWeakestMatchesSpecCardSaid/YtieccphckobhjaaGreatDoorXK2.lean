/- Walks and laws over abstract values, merged by tools/merge.py. No statement of the seat. -/
import Derived.ChangeKeysEq
import Derived.ProofKit
import Derived.OpenShut
import Derived.ShutString
import Derived.ChangeOld
import Derived.Below
import Derived.WalkKit
import Derived.Ground.NamesProg
import Derived.Ground.Names2Prog
import Derived.Shelf.Strings.SlTrimAscii
import Derived.Shelf.Small.Strs
import Derived.Shelf.Lays2
import Derived.Test.YtieccphckobhjaaGreatDoorProg
import Derived.Test.YtieccphckobhjaaGreatDoorXK1

namespace Go.Proofs.YtieccphckobhjaaGreatDoor
open Go.RowKit

def ownB (σ : Obs) (ρ : Nat → Value) (b : Nat) : Prop := ∃ p ∈ σ, blk (ρ p.1) = some b
def RepSL (F : Nat → Prop) (ρ : Nat → Value) (w : World) (vs : List Value) (ss : List S) : Prop := vs.length = ss.length ∧ ∀ i (h1 : i < vs.length) (h2 : i < ss.length), RepS F ρ w vs[i] ss[i]

/-- How such a call ends: what was frozen stays; of the rest only the told objects may have changed. -/
structure XEnd (B : Nat) (F : Nat → Prop) (ρ : Nat → Value) (w : World) (σ : Obs) (F' : Nat → Prop) (ρ' : Nat → Value) (w' : World) (σ' : Obs) (chg : Nat → Bool) : Prop where
  up : ∀ b, F b → F' b
  new : ∀ b, F' b → F b ∨ (w.heap.size ≤ b ∨ ownB σ ρ b)
  lt : ∀ b, F' b → b < w'.heap.size
  kept : Kept (fun b => w.heap.size ≤ b ∨ ownB σ ρ b) w w'
  obs : ObsOk B F' ρ' w' σ'
  own : ∀ p ∈ σ', ∀ g, blk (ρ' p.1) = some g → w.heap.size ≤ g ∨ ownB σ ρ g
  same : ∀ i, chg i = false → ρ' i = ρ i

/-- f, called with what reads as ss, where the caller's objects are σ, returns what reads as d; the objects are σ' then. -/
def XCall (P : Program) (f : FuncId) (ss : List S) (σ σ' : Obs) (chg : Nat → Bool) (d : D) : Prop := Enters P f ∧
  ∀ (F : Nat → Prop) (ρ : Nat → Value) (B : Nat) (w : World) (vs : List Value), (∀ b, F b → b < w.heap.size) → B ≤ w.heap.size → ObsOk B F ρ w σ → RepSL F ρ w vs ss →
    Calls P f vs.toArray w fun e w' => ∃ v F' ρ', e = .returned v ∧ Rep F' w' v d ∧ XEnd B F ρ w σ F' ρ' w' σ' chg

theorem ObOk.more {B : Nat} {F F2 : Nat → Prop} {ρ : Nat → Value} {w : World} {id : Nat} {o : Ob} (h : ObOk B F ρ w id o) (hF : ∀ b, F b → b < w.heap.size) (hu : ∀ b, F b → F2 b) (hn : ∀ g, blk (ρ id) = some g → ¬ F2 g) : ObOk B F2 ρ w id o := by
  cases o with
  | row e size els =>
    obtain ⟨xs, h1, h2, h3, h4⟩ := h
    exact ⟨xs, h1, h2, fun k hk j hj => ⟨(h3 k hk j hj).1, (h3 k hk j hj).2.mono hu fun _ _ => rfl⟩, hn⟩
  | cells ss =>
    obtain ⟨g, e, cs, h1, h2, h3, h4, h5, h6⟩ := h
    exact ⟨g, e, cs, h1, h2, hn g (by rw [h1]; rfl), h4, h5, fun j hj hj' => ⟨(h6 j hj hj').1, RepS.turn (row := none) (h6 j hj hj').2 hF (fun g hg => by simp at hg) ⟨rfl, rfl, rfl, Nat.le_refl _, fun _ _ _ => rfl⟩ hu⟩⟩
  | map M =>
    obtain ⟨g, es, cl, h1, h2, h3, h4, h5, h6⟩ := h
    exact ⟨g, es, cl, h1, h2, hn g (by rw [h1]; rfl), h4, h5, fun j hj hj' => ⟨(h6 j hj hj').1, (h6 j hj hj').2.mono hu fun _ _ => rfl⟩⟩
  | rowS e size els =>
    obtain ⟨xs, h1, h2, h3, h4⟩ := h
    exact ⟨xs, h1, h2, fun k hk j hj => ⟨(h3 k hk j hj).1, RepS.turn (row := none) (h3 k hk j hj).2 hF (fun g hg => by simp at hg) ⟨rfl, rfl, rfl, Nat.le_refl _, fun _ _ _ => rfl⟩ hu⟩, hn⟩
  | bts l =>
    obtain ⟨g, e, cap, cur, fz, h1, h2, h3, h4, h5⟩ := h
    exact ⟨g, e, cap, cur, fz, h1, h2, hn g (by rw [h1]; rfl), h4, h5⟩
  | val ss =>
    obtain ⟨cs, h1, h2, h3⟩ := h
    exact ⟨cs, h1, h2, fun j hj hj' => ⟨(h3 j hj hj').1, RepS.turn (row := none) (h3 j hj hj').2 hF (fun g hg => by simp at hg) ⟨rfl, rfl, rfl, Nat.le_refl _, fun _ _ _ => rfl⟩ hu⟩⟩

def Env.argsS : Nat → List S → Env
  | _, [] => fun _ => .d .any
  | k, d :: ds => fun u => match Nat.beq u k with | true => d | false => Env.argsS (k + 1) ds u
theorem Env.argsS_get : ∀ (ds : List S) (k t : Nat), (h : t < ds.length) → Env.argsS k ds (k + t) = ds[t]
  | [], _, _, h => absurd h (by simp)
  | d :: ds, k, t, h => by
    cases t with
    | zero => simp [Env.argsS]
    | succ t =>
      have hb : Nat.beq (k + (t + 1)) k = false := by rw [Bool.eq_false_iff]; intro hh; have := Nat.eq_of_beq_eq_true hh; omega
      simp only [Env.argsS, hb]
      have := Env.argsS_get ds (k + 1) t (by simpa using h)
      rw [show k + (t + 1) = k + 1 + t by omega, this]
      simp
theorem Env.argsS_out : ∀ (ds : List S) (k t : Nat), (h : ds.length ≤ t) → Env.argsS k ds (k + t) = .d .any
  | [], _, _, _ => rfl
  | d :: ds, k, t, h => by
    have hb : Nat.beq (k + t) k = false := by rw [Bool.eq_false_iff]; intro hh; have := Nat.eq_of_beq_eq_true hh; simp at h; omega
    simp only [Env.argsS, hb]
    have := Env.argsS_out ds (k + 1) (t - 1) (by simp at h; omega)
    rw [show k + t = k + 1 + (t - 1) by simp at h; omega, this]

def RetDX (e : Env) (σ σ' : Obs) (t : Nat) (d : D) : Prop := (∃ d0, e t = .d d0 ∧ Le d0 d) ∨ ∃ id ee size els, e t = .own id ∧ (id, Ob.row ee size els) ∈ σ ∧ (∀ q ∈ σ', q.1 ≠ id) ∧ d = .sl els
theorem RetDX.eq {e : Env} {σ σ' : Obs} {t : Nat} {d d' : D} (h : e t = .d d) (hd : d = d') : RetDX e σ σ' t d' := .inl ⟨d, h, Le.of_eq hd⟩
theorem RetDX.nil {e : Env} {σ σ' : Obs} {t : Nat} (h : e t = .d (.v (.slice none 0 0))) : RetDX e σ σ' t (.sl []) := .inl ⟨_, h, Le.nil⟩
theorem RetDX.own {e : Env} {σ σ' : Obs} {t id ee size : Nat} {els els' : List (List D)} (h : e t = .own id) (hm : (id, Ob.row ee size els) ∈ σ) (hn : Obs.fresh id σ' = true) (hd : els = els') : RetDX e σ σ' t (.sl els') :=
  .inr ⟨id, ee, size, els, h, hm, Obs.fresh_spec hn, by rw [hd]⟩
def RetLX (e : Env) (σ σ' : Obs) : List Nat → List D → Prop
  | [], [] => True
  | t :: ts, d :: ds => RetDX e σ σ' t d ∧ RetLX e σ σ' ts ds
  | _, _ => False
def AllIn (σ : Obs) : Obs → Prop
  | [] => True
  | p :: l => p ∈ σ ∧ AllIn σ l
theorem AllIn.mem {σ : Obs} : ∀ {l : Obs}, AllIn σ l → ∀ p ∈ l, p ∈ σ
  | [], _, p, hp => by cases hp
  | x :: l, h, p, hp => by
    cases hp with
    | head => exact h.1
    | tail _ hp => exact h.2.mem p hp
def RetX (ts : List Nat) (ds : List D) (σ' : Obs) : Post := fun ex e σ => match ex with
  | .ret => RetLX e σ σ' ts ds ∧ AllIn σ σ'
  | .normal => RetLX e σ σ' ts ds ∧ AllIn σ σ'
  | _ => False

def endFX (F : Nat → Prop) (ρ : Nat → Value) (σ σ' : Obs) : Nat → Prop := fun b => F b ∨ ∃ p ∈ σ, (∀ q ∈ σ', q.1 ≠ p.1) ∧ blk (ρ p.1) = some b

theorem RetDX.rep {cx : Cx} {F : Nat → Prop} {ρ : Nat → Value} {e : Env} {σ σ' : Obs} {a : Act} {w : World} (h : R0 cx F ρ e σ a w) {t : Nat} {d : D} (hd : RetDX e σ σ' t d) : Rep (endFX F ρ σ σ') w (a.tmps.getD t undef) d := by
  have hx := h.env t
  rcases hd with ⟨d0, h1, h2⟩ | ⟨id, ee, size, els, h1, h2, h3, rfl⟩
  · rw [h1] at hx
    exact h2 _ _ _ ((repS_d hx).mono (fun b hb => .inl hb) fun _ _ => rfl)
  · rw [h1] at hx
    generalize a.tmps.getD t undef = x at hx
    cases hx
    exact h.rep_row h2 (fun b hb => .inl hb) (fun g hg => .inr ⟨_, h2, h3, hg⟩)
theorem RetLX.rep {cx : Cx} {F : Nat → Prop} {ρ : Nat → Value} {e : Env} {σ σ' : Obs} {a : Act} {w : World} (h : R0 cx F ρ e σ a w) : ∀ {ts : List Nat} {ds : List D}, RetLX e σ σ' ts ds → RepL (endFX F ρ σ σ') w (ts.map fun t => a.tmps.getD t undef) ds
  | [], [], _ => RepL.nil
  | _ :: _, _ :: _, hd => RepL.cons (hd.1.rep h) (RetLX.rep h hd.2)
  | [], _ :: _, hd => hd.elim
  | _ :: _, [], hd => hd.elim

theorem xcall_of {P : Program} {f : FuncId} {fn : Func} {c : Code} {n : Nat} {ss : List S} {σ σ' : Obs} {chg : Nat → Bool} {ds' : List D} (hf : P.funcs[f]? = some fn) (hb : fn.body = some c) (hn : (fn.name == "runtime.NumGoroutine") = false) (hN : fn.ntmps = n)
    (ts : List Nat) (hr : fn.results = (ts.map ResultVar.tmp).toArray) (hle' : Nat.ble ss.length n = true)
    (h : ∀ B w0 F0 fr ρ0, AWP ⟨P, n, B, w0, F0, fr, fun i => !(chg i), ρ0⟩ c (Env.argsS 0 ss) σ (RetX ts ds' σ')) : XCall P f ss σ σ' chg (retOf ds') := by
  have hle : ss.length ≤ n := Nat.le_of_ble_eq_true hle'
  refine ⟨Enters.of hf hn (by rw [hb]; rfl), fun F ρ B w vs hF hB hσ hv => ?_⟩
  refine calls_of_wp hf hb ?_
  have hR : R ⟨P, n, B, w, F, (fun b => w.heap.size ≤ b ∨ ownB σ ρ b), fun i => !(chg i), ρ⟩ (Env.argsS 0 ss) σ { tmps := vs.toArray ++ Array.replicate (fn.ntmps - vs.toArray.size) undef, defers := [] } w := by
    refine ⟨F, ρ, ?_, rfl, hF, fun b hb => hb, fun b hb => .inl hb, Kept.refl _ _, hB, fun t => ?_, hσ, fun b hb => .inl hb, fun p hp g hg => .inr ⟨p, hp, hg⟩, fun i _ => rfl⟩
    · simp [hN, hv.1]; omega
    · by_cases ht : t < ss.length
      · have := Env.argsS_get ss 0 t ht
        rw [Nat.zero_add] at this
        rw [this]
        have hvt : t < vs.length := by rw [hv.1]; exact ht
        have : (vs.toArray ++ Array.replicate (fn.ntmps - vs.toArray.size) undef).getD t undef = vs[t] := by
          rw [Array.getD_eq_getD_getElem?, Array.getElem?_append_left (by simpa using hvt)]
          simp [hvt]
        rw [this]
        exact hv.2 t hvt ht
      · have := Env.argsS_out ss 0 t (by omega)
        rw [Nat.zero_add] at this
        rw [this]
        exact .d (.any _)
  refine wp_mono (h _ _ _ _ _ _ _ hR) ?_
  rintro ex a w' ⟨e', σe, hq, F', ρ', hr'⟩
  have hres : (results fn a.tmps).run P w' = .ok (match ts.map fun t => a.tmps.getD t undef with | [x] => x | l => .tuple l.toArray) w' := by
    have key : ∀ (ts : List Nat), (List.mapM (fun r => match r with | .tmp t => pure (a.tmps.getD t undef) | .cell b t => do loadVar t (← asAddr (a.tmps.getD b undef))) (ts.map ResultVar.tmp) : Sem (List Value)).run P w' = .ok (ts.map fun t => a.tmps.getD t undef) w' := by
      intro ts
      induction ts with
      | nil => rfl
      | cons t ts ih =>
        rw [List.map_cons, List.mapM_cons, Sem.run_bind]
        simp only [Sem.run_pure, Result.andThen_ok, Sem.run_bind, ih, List.map_cons]
    unfold results
    rw [hr, Sem.run_bind]
    have h2 : (Array.mapM (fun r => match r with | ResultVar.tmp t => pure (a.tmps.getD t undef) | ResultVar.cell b t => do loadVar t (← asAddr (a.tmps.getD b undef))) (ts.map ResultVar.tmp).toArray : Sem (Array Value)).run P w' = .ok (ts.map fun t => a.tmps.getD t undef).toArray w' := by
      rw [List.mapM_toArray, Sem.run_map, key]
      rfl
    have h3 := h2
    refine (congrArg (fun r => Result.andThen r _) h3).trans ?_
    simp only [Result.andThen_ok]
    rcases ts with _ | ⟨t, _ | ⟨t2, ts⟩⟩ <;> rfl
  have hends : RetLX e' σe σ' ts ds' ∧ AllIn σe σ' → bodyPost P fn (fun e w' => ∃ v F' ρ', e = .returned v ∧ Rep F' w' v (retOf ds') ∧ XEnd B F ρ w σ F' ρ' w' σ' chg) .ret a w' := by
    rintro ⟨hq, hin⟩
    have hl := hq.rep hr'
    have hin := hin.mem
    refine ⟨hr'.defers, _, hres, _, endFX F' ρ' σe σ', ρ', rfl, ?_, ?_⟩
    · generalize (ts.map fun t => a.tmps.getD t undef) = vs' at hl
      obtain ⟨h1, h2⟩ := hl
      rcases ds' with _ | ⟨d, _ | ⟨d2, ds'⟩⟩
      · have : vs' = [] := List.eq_nil_of_length_eq_zero h1
        subst this
        exact .tup [] [] rfl (fun i h1 => absurd h1 (by simp))
      · rcases vs' with _ | ⟨x, _ | ⟨y, vs'⟩⟩ <;> simp at h1
        exact h2 0 (by simp) (by simp)
      · rcases vs' with _ | ⟨x, _ | ⟨y, vs'⟩⟩
        · simp at h1
        · simp at h1
        · exact .tup _ _ h1 h2
    · have hlt : ∀ b, endFX F' ρ' σe σ' b → b < w'.heap.size := by
        rintro b (hb | ⟨p, hp, _, hb⟩)
        · exact hr'.lt b hb
        · exact ((hr'.obs.ok p hp).blk_lt hb).2
      refine ⟨fun b hb => .inl (hr'.base b hb), ?_, hlt, hr'.below, ⟨fun p hp => ?_, fun p hp q hq => hr'.obs.apart p (hin p hp) q (hin q hq), fun p hp q hq => hr'.obs.uniq p (hin p hp) q (hin q hq)⟩, fun p hp => hr'.kown p (hin p hp), fun i hi => hr'.fixed i (by show (!(chg i)) = true; rw [hi]; rfl)⟩
      · rintro b (hb | ⟨p, hp, _, hb⟩)
        · exact hr'.new b hb
        · exact .inr (hr'.kown p hp b hb)
      · refine (hr'.obs.ok p (hin p hp)).more hr'.lt (fun b hb => .inl hb) ?_
        rintro g hg (hf | ⟨q, hq, hne, hb⟩)
        · exact (hr'.obs.ok p (hin p hp)).nF hg hf
        · exact hr'.obs.apart p (hin p hp) q hq (hne p hp) g hg hb
  cases ex with
  | ret => exact hends hq
  | normal => exact hends hq
  | exit id => exact hq.elim
  | goto l => exact hq.elim
  | panic c => exact hq.elim
  | outgrown => exact hq.elim

/-! ## The caller -/
def S.killP (c : Nat → Bool) : S → S
  | .own i => match c i with | true => .d .any | false => .own i
  | .ptr i off => match c i with | true => .d .any | false => .ptr i off
  | .d x => .d x
  | .clo f caps => match Cap.anyP c caps with | true => .d .any | false => .clo f caps
def Env.killP (c : Nat → Bool) (e : Env) : Env := fun t => (e t).killP c
def Ob.killP (c : Nat → Bool) : Ob → Ob
  | .row e size els => .row e size els
  | .cells ss => .cells (ss.map (S.killP c))
  | .map M => .map M
  | .rowS e size els => .rowS e size (els.map fun ss => ss.map (S.killP c))
  | .bts l => .bts l
  | .val ss => .val (ss.map (S.killP c))
def Obs.killP (c : Nat → Bool) : Obs → Obs
  | [] => []
  | p :: l => (p.1, p.2.killP c) :: Obs.killP c l
def Obs.dels : Obs → Obs → Obs
  | [], σ => σ
  | p :: l, σ => Obs.dels l (Obs.del p.1 σ)
def Obs.join : Obs → Obs → Obs
  | [], σ => σ
  | p :: l, σ => p :: Obs.join l σ
def Obs.allIds (c : Nat → Bool) : Obs → Bool
  | [] => true
  | p :: l => c p.1 && Obs.allIds c l
theorem Obs.allIds_mem {c : Nat → Bool} : ∀ {σ : Obs}, Obs.allIds c σ = true → ∀ p ∈ σ, c p.1 = true
  | [], _, p, hp => by cases hp
  | x :: l, h, p, hp => by
    simp only [Obs.allIds, Bool.and_eq_true] at h
    cases hp with
    | head => exact h.1
    | tail _ hp => exact Obs.allIds_mem h.2 p hp
theorem Obs.mem_join {a b : Obs} {p : Nat × Ob} : p ∈ Obs.join a b → p ∈ a ∨ p ∈ b := by
  induction a with
  | nil => exact fun h => .inr h
  | cons x l ih =>
    intro h
    cases h with
    | head => exact .inl (.head _)
    | tail _ h => exact (ih h).imp (.tail _) id
theorem Obs.mem_killP {c : Nat → Bool} : ∀ {σ : Obs} {p : Nat × Ob}, p ∈ Obs.killP c σ → ∃ q ∈ σ, p = (q.1, q.2.killP c)
  | [], _, h => by cases h
  | x :: l, p, h => by
    unfold Obs.killP at h
    cases h with
    | head => exact ⟨x, by simp, rfl⟩
    | tail _ h => obtain ⟨q, hq, he⟩ := Obs.mem_killP h; exact ⟨q, List.mem_cons_of_mem _ hq, he⟩
theorem Obs.mem_dels : ∀ {l σ : Obs} {p : Nat × Ob}, p ∈ Obs.dels l σ → p ∈ σ ∧ ∀ q ∈ l, p.1 ≠ q.1
  | [], _, _, h => ⟨h, fun q hq => by cases hq⟩
  | x :: l, σ, p, h => by
    obtain ⟨h1, h2⟩ := Obs.mem_dels (l := l) h
    obtain ⟨h3, h4⟩ := Obs.mem_del h1
    refine ⟨h3, fun q hq => ?_⟩
    cases hq with
    | head => exact h4
    | tail _ hq => exact h2 q hq

theorem RepS.over {F F' : Nat → Prop} {ρ ρ' : Nat → Value} {w w' : World} {x : Value} {s : S} {chg : Nat → Bool} (h : RepS F ρ w x s) (hu : ∀ b, F b → F' b) (hw : ∀ b, F b → w'.heap[b]? = w.heap[b]?) (hρ : ∀ i, chg i = false → ρ' i = ρ i) : RepS F' ρ' w' x (s.killP chg) := by
  cases h with
  | d h => exact .d (h.mono hu hw)
  | own i =>
    cases hb : chg i with
    | true => simp only [S.killP, hb]; exact .d (.any _)
    | false => simp only [S.killP, hb]; rw [← hρ i hb]; exact .own i
  | ptr i off g h =>
    cases hb : chg i with
    | true => simp only [S.killP, hb]; exact .d (.any _)
    | false => simp only [S.killP, hb]; exact .ptr i off g (by rw [hρ i hb]; exact h)
  | clo f cs caps h =>
    cases hb : Cap.anyP chg caps with
    | true => simp only [S.killP, hb]; exact .d (.any _)
    | false => simp only [S.killP, hb]; exact .clo f cs caps (h.to chg (fun _ _ h => h.mono hu hw) hρ hb)

theorem ObOk.over {B : Nat} {F F' : Nat → Prop} {ρ ρ' : Nat → Value} {w w' : World} {id : Nat} {o : Ob} {chg : Nat → Bool} (h : ObOk B F ρ w id o) (hid : chg id = false) (hu : ∀ b, F b → F' b) (hw : ∀ b, F b → w'.heap[b]? = w.heap[b]?) (hρ : ∀ i, chg i = false → ρ' i = ρ i)
    (hg : ∀ g, blk (ρ id) = some g → w'.heap[g]? = w.heap[g]? ∧ ¬ F' g) : ObOk B F' ρ' w' id (o.killP chg) := by
  cases o with
  | row e size els =>
    obtain ⟨xs, h1, h2, h3, h4⟩ := h
    refine ⟨xs, ?_, h2, fun k hk j hj => ⟨(h3 k hk j hj).1, (h3 k hk j hj).2.mono hu hw⟩, fun g hg' => (hg g (by rw [← hρ id hid]; exact hg')).2⟩
    rw [hρ id hid]
    refine ⟨h1.1, ?_⟩
    rcases h1.2 with h5 | ⟨g, cap, cur, h5, h6, h7, h8⟩
    · exact .inl h5
    · refine .inr ⟨g, cap, cur, h5, h6, ?_, h8⟩
      rw [(hg g (by rw [h5]; rfl)).1]
      exact h7
  | cells ss =>
    obtain ⟨g, e, cs, h1, h2, h3, h4, h5, h6⟩ := h
    have hgg := hg g (by rw [h1]; rfl)
    refine ⟨g, e, cs, by rw [hρ id hid]; exact h1, h2, hgg.2, by rw [hgg.1]; exact h4, by simp [h5], fun j hj hj' => ⟨(h6 j hj (by simpa using hj')).1, ?_⟩⟩
    rw [List.getElem_map]
    exact (h6 j hj (by simpa using hj')).2.over hu hw hρ
  | map M =>
    obtain ⟨g, es, cl, h1, h2, h3, h4, h5, h6⟩ := h
    have hgg := hg g (by rw [h1]; rfl)
    exact ⟨g, es, cl, by rw [hρ id hid]; exact h1, h2, hgg.2, by rw [hgg.1]; exact h4, h5, fun j hj hj' => ⟨(h6 j hj hj').1, (h6 j hj hj').2.mono hu hw⟩⟩
  | rowS e size els =>
    obtain ⟨xs, h1, h2, h3, h4⟩ := h
    refine ⟨xs, ?_, fun k hk => by rw [List.getElem_map, List.length_map]; exact h2 k (by simpa using hk), fun k hk j hj => ?_, fun g hg' => (hg g (by rw [← hρ id hid]; exact hg')).2⟩
    · rw [hρ id hid, List.length_map]
      refine ⟨h1.1, ?_⟩
      rcases h1.2 with h5 | ⟨g, cap, cur, h5, h6, h7, h8⟩
      · exact .inl h5
      · refine .inr ⟨g, cap, cur, h5, h6, ?_, h8⟩
        rw [(hg g (by rw [h5]; rfl)).1]
        exact h7
    · have hk' : k < els.length := by simpa using hk
      have hj' : j < els[k].length := by simpa using hj
      simp only [List.getElem_map]
      exact ⟨(h3 k hk' j hj').1, (h3 k hk' j hj').2.over hu hw hρ⟩
  | bts l =>
    obtain ⟨g, e, cap, cur, fz, h1, h2, h3, h4, h5⟩ := h
    have hgg := hg g (by rw [h1]; rfl)
    exact ⟨g, e, cap, cur, fz, by rw [hρ id hid]; exact h1, h2, hgg.2, by rw [hgg.1]; exact h4, h5⟩
  | val ss =>
    obtain ⟨cs, h1, h2, h3⟩ := h
    refine ⟨cs, by rw [hρ id hid]; exact h1, by simp [h2], fun j hj hj' => ⟨(h3 j hj (by simpa using hj')).1, ?_⟩⟩
    rw [List.getElem_map]
    exact (h3 j hj (by simpa using hj')).2.over hu hw hρ

theorem ObsOk.sub {B : Nat} {F : Nat → Prop} {ρ : Nat → Value} {w : World} {σ σ' : Obs} (h : ObsOk B F ρ w σ) (hs : ∀ p ∈ σ', p ∈ σ) : ObsOk B F ρ w σ' :=
  ⟨fun p hp => h.ok p (hs p hp), fun p hp q hq => h.apart p (hs p hp) q (hs q hq), fun p hp q hq => h.uniq p (hs p hp) q (hs q hq)⟩

/-- After such a call. -/
theorem R0.after {cx : Cx} {F F' : Nat → Prop} {ρ ρ' : Nat → Value} {e : Env} {σ σc σ' : Obs} {a : Act} {w w' : World} {chg : Nat → Bool} (hr : R0 cx F ρ e σ a w) (hin : ∀ p ∈ σc, p ∈ σ) (hx : XEnd cx.B F ρ w σc F' ρ' w' σ' chg)
    (h1 : Obs.allIds (fun i => !(chg i)) (Obs.dels σc σ) = true) (h2 : Obs.allIds (fun i => Obs.allIds (fun j => !(Nat.beq i j)) (Obs.dels σc σ)) σ' = true) (h3 : ∀ i, chg i = true → cx.fixp i = false) :
    R0 cx F' ρ' (e.killP chg) (Obs.join σ' (Obs.killP chg (Obs.dels σc σ))) a w' := by
  have hown : ∀ b, ownB σc ρ b → cx.fr b ∧ ¬ F b ∧ b < w.heap.size := fun b ⟨p, hp, hb⟩ => ⟨hr.kown p (hin p hp) b hb, (hr.obs.ok p (hin p hp)).nF hb, ((hr.obs.ok p (hin p hp)).blk_lt hb).2⟩
  have hfr : ∀ b, (w.heap.size ≤ b ∨ ownB σc ρ b) → cx.fr b := fun b hb => by
    rcases hb with hb | hb
    · exact hr.up _ (Nat.le_trans hr.below.size hb)
    · exact (hown b hb).1
  have hw : ∀ b, F b → w'.heap[b]? = w.heap[b]? := fun b hb => hx.kept.block b (hr.lt b hb) (fun hh => by
    rcases hh with hh | hh
    · have := hr.lt b hb; omega
    · exact (hown b hh).2.1 hb)
  have hrest : ∀ p ∈ Obs.dels σc σ, p ∈ σ ∧ (∀ q ∈ σc, p.1 ≠ q.1) ∧ chg p.1 = false := fun p hp => by
    obtain ⟨h4, h5⟩ := Obs.mem_dels hp
    have := Obs.allIds_mem h1 p hp
    exact ⟨h4, h5, by simpa using this⟩
  have hblk : ∀ p ∈ Obs.dels σc σ, ∀ g, blk (ρ p.1) = some g → g < w.heap.size ∧ ¬ ownB σc ρ g ∧ ¬ F g := fun p hp g hg => by
    obtain ⟨h4, h5, _⟩ := hrest p hp
    exact ⟨((hr.obs.ok p h4).blk_lt hg).2, fun ⟨q, hq, hb⟩ => hr.obs.apart p h4 q (hin q hq) (h5 q hq) g hg hb, (hr.obs.ok p h4).nF hg⟩
  refine ⟨hr.size, hr.defers, hx.lt, fun b hb => hx.up b (hr.base b hb), fun b hb => ?_, ?_, Nat.le_trans hr.hB hx.kept.size, fun t => (hr.env t).over hx.up hw hx.same, ?_, hr.up, fun p hp g hg => ?_, fun i hi => ?_⟩
  · rcases hx.new b hb with h4 | h4
    · exact hr.new b h4
    · exact .inr (hfr b h4)
  · exact ⟨hx.kept.os.trans hr.below.os, hx.kept.tape.trans hr.below.tape, hx.kept.output.trans hr.below.output, Nat.le_trans hr.below.size hx.kept.size, fun k hk hf => by
      rw [hx.kept.block k (Nat.lt_of_lt_of_le hk hr.below.size) (fun hh => hf (hfr k hh)), hr.below.block k hk hf]⟩
  · have hmix : ∀ p ∈ σ', ∀ q ∈ Obs.dels σc σ, p.1 ≠ q.1 ∧ ∀ g, blk (ρ' p.1) = some g → blk (ρ' q.1) ≠ some g := fun p hp q hq => by
      refine ⟨fun he => ?_, fun g hg hg2 => ?_⟩
      · have := Obs.allIds_mem (Obs.allIds_mem h2 p hp) q hq
        rw [he] at this
        simp at this
      · rw [hx.same _ (hrest q hq).2.2] at hg2
        obtain ⟨h4, h5, _⟩ := hblk q hq g hg2
        rcases hx.own p hp g hg with h6 | h6
        · omega
        · exact h5 h6
    refine ⟨fun p hp => ?_, fun p hp q hq hne g hg => ?_, fun p hp q hq he => ?_⟩
    · rcases Obs.mem_join hp with hp | hp
      · exact hx.obs.ok p hp
      · obtain ⟨q, hq, rfl⟩ := Obs.mem_killP hp
        obtain ⟨h4, h5, h6⟩ := hrest q hq
        refine (hr.obs.ok q h4).over h6 hx.up hw hx.same fun g hg => ?_
        obtain ⟨h7, h8, h9⟩ := hblk q hq g hg
        have hnn : ¬ (w.heap.size ≤ g ∨ ownB σc ρ g) := fun hh => by
          rcases hh with hh | hh
          · omega
          · exact h8 hh
        refine ⟨hx.kept.block g h7 hnn, fun hf => ?_⟩
        rcases hx.new g hf with h10 | h10
        · exact h9 h10
        · exact hnn h10
    · rcases Obs.mem_join hp with hp | hp
      · rcases Obs.mem_join hq with hq | hq
        · exact hx.obs.apart p hp q hq hne g hg
        · obtain ⟨q', hq', rfl⟩ := Obs.mem_killP hq
          exact (hmix p hp q' hq').2 g hg
      · obtain ⟨p', hp', rfl⟩ := Obs.mem_killP hp
        rcases Obs.mem_join hq with hq | hq
        · exact fun he => (hmix q hq p' hp').2 g he hg
        · obtain ⟨q', hq', rfl⟩ := Obs.mem_killP hq
          simp only at hg hne ⊢
          rw [hx.same _ (hrest p' hp').2.2] at hg
          rw [hx.same _ (hrest q' hq').2.2]
          exact hr.obs.apart p' (hrest p' hp').1 q' (hrest q' hq').1 hne g hg
    · rcases Obs.mem_join hp with hp | hp
      · rcases Obs.mem_join hq with hq | hq
        · exact hx.obs.uniq p hp q hq he
        · obtain ⟨q', hq', rfl⟩ := Obs.mem_killP hq
          exact absurd he (hmix p hp q' hq').1
      · obtain ⟨p', hp', rfl⟩ := Obs.mem_killP hp
        rcases Obs.mem_join hq with hq | hq
        · exact absurd he.symm (hmix q hq p' hp').1
        · obtain ⟨q', hq', rfl⟩ := Obs.mem_killP hq
          have := hr.obs.uniq p' (hrest p' hp').1 q' (hrest q' hq').1 he
          rw [this]
  · rcases Obs.mem_join hp with hp | hp
    · exact hfr g (hx.own p hp g hg)
    · obtain ⟨q, hq, rfl⟩ := Obs.mem_killP hp
      simp only at hg
      rw [hx.same _ (hrest q hq).2.2] at hg
      exact hr.kown q (hrest q hq).1 g hg
  · have : chg i = false := by
      cases hc : chg i with
      | false => rfl
      | true => rw [h3 i hc] at hi; simp at hi
    rw [hx.same i this]
    exact hr.fixed i hi

def ArgsS (e : Env) : List Operand → List S → Prop
  | [], [] => True
  | x :: xs, s :: ss => SLe (e.ev x) s ∧ ArgsS e xs ss
  | _, _ => False
theorem ArgsS.nil {e : Env} : ArgsS e [] [] := trivial
theorem ArgsS.cons {e : Env} {x : Operand} {s : S} {xs : List Operand} {ss : List S} (h : SLe (e.ev x) s) (k : ArgsS e xs ss) : ArgsS e (x :: xs) (s :: ss) := ⟨h, k⟩
theorem ArgsS.rep {e : Env} {F : Nat → Prop} {ρ : Nat → Value} {w : World} {a : Act} (ha : ∀ t, RepS F ρ w (a.tmps.getD t undef) (e t)) : ∀ {xs : List Operand} {ss : List S}, ArgsS e xs ss → RepSL F ρ w (xs.map a.eval) ss
  | [], [], _ => ⟨rfl, fun i h => absurd h (by simp)⟩
  | x :: xs, s :: ss, h => by
    have h1 := ArgsS.rep ha h.2
    refine ⟨by simp [h1.1], fun i h2 h3 => ?_⟩
    cases i with
    | zero => exact h.1 _ _ _ _ (ev_rep fun t _ => ha t)
    | succ i => exact h1.2 i (by simpa using h2) (by simpa using h3)
  | [], _ :: _, h => h.elim
  | _ :: _, [], h => h.elim

section
variable {cx : Cx} {ops : Array Oper} {o : Oper} {rest : List Oper} {e : Env} {σ : Obs} {Q : Post}
theorem AOps.callX {f : FuncId} {xs : List Operand} {ts : Array TypeId} {ss : List S} {σc σ' : Obs} {chg : Nat → Bool} {d : D} (hg : o.guard = none) (hd : DstOk cx.N o)
    (ho : o.op = .call { callee := .value (.func f), args := xs.toArray, argTypes := ts }) (ha : ArgsS e xs ss) (h : XCall cx.P f ss σc σ' chg d) (hin : AllIn σ σc)
    (h1 : Obs.allIds (fun i => !(chg i)) (Obs.dels σc σ) = true) (h2 : Obs.allIds (fun i => Obs.allIds (fun j => !(Nat.beq i j)) (Obs.dels σc σ)) σ' = true) (h3 : ∀ i, chg i = true → cx.fixp i = false)
    (k : AOps cx ops rest ((e.killP chg).put o.dst (.d d)) (Obs.join σ' (Obs.killP chg (Obs.dels σc σ))) Q) : AOps cx ops (o :: rest) e σ Q := by
  intro a w ⟨F, ρ, hr⟩
  have h4 := h.2 F ρ cx.B w _ hr.lt hr.hB (hr.obs.sub hin.mem) (ArgsS.rep hr.env ha)
  have h5 := h.1 (xs.map a.eval).toArray w
  have hx : (execOp a.eval o).run cx.P w = .ok (.enter f (xs.map a.eval).toArray) w := by
    unfold execOp
    simp only [ho, resolve, Deferred.ofValue, Act.eval, invoke, Sem.run_bind, Sem.run_pure, Result.andThen_ok]
    simpa using h5
  refine wpList_plain hg fun K hK => ?_
  unfold Oper.wp
  rw [hx]
  refine h4.mono fun _ w' ⟨v, F', ρ', he, hv, hE⟩ => ?_
  subst he
  exact hK _ _ (k _ _ ⟨F', ρ', (hr.after hin.mem hE h1 h2 h3).put (Ext.refl hE.lt) (.d hv) hd⟩)
end

end Go.Proofs.YtieccphckobhjaaGreatDoor


namespace Go.Proofs.YtieccphckobhjaaGreatDoor
open Go.RowKit
section
variable {P : Program} {B : Nat} {ops : Array Oper} {o : Oper} {e : Env} {σ : Obs}
theorem eqGuard_bool (op : BinOp) (t : TypeId) (x y : Operand) (a b : Bool) (w : World) : (eqGuard op t x y (.bool a) (.bool b)).run P w = .ok () w := by
  unfold eqGuard; cases op <;> rfl
theorem AOp.bneq {t ty : TypeId} {x y : Operand} {a b : Bool} (ho : o.op = .binOp .neq t x y ty) (ht : P.underlying t = some .bool) (hx : e.ev x = .d (.v (.bool a))) (hy : e.ev y = .d (.v (.bool b))) :
    AOp P B ops o e σ (.d (.v (.bool (decide (a ≠ b))))) := .bin ho hx hy fun w => by
  rw [Sem.run_bind, eqGuard_bool]
  have h : (Op.equal t (.bool a) (.bool b)).run P w = .ok (a == b) w := run_equalIn_bool w 9999 t a b ht
  simp only [Result.andThen_ok, binOp, Sem.run_bind, h, Sem.run_pure]
  cases a <;> cases b <;> rfl
theorem eqGuard_ptr (op : BinOp) (t : TypeId) (x y : Operand) (a b : Option Addr) (w : World) : (eqGuard op t x y (.pointer a) (.pointer b)).run P w = .ok () w := by
  unfold eqGuard; cases op <;> rfl
theorem run_equal_nil {t el : TypeId} (w : World) (a : Option Addr) (ht : P.underlying t = some (.pointer el)) : (Op.equal t (.pointer a) (.pointer none)).run P w = .ok a.isNone w := by
  unfold Op.equal Op.equalIn
  simp only [Op.maxDepth, Sem.run_bind, run_underlying ht, Result.andThen_ok]
  cases a <;> rfl
/-- nil != nil. -/
theorem AOp.nilNe {t ty el : TypeId} {x y : Operand} (ho : o.op = .binOp .neq t x y ty) (ht : P.underlying t = some (.pointer el)) (hx : e.ev x = .d (.v (.pointer none))) (hy : e.ev y = .d (.v (.pointer none))) :
    AOp P B ops o e σ (.d (.v (.bool false))) := .bin ho hx hy fun w => by
  rw [Sem.run_bind, eqGuard_ptr]
  simp only [Result.andThen_ok, binOp, Sem.run_bind, run_equal_nil w none ht, Sem.run_pure]
  rfl
/-- A pointer to data != nil. -/
theorem AOp.fpNe {t ty el : TypeId} {x y : Operand} {ds : List D} (ho : o.op = .binOp .neq t x y ty) (ht : P.underlying t = some (.pointer el)) (hx : e.ev x = .d (.fp ds)) (hy : e.ev y = .d (.v (.pointer none))) :
    AOp P B ops o e σ (.d (.v (.bool true))) := .value fun F ρ w a hF hr _ => by
  have h1 := hr x (by rw [ho]; simp [Op.operands])
  have h2 := hr y (by rw [ho]; simp [Op.operands])
  rw [hx] at h1
  rw [hy] at h2
  have h3 := repS_d h1
  refine ⟨.bool true, F, w, ?_, .d (.v _), Ext.refl hF⟩
  unfold execOp
  simp only [ho, repS_v h2]
  generalize a.eval x = v at h3
  cases h3
  rw [Sem.run_bind, Sem.run_bind, eqGuard_ptr]
  simp only [Result.andThen_ok, binOp, Sem.run_bind, run_equal_nil w _ ht, Sem.run_pure]
  rfl
theorem AOp.nilCheck {x : Operand} {ds : List D} (ho : o.op = .nilCheck x) (hx : e.ev x = .d (.fp ds)) : AOp P B ops o e σ (.d (.fp ds)) := .value fun F ρ w a hF hr _ => by
  have h1 := hr x (by rw [ho]; simp [Op.operands])
  rw [hx] at h1
  have h3 := repS_d h1
  refine ⟨a.eval x, F, w, ?_, .d h3, Ext.refl hF⟩
  unfold execOp
  simp only [ho]
  generalize a.eval x = v at h3
  cases h3
  rfl
end
end Go.Proofs.YtieccphckobhjaaGreatDoor


namespace Go.Proofs.YtieccphckobhjaaGreatDoor
open Go.RowKit

def u8D (c : UInt8) : List D := [.v (.int .u8 (c.toNat : Int))]
def u32D (n : Nat) : List D := [.v (.int .u32 (n : Int))]
def intD (n : Int) : List D := [.v (.int .i64 n)]

section
variable {P : Program} {B : Nat} {ops : Array Oper} {o : Oper} {e : Env} {σ : Obs}
end
end Go.Proofs.YtieccphckobhjaaGreatDoor


namespace Go.Proofs.YtieccphckobhjaaGreatDoor
open Go.ChangeShapes Go.WideShapes Go.ChangeAt Go.RowKit

theorem blk_append {H : Type} (l r : List (DataW H)) : Rows.uptoBulkAll (l ++ r) = Rows.uptoBulkAll l + Rows.uptoBulkAll r := by
  induction l with
  | nil => simp [Rows.uptoBulkAll]
  | cons x l ih => simp only [List.cons_append, Rows.uptoBulkAll, ih]; omega
def sumOf {α : Type} (B : α → Nat) : List α → Nat
  | [] => 0
  | x :: l => B x + sumOf B l
theorem sumOf_append {α : Type} (B : α → Nat) (l r : List α) : sumOf B (l ++ r) = sumOf B l + sumOf B r := by
  induction l with
  | nil => simp [sumOf]
  | cons x l ih => simp only [List.cons_append, sumOf, ih]; omega
theorem cells?_all {w : World} {base n : Nat} {ad : Addr} {cs : List Value} (h : w.cells? base ad n = some cs) : cs.length = n ∧ ∀ j (hj : j < cs.length), w.cell? (ad.add j) = some cs[j] := by
  unfold World.cells? at h
  split at h
  · have hl := mapM_some_length h
    simp at hl
    refine ⟨hl, fun j hj => ?_⟩
    have h2 := mapM_some_get h j j (by rw [List.getElem?_range (by omega)])
    rw [h2, List.getElem?_eq_getElem hj]
  · cases h

/-- All blocks that are there. -/
abbrev allF (w : World) : Nat → Prop := fun b => b < w.heap.size

/-- A reading of the type t is one of enc. -/
structure Opens {α : Type} (P : Program) (t size : Nat) (enc : α → List D) (ok : α → Prop) (B : α → Nat) : Prop where
  len : ∀ y, (enc y).length = size
  get : ∀ {H : Type} {encH : TypeId × Value → H} {w : World} {n : Nat} {cs : List Value} {x : DataW H × List MemPlace}, DataW.trod encH P w 0 (fun _ => true) true n t cs = some x → cs.length = size →
    ∃ y, ok y ∧ RepL (allF w) w cs (enc y) ∧ (∀ u ∈ cs, u.oneCell' = true) ∧ B y ≤ Rows.uptoBulk x.1

theorem Opens.map {α β : Type} {P : Program} {t size : Nat} {enc : α → List D} {ok : α → Prop} {B : α → Nat} {enc' : β → List D} {ok' : β → Prop} {B' : β → Nat} (O : Opens P t size enc ok B) (f : α → β) (h : ∀ y, enc' (f y) = enc y) (hl : ∀ y, (enc' y).length = size) (ho : ∀ y, ok y → ok' (f y)) (hb : ∀ y, B' (f y) ≤ B y) :
    Opens P t size enc' ok' B' :=
  ⟨hl, fun hx hc => by
    obtain ⟨y, h1, h2, h3, h4⟩ := O.get hx hc
    exact ⟨f y, ho y h1, by rw [h]; exact h2, h3, Nat.le_trans (hb y) h4⟩⟩

section
variable {P : Program} {t : Nat}
theorem opens_i64 (ht : P.underlying t = some (.int .i64)) : Opens P t 1 intD (fun n => -9223372036854775808 ≤ n ∧ n ≤ 9223372036854775807) (fun _ => 1) :=
  ⟨fun _ => rfl, fun hx _ => by
    obtain ⟨n, rfl, rfl, h1⟩ := DataW.trod_int ht hx
    have h2 : -9223372036854775808 ≤ n ∧ n ≤ 9223372036854775807 := by simpa [Lit.wf, IntKind.min, IntKind.max, IntKind.signed, IntKind.bits] using h1
    exact ⟨n, h2, RepL.cons (.v _) RepL.nil, fun u hu => by simp at hu; rw [hu]; rfl, by simp [Rows.uptoBulk]⟩⟩
def boolD (b : Bool) : List D := [.v (.bool b)]
def strD (s : ByteArray) : List D := [.v (.string s)]
theorem opens_str (ht : P.underlying t = some .string) : Opens P t 1 strD (fun s => s.size ≤ 9223372036854775807) (fun s => s.size + 1) :=
  ⟨fun _ => rfl, fun hx _ => by
    obtain ⟨s, rfl, rfl, h1⟩ := DataW.trod_string ht hx
    refine ⟨s, by unfold maxLen at h1; omega, RepL.cons (.v _) RepL.nil, fun u hu => by simp at hu; rw [hu]; rfl, ?_⟩
    simp only [Rows.uptoBulk, Array.length_toList]
    exact Nat.le_refl _⟩

def slD {α : Type} (enc : α → List D) (l : List α) : List D := [.sl (l.map enc)]
theorem opens_slice {α : Type} {e size : Nat} {enc : α → List D} {ok : α → Prop} {B : α → Nat} (ht : P.underlying t = some (.slice e)) (hc : P.cellsOf e = size) (hs : 0 < size) (O : Opens P e size enc ok B) :
    Opens P t 1 (slD enc) (fun l => ∀ y ∈ l, ok y) (fun l => sumOf B l + 1) :=
  ⟨fun _ => rfl, fun {H encH w n cs x} hx _ => by
    rcases DataW.trod_slice ht hx with ⟨rfl, rfl⟩ | ⟨a, len, cap, elems, rest, n', _, rfl, rfl, _, hl, hm, hlen, hel, _, _⟩
    · exact ⟨[], fun y hy => by simp at hy, RepL.cons .nil RepL.nil, fun u hu => by simp at hu; rw [hu]; rfl, by simp [sumOf, Rows.uptoBulk]⟩
    · have each : ∀ m, m ≤ len → ∃ l : List α, l.length = m ∧ (∀ y ∈ l, ok y) ∧ (∀ i (hi : i < l.length), ∃ cs : List Value, cs.length = size ∧ (∀ j (hj : j < cs.length), w.cell? ((a.add (i * size)).add j) = some cs[j]) ∧ RepL (allF w) w cs (enc l[i]) ∧ ∀ u ∈ cs, u.oneCell' = true) ∧
          sumOf B l ≤ Rows.uptoBulkAll ((elems.take m).map (·.1)) := by
        intro m
        induction m with
        | zero => intro _; exact ⟨[], rfl, fun y hy => by simp at hy, fun i hi => absurd hi (by simp), by simp [sumOf]⟩
        | succ m ih =>
          intro hm1
          obtain ⟨l, h1, h2, h3, h4⟩ := ih (by omega)
          have hme : m < elems.length := by omega
          have hh := hel m (by omega)
          rw [hc, List.getElem?_eq_getElem hme, Option.bind_eq_some_iff] at hh
          obtain ⟨cs, hcs, htr⟩ := hh
          obtain ⟨hcl, hcg⟩ := cells?_all hcs
          obtain ⟨y, hy1, hy2, hy3, hy4⟩ := O.get htr hcl
          refine ⟨l ++ [y], by simp [h1], fun z hz => ?_, fun i hi => ?_, ?_⟩
          · rw [List.mem_append] at hz
            rcases hz with hz | hz
            · exact h2 z hz
            · simp at hz; rw [hz]; exact hy1
          · rw [List.length_append, List.length_singleton] at hi
            by_cases hlt : i < l.length
            · rw [List.getElem_append_left hlt]; exact h3 i hlt
            · have he : i = m := by omega
              subst he
              refine ⟨cs, hcl, hcg, ?_, hy3⟩
              rw [List.getElem_append_right (by omega)]
              simpa using hy2
          · rw [List.take_succ_eq_append_getElem hme, List.map_append, blk_append, sumOf_append]
            simp only [sumOf, List.map_cons, List.map_nil, Rows.uptoBulkAll]
            omega
      obtain ⟨l, h1, h2, h3, h4⟩ := each len (Nat.le_refl _)
      have h6 : elems.take len = elems := List.take_of_length_le (by omega)
      rw [h6] at h4
      refine ⟨l, h2, RepL.cons ?_ RepL.nil, fun u hu => by simp at hu; rw [hu]; rfl, by simp only [Rows.uptoBulk]; omega⟩
      have hch : ∀ i : Nat, ∃ cs : List Value, ∀ (hi : i < l.length), cs.length = size ∧ (∀ j (hj : j < cs.length), w.cell? ((a.add (i * size)).add j) = some cs[j]) ∧ RepL (allF w) w cs (enc l[i]) ∧ ∀ u ∈ cs, u.oneCell' = true := fun i => by
        by_cases hi : i < l.length
        · obtain ⟨cs, h⟩ := h3 i hi; exact ⟨cs, fun _ => h⟩
        · exact ⟨[], fun h => absurd h hi⟩
      let f : Nat → List Value := fun i => Classical.choose (hch i)
      have hf : ∀ i (hi : i < l.length), (f i).length = size ∧ (∀ j (hj : j < (f i).length), w.cell? ((a.add (i * size)).add j) = some (f i)[j]) ∧ RepL (allF w) w (f i) (enc l[i]) ∧ ∀ u ∈ f i, u.oneCell' = true := fun i hi => Classical.choose_spec (hch i) hi
      have hll : (l.map enc).length = len := by simp [h1]
      have := Rep.sl (F := allF w) (w := w) a cap size (l.map enc) (fun i j => (f i).getD j undef) (by omega) (by unfold maxLen at hm; omega) (fun h0 => by
          rw [List.length_map] at h0
          obtain ⟨g1, g2, _⟩ := hf 0 h0
          have h7 := World.block_lt_of_cell? w _ (g2 0 (by omega))
          rw [addr_block, addr_block] at h7
          exact h7) (fun i hi => by rw [List.getElem_map]; exact O.len _) (fun i j hi hj => by
          rw [List.length_map] at hi
          obtain ⟨g1, g2, _⟩ := hf i hi
          rw [← addr_add_add, g2 j (by omega), List.getD_eq_getElem?_getD, List.getElem?_eq_getElem (by omega), Option.getD_some]) (fun i j hi hj => by
          rw [List.length_map] at hi
          obtain ⟨g1, _, _, g4⟩ := hf i hi
          rw [List.getD_eq_getElem?_getD, List.getElem?_eq_getElem (by omega), Option.getD_some]
          exact g4 _ (List.getElem_mem _)) (fun i hi j hj => by
          rw [List.length_map] at hi
          obtain ⟨g1, _, g3, _⟩ := hf i hi
          simp only [List.getElem_map] at hj ⊢
          have hj' : j < (f i).length := by rw [g3.1]; exact hj
          rw [List.getD_eq_getElem?_getD, List.getElem?_eq_getElem hj', Option.getD_some]
          exact g3.2 j hj' hj)
      rw [hll] at this
      exact this⟩

/-- A struct's fields, from one on. -/
structure OpensF {α : Type} (P : Program) (fs : List (Nat × Nat × Nat)) (off total : Nat) (enc : α → List D) (ok : α → Prop) (B : α → Nat) : Prop where
  len : ∀ y, off + (enc y).length = total
  get : ∀ {H : Type} {encH : TypeId × Value → H} {w : World} {n : Nat} {cs : List Value} {xs : List (DataW H × List MemPlace)}, cs.length = total → xs.length = fs.length →
    (∀ (i : Nat) (f : Nat × Nat × Nat), fs[i]? = some f → DataW.trod encH P w 0 (fun _ => true) true n f.1 ((cs.drop f.2.1).take f.2.2) = xs[i]?) → ∃ y, ok y ∧ RepL (allF w) w (cs.drop off) (enc y) ∧ (∀ u ∈ cs.drop off, u.oneCell' = true) ∧ B y ≤ Rows.uptoBulkAll (xs.map (·.1))
theorem OpensF.nil {total : Nat} : OpensF (α := Unit) P [] total total (fun _ => []) (fun _ => True) (fun _ => 0) :=
  ⟨fun _ => rfl, fun {H encH w n cs xs} hc _ _ => ⟨(), trivial, by rw [List.drop_eq_nil_of_le (by omega)]; exact RepL.nil, fun u hu => by rw [List.drop_eq_nil_of_le (by omega)] at hu; simp at hu, Nat.zero_le _⟩⟩
theorem OpensF.cons {α β : Type} {ft off size total : Nat} {fs : List (Nat × Nat × Nat)} {enc : α → List D} {ok : α → Prop} {B : α → Nat} {enc2 : β → List D} {ok2 : β → Prop} {B2 : β → Nat} (O : Opens P ft size enc ok B) (R : OpensF P fs (off + size) total enc2 ok2 B2) :
    OpensF (α := α × β) P ((ft, off, size) :: fs) off total (fun y => enc y.1 ++ enc2 y.2) (fun y => ok y.1 ∧ ok2 y.2) (fun y => B y.1 + B2 y.2) :=
  ⟨fun y => by have := R.len y.2; rw [List.length_append, O.len]; omega, fun {H encH w n cs xs} hc hl h => by
    rcases xs with _ | ⟨x, xs⟩
    · simp at hl
    have h0 := h 0 (ft, off, size) rfl
    simp only [List.getElem?_cons_zero] at h0
    obtain ⟨y2, k1, k2, k3, k4⟩ := R.get (encH := encH) (w := w) (n := n) (xs := xs) hc (by simpa using hl) (fun i f hf => by
      have := h (i + 1) f (by simpa using hf)
      simpa using this)
    have hle := R.len y2
    obtain ⟨y1, g1, g2, g3, g4⟩ := O.get h0 (by rw [List.length_take, List.length_drop]; omega)
    have hsplit : cs.drop off = (cs.drop off).take size ++ cs.drop (off + size) := by
      rw [← List.drop_drop]; exact (List.take_append_drop size (cs.drop off)).symm
    refine ⟨(y1, y2), ⟨g1, k1⟩, ?_, fun u hu => ?_, ?_⟩
    · rw [hsplit]; exact g2.append k2
    · rw [hsplit, List.mem_append] at hu
      rcases hu with hu | hu
      · exact g3 u hu
      · exact k3 u hu
    · simp only [List.map_cons, Rows.uptoBulkAll]; omega⟩

def structF (P : Program) (t total : Nat) (fs : List (Nat × Nat × Nat)) : Bool :=
  match P.underlying t with
  | some (.struct gs) => gs.size == fs.length && (gs.toList.zip fs).all (fun (g, f) => g.type == f.1 && g.offset == f.2.1 && P.cellsOf g.type == f.2.2) && P.cellsOf t == total
  | _ => false
theorem opens_struct {α : Type} {total : Nat} {fs : List (Nat × Nat × Nat)} {enc : α → List D} {ok : α → Prop} {B : α → Nat} (hb : structF P t total fs = true) (O : OpensF P fs 0 total enc ok B) : Opens P t total enc ok (fun y => B y + 1) :=
  ⟨fun y => by have := O.len y; omega, fun {H encH w n cs x} hx hc => by
    unfold structF at hb
    split at hb
    · rename_i gs hu
      simp only [Bool.and_eq_true, beq_iff_eq, List.all_eq_true] at hb
      obtain ⟨⟨h1, h2⟩, h3⟩ := hb
      obtain ⟨xs, n', _, rfl, _, hl, hf⟩ := DataW.trod_struct hu hx
      obtain ⟨y, k1, k2, k3, k4⟩ := O.get (encH := encH) (w := w) (n := n') (cs := cs) (xs := xs) hc (by omega) (fun i f hf' => by
        have hi : i < fs.length := (List.getElem?_eq_some_iff.1 hf').1
        have hfe : fs[i] = f := (List.getElem?_eq_some_iff.1 hf').2
        have hi' : i < gs.size := by omega
        have h4 := h2 (gs[i], f) (by
          rw [List.mem_iff_getElem]
          exact ⟨i, by simp; omega, by simp [hfe]⟩)
        simp only at h4
        have h5 := hf i gs[i] (by simp [hi'])
        rw [h4.2, h4.1.1, h4.1.2] at h5
        exact h5)
      rw [List.drop_zero] at k2 k3
      exact ⟨y, k1, k2, k3, by simp only [Rows.uptoBulk]; omega⟩
    · simp at hb⟩

theorem one_of {F : Nat → Prop} {w : World} {v : Value} {d : D} (h : RepL F w v.cells.toList [d]) (hc : v.cells = #[v]) : Rep F w v d := by
  rw [hc] at h
  exact h.2 0 (by simp) (by simp)
theorem agg_of {F : Nat → Prop} {w : World} {cs : Array Value} {ds : List D} (h : RepL F w (Value.agg cs).cells.toList ds) (h1 : ∀ u ∈ (Value.agg cs).cells.toList, u.oneCell' = true) : Rep F w (.agg cs) (.agg ds) := by
  have e : cs = cs.toList.toArray := by simp
  rw [e]
  exact .agg _ _ h.1 (fun i hi => h1 _ (List.getElem_mem hi)) h.2

/-- An argument that came in. -/
theorem Opens.arg {α : Type} {size : Nat} {enc : α → List D} {ok : α → Prop} {B : α → Nat} (O : Opens P t size enc ok B) {H : Type} {encH : TypeId × Value → H} {w : World} {v : Value} {d : DataW H} {p : List MemPlace} (h : DataW.Trod encH P w 0 (fun _ => true) true t v d p) (hc : v.cells.size = size) :
    ∃ y, ok y ∧ RepL (allF w) w v.cells.toList (enc y) ∧ (∀ u ∈ v.cells.toList, u.oneCell' = true) ∧ B y ≤ Rows.uptoBulk d := by
  obtain ⟨fuel, hf⟩ := h
  exact O.get hf (by rw [Array.length_toList]; exact hc)
end
end Go.Proofs.YtieccphckobhjaaGreatDoor


namespace Go.Proofs
open Go.Shelf
def Tryz.l160_ren : Go.Shelf.Ren := ⟨fun | 160 => 116 | 232 => 142 | 231 => 141 | 227 => 143 | 234 => 145 | 233 => 144 | 236 => 147 | 235 => 146 | 228 => 173 | 271 => 176 | 151 => 175 | 197 => 174 | 120 => 189 | 152 => 188 | 260 => 187 | 137 => 192 | 119 => 193 | 224 => 194 | 225 => 195 | 217 => 196 | 266 => 197 | n => n, fun | 9 => 9 | 4 => 4 | 3 => 3 | 5 => 5 | 117 => 186 | 116 => 185 | 0 => 0 | 124 => 189 | 21 => 21 | 105 => 209 | 46 => 156 | 119 => 223 | 139 => 226 | 138 => 225 | n => n, fun | 3 => 1 | 4 => 2 | n => n⟩
theorem Tryz.l160 : Go.Proofs.Lays.n160 Tryz.prog Tryz.l160_ren := {
  mixed := by kernel_rfl
  f119 := Tryz.func193.trans (congrArg some (by kernel_rfl))
  f120 := Tryz.func189.trans (congrArg some (by kernel_rfl))
  f137 := Tryz.func192.trans (congrArg some (by kernel_rfl))
  f151 := Tryz.func175.trans (congrArg some (by kernel_rfl))
  f152 := Tryz.func188.trans (congrArg some (by kernel_rfl))
  f160 := Tryz.func116.trans (congrArg some (by kernel_rfl))
  f197 := Tryz.func174.trans (congrArg some (by kernel_rfl))
  f217 := Tryz.func196.trans (congrArg some (by kernel_rfl))
  f224 := Tryz.func194.trans (congrArg some (by kernel_rfl))
  f225 := Tryz.func195.trans (congrArg some (by kernel_rfl))
  f227 := Tryz.func143.trans (congrArg some (by kernel_rfl))
  f228 := Tryz.func173.trans (congrArg some (by kernel_rfl))
  f231 := Tryz.func141.trans (congrArg some (by kernel_rfl))
  f232 := Tryz.func142.trans (congrArg some (by kernel_rfl))
  f233 := Tryz.func144.trans (congrArg some (by kernel_rfl))
  f234 := Tryz.func145.trans (congrArg some (by kernel_rfl))
  f235 := Tryz.func146.trans (congrArg some (by kernel_rfl))
  f236 := Tryz.func147.trans (congrArg some (by kernel_rfl))
  f260 := Tryz.func187.trans (congrArg some (by kernel_rfl))
  f266 := Tryz.func197.trans (congrArg some (by kernel_rfl))
  f271 := Tryz.func176.trans (congrArg some (by kernel_rfl))
  t0 := Tryz.underlying0
  a0 := Tryz.isAgg0
  z0 := Tryz.sizeOf0
  v0 := Tryz.zeroValue0
  t3 := Tryz.underlying3
  a3 := Tryz.isAgg3
  z3 := Tryz.sizeOf3
  v3 := Tryz.zeroValue3
  t4 := Tryz.underlying4
  a4 := Tryz.isAgg4
  z4 := Tryz.sizeOf4
  v4 := Tryz.zeroValue4
  t5 := Tryz.underlying5
  a5 := Tryz.isAgg5
  z5 := Tryz.sizeOf5
  v5 := Tryz.zeroValue5
  t9 := Tryz.underlying9
  a9 := Tryz.isAgg9
  z9 := Tryz.sizeOf9
  v9 := Tryz.zeroValue9
  t21 := Tryz.underlying21
  a21 := Tryz.isAgg21
  z21 := Tryz.sizeOf21
  v21 := Tryz.zeroValue21
  t46 := Tryz.underlying156
  a46 := Tryz.isAgg156
  z46 := Tryz.sizeOf156
  v46 := Tryz.zeroValue156
  t105 := Tryz.underlying209
  a105 := Tryz.isAgg209
  z105 := Tryz.sizeOf209
  v105 := Tryz.zeroValue209
  t116 := Tryz.underlying185
  a116 := Tryz.isAgg185
  z116 := Tryz.sizeOf185
  t117 := Tryz.underlying186
  a117 := Tryz.isAgg186
  z117 := Tryz.sizeOf186
  v117 := Tryz.zeroValue186
  t119 := Tryz.underlying223
  a119 := Tryz.isAgg223
  z119 := Tryz.sizeOf223
  t124 := Tryz.underlying189
  a124 := Tryz.isAgg189
  z124 := Tryz.sizeOf189
  v124 := Tryz.zeroValue189
  t138 := Tryz.underlying225
  a138 := Tryz.isAgg225
  z138 := Tryz.sizeOf225
  v138 := Tryz.zeroValue225
  t139 := Tryz.underlying226
  a139 := Tryz.isAgg226
  z139 := Tryz.sizeOf226
  v139 := Tryz.zeroValue226
  g3 := by kernel_rfl
  g4 := by kernel_rfl }
def Tryz.l106_ren : Go.Shelf.Ren := ⟨fun | 106 => 64 | 213 => 110 | 265 => 138 | n => n, fun | 9 => 9 | 3 => 3 | n => n, fun | n => n⟩
theorem Tryz.l106 : Go.Proofs.Lays.n106 Tryz.prog Tryz.l106_ren := {
  mixed := by kernel_rfl
  f106 := Tryz.func64.trans (congrArg some (by kernel_rfl))
  f213 := Tryz.func110.trans (congrArg some (by kernel_rfl))
  f265 := Tryz.func138.trans (congrArg some (by kernel_rfl))
  t3 := Tryz.underlying3
  a3 := Tryz.isAgg3
  z3 := Tryz.sizeOf3
  v3 := Tryz.zeroValue3
  t9 := Tryz.underlying9
  a9 := Tryz.isAgg9
  z9 := Tryz.sizeOf9
  v9 := Tryz.zeroValue9 }
def Tryz.b21_ren : Go.Shelf.Ren := ⟨fun | 21 => 99 | 27 => 123 | 28 => 124 | 35 => 149 | 39 => 178 | n => n, fun | 22 => 63 | 3 => 3 | 4 => 4 | 0 => 0 | n => n, fun | n => n⟩
end Go.Proofs


namespace Go.Proofs.YtieccphckobhjaaGreatDoor
open Go.RowKit
attribute [local go_sem ↓] run_min_kept run_max_kept

/-- Bytes as values. -/
def u8s (l : List UInt8) : List Value := l.map fun c => .int .u8 (c.toNat : Int)
/-- Sums as values. -/
def u32s (l : List Nat) : List Value := l.map fun (c : Nat) => .int .u32 (c : Int)

def fstep (x : Nat) (c : UInt8) : Nat := ((x ^^^ c.toNat) * 16777619) % 4294967296
def fseed : Nat := 2166136261
def fnv (l : List UInt8) : Nat := l.foldl fstep fseed

end Go.Proofs.YtieccphckobhjaaGreatDoor


namespace Go.Proofs.YtieccphckobhjaaGreatDoor
open Go.RowKit Go.Shelf Go.Lib
attribute [local go_sem ↓] run_min_kept run_max_kept

/-- a to z, 0 to 9, the hyphen. -/
def nameB (b : UInt8) : Bool := (decide (97 ≤ b.toNat) && decide (b.toNat ≤ 122)) || (decide (48 ≤ b.toNat) && decide (b.toNat ≤ 57)) || decide (b.toNat = 45)
def headB (b : UInt8) : Bool := decide (97 ≤ b.toNat) && decide (b.toNat ≤ 122)
/-- What a name is. -/
def isName (l : List UInt8) : Bool := decide (1 ≤ l.length) && decide (l.length ≤ 40) && headB (l.headD 0) && l.all nameB

def letters : List UInt8 := [97, 98, 99, 100, 101, 102, 103, 104, 105, 106, 107, 108, 109, 110, 111, 112, 113, 114, 115, 116, 117, 118, 119, 120, 121, 122, 48, 49, 50, 51, 52, 53, 54, 55, 56, 57, 45]
theorem letters_nat : ∀ n : Fin 256, letters.contains (UInt8.ofNat n.val) = nameB (UInt8.ofNat n.val) := by decide +kernel
theorem letters_eq (b : UInt8) : letters.contains b = nameB b := by
  have := letters_nat ⟨b.toNat, b.toNat_lt⟩
  simpa using this

theorem dropWhile_nil {α : Type} (p : α → Bool) : ∀ l : List α, l.dropWhile p = [] ↔ l.all p = true
  | [] => by simp
  | x :: l => by
    cases h : p x
    · simp [h]
    · simp [h, dropWhile_nil p l]
theorem trim_nil (l : List UInt8) : (Lib.trimS l letters = []) ↔ l.all nameB = true := by
  have hf : (fun b => letters.contains b) = nameB := funext letters_eq
  unfold Lib.trimS Lib.trimLeftS Lib.trimRightS
  rw [dropWhile_nil, hf]
  constructor
  · intro h
    rw [List.all_reverse] at h
    have h2 : (l.reverse.dropWhile nameB) = [] := by
      cases hd : l.reverse.dropWhile nameB with
      | nil => rfl
      | cons x r =>
        have h3 := List.head?_dropWhile_not nameB l.reverse
        rw [hd] at h h3
        simp at h h3
        rw [h.1] at h3
        cases h3
    rw [dropWhile_nil, List.all_reverse] at h2
    exact h2
  · intro h
    have : l.reverse.dropWhile nameB = [] := by rw [dropWhile_nil, List.all_reverse]; exact h
    rw [this]; rfl

set_option maxHeartbeats 800000 in
theorem pName_any (s : ByteArray) (w : World) (hs : s.size ≤ 9223372036854775807) :
    Calls Tryz.prog 84 #[.string s] w fun e w' => e = .returned (.bool (isName s.data.toList)) ∧ Below w.heap.size w w' := by
  have hl : s.data.toList.length = s.size := by rw [Array.length_toList]; rfl
  by_cases h0 : s.size < 1
  · have HR := Lib.hid (show isName s.data.toList = false by unfold isName; rw [hl]; simp; omega)
    clear hl
    go_enter Tryz.func84, Tryz.ntmps84
    go_wp2_with fail
    go_ret
    exact ⟨by rw [HR.out]; rfl, Below.refl _ _⟩
  by_cases h1 : 40 < s.size
  · have HR := Lib.hid (show isName s.data.toList = false by unfold isName; rw [hl]; simp; omega)
    clear hl
    go_enter Tryz.func84, Tryz.ntmps84
    go_wp2_with fail
    go_ret
    exact ⟨by rw [HR.out]; rfl, Below.refl _ _⟩
  have hp : 0 < s.size := by omega
  have hh : s.data.toList.headD 0 = s[0] := by
    obtain ⟨⟨l⟩⟩ := s
    cases l with
    | nil => simp [ByteArray.size] at hp
    | cons x r => rfl
  have hlen : (decide (1 ≤ s.data.toList.length) && decide (s.data.toList.length ≤ 40)) = true := by rw [hl]; simp; omega
  have hname : isName s.data.toList = (headB s[0] && s.data.toList.all nameB) := by unfold isName; rw [hlen, hh, Bool.true_and]
  clear hl hlen hh
  by_cases ha : s[0].toNat < 97
  · have HR := Lib.hid (show isName s.data.toList = false by rw [hname]; unfold headB; simp; omega)
    clear hname
    go_enter Tryz.func84, Tryz.ntmps84
    go_wp2_with fail
    go_ret
    exact ⟨by rw [HR.out]; rfl, Below.refl _ _⟩
  by_cases hb : 122 < s[0].toNat
  · have HR := Lib.hid (show isName s.data.toList = false by rw [hname]; unfold headB; simp; omega)
    clear hname
    go_enter Tryz.func84, Tryz.ntmps84
    go_wp2_with fail
    go_ret
    exact ⟨by rw [HR.out]; rfl, Below.refl _ _⟩
  have hhd : headB s[0] = true := by unfold headB; simp; omega
  rw [hhd, Bool.true_and] at hname
  have hlet : (⟨letters.toArray⟩ : ByteArray).size < 4294967281 := by decide
  have hcon := Any.strings_Trim_laid Tryz.l160 (by kernel_rfl) s ⟨letters.toArray⟩ w hs hlet (ascii_of_all (by decide))
  change Calls Tryz.prog 116 #[.string s, .string ⟨#[97, 98, 99, 100, 101, 102, 103, 104, 105, 106, 107, 108, 109, 110, 111, 112, 113, 114, 115, 116, 117, 118, 119, 120, 121, 122, 48, 49, 50, 51, 52, 53, 54, 55, 56, 57, 45]⟩] w (fun e w' => e = .returned (.string ⟨(Lib.trimS s.data.toList letters).toArray⟩) ∧ Below w.heap.size w w') at hcon
  have ha' : 97 ≤ s[0].toNat := by omega
  have hb' : s[0].toNat ≤ 122 := by omega
  by_cases hall : s.data.toList.all nameB = true
  · have HR := Lib.hid (hname.trans hall)
    rw [(trim_nil s.data.toList).2 hall] at hcon
    have HC := Lib.hid hcon
    clear hname hall hcon hhd
    go_enter Tryz.func84, Tryz.ntmps84
    go_wp2_with fail
    refine HC.out.mono ?_
    rintro e w' ⟨rfl, hbel⟩
    go_wp2_with fail
    go_ret
    exact ⟨by rw [HR.out]; rfl, hbel⟩
  · have hne : (⟨(Lib.trimS s.data.toList letters).toArray⟩ : ByteArray) ≠ ⟨#[]⟩ := by
      intro h
      apply hall
      rw [← trim_nil]
      injection h with h
      simpa using h
    have HR := Lib.hid (hname.trans (by simpa using hall))
    have hneb : (⟨(Lib.trimS s.data.toList letters).toArray⟩ : ByteArray).toList.isEmpty = false := by
      rw [ByteArray.toList_eq]
      cases hl : (⟨(Lib.trimS s.data.toList letters).toArray⟩ : ByteArray).data.toList with
      | nil => exact absurd (by simp at hl; rw [hl]) hne
      | cons _ _ => rfl
    generalize (⟨(Lib.trimS s.data.toList letters).toArray⟩ : ByteArray) = r at *
    have HC := Lib.hid hcon
    clear hname hall hcon hhd
    go_enter Tryz.func84, Tryz.ntmps84
    go_wp2_with fail
    refine HC.out.mono ?_
    rintro e w' ⟨rfl, hbel⟩
    go_wp2_with fail
    go_ret
    exact ⟨by rw [HR.out]; rfl, hbel⟩
end Go.Proofs.YtieccphckobhjaaGreatDoor


namespace Go.Proofs.YtieccphckobhjaaGreatDoor
open Go.RowKit Go.Shelf
attribute [local go_sem ↓] run_min_kept run_max_kept

theorem bytes_at (s : ByteArray) (k : Nat) (h : k < s.size) : s.data.toList[k]'(by rw [Array.length_toList]; exact h) = s[k] := by
  rw [Array.getElem_toList]; rfl
theorem all_take (l : List UInt8) (k : Nat) (h : k < l.length) (p : UInt8 → Bool) (h1 : (l.take k).all p = true) (h2 : p l[k] = true) : (l.take (k + 1)).all p = true := by
  rw [List.take_succ_eq_append_getElem h, List.all_append, h1]; simp [h2]
theorem all_bad (l : List UInt8) (k : Nat) (h : k < l.length) (p : UInt8 → Bool) (h2 : p l[k] = false) : l.all p = false := by
  rw [List.all_eq_false]; exact ⟨l[k], List.getElem_mem h, by simp [h2]⟩

set_option maxHeartbeats 1600000 in
theorem rName_any (s : ByteArray) (w : World) (hs : s.size ≤ 9223372036854775807) :
    Calls Tryz.prog 120 #[.string s] w fun e w' => e = .returned (.bool (isName s.data.toList)) ∧ Below w.heap.size w w' := by
  have hl : s.data.toList.length = s.size := by rw [Array.length_toList]; rfl
  by_cases h0 : s.size < 1
  · have HR := Lib.hid (show isName s.data.toList = false by unfold isName; rw [hl]; simp; omega)
    have he : s.toList.isEmpty = true := by
      rw [ByteArray.toList_eq]
      cases hh : s.data.toList with
      | nil => rfl
      | cons _ _ => rw [hh] at hl; simp at hl; omega
    clear hl
    go_enter Tryz.func120, Tryz.ntmps120
    go_wp2_with fail
    go_ret
    exact ⟨by rw [HR.out]; rfl, Below.refl _ _⟩
  have he : s.toList.isEmpty = false := by
    rw [ByteArray.toList_eq]
    cases hh : s.data.toList with
    | nil => rw [hh] at hl; simp at hl; omega
    | cons _ _ => rfl
  by_cases h1 : 40 < s.size
  · have HR := Lib.hid (show isName s.data.toList = false by unfold isName; rw [hl]; simp; omega)
    clear hl
    go_enter Tryz.func120, Tryz.ntmps120
    go_wp2_with fail
    go_ret
    exact ⟨by rw [HR.out]; rfl, Below.refl _ _⟩
  have hp : 0 < s.size := by omega
  have hh : s.data.toList.headD 0 = s[0] := by
    obtain ⟨⟨l⟩⟩ := s
    cases l with
    | nil => simp [ByteArray.size] at hp
    | cons x r => rfl
  have hlen : (decide (1 ≤ s.data.toList.length) && decide (s.data.toList.length ≤ 40)) = true := by rw [hl]; simp; omega
  have hname : isName s.data.toList = (headB s[0] && s.data.toList.all nameB) := by unfold isName; rw [hlen, hh, Bool.true_and]
  clear hlen hh
  by_cases ha : s[0].toNat < 97
  · have HR := Lib.hid (show isName s.data.toList = false by rw [hname]; unfold headB; simp; omega)
    clear hname hl
    go_enter Tryz.func120, Tryz.ntmps120
    go_wp2_with fail
    go_ret
    exact ⟨by rw [HR.out]; rfl, Below.refl _ _⟩
  by_cases hb : 122 < s[0].toNat
  · have HR := Lib.hid (show isName s.data.toList = false by rw [hname]; unfold headB; simp; omega)
    clear hname hl
    go_enter Tryz.func120, Tryz.ntmps120
    go_wp2_with fail
    go_ret
    exact ⟨by rw [HR.out]; rfl, Below.refl _ _⟩
  have hhd : headB s[0] = true := by unfold headB; simp; omega
  rw [hhd, Bool.true_and] at hname
  have ha' : 97 ≤ s[0].toNat := by omega
  have hb' : s[0].toNat ≤ 122 := by omega
  have HN := Lib.hid hname
  have HL := Lib.hid hl
  clear hname hl hhd ha hb
  go_enter Tryz.func120, Tryz.ntmps120
  go_wp2_with fail
  go_loopw [24] (fun i wr => ∃ k : Nat, k ≤ s.size ∧ i = .int .i64 k ∧ (s.data.toList.take k).all nameB = true ∧ Below w.heap.size w wr) (fun i _ => s.size - (intOf i).toNat)
  case atStart => exact ⟨0, Nat.zero_le _, rfl, by simp, Below.refl _ _⟩
  case round =>
    obtain ⟨k, hk, rfl, htake, hbel0⟩ := hrel
    have HBL := Lib.hid hbel0
    clear hbel0
    have HT := Lib.hid htake
    clear htake
    by_cases hlt : k < s.size
    · have hkl : k < s.data.toList.length := by rw [HL.out]; exact hlt
      have HG := Lib.hid (fun h2 => all_take s.data.toList k hkl nameB HT.out (by rw [bytes_at s k hlt]; exact h2))
      have HB := Lib.hid (fun h2 => (HN.out.trans (all_bad s.data.toList k hkl nameB (by rw [bytes_at s k hlt]; exact h2))))
      have hb256 : (s[k]'hlt).toNat < 256 := (s[k]'hlt).toNat_lt
      clear hkl
      by_cases hu0 : s[k].toNat < 45
      · have q0 : (s[k].toNat : Int) < 97 := by omega
        have q1 : (s[k].toNat : Int) ≤ 122 := by omega
        have q2 : (s[k].toNat : Int) < 48 := by omega
        have q3 : (s[k].toNat : Int) ≤ 57 := by omega
        have q4 : ((s[k].toNat : Int) != 45) = true := by simp; omega
        have HQ := Lib.hid (HB.out (by unfold nameB; simp; omega))
        clear HB HG
        go_wp2_with fail
        go_ret
        exact ⟨by rw [HQ.out]; rfl, HBL.out⟩
      by_cases hu1 : s[k].toNat < 46
      · have q0 : (s[k].toNat : Int) < 97 := by omega
        have q1 : (s[k].toNat : Int) ≤ 122 := by omega
        have q2 : (s[k].toNat : Int) < 48 := by omega
        have q3 : (s[k].toNat : Int) ≤ 57 := by omega
        have q4 : ((s[k].toNat : Int) != 45) = false := by simp; omega
        have HQ := Lib.hid (HG.out (by unfold nameB; simp; omega))
        clear HB HG
        go_wp2_with fail
        go_roundw
        case rel => exact ⟨k + 1, by omega, by go_num, HQ.out, HBL.out⟩
        case measure => simp [intOf]; omega
      by_cases hu2 : s[k].toNat < 48
      · have q0 : (s[k].toNat : Int) < 97 := by omega
        have q1 : (s[k].toNat : Int) ≤ 122 := by omega
        have q2 : (s[k].toNat : Int) < 48 := by omega
        have q3 : (s[k].toNat : Int) ≤ 57 := by omega
        have q4 : ((s[k].toNat : Int) != 45) = true := by simp; omega
        have HQ := Lib.hid (HB.out (by unfold nameB; simp; omega))
        clear HB HG
        go_wp2_with fail
        go_ret
        exact ⟨by rw [HQ.out]; rfl, HBL.out⟩
      by_cases hu3 : s[k].toNat < 58
      · have q0 : (s[k].toNat : Int) < 97 := by omega
        have q1 : (s[k].toNat : Int) ≤ 122 := by omega
        have q2 : 48 ≤ (s[k].toNat : Int) := by omega
        have q3 : (s[k].toNat : Int) ≤ 57 := by omega
        have q4 : ((s[k].toNat : Int) != 45) = true := by simp; omega
        have HQ := Lib.hid (HG.out (by unfold nameB; simp; omega))
        clear HB HG
        go_wp2_with fail
        go_roundw
        case rel => exact ⟨k + 1, by omega, by go_num, HQ.out, HBL.out⟩
        case measure => simp [intOf]; omega
      by_cases hu4 : s[k].toNat < 97
      · have q0 : (s[k].toNat : Int) < 97 := by omega
        have q1 : (s[k].toNat : Int) ≤ 122 := by omega
        have q2 : 48 ≤ (s[k].toNat : Int) := by omega
        have q3 : 57 < (s[k].toNat : Int) := by omega
        have q4 : ((s[k].toNat : Int) != 45) = true := by simp; omega
        have HQ := Lib.hid (HB.out (by unfold nameB; simp; omega))
        clear HB HG
        go_wp2_with fail
        go_ret
        exact ⟨by rw [HQ.out]; rfl, HBL.out⟩
      by_cases hu5 : s[k].toNat < 123
      · have q0 : 97 ≤ (s[k].toNat : Int) := by omega
        have q1 : (s[k].toNat : Int) ≤ 122 := by omega
        have q2 : 48 ≤ (s[k].toNat : Int) := by omega
        have q3 : 57 < (s[k].toNat : Int) := by omega
        have q4 : ((s[k].toNat : Int) != 45) = true := by simp; omega
        have HQ := Lib.hid (HG.out (by unfold nameB; simp; omega))
        clear HB HG
        go_wp2_with fail
        go_roundw
        case rel => exact ⟨k + 1, by omega, by go_num, HQ.out, HBL.out⟩
        case measure => simp [intOf]; omega
      have q0 : 97 ≤ (s[k].toNat : Int) := by omega
      have q1 : 122 < (s[k].toNat : Int) := by omega
      have q2 : 48 ≤ (s[k].toNat : Int) := by omega
      have q3 : 57 < (s[k].toNat : Int) := by omega
      have q4 : ((s[k].toNat : Int) != 45) = true := by simp; omega
      have HQ := Lib.hid (HB.out (by unfold nameB; simp; omega))
      clear HB HG
      go_wp2_with fail
      go_ret
      exact ⟨by rw [HQ.out]; rfl, HBL.out⟩
    · have e : k = s.size := by omega
      subst e
      have hall : isName s.data.toList = true := by
        have := HT.out
        rw [← HL.out, List.take_length] at this
        exact HN.out.trans this
      have HQ := Lib.hid hall
      clear hall
      go_wp2_with fail
      go_ret
      exact ⟨by rw [HQ.out]; rfl, HBL.out⟩
end Go.Proofs.YtieccphckobhjaaGreatDoor


namespace Go.Proofs.YtieccphckobhjaaGreatDoor
open Go.RowKit

theorem c_pName (s : ByteArray) (hs : s.size ≤ 9223372036854775807) : ACall Tryz.prog 84 [.v (.string s)] (.v (.bool (isName s.data.toList))) :=
  acall_exact (us := [_]) (.of Tryz.func84 (by kernel_rfl) rfl) fun w => pName_any s w hs
theorem c_rName (s : ByteArray) (hs : s.size ≤ 9223372036854775807) : ACall Tryz.prog 120 [.v (.string s)] (.v (.bool (isName s.data.toList))) :=
  acall_exact (us := [_]) (.of Tryz.func120 (by kernel_rfl) rfl) fun w => rName_any s w hs
theorem c_strCmp (a b : ByteArray) : ACall Tryz.prog 64 [.v (.string a), .v (.string b)] (.v (.int .i64 (Lib.compareBytes a.data.toList b.data.toList))) :=
  acall_exact (us := [_, _]) (.of Tryz.func64 (by kernel_rfl) rfl) fun w => by
    have h := Any.strings_Compare Tryz.l106 a b w
    change Calls Tryz.prog 64 #[.string a, .string b] w _ at h
    exact h.mono fun _ _ ⟨h1, h2⟩ => ⟨h1, h2 ▸ Below.refl _ _⟩
end Go.Proofs.YtieccphckobhjaaGreatDoor


namespace Go.Proofs.YtieccphckobhjaaGreatDoor
open Go.RowKit
set_option linter.unusedVariables false

/-! Types. -/
namespace TyC1

end TyC1
open TyC1


structure Item where
  name : ByteArray
  blocks : Int
structure Carr where
  name : ByteArray
  place : ByteArray
  kind : ByteArray
  made : Int
  room : Int
structure Cpy where
  item : ByteArray
  carrier : ByteArray
  frm : ByteArray
  day : Int
  last : Int
  gen : Int
  bad : List Int
structure Vlt where
  items : List Item
  carrs : List Carr
  copies : List Cpy
structure Pol where
  copies : Int
  places : Int
  kinds : Int
  every : Int
  old : Int
  gens : Int
def Item.ds (x : Item) : List D := [.v (.string x.name), .v (.int .i64 x.blocks)]
def Carr.ds (x : Carr) : List D := [.v (.string x.name), .v (.string x.place), .v (.string x.kind), .v (.int .i64 x.made), .v (.int .i64 x.room)]
def Cpy.ds (x : Cpy) : List D := [.v (.string x.item), .v (.string x.carrier), .v (.string x.frm), .v (.int .i64 x.day), .v (.int .i64 x.last), .v (.int .i64 x.gen), .sl (x.bad.map intD)]
def Vlt.ds (v : Vlt) : List D := [.sl (v.items.map Item.ds), .sl (v.carrs.map Carr.ds), .sl (v.copies.map Cpy.ds)]
def Pol.ds (p : Pol) : List D := [.v (.int .i64 p.copies), .v (.int .i64 p.places), .v (.int .i64 p.kinds), .v (.int .i64 p.every), .v (.int .i64 p.old), .v (.int .i64 p.gens)]
theorem at_list {α : Type} {l : List α} {f : α → List D} {k : Nat} (h : k < l.length) : (l.map f)[k]? = some (f l[k]) := by simp [h]
/-- The first fault of n. -/
def ffst (f : Nat → Int) : Nat → Int
  | 0 => 0
  | n + 1 => if ffst f n = 0 then f n else ffst f n
theorem ffst_next {f : Nat → Int} {k : Nat} (h : ffst f k = 0) (h2 : f k = 0) : ffst f (k + 1) = 0 := by simp [ffst, h, h2]
theorem ffst_hit {f : Nat → Int} {k : Nat} (h : ffst f k = 0) (h2 : f k ≠ 0) : ∀ n, k < n → ffst f n = f k
  | 0, hn => by omega
  | n + 1, hn => by
    unfold ffst
    by_cases hk : k = n
    · subst hk; rw [if_pos h]
    · rw [ffst_hit h h2 n (by omega), if_neg h2]
theorem ffst_all {f : Nat → Int} : ∀ n, ffst f n = 0 → ∀ k, k < n → f k = 0
  | 0, _, k, hk => by omega
  | n + 1, h, k, hk => by
    unfold ffst at h
    by_cases hn : ffst f n = 0
    · rw [if_pos hn] at h
      by_cases hk2 : k = n
      · rw [hk2]; exact h
      · exact ffst_all n hn k (by omega)
    · rw [if_neg hn] at h; exact absurd h hn
/-- The number of the first one; -1: there is none. -/
def idxBy {α : Type} (p : α → Bool) (l : List α) : Int := if l.any p then (l.findIdx p : Int) else -1
theorem idxBy_yes {α : Type} {p : α → Bool} {l : List α} {k : Nat} (hk : k < l.length) (h : ∀ c ∈ l.take k, p c = false) (h2 : p l[k] = true) : idxBy p l = k := by
  have hm : l.any p = true := List.any_eq_true.2 ⟨_, List.getElem_mem hk, h2⟩
  unfold idxBy
  rw [if_pos hm]
  congr 1
  rw [List.findIdx_eq hk]
  refine ⟨h2, fun j hj => ?_⟩
  have := h l[j] (List.mem_take_iff_getElem.2 ⟨j, by omega, rfl⟩)
  simpa using this
theorem idxBy_no {α : Type} {p : α → Bool} {l : List α} (h : ∀ c ∈ l.take l.length, p c = false) : idxBy p l = -1 := by
  unfold idxBy
  rw [if_neg]
  intro hx
  obtain ⟨c, hc, hp⟩ := List.any_eq_true.1 hx
  have := h c (by rw [List.take_length]; exact hc)
  rw [hp] at this; simp at this
theorem idxBy_some {α : Type} {p : α → Bool} {l : List α} (h : 0 ≤ idxBy p l) : ∃ k, ∃ hk : k < l.length, idxBy p l = (k : Int) ∧ p l[k] = true := by
  unfold idxBy at h ⊢
  by_cases hm : l.any p = true
  · rw [if_pos hm]
    have hlt : l.findIdx p < l.length := by
      rw [List.findIdx_lt_length]
      obtain ⟨c, hc, hp⟩ := List.any_eq_true.1 hm
      exact ⟨c, hc, hp⟩
    exact ⟨_, hlt, rfl, List.findIdx_getElem⟩
  · rw [if_neg hm] at h; omega
theorem take_false' {α : Type} {p : α → Bool} {l : List α} {k : Nat} (hk : k < l.length) (h : ∀ c ∈ l.take k, p c = false) (h2 : p l[k] = false) : ∀ c ∈ l.take (k + 1), p c = false := by
  intro c hc
  rw [List.take_add_one, List.getElem?_eq_getElem hk] at hc
  simp only [Option.toList_some, List.mem_append, List.mem_singleton] at hc
  rcases hc with h1 | h1
  · exact h c h1
  · rw [h1]; exact h2
theorem sum_take {α : Type} (f : α → Int) {l : List α} {k : Nat} (hk : k < l.length) : ((l.take (k + 1)).map f).sum = ((l.take k).map f).sum + f l[k] := by
  rw [List.take_add_one, List.getElem?_eq_getElem hk, Option.toList_some, List.map_append, List.sum_append, List.map_cons, List.map_nil, List.sum_cons, List.sum_nil, Int.add_zero]
theorem sum_bound {α : Type} (f : α → Int) (lo hi : Int) (h0 : lo ≤ 0) (h1 : 0 ≤ hi) : ∀ l : List α, (∀ x ∈ l, lo ≤ f x ∧ f x ≤ hi) → lo * l.length ≤ (l.map f).sum ∧ (l.map f).sum ≤ hi * l.length
  | [], _ => by simp
  | a :: l, h => by
    have h2 := sum_bound f lo hi h0 h1 l (fun x hx => h x (List.mem_cons_of_mem _ hx))
    have h3 := h a List.mem_cons_self
    simp only [List.map_cons, List.sum_cons, List.length_cons, Int.natCast_add, Int.natCast_one, Int.mul_add, Int.mul_one]
    omega
def itemIdx (v : Vlt) (nm : ByteArray) : Int := idxBy (fun x => decide (x.name = nm)) v.items
def carrIdx (v : Vlt) (nm : ByteArray) : Int := idxBy (fun x => decide (x.name = nm)) v.carrs
def sle (a b : ByteArray) : Bool := Op.bytesLess a.toList b.toList || decide (a = b)
def nameOk (s : ByteArray) : Bool := isName s.data.toList
def itemFault (l : List Item) (k : Nat) : Int :=
  if h : k < l.length then
    if nameOk l[k].name = false then 5 else if 0 < k ∧ sle l[k].name (l[k-1]'(by omega)).name = true then 8 else if 1 ≤ l[k].blocks ∧ l[k].blocks ≤ 1000 then 0 else 1
  else 0
theorem itemFault_5 {l : List Item} {k : Nat} (hk : k < l.length) (h : nameOk l[k].name = false) : itemFault l k = 5 := by unfold itemFault; rw [dif_pos hk, if_pos h]
theorem itemFault_8 {l : List Item} {k : Nat} (hk : k < l.length) (h : nameOk l[k].name = true) (h2 : 0 < k) (h3 : sle l[k].name (l[k-1]'(by omega)).name = true) : itemFault l k = 8 := by
  unfold itemFault; rw [dif_pos hk, if_neg (by rw [h]; simp), if_pos ⟨h2, h3⟩]
theorem itemFault_1 {l : List Item} {k : Nat} (hk : k < l.length) (h : nameOk l[k].name = true) (h2 : 0 < k → sle l[k].name (l[k-1]'(by omega)).name = false) (h3 : ¬ (1 ≤ l[k].blocks ∧ l[k].blocks ≤ 1000)) : itemFault l k = 1 := by
  unfold itemFault; rw [dif_pos hk, if_neg (by rw [h]; simp), if_neg (fun hh => by have := h2 hh.1; rw [hh.2] at this; simp at this), if_neg h3]
theorem itemFault_0 {l : List Item} {k : Nat} (hk : k < l.length) (h : nameOk l[k].name = true) (h2 : 0 < k → sle l[k].name (l[k-1]'(by omega)).name = false) (h3 : 1 ≤ l[k].blocks ∧ l[k].blocks ≤ 1000) : itemFault l k = 0 := by
  unfold itemFault; rw [dif_pos hk, if_neg (by rw [h]; simp), if_neg (fun hh => by have := h2 hh.1; rw [hh.2] at this; simp at this), if_pos h3]
theorem itemFault_ok {l : List Item} {k : Nat} (hk : k < l.length) (h : itemFault l k = 0) : nameOk l[k].name = true ∧ 1 ≤ l[k].blocks ∧ l[k].blocks ≤ 1000 := by
  unfold itemFault at h
  rw [dif_pos hk] at h
  by_cases h1 : nameOk l[k].name = false
  · rw [if_pos h1] at h; simp at h
  · rw [if_neg h1] at h
    refine ⟨by simpa using h1, ?_⟩
    by_cases h2 : 0 < k ∧ sle l[k].name (l[k-1]'(by omega)).name = true
    · rw [if_pos h2] at h; simp at h
    · rw [if_neg h2] at h
      by_cases h3 : 1 ≤ l[k].blocks ∧ l[k].blocks ≤ 1000
      · exact h3
      · rw [if_neg h3] at h; simp at h
def carrFault (l : List Carr) (k : Nat) : Int :=
  if h : k < l.length then
    if nameOk l[k].name = false ∨ nameOk l[k].place = false ∨ nameOk l[k].kind = false then 5 else if 0 < k ∧ sle l[k].name (l[k-1]'(by omega)).name = true then 8
    else if ¬ (0 ≤ l[k].made ∧ l[k].made ≤ 200000) ∨ ¬ (0 ≤ l[k].room ∧ l[k].room ≤ 1000000) then 1 else 0
  else 0
theorem carrFault_5 {l : List Carr} {k : Nat} (hk : k < l.length) (h : nameOk l[k].name = false ∨ nameOk l[k].place = false ∨ nameOk l[k].kind = false) : carrFault l k = 5 := by unfold carrFault; rw [dif_pos hk, if_pos h]
theorem carrFault_8 {l : List Carr} {k : Nat} (hk : k < l.length) (h : nameOk l[k].name = true ∧ nameOk l[k].place = true ∧ nameOk l[k].kind = true) (h2 : 0 < k) (h3 : sle l[k].name (l[k-1]'(by omega)).name = true) : carrFault l k = 8 := by
  unfold carrFault; rw [dif_pos hk, if_neg (by rw [h.1, h.2.1, h.2.2]; simp), if_pos ⟨h2, h3⟩]
theorem carrFault_1 {l : List Carr} {k : Nat} (hk : k < l.length) (h : nameOk l[k].name = true ∧ nameOk l[k].place = true ∧ nameOk l[k].kind = true) (h2 : 0 < k → sle l[k].name (l[k-1]'(by omega)).name = false) (h3 : ¬ (0 ≤ l[k].made ∧ l[k].made ≤ 200000) ∨ ¬ (0 ≤ l[k].room ∧ l[k].room ≤ 1000000)) : carrFault l k = 1 := by
  unfold carrFault; rw [dif_pos hk, if_neg (by rw [h.1, h.2.1, h.2.2]; simp), if_neg (fun hh => by have := h2 hh.1; rw [hh.2] at this; simp at this), if_pos h3]
theorem carrFault_0 {l : List Carr} {k : Nat} (hk : k < l.length) (h : nameOk l[k].name = true ∧ nameOk l[k].place = true ∧ nameOk l[k].kind = true) (h2 : 0 < k → sle l[k].name (l[k-1]'(by omega)).name = false) (h3 : 0 ≤ l[k].made ∧ l[k].made ≤ 200000) (h4 : 0 ≤ l[k].room ∧ l[k].room ≤ 1000000) : carrFault l k = 0 := by
  unfold carrFault; rw [dif_pos hk, if_neg (by rw [h.1, h.2.1, h.2.2]; simp), if_neg (fun hh => by have := h2 hh.1; rw [hh.2] at this; simp at this), if_neg (fun hh => hh.elim (fun h5 => h5 h3) (fun h5 => h5 h4))]
theorem carrFault_ok {l : List Carr} {k : Nat} (hk : k < l.length) (h : carrFault l k = 0) : nameOk l[k].name = true ∧ (0 ≤ l[k].made ∧ l[k].made ≤ 200000) ∧ 0 ≤ l[k].room ∧ l[k].room ≤ 1000000 := by
  unfold carrFault at h
  rw [dif_pos hk] at h
  by_cases h1 : nameOk l[k].name = false ∨ nameOk l[k].place = false ∨ nameOk l[k].kind = false
  · rw [if_pos h1] at h; simp at h
  · rw [if_neg h1] at h
    refine ⟨?_, ?_⟩
    · cases hn : nameOk l[k].name with
      | true => rfl
      | false => exact absurd (.inl hn) h1
    · by_cases h2 : 0 < k ∧ sle l[k].name (l[k-1]'(by omega)).name = true
      · rw [if_pos h2] at h; simp at h
      · rw [if_neg h2] at h
        by_cases h3 : ¬ (0 ≤ l[k].made ∧ l[k].made ≤ 200000) ∨ ¬ (0 ≤ l[k].room ∧ l[k].room ≤ 1000000)
        · rw [if_pos h3] at h; simp at h
        · omega
def strCmp (a b : ByteArray) : Int := Lib.compareBytes a.data.toList b.data.toList
def cpyCmp (a b : Cpy) : Int := if a.item = b.item then strCmp a.carrier b.carrier else strCmp a.item b.item
theorem compareBytes_self : ∀ l : List UInt8, Lib.compareBytes l l = 0
  | [] => rfl
  | a :: l => by unfold Lib.compareBytes; simp [compareBytes_self l]
theorem compareBytes_zero : ∀ l r : List UInt8, Lib.compareBytes l r = 0 → l = r
  | [], [], _ => rfl
  | [], _ :: _, h => by simp [Lib.compareBytes] at h
  | _ :: _, [], h => by simp [Lib.compareBytes] at h
  | a :: l, b :: r, h => by
    unfold Lib.compareBytes at h
    by_cases h1 : a < b
    · rw [if_pos h1] at h; simp at h
    · rw [if_neg h1] at h
      by_cases h2 : b < a
      · rw [if_pos h2] at h; simp at h
      · rw [if_neg h2] at h
        have : a = b := UInt8.le_antisymm (UInt8.not_lt.1 h2) (UInt8.not_lt.1 h1)
        rw [this, compareBytes_zero l r h]
theorem strCmp_zero {a b : ByteArray} : strCmp a b = 0 ↔ a = b := by
  constructor
  · intro h
    have := compareBytes_zero _ _ h
    obtain ⟨⟨x⟩⟩ := a
    obtain ⟨⟨y⟩⟩ := b
    simpa using this
  · rintro rfl; exact compareBytes_self _
def badFault (blocks : Int) (l : List Int) (k : Nat) : Int :=
  if h : k < l.length then if ¬ (0 ≤ l[k] ∧ l[k] ≤ blocks - 1) then 1 else if 0 < k ∧ l[k] ≤ l[k-1]'(by omega) then 8 else 0 else 0
theorem badFault_1 {n : Int} {l : List Int} {k : Nat} (hk : k < l.length) (h : ¬ (0 ≤ l[k] ∧ l[k] ≤ n - 1)) : badFault n l k = 1 := by unfold badFault; rw [dif_pos hk, if_pos h]
theorem badFault_8 {n : Int} {l : List Int} {k : Nat} (hk : k < l.length) (h : 0 ≤ l[k] ∧ l[k] ≤ n - 1) (h2 : 0 < k) (h3 : l[k] ≤ l[k-1]'(by omega)) : badFault n l k = 8 := by
  unfold badFault; rw [dif_pos hk, if_neg (fun hh => hh h), if_pos ⟨h2, h3⟩]
theorem badFault_0 {n : Int} {l : List Int} {k : Nat} (hk : k < l.length) (h : 0 ≤ l[k] ∧ l[k] ≤ n - 1) (h2 : 0 < k → ¬ l[k] ≤ l[k-1]'(by omega)) : badFault n l k = 0 := by
  unfold badFault; rw [dif_pos hk, if_neg (fun hh => hh h), if_neg (fun hh => h2 hh.1 hh.2)]
def itemBlocks (v : Vlt) (nm : ByteArray) : Int := ((v.items[(itemIdx v nm).toNat]?).map Item.blocks).getD 0
theorem itemBlocks_at {v : Vlt} {nm : ByteArray} {k : Nat} (hk : k < v.items.length) (e : itemIdx v nm = k) : itemBlocks v nm = v.items[k].blocks := by
  unfold itemBlocks
  rw [e, Int.toNat_natCast, List.getElem?_eq_getElem hk]
  rfl
def cpyFault (v : Vlt) (c : Cpy) (before : Option Cpy) : Int :=
  if itemIdx v c.item < 0 ∨ carrIdx v c.carrier < 0 then 9
  else if (∃ b, before = some b ∧ 0 ≤ cpyCmp b c) then 8
  else if c.frm ≠ ⟨#[]⟩ ∧ carrIdx v c.frm < 0 then 9
  else if c.frm = c.carrier then 12
  else if ¬ (0 ≤ c.day ∧ c.day ≤ 200000) ∨ ¬ (c.day ≤ c.last ∧ c.last ≤ 200000) ∨ ¬ (1 ≤ c.gen ∧ c.gen ≤ 100) then 1
  else if decide (c.gen = 1) ≠ decide (c.frm = ⟨#[]⟩) then 3
  else ffst (badFault (itemBlocks v c.item) c.bad) c.bad.length
def cpyFaultAt (v : Vlt) (k : Nat) : Int := if h : k < v.copies.length then cpyFault v v.copies[k] (if 0 < k then some (v.copies[k-1]'(by omega)) else none) else 0
theorem cpyFaultAt_none {v : Vlt} {k : Nat} (h : k < v.copies.length) (h0 : ¬ 0 < k) : cpyFaultAt v k = cpyFault v v.copies[k] none := by unfold cpyFaultAt; rw [dif_pos h, if_neg h0]
theorem cpyFaultAt_some {v : Vlt} {k : Nat} (h : k < v.copies.length) (h0 : 0 < k) : cpyFaultAt v k = cpyFault v v.copies[k] (some (v.copies[k-1]'(by omega))) := by unfold cpyFaultAt; rw [dif_pos h, if_pos h0]
def okItems (v : Vlt) : Prop := ∀ x ∈ v.items, 1 ≤ x.blocks ∧ x.blocks ≤ 1000
def useOf (v : Vlt) (nm : ByteArray) (c : Cpy) : Int := if c.carrier = nm then itemBlocks v c.item else 0
def usedTo (v : Vlt) (nm : ByteArray) (k : Nat) : Int := ((v.copies.take k).map (useOf v nm)).sum
def usedOn (v : Vlt) (nm : ByteArray) : Int := usedTo v nm v.copies.length
theorem usedTo_yes {v : Vlt} {nm : ByteArray} {k : Nat} (hk : k < v.copies.length) (h : v.copies[k].carrier = nm) : usedTo v nm (k + 1) = usedTo v nm k + itemBlocks v v.copies[k].item := by
  unfold usedTo; rw [sum_take _ hk]; unfold useOf; rw [if_pos h]
theorem usedTo_no {v : Vlt} {nm : ByteArray} {k : Nat} (hk : k < v.copies.length) (h : ¬ v.copies[k].carrier = nm) : usedTo v nm (k + 1) = usedTo v nm k := by
  unfold usedTo; rw [sum_take _ hk]; unfold useOf; rw [if_neg h, Int.add_zero]
theorem itemBlocks_bound {v : Vlt} (hv : okItems v) (nm : ByteArray) : 0 ≤ itemBlocks v nm ∧ itemBlocks v nm ≤ 1000 := by
  unfold itemBlocks
  cases h : v.items[(itemIdx v nm).toNat]? with
  | none => simp
  | some x =>
    have := hv x (List.mem_of_getElem? h)
    simp
    omega
theorem usedTo_bound {v : Vlt} (hv : okItems v) (nm : ByteArray) (k : Nat) : 0 ≤ usedTo v nm k ∧ usedTo v nm k ≤ 1000 * (k : Int) := by
  have h := sum_bound (useOf v nm) 0 1000 (by omega) (by omega) (v.copies.take k) (fun x _ => by
    unfold useOf
    split
    · exact itemBlocks_bound hv _
    · omega)
  have h2 : (v.copies.take k).length ≤ k := by rw [List.length_take]; omega
  unfold usedTo
  omega
def overFull (v : Vlt) : Bool := v.carrs.any fun x => decide (x.room < usedOn v x.name)
theorem overFull_yes {v : Vlt} {k : Nat} (hk : k < v.carrs.length) (h : v.carrs[k].room < usedOn v v.carrs[k].name) : overFull v = true := List.any_eq_true.2 ⟨_, List.getElem_mem hk, decide_eq_true h⟩
theorem overFull_no {v : Vlt} (h : ∀ c ∈ v.carrs.take v.carrs.length, decide (c.room < usedOn v c.name) = false) : overFull v = false := by
  unfold overFull
  rw [List.any_eq_false]
  intro x hx
  have := h x (by rw [List.take_length]; exact hx)
  simpa using this
def largeV (v : Vlt) : Prop := 30 < (v.items.length : Int) ∨ 16 < (v.carrs.length : Int) ∨ 200 < (v.copies.length : Int)
instance (v : Vlt) : Decidable (largeV v) := by unfold largeV; infer_instance
def checkV (v : Vlt) : Int :=
  if largeV v then 2
  else if ffst (itemFault v.items) v.items.length ≠ 0 then ffst (itemFault v.items) v.items.length
  else if ffst (carrFault v.carrs) v.carrs.length ≠ 0 then ffst (carrFault v.carrs) v.carrs.length
  else if ffst (cpyFaultAt v) v.copies.length ≠ 0 then ffst (cpyFaultAt v) v.copies.length
  else if overFull v = true then 2 else 0
theorem check_items {v : Vlt} {k : Nat} {c : Int} (hl : ¬ largeV v) (hk : k < v.items.length) (h : ffst (itemFault v.items) k = 0) (hf : itemFault v.items k = c) (hc : c ≠ 0) : checkV v = c := by
  have h1 : ffst (itemFault v.items) v.items.length = c := by rw [ffst_hit h (by rw [hf]; exact hc) _ hk, hf]
  unfold checkV; rw [if_neg hl, h1, if_pos hc]
theorem check_carrs {v : Vlt} {k : Nat} {c : Int} (hl : ¬ largeV v) (hi : ffst (itemFault v.items) v.items.length = 0) (hk : k < v.carrs.length) (h : ffst (carrFault v.carrs) k = 0) (hf : carrFault v.carrs k = c) (hc : c ≠ 0) : checkV v = c := by
  have h1 : ffst (carrFault v.carrs) v.carrs.length = c := by rw [ffst_hit h (by rw [hf]; exact hc) _ hk, hf]
  unfold checkV; rw [if_neg hl, hi, if_neg (by decide), h1, if_pos hc]
theorem check_copies {v : Vlt} {k : Nat} {c : Int} (hl : ¬ largeV v) (hi : ffst (itemFault v.items) v.items.length = 0) (hr : ffst (carrFault v.carrs) v.carrs.length = 0) (hk : k < v.copies.length) (h : ffst (cpyFaultAt v) k = 0) (hf : cpyFaultAt v k = c) (hc : c ≠ 0) : checkV v = c := by
  have h1 : ffst (cpyFaultAt v) v.copies.length = c := by rw [ffst_hit h (by rw [hf]; exact hc) _ hk, hf]
  unfold checkV; rw [if_neg hl, hi, if_neg (by decide), hr, if_neg (by decide), h1, if_pos hc]
theorem check_over {v : Vlt} (hl : ¬ largeV v) (hi : ffst (itemFault v.items) v.items.length = 0) (hr : ffst (carrFault v.carrs) v.carrs.length = 0) (hp : ffst (cpyFaultAt v) v.copies.length = 0) : checkV v = if overFull v = true then 2 else 0 := by
  unfold checkV; rw [if_neg hl, hi, if_neg (by decide), hr, if_neg (by decide), hp, if_neg (by decide)]
theorem okItems_of {v : Vlt} (hi : ffst (itemFault v.items) v.items.length = 0) : okItems v := fun x hx => by
  obtain ⟨k, hk, rfl⟩ := List.mem_iff_getElem.1 hx
  exact (itemFault_ok hk (ffst_all _ hi k hk)).2
theorem cpyFault_idx {v : Vlt} {c : Cpy} {b : Option Cpy} (h : cpyFault v c b = 0) : 0 ≤ itemIdx v c.item ∧ 0 ≤ carrIdx v c.carrier := by
  unfold cpyFault at h
  by_cases h1 : itemIdx v c.item < 0 ∨ carrIdx v c.carrier < 0
  · rw [if_pos h1] at h; simp at h
  · omega
def okCopies (v : Vlt) : Prop := ∀ c ∈ v.copies, 0 ≤ itemIdx v c.item ∧ 0 ≤ carrIdx v c.carrier
theorem okCopies_of {v : Vlt} (hp : ffst (cpyFaultAt v) v.copies.length = 0) : okCopies v := fun x hx => by
  obtain ⟨k, hk, rfl⟩ := List.mem_iff_getElem.1 hx
  have h := ffst_all _ hp k hk
  by_cases h0 : 0 < k
  · rw [cpyFaultAt_some hk h0] at h; exact cpyFault_idx h
  · rw [cpyFaultAt_none hk h0] at h; exact cpyFault_idx h
theorem carrNames {v : Vlt} (hr : ffst (carrFault v.carrs) v.carrs.length = 0) : ∀ x ∈ v.carrs, nameOk x.name = true := fun x hx => by
  obtain ⟨k, hk, rfl⟩ := List.mem_iff_getElem.1 hx
  exact (carrFault_ok hk (ffst_all _ hr k hk)).1
theorem carr_ne {v : Vlt} (hr : ∀ x ∈ v.carrs, nameOk x.name = true) {nm : ByteArray} (h : 0 ≤ carrIdx v nm) : nm ≠ ⟨#[]⟩ := by
  rintro rfl
  obtain ⟨k, hk, _, hp⟩ := idxBy_some h
  have h1 := hr _ (List.getElem_mem hk)
  rw [of_decide_eq_true hp] at h1
  simp [nameOk, isName] at h1
/-- The strings are no longer than any can be. -/
def smallV (v : Vlt) : Prop := (∀ x ∈ v.items, x.name.size ≤ 9223372036854775807) ∧ ∀ x ∈ v.carrs, x.name.size ≤ 9223372036854775807 ∧ x.place.size ≤ 9223372036854775807 ∧ x.kind.size ≤ 9223372036854775807
def polFault (p : Pol) : Int :=
  if ¬ (1 ≤ p.copies ∧ p.copies ≤ 16) ∨ ¬ (1 ≤ p.places ∧ p.places ≤ p.copies) ∨ ¬ (1 ≤ p.kinds ∧ p.kinds ≤ p.copies) ∨ ¬ (1 ≤ p.every ∧ p.every ≤ 200000) ∨ ¬ (1 ≤ p.old ∧ p.old ≤ 200000) ∨ ¬ (1 ≤ p.gens ∧ p.gens ≤ 100) then 1 else 0


end Go.Proofs.YtieccphckobhjaaGreatDoor


namespace Go.Proofs.YtieccphckobhjaaGreatDoor
open Go.RowKit
set_option linter.unusedVariables false

/-! Types. -/
namespace TyW1

end TyW1
open TyW1


def numD (k : Nat) : List D := [.v (.int .i64 (k : Int))]
/-- The last number that can still grow. -/
def pivot (n : Nat) (l : List Nat) : Nat → Option Nat
  | 0 => none
  | j + 1 => if l.getD j 0 = n - l.length + j then pivot n l j else some j
/-- Behind i numbers, from k on. -/
def bumpTo (l : List Nat) (k i : Nat) : List Nat := l.take k ++ (List.range (i - k)).map (fun j => l.getD k 0 + 1 + j) ++ l.drop i
def bump (l : List Nat) (k : Nat) : List Nat := bumpTo l k l.length
def nextC (n : Nat) (l : List Nat) : Option (List Nat) := (pivot n l l.length).map (bump l)
def Vld (n : Nat) (l : List Nat) : Prop := l.length ≤ n ∧ ∀ i (h : i < l.length), l[i] + (l.length - i) ≤ n
theorem pivot_lt {n : Nat} {l : List Nat} : ∀ {j k : Nat}, pivot n l j = some k → k < j ∧ ¬ l.getD k 0 = n - l.length + k
  | 0, _, h => by cases h
  | j + 1, k, h => by
    unfold pivot at h
    by_cases e : l.getD j 0 = n - l.length + j
    · rw [if_pos e] at h
      have := pivot_lt h
      exact ⟨by omega, this.2⟩
    · rw [if_neg e] at h
      cases h
      exact ⟨Nat.lt_succ_self _, e⟩
theorem pivot_step {n : Nat} {l : List Nat} {j : Nat} (h : l.getD j 0 = n - l.length + j) : pivot n l (j + 1) = pivot n l j := by
  show (if _ then _ else _) = _
  rw [if_pos h]
theorem pivot_here {n : Nat} {l : List Nat} {j : Nat} (h : ¬ l.getD j 0 = n - l.length + j) : pivot n l (j + 1) = some j := by
  show (if _ then _ else _) = _
  rw [if_neg h]
theorem numAt {l : List Nat} {k : Nat} (h : k < l.length) : l.getD k 0 = l[k] := by rw [List.getD_eq_getElem?_getD, List.getElem?_eq_getElem h]; rfl
theorem bumpTo_len {l : List Nat} {k i : Nat} (hk : k ≤ i) (hi : i ≤ l.length) : (bumpTo l k i).length = l.length := by
  unfold bumpTo
  simp
  omega
theorem bump_len {l : List Nat} {k : Nat} (hk : k ≤ l.length) : (bump l k).length = l.length := bumpTo_len hk (Nat.le_refl _)
theorem bumpTo_at {l : List Nat} {k i j : Nat} (hk : k ≤ i) (hi : i ≤ l.length) (hj : j < l.length) : (bumpTo l k i).getD j 0 = if j < k then l.getD j 0 else if j < i then l.getD k 0 + 1 + (j - k) else l.getD j 0 := by
  unfold bumpTo
  simp only [List.getD_eq_getElem?_getD]
  by_cases h1 : j < k
  · rw [if_pos h1, List.getElem?_append_left (by simp; omega), List.getElem?_append_left (by simp; omega), List.getElem?_take, if_pos h1]
  · rw [if_neg h1]
    by_cases h2 : j < i
    · rw [if_pos h2, List.getElem?_append_left (by simp; omega), List.getElem?_append_right (by simp; omega), List.length_take, Nat.min_eq_left (by omega), List.getElem?_map, List.getElem?_range (by omega)]
      rfl
    · rw [if_neg h2, List.getElem?_append_right (by simp; omega), List.getElem?_drop]
      simp only [List.length_append, List.length_take, List.length_map, List.length_range]
      rw [Nat.min_eq_left (by omega), show i + (j - (k + (i - k))) = j by omega]
theorem bump_vld {n : Nat} {l : List Nat} {k : Nat} (hv : Vld n l) (hp : pivot n l l.length = some k) : Vld n (bump l k) := by
  obtain ⟨hk, hn⟩ := pivot_lt hp
  have hl := hv.1
  refine ⟨by rw [bump_len (by omega)]; exact hl, ?_⟩
  intro i h
  rw [bump_len (by omega)] at h
  have h1 := bumpTo_at (l := l) (k := k) (i := l.length) (by omega) (Nat.le_refl _) h
  rw [← numAt]
  show (bumpTo l k l.length).getD i 0 + ((bump l k).length - i) ≤ n
  rw [h1, bump_len (by omega)]
  have h2 := hv.2 k hk
  rw [numAt hk] at hn ⊢
  by_cases h3 : i < k
  · rw [if_pos h3, numAt h]; exact hv.2 i h
  · rw [if_neg h3, if_pos h]
    omega
/-- A choice as a number. -/
def valC (b : Nat) : List Nat → Nat
  | [] => 0
  | x :: l => x * b ^ l.length + valC b l
theorem valC_lt {b : Nat} : ∀ {l : List Nat}, (∀ x ∈ l, x < b) → valC b l < b ^ l.length
  | [], _ => by simp [valC]
  | x :: l, h => by
    have h1 := h x (by simp)
    have h2 := valC_lt (l := l) fun y hy => h y (List.mem_cons_of_mem _ hy)
    show x * b ^ l.length + valC b l < b ^ (l.length + 1)
    have h3 : (x + 1) * b ^ l.length ≤ b * b ^ l.length := Nat.mul_le_mul_right _ h1
    rw [Nat.add_mul, Nat.one_mul] at h3
    rw [Nat.pow_succ, Nat.mul_comm (b ^ l.length) b]
    omega
theorem valC_grow {b : Nat} : ∀ {l m : List Nat} {k : Nat}, l.length = m.length → (∀ x ∈ l, x < b) → k < l.length → (∀ j, j < k → m.getD j 0 = l.getD j 0) → l.getD k 0 < m.getD k 0 → valC b l < valC b m
  | x :: l, y :: m, 0, hl, hb, _, _, h => by
    have h2 := valC_lt (l := l) fun z hz => hb z (List.mem_cons_of_mem _ hz)
    have h1 : x < y := by simpa using h
    have hl' : l.length = m.length := by simpa using hl
    show x * b ^ l.length + valC b l < y * b ^ m.length + valC b m
    rw [← hl']
    have h3 : (x + 1) * b ^ l.length ≤ y * b ^ l.length := Nat.mul_le_mul_right _ h1
    rw [Nat.add_mul, Nat.one_mul] at h3
    omega
  | x :: l, y :: m, k + 1, hl, hb, hk, he, h => by
    have e0 : y = x := by simpa using he 0 (by omega)
    have hl' : l.length = m.length := by simpa using hl
    have ih := valC_grow (l := l) (m := m) (k := k) hl' (fun z hz => hb z (List.mem_cons_of_mem _ hz)) (by simpa using hk) (fun j hj => by simpa using he (j + 1) (by omega)) (by simpa using h)
    show x * b ^ l.length + valC b l < y * b ^ m.length + valC b m
    rw [e0, ← hl']
    omega
theorem vld_lt {n : Nat} {l : List Nat} (hv : Vld n l) : ∀ x ∈ l, x < n + 1 := fun x hx => by
  obtain ⟨i, hi, rfl⟩ := List.mem_iff_getElem.1 hx
  have := hv.2 i hi
  omega
theorem bump_val {n : Nat} {l : List Nat} {k : Nat} (hv : Vld n l) (hp : pivot n l l.length = some k) : valC (n + 1) l < valC (n + 1) (bump l k) := by
  obtain ⟨hk, hn⟩ := pivot_lt hp
  refine valC_grow (k := k) (bump_len (by omega)).symm (vld_lt hv) hk (fun j hj => ?_) ?_
  · show (bumpTo l k l.length).getD j 0 = _
    rw [bumpTo_at (by omega) (Nat.le_refl _) (by omega), if_pos hj]
  · show _ < (bumpTo l k l.length).getD k 0
    rw [bumpTo_at (by omega) (Nat.le_refl _) hk, if_neg (Nat.lt_irrefl k), if_pos hk]
    omega
/-- How many choices may still come. -/
def leftC (n : Nat) (l : List Nat) : Nat := (n + 1) ^ l.length - valC (n + 1) l
theorem leftC_next {n : Nat} {l : List Nat} {k : Nat} (hv : Vld n l) (hp : pivot n l l.length = some k) : leftC n (bump l k) < leftC n l := by
  have h1 := bump_val hv hp
  have h2 := valC_lt (b := n + 1) (vld_lt (bump_vld hv hp))
  unfold leftC
  rw [bump_len (by have := (pivot_lt hp).1; omega)] at h2 ⊢
  omega
def srchN (n : Nat) (P : List Nat → Bool) : Nat → List Nat → Option (List Nat)
  | 0, _ => none
  | f + 1, l => if P l = true then some l else match nextC n l with | none => none | some m => srchN n P f m
def srch (n : Nat) (P : List Nat → Bool) (l : List Nat) : Option (List Nat) := srchN n P (leftC n l) l
theorem srchN_fuel {n : Nat} {P : List Nat → Bool} : ∀ {f g : Nat} {l : List Nat}, Vld n l → leftC n l ≤ f → leftC n l ≤ g → srchN n P f l = srchN n P g l
  | 0, g, l, hv, h, _ => by
    have h2 := valC_lt (b := n + 1) (vld_lt hv)
    unfold leftC at h
    omega
  | f + 1, 0, l, hv, _, h => by
    have h2 := valC_lt (b := n + 1) (vld_lt hv)
    unfold leftC at h
    omega
  | f + 1, g + 1, l, hv, h1, h2 => by
    unfold srchN
    split
    · rfl
    · unfold nextC
      cases hp : pivot n l l.length with
      | none => rfl
      | some k =>
        have h3 := leftC_next hv hp
        exact srchN_fuel (bump_vld hv hp) (by omega) (by omega)
theorem leftC_pos {n : Nat} {l : List Nat} (hv : Vld n l) : 0 < leftC n l := by
  have h2 := valC_lt (b := n + 1) (vld_lt hv)
  unfold leftC
  omega
theorem srch_hit {n : Nat} {P : List Nat → Bool} {l : List Nat} (hv : Vld n l) (h : P l = true) : srch n P l = some l := by
  unfold srch
  obtain ⟨f, hf⟩ : ∃ f, leftC n l = f + 1 := ⟨leftC n l - 1, by have := leftC_pos hv; omega⟩
  rw [hf]
  unfold srchN
  rw [if_pos h]
theorem srch_end {n : Nat} {P : List Nat → Bool} {l : List Nat} (hv : Vld n l) (h : P l = false) (hp : pivot n l l.length = none) : srch n P l = none := by
  unfold srch
  obtain ⟨f, hf⟩ : ∃ f, leftC n l = f + 1 := ⟨leftC n l - 1, by have := leftC_pos hv; omega⟩
  rw [hf]
  unfold srchN nextC
  rw [if_neg (by rw [h]; simp), hp]
  rfl
theorem srch_next {n : Nat} {P : List Nat → Bool} {l : List Nat} {k : Nat} (hv : Vld n l) (h : P l = false) (hp : pivot n l l.length = some k) : srch n P l = srch n P (bump l k) := by
  unfold srch
  have h3 := leftC_next hv hp
  obtain ⟨f, hf⟩ : ∃ f, leftC n l = f + 1 := ⟨leftC n l - 1, by have := leftC_pos hv; omega⟩
  rw [hf]
  conv => lhs; unfold srchN nextC
  rw [if_neg (by rw [h]; simp), hp]
  exact srchN_fuel (bump_vld hv hp) (by omega) (Nat.le_refl _)
theorem range_vld {n m : Nat} (h : m ≤ n) : Vld n (List.range m) := ⟨by simpa using h, fun i hi => by
  rw [List.length_range] at hi ⊢
  rw [List.getElem_range]
  omega⟩
/-- The first choice, of as few numbers as possible, that is right. -/
def chosenTo (n : Nat) (P : List Nat → Bool) : Nat → Option (List Nat)
  | 0 => none
  | m + 1 => (chosenTo n P m).or (srch n P (List.range m))
def chosenC (n : Nat) (P : List Nat → Bool) : Option (List Nat) := chosenTo n P (n + 1)
theorem chosenTo_some {n : Nat} {P : List Nat → Bool} {m : Nat} {l : List Nat} (h : chosenTo n P m = none) (hs : srch n P (List.range m) = some l) : ∀ k, m < k → chosenTo n P k = some l
  | k + 1, hk => by
    show (chosenTo n P k).or _ = some l
    by_cases e : m = k
    · subst e; rw [h, hs]; rfl
    · rw [chosenTo_some h hs k (by omega)]; rfl
theorem chosenTo_next {n : Nat} {P : List Nat → Bool} {m : Nat} (h : chosenTo n P m = none) (hs : srch n P (List.range m) = none) : chosenTo n P (m + 1) = none := by
  show (chosenTo n P m).or _ = none
  rw [h, hs]; rfl


end Go.Proofs.YtieccphckobhjaaGreatDoor


namespace Go.Proofs.YtieccphckobhjaaGreatDoor
open Go.RowKit
set_option linter.unusedVariables false

/-- f, called with an own row of the caller's (whichever) and data, turns the row's elements from els to els' and returns d. -/
def RCall (P : Program) (f : FuncId) (e size : Nat) (els els' : List (List D)) (ds : List D) (d : D) : Prop :=
  ∀ id, XCall P f (.own id :: ds.map S.d) [(id, .row e size els)] [(id, .row e size els')] (fun _ => false) d

theorem RCall.of1 {P : Program} {f : FuncId} {e size : Nat} {els els' : List (List D)} {ds : List D} {d : D} {chg : Nat → Bool} (h : XCall P f (.own 1 :: ds.map S.d) [(1, .row e size els)] [(1, .row e size els')] chg d) (h1 : chg 1 = false) :
    RCall P f e size els els' ds d := by
  intro id
  refine ⟨h.1, fun F ρ B w vs hF hB hσ hv => ?_⟩
  have h2 : ObsOk B F (fun _ => ρ id) w [(1, .row e size els)] := by
    refine ⟨fun p hp => ?_, fun p hp q hq hne => ?_, fun p hp q hq _ => ?_⟩
    · have : p = (1, .row e size els) := by simpa using hp
      subst this
      exact hσ.ok (id, .row e size els) (by simp)
    · have : p = (1, .row e size els) := by simpa using hp
      have h2 : q = (1, .row e size els) := by simpa using hq
      rw [this, h2] at hne
      exact absurd rfl hne
    · have : p = (1, .row e size els) := by simpa using hp
      have h2 : q = (1, .row e size els) := by simpa using hq
      rw [this, h2]
  have h3 : RepSL F (fun _ => ρ id) w vs (.own 1 :: ds.map S.d) := by
    refine ⟨by simpa using hv.1, fun i hi hi2 => ?_⟩
    have h4 := hv.2 i hi (by simpa using hi2)
    cases i with
    | zero =>
      simp only [List.getElem_cons_zero] at h4 ⊢
      generalize vs[0] = x at h4
      cases h4
      exact RepS.own (ρ := fun _ => ρ id) 1
    | succ i =>
      simp only [List.getElem_cons_succ, List.getElem_map] at h4 ⊢
      exact .d (repS_d h4)
  refine (h.2 F (fun _ => ρ id) B w vs hF hB h2 h3).mono ?_
  rintro e' w' ⟨v, F', ρ', he, hr, hx⟩
  have hρ : ρ' 1 = ρ id := hx.same 1 h1
  have hblk : ∀ b, ownB [(1, Ob.row e size els)] (fun _ => ρ id) b ↔ ownB [(id, Ob.row e size els)] ρ b := fun b => by simp [ownB]
  refine ⟨v, F', ρ, he, hr, hx.up, fun b hb => (hx.new b hb).imp (fun x => x) (fun hh => hh.imp (fun x => x) (hblk b).1), hx.lt, ⟨hx.kept.os, hx.kept.tape, hx.kept.output, hx.kept.size, fun k hk hn => hx.kept.block k hk (fun hh => hn (hh.imp (fun x => x) (hblk k).1))⟩, ?_, ?_, fun _ _ => rfl⟩
  · refine ⟨fun p hp => ?_, fun p hp q hq hne => ?_, fun p hp q hq _ => ?_⟩
    · have : p = (id, .row e size els') := by simpa using hp
      subst this
      have h5 := hx.obs.ok (1, .row e size els') (by simp)
      obtain ⟨xs, h6, h7, h8, h9⟩ := h5
      dsimp only at h6 h9
      rw [hρ] at h6 h9
      exact ⟨xs, h6, h7, h8, h9⟩
    · have : p = (id, .row e size els') := by simpa using hp
      have h2 : q = (id, .row e size els') := by simpa using hq
      rw [this, h2] at hne
      exact absurd rfl hne
    · have : p = (id, .row e size els') := by simpa using hp
      have h2 : q = (id, .row e size els') := by simpa using hq
      rw [this, h2]
  · intro p hp g hg
    have : p = (id, .row e size els') := by simpa using hp
    subst this
    have h5 := hx.own (1, .row e size els') (by simp) g (by rw [hρ]; exact hg)
    exact h5.imp (fun x => x) (hblk g).1

theorem mem_row_eq {id e size : Nat} {els els' : List (List D)} {σ : Obs} (h : (id, Ob.row e size els) ∈ σ) (hd : els = els') : (id, Ob.row e size els') ∈ σ := hd ▸ h

/-- A call that only reads, where an own row is handed on: the row as it is. -/
theorem RCall.eq {P : Program} {f : FuncId} {e size : Nat} {els els' els2 els2' : List (List D)} {ds : List D} {d : D} (h : RCall P f e size els els' ds d) (h1 : els = els2) (h2 : els' = els2') : RCall P f e size els2 els2' ds d := by
  subst h1; subst h2; exact h
end Go.Proofs.YtieccphckobhjaaGreatDoor


namespace Go.Proofs.YtieccphckobhjaaGreatDoor
open Go.RowKit
set_option linter.unusedVariables false

/-- An operation that writes: from the objects σ to σ'; whatever else the slots hold. -/
def EOp (cx : Cx) (ops : Array Oper) (o : Oper) (e : Env) (σ σ' : Obs) : Prop :=
  ∀ (F : Nat → Prop) (ρ : Nat → Value) (a : Act) (w : World) (e0 : Env), R0 cx F ρ e0 σ a w → (∀ t, t ∈ o.looksAt ops → RepS F ρ w (a.tmps.getD t undef) (e t)) →
    o.wp cx.P a w (fun a' w' => a' = a ∧ ∀ e2, R0 cx F ρ e2 σ a w → ∃ F' ρ', R0 cx F' ρ' e2 σ' a w') (fun _ _ _ => False)

theorem AOp.same {P : Program} {B : Nat} {ops : Array Oper} {o : Oper} {e e' : Env} {σ : Obs} {s : S} (h : AOp P B ops o e σ s) (he : ∀ t, t ∈ o.looksAt ops → e' t = e t) : AOp P B ops o e' σ s :=
  fun F ρ w a hF ha hσ => h F ρ w a hF (fun t ht => by rw [← he t ht]; exact ha t ht) hσ

/-- One step; sl: who reads objects, ef: who writes them. -/
def GStep (cx : Cx) (ops : Array Oper) (sl ef : Nat → Bool) (k : Nat) (o : Oper) (e : Env) (σ : Obs) (e' : Env) (σ' : Obs) : Prop :=
  (GW ops o e true ∧ ∃ s, ((sl k = true ∧ AOp cx.P cx.B ops o e σ s) ∨ (∀ τ, AOp cx.P cx.B ops o e τ s)) ∧ e' = e.put o.dst s ∧ σ' = σ) ∨
  (GW ops o e false ∧ e' = e.put o.dst (.d (.v undef)) ∧ σ' = σ) ∨
  (GW ops o e true ∧ ef k = true ∧ o.dst = none ∧ EOp cx ops o e σ σ' ∧ e' = e)

def GRun (cx : Cx) (ops : Array Oper) (sl ef : Nat → Bool) : Nat → List Oper → Env → Obs → (Env → Obs → Prop) → Prop
  | _, [], e, σ, Q => Q e σ
  | k, o :: l, e, σ, Q => DstOk cx.N o ∧ ∃ e' σ', GStep cx ops sl ef k o e σ e' σ' ∧ GRun cx ops sl ef (k + 1) l e' σ' Q

def anyG (cx : Cx) (ops : Array Oper) (sl ef : Nat → Bool) (Q : Env → Obs → Prop) : Nat → Array Bool → Env → Obs → Prop
  | 0, listed, e, σ => Region.ready .any ops listed = [] ∧ Q e σ
  | fuel + 1, listed, e, σ => (Region.ready .any ops listed = [] → Q e σ) ∧
      ∀ i ∈ Region.ready .any ops listed, ∀ o, ops[i]? = some o → ∃ e' σ', GStep cx ops sl ef i o e σ e' σ' ∧ anyG cx ops sl ef Q fuel (listed.setIfInBounds i true) e' σ'

/-- Who comes after k, directly or not. -/
def Region.lateOf (ops : Array Oper) (k : Nat) : List Nat :=
  (List.range ops.size).foldl (fun acc j => if ((ops[j]?).map fun o => o.after.any fun e => Region.binds .any e && (Nat.beq e.on k || acc.any fun i => Nat.beq i e.on)).getD false then j :: acc else acc) []
/-- No two operations, of which one writes and the other one reads or writes, are free to change places. -/
def Region.sensFree (ops : Array Oper) (sl ef : Nat → Bool) (listed : Array Bool) (k : Nat) (late : Nat → Bool) : Bool :=
  (List.range ops.size).all fun j =>
    (!(late j) || (!(listed.getD j false) && ((ops[j]?).map fun o => o.after.any fun e => Region.binds .any e && (Nat.beq e.on k || late e.on)).getD true)) &&
    (Nat.beq j k || listed.getD j true || late j || (!(ef k && sl j) && !(sl k && ef j)))
def Region.lateB (ops : Array Oper) (k j : Nat) : Bool := Nat.blt j ops.size && (Region.lateOf ops k).any fun i => Nat.beq i j
def Region.sensFrom (ops : Array Oper) (sl ef : Nat → Bool) : Nat → Nat → Array Bool → Bool
  | 0, _, _ => true
  | fuel + 1, k, listed => (if sl k || ef k then Region.sensFree ops sl ef listed k (Region.lateB ops k) else true) && Region.sensFrom ops sl ef fuel (k + 1) (listed.setIfInBounds k true)
end Go.Proofs.YtieccphckobhjaaGreatDoor


namespace Go.Proofs.YtieccphckobhjaaGreatDoor
open Go.RowKit
set_option linter.unusedVariables false
section
variable {cx : Cx} {ops : Array Oper} {o : Oper} {rest : List Oper} {e : Env} {σ : Obs} {sl ef : Nat → Bool} {n : Nat} {l : List Oper} {Q : Env → Obs → Prop}
theorem GRun.nil (h : Q e σ) : GRun cx ops sl ef n [] e σ Q := h
end
section
variable {cx : Cx} {ops : Array Oper} {o : Oper} {e : Env} {σ : Obs}
end
end Go.Proofs.YtieccphckobhjaaGreatDoor


namespace Go.Proofs.YtieccphckobhjaaGreatDoor
open Go.RowKit
set_option linter.unusedVariables false
section
variable {P : Program} {B : Nat} {ops : Array Oper} {o : Oper} {e : Env} {σ : Obs}
end
theorem row_same {id e size : Nat} {els els' : List (List D)} {τ : Obs} (h : els = els') : ∀ p ∈ [(id, Ob.row e size els')], p ∈ (id, Ob.row e size els) :: τ := fun p hp => by
  have : p = (id, Ob.row e size els') := by simpa using hp
  rw [this, ← h]
  exact .head _
end Go.Proofs.YtieccphckobhjaaGreatDoor


namespace Go.Proofs.YtieccphckobhjaaGreatDoor
open Go.RowKit
set_option linter.unusedVariables false

/-! Types. -/
namespace TyC2
theorem ag_59 : AggT Tryz.prog 59 5 := .of (by kernel_rfl)
theorem ag_62 : AggT Tryz.prog 62 2 := .of (by kernel_rfl)
theorem et_22 : ElemTy Tryz.prog 22 62 2 24 (.agg #[(.string ⟨#[]⟩), (.int .i64 0)]) := ⟨by kernel_rfl, by kernel_rfl, by kernel_rfl, by decide⟩
theorem et_23 : ElemTy Tryz.prog 23 59 5 64 (.agg #[(.string ⟨#[]⟩), (.string ⟨#[]⟩), (.string ⟨#[]⟩), (.int .i64 0), (.int .i64 0)]) := ⟨by kernel_rfl, by kernel_rfl, by kernel_rfl, by decide⟩
theorem fo_26_0 : fieldOff Tryz.prog 26 0 = some 0 := by kernel_rfl
theorem fo_26_1 : fieldOff Tryz.prog 26 1 = some 1 := by kernel_rfl
theorem fo_59_0 : fieldOff Tryz.prog 59 0 = some 0 := by kernel_rfl
theorem fo_62_0 : fieldOff Tryz.prog 62 0 = some 0 := by kernel_rfl
theorem sc_22 : Scal Tryz.prog 22 := .of (by kernel_rfl)
theorem sc_23 : Scal Tryz.prog 23 := .of (by kernel_rfl)
theorem sc_3 : Scal Tryz.prog 3 := .of (by kernel_rfl)
theorem sc_9 : Scal Tryz.prog 9 := .of (by kernel_rfl)
theorem sz_59 : ∀ w, (sizeOf 59).run Tryz.prog w = .ok 5 w := SizeT.of (by kernel_rfl)
theorem sz_62 : ∀ w, (sizeOf 62).run Tryz.prog w = .ok 2 w := SizeT.of (by kernel_rfl)
theorem zt_59 : (Tryz.prog.info? 59).bind (·.zero) = some (.agg #[(.string ⟨#[]⟩), (.string ⟨#[]⟩), (.string ⟨#[]⟩), (.int .i64 0), (.int .i64 0)]) := by kernel_rfl
theorem zt_62 : (Tryz.prog.info? 62).bind (·.zero) = some (.agg #[(.string ⟨#[]⟩), (.int .i64 0)]) := by kernel_rfl
end TyC2
open TyC2

set_option maxRecDepth 100000 in
set_option maxHeartbeats 1000000 in
theorem c_rWithin (n a b : Int) : ACall Tryz.prog 95 [.v (.int .i64 n), .v (.int .i64 a), .v (.int .i64 b)] (.v (.bool (decide (a ≤ n ∧ n ≤ b)))) := by
  refine acall_of (n := 15) (ds' := [.v (.bool (decide (a ≤ n ∧ n ≤ b)))]) Tryz.func95 rfl (by kernel_rfl) rfl [6] rfl rfl ?_
  intro B w0 F0 fr
  refine AWP.seq (AWP.region ?_)
  refine AOps.aD rfl rfl rfl rfl rfl (.nil ?_)
  refine AWP.seq (AWP.region ?_)
  refine AOps.mD rfl rfl rfl rfl rfl ?_
  refine AOps.mD rfl rfl rfl rfl rfl ?_
  refine AOps.step rfl rfl rfl (AOp.leq rfl rfl rfl) ?_
  refine AOps.mD rfl rfl rfl rfl rfl ?_
  refine AOps.split 10 rfl (fun g1 => ?_) (fun g1 => ?_)
  · replace g1 := of_decide_eq_true g1
    refine AOps.step ⟨10, rfl, .inl ⟨_, rfl, rfl⟩⟩ rfl rfl (AOp.moveD rfl rfl) ?_
    refine AOps.step ⟨10, rfl, .inl ⟨_, rfl, rfl⟩⟩ rfl rfl (AOp.moveD rfl rfl) ?_
    refine AOps.step ⟨10, rfl, .inl ⟨_, rfl, rfl⟩⟩ rfl rfl (AOp.leq rfl rfl rfl) ?_
    refine AOps.step rfl rfl rfl (AOp.pickT rfl rfl rfl) ?_
    refine AOps.aD rfl rfl rfl rfl rfl (.nil ?_)
    refine AWP.ret ?_
    refine ⟨RetD.eq rfl ?_, trivial⟩
    all_goals (simp; omega)
  replace g1 := of_decide_eq_false g1
  refine AOps.pass ⟨10, rfl, .inl ⟨_, rfl, rfl⟩⟩ rfl rfl ?_
  refine AOps.pass ⟨10, rfl, .inl ⟨_, rfl, rfl⟩⟩ rfl rfl ?_
  refine AOps.pass ⟨10, rfl, .inl ⟨_, rfl, rfl⟩⟩ rfl rfl ?_
  refine AOps.step rfl rfl rfl (AOp.pickF rfl rfl rfl) ?_
  refine AOps.aD rfl rfl rfl rfl rfl (.nil ?_)
  refine AWP.ret ?_
  refine ⟨RetD.eq rfl ?_, trivial⟩
  all_goals (simp; omega)

set_option maxRecDepth 100000 in
set_option maxHeartbeats 1000000 in
theorem c_pWithin (n a b : Int) : ACall Tryz.prog 46 [.v (.int .i64 n), .v (.int .i64 a), .v (.int .i64 b)] (.v (.bool (decide (a ≤ n ∧ n ≤ b)))) := by
  refine acall_of (n := 15) (ds' := [.v (.bool (decide (a ≤ n ∧ n ≤ b)))]) Tryz.func46 rfl (by kernel_rfl) rfl [6] rfl rfl ?_
  intro B w0 F0 fr
  refine AWP.seq (AWP.region ?_)
  refine AOps.aD rfl rfl rfl rfl rfl (.nil ?_)
  refine AWP.seq (AWP.region ?_)
  refine AOps.mD rfl rfl rfl rfl rfl ?_
  refine AOps.mD rfl rfl rfl rfl rfl ?_
  refine AOps.step rfl rfl rfl (AOp.geq rfl rfl rfl) ?_
  refine AOps.mD rfl rfl rfl rfl rfl ?_
  refine AOps.split 10 rfl (fun g1 => ?_) (fun g1 => ?_)
  · replace g1 := of_decide_eq_true g1
    refine AOps.step ⟨10, rfl, .inl ⟨_, rfl, rfl⟩⟩ rfl rfl (AOp.moveD rfl rfl) ?_
    refine AOps.step ⟨10, rfl, .inl ⟨_, rfl, rfl⟩⟩ rfl rfl (AOp.moveD rfl rfl) ?_
    refine AOps.step ⟨10, rfl, .inl ⟨_, rfl, rfl⟩⟩ rfl rfl (AOp.leq rfl rfl rfl) ?_
    refine AOps.step rfl rfl rfl (AOp.pickT rfl rfl rfl) ?_
    refine AOps.aD rfl rfl rfl rfl rfl (.nil ?_)
    refine AWP.ret ?_
    refine ⟨RetD.eq rfl ?_, trivial⟩
    all_goals (simp; omega)
  replace g1 := of_decide_eq_false g1
  refine AOps.pass ⟨10, rfl, .inl ⟨_, rfl, rfl⟩⟩ rfl rfl ?_
  refine AOps.pass ⟨10, rfl, .inl ⟨_, rfl, rfl⟩⟩ rfl rfl ?_
  refine AOps.pass ⟨10, rfl, .inl ⟨_, rfl, rfl⟩⟩ rfl rfl ?_
  refine AOps.step rfl rfl rfl (AOp.pickF rfl rfl rfl) ?_
  refine AOps.aD rfl rfl rfl rfl rfl (.nil ?_)
  refine AWP.ret ?_
  refine ⟨RetD.eq rfl ?_, trivial⟩
  all_goals (simp; omega)

set_option maxRecDepth 100000 in
set_option maxHeartbeats 1000000 in
theorem c_pDay (n : Int) : ACall Tryz.prog 35 [.v (.int .i64 n)] (.v (.bool (decide (0 ≤ n ∧ n ≤ 200000)))) := by
  refine acall_of (n := 5) (ds' := [.v (.bool (decide (0 ≤ n ∧ n ≤ 200000)))]) Tryz.func35 rfl (by kernel_rfl) rfl [2] rfl rfl ?_
  intro B w0 F0 fr
  refine AWP.seq (AWP.region ?_)
  refine AOps.aD rfl rfl rfl rfl rfl (.nil ?_)
  refine AWP.seq (AWP.region ?_)
  refine AOps.mD rfl rfl rfl rfl rfl ?_
  refine AOps.step rfl rfl rfl (AOp.call rfl (.cons (ArgOk.rfl' rfl) (.cons (ArgOk.rfl' rfl) (.cons (ArgOk.rfl' rfl) .nil))) (c_pWithin _ _ _)) ?_
  refine AOps.aD rfl rfl rfl rfl rfl (.nil ?_)
  refine AWP.ret ?_
  refine ⟨RetD.eq rfl ?_, trivial⟩
  all_goals (rfl)

set_option maxRecDepth 100000 in
set_option maxHeartbeats 1000000 in
theorem c_rDay (n : Int) : ACall Tryz.prog 39 [.v (.int .i64 n)] (.v (.bool (decide (0 ≤ n ∧ n ≤ 200000)))) := by
  refine acall_of (n := 5) (ds' := [.v (.bool (decide (0 ≤ n ∧ n ≤ 200000)))]) Tryz.func39 rfl (by kernel_rfl) rfl [2] rfl rfl ?_
  intro B w0 F0 fr
  refine AWP.seq (AWP.region ?_)
  refine AOps.aD rfl rfl rfl rfl rfl (.nil ?_)
  refine AWP.seq (AWP.region ?_)
  refine AOps.mD rfl rfl rfl rfl rfl ?_
  refine AOps.step rfl rfl rfl (AOp.call rfl (.cons (ArgOk.rfl' rfl) (.cons (ArgOk.rfl' rfl) (.cons (ArgOk.rfl' rfl) .nil))) (c_rWithin _ _ _)) ?_
  refine AOps.aD rfl rfl rfl rfl rfl (.nil ?_)
  refine AWP.ret ?_
  refine ⟨RetD.eq rfl ?_, trivial⟩
  all_goals (rfl)

set_option maxRecDepth 100000 in
set_option maxHeartbeats 1000000 in
theorem c_ixItem (l : List Item) (p : Item → Bool) (f : Nat) (caps : List D) (hp : ∀ x : Item, ACall Tryz.prog f (.agg x.ds :: caps) (.v (.bool (p x)))) : ACall Tryz.prog 105 [.sl (l.map Item.ds), .clo (.func f) caps] (.v (.int .i64 (idxBy p l))) := by
  refine acall_of (n := 19) (ds' := [.v (.int .i64 (idxBy p l))]) Tryz.func105 rfl (by kernel_rfl) rfl [4] rfl rfl ?_
  intro B w0 F0 fr
  refine AWP.bound 0 rfl (fun hbd0 => ?_)
  rw [List.length_map] at hbd0
  refine AWP.seq (AWP.region ?_)
  refine AOps.aD rfl rfl rfl rfl rfl (.nil ?_)
  refine AWP.seq ?_
  refine AWP.seq (AWP.region ?_)
  refine AOps.mD rfl rfl rfl rfl rfl ?_
  refine AOps.step rfl rfl rfl (AOp.lenSl rfl et_22.ht rfl) ?_
  refine AOps.mD rfl rfl rfl rfl rfl (.nil ?_)
  refine AWP.block ?_
  refine AWP.loop (G := Nat) (fun k => Env.of [(8, .d (.v (.int .i64 (k : Int)))), (6, .d (.sl (l.map Item.ds))), (7, .d (.v (.int .i64 ((l.map Item.ds).length : Int)))), (0, .d (.sl (l.map Item.ds))), (1, .d (.clo (.func f) caps))]) (fun k => []) (fun k => k ≤ l.length ∧ ∀ c ∈ l.take k, p c = false) (fun k => l.length - k) 0 ⟨Nat.zero_le _, fun c h => by simp at h⟩ (Sub.less ⟨(SLe.of_eq rfl), SLe.refl _, SLe.refl _, SLe.refl _, SLe.refl _, trivial⟩ (fun _ h => h)) ?_
  intro k hk
  refine AWP.seq (AWP.region ?_)
  refine AOps.step rfl rfl rfl (AOp.lss rfl rfl rfl) (.nil ?_)
  refine AWP.seq ?_
  refine AWP.cond rfl (fun h1 => ?_) (fun h1 => ?_)
  · replace h1 := of_decide_eq_true h1
    rw [List.length_map] at h1
    have hlt : k < l.length := by omega
    refine AWP.skip ?_
    refine AWP.seq ?_
    refine AWP.block ?_
    refine AWP.seq (AWP.region ?_)
    refine AOps.mD rfl rfl rfl rfl rfl ?_
    refine AOps.aD rfl rfl rfl rfl rfl (.nil ?_)
    refine AWP.seq (AWP.region ?_)
    refine AOps.mD rfl rfl rfl rfl rfl ?_
    refine AOps.mD rfl rfl rfl rfl rfl ?_
    refine AOps.mD rfl rfl rfl rfl rfl ?_
    refine AOps.step rfl rfl rfl (AOp.indexAddr rfl et_22 rfl rfl k rfl (at_list hlt) rfl) ?_
    refine AOps.step rfl rfl rfl (AOp.loadAgg rfl ag_62 rfl rfl) ?_
    refine AOps.step rfl rfl rfl (AOp.callClo rfl rfl (.cons (ArgOk.rfl' rfl) .nil) (hp l[k])) (.nil ?_)
    refine AWP.cond rfl (fun h2 => ?_) (fun h2 => ?_)
    · skip
      rw [idxBy_yes hlt hk.2 h2]
      refine AWP.seq (AWP.region ?_)
      refine AOps.mD rfl rfl rfl rfl rfl ?_
      refine AOps.aD rfl rfl rfl rfl rfl (.nil ?_)
      refine AWP.ret ?_
      refine ⟨RetD.eq rfl ?_, trivial⟩
      all_goals (rfl)
    have hT := take_false' hlt hk.2 h2
    refine AWP.skip ?_
    refine AWP.region ?_
    refine AOps.step rfl rfl rfl (AOp.add64 rfl rfl rfl (by omega) (by omega)) ?_
    refine AOps.mD rfl rfl rfl rfl rfl (.nil ?_)
    refine ⟨k + 1, ⟨by omega, hT⟩, (by dsimp only; omega), Sub.less ⟨(SLe.of_eq rfl), SLe.refl _, SLe.refl _, SLe.refl _, SLe.refl _, trivial⟩ (fun _ h => h)⟩
  replace h1 := of_decide_eq_false h1
  rw [List.length_map] at h1
  rw [idxBy_no (fun c hc => hk.2 c (by rw [show k = l.length by omega]; exact hc))]
  refine AWP.exit ?_
  refine AWP.seq (AWP.region ?_)
  refine AOps.aD rfl rfl rfl rfl rfl (.nil ?_)
  refine AWP.ret ?_
  refine ⟨RetD.eq rfl ?_, trivial⟩
  all_goals (rfl)

set_option maxRecDepth 100000 in
set_option maxHeartbeats 1000000 in
theorem c_itemAt1 (x : Item) (nm : ByteArray) : ACall Tryz.prog 106 [.agg x.ds, .fp [.v (.string nm)]] (.v (.bool (decide (x.name = nm)))) := by
  refine acall_of (n := 8) (ds' := [.v (.bool (decide (x.name = nm)))]) Tryz.func106 rfl (by kernel_rfl) rfl [3] rfl rfl ?_
  intro B w0 F0 fr
  refine AWP.seq (AWP.region ?_)
  refine AOps.step rfl rfl rfl (AOp.box rfl rfl rfl) ?_
  refine AOps.aD rfl rfl rfl rfl rfl (.nil ?_)
  refine AWP.seq (AWP.region ?_)
  refine AOps.step rfl rfl rfl (AOp.fieldAddr rfl fo_62_0 rfl) ?_
  refine AOps.step rfl rfl rfl (AOp.load rfl sc_9 rfl) ?_
  refine AOps.step rfl rfl rfl (AOp.load rfl sc_9 rfl) ?_
  refine AOps.step rfl rfl rfl (AOp.seql rfl rfl rfl) ?_
  refine AOps.aD rfl rfl rfl rfl rfl (.nil ?_)
  refine AWP.ret ?_
  refine ⟨RetD.eq rfl ?_, trivial⟩
  all_goals (rfl)

set_option maxRecDepth 100000 in
set_option maxHeartbeats 1000000 in
theorem c_itemAt (v : Vlt) (nm : ByteArray) : ACall Tryz.prog 57 [.agg v.ds, .v (.string nm)] (.v (.int .i64 (itemIdx v nm))) := by
  refine acall_of (n := 9) (ds' := [.v (.int .i64 (itemIdx v nm))]) Tryz.func57 rfl (by kernel_rfl) rfl [4] rfl rfl ?_
  intro B w0 F0 fr
  refine AWP.seq (AWP.region ?_)
  refine AOps.step rfl rfl rfl (AOp.box rfl rfl rfl) ?_
  refine AOps.step rfl rfl rfl (AOp.box rfl rfl rfl) ?_
  refine AOps.aD rfl rfl rfl rfl rfl (.nil ?_)
  refine AWP.seq (AWP.region ?_)
  refine AOps.step rfl rfl rfl (AOp.fieldAddr rfl fo_26_0 rfl) ?_
  refine AOps.step rfl rfl rfl (AOp.load rfl sc_22 rfl) ?_
  refine AOps.step rfl rfl rfl (AOp.makeFunc rfl (.cons (ArgOk.rfl' rfl) .nil)) ?_
  refine AOps.step rfl rfl rfl (AOp.call rfl (.cons (ArgOk.rfl' rfl) (.cons (ArgOk.rfl' rfl) .nil)) (c_ixItem v.items (fun x => decide (x.name = nm)) 106 _ (fun x => c_itemAt1 x nm))) ?_
  refine AOps.aD rfl rfl rfl rfl rfl (.nil ?_)
  refine AWP.ret ?_
  refine ⟨RetD.eq rfl ?_, trivial⟩
  all_goals (rfl)

set_option maxRecDepth 100000 in
set_option maxHeartbeats 1000000 in
theorem c_itemOf (v : Vlt) (nm : ByteArray) : ACall Tryz.prog 71 [.agg v.ds, .v (.string nm)] (.v (.int .i64 (itemIdx v nm))) := by
  refine acall_of (n := 21) (ds' := [.v (.int .i64 (itemIdx v nm))]) Tryz.func71 rfl (by kernel_rfl) rfl [4] rfl rfl ?_
  intro B w0 F0 fr
  unfold itemIdx
  refine AWP.seq (AWP.region ?_)
  refine AOps.step rfl rfl rfl (AOp.box rfl rfl rfl) ?_
  refine AOps.aD rfl rfl rfl rfl rfl (.nil ?_)
  refine AWP.seq ?_
  refine AWP.seq (AWP.region ?_)
  refine AOps.step rfl rfl rfl (AOp.fieldAddr rfl fo_26_0 rfl) ?_
  refine AOps.step rfl rfl rfl (AOp.load rfl sc_22 rfl) ?_
  refine AOps.step rfl rfl rfl (AOp.lenSl rfl et_22.ht rfl) ?_
  refine AOps.mD rfl rfl rfl rfl rfl (.nil ?_)
  refine AWP.block ?_
  refine AWP.bound 8 rfl (fun hbd8 => ?_)
  rw [List.length_map] at hbd8
  refine AWP.loop (G := Nat) (fun k => Env.of [(10, .d (.v (.int .i64 (k : Int)))), (8, .d (.sl (v.items.map Item.ds))), (9, .d (.v (.int .i64 ((v.items.map Item.ds).length : Int)))), (1, .d (.v (.string nm)))]) (fun k => []) (fun k => k ≤ v.items.length ∧ ∀ c ∈ v.items.take k, decide (c.name = nm) = false) (fun k => v.items.length - k) 0 ⟨Nat.zero_le _, fun c h => by simp at h⟩ (Sub.less ⟨(SLe.of_eq rfl), SLe.refl _, SLe.refl _, SLe.refl _, trivial⟩ (fun _ h => h)) ?_
  intro k hk
  refine AWP.seq (AWP.region ?_)
  refine AOps.step rfl rfl rfl (AOp.lss rfl rfl rfl) (.nil ?_)
  refine AWP.seq ?_
  refine AWP.cond rfl (fun h1 => ?_) (fun h1 => ?_)
  · replace h1 := of_decide_eq_true h1
    rw [List.length_map] at h1
    have hlt : k < v.items.length := by omega
    refine AWP.skip ?_
    refine AWP.seq ?_
    refine AWP.block ?_
    refine AWP.seq (AWP.region ?_)
    refine AOps.mD rfl rfl rfl rfl rfl ?_
    refine AOps.step rfl rfl rfl (AOp.indexAddr rfl et_22 rfl rfl k rfl (at_list hlt) rfl) ?_
    refine AOps.step rfl rfl rfl (AOp.loadAgg rfl ag_62 rfl rfl) ?_
    refine AOps.alloc 101 rfl rfl rfl rfl zt_62 rfl rfl rfl ?_
    refine AOps.aD rfl rfl rfl rfl rfl ?_
    refine AOps.store rfl rfl rfl sz_62 rfl (.head _) rfl rfl rfl (Nat.le_of_ble_eq_true rfl) (.nil ?_)
    refine AWP.seq (AWP.region ?_)
    refine AOps.step rfl rfl rfl (AOp.fieldAddrP rfl fo_62_0 rfl) ?_
    refine AOps.step rfl rfl rfl (AOp.loadP rfl sc_9 rfl (.head _) rfl) ?_
    refine AOps.mD rfl rfl rfl rfl rfl ?_
    refine AOps.step rfl rfl rfl (AOp.seql rfl rfl rfl) (.nil ?_)
    refine AWP.cond rfl (fun h2 => ?_) (fun h2 => ?_)
    · replace h2 := of_decide_eq_true h2
      rw [idxBy_yes hlt hk.2 (decide_eq_true h2)]
      refine AWP.seq (AWP.region ?_)
      refine AOps.mD rfl rfl rfl rfl rfl ?_
      refine AOps.aD rfl rfl rfl rfl rfl (.nil ?_)
      refine AWP.ret ?_
      refine ⟨RetD.eq rfl ?_, trivial⟩
      all_goals (rfl)
    replace h2 := of_decide_eq_false h2
    have hT := take_false' (p := fun x : Item => decide (x.name = nm)) hlt hk.2 (decide_eq_false h2)
    refine AWP.skip ?_
    refine AWP.region ?_
    refine AOps.step rfl rfl rfl (AOp.add64 rfl rfl rfl (by omega) (by omega)) ?_
    refine AOps.mD rfl rfl rfl rfl rfl (.nil ?_)
    refine ⟨k + 1, ⟨by omega, hT⟩, (by dsimp only; omega), Sub.less ⟨(SLe.of_eq rfl), SLe.refl _, SLe.refl _, SLe.refl _, trivial⟩ (fun _ h => by cases h)⟩
  replace h1 := of_decide_eq_false h1
  rw [List.length_map] at h1
  rw [idxBy_no (fun c hc => hk.2 c (by rw [show k = v.items.length by omega]; exact hc))]
  refine AWP.exit ?_
  refine AWP.seq (AWP.region ?_)
  refine AOps.aD rfl rfl rfl rfl rfl (.nil ?_)
  refine AWP.ret ?_
  refine ⟨RetD.eq rfl ?_, trivial⟩
  all_goals (rfl)

set_option maxRecDepth 100000 in
set_option maxHeartbeats 1000000 in
theorem c_ixCarr (l : List Carr) (p : Carr → Bool) (f : Nat) (caps : List D) (hp : ∀ x : Carr, ACall Tryz.prog f (.agg x.ds :: caps) (.v (.bool (p x)))) : ACall Tryz.prog 111 [.sl (l.map Carr.ds), .clo (.func f) caps] (.v (.int .i64 (idxBy p l))) := by
  refine acall_of (n := 19) (ds' := [.v (.int .i64 (idxBy p l))]) Tryz.func111 rfl (by kernel_rfl) rfl [4] rfl rfl ?_
  intro B w0 F0 fr
  refine AWP.bound 0 rfl (fun hbd0 => ?_)
  rw [List.length_map] at hbd0
  refine AWP.seq (AWP.region ?_)
  refine AOps.aD rfl rfl rfl rfl rfl (.nil ?_)
  refine AWP.seq ?_
  refine AWP.seq (AWP.region ?_)
  refine AOps.mD rfl rfl rfl rfl rfl ?_
  refine AOps.step rfl rfl rfl (AOp.lenSl rfl et_23.ht rfl) ?_
  refine AOps.mD rfl rfl rfl rfl rfl (.nil ?_)
  refine AWP.block ?_
  refine AWP.loop (G := Nat) (fun k => Env.of [(8, .d (.v (.int .i64 (k : Int)))), (6, .d (.sl (l.map Carr.ds))), (7, .d (.v (.int .i64 ((l.map Carr.ds).length : Int)))), (0, .d (.sl (l.map Carr.ds))), (1, .d (.clo (.func f) caps))]) (fun k => []) (fun k => k ≤ l.length ∧ ∀ c ∈ l.take k, p c = false) (fun k => l.length - k) 0 ⟨Nat.zero_le _, fun c h => by simp at h⟩ (Sub.less ⟨(SLe.of_eq rfl), SLe.refl _, SLe.refl _, SLe.refl _, SLe.refl _, trivial⟩ (fun _ h => h)) ?_
  intro k hk
  refine AWP.seq (AWP.region ?_)
  refine AOps.step rfl rfl rfl (AOp.lss rfl rfl rfl) (.nil ?_)
  refine AWP.seq ?_
  refine AWP.cond rfl (fun h1 => ?_) (fun h1 => ?_)
  · replace h1 := of_decide_eq_true h1
    rw [List.length_map] at h1
    have hlt : k < l.length := by omega
    refine AWP.skip ?_
    refine AWP.seq ?_
    refine AWP.block ?_
    refine AWP.seq (AWP.region ?_)
    refine AOps.mD rfl rfl rfl rfl rfl ?_
    refine AOps.aD rfl rfl rfl rfl rfl (.nil ?_)
    refine AWP.seq (AWP.region ?_)
    refine AOps.mD rfl rfl rfl rfl rfl ?_
    refine AOps.mD rfl rfl rfl rfl rfl ?_
    refine AOps.mD rfl rfl rfl rfl rfl ?_
    refine AOps.step rfl rfl rfl (AOp.indexAddr rfl et_23 rfl rfl k rfl (at_list hlt) rfl) ?_
    refine AOps.step rfl rfl rfl (AOp.loadAgg rfl ag_59 rfl rfl) ?_
    refine AOps.step rfl rfl rfl (AOp.callClo rfl rfl (.cons (ArgOk.rfl' rfl) .nil) (hp l[k])) (.nil ?_)
    refine AWP.cond rfl (fun h2 => ?_) (fun h2 => ?_)
    · skip
      rw [idxBy_yes hlt hk.2 h2]
      refine AWP.seq (AWP.region ?_)
      refine AOps.mD rfl rfl rfl rfl rfl ?_
      refine AOps.aD rfl rfl rfl rfl rfl (.nil ?_)
      refine AWP.ret ?_
      refine ⟨RetD.eq rfl ?_, trivial⟩
      all_goals (rfl)
    have hT := take_false' hlt hk.2 h2
    refine AWP.skip ?_
    refine AWP.region ?_
    refine AOps.step rfl rfl rfl (AOp.add64 rfl rfl rfl (by omega) (by omega)) ?_
    refine AOps.mD rfl rfl rfl rfl rfl (.nil ?_)
    refine ⟨k + 1, ⟨by omega, hT⟩, (by dsimp only; omega), Sub.less ⟨(SLe.of_eq rfl), SLe.refl _, SLe.refl _, SLe.refl _, SLe.refl _, trivial⟩ (fun _ h => h)⟩
  replace h1 := of_decide_eq_false h1
  rw [List.length_map] at h1
  rw [idxBy_no (fun c hc => hk.2 c (by rw [show k = l.length by omega]; exact hc))]
  refine AWP.exit ?_
  refine AWP.seq (AWP.region ?_)
  refine AOps.aD rfl rfl rfl rfl rfl (.nil ?_)
  refine AWP.ret ?_
  refine ⟨RetD.eq rfl ?_, trivial⟩
  all_goals (rfl)

set_option maxRecDepth 100000 in
set_option maxHeartbeats 1000000 in
theorem c_carrAt1 (x : Carr) (nm : ByteArray) : ACall Tryz.prog 117 [.agg x.ds, .fp [.v (.string nm)]] (.v (.bool (decide (x.name = nm)))) := by
  refine acall_of (n := 8) (ds' := [.v (.bool (decide (x.name = nm)))]) Tryz.func117 rfl (by kernel_rfl) rfl [3] rfl rfl ?_
  intro B w0 F0 fr
  refine AWP.seq (AWP.region ?_)
  refine AOps.step rfl rfl rfl (AOp.box rfl rfl rfl) ?_
  refine AOps.aD rfl rfl rfl rfl rfl (.nil ?_)
  refine AWP.seq (AWP.region ?_)
  refine AOps.step rfl rfl rfl (AOp.fieldAddr rfl fo_59_0 rfl) ?_
  refine AOps.step rfl rfl rfl (AOp.load rfl sc_9 rfl) ?_
  refine AOps.step rfl rfl rfl (AOp.load rfl sc_9 rfl) ?_
  refine AOps.step rfl rfl rfl (AOp.seql rfl rfl rfl) ?_
  refine AOps.aD rfl rfl rfl rfl rfl (.nil ?_)
  refine AWP.ret ?_
  refine ⟨RetD.eq rfl ?_, trivial⟩
  all_goals (rfl)

set_option maxRecDepth 100000 in
set_option maxHeartbeats 1000000 in
theorem c_carrAt (v : Vlt) (nm : ByteArray) : ACall Tryz.prog 89 [.agg v.ds, .v (.string nm)] (.v (.int .i64 (carrIdx v nm))) := by
  refine acall_of (n := 9) (ds' := [.v (.int .i64 (carrIdx v nm))]) Tryz.func89 rfl (by kernel_rfl) rfl [4] rfl rfl ?_
  intro B w0 F0 fr
  refine AWP.seq (AWP.region ?_)
  refine AOps.step rfl rfl rfl (AOp.box rfl rfl rfl) ?_
  refine AOps.step rfl rfl rfl (AOp.box rfl rfl rfl) ?_
  refine AOps.aD rfl rfl rfl rfl rfl (.nil ?_)
  refine AWP.seq (AWP.region ?_)
  refine AOps.step rfl rfl rfl (AOp.fieldAddr rfl fo_26_1 rfl) ?_
  refine AOps.step rfl rfl rfl (AOp.load rfl sc_23 rfl) ?_
  refine AOps.step rfl rfl rfl (AOp.makeFunc rfl (.cons (ArgOk.rfl' rfl) .nil)) ?_
  refine AOps.step rfl rfl rfl (AOp.call rfl (.cons (ArgOk.rfl' rfl) (.cons (ArgOk.rfl' rfl) .nil)) (c_ixCarr v.carrs (fun x => decide (x.name = nm)) 117 _ (fun x => c_carrAt1 x nm))) ?_
  refine AOps.aD rfl rfl rfl rfl rfl (.nil ?_)
  refine AWP.ret ?_
  refine ⟨RetD.eq rfl ?_, trivial⟩
  all_goals (rfl)

set_option maxRecDepth 100000 in
set_option maxHeartbeats 1000000 in
theorem c_carrierOf (v : Vlt) (nm : ByteArray) : ACall Tryz.prog 72 [.agg v.ds, .v (.string nm)] (.v (.int .i64 (carrIdx v nm))) := by
  refine acall_of (n := 21) (ds' := [.v (.int .i64 (carrIdx v nm))]) Tryz.func72 rfl (by kernel_rfl) rfl [4] rfl rfl ?_
  intro B w0 F0 fr
  unfold carrIdx
  refine AWP.seq (AWP.region ?_)
  refine AOps.step rfl rfl rfl (AOp.box rfl rfl rfl) ?_
  refine AOps.aD rfl rfl rfl rfl rfl (.nil ?_)
  refine AWP.seq ?_
  refine AWP.seq (AWP.region ?_)
  refine AOps.step rfl rfl rfl (AOp.fieldAddr rfl fo_26_1 rfl) ?_
  refine AOps.step rfl rfl rfl (AOp.load rfl sc_23 rfl) ?_
  refine AOps.step rfl rfl rfl (AOp.lenSl rfl et_23.ht rfl) ?_
  refine AOps.mD rfl rfl rfl rfl rfl (.nil ?_)
  refine AWP.block ?_
  refine AWP.bound 8 rfl (fun hbd8 => ?_)
  rw [List.length_map] at hbd8
  refine AWP.loop (G := Nat) (fun k => Env.of [(10, .d (.v (.int .i64 (k : Int)))), (8, .d (.sl (v.carrs.map Carr.ds))), (9, .d (.v (.int .i64 ((v.carrs.map Carr.ds).length : Int)))), (1, .d (.v (.string nm)))]) (fun k => []) (fun k => k ≤ v.carrs.length ∧ ∀ c ∈ v.carrs.take k, decide (c.name = nm) = false) (fun k => v.carrs.length - k) 0 ⟨Nat.zero_le _, fun c h => by simp at h⟩ (Sub.less ⟨(SLe.of_eq rfl), SLe.refl _, SLe.refl _, SLe.refl _, trivial⟩ (fun _ h => h)) ?_
  intro k hk
  refine AWP.seq (AWP.region ?_)
  refine AOps.step rfl rfl rfl (AOp.lss rfl rfl rfl) (.nil ?_)
  refine AWP.seq ?_
  refine AWP.cond rfl (fun h1 => ?_) (fun h1 => ?_)
  · replace h1 := of_decide_eq_true h1
    rw [List.length_map] at h1
    have hlt : k < v.carrs.length := by omega
    refine AWP.skip ?_
    refine AWP.seq ?_
    refine AWP.block ?_
    refine AWP.seq (AWP.region ?_)
    refine AOps.mD rfl rfl rfl rfl rfl ?_
    refine AOps.step rfl rfl rfl (AOp.indexAddr rfl et_23 rfl rfl k rfl (at_list hlt) rfl) ?_
    refine AOps.step rfl rfl rfl (AOp.loadAgg rfl ag_59 rfl rfl) ?_
    refine AOps.alloc 101 rfl rfl rfl rfl zt_59 rfl rfl rfl ?_
    refine AOps.aD rfl rfl rfl rfl rfl ?_
    refine AOps.store rfl rfl rfl sz_59 rfl (.head _) rfl rfl rfl (Nat.le_of_ble_eq_true rfl) (.nil ?_)
    refine AWP.seq (AWP.region ?_)
    refine AOps.step rfl rfl rfl (AOp.fieldAddrP rfl fo_59_0 rfl) ?_
    refine AOps.step rfl rfl rfl (AOp.loadP rfl sc_9 rfl (.head _) rfl) ?_
    refine AOps.mD rfl rfl rfl rfl rfl ?_
    refine AOps.step rfl rfl rfl (AOp.seql rfl rfl rfl) (.nil ?_)
    refine AWP.cond rfl (fun h2 => ?_) (fun h2 => ?_)
    · replace h2 := of_decide_eq_true h2
      rw [idxBy_yes hlt hk.2 (decide_eq_true h2)]
      refine AWP.seq (AWP.region ?_)
      refine AOps.mD rfl rfl rfl rfl rfl ?_
      refine AOps.aD rfl rfl rfl rfl rfl (.nil ?_)
      refine AWP.ret ?_
      refine ⟨RetD.eq rfl ?_, trivial⟩
      all_goals (rfl)
    replace h2 := of_decide_eq_false h2
    have hT := take_false' (p := fun x : Carr => decide (x.name = nm)) hlt hk.2 (decide_eq_false h2)
    refine AWP.skip ?_
    refine AWP.region ?_
    refine AOps.step rfl rfl rfl (AOp.add64 rfl rfl rfl (by omega) (by omega)) ?_
    refine AOps.mD rfl rfl rfl rfl rfl (.nil ?_)
    refine ⟨k + 1, ⟨by omega, hT⟩, (by dsimp only; omega), Sub.less ⟨(SLe.of_eq rfl), SLe.refl _, SLe.refl _, SLe.refl _, trivial⟩ (fun _ h => by cases h)⟩
  replace h1 := of_decide_eq_false h1
  rw [List.length_map] at h1
  rw [idxBy_no (fun c hc => hk.2 c (by rw [show k = v.carrs.length by omega]; exact hc))]
  refine AWP.exit ?_
  refine AWP.seq (AWP.region ?_)
  refine AOps.aD rfl rfl rfl rfl rfl (.nil ?_)
  refine AWP.ret ?_
  refine ⟨RetD.eq rfl ?_, trivial⟩
  all_goals (rfl)

end Go.Proofs.YtieccphckobhjaaGreatDoor
