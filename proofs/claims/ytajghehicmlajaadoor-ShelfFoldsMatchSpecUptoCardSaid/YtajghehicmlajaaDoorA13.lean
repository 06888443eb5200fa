/- Abstract values: calls that write what the caller owns. No statement of the seat. -/
import Derived.Test.YtajghehicmlajaaDoorA12
namespace Go.Proofs.YtajghehicmlajaaDoor
open Go.RowKit

def ownB (σ : Obs) (ρ : Nat → Value) (b : Nat) : Prop := ∃ p ∈ σ, blk (ρ p.1) = some b
def RepSL (F : Nat → Prop) (ρ : Nat → Value) (w : World) (vs : List Value) (ss : List S) : Prop := vs.length = ss.length ∧ ∀ i (h1 : i < vs.length) (h2 : i < ss.length), RepS F ρ w vs[i] ss[i]

/-- How such a call ends: what was frozen stays; of the rest only the told objects may have changed. -/
structure XEnd (B : Nat) (F : Nat → Prop) (ρ : Nat → Value) (w : World) (σ : Obs) (F' : Nat → Prop) (ρ' : Nat → Value) (w' : World) (σ' : Obs) (chg : Nat → Bool) : Prop where
  up : ∀ b, F b → F' b
  new : ∀ b, F' b → F b ∨ (w.heap.size ≤ b ∨ ownB σ ρ b)
  lt : ∀ b, F' b → b < w'.heap.size
  kept : Kept (fun b => w.heap.size ≤ b ∨ ownB σ ρ b) w w'
  obs : ObsOk B F' ρ' w' σ'
  own : ∀ p ∈ σ', ∀ g, blk (ρ' p.1) = some g → w.heap.size ≤ g ∨ ownB σ ρ g
  same : ∀ i, chg i = false → ρ' i = ρ i

/-- f, called with what reads as ss, where the caller's objects are σ, returns what reads as d; the objects are σ' then. -/
def XCall (P : Program) (f : FuncId) (ss : List S) (σ σ' : Obs) (chg : Nat → Bool) (d : D) : Prop := Enters P f ∧
  ∀ (F : Nat → Prop) (ρ : Nat → Value) (B : Nat) (w : World) (vs : List Value), (∀ b, F b → b < w.heap.size) → B ≤ w.heap.size → ObsOk B F ρ w σ → RepSL F ρ w vs ss →
    Calls P f vs.toArray w fun e w' => ∃ v F' ρ', e = .returned v ∧ Rep F' w' v d ∧ XEnd B F ρ w σ F' ρ' w' σ' chg

theorem XCall.le {P : Program} {f : FuncId} {ss : List S} {σ σ' : Obs} {chg : Nat → Bool} {d d' : D} (h : XCall P f ss σ σ' chg d) (hd : Le d d') : XCall P f ss σ σ' chg d' :=
  ⟨h.1, fun F ρ B w vs h1 h2 h3 h4 => (h.2 F ρ B w vs h1 h2 h3 h4).mono fun _ _ ⟨v, F', ρ', h5, h6, h7⟩ => ⟨v, F', ρ', h5, hd _ _ _ h6, h7⟩⟩

theorem ObOk.more {B : Nat} {F F2 : Nat → Prop} {ρ : Nat → Value} {w : World} {id : Nat} {o : Ob} (h : ObOk B F ρ w id o) (hF : ∀ b, F b → b < w.heap.size) (hu : ∀ b, F b → F2 b) (hn : ∀ g, blk (ρ id) = some g → ¬ F2 g) : ObOk B F2 ρ w id o := by
  cases o with
  | row e size els =>
    obtain ⟨xs, h1, h2, h3, h4⟩ := h
    exact ⟨xs, h1, h2, fun k hk j hj => ⟨(h3 k hk j hj).1, (h3 k hk j hj).2.mono hu fun _ _ => rfl⟩, hn⟩
  | cells ss =>
    obtain ⟨g, e, cs, h1, h2, h3, h4, h5, h6⟩ := h
    exact ⟨g, e, cs, h1, h2, hn g (by rw [h1]; rfl), h4, h5, fun j hj hj' => ⟨(h6 j hj hj').1, RepS.turn (row := none) (h6 j hj hj').2 hF (fun g hg => by simp at hg) ⟨rfl, rfl, rfl, Nat.le_refl _, fun _ _ _ => rfl⟩ hu⟩⟩
  | map M =>
    obtain ⟨g, es, cl, h1, h2, h3, h4, h5, h6⟩ := h
    exact ⟨g, es, cl, h1, h2, hn g (by rw [h1]; rfl), h4, h5, fun j hj hj' => ⟨(h6 j hj hj').1, (h6 j hj hj').2.mono hu fun _ _ => rfl⟩⟩
  | rowS e size els =>
    obtain ⟨xs, h1, h2, h3, h4⟩ := h
    exact ⟨xs, h1, h2, fun k hk j hj => ⟨(h3 k hk j hj).1, RepS.turn (row := none) (h3 k hk j hj).2 hF (fun g hg => by simp at hg) ⟨rfl, rfl, rfl, Nat.le_refl _, fun _ _ _ => rfl⟩ hu⟩, hn⟩

def Env.argsS : Nat → List S → Env
  | _, [] => fun _ => .d .any
  | k, d :: ds => fun u => match Nat.beq u k with | true => d | false => Env.argsS (k + 1) ds u
theorem Env.argsS_get : ∀ (ds : List S) (k t : Nat), (h : t < ds.length) → Env.argsS k ds (k + t) = ds[t]
  | [], _, _, h => absurd h (by simp)
  | d :: ds, k, t, h => by
    cases t with
    | zero => simp [Env.argsS]
    | succ t =>
      have hb : Nat.beq (k + (t + 1)) k = false := by rw [Bool.eq_false_iff]; intro hh; have := Nat.eq_of_beq_eq_true hh; omega
      simp only [Env.argsS, hb]
      have := Env.argsS_get ds (k + 1) t (by simpa using h)
      rw [show k + (t + 1) = k + 1 + t by omega, this]
      simp
theorem Env.argsS_out : ∀ (ds : List S) (k t : Nat), (h : ds.length ≤ t) → Env.argsS k ds (k + t) = .d .any
  | [], _, _, _ => rfl
  | d :: ds, k, t, h => by
    have hb : Nat.beq (k + t) k = false := by rw [Bool.eq_false_iff]; intro hh; have := Nat.eq_of_beq_eq_true hh; simp at h; omega
    simp only [Env.argsS, hb]
    have := Env.argsS_out ds (k + 1) (t - 1) (by simp at h; omega)
    rw [show k + t = k + 1 + (t - 1) by simp at h; omega, this]

def RetDX (e : Env) (σ σ' : Obs) (t : Nat) (d : D) : Prop := (∃ d0, e t = .d d0 ∧ Le d0 d) ∨ ∃ id ee size els, e t = .own id ∧ (id, Ob.row ee size els) ∈ σ ∧ (∀ q ∈ σ', q.1 ≠ id) ∧ d = .sl els
theorem RetDX.eq {e : Env} {σ σ' : Obs} {t : Nat} {d d' : D} (h : e t = .d d) (hd : d = d') : RetDX e σ σ' t d' := .inl ⟨d, h, Le.of_eq hd⟩
theorem RetDX.nil {e : Env} {σ σ' : Obs} {t : Nat} (h : e t = .d (.v (.slice none 0 0))) : RetDX e σ σ' t (.sl []) := .inl ⟨_, h, Le.nil⟩
theorem RetDX.own {e : Env} {σ σ' : Obs} {t id ee size : Nat} {els els' : List (List D)} (h : e t = .own id) (hm : (id, Ob.row ee size els) ∈ σ) (hn : Obs.fresh id σ' = true) (hd : els = els') : RetDX e σ σ' t (.sl els') :=
  .inr ⟨id, ee, size, els, h, hm, Obs.fresh_spec hn, by rw [hd]⟩
def RetLX (e : Env) (σ σ' : Obs) : List Nat → List D → Prop
  | [], [] => True
  | t :: ts, d :: ds => RetDX e σ σ' t d ∧ RetLX e σ σ' ts ds
  | _, _ => False
def AllIn (σ : Obs) : Obs → Prop
  | [] => True
  | p :: l => p ∈ σ ∧ AllIn σ l
theorem AllIn.mem {σ : Obs} : ∀ {l : Obs}, AllIn σ l → ∀ p ∈ l, p ∈ σ
  | [], _, p, hp => by cases hp
  | x :: l, h, p, hp => by
    cases hp with
    | head => exact h.1
    | tail _ hp => exact h.2.mem p hp
def RetX (ts : List Nat) (ds : List D) (σ' : Obs) : Post := fun ex e σ => match ex with
  | .ret => RetLX e σ σ' ts ds ∧ AllIn σ σ'
  | .normal => RetLX e σ σ' ts ds ∧ AllIn σ σ'
  | _ => False

def endFX (F : Nat → Prop) (ρ : Nat → Value) (σ σ' : Obs) : Nat → Prop := fun b => F b ∨ ∃ p ∈ σ, (∀ q ∈ σ', q.1 ≠ p.1) ∧ blk (ρ p.1) = some b

theorem RetDX.rep {cx : Cx} {F : Nat → Prop} {ρ : Nat → Value} {e : Env} {σ σ' : Obs} {a : Act} {w : World} (h : R0 cx F ρ e σ a w) {t : Nat} {d : D} (hd : RetDX e σ σ' t d) : Rep (endFX F ρ σ σ') w (a.tmps.getD t undef) d := by
  have hx := h.env t
  rcases hd with ⟨d0, h1, h2⟩ | ⟨id, ee, size, els, h1, h2, h3, rfl⟩
  · rw [h1] at hx
    exact h2 _ _ _ ((repS_d hx).mono (fun b hb => .inl hb) fun _ _ => rfl)
  · rw [h1] at hx
    generalize a.tmps.getD t undef = x at hx
    cases hx
    exact h.rep_row h2 (fun b hb => .inl hb) (fun g hg => .inr ⟨_, h2, h3, hg⟩)
theorem RetLX.rep {cx : Cx} {F : Nat → Prop} {ρ : Nat → Value} {e : Env} {σ σ' : Obs} {a : Act} {w : World} (h : R0 cx F ρ e σ a w) : ∀ {ts : List Nat} {ds : List D}, RetLX e σ σ' ts ds → RepL (endFX F ρ σ σ') w (ts.map fun t => a.tmps.getD t undef) ds
  | [], [], _ => RepL.nil
  | _ :: _, _ :: _, hd => RepL.cons (hd.1.rep h) (RetLX.rep h hd.2)
  | [], _ :: _, hd => hd.elim
  | _ :: _, [], hd => hd.elim

theorem xcall_of {P : Program} {f : FuncId} {fn : Func} {c : Code} {n : Nat} {ss : List S} {σ σ' : Obs} {chg : Nat → Bool} {ds' : List D} (hf : P.funcs[f]? = some fn) (hb : fn.body = some c) (hn : (fn.name == "runtime.NumGoroutine") = false) (hN : fn.ntmps = n)
    (ts : List Nat) (hr : fn.results = (ts.map ResultVar.tmp).toArray) (hle' : Nat.ble ss.length n = true)
    (h : ∀ B w0 F0 fr ρ0, AWP ⟨P, n, B, w0, F0, fr, fun i => !(chg i), ρ0⟩ c (Env.argsS 0 ss) σ (RetX ts ds' σ')) : XCall P f ss σ σ' chg (retOf ds') := by
  have hle : ss.length ≤ n := Nat.le_of_ble_eq_true hle'
  refine ⟨Enters.of hf hn (by rw [hb]; rfl), fun F ρ B w vs hF hB hσ hv => ?_⟩
  refine calls_of_wp hf hb ?_
  have hR : R ⟨P, n, B, w, F, (fun b => w.heap.size ≤ b ∨ ownB σ ρ b), fun i => !(chg i), ρ⟩ (Env.argsS 0 ss) σ { tmps := vs.toArray ++ Array.replicate (fn.ntmps - vs.toArray.size) undef, defers := [] } w := by
    refine ⟨F, ρ, ?_, rfl, hF, fun b hb => hb, fun b hb => .inl hb, Kept.refl _ _, hB, fun t => ?_, hσ, fun b hb => .inl hb, fun p hp g hg => .inr ⟨p, hp, hg⟩, fun i _ => rfl⟩
    · simp [hN, hv.1]; omega
    · by_cases ht : t < ss.length
      · have := Env.argsS_get ss 0 t ht
        rw [Nat.zero_add] at this
        rw [this]
        have hvt : t < vs.length := by rw [hv.1]; exact ht
        have : (vs.toArray ++ Array.replicate (fn.ntmps - vs.toArray.size) undef).getD t undef = vs[t] := by
          rw [Array.getD_eq_getD_getElem?, Array.getElem?_append_left (by simpa using hvt)]
          simp [hvt]
        rw [this]
        exact hv.2 t hvt ht
      · have := Env.argsS_out ss 0 t (by omega)
        rw [Nat.zero_add] at this
        rw [this]
        exact .d (.any _)
  refine wp_mono (h _ _ _ _ _ _ _ hR) ?_
  rintro ex a w' ⟨e', σe, hq, F', ρ', hr'⟩
  have hres : (results fn a.tmps).run P w' = .ok (match ts.map fun t => a.tmps.getD t undef with | [x] => x | l => .tuple l.toArray) w' := by
    have key : ∀ (ts : List Nat), (List.mapM (fun r => match r with | .tmp t => pure (a.tmps.getD t undef) | .cell b t => do loadVar t (← asAddr (a.tmps.getD b undef))) (ts.map ResultVar.tmp) : Sem (List Value)).run P w' = .ok (ts.map fun t => a.tmps.getD t undef) w' := by
      intro ts
      induction ts with
      | nil => rfl
      | cons t ts ih =>
        rw [List.map_cons, List.mapM_cons, Sem.run_bind]
        simp only [Sem.run_pure, Result.andThen_ok, Sem.run_bind, ih, List.map_cons]
    unfold results
    rw [hr, Sem.run_bind]
    have h2 : (Array.mapM (fun r => match r with | ResultVar.tmp t => pure (a.tmps.getD t undef) | ResultVar.cell b t => do loadVar t (← asAddr (a.tmps.getD b undef))) (ts.map ResultVar.tmp).toArray : Sem (Array Value)).run P w' = .ok (ts.map fun t => a.tmps.getD t undef).toArray w' := by
      rw [List.mapM_toArray, Sem.run_map, key]
      rfl
    have h3 := h2
    refine (congrArg (fun r => Result.andThen r _) h3).trans ?_
    simp only [Result.andThen_ok]
    rcases ts with _ | ⟨t, _ | ⟨t2, ts⟩⟩ <;> rfl
  have hends : RetLX e' σe σ' ts ds' ∧ AllIn σe σ' → bodyPost P fn (fun e w' => ∃ v F' ρ', e = .returned v ∧ Rep F' w' v (retOf ds') ∧ XEnd B F ρ w σ F' ρ' w' σ' chg) .ret a w' := by
    rintro ⟨hq, hin⟩
    have hl := hq.rep hr'
    have hin := hin.mem
    refine ⟨hr'.defers, _, hres, _, endFX F' ρ' σe σ', ρ', rfl, ?_, ?_⟩
    · generalize (ts.map fun t => a.tmps.getD t undef) = vs' at hl
      obtain ⟨h1, h2⟩ := hl
      rcases ds' with _ | ⟨d, _ | ⟨d2, ds'⟩⟩
      · have : vs' = [] := List.eq_nil_of_length_eq_zero h1
        subst this
        exact .tup [] [] rfl (fun i h1 => absurd h1 (by simp))
      · rcases vs' with _ | ⟨x, _ | ⟨y, vs'⟩⟩ <;> simp at h1
        exact h2 0 (by simp) (by simp)
      · rcases vs' with _ | ⟨x, _ | ⟨y, vs'⟩⟩
        · simp at h1
        · simp at h1
        · exact .tup _ _ h1 h2
    · have hlt : ∀ b, endFX F' ρ' σe σ' b → b < w'.heap.size := by
        rintro b (hb | ⟨p, hp, _, hb⟩)
        · exact hr'.lt b hb
        · exact ((hr'.obs.ok p hp).blk_lt hb).2
      refine ⟨fun b hb => .inl (hr'.base b hb), ?_, hlt, hr'.below, ⟨fun p hp => ?_, fun p hp q hq => hr'.obs.apart p (hin p hp) q (hin q hq), fun p hp q hq => hr'.obs.uniq p (hin p hp) q (hin q hq)⟩, fun p hp => hr'.kown p (hin p hp), fun i hi => hr'.fixed i (by show (!(chg i)) = true; rw [hi]; rfl)⟩
      · rintro b (hb | ⟨p, hp, _, hb⟩)
        · exact hr'.new b hb
        · exact .inr (hr'.kown p hp b hb)
      · refine (hr'.obs.ok p (hin p hp)).more hr'.lt (fun b hb => .inl hb) ?_
        rintro g hg (hf | ⟨q, hq, hne, hb⟩)
        · exact (hr'.obs.ok p (hin p hp)).nF hg hf
        · exact hr'.obs.apart p (hin p hp) q hq (hne p hp) g hg hb
  cases ex with
  | ret => exact hends hq
  | normal => exact hends hq
  | exit id => exact hq.elim
  | goto l => exact hq.elim
  | panic c => exact hq.elim
  | outgrown => exact hq.elim

/-! ## The caller -/
def S.killP (c : Nat → Bool) : S → S
  | .own i => match c i with | true => .d .any | false => .own i
  | .ptr i off => match c i with | true => .d .any | false => .ptr i off
  | .d x => .d x
  | .clo f caps => match Cap.anyP c caps with | true => .d .any | false => .clo f caps
def Env.killP (c : Nat → Bool) (e : Env) : Env := fun t => (e t).killP c
def Ob.killP (c : Nat → Bool) : Ob → Ob
  | .row e size els => .row e size els
  | .cells ss => .cells (ss.map (S.killP c))
  | .map M => .map M
  | .rowS e size els => .rowS e size (els.map fun ss => ss.map (S.killP c))
def Obs.killP (c : Nat → Bool) : Obs → Obs
  | [] => []
  | p :: l => (p.1, p.2.killP c) :: Obs.killP c l
def Obs.dels : Obs → Obs → Obs
  | [], σ => σ
  | p :: l, σ => Obs.dels l (Obs.del p.1 σ)
def Obs.join : Obs → Obs → Obs
  | [], σ => σ
  | p :: l, σ => p :: Obs.join l σ
def Obs.allIds (c : Nat → Bool) : Obs → Bool
  | [] => true
  | p :: l => c p.1 && Obs.allIds c l
theorem Obs.allIds_mem {c : Nat → Bool} : ∀ {σ : Obs}, Obs.allIds c σ = true → ∀ p ∈ σ, c p.1 = true
  | [], _, p, hp => by cases hp
  | x :: l, h, p, hp => by
    simp only [Obs.allIds, Bool.and_eq_true] at h
    cases hp with
    | head => exact h.1
    | tail _ hp => exact Obs.allIds_mem h.2 p hp
theorem Obs.mem_join {a b : Obs} {p : Nat × Ob} : p ∈ Obs.join a b → p ∈ a ∨ p ∈ b := by
  induction a with
  | nil => exact fun h => .inr h
  | cons x l ih =>
    intro h
    cases h with
    | head => exact .inl (.head _)
    | tail _ h => exact (ih h).imp (.tail _) id
theorem Obs.mem_killP {c : Nat → Bool} : ∀ {σ : Obs} {p : Nat × Ob}, p ∈ Obs.killP c σ → ∃ q ∈ σ, p = (q.1, q.2.killP c)
  | [], _, h => by cases h
  | x :: l, p, h => by
    unfold Obs.killP at h
    cases h with
    | head => exact ⟨x, by simp, rfl⟩
    | tail _ h => obtain ⟨q, hq, he⟩ := Obs.mem_killP h; exact ⟨q, List.mem_cons_of_mem _ hq, he⟩
theorem Obs.mem_dels : ∀ {l σ : Obs} {p : Nat × Ob}, p ∈ Obs.dels l σ → p ∈ σ ∧ ∀ q ∈ l, p.1 ≠ q.1
  | [], _, _, h => ⟨h, fun q hq => by cases hq⟩
  | x :: l, σ, p, h => by
    obtain ⟨h1, h2⟩ := Obs.mem_dels (l := l) h
    obtain ⟨h3, h4⟩ := Obs.mem_del h1
    refine ⟨h3, fun q hq => ?_⟩
    cases hq with
    | head => exact h4
    | tail _ hq => exact h2 q hq

theorem RepS.over {F F' : Nat → Prop} {ρ ρ' : Nat → Value} {w w' : World} {x : Value} {s : S} {chg : Nat → Bool} (h : RepS F ρ w x s) (hu : ∀ b, F b → F' b) (hw : ∀ b, F b → w'.heap[b]? = w.heap[b]?) (hρ : ∀ i, chg i = false → ρ' i = ρ i) : RepS F' ρ' w' x (s.killP chg) := by
  cases h with
  | d h => exact .d (h.mono hu hw)
  | own i =>
    cases hb : chg i with
    | true => simp only [S.killP, hb]; exact .d (.any _)
    | false => simp only [S.killP, hb]; rw [← hρ i hb]; exact .own i
  | ptr i off g h =>
    cases hb : chg i with
    | true => simp only [S.killP, hb]; exact .d (.any _)
    | false => simp only [S.killP, hb]; exact .ptr i off g (by rw [hρ i hb]; exact h)
  | clo f cs caps h =>
    cases hb : Cap.anyP chg caps with
    | true => simp only [S.killP, hb]; exact .d (.any _)
    | false => simp only [S.killP, hb]; exact .clo f cs caps (h.to chg (fun _ _ h => h.mono hu hw) hρ hb)

theorem ObOk.over {B : Nat} {F F' : Nat → Prop} {ρ ρ' : Nat → Value} {w w' : World} {id : Nat} {o : Ob} {chg : Nat → Bool} (h : ObOk B F ρ w id o) (hid : chg id = false) (hu : ∀ b, F b → F' b) (hw : ∀ b, F b → w'.heap[b]? = w.heap[b]?) (hρ : ∀ i, chg i = false → ρ' i = ρ i)
    (hg : ∀ g, blk (ρ id) = some g → w'.heap[g]? = w.heap[g]? ∧ ¬ F' g) : ObOk B F' ρ' w' id (o.killP chg) := by
  cases o with
  | row e size els =>
    obtain ⟨xs, h1, h2, h3, h4⟩ := h
    refine ⟨xs, ?_, h2, fun k hk j hj => ⟨(h3 k hk j hj).1, (h3 k hk j hj).2.mono hu hw⟩, fun g hg' => (hg g (by rw [← hρ id hid]; exact hg')).2⟩
    rw [hρ id hid]
    refine ⟨h1.1, ?_⟩
    rcases h1.2 with h5 | ⟨g, cap, cur, h5, h6, h7, h8⟩
    · exact .inl h5
    · refine .inr ⟨g, cap, cur, h5, h6, ?_, h8⟩
      rw [(hg g (by rw [h5]; rfl)).1]
      exact h7
  | cells ss =>
    obtain ⟨g, e, cs, h1, h2, h3, h4, h5, h6⟩ := h
    have hgg := hg g (by rw [h1]; rfl)
    refine ⟨g, e, cs, by rw [hρ id hid]; exact h1, h2, hgg.2, by rw [hgg.1]; exact h4, by simp [h5], fun j hj hj' => ⟨(h6 j hj (by simpa using hj')).1, ?_⟩⟩
    rw [List.getElem_map]
    exact (h6 j hj (by simpa using hj')).2.over hu hw hρ
  | map M =>
    obtain ⟨g, es, cl, h1, h2, h3, h4, h5, h6⟩ := h
    have hgg := hg g (by rw [h1]; rfl)
    exact ⟨g, es, cl, by rw [hρ id hid]; exact h1, h2, hgg.2, by rw [hgg.1]; exact h4, h5, fun j hj hj' => ⟨(h6 j hj hj').1, (h6 j hj hj').2.mono hu hw⟩⟩
  | rowS e size els =>
    obtain ⟨xs, h1, h2, h3, h4⟩ := h
    refine ⟨xs, ?_, fun k hk => by rw [List.getElem_map, List.length_map]; exact h2 k (by simpa using hk), fun k hk j hj => ?_, fun g hg' => (hg g (by rw [← hρ id hid]; exact hg')).2⟩
    · rw [hρ id hid, List.length_map]
      refine ⟨h1.1, ?_⟩
      rcases h1.2 with h5 | ⟨g, cap, cur, h5, h6, h7, h8⟩
      · exact .inl h5
      · refine .inr ⟨g, cap, cur, h5, h6, ?_, h8⟩
        rw [(hg g (by rw [h5]; rfl)).1]
        exact h7
    · have hk' : k < els.length := by simpa using hk
      have hj' : j < els[k].length := by simpa using hj
      simp only [List.getElem_map]
      exact ⟨(h3 k hk' j hj').1, (h3 k hk' j hj').2.over hu hw hρ⟩

theorem ObsOk.sub {B : Nat} {F : Nat → Prop} {ρ : Nat → Value} {w : World} {σ σ' : Obs} (h : ObsOk B F ρ w σ) (hs : ∀ p ∈ σ', p ∈ σ) : ObsOk B F ρ w σ' :=
  ⟨fun p hp => h.ok p (hs p hp), fun p hp q hq => h.apart p (hs p hp) q (hs q hq), fun p hp q hq => h.uniq p (hs p hp) q (hs q hq)⟩

/-- After such a call. -/
theorem R0.after {cx : Cx} {F F' : Nat → Prop} {ρ ρ' : Nat → Value} {e : Env} {σ σc σ' : Obs} {a : Act} {w w' : World} {chg : Nat → Bool} (hr : R0 cx F ρ e σ a w) (hin : ∀ p ∈ σc, p ∈ σ) (hx : XEnd cx.B F ρ w σc F' ρ' w' σ' chg)
    (h1 : Obs.allIds (fun i => !(chg i)) (Obs.dels σc σ) = true) (h2 : Obs.allIds (fun i => Obs.allIds (fun j => !(Nat.beq i j)) (Obs.dels σc σ)) σ' = true) (h3 : ∀ i, chg i = true → cx.fixp i = false) :
    R0 cx F' ρ' (e.killP chg) (Obs.join σ' (Obs.killP chg (Obs.dels σc σ))) a w' := by
  have hown : ∀ b, ownB σc ρ b → cx.fr b ∧ ¬ F b ∧ b < w.heap.size := fun b ⟨p, hp, hb⟩ => ⟨hr.kown p (hin p hp) b hb, (hr.obs.ok p (hin p hp)).nF hb, ((hr.obs.ok p (hin p hp)).blk_lt hb).2⟩
  have hfr : ∀ b, (w.heap.size ≤ b ∨ ownB σc ρ b) → cx.fr b := fun b hb => by
    rcases hb with hb | hb
    · exact hr.up _ (Nat.le_trans hr.below.size hb)
    · exact (hown b hb).1
  have hw : ∀ b, F b → w'.heap[b]? = w.heap[b]? := fun b hb => hx.kept.block b (hr.lt b hb) (fun hh => by
    rcases hh with hh | hh
    · have := hr.lt b hb; omega
    · exact (hown b hh).2.1 hb)
  have hrest : ∀ p ∈ Obs.dels σc σ, p ∈ σ ∧ (∀ q ∈ σc, p.1 ≠ q.1) ∧ chg p.1 = false := fun p hp => by
    obtain ⟨h4, h5⟩ := Obs.mem_dels hp
    have := Obs.allIds_mem h1 p hp
    exact ⟨h4, h5, by simpa using this⟩
  have hblk : ∀ p ∈ Obs.dels σc σ, ∀ g, blk (ρ p.1) = some g → g < w.heap.size ∧ ¬ ownB σc ρ g ∧ ¬ F g := fun p hp g hg => by
    obtain ⟨h4, h5, _⟩ := hrest p hp
    exact ⟨((hr.obs.ok p h4).blk_lt hg).2, fun ⟨q, hq, hb⟩ => hr.obs.apart p h4 q (hin q hq) (h5 q hq) g hg hb, (hr.obs.ok p h4).nF hg⟩
  refine ⟨hr.size, hr.defers, hx.lt, fun b hb => hx.up b (hr.base b hb), fun b hb => ?_, ?_, Nat.le_trans hr.hB hx.kept.size, fun t => (hr.env t).over hx.up hw hx.same, ?_, hr.up, fun p hp g hg => ?_, fun i hi => ?_⟩
  · rcases hx.new b hb with h4 | h4
    · exact hr.new b h4
    · exact .inr (hfr b h4)
  · exact ⟨hx.kept.os.trans hr.below.os, hx.kept.tape.trans hr.below.tape, hx.kept.output.trans hr.below.output, Nat.le_trans hr.below.size hx.kept.size, fun k hk hf => by
      rw [hx.kept.block k (Nat.lt_of_lt_of_le hk hr.below.size) (fun hh => hf (hfr k hh)), hr.below.block k hk hf]⟩
  · have hmix : ∀ p ∈ σ', ∀ q ∈ Obs.dels σc σ, p.1 ≠ q.1 ∧ ∀ g, blk (ρ' p.1) = some g → blk (ρ' q.1) ≠ some g := fun p hp q hq => by
      refine ⟨fun he => ?_, fun g hg hg2 => ?_⟩
      · have := Obs.allIds_mem (Obs.allIds_mem h2 p hp) q hq
        rw [he] at this
        simp at this
      · rw [hx.same _ (hrest q hq).2.2] at hg2
        obtain ⟨h4, h5, _⟩ := hblk q hq g hg2
        rcases hx.own p hp g hg with h6 | h6
        · omega
        · exact h5 h6
    refine ⟨fun p hp => ?_, fun p hp q hq hne g hg => ?_, fun p hp q hq he => ?_⟩
    · rcases Obs.mem_join hp with hp | hp
      · exact hx.obs.ok p hp
      · obtain ⟨q, hq, rfl⟩ := Obs.mem_killP hp
        obtain ⟨h4, h5, h6⟩ := hrest q hq
        refine (hr.obs.ok q h4).over h6 hx.up hw hx.same fun g hg => ?_
        obtain ⟨h7, h8, h9⟩ := hblk q hq g hg
        have hnn : ¬ (w.heap.size ≤ g ∨ ownB σc ρ g) := fun hh => by
          rcases hh with hh | hh
          · omega
          · exact h8 hh
        refine ⟨hx.kept.block g h7 hnn, fun hf => ?_⟩
        rcases hx.new g hf with h10 | h10
        · exact h9 h10
        · exact hnn h10
    · rcases Obs.mem_join hp with hp | hp
      · rcases Obs.mem_join hq with hq | hq
        · exact hx.obs.apart p hp q hq hne g hg
        · obtain ⟨q', hq', rfl⟩ := Obs.mem_killP hq
          exact (hmix p hp q' hq').2 g hg
      · obtain ⟨p', hp', rfl⟩ := Obs.mem_killP hp
        rcases Obs.mem_join hq with hq | hq
        · exact fun he => (hmix q hq p' hp').2 g he hg
        · obtain ⟨q', hq', rfl⟩ := Obs.mem_killP hq
          simp only at hg hne ⊢
          rw [hx.same _ (hrest p' hp').2.2] at hg
          rw [hx.same _ (hrest q' hq').2.2]
          exact hr.obs.apart p' (hrest p' hp').1 q' (hrest q' hq').1 hne g hg
    · rcases Obs.mem_join hp with hp | hp
      · rcases Obs.mem_join hq with hq | hq
        · exact hx.obs.uniq p hp q hq he
        · obtain ⟨q', hq', rfl⟩ := Obs.mem_killP hq
          exact absurd he (hmix p hp q' hq').1
      · obtain ⟨p', hp', rfl⟩ := Obs.mem_killP hp
        rcases Obs.mem_join hq with hq | hq
        · exact absurd he.symm (hmix q hq p' hp').1
        · obtain ⟨q', hq', rfl⟩ := Obs.mem_killP hq
          have := hr.obs.uniq p' (hrest p' hp').1 q' (hrest q' hq').1 he
          rw [this]
  · rcases Obs.mem_join hp with hp | hp
    · exact hfr g (hx.own p hp g hg)
    · obtain ⟨q, hq, rfl⟩ := Obs.mem_killP hp
      simp only at hg
      rw [hx.same _ (hrest q hq).2.2] at hg
      exact hr.kown q (hrest q hq).1 g hg
  · have : chg i = false := by
      cases hc : chg i with
      | false => rfl
      | true => rw [h3 i hc] at hi; simp at hi
    rw [hx.same i this]
    exact hr.fixed i hi

def ArgsS (e : Env) : List Operand → List S → Prop
  | [], [] => True
  | x :: xs, s :: ss => SLe (e.ev x) s ∧ ArgsS e xs ss
  | _, _ => False
theorem ArgsS.nil {e : Env} : ArgsS e [] [] := trivial
theorem ArgsS.cons {e : Env} {x : Operand} {s : S} {xs : List Operand} {ss : List S} (h : SLe (e.ev x) s) (k : ArgsS e xs ss) : ArgsS e (x :: xs) (s :: ss) := ⟨h, k⟩
theorem ArgsS.rep {e : Env} {F : Nat → Prop} {ρ : Nat → Value} {w : World} {a : Act} (ha : ∀ t, RepS F ρ w (a.tmps.getD t undef) (e t)) : ∀ {xs : List Operand} {ss : List S}, ArgsS e xs ss → RepSL F ρ w (xs.map a.eval) ss
  | [], [], _ => ⟨rfl, fun i h => absurd h (by simp)⟩
  | x :: xs, s :: ss, h => by
    have h1 := ArgsS.rep ha h.2
    refine ⟨by simp [h1.1], fun i h2 h3 => ?_⟩
    cases i with
    | zero => exact h.1 _ _ _ _ (ev_rep fun t _ => ha t)
    | succ i => exact h1.2 i (by simpa using h2) (by simpa using h3)
  | [], _ :: _, h => h.elim
  | _ :: _, [], h => h.elim

section
variable {cx : Cx} {ops : Array Oper} {o : Oper} {rest : List Oper} {e : Env} {σ : Obs} {Q : Post}
theorem AOps.callX {f : FuncId} {xs : List Operand} {ts : Array TypeId} {ss : List S} {σc σ' : Obs} {chg : Nat → Bool} {d : D} (hg : o.guard = none) (hd : DstOk cx.N o)
    (ho : o.op = .call { callee := .value (.func f), args := xs.toArray, argTypes := ts }) (ha : ArgsS e xs ss) (h : XCall cx.P f ss σc σ' chg d) (hin : AllIn σ σc)
    (h1 : Obs.allIds (fun i => !(chg i)) (Obs.dels σc σ) = true) (h2 : Obs.allIds (fun i => Obs.allIds (fun j => !(Nat.beq i j)) (Obs.dels σc σ)) σ' = true) (h3 : ∀ i, chg i = true → cx.fixp i = false)
    (k : AOps cx ops rest ((e.killP chg).put o.dst (.d d)) (Obs.join σ' (Obs.killP chg (Obs.dels σc σ))) Q) : AOps cx ops (o :: rest) e σ Q := by
  intro a w ⟨F, ρ, hr⟩
  have h4 := h.2 F ρ cx.B w _ hr.lt hr.hB (hr.obs.sub hin.mem) (ArgsS.rep hr.env ha)
  have h5 := h.1 (xs.map a.eval).toArray w
  have hx : (execOp a.eval o).run cx.P w = .ok (.enter f (xs.map a.eval).toArray) w := by
    unfold execOp
    simp only [ho, resolve, Deferred.ofValue, Act.eval, invoke, Sem.run_bind, Sem.run_pure, Result.andThen_ok]
    simpa using h5
  refine wpList_plain hg fun K hK => ?_
  unfold Oper.wp
  rw [hx]
  refine h4.mono fun _ w' ⟨v, F', ρ', he, hv, hE⟩ => ?_
  subst he
  exact hK _ _ (k _ _ ⟨F', ρ', (hr.after hin.mem hE h1 h2 h3).put (Ext.refl hE.lt) (.d hv) hd⟩)
end

/-- A call that only reads is such a call of no objects. -/
theorem ACall.toX {P : Program} {f : FuncId} {ds : List D} {d : D} (h : ACall P f ds d) (chg : Nat → Bool) : XCall P f (ds.map S.d) [] [] chg d :=
  ⟨h.1, fun F ρ B w vs hF hB _ hv => by
    refine (h.2 F w vs hF ⟨by simpa using hv.1, fun i h1 h2 => ?_⟩).mono fun e w' ⟨v, F', he, hr, hE⟩ => ⟨v, F', ρ, he, hr, hE.up, fun b hb => (hE.new b hb).imp id .inl, hE.lt, ⟨hE.below.os, hE.below.tape, hE.below.output, hE.below.size, fun k hk _ => hE.below.block k hk⟩, ⟨fun p hp => by simp at hp, fun p hp => by simp at hp, fun p hp => by simp at hp⟩, fun p hp => by simp at hp, fun _ _ => rfl⟩
    have := hv.2 i h1 (by simpa using h2)
    rw [List.getElem_map] at this
    exact repS_d this⟩
end Go.Proofs.YtajghehicmlajaaDoor
