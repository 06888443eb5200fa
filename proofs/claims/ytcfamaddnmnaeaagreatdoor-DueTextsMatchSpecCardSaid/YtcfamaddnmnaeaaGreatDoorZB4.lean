/- Walks and laws over abstract values, merged by tools/merge.py. No statement of the seat. -/
import Derived.Lib.ConvBytes
import Derived.Lib.Strings
import Derived.Test.YtcfamaddnmnaeaaGreatDoorZB3

namespace Go.Proofs.YtcfamaddnmnaeaaGreatDoor
open Go.RowKit
set_option linter.unusedVariables false

/-! Types. -/
namespace TyU1
end TyU1
open TyF0 TyF1 TyF2 TyF3 TyF4 TyF5 TyF6 TyF7 TyF8 TyF9 TyF10 TyF11 TyG1 TyG2 TyG5 TyU1

open Go.Lib
theorem at_lst {α : Type} {l : List α} {f : α → List D} {k : Nat} (h : k < l.length) : (l.map f)[k]? = some (f l[k]) := by simp [h]
/-- The first fault of n. -/
def ffst (f : Nat → Int) : Nat → Int
  | 0 => 0
  | n + 1 => if ffst f n = 0 then f n else ffst f n
theorem ffst_next {f : Nat → Int} {k : Nat} (h : ffst f k = 0) (h2 : f k = 0) : ffst f (k + 1) = 0 := by simp [ffst, h, h2]
theorem ffst_hit {f : Nat → Int} {k : Nat} (h : ffst f k = 0) (h2 : f k ≠ 0) : ∀ n, k < n → ffst f n = f k
  | 0, hn => by omega
  | n + 1, hn => by
    unfold ffst
    by_cases hk : k = n
    · subst hk; rw [if_pos h]
    · rw [ffst_hit h h2 n (by omega), if_neg h2]
theorem ffst_all {f : Nat → Int} : ∀ n, ffst f n = 0 → ∀ k, k < n → f k = 0
  | 0, _, k, hk => by omega
  | n + 1, h, k, hk => by
    unfold ffst at h
    by_cases hn : ffst f n = 0
    · rw [if_pos hn] at h
      by_cases hk2 : k = n
      · rw [hk2]; exact h
      · exact ffst_all n hn k (by omega)
    · rw [if_neg hn] at h; exact absurd h hn
/-! ## Strings in order -/
def sle (a b : ByteArray) : Bool := Op.bytesLess a.toList b.toList || decide (a = b)
def slt (a b : ByteArray) : Bool := Op.bytesLess a.toList b.toList
def strCmp (a b : ByteArray) : Int := Lib.compareBytes a.data.toList b.data.toList
theorem cmp_list : ∀ a b : List UInt8, Lib.compareBytes a b = if Op.bytesLess a b = true then -1 else if a = b then 0 else 1
  | [], [] => rfl
  | [], _ :: _ => rfl
  | _ :: _, [] => rfl
  | a :: x, b :: y => by
    have ih := cmp_list x y
    unfold Lib.compareBytes Op.bytesLess
    by_cases h1 : a < b
    · simp [h1]
    · by_cases h2 : b < a
      · have hne : a ≠ b := fun e => by subst e; exact h1 h2
        simp [h1, h2, hne]
      · have e : a = b := UInt8.le_antisymm (UInt8.not_lt.1 h2) (UInt8.not_lt.1 h1)
        subst e
        simp only [h1, if_false, decide_false, Bool.false_or, beq_self_eq_true, Bool.true_and, List.cons.injEq, true_and]
        exact ih
theorem toList_inj {a b : ByteArray} : a.toList = b.toList ↔ a = b := by
  rw [ByteArray.toList_eq, ByteArray.toList_eq]
  constructor
  · intro h; exact ByteArray.ext (Array.toList_inj.1 h)
  · intro h; rw [h]
theorem less_irr : ∀ l : List UInt8, Op.bytesLess l l = false
  | [] => rfl
  | x :: r => by unfold Op.bytesLess; simp [less_irr r]
theorem strCmp_eq (a b : ByteArray) : strCmp a b = if slt a b = true then -1 else if a = b then 0 else 1 := by
  unfold strCmp slt
  rw [cmp_list, ← ByteArray.toList_eq, ← ByteArray.toList_eq]
  by_cases h : a = b
  · subst h; rw [less_irr]; simp
  · rw [if_neg (fun e => h (toList_inj.1 e)), if_neg h]
theorem strCmp_lt {a b : ByteArray} : strCmp a b < 0 ↔ slt a b = true := by
  rw [strCmp_eq]
  by_cases h : slt a b = true
  · rw [if_pos h]; exact ⟨fun _ => h, fun _ => by decide⟩
  · rw [if_neg h]
    refine ⟨fun hh => ?_, fun hh => absurd hh h⟩
    split at hh <;> omega
theorem strCmp_zero {a b : ByteArray} : strCmp a b = 0 ↔ a = b := by
  rw [strCmp_eq]
  by_cases h2 : a = b
  · subst h2
    have hz : slt a a = false := less_irr _
    rw [hz]; simp
  · rw [if_neg h2]
    refine ⟨fun hh => ?_, fun hh => absurd hh h2⟩
    split at hh <;> omega
/-! ## Data -/
structure Ali where
  source : ByteArray
  title : ByteArray
  recd : Int
deriving DecidableEq
structure Tr where
  frm : Int
  rate : Int
deriving DecidableEq
structure Deal where
  name : ByteArray
  group : ByteArray
  frm : Int
  upto : Int
  recs : List Int
  tiers : List Tr
  adv : Int
  resv : Int
  hold : Int
structure Stk where
  party : ByteArray
  weight : Int
deriving DecidableEq
structure Grp where
  name : ByteArray
  minim : Int
  cut : List Stk
structure Ctr where
  als : List Ali
  deals : List Deal
  groups : List Grp
structure Hld where
  deal : ByteArray
  period : Int
  cents : Int
deriving DecidableEq
structure Bks where
  ctr : Ctr
  next : Int
  stated : List Int
  held : List Hld
  bal : List Int
def Ali.ds (x : Ali) : List D := [.v (.string x.source), .v (.string x.title), .v (.int .i64 x.recd)]
def Tr.ds (x : Tr) : List D := [.v (.int .i64 x.frm), .v (.int .i64 x.rate)]
def Stk.ds (x : Stk) : List D := [.v (.string x.party), .v (.int .i64 x.weight)]
def Deal.ds (x : Deal) : List D := [.v (.string x.name), .v (.string x.group), .v (.int .i64 x.frm), .v (.int .i64 x.upto), .sl (x.recs.map intD), .sl (x.tiers.map Tr.ds), .v (.int .i64 x.adv), .v (.int .i64 x.resv), .v (.int .i64 x.hold)]
def Grp.ds (x : Grp) : List D := [.v (.string x.name), .v (.int .i64 x.minim), .sl (x.cut.map Stk.ds)]
def Ctr.ds (x : Ctr) : List D := [.sl (x.als.map Ali.ds), .sl (x.deals.map Deal.ds), .sl (x.groups.map Grp.ds)]
def Hld.ds (x : Hld) : List D := [.v (.string x.deal), .v (.int .i64 x.period), .v (.int .i64 x.cents)]
def Bks.ds (x : Bks) : List D := [.sl (x.ctr.als.map Ali.ds), .sl (x.ctr.deals.map Deal.ds), .sl (x.ctr.groups.map Grp.ds), .v (.int .i64 x.next), .sl (x.stated.map intD), .sl (x.held.map Hld.ds), .sl (x.bal.map intD)]
/-! ## Names, titles -/
def nameOk (s : ByteArray) : Bool := isName s.data.toList
def prB (c : UInt8) : Bool := decide (32 ≤ c.toNat) && decide (c.toNat ≤ 126)
def titleB (l : List UInt8) : Bool := decide (1 ≤ l.length) && decide (l.length ≤ 100) && !(decide (at0 l 0 = 32)) && !(decide (at0 l (l.length - 1) = 32)) && !(Lib.contains l [32, 32]) && l.all prB
def titleOk (s : ByteArray) : Bool := titleB s.data.toList
/-! ## Faults -/
def aliCmp (a b : Ali) : Int := if a.source = b.source then strCmp a.title b.title else strCmp a.source b.source
def aliF (l : List Ali) (k : Nat) : Int :=
  if h : k < l.length then
    if nameOk l[k].source = false then 5 else if titleOk l[k].title = false then 3 else if 0 < k ∧ 0 ≤ aliCmp (l[k-1]'(by omega)) l[k] then 8 else if 1 ≤ l[k].recd ∧ l[k].recd ≤ 1000000 then 0 else 1
  else 0
def alisF (l : List Ali) : Int := if 500 < l.length then 2 else ffst (aliF l) l.length
def tierF (l : List Tr) (k : Nat) : Int :=
  if h : k < l.length then
    if ¬ ((0 ≤ l[k].frm ∧ l[k].frm ≤ 1000000000000) ∧ 0 ≤ l[k].rate ∧ l[k].rate ≤ 10000) then 1 else if k = 0 ∧ l[k].frm ≠ 0 then 8 else if 0 < k ∧ l[k].frm ≤ (l[k-1]'(by omega)).frm then 8 else 0
  else 0
def tiersF (l : List Tr) : Int := if l.length = 0 then 9 else if 10 < l.length then 2 else ffst (tierF l) l.length
def stkF (l : List Stk) (k : Nat) : Int :=
  if h : k < l.length then
    if nameOk l[k].party = false then 5 else if 0 < k ∧ sle l[k].party (l[k-1]'(by omega)).party = true then 8 else if 1 ≤ l[k].weight ∧ l[k].weight ≤ 1000000 then 0 else 1
  else 0
/-- A group, but for its name and its place. -/
def grpF0 (g : Grp) : Int := if ¬ (0 ≤ g.minim ∧ g.minim ≤ 1000000000) then 1 else if g.cut.length = 0 then 9 else if 20 < g.cut.length then 2 else ffst (stkF g.cut) g.cut.length
def grpF (l : List Grp) (k : Nat) : Int :=
  if h : k < l.length then
    if nameOk l[k].name = false then 5 else if 0 < k ∧ sle l[k].name (l[k-1]'(by omega)).name = true then 8 else grpF0 l[k]
  else 0
def grpIdx (l : List Grp) (nm : ByteArray) : Bool := l.any fun g => decide (g.name = nm)
def recF (l : List Int) (k : Nat) : Int :=
  if h : k < l.length then
    if ¬ (1 ≤ l[k] ∧ l[k] ≤ 1000000) then 1 else if 0 < k ∧ l[k] ≤ l[k-1]'(by omega) then 8 else 0
  else 0
def dealF0 (c : Ctr) (d : Deal) : Int :=
  if grpIdx c.groups d.group = false then 9 else if ¬ ((0 ≤ d.frm ∧ d.frm ≤ 2400) ∧ d.frm + 1 ≤ d.upto ∧ d.upto ≤ 2401) then 1 else if 100 < d.recs.length then 2
  else if ffst (recF d.recs) d.recs.length ≠ 0 then ffst (recF d.recs) d.recs.length else if tiersF d.tiers ≠ 0 then tiersF d.tiers
  else if ¬ ((0 ≤ d.adv ∧ d.adv ≤ 1000000000) ∧ (0 ≤ d.resv ∧ d.resv ≤ 1000) ∧ 1 ≤ d.hold ∧ d.hold ≤ 100) then 1 else 0
def dealF (c : Ctr) (k : Nat) : Int :=
  if h : k < c.deals.length then
    if nameOk c.deals[k].name = false then 5 else if 0 < k ∧ sle c.deals[k].name (c.deals[k-1]'(by omega)).name = true then 8 else dealF0 c c.deals[k]
  else 0
def ctrF (c : Ctr) : Int :=
  if alisF c.als ≠ 0 then alisF c.als else if 40 < c.deals.length ∨ 20 < c.groups.length then 2 else if ffst (grpF c.groups) c.groups.length ≠ 0 then ffst (grpF c.groups) c.groups.length else ffst (dealF c) c.deals.length
def hldCmp (a b : Hld) : Int := if a.deal = b.deal then (if a.period < b.period then -1 else if a.period = b.period then 0 else 1) else strCmp a.deal b.deal
def dealIdx (l : List Deal) (nm : ByteArray) : Bool := l.any fun g => decide (g.name = nm)
def hldF (b : Bks) (k : Nat) : Int :=
  if h : k < b.held.length then
    if dealIdx b.ctr.deals b.held[k].deal = false then 9 else if 0 < k ∧ 0 ≤ hldCmp (b.held[k-1]'(by omega)) b.held[k] then 8 else if (b.next ≤ b.held[k].period ∧ b.held[k].period ≤ 2500) ∧ 1 ≤ b.held[k].cents ∧ b.held[k].cents ≤ 1000000000000 then 0 else 1
  else 0
def statF (l : List Int) (k : Nat) : Int := if h : k < l.length then (if 0 ≤ l[k] ∧ l[k] ≤ 1000000000000 then 0 else 1) else 0
def balF (l : List Int) (k : Nat) : Int := if h : k < l.length then (if -1000000000000 ≤ l[k] ∧ l[k] ≤ 1000000000000 then 0 else 1) else 0
def bksF (b : Bks) : Int :=
  if ctrF b.ctr ≠ 0 then ctrF b.ctr else if ¬ (0 ≤ b.next ∧ b.next ≤ 2401) then 1 else if b.stated.length ≠ b.ctr.deals.length ∨ b.bal.length ≠ b.ctr.groups.length then 3
  else if ffst (statF b.stated) b.stated.length ≠ 0 then ffst (statF b.stated) b.stated.length else if ffst (hldF b) b.held.length ≠ 0 then ffst (hldF b) b.held.length else ffst (balF b.bal) b.bal.length

end Go.Proofs.YtcfamaddnmnaeaaGreatDoor

namespace Go.Proofs.YtcfamaddnmnaeaaGreatDoor
open Go.RowKit
set_option linter.unusedVariables false

/-- What is so stays so while what was there is kept. -/
def Stays (T : World → Prop) : Prop := ∀ w w', Kept (fun b => w.heap.size ≤ b) w w' → T w → T w'
/-- A contract that wants T of the world. -/
def ACallT (P : Program) (T : World → Prop) (f : FuncId) (ds : List D) (d : D) : Prop := Enters P f ∧
  ∀ (F : Nat → Prop) (w : World) (vs : List Value), T w → (∀ b, F b → b < w.heap.size) → RepL F w vs ds → Calls P f vs.toArray w fun e w' => ∃ v F', e = .returned v ∧ Rep F' w' v d ∧ Ext F w F' w'
theorem AOps.callT {cx : Cx} {ops : Array Oper} {o : Oper} {rest : List Oper} {e : Env} {σ : Obs} {Q : Post} {T : World → Prop} {f : FuncId} {xs : List Operand} {ts : Array TypeId} {ds : List D} {d : D} (hg : GW ops o e true) (hd : DstOk cx.N o)
    (ho : o.op = .call { callee := .value (.func f), args := xs.toArray, argTypes := ts }) (hT : T cx.w0) (hS : Stays T) (hfr : cx.fr = fun b => cx.w0.heap.size ≤ b) (ha : ArgsOk e xs ds) (h : ACallT cx.P T f ds d)
    (k : AOps cx ops rest (e.put o.dst (.d d)) σ Q) : AOps cx ops (o :: rest) e σ Q := by
  intro a w ⟨F, ρ, hr⟩
  have hw := hg.wanted (fun t _ => hr.env t)
  have hTw : T w := hS _ _ (by rw [← hfr]; exact hr.below) hT
  have h1 : RepL F w (xs.map a.eval) ds := ha.rep (ρ := ρ) fun t _ => hr.env t
  have h2 := h.2 F w _ hTw hr.lt h1
  have h3 := h.1 (xs.map a.eval).toArray w
  have hx : (execOp a.eval o).run cx.P w = .ok (.enter f (xs.map a.eval).toArray) w := by
    unfold execOp
    simp only [ho, resolve, Deferred.ofValue, Act.eval, invoke, Sem.run_bind, Sem.run_pure, Result.andThen_ok]
    simpa using h3
  unfold wpList
  rw [if_pos hw]
  refine .inl ?_
  unfold Oper.wp
  rw [hx]
  refine h2.mono fun _ w' ⟨v, F', he, hv, hE⟩ => ?_
  subst he
  exact k _ _ ⟨F', ρ, hr.put hE (.d hv) hd⟩

theorem acall_ofT {T : World → Prop} {P : Program} {f : FuncId} {fn : Func} {c : Code} {n : Nat} {ds ds' : List D} (hf : P.funcs[f]? = some fn) (hb : fn.body = some c) (hn : (fn.name == "runtime.NumGoroutine") = false) (hN : fn.ntmps = n)
    (ts : List Nat) (hr : fn.results = (ts.map ResultVar.tmp).toArray) (hle' : Nat.ble ds.length n = true) (h : ∀ B w0 F0, T w0 → AWP ⟨P, n, B, w0, F0, (fun b => w0.heap.size ≤ b), fun _ => false, fun _ => undef⟩ c (Env.args 0 ds) [] (RetQ ts ds')) : ACallT P T f ds (retOf ds') := by
  have hle : ds.length ≤ n := Nat.le_of_ble_eq_true hle'
  refine ⟨Enters.of hf hn (by rw [hb]; rfl), fun F w vs hT hF hv => ?_⟩
  refine calls_of_wp hf hb ?_
  have hR : R ⟨P, n, w.heap.size, w, F, (fun b => w.heap.size ≤ b), fun _ => false, fun _ => undef⟩ (Env.args 0 ds) [] { tmps := vs.toArray ++ Array.replicate (fn.ntmps - vs.toArray.size) undef, defers := [] } w := by
    refine ⟨F, fun _ => undef, ?_, rfl, hF, fun b hb => hb, fun b hb => .inl hb, Kept.refl _ _, Nat.le_refl _, fun t => ?_, ⟨fun p hp => by simp at hp, fun p hp => by simp at hp, fun p hp => by simp at hp⟩, fun b hb => hb, fun p hp => by simp at hp, fun i hi => by simp at hi⟩
    · simp [hN, hv.1]; omega
    · by_cases ht : t < ds.length
      · have := Env.args_get ds 0 t ht
        rw [Nat.zero_add] at this
        rw [this]
        have hvt : t < vs.length := by rw [hv.1]; exact ht
        have : (vs.toArray ++ Array.replicate (fn.ntmps - vs.toArray.size) undef).getD t undef = vs[t] := by
          rw [Array.getD_eq_getD_getElem?, Array.getElem?_append_left (by simpa using hvt)]
          simp [hvt]
        rw [this]
        exact .d (hv.2 t hvt ht)
      · have := Env.args_out ds 0 t (by omega)
        rw [Nat.zero_add] at this
        rw [this]
        exact .d (.any _)
  refine wp_mono (h _ _ _ hT _ _ hR) ?_
  rintro ex a w' ⟨e', σ', hq, F', ρ', hr'⟩
  have hres : (results fn a.tmps).run P w' = .ok (match ts.map fun t => a.tmps.getD t undef with | [x] => x | l => .tuple l.toArray) w' := by
    have key : ∀ (ts : List Nat), (List.mapM (fun r => match r with | .tmp t => pure (a.tmps.getD t undef) | .cell b t => do loadVar t (← asAddr (a.tmps.getD b undef))) (ts.map ResultVar.tmp) : Sem (List Value)).run P w' = .ok (ts.map fun t => a.tmps.getD t undef) w' := by
      intro ts
      induction ts with
      | nil => rfl
      | cons t ts ih =>
        rw [List.map_cons, List.mapM_cons, Sem.run_bind]
        simp only [Sem.run_pure, Result.andThen_ok, Sem.run_bind, ih, List.map_cons]
    unfold results
    rw [hr, Sem.run_bind]
    have h2 : (Array.mapM (fun r => match r with | ResultVar.tmp t => pure (a.tmps.getD t undef) | ResultVar.cell b t => do loadVar t (← asAddr (a.tmps.getD b undef))) (ts.map ResultVar.tmp).toArray : Sem (Array Value)).run P w' = .ok (ts.map fun t => a.tmps.getD t undef).toArray w' := by
      rw [List.mapM_toArray, Sem.run_map, key]
      rfl
    have h3 := h2
    refine (congrArg (fun r => Result.andThen r _) h3).trans ?_
    simp only [Result.andThen_ok]
    rcases ts with _ | ⟨t, _ | ⟨t2, ts⟩⟩ <;> rfl
  have hends : RetL e' σ' ts ds' → bodyPost P fn (fun e w' => ∃ v F', e = .returned v ∧ Rep F' w' v (retOf ds') ∧ Ext F w F' w') .ret a w' := by
    intro hq
    have hl := hq.rep hr'
    refine ⟨hr'.defers, _, hres, _, endF F' ρ' σ', rfl, ?_, endF_ext hr' (fun b hb => hb)⟩
    generalize (ts.map fun t => a.tmps.getD t undef) = vs' at hl
    obtain ⟨h1, h2⟩ := hl
    rcases ds' with _ | ⟨d, _ | ⟨d2, ds'⟩⟩
    · have : vs' = [] := List.eq_nil_of_length_eq_zero h1
      subst this
      exact .tup [] [] rfl (fun i h1 => absurd h1 (by simp))
    · rcases vs' with _ | ⟨x, _ | ⟨y, vs'⟩⟩ <;> simp at h1
      exact h2 0 (by simp) (by simp)
    · rcases vs' with _ | ⟨x, _ | ⟨y, vs'⟩⟩
      · simp at h1
      · simp at h1
      · exact .tup _ _ h1 h2
  cases ex with
  | ret => exact hends hq
  | normal => exact hends hq
  | exit id => exact hq.elim
  | goto l => exact hq.elim
  | panic c => exact hq.elim
  | outgrown => exact hq.elim

/-! ## Operations -/

end Go.Proofs.YtcfamaddnmnaeaaGreatDoor

namespace Go.Proofs.YtcfamaddnmnaeaaGreatDoor
open Go.RowKit
set_option linter.unusedVariables false

/-! Types. -/
namespace TyU2
theorem st_9 : Tryz.prog.underlying 9 = some .string := by kernel_rfl
end TyU2
open TyF0 TyF1 TyF2 TyF3 TyF4 TyF5 TyF6 TyF7 TyF8 TyF9 TyF10 TyF11 TyG1 TyG2 TyG5 TyU1 TyU2

open Go.Lib
theorem c_pName (s : ByteArray) (hs : s.size ≤ 9223372036854775807) : ACall Tryz.prog 120 [.v (.string s)] (.v (.bool (nameOk s))) :=
 acall_exact (us := [_]) (.of Tryz.func120 (by kernel_rfl) rfl) fun w => pName_any s w hs
theorem c_strCmp (a b : ByteArray) : ACall Tryz.prog 92 [.v (.string a), .v (.string b)] (.v (.int .i64 (strCmp a b))) :=
 acall_exact (us := [_, _]) (.of Tryz.func92 (by kernel_rfl) rfl) fun w => by
  have h := Any.strings_Compare Tryz.l106 a b w
  change Calls Tryz.prog 92 #[.string a, .string b] w _ at h
  exact h.mono fun _ _ ⟨h1, h2⟩ => ⟨h1, h2 ▸ Below.refl _ _⟩
/-- The library's variable holds some number. -/
def MaxT (w : World) : Prop := ∃ m, w.cell? ⟨Tryz.l144_ren.g 1, 0, none⟩ = some (.int .i64 m)
theorem maxT_stays : Stays MaxT := fun w w' k ⟨m, hm⟩ => by
  refine ⟨m, ?_⟩
  have hlt := World.block_lt_of_cell? _ _ hm
  dsimp only at hlt
  rw [World.cell?_of_block (k.block _ hlt (fun h => by have h2 : w.heap.size ≤ Tryz.l144_ren.g 1 := h; omega))]
  exact hm
theorem c_contains (s p : ByteArray) (hs : s.size < 4294967281) : ACallT Tryz.prog MaxT 173 [.v (.string s), .v (.string p)] (.v (.bool (Lib.contains s.data.toList p.data.toList))) :=
 ⟨.of Tryz.func173 (by kernel_rfl) rfl, fun F w vs hT hF hv => by
  rw [repL_v (us := [.string s, .string p]) hv]
  obtain ⟨m, hm⟩ := hT
  have h := Any.strings_Contains { Tryz.l144 with } s p m w hs hm
  change Calls Tryz.prog 173 #[.string s, .string p] w _ at h
  refine h.mono fun e w' ⟨h1, h2⟩ => ?_
  subst h2
  exact ⟨_, F, h1, .v _, Ext.refl hF⟩⟩
theorem c_contains2 (s : ByteArray) (hs : s.size ≤ 100) : ACallT Tryz.prog MaxT 173 [.v (.string s), .v (.string ⟨#[32, 32]⟩)] (.v (.bool (Lib.contains s.data.toList [32, 32]))) := c_contains s ⟨#[32, 32]⟩ (by omega)
theorem at0_ba {s : ByteArray} {i : Nat} (h : i < s.data.toList.length) : s.data.toList[i]? = some (at0 s.data.toList i) := by rw [at0_eq h, List.getElem?_eq_getElem h]
theorem emp_size {s : ByteArray} (h : s = ⟨#[]⟩) : s.size = 0 := by rw [h]; rfl
theorem nemp_size {s : ByteArray} (h : ¬ s = ⟨#[]⟩) : 0 < s.size := by
  rcases Nat.eq_zero_or_pos s.size with h0 | h0
  · exfalso; apply h
    apply ByteArray.ext
    have : s.data.toList = [] := List.eq_nil_of_length_eq_zero (by rw [← Lib.size_eq]; exact h0)
    exact Array.toList_inj.1 this
  · exact h0
theorem headD_at (l : List UInt8) : l.headD 0 = at0 l 0 := by cases l <;> rfl
theorem nm_len {s : ByteArray} (h : ¬ (1 ≤ s.data.toList.length ∧ s.data.toList.length ≤ 40)) : nameOk s = false := by
  unfold nameOk isName
  by_cases h1 : 1 ≤ s.data.toList.length
  · rw [decide_eq_false (show ¬ s.data.toList.length ≤ 40 by omega), Bool.and_false, Bool.false_and, Bool.false_and]
  · rw [decide_eq_false h1, Bool.false_and, Bool.false_and, Bool.false_and]
theorem nm_head {s : ByteArray} (h : ¬ (97 ≤ (at0 s.data.toList 0).toNat ∧ (at0 s.data.toList 0).toNat ≤ 122)) : nameOk s = false := by
  unfold nameOk isName
  rw [headD_at]
  have : headB (at0 s.data.toList 0) = false := by
    unfold headB
    rw [Bool.eq_false_iff]
    simp only [ne_eq, Bool.and_eq_true, decide_eq_true_eq]
    exact h
  rw [this, Bool.and_false, Bool.false_and]
theorem nameB_iff {c : UInt8} : nameB c = true ↔ (97 ≤ c.toNat ∧ c.toNat ≤ 122) ∨ (48 ≤ c.toNat ∧ c.toNat ≤ 57) ∨ c.toNat = 45 := by
  unfold nameB
  simp only [Bool.or_eq_true, Bool.and_eq_true, decide_eq_true_eq]
  omega
theorem all_nx {p : UInt8 → Bool} {l : List UInt8} {k : Nat} (hk : k < l.length) (h : ∀ c ∈ l.take k, p c = true) (h2 : p (at0 l k) = true) : ∀ c ∈ l.take (k + 1), p c = true := fun c hc => by
  rw [List.take_add_one, List.getElem?_eq_getElem hk, Option.toList_some, List.mem_append, List.mem_singleton] at hc
  rcases hc with hc | hc
  · exact h c hc
  · rw [hc, ← at0_eq hk]; exact h2
theorem all_end {p : UInt8 → Bool} {l : List UInt8} {k : Nat} (hk : l.length ≤ k) (h : ∀ c ∈ l.take k, p c = true) : l.all p = true := by
  rw [List.take_of_length_le hk] at h
  rw [List.all_eq_true]; exact h
theorem all_hit {p : UInt8 → Bool} {l : List UInt8} {k : Nat} (hk : k < l.length) (h : ¬ p (at0 l k) = true) : l.all p = false := by
  cases ha : l.all p with
  | false => rfl
  | true => exact absurd (by rw [at0_eq hk]; exact List.all_eq_true.1 ha _ (List.getElem_mem hk)) h
theorem nm_ch {s : ByteArray} {k : Nat} (hk : k < s.data.toList.length) (h : ¬ nameB (at0 s.data.toList k) = true) : nameOk s = false := by
  unfold nameOk isName
  rw [all_hit hk h, Bool.and_false]
theorem nm_ok {s : ByteArray} (h1 : 1 ≤ s.data.toList.length ∧ s.data.toList.length ≤ 40) (h2 : 97 ≤ (at0 s.data.toList 0).toNat ∧ (at0 s.data.toList 0).toNat ≤ 122) (h3 : s.data.toList.all nameB = true) : nameOk s = true := by
  unfold nameOk isName
  rw [headD_at, h3, decide_eq_true h1.1, decide_eq_true h1.2]
  unfold headB
  rw [decide_eq_true h2.1, decide_eq_true h2.2]; rfl
theorem tt_no {l : List UInt8} (h : ¬ (1 ≤ l.length ∧ l.length ≤ 100 ∧ at0 l 0 ≠ 32 ∧ at0 l (l.length - 1) ≠ 32 ∧ Lib.contains l [32, 32] = false ∧ l.all prB = true)) : titleB l = false := by
  rw [Bool.eq_false_iff]
  intro hb
  unfold titleB at hb
  simp only [Bool.and_eq_true, decide_eq_true_eq, Bool.not_eq_true', decide_eq_false_iff_not] at hb
  exact h ⟨hb.1.1.1.1.1, hb.1.1.1.1.2, hb.1.1.1.2, hb.1.1.2, hb.1.2, hb.2⟩
theorem tt_yes {l : List UInt8} (h1 : 1 ≤ l.length) (h2 : l.length ≤ 100) (h3 : at0 l 0 ≠ 32) (h4 : at0 l (l.length - 1) ≠ 32) (h5 : Lib.contains l [32, 32] = false) (h6 : l.all prB = true) : titleB l = true := by
  unfold titleB
  simp only [h1, h2, h3, h4, h5, h6, decide_true, decide_false, Bool.not_false, Bool.and_true]
theorem u32' {x : UInt8} (h : (x.toNat : Int) = 32) : x = 32 := UInt8.toNat_inj.1 (by show x.toNat = 32; omega)
theorem u32n {x : UInt8} (h : ¬ (x.toNat : Int) = 32) : x ≠ 32 := fun e => h (by rw [e]; rfl)
theorem prB_iff {c : UInt8} : prB c = true ↔ 32 ≤ c.toNat ∧ c.toNat ≤ 126 := by unfold prB; simp

set_option maxRecDepth 100000 in
set_option maxHeartbeats 1000000 in
theorem c_rName (s : ByteArray) (hs : s.size ≤ 9223372036854775807) : ACall Tryz.prog 123 [.v (.string s)] (.v (.bool (nameOk s))) := by
 refine acall_of (n := 49) (ds' := [.v (.bool (nameOk s))]) Tryz.func123 rfl (by kernel_rfl) rfl [2] rfl rfl ?_
 intro B w0 F0 fr
 have hsz := Lib.size_eq s
 refine .sr ?_
 refine .aA (.nil ?_)
 refine .seq ?_
 refine .sr ?_
 refine .mA ?_
 refine .sA (.seql rfl rfl rfl) ?_
 refine .mA ?_
 refine .split 7 rfl (fun g1 => ?_) (fun g1 => ?_)
 ·replace g1 := of_decide_eq_true g1
  have HR := nm_len (s := s) (by have := emp_size g1; omega)
  refine .pA ?_
  refine .pA ?_
  refine .pA ?_
  refine .sA (.pickT rfl rfl rfl) ?_
  refine .mA ?_
  refine .pA ?_
  refine .pA ?_
  refine .pA ?_
  refine .sA (.pickT rfl rfl rfl) ?_
  refine .mA ?_
  refine .pA ?_
  refine .pA ?_
  refine .pA ?_
  refine .sA (.pickT rfl rfl rfl) (.nil ?_)
  refine .cond rfl (fun _ => ?_) (fun h => nomatch h)
  refine .sr ?_
  refine .aA (.nil ?_)
  refine .ret ?_
  refine ⟨RetD.eq rfl ?_, trivial⟩
  all_goals (first | rw [HR] | rw [nm_ch hlt (fun hc => by have := nameB_iff.1 hc; omega)])
 replace g1 := of_decide_eq_false g1
 have hp := nemp_size g1
 refine .sG (.moveD rfl rfl) ?_
 refine .sG (.lenStr rfl st_9 rfl) ?_
 refine .sG (.gtr rfl rfl rfl) ?_
 refine .sA (.pickF rfl rfl rfl) ?_
 refine .mA ?_
 refine .split 12 rfl (fun g2 => ?_) (fun g2 => ?_)
 ·replace g2 := of_decide_eq_true g2
  have HR := nm_len (s := s) (by omega)
  refine .pA ?_
  refine .pA ?_
  refine .pA ?_
  refine .sA (.pickT rfl rfl rfl) ?_
  refine .mA ?_
  refine .pA ?_
  refine .pA ?_
  refine .pA ?_
  refine .sA (.pickT rfl rfl rfl) (.nil ?_)
  refine .cond rfl (fun _ => ?_) (fun h => nomatch h)
  refine .sr ?_
  refine .aA (.nil ?_)
  refine .ret ?_
  refine ⟨RetD.eq rfl ?_, trivial⟩
  all_goals (first | rw [HR] | rw [nm_ch hlt (fun hc => by have := nameB_iff.1 hc; omega)])
 replace g2 := of_decide_eq_false g2
 refine .sG (.moveD rfl rfl) ?_
 refine .sG (.indexStr rfl st_9 rfl rfl 0 rfl (at0_ba (by omega))) ?_
 refine .sG (.lss rfl rfl rfl) ?_
 refine .sA (.pickF rfl rfl rfl) ?_
 refine .mA ?_
 refine .split 17 rfl (fun g3 => ?_) (fun g3 => ?_)
 ·replace g3 := of_decide_eq_true g3
  have HR := nm_head (s := s) (by omega)
  refine .pA ?_
  refine .pA ?_
  refine .pA ?_
  refine .sA (.pickT rfl rfl rfl) (.nil ?_)
  refine .cond rfl (fun _ => ?_) (fun h => nomatch h)
  refine .sr ?_
  refine .aA (.nil ?_)
  refine .ret ?_
  refine ⟨RetD.eq rfl ?_, trivial⟩
  all_goals (first | rw [HR] | rw [nm_ch hlt (fun hc => by have := nameB_iff.1 hc; omega)])
 replace g3 := of_decide_eq_false g3
 refine .sG (.moveD rfl rfl) ?_
 refine .sG (.indexStr rfl st_9 rfl rfl 0 rfl (at0_ba (by omega))) ?_
 refine .sG (.gtr rfl rfl rfl) ?_
 refine .sA (.pickF rfl rfl rfl) (.nil ?_)
 refine .cond rfl (fun h4 => ?_) (fun h4 => ?_)
 ·replace h4 := of_decide_eq_true h4
  have HR := nm_head (s := s) (by omega)
  refine .sr ?_
  refine .aA (.nil ?_)
  refine .ret ?_
  refine ⟨RetD.eq rfl ?_, trivial⟩
  all_goals (first | rw [HR] | rw [nm_ch hlt (fun hc => by have := nameB_iff.1 hc; omega)])
 replace h4 := of_decide_eq_false h4
 have hhd : 97 ≤ (at0 s.data.toList 0).toNat ∧ (at0 s.data.toList 0).toNat ≤ 122 := by omega
 refine .skip ?_
 refine .seq ?_
 refine .sr ?_
 refine .mA ?_
 refine .sA (.lenStr rfl st_9 rfl) ?_
 refine .mA (.nil ?_)
 refine .block ?_
 refine .loop (G := Nat) (fun k => Env.of [(24, .d (.v (.int .i64 (k : Int)))), (23, .d (.v (.int .i64 (s.size : Int)))), (0, .d (.v (.string s)))]) (fun k => []) (fun k => k ≤ s.size ∧ ∀ c ∈ s.data.toList.take k, nameB c = true) (fun k => s.size - k) 0 ⟨Nat.zero_le _, fun c h => by simp at h⟩ (Sub.less ⟨(SLe.of_eq rfl), SLe.refl _, SLe.refl _, trivial⟩ (fun _ h => h)) ?_
 intro k hk
 refine .sr ?_
 refine .sA (.lss rfl rfl rfl) (.nil ?_)
 refine .seq ?_
 refine .cond rfl (fun h5 => ?_) (fun h5 => ?_)
 ·replace h5 := of_decide_eq_true h5
  have hlt : k < s.data.toList.length := by omega
  refine .skip ?_
  refine .seq ?_
  refine .block ?_
  refine .sr ?_
  refine .mA ?_
  refine .aA (.nil ?_)
  refine .sr ?_
  refine .mA ?_
  refine .mA ?_
  refine .sA (.indexStr rfl st_9 rfl rfl k rfl (at0_ba hlt)) ?_
  refine .aA (.nil ?_)
  refine .sr ?_
  refine .mA ?_
  refine .sA (.lss rfl rfl rfl) ?_
  refine .mA ?_
  refine .split 32 rfl (fun g6 => ?_) (fun g6 => ?_)
  ·replace g6 := of_decide_eq_true g6
   refine .pA ?_
   refine .pA ?_
   refine .sA (.pickT rfl rfl rfl) ?_
   refine .mA ?_
   refine .sG (.moveD rfl rfl) ?_
   refine .sG (.lss rfl rfl rfl) ?_
   refine .sG (.moveD rfl rfl) ?_
   refine .split 39 rfl (fun g7 => ?_) (fun g7 => ?_)
   ·replace g7 := of_decide_eq_true g7
    refine .pA ?_
    refine .pA ?_
    refine .sG (.pickT rfl rfl rfl) ?_
    refine .sA (.pickT rfl rfl rfl) ?_
    refine .mA ?_
    refine .sG (.moveD rfl rfl) ?_
    refine .sG (.neq rfl rfl rfl) ?_
    refine .sA (.pickT rfl rfl rfl) (.nil ?_)
    refine .cond rfl (fun h8 => ?_) (fun h8 => ?_)
    ·replace h8 := of_decide_eq_true h8
     refine .sr ?_
     refine .aA (.nil ?_)
     refine .ret ?_
     refine ⟨RetD.eq rfl ?_, trivial⟩
     all_goals (first | rw [HR] | rw [nm_ch hlt (fun hc => by have := nameB_iff.1 hc; omega)])
    replace h8 := of_decide_eq_false h8
    refine .skip ?_
    refine .region ?_
    refine .sA (.add64 rfl rfl rfl (by omega) (by omega)) ?_
    refine .mA (.nil ?_)
    refine ⟨k + 1, ⟨by omega, all_nx hlt hk.2 (nameB_iff.2 (by omega))⟩, (by dsimp only; omega), Sub.less ⟨(SLe.of_eq rfl), SLe.refl _, SLe.refl _, trivial⟩ (fun _ h => h)⟩
   replace g7 := of_decide_eq_false g7
   refine .sG (.moveD rfl rfl) ?_
   refine .sG (.gtr rfl rfl rfl) ?_
   refine .sG (.pickF rfl rfl rfl) ?_
   refine .sA (.pickT rfl rfl rfl) ?_
   refine .mA ?_
   refine .split 44 rfl (fun g9 => ?_) (fun g9 => ?_)
   ·replace g9 := of_decide_eq_true g9
    refine .sG (.moveD rfl rfl) ?_
    refine .sG (.neq rfl rfl rfl) ?_
    refine .sA (.pickT rfl rfl rfl) (.nil ?_)
    refine .cond rfl (fun h10 => ?_) (fun h10 => ?_)
    ·replace h10 := of_decide_eq_true h10
     refine .sr ?_
     refine .aA (.nil ?_)
     refine .ret ?_
     refine ⟨RetD.eq rfl ?_, trivial⟩
     all_goals (first | rw [HR] | rw [nm_ch hlt (fun hc => by have := nameB_iff.1 hc; omega)])
    replace h10 := of_decide_eq_false h10
    refine .skip ?_
    refine .region ?_
    refine .sA (.add64 rfl rfl rfl (by omega) (by omega)) ?_
    refine .mA (.nil ?_)
    refine ⟨k + 1, ⟨by omega, all_nx hlt hk.2 (nameB_iff.2 (by omega))⟩, (by dsimp only; omega), Sub.less ⟨(SLe.of_eq rfl), SLe.refl _, SLe.refl _, trivial⟩ (fun _ h => h)⟩
   replace g9 := of_decide_eq_false g9
   refine .pA ?_
   refine .pA ?_
   refine .sA (.pickF rfl rfl rfl) (.nil ?_)
   refine .cond rfl (fun h => nomatch h) (fun _ => ?_)
   refine .skip ?_
   refine .region ?_
   refine .sA (.add64 rfl rfl rfl (by omega) (by omega)) ?_
   refine .mA (.nil ?_)
   refine ⟨k + 1, ⟨by omega, all_nx hlt hk.2 (nameB_iff.2 (by omega))⟩, (by dsimp only; omega), Sub.less ⟨(SLe.of_eq rfl), SLe.refl _, SLe.refl _, trivial⟩ (fun _ h => h)⟩
  replace g6 := of_decide_eq_false g6
  refine .sG (.moveD rfl rfl) ?_
  refine .sG (.gtr rfl rfl rfl) ?_
  refine .sA (.pickF rfl rfl rfl) ?_
  refine .mA ?_
  refine .split 36 rfl (fun g11 => ?_) (fun g11 => ?_)
  ·replace g11 := of_decide_eq_true g11
   refine .sG (.moveD rfl rfl) ?_
   refine .sG (.lss rfl rfl rfl) ?_
   refine .sG (.moveD rfl rfl) ?_
   refine .split 39 rfl (fun g12 => ?_) (fun g12 => ?_)
   ·replace g12 := of_decide_eq_true g12
    refine .pA ?_
    refine .pA ?_
    refine .sG (.pickT rfl rfl rfl) ?_
    refine .sA (.pickT rfl rfl rfl) ?_
    refine .mA ?_
    refine .sG (.moveD rfl rfl) ?_
    refine .sG (.neq rfl rfl rfl) ?_
    refine .sA (.pickT rfl rfl rfl) (.nil ?_)
    refine .cond rfl (fun h13 => ?_) (fun h13 => ?_)
    ·replace h13 := of_decide_eq_true h13
     refine .sr ?_
     refine .aA (.nil ?_)
     refine .ret ?_
     refine ⟨RetD.eq rfl ?_, trivial⟩
     all_goals (first | rw [HR] | rw [nm_ch hlt (fun hc => by have := nameB_iff.1 hc; omega)])
    replace h13 := of_decide_eq_false h13
    refine .skip ?_
    refine .region ?_
    refine .sA (.add64 rfl rfl rfl (by omega) (by omega)) ?_
    refine .mA (.nil ?_)
    refine ⟨k + 1, ⟨by omega, all_nx hlt hk.2 (nameB_iff.2 (by omega))⟩, (by dsimp only; omega), Sub.less ⟨(SLe.of_eq rfl), SLe.refl _, SLe.refl _, trivial⟩ (fun _ h => h)⟩
   replace g12 := of_decide_eq_false g12
   refine .sG (.moveD rfl rfl) ?_
   refine .sG (.gtr rfl rfl rfl) ?_
   refine .sG (.pickF rfl rfl rfl) ?_
   refine .sA (.pickT rfl rfl rfl) ?_
   refine .mA ?_
   refine .split 44 rfl (fun g14 => ?_) (fun g14 => ?_)
   ·replace g14 := of_decide_eq_true g14
    refine .sG (.moveD rfl rfl) ?_
    refine .sG (.neq rfl rfl rfl) ?_
    refine .sA (.pickT rfl rfl rfl) (.nil ?_)
    refine .cond rfl (fun h15 => ?_) (fun h15 => ?_)
    ·replace h15 := of_decide_eq_true h15
     refine .sr ?_
     refine .aA (.nil ?_)
     refine .ret ?_
     refine ⟨RetD.eq rfl ?_, trivial⟩
     all_goals (first | rw [HR] | rw [nm_ch hlt (fun hc => by have := nameB_iff.1 hc; omega)])
    replace h15 := of_decide_eq_false h15
    refine .skip ?_
    refine .region ?_
    refine .sA (.add64 rfl rfl rfl (by omega) (by omega)) ?_
    refine .mA (.nil ?_)
    refine ⟨k + 1, ⟨by omega, all_nx hlt hk.2 (nameB_iff.2 (by omega))⟩, (by dsimp only; omega), Sub.less ⟨(SLe.of_eq rfl), SLe.refl _, SLe.refl _, trivial⟩ (fun _ h => h)⟩
   replace g14 := of_decide_eq_false g14
   refine .pA ?_
   refine .pA ?_
   refine .sA (.pickF rfl rfl rfl) (.nil ?_)
   refine .cond rfl (fun h => nomatch h) (fun _ => ?_)
   refine .skip ?_
   refine .region ?_
   refine .sA (.add64 rfl rfl rfl (by omega) (by omega)) ?_
   refine .mA (.nil ?_)
   refine ⟨k + 1, ⟨by omega, all_nx hlt hk.2 (nameB_iff.2 (by omega))⟩, (by dsimp only; omega), Sub.less ⟨(SLe.of_eq rfl), SLe.refl _, SLe.refl _, trivial⟩ (fun _ h => h)⟩
  replace g11 := of_decide_eq_false g11
  refine .pA ?_
  refine .pA ?_
  refine .pA ?_
  refine .pass ⟨39, rfl, .inr ⟨rfl, rfl⟩⟩ rfl rfl ?_
  refine .pass ⟨39, rfl, .inr ⟨rfl, rfl⟩⟩ rfl rfl ?_
  refine .pA ?_
  refine .sA (.pickF rfl rfl rfl) ?_
  refine .mA ?_
  refine .pA ?_
  refine .pA ?_
  refine .sA (.pickF rfl rfl rfl) (.nil ?_)
  refine .cond rfl (fun h => nomatch h) (fun _ => ?_)
  refine .skip ?_
  refine .region ?_
  refine .sA (.add64 rfl rfl rfl (by omega) (by omega)) ?_
  refine .mA (.nil ?_)
  refine ⟨k + 1, ⟨by omega, all_nx hlt hk.2 (nameB_iff.2 (by omega))⟩, (by dsimp only; omega), Sub.less ⟨(SLe.of_eq rfl), SLe.refl _, SLe.refl _, trivial⟩ (fun _ h => h)⟩
 replace h5 := of_decide_eq_false h5
 have HR := nm_ok (s := s) (by omega) hhd (all_end (by omega) hk.2)
 refine .exit ?_
 refine .sr ?_
 refine .aA (.nil ?_)
 refine .ret ?_
 refine ⟨RetD.eq rfl ?_, trivial⟩
 all_goals (first | rw [HR] | rw [nm_ch hlt (fun hc => by have := nameB_iff.1 hc; omega)])

set_option maxRecDepth 100000 in
set_option maxHeartbeats 1000000 in
theorem c_pTitle (s : ByteArray) (hs : s.size ≤ 9223372036854775807) : ACallT Tryz.prog MaxT 121 [.v (.string s)] (.v (.bool (titleOk s))) := by
 refine acall_ofT (n := 45) (ds' := [.v (.bool (titleOk s))]) Tryz.func121 rfl (by kernel_rfl) rfl [2] rfl rfl ?_
 intro B w0 F0 hT
 have hsz := Lib.size_eq s
 refine .sr ?_
 refine .aA (.nil ?_)
 refine .seq ?_
 refine .sr ?_
 refine .mA ?_
 refine .sA (.lenStr rfl st_9 rfl) ?_
 refine .sA (.lss rfl rfl rfl) ?_
 refine .mA ?_
 refine .split 7 rfl (fun g1 => ?_) (fun g1 => ?_)
 ·replace g1 := of_decide_eq_true g1
  have HR : titleOk s = false := tt_no (fun hh => by omega)
  refine .pA ?_
  refine .pA ?_
  refine .pA ?_
  refine .sA (.pickT rfl rfl rfl) ?_
  refine .mA ?_
  refine .pA ?_
  refine .pA ?_
  refine .pA ?_
  refine .sA (.pickT rfl rfl rfl) ?_
  refine .mA ?_
  refine .pA ?_
  refine .pA ?_
  refine .pA ?_
  refine .pA ?_
  refine .pA ?_
  refine .pA ?_
  refine .sA (.pickT rfl rfl rfl) ?_
  refine .mA ?_
  refine .pA ?_
  refine .pA ?_
  refine .sA (.pickT rfl rfl rfl) (.nil ?_)
  refine .cond rfl (fun _ => ?_) (fun h => nomatch h)
  refine .sr ?_
  refine .aA (.nil ?_)
  refine .ret ?_
  refine ⟨RetD.eq rfl ?_, trivial⟩
  all_goals (first | rw [HR] | rw [show titleOk s = false from tt_no (fun hh => by rw [all_hit hlt (fun hc => by have := prB_iff.1 hc; omega)] at hh; exact absurd hh.2.2.2.2.2 (by decide))])
 replace g1 := of_decide_eq_false g1
 have hp : 0 < s.size := by omega
 refine .sG (.moveD rfl rfl) ?_
 refine .sG (.lenStr rfl st_9 rfl) ?_
 refine .sG (.gtr rfl rfl rfl) ?_
 refine .sA (.pickF rfl rfl rfl) ?_
 refine .mA ?_
 refine .split 12 rfl (fun g2 => ?_) (fun g2 => ?_)
 ·replace g2 := of_decide_eq_true g2
  have HR : titleOk s = false := tt_no (fun hh => by omega)
  refine .pA ?_
  refine .pA ?_
  refine .pA ?_
  refine .sA (.pickT rfl rfl rfl) ?_
  refine .mA ?_
  refine .pA ?_
  refine .pA ?_
  refine .pA ?_
  refine .pA ?_
  refine .pA ?_
  refine .pA ?_
  refine .sA (.pickT rfl rfl rfl) ?_
  refine .mA ?_
  refine .pA ?_
  refine .pA ?_
  refine .sA (.pickT rfl rfl rfl) (.nil ?_)
  refine .cond rfl (fun _ => ?_) (fun h => nomatch h)
  refine .sr ?_
  refine .aA (.nil ?_)
  refine .ret ?_
  refine ⟨RetD.eq rfl ?_, trivial⟩
  all_goals (first | rw [HR] | rw [show titleOk s = false from tt_no (fun hh => by rw [all_hit hlt (fun hc => by have := prB_iff.1 hc; omega)] at hh; exact absurd hh.2.2.2.2.2 (by decide))])
 replace g2 := of_decide_eq_false g2
 have hq : s.size ≤ 100 := by omega
 refine .sG (.moveD rfl rfl) ?_
 refine .sG (.indexStr rfl st_9 rfl rfl 0 rfl (at0_ba (by omega))) ?_
 refine .sG (.eql rfl rfl rfl) ?_
 refine .sA (.pickF rfl rfl rfl) ?_
 refine .mA ?_
 refine .split 17 rfl (fun g3 => ?_) (fun g3 => ?_)
 ·replace g3 := of_decide_eq_true g3
  have HR : titleOk s = false := tt_no (fun hh => hh.2.2.1 (u32' g3))
  refine .pA ?_
  refine .pA ?_
  refine .pA ?_
  refine .pA ?_
  refine .pA ?_
  refine .pA ?_
  refine .sA (.pickT rfl rfl rfl) ?_
  refine .mA ?_
  refine .pA ?_
  refine .pA ?_
  refine .sA (.pickT rfl rfl rfl) (.nil ?_)
  refine .cond rfl (fun _ => ?_) (fun h => nomatch h)
  refine .sr ?_
  refine .aA (.nil ?_)
  refine .ret ?_
  refine ⟨RetD.eq rfl ?_, trivial⟩
  all_goals (first | rw [HR] | rw [show titleOk s = false from tt_no (fun hh => by rw [all_hit hlt (fun hc => by have := prB_iff.1 hc; omega)] at hh; exact absurd hh.2.2.2.2.2 (by decide))])
 replace g3 := of_decide_eq_false g3
 have hf := u32n g3
 refine .sG (.moveD rfl rfl) ?_
 refine .sG (.moveD rfl rfl) ?_
 refine .sG (.lenStr rfl st_9 rfl) ?_
 refine .sG (.sub64 rfl rfl rfl (by omega) (by omega)) ?_
 refine .sG (.indexStr rfl st_9 rfl rfl (s.data.toList.length - 1) (by omega) (at0_ba (by omega))) ?_
 refine .sG (.eql rfl rfl rfl) ?_
 refine .sA (.pickF rfl rfl rfl) ?_
 refine .mA ?_
 refine .split 25 rfl (fun g4 => ?_) (fun g4 => ?_)
 ·replace g4 := of_decide_eq_true g4
  have HR : titleOk s = false := tt_no (fun hh => hh.2.2.2.1 (u32' g4))
  refine .pA ?_
  refine .pA ?_
  refine .sA (.pickT rfl rfl rfl) (.nil ?_)
  refine .cond rfl (fun _ => ?_) (fun h => nomatch h)
  refine .sr ?_
  refine .aA (.nil ?_)
  refine .ret ?_
  refine ⟨RetD.eq rfl ?_, trivial⟩
  all_goals (first | rw [HR] | rw [show titleOk s = false from tt_no (fun hh => by rw [all_hit hlt (fun hc => by have := prB_iff.1 hc; omega)] at hh; exact absurd hh.2.2.2.2.2 (by decide))])
 replace g4 := of_decide_eq_false g4
 have hl := u32n g4
 refine .sG (.moveD rfl rfl) ?_
 -- wants the world
 refine .callT ⟨25, rfl, .inl ⟨_, rfl, rfl⟩⟩ rfl rfl hT maxT_stays rfl (.cons (.rfl' rfl) (.cons (.rfl' rfl) .nil)) (c_contains2 s hq) ?_
 refine .sA (.pickF rfl rfl rfl) (.nil ?_)
 refine .cond rfl (fun h5 => ?_) (fun h5 => ?_)
 ·skip
  have HR : titleOk s = false := tt_no (fun hh => by rw [hh.2.2.2.2.1] at h5; cases h5)
  refine .sr ?_
  refine .aA (.nil ?_)
  refine .ret ?_
  refine ⟨RetD.eq rfl ?_, trivial⟩
  all_goals (first | rw [HR] | rw [show titleOk s = false from tt_no (fun hh => by rw [all_hit hlt (fun hc => by have := prB_iff.1 hc; omega)] at hh; exact absurd hh.2.2.2.2.2 (by decide))])
 have hcn := h5
 refine .skip ?_
 refine .seq ?_
 refine .sr ?_
 refine .mA ?_
 refine .sA (.lenStr rfl st_9 rfl) ?_
 refine .mA (.nil ?_)
 refine .block ?_
 refine .loop (G := Nat) (fun k => Env.of [(31, .d (.v (.int .i64 (k : Int)))), (30, .d (.v (.int .i64 (s.size : Int)))), (0, .d (.v (.string s)))]) (fun k => []) (fun k => k ≤ s.size ∧ ∀ c ∈ s.data.toList.take k, prB c = true) (fun k => s.size - k) 0 ⟨Nat.zero_le _, fun c h => by simp at h⟩ (Sub.less ⟨(SLe.of_eq rfl), SLe.refl _, SLe.refl _, trivial⟩ (fun _ h => h)) ?_
 intro k hk
 refine .sr ?_
 refine .sA (.lss rfl rfl rfl) (.nil ?_)
 refine .seq ?_
 refine .cond rfl (fun h6 => ?_) (fun h6 => ?_)
 ·replace h6 := of_decide_eq_true h6
  have hlt : k < s.data.toList.length := by omega
  refine .skip ?_
  refine .seq ?_
  refine .block ?_
  refine .sr ?_
  refine .mA ?_
  refine .aA (.nil ?_)
  refine .sr ?_
  refine .mA ?_
  refine .mA ?_
  refine .sA (.indexStr rfl st_9 rfl rfl k rfl (at0_ba hlt)) ?_
  refine .sA (.lss rfl rfl rfl) ?_
  refine .mA ?_
  refine .split 38 rfl (fun g7 => ?_) (fun g7 => ?_)
  ·replace g7 := of_decide_eq_true g7
   refine .pA ?_
   refine .pA ?_
   refine .pA ?_
   refine .pA ?_
   refine .sA (.pickT rfl rfl rfl) (.nil ?_)
   refine .cond rfl (fun _ => ?_) (fun h => nomatch h)
   refine .sr ?_
   refine .aA (.nil ?_)
   refine .ret ?_
   refine ⟨RetD.eq rfl ?_, trivial⟩
   all_goals (first | rw [HR] | rw [show titleOk s = false from tt_no (fun hh => by rw [all_hit hlt (fun hc => by have := prB_iff.1 hc; omega)] at hh; exact absurd hh.2.2.2.2.2 (by decide))])
  replace g7 := of_decide_eq_false g7
  refine .sG (.moveD rfl rfl) ?_
  refine .sG (.moveD rfl rfl) ?_
  refine .sG (.indexStr rfl st_9 rfl rfl k rfl (at0_ba hlt)) ?_
  refine .sG (.gtr rfl rfl rfl) ?_
  refine .sA (.pickF rfl rfl rfl) (.nil ?_)
  refine .cond rfl (fun h8 => ?_) (fun h8 => ?_)
  ·replace h8 := of_decide_eq_true h8
   refine .sr ?_
   refine .aA (.nil ?_)
   refine .ret ?_
   refine ⟨RetD.eq rfl ?_, trivial⟩
   all_goals (first | rw [HR] | rw [show titleOk s = false from tt_no (fun hh => by rw [all_hit hlt (fun hc => by have := prB_iff.1 hc; omega)] at hh; exact absurd hh.2.2.2.2.2 (by decide))])
  replace h8 := of_decide_eq_false h8
  refine .skip ?_
  refine .region ?_
  refine .sA (.add64 rfl rfl rfl (by omega) (by omega)) ?_
  refine .mA (.nil ?_)
  refine ⟨k + 1, ⟨by omega, all_nx hlt hk.2 (prB_iff.2 (by omega))⟩, (by dsimp only; omega), Sub.less ⟨(SLe.of_eq rfl), SLe.refl _, SLe.refl _, trivial⟩ (fun _ h => h)⟩
 replace h6 := of_decide_eq_false h6
 have HR : titleOk s = true := tt_yes (by omega) (by omega) hf hl hcn (all_end (by omega) hk.2)
 refine .exit ?_
 refine .sr ?_
 refine .aA (.nil ?_)
 refine .ret ?_
 refine ⟨RetD.eq rfl ?_, trivial⟩
 all_goals (first | rw [HR] | rw [show titleOk s = false from tt_no (fun hh => by rw [all_hit hlt (fun hc => by have := prB_iff.1 hc; omega)] at hh; exact absurd hh.2.2.2.2.2 (by decide))])

set_option maxRecDepth 100000 in
set_option maxHeartbeats 1000000 in
theorem c_rTitle (s : ByteArray) (hs : s.size ≤ 9223372036854775807) : ACallT Tryz.prog MaxT 124 [.v (.string s)] (.v (.bool (titleOk s))) := by
 refine acall_ofT (n := 44) (ds' := [.v (.bool (titleOk s))]) Tryz.func124 rfl (by kernel_rfl) rfl [2] rfl rfl ?_
 intro B w0 F0 hT
 have hsz := Lib.size_eq s
 refine .sr ?_
 refine .aA (.nil ?_)
 refine .seq ?_
 refine .sr ?_
 refine .mA ?_
 refine .sA (.seql rfl rfl rfl) ?_
 refine .mA ?_
 refine .split 6 rfl (fun g1 => ?_) (fun g1 => ?_)
 ·replace g1 := of_decide_eq_true g1
  have HR : titleOk s = false := tt_no (fun hh => by have := emp_size g1; omega)
  refine .pA ?_
  refine .pA ?_
  refine .pA ?_
  refine .sA (.pickT rfl rfl rfl) ?_
  refine .mA ?_
  refine .pA ?_
  refine .pA ?_
  refine .pA ?_
  refine .sA (.pickT rfl rfl rfl) ?_
  refine .mA ?_
  refine .pA ?_
  refine .pA ?_
  refine .pA ?_
  refine .pA ?_
  refine .pA ?_
  refine .pA ?_
  refine .sA (.pickT rfl rfl rfl) ?_
  refine .mA ?_
  refine .pA ?_
  refine .pA ?_
  refine .sA (.pickT rfl rfl rfl) (.nil ?_)
  refine .cond rfl (fun _ => ?_) (fun h => nomatch h)
  refine .sr ?_
  refine .aA (.nil ?_)
  refine .ret ?_
  refine ⟨RetD.eq rfl ?_, trivial⟩
  all_goals (first | rw [HR] | rw [show titleOk s = false from tt_no (fun hh => by rw [all_hit hlt (fun hc => by have := prB_iff.1 hc; omega)] at hh; exact absurd hh.2.2.2.2.2 (by decide))])
 replace g1 := of_decide_eq_false g1
 have hp : 0 < s.size := nemp_size g1
 refine .sG (.moveD rfl rfl) ?_
 refine .sG (.lenStr rfl st_9 rfl) ?_
 refine .sG (.gtr rfl rfl rfl) ?_
 refine .sA (.pickF rfl rfl rfl) ?_
 refine .mA ?_
 refine .split 11 rfl (fun g2 => ?_) (fun g2 => ?_)
 ·replace g2 := of_decide_eq_true g2
  have HR : titleOk s = false := tt_no (fun hh => by omega)
  refine .pA ?_
  refine .pA ?_
  refine .pA ?_
  refine .sA (.pickT rfl rfl rfl) ?_
  refine .mA ?_
  refine .pA ?_
  refine .pA ?_
  refine .pA ?_
  refine .pA ?_
  refine .pA ?_
  refine .pA ?_
  refine .sA (.pickT rfl rfl rfl) ?_
  refine .mA ?_
  refine .pA ?_
  refine .pA ?_
  refine .sA (.pickT rfl rfl rfl) (.nil ?_)
  refine .cond rfl (fun _ => ?_) (fun h => nomatch h)
  refine .sr ?_
  refine .aA (.nil ?_)
  refine .ret ?_
  refine ⟨RetD.eq rfl ?_, trivial⟩
  all_goals (first | rw [HR] | rw [show titleOk s = false from tt_no (fun hh => by rw [all_hit hlt (fun hc => by have := prB_iff.1 hc; omega)] at hh; exact absurd hh.2.2.2.2.2 (by decide))])
 replace g2 := of_decide_eq_false g2
 have hq : s.size ≤ 100 := by omega
 refine .sG (.moveD rfl rfl) ?_
 refine .sG (.indexStr rfl st_9 rfl rfl 0 rfl (at0_ba (by omega))) ?_
 refine .sG (.eql rfl rfl rfl) ?_
 refine .sA (.pickF rfl rfl rfl) ?_
 refine .mA ?_
 refine .split 16 rfl (fun g3 => ?_) (fun g3 => ?_)
 ·replace g3 := of_decide_eq_true g3
  have HR : titleOk s = false := tt_no (fun hh => hh.2.2.1 (u32' g3))
  refine .pA ?_
  refine .pA ?_
  refine .pA ?_
  refine .pA ?_
  refine .pA ?_
  refine .pA ?_
  refine .sA (.pickT rfl rfl rfl) ?_
  refine .mA ?_
  refine .pA ?_
  refine .pA ?_
  refine .sA (.pickT rfl rfl rfl) (.nil ?_)
  refine .cond rfl (fun _ => ?_) (fun h => nomatch h)
  refine .sr ?_
  refine .aA (.nil ?_)
  refine .ret ?_
  refine ⟨RetD.eq rfl ?_, trivial⟩
  all_goals (first | rw [HR] | rw [show titleOk s = false from tt_no (fun hh => by rw [all_hit hlt (fun hc => by have := prB_iff.1 hc; omega)] at hh; exact absurd hh.2.2.2.2.2 (by decide))])
 replace g3 := of_decide_eq_false g3
 have hf := u32n g3
 refine .sG (.moveD rfl rfl) ?_
 refine .sG (.moveD rfl rfl) ?_
 refine .sG (.lenStr rfl st_9 rfl) ?_
 refine .sG (.sub64 rfl rfl rfl (by omega) (by omega)) ?_
 refine .sG (.indexStr rfl st_9 rfl rfl (s.data.toList.length - 1) (by omega) (at0_ba (by omega))) ?_
 refine .sG (.eql rfl rfl rfl) ?_
 refine .sA (.pickF rfl rfl rfl) ?_
 refine .mA ?_
 refine .split 24 rfl (fun g4 => ?_) (fun g4 => ?_)
 ·replace g4 := of_decide_eq_true g4
  have HR : titleOk s = false := tt_no (fun hh => hh.2.2.2.1 (u32' g4))
  refine .pA ?_
  refine .pA ?_
  refine .sA (.pickT rfl rfl rfl) (.nil ?_)
  refine .cond rfl (fun _ => ?_) (fun h => nomatch h)
  refine .sr ?_
  refine .aA (.nil ?_)
  refine .ret ?_
  refine ⟨RetD.eq rfl ?_, trivial⟩
  all_goals (first | rw [HR] | rw [show titleOk s = false from tt_no (fun hh => by rw [all_hit hlt (fun hc => by have := prB_iff.1 hc; omega)] at hh; exact absurd hh.2.2.2.2.2 (by decide))])
 replace g4 := of_decide_eq_false g4
 have hl := u32n g4
 refine .sG (.moveD rfl rfl) ?_
 -- wants the world
 refine .callT ⟨24, rfl, .inl ⟨_, rfl, rfl⟩⟩ rfl rfl hT maxT_stays rfl (.cons (.rfl' rfl) (.cons (.rfl' rfl) .nil)) (c_contains2 s hq) ?_
 refine .sA (.pickF rfl rfl rfl) (.nil ?_)
 refine .cond rfl (fun h5 => ?_) (fun h5 => ?_)
 ·skip
  have HR : titleOk s = false := tt_no (fun hh => by rw [hh.2.2.2.2.1] at h5; cases h5)
  refine .sr ?_
  refine .aA (.nil ?_)
  refine .ret ?_
  refine ⟨RetD.eq rfl ?_, trivial⟩
  all_goals (first | rw [HR] | rw [show titleOk s = false from tt_no (fun hh => by rw [all_hit hlt (fun hc => by have := prB_iff.1 hc; omega)] at hh; exact absurd hh.2.2.2.2.2 (by decide))])
 have hcn := h5
 refine .skip ?_
 refine .seq ?_
 refine .sr ?_
 refine .mA ?_
 refine .sA (.lenStr rfl st_9 rfl) ?_
 refine .mA (.nil ?_)
 refine .block ?_
 refine .loop (G := Nat) (fun k => Env.of [(30, .d (.v (.int .i64 (k : Int)))), (29, .d (.v (.int .i64 (s.size : Int)))), (0, .d (.v (.string s)))]) (fun k => []) (fun k => k ≤ s.size ∧ ∀ c ∈ s.data.toList.take k, prB c = true) (fun k => s.size - k) 0 ⟨Nat.zero_le _, fun c h => by simp at h⟩ (Sub.less ⟨(SLe.of_eq rfl), SLe.refl _, SLe.refl _, trivial⟩ (fun _ h => h)) ?_
 intro k hk
 refine .sr ?_
 refine .sA (.lss rfl rfl rfl) (.nil ?_)
 refine .seq ?_
 refine .cond rfl (fun h6 => ?_) (fun h6 => ?_)
 ·replace h6 := of_decide_eq_true h6
  have hlt : k < s.data.toList.length := by omega
  refine .skip ?_
  refine .seq ?_
  refine .block ?_
  refine .sr ?_
  refine .mA ?_
  refine .aA (.nil ?_)
  refine .sr ?_
  refine .mA ?_
  refine .mA ?_
  refine .sA (.indexStr rfl st_9 rfl rfl k rfl (at0_ba hlt)) ?_
  refine .sA (.lss rfl rfl rfl) ?_
  refine .mA ?_
  refine .split 37 rfl (fun g7 => ?_) (fun g7 => ?_)
  ·replace g7 := of_decide_eq_true g7
   refine .pA ?_
   refine .pA ?_
   refine .pA ?_
   refine .pA ?_
   refine .sA (.pickT rfl rfl rfl) (.nil ?_)
   refine .cond rfl (fun _ => ?_) (fun h => nomatch h)
   refine .sr ?_
   refine .aA (.nil ?_)
   refine .ret ?_
   refine ⟨RetD.eq rfl ?_, trivial⟩
   all_goals (first | rw [HR] | rw [show titleOk s = false from tt_no (fun hh => by rw [all_hit hlt (fun hc => by have := prB_iff.1 hc; omega)] at hh; exact absurd hh.2.2.2.2.2 (by decide))])
  replace g7 := of_decide_eq_false g7
  refine .sG (.moveD rfl rfl) ?_
  refine .sG (.moveD rfl rfl) ?_
  refine .sG (.indexStr rfl st_9 rfl rfl k rfl (at0_ba hlt)) ?_
  refine .sG (.gtr rfl rfl rfl) ?_
  refine .sA (.pickF rfl rfl rfl) (.nil ?_)
  refine .cond rfl (fun h8 => ?_) (fun h8 => ?_)
  ·replace h8 := of_decide_eq_true h8
   refine .sr ?_
   refine .aA (.nil ?_)
   refine .ret ?_
   refine ⟨RetD.eq rfl ?_, trivial⟩
   all_goals (first | rw [HR] | rw [show titleOk s = false from tt_no (fun hh => by rw [all_hit hlt (fun hc => by have := prB_iff.1 hc; omega)] at hh; exact absurd hh.2.2.2.2.2 (by decide))])
  replace h8 := of_decide_eq_false h8
  refine .skip ?_
  refine .region ?_
  refine .sA (.add64 rfl rfl rfl (by omega) (by omega)) ?_
  refine .mA (.nil ?_)
  refine ⟨k + 1, ⟨by omega, all_nx hlt hk.2 (prB_iff.2 (by omega))⟩, (by dsimp only; omega), Sub.less ⟨(SLe.of_eq rfl), SLe.refl _, SLe.refl _, trivial⟩ (fun _ h => h)⟩
 replace h6 := of_decide_eq_false h6
 have HR : titleOk s = true := tt_yes (by omega) (by omega) hf hl hcn (all_end (by omega) hk.2)
 refine .exit ?_
 refine .sr ?_
 refine .aA (.nil ?_)
 refine .ret ?_
 refine ⟨RetD.eq rfl ?_, trivial⟩
 all_goals (first | rw [HR] | rw [show titleOk s = false from tt_no (fun hh => by rw [all_hit hlt (fun hc => by have := prB_iff.1 hc; omega)] at hh; exact absurd hh.2.2.2.2.2 (by decide))])

set_option maxRecDepth 100000 in
set_option maxHeartbeats 1000000 in
theorem c_pIn (n a b : Int) : ACall Tryz.prog 77 [.v (.int .i64 n), .v (.int .i64 a), .v (.int .i64 b)] (.v (.bool (decide (a ≤ n ∧ n ≤ b)))) := by
 refine acall_of (n := 15) (ds' := [.v (.bool (decide (a ≤ n ∧ n ≤ b)))]) Tryz.func77 rfl (by kernel_rfl) rfl [6] rfl rfl ?_
 intro B w0 F0 fr
 refine .sr ?_
 refine .aA (.nil ?_)
 refine .sr ?_
 refine .mA ?_
 refine .mA ?_
 refine .sA (.geq rfl rfl rfl) ?_
 refine .mA ?_
 refine .split 10 rfl (fun g1 => ?_) (fun g1 => ?_)
 ·replace g1 := of_decide_eq_true g1
  refine .sG (.moveD rfl rfl) ?_
  refine .sG (.moveD rfl rfl) ?_
  refine .sG (.leq rfl rfl rfl) ?_
  refine .sA (.pickT rfl rfl rfl) ?_
  refine .aA (.nil ?_)
  refine .ret ?_
  refine ⟨RetD.eq rfl ?_, trivial⟩
  all_goals (simp; omega)
 replace g1 := of_decide_eq_false g1
 refine .pA ?_
 refine .pA ?_
 refine .pA ?_
 refine .sA (.pickF rfl rfl rfl) ?_
 refine .aA (.nil ?_)
 refine .ret ?_
 refine ⟨RetD.eq rfl ?_, trivial⟩
 all_goals (simp; omega)

set_option maxRecDepth 100000 in
set_option maxHeartbeats 1000000 in
theorem c_rIn (n a b : Int) : ACall Tryz.prog 107 [.v (.int .i64 n), .v (.int .i64 a), .v (.int .i64 b)] (.v (.bool (decide (a ≤ n ∧ n ≤ b)))) := by
 refine acall_of (n := 15) (ds' := [.v (.bool (decide (a ≤ n ∧ n ≤ b)))]) Tryz.func107 rfl (by kernel_rfl) rfl [6] rfl rfl ?_
 intro B w0 F0 fr
 refine .sr ?_
 refine .aA (.nil ?_)
 refine .sr ?_
 refine .mA ?_
 refine .mA ?_
 refine .sA (.leq rfl rfl rfl) ?_
 refine .mA ?_
 refine .split 10 rfl (fun g1 => ?_) (fun g1 => ?_)
 ·replace g1 := of_decide_eq_true g1
  refine .sG (.moveD rfl rfl) ?_
  refine .sG (.moveD rfl rfl) ?_
  refine .sG (.leq rfl rfl rfl) ?_
  refine .sA (.pickT rfl rfl rfl) ?_
  refine .aA (.nil ?_)
  refine .ret ?_
  refine ⟨RetD.eq rfl ?_, trivial⟩
  all_goals (simp; omega)
 replace g1 := of_decide_eq_false g1
 refine .pA ?_
 refine .pA ?_
 refine .pA ?_
 refine .sA (.pickF rfl rfl rfl) ?_
 refine .aA (.nil ?_)
 refine .ret ?_
 refine ⟨RetD.eq rfl ?_, trivial⟩
 all_goals (simp; omega)

end Go.Proofs.YtcfamaddnmnaeaaGreatDoor

namespace Go.Proofs.YtcfamaddnmnaeaaGreatDoor
open Go.RowKit
set_option linter.unusedVariables false

/-- The type of bytes. -/
structure U8T (P : Program) (t : TypeId) : Prop where
  hu : P.underlying t = some (.int .u8)
def at0' (l : List UInt8) (i : Nat) : UInt8 := l.getD i 0
section
variable {cx : Cx} {ops : Array Oper} {o : Oper} {rest : List Oper} {e : Env} {σ : Obs} {Q : Post}
end

section
variable {P : Program} {B : Nat} {ops : Array Oper} {o : Oper} {e : Env} {σ : Obs}
end

section
variable {P : Program} {B : Nat} {ops : Array Oper} {o : Oper} {e : Env} {σ : Obs}
end
end Go.Proofs.YtcfamaddnmnaeaaGreatDoor

namespace Go.Proofs.YtcfamaddnmnaeaaGreatDoor
open Go.RowKit
set_option linter.unusedVariables false

/-! Types. -/
namespace TyU3
theorem sc_9 : Scal Tryz.prog 9 := .of (by kernel_rfl)
end TyU3
open TyF0 TyF1 TyF2 TyF3 TyF4 TyF5 TyF6 TyF7 TyF8 TyF9 TyF10 TyF11 TyG1 TyG2 TyG5 TyU1 TyU2 TyU3

open Go.Lib
theorem take_f {α : Type} {p : α → Bool} {l : List α} {k : Nat} (hk : k < l.length) (h : ∀ c ∈ l.take k, p c = false) (h2 : p l[k] = false) : ∀ c ∈ l.take (k + 1), p c = false := by
  intro c hc
  rw [List.take_add_one, List.getElem?_eq_getElem hk] at hc
  simp only [Option.toList_some, List.mem_append, List.mem_singleton] at hc
  rcases hc with h1 | h1
  · exact h c h1
  · rw [h1]; exact h2
def orI (l : List Int) : Int := (l.find? fun x => decide (x ≠ 0)).getD 0
theorem orI_yes {l : List Int} {k : Nat} (hk : k < l.length) (h : ∀ c ∈ l.take k, decide (c ≠ 0) = false) (h2 : l[k] ≠ 0) : orI l = l[k] := by
  unfold orI
  have e : l = l.take k ++ l[k] :: l.drop (k + 1) := by rw [← List.drop_eq_getElem_cons hk, List.take_append_drop]
  have h3 : (l.take k).find? (fun x => decide (x ≠ 0)) = none := List.find?_eq_none.2 fun x hx => by rw [h x hx]; simp
  have h4 : l.find? (fun x => decide (x ≠ 0)) = some l[k] := by
    have : (l.take k ++ l[k] :: l.drop (k + 1)).find? (fun x => decide (x ≠ 0)) = some l[k] := by
      rw [List.find?_append, h3, List.find?_cons, decide_eq_true h2]; rfl
    rw [← e] at this; exact this
  rw [h4]; rfl
theorem orI_no {l : List Int} (h : ∀ c ∈ l.take l.length, decide (c ≠ 0) = false) : orI l = 0 := by
  unfold orI
  rw [List.find?_eq_none.2 fun x hx => by rw [h x (by rw [List.take_length]; exact hx)]; simp]
  rfl

theorem orI_two (a b : Int) : orI [a, b] = if a = 0 then b else a := by
  by_cases h : a = 0
  · rw [if_pos h]
    by_cases h2 : b = 0 <;> simp [orI, h, h2]
  · rw [if_neg h]; simp [orI, h]
set_option maxRecDepth 100000 in
set_option maxHeartbeats 1000000 in
theorem c_or (l : List Int) : ACall Tryz.prog 89 [.sl (l.map intD)] (.v (.int .i64 (orI l))) := by
 refine acall_of (n := 18) (ds' := [.v (.int .i64 (orI l))]) Tryz.func89 rfl (by kernel_rfl) rfl [2] rfl rfl ?_
 intro B w0 F0 fr
 refine .bound 0 rfl (fun hbd0 => ?_)
 rw [List.length_map] at hbd0
 refine .sr ?_
 refine .aA (.nil ?_)
 refine .sr ?_
 refine .aA (.nil ?_)
 refine .seq ?_
 refine .sr ?_
 refine .mA ?_
 refine .sA (.lenSl rfl et_37.ht rfl) ?_
 refine .mA (.nil ?_)
 refine .block ?_
 refine .loop (G := Nat) (fun k => Env.of [(8, .d (.v (.int .i64 (k : Int)))), (6, .d (.sl (l.map intD))), (7, .d (.v (.int .i64 ((l.map intD).length : Int)))), (3, .d (.v (.int .i64 0)))]) (fun k => []) (fun k => k ≤ l.length ∧ ∀ c ∈ l.take k, decide (c ≠ 0) = false) (fun k => l.length - k) 0 ⟨Nat.zero_le _, fun c h => by simp at h⟩ (Sub.less ⟨(SLe.of_eq rfl), SLe.refl _, SLe.refl _, SLe.refl _, trivial⟩ (fun _ h => h)) ?_
 intro k hk
 refine .sr ?_
 refine .sA (.lss rfl rfl rfl) (.nil ?_)
 refine .seq ?_
 refine .cond rfl (fun h1 => ?_) (fun h1 => ?_)
 ·replace h1 := of_decide_eq_true h1
  rw [List.length_map] at h1
  have hlt : k < l.length := by omega
  refine .skip ?_
  refine .seq ?_
  refine .block ?_
  refine .sr ?_
  refine .sA (.indexAddr rfl et_37 rfl rfl k rfl (at_lst hlt) rfl) ?_
  refine .sA (.load rfl sc_3 rfl) ?_
  refine .aA (.nil ?_)
  refine .sr ?_
  refine .mA ?_
  refine .mA ?_
  refine .sA (.neq rfl rfl rfl) (.nil ?_)
  refine .cond rfl (fun h2 => ?_) (fun h2 => ?_)
  ·replace h2 := of_decide_eq_true h2
   rw [orI_yes hlt hk.2 h2]
   refine .sr ?_
   refine .mA ?_
   refine .aA (.nil ?_)
   refine .ret ?_
   refine ⟨RetD.eq rfl ?_, trivial⟩
   all_goals (rfl)
  replace h2 := of_decide_eq_false h2
  have hT := take_f (p := fun x : Int => decide (x ≠ 0)) hlt hk.2 (decide_eq_false h2)
  refine .skip ?_
  refine .region ?_
  refine .sA (.add64 rfl rfl rfl (by omega) (by omega)) ?_
  refine .mA (.nil ?_)
  refine ⟨k + 1, ⟨by omega, hT⟩, (by dsimp only; omega), Sub.less ⟨(SLe.of_eq rfl), SLe.refl _, SLe.refl _, SLe.refl _, trivial⟩ (fun _ h => h)⟩
 replace h1 := of_decide_eq_false h1
 rw [List.length_map] at h1
 rw [orI_no (fun c hc => hk.2 c (by rw [show k = l.length by omega]; exact hc))]
 refine .exit ?_
 refine .sr ?_
 refine .mA ?_
 refine .aA (.nil ?_)
 refine .ret ?_
 refine ⟨RetD.eq rfl ?_, trivial⟩
 all_goals (rfl)

end Go.Proofs.YtcfamaddnmnaeaaGreatDoor
