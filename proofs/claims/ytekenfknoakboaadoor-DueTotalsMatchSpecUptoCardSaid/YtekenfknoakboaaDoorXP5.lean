/- Walks and laws over abstract values, merged by tools/merge.py. No statement of the seat. -/
import Derived.Maps.RangeRun
import Derived.Shelf.Strings.Builder1
import Derived.Lib.AppendStr
import Derived.Lib.UnsafeStr
import Derived.WalkKit
import Derived.Ground.NamesProg
import Derived.Shelf.LaysM
import Derived.Shelf.Strconv.Itoa3
import Derived.Test.YtekenfknoakboaaDoorProg
import Derived.Shelf.RegionOpenPlain
import Derived.Lib.ItoaLen
import Derived.Shelf.SlSortCmp.WholeK
import Derived.Shelf.SlSortCmp.NoneTotal
import Derived.Shelf.SlicesG.Cmp
import Derived.Ground.SlsfProg
import Derived.Ground.SlgcProg
import Derived.Test.YtekenfknoakboaaDoorXP4

namespace Go.Proofs.YtekenfknoakboaaDoor
open Go.RowKit
set_option linter.unusedVariables false

/-! Types. -/
namespace TyM7

end TyM7
open TyM7


def keyV (k : ByteArray × Int) : Value := .agg #[.string k.1, .int .i64 k.2]
def isStrT (o : Option TypeDesc) : Bool := match o with
  | some .string => true
  | _ => false
def isI64T (o : Option TypeDesc) : Bool := match o with
  | some (.int .i64) => true
  | _ => false
def keyB (P : Program) (k : TypeId) : Bool := match P.underlying k with
  | some (.struct fs) => (match fs.toList with
    | [f, g] => f.name != "_" && g.name != "_" && f.offset == 0 && g.offset == 1 && isStrT (P.underlying f.type) && isI64T (P.underlying g.type) && P.cellsOf f.type == 1 && P.cellsOf g.type == 1
    | _ => false) && P.cellsOf k == 2
  | _ => false
/-! ## A map by its keys -/
abbrev KL := List ((ByteArray × Int) × Int)
def encKL (L : KL) : List (Value × D) := L.map fun p => (keyV p.1, .v (.int .i64 p.2))
def hasL (L : KL) (k : ByteArray × Int) : Bool := L.any fun p => decide (p.1 = k)
def getL (L : KL) (k : ByteArray × Int) : Int := ((L.find? fun p => decide (p.1 = k)).map (·.2)).getD 0
def putL (L : KL) (k : ByteArray × Int) (v : Int) : KL := if hasL L k = true then L.map (fun p => if p.1 = k then (k, v) else p) else L ++ [(k, v)]
def Nk (L : KL) : Prop := L.Pairwise fun p q => p.1 ≠ q.1
end Go.Proofs.YtekenfknoakboaaDoor


namespace Go.Proofs.YtekenfknoakboaaDoor
open Go.RowKit
set_option linter.unusedVariables false

/-! Types. -/
namespace TyM8
theorem sc_3 : Scal Tryd.prog 3 := .of (by kernel_rfl)
theorem sc_9 : Scal Tryd.prog 9 := .of (by kernel_rfl)
end TyM8
open TyM8


def rk (R : KL) (x : Rpt) : Int := if 0 < x.corrects then (if hasL R (x.source, x.corrects) = true then getL R (x.source, x.corrects) else x.corrects) else x.no
def stepV (s : KL × KL) (x : Rpt) : KL × KL := (putL s.1 (x.source, x.no) (rk s.1 x), putL s.2 (x.source, rk s.1 x) x.no)
def stV (l : List Rpt) (k : Nat) : KL × KL := (l.take k).foldl stepV ([], [])
def rootR (l : List Rpt) (x : Rpt) : Int := getL (stV l l.length).1 (x.source, x.no)
def cntB (l : List Rpt) (x : Rpt) : Bool := decide (getL (stV l l.length).2 (x.source, rootR l x) = x.no)
/-- The reports that count. -/
def validR (l : List Rpt) : List Rpt := l.filter (cntB l)
def valR (l : List Rpt) : List Rpt := if logF l = 0 then validR l else []
/-- What may be a key. -/
def KyO (k : ByteArray × Int) : Prop := k.1.size ≤ maxLen ∧ -9223372036854775808 ≤ k.2 ∧ k.2 ≤ 9223372036854775807
structure InvV (s : KL × KL) : Prop where
  n1 : Nk s.1
  n2 : Nk s.2
  k1 : ∀ p ∈ s.1, KyO p.1 ∧ 0 ≤ p.2 ∧ p.2 ≤ 1000000
  k2 : ∀ p ∈ s.2, KyO p.1
end Go.Proofs.YtekenfknoakboaaDoor


namespace Go.Proofs.YtekenfknoakboaaDoor
open Go.RowKit
set_option linter.unusedVariables false

/-! Types. -/
namespace TyM9

end TyM9
open TyM9


/-- Does x correct y? -/
def mtB (x y : Rpt) : Bool := decide (y.source = x.source) && decide (y.no = x.corrects)
def upTo (l : List Rpt) (x : Rpt) : Nat → Int
  | 0 => -1
  | k + 1 => if mtB x (l.getD k default) = true then (k : Int) else upTo l x k
def upX (l : List Rpt) (x : Rpt) : Int := upTo l x l.length
def rootA (l : List Rpt) : Nat → Rpt → Int
  | 0, x => x.no
  | n + 1, x => if x.corrects = 0 then x.no else if upX l x < 0 then x.corrects else rootA l n (l.getD (upX l x).toNat default)
def rootQ (l : List Rpt) (x : Rpt) : Int := rootA l (l.length + 1) x
structure StI (l : List Rpt) (k : Nat) : Prop where
  has : ∀ s n, hasL (stV l k).1 (s, n) = true ↔ ∃ j, ∃ h : j < l.length, j < k ∧ l[j].source = s ∧ l[j].no = n
  get : ∀ j, (h : j < l.length) → j < k → getL (stV l k).1 (l[j].source, l[j].no) = rootQ l l[j]
def sameG (l : List Rpt) (i j : Nat) : Bool := decide ((l.getD j default).source = (l.getD i default).source) && decide (rootQ l (l.getD j default) = rootQ l (l.getD i default))
def okI (l : List Rpt) (i m : Nat) : Bool := (List.range m).all fun t => !(sameG l i (i + 1 + t))
def outV (l : List Rpt) (k : Nat) : List Rpt := ((List.range k).filter fun i => okI l i (l.length - (i + 1))).map fun i => l.getD i default
end Go.Proofs.YtekenfknoakboaaDoor


namespace Go.Proofs.YtekenfknoakboaaDoor
open Go.RowKit Go.MapKept
set_option linter.unusedVariables false
set_option linter.unusedSimpArgs false

/-- What reads so is exactly this value. -/
def DExact (kd : D) (key : Value) : Prop := ∀ F w v, Rep F w v kd → v = key
section
variable {cx : Cx} {ops : Array Oper} {o : Oper} {rest : List Oper} {e : Env} {σ σ' : Obs} {Q : Post} {P : Program} {B : Nat}
/-- An own object is written no more: nobody speaks of it from here on. -/
theorem R0.freezeAny {F : Nat → Prop} {ρ : Nat → Value} {a : Act} {w : World} (h : R0 cx F ρ e σ a w) {id : Nat} {ob : Ob} (hm : (id, ob) ∈ σ) : R0 cx (fun b => F b ∨ blk (ρ id) = some b) ρ e (Obs.del id σ) a w := by
  have hF2 : ∀ b, (F b ∨ blk (ρ id) = some b) → b < w.heap.size := fun b hb => by
    rcases hb with hb | hb
    · exact h.lt b hb
    · exact ((h.obs.ok _ hm).blk_lt hb).2
  refine ⟨h.size, h.defers, hF2, fun b hb => .inl (h.base b hb), fun b hb => ?_, h.below, h.hB, fun u => ?_, ?_, h.up, fun p hp => h.kown p (Obs.mem_del hp).1, h.fixed⟩
  · rcases hb with hb | hb
    · exact h.new b hb
    · exact .inr (h.kown _ hm b hb)
  · exact RepS.turn (row := none) (h.env u) h.lt (fun g hg => by simp at hg) ⟨rfl, rfl, rfl, Nat.le_refl _, fun _ _ _ => rfl⟩ (fun b hb => .inl hb)
  · refine ⟨fun p hp => ?_, fun p hp q hq => h.obs.apart p (Obs.mem_del hp).1 q (Obs.mem_del hq).1, fun p hp q hq => h.obs.uniq p (Obs.mem_del hp).1 q (Obs.mem_del hq).1⟩
    obtain ⟨h1, h2⟩ := Obs.mem_del hp
    have h3 := h.obs.ok p h1
    have hne : ∀ g, blk (ρ p.1) = some g → blk (ρ id) ≠ some g := fun g hg => h.obs.apart p h1 _ hm h2 g hg
    exact h3.more h.lt (fun b hb => .inl hb) (fun g hg hf => by
      rcases hf with hf | hf
      · exact h3.nF hg hf
      · exact hne g hg hf)
/-- range m: the map is written no more, the iterator is an own object. -/
theorem AOps.range {t k et dst idm : Nat} {m : Operand} {M : List (Value × D)} (id : Nat) (hg : o.guard = none) (ht : o.dst = some dst) (hdn : Nat.blt dst cx.N = true) (ho : o.op = .range t m) (hu : cx.P.underlying t = some (.map k et)) (hm : e.ev m = .own idm) (hmem : (idm, Ob.map M) ∈ σ) (hid : Obs.fresh id σ = true)
    (kk : AOps cx ops rest ((e.kill id).put (some dst) (.ptr id 0)) ((id, .iter M []) :: Obs.kill id (Obs.del idm σ)) Q) (hfx : cx.free id = true := by rfl) : AOps cx ops (o :: rest) e σ Q := by
  intro a w ⟨F, ρ, hr⟩
  have r1 := ev_rep (e := e) (x := m) (a := a) (fun t _ => hr.env t)
  rw [hm] at r1
  obtain ⟨b, es, clock, hρ, hB, hFb, hh, hMC, hall⟩ := hr.obs.ok _ hmem
  dsimp only at hρ
  have hv : a.eval m = .map (some b) := by rw [← hρ]; generalize a.eval m = u at r1; cases r1; rfl
  have hfz := hr.freezeAny hmem
  have hbb : blk (ρ idm) = some b := by rw [hρ]; rfl
  have hblt : b < w.heap.size := (Array.getElem?_eq_some_iff.1 hh).1
  have hE : Ext (fun c => F c ∨ blk (ρ idm) = some c) w (fun c => F c ∨ blk (ρ idm) = some c) (w.alloc (.mapIter (some b) clock #[] clock)) := Ext.of_below hfz.lt ((Below.refl _ _).alloc (Nat.le_refl _) _)
  have hid' : ∀ p ∈ Obs.del idm σ, p.1 ≠ id := fun p hp => Obs.fresh_spec hid p (Obs.mem_del hp).1
  have h2 := hfz.turn (ρ' := fun j => if j = id then .pointer (some ⟨w.heap.size, 0, none⟩) else ρ j) (id := id) (ob := .iter M []) (row := none) (w' := w.alloc (.mapIter (some b) clock #[] clock)) (F' := fun c => F c ∨ blk (ρ idm) = some c) (fun j hj => by simp [hj])
    ⟨hE.below.os, hE.below.tape, hE.below.output, hE.below.size, fun k hk _ => hE.below.block k hk⟩ hfx (fun g hg => by simp at hg) (fun b hb => hb) (fun b hb => .inl hb) hE.lt
    ⟨w.heap.size, b, es, clock, #[], clock, by simp, hr.hB, fun hf => by have := hfz.lt _ hf; omega, by simpa using heap_alloc_new w _, .inr hbb, by rw [hE.below.block b hblt]; exact hh, ⟨hMC, rfl, by simp, rfl⟩,
      fun i hi hi' => ⟨(hall i hi hi').1, (hall i hi hi').2.mono (fun c hc => .inl hc) fun c hc => hE.below.block c (hr.lt c hc)⟩⟩
    (fun g hg => by simp [blk] at hg; exact .inr (by omega)) ((id, .iter M []) :: Obs.kill id (Obs.del idm σ)) (fun p hp => by
      cases hp with
      | head => exact .inl rfl
      | tail _ hp => obtain ⟨q, hq, rfl⟩ := Obs.mem_kill hp; exact .inr ⟨q, hq, hid' q hq, rfl⟩)
  have h3 := h2.put (o := ⟨some dst, .ready 0, 0, "", #[], none⟩) (v := .pointer (some ⟨w.heap.size, 0, none⟩)) (s := .ptr id 0) (Ext.refl h2.lt) (.ptr id 0 w.heap.size (by simp [blk])) (by simpa [DstOk, Nat.blt_eq] using hdn)
  refine wpList_plain hg fun K hK => ?_
  unfold Oper.wp execOp
  simp only [ho, hv, Sem.run_bind, run_range_map w t k et b es clock hu hh, Result.andThen_ok, Sem.run_pure]
  have := kk _ _ ⟨_, _, h3⟩
  rw [← ht] at this
  exact hK _ _ this
theorem R0.drewMaybe {F : Nat → Prop} {ρ : Nat → Value} {a : Act} {w w1 : World} (h : R0 cx F ρ e σ a w) (hw : w1 = w ∨ w1 = w.drew) : R0 cx F ρ e σ a w1 := by
  rcases hw with rfl | rfl
  · exact h
  · exact h.drew
theorem iter_of {F : Nat → Prop} {ρ : Nat → Value} {a : Act} {w : World} (hr : R0 cx F ρ e σ a w) {it : Operand} {id : Nat} {M : List (Value × D)} {done : List Nat} (hi : e.ev it = .ptr id 0) (hm : (id, Ob.iter M done) ∈ σ) :
    ∃ g b, ∃ es : Array MapEntry, ∃ clock seen, a.eval it = .pointer (some ⟨g, 0, none⟩) ∧ ρ id = .pointer (some ⟨g, 0, none⟩) ∧ cx.B ≤ g ∧ ¬ F g ∧ w.heap[g]? = some (.mapIter (some b) clock seen clock) ∧ F b ∧ w.heap[b]? = some (.map es clock) ∧ IterC M.length done es clock seen clock ∧
      (∀ i (h : i < es.size) (h' : i < M.length), es[i].key = M[i].1 ∧ Rep F w es[i].val M[i].2) := by
  have r1 := ev_rep (e := e) (x := it) (a := a) (fun t _ => hr.env t)
  rw [hi] at r1
  obtain ⟨g, b, es, clock, seen, c0, hρ, hB, hF, hg, hb, hh, hI, hall⟩ := hr.obs.ok _ hm
  dsimp only at hρ
  have hl := hI.late
  subst hl
  exact ⟨g, b, es, c0, seen, ptr_at r1 (by rw [hρ]; rfl), hρ, hB, hF, hg, hb, hh, hI, hall⟩
theorem seen_mem {n : Nat} {done : List Nat} {es : Array MapEntry} {clock c0 : Nat} {seen : Array Nat} (h : IterC n done es clock seen c0) {i : Nat} (hi : i < es.size) : seen.contains es[i].born = true ↔ i ∈ done := by
  rw [h.seen, Array.contains_iff_mem, List.mem_toArray, List.mem_map]
  constructor
  · rintro ⟨j, hj, he⟩
    have hjs : j < es.size := by rw [h.size]; exact h.lt j hj
    rw [Array.getElem?_eq_getElem hjs, Option.map_some, Option.getD_some] at he
    have hnd := h.born
    have : j = i := by
      have h1 : j < (es.toList.map (·.born)).length := by simpa using hjs
      have h2 : i < (es.toList.map (·.born)).length := by simpa using hi
      exact (List.getElem_inj hnd (h₀ := h1) (h₁ := h2)).1 (by simpa using he)
    rw [← this]; exact hj
  · intro hj
    exact ⟨i, hj, by rw [Array.getElem?_eq_getElem hi]; rfl⟩
/-- The step of a range: nothing is left, or an entry that was not there yet. -/
theorem AOps.next {dst id : Nat} {it : Operand} {M : List (Value × D)} {done : List Nat} (hg : o.guard = none) (ht : o.dst = some dst) (hdn : Nat.blt dst cx.N = true) (ho : o.op = .next it false) (hi : e.ev it = .ptr id 0) (hmem : (id, Ob.iter M done) ∈ σ)
    (k0 : (∀ i, i < M.length → i ∈ done) → AOps cx ops rest (e.put (some dst) (.d (.tup [.v (.bool false)]))) σ Q)
    (k1 : ∀ i (h : i < M.length), i ∉ done → AOps cx ops rest (e.put (some dst) (.d (.tup [.v (.bool true), .v M[i].1, M[i].2]))) (Obs.upd id (.iter M (done ++ [i])) σ) Q) : AOps cx ops (o :: rest) e σ Q := by
  intro a w ⟨F, ρ, hr⟩
  obtain ⟨g, b, es, clock, seen, hv, hρ, hB, hF, hgg, hb, hh, hI, hall⟩ := iter_of hr hi hmem
  have hl := hI.size
  refine wpList_plain hg fun K hK => ?_
  unfold Oper.wp
  rcases run_next_at (P := cx.P) w o.type g b clock clock seen es clock hgg hh hI.old (Nat.le_refl _) with ⟨h0, hrun⟩ | ⟨en, hen, w1, hal, hrun⟩
  · have hx : (execOp a.eval o).run cx.P w = .ok (.value (.tuple #[.bool false])) w := by
      unfold execOp
      simp only [ho, hv, Sem.run_bind, hrun, Result.andThen_ok, Sem.run_pure]
    rw [hx]
    have h2 := hr.put (o := ⟨some dst, .ready 0, 0, "", #[], none⟩) (v := .tuple #[.bool false]) (s := .d (.tup [.v (.bool false)])) (Ext.refl hr.lt) (.d (.tup [_] [_] rfl (fun i a b => by
      match i, a with
      | 0, _ => exact .v _))) (by simpa [DstOk, Nat.blt_eq] using hdn)
    have := k0 (fun i hi2 => by
      have h3 : leftOf es seen = #[] := Array.eq_empty_of_size_eq_zero h0
      unfold leftOf at h3
      rw [Array.filter_eq_empty_iff] at h3
      have h4 := h3 es[i] (Array.getElem_mem (by omega))
      simp only [Bool.not_eq_true', Bool.not_eq_false] at h4
      exact (seen_mem hI (by omega)).1 h4) _ _ ⟨F, ρ, h2⟩
    rw [← ht] at this
    exact hK _ _ this
  · have hx : (execOp a.eval o).run cx.P w = .ok (.value (.tuple #[.bool true, en.key, en.val])) (ChangeMaps.setBlock w1 g (.mapIter (some b) clock (seen.push en.born) clock)) := by
      unfold execOp
      simp only [ho, hv, Sem.run_bind, hrun, Result.andThen_ok, Sem.run_pure]
    rw [hx]
    unfold leftOf at hen
    simp only [Array.toList_filter, List.mem_filter, Bool.not_eq_true'] at hen
    obtain ⟨i, hil, rfl⟩ := List.mem_iff_getElem.1 hen.1
    have his : i < es.size := by simpa using hil
    have hgi : es.toList[i] = es[i] := by simp
    have hiM : i < M.length := by omega
    have hnd : i ∉ done := fun h => by
      have := (seen_mem hI his).2 h
      rw [hgi] at hen
      rw [hen.2] at this
      cases this
    have hr1 := hr.drewMaybe hal
    have hg1 : w1.heap[g]? = some (.mapIter (some b) clock seen clock) := by rcases hal with rfl | rfl <;> exact hgg
    have hh1 : w1.heap[b]? = some (.map es clock) := by rcases hal with rfl | rfl <;> exact hh
    have hbg : b ≠ g := fun h => hF (h ▸ hb)
    have hall1 : ∀ i (h : i < es.size) (h' : i < M.length), es[i].key = M[i].1 ∧ Rep F w1 es[i].val M[i].2 := fun i h h' => ⟨(hall i h h').1, (hall i h h').2.mono (fun _ h => h) fun c _ => by rcases hal with rfl | rfl <;> rfl⟩
    have hkeep : ∀ {u : Value} {y : D}, Rep F w1 u y → Rep F (ChangeMaps.setBlock w1 g (.mapIter (some b) clock (seen.push es[i].born) clock)) u y := fun h => h.mono (fun _ h => h) fun c hc => by
      have : g ≠ c := fun h => hF (by rw [h]; exact hc)
      simp [ChangeMaps.setBlock, this]
    have h2 := hr1.writeOb (ob' := .iter M (done ++ [i])) (g := g) (by rw [hρ]; rfl) hmem hB hF (setObj_turn (o := .mapIter (some b) clock (seen.push es[i].born) clock))
      ⟨g, b, es, clock, seen.push es[i].born, clock, hρ, hB, hF, (MapKept.heap_set hg1).1, hb, by
          have : g ≠ b := fun h => hbg h.symm
          simp [this]; simpa using hh1, ⟨hI.toMapC, by
            rw [hI.seen]
            simp [Array.getElem?_eq_getElem his], fun j hj => by
            rcases List.mem_append.1 hj with hj | hj
            · exact hI.lt j hj
            · rw [List.mem_singleton] at hj; omega, rfl⟩, fun j hj hj' => ⟨(hall1 j hj hj').1, hkeep (hall1 j hj hj').2⟩⟩
    have h3 := h2.put (o := ⟨some dst, .ready 0, 0, "", #[], none⟩) (v := .tuple #[.bool true, es[i].key, es[i].val]) (s := .d (.tup [.v (.bool true), .v M[i].1, M[i].2])) (Ext.refl h2.lt) (.d (.tup [_, _, _] [_, _, _] rfl (fun j a b => by
      match j, a with
      | 0, _ => exact .v _
      | 1, _ => rw [show [Value.bool true, es[i].key, es[i].val][1] = M[i].1 from (hall i his hiM).1]; exact .v _
      | 2, _ => exact hkeep (hall1 i his hiM).2))) (by simpa [DstOk, Nat.blt_eq] using hdn)
    have := k1 i hiM hnd _ _ ⟨F, ρ, h3⟩
    rw [← ht] at this
    rw [hgi]
    exact hK _ _ this
/-- The round's key and element. -/
theorem AOp.entry {id i : Nat} {it : Operand} {M : List (Value × D)} {done : List Nat} (ho : o.op = .entry it) (hi : e.ev it = .ptr id 0) (hmem : (id, Ob.iter M (done ++ [i])) ∈ σ) (hiM : i < M.length) : AOp P B ops o e σ (.d (.tup [.v M[i].1, M[i].2])) := .value fun F ρ w a hF hr hσ => by
  have r1 := hr it (by rw [ho]; simp [Op.operands])
  rw [hi] at r1
  obtain ⟨g, b, es, clock, seen, c0, hρ, hB, hFg, hgg, hb, hh, hI, hall⟩ := hσ.ok _ hmem
  dsimp only at hρ
  have hv := ptr_at r1 (g := g) (by rw [hρ]; rfl)
  have hl := hI.size
  have his : i < es.size := by omega
  have hs : seen = ((done.map fun i => ((es[i]?).map (·.born)).getD 0).toArray).push es[i].born := by
    rw [hI.seen]
    simp [Array.getElem?_eq_getElem his]
  have hc := hI.late
  subst hc
  rw [hs] at hgg
  refine ⟨.tuple #[es[i].key, es[i].val], F, w, ?_, .d (.tup [_, _] [_, _] rfl (fun j a b => by
    match j, a with
    | 0, _ => rw [show [es[i].key, es[i].val][0] = M[i].1 from (hall i his hiM).1]; exact .v _
    | 1, _ => exact (hall i his hiM).2)), Ext.refl hF⟩
  unfold execOp
  simp only [ho, hv, Sem.run_bind, run_entry_at w g b _ _ es _ es[i] hgg hh (by simp) hI.born, Result.andThen_ok, Sem.run_pure]
/-- .. where the map's entries are those of a Lean list. -/
theorem AOps.nextL {γ : Type} {L : List γ} {f : γ → Value × D} {dst id : Nat} {it : Operand} {done : List Nat} (hg : o.guard = none) (ht : o.dst = some dst) (hdn : Nat.blt dst cx.N = true) (ho : o.op = .next it false) (hi : e.ev it = .ptr id 0) (hmem : (id, Ob.iter (L.map f) done) ∈ σ)
    (k0 : (∀ i, i < L.length → i ∈ done) → AOps cx ops rest (e.put (some dst) (.d (.tup [.v (.bool false)]))) σ Q)
    (k1 : ∀ i (h : i < L.length), i ∉ done → AOps cx ops rest (e.put (some dst) (.d (.tup [.v (.bool true), .v (f L[i]).1, (f L[i]).2]))) (Obs.upd id (.iter (L.map f) (done ++ [i])) σ) Q) : AOps cx ops (o :: rest) e σ Q :=
  .next hg ht hdn ho hi hmem (fun h => k0 fun i hi => h i (by simpa using hi)) fun i h hn => by
    have := k1 i (by simpa using h) hn
    simpa only [List.getElem_map] using this
theorem AOp.entryL {γ : Type} {L : List γ} {f : γ → Value × D} {id i : Nat} {it : Operand} {done : List Nat} (ho : o.op = .entry it) (hi : e.ev it = .ptr id 0) (hmem : (id, Ob.iter (L.map f) (done ++ [i])) ∈ σ) (hiL : i < L.length) : AOp P B ops o e σ (.d (.tup [.v (f L[i]).1, (f L[i]).2])) := by
  have := AOp.entry (P := P) (B := B) (ops := ops) ho hi hmem (by simpa using hiL)
  simpa only [List.getElem_map] using this
end
end Go.Proofs.YtekenfknoakboaaDoor


namespace Go.Proofs.YtekenfknoakboaaDoor
open Go.RowKit
set_option linter.unusedVariables false

/-! Types. -/
namespace TyO1

end TyO1
open TyO1


open Go.Sort Go.Lib
set_option linter.unusedSectionVars false
section
variable {κ β : Type} [DecidableEq κ]
/-! ## Lists by keys -/
def hasG (L : List (κ × β)) (k : κ) : Bool := L.any fun p => decide (p.1 = k)
def findG (L : List (κ × β)) (k : κ) : Option β := (L.find? fun p => decide (p.1 = k)).map (·.2)
def putG (L : List (κ × β)) (k : κ) (v : β) : List (κ × β) := if hasG L k = true then L.map (fun p => if p.1 = k then (k, v) else p) else L ++ [(k, v)]
def NkG (L : List (κ × β)) : Prop := L.Pairwise fun p q => p.1 ≠ q.1
theorem hasG_iff {L : List (κ × β)} {k : κ} : hasG L k = true ↔ ∃ p ∈ L, p.1 = k := by
  unfold hasG
  rw [List.any_eq_true]
  constructor
  · rintro ⟨p, h1, h2⟩; exact ⟨p, h1, of_decide_eq_true h2⟩
  · rintro ⟨p, h1, h2⟩; exact ⟨p, h1, decide_eq_true h2⟩
theorem putG_nk {L : List (κ × β)} (h : NkG L) (k : κ) (v : β) : NkG (putG L k v) := by
  unfold putG
  by_cases hh : hasG L k = true
  · rw [if_pos hh]
    unfold NkG
    rw [List.pairwise_map]
    refine h.imp fun {p q} hpq => ?_
    by_cases h1 : p.1 = k <;> by_cases h2 : q.1 = k
    · exact absurd (h1.trans h2.symm) hpq
    · rw [if_pos h1, if_neg h2]; exact fun e => h2 e.symm
    · rw [if_neg h1, if_pos h2]; exact h1
    · rw [if_neg h1, if_neg h2]; exact hpq
  · rw [if_neg hh]
    refine List.pairwise_append.2 ⟨h, by simp, fun p hp q hq => ?_⟩
    rw [List.mem_singleton] at hq
    subst hq
    exact fun e => hh (hasG_iff.2 ⟨p, hp, e⟩)
theorem findG_cons (p : κ × β) (L : List (κ × β)) (k : κ) : findG (p :: L) k = if p.1 = k then some p.2 else findG L k := by
  unfold findG
  rw [List.find?_cons]
  by_cases h : p.1 = k <;> simp [h]
theorem findG_nil (k : κ) : findG ([] : List (κ × β)) k = none := rfl
theorem findG_append (L M : List (κ × β)) (k : κ) : findG (L ++ M) k = match findG L k with | some v => some v | none => findG M k := by
  induction L with
  | nil => rfl
  | cons p L ih =>
    rw [List.cons_append, findG_cons, findG_cons, ih]
    by_cases h : p.1 = k <;> simp [h]
theorem findG_none {L : List (κ × β)} {k : κ} : findG L k = none ↔ hasG L k = false := by
  induction L with
  | nil => simp [findG_nil, hasG]
  | cons p L ih =>
    rw [findG_cons]
    have : hasG (p :: L) k = (decide (p.1 = k) || hasG L k) := by simp [hasG]
    rw [this]
    by_cases h : p.1 = k <;> simp [h, ih]
theorem findG_map (L : List (κ × β)) (k k' : κ) (v : β) : findG (L.map fun p => if p.1 = k then (k, v) else p) k' = if k' = k then (if hasG L k = true then some v else none) else findG L k' := by
  induction L with
  | nil => by_cases h : k' = k <;> simp [h, findG_nil, hasG]
  | cons p L ih =>
    rw [List.map_cons, findG_cons, findG_cons, ih]
    have hh : hasG (p :: L) k = (decide (p.1 = k) || hasG L k) := by simp [hasG]
    rw [hh]
    by_cases h : p.1 = k
    · rw [if_pos h]
      by_cases h2 : k' = k
      · subst h2; simp [h]
      · have h3 : ¬ k = k' := fun e => h2 e.symm
        have h4 : ¬ p.1 = k' := fun e => h2 (e.symm.trans h)
        simp [h2, h3, h4]
    · rw [if_neg h]
      by_cases h2 : k' = k
      · subst h2; simp [h]
      · simp [h2]
theorem findG_put (L : List (κ × β)) (k : κ) (v : β) (k' : κ) : findG (putG L k v) k' = if k' = k then some v else findG L k' := by
  unfold putG
  by_cases hh : hasG L k = true
  · rw [if_pos hh, findG_map, if_pos hh]
  · rw [if_neg hh, findG_append, findG_cons, findG_nil]
    by_cases h : k' = k
    · subst h
      rw [findG_none.2 (by simpa using hh)]
      try simp
    · have h3 : ¬ k = k' := fun e => h e.symm
      rw [if_neg h, if_neg h3]
      cases findG L k' <;> rfl
theorem findG_mem {L : List (κ × β)} (h : NkG L) (p : κ × β) : p ∈ L ↔ findG L p.1 = some p.2 := by
  induction L with
  | nil => simp [findG_nil]
  | cons q L ih =>
    obtain ⟨h1, h2⟩ := List.pairwise_cons.1 h
    rw [findG_cons, List.mem_cons]
    by_cases hq : q.1 = p.1
    · rw [if_pos hq]
      constructor
      · rintro (rfl | hp)
        · rfl
        · exact absurd hq (h1 p hp)
      · intro e
        exact .inl (Prod.ext hq.symm (Option.some.inj e).symm)
    · rw [if_neg hq, ← ih h2]
      constructor
      · rintro (rfl | hp)
        · exact absurd rfl hq
        · exact hp
      · exact .inr
theorem putG_mem {L : List (κ × β)} {k : κ} {v : β} {p : κ × β} (h : p ∈ putG L k v) : p = (k, v) ∨ p ∈ L := by
  unfold putG at h
  by_cases hh : hasG L k = true
  · rw [if_pos hh] at h
    obtain ⟨q, hq, rfl⟩ := List.mem_map.1 h
    by_cases h2 : q.1 = k
    · rw [if_pos h2]; exact .inl rfl
    · rw [if_neg h2]; exact .inr hq
  · rw [if_neg hh, List.mem_append, List.mem_singleton] at h
    exact h.elim .inr .inl
theorem putG_len (L : List (κ × β)) (k : κ) (v : β) : (putG L k v).length ≤ L.length + 1 := by
  unfold putG
  split <;> simp
/-- What is at k and what comes to it. -/
def plusG (add : β → β → β) (o : Option β) (v : β) : β := match o with
  | some u => add u v
  | none => v
/-- The program's step, the reference's step. -/
def accG (add : β → β → β) (L : List (κ × β)) (e : κ × β) : List (κ × β) := putG L e.1 (plusG add (findG L e.1) e.2)
def addO (lt : κ → κ → Bool) (add : β → β → β) (e : κ × β) : List (κ × β) → List (κ × β)
  | [] => [e]
  | p :: l => if lt p.1 e.1 = true then p :: addO lt add e l else if p.1 = e.1 then (e.1, add p.2 e.2) :: l else e :: p :: l
def RiG (lt : κ → κ → Bool) (L : List (κ × β)) : Prop := L.Pairwise fun p q => lt p.1 q.1 = true
structure Tot (lt : κ → κ → Bool) : Prop where
  irr : ∀ x, lt x x = false
  tr : ∀ {x y z}, lt x y = true → lt y z = true → lt x z = true
  tot : ∀ {x y}, lt x y = false → lt y x = false → x = y
variable {lt : κ → κ → Bool} {add : β → β → β}
theorem RiG.nk (T : Tot lt) {L : List (κ × β)} (h : RiG lt L) : NkG L := h.imp fun {p q} h e => by rw [e, T.irr] at h; cases h
theorem addO_mem {e p : κ × β} : ∀ {L : List (κ × β)}, p ∈ addO lt add e L → p.1 = e.1 ∨ p ∈ L
  | [], h => by
    rw [addO, List.mem_singleton] at h
    exact .inl (by rw [h])
  | q :: l, h => by
    rw [addO] at h
    split at h
    · rcases List.mem_cons.1 h with rfl | h
      · exact .inr (List.mem_cons_self ..)
      · exact (addO_mem h).imp id (List.mem_cons_of_mem _)
    · split at h
      · rcases List.mem_cons.1 h with rfl | h
        · exact .inl rfl
        · exact .inr (List.mem_cons_of_mem _ h)
      · rcases List.mem_cons.1 h with rfl | h
        · exact .inl rfl
        · exact .inr h
theorem addO_ri (T : Tot lt) (e : κ × β) : ∀ {L : List (κ × β)}, RiG lt L → RiG lt (addO lt add e L)
  | [], _ => by rw [addO]; exact List.pairwise_singleton ..
  | q :: l, h => by
    obtain ⟨h1, h2⟩ := List.pairwise_cons.1 h
    rw [addO]
    split
    · rename_i hl
      refine List.pairwise_cons.2 ⟨fun p hp => ?_, addO_ri T e h2⟩
      rcases addO_mem hp with h3 | h3
      · rw [h3]; exact hl
      · exact h1 p h3
    · rename_i hl
      split
      · rename_i he
        refine List.pairwise_cons.2 ⟨fun p hp => ?_, h2⟩
        have := h1 p hp
        rw [he] at this; exact this
      · rename_i he
        have h3 : lt e.1 q.1 = true := by
          cases h4 : lt e.1 q.1 with
          | true => rfl
          | false => exact absurd (T.tot (by simpa using hl) h4) he
        refine List.pairwise_cons.2 ⟨fun p hp => ?_, h⟩
        rcases List.mem_cons.1 hp with rfl | hp
        · exact h3
        · exact T.tr h3 (h1 p hp)
theorem findG_addO (T : Tot lt) (e : κ × β) (k : κ) : ∀ {L : List (κ × β)}, RiG lt L → findG (addO lt add e L) k = if k = e.1 then some (plusG add (findG L e.1) e.2) else findG L k
  | [], _ => by
    rw [addO, findG_cons, findG_nil]
    by_cases h : k = e.1
    · simp [h, plusG, findG_nil]
    · have : ¬ e.1 = k := fun e2 => h e2.symm
      simp [h, this]
  | q :: l, h => by
    obtain ⟨h1, h2⟩ := List.pairwise_cons.1 h
    have hno : lt e.1 q.1 = true ∨ ¬ lt q.1 e.1 = true ∧ ¬ q.1 = e.1 → findG (q :: l) e.1 = none := fun hh => by
      have h3 : lt e.1 q.1 = true := by
        rcases hh with h3 | ⟨h3, h4⟩
        · exact h3
        · cases h5 : lt e.1 q.1 with
          | true => rfl
          | false => exact absurd (T.tot (by simpa using h3) h5) h4
      rw [findG_none]
      cases h6 : hasG (q :: l) e.1 with
      | false => rfl
      | true =>
        obtain ⟨p, hp, he⟩ := hasG_iff.1 h6
        rcases List.mem_cons.1 hp with rfl | hp
        · rw [he, T.irr] at h3; cases h3
        · have := T.tr h3 (h1 p hp)
          rw [he, T.irr] at this; cases this
    rw [addO]
    split
    · rename_i hl
      have hne : ¬ q.1 = e.1 := fun e2 => by rw [e2, T.irr] at hl; cases hl
      rw [findG_cons, findG_addO T e k h2, findG_cons, findG_cons, if_neg hne]
      by_cases hk : k = e.1
      · subst hk; simp [hne]
      · simp [hk]
    · rename_i hl
      split
      · rename_i he
        rw [findG_cons, findG_cons, findG_cons, if_pos he]
        by_cases hk : k = e.1
        · simp [hk, plusG]
        · have h3 : ¬ e.1 = k := fun e2 => hk e2.symm
          have h4 : ¬ q.1 = k := fun e2 => hk (e2.symm.trans he)
          simp [hk, h3, h4]
      · rename_i he
        rw [findG_cons, hno (.inr ⟨hl, he⟩)]
        by_cases hk : k = e.1
        · simp [hk, plusG]
        · have h3 : ¬ e.1 = k := fun e2 => hk e2.symm
          simp [hk, h3]
def foldP (add : β → β → β) (E : List (κ × β)) : List (κ × β) := E.foldl (accG add) []
def foldO (lt : κ → κ → Bool) (add : β → β → β) (E : List (κ × β)) : List (κ × β) := E.foldl (fun L e => addO lt add e L) []
theorem fold_same (T : Tot lt) (E : List (κ × β)) : ∀ (G O : List (κ × β)), NkG G → RiG lt O → (∀ k, findG G k = findG O k) →
    NkG (E.foldl (accG add) G) ∧ RiG lt (E.foldl (fun L e => addO lt add e L) O) ∧ ∀ k, findG (E.foldl (accG add) G) k = findG (E.foldl (fun L e => addO lt add e L) O) k := by
  induction E with
  | nil => exact fun G O h1 h2 h3 => ⟨h1, h2, h3⟩
  | cons e E ih =>
    intro G O h1 h2 h3
    rw [List.foldl_cons, List.foldl_cons]
    refine ih _ _ (putG_nk h1 _ _) (addO_ri T e h2) fun k => ?_
    unfold accG
    rw [findG_put, findG_addO T e k h2, h3 e.1, h3 k]
theorem foldP_nk (T : Tot lt) (E : List (κ × β)) : NkG (foldP add E) := (fold_same T E [] [] List.Pairwise.nil List.Pairwise.nil fun _ => rfl).1
theorem foldO_ri (T : Tot lt) (E : List (κ × β)) : RiG lt (foldO lt add E) := (fold_same T E [] [] List.Pairwise.nil List.Pairwise.nil fun _ => rfl).2.1
theorem fold_mem (T : Tot lt) (E : List (κ × β)) (p : κ × β) : p ∈ foldP add E ↔ p ∈ foldO lt add E := by
  rw [findG_mem (foldP_nk T E), findG_mem (RiG.nk T (foldO_ri T E))]
  have := (fold_same (add := add) T E [] [] List.Pairwise.nil List.Pairwise.nil fun _ => rfl).2.2 p.1
  unfold foldP foldO
  rw [this]
/-! ## Sums -/
def sumB (f : β → Int) (L : List (κ × β)) : Int := (L.map fun p => f p.2).foldr (· + ·) 0
end



/-! ## Orders -/
def ltI2 (a b : Int) : Bool := decide (a < b)
def ltB (a b : ByteArray) : Bool := decide (strCmp a b < 0)
def lexL {κ ι : Type} [DecidableEq κ] (l1 : κ → κ → Bool) (l2 : ι → ι → Bool) (a b : κ × ι) : Bool := l1 a.1 b.1 || (decide (a.1 = b.1) && l2 a.2 b.2)
theorem ltB_iff {a b : ByteArray} : ltB a b = true ↔ a.data.toList < b.data.toList := by
  unfold ltB strCmp
  rw [decide_eq_true_eq, cbLt]
theorem tot_str : Tot ltB where
  irr x := by
    cases h : ltB x x with
    | false => rfl
    | true => exact absurd (ltB_iff.1 h) (List.lt_irrefl _)
  tr h1 h2 := ltB_iff.2 (List.lt_trans (ltB_iff.1 h1) (ltB_iff.1 h2))
  tot {x y} h1 h2 := by
    have a1 : ¬ x.data.toList < y.data.toList := fun h => by rw [ltB_iff.2 h] at h1; cases h1
    have a2 : ¬ y.data.toList < x.data.toList := fun h => by rw [ltB_iff.2 h] at h2; cases h2
    exact baEq.1 (List.le_antisymm (List.not_lt.1 a2) (List.not_lt.1 a1))
theorem Tot.swo {κ α : Type} {lt : κ → κ → Bool} (T : Tot lt) (f : α → κ) : SWO (fun x y => lt (f x) (f y)) where
  irrefl x := T.irr _
  trans x y z h1 h2 := T.tr h1 h2
  ntrans x y z h1 h2 := by
    cases h3 : lt (f x) (f z) with
    | false => rfl
    | true =>
      cases h4 : lt (f y) (f x) with
      | true => rw [T.tr h4 h3] at h2; cases h2
      | false => rw [T.tot h1 h4] at h3; rw [h3] at h2; cases h2
/-! ## Sales, unknown things -/
structure Sal where
  recd : Int
  per : Int
  units : Int
  money : Int
deriving DecidableEq
structure Unk where
  source : ByteArray
  title : ByteArray
  per : Int
  units : Int
  money : Int
deriving DecidableEq
instance : Inhabited Sal := ⟨⟨0, 0, 0, 0⟩⟩
instance : Inhabited Unk := ⟨⟨⟨#[]⟩, ⟨#[]⟩, 0, 0, 0⟩⟩
def Sal.ds (x : Sal) : List D := [.v (.int .i64 x.recd), .v (.int .i64 x.per), .v (.int .i64 x.units), .v (.int .i64 x.money)]
def Unk.ds (x : Unk) : List D := [.v (.string x.source), .v (.string x.title), .v (.int .i64 x.per), .v (.int .i64 x.units), .v (.int .i64 x.money)]
abbrev KS := Int × Int
abbrev KU := ByteArray × ByteArray × Int
abbrev UM := Int × Int
def addU (a b : UM) : UM := (a.1 + b.1, a.2 + b.2)
def ltS : KS → KS → Bool := lexL ltI2 ltI2
def ltU : KU → KU → Bool := lexL ltB (lexL ltB ltI2)
def toS (p : KS × UM) : Sal := ⟨p.1.1, p.1.2, p.2.1, p.2.2⟩
def toU (p : KU × UM) : Unk := ⟨p.1.1, p.1.2.1, p.1.2.2, p.2.1, p.2.2⟩
def Sal.key (x : Sal) : KS := (x.recd, x.per)
def Unk.key (x : Unk) : KU := (x.source, x.title, x.per)
def cmpI2 (a b : Int) : Int := if a < b then -1 else if b < a then 1 else 0
def cmpS (x y : Sal) : Int := orI [cmpI2 x.recd y.recd, cmpI2 x.per y.per]
def cmpU (x y : Unk) : Int := orI [strCmp x.source y.source, strCmp x.title y.title, cmpI2 x.per y.per]
/-! ## Aliases -/
instance : Inhabited Ali := ⟨⟨⟨#[]⟩, ⟨#[]⟩, 0⟩⟩
def Ali.key (x : Ali) : ByteArray × ByteArray := (x.source, x.title)
def ltA : ByteArray × ByteArray → ByteArray × ByteArray → Bool := lexL ltB ltB
/-- What a source means by a title. -/
def meantA (a : List Ali) (s t : ByteArray) : Int := ((a.find? fun x => decide (x.source = s) && decide (x.title = t)).map (·.recd)).getD 0
structure Als (a : List Ali) : Prop where
  len : a.length ≤ 500
  rng : ∀ x ∈ a, 1 ≤ x.recd ∧ x.recd ≤ 1000000
  rise : a.Pairwise fun x y => ltA x.key y.key = true
/-! ### The search -/
def ltQA (l : List Ali) (t : Ali) (k : Nat) : Bool := decide (k < l.length) && decide (aliCmp (l.getD k default) t < 0)
def posA (l : List Ali) (t : Ali) : Nat := bsr (ltQA l t) 0 l.length
def hasA (l : List Ali) (t : Ali) : Bool := decide (posA l t < l.length) && decide (aliCmp (l.getD (posA l t) default) t = 0)
/-! ## Sums -/
abbrev SU := List (KS × UM) × List (KU × UM)
def stU (a : List Ali) (x : Rpt) (s : SU) (u : Usd) : SU :=
  if meantA a x.source u.title ≠ 0 then (accG addU s.1 ((meantA a x.source u.title, x.period), (u.units, u.money)), s.2) else (s.1, accG addU s.2 ((x.source, u.title, x.period), (u.units, u.money)))
def stX (a : List Ali) (s : SU) (x : Rpt) : SU := x.lines.foldl (stU a x) s
def stA (a : List Ali) (l : List Rpt) : SU := l.foldl (stX a) ([], [])
def stB (a : List Ali) (x : Rpt) (s : SU) (j : Nat) : SU := (x.lines.take j).foldl (stU a x) s
/-- What is known, what is not: entry by entry. -/
def knE (a : List Ali) (x : Rpt) (u : Usd) : List (KS × UM) := if meantA a x.source u.title ≠ 0 then [((meantA a x.source u.title, x.period), (u.units, u.money))] else []
def opE (a : List Ali) (x : Rpt) (u : Usd) : List (KU × UM) := if meantA a x.source u.title ≠ 0 then [] else [((x.source, u.title, x.period), (u.units, u.money))]
def knA (a : List Ali) (l : List Rpt) : List (KS × UM) := l.flatMap fun x => x.lines.flatMap (knE a x)
def opA (a : List Ali) (l : List Rpt) : List (KU × UM) := l.flatMap fun x => x.lines.flatMap (opE a x)
/-- What was sold, what is not known. -/
def salesR (a : List Ali) (l : List Rpt) : List Sal := (foldO ltS addU (knA a l)).map toS
def unkR (a : List Ali) (l : List Rpt) : List Unk := (foldO ltU addU (opA a l)).map toU
/-! ### Bounds -/
structure InvS (n : Int) (s : SU) : Prop where
  n1 : NkG s.1
  n2 : NkG s.2
  b1 : ∀ p ∈ s.1, (0 ≤ p.2.1 ∧ p.2.1 ≤ 1000000000 * n) ∧ 0 ≤ p.2.2 ∧ p.2.2 ≤ 1000000000 * n
  b2 : ∀ p ∈ s.2, (0 ≤ p.2.1 ∧ p.2.1 ≤ 1000000000 * n) ∧ 0 ≤ p.2.2 ∧ p.2.2 ≤ 1000000000 * n
  k1 : ∀ p ∈ s.1, (0 ≤ p.1.1 ∧ p.1.1 ≤ 1000000) ∧ 0 ≤ p.1.2 ∧ p.1.2 ≤ 2400
  k2 : ∀ p ∈ s.2, p.1.1.size ≤ maxLen ∧ p.1.2.1.size ≤ maxLen ∧ 0 ≤ p.1.2.2 ∧ p.1.2.2 ≤ 2400
  l1 : (s.1.length : Int) ≤ n
  l2 : (s.2.length : Int) ≤ n
theorem plus_bound {κ : Type} [DecidableEq κ] {L : List (κ × UM)} {n : Int} (hL : ∀ p ∈ L, (0 ≤ p.2.1 ∧ p.2.1 ≤ 1000000000 * n) ∧ 0 ≤ p.2.2 ∧ p.2.2 ≤ 1000000000 * n) (hn : 0 ≤ n) (k : κ) {u : UM} (hu : (0 ≤ u.1 ∧ u.1 ≤ 1000000000) ∧ 0 ≤ u.2 ∧ u.2 ≤ 1000000000) :
    (0 ≤ (plusG addU (findG L k) u).1 ∧ (plusG addU (findG L k) u).1 ≤ 1000000000 * (n + 1)) ∧ 0 ≤ (plusG addU (findG L k) u).2 ∧ (plusG addU (findG L k) u).2 ≤ 1000000000 * (n + 1) := by
  cases hf : findG L k with
  | none => simp only [plusG]; omega
  | some v =>
    unfold findG at hf
    cases hq : L.find? fun p => decide (p.1 = k) with
    | none => rw [hq] at hf; cases hf
    | some p =>
      rw [hq] at hf
      have := hL p (List.mem_of_find?_eq_some hq)
      have hv : p.2 = v := Option.some.inj hf
      subst hv
      simp only [plusG, addU]
      omega
theorem acc_inv {κ : Type} [DecidableEq κ] {L : List (κ × UM)} {n : Int} {K : κ → Prop} (hn : 0 ≤ n) (hk : NkG L) (hb : ∀ p ∈ L, (0 ≤ p.2.1 ∧ p.2.1 ≤ 1000000000 * n) ∧ 0 ≤ p.2.2 ∧ p.2.2 ≤ 1000000000 * n) (hK : ∀ p ∈ L, K p.1) (hl : (L.length : Int) ≤ n)
    (e : κ × UM) (he : (0 ≤ e.2.1 ∧ e.2.1 ≤ 1000000000) ∧ 0 ≤ e.2.2 ∧ e.2.2 ≤ 1000000000) (hke : K e.1) :
    NkG (accG addU L e) ∧ (∀ p ∈ accG addU L e, (0 ≤ p.2.1 ∧ p.2.1 ≤ 1000000000 * (n + 1)) ∧ 0 ≤ p.2.2 ∧ p.2.2 ≤ 1000000000 * (n + 1)) ∧ (∀ p ∈ accG addU L e, K p.1) ∧ ((accG addU L e).length : Int) ≤ n + 1 := by
  unfold accG
  refine ⟨putG_nk hk _ _, fun p hp => ?_, fun p hp => ?_, ?_⟩
  · rcases putG_mem hp with rfl | hp
    · exact plus_bound hb hn e.1 he
    · have := hb p hp; omega
  · rcases putG_mem hp with rfl | hp
    · exact hke
    · exact hK p hp
  · have := putG_len L e.1 (plusG addU (findG L e.1) e.2)
    omega
/-! ### What a range hands out, sorted -/
def pickG {κ τ : Type} [Inhabited κ] (f : κ × UM → τ) (K : List (κ × UM)) (done : List Nat) : List τ := done.map fun i => f (K.getD i default)
theorem pickG_snoc {κ τ : Type} [Inhabited κ] (f : κ × UM → τ) (K : List (κ × UM)) (done : List Nat) {i : Nat} (hi : i < K.length) : pickG f K (done ++ [i]) = pickG f K done ++ [f K[i]] := by
  unfold pickG
  rw [List.map_append, List.map_cons, List.map_nil, List.getD_eq_getElem?_getD, List.getElem?_eq_getElem hi]; rfl
theorem pickG_perm {κ τ : Type} [Inhabited κ] (f : κ × UM → τ) (K : List (κ × UM)) {done : List Nat} (hn : done.Nodup) (hl : ∀ i ∈ done, i < K.length) (ha : ∀ i, i < K.length → i ∈ done) : (pickG f K done).Perm (K.map f) := by
  have hp : done.Perm (List.range K.length) := (List.perm_ext_iff_of_nodup hn List.nodup_range).2 fun i => ⟨fun h => List.mem_range.2 (hl i h), fun h => ha i (List.mem_range.1 h)⟩
  have h1 := hp.map fun i => f (K.getD i default)
  have h2 : (List.range K.length).map (fun i => f (K.getD i default)) = K.map f := by
    apply List.ext_getElem
    · simp
    · intro i a1 a2
      have : i < K.length := by simpa using a2
      simp [List.getD_eq_getElem?_getD, List.getElem?_eq_getElem this]
  rw [h2] at h1
  exact h1
theorem sort_pick {κ τ : Type} [DecidableEq κ] [Inhabited κ] {lt : κ → κ → Bool} (T : Tot lt) {f : κ × UM → τ} {key : τ → κ} {cf : τ → τ → Int} (hkey : ∀ p, key (f p) = p.1) (hcf : ∀ x y, ltOf cf x y = lt (key x) (key y)) (E : List (κ × UM)) {done : List Nat} (hn : done.Nodup) (hl : ∀ i ∈ done, i < (foldP addU E).length) (ha : ∀ i, i < (foldP addU E).length → i ∈ done) :
    sortF cf (pickG f (foldP addU E) done) = (foldO lt addU E).map f ∧ DistF cf (pickG f (foldP addU E) done) := by
  have hO : SWO (ltOf cf) := by
    have : ltOf cf = fun x y => lt (key x) (key y) := by funext x y; exact hcf x y
    rw [this]; exact T.swo _
  have hp := pickG_perm f (foldP addU E) hn hl ha
  have hpm : ∀ p, p ∈ foldP addU E ↔ p ∈ foldO lt addU E := fold_mem T E
  have hri : RiseF cf ((foldO lt addU E).map f) := by
    unfold RiseF
    rw [List.pairwise_map]
    exact (foldO_ri (add := addU) T E).imp fun {p q} h => by rw [hcf, hkey, hkey]; exact h
  have hd : DistF cf (pickG f (foldP addU E) done) := by
    refine distF_symm hp.symm ?_
    unfold DistF
    rw [List.pairwise_map]
    refine (foldP_nk (add := addU) T E).imp fun {p q} h => ?_
    rw [hcf, hcf, hkey, hkey]
    cases h1 : lt p.1 q.1 with
    | true => exact .inl rfl
    | false =>
      cases h2 : lt q.1 p.1 with
      | true => exact .inr rfl
      | false => exact absurd (T.tot h1 h2) h
  refine ⟨riseF_uniq hO (sortF_rise hO hd) hri fun x => ?_, hd⟩
  rw [(sortF_perm _).mem_iff, hp.mem_iff, List.mem_map, List.mem_map]
  constructor
  · rintro ⟨p, h1, h2⟩; exact ⟨p, (hpm p).1 h1, h2⟩
  · rintro ⟨p, h1, h2⟩; exact ⟨p, (hpm p).2 h1, h2⟩
/-! ### Maps, by their entries -/
section
variable {κ β : Type} [DecidableEq κ] (kv : κ → Value) (dv : κ × β → D)
def encG (L : List (κ × β)) : List (Value × D) := L.map fun p => (kv p.1, dv p)
variable {kv dv}
theorem nkG_one {L : List (κ × β)} (h : NkG L) {i j : Nat} (hi : i < L.length) (hj : j < L.length) (he : L[j].1 = L[i].1) : j = i := by
  rcases Nat.lt_trichotomy i j with h1 | h1 | h1
  · exact absurd he.symm (List.pairwise_iff_getElem.1 h i j hi hj h1)
  · exact h1.symm
  · exact absurd he (List.pairwise_iff_getElem.1 h j i hj hi h1)
theorem encG_at {L : List (κ × β)} {j : Nat} {p : Value × D} (h : (encG kv dv L)[j]? = some p) : ∃ hj : j < L.length, p = (kv L[j].1, dv L[j]) := by
  unfold encG at h
  rw [List.getElem?_map] at h
  cases h2 : L[j]? with
  | none => rw [h2] at h; cases h
  | some q =>
    rw [h2] at h
    obtain ⟨hj, rfl⟩ := List.getElem?_eq_some_iff.1 h2
    exact ⟨hj, (Option.some.inj h).symm⟩
theorem encG_one (hinj : ∀ {a b}, kv a = kv b → a = b) {L : List (κ × β)} (h : NkG L) {i : Nat} (hi : i < L.length) : ∀ (j : Nat) (p : Value × D), (encG kv dv L)[j]? = some p → p.1 = kv L[i].1 → j = i := fun j p hp he => by
  obtain ⟨hj, rfl⟩ := encG_at hp
  exact nkG_one h hi hj (hinj he)
theorem encG_no (hinj : ∀ {a b}, kv a = kv b → a = b) {L : List (κ × β)} {k : κ} (h : ¬ hasG L k = true) : ∀ p ∈ encG kv dv L, p.1 ≠ kv k := fun p hp e => by
  unfold encG at hp
  obtain ⟨q, hq, rfl⟩ := List.mem_map.1 hp
  exact h (hasG_iff.2 ⟨q, hq, hinj e⟩)
theorem mputG (hinj : ∀ {a b}, kv a = kv b → a = b) {L : List (κ × β)} (h : NkG L) (k : κ) (v : β) : MPut (encG kv dv L) (kv k) (dv (k, v)) (encG kv dv (putG L k v)) := by
  by_cases hh : hasG L k = true
  · obtain ⟨p, hp, rfl⟩ := hasG_iff.1 hh
    obtain ⟨i, hi, rfl⟩ := List.mem_iff_getElem.1 hp
    refine .inl ⟨i, dv L[i], ?_, encG_one hinj h hi, ?_⟩
    · unfold encG; rw [List.getElem?_map, List.getElem?_eq_getElem hi]; rfl
    · unfold putG
      rw [if_pos hh]
      apply List.ext_getElem
      · simp [encG]
      · intro j h1 h2
        have hj : j < L.length := by simpa [encG] using h1
        rw [List.getElem_set]
        simp only [encG, List.getElem_map]
        by_cases he : i = j
        · subst he; simp
        · have : ¬ L[j].1 = L[i].1 := fun e => he (nkG_one h hi hj e).symm
          rw [if_neg he, if_neg this]
  · refine .inr ⟨encG_no hinj hh, ?_⟩
    unfold putG
    rw [if_neg hh]
    simp [encG]
theorem mgetG (hinj : ∀ {a b}, kv a = kv b → a = b) {L : List (κ × β)} (h : NkG L) (k : κ) (zd d : D) (hd : d = match findG L k with | some v => dv (k, v) | none => zd) : MGet (encG kv dv L) (kv k) zd d := by
  subst hd
  by_cases hh : hasG L k = true
  · obtain ⟨p, hp, rfl⟩ := hasG_iff.1 hh
    obtain ⟨i, hi, rfl⟩ := List.mem_iff_getElem.1 hp
    refine .inl ⟨i, ?_, encG_one hinj h hi⟩
    rw [(findG_mem h L[i]).1 hp]
    unfold encG; rw [List.getElem?_map, List.getElem?_eq_getElem hi]; rfl
  · refine .inr ⟨encG_no hinj hh, ?_⟩
    rw [findG_none.2 (by simpa using hh)]
end


end Go.Proofs.YtekenfknoakboaaDoor


namespace Go.Proofs.YtekenfknoakboaaDoor
open Go.RowKit
set_option linter.unusedVariables false

/-! Types. -/
namespace TyM10
end TyM10
open TyM10


def cellsR (y : Rpt) : List S := [.d (.v (.string y.source)), .d (.v (.int .i64 y.no)), .d (.v (.int .i64 y.period)), .d (.v (.int .i64 y.corrects)), .d (.sl (y.lines.map Usd.ds))]
end Go.Proofs.YtekenfknoakboaaDoor


namespace Go.Proofs.YtekenfknoakboaaDoor
open Go.RowKit
set_option linter.unusedVariables false

/-! Types. -/
namespace TyO2
end TyO2
open TyO2


open Go.Sort Go.Lib
def keyBi (P : Program) (k : TypeId) : Bool := match P.underlying k with
  | some (.struct fs) => (match fs.toList with
    | [f, g] => f.name != "_" && g.name != "_" && f.offset == 0 && g.offset == 1 && isI64T (P.underlying f.type) && isI64T (P.underlying g.type) && P.cellsOf f.type == 1 && P.cellsOf g.type == 1
    | _ => false) && P.cellsOf k == 2
  | _ => false
def keyBs (P : Program) (k : TypeId) : Bool := match P.underlying k with
  | some (.struct fs) => (match fs.toList with
    | [f, h, g] => ((f.name != "_" && f.offset == 0 && isStrT (P.underlying f.type) && P.cellsOf f.type == 1) && (h.name != "_" && h.offset == 1 && isStrT (P.underlying h.type) && P.cellsOf h.type == 1)) && (g.name != "_" && g.offset == 2 && isI64T (P.underlying g.type) && P.cellsOf g.type == 1)
    | _ => false) && P.cellsOf k == 3
  | _ => false
def keyS (k : KS) : Value := .agg #[.int .i64 k.1, .int .i64 k.2]
def keyU (k : KU) : Value := .agg #[.string k.1, .string k.2.1, .int .i64 k.2.2]
def encS (L : List (KS × UM)) : List (Value × D) := L.map fun p => (keyS p.1, .agg (toS p).ds)
def encU (L : List (KU × UM)) : List (Value × D) := L.map fun p => (keyU p.1, .agg (toU p).ds)
/-- What a look-up gives. -/
def getS (L : List (KS × UM)) (k : KS) : Sal := match findG L k with
  | some v => toS (k, v)
  | none => default
def getU (L : List (KU × UM)) (k : KU) : Unk := match findG L k with
  | some v => toU (k, v)
  | none => default
end Go.Proofs.YtekenfknoakboaaDoor


namespace Go.Proofs.YtekenfknoakboaaDoor
open Go.RowKit Go.Shelf Go.Lib
set_option linter.unusedVariables false
set_option linter.unusedSimpArgs false

/-- What the builder's first cell holds: nothing has been written, or its own address. -/
def bP (l : List UInt8) (id : Nat) : S := match l with
  | [] => .d (.v (.pointer none))
  | _ :: _ => .ptr id 0
/-- A builder that holds l: its two cells, its bytes. -/
def Bld (id r : Nat) (l : List UInt8) : Obs := [(id, .cellsT 78 [bP l id, .own r]), (r, .row 5 1 (l.map u8D))]
theorem cellB_turn (g o : Nat) (v : Value) (w : World) : Turn w (w.setCell ⟨g, o, none⟩ v) (some g) := by
  refine ⟨rfl, rfl, rfl, by simp [World.setCell], fun k _ hk => ?_⟩
  have : g ≠ k := fun h => hk (by rw [h])
  simp [World.setCell, Array.getElem?_modify, this]
theorem flat_bytes {xs : Nat → Nat → Value} {l : List UInt8} (h : ∀ i (h : i < l.length), xs i 0 = .int .u8 (l[i].toNat : Int)) : flat xs l.length 1 = byteCells l := by
  apply List.ext_getElem?
  intro p
  by_cases hp : p < l.length
  · have := flatten_get xs 1 l.length p 0 hp (by omega)
    rw [Nat.mul_one, Nat.add_zero] at this
    unfold flat
    rw [this, h p hp, byteCells, List.getElem?_map, List.getElem?_eq_getElem hp]; rfl
  · rw [List.getElem?_eq_none (by rw [flat_length]; omega), List.getElem?_eq_none (by rw [byteCells_length]; omega)]
/-- What the objects say of the world. -/
structure BldW (B : Nat) (F : Nat → Prop) (ρ : Nat → Value) (w : World) (id r : Nat) (l : List UInt8) (g : Nat) : Prop where
  ptr : ρ id = .pointer (some ⟨g, 0, none⟩)
  hB : B ≤ g
  nF : ¬ F g
  heap : w.heap[g]? = some (.cells #[if l = [] then .pointer none else .pointer (some ⟨g, 0, none⟩), ρ r] 78 (0, 0))
  own : w.ownsRow B 5 1 (ρ r) l.length (byteCells l)
  ne : blk (ρ r) ≠ some g
  nFr : ∀ b, blk (ρ r) = some b → ¬ F b
theorem bldW_of {B : Nat} {F : Nat → Prop} {ρ : Nat → Value} {w : World} {id r : Nat} {l : List UInt8} (hne : id ≠ r) (h : ObsOk B F ρ w (Bld id r l)) : ∃ g, BldW B F ρ w id r l g := by
  obtain ⟨g, cs, hρ, hBg, hF, hh, hcl, hcs⟩ := h.ok (id, _) (.head _)
  obtain ⟨xs, hown, hlen, hrep, hnF⟩ := h.ok (r, _) (.tail _ (.head _))
  dsimp only at hρ hown hnF
  obtain ⟨p, v, rfl⟩ : ∃ p v, cs = [p, v] := by
    match cs, hcl with
    | [p, v], _ => exact ⟨p, v, rfl⟩
  have h0 := (hcs 0 (by simp) (by simp)).2
  have h1 := (hcs 1 (by simp) (by simp)).2
  simp only [List.getElem_cons_zero, List.getElem_cons_succ] at h0 h1
  have hv : v = ρ r := by cases h1; rfl
  have hp : p = if l = [] then .pointer none else .pointer (some ⟨g, 0, none⟩) := by
    cases l with
    | nil => exact repS_v h0
    | cons x t => exact ptr_at h0 (by rw [hρ]; rfl)
  subst hv
  have hll : (l.map u8D).length = l.length := List.length_map ..
  rw [hll] at hown
  have hfl : flat xs l.length 1 = byteCells l := flat_bytes fun i hi => by
    have := (hrep i (by rw [hll]; exact hi) 0 (by simp [u8D])).2
    simp only [List.getElem_map, u8D, List.getElem_cons_zero] at this
    exact rep_v this
  refine ⟨g, hρ, hBg, hF, by rw [hh, hp], by rw [← hfl]; exact hown, fun he => ?_, hnF⟩
  exact h.apart (id, _) (.head _) (r, _) (.tail _ (.head _)) hne g (by dsimp only; rw [hρ]; rfl) he
theorem BldW.obs {B : Nat} {F : Nat → Prop} {ρ : Nat → Value} {w : World} {id r : Nat} {l : List UInt8} {g : Nat} (hne : id ≠ r) (h : BldW B F ρ w id r l g) : ObsOk B F ρ w (Bld id r l) := by
  have hll : (l.map u8D).length = l.length := List.length_map ..
  refine ⟨fun p hp => ?_, fun p hp q hq hpq b hb hb2 => ?_, fun p hp q hq hpq => ?_⟩
  · rcases List.mem_cons.1 hp with rfl | hp
    · refine ⟨g, [_, _], h.ptr, h.hB, h.nF, h.heap, rfl, fun j hj hj' => ?_⟩
      match j, hj with
      | 0, _ =>
        refine ⟨?_, ?_⟩
        · cases l <;> rfl
        · cases l with
          | nil => exact .d (.v _)
          | cons x t => exact .ptr id 0 g (by rw [h.ptr]; rfl)
      | 1, _ => exact ⟨by
          rcases h.own.2 with ⟨h2, _⟩ | ⟨_, _, _, h2, _⟩ <;> (show (ρ r).oneCell' = true; rw [h2]; rfl), .own r⟩
    · obtain rfl := List.mem_singleton.1 hp
      refine ⟨fun i _ => .int .u8 ((l.getD i 0).toNat : Int), ?_, fun i hi => by simp [u8D], fun i hi j hj => ?_, h.nFr⟩
      · rw [hll]
        have : flat (fun i _ => Value.int .u8 ((l.getD i 0).toNat : Int)) l.length 1 = byteCells l := flat_bytes fun i hi => by rw [List.getD_eq_getElem?_getD, List.getElem?_eq_getElem hi]; rfl
        show w.ownsRow B _ 1 (ρ r) l.length (flat _ l.length 1)
        rw [this]
        exact h.own
      · have hi' : i < l.length := by rw [← hll]; exact hi
        have hj0 : j = 0 := by
          have : j < 1 := by simpa [u8D] using hj
          omega
        subst hj0
        refine ⟨rfl, ?_⟩
        simp only [List.getElem_map, u8D, List.getElem_cons_zero]
        rw [List.getD_eq_getElem?_getD, List.getElem?_eq_getElem hi']
        exact .v _
  · rcases List.mem_cons.1 hp with rfl | hp <;> rcases List.mem_cons.1 hq with rfl | hq
    · exact hpq rfl
    · obtain rfl := List.mem_singleton.1 hq
      dsimp only at hb hb2
      rw [h.ptr] at hb
      have : b = g := by simp [blk] at hb; omega
      exact h.ne (this ▸ hb2)
    · obtain rfl := List.mem_singleton.1 hp
      dsimp only at hb hb2
      rw [h.ptr] at hb2
      have : b = g := by simp [blk] at hb2; omega
      exact h.ne (this ▸ hb)
    · obtain rfl := List.mem_singleton.1 hp
      obtain rfl := List.mem_singleton.1 hq
      exact hpq rfl
  · rcases List.mem_cons.1 hp with rfl | hp <;> rcases List.mem_cons.1 hq with rfl | hq
    · rfl
    · obtain rfl := List.mem_singleton.1 hq
      exact absurd hpq hne
    · obtain rfl := List.mem_singleton.1 hp
      exact absurd hpq.symm hne
    · obtain rfl := List.mem_singleton.1 hp
      obtain rfl := List.mem_singleton.1 hq
      rfl
/-! ## The library's code, in whatever world -/
theorem bldSz : (Tryd.prog.info? 78).map (·.size) = some 2 := by kernel_rfl
theorem ptrB : Tryd.prog.underlying 75 = some (.pointer 78) := by kernel_rfl
theorem unsP : Tryd.prog.underlying 141 = some .unsafePointer := by kernel_rfl
theorem sliB : Tryd.prog.underlying 76 = some (.slice 5) := by kernel_rfl
theorem strB : Tryd.prog.underlying 9 = some .string := by kernel_rfl
theorem infB : (Tryd.prog.info? 5).map (fun i => (i.zero, i.size, i.bytes)) = some (some (.int .u8 0), 1, 1) := by kernel_rfl
set_option maxHeartbeats 1000000 in
set_option maxRecDepth 100000 in
theorem copyUsed (b : Nat) (w : World) (h0 : w.cell? ⟨b, 0, none⟩ = some (.pointer (some ⟨b, 0, none⟩))) :
    Calls Tryd.prog 54 #[.pointer (some ⟨b, 0, none⟩)] w fun e w' => e = .returned (.tuple #[]) ∧ w' = w := by
  obtain ⟨j, hj, _⟩ := Option.map_eq_some_iff.1 bldSz
  go_enter Tryd.func54, Tryd.ntmps54
  go_wp2
  rw [Lib.run_neq_ptr_same w _ ptrB hj]
  go_wp2
  go_end0
  exact ⟨rfl, rfl⟩
set_option maxHeartbeats 1000000 in
set_option maxRecDepth 100000 in
theorem copyFresh (b : Nat) (w : World) (h0 : w.cell? ⟨b, 0, none⟩ = some (.pointer none)) (hsh : w.shape? b = some (78, 2)) (hfz : w.frozen? ⟨b, 0, none⟩ = false) :
    Calls Tryd.prog 54 #[.pointer (some ⟨b, 0, none⟩)] w fun e w' => e = .returned (.tuple #[]) ∧ w' = w.setCell ⟨b, 0, none⟩ (.pointer (some ⟨b, 0, none⟩)) := by
  obtain ⟨j, hj, hjs⟩ := Option.map_eq_some_iff.1 bldSz
  go_enter Tryd.func54, Tryd.ntmps54
  go_wp2
  rw [Lib.run_to_unsafe w ⟨b, 0, none⟩ ptrB unsP hj (by rw [hjs]; decide) hsh (Nat.zero_lt_succ 1)]
  simp only [Result.andThen]
  rw [Oper.upon_value]
  go_wp2
  rw [run_callFunc_extern Tryd.func80 (by kernel_rfl) (by kernel_rfl) (by kernel_rfl) (e := Extern.AbiNoEscape.same) (by kernel_rfl)]
  rw [Lib.run_noEscape]
  simp only [Result.andThen]
  rw [Oper.upon_value]
  go_wp2
  rw [Lib.run_from_unsafe w ⟨b, 0, none⟩ unsP ptrB hj hsh (by kernel_rfl)]
  simp only [Result.andThen]
  rw [Oper.upon_value]
  go_wp2
  go_end0
  exact ⟨rfl, rfl⟩
/-- append(b, s...) at what the call owns: the buffer stays, or is new. -/
theorem append_str_run {P : Program} (w : World) (base : Nat) (t u ty e : TypeId) (i : TypeInfo) (ht : P.underlying t = some (.slice e)) (hu : P.underlying u = some .string) (hi : P.info? e = some i) (hz : i.zero = some (.int .u8 0)) (hsize : i.size = 1) (hby : i.bytes = 1)
    (v : Value) (n : Nat) (xs : List Value) (hown : w.ownsRow base e 1 v n xs) (s : ByteArray) (hbytes : n + s.size ≤ 140737488355328) (hbase : base ≤ w.heap.size) :
    ∃ v' w', (Builtin.append_ #[t, u] ty #[v, .string s]).run P w = .ok v' w' ∧ w'.ownsRow base e 1 v' (n + s.size) (xs ++ strCells s) ∧ w.grownBy w' v.ownBlock ∧ (v'.ownBlock = v.ownBlock ∨ ∃ g, v'.ownBlock = some g ∧ w.heap.size ≤ g) := by
  have h63 : n + s.size ≤ maxLen := by unfold maxLen; omega
  obtain ⟨v', w', hr, h2, h3, h4⟩ := run_append_own_string (P := P) w base t u ty e i ht hu hi hz hsize hby v n xs hown s h63 hbytes hbase
  refine ⟨v', w', hr, h2, h3, ?_⟩
  have hxl : xs.length = n := by simpa using hown.1
  rcases hown.2 with ⟨rfl, rfl⟩ | ⟨g, cap, cur, rfl, hbg, hg, hnc, hcm, hcs, htake⟩
  · by_cases hm : s.size = 0
    · exact .inl (by rw [h4.2 ⟨rfl, hm⟩])
    · have hown2 : w.ownsRow w.heap.size e 1 (.slice none 0 0) 0 xs := ⟨hown.1, .inl ⟨rfl, rfl⟩⟩
      obtain ⟨v2, w2, hr2, h5, _, h6⟩ := run_append_own_string (P := P) w w.heap.size t u ty e i ht hu hi hz hsize hby _ 0 xs hown2 s h63 hbytes (Nat.le_refl _)
      rw [hr] at hr2
      injection hr2 with e1 e2
      subst e1
      rcases h5.2 with ⟨h7, _⟩ | ⟨g, cap, cur, h7, h8, _⟩
      · exact absurd (h4.1 h7).2 hm
      · exact .inr ⟨g, by rw [h7]; rfl, h8⟩
  · by_cases hroom : n + s.size ≤ cap
    · have hr2 := run_append_room_string (P := P) w t u ty e i ht hu hi hsize g n cap cur hg s hroom (by omega)
      rw [hr] at hr2
      injection hr2 with e1 e2
      exact .inl (by rw [e1]; rfl)
    · have holds : ∀ j u, xs[j]? = some u → w.cell? ((⟨g, 0, none⟩ : Addr).add j) = some u := hown.cells (g := g) rfl
      have hr2 := run_append_grow_string (P := P) w t u ty e i (.int .u8 0) ht hu hi hz ⟨g, 0, none⟩ n cap xs (by rw [hsize]; simpa using hxl) holds s (by omega) (by omega) (by rw [hby]; exact growslice_fits (by omega) (by omega))
      rw [hr] at hr2
      injection hr2 with e1 e2
      exact .inr ⟨w.heap.size, by rw [e1]; rfl, Nat.le_refl _⟩
theorem wpList_append_str {P : Program} (w : World) {ops : Array Oper} {rest : List Oper} {o : Oper} {a : Act} {Q : Exit → Act → World → Prop} (hgd : o.guard = none) (sl x : Operand) (t u : TypeId)
    (ho : o.op = .call { callee := .builtin .append, args := #[sl, x], argTypes := #[t, u] })
    (base : Nat) (e : TypeId) (i : TypeInfo) (ht : P.underlying t = some (.slice e)) (hu : P.underlying u = some .string) (hi : P.info? e = some i) (hz : i.zero = some (.int .u8 0)) (hsize : i.size = 1) (hby : i.bytes = 1)
    (v : Value) (n : Nat) (xs : List Value) (hs : a.eval sl = v) (hown : w.ownsRow base e 1 v n xs) (s : ByteArray) (hx : a.eval x = .string s) (hbytes : n + s.size ≤ 140737488355328) (hbase : base ≤ w.heap.size)
    (h : ∀ v' w', w'.ownsRow base e 1 v' (n + s.size) (xs ++ strCells s) → w.grownBy w' v.ownBlock → (v'.ownBlock = v.ownBlock ∨ ∃ g, v'.ownBlock = some g ∧ w.heap.size ≤ g) → wpList P ops Q rest (a.put o.dst v') w') : wpList P ops Q (o :: rest) a w := by
  refine wpList_plain hgd fun K hK => ?_
  obtain ⟨v', w', hr, h2, h3, h4⟩ := append_str_run (P := P) w base t u o.type e i ht hu hi hz hsize hby v n xs hown s hbytes hbase
  unfold Oper.wp execOp
  simp only [ho, resolve, invoke, builtin, Sem.run_bind, Sem.run_pure, Result.andThen_ok, List.map_toArray, List.map_cons, List.map_nil, hs, hx, hr]
  exact hK _ _ (h v' w' h2 h3 h4)
theorem own_blk {w : World} {B e size n : Nat} {v : Value} {xs : List Value} (h : w.ownsRow B e size v n xs) : v.ownBlock = blk v := by
  rcases h.2 with ⟨rfl, _⟩ | ⟨g, cap, cur, rfl, _⟩ <;> rfl
set_option maxHeartbeats 2000000 in
set_option maxRecDepth 100000 in
/-- WriteString at a builder that holds so many bytes: its own blocks alone turn. -/
theorem writeStr (B b : Nat) (v : Value) (n : Nat) (bs : List Value) (p : Value) (s : ByteArray) (w : World) (hp : p = .pointer none ∨ p = .pointer (some ⟨b, 0, none⟩)) (hbk : w.heap[b]? = some (.cells #[p, v] 78 (0, 0))) (hown : w.ownsRow B 5 1 v n bs) (hne : blk v ≠ some b) (hlen : n + s.size ≤ 140737488355328) (hBw : B ≤ w.heap.size) :
    Calls Tryd.prog 31 #[.pointer (some ⟨b, 0, none⟩), .string s] w fun e w' => e = .returned (.tuple #[.int .i64 s.size, .nilIface]) ∧ ∃ v', w'.heap[b]? = some (.cells #[.pointer (some ⟨b, 0, none⟩), v'] 78 (0, 0)) ∧ w'.ownsRow B 5 1 v' (n + s.size) (bs ++ strCells s) ∧
      (blk v' = blk v ∨ ∃ g, blk v' = some g ∧ w.heap.size ≤ g) ∧ w'.os = w.os ∧ w'.tape = w.tape ∧ w'.output = w.output ∧ w.heap.size ≤ w'.heap.size ∧ ∀ k, k < w.heap.size → k ≠ b → blk v ≠ some k → w'.heap[k]? = w.heap[k]? := by
  obtain ⟨i0, hi, hii⟩ := Option.map_eq_some_iff.1 infB
  simp only [Prod.mk.injEq] at hii
  obtain ⟨hz0, hz1, hz2⟩ := hii
  have hlt : b < w.heap.size := (Array.getElem?_eq_some_iff.1 hbk).1
  have hcc : Calls Tryd.prog 54 #[.pointer (some ⟨b, 0, none⟩)] w fun e w' => e = .returned (.tuple #[]) ∧ w'.heap[b]? = some (.cells #[.pointer (some ⟨b, 0, none⟩), v] 78 (0, 0)) ∧ Turn w w' (some b) := by
    rcases hp with rfl | rfl
    · refine (copyFresh b w (by rw [cell_of_row w b 0 _ _ _ hbk]; rfl) (by unfold World.shape?; rw [hbk]; rfl) (by unfold World.frozen?; rw [hbk]; simp)).mono ?_
      rintro e w' ⟨rfl, rfl⟩
      refine ⟨rfl, ?_, cellB_turn b 0 _ w⟩
      simp [World.setCell, Array.getElem?_modify, hbk]
    · refine (copyUsed b w (by rw [cell_of_row w b 0 _ _ _ hbk]; rfl)).mono ?_
      rintro e w' ⟨rfl, rfl⟩
      exact ⟨rfl, hbk, rfl, rfl, rfl, Nat.le_refl _, fun _ _ _ => rfl⟩
  go_enter Tryd.func31, Tryd.ntmps31
  go_wp2_with (go_at_call 54; refine hcc.mono ?_)
  rintro e w1 ⟨rfl, hb1, ht1⟩
  have hown1 : w1.ownsRow B 5 1 v n bs := ownsRow_turn hown ht1 (fun g hg he => hne (by rw [hg, ← Option.some.inj he]))
  have c0 : w1.cell? ⟨b, 0, none⟩ = some (.pointer (some ⟨b, 0, none⟩)) := by rw [cell_of_row w1 b 0 _ _ _ hb1]; rfl
  have c1 : w1.cell? ⟨b, 1, none⟩ = some v := by rw [cell_of_row w1 b 1 _ _ _ hb1]; rfl
  go_wp2_with (at_builtin; refine wpList_append_str _ rfl _ _ 76 9 rfl B 5 i0 sliB strB hi hz0 hz1 hz2 _ _ _ rfl hown1 s rfl ?c4 ?c5 ?_)
  case c4 => omega
  case c5 => exact Nat.le_trans hBw ht1.size
  intro v' w2 hown' hgrow hnew
  rw [own_blk hown1] at hgrow hnew
  rw [own_blk hown'] at hnew
  have hb2 : w2.heap[b]? = some (.cells #[.pointer (some ⟨b, 0, none⟩), v] 78 (0, 0)) := by
    rw [hgrow.block b (Nat.lt_of_lt_of_le hlt ht1.size) (fun e => hne e.symm)]
    exact hb1
  have d0 : w2.cell? ⟨b, 0, none⟩ = some (.pointer (some ⟨b, 0, none⟩)) := by rw [cell_of_row w2 b 0 _ _ _ hb2]; rfl
  have d1 : w2.cell? ⟨b, 1, none⟩ = some v := by rw [cell_of_row w2 b 1 _ _ _ hb2]; rfl
  have f1 : w2.frozen? ⟨b, 1, none⟩ = false := by unfold World.frozen?; rw [hb2]; simp
  obtain ⟨ao, n', cap, rfl⟩ : ∃ ao n' cap, v' = .slice ao n' cap := by
    rcases hown'.2 with ⟨hv, _⟩ | ⟨g, cap, cur, hv, _⟩
    · exact ⟨_, _, _, hv⟩
    · exact ⟨_, _, _, hv⟩
  have hnb : blk (.slice ao n' cap) ≠ some b := by
    rcases hnew with h | ⟨g, h, h2⟩
    · rw [h]; exact hne
    · rw [h]
      intro he
      have := Option.some.inj he
      have := ht1.size
      omega
  go_wp2
  go_ret2
  have ht2 := cellB_turn b 1 (.slice ao n' cap) w2
  refine ⟨rfl, .slice ao n' cap, ?_, ?_, ?_, ?_⟩
  · simp [World.setCell, Array.getElem?_modify, hb2]
  · exact ownsRow_turn hown' ht2 (fun g hg he => hnb (by rw [hg, ← Option.some.inj he]))
  · rcases hnew with h | ⟨g, h, h2⟩
    · exact .inl h
    · exact .inr ⟨g, h, Nat.le_trans ht1.size h2⟩
  · refine ⟨ht2.os.trans (hgrow.os.trans ht1.os), ht2.tape.trans (hgrow.tape.trans ht1.tape), ht2.output.trans (hgrow.output.trans ht1.output), Nat.le_trans ht1.size (Nat.le_trans hgrow.size ht2.size), fun k hk hkb hkv => ?_⟩
    have hk1 := Nat.lt_of_lt_of_le hk ht1.size
    rw [ht2.block k (Nat.lt_of_lt_of_le hk1 hgrow.size) (fun e => hkb (by have := Option.some.inj e; omega)), hgrow.block k hk1 (fun e => hkv e.symm), ht1.block k hk (fun e => hkb (by have := Option.some.inj e; omega))]
end Go.Proofs.YtekenfknoakboaaDoor


namespace Go.Proofs
open Go.Shelf
def Tryd.l169_ren : Go.Shelf.Ren := ⟨fun | 169 => 33 | n => n, fun | 70 => 75 | 9 => 9 | 0 => 0 | 72 => 78 | 37 => 76 | 127 => 118 | 3 => 3 | 5 => 5 | n => n, fun | n => n⟩
def Tryd.l171_ren : Go.Shelf.Ren := ⟨fun | 171 => 32 | 243 => 55 | 246 => 81 | 283 => 111 | 284 => 112 | 285 => 113 | 286 => 114 | 129 => 77 | 317 => 127 | 318 => 128 | 319 => 129 | 320 => 130 | 337 => 139 | 338 => 140 | n => n, fun | 3 => 3 | 9 => 9 | 2 => 2 | 4 => 4 | 171 => 168 | 0 => 0 | 53 => 140 | 37 => 76 | 5 => 5 | 173 => 170 | 212 => 182 | 51 => 138 | 20 => 20 | 213 => 183 | 46 => 116 | 232 => 192 | 233 => 193 | n => n, fun | 17 => 1 | 18 => 4 | 19 => 5 | n => n⟩
theorem Tryd.l171 : Go.Proofs.LaysM.n171 Tryd.prog Tryd.l171_ren := {
  mixed := by kernel_rfl
  f129 := Tryd.func77.trans (congrArg some (by kernel_rfl))
  f171 := Tryd.func32.trans (congrArg some (by kernel_rfl))
  f243 := Tryd.func55.trans (congrArg some (by kernel_rfl))
  f246 := Tryd.func81.trans (congrArg some (by kernel_rfl))
  f283 := Tryd.func111.trans (congrArg some (by kernel_rfl))
  f284 := Tryd.func112.trans (congrArg some (by kernel_rfl))
  f285 := Tryd.func113.trans (congrArg some (by kernel_rfl))
  f286 := Tryd.func114.trans (congrArg some (by kernel_rfl))
  f317 := Tryd.func127.trans (congrArg some (by kernel_rfl))
  f318 := Tryd.func128.trans (congrArg some (by kernel_rfl))
  f319 := Tryd.func129.trans (congrArg some (by kernel_rfl))
  f320 := Tryd.func130.trans (congrArg some (by kernel_rfl))
  f337 := Tryd.func139.trans (congrArg some (by kernel_rfl))
  f338 := Tryd.func140.trans (congrArg some (by kernel_rfl))
  t0 := Tryd.underlying0
  a0 := Tryd.isAgg0
  z0 := Tryd.sizeOf0
  v0 := Tryd.zeroValue0
  t2 := Tryd.underlying2
  a2 := Tryd.isAgg2
  z2 := Tryd.sizeOf2
  v2 := Tryd.zeroValue2
  t3 := Tryd.underlying3
  a3 := Tryd.isAgg3
  z3 := Tryd.sizeOf3
  v3 := Tryd.zeroValue3
  t4 := Tryd.underlying4
  a4 := Tryd.isAgg4
  z4 := Tryd.sizeOf4
  v4 := Tryd.zeroValue4
  t5 := Tryd.underlying5
  a5 := Tryd.isAgg5
  z5 := Tryd.sizeOf5
  v5 := Tryd.zeroValue5
  t9 := Tryd.underlying9
  a9 := Tryd.isAgg9
  z9 := Tryd.sizeOf9
  v9 := Tryd.zeroValue9
  t20 := Tryd.underlying20
  a20 := Tryd.isAgg20
  z20 := Tryd.sizeOf20
  v20 := Tryd.zeroValue20
  t37 := Tryd.underlying76
  a37 := Tryd.isAgg76
  z37 := Tryd.sizeOf76
  v37 := Tryd.zeroValue76
  t46 := Tryd.underlying116
  a46 := Tryd.isAgg116
  z46 := Tryd.sizeOf116
  v46 := Tryd.zeroValue116
  t51 := Tryd.underlying138
  a51 := Tryd.isAgg138
  z51 := Tryd.sizeOf138
  v51 := Tryd.zeroValue138
  t53 := Tryd.underlying140
  a53 := Tryd.isAgg140
  z53 := Tryd.sizeOf140
  v53 := Tryd.zeroValue140
  t171 := Tryd.underlying168
  a171 := Tryd.isAgg168
  z171 := Tryd.sizeOf168
  v171 := Tryd.zeroValue168
  t173 := Tryd.underlying170
  a173 := Tryd.isAgg170
  z173 := Tryd.sizeOf170
  v173 := Tryd.zeroValue170
  t212 := Tryd.underlying182
  a212 := Tryd.isAgg182
  z212 := Tryd.sizeOf182
  v212 := Tryd.zeroValue182
  t213 := Tryd.underlying183
  a213 := Tryd.isAgg183
  z213 := Tryd.sizeOf183
  t232 := Tryd.underlying192
  a232 := Tryd.isAgg192
  z232 := Tryd.sizeOf192
  v232 := Tryd.zeroValue192
  t233 := Tryd.underlying193
  a233 := Tryd.isAgg193
  z233 := Tryd.sizeOf193
  v233 := Tryd.zeroValue193
  g17 := by kernel_rfl
  g18 := by kernel_rfl
  g19 := by kernel_rfl
  i0 := by kernel_rfl
  i2 := by kernel_rfl
  i3 := by kernel_rfl
  i4 := by kernel_rfl
  i5 := by kernel_rfl
  i9 := by kernel_rfl
  i20 := by kernel_rfl
  i37 := by kernel_rfl
  i46 := by kernel_rfl
  i51 := by kernel_rfl
  i53 := by kernel_rfl
  i171 := by kernel_rfl
  i173 := by kernel_rfl
  i212 := by kernel_rfl
  i232 := by kernel_rfl
  i233 := by kernel_rfl
  m17 := by kernel_rfl
  m18 := by kernel_rfl
  m19 := by kernel_rfl }
end Go.Proofs


namespace Go.Proofs.YtekenfknoakboaaDoor
open Go.RowKit Go.Shelf Go.Lib
set_option linter.unusedVariables false
set_option linter.unusedSimpArgs false

theorem repSL_two {F : Nat → Prop} {ρ : Nat → Value} {w : World} {vs : List Value} {id : Nat} {x : Value} {g : Nat} (hρ : ρ id = .pointer (some ⟨g, 0, none⟩)) (h : RepSL F ρ w vs [.ptr id 0, .d (.v x)]) : vs = [.pointer (some ⟨g, 0, none⟩), x] := by
  obtain ⟨a, b, rfl⟩ : ∃ a b, vs = [a, b] := by
    match vs, h.1 with
    | [a, b], _ => exact ⟨a, b, rfl⟩
  have h0 := h.2 0 (by simp) (by simp)
  have h1 := h.2 1 (by simp) (by simp)
  simp only [List.getElem_cons_zero, List.getElem_cons_succ] at h0 h1
  rw [ptr_at h0 (by rw [hρ]; rfl), repS_v h1]
theorem repSL_ptr {F : Nat → Prop} {ρ : Nat → Value} {w : World} {vs : List Value} {id : Nat} {g : Nat} (hρ : ρ id = .pointer (some ⟨g, 0, none⟩)) (h : RepSL F ρ w vs [.ptr id 0]) : vs = [.pointer (some ⟨g, 0, none⟩)] := by
  obtain ⟨a, rfl⟩ : ∃ a, vs = [a] := by
    match vs, h.1 with
    | [a], _ => exact ⟨a, rfl⟩
  have h0 := h.2 0 (by simp) (by simp)
  simp only [List.getElem_cons_zero] at h0
  rw [ptr_at h0 (by rw [hρ]; rfl)]
theorem BldW.ownId {B : Nat} {F : Nat → Prop} {ρ : Nat → Value} {w : World} {id r : Nat} {l : List UInt8} {g : Nat} (h : BldW B F ρ w id r l g) : ownB (Bld id r l) ρ g := ⟨_, .head _, by dsimp only; rw [h.ptr]; rfl⟩
theorem Bld.ownR {ρ : Nat → Value} {id r : Nat} {l : List UInt8} {k : Nat} (h : blk (ρ r) = some k) : ownB (Bld id r l) ρ k := ⟨_, .tail _ (.head _), h⟩
/-- b.WriteString(s) -/
theorem c_ws (id r : Nat) (hne : id ≠ r) (l : List UInt8) (s : ByteArray) (h0 : 0 < s.size) (hlen : l.length + s.size ≤ 140737488355328) :
    XCall Tryd.prog 31 [.ptr id 0, .d (.v (.string s))] (Bld id r l) (Bld id r (l ++ s.data.toList)) (fun i => Nat.beq i r) (.tup [.v (.int .i64 (s.size : Int)), .v .nilIface]) := by
  refine ⟨.of Tryd.func31 (by kernel_rfl) rfl, fun F ρ B w vs hF hB hσ hv => ?_⟩
  obtain ⟨g, hb⟩ := bldW_of hne hσ
  obtain rfl := repSL_two hb.ptr hv
  have hgl : g < w.heap.size := (Array.getElem?_eq_some_iff.1 hb.heap).1
  have h := writeStr B g (ρ r) l.length (byteCells l) _ s w (by split; exact .inl rfl; exact .inr rfl) hb.heap hb.own hb.ne hlen hB
  refine h.mono fun e' w' ⟨he, v', h1, h2, h3, h4, h5, h6, h7, h8⟩ => ?_
  have hsl : (l ++ s.data.toList).length = l.length + s.size := by rw [List.length_append]; rfl
  have hnl : ¬ l ++ s.data.toList = [] := fun e => by rw [e] at hsl; simp at hsl; omega
  obtain ⟨ρ', hρ⟩ : ∃ ρ' : Nat → Value, ρ' = fun j => if j = r then v' else ρ j := ⟨_, rfl⟩
  have hrr : ρ' r = v' := by rw [hρ]; exact if_pos rfl
  have hri : ρ' id = ρ id := by rw [hρ]; exact if_neg hne
  have hW : BldW B F ρ' w' id r (l ++ s.data.toList) g := by
    refine ⟨by rw [hri]; exact hb.ptr, hb.hB, hb.nF, by rw [hrr, if_neg hnl]; exact h1, ?_, ?_, fun b hbb => ?_⟩
    · rw [hrr, hsl, byteCells_append, ← strCells_eq]; exact h2
    · rw [hrr]
      rcases h3 with h3 | ⟨k, h3, h9⟩
      · rw [h3]; exact hb.ne
      rw [h3]
      intro e
      have := Option.some.inj e
      omega
    rw [hrr] at hbb
    rcases h3 with h3 | ⟨k, h3, h9⟩
    · rw [h3] at hbb; exact hb.nFr b hbb
    rw [h3] at hbb
    have := Option.some.inj hbb
    intro hf
    have := hF b hf
    omega
  refine ⟨_, F, ρ', he, .tup [_, _] [_, _] rfl (fun i a b => by
    match i, a with
    | 0, _ => exact .v _
    | 1, _ => exact .v _), fun _ h => h, fun _ h => .inl h, fun b hf => Nat.lt_of_lt_of_le (hF b hf) h7, ⟨h4, h5, h6, h7, fun k hk hn => h8 k hk (fun e => hn (.inr (e ▸ hb.ownId))) (fun e => hn (.inr (Bld.ownR e)))⟩, hW.obs hne, fun p hp b hbb => ?_, fun i hi => ?_⟩
  · rcases List.mem_cons.1 hp with rfl | hp
    · dsimp only at hbb
      rw [hri, hb.ptr] at hbb
      simp [blk] at hbb
      subst hbb
      exact .inr hb.ownId
    obtain rfl := List.mem_singleton.1 hp
    dsimp only at hbb
    rw [hrr] at hbb
    rcases h3 with h3 | ⟨k, h3, h9⟩
    · rw [h3] at hbb; exact .inr (Bld.ownR hbb)
    rw [h3] at hbb
    have := Option.some.inj hbb
    exact .inl (by omega)
  rw [hρ]; exact if_neg fun e => by rw [e] at hi; simp at hi
set_option maxHeartbeats 1000000 in
set_option maxRecDepth 100000 in
/-- String at a builder that holds something: its bytes are frozen. -/
theorem strOf (B b g cap : Nat) (p : Value) (l : List UInt8) (w : World) (h0 : l ≠ []) (hbk : w.heap[b]? = some (.cells #[p, .slice (some ⟨g, 0, none⟩) l.length cap] 78 (0, 0))) (cur : Array Value) (hg : w.heap[g]? = some (.cells cur 5 (0, 0))) (hnc : l.length ≤ cap) (hcm : cap ≤ maxLen) (hcs : cur.size = cap * 1)
    (hown : w.ownsRow B 5 1 (.slice (some ⟨g, 0, none⟩) l.length cap) l.length (byteCells l)) :
    Calls Tryd.prog 33 #[.pointer (some ⟨b, 0, none⟩)] w fun e w' => e = .returned (.string ⟨l.toArray⟩) ∧ w' = w.drew.freeze ⟨g, 0, none⟩ l.length := by
  have hl0 : l.length ≠ 0 := by simpa using h0
  have hmix : Tryd.prog.follows .mixedOrders = true := by kernel_rfl
  have c1 : w.drew.cell? ⟨b, 1, none⟩ = some (.slice (some ⟨g, 0, none⟩) l.length cap) := by
    rw [cell_of_row w.drew b 1 _ _ _ hbk]; rfl
  have hSD : (Builtin.unsafeSliceData_ #[76] 118 #[.slice (some ⟨g, 0, none⟩) l.length cap]).run Tryd.prog w.drew = .ok (.pointer (some ⟨g, 0, none⟩)) w.drew :=
    Lib.run_unsafeSliceData_row _ _ _ _ _ _ (by omega)
  have hUS : (Builtin.unsafeString_ #[118, 3] 9 #[.pointer (some ⟨g, 0, none⟩), .int .i64 l.length]).run Tryd.prog w.drew = .ok (.string ⟨l.toArray⟩) (w.drew.freeze ⟨g, 0, none⟩ l.length) := by
    refine Lib.run_unsafeString_row w.drew 118 3 9 5 (by kernel_rfl) (by kernel_rfl) g cur.size (by have hg' : w.drew.heap[g]? = some (.cells cur 5 (0, 0)) := hg; simp [World.shape?, hg']) l h0 (by omega) (by unfold maxLen at hcm; omega) ?_
    intro j x hx
    exact hown.cells (g := g) rfl j (.int .u8 x.toNat) (by simp [Lib.byteCells, hx])
  go_enter Tryd.func33, Tryd.ntmps33
  go_wp2
  go_region_o
  all_goals (go_wp2; go_ret; exact ⟨rfl, rfl⟩)
theorem freeze_turn (w : World) (g n : Nat) : Turn w (w.drew.freeze ⟨g, 0, none⟩ n) (some g) := by
  have hd : w.drew.heap = w.heap := rfl
  refine ⟨?_, ?_, ?_, ?_, fun k _ hk => ?_⟩
  · unfold World.freeze; split <;> rfl
  · unfold World.freeze; split <;> rfl
  · unfold World.freeze; split <;> rfl
  · unfold World.freeze; split
    · exact Nat.le_refl _
    · simp [hd]
  · have : g ≠ k := fun h => hk (by rw [h])
    unfold World.freeze; split
    · rfl
    · simp [Array.getElem?_modify, this, hd]
/-- b.String(), and the builder is used no more. -/
theorem c_bstr (id r : Nat) (hne : id ≠ r) (l : List UInt8) (h0 : l ≠ []) : XCall Tryd.prog 33 [.ptr id 0] (Bld id r l) [] (fun _ => false) (.v (.string ⟨l.toArray⟩)) := by
  refine ⟨.of Tryd.func33 (by kernel_rfl) rfl, fun F ρ B w vs hF hB hσ hv => ?_⟩
  obtain ⟨g, hb⟩ := bldW_of hne hσ
  obtain rfl := repSL_ptr hb.ptr hv
  have hbo := hb.own
  have hbh := hb.heap
  rcases hb.own.2 with ⟨_, h2⟩ | ⟨k, cap, cur, h2, h3, h4, h5, h6, h7, _⟩
  · exact absurd (List.eq_nil_of_length_eq_zero h2) h0
  rw [h2] at hbo hbh
  refine (strOf B g k cap _ l w h0 hbh cur h4 h5 h6 h7 hbo).mono fun e' w' ⟨he, hw⟩ => ?_
  have ht : Turn w w' (some k) := hw ▸ freeze_turn w k l.length
  exact ⟨_, F, ρ, he, .v _, fun _ h => h, fun _ h => .inl h, fun b hf => Nat.lt_of_lt_of_le (hF b hf) ht.size, ⟨ht.os, ht.tape, ht.output, ht.size, fun j hj hn => ht.block j hj (fun e => hn (.inr (Bld.ownR (by rw [h2]; have := Option.some.inj e; subst this; rfl))))⟩, ⟨fun p hp => (nomatch hp), fun p hp => (nomatch hp), fun p hp => (nomatch hp)⟩, fun p hp => (nomatch hp), fun _ _ => rfl⟩
section
variable {cx : Cx} {ops : Array Oper} {o : Oper} {rest : List Oper} {e : Env} {σ : Obs} {Q : Post}
/-- var b strings.Builder -/
theorem AOps.allocB {dst : Nat} (id r : Nat) (hne : id ≠ r) (hP : cx.P = Tryd.prog) (hg : o.guard = none) (ht : o.dst = some dst) (hdn : Nat.blt dst cx.N = true) (ho : o.op = .alloc 78) (hid : Obs.fresh id σ = true) (hidr : Obs.fresh r σ = true)
    (k : AOps cx ops rest (((e.kill r).kill id).put (some dst) (.ptr id 0)) ((id, .cellsT 78 [bP [] id, .own r]) :: (r, .row 5 1 (([] : List UInt8).map u8D)) :: Obs.kill id (Obs.kill r σ)) Q) (hfx : cx.free id = true := by rfl) (hfr : cx.free r = true := by rfl) : AOps cx ops (o :: rest) e σ Q := by
  intro a w ⟨F, ρ, hr⟩
  -- the empty row
  have h1 := hr.turn (ρ' := fun j => if j = r then .slice none 0 0 else ρ j) (id := r) (ob := .row 5 1 []) (row := none) (w' := w) (F' := F) (fun j hj => by simp [hj])
    ⟨rfl, rfl, rfl, Nat.le_refl _, fun _ _ _ => rfl⟩ hfr (fun g hg => by simp at hg) (fun b hb => hb) (fun b hb => .inl hb) hr.lt
    ⟨fun _ _ => undef, by simp [World.ownsRow], fun i hi => by simp at hi, fun i hi => by simp at hi, fun g hg => by simp [blk] at hg⟩ (fun g hg => by simp [blk] at hg) ((r, .row 5 1 []) :: Obs.kill r σ) (fun p hp => by
      cases hp with
      | head => exact .inl rfl
      | tail _ hp => obtain ⟨q, hq, rfl⟩ := Obs.mem_kill hp; exact .inr ⟨q, hq, Obs.fresh_spec hidr q hq, rfl⟩)
  have hE : Ext F w F (w.alloc (.cells #[.pointer none, .slice none 0 0] 78)) := Ext.of_below hr.lt ((Below.refl _ _).alloc (Nat.le_refl _) _)
  have h2 := h1.turn (ρ' := fun j => if j = id then .pointer (some ⟨w.heap.size, 0, none⟩) else (fun j => if j = r then Value.slice none 0 0 else ρ j) j) (id := id) (ob := .cellsT 78 [bP [] id, .own r]) (row := none) (w' := w.alloc (.cells #[.pointer none, .slice none 0 0] 78)) (F' := F) (fun j hj => by simp [hj])
    ⟨hE.below.os, hE.below.tape, hE.below.output, hE.below.size, fun k hk _ => hE.below.block k hk⟩ hfx (fun g hg => by simp at hg) (fun b hb => hb) (fun b hb => .inl hb) hE.lt
    ⟨w.heap.size, [.pointer none, .slice none 0 0], by simp, hr.hB, fun hf => by have := hr.lt _ hf; omega, by simpa using heap_alloc_new w _, rfl, fun j hj hj' => by
      match j, hj with
      | 0, _ => exact ⟨rfl, .d (.v _)⟩
      | 1, _ =>
        refine ⟨rfl, ?_⟩
        have := RepS.own (F := F) (ρ := fun j => if j = id then Value.pointer (some ⟨w.heap.size, 0, none⟩) else (fun j => if j = r then Value.slice none 0 0 else ρ j) j) (w := w.alloc (.cells #[.pointer none, .slice none 0 0] 78)) r
        simpa [Ne.symm hne] using this⟩
    (fun g hg => by simp [blk] at hg; exact .inr (by omega)) ((id, .cellsT 78 [bP [] id, .own r]) :: (r, .row 5 1 (([] : List UInt8).map u8D)) :: Obs.kill id (Obs.kill r σ)) (fun p hp => by
      cases hp with
      | head => exact .inl rfl
      | tail _ hp =>
        cases hp with
        | head => exact .inr ⟨(r, .row 5 1 []), .head _, Ne.symm hne, rfl⟩
        | tail _ hp =>
          obtain ⟨q, hq, rfl⟩ := Obs.mem_kill hp
          obtain ⟨q2, hq2, rfl⟩ := Obs.mem_kill hq
          exact .inr ⟨(q2.1, q2.2.kill r), .tail _ hq, Obs.fresh_spec hid q2 hq2, rfl⟩)
  have h3 := h2.put (o := ⟨some dst, .ready 0, 0, "", #[], none⟩) (v := .pointer (some ⟨w.heap.size, 0, none⟩)) (s := .ptr id 0) (Ext.refl h2.lt) (.ptr id 0 w.heap.size (by simp [blk])) (by simpa [DstOk, Nat.blt_eq] using hdn)
  refine wpList_plain hg fun K hK => ?_
  have hz : (Tryd.prog.info? 78).bind (·.zero) = some (.agg #[.pointer none, .slice none 0 0]) := by kernel_rfl
  obtain ⟨i, hi, hzz⟩ := Option.bind_eq_some_iff.1 hz
  have hprog : (program : Sem Program).run cx.P w = .ok cx.P w := rfl
  rw [← hP] at hi
  unfold Oper.wp execOp
  simp only [ho, Instr.alloc, Sem.run_bind, zeroValue, typeInfo, hprog, Result.andThen_ok, hi, Sem.run_pure, hzz, newVar, newRow]
  have := k _ _ ⟨F, _, h3⟩
  rw [← ht] at this
  exact hK _ _ this
end
/-! ## strconv.Itoa -/
def itoaB (n : Int) : ByteArray := ⟨(Lib.itoa n).toArray⟩
def TabI (w : World) : Prop := Lib.TabIs Tryd.prog w "internal/strconv.uint64pow10" .u64 Lib.pow10Tab
theorem c_itoa (n : Int) (h0 : -9223372036854775808 ≤ n) (h1 : n ≤ 9223372036854775807) : ACallT Tryd.prog TabI 32 [.v (.int .i64 n)] (.v (.string (itoaB n))) :=
  ⟨.of Tryd.func32 (by kernel_rfl) rfl, fun F w vs hT hF hv => by
    rw [repL_v (us := [.int .i64 n]) hv]
    have h := Any.strconv_Itoa Tryd.l171 n h0 h1 w hT
    change Calls Tryd.prog 32 #[.int .i64 n] w _ at h
    refine h.mono fun e w' ⟨h1, k, os, h2⟩ => ?_
    subst h2
    exact ⟨_, F, h1, .v _, Ext.of_below hF ⟨rfl, rfl, rfl, by show w.heap.size ≤ (w.heap ++ os).size; rw [Array.size_append]; omega, fun i hi => by show (w.heap ++ os)[i]? = _; rw [Array.getElem?_append_left hi]⟩⟩⟩
/-! ## A fact about one block, inside calls that write what the caller owns -/
/-- What is so stays so while the block is what it was. -/
def StaysAt (g : Nat) (T : World → Prop) : Prop := (∀ w, T w → g < w.heap.size) ∧ ∀ w w', w'.heap[g]? = w.heap[g]? → T w → T w'
theorem StaysAt.stays {g : Nat} {T : World → Prop} (h : StaysAt g T) : Stays T := fun w w' k hT => h.2 w w' (k.block g (h.1 w hT) (by have := h.1 w hT; omega)) hT
abbrev gTabI : Nat := 1
theorem itoaB_size {n : Int} (h0 : -9223372036854775808 ≤ n) (h1 : n ≤ 9223372036854775807) : (itoaB n).size ≤ 21 := by
  have := Lib.itoa_length_le n h0 h1
  show (Lib.itoa n).toArray.size ≤ 21
  simpa using this
theorem tabI_at : StaysAt gTabI TabI := by
  have hg : Tryd.prog.globalNamed "internal/strconv.uint64pow10" = some 1 := by kernel_rfl
  refine ⟨fun w h => ?_, fun w w' k h => ?_⟩
  · unfold TabI Lib.TabIs World.var? at h
    rw [hg] at h
    rcases Nat.lt_or_ge 1 w.heap.size with hl | hl
    · exact hl
    · simp only [Option.bind_some] at h
      rw [Array.getElem?_eq_none hl] at h; cases h
  · unfold TabI Lib.TabIs World.var? at h ⊢
    rw [hg] at h ⊢
    simp only [Option.bind_some] at h ⊢
    rw [k]; exact h
/-- T is so where cx begins, and its block is none that cx may write. -/
structure TC (g : Nat) (T : World → Prop) (cx : Cx) : Prop where
  at_ : StaysAt g T
  so : T cx.w0
  fr : ¬ cx.fr g
theorem TC.now {g : Nat} {T : World → Prop} {cx : Cx} (h : TC g T cx) {w : World} (k : Kept cx.fr cx.w0 w) : T w := h.at_.2 _ _ (k.block g (h.at_.1 _ h.so) h.fr) h.so
theorem TC.of {g : Nat} {T : World → Prop} {P : Program} {n B : Nat} {w0 : World} {F0 : Nat → Prop} {fx : Nat → Bool} {ρ0 : Nat → Value} (h : StaysAt g T) (hT : T w0) : TC g T ⟨P, n, B, w0, F0, fun b => w0.heap.size ≤ b, fx, ρ0⟩ := ⟨h, hT, fun k => by have := h.1 _ hT; omega⟩
theorem AOps.callTC {cx : Cx} {ops : Array Oper} {o : Oper} {rest : List Oper} {e : Env} {σ : Obs} {Q : Post} {g : Nat} {T : World → Prop} {f : FuncId} {xs : List Operand} {ts : Array TypeId} {ds : List D} {d : D} (hg : GW ops o e true) (hd : DstOk cx.N o)
    (ho : o.op = .call { callee := .value (.func f), args := xs.toArray, argTypes := ts }) (hT : TC g T cx) (ha : ArgsOk e xs ds) (h : ACallT cx.P T f ds d)
    (k : AOps cx ops rest (e.put o.dst (.d d)) σ Q) : AOps cx ops (o :: rest) e σ Q := by
  intro a w ⟨F, ρ, hr⟩
  have hw := hg.wanted (fun t _ => hr.env t)
  have h1 : RepL F w (xs.map a.eval) ds := ha.rep (ρ := ρ) fun t _ => hr.env t
  have h2 := h.2 F w _ (hT.now hr.below) hr.lt h1
  have h3 := h.1 (xs.map a.eval).toArray w
  have hx : (execOp a.eval o).run cx.P w = .ok (.enter f (xs.map a.eval).toArray) w := by
    unfold execOp
    simp only [ho, resolve, Deferred.ofValue, Act.eval, invoke, Sem.run_bind, Sem.run_pure, Result.andThen_ok]
    simpa using h3
  unfold wpList
  rw [if_pos hw]
  refine .inl ?_
  unfold Oper.wp
  rw [hx]
  refine h2.mono fun _ w' ⟨v, F', he, hv, hE⟩ => ?_
  subst he
  exact k _ _ ⟨F', ρ, hr.put hE (.d hv) hd⟩
/-- A region that draws its order, whose operations from k on wait for all before them: in the order of the text. -/
theorem AWP.drawTailK {cx : Cx} {id : Nat} {l : List Oper} {e : Env} {σ : Obs} {Q : Post} (k : Nat) (hm : cx.P.follows .mixedOrders = true) (hB : Region.lexB .any (l.take k).toArray = true) (hC : Region.chainB l.toArray k = true)
    (h : KRun cx (l.take k).toArray σ (l.take k) e (fun e => AOps cx l.toArray (l.drop k) e σ Q)) : AWP cx (.region id l.toArray true) e σ Q := by
  intro a w ⟨F, ρ, hr⟩
  simp only [Region.lexB, Bool.and_eq_true] at hB
  have hch := Chain.of hC
  have hkl : k ≤ l.length := by simpa using hch.le
  have h1 := anyK_lex (l.take k) 0 (Array.replicate (l.take k).toArray.size false) e (by simp) (by simpa using hB.2) h
  have h2 := wpAny_of_K (cx := cx) (ops := (l.take k).toArray) (Q := fun ex e σ => match ex with | .normal => AOps cx l.toArray (l.drop k) e σ Q | _ => False) (by simpa using KRun.dsts _ e h) _ _ e a _ ⟨F, ρ, hr.drew⟩ h1
  refine wp_region_any hm (wpAny_split hch (ops0 := (l.take k).toArray) (by simp; omega) (fun j hj => by simp [hj]) ?_ ?_ (l.take k).length _ _ _ _ _ (by simp; omega) (by simp) ?_ ?_ ?_ (by simp; omega) h2)
  · rintro a w ⟨e, σ, h3, h4⟩
    have := h3 a w h4
    simpa using this
  · rintro ex a w hne ⟨e, σ, h3, _⟩
    cases ex <;> first | exact absurd rfl hne | exact h3.elim
  · intro j hj d
    have h5 : j < l.length := by omega
    have h6 : j < min k l.length := by omega
    simp [Array.getD_eq_getD_getElem?, h5, h6]
  · intro j hj hj2
    have : j < l.length := by simpa using hj2
    simp [Array.getD_eq_getD_getElem?, this]
  · intro i o ho hi
    have : i < l.length := by simpa using (Array.getElem?_eq_some_iff.1 ho).1
    simp [Array.getD_eq_getD_getElem?, this] at hi
/-- Such a call, where T is so and its block is none of the caller's. -/
def XCallT (P : Program) (g : Nat) (T : World → Prop) (f : FuncId) (ss : List S) (σ σ' : Obs) (chg : Nat → Bool) (d : D) : Prop := Enters P f ∧
  ∀ (F : Nat → Prop) (ρ : Nat → Value) (B : Nat) (w : World) (vs : List Value), T w → ¬ ownB σ ρ g → (∀ b, F b → b < w.heap.size) → B ≤ w.heap.size → ObsOk B F ρ w σ → RepSL F ρ w vs ss →
    Calls P f vs.toArray w fun e w' => ∃ v F' ρ', e = .returned v ∧ Rep F' w' v d ∧ XEnd B F ρ w σ F' ρ' w' σ' chg
theorem xcallT_of {g : Nat} {T : World → Prop} {P : Program} {f : FuncId} {fn : Func} {c : Code} {n : Nat} {ss : List S} {σ σ' : Obs} {chg : Nat → Bool} {ds' : List D} (hf : P.funcs[f]? = some fn) (hb : fn.body = some c) (hn : (fn.name == "runtime.NumGoroutine") = false) (hN : fn.ntmps = n)
    (ts : List Nat) (hr : fn.results = (ts.map ResultVar.tmp).toArray) (hle' : Nat.ble ss.length n = true)
    (hs : StaysAt g T) (h : ∀ B w0 F0 fr ρ0, TC g T ⟨P, n, B, w0, F0, fr, fun i => !(chg i), ρ0⟩ → AWP ⟨P, n, B, w0, F0, fr, fun i => !(chg i), ρ0⟩ c (Env.argsS 0 ss) σ (RetX ts ds' σ')) : XCallT P g T f ss σ σ' chg (retOf ds') := by
  have hle : ss.length ≤ n := Nat.le_of_ble_eq_true hle'
  refine ⟨Enters.of hf hn (by rw [hb]; rfl), fun F ρ B w vs hT hgo hF hB hσ hv => ?_⟩
  refine calls_of_wp hf hb ?_
  have hR : R ⟨P, n, B, w, F, (fun b => w.heap.size ≤ b ∨ ownB σ ρ b), fun i => !(chg i), ρ⟩ (Env.argsS 0 ss) σ { tmps := vs.toArray ++ Array.replicate (fn.ntmps - vs.toArray.size) undef, defers := [] } w := by
    refine ⟨F, ρ, ?_, rfl, hF, fun b hb => hb, fun b hb => .inl hb, Kept.refl _ _, hB, fun t => ?_, hσ, fun b hb => .inl hb, fun p hp g hg => .inr ⟨p, hp, hg⟩, fun i _ => rfl⟩
    · simp [hN, hv.1]; omega
    · by_cases ht : t < ss.length
      · have := Env.argsS_get ss 0 t ht
        rw [Nat.zero_add] at this
        rw [this]
        have hvt : t < vs.length := by rw [hv.1]; exact ht
        have : (vs.toArray ++ Array.replicate (fn.ntmps - vs.toArray.size) undef).getD t undef = vs[t] := by
          rw [Array.getD_eq_getD_getElem?, Array.getElem?_append_left (by simpa using hvt)]
          simp [hvt]
        rw [this]
        exact hv.2 t hvt ht
      · have := Env.argsS_out ss 0 t (by omega)
        rw [Nat.zero_add] at this
        rw [this]
        exact .d (.any _)
  refine wp_mono (h _ _ _ _ _ ⟨hs, hT, fun k => k.elim (fun k => by have := hs.1 _ hT; omega) hgo⟩ _ _ hR) ?_
  rintro ex a w' ⟨e', σe, hq, F', ρ', hr'⟩
  have hres : (results fn a.tmps).run P w' = .ok (match ts.map fun t => a.tmps.getD t undef with | [x] => x | l => .tuple l.toArray) w' := by
    have key : ∀ (ts : List Nat), (List.mapM (fun r => match r with | .tmp t => pure (a.tmps.getD t undef) | .cell b t => do loadVar t (← asAddr (a.tmps.getD b undef))) (ts.map ResultVar.tmp) : Sem (List Value)).run P w' = .ok (ts.map fun t => a.tmps.getD t undef) w' := by
      intro ts
      induction ts with
      | nil => rfl
      | cons t ts ih =>
        rw [List.map_cons, List.mapM_cons, Sem.run_bind]
        simp only [Sem.run_pure, Result.andThen_ok, Sem.run_bind, ih, List.map_cons]
    unfold results
    rw [hr, Sem.run_bind]
    have h2 : (Array.mapM (fun r => match r with | ResultVar.tmp t => pure (a.tmps.getD t undef) | ResultVar.cell b t => do loadVar t (← asAddr (a.tmps.getD b undef))) (ts.map ResultVar.tmp).toArray : Sem (Array Value)).run P w' = .ok (ts.map fun t => a.tmps.getD t undef).toArray w' := by
      rw [List.mapM_toArray, Sem.run_map, key]
      rfl
    have h3 := h2
    refine (congrArg (fun r => Result.andThen r _) h3).trans ?_
    simp only [Result.andThen_ok]
    rcases ts with _ | ⟨t, _ | ⟨t2, ts⟩⟩ <;> rfl
  have hends : RetLX e' σe σ' ts ds' ∧ AllIn σe σ' → bodyPost P fn (fun e w' => ∃ v F' ρ', e = .returned v ∧ Rep F' w' v (retOf ds') ∧ XEnd B F ρ w σ F' ρ' w' σ' chg) .ret a w' := by
    rintro ⟨hq, hin⟩
    have hl := hq.rep hr'
    have hin := hin.mem
    refine ⟨hr'.defers, _, hres, _, endFX F' ρ' σe σ', ρ', rfl, ?_, ?_⟩
    · generalize (ts.map fun t => a.tmps.getD t undef) = vs' at hl
      obtain ⟨h1, h2⟩ := hl
      rcases ds' with _ | ⟨d, _ | ⟨d2, ds'⟩⟩
      · have : vs' = [] := List.eq_nil_of_length_eq_zero h1
        subst this
        exact .tup [] [] rfl (fun i h1 => absurd h1 (by simp))
      · rcases vs' with _ | ⟨x, _ | ⟨y, vs'⟩⟩ <;> simp at h1
        exact h2 0 (by simp) (by simp)
      · rcases vs' with _ | ⟨x, _ | ⟨y, vs'⟩⟩
        · simp at h1
        · simp at h1
        · exact .tup _ _ h1 h2
    · have hlt : ∀ b, endFX F' ρ' σe σ' b → b < w'.heap.size := by
        rintro b (hb | ⟨p, hp, _, hb⟩)
        · exact hr'.lt b hb
        · exact ((hr'.obs.ok p hp).blk_lt hb).2
      refine ⟨fun b hb => .inl (hr'.base b hb), ?_, hlt, hr'.below, ⟨fun p hp => ?_, fun p hp q hq => hr'.obs.apart p (hin p hp) q (hin q hq), fun p hp q hq => hr'.obs.uniq p (hin p hp) q (hin q hq)⟩, fun p hp => hr'.kown p (hin p hp), fun i hi => hr'.fixed i (by show (!(chg i)) = true; rw [hi]; rfl)⟩
      · rintro b (hb | ⟨p, hp, _, hb⟩)
        · exact hr'.new b hb
        · exact .inr (hr'.kown p hp b hb)
      · refine (hr'.obs.ok p (hin p hp)).more hr'.lt (fun b hb => .inl hb) ?_
        rintro g hg (hf | ⟨q, hq, hne, hb⟩)
        · exact (hr'.obs.ok p (hin p hp)).nF hg hf
        · exact hr'.obs.apart p (hin p hp) q hq (hne p hp) g hg hb
  cases ex with
  | ret => exact hends hq
  | normal => exact hends hq
  | exit id => exact hq.elim
  | goto l => exact hq.elim
  | panic c => exact hq.elim
  | outgrown => exact hq.elim

section
variable {cx : Cx} {ops : Array Oper} {o : Oper} {rest : List Oper} {e : Env} {σ : Obs} {Q : Post}
/-- A call of such a closure. -/
theorem AOps.callXCT {g : Nat} {T : World → Prop} {f : FuncId} {x : Operand} {caps : List Cap} {xs : List Operand} {ts : Array TypeId} {ss : List S} {σc σ' : Obs} {chg : Nat → Bool} {d : D} (hg : o.guard = none) (hd : DstOk cx.N o)
    (ho : o.op = .call { callee := .value x, args := xs.toArray, argTypes := ts }) (hx : e.ev x = .clo f caps) (hT : TC g T cx) (ha : ArgsS e xs ss) (h : XCallT cx.P g T f (ss ++ caps.map Cap.toS) σc σ' chg d) (hin : AllIn σ σc)
    (h1 : Obs.allIds (fun i => !(chg i)) (Obs.dels σc σ) = true) (h2 : Obs.allIds (fun i => Obs.allIds (fun j => !(Nat.beq i j)) (Obs.dels σc σ)) σ' = true) (h3 : ∀ i, chg i = true → cx.fixp i = false)
    (k : AOps cx ops rest ((e.killP chg).put o.dst (.d d)) (Obs.join σ' (Obs.killP chg (Obs.dels σc σ))) Q) : AOps cx ops (o :: rest) e σ Q := by
  intro a w ⟨F, ρ, hr⟩
  have hc := ev_rep (e := e) (x := x) (a := a) (fun t _ => hr.env t)
  rw [hx] at hc
  generalize hv : a.eval x = v at hc
  cases hc with
  | clo _ cs _ hcs =>
    have h4 := h.2 F ρ cx.B w _ (hT.now hr.below) (fun ⟨p, hp, hb⟩ => hT.fr (hr.kown p (hin.mem p hp) g hb)) hr.lt hr.hB (hr.obs.sub hin.mem) ((ArgsS.rep hr.env ha).append hcs.toS)
    have h5 := h.1 (xs.map a.eval ++ cs).toArray w
    have hx : (execOp a.eval o).run cx.P w = .ok (.enter f (xs.map a.eval ++ cs).toArray) w := by
      unfold execOp
      simp only [ho, resolve, Deferred.ofValue, hv, invoke, Sem.run_bind, Sem.run_pure, Result.andThen_ok]
      simpa using h5
    refine wpList_plain hg fun K hK => ?_
    unfold Oper.wp
    rw [hx]
    refine h4.mono fun _ w' ⟨v, F', ρ', he, hv, hE⟩ => ?_
    subst he
    exact hK _ _ (k _ _ ⟨F', ρ', (hr.after hin.mem hE h1 h2 h3).put (Ext.refl hE.lt) (.d hv) hd⟩)
end
end Go.Proofs.YtekenfknoakboaaDoor


namespace Go.Proofs.YtekenfknoakboaaDoor
open Go.RowKit
set_option linter.unusedVariables false

/-! Types. -/
namespace TySA

end TySA
open TySA


open Go.Sort Go.Lib
def i64 (n : Int) : Prop := -9223372036854775808 ≤ n ∧ n ≤ 9223372036854775807
structure Pd where
  party : ByteArray
  cents : Int
deriving DecidableEq
structure Rw where
  deal : ByteArray
  earned : Int
  withheld : Int
  released : Int
  advance : Int
deriving DecidableEq
structure Stm where
  period : Int
  group : ByteArray
  rows : List Rw
  opening : Int
  paid : Int
  parts : List Pd
  closing : Int
instance : Inhabited Pd := ⟨⟨⟨#[]⟩, 0⟩⟩
def Pd.ds (p : Pd) : List D := [.v (.string p.party), .v (.int .i64 p.cents)]
def Rw.ds (r : Rw) : List D := [.v (.string r.deal), .v (.int .i64 r.earned), .v (.int .i64 r.withheld), .v (.int .i64 r.released), .v (.int .i64 r.advance)]
def Stm.ds (s : Stm) : List D := [.v (.int .i64 s.period), .v (.string s.group), .sl (s.rows.map Rw.ds), .v (.int .i64 s.opening), .v (.int .i64 s.paid), .sl (s.parts.map Pd.ds), .v (.int .i64 s.closing)]
def okPd (p : Pd) : Prop := p.party.size ≤ 9223372036854775807 ∧ i64 p.cents
def okRw (r : Rw) : Prop := r.deal.size ≤ 9223372036854775807 ∧ i64 r.earned ∧ i64 r.withheld ∧ i64 r.released ∧ i64 r.advance
def okStm (s : Stm) : Prop := i64 s.period ∧ s.group.size ≤ 9223372036854775807 ∧ (∀ r ∈ s.rows, okRw r) ∧ i64 s.opening ∧ i64 s.paid ∧ (∀ p ∈ s.parts, okPd p) ∧ i64 s.closing
theorem name_len {s : ByteArray} (h : nameOk s = true) : s.size ≤ 40 := by
  unfold nameOk isName at h
  simp only [Bool.and_eq_true, decide_eq_true_eq] at h
  have := h.1.1.2
  rw [← Lib.size_eq] at this
  exact this
/-! ## Totals: the plain side -/
def pdF (p : Pd) : Int := if nameOk p.party = false then 5 else if ¬ (0 ≤ p.cents ∧ p.cents ≤ 1000000000) then 1 else 0
def firstF : List Pd → Int
  | [] => 0
  | p :: l => if pdF p = 0 then firstF l else pdF p
theorem firstF_ok : ∀ {A : List Pd}, (∀ p ∈ A, pdF p = 0) → firstF A = 0
  | [], _ => rfl
  | p :: A, h => by
    rw [firstF, if_pos (h p (by simp))]
    exact firstF_ok fun q hq => h q (by simp [hq])
theorem firstF_hit : ∀ {A : List Pd} {p : Pd} {B : List Pd}, (∀ p ∈ A, pdF p = 0) → pdF p ≠ 0 → firstF (A ++ p :: B) = pdF p
  | [], p, B, _, h => by rw [List.nil_append, firstF, if_neg h]
  | q :: A, p, B, h, h2 => by
    rw [List.cons_append, firstF, if_pos (h q (by simp))]
    exact firstF_hit (fun r hr => h r (by simp [hr])) h2
def pts (l : List Stm) : List Pd := l.flatMap (·.parts)
def ptJ (l : List Stm) (k j : Nat) : List Pd := pts (l.take k) ++ (l.getD k ⟨0, ⟨#[]⟩, [], 0, 0, [], 0⟩).parts.take j
theorem getD_at {α : Type} {l : List α} {k : Nat} (h : k < l.length) (d : α) : l.getD k d = l[k] := by rw [List.getD_eq_getElem?_getD, List.getElem?_eq_getElem h]; rfl
theorem ptJ_0 (l : List Stm) (k : Nat) : ptJ l k 0 = pts (l.take k) := by simp [ptJ]
theorem ptJ_next {l : List Stm} {k j : Nat} (h : k < l.length) (hj : j < l[k].parts.length) : ptJ l k (j + 1) = ptJ l k j ++ [l[k].parts[j]] := by
  unfold ptJ
  rw [getD_at h, List.take_add_one, List.getElem?_eq_getElem hj, Option.toList_some, List.append_assoc]
theorem ptJ_end {l : List Stm} {k : Nat} (h : k < l.length) : ptJ l k l[k].parts.length = pts (l.take (k + 1)) := by
  unfold ptJ pts
  rw [getD_at h, List.take_length, List.take_add_one, List.getElem?_eq_getElem h, Option.toList_some, List.flatMap_append, List.flatMap_cons, List.flatMap_nil, List.append_nil]
theorem pts_split {l : List Stm} {k j : Nat} (h : k < l.length) (hj : j < l[k].parts.length) : ∃ B, pts l = ptJ l k j ++ l[k].parts[j] :: B := by
  refine ⟨l[k].parts.drop (j + 1) ++ pts (l.drop (k + 1)), ?_⟩
  have h1 : l = l.take k ++ l[k] :: l.drop (k + 1) := by rw [← List.drop_eq_getElem_cons h, List.take_append_drop]
  have h2 : l[k].parts = l[k].parts.take j ++ l[k].parts[j] :: l[k].parts.drop (j + 1) := by rw [← List.drop_eq_getElem_cons hj, List.take_append_drop]
  have h3 : pts l = pts (l.take k) ++ (l[k].parts ++ pts (l.drop (k + 1))) := by
    conv => lhs; rw [h1]
    unfold pts
    rw [List.flatMap_append, List.flatMap_cons]
  rw [h3]
  unfold ptJ
  rw [getD_at h, List.append_assoc]
  congr 1
  have h4 := congrArg (· ++ pts (l.drop (k + 1))) h2
  simpa only [List.append_assoc, List.cons_append] using h4
theorem ptJ_len {l : List Stm} {k j : Nat} (h : k < l.length) (hj : j < l[k].parts.length) : (ptJ l k j).length < (pts l).length := by
  obtain ⟨B, hB⟩ := pts_split h hj
  rw [hB]; simp
def totF (l : List Stm) : Int := if l.length > 1000 then 2 else firstF (pts l)
theorem totF_hit {l : List Stm} {k j : Nat} (hl : l.length ≤ 1000) (h : k < l.length) (hj : j < l[k].parts.length) (ho : ∀ p ∈ ptJ l k j, pdF p = 0) (hp : pdF l[k].parts[j] ≠ 0) : totF l = pdF l[k].parts[j] := by
  obtain ⟨B, hB⟩ := pts_split h hj
  unfold totF
  rw [if_neg (by omega), hB, firstF_hit ho hp]
theorem totF_ok {l : List Stm} (hl : l.length ≤ 1000) (ho : ∀ p ∈ pts l, pdF p = 0) : totF l = 0 := by
  unfold totF
  rw [if_neg (by omega), firstF_ok ho]
theorem pdF_5 {p : Pd} (h : nameOk p.party = false) : pdF p = 5 := if_pos h
theorem pdF_1 {p : Pd} (h : ¬ nameOk p.party = false) (h2 : ¬ (0 ≤ p.cents ∧ p.cents ≤ 1000000000)) : pdF p = 1 := by unfold pdF; rw [if_neg h, if_pos h2]
theorem pdF_0 {p : Pd} (h : ¬ nameOk p.party = false) (h2 : 0 ≤ p.cents ∧ p.cents ≤ 1000000000) : pdF p = 0 := by unfold pdF; rw [if_neg h, if_neg (fun h3 => h3 h2)]
theorem pdF_ok {p : Pd} (h : pdF p = 0) : nameOk p.party = true ∧ 0 ≤ p.cents ∧ p.cents ≤ 1000000000 := by
  unfold pdF at h
  split at h
  · omega
  · split at h
    · omega
    · rename_i h1 h2
      exact ⟨by simpa using h1, Decidable.not_not.1 h2⟩
/-! ### By party -/
abbrev KP := ByteArray
def entP (p : Pd) : KP × UM := (p.party, (0, p.cents))
def toPd (p : KP × UM) : Pd := ⟨p.1, p.2.2⟩
def dzP (p : KP × UM) : List D := (toPd p).ds
def Pd.key (p : Pd) : KP := p.party
def cmpP (x y : Pd) : Int := strCmp x.party y.party
theorem ltOf_P (x y : Pd) : ltOf cmpP x y = ltB (Pd.key x) (Pd.key y) := rfl
theorem swo_P : SWO (ltOf cmpP) := by
  have : ltOf cmpP = fun x y => ltB (Pd.key x) (Pd.key y) := by funext x y; exact ltOf_P x y
  rw [this]; exact tot_str.swo _
def gP (l : List Pd) : List (KP × UM) := foldP addU (l.map entP)
def oP (l : List Pd) : List (KP × UM) := foldO ltB addU (l.map entP)
def totR (l : List Stm) : List Pd := (oP (pts l)).map toPd
theorem gP_next (l : List Pd) (p : Pd) : gP (l ++ [p]) = putG (gP l) p.party (plusG addU (findG (gP l) p.party) (0, p.cents)) := by
  unfold gP foldP
  rw [List.map_append, List.foldl_append]; rfl
theorem nd_len : ∀ {n : Nat} {l : List Nat}, l.Nodup → (∀ i ∈ l, i < n) → l.length ≤ n := fun {n l} h1 h2 => by
  have hp : l.Perm ((List.range n).filter fun i => decide (i ∈ l)) := (List.perm_ext_iff_of_nodup h1 (List.nodup_range.filter _)).2 fun i => by
    rw [List.mem_filter, List.mem_range, decide_eq_true_eq]
    exact ⟨fun h => ⟨h2 i h, h⟩, fun h => h.2⟩
  have := hp.length_eq
  have h3 := List.length_filter_le (fun i => decide (i ∈ l)) (List.range n)
  rw [List.length_range] at h3
  omega
theorem nd_snoc {n : Nat} {l : List Nat} {i : Nat} (h1 : l.Nodup ∧ ∀ i ∈ l, i < n) (hi : i < n) (hn : i ∉ l) : (l ++ [i]).Nodup ∧ ∀ j ∈ l ++ [i], j < n := by
  refine ⟨List.nodup_append.2 ⟨h1.1, by simp, fun x hx y hy => ?_⟩, fun j hj => ?_⟩
  · rw [List.mem_singleton] at hy
    subst hy
    exact fun e => hn (e ▸ hx)
  · rcases List.mem_append.1 hj with hj | hj
    · exact h1.2 j hj
    · rw [List.mem_singleton] at hj; omega
theorem pick_len {κ τ : Type} [Inhabited κ] (f : κ × UM → τ) (K : List (κ × UM)) (dn : List Nat) : (pickG f K dn).length = dn.length := List.length_map ..
section
variable {κ : Type} [DecidableEq κ]
theorem addO_ins {lt : κ → κ → Bool} {β : Type} {add : β → β → β} {e : κ × β} : ∀ {O : List (κ × β)} {i : Nat}, i ≤ O.length → (∀ o ∈ O.take i, lt o.1 e.1 = true) → (i = O.length ∨ ∃ h : i < O.length, lt O[i].1 e.1 = false ∧ ¬ O[i].1 = e.1) → addO lt add e O = O.take i ++ [e] ++ O.drop i
  | [], i, hi, _, _ => by
    have : i = 0 := by simpa using hi
    subst this
    rfl
  | p :: l, 0, _, _, hs => by
    rcases hs with hs | ⟨h, h1, h2⟩
    · simp at hs
    · rw [addO, if_neg (by rw [show lt p.1 e.1 = false from h1]; simp), if_neg (show ¬ p.1 = e.1 from h2)]; rfl
  | p :: l, i + 1, hi, ha, hs => by
    have hp : lt p.1 e.1 = true := ha p (by simp)
    rw [addO, if_pos hp, addO_ins (i := i) (by simpa using hi) (fun o ho => ha o (by simp [ho])) (by
      rcases hs with hs | ⟨h, h1, h2⟩
      · exact .inl (by simpa using hs)
      · exact .inr ⟨by simpa using h, by simpa using h1, by simpa using h2⟩)]
    simp
theorem addO_add {lt : κ → κ → Bool} {β : Type} {add : β → β → β} {e : κ × β} : ∀ {O : List (κ × β)} {i : Nat} (h : i < O.length), (∀ o ∈ O.take i, lt o.1 e.1 = true) → lt O[i].1 e.1 = false → O[i].1 = e.1 → addO lt add e O = O.set i (e.1, add O[i].2 e.2)
  | [], i, h, _, _, _ => by simp at h
  | p :: l, 0, _, _, h1, h2 => by
    have h1' : lt p.1 e.1 = false := h1
    have h2' : p.1 = e.1 := h2
    rw [addO, if_neg (by rw [h1']; simp), if_pos h2']; rfl
  | p :: l, i + 1, h, ha, h1, h2 => by
    have hp : lt p.1 e.1 = true := ha p (by simp)
    rw [addO, if_pos hp, addO_add (i := i) (by simpa using h) (fun o ho => ha o (by simp [ho])) (by simpa using h1) (by simpa using h2)]
    rfl
/-- The place at which something is added: what stands there, what comes of it. -/
structure Plc (lt : κ → κ → Bool) (dz : κ × UM → List D) (O : List (κ × UM)) (k : κ) (i : Nat) (O1 : List (κ × UM)) (v : UM) : Prop where
  pos : i < O1.length
  at_ : (O1.map dz)[i]? = some (dz (k, v))
  fin : ∀ u m, O1.set i (k, (v.1 + u, v.2 + m)) = addO lt addU (k, (u, m)) O
  len : O1.length ≤ O.length + 1
  bnd : v = (0, 0) ∨ ∃ p ∈ O, p.2 = v
end
theorem plc_ins {κ : Type} [DecidableEq κ] {lt : κ → κ → Bool} {dz : κ × UM → List D} {O : List (κ × UM)} {k : κ} {i : Nat} (hi : i ≤ O.length) (ha : ∀ o ∈ O.take i, lt o.1 k = true) (hs : i = O.length ∨ ∃ h : i < O.length, lt O[i].1 k = false ∧ ¬ O[i].1 = k) :
    ∃ O1 v, (O.map dz).take i ++ [dz (k, (0, 0))] ++ (O.map dz).drop i = O1.map dz ∧ Plc lt dz O k i O1 v := by
  have hT : (O.take i).length = i := by rw [List.length_take]; omega
  refine ⟨O.take i ++ [(k, (0, 0))] ++ O.drop i, (0, 0), by simp [List.map_take, List.map_drop], ?_⟩
  have hl : (O.take i ++ [(k, ((0, 0) : UM))] ++ O.drop i).length = O.length + 1 := by simp; omega
  refine ⟨by omega, ?_, fun u m => ?_, by omega, .inl rfl⟩
  · rw [List.getElem?_map, List.getElem?_append_left (by simp; omega), List.getElem?_append_right (by omega)]
    simp [hT]
  · rw [addO_ins hi ha hs]
    simp [hT]
theorem plc_add {κ : Type} [DecidableEq κ] {lt : κ → κ → Bool} {dz : κ × UM → List D} {O : List (κ × UM)} {k : κ} {i : Nat} (h : i < O.length) (ha : ∀ o ∈ O.take i, lt o.1 k = true) (h1 : lt O[i].1 k = false) (h2 : O[i].1 = k) :
    ∃ O1 v, O.map dz = O1.map dz ∧ Plc lt dz O k i O1 v := by
  refine ⟨O, O[i].2, rfl, h, ?_, fun u m => ?_, by omega, .inr ⟨O[i], List.getElem_mem h, rfl⟩⟩
  · rw [List.getElem?_map, List.getElem?_eq_getElem h, ← h2]; rfl
  · rw [addO_add h ha h1 h2]; rfl
theorem take_lt {κ : Type} {lt : κ → κ → Bool} {O : List (κ × UM)} {k : κ} {i : Nat} (h : i < O.length) (ha : ∀ o ∈ O.take i, lt o.1 k = true) (h1 : lt O[i].1 k = true) : ∀ o ∈ O.take (i + 1), lt o.1 k = true := fun o ho => by
  rw [List.take_add_one, List.getElem?_eq_getElem h, Option.toList_some, List.mem_append, List.mem_singleton] at ho
  rcases ho with ho | rfl
  · exact ha o ho
  · exact h1
theorem foldO_snoc {κ β : Type} [DecidableEq κ] {lt : κ → κ → Bool} {add : β → β → β} (E : List (κ × β)) (e : κ × β) : foldO lt add (E ++ [e]) = addO lt add e (foldO lt add E) := by
  unfold foldO
  rw [List.foldl_append]; rfl
theorem fold_len {κ : Type} [DecidableEq κ] {lt : κ → κ → Bool} (T : Tot lt) (E : List (κ × UM)) : (foldO lt addU E).length = (foldP addU E).length := by
  have nd1 : (foldO lt addU E).Nodup := (foldO_ri (add := addU) T E).imp fun {a b} hab e => by rw [e, T.irr] at hab; cases hab
  have nd2 : (foldP addU E).Nodup := (foldP_nk (add := addU) T E).imp fun {a b} hab e => hab (by rw [e])
  exact ((List.perm_ext_iff_of_nodup nd1 nd2).2 fun p => (fold_mem T E p).symm).length_eq

theorem oP_next (l : List Pd) (p : Pd) : oP (l ++ [p]) = addO ltB addU (p.party, (0, p.cents)) (oP l) := by
  unfold oP
  rw [List.map_append]
  exact foldO_snoc _ _
/-! ### Bounds -/
structure InvP (n : Int) (L : List (KP × UM)) : Prop where
  nk : NkG L
  bnd : ∀ p ∈ L, (0 ≤ p.2.1 ∧ p.2.1 ≤ 1000000000 * n) ∧ 0 ≤ p.2.2 ∧ p.2.2 ≤ 1000000000 * n
  len : (L.length : Int) ≤ n
theorem snocInd {α : Type} {Q : List α → Prop} (h0 : Q []) (h1 : ∀ l p, Q l → Q (l ++ [p])) : ∀ l, Q l := fun l => by
  have key : ∀ n (l : List α), l.length = n → Q l := by
    intro n
    induction n with
    | zero => intro l h; rw [List.eq_nil_of_length_eq_zero h]; exact h0
    | succ n ih =>
      intro l h
      have hne : l ≠ [] := fun e => by rw [e] at h; simp at h
      have := h1 l.dropLast (l.getLast hne) (ih _ (by rw [List.length_dropLast]; omega))
      rwa [List.dropLast_concat_getLast] at this
  exact key _ l rfl
theorem inv_P : ∀ {l : List Pd}, (∀ p ∈ l, pdF p = 0) → InvP l.length (gP l) := by
  intro l
  refine snocInd (Q := fun l => (∀ p ∈ l, pdF p = 0) → InvP l.length (gP l)) ?_ ?_ l
  · exact fun _ => ⟨List.Pairwise.nil, by simp [gP, foldP], by simp [gP, foldP]⟩
  · intro l p ih h
    have hI := ih fun q hq => h q (by simp [hq])
    have hp := pdF_ok (h p (by simp))
    have hn : (0 : Int) ≤ l.length := by omega
    obtain ⟨a1, a2, _, a4⟩ := acc_inv (K := fun _ => True) hn hI.nk hI.bnd (fun _ _ => trivial) hI.len (entP p) (by unfold entP; dsimp only; omega) trivial
    have e : gP (l ++ [p]) = accG addU (gP l) (entP p) := by rw [gP_next]; rfl
    have e2 : ((l ++ [p]).length : Int) = l.length + 1 := by simp
    rw [e, e2]
    exact ⟨a1, a2, a4⟩
structure OrdP (O : List (KP × UM)) (n : Nat) : Prop where
  ri : RiG ltB O
  len : O.length ≤ n
  bnd : ∀ p ∈ O, 0 ≤ p.2.2 ∧ p.2.2 ≤ 1000000000 * (n : Int)
theorem ord_P {l : List Pd} (h : ∀ p ∈ l, pdF p = 0) : OrdP (oP l) l.length := by
  have hI := inv_P h
  have h1 := fold_len tot_str (l.map entP)
  refine ⟨foldO_ri tot_str _, ?_, fun p hp => ?_⟩
  · have := hI.len
    unfold oP; rw [h1]
    unfold gP at this
    omega
  · exact (hI.bnd p ((fold_mem tot_str _ p).2 hp)).2
theorem sort_P (l : List Pd) {dn : List Nat} (h : dn.Nodup ∧ ∀ i ∈ dn, i < (gP l).length) (ha : ∀ i, i < (gP l).length → i ∈ dn) : sortF cmpP (pickG toPd (gP l) dn) = (oP l).map toPd ∧ DistF cmpP (pickG toPd (gP l) dn) :=
  sort_pick tot_str (key := Pd.key) (fun _ => rfl) ltOf_P (l.map entP) h.1 h.2 ha
/-! ### The map by party -/
def kvP (k : KP) : Value := .string k
def dvP (p : KP × UM) : D := .v (.int .i64 p.2.2)
def encP (L : List (KP × UM)) : List (Value × D) := encG kvP dvP L
theorem kvP_inj {a b : KP} (h : kvP a = kvP b) : a = b := Value.string.inj h
def getP (L : List (KP × UM)) (k : KP) : Int := match findG L k with | some v => v.2 | none => 0
theorem mget_P {L : List (KP × UM)} (h : NkG L) (k : KP) : MGet (encP L) (.string k) (.v (.int .i64 0)) (.v (.int .i64 (getP L k))) :=
  mgetG kvP_inj h k _ _ (by unfold getP; cases findG L k <;> rfl)
theorem get_plus_P (L : List (KP × UM)) (k : KP) (c : Int) : getP L k + c = (plusG addU (findG L k) (0, c)).2 := by
  unfold getP
  cases findG L k with
  | none => simp [plusG]
  | some v => rfl
theorem get_bound_P {L : List (KP × UM)} {n : Int} (h : InvP n L) (hn : 0 ≤ n) (k : KP) : 0 ≤ getP L k ∧ getP L k ≤ 1000000000 * n := by
  unfold getP
  cases hf : findG L k with
  | none => dsimp only; omega
  | some v =>
    unfold findG at hf
    cases hq : L.find? fun p => decide (p.1 = k) with
    | none => rw [hq] at hf; cases hf
    | some p =>
      rw [hq] at hf
      have := h.bnd p (List.mem_of_find?_eq_some hq)
      have hv : p.2 = v := Option.some.inj hf
      subst hv
      exact this.2
theorem mput_P {L : List (KP × UM)} (h : NkG L) (k : KP) (c : Int) : MPut (encP L) (.string k) (.v (.int .i64 (getP L k + c))) (encP (putG L k (plusG addU (findG L k) (0, c)))) := by
  rw [get_plus_P]
  exact mputG kvP_inj h k _
theorem pick_ds_P (K : List (KP × UM)) (dn : List Nat) {i : Nat} (hi : i < K.length) : (pickG toPd K dn).map Pd.ds ++ [(toPd K[i]).ds] = (pickG toPd K (dn ++ [i])).map Pd.ds := by rw [pickG_snoc toPd K dn hi, List.map_append]; rfl
theorem dz_map_P (L : List (KP × UM)) : (L.map toPd).map Pd.ds = L.map dzP := List.map_map
end Go.Proofs.YtekenfknoakboaaDoor


namespace Go.Proofs
open Go.Shelf
def Tryd.sortPaid_ren : Go.Shelf.Ren := ⟨fun | 6 => 23 | 15 => 50 | 14 => 49 | 28 => 76 | 29 => 77 | 20 => 68 | 21 => 69 | 22 => 70 | 23 => 71 | 24 => 72 | 25 => 73 | 26 => 74 | 27 => 75 | 46 => 105 | 47 => 106 | 48 => 107 | 49 => 108 | 50 => 109 | 57 => 126 | n => n, fun | 22 => 45 | 24 => 50 | 25 => 72 | 3 => 3 | 39 => 116 | 0 => 0 | 53 => 138 | 55 => 140 | 4 => 4 | 46 => 132 | 45 => 131 | 50 => 91 | 5 => 5 | 9 => 9 | 66 => 161 | 70 => 165 | 76 => 177 | 77 => 178 | n => n, fun | n => n⟩
theorem Tryd.sortPaid : Go.Proofs.SlLaysF0.n6 Tryd.prog Tryd.sortPaid_ren := {
  mixed := by kernel_rfl
  f6 := ⟨Tryd.f23.name, by decide, Tryd.func23.trans (congrArg some (by kernel_rfl))⟩
  f14 := ⟨Tryd.f49.name, by decide, Tryd.func49.trans (congrArg some (by kernel_rfl))⟩
  f15 := Tryd.func50.trans (congrArg some (by kernel_rfl))
  f20 := ⟨Tryd.f68.name, by decide, Tryd.func68.trans (congrArg some (by kernel_rfl))⟩
  f21 := ⟨Tryd.f69.name, by decide, Tryd.func69.trans (congrArg some (by kernel_rfl))⟩
  f22 := ⟨Tryd.f70.name, by decide, Tryd.func70.trans (congrArg some (by kernel_rfl))⟩
  f23 := ⟨Tryd.f71.name, by decide, Tryd.func71.trans (congrArg some (by kernel_rfl))⟩
  f24 := ⟨Tryd.f72.name, by decide, Tryd.func72.trans (congrArg some (by kernel_rfl))⟩
  f25 := ⟨Tryd.f73.name, by decide, Tryd.func73.trans (congrArg some (by kernel_rfl))⟩
  f26 := ⟨Tryd.f74.name, by decide, Tryd.func74.trans (congrArg some (by kernel_rfl))⟩
  f27 := ⟨Tryd.f75.name, by decide, Tryd.func75.trans (congrArg some (by kernel_rfl))⟩
  f28 := Tryd.func76.trans (congrArg some (by kernel_rfl))
  f29 := Tryd.func77.trans (congrArg some (by kernel_rfl))
  f46 := ⟨Tryd.f105.name, by decide, Tryd.func105.trans (congrArg some (by kernel_rfl))⟩
  f47 := Tryd.func106.trans (congrArg some (by kernel_rfl))
  f48 := Tryd.func107.trans (congrArg some (by kernel_rfl))
  f49 := ⟨Tryd.f108.name, by decide, Tryd.func108.trans (congrArg some (by kernel_rfl))⟩
  f50 := ⟨Tryd.f109.name, by decide, Tryd.func109.trans (congrArg some (by kernel_rfl))⟩
  f57 := ⟨Tryd.f126.name, by decide, Tryd.func126.trans (congrArg some (by kernel_rfl))⟩
  t0 := Tryd.underlying0
  a0 := Tryd.isAgg0
  z0 := Tryd.sizeOf0
  v0 := Tryd.zeroValue0
  t3 := Tryd.underlying3
  a3 := Tryd.isAgg3
  z3 := Tryd.sizeOf3
  v3 := Tryd.zeroValue3
  t4 := Tryd.underlying4
  a4 := Tryd.isAgg4
  z4 := Tryd.sizeOf4
  v4 := Tryd.zeroValue4
  t5 := Tryd.underlying5
  a5 := Tryd.isAgg5
  z5 := Tryd.sizeOf5
  v5 := Tryd.zeroValue5
  t9 := Tryd.underlying9
  a9 := Tryd.isAgg9
  z9 := Tryd.sizeOf9
  v9 := Tryd.zeroValue9
  t22 := Tryd.underlying45
  a22 := Tryd.isAgg45
  z22 := Tryd.sizeOf45
  v22 := Tryd.zeroValue45
  t25 := Tryd.underlying72
  a25 := Tryd.isAgg72
  z25 := Tryd.sizeOf72
  v25 := Tryd.zeroValue72
  t39 := Tryd.underlying116
  a39 := Tryd.isAgg116
  z39 := Tryd.sizeOf116
  v39 := Tryd.zeroValue116
  t45 := Tryd.underlying131
  a45 := Tryd.isAgg131
  z45 := Tryd.sizeOf131
  v45 := Tryd.zeroValue131
  t46 := Tryd.underlying132
  a46 := Tryd.isAgg132
  z46 := Tryd.sizeOf132
  v46 := Tryd.zeroValue132
  t50 := Tryd.underlying91
  a50 := Tryd.isAgg91
  z50 := Tryd.sizeOf91
  v50 := Tryd.zeroValue91
  t53 := Tryd.underlying138
  a53 := Tryd.isAgg138
  z53 := Tryd.sizeOf138
  v53 := Tryd.zeroValue138
  t55 := Tryd.underlying140
  a55 := Tryd.isAgg140
  z55 := Tryd.sizeOf140
  v55 := Tryd.zeroValue140
  t66 := Tryd.underlying161
  a66 := Tryd.isAgg161
  z66 := Tryd.sizeOf161
  v66 := Tryd.zeroValue161
  t70 := Tryd.underlying165
  a70 := Tryd.isAgg165
  z70 := Tryd.sizeOf165
  v70 := Tryd.zeroValue165
  t76 := Tryd.underlying177
  a76 := Tryd.isAgg177
  z76 := Tryd.sizeOf177
  v76 := Tryd.zeroValue177
  t77 := Tryd.underlying178
  a77 := Tryd.isAgg178
  z77 := Tryd.sizeOf178
  v77 := Tryd.zeroValue178 }
def Tryd.cmpI_ren : Go.Shelf.Ren := ⟨fun | 5 => 40 | 7 => 58 | n => n, fun | 22 => 3 | 3 => 3 | 4 => 4 | n => n, fun | n => n⟩
end Go.Proofs


namespace Go.Proofs.YtekenfknoakboaaDoor
open Go.RowKit Go.Shelf Go.Lib Go.Sort
set_option linter.unusedVariables false
set_option linter.unusedSimpArgs false

theorem cmpB_anyP (a b : ByteArray) (W : World) : Calls Tryd.prog 25 #[.string a, .string b] W fun e w' => e = .returned (.int .i64 (strCmp a b)) ∧ w' = W := Any.strings_Compare Tryd.l106 a b W
set_option maxHeartbeats 2000000 in
set_option maxRecDepth 1000000 in
/-- The order of what is paid, in whatever world. -/
theorem cmpP_any (x1 y1 : ByteArray) (x2 y2 : Value) (W : World) : Calls Tryd.prog 24 #[.agg #[.string x1, x2], .agg #[.string y1, y2]] W fun e w' => e = .returned (.int .i64 (strCmp x1 y1)) ∧ ∃ q os', w' = grow (W.drewN q) os' := by
  have hcon := fun W' => cmpB_anyP x1 y1 W'
  generalize strCmp x1 y1 = r at *
  go_enter Tryd.func24, Tryd.ntmps24
  go_wp2_with (go_at_call 25; refine (hcon _).mono ?_; rintro e w' ⟨rfl, rfl⟩)
  all_goals go_ret
  all_goals exact ⟨rfl, 0, _, by rw [alloc_eq_grow, alloc_eq_grow, grow_grow]; rfl⟩
theorem repL_vvP {F : Nat → Prop} {w : World} : ∀ {xs : List Value} {vs : List Value}, xs.length = vs.length → (∀ i (h : i < xs.length) (h' : i < (vs.map D.v).length), Rep F w xs[i] (vs.map D.v)[i]) → xs = vs := fun hl h => by
  apply List.ext_getElem hl
  intro i h1 h2
  have := h i h1 (by simpa using h2)
  rw [List.getElem_map] at this
  exact rep_v this
theorem cmpT_P : CmpT Tryd.prog 24 2 Pd.ds cmpP := fun F w0 W x y xs ys h1 h2 h3 h4 => by
  have e1 := repL_vvP (vs := [.string x.party, .int .i64 x.cents]) (by simpa using h1) h3
  have e2 := repL_vvP (vs := [.string y.party, .int .i64 y.cents]) (by simpa using h2) h4
  subst e1; subst e2
  exact cmpP_any _ _ _ _ W
theorem sortT_P : SortT Tryd.prog 23 2 where
  ent := enters_of Tryd.func23 (by kernel_rfl) rfl
  nil fv w := AnyF.slices_SortFunc_none Tryd.sortPaid none 0 fv w
  all enc hk h1 cf hO g blk cap d w eg hC hH hb hn := AnyQ.slices_SortFunc Tryd.sortPaid 2 (fun w => (AggT.of (by kernel_rfl) : AggT Tryd.prog 50 2).agg w) (fun w => (AggT.of (by kernel_rfl) : AggT Tryd.prog 50 2).size w) enc hk h1 cf hO g #[] blk 0 cap d w eg hC hH hb hn
theorem c_sortP (xs : List Pd) (hn : xs.length < 4611686018427387904) (hd : DistF cmpP xs) (e : Nat) : RCall Tryd.prog 23 e 2 (xs.map Pd.ds) ((sortF cmpP xs).map Pd.ds) [.clo (.func 24) []] (.tup []) :=
  sort_rcall sortT_P swo_P (enters_of Tryd.func24 (by kernel_rfl) rfl) cmpT_P (fun _ => rfl) [.string ⟨#[]⟩, .int .i64 0] rfl (by simp [Value.oneCell']) (fun F w i h h' => by
    have hi : i < 2 := h
    match i, hi with
    | 0, _ => exact .v _
    | 1, _ => exact .v _) xs hn hd e
end Go.Proofs.YtekenfknoakboaaDoor


namespace Go.Proofs.YtekenfknoakboaaDoor
open Go.RowKit
set_option linter.unusedVariables false

/-! Types. -/
namespace TySB
theorem ag_50 : AggT Tryd.prog 50 2 := .of (by kernel_rfl)
theorem ag_53 : AggT Tryd.prog 53 7 := .of (by kernel_rfl)
theorem bu_50 : StructT Tryd.prog 50 (fun i => (#[(0, 1), (1, 1)] : Array (Nat × Nat))[i]?) [(.string ⟨#[]⟩), (.int .i64 0)] := .of (by kernel_rfl) (by kernel_rfl) (by decide)
theorem et_44 : ElemTy Tryd.prog 44 53 7 96 (.agg #[(.int .i64 0), (.string ⟨#[]⟩), (.slice none 0 0), (.int .i64 0), (.int .i64 0), (.slice none 0 0), (.int .i64 0)]) := ⟨by kernel_rfl, by kernel_rfl, by kernel_rfl, by decide⟩
theorem et_45 : ElemTy Tryd.prog 45 50 2 24 (.agg #[(.string ⟨#[]⟩), (.int .i64 0)]) := ⟨by kernel_rfl, by kernel_rfl, by kernel_rfl, by decide⟩
theorem fo_50_0 : fieldOff Tryd.prog 50 0 = some 0 := by kernel_rfl
theorem fo_50_1 : fieldOff Tryd.prog 50 1 = some 1 := by kernel_rfl
theorem fo_53_5 : fieldOff Tryd.prog 53 5 = some 5 := by kernel_rfl
theorem kk_9 : Tryd.prog.underlying 9 = some .string := by kernel_rfl
theorem mt_67 : Tryd.prog.underlying 67 = some (.map 9 3) := by kernel_rfl
theorem sc_3 : Scal Tryd.prog 3 := .of (by kernel_rfl)
theorem sc_45 : Scal Tryd.prog 45 := .of (by kernel_rfl)
theorem sc_9 : Scal Tryd.prog 9 := .of (by kernel_rfl)
theorem sz_50 : ∀ w, (sizeOf 50).run Tryd.prog w = .ok 2 w := SizeT.of (by kernel_rfl)
theorem sz_53 : ∀ w, (sizeOf 53).run Tryd.prog w = .ok 7 w := SizeT.of (by kernel_rfl)
theorem zt_3 : (Tryd.prog.info? 3).bind (·.zero) = some (.int .i64 0) := by kernel_rfl
theorem zt_50 : (Tryd.prog.info? 50).bind (·.zero) = some (.agg #[(.string ⟨#[]⟩), (.int .i64 0)]) := by kernel_rfl
theorem zt_53 : (Tryd.prog.info? 53).bind (·.zero) = some (.agg #[(.int .i64 0), (.string ⟨#[]⟩), (.slice none 0 0), (.int .i64 0), (.int .i64 0), (.slice none 0 0), (.int .i64 0)]) := by kernel_rfl
end TySB
open TySB


open Go.Sort Go.Lib
def totS (l : List Stm) : List Pd := if totF l = 0 then totR l else []
theorem tot_bad {l : List Stm} {f : Int} (h : totF l = f) (hf : f ≠ 0) : totF l = f ∧ totS l = [] := ⟨h, by unfold totS; rw [if_neg (by omega)]⟩
theorem tot_good {l : List Stm} (h : totF l = 0) : totF l = 0 ∧ totS l = totR l := ⟨h, if_pos h⟩
theorem ob_1 {i : Nat} {a a' : Ob} {τ : Obs} (h : a = a') : ∀ p ∈ [(i, a')], p ∈ (i, a) :: τ := fun p hp => by
  subst h
  rw [List.mem_singleton] at hp; subst hp; exact .head _
theorem ob_2 {i j : Nat} {a a' b b' : Ob} {τ : Obs} (h : a = a') (h2 : b = b') : ∀ p ∈ [(i, a'), (j, b')], p ∈ (i, a) :: (j, b) :: τ := fun p hp => by
  subst h; subst h2
  rcases List.mem_cons.1 hp with rfl | hp
  · exact .head _
  · rw [List.mem_singleton] at hp; subst hp; exact .tail _ (.head _)
theorem ptJ_ge {l : List Stm} {k j : Nat} (h : k < l.length) (hj : j ≤ l[k].parts.length) : j ≤ (ptJ l k j).length := by
  unfold ptJ
  rw [getD_at h, List.length_append, List.length_take]
  omega
theorem encP_keys {L : List (KP × UM)} : ∀ p ∈ encP L, MapKept.IsKey .string p.1 := fun p hp => by
  obtain ⟨q, _, rfl⟩ := List.mem_map.1 hp
  trivial
theorem all_snoc {l : List Pd} {p : Pd} (h : ∀ q ∈ l, pdF q = 0) (hp : pdF p = 0) : ∀ q ∈ l ++ [p], pdF q = 0 := fun q hq => by
  rcases List.mem_append.1 hq with hq | hq
  · exact h q hq
  · rw [List.mem_singleton] at hq; subst hq; exact hp


set_option maxRecDepth 100000 in
set_option maxHeartbeats 4000000 in
theorem c_pTot (l : List Stm) (ho : ∀ s ∈ l, okStm s) (hm : (pts l).length ≤ 1048576) : ACall Tryd.prog 9 [.sl (l.map Stm.ds)] (.tup [.sl ((totS l).map Pd.ds), .v (.int .i64 (totF l))]) := by
  refine acall_of (n := 62) (ds' := [.sl ((totS l).map Pd.ds), .v (.int .i64 (totF l))]) Tryd.func9 rfl (by kernel_rfl) rfl [2, 3] rfl rfl ?_
  intro B w0 F0 fr
  refine AWP.seq (AWP.region ?_)
  refine AOps.aD rfl rfl rfl rfl rfl ?_
  refine AOps.aD rfl rfl rfl rfl rfl (.nil ?_)
  refine AWP.seq ?_
  refine AWP.seq (AWP.region ?_)
  refine AOps.mD rfl rfl rfl rfl rfl ?_
  refine AOps.step rfl rfl rfl (AOp.lenSl rfl et_44.ht rfl) ?_
  refine AOps.step rfl rfl rfl (AOp.gtr rfl rfl rfl) (.nil ?_)
  refine AWP.cond rfl (fun h1 => ?_) (fun h1 => ?_)
  · replace h1 := of_decide_eq_true h1
    rw [List.length_map] at h1
    obtain ⟨HF, HR⟩ := tot_bad (show totF l = 2 from if_pos (by omega)) (by decide)
    rw [HF, HR]
    refine AWP.seq (AWP.region ?_)
    refine AOps.aD rfl rfl rfl rfl rfl ?_
    refine AOps.aD rfl rfl rfl rfl rfl (.nil ?_)
    refine AWP.ret ?_
    refine ⟨RetD.nil rfl, RetD.eq rfl ?_, trivial⟩
    all_goals (rfl)
  replace h1 := of_decide_eq_false h1
  rw [List.length_map] at h1
  have hll : l.length ≤ 1000 := by omega
  refine AWP.skip ?_
  refine AWP.seq (AWP.region ?_)
  refine AOps.makeMap 91 rfl rfl rfl rfl rfl ?_
  refine AOps.step rfl rfl rfl (AOp.assignO rfl rfl) (.nil ?_)
  refine AWP.seq ?_
  refine AWP.seq (AWP.region ?_)
  refine AOps.mD rfl rfl rfl rfl rfl ?_
  refine AOps.step rfl rfl rfl (AOp.lenSl rfl et_44.ht rfl) ?_
  refine AOps.mD rfl rfl rfl rfl rfl (.nil ?_)
  refine AWP.block ?_
  refine AWP.loop (G := Nat) (fun k => Env.of [(18, .d (.v (.int .i64 (k : Int)))), (16, .d (.sl (l.map Stm.ds))), (17, .d (.v (.int .i64 ((l.map Stm.ds).length : Int)))), (4, .own 91)]) (fun k => [(91, .map (encP (gP (pts (l.take k)))))]) (fun k => k ≤ l.length ∧ ∀ p ∈ pts (l.take k), pdF p = 0) (fun k => l.length - k) 0 ⟨Nat.zero_le _, fun p h => by simp [pts] at h⟩ (Sub.less ⟨(SLe.of_eq rfl), SLe.refl _, SLe.refl _, SLe.refl _, trivial⟩ (ob_1 rfl)) ?_
  intro k hk
  refine AWP.seq (AWP.region ?_)
  refine AOps.step rfl rfl rfl (AOp.lss rfl rfl rfl) (.nil ?_)
  refine AWP.seq ?_
  refine AWP.cond rfl (fun h2 => ?_) (fun h2 => ?_)
  · replace h2 := of_decide_eq_true h2
    rw [List.length_map] at h2
    have hlt : k < l.length := by omega
    have hok := ho _ (List.getElem_mem hlt)
    refine AWP.skip ?_
    refine AWP.seq ?_
    refine AWP.block ?_
    refine AWP.seq (AWP.region ?_)
    refine AOps.step rfl rfl rfl (AOp.indexAddr rfl et_44 rfl rfl k rfl (at_lst hlt) rfl) ?_
    refine AOps.step rfl rfl rfl (AOp.loadAgg rfl ag_53 rfl rfl) ?_
    refine AOps.alloc 102 rfl rfl rfl rfl zt_53 rfl rfl rfl ?_
    refine AOps.store rfl rfl rfl sz_53 rfl (.head _) rfl rfl rfl (Nat.le_of_ble_eq_true rfl) ?_
    refine AOps.freezeCells 6 (ds := l[k].ds) rfl (.head _) (.nil ?_)
    refine AWP.seq (AWP.region ?_)
    refine AOps.step rfl rfl rfl (AOp.fieldAddr rfl fo_53_5 rfl) ?_
    refine AOps.step rfl rfl rfl (AOp.load rfl sc_45 rfl) ?_
    refine AOps.step rfl rfl rfl (AOp.lenSl rfl et_45.ht rfl) ?_
    refine AOps.mD rfl rfl rfl rfl rfl (.nil ?_)
    refine AWP.block ?_
    refine AWP.loop (G := Nat) (fun j => Env.of [(25, .d (.v (.int .i64 (j : Int)))), (23, .d (.sl (l[k].parts.map Pd.ds))), (24, .d (.v (.int .i64 ((l[k].parts.map Pd.ds).length : Int)))), (18, .d (.v (.int .i64 (k : Int)))), (16, .d (.sl (l.map Stm.ds))), (17, .d (.v (.int .i64 ((l.map Stm.ds).length : Int)))), (4, .own 91)]) (fun j => [(91, .map (encP (gP (ptJ l k j))))]) (fun j => j ≤ l[k].parts.length ∧ ∀ p ∈ ptJ l k j, pdF p = 0) (fun j => l[k].parts.length - j) 0 ⟨Nat.zero_le _, by rw [ptJ_0]; exact hk.2⟩ (Sub.less ⟨(SLe.of_eq rfl), SLe.refl _, SLe.refl _, SLe.refl _, SLe.refl _, SLe.refl _, SLe.refl _, trivial⟩ (ob_1 (by rw [ptJ_0]; rfl))) ?_
    intro j hj
    refine AWP.seq (AWP.region ?_)
    refine AOps.step rfl rfl rfl (AOp.lss rfl rfl rfl) (.nil ?_)
    refine AWP.seq ?_
    refine AWP.cond rfl (fun h3 => ?_) (fun h3 => ?_)
    · replace h3 := of_decide_eq_true h3
      rw [List.length_map] at h3
      have hjl : j < l[k].parts.length := by omega
      have hbk := hok.2.2.2.2.2.1 _ (List.getElem_mem hjl)
      have hI := inv_P hj.2
      have hn := ptJ_len hlt hjl
      have hjj := ptJ_ge hlt (Nat.le_of_lt hjl)
      have hgb := get_bound_P hI (by omega) l[k].parts[j].party
      have HN := gP_next (ptJ l k j) l[k].parts[j]
      rw [← ptJ_next hlt hjl] at HN
      refine AWP.skip ?_
      refine AWP.seq ?_
      refine AWP.block ?_
      refine AWP.seq (AWP.region ?_)
      refine AOps.step rfl rfl rfl (AOp.indexAddr rfl et_45 rfl rfl j rfl (at_lst hjl) rfl) ?_
      refine AOps.step rfl rfl rfl (AOp.loadAgg rfl ag_50 rfl rfl) ?_
      refine AOps.alloc 103 rfl rfl rfl rfl zt_50 rfl rfl rfl ?_
      refine AOps.store rfl rfl rfl sz_50 rfl (.head _) rfl rfl rfl (Nat.le_of_ble_eq_true rfl) ?_
      refine AOps.freezeCells 8 (ds := l[k].parts[j].ds) rfl (.head _) (.nil ?_)
      refine AWP.seq ?_
      refine AWP.seq (AWP.region ?_)
      refine AOps.step rfl rfl rfl (AOp.fieldAddr rfl fo_50_0 rfl) ?_
      refine AOps.step rfl rfl rfl (AOp.load rfl sc_9 rfl) ?_
      refine AOps.step rfl rfl rfl (AOp.call rfl (.cons (ArgOk.rfl' rfl) .nil) (c_pName _ hbk.1)) ?_
      refine AOps.step rfl rfl rfl (AOp.not rfl rfl) (.nil ?_)
      refine AWP.cond rfl (fun h4 => ?_) (fun h4 => ?_)
      · replace h4 := bnot_t h4
        obtain ⟨HF, HR⟩ := tot_bad (show totF l = 5 from by rw [totF_hit (by omega) hlt hjl hj.2 (by rw [pdF_5 h4]; decide), pdF_5 h4]) (by decide)
        rw [HF, HR]
        refine AWP.seq (AWP.region ?_)
        refine AOps.aD rfl rfl rfl rfl rfl ?_
        refine AOps.aD rfl rfl rfl rfl rfl (.nil ?_)
        refine AWP.ret ?_
        refine ⟨RetD.nil rfl, RetD.eq rfl ?_, trivial⟩
        all_goals (rfl)
      replace h4 := bnot_f h4
      have n1 : ¬ nameOk l[k].parts[j].party = false := by rw [h4]; decide
      refine AWP.skip ?_
      refine AWP.seq ?_
      refine AWP.seq (AWP.region ?_)
      refine AOps.step rfl rfl rfl (AOp.fieldAddr rfl fo_50_1 rfl) ?_
      refine AOps.step rfl rfl rfl (AOp.load rfl sc_3 rfl) ?_
      refine AOps.step rfl rfl rfl (AOp.call rfl (.cons (ArgOk.rfl' rfl) (.cons (ArgOk.rfl' rfl) (.cons (ArgOk.rfl' rfl) .nil))) (c_pIn _ _ _)) ?_
      refine AOps.step rfl rfl rfl (AOp.not rfl rfl) (.nil ?_)
      refine AWP.cond rfl (fun h5 => ?_) (fun h5 => ?_)
      · replace h5 := bnot_t h5; replace h5 := of_decide_eq_false h5
        obtain ⟨HF, HR⟩ := tot_bad (show totF l = 1 from by rw [totF_hit (by omega) hlt hjl hj.2 (by rw [pdF_1 n1 h5]; decide), pdF_1 n1 h5]) (by decide)
        rw [HF, HR]
        refine AWP.seq (AWP.region ?_)
        refine AOps.aD rfl rfl rfl rfl rfl ?_
        refine AOps.aD rfl rfl rfl rfl rfl (.nil ?_)
        refine AWP.ret ?_
        refine ⟨RetD.nil rfl, RetD.eq rfl ?_, trivial⟩
        all_goals (rfl)
      replace h5 := bnot_f h5; replace h5 := of_decide_eq_true h5
      have hp0 := pdF_0 n1 h5
      have hcr := h5
      have HA := all_snoc hj.2 hp0
      rw [← ptJ_next hlt hjl] at HA
      refine AWP.skip ?_
      refine AWP.region ?_
      refine AOps.step rfl rfl rfl (AOp.moveO rfl rfl) ?_
      refine AOps.step rfl rfl rfl (AOp.fieldAddr rfl fo_50_0 rfl) ?_
      refine AOps.step rfl rfl rfl (AOp.load rfl sc_9 rfl) ?_
      refine AOps.step rfl rfl rfl (AOp.lookup rfl mt_67 kk_9 zt_3 rfl (.head _) rfl trivial encP_keys (mget_P hI.nk _)) ?_
      refine AOps.step rfl rfl rfl (AOp.fieldAddr rfl fo_50_1 rfl) ?_
      refine AOps.step rfl rfl rfl (AOp.load rfl sc_3 rfl) ?_
      refine AOps.step rfl rfl rfl (AOp.add64 rfl rfl rfl (by omega) (by omega)) ?_
      refine AOps.eff rfl rfl (EOp.mapUpdate rfl rfl mt_67 kk_9 rfl (.head _) rfl rfl trivial encP_keys (mput_P hI.nk _ _)) (.nil ?_)
      refine AWP.region ?_
      refine AOps.step rfl rfl rfl (AOp.add64 rfl rfl rfl (by omega) (by omega)) ?_
      refine AOps.mD rfl rfl rfl rfl rfl (.nil ?_)
      refine ⟨j + 1, ⟨by omega, HA⟩, (by dsimp only; omega), Sub.less ⟨(SLe.of_eq rfl), SLe.refl _, SLe.refl _, SLe.refl _, SLe.refl _, SLe.refl _, SLe.refl _, trivial⟩ (ob_1 (by rw [HN]))⟩
    replace h3 := of_decide_eq_false h3
    rw [List.length_map] at h3
    obtain rfl : j = l[k].parts.length := by omega
    have hall := hj.2
    rw [ptJ_end hlt] at hall ⊢
    refine AWP.exit ?_
    refine AWP.region ?_
    refine AOps.step rfl rfl rfl (AOp.add64 rfl rfl rfl (by omega) (by omega)) ?_
    refine AOps.mD rfl rfl rfl rfl rfl (.nil ?_)
    refine ⟨k + 1, ⟨by omega, hall⟩, (by dsimp only; omega), Sub.less ⟨(SLe.of_eq rfl), SLe.refl _, SLe.refl _, SLe.refl _, trivial⟩ (ob_1 rfl)⟩
  replace h2 := of_decide_eq_false h2
  rw [List.length_map] at h2
  obtain rfl : k = l.length := by omega
  have hall0 := hk.2
  rw [List.take_length] at hall0 ⊢
  have hI := inv_P hall0
  have hIl := hI.len
  obtain ⟨HF, HR⟩ := tot_good (totF_ok hll hall0)
  rw [HF, HR]
  refine AWP.exit ?_
  refine AWP.seq (AWP.region ?_)
  refine AOps.aD rfl rfl rfl rfl rfl (.nil ?_)
  refine AWP.seq ?_
  refine AWP.seq (AWP.region ?_)
  refine AOps.step rfl rfl rfl (AOp.moveO rfl rfl) ?_
  refine AOps.range 71 rfl rfl rfl rfl mt_67 rfl (.head _) rfl ?_
  refine AOps.nil ?_
  refine AWP.block ?_
  refine AWP.adopt 9 61 50 2 rfl rfl ?_
  refine AWP.loop (G := List Nat) (fun dn => Env.of [(47, .ptr 71 0), (9, .own 61)]) (fun dn => [(61, .row 50 2 ((pickG toPd (gP (pts l)) dn).map Pd.ds)), (71, .iter (encP (gP (pts l))) dn)]) (fun dn => dn.Nodup ∧ ∀ i ∈ dn, i < (gP (pts l)).length) (fun dn => (gP (pts l)).length - dn.length) [] ⟨List.nodup_nil, fun i h => absurd h List.not_mem_nil⟩ (Sub.less ⟨SLe.refl _, SLe.refl _, trivial⟩ (ob_2 rfl rfl)) ?_
  intro dn hd
  refine AWP.seq (AWP.region ?_)
  refine AOps.nextL rfl rfl rfl rfl rfl (.tail _ (.head _)) (fun hall => ?_) (fun i hi hni => ?_)
  · skip
    have hdl := nd_len hd.1 hd.2
    obtain ⟨HS1, HD1⟩ := sort_P (pts l) hd hall
    refine AOps.step rfl rfl rfl (AOp.extract rfl rfl rfl) (.nil ?_)
    refine AWP.seq ?_
    refine AWP.cond rfl (fun h => nomatch h) (fun _ => ?_)
    refine AWP.exit ?_
    refine AWP.seq (AWP.region ?_)
    refine AOps.step rfl rfl rfl (AOp.moveO rfl rfl) ?_
    -- turns 61
    refine AOps.callX rfl rfl rfl (.cons (SLe.refl _) (.cons (SLe.fn _) .nil)) ((c_sortP _ (by rw [pick_len]; omega) HD1 _) 61) ⟨(.head _), trivial⟩ rfl rfl (fun _ h => nomatch h) ?_
    rw [HS1]
    refine AOps.nil ?_
    refine AWP.seq (AWP.region ?_)
    refine AOps.step rfl rfl rfl (AOp.moveO rfl rfl) ?_
    refine AOps.step rfl rfl rfl (AOp.assignO rfl rfl) ?_
    refine AOps.aD rfl rfl rfl rfl rfl (.nil ?_)
    refine AWP.ret ?_
    refine ⟨RetD.own rfl (.head _) ?_, RetD.eq rfl ?_, trivial⟩
    all_goals (rfl)
  have hsn := nd_snoc hd hi hni
  have hnl := nd_len hsn.1 hsn.2
  rw [List.length_append, List.length_singleton] at hnl
  refine AOps.step rfl rfl rfl (AOp.extract rfl rfl rfl) (.nil ?_)
  refine AWP.seq ?_
  refine AWP.cond rfl (fun _ => ?_) (fun h => nomatch h)
  refine AWP.skip ?_
  refine AWP.block ?_
  refine AWP.seq (AWP.region ?_)
  refine AOps.step rfl rfl rfl (AOp.entryL rfl rfl (.tail _ (.head _)) hi) ?_
  refine AOps.step rfl rfl rfl (AOp.extract rfl rfl rfl) ?_
  refine AOps.step rfl rfl rfl (AOp.extract rfl rfl rfl) ?_
  refine AOps.aD rfl rfl rfl rfl rfl ?_
  refine AOps.aD rfl rfl rfl rfl rfl (.nil ?_)
  refine AWP.region ?_
  refine AOps.step rfl rfl rfl (AOp.moveO rfl rfl) ?_
  refine AOps.mD rfl rfl rfl rfl rfl ?_
  refine AOps.mD rfl rfl rfl rfl rfl ?_
  refine AOps.step rfl rfl rfl (AOp.build rfl bu_50 (.cons rfl rfl (.cons rfl rfl .nil)) rfl) ?_
  refine AOps.step rfl rfl rfl (AOp.buildSlice rfl et_45 (.cons rfl rfl rfl .nil) rfl (by decide)) ?_
  -- append 58
  refine AOps.append rfl rfl rfl rfl et_45 rfl (.head _) rfl (fun y hy => by obtain rfl := List.mem_singleton.1 hy; rfl) (by simp [pickG]; omega) (by simp [pickG]; omega) ?_
  refine AOps.step rfl rfl rfl (AOp.assignO rfl rfl) (.nil ?_)
  refine ⟨dn ++ [i], hsn, (by dsimp only; rw [List.length_append, List.length_singleton]; omega), Sub.less ⟨SLe.refl _, SLe.refl _, trivial⟩ (ob_2 (by rw [← pick_ds_P _ _ hi]; rfl) rfl)⟩

end Go.Proofs.YtekenfknoakboaaDoor


namespace Go.Proofs.YtekenfknoakboaaDoor
open Go.RowKit
set_option linter.unusedVariables false

/-! Types. -/
namespace TySD
theorem ag_50 : AggT Tryd.prog 50 2 := .of (by kernel_rfl)
theorem ag_86 : AggT Tryd.prog 86 5 := .of (by kernel_rfl)
theorem et_45 : ElemTy Tryd.prog 45 50 2 24 (.agg #[(.string ⟨#[]⟩), (.int .i64 0)]) := ⟨by kernel_rfl, by kernel_rfl, by kernel_rfl, by decide⟩
theorem et_51 : ElemTy Tryd.prog 51 86 5 48 (.agg #[(.string ⟨#[]⟩), (.int .i64 0), (.int .i64 0), (.int .i64 0), (.int .i64 0)]) := ⟨by kernel_rfl, by kernel_rfl, by kernel_rfl, by decide⟩
theorem et_63 : ElemTy Tryd.prog 63 3 1 8 (.int .i64 0) := ⟨by kernel_rfl, by kernel_rfl, by kernel_rfl, by decide⟩
theorem fo_50_0 : fieldOff Tryd.prog 50 0 = some 0 := by kernel_rfl
theorem fo_53_0 : fieldOff Tryd.prog 53 0 = some 0 := by kernel_rfl
theorem fo_53_1 : fieldOff Tryd.prog 53 1 = some 1 := by kernel_rfl
theorem fo_53_2 : fieldOff Tryd.prog 53 2 = some 2 := by kernel_rfl
theorem fo_53_5 : fieldOff Tryd.prog 53 5 = some 5 := by kernel_rfl
theorem fo_86_0 : fieldOff Tryd.prog 86 0 = some 0 := by kernel_rfl
theorem sc_3 : Scal Tryd.prog 3 := .of (by kernel_rfl)
theorem sc_45 : Scal Tryd.prog 45 := .of (by kernel_rfl)
theorem sc_51 : Scal Tryd.prog 51 := .of (by kernel_rfl)
theorem sc_9 : Scal Tryd.prog 9 := .of (by kernel_rfl)
theorem sz_50 : ∀ w, (sizeOf 50).run Tryd.prog w = .ok 2 w := SizeT.of (by kernel_rfl)
theorem sz_86 : ∀ w, (sizeOf 86).run Tryd.prog w = .ok 5 w := SizeT.of (by kernel_rfl)
theorem zt_50 : (Tryd.prog.info? 50).bind (·.zero) = some (.agg #[(.string ⟨#[]⟩), (.int .i64 0)]) := by kernel_rfl
theorem zt_86 : (Tryd.prog.info? 86).bind (·.zero) = some (.agg #[(.string ⟨#[]⟩), (.int .i64 0), (.int .i64 0), (.int .i64 0), (.int .i64 0)]) := by kernel_rfl
end TySD
open TySD


open Go.Lib
set_option linter.unusedSimpArgs false
/-! ## Show: the plain side -/
def stF (s : Stm) : Int :=
  if ¬ (0 ≤ s.period ∧ s.period ≤ 2400) then 1 else if nameOk s.group = false then 5 else if 40 < s.rows.length then 2 else if ¬ (∀ r ∈ s.rows, nameOk r.deal = true) then 5 else if 20 < s.parts.length then 2 else if ¬ (∀ p ∈ s.parts, nameOk p.party = true) then 5 else 0
structure StOk (s : Stm) : Prop where
  per : 0 ≤ s.period ∧ s.period ≤ 2400
  grp : nameOk s.group = true
  rl : s.rows.length ≤ 40
  rn : ∀ r ∈ s.rows, nameOk r.deal = true
  pl : s.parts.length ≤ 20
  pn : ∀ p ∈ s.parts, nameOk p.party = true
theorem stF_ok {s : Stm} (h : stF s = 0) : StOk s := by
  unfold stF at h
  repeat' split at h
  all_goals first | omega | skip
  rename_i h1 h2 h3 h4 h5 h6
  exact ⟨Decidable.not_not.1 h1, by simpa using h2, by omega, Classical.not_not.1 h4, by omega, Classical.not_not.1 h6⟩
def strL (l : List UInt8) : ByteArray := ⟨l.toArray⟩
def numB (n : Int) : ByteArray := (⟨#[32]⟩ : ByteArray) ++ itoaB n
/-- A line: its first word, its numbers. -/
def lnL (f : ByteArray) (ns : List Int) : List UInt8 := f.data.toList ++ ns.flatMap (fun n => (numB n).data.toList) ++ (⟨#[10]⟩ : ByteArray).data.toList
def wSt : ByteArray := ⟨#[115, 116, 97, 116, 101, 109, 101, 110, 116, 32]⟩
def wOp : ByteArray := ⟨#[111, 112, 101, 110, 105, 110, 103]⟩
def wPd : ByteArray := ⟨#[112, 97, 105, 100]⟩
def wCl : ByteArray := ⟨#[99, 108, 111, 115, 105, 110, 103]⟩
def T1 (s : Stm) : List UInt8 := lnL (((wSt ++ itoaB s.period) ++ (⟨#[32]⟩ : ByteArray)) ++ s.group) [] ++ lnL wOp [s.opening]
def rowT (r : Rw) : List UInt8 := lnL ((⟨#[32, 32]⟩ : ByteArray) ++ r.deal) [r.earned, r.withheld, r.released, r.advance]
def partT (p : Pd) : List UInt8 := lnL ((⟨#[32, 32]⟩ : ByteArray) ++ p.party) [p.cents]
def T2 (s : Stm) (k : Nat) : List UInt8 := T1 s ++ (s.rows.take k).flatMap rowT
def T3 (s : Stm) : List UInt8 := T2 s s.rows.length ++ lnL wPd [s.paid]
def T4 (s : Stm) (k : Nat) : List UInt8 := T3 s ++ (s.parts.take k).flatMap partT
def showL (s : Stm) : List UInt8 := T4 s s.parts.length ++ lnL wCl [s.closing]
def showS (s : Stm) : ByteArray := if stF s = 0 then strL (showL s) else ⟨#[]⟩
theorem show_bad {s : Stm} {f : Int} (h : stF s = f) (hf : f ≠ 0) : stF s = f ∧ showS s = ⟨#[]⟩ := ⟨h, by unfold showS; rw [if_neg (by omega)]⟩
theorem show_good {s : Stm} (h : stF s = 0) : stF s = 0 ∧ showS s = strL (showL s) := ⟨h, if_pos h⟩
theorem ba_app (a b : ByteArray) : (a ++ b).data.toList = a.data.toList ++ b.data.toList := by simp
theorem szMk (a : Array UInt8) : ByteArray.size ⟨a⟩ = a.size := rfl
theorem itoa_sz {n : Int} (h : i64 n) : (itoaB n).size ≤ 21 := by
  exact itoaB_size h.1 h.2
theorem num_sz {n : Int} (h : i64 n) : (numB n).size ≤ 22 := by
  unfold numB
  have := itoa_sz h
  rw [ByteArray.size_append]
  show 1 + _ ≤ 22
  omega
theorem nums_len : ∀ {ns : List Int}, (∀ n ∈ ns, i64 n) → (ns.flatMap (fun n => (numB n).data.toList)).length ≤ 22 * ns.length
  | [], _ => by simp
  | n :: ns, h => by
    have h1 := num_sz (h n (by simp))
    have h2 := nums_len (ns := ns) fun m hm => h m (by simp [hm])
    have h3 : (numB n).data.toList.length = (numB n).size := (Lib.size_eq _).symm
    rw [List.flatMap_cons, List.length_append, List.length_cons]
    omega
theorem ln_len {f : ByteArray} {ns : List Int} (h : ∀ n ∈ ns, i64 n) : (lnL f ns).length ≤ f.size + 22 * ns.length + 1 := by
  unfold lnL
  have h1 := nums_len h
  rw [List.length_append, List.length_append, ← Lib.size_eq]
  show _ + 1 ≤ _
  omega
theorem numS_next {ns : List Int} {k : Nat} (h : k < ns.length) : (ns.take (k + 1)).flatMap (fun n => (numB n).data.toList) = (ns.take k).flatMap (fun n => (numB n).data.toList) ++ (numB ns[k]).data.toList := by
  rw [List.take_add_one, List.getElem?_eq_getElem h, Option.toList_some, List.flatMap_append, List.flatMap_cons, List.flatMap_nil, List.append_nil]
theorem T2_next {s : Stm} {k : Nat} (h : k < s.rows.length) : T2 s (k + 1) = T2 s k ++ rowT s.rows[k] := by
  unfold T2
  rw [List.take_add_one, List.getElem?_eq_getElem h, Option.toList_some, List.flatMap_append, List.flatMap_cons, List.flatMap_nil, List.append_nil, List.append_assoc]
theorem T4_next {s : Stm} {k : Nat} (h : k < s.parts.length) : T4 s (k + 1) = T4 s k ++ partT s.parts[k] := by
  unfold T4
  rw [List.take_add_one, List.getElem?_eq_getElem h, Option.toList_some, List.flatMap_append, List.flatMap_cons, List.flatMap_nil, List.append_nil, List.append_assoc]
theorem T2_0 (s : Stm) : T2 s 0 = T1 s := by simp [T2]
theorem T4_0 (s : Stm) : T4 s 0 = T3 s := by simp [T4]
theorem fm_len {α : Type} {f : α → List UInt8} {b : Nat} : ∀ {l : List α}, (∀ x ∈ l, (f x).length ≤ b) → (l.flatMap f).length ≤ b * l.length
  | [], _ => by simp
  | x :: l, h => by
    have h1 := h x (by simp)
    have h2 := fm_len (l := l) fun y hy => h y (by simp [hy])
    rw [List.flatMap_cons, List.length_append, List.length_cons, Nat.mul_add]
    omega
theorem all1 {P : Int → Prop} {a : Int} (h : P a) : ∀ n ∈ [a], P n := fun n hn => by rw [List.mem_singleton] at hn; rw [hn]; exact h
theorem row_i64 {r : Rw} (h : okRw r) : ∀ n ∈ [r.earned, r.withheld, r.released, r.advance], i64 n := fun n hn => by
  simp only [List.mem_cons, List.not_mem_nil, or_false] at hn
  rcases hn with rfl | rfl | rfl | rfl
  · exact h.2.1
  · exact h.2.2.1
  · exact h.2.2.2.1
  · exact h.2.2.2.2
theorem row_len {r : Rw} (h : okRw r) (hn : nameOk r.deal = true) : (rowT r).length ≤ 131 := by
  have h1 := name_len hn
  have h2 := ln_len (f := (⟨#[32, 32]⟩ : ByteArray) ++ r.deal) (row_i64 h)
  unfold rowT
  rw [ByteArray.size_append] at h2
  have h3 : (⟨#[32, 32]⟩ : ByteArray).size = 2 := rfl
  simp only [List.length_cons, List.length_nil] at h2
  omega
theorem part_len {p : Pd} (h : okPd p) (hn : nameOk p.party = true) : (partT p).length ≤ 65 := by
  have h1 := name_len hn
  have h2 := ln_len (f := (⟨#[32, 32]⟩ : ByteArray) ++ p.party) (all1 h.2)
  unfold partT
  rw [ByteArray.size_append] at h2
  have h3 : (⟨#[32, 32]⟩ : ByteArray).size = 2 := rfl
  simp only [List.length_cons, List.length_nil] at h2
  omega
theorem w_szs : wSt.size = 10 ∧ wOp.size = 7 ∧ wPd.size = 4 ∧ wCl.size = 7 := ⟨rfl, rfl, rfl, rfl⟩
theorem T1_len {s : Stm} (h : okStm s) (hs : StOk s) : (T1 s).length ≤ 200 := by
  obtain ⟨w1, w2, w3, w4⟩ := w_szs
  have h1 := name_len hs.grp
  have h2 := itoa_sz h.1
  have h3 := ln_len (f := ((wSt ++ itoaB s.period) ++ (⟨#[32]⟩ : ByteArray)) ++ s.group) (ns := []) (fun n hn => by cases hn)
  have h4 := ln_len (f := wOp) (all1 h.2.2.2.1)
  have h5 : (⟨#[32]⟩ : ByteArray).size = 1 := rfl
  unfold T1
  simp only [ByteArray.size_append, List.length_cons, List.length_nil, List.length_append] at *
  omega
theorem T2_len {s : Stm} (h : okStm s) (hs : StOk s) (k : Nat) : (T2 s k).length ≤ 6000 := by
  have h1 := T1_len h hs
  have h2 := fm_len (f := rowT) (b := 131) (l := s.rows.take k) fun r hr => row_len (h.2.2.1 r (List.mem_of_mem_take hr)) (hs.rn r (List.mem_of_mem_take hr))
  have h3 := hs.rl
  unfold T2
  rw [List.length_take] at h2
  rw [List.length_append]
  omega
theorem T3_len {s : Stm} (h : okStm s) (hs : StOk s) : (T3 s).length ≤ 6100 := by
  obtain ⟨w1, w2, w3, w4⟩ := w_szs
  have h1 := T2_len h hs s.rows.length
  have h4 := ln_len (f := wPd) (all1 h.2.2.2.2.1)
  unfold T3
  simp only [List.length_cons, List.length_nil, List.length_append] at *
  omega
theorem T4_len {s : Stm} (h : okStm s) (hs : StOk s) (k : Nat) : (T4 s k).length ≤ 7500 := by
  have h1 := T3_len h hs
  have h2 := fm_len (f := partT) (b := 65) (l := s.parts.take k) fun r hr => part_len (h.2.2.2.2.2.1 r (List.mem_of_mem_take hr)) (hs.pn r (List.mem_of_mem_take hr))
  have h3 := hs.pl
  unfold T4
  rw [List.length_take] at h2
  rw [List.length_append]
  omega
section
variable {P : Program} {B : Nat} {ops : Array Oper} {o : Oper} {e : Env} {σ : Obs}
/-- a + b. -/
theorem AOp.cat {t ty : TypeId} {x y : Operand} {a b : ByteArray} (ho : o.op = .binOp .add t x y ty) (hx : e.ev x = .d (.v (.string a))) (hy : e.ev y = .d (.v (.string b))) (hl : a.size + b.size ≤ 9223372036854775807) :
    AOp P B ops o e σ (.d (.v (.string (a ++ b)))) :=
  .bin ho hx hy fun w => by
    rw [Sem.run_bind, eqGuard_str]
    exact run_string_add_sum (P := P) (w := w) a b hl
end
theorem bld_same {id r : Nat} {l l' : List UInt8} {τ : Obs} (h : l = l') : ∀ p ∈ Bld id r l', p ∈ Obs.join (Bld id r l) τ := fun p hp => by
  subst h
  rcases List.mem_cons.1 hp with rfl | hp
  · exact .head _
  · rw [List.mem_singleton] at hp; subst hp; exact .tail _ (.head _)
def iD (n : Int) : List D := [.v (.int .i64 n)]
theorem ln_eq (l : List UInt8) (f : ByteArray) (ns : List Int) : ((l ++ f.data.toList) ++ ns.flatMap (fun n => (numB n).data.toList)) ++ (⟨#[10]⟩ : ByteArray).data.toList = l ++ lnL f ns := by
  unfold lnL
  simp only [List.append_assoc]
theorem take_ok {α : Type} {P : α → Prop} {l : List α} {k : Nat} (h : k < l.length) (h1 : ∀ x ∈ l.take k, P x) (h2 : P l[k]) : ∀ x ∈ l.take (k + 1), P x := fun x hx => by
  rw [List.take_add_one, List.getElem?_eq_getElem h, Option.toList_some, List.mem_append, List.mem_singleton] at hx
  rcases hx with hx | rfl
  · exact h1 x hx
  · exact h2


set_option maxRecDepth 100000 in
set_option maxHeartbeats 1000000 in
theorem c_line (l : List UInt8) (f : ByteArray) (ns : List Int) (hf0 : 0 < f.size) (hf : f.size ≤ 1000) (hl : l.length ≤ 100000) (hn : ns.length ≤ 10) (hns : ∀ n ∈ ns, i64 n) : XCallT Tryd.prog gTabI TabI 30 [.d (.v (.string f)), .d (.sl (ns.map iD)), .ptr 901 0] (Bld 901 801 l) (Bld 901 801 (l ++ lnL f ns)) (fun i => Nat.beq i 801) (.tup []) := by
  refine xcallT_of (n := 21) (ds' := []) Tryd.func30 rfl (by kernel_rfl) rfl [] rfl rfl tabI_at ?_
  intro B w0 F0 fr ρ0 hT
  have hfl : f.data.toList.length = f.size := (Lib.size_eq f).symm
  refine AWP.seq (AWP.region ?_)
  refine AOps.mD rfl rfl rfl rfl rfl ?_
  -- writes 901 801
  refine AOps.callX rfl rfl rfl (.cons (SLe.refl _) (.cons (SLe.refl _) .nil)) (c_ws 901 801 (by decide) l f hf0 (by omega)) ⟨(.head _), (.tail _ (.head _)), trivial⟩ rfl rfl (fun i h => by show (!(Nat.beq i 801)) = false; rw [show Nat.beq i 801 = true from h]; rfl) ?_
  refine AOps.nil ?_
  refine AWP.seq ?_
  refine AWP.seq (AWP.region ?_)
  refine AOps.mD rfl rfl rfl rfl rfl ?_
  refine AOps.step rfl rfl rfl (AOp.lenSl rfl et_63.ht rfl) ?_
  refine AOps.mD rfl rfl rfl rfl rfl (.nil ?_)
  refine AWP.block ?_
  refine AWP.loop (G := Nat) (fun k => Env.of [(11, .d (.v (.int .i64 (k : Int)))), (9, .d (.sl (ns.map iD))), (10, .d (.v (.int .i64 ((ns.map iD).length : Int)))), (2, .ptr 901 0)]) (fun k => (Bld 901 801 ((l ++ f.data.toList) ++ (ns.take k).flatMap (fun n => (numB n).data.toList)))) (fun k => k ≤ ns.length) (fun k => ns.length - k) 0 (Nat.zero_le _) (Sub.less ⟨(SLe.of_eq rfl), SLe.refl _, SLe.refl _, SLe.refl _, trivial⟩ (bld_same (by simp))) ?_
  intro k hk
  refine AWP.seq (AWP.region ?_)
  refine AOps.step rfl rfl rfl (AOp.lss rfl rfl rfl) (.nil ?_)
  refine AWP.seq ?_
  refine AWP.cond rfl (fun h1 => ?_) (fun h1 => ?_)
  · replace h1 := of_decide_eq_true h1
    rw [List.length_map] at h1
    have hlt : k < ns.length := by omega
    have hik := hns _ (List.getElem_mem hlt)
    have hiz := itoa_sz hik
    have hnz : 0 < (numB ns[k]).size := by unfold numB; rw [ByteArray.size_append]; show 0 < 1 + _; omega
    have hnz2 := num_sz hik
    have hkl := nums_len (ns := ns.take k) (fun n h => hns n (List.mem_of_mem_take h))
    rw [List.length_take] at hkl
    refine AWP.skip ?_
    refine AWP.seq ?_
    refine AWP.block ?_
    refine AWP.seq (AWP.region ?_)
    refine AOps.step rfl rfl rfl (AOp.indexAddr rfl et_63 rfl rfl k rfl (at_lst hlt) rfl) ?_
    refine AOps.step rfl rfl rfl (AOp.load rfl sc_3 rfl) ?_
    refine AOps.aD rfl rfl rfl rfl rfl (.nil ?_)
    refine AWP.region ?_
    refine AOps.mD rfl rfl rfl rfl rfl ?_
    -- wants the world
    refine AOps.callTC rfl rfl rfl hT (.cons (ArgOk.rfl' rfl) .nil) (c_itoa ns[k] hik.1 hik.2) ?_
    refine AOps.step rfl rfl rfl (AOp.cat rfl rfl rfl (by simp only [ByteArray.size_append, szMk, List.size_toArray, List.length_cons, List.length_nil]; omega)) ?_
    -- writes 901 801
    refine AOps.callX rfl rfl rfl (.cons (SLe.refl _) (.cons (SLe.refl _) .nil)) (c_ws 901 801 (by decide) ((l ++ f.data.toList) ++ (ns.take k).flatMap (fun n => (numB n).data.toList)) (numB ns[k]) (by omega) (by simp only [List.length_append]; omega)) ⟨(.head _), (.tail _ (.head _)), trivial⟩ rfl rfl (fun i h => by show (!(Nat.beq i 801)) = false; rw [show Nat.beq i 801 = true from h]; rfl) ?_
    refine AOps.nil ?_
    refine AWP.region ?_
    refine AOps.step rfl rfl rfl (AOp.add64 rfl rfl rfl (by omega) (by omega)) ?_
    refine AOps.mD rfl rfl rfl rfl rfl (.nil ?_)
    refine ⟨k + 1, (by omega), (by dsimp only; omega), Sub.less ⟨(SLe.of_eq rfl), SLe.refl _, SLe.refl _, SLe.refl _, trivial⟩ (bld_same (by rw [numS_next hlt, ← List.append_assoc]))⟩
  replace h1 := of_decide_eq_false h1
  rw [List.length_map] at h1
  obtain rfl : k = ns.length := by omega
  rw [List.take_length]
  have hkl := nums_len hns
  refine AWP.exit ?_
  refine AWP.region ?_
  -- writes 901 801
  refine AOps.callX rfl rfl rfl (.cons (SLe.refl _) (.cons (SLe.refl _) .nil)) (c_ws 901 801 (by decide) ((l ++ f.data.toList) ++ ns.flatMap (fun n => (numB n).data.toList)) ⟨#[10]⟩ (by decide) (by have : (⟨#[10]⟩ : ByteArray).size = 1 := rfl; simp only [List.length_append]; omega)) ⟨(.head _), (.tail _ (.head _)), trivial⟩ rfl rfl (fun i h => by show (!(Nat.beq i 801)) = false; rw [show Nat.beq i 801 = true from h]; rfl) ?_
  refine AOps.nil ?_
  refine ⟨trivial, ⟨mem_ob_eq (.head _) ?_, mem_ob_eq (.tail _ (.head _)) ?_, trivial⟩⟩
  all_goals (rw [ln_eq])

set_option maxRecDepth 100000 in
set_option maxHeartbeats 1000000 in
theorem c_pChk (s : Stm) (ho : okStm s) : ACall Tryd.prog 29 [.agg s.ds] (.v (.int .i64 (stF s))) := by
  refine acall_of (n := 50) (ds' := [.v (.int .i64 (stF s))]) Tryd.func29 rfl (by kernel_rfl) rfl [2] rfl rfl ?_
  intro B w0 F0 fr
  refine AWP.seq (AWP.region ?_)
  refine AOps.step rfl rfl rfl (AOp.box rfl rfl rfl) ?_
  refine AOps.aD rfl rfl rfl rfl rfl (.nil ?_)
  refine AWP.seq ?_
  refine AWP.block ?_
  refine AWP.seq (AWP.region ?_)
  refine AOps.step rfl rfl rfl (AOp.fieldAddr rfl fo_53_0 rfl) ?_
  refine AOps.step rfl rfl rfl (AOp.load rfl sc_3 rfl) ?_
  refine AOps.step rfl rfl rfl (AOp.call rfl (.cons (ArgOk.rfl' rfl) (.cons (ArgOk.rfl' rfl) (.cons (ArgOk.rfl' rfl) .nil))) (c_pIn _ _ _)) ?_
  refine AOps.step rfl rfl rfl (AOp.not rfl rfl) ?_
  refine AOps.aD rfl rfl rfl rfl rfl (.nil ?_)
  refine AWP.cond rfl (fun h1 => ?_) (fun h1 => ?_)
  · replace h1 := bnot_t h1; replace h1 := of_decide_eq_false h1
    have HR : stF s = 1 := if_pos h1
    refine AWP.seq (AWP.region ?_)
    refine AOps.aD rfl rfl rfl rfl rfl (.nil ?_)
    refine AWP.ret ?_
    refine ⟨RetD.eq rfl ?_, trivial⟩
    all_goals (rw [HR])
  replace h1 := bnot_f h1; replace h1 := of_decide_eq_true h1
  have n0 := h1
  refine AWP.seq (AWP.region ?_)
  refine AOps.step rfl rfl rfl (AOp.fieldAddr rfl fo_53_1 rfl) ?_
  refine AOps.step rfl rfl rfl (AOp.load rfl sc_9 rfl) ?_
  refine AOps.step rfl rfl rfl (AOp.call rfl (.cons (ArgOk.rfl' rfl) .nil) (c_pName _ ho.2.1)) ?_
  refine AOps.step rfl rfl rfl (AOp.not rfl rfl) ?_
  refine AOps.aD rfl rfl rfl rfl rfl (.nil ?_)
  refine AWP.cond rfl (fun h2 => ?_) (fun h2 => ?_)
  · replace h2 := bnot_t h2
    have HR : stF s = 5 := by unfold stF; rw [if_neg (fun hh => hh n0), if_pos h2]
    refine AWP.seq (AWP.region ?_)
    refine AOps.aD rfl rfl rfl rfl rfl (.nil ?_)
    refine AWP.ret ?_
    refine ⟨RetD.eq rfl ?_, trivial⟩
    all_goals (rw [HR])
  replace h2 := bnot_f h2
  have n1 : ¬ nameOk s.group = false := by rw [h2]; decide
  refine AWP.seq (AWP.region ?_)
  refine AOps.step rfl rfl rfl (AOp.fieldAddr rfl fo_53_2 rfl) ?_
  refine AOps.step rfl rfl rfl (AOp.load rfl sc_51 rfl) ?_
  refine AOps.step rfl rfl rfl (AOp.lenSl rfl et_51.ht rfl) ?_
  refine AOps.step rfl rfl rfl (AOp.gtr rfl rfl rfl) ?_
  refine AOps.aD rfl rfl rfl rfl rfl (.nil ?_)
  refine AWP.cond rfl (fun h3 => ?_) (fun h3 => ?_)
  · replace h3 := of_decide_eq_true h3
    rw [List.length_map] at h3
    have HR : stF s = 2 := by unfold stF; rw [if_neg (fun hh => hh n0), if_neg n1, if_pos (by omega)]
    refine AWP.seq (AWP.region ?_)
    refine AOps.aD rfl rfl rfl rfl rfl (.nil ?_)
    refine AWP.ret ?_
    refine ⟨RetD.eq rfl ?_, trivial⟩
    all_goals (rw [HR])
  replace h3 := of_decide_eq_false h3
  rw [List.length_map] at h3
  have n2 : ¬ 40 < s.rows.length := by omega
  refine AWP.skip ?_
  refine AWP.seq ?_
  refine AWP.seq (AWP.region ?_)
  refine AOps.step rfl rfl rfl (AOp.fieldAddr rfl fo_53_2 rfl) ?_
  refine AOps.step rfl rfl rfl (AOp.load rfl sc_51 rfl) ?_
  refine AOps.step rfl rfl rfl (AOp.lenSl rfl et_51.ht rfl) ?_
  refine AOps.mD rfl rfl rfl rfl rfl (.nil ?_)
  refine AWP.block ?_
  refine AWP.loop (G := Nat) (fun k => Env.of [(25, .d (.v (.int .i64 (k : Int)))), (23, .d (.sl (s.rows.map Rw.ds))), (24, .d (.v (.int .i64 ((s.rows.map Rw.ds).length : Int)))), (1, .d (.fp s.ds))]) (fun k => []) (fun k => k ≤ s.rows.length ∧ ∀ r ∈ s.rows.take k, nameOk r.deal = true) (fun k => s.rows.length - k) 0 ⟨Nat.zero_le _, fun r h => by simp at h⟩ (Sub.less ⟨(SLe.of_eq rfl), SLe.refl _, SLe.refl _, SLe.refl _, trivial⟩ (fun _ h => h)) ?_
  intro k hk
  refine AWP.seq (AWP.region ?_)
  refine AOps.step rfl rfl rfl (AOp.lss rfl rfl rfl) (.nil ?_)
  refine AWP.seq ?_
  refine AWP.cond rfl (fun h4 => ?_) (fun h4 => ?_)
  · replace h4 := of_decide_eq_true h4
    rw [List.length_map] at h4
    have hlt : k < s.rows.length := by omega
    refine AWP.skip ?_
    refine AWP.seq ?_
    refine AWP.block ?_
    refine AWP.seq (AWP.region ?_)
    refine AOps.step rfl rfl rfl (AOp.indexAddr rfl et_51 rfl rfl k rfl (at_lst hlt) rfl) ?_
    refine AOps.step rfl rfl rfl (AOp.loadAgg rfl ag_86 rfl rfl) ?_
    refine AOps.alloc 101 rfl rfl rfl rfl zt_86 rfl rfl rfl ?_
    refine AOps.store rfl rfl rfl sz_86 rfl (.head _) rfl rfl rfl (Nat.le_of_ble_eq_true rfl) ?_
    refine AOps.freezeCells 4 (ds := s.rows[k].ds) rfl (.head _) (.nil ?_)
    refine AWP.seq (AWP.region ?_)
    refine AOps.step rfl rfl rfl (AOp.fieldAddr rfl fo_86_0 rfl) ?_
    refine AOps.step rfl rfl rfl (AOp.load rfl sc_9 rfl) ?_
    refine AOps.step rfl rfl rfl (AOp.call rfl (.cons (ArgOk.rfl' rfl) .nil) (c_pName _ (ho.2.2.1 _ (List.getElem_mem hlt)).1)) ?_
    refine AOps.step rfl rfl rfl (AOp.not rfl rfl) (.nil ?_)
    refine AWP.cond rfl (fun h5 => ?_) (fun h5 => ?_)
    · replace h5 := bnot_t h5
      have HR : stF s = 5 := by unfold stF; rw [if_neg (fun hh => hh n0), if_neg n1, if_neg n2, if_pos (fun hh => by have := hh _ (List.getElem_mem hlt); rw [show nameOk s.rows[k].deal = false from h5] at this; cases this)]
      refine AWP.seq (AWP.region ?_)
      refine AOps.aD rfl rfl rfl rfl rfl (.nil ?_)
      refine AWP.ret ?_
      refine ⟨RetD.eq rfl ?_, trivial⟩
      all_goals (rw [HR])
    replace h5 := bnot_f h5
    have HA := take_ok (P := fun r : Rw => nameOk r.deal = true) hlt hk.2 h5
    refine AWP.skip ?_
    refine AWP.region ?_
    refine AOps.step rfl rfl rfl (AOp.add64 rfl rfl rfl (by omega) (by omega)) ?_
    refine AOps.mD rfl rfl rfl rfl rfl (.nil ?_)
    refine ⟨k + 1, ⟨by omega, HA⟩, (by dsimp only; omega), Sub.less ⟨(SLe.of_eq rfl), SLe.refl _, SLe.refl _, SLe.refl _, trivial⟩ (fun _ h => h)⟩
  replace h4 := of_decide_eq_false h4
  rw [List.length_map] at h4
  obtain rfl : k = s.rows.length := by omega
  have n3 := hk.2
  rw [List.take_length] at n3
  refine AWP.exit ?_
  refine AWP.seq ?_
  refine AWP.seq (AWP.region ?_)
  refine AOps.step rfl rfl rfl (AOp.fieldAddr rfl fo_53_5 rfl) ?_
  refine AOps.step rfl rfl rfl (AOp.load rfl sc_45 rfl) ?_
  refine AOps.step rfl rfl rfl (AOp.lenSl rfl et_45.ht rfl) ?_
  refine AOps.step rfl rfl rfl (AOp.gtr rfl rfl rfl) (.nil ?_)
  refine AWP.cond rfl (fun h6 => ?_) (fun h6 => ?_)
  · replace h6 := of_decide_eq_true h6
    rw [List.length_map] at h6
    have HR : stF s = 2 := by unfold stF; rw [if_neg (fun hh => hh n0), if_neg n1, if_neg n2, if_neg (fun hh => hh n3), if_pos (by omega)]
    refine AWP.seq (AWP.region ?_)
    refine AOps.aD rfl rfl rfl rfl rfl (.nil ?_)
    refine AWP.ret ?_
    refine ⟨RetD.eq rfl ?_, trivial⟩
    all_goals (rw [HR])
  replace h6 := of_decide_eq_false h6
  rw [List.length_map] at h6
  have n4 : ¬ 20 < s.parts.length := by omega
  refine AWP.skip ?_
  refine AWP.seq ?_
  refine AWP.seq (AWP.region ?_)
  refine AOps.step rfl rfl rfl (AOp.fieldAddr rfl fo_53_5 rfl) ?_
  refine AOps.step rfl rfl rfl (AOp.load rfl sc_45 rfl) ?_
  refine AOps.step rfl rfl rfl (AOp.lenSl rfl et_45.ht rfl) ?_
  refine AOps.mD rfl rfl rfl rfl rfl (.nil ?_)
  refine AWP.block ?_
  refine AWP.loop (G := Nat) (fun k => Env.of [(41, .d (.v (.int .i64 (k : Int)))), (39, .d (.sl (s.parts.map Pd.ds))), (40, .d (.v (.int .i64 ((s.parts.map Pd.ds).length : Int)))), (1, .d (.fp s.ds))]) (fun k => []) (fun k => k ≤ s.parts.length ∧ ∀ p ∈ s.parts.take k, nameOk p.party = true) (fun k => s.parts.length - k) 0 ⟨Nat.zero_le _, fun r h => by simp at h⟩ (Sub.less ⟨(SLe.of_eq rfl), SLe.refl _, SLe.refl _, SLe.refl _, trivial⟩ (fun _ h => h)) ?_
  intro k hk
  refine AWP.seq (AWP.region ?_)
  refine AOps.step rfl rfl rfl (AOp.lss rfl rfl rfl) (.nil ?_)
  refine AWP.seq ?_
  refine AWP.cond rfl (fun h7 => ?_) (fun h7 => ?_)
  · replace h7 := of_decide_eq_true h7
    rw [List.length_map] at h7
    have hlt : k < s.parts.length := by omega
    refine AWP.skip ?_
    refine AWP.seq ?_
    refine AWP.block ?_
    refine AWP.seq (AWP.region ?_)
    refine AOps.step rfl rfl rfl (AOp.indexAddr rfl et_45 rfl rfl k rfl (at_lst hlt) rfl) ?_
    refine AOps.step rfl rfl rfl (AOp.loadAgg rfl ag_50 rfl rfl) ?_
    refine AOps.alloc 102 rfl rfl rfl rfl zt_50 rfl rfl rfl ?_
    refine AOps.store rfl rfl rfl sz_50 rfl (.head _) rfl rfl rfl (Nat.le_of_ble_eq_true rfl) ?_
    refine AOps.freezeCells 6 (ds := s.parts[k].ds) rfl (.head _) (.nil ?_)
    refine AWP.seq (AWP.region ?_)
    refine AOps.step rfl rfl rfl (AOp.fieldAddr rfl fo_50_0 rfl) ?_
    refine AOps.step rfl rfl rfl (AOp.load rfl sc_9 rfl) ?_
    refine AOps.step rfl rfl rfl (AOp.call rfl (.cons (ArgOk.rfl' rfl) .nil) (c_pName _ (ho.2.2.2.2.2.1 _ (List.getElem_mem hlt)).1)) ?_
    refine AOps.step rfl rfl rfl (AOp.not rfl rfl) (.nil ?_)
    refine AWP.cond rfl (fun h8 => ?_) (fun h8 => ?_)
    · replace h8 := bnot_t h8
      have HR : stF s = 5 := by unfold stF; rw [if_neg (fun hh => hh n0), if_neg n1, if_neg n2, if_neg (fun hh => hh n3), if_neg n4, if_pos (fun hh => by have := hh _ (List.getElem_mem hlt); rw [show nameOk s.parts[k].party = false from h8] at this; cases this)]
      refine AWP.seq (AWP.region ?_)
      refine AOps.aD rfl rfl rfl rfl rfl (.nil ?_)
      refine AWP.ret ?_
      refine ⟨RetD.eq rfl ?_, trivial⟩
      all_goals (rw [HR])
    replace h8 := bnot_f h8
    have HA := take_ok (P := fun p : Pd => nameOk p.party = true) hlt hk.2 h8
    refine AWP.skip ?_
    refine AWP.region ?_
    refine AOps.step rfl rfl rfl (AOp.add64 rfl rfl rfl (by omega) (by omega)) ?_
    refine AOps.mD rfl rfl rfl rfl rfl (.nil ?_)
    refine ⟨k + 1, ⟨by omega, HA⟩, (by dsimp only; omega), Sub.less ⟨(SLe.of_eq rfl), SLe.refl _, SLe.refl _, SLe.refl _, trivial⟩ (fun _ h => h)⟩
  replace h7 := of_decide_eq_false h7
  rw [List.length_map] at h7
  obtain rfl : k = s.parts.length := by omega
  have n5 := hk.2
  rw [List.take_length] at n5
  have HR : stF s = 0 := by unfold stF; rw [if_neg (fun hh => hh n0), if_neg n1, if_neg n2, if_neg (fun hh => hh n3), if_neg n4, if_neg (fun hh => hh n5)]
  refine AWP.exit ?_
  refine AWP.seq (AWP.region ?_)
  refine AOps.aD rfl rfl rfl rfl rfl (.nil ?_)
  refine AWP.ret ?_
  refine ⟨RetD.eq rfl ?_, trivial⟩
  all_goals (rw [HR])

end Go.Proofs.YtekenfknoakboaaDoor
