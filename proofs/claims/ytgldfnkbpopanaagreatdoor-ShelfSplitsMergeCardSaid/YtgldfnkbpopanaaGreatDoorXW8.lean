/- Walks and laws over abstract values, merged by tools/merge.py. No statement of the seat. -/
import Derived.Shelf.Spec.SlicesInsertGrow
import Derived.Deep.RegionLaw
import Derived.Laws.NewBlocks
import Derived.Test.YtgldfnkbpopanaaGreatDoorXW7

namespace Go.Proofs.YtgldfnkbpopanaaGreatDoor
open Go.RowKit
set_option linter.unusedVariables false

/-! Types. -/
namespace TyLV
end TyLV
open TyH3 TyH5 TyJ3 TyJ4 TyJ5 TyKA TyKB TyKC TyKD TyKE TyKF TyKG TyLA TyLB TyLC TyLD TyLE TyLF TyLG TyLH TyLI TyLJ TyLK TyLL TyLM TyLN TyLO TyLP TyLQ TyLR TyLS TyLT TyLU TyLV

set_option linter.unusedSimpArgs false
set_option linter.unusedSectionVars false
section
variable {β : Type} [DecidableEq β]
def newB (A : GL β) (p : Int × β) : Bool := decide (findG A p.1 ≠ some p.2)
def goneB (B : GL β) (p : Int × β) : Bool := decide (findG B p.1 = none)
def btwP (A B : GL β) : GL β := B.filter (newB A)
def btwG (A B : GL β) : List Int := (A.filter (goneB B)).map (·.1)
def btwTo (A B : GL β) (n : Nat) : GL β := (B.take n).filter (newB A)
def gnTo (A B : GL β) (n : Nat) : List Int := ((A.take n).filter (goneB B)).map (·.1)
theorem find_filter {L : GL β} (h : NkG L) (q : Int × β → Bool) (k : Int) : findG (L.filter q) k = match findG L k with | some v => if q (k, v) = true then some v else none | none => none := by
  induction L with
  | nil => rfl
  | cons p L ih =>
    obtain ⟨h1, h2⟩ := List.pairwise_cons.1 h
    rw [findG_cons]
    by_cases hp : p.1 = k
    · rw [if_pos hp]
      subst hp
      dsimp only
      by_cases hq : q p = true
      · rw [List.filter_cons_of_pos hq, findG_cons, if_pos rfl, if_pos hq]
      · rw [List.filter_cons_of_neg hq, ih h2, if_neg hq]
        have : findG L p.1 = none := findG_none.2 (by
          cases hh : hasG L p.1 with
          | false => rfl
          | true => obtain ⟨u, hu, he⟩ := hasG_iff.1 hh; exact absurd he.symm (h1 u hu))
        rw [this]
    · rw [if_neg hp]
      by_cases hq : q p = true
      · rw [List.filter_cons_of_pos hq, findG_cons, if_neg hp, ih h2]
      · rw [List.filter_cons_of_neg hq, ih h2]
theorem IsDif.btwP {F : GL (Option β)} {A B : GL β} (h : IsDif F A B) (hB : RiK B) : valsG F = btwP A B := by
  refine rik_ext (valsG_ri h.nk) (hB.sublist List.filter_sublist) fun k => ?_
  unfold Go.Proofs.YtgldfnkbpopanaaGreatDoor.btwP
  rw [h.vals, find_filter hB.nk]
  cases hb : findG B k with
  | none => dsimp only; split <;> rfl
  | some v =>
    dsimp only
    unfold newB
    by_cases he : findG A k = some v
    · rw [if_pos he, if_neg (by simp [he])]
    · rw [if_neg he, if_pos (by simp [he])]
theorem IsDif.btwG {F : GL (Option β)} {A B : GL β} (h : IsDif F A B) (hA : RiK A) : noneG F = btwG A B := by
  have hu : UpL (Go.Proofs.YtgldfnkbpopanaaGreatDoor.btwG A B) := by
    have h1 : RiK (A.filter (goneB B)) := hA.sublist List.filter_sublist
    unfold UpL Go.Proofs.YtgldfnkbpopanaaGreatDoor.btwG
    rw [List.pairwise_map]; exact h1
  refine up_ext (noneG_up h.nk) hu fun k => ?_
  rw [h.gone]
  unfold Go.Proofs.YtgldfnkbpopanaaGreatDoor.btwG goneB
  rw [List.mem_map]
  constructor
  · rintro ⟨h1, h2⟩
    cases ha : findG A k with
    | none => rw [ha, h2] at h1; exact absurd rfl h1
    | some v => exact ⟨(k, v), List.mem_filter.2 ⟨find_mem ha, decide_eq_true h2⟩, rfl⟩
  · rintro ⟨p, hp, rfl⟩
    obtain ⟨h1, h2⟩ := List.mem_filter.1 hp
    have h3 := (mem_find hA.nk).1 h1
    have h4 := of_decide_eq_true h2
    exact ⟨by rw [h3, h4]; simp, h4⟩
end
def btwX (a b : Ctl) : Chg := ⟨(btwP (idxL a.things) (idxL b.things)).map (·.2), btwG (idxL a.things) (idxL b.things), (btwP (mvL a.moved) (mvL b.moved)).map mvO, btwG (mvL a.moved) (mvL b.moved)⟩
def differR (a b : Ctl) : Chg × Int := if chkF a = 0 then (if chkF b = 0 then (btwX a b, 0) else (zX, chkF b)) else (zX, chkF a)
end Go.Proofs.YtgldfnkbpopanaaGreatDoor

namespace Go.Proofs.YtgldfnkbpopanaaGreatDoor
open Go.RowKit
set_option linter.unusedVariables false

/-! Types. -/
namespace TyLW
end TyLW
open TyH3 TyH5 TyJ3 TyJ4 TyJ5 TyKA TyKB TyKC TyKD TyKE TyKF TyKG TyLA TyLB TyLC TyLD TyLE TyLF TyLG TyLH TyLI TyLJ TyLK TyLL TyLM TyLN TyLO TyLP TyLQ TyLR TyLS TyLT TyLU TyLV TyLW

set_option linter.unusedSimpArgs false
def L4 (x : Chg) : List (List Int) := [x.put.map Thg.id, x.drop, x.add.map Mvd.src, x.back]
def slI (l : List Int) : List D := [.sl (l.map intD)]
end Go.Proofs.YtgldfnkbpopanaaGreatDoor

namespace Go.Proofs.YtgldfnkbpopanaaGreatDoor
open Go.RowKit
set_option linter.unusedVariables false

end Go.Proofs.YtgldfnkbpopanaaGreatDoor

namespace Go.Proofs.YtgldfnkbpopanaaGreatDoor
open Go.RowKit
set_option linter.unusedVariables false

end Go.Proofs.YtgldfnkbpopanaaGreatDoor

namespace Go.Proofs.YtgldfnkbpopanaaGreatDoor
open Go.RowKit Go.Shelf
set_option linter.unusedVariables false

section
variable {cx : Cx} {e : Env} {σ : Obs} {Q : Post}
end

section
variable {cx : Cx} {ops : Array Oper} {o : Oper} {rest : List Oper} {e : Env} {σ : Obs} {Q : Post}
/-- []T{x}: an own row of one element. -/
theorem AOps.buildS {t el size bytes dst : Nat} {z : Value} {x : Operand} {d : D} (id : Nat) (hg : o.guard = none) (ht : o.dst = some dst) (hdn : Nat.blt dst cx.N = true) (ho : o.op = .buildSlice t 1 #[(0, x)]) (T : ElemTy cx.P t el size bytes z) (hsz : Nat.ble size 1000 = true) (hx : e.ev x = .d d) (h1 : d.one = true) (h2 : d.parts.length = size) (hid : Obs.fresh id σ = true)
    (k : AOps cx ops rest ((e.kill id).put (some dst) (.own id)) ((id, .row el size [d.parts]) :: Obs.kill id σ) Q) (hfx : cx.free id = true := by rfl) : AOps cx ops (o :: rest) e σ Q := by
  intro a w ⟨F, ρ, hr⟩
  have hsz' : size ≤ 1000 := by simpa [Nat.ble_eq] using hsz
  have hdn' : dst < cx.N := by simpa [Nat.blt_eq] using hdn
  have r1 := ev_rep (e := e) (x := x) (a := a) (fun t _ => hr.env t)
  rw [hx] at r1
  obtain ⟨h3, h4⟩ := parts_rep (repS_d r1) h1
  have hcl : (a.eval x).cells.toList.length = size := by rw [h3.1]; exact h2
  obtain ⟨c, hc⟩ : ∃ c, c = (a.eval x).cells.toList := ⟨_, rfl⟩
  have hcl' : c.length = size := by rw [hc]; exact hcl
  obtain ⟨i, hi, hz0, hz1, hz2⟩ := info_parts T.hi
  have hzc : z.cells.size = size := T.hz
  have hs0 : 0 < size := T.hs
  obtain ⟨cs', h5, h6⟩ := fill_inorder (size := size) 0 [(0, a.eval x)] ((Array.range size).map (fun j => z.cells[j % z.cells.size]!)) (fun j hj => by
    have hj0 : j = 0 := by simpa using hj
    subst hj0
    refine ⟨rfl, ?_⟩
    have : (a.eval x).cells.size = size := by rw [← Array.length_toList]; exact hcl
    simpa using this) (by simp)
  have h7 : cs'.toList = c := by
    have h9 : List.drop size (List.map (fun j => z.cells[j % z.cells.size]!) (List.range size)) = [] := List.drop_eq_nil_of_le (by simp)
    simpa [← hc, h9] using h6
  have hcs : cs' = c.toArray := by rw [← h7]
  have hrun : (execOp a.eval o).run cx.P w = .ok (.value (.slice (some ⟨w.heap.size, 0, none⟩) 1 1)) (w.alloc (.cells c.toArray el)) := by
    unfold execOp
    simp only [ho, Instr.buildSlice, Sem.run_bind, run_underlying T.ht, Result.andThen_ok, T.sizeOf]
    rw [if_neg (show ¬ (1 * size > 2 ^ 24) by omega), if_neg (show ¬ (1 * size = 0) by omega)]
    have hprog : (program : Sem Program).run cx.P w = .ok cx.P w := rfl
    simp only [Sem.run_bind, zeroValue, typeInfo, hprog, Result.andThen_ok, hi, Sem.run_pure, hz0]
    have h8 : Array.map (fun (p : Nat × Operand) => (p.fst, a.eval p.snd)) #[(0, x)] = #[(0, a.eval x)] := by simp
    rw [h8]
    rw [hcs] at h5
    simp only [Nat.one_mul, List.toArray] at h5 ⊢
    first | rw [h5] | skip
    rfl
  have hrow : (w.alloc (.cells c.toArray el)).ownsRow cx.B el size (.slice (some ⟨w.heap.size, 0, none⟩) 1 1) 1 c :=
    ⟨by rw [Nat.one_mul]; exact hcl', .inr ⟨w.heap.size, 1, c.toArray, rfl, hr.hB, heap_alloc_new w _, Nat.le_refl _, by unfold maxLen; omega, by simpa using hcl', by rw [Nat.one_mul, ← hcl']; simp⟩⟩
  have hfl : flat (fun _ j => c.getD j undef) 1 size = c := by
    unfold flat
    simp only [List.range_one, List.map_cons, List.map_nil, List.flatten_cons, List.flatten_nil, List.append_nil]
    apply List.ext_getElem
    · simp [hcl']
    · intro j hj hj2
      simp [List.getD_eq_getElem?_getD, hj2]
  obtain ⟨ρ', h9⟩ := hr.newRow (v := .slice (some ⟨w.heap.size, 0, none⟩) 1 1) (els := [d.parts]) (Obs.fresh_spec hid) hdn' ((Below.refl _ _).alloc (Nat.le_refl _) (.cells c.toArray el))
    ⟨fun _ j => c.getD j undef, by dsimp only; rw [if_pos rfl]; show World.ownsRow _ _ _ _ _ _ (flat (fun _ j => c.getD j undef) 1 size); rw [hfl]; exact hrow, fun i hi => by
      have : i = 0 := by simpa using hi
      subst this
      simpa using h2, fun i hi j hj => by
      have : i = 0 := by simpa using hi
      subst this
      have hj' : j < d.parts.length := by simpa using hj
      have hjc : j < c.length := by omega
      have hgd : c.getD j undef = c[j] := by simp [List.getD_eq_getElem?_getD, hjc]
      dsimp only
      rw [hgd]
      subst hc
      refine ⟨h4 _ (List.getElem_mem hjc), ?_⟩
      have h10 := h3.2 j hjc (by omega)
      have hE : Ext F w F (w.alloc (.cells (a.eval x).cells.toList.toArray el)) := Ext.of_below hr.lt ((Below.refl _ _).alloc (Nat.le_refl _) _)
      simpa using h10.ext hr.lt hE, fun g hg hf => by dsimp only at hg; rw [if_pos rfl] at hg; simp [blk] at hg; have := hr.lt g hf; omega⟩
    (fun g hg => by simp [blk] at hg; omega) hfx
  refine wpList_plain hg fun K hK => ?_
  unfold Oper.wp
  rw [hrun]
  have := k _ _ ⟨F, ρ', h9⟩
  rw [← ht] at this
  exact hK _ _ this
end
end Go.Proofs.YtgldfnkbpopanaaGreatDoor

namespace Go.Proofs.YtgldfnkbpopanaaGreatDoor
open Go.RowKit Go.Shelf Go.Lib
set_option linter.unusedVariables false
set_option linter.unusedSimpArgs false

/-- What Insert does with an own row. -/
structure InsEndG (e size B : Nat) (w : World) (v : Value) (n : Nat) (ys : List Value) (v' : Value) (w' : World) : Prop where
  own : w'.ownsRow B e size v' n ys
  turn : Turn w w' (blk v)
  new : ∀ g, blk v' = some g → blk v = some g ∨ w.heap.size ≤ g
structure InsT (P : Program) (f e size bytes : Nat) : Prop where
  ent : Enters P f
  calls : ∀ {B : Nat} {w : World} {v : Value} {n i vb vcap : Nat} {xs y : List Value} {ecur : Array Value} {ety : TypeId}, w.ownsRow B e size v n xs → (∀ u ∈ xs, u.oneCell' = true) → i ≤ n → B ≤ w.heap.size → (n + 1) * bytes ≤ 140737488355328 →
    w.heap[vb]? = some (.cells ecur ety (0, 0)) → 1 ≤ vcap ∧ vcap ≤ 9223372036854775807 → y.length = size → ecur.toList.take size = y → (∀ u ∈ y, u.oneCell' = true) → blk v ≠ some vb →
    Calls P f #[v, .int .i64 i, .slice (some ⟨vb, 0, none⟩) 1 vcap] w fun e' w' => ∃ v', e' = .returned v' ∧ InsEndG e size B w v (n + 1) (xs.take (i * size) ++ y ++ xs.drop (i * size)) v' w'
section
variable {cx : Cx} {ops : Array Oper} {o : Oper} {rest : List Oper} {e : Env} {σ : Obs} {Q : Post}
end
end Go.Proofs.YtgldfnkbpopanaaGreatDoor

namespace Go.Proofs.YtgldfnkbpopanaaGreatDoor
open Go.RowKit Go.Shelf Go.Lib
set_option linter.unusedVariables false
set_option linter.unusedSimpArgs false
namespace InsT
def zcpyV : Value := (Value.agg #[(.int .i64 0), (.int .i64 0), (.string ⟨#[]⟩), (.string ⟨#[]⟩), (.int .i64 0), (.int .i64 0), (.slice none 0 0)])
end InsT
end Go.Proofs.YtgldfnkbpopanaaGreatDoor

namespace Go.Proofs.YtgldfnkbpopanaaGreatDoor
open Go.RowKit Go.Shelf Go.Lib
set_option linter.unusedVariables false
set_option linter.unusedSimpArgs false
namespace InsM
def zcpyV : Value := (Value.agg #[(.int .i64 0), (.int .i64 0)])
end InsM
end Go.Proofs.YtgldfnkbpopanaaGreatDoor

namespace Go.Proofs.YtgldfnkbpopanaaGreatDoor
open Go.RowKit
set_option linter.unusedVariables false

/-! Types. -/
namespace TyLX
end TyLX
open TyH3 TyH5 TyJ3 TyJ4 TyJ5 TyKA TyKB TyKC TyKD TyKE TyKF TyKG TyLA TyLB TyLC TyLD TyLE TyLF TyLG TyLH TyLI TyLJ TyLK TyLL TyLM TyLN TyLO TyLP TyLQ TyLR TyLS TyLT TyLU TyLV TyLW TyLX

set_option linter.unusedSimpArgs false
section
variable {α : Type} {f : α → Int}
/-- How many stand ahead of number n; a put into its place. -/
def atF (f : α → Int) (l : List α) (n : Int) : Nat := (l.takeWhile fun a => decide (f a < n)).length
def putF (f : α → Int) (l : List α) (a : α) : List α := if (l[atF f l (f a)]?).map f = some (f a) then l.set (atF f l (f a)) a else l.take (atF f l (f a)) ++ [a] ++ l.drop (atF f l (f a))
def putR (f : α → Int) (a : α) : List α → List α
  | [] => [a]
  | x :: l => if f x < f a then x :: putR f a l else if f x = f a then a :: l else a :: x :: l
theorem atF_cons (x : α) (l : List α) (n : Int) : atF f (x :: l) n = if f x < n then atF f l n + 1 else 0 := by
  unfold atF
  rw [List.takeWhile_cons]
  by_cases h : f x < n <;> simp [h]
theorem putF_R (a : α) : ∀ l : List α, putF f l a = putR f a l
  | [] => by simp [putF, putR, atF]
  | x :: l => by
    have ih := putF_R a l
    unfold putF at ih ⊢
    rw [putR, atF_cons]
    by_cases h : f x < f a
    · rw [if_pos h, if_pos h, ← ih, List.getElem?_cons_succ]
      by_cases h2 : (l[atF f l (f a)]?).map f = some (f a)
      · rw [if_pos h2, if_pos h2]; rfl
      · rw [if_neg h2, if_neg h2]; rfl
    · rw [if_neg h, if_neg h, List.getElem?_cons_zero]
      by_cases h2 : f x = f a
      · rw [if_pos h2, if_pos (by simp [h2])]; rfl
      · rw [if_neg h2, if_neg (by simp [h2])]; rfl
theorem putR_mem {a b : α} : ∀ {l : List α}, b ∈ putR f a l → b = a ∨ b ∈ l
  | [], h => by rw [putR, List.mem_singleton] at h; exact .inl h
  | x :: l, h => by
    rw [putR] at h
    split at h
    · rcases List.mem_cons.1 h with rfl | h
      · exact .inr List.mem_cons_self
      · exact (putR_mem h).imp id (List.mem_cons_of_mem _)
    · split at h
      · rcases List.mem_cons.1 h with rfl | h
        · exact .inl rfl
        · exact .inr (List.mem_cons_of_mem _ h)
      · rcases List.mem_cons.1 h with rfl | h
        · exact .inl rfl
        · exact .inr h
theorem putR_ris {a : α} : ∀ {l : List α}, RisBy f l → RisBy f (putR f a l)
  | [], _ => by rw [putR]; exact List.pairwise_singleton ..
  | x :: l, h => by
    obtain ⟨h1, h2⟩ := List.pairwise_cons.1 h
    rw [putR]
    split
    · rename_i hl
      refine List.pairwise_cons.2 ⟨fun b hb => ?_, putR_ris h2⟩
      rcases putR_mem hb with rfl | hb
      · exact hl
      · exact h1 b hb
    · split
      · rename_i he
        exact List.pairwise_cons.2 ⟨fun b hb => by have := h1 b hb; omega, h2⟩
      · refine List.pairwise_cons.2 ⟨fun b hb => ?_, h⟩
        rcases List.mem_cons.1 hb with rfl | hb
        · omega
        · have := h1 b hb; omega
theorem putR_find {a : α} (k : Int) : ∀ {l : List α}, RisBy f l → findBy f (putR f a l) k = if f a = k then some a else findBy f l k
  | [], _ => by rw [putR, findBy_cons]
  | x :: l, h => by
    obtain ⟨h1, h2⟩ := List.pairwise_cons.1 h
    rw [putR]
    split
    · rename_i hl
      rw [findBy_cons, putR_find k h2, findBy_cons]
      by_cases hx : f x = k
      · rw [if_pos hx, if_pos hx, if_neg (by omega)]
      · rw [if_neg hx, if_neg hx]
    · split
      · rename_i he
        rw [findBy_cons, findBy_cons]
        by_cases ha : f a = k
        · rw [if_pos ha, if_pos ha]
        · rw [if_neg ha, if_neg ha, if_neg (by omega)]
      · rw [findBy_cons]
theorem putF_ris {a : α} {l : List α} (h : RisBy f l) : RisBy f (putF f l a) := by rw [putF_R]; exact putR_ris h
theorem putF_find {a : α} {l : List α} (h : RisBy f l) (k : Int) : findBy f (putF f l a) k = if f a = k then some a else findBy f l k := by rw [putF_R]; exact putR_find k h
theorem putF_mem {a b : α} {l : List α} (h : b ∈ putF f l a) : b = a ∨ b ∈ l := by rw [putF_R] at h; exact putR_mem h
end

end Go.Proofs.YtgldfnkbpopanaaGreatDoor

namespace Go.Proofs.YtgldfnkbpopanaaGreatDoor
open Go.RowKit
set_option linter.unusedVariables false

/-! Types. -/
namespace TyLY
end TyLY
open TyH3 TyH5 TyJ3 TyJ4 TyJ5 TyKA TyKB TyKC TyKD TyKE TyKF TyKG TyLA TyLB TyLC TyLD TyLE TyLF TyLG TyLH TyLI TyLJ TyLK TyLL TyLM TyLN TyLO TyLP TyLQ TyLR TyLS TyLT TyLU TyLV TyLW TyLX TyLY

set_option linter.unusedSimpArgs false
section
variable {α : Type} {f : α → Int}
def kp (f : α → Int) (l : List Int) (a : α) : Bool := !decide (f a ∈ l)
def kpTo (f : α → Int) (g : List Int) (l : List α) (n : Nat) : List α := (l.take n).filter (kp f g)
def putsF (f : α → Int) (l E : List α) : List α := E.foldl (putF f) l
theorem putsF_ris : ∀ (E : List α) {l : List α}, RisBy f l → RisBy f (putsF f l E)
  | [], _, h => h
  | a :: E, _, h => putsF_ris E (putF_ris (a := a) h)
theorem putsF_find (k : Int) : ∀ (E : List α), RisBy f E → ∀ {l : List α}, RisBy f l → findBy f (putsF f l E) k = match findBy f E k with | some a => some a | none => findBy f l k
  | [], _, l, _ => rfl
  | a :: E, hE, l, h => by
    obtain ⟨h1, h2⟩ := List.pairwise_cons.1 hE
    show findBy f (putsF f (putF f l a) E) k = _
    rw [putsF_find k E h2 (putF_ris h), putF_find h, findBy_cons]
    by_cases ha : f a = k
    · have : findBy f E k = none := findBy_none.2 fun b hb => by have := h1 b hb; omega
      rw [this, if_pos ha, if_pos ha]
    · rw [if_neg ha, if_neg ha]
end
def chgdC (c : Ctl) (x : Chg) : Ctl := ⟨putsF Thg.id (c.things.filter (kp Thg.id x.drop)) x.put, putsF Mvd.src (c.moved.filter (kp Mvd.src x.back)) x.add⟩
theorem risT_by {l : List Thg} : RiK (idxL l) ↔ RisBy Thg.id l := by unfold RiK idxL RisBy; rw [List.pairwise_map]
theorem risM_by {l : List Mvd} : RiK (mvL l) ↔ RisBy Mvd.src l := by unfold RiK mvL RisBy; rw [List.pairwise_map]
def applyR (c : Ctl) (x : Chg) : Ctl × Chg × Int := if chkF c = 0 then (if chgF x = 0 then (if chkF (chgdC c x) = 0 then (chgdC c x, btwX (chgdC c x) c, 0) else (zC, zX, chkF (chgdC c x))) else (zC, zX, chgF x)) else (zC, zX, chkF c)
end Go.Proofs.YtgldfnkbpopanaaGreatDoor

namespace Go.Proofs.YtgldfnkbpopanaaGreatDoor
open Go.RowKit
set_option linter.unusedVariables false

/-! Types. -/
namespace TyMA
end TyMA
open TyH3 TyH5 TyJ3 TyJ4 TyJ5 TyKA TyKB TyKC TyKD TyKE TyKF TyKG TyLA TyLB TyLC TyLD TyLE TyLF TyLG TyLH TyLI TyLJ TyLK TyLL TyLM TyLN TyLO TyLP TyLQ TyLR TyLS TyLT TyLU TyLV TyLW TyLX TyLY TyMA

end Go.Proofs.YtgldfnkbpopanaaGreatDoor

namespace Go.Proofs.YtgldfnkbpopanaaGreatDoor
open Go.RowKit
set_option linter.unusedVariables false

/-! Types. -/
namespace TyNA
end TyNA
open TyH3 TyH5 TyJ3 TyJ4 TyJ5 TyKA TyKB TyKC TyKD TyKE TyKF TyKG TyLA TyLB TyLC TyLD TyLE TyLF TyLG TyLH TyLI TyLJ TyLK TyLL TyLM TyLN TyLO TyLP TyLQ TyLR TyLS TyLT TyLU TyLV TyLW TyLX TyLY TyMA TyNA

/-- The catalogue behind the changes; the ways back; the first fault. -/
def plC (c : Ctl) (l : List Chg) : Ctl := l.foldl (fun c x => (applyV c x).1) c
def plB : Ctl → List Chg → List Chg
  | _, [] => []
  | c, x :: l => (applyV c x).2.1 :: plB (applyV c x).1 l
def plF : Ctl → List Chg → Int
  | _, [] => 0
  | c, x :: l => if (applyV c x).2.2 = 0 then plF (applyV c x).1 l else (applyV c x).2.2
section
variable {c : Ctl} {l : List Chg} {k : Nat}
end
def playV (c : Ctl) (l : List Chg) : Ctl × List Chg × Int := if chkF c = 0 then (if l.length ≤ 100 then (if plF c l = 0 then (plC c l, (plB c l).reverse, 0) else (zC, [], plF c l)) else (zC, [], 2)) else (zC, [], chkF c)
theorem zC_ok : CtlOk zC := ⟨fun t h => (nomatch h), fun t h => (nomatch h)⟩
theorem applyV_in {c : Ctl} {x : Chg} (hc : CtlOk c) (hx : XIn x) : CtlOk (applyV c x).1 ∧ XIn (applyV c x).2.1 := by
  by_cases h : (applyV c x).2.2 = 0
  · obtain ⟨k1, k2, k3, k4⟩ := apply_ok h
    rw [k4]
    exact ⟨(out_in (cIn hc k1) hx).ok, back_in (cIn hc k1) hx⟩
  · by_cases h1 : chkF c = 0
    · by_cases h2 : chgF x = 0
      · rw [applyV_0 h1 h2] at h ⊢
        by_cases h3 : chkF (outC c x) = 0
        · rw [app_0 h3] at h; exact absurd rfl h
        · rw [app_f h3]; exact ⟨zC_ok, zX_in⟩
      · rw [applyV_x h1 h2]; exact ⟨zC_ok, zX_in⟩
    · rw [applyV_c h1]; exact ⟨zC_ok, zX_in⟩
/-- Two elements change places. -/
def sw {α : Type} (l : List α) (i j : Nat) : List α := match l[i]?, l[j]? with
  | some x, some y => (l.set i y).set j x
  | _, _ => l
/-- The first k of both ends have changed places. -/
def revTo {α : Type} (l : List α) : Nat → List α
  | 0 => l
  | k + 1 => sw (revTo l k) k (l.length - 1 - k)
structure Dsp where
  id : Int
  mv : Bool
def Dsp.ds (x : Dsp) : List D := [.v (.int .i64 x.id), .v (.bool x.mv)]

end Go.Proofs.YtgldfnkbpopanaaGreatDoor

namespace Go.Proofs.YtgldfnkbpopanaaGreatDoor
open Go.RowKit
set_option linter.unusedVariables false

/-! Types. -/
namespace TyNC
end TyNC
open TyH3 TyH5 TyJ3 TyJ4 TyJ5 TyKA TyKB TyKC TyKD TyKE TyKF TyKG TyLA TyLB TyLC TyLD TyLE TyLF TyLG TyLH TyLI TyLJ TyLK TyLL TyLM TyLN TyLO TyLP TyLQ TyLR TyLS TyLT TyLU TyLV TyLW TyLX TyLY TyMA TyNA TyNC

set_option linter.unusedSectionVars false
set_option linter.unusedSimpArgs false
section
variable {β : Type} [DecidableEq β]
def lkG (T : GL (Option β)) (k : Int) : Option β := (findG T k).join
def pkG (o p q : GL (Option β)) (k : Int) : Option β := if lkG p k = lkG o k then lkG q k else lkG p k
def disG (o p q : GL (Option β)) (k : Int) : Bool := !decide (lkG p k = lkG o k) && (!decide (lkG q k = lkG o k) && !decide (lkG p k = lkG q k))
def tgE (o p q : GL (Option β)) (ids : List Int) : GL (Option β) := ids.map fun k => (k, pkG o p q k)
def tgG (o p q : GL (Option β)) (ids : List Int) : GL (Option β) := putAll [] (tgE o p q ids)
def tgTo (o p q : GL (Option β)) (ids : List Int) (n : Nat) : GL (Option β) := tgG o p q (ids.take n)
def dgTo (o p q : GL (Option β)) (ids : List Int) (n : Nat) : List Int := (ids.take n).filter (disG o p q)
def ov3 (o p q : GL (Option β)) : GL (Option β) := putAll (putAll (putAll [] o) p) q
def idG (o p q : GL (Option β)) : List Int := keysG (ov3 o p q)
variable {o p q : GL (Option β)} {ids : List Int} {n : Nat}
end

end Go.Proofs.YtgldfnkbpopanaaGreatDoor
