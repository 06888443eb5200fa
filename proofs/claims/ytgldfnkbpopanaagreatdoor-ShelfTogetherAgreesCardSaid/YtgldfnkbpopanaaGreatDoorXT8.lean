/- Walks and laws over abstract values, merged by tools/merge.py. No statement of the seat. -/
import Derived.Shelf.Spec.SlicesInsertGrow
import Derived.Deep.RegionLaw
import Derived.Laws.NewBlocks
import Derived.Test.YtgldfnkbpopanaaGreatDoorXT7

namespace Go.Proofs.YtgldfnkbpopanaaGreatDoor
open Go.RowKit
set_option linter.unusedVariables false

/-! Types. -/
namespace TyLV
theorem ag_25 : AggT Tryz.prog 25 2 := .of (by kernel_rfl)
theorem ag_35 : AggT Tryz.prog 35 4 := .of (by kernel_rfl)
theorem ag_41 : AggT Tryz.prog 41 7 := .of (by kernel_rfl)
theorem ag_85 : AggT Tryz.prog 85 2 := .of (by kernel_rfl)
theorem et_22 : ElemTy Tryz.prog 22 41 7 88 (.agg #[(.int .i64 0), (.int .i64 0), (.string ⟨#[]⟩), (.string ⟨#[]⟩), (.int .i64 0), (.int .i64 0), (.slice none 0 0)]) := ⟨by kernel_rfl, by kernel_rfl, by kernel_rfl, by decide⟩
theorem et_23 : ElemTy Tryz.prog 23 85 2 16 (.agg #[(.int .i64 0), (.int .i64 0)]) := ⟨by kernel_rfl, by kernel_rfl, by kernel_rfl, by decide⟩
theorem et_33 : ElemTy Tryz.prog 33 3 1 8 (.int .i64 0) := ⟨by kernel_rfl, by kernel_rfl, by kernel_rfl, by decide⟩
theorem fo_25_0 : fieldOff Tryz.prog 25 0 = some 0 := by kernel_rfl
theorem fo_25_1 : fieldOff Tryz.prog 25 1 = some 1 := by kernel_rfl
theorem fo_35_0 : fieldOff Tryz.prog 35 0 = some 0 := by kernel_rfl
theorem fo_35_1 : fieldOff Tryz.prog 35 1 = some 1 := by kernel_rfl
theorem fo_35_2 : fieldOff Tryz.prog 35 2 = some 2 := by kernel_rfl
theorem fo_35_3 : fieldOff Tryz.prog 35 3 = some 3 := by kernel_rfl
theorem fo_41_0 : fieldOff Tryz.prog 41 0 = some 0 := by kernel_rfl
theorem fo_85_0 : fieldOff Tryz.prog 85 0 = some 0 := by kernel_rfl
theorem fo_85_1 : fieldOff Tryz.prog 85 1 = some 1 := by kernel_rfl
theorem sc_22 : Scal Tryz.prog 22 := .of (by kernel_rfl)
theorem sc_23 : Scal Tryz.prog 23 := .of (by kernel_rfl)
theorem sc_3 : Scal Tryz.prog 3 := .of (by kernel_rfl)
theorem sc_33 : Scal Tryz.prog 33 := .of (by kernel_rfl)
theorem sz_22 : ∀ w, (sizeOf 22).run Tryz.prog w = .ok 1 w := SizeT.of (by kernel_rfl)
theorem sz_23 : ∀ w, (sizeOf 23).run Tryz.prog w = .ok 1 w := SizeT.of (by kernel_rfl)
theorem sz_33 : ∀ w, (sizeOf 33).run Tryz.prog w = .ok 1 w := SizeT.of (by kernel_rfl)
theorem sz_35 : ∀ w, (sizeOf 35).run Tryz.prog w = .ok 4 w := SizeT.of (by kernel_rfl)
theorem sz_41 : ∀ w, (sizeOf 41).run Tryz.prog w = .ok 7 w := SizeT.of (by kernel_rfl)
theorem sz_85 : ∀ w, (sizeOf 85).run Tryz.prog w = .ok 2 w := SizeT.of (by kernel_rfl)
theorem zt_35 : (Tryz.prog.info? 35).bind (·.zero) = some (.agg #[(.slice none 0 0), (.slice none 0 0), (.slice none 0 0), (.slice none 0 0)]) := by kernel_rfl
theorem zt_41 : (Tryz.prog.info? 41).bind (·.zero) = some (.agg #[(.int .i64 0), (.int .i64 0), (.string ⟨#[]⟩), (.string ⟨#[]⟩), (.int .i64 0), (.int .i64 0), (.slice none 0 0)]) := by kernel_rfl
theorem zt_85 : (Tryz.prog.info? 85).bind (·.zero) = some (.agg #[(.int .i64 0), (.int .i64 0)]) := by kernel_rfl
end TyLV
open TyLV


set_option linter.unusedSimpArgs false
set_option linter.unusedSectionVars false
section
variable {β : Type} [DecidableEq β]
def newB (A : GL β) (p : Int × β) : Bool := decide (findG A p.1 ≠ some p.2)
def goneB (B : GL β) (p : Int × β) : Bool := decide (findG B p.1 = none)
def btwP (A B : GL β) : GL β := B.filter (newB A)
def btwG (A B : GL β) : List Int := (A.filter (goneB B)).map (·.1)
def btwTo (A B : GL β) (n : Nat) : GL β := (B.take n).filter (newB A)
def gnTo (A B : GL β) (n : Nat) : List Int := ((A.take n).filter (goneB B)).map (·.1)
end
def btwX (a b : Ctl) : Chg := ⟨(btwP (idxL a.things) (idxL b.things)).map (·.2), btwG (idxL a.things) (idxL b.things), (btwP (mvL a.moved) (mvL b.moved)).map mvO, btwG (mvL a.moved) (mvL b.moved)⟩
def differR (a b : Ctl) : Chg × Int := if chkF a = 0 then (if chkF b = 0 then (btwX a b, 0) else (zX, chkF b)) else (zX, chkF a)
end Go.Proofs.YtgldfnkbpopanaaGreatDoor


namespace Go.Proofs.YtgldfnkbpopanaaGreatDoor
open Go.RowKit
set_option linter.unusedVariables false

/-! Types. -/
namespace TyLW
theorem ag_35 : AggT Tryz.prog 35 4 := .of (by kernel_rfl)
theorem et_33 : ElemTy Tryz.prog 33 3 1 8 (.int .i64 0) := ⟨by kernel_rfl, by kernel_rfl, by kernel_rfl, by decide⟩
theorem fo_35_1 : fieldOff Tryz.prog 35 1 = some 1 := by kernel_rfl
theorem fo_35_3 : fieldOff Tryz.prog 35 3 = some 3 := by kernel_rfl
theorem sc_33 : Scal Tryz.prog 33 := .of (by kernel_rfl)
end TyLW
open TyLW


set_option linter.unusedSimpArgs false
def L4 (x : Chg) : List (List Int) := [x.put.map Thg.id, x.drop, x.add.map Mvd.src, x.back]
def slI (l : List Int) : List D := [.sl (l.map intD)]
end Go.Proofs.YtgldfnkbpopanaaGreatDoor


namespace Go.Proofs.YtgldfnkbpopanaaGreatDoor
open Go.RowKit
set_option linter.unusedVariables false

end Go.Proofs.YtgldfnkbpopanaaGreatDoor


namespace Go.Proofs.YtgldfnkbpopanaaGreatDoor
open Go.RowKit
set_option linter.unusedVariables false

end Go.Proofs.YtgldfnkbpopanaaGreatDoor


namespace Go.Proofs.YtgldfnkbpopanaaGreatDoor
open Go.RowKit Go.Shelf
set_option linter.unusedVariables false

section
variable {cx : Cx} {e : Env} {σ : Obs} {Q : Post}
end

section
variable {cx : Cx} {ops : Array Oper} {o : Oper} {rest : List Oper} {e : Env} {σ : Obs} {Q : Post}
end
end Go.Proofs.YtgldfnkbpopanaaGreatDoor


namespace Go.Proofs.YtgldfnkbpopanaaGreatDoor
open Go.RowKit Go.Shelf Go.Lib
set_option linter.unusedVariables false
set_option linter.unusedSimpArgs false

/-- What Insert does with an own row. -/
structure InsEndG (e size B : Nat) (w : World) (v : Value) (n : Nat) (ys : List Value) (v' : Value) (w' : World) : Prop where
  own : w'.ownsRow B e size v' n ys
  turn : Turn w w' (blk v)
  new : ∀ g, blk v' = some g → blk v = some g ∨ w.heap.size ≤ g
structure InsT (P : Program) (f e size bytes : Nat) : Prop where
  ent : Enters P f
  calls : ∀ {B : Nat} {w : World} {v : Value} {n i vb vcap : Nat} {xs y : List Value} {ecur : Array Value} {ety : TypeId}, w.ownsRow B e size v n xs → (∀ u ∈ xs, u.oneCell' = true) → i ≤ n → B ≤ w.heap.size → (n + 1) * bytes ≤ 140737488355328 →
    w.heap[vb]? = some (.cells ecur ety (0, 0)) → 1 ≤ vcap ∧ vcap ≤ 9223372036854775807 → y.length = size → ecur.toList.take size = y → (∀ u ∈ y, u.oneCell' = true) → blk v ≠ some vb →
    Calls P f #[v, .int .i64 i, .slice (some ⟨vb, 0, none⟩) 1 vcap] w fun e' w' => ∃ v', e' = .returned v' ∧ InsEndG e size B w v (n + 1) (xs.take (i * size) ++ y ++ xs.drop (i * size)) v' w'
section
variable {cx : Cx} {ops : Array Oper} {o : Oper} {rest : List Oper} {e : Env} {σ : Obs} {Q : Post}
end
end Go.Proofs.YtgldfnkbpopanaaGreatDoor


namespace Go.Proofs.YtgldfnkbpopanaaGreatDoor
open Go.RowKit Go.Shelf Go.Lib
set_option linter.unusedVariables false
set_option linter.unusedSimpArgs false
namespace InsT
def zcpyV : Value := (Value.agg #[(.int .i64 0), (.int .i64 0), (.string ⟨#[]⟩), (.string ⟨#[]⟩), (.int .i64 0), (.int .i64 0), (.slice none 0 0)])
end InsT
end Go.Proofs.YtgldfnkbpopanaaGreatDoor


namespace Go.Proofs.YtgldfnkbpopanaaGreatDoor
open Go.RowKit Go.Shelf Go.Lib
set_option linter.unusedVariables false
set_option linter.unusedSimpArgs false
namespace InsM
def zcpyV : Value := (Value.agg #[(.int .i64 0), (.int .i64 0)])
end InsM
end Go.Proofs.YtgldfnkbpopanaaGreatDoor


namespace Go.Proofs.YtgldfnkbpopanaaGreatDoor
open Go.RowKit
set_option linter.unusedVariables false

/-! Types. -/
namespace TyLX
theorem ag_41 : AggT Tryz.prog 41 7 := .of (by kernel_rfl)
theorem ag_85 : AggT Tryz.prog 85 2 := .of (by kernel_rfl)
theorem et_22 : ElemTy Tryz.prog 22 41 7 88 (.agg #[(.int .i64 0), (.int .i64 0), (.string ⟨#[]⟩), (.string ⟨#[]⟩), (.int .i64 0), (.int .i64 0), (.slice none 0 0)]) := ⟨by kernel_rfl, by kernel_rfl, by kernel_rfl, by decide⟩
theorem et_23 : ElemTy Tryz.prog 23 85 2 16 (.agg #[(.int .i64 0), (.int .i64 0)]) := ⟨by kernel_rfl, by kernel_rfl, by kernel_rfl, by decide⟩
theorem fo_41_0 : fieldOff Tryz.prog 41 0 = some 0 := by kernel_rfl
theorem fo_85_0 : fieldOff Tryz.prog 85 0 = some 0 := by kernel_rfl
theorem sc_3 : Scal Tryz.prog 3 := .of (by kernel_rfl)
theorem sz_41 : ∀ w, (sizeOf 41).run Tryz.prog w = .ok 7 w := SizeT.of (by kernel_rfl)
theorem sz_85 : ∀ w, (sizeOf 85).run Tryz.prog w = .ok 2 w := SizeT.of (by kernel_rfl)
end TyLX
open TyLX


set_option linter.unusedSimpArgs false
section
variable {α : Type} {f : α → Int}
/-- How many stand ahead of number n; a put into its place. -/
def atF (f : α → Int) (l : List α) (n : Int) : Nat := (l.takeWhile fun a => decide (f a < n)).length
def putF (f : α → Int) (l : List α) (a : α) : List α := if (l[atF f l (f a)]?).map f = some (f a) then l.set (atF f l (f a)) a else l.take (atF f l (f a)) ++ [a] ++ l.drop (atF f l (f a))
def putR (f : α → Int) (a : α) : List α → List α
  | [] => [a]
  | x :: l => if f x < f a then x :: putR f a l else if f x = f a then a :: l else a :: x :: l
end


end Go.Proofs.YtgldfnkbpopanaaGreatDoor


namespace Go.Proofs.YtgldfnkbpopanaaGreatDoor
open Go.RowKit
set_option linter.unusedVariables false

/-! Types. -/
namespace TyLY
theorem ag_25 : AggT Tryz.prog 25 2 := .of (by kernel_rfl)
theorem ag_41 : AggT Tryz.prog 41 7 := .of (by kernel_rfl)
theorem ag_85 : AggT Tryz.prog 85 2 := .of (by kernel_rfl)
theorem et_22 : ElemTy Tryz.prog 22 41 7 88 (.agg #[(.int .i64 0), (.int .i64 0), (.string ⟨#[]⟩), (.string ⟨#[]⟩), (.int .i64 0), (.int .i64 0), (.slice none 0 0)]) := ⟨by kernel_rfl, by kernel_rfl, by kernel_rfl, by decide⟩
theorem et_23 : ElemTy Tryz.prog 23 85 2 16 (.agg #[(.int .i64 0), (.int .i64 0)]) := ⟨by kernel_rfl, by kernel_rfl, by kernel_rfl, by decide⟩
theorem fo_25_0 : fieldOff Tryz.prog 25 0 = some 0 := by kernel_rfl
theorem fo_25_1 : fieldOff Tryz.prog 25 1 = some 1 := by kernel_rfl
theorem fo_35_0 : fieldOff Tryz.prog 35 0 = some 0 := by kernel_rfl
theorem fo_35_1 : fieldOff Tryz.prog 35 1 = some 1 := by kernel_rfl
theorem fo_35_2 : fieldOff Tryz.prog 35 2 = some 2 := by kernel_rfl
theorem fo_35_3 : fieldOff Tryz.prog 35 3 = some 3 := by kernel_rfl
theorem fo_41_0 : fieldOff Tryz.prog 41 0 = some 0 := by kernel_rfl
theorem fo_85_0 : fieldOff Tryz.prog 85 0 = some 0 := by kernel_rfl
theorem sc_22 : Scal Tryz.prog 22 := .of (by kernel_rfl)
theorem sc_23 : Scal Tryz.prog 23 := .of (by kernel_rfl)
theorem sc_3 : Scal Tryz.prog 3 := .of (by kernel_rfl)
theorem sc_33 : Scal Tryz.prog 33 := .of (by kernel_rfl)
theorem sz_22 : ∀ w, (sizeOf 22).run Tryz.prog w = .ok 1 w := SizeT.of (by kernel_rfl)
theorem sz_23 : ∀ w, (sizeOf 23).run Tryz.prog w = .ok 1 w := SizeT.of (by kernel_rfl)
theorem sz_25 : ∀ w, (sizeOf 25).run Tryz.prog w = .ok 2 w := SizeT.of (by kernel_rfl)
theorem sz_41 : ∀ w, (sizeOf 41).run Tryz.prog w = .ok 7 w := SizeT.of (by kernel_rfl)
theorem sz_85 : ∀ w, (sizeOf 85).run Tryz.prog w = .ok 2 w := SizeT.of (by kernel_rfl)
theorem zt_25 : (Tryz.prog.info? 25).bind (·.zero) = some (.agg #[(.slice none 0 0), (.slice none 0 0)]) := by kernel_rfl
theorem zt_41 : (Tryz.prog.info? 41).bind (·.zero) = some (.agg #[(.int .i64 0), (.int .i64 0), (.string ⟨#[]⟩), (.string ⟨#[]⟩), (.int .i64 0), (.int .i64 0), (.slice none 0 0)]) := by kernel_rfl
theorem zt_85 : (Tryz.prog.info? 85).bind (·.zero) = some (.agg #[(.int .i64 0), (.int .i64 0)]) := by kernel_rfl
end TyLY
open TyLY


set_option linter.unusedSimpArgs false
section
variable {α : Type} {f : α → Int}
def kp (f : α → Int) (l : List Int) (a : α) : Bool := !decide (f a ∈ l)
def kpTo (f : α → Int) (g : List Int) (l : List α) (n : Nat) : List α := (l.take n).filter (kp f g)
def putsF (f : α → Int) (l E : List α) : List α := E.foldl (putF f) l
end
def chgdC (c : Ctl) (x : Chg) : Ctl := ⟨putsF Thg.id (c.things.filter (kp Thg.id x.drop)) x.put, putsF Mvd.src (c.moved.filter (kp Mvd.src x.back)) x.add⟩
def applyR (c : Ctl) (x : Chg) : Ctl × Chg × Int := if chkF c = 0 then (if chgF x = 0 then (if chkF (chgdC c x) = 0 then (chgdC c x, btwX (chgdC c x) c, 0) else (zC, zX, chkF (chgdC c x))) else (zC, zX, chgF x)) else (zC, zX, chkF c)
end Go.Proofs.YtgldfnkbpopanaaGreatDoor


namespace Go.Proofs.YtgldfnkbpopanaaGreatDoor
open Go.RowKit
set_option linter.unusedVariables false

/-! Types. -/
namespace TyMA
theorem ag_25 : AggT Tryz.prog 25 2 := .of (by kernel_rfl)
theorem ag_35 : AggT Tryz.prog 35 4 := .of (by kernel_rfl)
theorem bu_25 : StructT Tryz.prog 25 (fun i => (#[(0, 1), (1, 1)] : Array (Nat × Nat))[i]?) [(.slice none 0 0), (.slice none 0 0)] := .of (by kernel_rfl) (by kernel_rfl) (by decide)
theorem sz_25 : ∀ w, (sizeOf 25).run Tryz.prog w = .ok 2 w := SizeT.of (by kernel_rfl)
theorem sz_35 : ∀ w, (sizeOf 35).run Tryz.prog w = .ok 4 w := SizeT.of (by kernel_rfl)
theorem zt_25 : (Tryz.prog.info? 25).bind (·.zero) = some (.agg #[(.slice none 0 0), (.slice none 0 0)]) := by kernel_rfl
theorem zt_35 : (Tryz.prog.info? 35).bind (·.zero) = some (.agg #[(.slice none 0 0), (.slice none 0 0), (.slice none 0 0), (.slice none 0 0)]) := by kernel_rfl
end TyMA
open TyMA

end Go.Proofs.YtgldfnkbpopanaaGreatDoor


namespace Go.Proofs.YtgldfnkbpopanaaGreatDoor
open Go.RowKit
set_option linter.unusedVariables false

/-! Types. -/
namespace TyNA

end TyNA
open TyNA


/-- The catalogue behind the changes; the ways back; the first fault. -/
def plC (c : Ctl) (l : List Chg) : Ctl := l.foldl (fun c x => (applyV c x).1) c
def plB : Ctl → List Chg → List Chg
  | _, [] => []
  | c, x :: l => (applyV c x).2.1 :: plB (applyV c x).1 l
def plF : Ctl → List Chg → Int
  | _, [] => 0
  | c, x :: l => if (applyV c x).2.2 = 0 then plF (applyV c x).1 l else (applyV c x).2.2
section
variable {c : Ctl} {l : List Chg} {k : Nat}
end
def playV (c : Ctl) (l : List Chg) : Ctl × List Chg × Int := if chkF c = 0 then (if l.length ≤ 100 then (if plF c l = 0 then (plC c l, (plB c l).reverse, 0) else (zC, [], plF c l)) else (zC, [], 2)) else (zC, [], chkF c)
/-- Two elements change places. -/
def sw {α : Type} (l : List α) (i j : Nat) : List α := match l[i]?, l[j]? with
  | some x, some y => (l.set i y).set j x
  | _, _ => l
theorem sw_len {α : Type} (l : List α) (i j : Nat) : (sw l i j).length = l.length := by unfold sw; split <;> simp
theorem sw_at {α : Type} {l : List α} {i j : Nat} (hi : i < l.length) (hj : j < l.length) : sw l i j = (l.set i l[j]).set j l[i] := by
  unfold sw; rw [List.getElem?_eq_getElem hi, List.getElem?_eq_getElem hj]
theorem whole_el {size : Nat} {ds x : List D} (h : ds.length = size) : ds.take 0 ++ x ++ ds.drop (0 + size) = x := by
  rw [List.take_zero, List.nil_append, Nat.zero_add, List.drop_eq_nil_of_le (by omega), List.append_nil]
theorem row_swap {α : Type} {enc : α → List D} {size : Nat} (hs : ∀ x, (enc x).length = size) {cur : List α} {i j : Nat} (hi : i < cur.length) (hj : j < cur.length) {els1 : List (List D)} {d2 : List D}
    (h1 : els1 = (cur.map enc).set i ((enc cur[i]).take 0 ++ enc cur[j] ++ (enc cur[i]).drop (0 + size))) (h2 : els1[j]? = some d2) :
    els1.set j (d2.take 0 ++ enc cur[i] ++ d2.drop (0 + size)) = (sw cur i j).map enc := by
  rw [whole_el (hs _)] at h1
  have hd : d2.length = size := by
    rw [h1, List.getElem?_set] at h2
    by_cases hij : i = j
    · rw [if_pos hij, if_pos (by rw [List.length_map]; exact hi)] at h2
      rw [← Option.some.inj h2]; exact hs _
    · rw [if_neg hij, List.getElem?_map, List.getElem?_eq_getElem hj] at h2
      rw [← Option.some.inj h2]; exact hs _
  rw [whole_el hd, h1, sw_at hi hj, List.map_set, List.map_set]
/-- The first k of both ends have changed places. -/
def revTo {α : Type} (l : List α) : Nat → List α
  | 0 => l
  | k + 1 => sw (revTo l k) k (l.length - 1 - k)
structure Dsp where
  id : Int
  mv : Bool
def Dsp.ds (x : Dsp) : List D := [.v (.int .i64 x.id), .v (.bool x.mv)]


end Go.Proofs.YtgldfnkbpopanaaGreatDoor


namespace Go.Proofs.YtgldfnkbpopanaaGreatDoor
open Go.RowKit
set_option linter.unusedVariables false

/-! Types. -/
namespace TyDS1
theorem ag_73 : AggT Tryz.prog 73 2 := .of (by kernel_rfl)
theorem et_26 : ElemTy Tryz.prog 26 73 2 16 (.agg #[(.int .i64 0), (.bool false)]) := ⟨by kernel_rfl, by kernel_rfl, by kernel_rfl, by decide⟩
theorem sz_73 : ∀ w, (sizeOf 73).run Tryz.prog w = .ok 2 w := SizeT.of (by kernel_rfl)
end TyDS1
open TyDS1


/-- An element with its first place. -/
def tds (p : Dsp × Nat) : List D := p.1.ds
def swapTo {α : Type} (l : List α) (a b : Nat) : Nat → List α
  | 0 => l
  | k + 1 => sw (swapTo l a b k) (a + k) (b + k)
theorem swapTo_len {α : Type} (l : List α) (a b : Nat) : ∀ k, (swapTo l a b k).length = l.length
  | 0 => rfl
  | k + 1 => by unfold swapTo; rw [sw_len, swapTo_len l a b k]


set_option maxRecDepth 100000 in
set_option maxHeartbeats 1000000 in
theorem c_swapRange (l : List (Dsp × Nat)) (a b n : Nat) (c : D) (ha : a + n ≤ l.length) (hb : b + n ≤ l.length) (hl : l.length ≤ 4611686018427387904) : RCall Tryz.prog 177 73 2 (l.map tds) ((swapTo l a b n).map tds) [.v (.int .i64 a), .v (.int .i64 b), .v (.int .i64 n), c] (.tup []) := by
  refine RCall.of1 (chg := fun i => Nat.ble 1000 i) (xcall_of (n := 38) (ds' := []) Tryz.func177 rfl (by kernel_rfl) rfl [] rfl rfl ?_) rfl
  intro B w0 F0 fr ρ0
  refine AWP.seq (AWP.region ?_)
  refine AOps.aA (.nil ?_)
  refine AWP.block ?_
  refine AWP.loop (G := Nat) (fun k => Env.of [(10, .d (.v (.int .i64 (k : Int)))), (0, .own 1), (1, .d (.v (.int .i64 a))), (2, .d (.v (.int .i64 b))), (3, .d (.v (.int .i64 n)))]) (fun k => [(1, .row 73 2 ((swapTo l a b k).map tds))]) (fun k => k ≤ n) (fun k => n - k) 0 (Nat.zero_le _) (Sub.less ⟨(SLe.of_eq rfl), SLe.refl _, SLe.refl _, SLe.refl _, SLe.refl _, trivial⟩ (row_same rfl)) ?_
  intro k hk
  refine AWP.seq ?_
  refine AWP.seq (AWP.region ?_)
  refine AOps.mA ?_
  refine AOps.mA ?_
  refine AOps.sA (AOp.lss rfl rfl rfl) (.nil ?_)
  refine AWP.cond rfl (fun h1 => ?_) (fun h1 => ?_)
  · replace h1 := of_decide_eq_true h1
    have hlt : k < n := by omega
    refine AWP.skip ?_
    refine AWP.seq ?_
    refine AWP.block ?_
    refine AWP.drawG (fun k => (Nat.beq k 21 || Nat.beq k 23) || (Nat.beq k 12 || Nat.beq k 13 || Nat.beq k 18 || Nat.beq k 19 || Nat.beq k 20 || Nat.beq k 22)) (fun k => Nat.beq k 21 || Nat.beq k 23) (fun k h => Bool.or_eq_true_iff.2 (.inl h)) (by kernel_rfl) (by kernel_rfl) (by kernel_rfl) ?_
    refine GRun.step rfl rfl rfl (fun _ => AOp.moveO rfl rfl) ?_
    refine GRun.step rfl rfl rfl (fun _ => AOp.moveD rfl rfl) ?_
    refine GRun.step rfl rfl rfl (fun _ => AOp.moveD rfl rfl) ?_
    refine GRun.step rfl rfl rfl (fun _ => AOp.add64 rfl rfl rfl (by omega) (by omega)) ?_
    refine GRun.step rfl rfl rfl (fun _ => AOp.moveO rfl rfl) ?_
    refine GRun.step rfl rfl rfl (fun _ => AOp.moveD rfl rfl) ?_
    refine GRun.step rfl rfl rfl (fun _ => AOp.moveD rfl rfl) ?_
    refine GRun.step rfl rfl rfl (fun _ => AOp.add64 rfl rfl rfl (by omega) (by omega)) ?_
    refine GRun.step rfl rfl rfl (fun _ => AOp.moveO rfl rfl) ?_
    refine GRun.step rfl rfl rfl (fun _ => AOp.moveD rfl rfl) ?_
    refine GRun.step rfl rfl rfl (fun _ => AOp.moveD rfl rfl) ?_
    refine GRun.step rfl rfl rfl (fun _ => AOp.add64 rfl rfl rfl (by omega) (by omega)) ?_
    refine GRun.stepS rfl rfl rfl rfl (AOp.indexOwn rfl et_26 rfl rfl (.head _) (b + k) (by omega) (by rw [List.length_map, swapTo_len]; omega)) ?_
    refine GRun.stepS rfl rfl rfl rfl (AOp.loadRowAgg rfl ag_73 rfl (.head _) (b + k) rfl (at_list (by rw [swapTo_len]; omega))) ?_
    refine GRun.step rfl rfl rfl (fun _ => AOp.moveO rfl rfl) ?_
    refine GRun.step rfl rfl rfl (fun _ => AOp.moveD rfl rfl) ?_
    refine GRun.step rfl rfl rfl (fun _ => AOp.moveD rfl rfl) ?_
    refine GRun.step rfl rfl rfl (fun _ => AOp.add64 rfl rfl rfl (by omega) (by omega)) ?_
    refine GRun.stepS rfl rfl rfl rfl (AOp.indexOwn rfl et_26 rfl rfl (.head _) (a + k) (by omega) (by rw [List.length_map, swapTo_len]; omega)) ?_
    refine GRun.stepS rfl rfl rfl rfl (AOp.loadRowAgg rfl ag_73 rfl (.head _) (a + k) rfl (at_list (by rw [swapTo_len]; omega))) ?_
    refine GRun.stepS rfl rfl rfl rfl (AOp.indexOwn rfl et_26 rfl rfl (.head _) (a + k) (by omega) (by rw [List.length_map, swapTo_len]; omega)) ?_
    refine GRun.eff rfl rfl rfl (EOp.storeRow rfl rfl sz_73 rfl (.head _) rfl rfl rfl (a + k) 0 rfl (at_list (by rw [swapTo_len]; omega)) (Nat.le_of_ble_eq_true rfl)) ?_
    refine GRun.stepS rfl rfl rfl rfl (AOp.indexOwn rfl et_26 rfl rfl (.head _) (b + k) (by omega) (by rw [List.length_set, List.length_map, swapTo_len]; omega)) ?_
    refine GRun.eff rfl rfl rfl (EOp.storeRow rfl rfl sz_73 rfl (.head _) rfl rfl rfl (b + k) 0 rfl (List.getElem?_eq_getElem (by rw [List.length_set, List.length_map, swapTo_len]; omega)) (Nat.le_of_ble_eq_true rfl)) ?_
    refine GRun.nil ?_
    refine AWP.region ?_
    refine AOps.mA ?_
    refine AOps.sA (AOp.add64 rfl rfl rfl (by omega) (by omega)) ?_
    refine AOps.aA (.nil ?_)
    refine ⟨k + 1, (by omega), (by dsimp only; omega), Sub.less ⟨(SLe.of_eq rfl), SLe.refl _, SLe.refl _, SLe.refl _, SLe.refl _, trivial⟩ (row_same (row_swap (enc := tds) (size := 2) (cur := swapTo l a b k) (i := a + k) (j := b + k) (fun _ => rfl) (by rw [swapTo_len]; omega) (by rw [swapTo_len]; omega) rfl (List.getElem?_eq_getElem (by rw [List.length_set, List.length_map, swapTo_len]; omega))))⟩
  replace h1 := of_decide_eq_false h1
  have hkn : k = n := by omega
  refine AWP.exit ?_
  refine ⟨trivial, ⟨mem_row_eq (.head _) ?_, trivial⟩⟩
  all_goals (rw [hkn])

end Go.Proofs.YtgldfnkbpopanaaGreatDoor
