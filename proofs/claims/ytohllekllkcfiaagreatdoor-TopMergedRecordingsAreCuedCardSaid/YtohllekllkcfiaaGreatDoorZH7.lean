/- Walks and laws over abstract values, merged by tools/merge.py. No statement of the seat. -/
import Derived.WalkKit
import Derived.Ground.NamesProg
import Derived.Shelf.SlIterI.Nil
import Derived.Shelf.SortM.Plain
import Derived.Shelf.SortM.SortNone
import Derived.Ground.GgzProg
import Derived.Ground.SlgmProg
import Derived.Test.YtohllekllkcfiaaGreatDoorProg
import Derived.Test.YtohllekllkcfiaaGreatDoorZH6
set_option linter.unusedSimpArgs false
set_option linter.unusedVariables false
set_option maxHeartbeats 4000000
set_option maxRecDepth 100000
open List renaming length_map -> ZlM, getElem?_eq_getElem -> ZgE, length_take -> ZlT, map_append -> ZmA, length_append -> ZlA, mem_singleton -> ZmS
open Array renaming getElem?_eq_some_iff -> ZaS
open Nat renaming le_of_ble_eq_true -> ZnB, zero_le -> ZnZ, le_refl -> ZnR, le_trans -> ZnT
open Bool renaming and_eq_true -> ZbA
namespace Go.Proofs.YtohllekllkcfiaaGreatDoor
open Go.RowKit
namespace Ty
theorem ag_156 : AggT Tryz.prog 156 3 := .of (by kernel_rfl)
theorem ag_29 : AggT Tryz.prog 29 3 := .of (by kernel_rfl)
theorem Ydx : AggT Tryz.prog 56 7 := .of (by kernel_rfl)
theorem ag_98 : AggT Tryz.prog 98 4 := .of (by kernel_rfl)
theorem bu_98 : StructT Tryz.prog 98 (fun i => (#[(0, 1), (1, 1), (2, 1), (3, 1)] : Array (Nat × Nat))[i]?) [(.int .i64 0), (.string ⟨#[]⟩), (.int .i64 0), (.int .i64 0)] := .of (by kernel_rfl) (by kernel_rfl) (by decide)
theorem et_27 : ElemTy Tryz.prog 27 56 7 80 (.agg #[(.string ⟨#[]⟩), (.int .i64 0), (.int .i64 0), (.int .i64 0), (.int .i64 0), (.int .i64 0), (.slice none 0 0)]) := ⟨by kernel_rfl, by kernel_rfl, by kernel_rfl, by decide⟩
theorem et_54 : ElemTy Tryz.prog 54 156 3 40 (.agg #[(.int .i64 0), (.string ⟨#[]⟩), (.string ⟨#[]⟩)]) := ⟨by kernel_rfl, by kernel_rfl, by kernel_rfl, by decide⟩
theorem YbQ : Yac Tryz.prog 156 0 = some 0 := by kernel_rfl
theorem Yck : Yac Tryz.prog 156 1 = some 1 := by kernel_rfl
theorem fo_29_0 : Yac Tryz.prog 29 0 = some 0 := by kernel_rfl
theorem fo_29_1 : Yac Tryz.prog 29 1 = some 1 := by kernel_rfl
theorem YeT : Yac Tryz.prog 29 2 = some 2 := by kernel_rfl
theorem YeS : Yac Tryz.prog 56 0 = some 0 := by kernel_rfl
theorem Ygp : Yac Tryz.prog 56 1 = some 1 := by kernel_rfl
theorem YeR : Yac Tryz.prog 56 2 = some 2 := by kernel_rfl
theorem Ygo : Yac Tryz.prog 56 3 = some 3 := by kernel_rfl
theorem Ybj : Yac Tryz.prog 56 4 = some 4 := by kernel_rfl
theorem Ycv : Yac Tryz.prog 56 5 = some 5 := by kernel_rfl
theorem YeQ : Yac Tryz.prog 56 6 = some 6 := by kernel_rfl
theorem fo_98_1 : Yac Tryz.prog 98 1 = some 1 := by kernel_rfl
theorem sc_27 : Scal Tryz.prog 27 := .of (by kernel_rfl)
theorem sc_54 : Scal Tryz.prog 54 := .of (by kernel_rfl)
theorem sz_156 : ∀ w, (sizeOf 156).run Tryz.prog w = .ok 3 w := SizeT.of (by kernel_rfl)
theorem sz_56 : ∀ w, (sizeOf 56).run Tryz.prog w = .ok 7 w := SizeT.of (by kernel_rfl)
theorem sz_98 : ∀ w, (sizeOf 98).run Tryz.prog w = .ok 4 w := SizeT.of (by kernel_rfl)
theorem zt_156 : (Tryz.prog.info? 156).bind (·.zero) = some (.agg #[(.int .i64 0), (.string ⟨#[]⟩), (.string ⟨#[]⟩)]) := by kernel_rfl
theorem zt_56 : (Tryz.prog.info? 56).bind (·.zero) = some (.agg #[(.string ⟨#[]⟩), (.int .i64 0), (.int .i64 0), (.int .i64 0), (.int .i64 0), (.int .i64 0), (.slice none 0 0)]) := by kernel_rfl
theorem zt_98 : (Tryz.prog.info? 98).bind (·.zero) = some (.agg #[(.int .i64 0), (.string ⟨#[]⟩), (.int .i64 0), (.int .i64 0)]) := by kernel_rfl
end Ty
open Ty
open Go.Lib
def sle (a b : ByteArray) : Bool := Op.bytesLess a.toList b.toList || decide (a = b)
def slt (a b : ByteArray) : Bool := Op.bytesLess a.toList b.toList
def YbW (a b : ByteArray) : Int := Lib.compareBytes a.data.toList b.data.toList
theorem cmp_list : ∀ a b : List UInt8, Lib.compareBytes a b = if Op.bytesLess a b = true then -1 else if a = b then 0 else 1
 | [], [] => rfl
 | [], _ :: _ => rfl
 | _ :: _, [] => rfl
 | a :: x, b :: y => by
  have ih := cmp_list x y;unfold Lib.compareBytes Op.bytesLess
  by_cases h1 : a < b
  ·simp [h1]
  ·by_cases h2 : b < a
   ·have hne : a ≠ b := fun e => by subst e; exact h1 h2
    simp [h1, h2, hne]
   ·have e : a = b := UInt8.le_antisymm (UInt8.not_lt.1 h2) (UInt8.not_lt.1 h1);subst e;simp only [h1, if_false, decide_false, Bool.false_or, beq_self_eq_true, Bool.true_and, List.cons.injEq, true_and];exact ih
theorem toList_inj {a b : ByteArray} : a.toList = b.toList ↔ a = b := by
 rw [ByteArray.toList_eq, ByteArray.toList_eq];constructor
 ·intro h; exact ByteArray.ext (Array.toList_inj.1 h)
 ·intro h; rw [h]
theorem less_irr : ∀ l : List UInt8, Op.bytesLess l l = false
 | [] => rfl
 | x :: r => by unfold Op.bytesLess; simp [less_irr r]
theorem strCmp_eq (a b : ByteArray) : YbW a b = if slt a b = true then -1 else if a = b then 0 else 1 := by
 unfold YbW slt;rw [cmp_list, <- ByteArray.toList_eq, <- ByteArray.toList_eq]
 by_cases h : a = b
 ·subst h; rw [less_irr]; simp
 ·rw [if_neg (fun e => h (toList_inj.1 e)), if_neg h]
theorem strCmp_zero {a b : ByteArray} : YbW a b = 0 ↔ a = b := by
 rw [strCmp_eq]
 by_cases h2 : a = b
 ·subst h2;have hz : slt a a = false := less_irr _;rw [hz]; simp
 ·rw [if_neg h2];refine ⟨fun hh => ?_, fun hh => absurd hh h2⟩;split at hh <;> omega
theorem c_pName (s : ByteArray) (hs : s.size <= 9223372036854775807) : Yad Tryz.prog 29 [.v (.string s)] (.v (.bool (Ya9 s.data.toList))) :=
 YbD (us := [_]) (.of Tryz.func29 (by kernel_rfl) rfl) fun w => pName_any s w hs
theorem c_strCmp (a b : ByteArray) : Yad Tryz.prog 72 [.v (.string a), .v (.string b)] (.v (.int .i64 (YbW a b))) :=
 YbD (us := [_, _]) (.of Tryz.func72 (by kernel_rfl) rfl) fun w => by
  have h := Any.strings_Compare Tryz.l106 a b w;change Calls Tryz.prog 72 #[.string a, .string b] w _ at h;exact h.mono fun _ _ ⟨h1, h2⟩ => ⟨h1, h2 ▸ Below.refl _ _⟩
def orI (l : List Int) : Int := (l.find? fun x => decide (x ≠ 0)).getD 0
theorem orI_yes {l : List Int} {k : Nat} (hk : k < l.length) (h : ∀ c ∈ l.take k, decide (c ≠ 0) = false) (h2 : l[k] ≠ 0) : orI l = l[k] := by
 unfold orI;have e : l = l.take k ++ l[k] :: l.drop (k + 1) := by rw [<- List.drop_eq_getElem_cons hk, List.take_append_drop]
 have h3 : (l.take k).find? (fun x => decide (x ≠ 0)) = none := List.find?_eq_none.2 fun x hx => by rw [h x hx]; simp
 have h4 : l.find? (fun x => decide (x ≠ 0)) = some l[k] := by
  have : (l.take k ++ l[k] :: l.drop (k + 1)).find? (fun x => decide (x ≠ 0)) = some l[k] := by
   rw [List.find?_append, h3, List.find?_cons, decide_eq_true h2]; rfl
  rw [<- e] at this; exact this
 rw [h4]; rfl
theorem orI_no {l : List Int} (h : ∀ c ∈ l.take l.length, decide (c ≠ 0) = false) : orI l = 0 := by
 unfold orI;rw [List.find?_eq_none.2 fun x hx => by rw [h x (by rw [List.take_length]; exact hx)]; simp];rfl
theorem c_trimP (s : ByteArray) : Yad Tryz.prog 139 [.v (.string s), .v (.string ⟨#[45]⟩)] (.v (.string (bStr (mag s)))) := c_trimPrefix s ⟨#[45]⟩
theorem Yca {α : Type} [Inhabited α] {l : List α} {f : α -> List D} {k : Nat} (h : k < l.length) : (l.map f)[k]? = some (f (l.getD k default)) := by simp [h]
structure Pnt where
 pos : Int
 num : ByteArray
 den : ByteArray
deriving DecidableEq
instance : Inhabited Pnt := ⟨⟨0, ⟨#[]⟩, ⟨#[]⟩⟩⟩
def Pnt.ds (p : Pnt) : List D := [.v (.int .i64 p.pos), .v (.string p.num), .v (.string p.den)]
structure Clp where
 media : ByteArray
 chan : Int
 src : Int
 track : Int
 pos : Int
 len : Int
 env : List Pnt
deriving DecidableEq
instance : Inhabited Clp := ⟨⟨⟨#[]⟩, 0, 0, 0, 0, 0, []⟩⟩
def Clp.ds (c : Clp) : List D := [.v (.string c.media), .v (.int .i64 c.chan), .v (.int .i64 c.src), .v (.int .i64 c.track), .v (.int .i64 c.pos), .v (.int .i64 c.len), .sl (c.env.map Pnt.ds)]
structure Edt where
 rate : Int
 tracks : Int
 clips : List Clp
def Edt.ds (e : Edt) : List D := [.v (.int .i64 e.rate), .v (.int .i64 e.tracks), .sl (e.clips.map Clp.ds)]
structure Lne where
 track : Int
 media : ByteArray
 chan : Int
 off : Int
deriving DecidableEq
instance : Inhabited Lne := ⟨⟨0, ⟨#[]⟩, 0, 0⟩⟩
def Lne.ds (k : Lne) : List D := [.v (.int .i64 k.track), .v (.string k.media), .v (.int .i64 k.chan), .v (.int .i64 k.off)]
structure ClpS (c : Clp) : Prop where
 media : c.media.size <= 9223372036854775807
 env : ∀ p ∈ c.env, p.num.size <= 9223372036854775807 /\ p.den.size <= 9223372036854775807
def EdtS (e : Edt) : Prop := ∀ c ∈ e.clips, ClpS c
def pAt (c : Clp) (i : Nat) : Pnt := c.env.getD i default
def cAt (e : Edt) (i : Nat) : Clp := e.clips.getD i default
theorem Ydk {c : Clp} {i : Nat} (h : i < c.env.length) : pAt c i ∈ c.env := by unfold pAt; simp [h]
theorem cAt_mem {e : Edt} {i : Nat} (h : i < e.clips.length) : cAt e i ∈ e.clips := by unfold cAt; simp [h]
theorem at_p {c : Clp} {i : Nat} (h : i < c.env.length) : (c.env.map Pnt.ds)[i]? = some (pAt c i).ds := Yca h
theorem at_c {e : Edt} {i : Nat} (h : i < e.clips.length) : (e.clips.map Clp.ds)[i]? = some (cAt e i).ds := Yca h
def clpCmp (a b : Clp) : Int := orI [cmpI a.track b.track, cmpI a.pos b.pos, YbW a.media b.media, cmpI a.chan b.chan, cmpI a.src b.src, cmpI a.len b.len]
def Yb1 (a b : Lne) : Int := orI [cmpI a.track b.track, YbW a.media b.media, cmpI a.chan b.chan, cmpI a.off b.off]
def YbJ (c : Clp) : Lne := ⟨c.track, c.media, c.chan, c.src - c.pos⟩
def pF (c : Clp) (i : Nat) : Int :=
 if (pAt c i).pos < 0 \/ c.len <= (pAt c i).pos then 1
 else if 0 < i /\ (pAt c i).pos <= (pAt c (i - 1)).pos then 8
 else if ratF (pAt c i).num (pAt c i).den ≠ 0 then ratF (pAt c i).num (pAt c i).den
 else if 40 < (mag (pAt c i).num).length \/ 40 < (pAt c i).den.data.toList.length then 2 else 0
def envF (c : Clp) : Int := if c.env.length = 0 then 9 else if 50 < c.env.length then 2 else ffst (pF c) c.env.length
def Yaz (c : Clp) (t : Int) : Prop := c.chan < 0 \/ 16 <= c.chan \/ c.src < 0 \/ 10000000000000 < c.src \/ c.track < 0 \/ t <= c.track \/ c.pos < 0 \/ 100000 <= c.pos \/ c.len < 1 \/ 100000 - c.pos < c.len \/ 10000000000000 < c.src + c.len
instance (c : Clp) (t : Int) : Decidable (Yaz c t) := by unfold Yaz; infer_instance
def Yfq (c : Clp) (t : Int) : Int := if Ya9 c.media.data.toList = false then 5 else if Yaz c t then 1 else envF c
def cF (e : Edt) (i : Nat) : Int := if Yfq (cAt e i) e.tracks ≠ 0 then Yfq (cAt e i) e.tracks else if 0 < i /\ 0 < clpCmp (cAt e (i - 1)) (cAt e i) then 8 else 0
def edtF (e : Edt) : Int := if ¬ (1 <= e.rate /\ e.rate <= 1000000) \/ e.tracks < 1 \/ 16 < e.tracks then 1 else if 300 < e.clips.length then 2 else ffst (cF e) e.clips.length
structure PntOk (c : Clp) (p : Pnt) : Prop where
 lo : 0 <= p.pos
 hi : p.pos < c.len
 rat : ratB p.num p.den = false
 num : (mag p.num).length <= 40
 den : p.den.data.toList.length <= 40
structure ClpOk (c : Clp) (t : Int) : Prop where
 name : Ya9 c.media.data.toList = true
 rng : ¬ Yaz c t
 ne : 0 < c.env.length
 le : c.env.length <= 50
 pts : ∀ p ∈ c.env, PntOk c p
 inc : ∀ i, 0 < i -> i < c.env.length -> (pAt c (i - 1)).pos < (pAt c i).pos
structure EdtOk (e : Edt) : Prop where
 rate : 1 <= e.rate /\ e.rate <= 1000000
 tracks : 1 <= e.tracks /\ e.tracks <= 16
 le : e.clips.length <= 300
 clips : ∀ c ∈ e.clips, ClpOk c e.tracks
theorem mem_pAt {c : Clp} {p : Pnt} (h : p ∈ c.env) : ∃ i, i < c.env.length /\ p = pAt c i := by
 obtain ⟨i, hi, rfl⟩ := List.mem_iff_getElem.1 h;exact ⟨i, hi, by unfold pAt; simp [hi]⟩
theorem mem_cAt {e : Edt} {c : Clp} (h : c ∈ e.clips) : ∃ i, i < e.clips.length /\ c = cAt e i := by
 obtain ⟨i, hi, rfl⟩ := List.mem_iff_getElem.1 h;exact ⟨i, hi, by unfold cAt; simp [hi]⟩
theorem pF_0 {c : Clp} {i : Nat} (h : pF c i = 0) : PntOk c (pAt c i) /\ (0 < i -> (pAt c (i - 1)).pos < (pAt c i).pos) := by
 unfold pF at h
 by_cases h1 : (pAt c i).pos < 0 \/ c.len <= (pAt c i).pos
 ·rw [if_pos h1] at h; exact absurd h (by decide)
 rw [if_neg h1] at h
 by_cases h2 : 0 < i /\ (pAt c i).pos <= (pAt c (i - 1)).pos
 ·rw [if_pos h2] at h; exact absurd h (by decide)
 rw [if_neg h2] at h
 by_cases h3 : ratF (pAt c i).num (pAt c i).den ≠ 0
 ·rw [if_pos h3] at h; exact absurd h h3
 rw [if_neg h3] at h
 by_cases h4 : 40 < (mag (pAt c i).num).length \/ 40 < (pAt c i).den.data.toList.length
 ·rw [if_pos h4] at h; exact absurd h (by decide)
 refine ⟨⟨by omega, by omega, ?_, by omega, by omega⟩, fun hi => by omega⟩;cases hb : ratB (pAt c i).num (pAt c i).den
 ·rfl
 ·exfalso; apply h3; unfold ratF; rw [if_pos hb]; decide
theorem envF_0 {c : Clp} (h : envF c = 0) : 0 < c.env.length /\ c.env.length <= 50 /\ (∀ p ∈ c.env, PntOk c p) /\ ∀ i, 0 < i -> i < c.env.length -> (pAt c (i - 1)).pos < (pAt c i).pos := by
 unfold envF at h
 by_cases h1 : c.env.length = 0
 ·rw [if_pos h1] at h; exact absurd h (by decide)
 rw [if_neg h1] at h
 by_cases h2 : 50 < c.env.length
 ·rw [if_pos h2] at h; exact absurd h (by decide)
 rw [if_neg h2] at h;have h3 := Ya5 _ h;refine ⟨by omega, by omega, fun p hp => ?_, fun i hi hl => (pF_0 (h3 i hl)).2 hi⟩;obtain ⟨i, hi, rfl⟩ := mem_pAt hp;exact (pF_0 (h3 i hi)).1
theorem clipF_0 {c : Clp} {t : Int} (h : Yfq c t = 0) : ClpOk c t := by
 unfold Yfq at h
 by_cases h1 : Ya9 c.media.data.toList = false
 ·rw [if_pos h1] at h; exact absurd h (by decide)
 rw [if_neg h1] at h
 by_cases h2 : Yaz c t
 ·rw [if_pos h2] at h; exact absurd h (by decide)
 rw [if_neg h2] at h;obtain ⟨q1, q2, q3, q4⟩ := envF_0 h;exact ⟨by simpa using h1, h2, q1, q2, q3, q4⟩
theorem edtF_0 {e : Edt} (h : edtF e = 0) : EdtOk e := by
 unfold edtF at h
 by_cases h1 : ¬ (1 <= e.rate /\ e.rate <= 1000000) \/ e.tracks < 1 \/ 16 < e.tracks
 ·rw [if_pos h1] at h; exact absurd h (by decide)
 rw [if_neg h1] at h
 by_cases h2 : 300 < e.clips.length
 ·rw [if_pos h2] at h; exact absurd h (by decide)
 rw [if_neg h2] at h;have h3 := Ya5 _ h;refine ⟨by omega, by omega, by omega, fun c hc => ?_⟩;obtain ⟨i, hi, rfl⟩ := mem_cAt hc;have h4 := h3 i hi;unfold cF at h4
 by_cases h5 : Yfq (cAt e i) e.tracks ≠ 0
 ·rw [if_pos h5] at h4; exact absurd h4 h5
 exact clipF_0 (Decidable.not_not.1 h5)
def Yex (l : List Clp) (i : Nat) : Int := (l.take i).foldl (fun n c => max n (c.pos + c.len)) 0
theorem endTo_next {l : List Clp} {i : Nat} (h : i < l.length) : Yex l (i + 1) = max (Yex l i) ((l.getD i default).pos + (l.getD i default).len) := by
 unfold Yex;rw [List.take_add_one, ZgE h, Option.toList_some, List.foldl_append];simp [h]
theorem c_isNaN (n : Int) : Yad Tryz.prog 97 [.v (.int .i64 n)] (.v (.bool false)) := by
 refine Yab (n := 6) (ds' := [.v (.bool false)]) Tryz.func97 J (by kernel_rfl) J [2] J J ?_;intro B w0 F0 fr;refine .sr (.aN ?_);refine .sr (.mm ?_);refine .sA (.neq J J J) ?_;refine .aN ?_;refine .ret (rDq J ?_)
 all_goals (simp)
theorem YdJ (a b : Int) : Yad Tryz.prog 43 [.v (.int .i64 a), .v (.int .i64 b)] (.v (.int .i64 (cmpI a b))) := by
 refine Yab (n := 20) (ds' := [.v (.int .i64 (cmpI a b))]) Tryz.func43 J (by kernel_rfl) J [4] J J ?_;intro B w0 F0 fr;unfold cmpI;refine .sr (.aN ?_);refine .sr (.mA ?_);refine .sA (.call J (.cons (.rfl' J) .nil) (c_isNaN _)) ?_;refine .aN ?_;refine .sr (.mA ?_);refine .sA (.call J (.cons (.rfl' J) .nil) (c_isNaN _)) ?_;refine .aN ?_;refine .seq (.sr (.mN ?_));refine .cond J (fun h => nomatch h) (fun _ => ?_);refine .skip (.seq (.sr (.mN ?_)));refine .cond J (fun h => nomatch h) (fun _ => ?_);refine .skip (.seq (.sr (.mm ?_)));refine .sA (.lss J J J) (.nil ?_);refine .cT J (fun h1 => ?_) fun h1 => ?_
 ·rw [if_pos h1];refine .sr (.aN ?_);refine .ret (rDq J ?_)
  all_goals (rfl)
 rw [if_neg h1];refine .skip (.seq (.sr (.mm ?_)));refine .sA (.gtr J J J) (.nil ?_);refine .cT J (fun h2 => ?_) fun h2 => ?_
 ·rw [if_pos h2];refine .sr (.aN ?_);refine .ret (rDq J ?_)
  all_goals (rfl)
 rw [if_neg h2];refine .skip (.sr (.aN ?_));refine .ret (rDq J ?_)
 all_goals (rfl)
theorem c_or (l : List Int) : Yad Tryz.prog 42 [.sl (l.map intD)] (.v (.int .i64 (orI l))) := by
 refine Yab (n := 18) (ds' := [.v (.int .i64 (orI l))]) Tryz.func42 J (by kernel_rfl) J [2] J J ?_;intro B w0 F0 fr;refine .bound 0 J (fun hbd0 => ?_);rw [ZlM] at hbd0;refine .sr (.aN ?_);refine .sr (.aN ?_);refine .seq (.sr (.mA ?_));refine .sA (.lenSl J et_34.ht J) ?_;refine .mN ?_;refine .block (.loop (G := Nat) (fun k => Env.of [(8, .iv k), (6, .d (.sl (l.map intD))), (7, .iv (l.map intD).length), (3, .d (.v (.int .i64 0)))]) (fun k => []) (fun k => k <= l.length /\ ∀ c ∈ l.take k, decide (c ≠ 0) = false) (fun k => l.length - k) 0 ⟨ZnZ _, fun c h => by simp at h⟩ (Sub.less ⟨U, U, U, U, trivial⟩ (fun _ h => h)) ?_);intro k hk;refine .sr (.sA (.lss J J J) (.nil ?_));refine .seq (.cT J (fun h1 => ?_) fun h1 => ?_)
 ·rw [ZlM] at h1;have hlt : k < l.length := by omega
  refine .skip (.seq (.block (.sr (.sA (.indexAddr J et_34 J J k J (at_list hlt) J) ?_))));refine .sA (.load J sc_3 J) ?_;refine .aN ?_;refine .sr (.mm ?_);refine .sA (.neq J J J) (.nil ?_);refine .cT J (fun h2 => ?_) fun h2 => ?_
  ·rw [orI_yes hlt hk.2 h2];refine .sr (.ma (.nil ?_));refine .ret (rDq J ?_)
   all_goals (rfl)
  have hT := take_false' (p := fun x : Int => decide (x ≠ 0)) hlt hk.2 (decide_eq_false h2);refine .skip (.region (.sA (.add64 J J J) ?_));refine .mN ?_;refine ⟨k + 1, ⟨by omega, hT⟩, (by dsimp only; omega), Sub.less ⟨U, U, U, U, trivial⟩ (fun _ h => h)⟩
 rw [ZlM] at h1;rw [orI_no (fun c hc => hk.2 c (by rw [show k = l.length by omega]; exact hc))];refine .exit (.sr (.mA ?_));refine .aN ?_;refine .ret (rDq J ?_)
 all_goals (rfl)
theorem c_cmpClp (a b : Clp) : Yad Tryz.prog 33 [.agg a.ds, .agg b.ds] (.v (.int .i64 (clpCmp a b))) := by
 refine Yab (n := 37) (ds' := [.v (.int .i64 (clpCmp a b))]) Tryz.func33 J (by kernel_rfl) J [4] J J ?_;intro B w0 F0 fr;refine .sr (.sA (.box J J J) ?_);refine .sA (.box J J J) ?_;refine .aN ?_;refine .seq (.drw 33 ?_);refine .fl Ygo sc_3 ?_;refine .fl Ygo sc_3 ?_;refine .sA (.call J (.cons (.rfl' J) (.cons (.rfl' J) .nil)) (YdJ _ _)) ?_;refine .fl Ybj sc_3 ?_;refine .fl Ybj sc_3 ?_;refine .sA (.call J (.cons (.rfl' J) (.cons (.rfl' J) .nil)) (YdJ _ _)) ?_;refine .fl YeS sc_9 ?_;refine .fl YeS sc_9 ?_;refine .sA (.call J (.cons (.rfl' J) (.cons (.rfl' J) .nil)) (c_strCmp _ _)) ?_;refine .fl Ygp sc_3 ?_;refine .fl Ygp sc_3 ?_;refine .sA (.call J (.cons (.rfl' J) (.cons (.rfl' J) .nil)) (YdJ _ _)) ?_;refine .fl YeR sc_3 ?_;refine .fl YeR sc_3 ?_;refine .sA (.call J (.cons (.rfl' J) (.cons (.rfl' J) .nil)) (YdJ _ _)) ?_;refine .fl Ycv sc_3 ?_;refine .fl Ycv sc_3 ?_;refine .sA (.call J (.cons (.rfl' J) (.cons (.rfl' J) .nil)) (YdJ _ _)) ?_;refine .sA (.buildSlice J et_34 (.cons J J J (.cons J J J (.cons J J J (.cons J J J (.cons J J J (.cons J J J .nil)))))) J (by decide)) ?_;refine .sA (.call J (.cons (.rfl' J) .nil) (c_or [cmpI a.track b.track, cmpI a.pos b.pos, YbW a.media b.media, cmpI a.chan b.chan, cmpI a.src b.src, cmpI a.len b.len])) (.sA (.assignD J J) ?_);refine .nil ?_;refine .nil ?_;refine .ret (rDq J ?_)
 all_goals (rfl)
theorem YfM (c : Clp) (h : -9223372036854775808 <= c.src - c.pos /\ c.src - c.pos <= 9223372036854775807) : Yad Tryz.prog 73 [.agg c.ds] (.agg (YbJ c).ds) := by
 refine Yap (n := 15) (ds' := [.agg (YbJ c).ds]) Tryz.func73 J (by kernel_rfl) J [.cell 2 98] J J ?_;intro B w0 F0 fr;refine .sr (.sA (.box J J J) ?_);refine .alloc 101 J J J J zt_98 J J J (.nil ?_);refine .sr (.fl Ygo sc_3 ?_);refine .fl YeS sc_9 ?_;refine .fl Ygp sc_3 ?_;refine .fl YeR sc_3 ?_;refine .fl Ybj sc_3 ?_;refine .sA (.sub64 J J J) ?_;refine .sA (.build J bu_98 (.cons J J (.cons J J (.cons J J (.cons J J .nil)))) J) ?_;refine .st J J J sz_98 J (.head _) J J J (ZnB J) (.nil ?_);refine .ret ?_;refine ⟨RetR.agg J (.head _) ag_98 J (.c5 (.c5 (.c5 (.c5 .nil)))), trivial⟩
 all_goals (rfl)
theorem c_rate (n : Int) : Yad Tryz.prog 31 [.v (.int .i64 n)] (.v (.bool (decide (1 <= n /\ n <= 1000000)))) := by
 refine Yab (n := 9) (ds' := [.v (.bool (decide (1 <= n /\ n <= 1000000)))]) Tryz.func31 J (by kernel_rfl) J [2] J J ?_;intro B w0 F0 fr;refine .sr (.aN ?_);refine .sr (.mA ?_);refine .sA (.geq J J J) ?_;refine .mA ?_;refine .sT 5 J (fun g1 => ?_) fun g1 => ?_
 ·refine .sG (.moveD J J) ?_;refine .sG (.leq J J J) ?_;refine .sA (.pickT J J J) ?_;refine .aN ?_;refine .ret (rDq J ?_)
  all_goals (simp; omega)
 refine .pB ?_;refine .sA (.pickF J J J) ?_;refine .aN ?_;refine .ret (rDq J ?_)
 all_goals (simp; omega)
theorem c_checkEnv (c : Clp) (hS : ClpS c) : Yad Tryz.prog 71 [.agg c.ds] (.v (.int .i64 (envF c))) := by
 refine Yab (n := 66) (ds' := [.v (.int .i64 (envF c))]) Tryz.func71 J (by kernel_rfl) J [2] J J ?_;intro B w0 F0 fr;refine .sr (.sA (.box J J J) ?_);refine .aN ?_;refine .seq (.sr (.fl YeQ sc_54 ?_));refine .sA (.lenSl J et_54.ht J) ?_;rw [ZlM];refine .sA (.eql J J J) (.nil ?_);refine .cT J (fun h1 => ?_) fun h1 => ?_
 ·rw [show envF c = 9 from if_pos (by omega)];refine .sr (.aN ?_);refine .ret (rDq J ?_)
  all_goals (first | rfl)
 refine .skip (.seq (.sr (.fl YeQ sc_54 ?_)));refine .sA (.lenSl J et_54.ht J) ?_;rw [ZlM];refine .sA (.gtr J J J) (.nil ?_);refine .cT J (fun h2 => ?_) fun h2 => ?_
 ·rw [show envF c = 2 from (if_neg (by omega)).trans (if_pos (by omega))];refine .sr (.aN ?_);refine .ret (rDq J ?_)
  all_goals (first | rfl)
 rw [show envF c = ffst (pF c) c.env.length from (if_neg (by omega)).trans (if_neg (by omega))];refine .skip (.seq (.sr (.fl YeQ sc_54 ?_)));refine .sA (.lenSl J et_54.ht J) ?_;rw [ZlM];refine .mN ?_;refine .block (.loop (G := Nat) (fun i => Env.of [(17, .iv i), (15, .d (.sl (c.env.map Pnt.ds))), (16, .iv c.env.length), (1, .d (.fp c.ds))]) (fun i => []) (fun i => i <= c.env.length /\ ffst (pF c) i = 0) (fun i => c.env.length - i) 0 ⟨ZnZ _, J⟩ (Sub.less ⟨U, U, U, U, trivial⟩ (fun _ h => h)) ?_);intro i hi;refine .sr (.sA (.lss J J J) (.nil ?_));refine .seq (.cT J (fun h3 => ?_) fun h3 => ?_)
 ·have hlt : i < c.env.length := by omega
  have hps := hS.env _ (Ydk hlt);refine .skip (.seq (.block (.sr (.mA ?_))));refine .sA (.indexAddr J et_54 J J i J (at_p hlt) J) (.sA (.loadAgg J ag_156 J J) ?_);refine .alloc 101 J J J J zt_156 J J J ?_;refine .aA ?_;refine .st J J J sz_156 J (.head _) J J J (ZnB J) ?_;refine .freezeCells 4 (ds := (pAt c i).ds) J (.head _) (.nil ?_);refine .seq (.sr (.fl YbQ sc_3 ?_));refine .sA (.lss J J J) ?_;refine .mA ?_;refine .sT 25 J (fun g4 => ?_) fun g4 => ?_
  ·have hp1 : pF c i = 1 := if_pos (by omega);rw [Yau hi.2 (by rw [hp1]; first | decide | assumption) _ hlt, hp1];refine .pB ?_;refine .pB ?_;refine .pA ?_;refine .sA (.pickT J J J) (.nil ?_);refine .cond J (fun _ => ?_) (fun h => nomatch h);refine .sr (.aN ?_);refine .ret (rDq J ?_)
   all_goals (first | rfl)
  refine .sG (.fieldAddr J YbQ J) ?_;refine .sG (.load J sc_3 J) ?_;refine .sG (.fieldAddr J Ycv J) ?_;refine .sG (.load J sc_3 J) ?_;refine .sG (.geq J J J) ?_;refine .sA (.pickF J J J) (.nil ?_);refine .cT J (fun h5 => ?_) fun h5 => ?_
  ·have hp1 : pF c i = 1 := if_pos (by omega);rw [Yau hi.2 (by rw [hp1]; first | decide | assumption) _ hlt, hp1];refine .sr (.aN ?_);refine .ret (rDq J ?_)
   all_goals (first | rfl)
  have hq1 : ¬ ((pAt c i).pos < 0 \/ c.len <= (pAt c i).pos) := by omega
  refine .skip (.seqJ (¬ (0 < i /\ (pAt c i).pos <= (pAt c (i - 1)).pos)) (Env.of [(4, .d (.fp (pAt c i).ds)), (17, .iv i), (15, .d (.sl (c.env.map Pnt.ds))), (16, .iv c.env.length), (1, .d (.fp c.ds))]) [] ?_ (fun hq2 => ?_))
  ·skip;refine .seq (.drw 14 ?_);refine .sA (.moveD J J) (.sA (.gtr J J J) (.sA (.moveD J J) ?_));refine .sT 34 J (fun g6 => ?_) fun g6 => ?_
   ·refine .sG (.fieldAddr J YbQ J) ?_;refine .sG (.load J sc_3 J) ?_;refine .sG (.fieldAddr J YeQ J) ?_;refine .sG (.load J sc_54 J) ?_;refine .sG (.moveD J J) ?_;refine .sG (.sub64 J J J) ?_;refine .sG (.indexAddr J et_54 J J (i - 1) (by omega) (at_p (by omega)) J) ?_;refine .sG (.fieldAddr J YbQ J) ?_;refine .sG (.load J sc_3 J) ?_;refine .sG (.leq J J J) ?_;refine .sA (.pickT J J J) ?_;refine .nil ?_;refine .nil ?_;refine .cT J (fun h7 => ?_) fun h7 => ?_
    ·have hp1 : pF c i = 8 := (if_neg hq1).trans (if_pos ⟨by omega, h7⟩);rw [Yau hi.2 (by rw [hp1]; first | decide | assumption) _ hlt, hp1];refine .sr (.aN ?_);refine .ret (rDq J ?_)
     all_goals (first | rfl)
    have hq2 : ¬ (0 < i /\ (pAt c i).pos <= (pAt c (i - 1)).pos) := fun hh => h7 hh.2
    refine .skip ?_;refine ⟨?_, Sub.less ⟨U, U, U, U, U, trivial⟩ (fun _ h => h)⟩;exact hq2
   have hq2 : ¬ (0 < i /\ (pAt c i).pos <= (pAt c (i - 1)).pos) := by omega
   refine .pB ?_;refine .pB ?_;refine .pB ?_;refine .pB ?_;refine .pB ?_;refine .sA (.pickF J J J) ?_;refine .nil ?_;refine .nil ?_;refine .cond J (fun h => nomatch h) (fun _ => ?_);refine .skip ?_;refine ⟨?_, Sub.less ⟨U, U, U, U, U, trivial⟩ (fun _ h => h)⟩;exact hq2
  refine .seq (.sr (.sA (.fieldAddr J Yck J) ?_));refine .sA (.loadAgg J YgC J J) (.sA (.call J (.cons (.rfl' J) .nil) (c_ratio (pAt c i).num (pAt c i).den hps.1 hps.2)) ?_);refine .aN ?_;refine .sr (.mA ?_);refine .sA (.neq J J J) (.nil ?_);refine .cT J (fun h8 => ?_) fun h8 => ?_
  ·have hp1 : pF c i = ratF (pAt c i).num (pAt c i).den := (if_neg hq1).trans ((if_neg hq2).trans (if_pos h8));rw [Yau hi.2 (by rw [hp1]; first | decide | assumption) _ hlt, hp1];refine .sr (.ma (.nil ?_));refine .ret (rDq J ?_)
   all_goals (first | rfl)
  have hq3 : ¬ ratF (pAt c i).num (pAt c i).den ≠ 0 := h8;refine .skip (.sr (.sA (.fieldAddr J Yck J) ?_));refine .fl fo_154_0 sc_9 ?_;refine .sA (.call J (.cons (.rfl' J) (.cons (.rfl' J) .nil)) (c_trimP (pAt c i).num)) (.sA (.lenStr J st_9 J) ?_);rw [YaT];refine .sA (.gtr J J J) ?_;refine .mA ?_;refine .sT 58 J (fun g9 => ?_) fun g9 => ?_
  ·have hp1 : pF c i = 2 := (if_neg hq1).trans ((if_neg hq2).trans ((if_neg hq3).trans (if_pos (by omega))));rw [Yau hi.2 (by rw [hp1]; first | decide | assumption) _ hlt, hp1];refine .pB ?_;refine .pB ?_;refine .pA ?_;refine .sA (.pickT J J J) (.nil ?_);refine .cond J (fun _ => ?_) (fun h => nomatch h);refine .sr (.aN ?_);refine .ret (rDq J ?_)
   all_goals (first | rfl)
  refine .sG (.fieldAddr J Yck J) ?_;refine .sG (.fieldAddr J YcZ J) ?_;refine .sG (.load J sc_9 J) ?_;refine .sG (.lenStr J st_9 J) ?_;rw [Lib.size_eq (pAt c i).den];refine .sG (.gtr J J J) ?_;refine .sA (.pickF J J J) (.nil ?_);refine .cT J (fun h10 => ?_) fun h10 => ?_
  ·have hp1 : pF c i = 2 := (if_neg hq1).trans ((if_neg hq2).trans ((if_neg hq3).trans (if_pos (by omega))));rw [Yau hi.2 (by rw [hp1]; first | decide | assumption) _ hlt, hp1];refine .sr (.aN ?_);refine .ret (rDq J ?_)
   all_goals (first | rfl)
  have hp0 : pF c i = 0 := (if_neg hq1).trans ((if_neg hq2).trans ((if_neg hq3).trans (if_neg (by omega))));refine .skip (.region (.sA (.add64 J J J) ?_));refine .mN ?_;refine ⟨i + 1, ⟨by omega, YaL hi.2 hp0⟩, (by dsimp only; omega), Sub.less ⟨U, U, U, U, trivial⟩ (fun _ h => nomatch h)⟩
 obtain rfl : i = c.env.length := by omega
 rw [hi.2];refine .exit (.sr (.aN ?_));refine .ret (rDq J ?_)
 all_goals (first | rfl)
theorem c_checkClip (c : Clp) (t : Int) (hS : ClpS c) : Yad Tryz.prog 32 [.agg c.ds, .v (.int .i64 t)] (.v (.int .i64 (Yfq c t))) := by
 refine Yab (n := 63) (ds' := [.v (.int .i64 (Yfq c t))]) Tryz.func32 J (by kernel_rfl) J [4] J J ?_;intro B w0 F0 fr;refine .sr (.sA (.box J J J) ?_);refine .aN ?_;refine .seq (.block (.sr (.fl YeS sc_9 ?_)));refine .sA (.call J (.cons (.rfl' J) .nil) (c_pName c.media hS.media)) (.sA (.not J J) ?_);refine .aN ?_;refine .cond J (fun h1 => ?_) (fun h1 => ?_)
 ·replace h1 := Yaw h1;rw [show Yfq c t = 5 from if_pos h1];refine .sr (.aN ?_);refine .ret (rDq J ?_)
  all_goals (first | rfl)
 replace h1 := Yax h1;have hn : ¬ Ya9 c.media.data.toList = false := by rw [h1]; decide
 refine .seqJ (True) (Env.of [(10, .d (.v (.bool (decide (Yaz c t))))), (2, .d (.fp c.ds))]) [] ?_ (fun _ => ?_)
 ·skip;refine .sr (.fl Ygp sc_3 ?_);refine .sA (.lss J J J) ?_;refine .mA ?_;refine .sT 14 J (fun g2 => ?_) fun g2 => ?_
  ·refine .pB ?_;refine .pA ?_;refine .sA (.pickT J J J) ?_;refine .aN ?_;refine .cond J (fun _ => ?_) (fun h => nomatch h);refine .skip ?_;refine ⟨?_, Sub.less ⟨(SLe.bl (by first | exact (decide_eq_true (by unfold Yaz; omega)).symm | exact Yai (by unfold Yaz; omega))), U, trivial⟩ (fun _ h => h)⟩;trivial
  refine .sG (.fieldAddr J Ygp J) ?_;refine .sG (.load J sc_3 J) ?_;refine .sG (.geq J J J) ?_;refine .sA (.pickF J J J) ?_;refine .aN ?_;refine .cT J (fun h3 => ?_) fun h3 => ?_
  ·skip;refine .skip ?_;refine ⟨?_, Sub.less ⟨(SLe.bl (by first | exact (decide_eq_true (by unfold Yaz; omega)).symm | exact Yai (by unfold Yaz; omega))), U, trivial⟩ (fun _ h => h)⟩;trivial
  skip;refine .sr (.fl YeR sc_3 ?_);refine .sA (.lss J J J) ?_;refine .mA ?_;refine .sT 22 J (fun g4 => ?_) fun g4 => ?_
  ·refine .pB ?_;refine .pA ?_;refine .sA (.pickT J J J) ?_;refine .aN ?_;refine .cond J (fun _ => ?_) (fun h => nomatch h);refine .skip ?_;refine ⟨?_, Sub.less ⟨(SLe.bl (by first | exact (decide_eq_true (by unfold Yaz; omega)).symm | exact Yai (by unfold Yaz; omega))), U, trivial⟩ (fun _ h => h)⟩;trivial
  refine .sG (.fieldAddr J YeR J) ?_;refine .sG (.load J sc_3 J) ?_;refine .sG (.gtr J J J) ?_;refine .sA (.pickF J J J) ?_;refine .aN ?_;refine .cT J (fun h5 => ?_) fun h5 => ?_
  ·skip;refine .skip ?_;refine ⟨?_, Sub.less ⟨(SLe.bl (by first | exact (decide_eq_true (by unfold Yaz; omega)).symm | exact Yai (by unfold Yaz; omega))), U, trivial⟩ (fun _ h => h)⟩;trivial
  skip;refine .sr (.fl Ygo sc_3 ?_);refine .sA (.lss J J J) ?_;refine .mA ?_;refine .sT 30 J (fun g6 => ?_) fun g6 => ?_
  ·refine .pB ?_;refine .pB ?_;refine .sA (.pickT J J J) ?_;refine .aN ?_;refine .cond J (fun _ => ?_) (fun h => nomatch h);refine .skip ?_;refine ⟨?_, Sub.less ⟨(SLe.bl (by first | exact (decide_eq_true (by unfold Yaz; omega)).symm | exact Yai (by unfold Yaz; omega))), U, trivial⟩ (fun _ h => h)⟩;trivial
  refine .sG (.fieldAddr J Ygo J) ?_;refine .sG (.load J sc_3 J) ?_;refine .sG (.moveD J J) ?_;refine .sG (.geq J J J) ?_;refine .sA (.pickF J J J) ?_;refine .aN ?_;refine .cT J (fun h7 => ?_) fun h7 => ?_
  ·skip;refine .skip ?_;refine ⟨?_, Sub.less ⟨(SLe.bl (by first | exact (decide_eq_true (by unfold Yaz; omega)).symm | exact Yai (by unfold Yaz; omega))), U, trivial⟩ (fun _ h => h)⟩;trivial
  skip;refine .sr (.fl Ybj sc_3 ?_);refine .sA (.lss J J J) ?_;refine .mA ?_;refine .sT 39 J (fun g8 => ?_) fun g8 => ?_
  ·refine .pB ?_;refine .pA ?_;refine .sA (.pickT J J J) ?_;refine .aN ?_;refine .cond J (fun _ => ?_) (fun h => nomatch h);refine .skip ?_;refine ⟨?_, Sub.less ⟨(SLe.bl (by first | exact (decide_eq_true (by unfold Yaz; omega)).symm | exact Yai (by unfold Yaz; omega))), U, trivial⟩ (fun _ h => h)⟩;trivial
  refine .sG (.fieldAddr J Ybj J) ?_;refine .sG (.load J sc_3 J) ?_;refine .sG (.geq J J J) ?_;refine .sA (.pickF J J J) ?_;refine .aN ?_;refine .cT J (fun h9 => ?_) fun h9 => ?_
  ·skip;refine .skip ?_;refine ⟨?_, Sub.less ⟨(SLe.bl (by first | exact (decide_eq_true (by unfold Yaz; omega)).symm | exact Yai (by unfold Yaz; omega))), U, trivial⟩ (fun _ h => h)⟩;trivial
  skip;refine .sr (.fl Ycv sc_3 ?_);refine .sA (.lss J J J) ?_;refine .mA ?_;refine .sT 47 J (fun g10 => ?_) fun g10 => ?_
  ·refine .pB ?_;refine .pB ?_;refine .pB ?_;refine .sA (.pickT J J J) ?_;refine .aN ?_;refine .cond J (fun _ => ?_) (fun h => nomatch h);refine .skip ?_;refine ⟨?_, Sub.less ⟨(SLe.bl (by first | exact (decide_eq_true (by unfold Yaz; omega)).symm | exact Yai (by unfold Yaz; omega))), U, trivial⟩ (fun _ h => h)⟩;trivial
  refine .sG (.fieldAddr J Ycv J) ?_;refine .sG (.load J sc_3 J) ?_;refine .sG (.fieldAddr J Ybj J) ?_;refine .sG (.load J sc_3 J) ?_;refine .sG (.sub64 J J J) ?_;refine .sG (.gtr J J J) ?_;refine .sA (.pickF J J J) ?_;refine .aN ?_;refine .cT J (fun h11 => ?_) fun h11 => ?_
  ·skip;refine .skip ?_;refine ⟨?_, Sub.less ⟨(SLe.bl (by first | exact (decide_eq_true (by unfold Yaz; omega)).symm | exact Yai (by unfold Yaz; omega))), U, trivial⟩ (fun _ h => h)⟩;trivial
  skip;refine .region (.fl YeR sc_3 ?_);refine .fl Ycv sc_3 ?_;refine .sA (.add64 J J J) ?_;refine .sA (.gtr J J J) ?_;refine .aN ?_;refine ⟨?_, Sub.less ⟨(SLe.bl (by first | exact (decide_eq_true (by unfold Yaz; omega)).symm | exact Yai (by unfold Yaz; omega))), U, trivial⟩ (fun _ h => h)⟩;trivial
 refine .cT J (fun h12 => ?_) fun h12 => ?_
 ·rw [show Yfq c t = 1 from (if_neg hn).trans (if_pos h12)];refine .sr (.aN ?_);refine .ret (rDq J ?_)
  all_goals (first | rfl)
 rw [show Yfq c t = envF c from (if_neg hn).trans (if_neg h12)];refine .skip (.sr (.sA (.loadAgg J Ydx J J) ?_));refine .sA (.call J (.cons (.rfl' J) .nil) (c_checkEnv c hS)) ?_;refine .aN ?_;refine .ret (rDq J ?_)
 all_goals (first | rfl)
theorem c_edit (e : Edt) (hS : EdtS e) : Yad Tryz.prog 12 [.agg e.ds] (.v (.int .i64 (edtF e))) := by
 refine Yab (n := 53) (ds' := [.v (.int .i64 (edtF e))]) Tryz.func12 J (by kernel_rfl) J [2] J J ?_;intro B w0 F0 fr;refine .sr (.sA (.box J J J) ?_);refine .aN ?_;refine .seq (.sr (.fl fo_29_0 sc_3 ?_));refine .sA (.call J (.cons (.rfl' J) .nil) (c_rate e.rate)) (.sA (.not J J) ?_);refine .mA ?_;refine .sN 10 J (fun g1 => ?_) fun g1 => ?_
 ·rw [show edtF e = 1 from if_pos (.inl g1)];refine .pB ?_;refine .pA ?_;refine .sA (.pickT J J J) ?_;refine .mA ?_;refine .pB ?_;refine .pA ?_;refine .sA (.pickT J J J) (.nil ?_);refine .cond J (fun _ => ?_) (fun h => nomatch h);refine .sr (.aN ?_);refine .ret (rDq J ?_)
  all_goals (first | rfl)
 refine .sG (.fieldAddr J fo_29_1 J) ?_;refine .sG (.load J sc_3 J) ?_;refine .sG (.lss J J J) ?_;refine .sA (.pickF J J J) ?_;refine .mA ?_;refine .sT 15 J (fun g2 => ?_) fun g2 => ?_
 ·rw [show edtF e = 1 from if_pos (by omega)];refine .pB ?_;refine .pA ?_;refine .sA (.pickT J J J) (.nil ?_);refine .cond J (fun _ => ?_) (fun h => nomatch h);refine .sr (.aN ?_);refine .ret (rDq J ?_)
  all_goals (first | rfl)
 refine .sG (.fieldAddr J fo_29_1 J) ?_;refine .sG (.load J sc_3 J) ?_;refine .sG (.gtr J J J) ?_;refine .sA (.pickF J J J) (.nil ?_);refine .cT J (fun h3 => ?_) fun h3 => ?_
 ·rw [show edtF e = 1 from if_pos (by omega)];refine .sr (.aN ?_);refine .ret (rDq J ?_)
  all_goals (first | rfl)
 have hq0 : ¬ (¬ (1 <= e.rate /\ e.rate <= 1000000) \/ e.tracks < 1 \/ 16 < e.tracks) := by omega
 refine .skip (.seq (.sr (.fl YeT sc_27 ?_)));refine .sA (.lenSl J et_27.ht J) ?_;rw [ZlM];refine .sA (.gtr J J J) (.nil ?_);refine .cT J (fun h4 => ?_) fun h4 => ?_
 ·rw [show edtF e = 2 from (if_neg hq0).trans (if_pos (by omega))];refine .sr (.aN ?_);refine .ret (rDq J ?_)
  all_goals (first | rfl)
 rw [show edtF e = ffst (cF e) e.clips.length from (if_neg hq0).trans (if_neg (by omega))];refine .skip (.seq (.sr (.fl YeT sc_27 ?_)));refine .sA (.lenSl J et_27.ht J) ?_;rw [ZlM];refine .mN ?_;refine .block (.loop (G := Nat) (fun i => Env.of [(27, .iv i), (25, .d (.sl (e.clips.map Clp.ds))), (26, .iv e.clips.length), (1, .d (.fp e.ds))]) (fun i => []) (fun i => i <= e.clips.length /\ ffst (cF e) i = 0) (fun i => e.clips.length - i) 0 ⟨ZnZ _, J⟩ (Sub.less ⟨U, U, U, U, trivial⟩ (fun _ h => h)) ?_);intro i hi;refine .sr (.sA (.lss J J J) (.nil ?_));refine .seq (.cT J (fun h5 => ?_) fun h5 => ?_)
 ·have hlt : i < e.clips.length := by omega
  have hcs := hS _ (cAt_mem hlt);refine .skip (.seq (.block (.sr (.mA ?_))));refine .sA (.indexAddr J et_27 J J i J (at_c hlt) J) (.sA (.loadAgg J Ydx J J) ?_);refine .alloc 101 J J J J zt_56 J J J ?_;refine .aA ?_;refine .st J J J sz_56 J (.head _) J J J (ZnB J) (.nil ?_);refine .seq (.sr (.sA (.loadPU J Ydx J (.head _) J J) ?_));refine .fl fo_29_1 sc_3 ?_;refine .sA (.call J (.cons (.rfl' J) (.cons (.rfl' J) .nil)) (c_checkClip (cAt e i) e.tracks hcs)) ?_;refine .aN ?_;refine .sr (.mA ?_);refine .sA (.neq J J J) (.nil ?_);refine .cT J (fun h6 => ?_) fun h6 => ?_
  ·have hp1 : cF e i = Yfq (cAt e i) e.tracks := if_pos h6;rw [Yau hi.2 (by rw [hp1]; first | decide | assumption) _ hlt, hp1];refine .sr (.ma (.nil ?_));refine .ret (rDq J ?_)
   all_goals (first | rfl)
  have hq1 : ¬ Yfq (cAt e i) e.tracks ≠ 0 := h6;refine .skip (.seq (.drw 13 ?_));refine .sA (.moveD J J) (.sA (.gtr J J J) (.sA (.moveD J J) ?_));refine .sT 41 J (fun g7 => ?_) fun g7 => ?_
  ·refine .sG (.fieldAddr J YeT J) ?_;refine .sG (.load J sc_27 J) ?_;refine .sG (.moveD J J) ?_;refine .sG (.sub64 J J J) ?_;refine .sG (.indexAddr J et_27 J J (i - 1) (by omega) (at_c (by omega)) J) ?_;refine .sG (.loadAgg J Ydx J J) ?_;refine .sG (.loadPU J Ydx J (.head _) J J) ?_;refine .sG (.call J (.cons (.rfl' J) (.cons (.rfl' J) .nil)) (c_cmpClp (cAt e (i - 1)) (cAt e i))) ?_;refine .sG (.gtr J J J) ?_;refine .sA (.pickT J J J) ?_;refine .nil ?_;refine .nil ?_;refine .cT J (fun h8 => ?_) fun h8 => ?_
   ·have hp1 : cF e i = 8 := (if_neg hq1).trans (if_pos ⟨by omega, h8⟩);rw [Yau hi.2 (by rw [hp1]; first | decide | assumption) _ hlt, hp1];refine .sr (.aN ?_);refine .ret (rDq J ?_)
    all_goals (first | rfl)
   have hq2 : ¬ (0 < i /\ 0 < clpCmp (cAt e (i - 1)) (cAt e i)) := fun hh => h8 hh.2
   refine .skip (.region (.sA (.add64 J J J) ?_));refine .mN ?_;refine ⟨i + 1, ⟨by omega, YaL hi.2 ((if_neg hq1).trans (if_neg hq2))⟩, (by dsimp only; omega), Sub.less ⟨U, U, U, U, trivial⟩ (fun _ h => nomatch h)⟩
  have hq2 : ¬ (0 < i /\ 0 < clpCmp (cAt e (i - 1)) (cAt e i)) := by omega
  refine .pB ?_;refine .pB ?_;refine .pB ?_;refine .pB ?_;refine .pA ?_;refine .sA (.pickF J J J) ?_;refine .nil ?_;refine .nil ?_;refine .cond J (fun h => nomatch h) (fun _ => ?_);refine .skip (.region (.sA (.add64 J J J) ?_));refine .mN ?_;refine ⟨i + 1, ⟨by omega, YaL hi.2 ((if_neg hq1).trans (if_neg hq2))⟩, (by dsimp only; omega), Sub.less ⟨U, U, U, U, trivial⟩ (fun _ h => nomatch h)⟩
 obtain rfl : i = e.clips.length := by omega
 rw [hi.2];refine .exit (.sr (.aN ?_));refine .ret (rDq J ?_)
 all_goals (first | rfl)
theorem c_end (l : List Clp) (hl : l.length <= 300) (ho : ∀ c ∈ l, 0 <= c.pos + c.len /\ c.pos + c.len <= 100000 /\ 0 <= c.pos /\ 0 <= c.len) : Yad Tryz.prog 26 [.sl (l.map Clp.ds)] (.v (.int .i64 (Yex l l.length))) := by
 refine Yab (n := 21) (ds' := [.v (.int .i64 (Yex l l.length))]) Tryz.func26 J (by kernel_rfl) J [2] J J ?_;intro B w0 F0 fr;refine .sr (.aN ?_);refine .sr (.aN ?_);refine .seq (.sr (.mA ?_));refine .sA (.lenSl J et_27.ht J) ?_;rw [ZlM];refine .mN ?_;refine .block (.loop (G := Nat) (fun i => Env.of [(8, .iv i), (6, .d (.sl (l.map Clp.ds))), (7, .iv l.length), (3, .iv (Yex l i))]) (fun i => []) (fun i => i <= l.length) (fun i => l.length - i) 0 (ZnZ _) (Sub.less ⟨U, U, U, U, trivial⟩ (fun _ h => h)) ?_);intro i hi;refine .sr (.sA (.lss J J J) (.nil ?_));refine .seq (.cT J (fun h1 => ?_) fun h1 => ?_)
 ·have hlt : i < l.length := by omega
  have hc := ho (l.getD i default) (by simp [hlt]);refine .skip (.seq (.block (.sr (.sA (.indexAddr J et_27 J J i J (Yca hlt) J) ?_))));refine .sA (.loadAgg J Ydx J J) ?_;refine .alloc 101 J J J J zt_56 J J J ?_;refine .st J J J sz_56 J (.head _) J J J (ZnB J) (.nil ?_);refine .region (.mA ?_);refine .sA (.fieldAddrP J Ybj J) (.sA (.loadP J sc_3 J (.head _) J) (.sA (.fieldAddrP J Ycv J) (.sA (.loadP J sc_3 J (.head _) J) ?_)));refine .sA (.add64 J J J) ?_;refine .sA (.max J J J) ?_;rw [<- endTo_next hlt];refine .aN ?_;refine .region (.sA (.add64 J J J) ?_);refine .mN ?_;refine ⟨i + 1, (by omega), (by dsimp only; omega), Sub.less ⟨U, U, U, U, trivial⟩ (fun _ h => nomatch h)⟩
 obtain rfl : i = l.length := by omega
 refine .exit (.sr (.mA ?_));refine .aN ?_;refine .ret (rDq J ?_)
 all_goals (first | rfl)
theorem c_End (e : Edt) (hS : EdtS e) : Yad Tryz.prog 8 [.agg e.ds] (.tup [.v (.int .i64 (if edtF e = 0 then Yex e.clips e.clips.length else 0)), .v (.int .i64 (edtF e))]) := by
 refine Yab (n := 13) (ds' := [.v (.int .i64 (if edtF e = 0 then Yex e.clips e.clips.length else 0)), .v (.int .i64 (edtF e))]) Tryz.func8 J (by kernel_rfl) J [2, 3] J J ?_;intro B w0 F0 fr;refine .sr (.sA (.box J J J) ?_);refine .aa (.nil ?_);refine .seq (.sr (.sA (.loadAgg J ag_29 J J) ?_));refine .sA (.call J (.cons (.rfl' J) .nil) (c_edit e hS)) ?_;refine .aN ?_;refine .sr (.mA ?_);refine .sA (.neq J J J) (.nil ?_);refine .cT J (fun h1 => ?_) fun h1 => ?_
 ·rw [if_neg h1];refine .sr (.ma ?_);refine .aN ?_;refine .ret ?_;refine ⟨RetD.eq J ?_, RetD.eq J ?_, trivial⟩
  all_goals (first | rfl)
 have h0 : edtF e = 0 := by simpa using h1
 have hok := edtF_0 h0;rw [if_pos h0, h0];refine .skip (.sr (.fl YeT sc_27 ?_));refine .sA (.call J (.cons (.rfl' J) .nil) (c_end e.clips hok.le (fun c hc => by have h5 := (hok.clips c hc).rng; unfold Yaz at h5; omega))) ?_;refine .aa (.nil ?_);refine .ret ?_;refine ⟨RetD.eq J ?_, RetD.eq J ?_, trivial⟩
 all_goals (first | rfl)
def AlOk (id : Nat) (cs : List S) (σ σ' : Obs) : Prop := (∀ p ∈ σ, p.1 ≠ id /\ p.2.kill id = p.2) /\ ∀ p, p ∈ σ' ↔ p = (id, Ob.cells cs) \/ p ∈ σ
def AlM (cx : Cx) (ops : Array Oper) (Φ : List Fc) (o : Oper) (si : List (Nat × S)) (σ σ' : Obs) : Prop :=
 ∃ dst id cs, si = [(dst, .ptr id 0)] /\ AlOk id cs σ σ' /\ (∀ j, (Ob.cells cs).kill j = Ob.cells cs) /\ ∀ e σ σ', AlOk id cs σ σ' -> GE cx ops Φ o e σ [(dst, .ptr id 0)] σ'
theorem AlM.swap {cx : Cx} {ops : Array Oper} {Φ : List Fc} {oi oj : Oper} {si sj : List (Nat × S)} {σ σ1 σ2 : Obs} (hi : AlM cx ops Φ oi si σ σ1) (hj : AlM cx ops Φ oj sj σ1 σ2) : ∃ σj, AlM cx ops Φ oj sj σ σj /\ AlM cx ops Φ oi si σj σ2 := by
 obtain ⟨di, ii, ci, rfl, hi1, hi2, hi3⟩ := hi;obtain ⟨dj, ij, cj, rfl, hj1, hj2, hj3⟩ := hj;refine ⟨(ij, .cells cj) :: σ, ⟨dj, ij, cj, J, ⟨fun p hp => hj1.1 p ((hi1.2 p).2 (.inr hp)), fun p => List.mem_cons⟩, hj2, hj3⟩, ⟨di, ii, ci, J, ⟨fun p hp => ?_, fun p => ?_⟩, hi2, hi3⟩⟩
 ·rcases List.mem_cons.1 hp with rfl | hp
  ·exact ⟨fun h => (hj1.1 _ ((hi1.2 _).2 (.inl J))).1 h.symm, hj2 ii⟩
  ·exact hi1.1 p hp
 ·rw [hj1.2, hi1.2, List.mem_cons];constructor
  ·rintro (h | h | h)
   ·exact .inr (.inl h)
   ·exact .inl h
   ·exact .inr (.inr h)
  ·rintro (h | h | h)
   ·exact .inr (.inl h)
   ·exact .inl h
   ·exact .inr (.inr h)
theorem AlM.ge {cx : Cx} {ops : Array Oper} {Φ : List Fc} {o : Oper} {si : List (Nat × S)} {σ σ' : Obs} (h : AlM cx ops Φ o si σ σ') (e : Env) : GE cx ops Φ o e σ si σ' := by
 obtain ⟨d, i, c, rfl, h1, h2, h3⟩ := h;exact h3 e σ σ' h1
theorem AlM.comm {cx : Cx} {ops : Array Oper} {Φ : List Fc} {oi oj : Oper} {si sj : List (Nat × S)} {σ σ1 σ2 σ3 : Obs} (hi : AlM cx ops Φ oi si σ σ1) (hj : AlM cx ops Φ oj sj σ2 σ3) (hd : ∀ d, d ∈ si.map Prod.fst -> d ∉ sj.map Prod.fst) (e : Env) : Env.puts (Env.puts e si) sj = Env.puts (Env.puts e sj) si := by
 obtain ⟨di, ii, ci, rfl, _⟩ := hi;obtain ⟨dj, ij, cj, rfl, _⟩ := hj;have hne : di ≠ dj := fun h => hd di (by simp) (by simp [h])
 show (e.put (some di) _).put (some dj) _ = (e.put (some dj) _).put (some di) _
 exact Env.put_comm e (some di) (some dj) _ _ (fun d h1 h2 => hne ((Option.some.inj h1).trans (Option.some.inj h2).symm))
def MStep (cx : Cx) (ops : Array Oper) (Φ : List Fc) (ef : Nat -> Bool) (K : Nat -> List Nat) (al : Nat -> Bool) (I : Obs -> Prop) (k : Nat) (o : Oper) (e : Env) (σ : Obs) (e' : Env) (σ' : Obs) : Prop :=
 (GW ops o e true /\ ef k = false /\ ∃ s, I σ /\ (∀ τ, I τ -> AOp cx.P cx.B ops o e τ s) /\ (∀ f ∈ Φ, (∃ t, o.dst = some t /\ f.slots.contains t = true) \/ s.kill f.id = s) /\ e' = e.put o.dst s /\ σ' = σ) \/
 (GW ops o e false /\ ef k = false /\ e' = e.put o.dst (.d (.v undef)) /\ σ' = σ) \/
 (GW ops o e true /\ ef k = true /\ I σ /\ I σ' /\ ∃ si, si.map Prod.fst = K k /\ GE cx ops Φ o e σ si σ' /\ (∀ p ∈ si, ∀ f ∈ Φ, f.slots.contains p.1 = true \/ p.2.kill f.id = p.2) /\ e' = Env.puts e si /\ (al k = true -> AlM cx ops Φ o si σ σ'))
def MRun (cx : Cx) (ops : Array Oper) (Φ : List Fc) (ef : Nat -> Bool) (K : Nat -> List Nat) (al : Nat -> Bool) (I : Obs -> Prop) : Nat -> List Oper -> Env -> Obs -> (Env -> Obs -> Prop) -> Prop
 | _, [], e, σ, Q => Q e σ
 | k, o :: l, e, σ, Q => DstOk cx.N o /\ ∃ e' σ', MStep cx ops Φ ef K al I k o e σ e' σ' /\ MRun cx ops Φ ef K al I (k + 1) l e' σ' Q
def anyM (cx : Cx) (ops : Array Oper) (Φ : List Fc) (ef : Nat -> Bool) (K : Nat -> List Nat) (al : Nat -> Bool) (I : Obs -> Prop) (Q : Env -> Obs -> Prop) : Nat -> Array Bool -> Env -> Obs -> Prop
 | 0, listed, e, σ => Region.ready .any ops listed = [] /\ Q e σ
 | fuel + 1, listed, e, σ => (Region.ready .any ops listed = [] -> Q e σ) /\
  ∀ i ∈ Region.ready .any ops listed, ∀ o, ops[i]? = some o -> ∃ e' σ', MStep cx ops Φ ef K al I i o e σ e' σ' /\ anyM cx ops Φ ef K al I Q fuel (listed.setIfInBounds i true) e' σ'
theorem keysOk_d {ops : Array Oper} {K : Nat -> List Nat} {i j : Nat} {oi oj : Oper} (h : YcW ops K i j oi oj = true) : ∀ k, k ∈ K i -> k ∉ K j := fun k hk hk2 => by
 unfold YcW at h;simp only [ZbA, Bool.not_eq_true'] at h;have h1 := h.2;rw [List.any_eq_false] at h1;exact h1 k hk (List.contains_iff_mem.2 hk2)
theorem anyM_first {cx : Cx} {ops : Array Oper} {Φ : List Fc} {ef : Nat -> Bool} {K : Nat -> List Nat} {al : Nat -> Bool} {I : Obs -> Prop} (hK : ∀ k, ef k = false -> K k = []) (hIa : ∀ σ, I σ) {Q : Env -> Obs -> Prop} {i : Nat} {oi : Oper} (hi : ops[i]? = some oi) (late : Nat -> Bool)
 (hclos : ∀ j oj, ops[j]? = some oj -> late j = true -> ∃ e ∈ oj.after, Region.binds .any e = true /\ (e.on = i \/ late e.on = true)) :
 ∀ (fuel : Nat) (listed : Array Bool) (e : Env) (σ : Obs) (e1 : Env) (σ1 : Obs), (∀ j, late j = true -> listed.getD j false = false) ->
  (∀ j oj, ops[j]? = some oj -> j ≠ i -> listed.getD j true = false -> (∀ e ∈ oj.after, Region.binds .any e = true -> e.on ≠ i) -> oi.apart ops oj = true /\ (late j = false -> ((ef i = false \/ ef j = false) \/ (al i = true /\ al j = true)) /\ YcW ops K i j oi oj = true)) ->
  i ∈ Region.ready .any ops listed -> MStep cx ops Φ ef K al I i oi e σ e1 σ1 -> anyM cx ops Φ ef K al I Q fuel (listed.setIfInBounds i true) e1 σ1 -> anyM cx ops Φ ef K al I Q (fuel + 1) listed e σ := by
 intro fuel
 induction fuel with
 | zero =>
  intro listed e σ e1 σ1 _ _ hr hy H;refine ⟨fun h => (by rw [h] at hr; cases hr), fun j hj o ho => ?_⟩
  by_cases hji : j = i
  ·subst hji;rw [hi] at ho; cases ho;exact ⟨e1, σ1, hy, H⟩
  ·have := ready_mono hj hji;rw [H.1] at this
   cases this
 | succ fuel ih =>
  intro listed e σ e1 σ1 hlate hfree hr hy H;refine ⟨fun h => (by rw [h] at hr; cases hr), fun j hj oj hoj => ?_⟩
  by_cases hji : j = i
  ·subst hji;rw [hi] at hoj; cases hoj;exact ⟨e1, σ1, hy, H⟩
  ·obtain ⟨e2, σ2, h1, h2⟩ := H.2 j (ready_mono hj hji) oj hoj;obtain ⟨hjun, oj', hoj', hall⟩ := mem_ready.1 hj;rw [hoj] at hoj'; cases hoj'
   have hnot : ∀ e ∈ oj.after, Region.binds .any e = true -> e.on ≠ i := fun e he hb heq => by
    have h1 := hall e he hb;have h0 := (mem_ready.1 hr).1;rw [heq] at h1
    rcases Nat.lt_or_ge i listed.size with h' | h'
    ·simp [h'] at h0 h1; rw [h0] at h1; cases h1
    ·simp [Array.getElem?_eq_none h'] at h1
   have hjl : late j = false := by
    cases hl : late j with
    | false => rfl
    | true =>
     obtain ⟨e, he, hb, hh⟩ := hclos j oj hoj hl
     rcases hh with hh | hh
     ·exact absurd hh (hnot e he hb)
     ·have h3 := hall e he hb;rw [hlate _ hh] at h3;simp at h3
   obtain ⟨hap, hss⟩ := hfree j oj hoj hji hjun hnot;obtain ⟨hs1, hs2⟩ := hss hjl;obtain ⟨a1, a2, a3⟩ := Oper.apart_spec hap;have kl := keysOk_l hs2;have kr := keysOk_r hs2
   have fin : ∀ ej σj, MStep cx ops Φ ef K al I j oj e σ ej σj -> MStep cx ops Φ ef K al I i oi ej σj e2 σ2 -> ∃ e' σ', MStep cx ops Φ ef K al I j oj e σ e' σ' /\ anyM cx ops Φ ef K al I Q (fuel + 1) (listed.setIfInBounds j true) e' σ' := fun ej σj hsj hsi => by
    refine ⟨ej, σj, hsj, ?_⟩;refine ih (listed.setIfInBounds j true) ej σj e2 σ2 (fun k hk => ?_) (fun k ok hk hki hun hno => ?_) (ready_mono hr (Ne.symm hji)) hsi ?_
    ·have hkj : j ≠ k := fun h => by rw [h, hk] at hjl; simp at hjl
     rw [getD_set_ne false hkj];exact hlate k hk
    ·refine hfree k ok hk hki ?_ hno
     by_cases hjk : j = k
     ·subst hjk; exact hjun
     ·rw [getD_set_ne true hjk] at hun; exact hun
    ·rw [Array.setIfInBounds_comm _ _ hji];exact h2
   have look1 : ∀ {s : S} t, t ∈ oj.looksAt ops -> (e.put oi.dst s) t = e t := fun t ht => YcE a1 t ht
   have look2 : ∀ {s : S} t, t ∈ oi.looksAt ops -> (e.put oj.dst s) t = e t := fun t ht => YcE a3 t ht
   rcases hy with ⟨hgi, hei, s, hI, hopi, hcl, rfl, rfl⟩ | ⟨hgi, hei, rfl, rfl⟩ | ⟨hgi, hei, hi1, hi2, si, hki, hopi, hci, rfl, hai⟩
   ·rcases h1 with ⟨hgj, hej, sj, hIj, hopj, hclj, rfl, rfl⟩ | ⟨hgj, hej, rfl, rfl⟩ | ⟨hgj, hej, hj1, hj2, sj, hkj, hopj, hcj, rfl, haj⟩
    ·exact fin (e.put oj.dst sj) _ (.inl ⟨hgj.same fun t ht => (look1 t ht).symm, hej, sj, hIj, fun τ hτ => (hopj τ hτ).same fun t ht => (look1 t ht).symm, hclj, J, J⟩) (.inl ⟨hgi.same (fun t ht => look2 t ht), hei, s, hI, fun τ hτ => (hopi τ hτ).same (fun t ht => look2 t ht), hcl, (Env.put_comm e oi.dst oj.dst s sj a2), J⟩)
    ·exact fin (e.put oj.dst (.d (.v undef))) _ (.inr (.inl ⟨hgj.same fun t ht => (look1 t ht).symm, hej, J, J⟩)) (.inl ⟨hgi.same (fun t ht => look2 t ht), hei, s, hI, fun τ hτ => (hopi τ hτ).same (fun t ht => look2 t ht), hcl, (Env.put_comm e oi.dst oj.dst s _ a2), J⟩)
    ·have hkd : ∀ d, oi.dst = some d -> d ∉ sj.map Prod.fst := fun d hd hm => by rw [hkj] at hm; exact (kr d hm).2 hd
     have hkl : ∀ t, t ∈ oi.looksAt ops -> Env.puts e sj t = e t := fun t ht => YcD fun hm => by rw [hkj] at hm; exact (kr t hm).1 ht
     refine fin (Env.puts e sj) σ2 (.inr (.inr ⟨hgj.same fun t ht => (look1 t ht).symm, hej, hj1, hj2, sj, hkj, hopj.same (fun t ht => (look1 t ht).symm) (fun t ht => ?_), hcj, J, haj⟩)) (.inl ⟨hgi.same hkl, hei, s, hj2, fun τ hτ => (hopi τ hτ).same hkl, hcl, Yen hkd, J⟩)
     cases hd : oi.dst with
     | none => rfl
     | some d => exact (Env.put_other _ _ _ _ (fun (he : t = d) => hkd d hd (he ▸ ht))).symm
   ·rcases h1 with ⟨hgj, hej, sj, hIj, hopj, hclj, rfl, rfl⟩ | ⟨hgj, hej, rfl, rfl⟩ | ⟨hgj, hej, hj1, hj2, sj, hkj, hopj, hcj, rfl, haj⟩
    ·exact fin (e.put oj.dst sj) _ (.inl ⟨hgj.same fun t ht => (look1 t ht).symm, hej, sj, hIj, fun τ hτ => (hopj τ hτ).same fun t ht => (look1 t ht).symm, hclj, J, J⟩) (.inr (.inl ⟨hgi.same (fun t ht => look2 t ht), hei, (Env.put_comm e oi.dst oj.dst _ sj a2), J⟩))
    ·exact fin (e.put oj.dst (.d (.v undef))) _ (.inr (.inl ⟨hgj.same fun t ht => (look1 t ht).symm, hej, J, J⟩)) (.inr (.inl ⟨hgi.same (fun t ht => look2 t ht), hei, (Env.put_comm e oi.dst oj.dst _ _ a2), J⟩))
    ·have hkd : ∀ d, oi.dst = some d -> d ∉ sj.map Prod.fst := fun d hd hm => by rw [hkj] at hm; exact (kr d hm).2 hd
     have hkl : ∀ t, t ∈ oi.looksAt ops -> Env.puts e sj t = e t := fun t ht => YcD fun hm => by rw [hkj] at hm; exact (kr t hm).1 ht
     refine fin (Env.puts e sj) σ2 (.inr (.inr ⟨hgj.same fun t ht => (look1 t ht).symm, hej, hj1, hj2, sj, hkj, hopj.same (fun t ht => (look1 t ht).symm) (fun t ht => ?_), hcj, J, haj⟩)) (.inr (.inl ⟨hgi.same hkl, hei, Yen hkd, J⟩))
     cases hd : oi.dst with
     | none => rfl
     | some d => exact (Env.put_other _ _ _ _ (fun (he : t = d) => hkd d hd (he ▸ ht))).symm
   ·have hkd : ∀ d, oj.dst = some d -> d ∉ si.map Prod.fst := fun d hd hm => by rw [hki] at hm; exact (kl d hm).2 hd
    have hkl : ∀ t, t ∈ oj.looksAt ops -> Env.puts e si t = e t := fun t ht => YcD fun hm => by rw [hki] at hm; exact (kl t hm).1 ht
    have hke : ∀ {s : S} t, t ∈ si.map Prod.fst -> (e.put oj.dst s) t = e t := fun {s} t ht => by
     cases hd : oj.dst with
     | none => rfl
     | some d => exact Env.put_other _ _ _ _ (fun he => hkd d hd (he ▸ ht))
    rcases h1 with ⟨hgj, hej, sj, hIj, hopj, hclj, rfl, rfl⟩ | ⟨hgj, hej, rfl, rfl⟩ | ⟨hgj, hej, hj1, hj2, sj, hkj, hopj, hcj, rfl, haj⟩
    ·exact fin (e.put oj.dst sj) σ (.inl ⟨hgj.same fun t ht => (hkl t ht).symm, hej, sj, hi1, fun τ hτ => (hopj τ hτ).same fun t ht => (hkl t ht).symm, hclj, J, J⟩) (.inr (.inr ⟨hgi.same (fun t ht => look2 t ht), hei, hi1, hi2, si, hki, hopi.same (fun t ht => look2 t ht) (fun t ht => hke t ht), hci, (Yen hkd).symm, hai⟩))
    ·exact fin (e.put oj.dst (.d (.v undef))) σ (.inr (.inl ⟨hgj.same fun t ht => (hkl t ht).symm, hej, J, J⟩)) (.inr (.inr ⟨hgi.same (fun t ht => look2 t ht), hei, hi1, hi2, si, hki, hopi.same (fun t ht => look2 t ht) (fun t ht => hke t ht), hci, (Yen hkd).symm, hai⟩))
    ·rcases hs1 with (h | h) | ⟨h, h'⟩
     ·rw [hei] at h; simp at h
     ·rw [hej] at h; simp at h
     ·obtain ⟨σj, q1, q2⟩ := (hai h).swap (haj h');have hkl2 : ∀ t, t ∈ oi.looksAt ops -> Env.puts e sj t = e t := fun t ht => YcD fun hm => by rw [hkj] at hm; exact (kr t hm).1 ht
      have hdj : ∀ d, d ∈ si.map Prod.fst -> d ∉ sj.map Prod.fst := fun d h1 h2 => by rw [hki] at h1; rw [hkj] at h2; exact keysOk_d hs2 d h1 h2
      exact fin (Env.puts e sj) σj (.inr (.inr ⟨hgj.same fun t ht => (hkl t ht).symm, hej, hIa _, hIa _, sj, hkj, q1.ge e, hcj, J, fun _ => q1⟩)) (.inr (.inr ⟨hgi.same hkl2, hei, hIa _, hIa _, si, hki, q2.ge _, hci, (hai h).comm (haj h') hdj e, fun _ => q2⟩))
def Region.keysFreeM (ops : Array Oper) (ef : Nat -> Bool) (K : Nat -> List Nat) (al : Nat -> Bool) (listed : Array Bool) (k : Nat) (late : Nat -> Bool) : Bool :=
 (List.range ops.size).all fun j =>
  (!(late j) || (!(listed.getD j false) && ((ops[j]?).map fun o => o.after.any fun e => Region.binds .any e && (Nat.beq e.on k || late e.on)).getD true)) &&
  (Nat.beq j k || listed.getD j true || late j || Region.edge ops j k || ((!(ef k) || !(ef j) || (al k && al j)) && ((ops[k]?).bind fun oi => (ops[j]?).map fun oj => YcW ops K k j oi oj).getD false))
def Region.keysFromM (ops : Array Oper) (ef : Nat -> Bool) (K : Nat -> List Nat) (al : Nat -> Bool) : Nat -> Nat -> Array Bool -> Bool
 | 0, _, _ => true
 | fuel + 1, k, listed => Region.keysFreeM ops ef K al listed k (Region.lateB ops k) && Region.keysFromM ops ef K al fuel (k + 1) (listed.setIfInBounds k true)
theorem Region.keysFreeM_spec {ops : Array Oper} {ef : Nat -> Bool} {K : Nat -> List Nat} {al : Nat -> Bool} {listed : Array Bool} {k : Nat} {oi : Oper} {late : Nat -> Bool} (h : Region.keysFreeM ops ef K al listed k late = true) (hk : ops[k]? = some oi) (hl : ∀ j, late j = true -> j < ops.size) :
 (∀ j oj, ops[j]? = some oj -> late j = true -> ∃ e ∈ oj.after, Region.binds .any e = true /\ (e.on = k \/ late e.on = true)) /\ (∀ j, late j = true -> listed.getD j false = false) /\
 ∀ j oj, ops[j]? = some oj -> j ≠ k -> listed.getD j true = false -> (∀ e ∈ oj.after, Region.binds .any e = true -> e.on ≠ k) -> late j = false -> ((ef k = false \/ ef j = false) \/ (al k = true /\ al j = true)) /\ YcW ops K k j oi oj = true := by
 have h1 : ∀ j, j < ops.size -> _ := fun j hj => List.all_eq_true.1 h j (List.mem_range.2 hj)
 simp only [ZbA] at h1;refine ⟨fun j oj hoj hlj => ?_, fun j hlj => ?_, fun j oj hoj hjk hun hno hlj => ?_⟩
 ·have h2 := (h1 j (ZaS.1 hoj).1).1;rw [hlj, hoj] at h2;simp only [Bool.not_true, Bool.false_or, Option.map_some, Option.getD_some, ZbA, Array.any_eq_true'] at h2;obtain ⟨_, e, he, hb⟩ := h2;simp only [Bool.or_eq_true] at hb;exact ⟨e, he, hb.1, hb.2.imp Nat.eq_of_beq_eq_true (fun x => x)⟩
 ·have h2 := (h1 j (hl j hlj)).1;rw [hlj] at h2;simp only [Bool.not_true, Bool.false_or, ZbA, Bool.not_eq_true'] at h2;exact h2.1
 ·have h2 := (h1 j (ZaS.1 hoj).1).2;have hb : Nat.beq j k = false := by rw [Bool.eq_false_iff]; exact fun hh => hjk (Nat.eq_of_beq_eq_true hh)
  rw [hb, hun, hlj, hk, hoj] at h2;simp only [Bool.false_or, Bool.or_eq_true, ZbA, Bool.not_eq_true', Option.bind_some, Option.map_some, Option.getD_some] at h2
  rcases h2 with h2 | h2
  ·obtain ⟨o, ho, e, he, hb2, heq⟩ := Region.edge_spec h2;rw [hoj] at ho; cases ho;exact absurd heq (hno e he hb2)
  ·exact h2
theorem anyM_lex {cx : Cx} {ops : Array Oper} {Φ : List Fc} {ef : Nat -> Bool} {K : Nat -> List Nat} {al : Nat -> Bool} {I : Obs -> Prop} (hK : ∀ k, ef k = false -> K k = []) (hIa : ∀ σ, I σ) {Q : Env -> Obs -> Prop} : ∀ (l : List Oper) (k : Nat) (listed : Array Bool) (e : Env) (σ : Obs), (∀ j, l[j]? = ops[k + j]?) ->
 Region.lexFrom .any ops l.length k listed = true -> Region.keysFromM ops ef K al l.length k listed = true -> MRun cx ops Φ ef K al I k l e σ Q -> anyM cx ops Φ ef K al I Q l.length listed e σ
 | [], _, _, _, _, _, hB, _, h => ⟨by simpa [Region.lexFrom] using hB, h⟩
 | o :: l, k, listed, e, σ, hl, hB, hS, h => by
  have h0 : ops[k]? = some o := by simpa using (hl 0).symm
  simp only [List.length_cons, Region.lexFrom, ZbA] at hB;simp only [List.length_cons, Region.keysFromM, ZbA] at hS;obtain ⟨⟨hr, hf⟩, hB'⟩ := hB;have hl' : ∀ j, l[j]? = ops[k + 1 + j]? := fun j => by have := hl (j + 1); simpa [Nat.add_assoc, Nat.add_comm 1 j] using this
  obtain ⟨_, e', σ', hs, hq⟩ := h;have hgo := anyM_lex hK hIa l (k + 1) _ _ _ hl' hB' hS.2 hq
  obtain ⟨k1, k2, k3⟩ := Region.keysFreeM_spec hS.1 h0 (fun j hj => by
   unfold Region.lateB at hj;simp only [ZbA, Nat.blt_eq] at hj
   exact hj.1)
  exact anyM_first hK hIa h0 _ k1 l.length listed e σ e' σ' k2 (fun j oj hj hji hun hno => ⟨Region.free_spec h0 hf j oj hj hji hun hno, fun hl => k3 j oj hj hji hun hno hl⟩) (by simpa using hr) hs hgo
theorem MRun.dsts {cx : Cx} {ops : Array Oper} {Φ : List Fc} {ef : Nat -> Bool} {K : Nat -> List Nat} {al : Nat -> Bool} {I : Obs -> Prop} {Q : Env -> Obs -> Prop} : ∀ (l : List Oper) (k : Nat) (e : Env) (σ : Obs), MRun cx ops Φ ef K al I k l e σ Q -> ∀ o ∈ l, DstOk cx.N o
 | [], _, _, _, _, o, ho => by cases ho
 | x :: l, k, e, σ, h, o, ho => by
  obtain ⟨h1, _, _, _, h2⟩ := h
  cases ho with
  | head => exact h1
  | tail _ ho => exact MRun.dsts l _ _ _ h2 o ho
theorem Ydy {cx : Cx} {ops : Array Oper} {Φ : List Fc} {ef : Nat -> Bool} {K : Nat -> List Nat} {al : Nat -> Bool} {I : Obs -> Prop} {Q : Post} (hQ : ∀ ex e σ, ex ≠ .normal -> ¬ Q ex e σ) (hd : ∀ o ∈ ops.toList, DstOk cx.N o) : ∀ (fuel : Nat) (listed : Array Bool) (e : Env) (σ : Obs) (a : Act) (w : World), R cx e σ a w -> Clean Φ e ->
 anyM cx ops Φ ef K al I (fun e σ => Q .normal e σ) fuel listed e σ -> wpAny cx.P .any ops (lift cx Q) fuel listed a w
 | 0, _, e, σ, _, _, hr, _, h => ⟨h.1, e, σ, h.2, hr⟩
 | fuel + 1, listed, e, σ, a, w, hr, hc, h => by
  refine ⟨fun h0 => ⟨e, σ, h.1 h0, hr⟩, fun i hi => ?_⟩;obtain ⟨_, o, ho, _⟩ := mem_ready.1 hi;obtain ⟨e', σ', hs, hk⟩ := h.2 i hi o ho;have hdo : DstOk cx.N o := hd o (Array.mem_toList_iff.2 (Array.mem_of_getElem? ho));unfold wpOp;simp only [ho];have hR := hr;obtain ⟨F, ρ, hr⟩ := hr
  rcases hs with ⟨hg, _, s, hI, hop, hcl, rfl, rfl⟩ | ⟨hg, _, rfl, rfl⟩ | ⟨hg, _, _, _, si, _, hop, hci, rfl, _⟩
  ·rw [if_pos (hg.wanted (fun t _ => hr.env t))];refine .inl (wp_to ?_ (fun _ _ _ => False.elim) (hop _ hI F ρ w a hr.lt (fun t _ => hr.env t) hr.obs));rintro a' w' ⟨v, F', rfl, hv, he⟩;exact Ydy hQ hd fuel _ _ _ _ _ ⟨F', ρ, hr.put he hv hdo⟩ (hc.put hcl) hk
  ·rw [if_neg (by rw [hg.wanted (fun t _ => hr.env t)]; simp)];exact Ydy hQ hd fuel _ _ _ _ _ ⟨F, ρ, hr.put (Ext.refl hr.lt) YcB hdo⟩ (hc.put fun _ _ => .inr J) hk
  ·have hw : Region.wanted o (yielded ops a.tmps) = true := hg.wanted (fun t _ => hr.env t);rw [if_pos hw];have h4 := hop e (fun _ _ => rfl) (fun _ _ => rfl) hc a w hR;unfold wpList at h4;rw [if_pos hw] at h4;refine h4.imp (wp_to2 ?_ ?_) fun h => ⟨h.1, ?_⟩
   ·rintro a' w' ⟨e', σ'', ⟨rfl, rfl⟩, hr'⟩;exact Ydy hQ hd fuel _ _ _ _ _ hr' (hc.puts hci) hk
   ·rintro ex a' w' hne ⟨e', σ'', hq, _⟩;cases ex <;> first | exact absurd rfl hne | exact hq.elim
   ·obtain ⟨a', w', e', σ'', hq, _⟩ := h.2;exact hq.elim
theorem AWP.drawM {cx : Cx} {id : Nat} {l : List Oper} {e : Env} {σ : Obs} {Q : Post} (Φ : List Fc) (E : List (Nat × List Nat)) (A : List Nat) (hm : cx.P.follows .mixedOrders = true) (hB : Region.lexB .any l.toArray = true)
 (hS : Region.keysFromM l.toArray (fun k => E.any fun p => Nat.beq p.1 k) (fun k => ((E.find? fun p => Nat.beq p.1 k).map Prod.snd).getD []) (fun k => A.contains k) l.length 0 (Array.replicate l.length false) = true)
 (h : MRun cx l.toArray Φ (fun k => E.any fun p => Nat.beq p.1 k) (fun k => ((E.find? fun p => Nat.beq p.1 k).map Prod.snd).getD []) (fun k => A.contains k) (fun _ => True) 0 l (Env.killIds Φ e) σ (fun e σ => Q .normal e σ)) : AWP cx (.region id l.toArray true) e σ Q := by
 intro a w ⟨F, ρ, hr⟩;simp only [Region.lexB, ZbA] at hB
 have hK : ∀ k, (E.any fun p => Nat.beq p.1 k) = false -> ((E.find? fun p => Nat.beq p.1 k).map Prod.snd).getD [] = [] := fun k hk => by
  have : E.find? (fun p => Nat.beq p.1 k) = none := List.find?_eq_none.2 fun p hp hh => by
   have : (E.any fun p => Nat.beq p.1 k) = true := List.any_eq_true.2 ⟨p, hp, hh⟩;rw [hk] at this;simp at this
  rw [this]; rfl
 have h1 := anyM_lex hK (fun _ => trivial) l 0 (Array.replicate l.toArray.size false) _ σ (by simp) (by simpa using hB.2) (by simpa using hS) h
 have h2 : wpAny cx.P .any l.toArray (lift cx (QN Q)) l.toArray.size (Array.replicate l.toArray.size false) a { w with drawn := w.drawn + 1 } :=
  Ydy (Q := QN Q) (fun ex e σ hne hq => by cases ex <;> first | exact absurd rfl hne | exact hq.elim) (by simpa using MRun.dsts l 0 _ σ h) _ _ _ σ a _ (R.killIds Φ ⟨F, ρ, hr.drew⟩) (Yes Φ e) h1
 refine wp_mono (wp_region_any hm h2) ?_;rintro ex a w ⟨e, σ, h4, h5⟩
 cases ex with
 | normal => exact ⟨e, σ, h4, h5⟩
 | exit id => exact h4.elim
 | goto l => exact h4.elim
 | ret => exact h4.elim
 | panic c => exact h4.elim
 | outgrown => exact h4.elim
section
variable {cx : Cx} {ops : Array Oper} {Φ : List Fc} {ef : Nat -> Bool} {K : Nat -> List Nat} {al : Nat -> Bool} {n : Nat} {o : Oper} {l : List Oper} {e : Env} {σ : Obs} {Q : Env -> Obs -> Prop}
theorem MRun.nil (h : Q e σ) : MRun cx ops Φ ef K al (fun _ => True) n [] e σ Q := h
theorem MRun.step {s : S} {t : Nat} (hg : GW ops o e true) (ht : o.dst = some t) (hd : Nat.blt t cx.N = true) (h : ∀ τ, AOp cx.P cx.B ops o e τ s) (k : MRun cx ops Φ ef K al (fun _ => True) (n + 1) l (e.put (some t) s) σ Q) (he : ef n = false := by rfl) (hc : cleanS t s Φ := by repeat' first | exact trivial | refine ⟨.inr rfl, ?_⟩ | refine ⟨.inl rfl, ?_⟩) : MRun cx ops Φ ef K al (fun _ => True) n (o :: l) e σ Q :=
 ⟨by unfold DstOk; rw [ht]; exact hd, _, _, .inl ⟨hg, he, s, trivial, fun τ _ => h τ, fun f hf => (hc.all f hf).imp (fun h => ⟨t, ht, h⟩) id, rfl, rfl⟩, by rw [ht]; exact k⟩
theorem MRun.store {σ' : Obs} (hg : GW ops o e true) (hg2 : o.guard = none) (ht : o.dst = none) (h : EOp cx ops o e σ σ') (k : MRun cx ops Φ ef K al (fun _ => True) (n + 1) l e σ' Q) (he : ef n = true := by rfl) (ha : al n = false := by rfl) (hk : [] = K n := by rfl) : MRun cx ops Φ ef K al (fun _ => True) n (o :: l) e σ Q :=
 ⟨by unfold DstOk; rw [ht], _, _, .inr (.inr ⟨hg, he, trivial, trivial, [], hk, GE.store hg2 ht h, (fun p hp => nomatch hp), rfl, fun h => absurd (ha.symm.trans h) (by decide)⟩), k⟩
theorem MRun.alloc {t dst : Nat} {z : Value} {zs : List Value} (id : Nat) (hg : GW ops o e true) (hg2 : o.guard = none) (ht : o.dst = some dst) (hdn : Nat.blt dst cx.N = true) (ho : o.op = .alloc t) (hz : (cx.P.info? t).bind (·.zero) = some z) (hzc : z.cells.toList = zs) (h1 : zs.all (·.oneCell') = true)
 (hΦ : ⟨id, [dst]⟩ ∈ Φ) (hcl : ∀ f ∈ Φ, f.slots.contains dst = true \/ (S.ptr id 0).kill f.id = .ptr id 0) (hfr : ∀ p ∈ σ, p.1 ≠ id /\ p.2.kill id = p.2)
 (k : MRun cx ops Φ ef K al (fun _ => True) (n + 1) l (e.put (some dst) (.ptr id 0)) ((id, .cells ((zs.map D.v).map S.d)) :: σ) Q) (he : ef n = true := by rfl) (hk : [dst] = K n := by rfl) (hfx : cx.free id = true := by rfl) : MRun cx ops Φ ef K al (fun _ => True) n (o :: l) e σ Q := by
 have hkc : ∀ j, (Ob.cells ((zs.map D.v).map S.d)).kill j = .cells ((zs.map D.v).map S.d) := fun j => by
  show Ob.cells _ = Ob.cells _
  congr 1;rw [List.map_map];exact List.map_congr_left fun x hx => J
 have hge : ∀ e σ σ', AlOk id ((zs.map D.v).map S.d) σ σ' -> GE cx ops Φ o e σ [(dst, .ptr id 0)] σ' := fun e σ σ' ha e0 q1 q2 q3 => by
  have hkσ : Obs.kill id σ = σ := by
   have : ∀ l : Obs, (∀ p ∈ l, p.2.kill id = p.2) -> Obs.kill id l = l := by
    intro l
    induction l with
    | nil => intro _; rfl
    | cons p l ih =>
     intro h;show (p.1, p.2.kill id) :: Obs.kill id l = _
     rw [h p List.mem_cons_self, ih fun q hq => h q (List.mem_cons_of_mem _ hq)]
   exact this σ fun p hp => (ha.1 p hp).2
  have hfs : Obs.fresh id σ = true := by
   have : ∀ l : Obs, (∀ p ∈ l, p.1 ≠ id) -> Obs.fresh id l = true := by
    intro l
    induction l with
    | nil => intro _; rfl
    | cons p l ih =>
     intro h;simp only [Obs.fresh, ZbA, Bool.not_eq_true'];refine ⟨?_, ih fun q hq => h q (List.mem_cons_of_mem _ hq)⟩;rw [Bool.eq_false_iff];exact fun hh => h p List.mem_cons_self (Nat.eq_of_beq_eq_true hh)
   exact this σ fun p hp => (ha.1 p hp).1
  refine AOps.alloc id hg2 ht hdn ho hz hzc h1 hfs ?_ hfx
  have henv : (e0.kill id).put (some dst) (.ptr id 0) = Env.puts e0 [(dst, .ptr id 0)] := by
   show (e0.kill id).put (some dst) _ = e0.put (some dst) _
   funext u
   by_cases hu : u = dst
   ·subst hu; rw [Env.put_same, Env.put_same]
   ·rw [Env.put_other _ _ _ _ hu, Env.put_other _ _ _ _ hu];exact q3 _ hΦ u (by simp [hu])
  rw [henv, hkσ];intro a w hr;exact ⟨_, σ', ⟨J, J⟩, hr.sub fun p hp => List.mem_cons.2 ((ha.2 p).1 hp)⟩
 have hal : AlOk id ((zs.map D.v).map S.d) σ ((id, .cells ((zs.map D.v).map S.d)) :: σ) := ⟨hfr, fun p => List.mem_cons⟩;exact ⟨by unfold DstOk; rw [ht]; simpa [Nat.blt_eq] using hdn, _, _, .inr (.inr ⟨hg, he, trivial, trivial, [(dst, .ptr id 0)], hk, hge e σ _ hal, fun p hp f hf => by rw [ZmS.1 hp]; exact hcl f hf, rfl, fun _ => ⟨dst, id, _, rfl, hal, hkc, hge⟩⟩), k⟩
end
namespace Ty
theorem ag_101 : AggT Tryz.prog 101 2 := .of (by kernel_rfl)
theorem bu_101 : StructT Tryz.prog 101 (fun i => (#[(0, 1), (1, 1)] : Array (Nat × Nat))[i]?) [.nilFunc, (.slice none 0 0)] := .of (by kernel_rfl) (by kernel_rfl) (by decide)
theorem sz_101 : ∀ w, (sizeOf 101).run Tryz.prog w = .ok 2 w := SizeT.of (by kernel_rfl)
theorem zt_101 : (Tryz.prog.info? 101).bind (·.zero) = some (.agg #[.nilFunc, (.slice none 0 0)]) := by kernel_rfl
end Ty
def bsr (lt : Nat -> Bool) (i j : Nat) : Nat := if h : i < j then (if lt ((i + j) / 2) = true then bsr lt ((i + j) / 2 + 1) j else bsr lt i ((i + j) / 2)) else i
termination_by j - i
decreasing_by all_goals omega
theorem bsr_up {lt : Nat -> Bool} {i j : Nat} (h : i < j) (h2 : lt ((i + j) / 2) = true) : bsr lt i j = bsr lt ((i + j) / 2 + 1) j := by rw [bsr, dif_pos h, if_pos h2]
theorem bsr_dn {lt : Nat -> Bool} {i j : Nat} (h : i < j) (h2 : lt ((i + j) / 2) = false) : bsr lt i j = bsr lt i ((i + j) / 2) := by rw [bsr, dif_pos h, if_neg (by rw [h2]; simp)]
theorem bsr_end {lt : Nat -> Bool} {i j : Nat} (h : ¬ i < j) : bsr lt i j = i := by rw [bsr, dif_neg h]
theorem bsr_le {lt : Nat -> Bool} : ∀ (n i j : Nat), j - i <= n -> i <= j -> i <= bsr lt i j /\ bsr lt i j <= j
 | 0, i, j, h, hij => by rw [bsr_end (by omega)]; omega
 | n + 1, i, j, h, hij => by
  by_cases hlt : i < j
  ·by_cases hb : lt ((i + j) / 2) = true
   ·rw [bsr_up hlt hb];have := bsr_le (lt := lt) n ((i + j) / 2 + 1) j (by omega) (by omega);omega
   ·rw [bsr_dn hlt (by simpa using hb)];have := bsr_le (lt := lt) n i ((i + j) / 2) (by omega) (by omega);omega
  ·rw [bsr_end hlt]; omega
def ltQ (l : List Pnt) (x : Int) (k : Nat) : Bool := decide (cmpI (l.getD k default).pos x < 0)
def posQ (l : List Pnt) (x : Int) : Nat := bsr (ltQ l x) 0 l.length
def hasQ (l : List Pnt) (x : Int) : Bool := decide (posQ l x < l.length /\ cmpI (l.getD (posQ l x) default).pos x = 0)
theorem posQ_le (l : List Pnt) (x : Int) : posQ l x <= l.length := (bsr_le _ 0 l.length (ZnR _) (ZnZ _)).2
theorem hasQ_t {l : List Pnt} {x : Int} {k : Nat} (hk : k < l.length) (hp : posQ l x = k) (h : cmpI (l.getD k default).pos x = 0) : hasQ l x = true := decide_eq_true (by rw [hp]; exact ⟨hk, h⟩)
theorem hasQ_f {l : List Pnt} {x : Int} {k : Nat} (hp : posQ l x = k) (h : ¬ cmpI (l.getD k default).pos x = 0) : hasQ l x = false := decide_eq_false (by rw [hp]; exact fun hh => h hh.2)
theorem hasQ_e {l : List Pnt} {x : Int} {k : Nat} (hk : ¬ k < l.length) (hp : posQ l x = k) : hasQ l x = false := decide_eq_false (by rw [hp]; exact fun hh => hk hh.1)
def Ydd (p : Pnt) : Rt := fromR p.num p.den
def valR (c : Clp) (i : Int) : Rt :=
 if hasQ c.env i = true then Ydd (pAt c (posQ c.env i))
 else if posQ c.env i = 0 then Ydd (pAt c 0)
 else if posQ c.env i = c.env.length then Ydd (pAt c (posQ c.env i - 1))
 else addR (Ydd (pAt c (posQ c.env i - 1))) (mulR (subR (Ydd (pAt c (posQ c.env i))) (Ydd (pAt c (posQ c.env i - 1)))) (Yby (i - (pAt c (posQ c.env i - 1)).pos) ((pAt c (posQ c.env i)).pos - (pAt c (posQ c.env i - 1)).pos).natAbs))
theorem Yd2 {c : Clp} {t : Int} (ok : ClpOk c t) {i : Nat} (h : i < c.env.length) : Rk 160 (Ydd (pAt c i)) := by
 have hp := ok.pts _ (Ydk h);exact from_k (k := 40) hp.rat hp.num hp.den
theorem Rk.add2 {k m : Nat} {a b : Rt} (ha : Rk k a) (hb : Rk m b) : Rk (k + m + 1) (addR a b) := by
 have h1 : ∀ x y : Nat, x < 2 ^ k -> y < 2 ^ m -> x * y < 2 ^ (k + m) := fun x y hx hy => by rw [Nat.pow_add]; exact Nat.mul_lt_mul'' hx hy
 have h2 : (2 : Nat) ^ k <= 2 ^ (k + m) := Nat.pow_le_pow_right (by decide) (by omega);have h3 : (2 : Nat) ^ m <= 2 ^ (k + m) := Nat.pow_le_pow_right (by decide) (by omega);have h4 : (2 : Nat) ^ (k + m + 1) = 2 ^ (k + m) * 2 := Nat.pow_succ ..;have p1 := ha.n;have p2 := hb.n;have p3 := ha.d;have p4 := hb.d;unfold addR;split
 ·exact over_k (by omega) (by omega) ha.p (by omega)
 ·refine over_k ?_ ?_ (Nat.mul_pos ha.p hb.p) (by omega)
  ·have q1 : (a.n * (b.d : Int)).natAbs < 2 ^ (k + m) := by rw [Int.natAbs_mul]; exact h1 _ _ p1 p4
   have q2 : (b.n * (a.d : Int)).natAbs < 2 ^ (k + m) := by rw [Int.natAbs_mul, Nat.mul_comm]; exact h1 _ _ p3 p2
   omega
  ·have := h1 _ _ p3 p4;omega
theorem frac_k {a b : Int} (ha : a.natAbs <= 1000000) (hb : 0 < b /\ b <= 1000000) : Rk 20 (Yby a b.natAbs) := over_k (show a.natAbs < 1048576 by omega) (show b.natAbs < 1048576 by omega) (by omega) (by decide)
theorem val_mid {c : Clp} {t : Int} (ok : ClpOk c t) {i : Int} {k : Nat} (hk : 0 < k) (h2 : k < c.env.length) (hi : 0 <= i /\ i < c.len) : Rk 20 (Yby (i - (pAt c (k - 1)).pos) ((pAt c k).pos - (pAt c (k - 1)).pos).natAbs) := by
 have h3 := ok.inc k hk h2;have h4 := ok.pts _ (Ydk h2);have h5 := ok.pts _ (Ydk (show k - 1 < c.env.length by omega));have h6 := ok.rng;have q1 := h4.lo;have q2 := h4.hi;have q3 := h5.lo;have q4 := h5.hi;unfold Yaz at h6;exact frac_k (by omega) (by omega)
theorem valR_k {c : Clp} {t : Int} (ok : ClpOk c t) {i : Int} (hi : 0 <= i /\ i < c.len) : Rk 1000 (valR c i) := by
 have hle := posQ_le c.env i;have hne := ok.ne;unfold valR;split
 ·rename_i h;exact (Yd2 ok (dcT h).1).mono (by decide)
 ·split
  ·exact (Yd2 ok hne).mono (by decide)
  ·split
   ·exact (Yd2 ok (by omega)).mono (by decide)
   ·have h1 := Yd2 ok (i := posQ c.env i) (by omega);have h2 := Yd2 ok (i := posQ c.env i - 1) (by omega);have h3 := val_mid ok (i := i) (k := posQ c.env i) (by omega) (by omega) hi;exact (h2.add2 ((h1.add h2.neg).mul (h3.mono (show 20 <= 2 * 160 + 1 by decide)))).mono (by decide)
def smTo (l : List Clp) (p : Int) (i : Nat) : Rt := (l.take i).foldl (fun x c => if c.pos <= p /\ p < c.pos + c.len then addR x (valR c (p - c.pos)) else x) ⟨0, 1⟩
def sumR (l : List Clp) (p : Int) : Rt := smTo l p l.length
theorem smTo_next {l : List Clp} {p : Int} {i : Nat} (h : i < l.length) : smTo l p (i + 1) = if (l.getD i default).pos <= p /\ p < (l.getD i default).pos + (l.getD i default).len then addR (smTo l p i) (valR (l.getD i default) (p - (l.getD i default).pos)) else smTo l p i := by
 unfold smTo;rw [List.take_add_one, ZgE h, Option.toList_some, List.foldl_append];simp [h]
theorem Yba {α : Type} [Inhabited α] {l : List α} {i : Nat} (h : i < l.length) : l.getD i default ∈ l := by simp [h]
theorem smTo_k {l : List Clp} {t : Int} (ok : ∀ c ∈ l, ClpOk c t) (p : Int) : ∀ i, i <= l.length -> Rk (1001 * i + 1) (smTo l p i)
 | 0, _ => (⟨by decide, by decide, by decide⟩ : Rk 1 ⟨0, 1⟩)
 | i + 1, h => by
  have ih := smTo_k ok p i (by omega);rw [smTo_next (by omega)];split
  ·rename_i hh;exact (ih.add2 (valR_k (ok _ (Yba (by omega))) (by omega))).mono (by omega)
  ·exact ih.mono (by omega)
def brkC (c : Clp) : List Int := [c.pos - 1, c.pos, c.pos + c.len - 1, c.pos + c.len] ++ c.env.map fun p => c.pos + p.pos
def brks (l : List Clp) : List Int := l.flatMap brkC
def brkTo (l : List Clp) (i : Nat) : List Int := (l.take i).flatMap brkC
theorem brkTo_next {l : List Clp} {i : Nat} (h : i < l.length) : brkTo l (i + 1) = brkTo l i ++ brkC (l.getD i default) := by
 unfold brkTo;rw [List.take_add_one, ZgE h, Option.toList_some, List.flatMap_append];simp [h]
theorem brkC_len {c : Clp} {t : Int} (ok : ClpOk c t) : (brkC c).length <= 54 := by
 have := ok.le;unfold brkC;simp only [ZlA, ZlM, List.length_cons, List.length_nil];omega
theorem Ygz {l : List Clp} {t : Int} (ok : ∀ c ∈ l, ClpOk c t) : ∀ i, i <= l.length -> (brkTo l i).length <= 54 * i
 | 0, _ => by simp [brkTo]
 | i + 1, h => by
  have ih := Ygz ok i (by omega);have h2 := brkC_len (ok _ (Yba (show i < l.length by omega)));rw [brkTo_next (by omega), ZlA];omega
def brkE (c : Clp) (j : Nat) : List Int := [c.pos - 1, c.pos, c.pos + c.len - 1, c.pos + c.len] ++ (c.env.take j).map fun p => c.pos + p.pos
theorem brkE_next {c : Clp} {j : Nat} (h : j < c.env.length) : brkE c (j + 1) = brkE c j ++ [c.pos + (pAt c j).pos] := by
 unfold brkE pAt;rw [List.take_add_one, ZgE h, Option.toList_some, ZmA];simp [h]
theorem brkE_all (c : Clp) : brkE c c.env.length = brkC c := by unfold brkE; rw [List.take_length]; rfl
theorem brkE_len (c : Clp) (j : Nat) : (brkE c j).length <= 4 + j := by unfold brkE; simp only [ZlA, ZlM, List.length_cons, List.length_nil, ZlT]; omega
def crvD (l : List Clp) : List D := [.clo (.func 77) [.fp [.sl (l.map Clp.ds)]], .sl ((brks l).map intD)]
theorem c_frmP {c : Clp} {t : Int} (ok : ClpOk c t) {i : Nat} (h : i < c.env.length) : Yad Tryz.prog 146 [.agg [.v (.string (pAt c i).num), .v (.string (pAt c i).den)]] (.agg (rD (Ydd (pAt c i)))) := by
 have hp := ok.pts _ (Ydk h);obtain ⟨q1, _, q3, _⟩ := ratB_f hp.rat;have h1 := hp.num;have h2 := hp.den;exact c_frm _ _ (Yea q1) (by omega) (Yea q3) (by omega)
theorem c_valCmp (p : Pnt) (i : Int) : Yad Tryz.prog 145 [.agg p.ds, .v (.int .i64 i)] (.v (.int .i64 (cmpI p.pos i))) := by
 refine Yab (n := 9) (ds' := [.v (.int .i64 (cmpI p.pos i))]) Tryz.func145 J (by kernel_rfl) J [4] J J ?_;intro B w0 F0 fr;refine .sr (.sA (.box J J J) ?_);refine .aN ?_;refine .sr (.fl YbQ sc_3 ?_);refine .mA ?_;refine .sA (.call J (.cons (.rfl' J) (.cons (.rfl' J) .nil)) (YdJ _ _)) ?_;refine .aN ?_;refine .ret (rDq J ?_)
 all_goals (rfl)
theorem c_bsQ (l : List Pnt) (x : Int) (hl : l.length <= 100000) : Yad Tryz.prog 144 [.sl (l.map Pnt.ds), .v (.int .i64 x), .clo (.func 145) []] (.tup [.v (.int .i64 (posQ l x : Int)), .v (.bool (hasQ l x))]) := by
 refine Yab (n := 49) (ds' := [.v (.int .i64 (posQ l x : Int)), .v (.bool (hasQ l x))]) Tryz.func144 J (by kernel_rfl) J [6, 7] J J ?_;intro B w0 F0 fr;refine .sr (.aa (.nil ?_));refine .sr (.mA ?_);refine .sA (.lenSl J et_54.ht J) ?_;refine .aN ?_;refine .sr (.ma ?_);refine .aN ?_;refine .seq (.block (.loop (G := Nat × Nat) (fun g => Env.of [(9, .iv g.1), (10, .iv g.2), (8, .iv l.length), (0, .d (.sl (l.map Pnt.ds))), (1, .d (.v (.int .i64 x))), (2, .d (.clo (.func 145) []))]) (fun g => []) (fun g => g.1 <= g.2 /\ g.2 <= l.length /\ posQ l x = bsr (ltQ l x) g.1 g.2) (fun g => g.2 - g.1) (0, l.length) ⟨ZnZ _, ZnR _, rfl⟩ (Sub.less ⟨(SLe.i64 rfl), (SLe.i64 (by simp)), (SLe.i64 (by simp)), U, U, U, trivial⟩ (fun _ h => h)) ?_));rintro ⟨i, j⟩ ⟨hij, hjl, hb⟩;dsimp only at hij hjl hb ⊢;refine .seq (.sr (.mm ?_));refine .sA (.lss J J J) (.nil ?_);refine .cT J (fun h1 => ?_) fun h1 => ?_
 ·have hlt : i < j := by omega
  refine .skip (.block (.sr (.mm ?_)));refine .sA (.add64 J J J) ?_;refine .sA (.convSame J (by kernel_rfl) J (wrapU64 (by omega) (by omega))) ?_;refine .sA (.half J J J) ?_;refine .sA (.convSame J (by kernel_rfl) J (w64 (by omega) (by omega))) ?_;refine .aN ?_;refine .sr (.mm ?_);refine .mA ?_;refine .sA (.indexAddr J et_54 J J ((i + j) / 2) (by omega) (Yca (by omega)) J) ?_;refine .sA (.loadAgg J ag_156 J J) ?_;refine .mA ?_;refine .sA (.callClo J J (.cons (.rfl' J) (.cons (.rfl' J) .nil)) (c_valCmp (l.getD ((i + j) / 2) default) x)) ?_;refine .sA (.lss J J J) (.nil ?_);refine .cT J (fun h2 => ?_) fun h2 => ?_
  ·have HB := bsr_up hlt (show ltQ l x ((i + j) / 2) = true from decide_eq_true h2);refine .region (.mA ?_);refine .sA (.add64 J J J) ?_;refine .aN ?_;refine ⟨((i + j) / 2 + 1, j), ⟨by dsimp only; omega, by dsimp only; omega, by dsimp only; rw [hb]; exact HB⟩, (by dsimp only; omega), Sub.less ⟨(SLe.i64 (by dsimp only; omega)), U, U, U, U, U, trivial⟩ (fun _ h => h)⟩
  have HB := bsr_dn hlt (show ltQ l x ((i + j) / 2) = false from decide_eq_false h2);refine .region (.ma (.nil ?_));refine ⟨(i, (i + j) / 2), ⟨by dsimp only; omega, by dsimp only; omega, by dsimp only; rw [hb]; exact HB⟩, (by dsimp only; omega), Sub.less ⟨U, (SLe.i64 (by dsimp only; omega)), U, U, U, U, trivial⟩ (fun _ h => h)⟩
 rw [bsr_end (by omega)] at hb;refine .exit (.sr (.mA ?_));refine .mm ?_;refine .sA (.lss J J J) ?_;refine .mA ?_;refine .sT 39 J (fun g3 => ?_) fun g3 => ?_
 ·have hil : i < l.length := by omega
  refine .sG (.moveD J J) ?_;refine .sG (.moveD J J) ?_;refine .sG (.moveD J J) ?_;refine .sG (.indexAddr J et_54 J J i J (Yca hil) J) ?_;refine .sG (.loadAgg J ag_156 J J) ?_;refine .sG (.moveD J J) ?_;refine .sG (.callClo J J (.cons (.rfl' J) (.cons (.rfl' J) .nil)) (c_valCmp (l.getD i default) x)) ?_;refine .sG (.eql J J J) ?_;rw [show decide (cmpI (l.getD i default).pos x = 0) = hasQ l x from by cases hz : decide (cmpI (l.getD i default).pos x = 0) with | true => exact (hasQ_t hil hb (dcT hz)).symm | false => exact (hasQ_f hb (dcF hz)).symm];refine .sA (.pickT J J J) ?_;refine .aa (.nil ?_);refine .ret ?_;refine ⟨RetD.eq J ?_, RetD.eq J ?_, trivial⟩
  all_goals (first | rfl | rw [hb] | rw [HX])
 have HX : hasQ l x = false := hasQ_e (by omega) hb;refine .pB ?_;refine .pB ?_;refine .pB ?_;refine .pB ?_;refine .sA (.pickF J J J) ?_;refine .aa (.nil ?_);refine .ret ?_;refine ⟨RetD.eq J ?_, RetD.eq J ?_, trivial⟩
 all_goals (first | rfl | rw [hb] | rw [HX])
theorem c_val (c : Clp) (i t : Int) (ok : ClpOk c t) (hi : 0 <= i /\ i < c.len) : Yad Tryz.prog 80 [.agg c.ds, .v (.int .i64 i)] (.agg (rD (valR c i))) := by
 refine Yap (n := 79) (ds' := [.agg (rD (valR c i))]) Tryz.func80 J (by kernel_rfl) J [.cell 4 123] J J ?_;intro B w0 F0 fr;have hple := posQ_le c.env i;have hne := ok.ne;have h50 := ok.le;have hrg := ok.rng;unfold Yaz at hrg;refine .sr (.sA (.box J J J) ?_);refine .alloc 101 J J J J YbL J J J (.nil ?_);refine .sr (.fl YeQ sc_54 ?_);refine .aN ?_;refine .sr (.mm ?_);refine .sA (.call J (.cons (.rfl' J) (.cons (.rfl' J) (.cons (by first | exact ArgOk.rfl' J | exact ArgOk.fn J) .nil))) (c_bsQ c.env i (by omega))) ?_;refine .mA ?_;refine .sA (.extract J J J) (.sA (.extract J J J) ?_);refine .aa (.nil ?_);refine .seq (.block (.sr (.ma (.nil ?_))));refine .cond J (fun h1 => ?_) (fun h1 => ?_)
 ·skip;have hlt : (posQ c.env i) < c.env.length := (dcT h1).1;rw [show valR c i = Ydd (pAt c (posQ c.env i)) from if_pos h1];refine .sr (.mm ?_);refine .sA (.indexAddr J et_54 J J (posQ c.env i) J (at_p hlt) J) (.sA (.fieldAddr J Yck J) (.sA (.loadAgg J YgC J J) (.sA (.call J (.cons (.rfl' J) .nil) (c_frmP ok hlt)) ?_)));refine .st J J J Ya6 J (.head _) J J J (ZnB J) (.nil ?_);refine .ret ?_;refine ⟨RetR.agg J (.head _) YaO J (.c5 (.c5 (.c5 .nil))), trivial⟩
  all_goals (first | rfl)
 have hn1 : ¬ hasQ c.env i = true := by rw [h1]; decide
 refine .sr (.mA ?_);refine .sA (.eql J J J) ?_;refine .aN ?_;refine .cT J (fun h2 => ?_) fun h2 => ?_
 ·rw [show valR c i = Ydd (pAt c 0) from (if_neg hn1).trans (if_pos (by omega))];refine .sr (.mA ?_);refine .sA (.indexAddr J et_54 J J 0 J (at_p hne) J) (.sA (.fieldAddr J Yck J) (.sA (.loadAgg J YgC J J) (.sA (.call J (.cons (.rfl' J) .nil) (c_frmP ok hne)) ?_)));refine .st J J J Ya6 J (.head _) J J J (ZnB J) (.nil ?_);refine .ret ?_;refine ⟨RetR.agg J (.head _) YaO J (.c5 (.c5 (.c5 .nil))), trivial⟩
  all_goals (first | rfl)
 have hn2 : ¬ posQ c.env i = 0 := by omega
 refine .sr (.mm ?_);refine .sA (.lenSl J et_54.ht J) ?_;rw [ZlM];refine .sA (.eql J J J) ?_;refine .aN ?_;refine .cT J (fun h3 => ?_) fun h3 => ?_
 ·rw [show valR c i = Ydd (pAt c (posQ c.env i - 1)) from (if_neg hn1).trans ((if_neg hn2).trans (if_pos (by omega)))];refine .sr (.mm ?_);refine .sA (.sub64 J J J) ?_;refine .sA (.indexAddr J et_54 J J (posQ c.env i - 1) (by omega) (at_p (by omega)) J) ?_;refine .sA (.fieldAddr J Yck J) (.sA (.loadAgg J YgC J J) ?_);refine .sA (.call J (.cons (.rfl' J) .nil) (c_frmP ok (i := (posQ c.env i - 1)) (by omega))) ?_;refine .st J J J Ya6 J (.head _) J J J (ZnB J) (.nil ?_);refine .ret ?_;refine ⟨RetR.agg J (.head _) YaO J (.c5 (.c5 (.c5 .nil))), trivial⟩
  all_goals (first | rfl)
 have hn3 : ¬ posQ c.env i = c.env.length := by omega
 rw [show valR c i = addR (Ydd (pAt c (posQ c.env i - 1))) (mulR (subR (Ydd (pAt c (posQ c.env i))) (Ydd (pAt c (posQ c.env i - 1)))) (Yby (i - (pAt c (posQ c.env i - 1)).pos) ((pAt c (posQ c.env i)).pos - (pAt c (posQ c.env i - 1)).pos).natAbs)) from (if_neg hn1).trans ((if_neg hn2).trans (if_neg hn3))];have hk1 := Yd2 ok (i := (posQ c.env i)) (by omega);have hk2 := Yd2 ok (i := (posQ c.env i - 1)) (by omega);have hk3 := val_mid ok (i := i) (k := (posQ c.env i)) (by omega) (by omega) hi;have hinc := ok.inc (posQ c.env i) (by omega) (by omega);have hpp := ok.pts _ (Ydk (show (posQ c.env i) < c.env.length by omega));have hqq := ok.pts _ (Ydk (show (posQ c.env i - 1) < c.env.length by omega));have e1 := hpp.lo;have e2 := hpp.hi;have e3 := hqq.lo;have e4 := hqq.hi;refine .skip (.seq (.drawM [⟨908, [8]⟩, ⟨909, [9]⟩] [(9, [8]), (10, [9]), (11, []), (12, [])] [9, 10] (by kernel_rfl) (by kernel_rfl) (by kernel_rfl) ?_));refine MRun.step J J J (fun _ => AOp.moveD J J) ?_;refine MRun.step J J J (fun _ => AOp.moveD J J) ?_;refine MRun.step J J J (fun _ => AOp.sub64 J J J (by omega) (by omega)) ?_;refine MRun.step J J J (fun _ => AOp.indexAddr J et_54 J J (posQ c.env i - 1) (by omega) (at_p (by omega)) J) ?_;refine MRun.step J J J (fun _ => AOp.loadAgg J ag_156 J J) ?_;refine MRun.step J J J (fun _ => AOp.moveD J J) ?_;refine MRun.step J J J (fun _ => AOp.moveD J J) ?_;refine MRun.step J J J (fun _ => AOp.indexAddr J et_54 J J (posQ c.env i) J (at_p (by omega)) J) ?_;refine MRun.step J J J (fun _ => AOp.loadAgg J ag_156 J J) ?_;refine MRun.alloc 908 rfl rfl rfl rfl rfl zt_156 rfl rfl (.head _) (by intro f hf; simp only [List.mem_cons, List.not_mem_nil, or_false] at hf; rcases hf with rfl | rfl; exact .inl rfl; exact .inr rfl) (by intro p hp; rcases List.mem_cons.1 hp with rfl | hp; exact ⟨by decide, rfl⟩; exact absurd hp (List.not_mem_nil)) ?_;refine MRun.alloc 909 rfl rfl rfl rfl rfl zt_156 rfl rfl (.tail _ (.head _)) (by intro f hf; simp only [List.mem_cons, List.not_mem_nil, or_false] at hf; rcases hf with rfl | rfl; exact .inr rfl; exact .inl rfl) (by intro p hp; rcases List.mem_cons.1 hp with rfl | hp; exact ⟨by decide, rfl⟩; rcases List.mem_cons.1 hp with rfl | hp; exact ⟨by decide, rfl⟩; exact absurd hp (List.not_mem_nil)) ?_;refine MRun.store J J J (EOp.store J J sz_156 J (.tail _ (.head _)) J J J (ZnB J)) ?_;refine MRun.store J J J (EOp.store J J sz_156 J (.head _) J J J (ZnB J)) ?_;refine MRun.nil ?_;refine .seq (.drwF 8 [] [⟨10, 102, .ptr 102 0, .cells [.d (.v (.bool false)), .d (.v (.slice none 0 0)), .d (.v (.slice none 0 0))]⟩, ⟨11, 103, .ptr 103 0, .cells [.d (.v (.bool false)), .d (.v (.slice none 0 0)), .d (.v (.slice none 0 0))]⟩] (FrOk.two rfl (by simp) rfl rfl rfl rfl (by simp) rfl rfl rfl (Nat.ne_of_beq_eq_false rfl) (Nat.ne_of_beq_eq_false rfl) rfl rfl rfl rfl) ?_);refine .step J J J (.fieldAddrP J Yck J) ?_;refine .step J J J (.loadPU J YgC J (.tail _ (.head _)) J J) ?_;refine .step J J J (.call J (.cons (.rfl' J) .nil) (c_frmP ok (i := (posQ c.env i - 1)) (by omega))) ?_;refine .step J J J (.fieldAddrP J Yck J) ?_;refine .step J J J (.loadPU J YgC J (.head _) J J) ?_;refine .step J J J (.call J (.cons (.rfl' J) .nil) (c_frmP ok (i := (posQ c.env i)) (by omega))) ?_;refine .alloc _ (.head _) J J J J J YbL J J J J ?_;refine .alloc _ (.tail _ (.head _)) J J J J J YbL J J J J ?_;refine .nil ⟨J, J, trivial⟩ ?_;refine .st J J J Ya6 J (.head _) J J J (ZnB J) ?_;refine .st J J J Ya6 J (.tail _ (.head _)) J J J (ZnB J) (.nil ?_);refine .seq (.drw 16 ?_);refine .sA (.loadPU J YaO J (.head _) J J) (.sA (.loadPU J YaO J (.tail _ (.head _)) J J) (.sA (.loadPU J YaO J (.head _) J J) ?_));refine .sA (.call J (.cons (.rfl' J) (.cons (.rfl' J) .nil)) (c_subR (Ydd (pAt c (posQ c.env i))) (Ydd (pAt c (posQ c.env i - 1))) 160 (by decide) hk1 hk2)) ?_;refine .sA (.moveD J J) (.sA (.fieldAddrP J YbQ J) (.sA (.loadP J sc_3 J (.tail _ (.tail _ (.tail _ (.head _)))) J) ?_));refine .sA (.sub64 J J J) ?_;refine .sA (.fieldAddrP J YbQ J) (.sA (.loadP J sc_3 J (.tail _ (.tail _ (.head _))) J) (.sA (.fieldAddrP J YbQ J) (.sA (.loadP J sc_3 J (.tail _ (.tail _ (.tail _ (.head _)))) J) ?_)));refine .sA (.sub64 J J J) ?_;refine .sA (.call J (.cons (.rfl' J) (.cons (.rfl' J) .nil)) (c_frac _ _ (by omega) (by omega))) ?_;refine .sA (.call J (.cons (.rfl' J) (.cons (.rfl' J) .nil)) (c_mulR (subR (Ydd (pAt c (posQ c.env i))) (Ydd (pAt c (posQ c.env i - 1)))) (Yby (i - (pAt c (posQ c.env i - 1)).pos) ((pAt c (posQ c.env i)).pos - (pAt c (posQ c.env i - 1)).pos).natAbs) 321 (by decide) (hk1.add hk2.neg) (hk3.mono (by decide)))) ?_;refine .sA (.call J (.cons (.rfl' J) (.cons (.rfl' J) .nil)) (c_addR _ _ 643 (by decide) (hk2.mono (by decide)) ((hk1.add hk2.neg).mul (hk3.mono (show 20 <= 2 * 160 + 1 by decide))))) ?_;refine .nil ?_;refine .st J J J Ya6 J (.tail _ (.tail _ (.tail _ (.tail _ (.head _))))) J J J (ZnB J) (.nil ?_);refine .ret ?_;refine ⟨RetR.agg J (.tail _ (.tail _ (.tail _ (.tail _ (.head _))))) YaO J (.c5 (.c5 (.c5 .nil))), trivial⟩
 all_goals (first | rfl)
theorem c_sum1 (l : List Clp) (t p : Int) (ok : ∀ c ∈ l, ClpOk c t) (hl : l.length <= 300) : Yad Tryz.prog 77 [.v (.int .i64 p), .fp [.sl (l.map Clp.ds)]] (.agg (rD (sumR l p))) := by
 refine Yap (n := 37) (ds' := [.agg (rD (sumR l p))]) Tryz.func77 J (by kernel_rfl) J [.cell 3 123] J J ?_;intro B w0 F0 fr;refine .sr (.alloc 903 J J J J YbL J J J (.nil ?_));refine .sr (.sA (.call J (.cons (.rfl' J) .nil) (c_whole 0 (by decide))) ?_);refine .alloc 904 J J J J YbL J J J ?_;refine .st J J J Ya6 J (.head _) J J J (ZnB J) (.nil ?_);refine .seq (.sr (.sA (.load J sc_27 J) ?_));refine .sA (.lenSl J et_27.ht J) ?_;rw [ZlM];refine .mN ?_;refine .block (.loop (G := Nat) (fun i => Env.of [(10, .iv i), (8, .d (.sl (l.map Clp.ds))), (9, .iv l.length), (0, .d (.v (.int .i64 p))), (3, .ptr 903 0), (4, .ptr 904 0)]) (fun i => [(904, .cells ((rD (smTo l p i)).map S.d)), (903, .cells [.d (.v (.bool false)), .d (.v (.slice none 0 0)), .d (.v (.slice none 0 0))])]) (fun i => i <= l.length) (fun i => l.length - i) 0 (ZnZ _) (Sub.less ⟨U, U, U, U, U, U, trivial⟩ (fun q h => by rcases List.mem_cons.1 h with rfl | h; exact (.head _); rw [ZmS.1 h]; exact (.tail _ (.head _)))) ?_);intro i hi;refine .sr (.sA (.lss J J J) (.nil ?_));refine .seq (.cT J (fun h1 => ?_) fun h1 => ?_)
 ·have hlt : i < l.length := by omega
  have hck := ok _ (Yba hlt);have hrg := hck.rng;unfold Yaz at hrg;have hsk := smTo_k ok p i (by omega);have hsn := smTo_next (p := p) hlt;refine .skip (.seq (.block (.sr (.sA (.indexAddr J et_27 J J i J (Yca hlt) J) ?_))));refine .sA (.loadAgg J Ydx J J) ?_;refine .alloc 103 J J J J zt_56 J J J ?_;refine .st J J J sz_56 J (.head _) J J J (ZnB J) (.nil ?_);refine .sr (.mA ?_);refine .sA (.fieldAddrP J Ybj J) (.sA (.loadP J sc_3 J (.head _) J) (.sA (.geq J J J) ?_));refine .mA ?_;refine .sT 18 J (fun g2 => ?_) fun g2 => ?_
  ·refine .sG (.moveD J J) ?_;refine .sG (.fieldAddrP J Ybj J) ?_;refine .sG (.loadP J sc_3 J (.head _) J) ?_;refine .sG (.fieldAddrP J Ycv J) ?_;refine .sG (.loadP J sc_3 J (.head _) J) ?_;refine .sG (.add64 J J J) ?_;refine .sG (.lss J J J) ?_;refine .sA (.pickT J J J) (.nil ?_);refine .cT J (fun h3 => ?_) fun h3 => ?_
   ·have hin : (l.getD i default).pos <= p /\ p < (l.getD i default).pos + (l.getD i default).len := by omega
    rw [if_pos hin] at hsn;refine .drw 8 ?_;refine .sA (.loadPU J YaO J (.tail _ (.head _)) J J) (.sA (.loadPU J Ydx J (.head _) J J) (.sA (.moveD J J) (.sA (.fieldAddrP J Ybj J) (.sA (.loadP J sc_3 J (.head _) J) ?_))));refine .sA (.sub64 J J J) ?_;refine .sA (.call J (.cons (.rfl' J) (.cons (.rfl' J) .nil)) (c_val (l.getD i default) (p - (l.getD i default).pos) t hck (by omega))) ?_;refine .sA (.call J (.cons (.rfl' J) (.cons (.rfl' J) .nil)) (c_addR (smTo l p i) (valR (l.getD i default) (p - (l.getD i default).pos)) 400000 (by decide) (hsk.mono (by omega)) ((valR_k hck (by omega)).mono (by decide)))) ?_;refine .nil ?_;refine .st J J J Ya6 J (.tail _ (.head _)) J J J (ZnB J) (.nil ?_);refine .region (.sA (.add64 J J J) ?_);refine .mN ?_;refine ⟨i + 1, (by omega), (by dsimp only; omega), Sub.less ⟨U, U, U, U, U, U, trivial⟩ (fun q h => by dsimp only at h; rw [hsn] at h; rcases List.mem_cons.1 h with rfl | h; exact (.tail _ (.head _)); rw [ZmS.1 h]; exact (.tail _ (.tail _ (.head _))))⟩
   rw [if_neg (by omega)] at hsn;refine .skip (.region (.sA (.add64 J J J) ?_));refine .mN ?_;refine ⟨i + 1, (by omega), (by dsimp only; omega), Sub.less ⟨U, U, U, U, U, U, trivial⟩ (fun q h => by dsimp only at h; rw [hsn] at h; rcases List.mem_cons.1 h with rfl | h; exact (.tail _ (.head _)); rw [ZmS.1 h]; exact (.tail _ (.tail _ (.head _))))⟩
  rw [if_neg (by omega)] at hsn;refine .pB ?_;refine .pB ?_;refine .pB ?_;refine .pA ?_;refine .sA (.pickF J J J) (.nil ?_);refine .cond J (fun h => nomatch h) (fun _ => ?_);refine .skip (.region (.sA (.add64 J J J) ?_));refine .mN ?_;refine ⟨i + 1, (by omega), (by dsimp only; omega), Sub.less ⟨U, U, U, U, U, U, trivial⟩ (fun q h => by dsimp only at h; rw [hsn] at h; rcases List.mem_cons.1 h with rfl | h; exact (.tail _ (.head _)); rw [ZmS.1 h]; exact (.tail _ (.tail _ (.head _))))⟩
 obtain rfl : i = l.length := by omega
 refine .exit (.sr (.sA (.loadPU J YaO J (.head _) J J) ?_));refine .st J J J Ya6 J (.tail _ (.head _)) J J J (ZnB J) (.nil ?_);refine .ret ?_;refine ⟨RetR.agg J (.tail _ (.head _)) YaO J (.c5 (.c5 (.c5 .nil))), trivial⟩
 all_goals (first | rfl)
theorem c_sum (l : List Clp) (t : Int) (ok : ∀ c ∈ l, ClpOk c t) (hl : l.length <= 300) : Yad Tryz.prog 37 [.sl (l.map Clp.ds)] (.agg (crvD l)) := by
 refine Yap (n := 53) (ds' := [.agg (crvD l)]) Tryz.func37 J (by kernel_rfl) J [.cell 2 101] J J ?_;intro B w0 F0 fr;refine .sr (.sA (.box J J J) ?_);refine .alloc 902 J J J J zt_101 J J J (.nil ?_);refine .sr (.aN ?_);refine .seq (.sr (.sA (.load J sc_27 J) ?_));refine .sA (.lenSl J et_27.ht J) ?_;rw [ZlM];refine .mN ?_;refine .block (.adopt 3 901 3 1 J J ?_);refine .loop (G := Nat) (fun i => Env.of [(10, .iv i), (8, .d (.sl (l.map Clp.ds))), (9, .iv l.length), (1, .d (.fp [.sl (l.map Clp.ds)])), (2, .ptr 902 0), (3, .own 901)]) (fun i => [(901, .row 3 1 ((brkTo l i).map intD)), (902, .cells [.d (.v .nilFunc), .d (.v (.slice none 0 0))])]) (fun i => i <= l.length) (fun i => l.length - i) 0 (ZnZ _) (Sub.less ⟨U, U, U, U, U, U, trivial⟩ (fun q h => by rcases List.mem_cons.1 h with rfl | h; exact (.head _); rw [ZmS.1 h]; exact (.tail _ (.head _)))) ?_;intro i hi;refine .sr (.sA (.lss J J J) (.nil ?_));refine .seq (.cT J (fun h1 => ?_) fun h1 => ?_)
 ·have hlt : i < l.length := by omega
  have hck := ok _ (Yba hlt);have hrg := hck.rng;unfold Yaz at hrg;have hbl := Ygz ok i (by omega);have h50 := hck.le;refine .skip (.seq (.block (.sr (.sA (.indexAddr J et_27 J J i J (Yca hlt) J) ?_))));refine .sA (.loadAgg J Ydx J J) ?_;refine .alloc 905 J J J J zt_56 J J J ?_;refine .st J J J sz_56 J (.head _) J J J (ZnB J) (.nil ?_);refine .sr (.sA (.moveO J J) ?_);refine .sA (.fieldAddrP J Ybj J) (.sA (.loadP J sc_3 J (.head _) J) ?_);refine .sA (.sub64 J J J) ?_;refine .sA (.fieldAddrP J Ybj J) (.sA (.loadP J sc_3 J (.head _) J) (.sA (.fieldAddrP J Ybj J) (.sA (.loadP J sc_3 J (.head _) J) (.sA (.fieldAddrP J Ycv J) (.sA (.loadP J sc_3 J (.head _) J) ?_)))));refine .sA (.add64 J J J) ?_;refine .sA (.sub64 J J J) ?_;refine .sA (.fieldAddrP J Ybj J) (.sA (.loadP J sc_3 J (.head _) J) (.sA (.fieldAddrP J Ycv J) (.sA (.loadP J sc_3 J (.head _) J) ?_)));refine .sA (.add64 J J J) ?_;refine .sA (.buildSlice J et_34 (.cons J J J (.cons J J J (.cons J J J (.cons J J J .nil)))) J (by decide)) ?_
  -- append 32
  refine .append rfl rfl rfl rfl et_34 rfl (.tail _ (.head _)) rfl (by simp [D.parts]) (by simp; omega) (by simp; omega) ?_;refine .sA (.assignO J J) (.nil ?_);refine .sr (.sA (.fieldAddrP J YeQ J) ?_);refine .sA (.loadP J sc_54 J (.head _) J) (.sA (.lenSl J et_54.ht J) ?_);rw [ZlM];refine .mN ?_;refine .block (.loop (G := Nat) (fun j => Env.of [(36, .iv j), (34, .d (.sl ((l.getD i default).env.map Pnt.ds))), (35, .iv ((l.getD i default).env.length : Int)), (5, .ptr 905 0), (10, .iv i), (8, .d (.sl (l.map Clp.ds))), (9, .iv l.length), (1, .d (.fp [.sl (l.map Clp.ds)])), (2, .ptr 902 0), (3, .own 901)]) (fun j => [(901, .row 3 1 ((brkTo l i ++ brkE (l.getD i default) j).map intD)), (902, .cells [.d (.v .nilFunc), .d (.v (.slice none 0 0))]), (905, .cells ((l.getD i default).ds.map S.d))]) (fun j => j <= (l.getD i default).env.length) (fun j => (l.getD i default).env.length - j) 0 (ZnZ _) (Sub.less ⟨U, U, U, U, U, U, U, U, U, U, trivial⟩ (fun q h => by rw [ZmA] at h; simp only [List.mem_cons, List.not_mem_nil, or_false] at h; rcases h with rfl | rfl | rfl; exact (.tail _ (.head _)); exact (.tail _ (.tail _ (.head _))); exact (.head _))) ?_);intro j hj;refine .sr (.sA (.lss J J J) (.nil ?_));refine .seq (.cT J (fun h2 => ?_) fun h2 => ?_)
  ·have hjl : j < (l.getD i default).env.length := by omega
   have hpt := ok _ (Yba hlt) |>.pts _ (Ydk hjl)
   have e1 := hpt.lo;have e2 := hpt.hi;have hel := brkE_len (l.getD i default) j;refine .skip (.seq (.block (.sr (.sA (.indexAddr J et_54 J J j J (at_p hjl) J) ?_))));refine .sA (.loadAgg J ag_156 J J) ?_;refine .alloc 103 J J J J zt_156 J J J ?_;refine .st J J J sz_156 J (.head _) J J J (ZnB J) (.nil ?_);refine .region (.sA (.moveO J J) ?_);refine .sA (.fieldAddrP J Ybj J) (.sA (.loadP J sc_3 J (.tail _ (.tail _ (.tail _ (.head _)))) J) (.sA (.fieldAddrP J YbQ J) (.sA (.loadP J sc_3 J (.head _) J) ?_)));refine .sA (.add64 J J J) ?_;refine .sA (.buildSlice J et_34 (.cons J J J .nil) J (by decide)) ?_
   -- append 47
   refine .append rfl rfl rfl rfl et_34 rfl (.tail _ (.head _)) rfl (by simp [D.parts]) (by simp only [ZlM, ZlA, List.length_cons, List.length_nil]; omega) (by simp only [ZlM, ZlA, List.length_cons, List.length_nil]; omega) ?_;refine .sA (.assignO J J) (.nil ?_);refine .region (.sA (.add64 J J J) ?_);refine .mN ?_;refine ⟨j + 1, (by omega), (by dsimp only; omega), Sub.less ⟨U, U, U, U, U, U, U, U, U, U, trivial⟩ (fun q h => by dsimp only at h; rw [brkE_next hjl, <- List.append_assoc, ZmA] at h; simp only [List.mem_cons, List.not_mem_nil, or_false] at h; rcases h with rfl | rfl | rfl; exact (.tail _ (.head _)); exact (.tail _ (.tail _ (.head _))); exact (.tail _ (.tail _ (.tail _ (.head _)))))⟩
  obtain rfl : j = (l.getD i default).env.length := by omega
  refine .exit (.region (.sA (.add64 J J J) ?_));refine .mN ?_;refine ⟨i + 1, (by omega), (by dsimp only; omega), Sub.less ⟨U, U, U, U, U, U, trivial⟩ (fun q h => by dsimp only at h; rw [brkTo_next hlt, <- brkE_all] at h; rcases List.mem_cons.1 h with rfl | h; exact (.head _); rw [ZmS.1 h]; exact (.tail _ (.head _)))⟩
 obtain rfl : i = l.length := by omega
 rw [show brkTo l l.length = brks l by unfold brkTo; rw [List.take_length]; rfl];refine .exit (.sr (.sA (.makeFunc J (.cons (.rfl' J) .nil)) ?_));refine .freeze 3 J (.head _) ?_;refine .mA ?_;refine .sA (.build J bu_101 (.cons J J (.cons J J .nil)) J) ?_;refine .st J J J sz_101 J (.head _) J J J (ZnB J) (.nil ?_);refine .ret ?_;refine ⟨RetR.agg J (.head _) ag_101 J (.c5 (.c5 .nil)), trivial⟩
 all_goals (first | rfl)
def RetXT (t : Nat) (s : S) (σ' : Obs) : Post := fun ex e σ => match ex with
 | .ret => SLe (e t) s /\ AllIn σ σ'
 | .normal => SLe (e t) s /\ AllIn σ σ'
 | _ => False
theorem xtmp_of {P : Program} {f : FuncId} {fn : Func} {c : Code} {n t : Nat} {ss : List S} {s : S} {σ σr : Obs} {chg : Nat -> Bool} (hf : P.funcs[f]? = some fn) (hb : fn.body = some c) (hn : (fn.name == "runtime.NumGoroutine") = false) (hN : fn.ntmps = n)
 (hr : fn.results = #[.tmp t]) (hle' : Nat.ble ss.length n = true)
 (h : ∀ B w0 F0 fr ρ0, AWP ⟨P, n, B, w0, F0, fr, fun i => !(chg i), ρ0⟩ c (Env.argsS 0 ss) σ (RetXT t s σr)) : Yfh P f ss σ σr chg s := by
 have hle : ss.length <= n := ZnB hle';refine ⟨Enters.of hf hn (by rw [hb]; rfl), fun F ρ B w vs hF hB hσ hv => ?_⟩;refine calls_of_wp hf hb ?_;refine wp_mono (h _ _ _ _ _ _ _ (args_R hN hle hF hB hσ hv)) ?_;rintro ex a w' ⟨e', σe, hq, F', ρ', hr'⟩
 have hends : SLe (e' t) s /\ AllIn σe σr -> bodyPost P fn (fun e w' => ∃ v F' ρ', e = .returned v /\ RepS F' ρ' w' v s /\ XEnd B F ρ w σ F' ρ' w' σr chg) .ret a w' := by
  rintro ⟨h1, hin⟩;have hin := hin.mem
  have hres : (results fn a.tmps).run P w' = .ok (a.tmps.getD t undef) w' := by
   unfold results;rw [hr, Sem.run_bind]
   have h2 : (Array.mapM (fun r => match r with | ResultVar.tmp t => pure (a.tmps.getD t undef) | ResultVar.cell b t => do loadVar t (<- asAddr (a.tmps.getD b undef))) [ResultVar.tmp t].toArray : Sem (Array Value)).run P w' = .ok [a.tmps.getD t undef].toArray w' := by
    rw [List.mapM_toArray, Sem.run_map];rfl
   exact (congrArg (fun r => Result.andThen r _) h2).trans J
  exact ⟨hr'.defers, _, hres, _, F', ρ', rfl, h1 _ _ _ _ (hr'.env t), hr'.base, hr'.new, hr'.lt, hr'.below, hr'.obs.sub hin, fun p hp => hr'.kown p (hin p hp), fun i hi => hr'.fixed i (by show (!(chg i)) = true; rw [hi]; rfl)⟩
 cases ex with
 | ret => exact hends hq
 | normal => exact hends hq
 | exit id => exact hq.elim
 | goto l => exact hq.elim
 | panic c => exact hq.elim
 | outgrown => exact hq.elim
namespace Ty
theorem ag_64 : AggT Tryz.prog 64 2 := .of (by kernel_rfl)
theorem bu_64 : StructT Tryz.prog 64 (fun i => (#[(0, 1), (1, 1)] : Array (Nat × Nat))[i]?) [(.int .i64 0), (.int .i64 0)] := .of (by kernel_rfl) (by kernel_rfl) (by decide)
theorem et_59 : ElemTy Tryz.prog 59 64 2 16 (.agg #[(.int .i64 0), (.int .i64 0)]) := ⟨by kernel_rfl, by kernel_rfl, by kernel_rfl, by decide⟩
theorem YfG : Yac Tryz.prog 101 0 = some 0 := by kernel_rfl
theorem Yd4 : Yac Tryz.prog 64 0 = some 0 := by kernel_rfl
theorem YbK : Yac Tryz.prog 64 1 = some 1 := by kernel_rfl
theorem sc_99 : Scal Tryz.prog 99 := .of (by kernel_rfl)
theorem sz_3 : ∀ w, (sizeOf 3).run Tryz.prog w = .ok 1 w := SizeT.of (by kernel_rfl)
end Ty
structure Spn where
 lo : Int
 hi : Int
deriving DecidableEq
instance : Inhabited Spn := ⟨⟨0, 0⟩⟩
def Spn.ds (s : Spn) : List D := [.v (.int .i64 s.lo), .v (.int .i64 s.hi)]
def Ygd (l : List Spn) : Spn := l.getD (l.length - 1) default
def apdL (l : List Spn) (a b : Int) : List Spn := if 0 < l.length /\ a <= (Ygd l).hi then l.set (l.length - 1) ⟨(Ygd l).lo, max (Ygd l).hi b⟩ else l ++ [⟨a, b⟩]
def YbG (l : List Spn) (a b : Int) : List Spn := if b <= a then l else apdL l a b
theorem apdL_len (l : List Spn) (a b : Int) : (apdL l a b).length <= l.length + 1 := by
 unfold apdL;split
 ·rw [List.length_set]; omega
 ·simp
theorem YcI (l : List Spn) (a b : Int) : (YbG l a b).length <= l.length + 1 := by
 unfold YbG;split
 ·omega
 ·exact apdL_len l a b
theorem YdE {l : List Spn} (h : 0 < l.length) : (l.map Spn.ds)[l.length - 1]? = some (Ygd l).ds := Yca (by omega)
theorem setS (l : List Spn) (k : Nat) (s : Spn) : (l.map Spn.ds).set k s.ds = (l.set k s).map Spn.ds := (List.map_set ..).symm
theorem cmp_sub {k : Nat} {x y : Rt} (hx : Rk k x) (hy : Rk k y) (h : ¬ cmpR x y = 0) : (subR x y).n ≠ 0 := by
 have h0 : x.n * (y.d : Int) ≠ y.n * (x.d : Int) := fun e => h (by unfold cmpR cmpI; rw [e]; simp)
 have hov : ∀ (n : Int) (d : Nat), n ≠ 0 -> (Yby n d).n ≠ 0 := fun n d hn => by
  unfold Yby;rw [if_neg hn];have h1 := (over_sgn hn (Nat.gcd_dvd_left n.natAbs d)).1;have h2 : 0 < n.natAbs / Nat.gcd n.natAbs d := Nat.div_pos (Nat.le_of_dvd (by omega) (Nat.gcd_dvd_left _ _)) (gcd_pos hn);intro e;dsimp only at e;rw [e] at h1;simp at h1;omega
 unfold subR addR negR;dsimp only;split
 ·rename_i hd;refine hov _ _ fun e => h0 ?_
  rw [hd, show x.n = y.n by omega]
 ·refine hov _ _ fun e => h0 ?_
  rw [Int.neg_mul] at e;omega
def zerR (l : List Clp) (a : Int) : Rt := divR (sumR l a) (subR (sumR l a) (sumR l (a + 1)))
def HitP (l : List Clp) (a b : Int) : Prop := (zerR l a).n.natAbs < 9223372036854775808 /\ (zerR l a).d = 1 /\ 0 <= smI (zerR l a).n /\ smI (zerR l a).n < b - a
instance (l : List Clp) (a b : Int) : Decidable (HitP l a b) := by unfold HitP; infer_instance
def YbV (l : List Clp) (o : List Spn) (a b : Int) : List Spn :=
 if ¬ b - a > 1 then (if (sumR l a).n.sign = 0 then o else YbG o a b)
 else if cmpR (sumR l a) (sumR l (a + 1)) = 0 then (if (sumR l a).n.sign = 0 then o else YbG o a b)
 else if HitP l a b then YbG (YbG o a (a + smI (zerR l a).n)) (a + smI (zerR l a).n + 1) b
 else YbG o a b
theorem cmpR_self (x : Rt) : cmpR x x = 0 := by unfold cmpR cmpI; simp
def yR (l : List Clp) (a b : Int) : Rt := if b - a > 1 then sumR l (a + 1) else sumR l a
theorem within_0 {l : List Clp} {o : List Spn} {a b : Int} (h : cmpR (sumR l a) (yR l a b) = 0) : YbV l o a b = if (sumR l a).n.sign = 0 then o else YbG o a b := by
 unfold YbV
 by_cases h1 : b - a > 1
 ·unfold yR at h;rw [if_pos h1] at h;rw [if_neg (fun hh => hh h1), if_pos h]
 ·rw [if_pos h1]
theorem within_1 {l : List Clp} {o : List Spn} {a b : Int} (h : ¬ cmpR (sumR l a) (yR l a b) = 0) : b - a > 1 /\ yR l a b = sumR l (a + 1) /\ YbV l o a b = if HitP l a b then YbG (YbG o a (a + smI (zerR l a).n)) (a + smI (zerR l a).n + 1) b else YbG o a b := by
 by_cases h1 : b - a > 1
 ·have hy : yR l a b = sumR l (a + 1) := if_pos h1;refine ⟨h1, hy, ?_⟩;unfold YbV;rw [hy] at h;rw [if_neg (fun hh => hh h1), if_neg h]
 ·exfalso;apply h;unfold yR;rw [if_neg h1];exact cmpR_self _
theorem sumR_k {l : List Clp} {t : Int} (ok : ∀ c ∈ l, ClpOk c t) (hl : l.length <= 300) (p : Int) : Rk 300301 (sumR l p) := (smTo_k ok p l.length (ZnR _)).mono (by omega)
theorem YdV (o : List Spn) (a b : Int) (ho : o.length <= 1000000000) : Yfh Tryz.prog 83 [.own 901, .d (.v (.int .i64 a)), .d (.v (.int .i64 b))] [(901, .row 64 2 (o.map Spn.ds))] [(901, .row 64 2 ((YbG o a b).map Spn.ds))] (fun i => Nat.beq i 901) (.own 901) := by
 refine xtmp_of (n := 44) (t := 6) Tryz.func83 J (by kernel_rfl) J J J ?_;intro B w0 F0 fr ρ0;refine .sr (.aN ?_);refine .seq (.sr (.mm ?_));refine .sA (.geq J J J) (.nil ?_);refine .cT J (fun h1 => ?_) fun h1 => ?_
 ·rw [show YbG o a b = o from if_pos h1];refine .sr (.sA (.moveO J J) ?_);refine .sA (.assignO J J) (.nil ?_);refine .ret ?_
  first | exact ⟨SLe.of_eq rfl, .head _, trivial⟩ | exact ⟨SLe.of_eq rfl, .tail _ (.head _), trivial⟩ | exact ⟨SLe.of_eq rfl, .tail _ (.tail _ (.head _)), trivial⟩ | exact ⟨SLe.of_eq rfl, .tail _ (.tail _ (.tail _ (.head _))), trivial⟩
 rw [show YbG o a b = apdL o a b from if_neg h1];refine .skip (.seq (.sr (.sA (.moveO J J) ?_)));refine .sA (.lenOwn J et_59.ht J (.head _)) ?_;rw [ZlM];refine .sA (.sub64 J J J) ?_;refine .aN ?_;refine .sr (.mA ?_);refine .sA (.geq J J J) ?_;refine .mA ?_;refine .sT 17 J (fun g2 => ?_) fun g2 => ?_
 ·have hpo : 0 < o.length := by omega
  refine .sG (.moveO J J) ?_;refine .sG (.moveD J J) ?_;refine .sG (.indexOwn J et_59 J J (.head _) (o.length - 1) (by omega) (by rw [ZlM]; omega)) ?_;refine .sG (.fieldAddrP J YbK J) ?_;refine .sG (.loadRow J sc_3 J (.head _) (o.length - 1) 1 (by omega) (YdE hpo) J) ?_;refine .sG (.moveD J J) ?_;refine .sG (.geq J J J) ?_;refine .sA (.pickT J J J) (.nil ?_);refine .cT J (fun h3 => ?_) fun h3 => ?_
  ·rw [show apdL o a b = o.set (o.length - 1) ⟨(Ygd o).lo, max (Ygd o).hi b⟩ from if_pos ⟨by omega, h3⟩, <- setS];refine .sr (.sA (.moveO J J) ?_);refine .mA ?_;refine .sA (.moveO J J) ?_;refine .mA ?_;refine .sA (.indexOwn J et_59 J J (.head _) (o.length - 1) (by omega) (by rw [ZlM]; omega)) ?_;refine .sA (.fieldAddrP J YbK J) ?_;refine .sA (.loadRow J sc_3 J (.head _) (o.length - 1) 1 (by omega) (YdE hpo) J) ?_;refine .mA ?_;refine .sA (.max J J J) ?_;refine .sA (.indexOwn J et_59 J J (.head _) (o.length - 1) (by omega) (by rw [ZlM]; omega)) ?_;refine .sA (.fieldAddrP J YbK J) ?_;refine .stR J J J sz_3 J (.head _) J J J (o.length - 1) 1 (by omega) (YdE hpo) (ZnB J) (.nil ?_);refine .sr (.sA (.moveO J J) ?_);refine .sA (.assignO J J) (.nil ?_);refine .ret ?_
   first | exact ⟨SLe.of_eq rfl, .head _, trivial⟩ | exact ⟨SLe.of_eq rfl, .tail _ (.head _), trivial⟩ | exact ⟨SLe.of_eq rfl, .tail _ (.tail _ (.head _)), trivial⟩ | exact ⟨SLe.of_eq rfl, .tail _ (.tail _ (.tail _ (.head _))), trivial⟩
  rw [show apdL o a b = o ++ [⟨a, b⟩] from if_neg (fun hh => h3 hh.2), ZmA];refine .skip (.sr (.sA (.moveO J J) ?_));refine .mm ?_;refine .sA (.build J bu_64 (.cons J J (.cons J J .nil)) J) ?_;refine .sA (.buildSlice J et_59 (.cons J J J .nil) J (by decide)) ?_
  -- append 43
  refine .append rfl rfl rfl rfl et_59 rfl (.head _) rfl (by simp [D.parts, Spn.ds]) (by simp only [ZlM, List.length_cons, List.length_nil]; omega) (by simp only [ZlM, List.length_cons, List.length_nil]; omega) ?_;refine .sA (.assignO J J) (.nil ?_);refine .ret ?_
  first | exact ⟨SLe.of_eq rfl, .head _, trivial⟩ | exact ⟨SLe.of_eq rfl, .tail _ (.head _), trivial⟩ | exact ⟨SLe.of_eq rfl, .tail _ (.tail _ (.head _)), trivial⟩ | exact ⟨SLe.of_eq rfl, .tail _ (.tail _ (.tail _ (.head _))), trivial⟩
 rw [show apdL o a b = o ++ [⟨a, b⟩] from if_neg (by omega), ZmA];refine .pB ?_;refine .pB ?_;refine .pB ?_;refine .pA ?_;refine .sA (.pickF J J J) (.nil ?_);refine .cond J (fun h => nomatch h) (fun _ => ?_);refine .skip (.sr (.sA (.moveO J J) ?_));refine .mm ?_;refine .sA (.build J bu_64 (.cons J J (.cons J J .nil)) J) ?_;refine .sA (.buildSlice J et_59 (.cons J J J .nil) J (by decide)) ?_
 -- append 43
 refine .append rfl rfl rfl rfl et_59 rfl (.head _) rfl (by simp [D.parts, Spn.ds]) (by simp only [ZlM, List.length_cons, List.length_nil]; omega) (by simp only [ZlM, List.length_cons, List.length_nil]; omega) ?_;refine .sA (.assignO J J) (.nil ?_);refine .ret ?_
 first | exact ⟨SLe.of_eq rfl, .head _, trivial⟩ | exact ⟨SLe.of_eq rfl, .tail _ (.head _), trivial⟩ | exact ⟨SLe.of_eq rfl, .tail _ (.tail _ (.head _)), trivial⟩ | exact ⟨SLe.of_eq rfl, .tail _ (.tail _ (.tail _ (.head _))), trivial⟩
theorem c_apd (o : List Spn) (a b : Int) (ho : o.length <= 1000000000) : Yfh Tryz.prog 34 [.own 901, .d (.agg (⟨a, b⟩ : Spn).ds)] [(901, .row 64 2 (o.map Spn.ds))] [(901, .row 64 2 ((apdL o a b).map Spn.ds))] (fun i => Nat.beq i 901) (.own 901) := by
 refine xtmp_of (n := 38) (t := 4) Tryz.func34 J (by kernel_rfl) J J J ?_;intro B w0 F0 fr ρ0;refine .sr (.sA (.box J J J) ?_);refine .aN ?_;refine .seq (.sr (.sA (.moveO J J) ?_));refine .sA (.lenOwn J et_59.ht J (.head _)) ?_;rw [ZlM];refine .sA (.sub64 J J J) ?_;refine .aN ?_;refine .seq (.drw 12 ?_);refine .sA (.moveD J J) (.sA (.geq J J J) (.sA (.moveD J J) ?_));refine .sT 11 J (fun g1 => ?_) fun g1 => ?_
 ·have hpo : 0 < o.length := by omega
  refine .sG (.fieldAddr J Yd4 J) ?_;refine .sG (.load J sc_3 J) ?_;refine .sG (.moveO J J) ?_;refine .sG (.moveD J J) ?_;refine .sG (.indexOwn J et_59 J J (.head _) (o.length - 1) (by omega) (by rw [ZlM]; omega)) ?_;refine .sG (.fieldAddrP J YbK J) ?_;refine .sG (.loadRow J sc_3 J (.head _) (o.length - 1) 1 (by omega) (YdE hpo) J) ?_;refine .sG (.leq J J J) ?_;refine .sA (.pickT J J J) ?_;refine .nil ?_;refine .nil ?_;refine .cT J (fun h2 => ?_) fun h2 => ?_
  ·rw [show apdL o a b = o.set (o.length - 1) ⟨(Ygd o).lo, max (Ygd o).hi b⟩ from if_pos ⟨by omega, h2⟩, <- setS];refine .seq (.drw 12 ?_);refine .sA (.moveO J J) (.sA (.moveD J J) (.sA (.moveO J J) (.sA (.moveD J J) ?_)));refine .sA (.indexOwn J et_59 J J (.head _) (o.length - 1) (by omega) (by rw [ZlM]; omega)) ?_;refine .sA (.fieldAddrP J YbK J) ?_;refine .sA (.loadRow J sc_3 J (.head _) (o.length - 1) 1 (by omega) (YdE hpo) J) ?_;refine .fl YbK sc_3 ?_;refine .sA (.max J J J) ?_;refine .sA (.indexOwn J et_59 J J (.head _) (o.length - 1) (by omega) (by rw [ZlM]; omega)) ?_;refine .sA (.fieldAddrP J YbK J) ?_;refine .nil ?_;refine .stR J J J sz_3 J (.head _) J J J (o.length - 1) 1 (by omega) (YdE hpo) (ZnB J) (.nil ?_);refine .sr (.sA (.moveO J J) ?_);refine .sA (.assignO J J) (.nil ?_);refine .ret ?_
   first | exact ⟨SLe.of_eq rfl, .head _, trivial⟩ | exact ⟨SLe.of_eq rfl, .tail _ (.head _), trivial⟩ | exact ⟨SLe.of_eq rfl, .tail _ (.tail _ (.head _)), trivial⟩ | exact ⟨SLe.of_eq rfl, .tail _ (.tail _ (.tail _ (.head _))), trivial⟩
  rw [show apdL o a b = o ++ [⟨a, b⟩] from if_neg (fun hh => h2 hh.2), ZmA];refine .skip (.sr (.sA (.moveO J J) ?_));refine .sA (.loadAgg J ag_64 J J) ?_;refine .sA (.buildSlice J et_59 (.cons J J J .nil) J (by decide)) ?_
  -- append 37
  refine .append rfl rfl rfl rfl et_59 rfl (.head _) rfl (by simp [D.parts, Spn.ds]) (by simp only [ZlM, List.length_cons, List.length_nil]; omega) (by simp only [ZlM, List.length_cons, List.length_nil]; omega) ?_;refine .sA (.assignO J J) (.nil ?_);refine .ret ?_
  first | exact ⟨SLe.of_eq rfl, .head _, trivial⟩ | exact ⟨SLe.of_eq rfl, .tail _ (.head _), trivial⟩ | exact ⟨SLe.of_eq rfl, .tail _ (.tail _ (.head _)), trivial⟩ | exact ⟨SLe.of_eq rfl, .tail _ (.tail _ (.tail _ (.head _))), trivial⟩
 rw [show apdL o a b = o ++ [⟨a, b⟩] from if_neg (by omega), ZmA];refine .pB ?_;refine .pB ?_;refine .pB ?_;refine .pB ?_;refine .sA (.pickF J J J) ?_;refine .nil ?_;refine .nil ?_;refine .cond J (fun h => nomatch h) (fun _ => ?_);refine .skip (.sr (.sA (.moveO J J) ?_));refine .sA (.loadAgg J ag_64 J J) ?_;refine .sA (.buildSlice J et_59 (.cons J J J .nil) J (by decide)) ?_
 -- append 37
 refine .append rfl rfl rfl rfl et_59 rfl (.head _) rfl (by simp [D.parts, Spn.ds]) (by simp only [ZlM, List.length_cons, List.length_nil]; omega) (by simp only [ZlM, List.length_cons, List.length_nil]; omega) ?_;refine .sA (.assignO J J) (.nil ?_);refine .ret ?_
 first | exact ⟨SLe.of_eq rfl, .head _, trivial⟩ | exact ⟨SLe.of_eq rfl, .tail _ (.head _), trivial⟩ | exact ⟨SLe.of_eq rfl, .tail _ (.tail _ (.head _)), trivial⟩ | exact ⟨SLe.of_eq rfl, .tail _ (.tail _ (.tail _ (.head _))), trivial⟩
theorem c_within (l : List Clp) (t : Int) (ok : ∀ c ∈ l, ClpOk c t) (hl : l.length <= 300) (o : List Spn) (a b : Int) (ho : o.length <= 1000000) (ha : -1000000000 <= a /\ a <= 1000000000) (hb : -1000000000 <= b /\ b <= 1000000000) : Yfh Tryz.prog 84 [.d (.agg (crvD l)), .own 901, .d (.v (.int .i64 a)), .d (.v (.int .i64 b))] [(901, .row 64 2 (o.map Spn.ds))] [(901, .row 64 2 ((YbV l o a b).map Spn.ds))] (fun i => Nat.beq i 901 || Nat.beq i 909 || Nat.beq i 910 || Nat.beq i 911) (.own 901) := by
 refine xtmp_of (n := 95) (t := 8) Tryz.func84 J (by kernel_rfl) J J J ?_;intro B w0 F0 fr ρ0;refine .sr (.sA (.box J J J) ?_);refine .aN ?_;refine .seq (.drwF 10 [] [⟨9, 909, .ptr 909 0, .cells [.d (.v (.bool false)), .d (.v (.slice none 0 0)), .d (.v (.slice none 0 0))]⟩, ⟨10, 910, .ptr 910 0, .cells [.d (.v (.bool false)), .d (.v (.slice none 0 0)), .d (.v (.slice none 0 0))]⟩] (FrOk.two rfl (by simp) rfl rfl rfl rfl (by simp) rfl rfl rfl (Nat.ne_of_beq_eq_false rfl) (Nat.ne_of_beq_eq_false rfl) rfl rfl rfl rfl) ?_);refine .step J J J (.fieldAddr J YfG J) ?_;refine .step J J J (.load J sc_99 J) ?_;refine .step J J J (.moveD J J) ?_;refine .step J J J (.callClo J J (.cons (.rfl' J) .nil) (c_sum1 l t a ok hl)) ?_;refine .step J J J (.fieldAddr J YfG J) ?_;refine .step J J J (.load J sc_99 J) ?_;refine .step J J J (.moveD J J) ?_;refine .step J J J (.callClo J J (.cons (.rfl' J) .nil) (c_sum1 l t a ok hl)) ?_;refine .alloc _ (.head _) J J J J J YbL J J J J ?_;refine .alloc _ (.tail _ (.head _)) J J J J J YbL J J J J ?_;refine .nil ⟨J, J, trivial⟩ ?_;refine .st J J J Ya6 J (.head _) J J J (ZnB J) ?_;refine .st J J J Ya6 J (.tail _ (.head _)) J J J (ZnB J) (.nil ?_);refine .seqJ (True) (Env.of [(9, .ptr 909 0), (10, .ptr 910 0), (4, .d (.fp (crvD l))), (1, .own 901), (2, .d (.v (.int .i64 a))), (3, .d (.v (.int .i64 b)))]) [(909, .cells ((rD (sumR l a)).map S.d)), (910, .cells ((rD (yR l a b)).map S.d)), (901, .row 64 2 (o.map Spn.ds))] ?_ (fun _ => ?_)
 ·skip;refine .sr (.mm ?_);refine .sA (.sub64 J J J) ?_;refine .sA (.gtr J J J) (.nil ?_);refine .cT J (fun h1 => ?_) fun h1 => ?_
  ·rw [show yR l a b = sumR l (a + 1) from if_pos h1];refine .region (.fl YfG sc_99 ?_);refine .mA ?_;refine .sA (.add64 J J J) ?_;refine .sA (.callClo J J (.cons (.rfl' J) .nil) (c_sum1 l t (a + 1) ok hl)) ?_;refine .st J J J Ya6 J (.tail _ (.head _)) J J J (ZnB J) (.nil ?_);refine ⟨?_, Sub.less ⟨U, U, U, U, U, U, trivial⟩ (fun _ h => h)⟩;trivial
  rw [show yR l a b = sumR l a from if_neg h1];refine .skip ?_;refine ⟨?_, Sub.less ⟨U, U, U, U, U, U, trivial⟩ (fun _ h => h)⟩;trivial
 have hyk : Rk 300301 (yR l a b) := by unfold yR; split <;> exact sumR_k ok hl _
 refine .seq (.sr (.sA (.loadPU J YaO J (.head _) J J) ?_));refine .sA (.loadPU J YaO J (.tail _ (.head _)) J J) ?_;refine .sA (.call J (.cons (.rfl' J) (.cons (.rfl' J) .nil)) (c_cmpR (sumR l a) (yR l a b) 300301 (by decide) (sumR_k ok hl a) hyk)) ?_;refine .sA (.eql J J J) (.nil ?_);refine .cT J (fun h2 => ?_) fun h2 => ?_
 ·rw [within_0 h2];refine .seq (.sr (.sA (.loadPU J YaO J (.head _) J J) ?_));refine .sA (.call J (.cons (.rfl' J) .nil) (c_signR (sumR l a))) ?_;refine .sA (.eql J J J) (.nil ?_);refine .cT J (fun h3 => ?_) fun h3 => ?_
  ·rw [if_pos h3];refine .sr (.sA (.moveO J J) ?_);refine .sA (.assignO J J) (.nil ?_);refine .ret ?_
   first | exact ⟨SLe.of_eq rfl, .head _, trivial⟩ | exact ⟨SLe.of_eq rfl, .tail _ (.head _), trivial⟩ | exact ⟨SLe.of_eq rfl, .tail _ (.tail _ (.head _)), trivial⟩ | exact ⟨SLe.of_eq rfl, .tail _ (.tail _ (.tail _ (.head _))), trivial⟩
  rw [if_neg h3];refine .skip (.sr (.sA (.moveO J J) ?_));refine .mm ?_;refine .callXS rfl rfl rfl (ArgsS.cons U (ArgsS.cons U (ArgsS.cons U ArgsS.nil))) (YdV o a b (by omega)) ⟨(.tail _ (.tail _ (.head _))), trivial⟩ rfl rfl (fun i h => by show (!(Nat.beq i 901 || Nat.beq i 909 || Nat.beq i 910 || Nat.beq i 911)) = false; rw [h]; rfl) ?_;refine .sA (.assignO J J) (.nil ?_);refine .ret ?_
  first | exact ⟨SLe.of_eq rfl, .head _, trivial⟩ | exact ⟨SLe.of_eq rfl, .tail _ (.head _), trivial⟩ | exact ⟨SLe.of_eq rfl, .tail _ (.tail _ (.head _)), trivial⟩ | exact ⟨SLe.of_eq rfl, .tail _ (.tail _ (.tail _ (.head _))), trivial⟩
 obtain ⟨hba, hye, hwe⟩ := within_1 (o := o) h2;rw [hwe];have hnz := cmp_sub (sumR_k ok hl a) hyk h2;refine .skip (.seq (.drwF 6 [] [⟨11, 911, .ptr 911 0, .cells [.d (.v (.bool false)), .d (.v (.slice none 0 0)), .d (.v (.slice none 0 0))]⟩] (FrOk.one rfl (by simp) rfl rfl rfl) ?_));refine .step J J J (.loadPU J YaO J (.head _) J J) ?_;refine .step J J J (.loadPU J YaO J (.head _) J J) ?_;refine .step J J J (.loadPU J YaO J (.tail _ (.head _)) J J) ?_;refine .step J J J (.call J (.cons (.rfl' J) (.cons (.rfl' J) .nil)) (c_subR (sumR l a) (yR l a b) 300301 (by decide) (sumR_k ok hl a) hyk)) ?_;refine .step J J J (.call J (.cons (.rfl' J) (.cons (.rfl' J) .nil)) (c_divR (sumR l a) (subR (sumR l a) (yR l a b)) 700000 (by decide) ((sumR_k ok hl a).mono (by decide)) (((sumR_k ok hl a).add hyk.neg).mono (by decide)))) ?_;rw [show divR (sumR l a) (subR (sumR l a) (yR l a b)) = (zerR l a) by unfold zerR; rw [hye]];refine .alloc _ (.head _) J J J J J YbL J J J J ?_;refine .nil ⟨J, trivial⟩ ?_;refine .st J J J Ya6 J (.head _) J J J (ZnB J) (.nil ?_);refine .seq (.sr (.sA (.fieldAddrP J YaQ J) ?_));refine .sA (.loadPU J YaJ J (.head _) J J) (.sA (.call J (.cons (.rfl' J) .nil) (c_smallI (zerR l a).n)) ?_);refine .mA ?_;refine .sA (.extract J J J) (.sA (.extract J J J) ?_);refine .aa (.nil ?_);refine .sr (.mm ?_);refine .split 55 J (fun g4 => ?_) (fun g4 => ?_)
 ·skip;have hq1 : (zerR l a).n.natAbs < 9223372036854775808 := dcT g4;refine .sG (.fieldAddrP J YaH J) ?_;refine .sG (.loadP J Yal J (.head _) J) ?_;refine .sG (.lenSl J et_118.ht J) ?_;rw [Yaf];refine .sG (.eql J J J) ?_;refine .sA (.pickT J J J) ?_;refine .mA ?_;refine .sT 61 J (fun g5 => ?_) fun g5 => ?_
  ·have h1w := Yfz (b := (zerR l a).d) (by omega);refine .sG (.fieldAddrP J YaH J) ?_;refine .sG (.loadP J Yal J (.head _) J) ?_;refine .sG (.indexAddr J et_118 J J 0 J (Yas (by omega)) J) ?_;refine .sG (.load J YaF J) ?_;rw [h1w.1];refine .sG (.eql J J J) ?_;refine .sA (.pickT J J J) ?_;refine .mA ?_;refine .sT 68 J (fun g6 => ?_) fun g6 => ?_
   ·have hq2 : (zerR l a).d = 1 := by omega
    refine .sG (.moveD J J) ?_;refine .sG (.geq J J J) ?_;refine .sA (.pickT J J J) ?_;refine .mA ?_;refine .sT 72 J (fun g7 => ?_) fun g7 => ?_
    ·have hq3 : 0 <= smI (zerR l a).n := g7;refine .sG (.moveD J J) ?_;refine .sG (.moveD J J) ?_;refine .sG (.moveD J J) ?_;refine .sG (.sub64 J J J) ?_;refine .sG (.lss J J J) ?_;refine .sA (.pickT J J J) (.nil ?_);refine .cT J (fun h8 => ?_) fun h8 => ?_
     ·have hit : HitP l a b := ⟨hq1, hq2, hq3, h8⟩;rw [if_pos hit];refine .sr (.sA (.moveO J J) ?_);refine .mm ?_;refine .mA ?_;refine .sA (.add64 J J J) ?_;refine .callXS rfl rfl rfl (ArgsS.cons U (ArgsS.cons U (ArgsS.cons U ArgsS.nil))) (YdV o a (a + smI (zerR l a).n) (by omega)) ⟨(.tail _ (.tail _ (.tail _ (.head _)))), trivial⟩ rfl rfl (fun i h => by show (!(Nat.beq i 901 || Nat.beq i 909 || Nat.beq i 910 || Nat.beq i 911)) = false; rw [h]; rfl) ?_;refine .mm ?_;refine .sA (.add64 J J J) ?_;refine .sA (.add64 J J J) ?_;refine .mA ?_;refine .callXS rfl rfl rfl (ArgsS.cons U (ArgsS.cons U (ArgsS.cons U ArgsS.nil))) (YdV (YbG o a (a + smI (zerR l a).n)) (a + smI (zerR l a).n + 1) b (ZnT (YcI _ _ _) (by omega))) ⟨(.head _), trivial⟩ rfl rfl (fun i h => by show (!(Nat.beq i 901 || Nat.beq i 909 || Nat.beq i 910 || Nat.beq i 911)) = false; rw [h]; rfl) ?_;refine .sA (.assignO J J) (.nil ?_);refine .ret ?_
      first | exact ⟨SLe.of_eq rfl, .head _, trivial⟩ | exact ⟨SLe.of_eq rfl, .tail _ (.head _), trivial⟩ | exact ⟨SLe.of_eq rfl, .tail _ (.tail _ (.head _)), trivial⟩ | exact ⟨SLe.of_eq rfl, .tail _ (.tail _ (.tail _ (.head _))), trivial⟩
     have hno : ¬ HitP l a b := fun hh => h8 hh.2.2.2
     rw [if_neg hno];refine .skip (.sr (.sA (.moveO J J) ?_));refine .mm ?_;refine .callXS rfl rfl rfl (ArgsS.cons U (ArgsS.cons U (ArgsS.cons U ArgsS.nil))) (YdV o a b (by omega)) ⟨(.tail _ (.tail _ (.tail _ (.head _)))), trivial⟩ rfl rfl (fun i h => by show (!(Nat.beq i 901 || Nat.beq i 909 || Nat.beq i 910 || Nat.beq i 911)) = false; rw [h]; rfl) ?_;refine .sA (.assignO J J) (.nil ?_);refine .ret ?_
     first | exact ⟨SLe.of_eq rfl, .head _, trivial⟩ | exact ⟨SLe.of_eq rfl, .tail _ (.head _), trivial⟩ | exact ⟨SLe.of_eq rfl, .tail _ (.tail _ (.head _)), trivial⟩ | exact ⟨SLe.of_eq rfl, .tail _ (.tail _ (.tail _ (.head _))), trivial⟩
    have hno : ¬ HitP l a b := fun hh => g7 hh.2.2.1
    rw [if_neg hno];refine .pB ?_;refine .pB ?_;refine .pA ?_;refine .sA (.pickF J J J) (.nil ?_);refine .cond J (fun h => nomatch h) (fun _ => ?_);refine .skip (.sr (.sA (.moveO J J) ?_));refine .mm ?_;refine .callXS rfl rfl rfl (ArgsS.cons U (ArgsS.cons U (ArgsS.cons U ArgsS.nil))) (YdV o a b (by omega)) ⟨(.tail _ (.tail _ (.tail _ (.head _)))), trivial⟩ rfl rfl (fun i h => by show (!(Nat.beq i 901 || Nat.beq i 909 || Nat.beq i 910 || Nat.beq i 911)) = false; rw [h]; rfl) ?_;refine .sA (.assignO J J) (.nil ?_);refine .ret ?_
    first | exact ⟨SLe.of_eq rfl, .head _, trivial⟩ | exact ⟨SLe.of_eq rfl, .tail _ (.head _), trivial⟩ | exact ⟨SLe.of_eq rfl, .tail _ (.tail _ (.head _)), trivial⟩ | exact ⟨SLe.of_eq rfl, .tail _ (.tail _ (.tail _ (.head _))), trivial⟩
   have hno : ¬ HitP l a b := fun hh => by have h5 := hh.2.1; omega
   rw [if_neg hno];refine .pB ?_;refine .sA (.pickF J J J) ?_;refine .mA ?_;refine .pB ?_;refine .pB ?_;refine .pA ?_;refine .sA (.pickF J J J) (.nil ?_);refine .cond J (fun h => nomatch h) (fun _ => ?_);refine .skip (.sr (.sA (.moveO J J) ?_));refine .mm ?_;refine .callXS rfl rfl rfl (ArgsS.cons U (ArgsS.cons U (ArgsS.cons U ArgsS.nil))) (YdV o a b (by omega)) ⟨(.tail _ (.tail _ (.tail _ (.head _)))), trivial⟩ rfl rfl (fun i h => by show (!(Nat.beq i 901 || Nat.beq i 909 || Nat.beq i 910 || Nat.beq i 911)) = false; rw [h]; rfl) ?_;refine .sA (.assignO J J) (.nil ?_);refine .ret ?_
   first | exact ⟨SLe.of_eq rfl, .head _, trivial⟩ | exact ⟨SLe.of_eq rfl, .tail _ (.head _), trivial⟩ | exact ⟨SLe.of_eq rfl, .tail _ (.tail _ (.head _)), trivial⟩ | exact ⟨SLe.of_eq rfl, .tail _ (.tail _ (.tail _ (.head _))), trivial⟩
  have hno : ¬ HitP l a b := fun hh => by have h5 := hh.2.1; rw [h5] at g5; exact g5 (by rw [show wl 1 = 1 by decide]; rfl)
  rw [if_neg hno];refine .pB ?_;refine .pB ?_;refine .pA ?_;refine .sA (.pickF J J J) ?_;refine .mA ?_;refine .pB ?_;refine .sA (.pickF J J J) ?_;refine .mA ?_;refine .pB ?_;refine .pB ?_;refine .pA ?_;refine .sA (.pickF J J J) (.nil ?_);refine .cond J (fun h => nomatch h) (fun _ => ?_);refine .skip (.sr (.sA (.moveO J J) ?_));refine .mm ?_;refine .callXS rfl rfl rfl (ArgsS.cons U (ArgsS.cons U (ArgsS.cons U ArgsS.nil))) (YdV o a b (by omega)) ⟨(.tail _ (.tail _ (.tail _ (.head _)))), trivial⟩ rfl rfl (fun i h => by show (!(Nat.beq i 901 || Nat.beq i 909 || Nat.beq i 910 || Nat.beq i 911)) = false; rw [h]; rfl) ?_;refine .sA (.assignO J J) (.nil ?_);refine .ret ?_
  first | exact ⟨SLe.of_eq rfl, .head _, trivial⟩ | exact ⟨SLe.of_eq rfl, .tail _ (.head _), trivial⟩ | exact ⟨SLe.of_eq rfl, .tail _ (.tail _ (.head _)), trivial⟩ | exact ⟨SLe.of_eq rfl, .tail _ (.tail _ (.tail _ (.head _))), trivial⟩
 have hno : ¬ HitP l a b := fun hh => (dcF g4) hh.1
 rw [if_neg hno];refine .pB ?_;refine .pB ?_;refine .sA (.pickF J J J) ?_;refine .mA ?_;refine .pB ?_;refine .pB ?_;refine .pA ?_;refine .sA (.pickF J J J) ?_;refine .mA ?_;refine .pB ?_;refine .sA (.pickF J J J) ?_;refine .mA ?_;refine .pB ?_;refine .pB ?_;refine .pA ?_;refine .sA (.pickF J J J) (.nil ?_);refine .cond J (fun h => nomatch h) (fun _ => ?_);refine .skip (.sr (.sA (.moveO J J) ?_));refine .mm ?_;refine .callXS rfl rfl rfl (ArgsS.cons U (ArgsS.cons U (ArgsS.cons U ArgsS.nil))) (YdV o a b (by omega)) ⟨(.tail _ (.tail _ (.tail _ (.head _)))), trivial⟩ rfl rfl (fun i h => by show (!(Nat.beq i 901 || Nat.beq i 909 || Nat.beq i 910 || Nat.beq i 911)) = false; rw [h]; rfl) ?_;refine .sA (.assignO J J) (.nil ?_);refine .ret ?_
 first | exact ⟨SLe.of_eq rfl, .head _, trivial⟩ | exact ⟨SLe.of_eq rfl, .tail _ (.head _), trivial⟩ | exact ⟨SLe.of_eq rfl, .tail _ (.tail _ (.head _)), trivial⟩ | exact ⟨SLe.of_eq rfl, .tail _ (.tail _ (.tail _ (.head _))), trivial⟩
end Go.Proofs.YtohllekllkcfiaaGreatDoor
namespace Go.Proofs
open Go.Shelf
def Tryz.keysT_ren : Go.Shelf.Ren := ⟨fun | 7 => 120 | 10 => 174 | n => n, fun | 23 => 130 | 26 => 3 | 3 => 140 | 28 => 193 | 0 => 0 | 27 => 192 | 33 => 88 | 4 => 4 | n => n, fun | n => n⟩
theorem Tryz.keysT : Go.Proofs.SlLaysZI.n7 Tryz.prog Tryz.keysT_ren := {
 mixed := by kernel_rfl
 f7 := ⟨Tryz.f120.name, by decide, ZfC Tryz.func120⟩
 f10 := ⟨Tryz.f174.name, by decide, ZfC Tryz.func174⟩
 t0 := Tryz.underlying0
 a0 := Tryz.isAgg0
 z0 := Tryz.sizeOf0
 v0 := Tryz.zeroValue0
 t4 := Tryz.underlying4
 a4 := Tryz.isAgg4
 z4 := Tryz.sizeOf4
 v4 := Tryz.zeroValue4
 t23 := Tryz.underlying130
 a23 := Tryz.isAgg130
 z23 := Tryz.sizeOf130
 v23 := Tryz.zeroValue130
 t26 := Tryz.underlying3
 a26 := Tryz.isAgg3
 z26 := Tryz.sizeOf3
 v26 := Tryz.zeroValue3
 t27 := Tryz.underlying192
 a27 := Tryz.isAgg192
 z27 := Tryz.sizeOf192
 v27 := Tryz.zeroValue192
 t28 := Tryz.underlying193
 a28 := Tryz.isAgg193
 z28 := Tryz.sizeOf193
 v28 := Tryz.zeroValue193
 t33 := Tryz.underlying88
 a33 := Tryz.isAgg88
 z33 := Tryz.sizeOf88
 v33 := Tryz.zeroValue88 }
def Tryz.keysM_ren : Go.Shelf.Ren := ⟨fun | 7 => 121 | 10 => 175 | n => n, fun | 23 => 131 | 26 => 3 | 3 => 142 | 28 => 193 | 0 => 0 | 27 => 192 | 33 => 88 | 4 => 4 | n => n, fun | n => n⟩
theorem Tryz.keysM : Go.Proofs.SlLaysZI.n7 Tryz.prog Tryz.keysM_ren := {
 mixed := by kernel_rfl
 f7 := ⟨Tryz.f121.name, by decide, ZfC Tryz.func121⟩
 f10 := ⟨Tryz.f175.name, by decide, ZfC Tryz.func175⟩
 t0 := Tryz.underlying0
 a0 := Tryz.isAgg0
 z0 := Tryz.sizeOf0
 v0 := Tryz.zeroValue0
 t4 := Tryz.underlying4
 a4 := Tryz.isAgg4
 z4 := Tryz.sizeOf4
 v4 := Tryz.zeroValue4
 t23 := Tryz.underlying131
 a23 := Tryz.isAgg131
 z23 := Tryz.sizeOf131
 v23 := Tryz.zeroValue131
 t26 := Tryz.underlying3
 a26 := Tryz.isAgg3
 z26 := Tryz.sizeOf3
 v26 := Tryz.zeroValue3
 t27 := Tryz.underlying192
 a27 := Tryz.isAgg192
 z27 := Tryz.sizeOf192
 v27 := Tryz.zeroValue192
 t28 := Tryz.underlying193
 a28 := Tryz.isAgg193
 z28 := Tryz.sizeOf193
 v28 := Tryz.zeroValue193
 t33 := Tryz.underlying88
 a33 := Tryz.isAgg88
 z33 := Tryz.sizeOf88
 v33 := Tryz.zeroValue88 }
def Tryz.sortedI_ren : Go.Shelf.Ren := ⟨fun | 6 => 119 | 8 => 173 | 9 => 27 | 11 => 213 | 13 => 41 | 12 => 68 | 23 => 95 | 24 => 96 | 14 => 122 | 15 => 123 | 16 => 124 | 17 => 125 | 18 => 126 | 19 => 127 | 20 => 128 | 21 => 129 | 22 => 130 | 25 => 176 | 26 => 155 | 27 => 156 | 28 => 177 | 29 => 178 | 30 => 97 | 31 => 214 | n => n, fun | 26 => 3 | 28 => 193 | 24 => 34 | 0 => 0 | 3 => 3 | 37 => 107 | 48 => 171 | 50 => 173 | 4 => 4 | 40 => 165 | 39 => 164 | 45 => 57 | 5 => 5 | 9 => 9 | 51 => 218 | 55 => 142 | 57 => 256 | 58 => 257 | 33 => 88 | n => n, fun | n => n⟩
theorem Tryz.sortedI : Go.Proofs.SlLaysZI.n6 Tryz.prog Tryz.sortedI_ren := {
 mixed := by kernel_rfl
 f6 := ⟨Tryz.f119.name, by decide, ZfC Tryz.func119⟩
 f8 := ⟨Tryz.f173.name, by decide, ZfC Tryz.func173⟩
 f11 := ⟨Tryz.f213.name, by decide, ZfC Tryz.func213⟩
 t0 := Tryz.underlying0
 a0 := Tryz.isAgg0
 z0 := Tryz.sizeOf0
 v0 := Tryz.zeroValue0
 t24 := Tryz.underlying34
 a24 := Tryz.isAgg34
 z24 := Tryz.sizeOf34
 v24 := Tryz.zeroValue34
 t26 := Tryz.underlying3
 a26 := Tryz.isAgg3
 z26 := Tryz.sizeOf3
 v26 := Tryz.zeroValue3
 t28 := Tryz.underlying193
 a28 := Tryz.isAgg193
 z28 := Tryz.sizeOf193
 v28 := Tryz.zeroValue193
 i26 := by kernel_rfl }
def Tryz.sortMI_ren : Go.Shelf.Ren := ⟨fun | 5 => 27 | 8 => 41 | 7 => 68 | 19 => 95 | 20 => 96 | 10 => 122 | 11 => 123 | 12 => 124 | 13 => 125 | 14 => 126 | 15 => 127 | 16 => 128 | 17 => 129 | 18 => 130 | 30 => 176 | 31 => 155 | 32 => 156 | 33 => 177 | 34 => 178 | 35 => 97 | 40 => 214 | n => n, fun | 23 => 34 | 25 => 3 | 3 => 3 | 32 => 107 | 22 => 34 | 0 => 0 | 44 => 171 | 46 => 173 | 4 => 4 | 36 => 165 | 35 => 164 | 41 => 57 | 5 => 5 | 9 => 9 | 53 => 218 | 57 => 142 | 63 => 256 | 64 => 257 | n => n, fun | n => n⟩
theorem Tryz.sortMI : Go.Proofs.SlLaysM.n5 Tryz.prog Tryz.sortMI_ren := {
 mixed := by kernel_rfl
 f5 := ⟨Tryz.f27.name, by decide, ZfC Tryz.func27⟩
 f7 := ⟨Tryz.f68.name, by decide, ZfC Tryz.func68⟩
 f8 := ZfC Tryz.func41
 f10 := ⟨Tryz.f122.name, by decide, ZfC Tryz.func122⟩
 f11 := ⟨Tryz.f123.name, by decide, ZfC Tryz.func123⟩
 f12 := ⟨Tryz.f124.name, by decide, ZfC Tryz.func124⟩
 f13 := ⟨Tryz.f125.name, by decide, ZfC Tryz.func125⟩
 f14 := ⟨Tryz.f126.name, by decide, ZfC Tryz.func126⟩
 f15 := ⟨Tryz.f127.name, by decide, ZfC Tryz.func127⟩
 f16 := ⟨Tryz.f128.name, by decide, ZfC Tryz.func128⟩
 f17 := ⟨Tryz.f129.name, by decide, ZfC Tryz.func129⟩
 f18 := ⟨Tryz.f130.name, by decide, ZfC Tryz.func130⟩
 f19 := ZfC Tryz.func95
 f20 := ZfC Tryz.func96
 f30 := ⟨Tryz.f176.name, by decide, ZfC Tryz.func176⟩
 f31 := ZfC Tryz.func155
 f32 := ZfC Tryz.func156
 f33 := ⟨Tryz.f177.name, by decide, ZfC Tryz.func177⟩
 f34 := ⟨Tryz.f178.name, by decide, ZfC Tryz.func178⟩
 f35 := ⟨Tryz.f97.name, by decide, ZfC Tryz.func97⟩
 f40 := ⟨Tryz.f214.name, by decide, ZfC Tryz.func214⟩
 t0 := Tryz.underlying0
 a0 := Tryz.isAgg0
 z0 := Tryz.sizeOf0
 v0 := Tryz.zeroValue0
 t3 := Tryz.underlying3
 a3 := Tryz.isAgg3
 z3 := Tryz.sizeOf3
 v3 := Tryz.zeroValue3
 t4 := Tryz.underlying4
 a4 := Tryz.isAgg4
 z4 := Tryz.sizeOf4
 v4 := Tryz.zeroValue4
 t5 := Tryz.underlying5
 a5 := Tryz.isAgg5
 z5 := Tryz.sizeOf5
 v5 := Tryz.zeroValue5
 t9 := Tryz.underlying9
 a9 := Tryz.isAgg9
 z9 := Tryz.sizeOf9
 v9 := Tryz.zeroValue9
 t22 := Tryz.underlying34
 a22 := Tryz.isAgg34
 z22 := Tryz.sizeOf34
 v22 := Tryz.zeroValue34
 t23 := Tryz.underlying34
 a23 := Tryz.isAgg34
 z23 := Tryz.sizeOf34
 v23 := Tryz.zeroValue34
 t25 := Tryz.underlying3
 a25 := Tryz.isAgg3
 z25 := Tryz.sizeOf3
 v25 := Tryz.zeroValue3
 t32 := Tryz.underlying107
 a32 := Tryz.isAgg107
 z32 := Tryz.sizeOf107
 v32 := Tryz.zeroValue107
 t35 := Tryz.underlying164
 a35 := Tryz.isAgg164
 z35 := Tryz.sizeOf164
 v35 := Tryz.zeroValue164
 t36 := Tryz.underlying165
 a36 := Tryz.isAgg165
 z36 := Tryz.sizeOf165
 v36 := Tryz.zeroValue165
 t41 := Tryz.underlying57
 a41 := Tryz.isAgg57
 z41 := Tryz.sizeOf57
 v41 := Tryz.zeroValue57
 t44 := Tryz.underlying171
 a44 := Tryz.isAgg171
 z44 := Tryz.sizeOf171
 v44 := Tryz.zeroValue171
 t46 := Tryz.underlying173
 a46 := Tryz.isAgg173
 z46 := Tryz.sizeOf173
 v46 := Tryz.zeroValue173
 t53 := Tryz.underlying218
 a53 := Tryz.isAgg218
 z53 := Tryz.sizeOf218
 v53 := Tryz.zeroValue218
 t57 := Tryz.underlying142
 a57 := Tryz.isAgg142
 z57 := Tryz.sizeOf142
 v57 := Tryz.zeroValue142
 t63 := Tryz.underlying256
 a63 := Tryz.isAgg256
 z63 := Tryz.sizeOf256
 v63 := Tryz.zeroValue256
 t64 := Tryz.underlying257
 a64 := Tryz.isAgg257
 z64 := Tryz.sizeOf257
 v64 := Tryz.zeroValue257 }
end Go.Proofs
namespace Go.Proofs.YtohllekllkcfiaaGreatDoor
open Go.RowKit
open Ty
structure Chg where
 put : List Thg
 drop : List Int
 add : List Mvd
 back : List Int
deriving DecidableEq
instance : Inhabited Chg := ⟨⟨[], [], [], []⟩⟩
def Chg.ds (x : Chg) : List D := [.sl (x.put.map Thg.ds), .sl (x.drop.map intD), .sl (x.add.map Mvd.ds), .sl (x.back.map intD)]
structure ChgOk (x : Chg) : Prop where
 put : ∀ t ∈ x.put, ThgOk t
 drop : ∀ n ∈ x.drop, i64 n
 add : ∀ m ∈ x.add, i64 m.src /\ i64 m.dst
 back : ∀ n ∈ x.back, i64 n
section
variable {α : Type} {f : α -> Int}
def RisBy (f : α -> Int) (l : List α) : Prop := l.Pairwise fun a b => f a < f b
def Yb6 (f : α -> Int) (l : List α) (k : Int) : Option α := l.find? fun a => decide (f a = k)
theorem Ybc (a : α) (l : List α) (k : Int) : Yb6 f (a :: l) k = if f a = k then some a else Yb6 f l k := by
 unfold Yb6;rw [List.find?_cons]
 by_cases h : f a = k <;> simp [h]
theorem findBy_some {l : List α} {k : Int} {a : α} (h : Yb6 f l k = some a) : a ∈ l /\ f a = k := by
 unfold Yb6 at h;have h2 := List.find?_some h;exact ⟨List.mem_of_find?_eq_some h, by simpa using h2⟩
theorem RisBy.find {l : List α} (h : RisBy f l) {a : α} (ha : a ∈ l) : Yb6 f l (f a) = some a := by
 induction l with
 | nil => cases ha
 | cons x l ih =>
  obtain ⟨h1, h2⟩ := List.pairwise_cons.1 h;rw [Ybc]
  rcases List.mem_cons.1 ha with rfl | ha
  ·rw [if_pos rfl]
  ·rw [if_neg (fun e => by have := h1 a ha; omega), ih h2 ha]
end
theorem Ycl (m : List Mvd) (k : Int) : (Yb6 (·.src) m k).map (·.dst) = Yaa (mvL m) k := by
 induction m with
 | nil => rfl
 | cons x m ih =>
  rw [Ybc, findM_cons]
  by_cases h : x.src = k
  ·rw [if_pos h, if_pos h]; rfl
  ·rw [if_neg h, if_neg h]; exact ih
end Go.Proofs.YtohllekllkcfiaaGreatDoor
