/- Walks and laws over abstract values, merged by tools/merge.py. No statement of the seat. -/
import Derived.Maps.RangeRun
import Derived.WalkKit
import Derived.Ground.NamesProg
import Derived.Shelf.SlSortCmp.WholeK
import Derived.Shelf.SlSortCmp.NoneTotal
import Derived.Shelf.SlicesG.Cmp
import Derived.Ground.SlsfProg
import Derived.Ground.SlgcProg
import Derived.Test.YtekenfknoakboaaDoorProg
import Derived.Test.YtekenfknoakboaaDoorXN4

namespace Go.Proofs.YtekenfknoakboaaDoor
open Go.RowKit
set_option linter.unusedVariables false

/-! Types. -/
namespace TyM7

end TyM7
open TyM7


theorem krow : (110 : TypeId) < Tryd.prog.types.size := of_decide_eq_true (by kernel_rfl)
theorem kwide : (match Tryd.prog.underlying 110 with | some (.array _ _) | some (.struct _) => true | _ => false) = true := by kernel_rfl
theorem klaid : laidOutB Tryd.prog = true := by kernel_rfl
set_option maxRecDepth 100000 in
theorem kroot : Maps.Keyed Tryd.prog 110 := Maps.Keyed.of_law (deep_law_laid klaid (m := 3) (by omega) krow (by kernel_rfl) kwide)
def keyV (k : ByteArray × Int) : Value := .agg #[.string k.1, .int .i64 k.2]
def isStrT (o : Option TypeDesc) : Bool := match o with
  | some .string => true
  | _ => false
def isI64T (o : Option TypeDesc) : Bool := match o with
  | some (.int .i64) => true
  | _ => false
theorem isStrT_eq {o : Option TypeDesc} (h : isStrT o = true) : o = some .string := by
  unfold isStrT at h
  split at h
  · rfl
  · cases h
theorem isI64T_eq {o : Option TypeDesc} (h : isI64T o = true) : o = some (.int .i64) := by
  unfold isI64T at h
  split at h
  · rfl
  · cases h
def keyB (P : Program) (k : TypeId) : Bool := match P.underlying k with
  | some (.struct fs) => (match fs.toList with
    | [f, g] => f.name != "_" && g.name != "_" && f.offset == 0 && g.offset == 1 && isStrT (P.underlying f.type) && isI64T (P.underlying g.type) && P.cellsOf f.type == 1 && P.cellsOf g.type == 1
    | _ => false) && P.cellsOf k == 2
  | _ => false
theorem keyB_ok {P : Program} {k : TypeId} (h : keyB P k = true) (hk : P.keyType k = true) (h0 : k < P.types.size) (s : ByteArray) (n : Int) (hs : s.size ≤ maxLen) (hn : (Lit.int .i64 n).wf = true) : ∃ l, keyOf P k (.agg #[.string s, .int .i64 n]) = some l := by
  unfold keyB at h
  cases hu : P.underlying k with
  | none => rw [hu] at h; cases h
  | some td =>
    rw [hu] at h
    cases td <;> try (cases h; done)
    rename_i fs
    simp only [Bool.and_eq_true] at h
    obtain ⟨h1, h2⟩ := h
    cases hf : fs.toList with
    | nil => rw [hf] at h1; cases h1
    | cons f r =>
      cases r with
      | nil => rw [hf] at h1; cases h1
      | cons g r =>
        cases r with
        | cons _ _ => rw [hf] at h1; cases h1
        | nil =>
          rw [hf] at h1
          simp only [Bool.and_eq_true, beq_iff_eq] at h1 h2
          obtain ⟨⟨⟨⟨⟨⟨⟨a1, a2⟩, a3⟩, a4⟩, a5⟩, a6⟩, a7⟩, a8⟩ := h1
          have a5' := isStrT_eq a5
          have a6' := isI64T_eq a6
          obtain ⟨m, hm⟩ : ∃ m, P.types.size = m + 1 := ⟨P.types.size - 1, (Nat.sub_add_cancel (Nat.lt_of_le_of_lt (Nat.zero_le k) h0)).symm⟩
          have hall : fs.all (·.name != "_") = true := by
            rw [← Array.all_toList, hf]
            simp only [List.all_cons, List.all_nil, a1, a2, Bool.and_self]
          unfold keyOf
          rw [hu]
          simp only [hk, Value.formed, hu, h2, Bool.true_and]
          refine ⟨.string (keyBytes [.string s.data.toList, .int .i64 n]), ?_⟩
          have kf : P.keyLits (m + 1) f.type [.string s] = some [.string s.data.toList] := by
            unfold Program.keyLits
            rw [a5']
            simp [hs]
          have kg : P.keyLits (m + 1) g.type [.int .i64 n] = some [.int .i64 n] := by
            unfold Program.keyLits
            rw [a6']
            simp [hn]
          have c1 : (([Value.string s, .int .i64 n] : List Value).drop f.offset).take (P.cellsOf f.type) = [.string s] := by rw [a3, a7]; rfl
          have c2 : (([Value.string s, .int .i64 n] : List Value).drop g.offset).take (P.cellsOf g.type) = [.int .i64 n] := by rw [a4, a8]; rfl
          have hk2 : P.keyLits (m + 1 + 1) k [.string s, .int .i64 n] = some [.string s.data.toList, .int .i64 n] := by
            unfold Program.keyLits
            rw [hu]
            simp only [List.length_cons, List.length_nil, h2, hall, and_self, if_true, hf, List.mapM_cons, List.mapM_nil, c1, c2, kf, kg]
            rfl
          simp [Value.cells, hm, hk2]
theorem keyV_ok (k : ByteArray × Int) (hs : k.1.size ≤ maxLen) (hn : -9223372036854775808 ≤ k.2 ∧ k.2 ≤ 9223372036854775807) : ∃ l, keyOf Tryd.prog 110 (keyV k) = some l :=
  keyB_ok (by kernel_rfl) (by kernel_rfl) krow k.1 k.2 hs (by
    have h1 : IntKind.i64.min = -9223372036854775808 := by decide
    have h2 : IntKind.i64.max = 9223372036854775807 := by decide
    simp only [Lit.wf, Bool.and_eq_true, decide_eq_true_eq, h1, h2]
    exact hn)
/-! ## A map by its keys -/
abbrev KL := List ((ByteArray × Int) × Int)
def encKL (L : KL) : List (Value × D) := L.map fun p => (keyV p.1, .v (.int .i64 p.2))
theorem keyV_inj {a b : ByteArray × Int} (h : keyV a = keyV b) : a = b := by
  unfold keyV at h
  simp only [Value.agg.injEq] at h
  have h2 : [Value.string a.1, .int .i64 a.2] = [.string b.1, .int .i64 b.2] := congrArg Array.toList h
  simp at h2
  exact Prod.ext h2.1 h2.2
def hasL (L : KL) (k : ByteArray × Int) : Bool := L.any fun p => decide (p.1 = k)
def getL (L : KL) (k : ByteArray × Int) : Int := ((L.find? fun p => decide (p.1 = k)).map (·.2)).getD 0
def putL (L : KL) (k : ByteArray × Int) (v : Int) : KL := if hasL L k = true then L.map (fun p => if p.1 = k then (k, v) else p) else L ++ [(k, v)]
def Nk (L : KL) : Prop := L.Pairwise fun p q => p.1 ≠ q.1
theorem hasL_iff {L : KL} {k : ByteArray × Int} : hasL L k = true ↔ ∃ p ∈ L, p.1 = k := by
  unfold hasL
  rw [List.any_eq_true]
  constructor
  · rintro ⟨p, h1, h2⟩; exact ⟨p, h1, of_decide_eq_true h2⟩
  · rintro ⟨p, h1, h2⟩; exact ⟨p, h1, decide_eq_true h2⟩
theorem putL_nk {L : KL} (h : Nk L) (k : ByteArray × Int) (v : Int) : Nk (putL L k v) := by
  unfold putL
  by_cases hh : hasL L k = true
  · rw [if_pos hh]
    unfold Nk
    rw [List.pairwise_map]
    refine h.imp fun {p q} hpq => ?_
    by_cases h1 : p.1 = k <;> by_cases h2 : q.1 = k
    · exact absurd (h1.trans h2.symm) hpq
    · rw [if_pos h1, if_neg h2]; exact fun e => h2 e.symm
    · rw [if_neg h1, if_pos h2]; exact h1
    · rw [if_neg h1, if_neg h2]; exact hpq
  · rw [if_neg hh]
    refine List.pairwise_append.2 ⟨h, by simp, fun p hp q hq => ?_⟩
    rw [List.mem_singleton] at hq
    subst hq
    exact fun e => hh (hasL_iff.2 ⟨p, hp, e⟩)
theorem find_map (L : KL) (k k' : ByteArray × Int) (v : Int) : ((L.map fun p => if p.1 = k then (k, v) else p).find? fun p => decide (p.1 = k')) = (L.find? fun p => decide (p.1 = k')).map fun p => if p.1 = k then (k, v) else p := by
  induction L with
  | nil => rfl
  | cons p L ih =>
    rw [List.map_cons, List.find?_cons, List.find?_cons]
    have e : (if p.1 = k then (k, v) else p).1 = p.1 := by
      by_cases h : p.1 = k
      · rw [if_pos h]; exact h.symm
      · rw [if_neg h]
    rw [e]
    by_cases h : p.1 = k'
    · simp [h]
    · simp only [h, decide_false]; exact ih
theorem get_put (L : KL) (k : ByteArray × Int) (v : Int) (k' : ByteArray × Int) : getL (putL L k v) k' = if k' = k then v else getL L k' := by
  unfold getL putL
  by_cases hh : hasL L k = true
  · rw [if_pos hh, find_map]
    obtain ⟨p, hp, hk⟩ := hasL_iff.1 hh
    by_cases h : k' = k
    · subst h
      rw [if_pos rfl]
      cases hf : L.find? fun p => decide (p.1 = k') with
      | none =>
        have := List.find?_eq_none.1 hf p hp
        simp [hk] at this
      | some q =>
        have := List.find?_some hf
        simp only [decide_eq_true_eq] at this
        simp [this]
    · rw [if_neg h]
      cases hf : L.find? fun p => decide (p.1 = k') with
      | none => rfl
      | some q =>
        have := List.find?_some hf
        simp only [decide_eq_true_eq] at this
        have h2 : ¬ q.1 = k := fun e => h (this.symm.trans e)
        simp [h2]
  · rw [if_neg hh, List.find?_append]
    by_cases h : k' = k
    · subst h
      rw [if_pos rfl]
      cases hf : L.find? fun p => decide (p.1 = k') with
      | none => simp
      | some q =>
        have h2 := List.find?_some hf
        simp only [decide_eq_true_eq] at h2
        exact absurd (hasL_iff.2 ⟨q, List.mem_of_find?_eq_some hf, h2⟩) hh
    · rw [if_neg h]
      cases hf : L.find? fun p => decide (p.1 = k') with
      | none => simp [Ne.symm h]
      | some q => simp
theorem has_put (L : KL) (k : ByteArray × Int) (v : Int) (k' : ByteArray × Int) : hasL (putL L k v) k' = (decide (k' = k) || hasL L k') := by
  rw [Bool.eq_iff_iff, hasL_iff, Bool.or_eq_true, decide_eq_true_eq, hasL_iff]
  unfold putL
  by_cases hh : hasL L k = true
  · rw [if_pos hh]
    obtain ⟨p0, hp0, hk0⟩ := hasL_iff.1 hh
    constructor
    · rintro ⟨p, hp, rfl⟩
      obtain ⟨q, hq, rfl⟩ := List.mem_map.1 hp
      by_cases h : q.1 = k
      · rw [if_pos h]; exact .inl rfl
      · rw [if_neg h]; exact .inr ⟨q, hq, rfl⟩
    · rintro (rfl | ⟨q, hq, rfl⟩)
      · exact ⟨(k', v), List.mem_map.2 ⟨p0, hp0, by rw [if_pos hk0]⟩, rfl⟩
      · by_cases h : q.1 = k
        · exact ⟨(k, v), List.mem_map.2 ⟨q, hq, by rw [if_pos h]⟩, h.symm⟩
        · exact ⟨q, List.mem_map.2 ⟨q, hq, by rw [if_neg h]⟩, rfl⟩
  · rw [if_neg hh]
    constructor
    · rintro ⟨p, hp, rfl⟩
      rw [List.mem_append, List.mem_singleton] at hp
      rcases hp with hp | rfl
      · exact .inr ⟨p, hp, rfl⟩
      · exact .inl rfl
    · rintro (rfl | ⟨q, hq, rfl⟩)
      · exact ⟨(k', v), List.mem_append.2 (.inr (by simp)), rfl⟩
      · exact ⟨q, List.mem_append.2 (.inl hq), rfl⟩
theorem nk_one {L : KL} (h : Nk L) {i j : Nat} (hi : i < L.length) (hj : j < L.length) (he : L[j].1 = L[i].1) : j = i := by
  rcases Nat.lt_trichotomy i j with h1 | h1 | h1
  · exact absurd he.symm (List.pairwise_iff_getElem.1 h i j hi hj h1)
  · exact h1.symm
  · exact absurd he (List.pairwise_iff_getElem.1 h j i hj hi h1)
theorem enc_at {L : KL} {j : Nat} {p : Value × D} (h : (encKL L)[j]? = some p) : ∃ hj : j < L.length, p = (keyV L[j].1, .v (.int .i64 L[j].2)) := by
  unfold encKL at h
  rw [List.getElem?_map] at h
  cases h2 : L[j]? with
  | none => rw [h2] at h; cases h
  | some q =>
    rw [h2] at h
    obtain ⟨hj, rfl⟩ := List.getElem?_eq_some_iff.1 h2
    exact ⟨hj, (Option.some.inj h).symm⟩
theorem enc_one {L : KL} (h : Nk L) {i : Nat} (hi : i < L.length) : ∀ (j : Nat) (p : Value × D), (encKL L)[j]? = some p → p.1 = keyV L[i].1 → j = i := fun j p hp he => by
  obtain ⟨hj, rfl⟩ := enc_at hp
  exact nk_one h hi hj (keyV_inj he)
theorem enc_no {L : KL} {k : ByteArray × Int} (h : ¬ hasL L k = true) : ∀ p ∈ encKL L, p.1 ≠ keyV k := fun p hp e => by
  unfold encKL at hp
  obtain ⟨q, hq, rfl⟩ := List.mem_map.1 hp
  exact h (hasL_iff.2 ⟨q, hq, keyV_inj e⟩)
theorem getL_at {L : KL} (h : Nk L) {i : Nat} (hi : i < L.length) : getL L L[i].1 = L[i].2 := by
  unfold getL
  cases hf : L.find? fun p => decide (p.1 = L[i].1) with
  | none =>
    have := List.find?_eq_none.1 hf _ (List.getElem_mem hi)
    simp at this
  | some q =>
    have h2 := List.find?_some hf
    simp only [decide_eq_true_eq] at h2
    obtain ⟨j, hj, rfl⟩ := List.mem_iff_getElem.1 (List.mem_of_find?_eq_some hf)
    have := nk_one h hi hj h2
    subst this
    rfl
theorem getL_no {L : KL} {k : ByteArray × Int} (h : ¬ hasL L k = true) : getL L k = 0 := by
  unfold getL
  cases hf : L.find? fun p => decide (p.1 = k) with
  | none => rfl
  | some q =>
    have h2 := List.find?_some hf
    simp only [decide_eq_true_eq] at h2
    exact absurd (hasL_iff.2 ⟨q, List.mem_of_find?_eq_some hf, h2⟩) h
theorem mput_enc {L : KL} (h : Nk L) (k : ByteArray × Int) (v : Int) : MPut (encKL L) (keyV k) (.v (.int .i64 v)) (encKL (putL L k v)) := by
  by_cases hh : hasL L k = true
  · obtain ⟨p, hp, rfl⟩ := hasL_iff.1 hh
    obtain ⟨i, hi, rfl⟩ := List.mem_iff_getElem.1 hp
    refine .inl ⟨i, .v (.int .i64 L[i].2), ?_, enc_one h hi, ?_⟩
    · unfold encKL; rw [List.getElem?_map, List.getElem?_eq_getElem hi]; rfl
    · unfold putL
      rw [if_pos hh]
      apply List.ext_getElem
      · simp [encKL]
      · intro j h1 h2
        have hj : j < L.length := by simpa [encKL] using h1
        rw [List.getElem_set]
        simp only [encKL, List.getElem_map]
        by_cases he : i = j
        · subst he; simp
        · have : ¬ L[j].1 = L[i].1 := fun e => he (nk_one h hi hj e).symm
          rw [if_neg he, if_neg this]
  · refine .inr ⟨enc_no hh, ?_⟩
    unfold putL
    rw [if_neg hh]
    simp [encKL]
theorem mget_enc {L : KL} (h : Nk L) (k : ByteArray × Int) : MGet (encKL L) (keyV k) (.v (.int .i64 0)) (.v (.int .i64 (getL L k))) := by
  by_cases hh : hasL L k = true
  · obtain ⟨p, hp, rfl⟩ := hasL_iff.1 hh
    obtain ⟨i, hi, rfl⟩ := List.mem_iff_getElem.1 hp
    refine .inl ⟨i, ?_, enc_one h hi⟩
    unfold encKL; rw [List.getElem?_map, List.getElem?_eq_getElem hi, getL_at h hi]; rfl
  · exact .inr ⟨enc_no hh, by rw [getL_no hh]⟩
theorem mgetok_enc {L : KL} (h : Nk L) (k : ByteArray × Int) : MGetOk (encKL L) (keyV k) (.v (.int .i64 0)) (.v (.int .i64 (getL L k))) (hasL L k) := by
  by_cases hh : hasL L k = true
  · obtain ⟨p, hp, hk⟩ := hasL_iff.1 hh
    obtain ⟨i, hi, rfl⟩ := List.mem_iff_getElem.1 hp
    subst hk
    refine .inl ⟨hh, i, ?_, enc_one h hi⟩
    unfold encKL; rw [List.getElem?_map, List.getElem?_eq_getElem hi, getL_at h hi]; rfl
  · exact .inr ⟨by simpa using hh, enc_no hh, by rw [getL_no hh]⟩


end Go.Proofs.YtekenfknoakboaaDoor


namespace Go.Proofs.YtekenfknoakboaaDoor
open Go.RowKit
set_option linter.unusedVariables false

/-! Types. -/
namespace TyM8
theorem ag_40 : AggT Tryd.prog 40 5 := .of (by kernel_rfl)
theorem bu_110 : StructT Tryd.prog 110 (fun i => (#[(0, 1), (1, 1)] : Array (Nat × Nat))[i]?) [(.string ⟨#[]⟩), (.int .i64 0)] := .of (by kernel_rfl) (by kernel_rfl) (by decide)
theorem et_22 : ElemTy Tryd.prog 22 40 5 64 (.agg #[(.string ⟨#[]⟩), (.int .i64 0), (.int .i64 0), (.int .i64 0), (.slice none 0 0)]) := ⟨by kernel_rfl, by kernel_rfl, by kernel_rfl, by decide⟩
theorem fo_40_0 : fieldOff Tryd.prog 40 0 = some 0 := by kernel_rfl
theorem fo_40_1 : fieldOff Tryd.prog 40 1 = some 1 := by kernel_rfl
theorem fo_40_3 : fieldOff Tryd.prog 40 3 = some 3 := by kernel_rfl
theorem sc_3 : Scal Tryd.prog 3 := .of (by kernel_rfl)
theorem sc_9 : Scal Tryd.prog 9 := .of (by kernel_rfl)
theorem sz_40 : ∀ w, (sizeOf 40).run Tryd.prog w = .ok 5 w := SizeT.of (by kernel_rfl)
theorem zt_40 : (Tryd.prog.info? 40).bind (·.zero) = some (.agg #[(.string ⟨#[]⟩), (.int .i64 0), (.int .i64 0), (.int .i64 0), (.slice none 0 0)]) := by kernel_rfl
end TyM8
open TyM8


def rk (R : KL) (x : Rpt) : Int := if 0 < x.corrects then (if hasL R (x.source, x.corrects) = true then getL R (x.source, x.corrects) else x.corrects) else x.no
def stepV (s : KL × KL) (x : Rpt) : KL × KL := (putL s.1 (x.source, x.no) (rk s.1 x), putL s.2 (x.source, rk s.1 x) x.no)
def stV (l : List Rpt) (k : Nat) : KL × KL := (l.take k).foldl stepV ([], [])
theorem stV_next {l : List Rpt} {k : Nat} (hk : k < l.length) : stV l (k + 1) = stepV (stV l k) l[k] := by
  unfold stV
  rw [List.take_add_one, List.getElem?_eq_getElem hk, Option.toList_some, List.foldl_append]; rfl
def rootR (l : List Rpt) (x : Rpt) : Int := getL (stV l l.length).1 (x.source, x.no)
def cntB (l : List Rpt) (x : Rpt) : Bool := decide (getL (stV l l.length).2 (x.source, rootR l x) = x.no)
/-- The reports that count. -/
def validR (l : List Rpt) : List Rpt := l.filter (cntB l)
def valR (l : List Rpt) : List Rpt := if logF l = 0 then validR l else []
/-- What may be a key. -/
def KyO (k : ByteArray × Int) : Prop := k.1.size ≤ maxLen ∧ -9223372036854775808 ≤ k.2 ∧ k.2 ≤ 9223372036854775807
structure InvV (s : KL × KL) : Prop where
  n1 : Nk s.1
  n2 : Nk s.2
  k1 : ∀ p ∈ s.1, KyO p.1 ∧ 0 ≤ p.2 ∧ p.2 ≤ 1000000
  k2 : ∀ p ∈ s.2, KyO p.1
theorem putL_mem {L : KL} {k : ByteArray × Int} {v : Int} {p : (ByteArray × Int) × Int} (h : p ∈ putL L k v) : p = (k, v) ∨ p ∈ L := by
  unfold putL at h
  by_cases hh : hasL L k = true
  · rw [if_pos hh] at h
    obtain ⟨q, hq, rfl⟩ := List.mem_map.1 h
    by_cases h2 : q.1 = k
    · rw [if_pos h2]; exact .inl rfl
    · rw [if_neg h2]; exact .inr hq
  · rw [if_neg hh, List.mem_append, List.mem_singleton] at h
    exact h.elim .inr .inl
theorem getL_bound {L : KL} (h : ∀ p ∈ L, KyO p.1 ∧ 0 ≤ p.2 ∧ p.2 ≤ 1000000) (k : ByteArray × Int) : 0 ≤ getL L k ∧ getL L k ≤ 1000000 := by
  unfold getL
  cases hf : L.find? fun p => decide (p.1 = k) with
  | none => simp
  | some q => have := h q (List.mem_of_find?_eq_some hf); exact this.2
theorem rpt_rng {x : Rpt} (h : rptF x = 0) : (1 ≤ x.no ∧ x.no ≤ 1000000) ∧ 0 ≤ x.corrects ∧ x.corrects ≤ x.no - 1 := by
  unfold rptF at h
  split at h
  · omega
  · split at h
    · omega
    · rename_i h2
      have := Decidable.not_not.1 h2
      exact ⟨this.1, this.2.2⟩
theorem rk_bound {s : KL × KL} (hI : InvV s) {x : Rpt} (h : rptF x = 0) : 0 ≤ rk s.1 x ∧ rk s.1 x ≤ 1000000 := by
  have h1 := rpt_rng h
  unfold rk
  split
  · split
    · exact getL_bound hI.k1 _
    · omega
  · omega
theorem kyo {x : Rpt} (ho : okRpt x) {n : Int} (h : 0 ≤ n ∧ n ≤ 1000000) : KyO (x.source, n) := ⟨ho.1, show -9223372036854775808 ≤ n by omega, show n ≤ 9223372036854775807 by omega⟩
theorem InvV.step {s : KL × KL} (hI : InvV s) {x : Rpt} (h : rptF x = 0) (ho : okRpt x) : InvV (stepV s x) := by
  have h1 := rpt_rng h
  have h2 := rk_bound hI h
  refine ⟨putL_nk hI.n1 _ _, putL_nk hI.n2 _ _, fun p hp => ?_, fun p hp => ?_⟩
  · rcases putL_mem hp with rfl | hp
    · exact ⟨kyo ho (by omega), h2⟩
    · exact hI.k1 p hp
  · rcases putL_mem hp with rfl | hp
    · exact kyo ho h2
    · exact hI.k2 p hp
theorem inv_st {l : List Rpt} (hl : Log l) (ho : ∀ x ∈ l, okRpt x) : ∀ k, k ≤ l.length → InvV (stV l k)
  | 0, _ => ⟨List.Pairwise.nil, List.Pairwise.nil, fun p hp => absurd hp List.not_mem_nil, fun p hp => absurd hp List.not_mem_nil⟩
  | k + 1, hk => by
    rw [stV_next (by omega)]
    exact (inv_st hl ho k (by omega)).step (hl.ok _ (List.getElem_mem _)) (ho _ (List.getElem_mem _))
theorem enc_ok {L : KL} (h : ∀ p ∈ L, KyO p.1) : ∀ p ∈ encKL L, ∃ l, keyOf Tryd.prog 110 p.1 = some l := fun p hp => by
  unfold encKL at hp
  obtain ⟨q, hq, rfl⟩ := List.mem_map.1 hp
  exact keyV_ok q.1 (h q hq).1 (h q hq).2
theorem InvV.e1 {s : KL × KL} (h : InvV s) : ∀ p ∈ encKL s.1, ∃ l, keyOf Tryd.prog 110 p.1 = some l := enc_ok fun p hp => (h.k1 p hp).1
theorem InvV.e2 {s : KL × KL} (h : InvV s) : ∀ p ∈ encKL s.2, ∃ l, keyOf Tryd.prog 110 p.1 = some l := enc_ok h.k2
theorem mtV : Tryd.prog.underlying 108 = some (.map 110 3) := by kernel_rfl
theorem ztV : (Tryd.prog.info? 3).bind (·.zero) = some (.int .i64 0) := by kernel_rfl
theorem maps_2 {i j : Nat} {a b c d : List (Value × D)} {τ : Obs} (h1 : a = b) (h2 : c = d) : ∀ p ∈ [(i, Ob.map b), (j, Ob.map d)], p ∈ (i, Ob.map a) :: (j, Ob.map c) :: τ := fun p hp => by
  subst h1; subst h2
  rcases List.mem_cons.1 hp with rfl | hp
  · exact .head _
  · rw [List.mem_singleton] at hp; subst hp; exact .tail _ (.head _)
theorem row_maps {i j m e s : Nat} {r r' : List (List D)} {a b : Ob} {τ : Obs} (h : r = r') : ∀ p ∈ [(m, Ob.row e s r'), (i, a), (j, b)], p ∈ (m, Ob.row e s r) :: (i, a) :: (j, b) :: τ := fun p hp => by
  subst h
  rcases List.mem_cons.1 hp with rfl | hp
  · exact .head _
  · rcases List.mem_cons.1 hp with rfl | hp
    · exact .tail _ (.head _)
    · rw [List.mem_singleton] at hp; subst hp; exact .tail _ (.tail _ (.head _))
theorem fil_yes {l : List Rpt} {p : Rpt → Bool} {k : Nat} (hk : k < l.length) (h : p l[k] = true) : ((l.take (k + 1)).filter p).map Rpt.ds = ((l.take k).filter p).map Rpt.ds ++ [l[k].ds] := by
  rw [List.take_add_one, List.getElem?_eq_getElem hk, Option.toList_some, List.filter_append, List.filter_cons, List.filter_nil, if_pos h, List.map_append]; rfl
theorem fil_no {l : List Rpt} {p : Rpt → Bool} {k : Nat} (hk : k < l.length) (h : p l[k] = false) : (l.take (k + 1)).filter p = (l.take k).filter p := by
  rw [List.take_add_one, List.getElem?_eq_getElem hk, Option.toList_some, List.filter_append, List.filter_cons, List.filter_nil, if_neg (by rw [h]; simp), List.append_nil]
theorem fil_len (l : List Rpt) (p : Rpt → Bool) (k : Nat) : ((l.take k).filter p).length ≤ k := Nat.le_trans (List.length_filter_le _ _) (by rw [List.length_take]; omega)


set_option maxRecDepth 100000 in
set_option maxHeartbeats 4000000 in
theorem c_pVal (l : List Rpt) (hl : Log l) (ho : ∀ x ∈ l, okRpt x) : ACall Tryd.prog 17 [.sl (l.map Rpt.ds)] (.sl ((validR l).map Rpt.ds)) := by
  refine acall_of (n := 82) (ds' := [.sl ((validR l).map Rpt.ds)]) Tryd.func17 rfl (by kernel_rfl) rfl [2] rfl rfl ?_
  intro B w0 F0 fr
  have hll := hl.len
  refine AWP.seq ?_
  refine AWP.region ?_
  refine AOps.step rfl rfl rfl (AOp.assignD rfl rfl) ?_
  refine AOps.nil ?_
  refine AWP.seq ?_
  refine AWP.region ?_
  refine AOps.makeMap 91 rfl rfl rfl rfl rfl ?_
  refine AOps.step rfl rfl rfl (AOp.assignO rfl rfl) ?_
  refine AOps.nil ?_
  refine AWP.seq ?_
  refine AWP.region ?_
  refine AOps.makeMap 92 rfl rfl rfl rfl rfl ?_
  refine AOps.step rfl rfl rfl (AOp.assignO rfl rfl) ?_
  refine AOps.nil ?_
  refine AWP.seq ?_
  refine AWP.seq ?_
  refine AWP.region ?_
  refine AOps.step rfl rfl rfl (AOp.moveD rfl rfl) ?_
  refine AOps.step rfl rfl rfl (AOp.lenSl rfl et_22.ht rfl) ?_
  refine AOps.step rfl rfl rfl (AOp.moveD rfl rfl) ?_
  refine AOps.nil ?_
  refine AWP.block ?_
  refine AWP.loop (G := Nat) (fun k => Env.of [(17, .d (.v (.int .i64 (k : Int)))), (15, .d (.sl (l.map Rpt.ds))), (16, .d (.v (.int .i64 ((l.map Rpt.ds).length : Int)))), (0, .d (.sl (l.map Rpt.ds))), (3, .own 91), (4, .own 92)]) (fun k => [(92, .map (encKL (stV l k).2)), (91, .map (encKL (stV l k).1))]) (fun k => k ≤ l.length) (fun k => l.length - k) 0 (Nat.zero_le _) (Sub.less ⟨(SLe.of_eq rfl), SLe.refl _, SLe.refl _, SLe.refl _, SLe.refl _, SLe.refl _, trivial⟩ (maps_2 rfl rfl)) ?_
  intro k hk
  refine AWP.seq ?_
  refine AWP.region ?_
  refine AOps.step rfl rfl rfl (AOp.lss rfl rfl rfl) ?_
  refine AOps.nil ?_
  refine AWP.seq ?_
  refine AWP.cond rfl (fun h1 => ?_) (fun h1 => ?_)
  · replace h1 := of_decide_eq_true h1
    rw [List.length_map] at h1
    have hlt : k < l.length := by omega
    have hI := inv_st hl ho k (by omega)
    have hrp := hl.ok _ (List.getElem_mem hlt)
    have hok := ho _ (List.getElem_mem hlt)
    have hrg := rpt_rng hrp
    have hrb := rk_bound hI hrp
    have hk1 := keyV_ok (l[k].source, l[k].no) (kyo hok (by omega)).1 (kyo hok (by omega)).2
    have hk2 := keyV_ok (l[k].source, rk (stV l k).1 l[k]) (kyo hok hrb).1 (kyo hok hrb).2
    have hk3 := keyV_ok (l[k].source, l[k].corrects) (kyo hok (by omega)).1 (kyo hok (by omega)).2
    have HS := stV_next hlt
    refine AWP.skip ?_
    refine AWP.seq ?_
    refine AWP.block ?_
    refine AWP.seq ?_
    refine AWP.region ?_
    refine AOps.step rfl rfl rfl (AOp.indexAddr rfl et_22 rfl rfl k rfl (at_lst hlt) rfl) ?_
    refine AOps.step rfl rfl rfl (AOp.loadAgg rfl ag_40 rfl rfl) ?_
    refine AOps.alloc 103 rfl rfl rfl rfl zt_40 rfl rfl rfl ?_
    refine AOps.store rfl rfl rfl sz_40 rfl (.head _) rfl rfl rfl (Nat.le_of_ble_eq_true rfl) ?_
    refine AOps.freezeCells 6 (ds := l[k].ds) rfl (.head _) ?_
    refine AOps.nil ?_
    refine AWP.seq ?_
    refine AWP.region ?_
    refine AOps.step rfl rfl rfl (AOp.fieldAddr rfl fo_40_1 rfl) ?_
    refine AOps.step rfl rfl rfl (AOp.load rfl sc_3 rfl) ?_
    refine AOps.step rfl rfl rfl (AOp.assignD rfl rfl) ?_
    refine AOps.nil ?_
    refine AWP.seq ?_
    refine AWP.seq ?_
    refine AWP.region ?_
    refine AOps.step rfl rfl rfl (AOp.fieldAddr rfl fo_40_3 rfl) ?_
    refine AOps.step rfl rfl rfl (AOp.load rfl sc_3 rfl) ?_
    refine AOps.step rfl rfl rfl (AOp.gtr rfl rfl rfl) ?_
    refine AOps.nil ?_
    refine AWP.cond rfl (fun h2 => ?_) (fun h2 => ?_)
    · replace h2 := of_decide_eq_true h2
      have hcp : 0 < l[k].corrects := by omega
      refine AWP.seq ?_
      refine AWP.region ?_
      refine AOps.step rfl rfl rfl (AOp.fieldAddr rfl fo_40_3 rfl) ?_
      refine AOps.step rfl rfl rfl (AOp.load rfl sc_3 rfl) ?_
      refine AOps.step rfl rfl rfl (AOp.assignD rfl rfl) ?_
      refine AOps.nil ?_
      refine AWP.seq ?_
      refine AWP.region ?_
      refine AOps.step rfl rfl rfl (AOp.moveO rfl rfl) ?_
      refine AOps.step rfl rfl rfl (AOp.fieldAddr rfl fo_40_0 rfl) ?_
      refine AOps.step rfl rfl rfl (AOp.load rfl sc_9 rfl) ?_
      refine AOps.step rfl rfl rfl (AOp.fieldAddr rfl fo_40_3 rfl) ?_
      refine AOps.step rfl rfl rfl (AOp.load rfl sc_3 rfl) ?_
      refine AOps.step rfl rfl rfl (AOp.build rfl bu_110 (.cons rfl rfl (.cons rfl rfl .nil)) rfl) ?_
      refine AOps.step rfl rfl rfl (AOp.lookupOkK (key := keyV (l[k].source, l[k].corrects)) (k1 := .string (l[k].source)) (k2 := .int .i64 (l[k].corrects)) rfl mtV kroot ztV rfl (.tail _ (.head _)) rfl rfl hk3 hI.e1 _ (mgetok_enc hI.n1 _)) ?_
      refine AOps.step rfl rfl rfl (AOp.moveD rfl rfl) ?_
      refine AOps.step rfl rfl rfl (AOp.extract rfl rfl rfl) ?_
      refine AOps.step rfl rfl rfl (AOp.extract rfl rfl rfl) ?_
      refine AOps.step rfl rfl rfl (AOp.assignD rfl rfl) ?_
      refine AOps.step rfl rfl rfl (AOp.assignD rfl rfl) ?_
      refine AOps.nil ?_
      refine AWP.seq ?_
      refine AWP.region ?_
      refine AOps.step rfl rfl rfl (AOp.moveD rfl rfl) ?_
      refine AOps.nil ?_
      refine AWP.cond rfl (fun h3 => ?_) (fun h3 => ?_)
      · skip
        have HK : getL (stV l k).1 (l[k].source, l[k].corrects) = rk (stV l k).1 l[k] := by unfold rk; rw [if_pos hcp, if_pos h3]
        refine AWP.region ?_
        refine AOps.step rfl rfl rfl (AOp.moveD rfl rfl) ?_
        refine AOps.step rfl rfl rfl (AOp.assignD rfl rfl) ?_
        refine AOps.nil ?_
        refine AWP.seq ?_
        refine AWP.region ?_
        refine AOps.step rfl rfl rfl (AOp.moveO rfl rfl) ?_
        refine AOps.step rfl rfl rfl (AOp.fieldAddr rfl fo_40_0 rfl) ?_
        refine AOps.step rfl rfl rfl (AOp.load rfl sc_9 rfl) ?_
        refine AOps.step rfl rfl rfl (AOp.fieldAddr rfl fo_40_1 rfl) ?_
        refine AOps.step rfl rfl rfl (AOp.load rfl sc_3 rfl) ?_
        refine AOps.step rfl rfl rfl (AOp.build rfl bu_110 (.cons rfl rfl (.cons rfl rfl .nil)) rfl) ?_
        refine AOps.step rfl rfl rfl (AOp.moveD rfl rfl) ?_
        refine AOps.le 46 (s' := .d (.v (.int .i64 (rk (stV l k).1 l[k])))) rfl (SLe.i64 HK) ?_
        refine AOps.eff rfl rfl (EOp.mapUpdateK (key := keyV (l[k].source, l[k].no)) (k1 := .string (l[k].source)) (k2 := .int .i64 (l[k].no)) rfl rfl mtV kroot rfl (.tail _ (.head _)) rfl rfl rfl hk1 hI.e1 (mput_enc hI.n1 _ _)) ?_
        refine AOps.nil ?_
        refine AWP.region ?_
        refine AOps.step rfl rfl rfl (AOp.moveO rfl rfl) ?_
        refine AOps.step rfl rfl rfl (AOp.fieldAddr rfl fo_40_0 rfl) ?_
        refine AOps.step rfl rfl rfl (AOp.load rfl sc_9 rfl) ?_
        refine AOps.step rfl rfl rfl (AOp.moveD rfl rfl) ?_
        refine AOps.le 50 (s' := .d (.v (.int .i64 (rk (stV l k).1 l[k])))) rfl (SLe.i64 HK) ?_
        refine AOps.step rfl rfl rfl (AOp.build rfl bu_110 (.cons rfl rfl (.cons rfl rfl .nil)) rfl) ?_
        refine AOps.step rfl rfl rfl (AOp.fieldAddr rfl fo_40_1 rfl) ?_
        refine AOps.step rfl rfl rfl (AOp.load rfl sc_3 rfl) ?_
        refine AOps.eff rfl rfl (EOp.mapUpdateK (key := keyV (l[k].source, rk (stV l k).1 l[k])) (k1 := .string (l[k].source)) (k2 := .int .i64 (rk (stV l k).1 l[k])) rfl rfl mtV kroot rfl (.head _) rfl rfl rfl hk2 hI.e2 (mput_enc hI.n2 _ _)) ?_
        refine AOps.nil ?_
        refine AWP.region ?_
        refine AOps.step rfl rfl rfl (AOp.add64 rfl rfl rfl (by omega) (by omega)) ?_
        refine AOps.step rfl rfl rfl (AOp.moveD rfl rfl) ?_
        refine AOps.nil ?_
        refine ⟨k + 1, (by omega), (by dsimp only; omega), Sub.less ⟨(SLe.of_eq rfl), SLe.refl _, SLe.refl _, SLe.refl _, SLe.refl _, SLe.refl _, trivial⟩ (maps_2 (by rw [HS]; rfl) (by rw [HS]; rfl))⟩
      · skip
        have HK : l[k].corrects = rk (stV l k).1 l[k] := by unfold rk; rw [if_pos hcp, if_neg (by rw [h3]; simp)]
        refine AWP.skip ?_
        refine AWP.seq ?_
        refine AWP.region ?_
        refine AOps.step rfl rfl rfl (AOp.moveO rfl rfl) ?_
        refine AOps.step rfl rfl rfl (AOp.fieldAddr rfl fo_40_0 rfl) ?_
        refine AOps.step rfl rfl rfl (AOp.load rfl sc_9 rfl) ?_
        refine AOps.step rfl rfl rfl (AOp.fieldAddr rfl fo_40_1 rfl) ?_
        refine AOps.step rfl rfl rfl (AOp.load rfl sc_3 rfl) ?_
        refine AOps.step rfl rfl rfl (AOp.build rfl bu_110 (.cons rfl rfl (.cons rfl rfl .nil)) rfl) ?_
        refine AOps.step rfl rfl rfl (AOp.moveD rfl rfl) ?_
        refine AOps.le 46 (s' := .d (.v (.int .i64 (rk (stV l k).1 l[k])))) rfl (SLe.i64 HK) ?_
        refine AOps.eff rfl rfl (EOp.mapUpdateK (key := keyV (l[k].source, l[k].no)) (k1 := .string (l[k].source)) (k2 := .int .i64 (l[k].no)) rfl rfl mtV kroot rfl (.tail _ (.head _)) rfl rfl rfl hk1 hI.e1 (mput_enc hI.n1 _ _)) ?_
        refine AOps.nil ?_
        refine AWP.region ?_
        refine AOps.step rfl rfl rfl (AOp.moveO rfl rfl) ?_
        refine AOps.step rfl rfl rfl (AOp.fieldAddr rfl fo_40_0 rfl) ?_
        refine AOps.step rfl rfl rfl (AOp.load rfl sc_9 rfl) ?_
        refine AOps.step rfl rfl rfl (AOp.moveD rfl rfl) ?_
        refine AOps.le 50 (s' := .d (.v (.int .i64 (rk (stV l k).1 l[k])))) rfl (SLe.i64 HK) ?_
        refine AOps.step rfl rfl rfl (AOp.build rfl bu_110 (.cons rfl rfl (.cons rfl rfl .nil)) rfl) ?_
        refine AOps.step rfl rfl rfl (AOp.fieldAddr rfl fo_40_1 rfl) ?_
        refine AOps.step rfl rfl rfl (AOp.load rfl sc_3 rfl) ?_
        refine AOps.eff rfl rfl (EOp.mapUpdateK (key := keyV (l[k].source, rk (stV l k).1 l[k])) (k1 := .string (l[k].source)) (k2 := .int .i64 (rk (stV l k).1 l[k])) rfl rfl mtV kroot rfl (.head _) rfl rfl rfl hk2 hI.e2 (mput_enc hI.n2 _ _)) ?_
        refine AOps.nil ?_
        refine AWP.region ?_
        refine AOps.step rfl rfl rfl (AOp.add64 rfl rfl rfl (by omega) (by omega)) ?_
        refine AOps.step rfl rfl rfl (AOp.moveD rfl rfl) ?_
        refine AOps.nil ?_
        refine ⟨k + 1, (by omega), (by dsimp only; omega), Sub.less ⟨(SLe.of_eq rfl), SLe.refl _, SLe.refl _, SLe.refl _, SLe.refl _, SLe.refl _, trivial⟩ (maps_2 (by rw [HS]; rfl) (by rw [HS]; rfl))⟩
    · replace h2 := of_decide_eq_false h2
      have HK : l[k].no = rk (stV l k).1 l[k] := by unfold rk; rw [if_neg (by omega)]
      refine AWP.skip ?_
      refine AWP.seq ?_
      refine AWP.region ?_
      refine AOps.step rfl rfl rfl (AOp.moveO rfl rfl) ?_
      refine AOps.step rfl rfl rfl (AOp.fieldAddr rfl fo_40_0 rfl) ?_
      refine AOps.step rfl rfl rfl (AOp.load rfl sc_9 rfl) ?_
      refine AOps.step rfl rfl rfl (AOp.fieldAddr rfl fo_40_1 rfl) ?_
      refine AOps.step rfl rfl rfl (AOp.load rfl sc_3 rfl) ?_
      refine AOps.step rfl rfl rfl (AOp.build rfl bu_110 (.cons rfl rfl (.cons rfl rfl .nil)) rfl) ?_
      refine AOps.step rfl rfl rfl (AOp.moveD rfl rfl) ?_
      refine AOps.le 46 (s' := .d (.v (.int .i64 (rk (stV l k).1 l[k])))) rfl (SLe.i64 HK) ?_
      refine AOps.eff rfl rfl (EOp.mapUpdateK (key := keyV (l[k].source, l[k].no)) (k1 := .string (l[k].source)) (k2 := .int .i64 (l[k].no)) rfl rfl mtV kroot rfl (.tail _ (.head _)) rfl rfl rfl hk1 hI.e1 (mput_enc hI.n1 _ _)) ?_
      refine AOps.nil ?_
      refine AWP.region ?_
      refine AOps.step rfl rfl rfl (AOp.moveO rfl rfl) ?_
      refine AOps.step rfl rfl rfl (AOp.fieldAddr rfl fo_40_0 rfl) ?_
      refine AOps.step rfl rfl rfl (AOp.load rfl sc_9 rfl) ?_
      refine AOps.step rfl rfl rfl (AOp.moveD rfl rfl) ?_
      refine AOps.le 50 (s' := .d (.v (.int .i64 (rk (stV l k).1 l[k])))) rfl (SLe.i64 HK) ?_
      refine AOps.step rfl rfl rfl (AOp.build rfl bu_110 (.cons rfl rfl (.cons rfl rfl .nil)) rfl) ?_
      refine AOps.step rfl rfl rfl (AOp.fieldAddr rfl fo_40_1 rfl) ?_
      refine AOps.step rfl rfl rfl (AOp.load rfl sc_3 rfl) ?_
      refine AOps.eff rfl rfl (EOp.mapUpdateK (key := keyV (l[k].source, rk (stV l k).1 l[k])) (k1 := .string (l[k].source)) (k2 := .int .i64 (rk (stV l k).1 l[k])) rfl rfl mtV kroot rfl (.head _) rfl rfl rfl hk2 hI.e2 (mput_enc hI.n2 _ _)) ?_
      refine AOps.nil ?_
      refine AWP.region ?_
      refine AOps.step rfl rfl rfl (AOp.add64 rfl rfl rfl (by omega) (by omega)) ?_
      refine AOps.step rfl rfl rfl (AOp.moveD rfl rfl) ?_
      refine AOps.nil ?_
      refine ⟨k + 1, (by omega), (by dsimp only; omega), Sub.less ⟨(SLe.of_eq rfl), SLe.refl _, SLe.refl _, SLe.refl _, SLe.refl _, SLe.refl _, trivial⟩ (maps_2 (by rw [HS]; rfl) (by rw [HS]; rfl))⟩
  · replace h1 := of_decide_eq_false h1
    rw [List.length_map] at h1
    obtain rfl : k = l.length := by omega
    have hI := inv_st hl ho l.length (Nat.le_refl _)
    refine AWP.exit ?_
    refine AWP.seq ?_
    refine AWP.region ?_
    refine AOps.step rfl rfl rfl (AOp.assignD rfl rfl) ?_
    refine AOps.nil ?_
    refine AWP.seq ?_
    refine AWP.seq ?_
    refine AWP.region ?_
    refine AOps.step rfl rfl rfl (AOp.moveD rfl rfl) ?_
    refine AOps.step rfl rfl rfl (AOp.lenSl rfl et_22.ht rfl) ?_
    refine AOps.step rfl rfl rfl (AOp.moveD rfl rfl) ?_
    refine AOps.nil ?_
    refine AWP.block ?_
    refine AWP.adopt 10 61 40 5 rfl rfl ?_
    refine AWP.loop (G := Nat) (fun j => Env.of [(57, .d (.v (.int .i64 (j : Int)))), (55, .d (.sl (l.map Rpt.ds))), (56, .d (.v (.int .i64 ((l.map Rpt.ds).length : Int)))), (3, .own 91), (4, .own 92), (10, .own 61)]) (fun j => [(61, .row 40 5 (((l.take j).filter (cntB l)).map Rpt.ds)), (92, .map (encKL (stV l l.length).2)), (91, .map (encKL (stV l l.length).1))]) (fun j => j ≤ l.length) (fun j => l.length - j) 0 (Nat.zero_le _) (Sub.less ⟨(SLe.of_eq rfl), SLe.refl _, SLe.refl _, SLe.refl _, SLe.refl _, SLe.refl _, trivial⟩ (row_maps rfl)) ?_
    intro j hj
    refine AWP.seq ?_
    refine AWP.region ?_
    refine AOps.step rfl rfl rfl (AOp.lss rfl rfl rfl) ?_
    refine AOps.nil ?_
    refine AWP.seq ?_
    refine AWP.cond rfl (fun h4 => ?_) (fun h4 => ?_)
    · replace h4 := of_decide_eq_true h4
      rw [List.length_map] at h4
      have hjl : j < l.length := by omega
      have hrp := hl.ok _ (List.getElem_mem hjl)
      have hok := ho _ (List.getElem_mem hjl)
      have hrg := rpt_rng hrp
      have hk1 := keyV_ok (l[j].source, l[j].no) (kyo hok (by omega)).1 (kyo hok (by omega)).2
      have hgb := getL_bound hI.k1 (l[j].source, l[j].no)
      have hk2 := keyV_ok (l[j].source, getL (stV l l.length).1 (l[j].source, l[j].no)) (kyo hok hgb).1 (kyo hok hgb).2
      have hfl := fil_len l (cntB l) j
      refine AWP.skip ?_
      refine AWP.seq ?_
      refine AWP.block ?_
      refine AWP.seq ?_
      refine AWP.region ?_
      refine AOps.step rfl rfl rfl (AOp.indexAddr rfl et_22 rfl rfl j rfl (at_lst hjl) rfl) ?_
      refine AOps.step rfl rfl rfl (AOp.loadAgg rfl ag_40 rfl rfl) ?_
      refine AOps.alloc 104 rfl rfl rfl rfl zt_40 rfl rfl rfl ?_
      refine AOps.store rfl rfl rfl sz_40 rfl (.head _) rfl rfl rfl (Nat.le_of_ble_eq_true rfl) ?_
      refine AOps.freezeCells 12 (ds := l[j].ds) rfl (.head _) ?_
      refine AOps.nil ?_
      refine AWP.seq ?_
      refine AWP.draw (by kernel_rfl) (by kernel_rfl) ?_
      refine DRun.step rfl rfl rfl (AOp.moveO rfl rfl) ?_
      refine DRun.step rfl rfl rfl (AOp.fieldAddr rfl fo_40_0 rfl) ?_
      refine DRun.step rfl rfl rfl (AOp.load rfl sc_9 rfl) ?_
      refine DRun.step rfl rfl rfl (AOp.moveO rfl rfl) ?_
      refine DRun.step rfl rfl rfl (AOp.fieldAddr rfl fo_40_0 rfl) ?_
      refine DRun.step rfl rfl rfl (AOp.load rfl sc_9 rfl) ?_
      refine DRun.step rfl rfl rfl (AOp.fieldAddr rfl fo_40_1 rfl) ?_
      refine DRun.step rfl rfl rfl (AOp.load rfl sc_3 rfl) ?_
      refine DRun.step rfl rfl rfl (AOp.build rfl bu_110 (.cons rfl rfl (.cons rfl rfl .nil)) rfl) ?_
      refine DRun.step rfl rfl rfl (AOp.lookupK (key := keyV (l[j].source, l[j].no)) (k1 := .string (l[j].source)) (k2 := .int .i64 (l[j].no)) rfl mtV kroot ztV rfl (.tail _ (.tail _ (.head _))) rfl rfl hk1 hI.e1 (mget_enc hI.n1 _)) ?_
      refine DRun.step rfl rfl rfl (AOp.build rfl bu_110 (.cons rfl rfl (.cons rfl rfl .nil)) rfl) ?_
      refine DRun.step rfl rfl rfl (AOp.lookupK (key := keyV (l[j].source, getL (stV l l.length).1 (l[j].source, l[j].no))) (k1 := .string (l[j].source)) (k2 := .int .i64 (getL (stV l l.length).1 (l[j].source, l[j].no))) rfl mtV kroot ztV rfl (.tail _ (.head _)) rfl rfl hk2 hI.e2 (mget_enc hI.n2 _)) ?_
      refine DRun.step rfl rfl rfl (AOp.fieldAddr rfl fo_40_1 rfl) ?_
      refine DRun.step rfl rfl rfl (AOp.load rfl sc_3 rfl) ?_
      refine DRun.step rfl rfl rfl (AOp.eql rfl rfl rfl) ?_
      refine DRun.nil ?_
      refine AWP.cond rfl (fun h5 => ?_) (fun h5 => ?_)
      · replace h5 := of_decide_eq_true h5
        have HN := fil_yes hjl (show cntB l l[j] = true from decide_eq_true h5)
        refine AWP.region ?_
        refine AOps.step rfl rfl rfl (AOp.moveO rfl rfl) ?_
        refine AOps.step rfl rfl rfl (AOp.loadAgg rfl ag_40 rfl rfl) ?_
        refine AOps.step rfl rfl rfl (AOp.buildSlice rfl et_22 (.cons rfl rfl rfl .nil) rfl (by decide)) ?_
        -- append 79
        refine AOps.append rfl rfl rfl rfl et_22 rfl (.head _) rfl (fun y hy => by obtain rfl := List.mem_singleton.1 hy; rfl) (by simp; omega) (by simp; omega) ?_
        refine AOps.step rfl rfl rfl (AOp.assignO rfl rfl) ?_
        refine AOps.nil ?_
        refine AWP.region ?_
        refine AOps.step rfl rfl rfl (AOp.add64 rfl rfl rfl (by omega) (by omega)) ?_
        refine AOps.step rfl rfl rfl (AOp.moveD rfl rfl) ?_
        refine AOps.nil ?_
        refine ⟨j + 1, (by dsimp only; omega), (by dsimp only; omega), Sub.less ⟨(SLe.of_eq rfl), SLe.refl _, SLe.refl _, SLe.refl _, SLe.refl _, SLe.refl _, trivial⟩ (row_maps (by rw [HN]; first | done | rfl))⟩
      · replace h5 := of_decide_eq_false h5
        have HN := fil_no hjl (show cntB l l[j] = false from decide_eq_false h5)
        refine AWP.skip ?_
        refine AWP.region ?_
        refine AOps.step rfl rfl rfl (AOp.add64 rfl rfl rfl (by omega) (by omega)) ?_
        refine AOps.step rfl rfl rfl (AOp.moveD rfl rfl) ?_
        refine AOps.nil ?_
        refine ⟨j + 1, (by dsimp only; omega), (by dsimp only; omega), Sub.less ⟨(SLe.of_eq rfl), SLe.refl _, SLe.refl _, SLe.refl _, SLe.refl _, SLe.refl _, trivial⟩ (row_maps (by rw [HN]; first | done | rfl))⟩
    · replace h4 := of_decide_eq_false h4
      rw [List.length_map] at h4
      obtain rfl : j = l.length := by omega
      rw [List.take_length]
      refine AWP.exit ?_
      refine AWP.seq ?_
      refine AWP.region ?_
      refine AOps.step rfl rfl rfl (AOp.moveO rfl rfl) ?_
      refine AOps.step rfl rfl rfl (AOp.assignO rfl rfl) ?_
      refine AOps.nil ?_
      refine AWP.ret ?_
      refine ⟨RetD.own rfl (.head _) ?_, trivial⟩
      all_goals (rfl)

end Go.Proofs.YtekenfknoakboaaDoor


namespace Go.Proofs.YtekenfknoakboaaDoor
open Go.RowKit
set_option linter.unusedVariables false

/-! Types. -/
namespace TyM9

end TyM9
open TyM9


theorem gd {l : List Rpt} {j : Nat} (h : j < l.length) : l.getD j default = l[j] := by rw [List.getD_eq_getElem?_getD, List.getElem?_eq_getElem h]; rfl
/-- Does x correct y? -/
def mtB (x y : Rpt) : Bool := decide (y.source = x.source) && decide (y.no = x.corrects)
def upTo (l : List Rpt) (x : Rpt) : Nat → Int
  | 0 => -1
  | k + 1 => if mtB x (l.getD k default) = true then (k : Int) else upTo l x k
def upX (l : List Rpt) (x : Rpt) : Int := upTo l x l.length
def rootA (l : List Rpt) : Nat → Rpt → Int
  | 0, x => x.no
  | n + 1, x => if x.corrects = 0 then x.no else if upX l x < 0 then x.corrects else rootA l n (l.getD (upX l x).toNat default)
def rootQ (l : List Rpt) (x : Rpt) : Int := rootA l (l.length + 1) x
theorem upTo_some {l : List Rpt} {x : Rpt} : ∀ k, (upTo l x k = -1 ∧ ∀ j, j < k → mtB x (l.getD j default) = false) ∨ ∃ j, j < k ∧ upTo l x k = j ∧ mtB x (l.getD j default) = true
  | 0 => .inl ⟨rfl, fun j h => by omega⟩
  | k + 1 => by
    unfold upTo
    by_cases h : mtB x (l.getD k default) = true
    · rw [if_pos h]; exact .inr ⟨k, by omega, rfl, h⟩
    · rw [if_neg h]
      rcases upTo_some k with ⟨h1, h2⟩ | ⟨j, h1, h2, h3⟩
      · refine .inl ⟨h1, fun j hj => ?_⟩
        by_cases e : j = k
        · subst e; simpa using h
        · exact h2 j (by omega)
      · exact .inr ⟨j, by omega, h2, h3⟩
theorem up_cases {l : List Rpt} (x : Rpt) : (upX l x < 0 ∧ ∀ j, (h : j < l.length) → mtB x l[j] = false) ∨ ∃ j, ∃ h : j < l.length, upX l x = j ∧ mtB x l[j] = true := by
  unfold upX
  rcases upTo_some (l := l) (x := x) l.length with ⟨h1, h2⟩ | ⟨j, h1, h2, h3⟩
  · exact .inl ⟨by omega, fun j h => by rw [← gd h]; exact h2 j h⟩
  · exact .inr ⟨j, h1, h2, by rw [← gd h1]; exact h3⟩
theorem mt_key {x y : Rpt} (h : mtB x y = true) : y.source = x.source ∧ y.no = x.corrects := by unfold mtB at h; simpa using h
theorem corr_lt {l : List Rpt} (hl : Log l) {i j : Nat} (hi : i < l.length) (hj : j < l.length) (hm : mtB l[i] l[j] = true) : j < i := by
  have h1 := mt_key hm
  have h2 := rpt_rng (hl.ok _ (List.getElem_mem hi))
  have h3 : ltR l[j] l[i] = true := (ltR_iff _ _).2 (.inr ⟨h1.1, by omega⟩)
  rcases Nat.lt_trichotomy j i with h | h | h
  · exact h
  · subst h; rw [ltR_irr] at h3; cases h3
  · have := ltR_trans h3 (List.pairwise_iff_getElem.1 hl.rise i j hi hj h)
    rw [ltR_irr] at this; cases this
theorem root_fuel {l : List Rpt} (hl : Log l) : ∀ m i, i ≤ m → (hi : i < l.length) → ∀ n, i + 1 ≤ n → rootA l n l[i] = rootA l (i + 1) l[i] := by
  intro m
  induction m with
  | zero =>
    intro i him hi n hn
    obtain ⟨n, rfl⟩ : ∃ k, n = k + 1 := ⟨n - 1, by omega⟩
    unfold rootA
    by_cases h0 : l[i].corrects = 0
    · rw [if_pos h0, if_pos h0]
    · rw [if_neg h0, if_neg h0]
      rcases up_cases (l := l) l[i] with ⟨h1, _⟩ | ⟨j, hj, h1, h2⟩
      · rw [if_pos h1, if_pos h1]
      · have := corr_lt hl hi hj h2
        omega
  | succ m ih =>
    intro i him hi n hn
    obtain ⟨n, rfl⟩ : ∃ k, n = k + 1 := ⟨n - 1, by omega⟩
    rw [rootA, rootA]
    by_cases h0 : l[i].corrects = 0
    · rw [if_pos h0, if_pos h0]
    · rw [if_neg h0, if_neg h0]
      rcases up_cases (l := l) l[i] with ⟨h1, _⟩ | ⟨j, hj, h1, h2⟩
      · rw [if_pos h1, if_pos h1]
      · have hlt := corr_lt hl hi hj h2
        rw [if_neg (by omega), if_neg (by omega), h1, Int.toNat_natCast, gd hj, ih j (by omega) hj n (by omega), ih j (by omega) hj i (by omega)]
theorem root_rec {l : List Rpt} (hl : Log l) {i : Nat} (hi : i < l.length) : (l[i].corrects = 0 ∧ rootQ l l[i] = l[i].no) ∨ (l[i].corrects ≠ 0 ∧ (∀ j, (h : j < l.length) → mtB l[i] l[j] = false) ∧ rootQ l l[i] = l[i].corrects) ∨ (l[i].corrects ≠ 0 ∧ ∃ j, ∃ h : j < l.length, j < i ∧ mtB l[i] l[j] = true ∧ rootQ l l[i] = rootQ l l[j]) := by
  by_cases h0 : l[i].corrects = 0
  · exact .inl ⟨h0, by unfold rootQ rootA; exact if_pos h0⟩
  · rcases up_cases (l := l) l[i] with ⟨h1, h2⟩ | ⟨j, hj, h1, h2⟩
    · exact .inr (.inl ⟨h0, h2, by unfold rootQ rootA; rw [if_neg h0, if_pos h1]⟩)
    · have hlt := corr_lt hl hi hj h2
      refine .inr (.inr ⟨h0, j, hj, hlt, h2, ?_⟩)
      unfold rootQ
      rw [rootA, if_neg h0, if_neg (by omega), h1, Int.toNat_natCast, gd hj, root_fuel hl j j (Nat.le_refl _) hj l.length (by omega), ← root_fuel hl j j (Nat.le_refl _) hj (l.length + 1) (by omega)]
structure StI (l : List Rpt) (k : Nat) : Prop where
  has : ∀ s n, hasL (stV l k).1 (s, n) = true ↔ ∃ j, ∃ h : j < l.length, j < k ∧ l[j].source = s ∧ l[j].no = n
  get : ∀ j, (h : j < l.length) → j < k → getL (stV l k).1 (l[j].source, l[j].no) = rootQ l l[j]
theorem rk_root {l : List Rpt} (hl : Log l) {k : Nat} (hk : k < l.length) (h : StI l k) : rk (stV l k).1 l[k] = rootQ l l[k] := by
  have hr := rpt_rng (hl.ok _ (List.getElem_mem hk))
  unfold rk
  rcases root_rec hl hk with ⟨h0, h1⟩ | ⟨h0, h1, h2⟩ | ⟨h0, j, hj, hjk, hm, h2⟩
  · rw [if_neg (by omega), h1]
  · rw [if_pos (by omega), if_neg, h2]
    intro hh
    obtain ⟨j, hj, hjk, e1, e2⟩ := (h.has _ _).1 hh
    have := h1 j hj
    unfold mtB at this
    rw [decide_eq_true e1, decide_eq_true e2] at this
    cases this
  · have hkey := mt_key hm
    rw [if_pos (by omega), if_pos ((h.has _ _).2 ⟨j, hj, hjk, hkey.1, hkey.2⟩), h2, ← h.get j hj hjk, hkey.1, hkey.2]
theorem key_one {l : List Rpt} (hl : Log l) {i j : Nat} (hi : i < l.length) (hj : j < l.length) (h1 : l[j].source = l[i].source) (h2 : l[j].no = l[i].no) : j = i := by
  have hs : sameK l[j] l[i] = true := sameK_iff.2 ⟨h1, h2⟩
  rcases Nat.lt_trichotomy i j with h | h | h
  · have := List.pairwise_iff_getElem.1 (rise_dist hl.rise) i j hi hj h
    rw [sameK_symm hs] at this; cases this
  · exact h.symm
  · have := List.pairwise_iff_getElem.1 (rise_dist hl.rise) j i hj hi h
    rw [hs] at this; cases this
theorem st_inv {l : List Rpt} (hl : Log l) : ∀ k, k ≤ l.length → StI l k
  | 0, _ => ⟨fun s n => ⟨fun h => by unfold stV hasL at h; simp at h, fun ⟨j, _, h, _⟩ => by omega⟩, fun j _ h => by omega⟩
  | k + 1, hk => by
    have ih := st_inv hl k (by omega)
    have hr := rk_root hl (show k < l.length by omega) ih
    have hs := stV_next (l := l) (k := k) (by omega)
    constructor
    · intro s n
      rw [hs]
      show hasL (putL _ _ _) _ = true ↔ _
      rw [has_put, Bool.or_eq_true, decide_eq_true_eq, ih.has]
      constructor
      · rintro (h | ⟨j, hj, h1, h2⟩)
        · have e1 := congrArg Prod.fst h
          have e2 := congrArg Prod.snd h
          exact ⟨k, by omega, by omega, e1.symm, e2.symm⟩
        · exact ⟨j, hj, by omega, h2⟩
      · rintro ⟨j, hj, h1, h2, h3⟩
        by_cases e : j = k
        · subst e; exact .inl (Prod.ext h2.symm h3.symm)
        · exact .inr ⟨j, hj, by omega, h2, h3⟩
    · intro j hj hjk
      rw [hs]
      show getL (putL _ _ _) _ = _
      rw [get_put]
      by_cases e : j = k
      · subst e; rw [if_pos rfl, hr]
      · rw [if_neg, ih.get j hj (by omega)]
        intro h
        have e1 := congrArg Prod.fst h
        have e2 := congrArg Prod.snd h
        exact e (key_one hl (show k < l.length by omega) hj e1 e2)
def sameG (l : List Rpt) (i j : Nat) : Bool := decide ((l.getD j default).source = (l.getD i default).source) && decide (rootQ l (l.getD j default) = rootQ l (l.getD i default))
theorem root_at {l : List Rpt} (hl : Log l) {i : Nat} (hi : i < l.length) : rootR l l[i] = rootQ l l[i] := (st_inv hl l.length (Nat.le_refl _)).get i hi hi
theorem last_iff {l : List Rpt} (hl : Log l) {i : Nat} (hi : i < l.length) : ∀ n, i < n → n ≤ l.length → (getL (stV l n).2 (l[i].source, rootQ l l[i]) = l[i].no ↔ ∀ j, i < j → j < n → sameG l i j = false)
  | 0, h, _ => by omega
  | n + 1, h, hn => by
    have hr := rk_root hl (show n < l.length by omega) (st_inv hl n (by omega))
    rw [stV_next (show n < l.length by omega)]
    show getL (putL _ _ _) _ = _ ↔ _
    rw [get_put, hr]
    by_cases e : i = n
    · subst e
      rw [if_pos rfl]
      exact ⟨fun _ j h1 h2 => by omega, fun _ => rfl⟩
    · have ih := last_iff hl hi n (by omega) (by omega)
      have hg : sameG l i n = (decide (l[n].source = l[i].source) && decide (rootQ l l[n] = rootQ l l[i])) := by unfold sameG; rw [gd (show n < l.length by omega), gd hi]
      by_cases h2 : (l[i].source, rootQ l l[i]) = (l[n].source, rootQ l l[n])
      · have e1 := congrArg Prod.fst h2
        have e2 := congrArg Prod.snd h2
        dsimp only at e1 e2
        rw [if_pos h2]
        constructor
        · intro h3
          exact absurd (key_one hl hi (show n < l.length by omega) e1.symm h3) (fun hh => e hh.symm)
        · intro h3
          have := h3 n (by omega) (by omega)
          rw [hg, decide_eq_true e1.symm, decide_eq_true e2.symm] at this
          cases this
      · rw [if_neg h2, ih]
        constructor
        · intro h3 j hj1 hj2
          by_cases hj : j = n
          · subst hj
            rw [hg]
            cases hb : decide (l[j].source = l[i].source) with
            | false => rfl
            | true =>
              rw [Bool.true_and]
              exact decide_eq_false fun hh => h2 (Prod.ext (of_decide_eq_true hb).symm hh.symm)
          · exact h3 j hj1 (by omega)
        · exact fun h3 j hj1 hj2 => h3 j hj1 (by omega)
def okI (l : List Rpt) (i m : Nat) : Bool := (List.range m).all fun t => !(sameG l i (i + 1 + t))
theorem cnt_ok {l : List Rpt} (hl : Log l) {i : Nat} (hi : i < l.length) : cntB l l[i] = okI l i (l.length - (i + 1)) := by
  rw [Bool.eq_iff_iff]
  unfold cntB okI
  rw [decide_eq_true_eq, root_at hl hi, last_iff hl hi l.length hi (Nat.le_refl _), List.all_eq_true]
  constructor
  · intro h t ht
    rw [h (i + 1 + t) (by omega) (by have := List.mem_range.1 ht; omega)]; rfl
  · intro h j h1 h2
    have := h (j - (i + 1)) (List.mem_range.2 (by omega))
    rw [show i + 1 + (j - (i + 1)) = j by omega] at this
    simpa using this
def outV (l : List Rpt) (k : Nat) : List Rpt := ((List.range k).filter fun i => okI l i (l.length - (i + 1))).map fun i => l.getD i default
theorem outV_yes {l : List Rpt} {k : Nat} (hk : k < l.length) (h : okI l k (l.length - (k + 1)) = true) : (outV l (k + 1)).map Rpt.ds = (outV l k).map Rpt.ds ++ [l[k].ds] := by
  unfold outV
  rw [List.range_succ, List.filter_append, List.filter_cons, List.filter_nil, if_pos h, List.map_append, List.map_append]
  show _ ++ [(l.getD k default).ds] = _
  rw [gd hk]
theorem outV_no {l : List Rpt} {k : Nat} (h : okI l k (l.length - (k + 1)) = false) : outV l (k + 1) = outV l k := by
  unfold outV
  rw [List.range_succ, List.filter_append, List.filter_cons, List.filter_nil, if_neg (by rw [h]; simp), List.append_nil]
theorem outV_len (l : List Rpt) (k : Nat) : (outV l k).length ≤ k := by
  unfold outV
  rw [List.length_map]
  refine Nat.le_trans (List.length_filter_le _ _) ?_
  simp
theorem out_to {l : List Rpt} (hl : Log l) : ∀ k, k ≤ l.length → outV l k = (l.take k).filter (cntB l)
  | 0, _ => by simp [outV]
  | k + 1, hk => by
    have ih := out_to hl k (by omega)
    have hc := cnt_ok hl (show k < l.length by omega)
    rw [List.take_add_one, List.getElem?_eq_getElem (show k < l.length by omega), Option.toList_some, List.filter_append, List.filter_cons, List.filter_nil, hc, ← ih]
    unfold outV
    rw [List.range_succ, List.filter_append, List.filter_cons, List.filter_nil, List.map_append]
    cases okI l k (l.length - (k + 1)) with
    | true => simp only [if_true, List.map_cons, List.map_nil]; rw [gd (show k < l.length by omega)]
    | false => simp
theorem out_eq {l : List Rpt} (hl : Log l) : outV l l.length = validR l := by
  rw [out_to hl _ (Nat.le_refl _), List.take_length]; rfl
theorem okI_next (l : List Rpt) (i m : Nat) : okI l i (m + 1) = (okI l i m && !(sameG l i (i + 1 + m))) := by
  unfold okI
  rw [List.range_succ, List.all_append]
  simp
theorem at_drop {l : List Rpt} {m j : Nat} (h : m + j < l.length) : ((l.drop m).map Rpt.ds)[j]? = some l[m + j].ds := by
  rw [List.getElem?_map, List.getElem?_drop, List.getElem?_eq_getElem h]; rfl


end Go.Proofs.YtekenfknoakboaaDoor


namespace Go.Proofs.YtekenfknoakboaaDoor
open Go.RowKit Go.MapKept
set_option linter.unusedVariables false
set_option linter.unusedSimpArgs false

/-- What reads so is exactly this value. -/
def DExact (kd : D) (key : Value) : Prop := ∀ F w v, Rep F w v kd → v = key
theorem DExact.v (x : Value) : DExact (.v x) x := fun _ _ _ h => rep_v h
theorem DExact.agg2 (k1 k2 : Value) : DExact (.agg [.v k1, .v k2]) (.agg #[k1, k2]) := fun _ _ _ h => rep_agg2 h
theorem DExact.agg3 (k1 k2 k3 : Value) : DExact (.agg [.v k1, .v k2, .v k3]) (.agg #[k1, k2, k3]) := fun F w v h => by
  cases h with
  | agg cs _ hl hone h =>
    obtain ⟨a, b, c, rfl⟩ : ∃ a b c, cs = [a, b, c] := by
      match cs, hl with
      | [a, b, c], _ => exact ⟨a, b, c, rfl⟩
    have h1 := h 0 (by simp) (by simp)
    have h2 := h 1 (by simp) (by simp)
    have h3 := h 2 (by simp) (by simp)
    simp only [List.getElem_cons_zero, List.getElem_cons_succ] at h1 h2 h3
    rw [rep_v h1, rep_v h2, rep_v h3]
/-- A struct of plain cells, by its cells. -/
theorem rep_aggv {F : Nat → Prop} {w : World} (cs : List Value) (h1 : cs.all (·.oneCell') = true) : Rep F w (.agg cs.toArray) (.agg (cs.map D.v)) :=
  .agg cs _ (by simp) (fun i hi => by rw [List.all_eq_true] at h1; exact h1 _ (List.getElem_mem hi)) (fun i h1 h2 => by rw [List.getElem_map]; exact .v _)
section
variable {cx : Cx} {ops : Array Oper} {o : Oper} {rest : List Oper} {e : Env} {σ σ' : Obs} {Q : Post} {P : Program} {B : Nat}
theorem EOp.mapUpdateX {t k et : TypeId} {id : Nat} {m x v : Operand} {key : Value} {d kd : D} {M M' : List (Value × D)}  (hdst : o.dst = none) (ho : o.op = .mapUpdate t m x v) (ht : cx.P.underlying t = some (.map k et)) (K : Maps.Keyed cx.P k) (hm : e.ev m = .own id) (hmem : (id, Ob.map M) ∈ σ)
    (hx : e.ev x = .d kd) (hke : DExact kd key) (hv : e.ev v = .d d) (hg : ∃ l, keyOf cx.P k key = some l) (hgs : ∀ p ∈ M, ∃ l, keyOf cx.P k p.1 = some l) (hp : MPut M key d M') : EOp cx ops o e σ (Obs.upd id (.map M') σ) := by
  intro F ρ a w e0 hr ha
  have hop : ∀ y ∈ o.op.operands.toList, RepS F ρ w (a.eval y) (e.ev y) := fun y hy => ev_rep fun t ht => ha t (looks_op (by rw [← ht]; exact hy))
  have r1 := hop m (by rw [ho]; simp [Op.operands])
  have r2 := hop x (by rw [ho]; simp [Op.operands])
  have r3 := hop v (by rw [ho]; simp [Op.operands])
  rw [hm] at r1
  rw [hx] at r2
  rw [hv] at r3
  obtain ⟨b, es, clock, hρ, hB, hF, hh, hMC, hall⟩ := hr.obs.ok _ hmem
  have hl := hMC.size
  dsimp only at hρ
  have hmv : a.eval m = .map (some b) := by rw [← hρ]; generalize a.eval m = u at r1; cases r1; rfl
  have hxv := hke _ _ _ (repS_d r2)
  have r3' := repS_d r3
  have hks : ∀ en ∈ es.toList, ∃ l, keyOf cx.P k en.key = some l := fun en hen => by
    obtain ⟨j, hj⟩ := List.mem_iff_getElem?.1 hen
    obtain ⟨p, h1, h2, _⟩ := entries_get hl hall hj
    rw [h2]; exact hgs p (List.mem_of_getElem? h1)
  obtain ⟨kl, hkl⟩ := hg
  have hblk : blk (ρ id) = some b := by rw [hρ]; rfl
  unfold Oper.wp execOp
  simp only [ho, hmv, hxv]
  rcases K.find w hkl es.toList hks with ⟨h1, h2⟩ | ⟨j, en, h1, h2, h3⟩
  · have hrun : (Instr.mapUpdate t (.map (some b)) key (a.eval v)).run cx.P w = .ok () { w with heap := w.heap.setIfInBounds b (.map (es.push { key := key, val := a.eval v, born := clock }) (clock + 1)) } := by
      simp [Instr.mapUpdate, run_underlying ht, MapKept.run_getObj_map hh, K.check w _ hkl, h1, MapKept.run_setObj_map _ hh, Result.andThen]
    rw [Sem.run_bind, hrun]
    refine ⟨by rw [hdst]; rfl, fun e2 hr2 => ⟨F, ρ, hr2.writeOb hblk hmem hB hF setObj_turn ?_⟩⟩
    have hM' : M' = M ++ [(key, d)] := by
      rcases hp with ⟨i, d0, hi, _, _⟩ | ⟨_, hM'⟩
      · exfalso
        have hil : i < M.length := (List.getElem?_eq_some_iff.1 hi).1
        have h4 := (hall i (by omega) hil).1
        have h5 : M[i] = (key, d0) := (List.getElem?_eq_some_iff.1 hi).2
        rw [h5] at h4
        exact h2 es[i] (by simp) h4
      · exact hM'
    have hkeep : ∀ {u : Value} {y : D}, Rep F w u y → Rep F { w with heap := w.heap.setIfInBounds b (.map (es.push { key := key, val := a.eval v, born := clock }) (clock + 1)) } u y := fun h => h.mono (fun _ h => h) fun c hc => by
      have : b ≠ c := fun h => hF (by rw [h]; exact hc)
      simp [this]
    subst hM'
    refine ⟨b, _, _, hρ, hB, hF, (MapKept.heap_set hh).1, by simpa using hMC.push key (a.eval v), fun i hi hi' => ?_⟩
    by_cases hc : i < es.size
    · have hc' : i < M.length := by omega
      rw [Array.getElem_push_lt hc, List.getElem_append_left hc']
      exact ⟨(hall i hc hc').1, hkeep (hall i hc hc').2⟩
    · have : i = es.size := by simp at hi; omega
      subst this
      rw [Array.getElem_push_eq, List.getElem_append_right (by omega)]
      simp only [hl, Nat.sub_self, List.getElem_cons_zero]
      exact ⟨trivial, hkeep r3'⟩
  · have hjs : j < es.size := by simpa using (List.getElem?_eq_some_iff.1 h2).1
    have hej : es[j] = en := by have := (List.getElem?_eq_some_iff.1 h2).2; simpa using this
    have hrun : (Instr.mapUpdate t (.map (some b)) key (a.eval v)).run cx.P w = .ok () { w with heap := w.heap.setIfInBounds b (.map (es.modify j fun e => { e with key := key, val := a.eval v }) clock) } := by
      have h0 : ((es[j]?).map (·.key)).getD key = key := by rw [Array.getElem?_eq_getElem hjs, hej]; simp [h3]
      simp only [Instr.mapUpdate, run_underlying ht, Sem.run_bind, Result.andThen_ok, MapKept.run_getObj_map hh, K.check w _ hkl, h1, h0, K.stays w hkl, MapKept.run_setObj_map _ hh]
    rw [Sem.run_bind, hrun]
    refine ⟨by rw [hdst]; rfl, fun e2 hr2 => ⟨F, ρ, hr2.writeOb hblk hmem hB hF setObj_turn ?_⟩⟩
    have hjl : j < M.length := by omega
    have hkj : M[j].1 = key := by rw [← (hall j hjs hjl).1, hej]; exact h3
    have hM' : M' = M.set j (key, d) := by
      rcases hp with ⟨i, d0, hi, hu, hM'⟩ | ⟨hno, _⟩
      · have := hu j M[j] (List.getElem?_eq_getElem hjl) hkj
        rw [this]; exact hM'
      · exact absurd hkj (hno _ (List.getElem_mem hjl))
    have hkeep : ∀ {u : Value} {y : D}, Rep F w u y → Rep F { w with heap := w.heap.setIfInBounds b (.map (es.modify j fun e => { e with key := key, val := a.eval v }) clock) } u y := fun h => h.mono (fun _ h => h) fun c hc => by
      have : b ≠ c := fun h => hF (by rw [h]; exact hc)
      simp [this]
    subst hM'
    refine ⟨b, _, _, hρ, hB, hF, (MapKept.heap_set hh).1, by rw [List.length_set]; exact hMC.modify _ _ (fun _ => rfl), fun i hi hi' => ?_⟩
    have hc : i < es.size := by simpa using hi
    have hc' : i < M.length := by omega
    rw [Array.getElem_modify, List.getElem_set]
    by_cases hij : j = i
    · rw [if_pos hij, if_pos hij]
      exact ⟨rfl, hkeep r3'⟩
    · rw [if_neg hij, if_neg hij]
      exact ⟨(hall i hc hc').1, hkeep (hall i hc hc').2⟩
theorem AOp.lookupX {x ix : Operand} {t k et : TypeId} {id : Nat} {M : List (Value × D)} {key z : Value} {d kd zd : D}  (ho : o.op = .lookup t x ix false) (ht : P.underlying t = some (.map k et)) (K : Maps.Keyed P k) (hz : (P.info? et).bind (·.zero) = some z) (hzd : ∀ F w, Rep F w z zd) (hx : e.ev x = .own id) (hm : (id, Ob.map M) ∈ σ)
    (hi : e.ev ix = .d kd) (hke : DExact kd key) (hg : ∃ l, keyOf P k key = some l) (hgs : ∀ p ∈ M, ∃ l, keyOf P k p.1 = some l) (hd : MGet M key zd d) : AOp P B ops o e σ (.d d) := .value fun F ρ w a hF hr hσ => by
  have h1 := hr x (by rw [ho]; simp [Op.operands])
  have h2 := hr ix (by rw [ho]; simp [Op.operands])
  rw [hx] at h1
  rw [hi] at h2
  have hxv := hke _ _ _ (repS_d h2)
  obtain ⟨b, es, clock, hρ, hB, hFb, hh, ⟨hl, _, _⟩, hall⟩ := hσ.ok _ hm
  dsimp only at hρ
  have hv : a.eval x = .map (some b) := by rw [← hρ]; generalize a.eval x = u at h1; cases h1; rfl
  have hks : ∀ en ∈ es.toList, ∃ l, keyOf P k en.key = some l := fun en hen => by
    obtain ⟨j, hj⟩ := List.mem_iff_getElem?.1 hen
    obtain ⟨p, h1, h2, _⟩ := entries_get hl hall hj
    rw [h2]; exact hgs p (List.mem_of_getElem? h1)
  obtain ⟨kl, hkl⟩ := hg
  obtain ⟨ti, hti, hzz⟩ := Option.bind_eq_some_iff.1 hz
  have hprog : (program : Sem Program).run P w = .ok P w := rfl
  rcases K.find w hkl es.toList hks with ⟨h3, h4⟩ | ⟨j, en, h3, h4, h5⟩
  · refine ⟨z, F, w, ?_, ?_, Ext.refl hF⟩
    · unfold execOp
      simp only [ho, hv, hxv, Sem.run_bind]
      simp [Instr.lookup, run_underlying ht, MapKept.run_getObj_map hh, K.check w _ hkl, h3, zeroValue, typeInfo, hti, hzz, Result.andThen]
    · rcases hd with ⟨i, hi2, _⟩ | ⟨_, rfl⟩
      · exfalso
        have hil : i < M.length := (List.getElem?_eq_some_iff.1 hi2).1
        have h6 := (hall i (by omega) hil).1
        rw [(List.getElem?_eq_some_iff.1 hi2).2] at h6
        exact h4 es[i] (by simp) h6
      · exact .d (hzd _ _)
  · have hjs : j < es.size := by simpa using (List.getElem?_eq_some_iff.1 h4).1
    have hej : es[j] = en := by have := (List.getElem?_eq_some_iff.1 h4).2; simpa using this
    have hjl : j < M.length := by omega
    refine ⟨en.val, F, w, ?_, ?_, Ext.refl hF⟩
    · unfold execOp
      simp only [ho, hv, hxv, Sem.run_bind]
      simp [Instr.lookup, run_underlying ht, MapKept.run_getObj_map hh, K.check w _ hkl, h3, Result.andThen]
    · have hkj : M[j].1 = key := by rw [← (hall j hjs hjl).1, hej]; exact h5
      rcases hd with ⟨i, hi2, hu⟩ | ⟨hno, _⟩
      · have := hu j M[j] (List.getElem?_eq_getElem hjl) hkj
        subst this
        have h6 := (hall j hjs hjl).2
        rw [(List.getElem?_eq_some_iff.1 hi2).2, hej] at h6
        exact .d h6
      · exact absurd hkj (hno _ (List.getElem_mem hjl))

theorem AOp.lookupOkX {x ix : Operand} {t k et : TypeId} {id : Nat} {M : List (Value × D)} {key z : Value} {d kd zd : D}  (ho : o.op = .lookup t x ix true) (ht : P.underlying t = some (.map k et)) (K : Maps.Keyed P k) (hz : (P.info? et).bind (·.zero) = some z) (hzd : ∀ F w, Rep F w z zd) (hx : e.ev x = .own id) (hm : (id, Ob.map M) ∈ σ)
    (hi : e.ev ix = .d kd) (hke : DExact kd key) (hg : ∃ l, keyOf P k key = some l) (hgs : ∀ p ∈ M, ∃ l, keyOf P k p.1 = some l) (ok : Bool) (hd : MGetOk M key zd d ok) : AOp P B ops o e σ (.d (.tup [d, .v (.bool ok)])) := .value fun F ρ w a hF hr hσ => by
  have h1 := hr x (by rw [ho]; simp [Op.operands])
  have h2 := hr ix (by rw [ho]; simp [Op.operands])
  rw [hx] at h1
  rw [hi] at h2
  have hxv := hke _ _ _ (repS_d h2)
  obtain ⟨b, es, clock, hρ, hB, hFb, hh, ⟨hl, _, _⟩, hall⟩ := hσ.ok _ hm
  dsimp only at hρ
  have hv : a.eval x = .map (some b) := by rw [← hρ]; generalize a.eval x = u at h1; cases h1; rfl
  have hks : ∀ en ∈ es.toList, ∃ l, keyOf P k en.key = some l := fun en hen => by
    obtain ⟨j, hj⟩ := List.mem_iff_getElem?.1 hen
    obtain ⟨p, h1, h2, _⟩ := entries_get hl hall hj
    rw [h2]; exact hgs p (List.mem_of_getElem? h1)
  obtain ⟨kl, hkl⟩ := hg
  obtain ⟨ti, hti, hzz⟩ := Option.bind_eq_some_iff.1 hz
  have hprog : (program : Sem Program).run P w = .ok P w := rfl
  rcases K.find w hkl es.toList hks with ⟨h3, h4⟩ | ⟨j, en, h3, h4, h5⟩
  · refine ⟨.tuple #[z, .bool false], F, w, ?_, ?_, Ext.refl hF⟩
    · unfold execOp
      simp only [ho, hv, hxv, Sem.run_bind]
      simp [Instr.lookup, run_underlying ht, MapKept.run_getObj_map hh, K.check w _ hkl, h3, zeroValue, typeInfo, hti, hzz, Result.andThen]
    · rcases hd with ⟨_, i, hi2, _⟩ | ⟨hok, _, rfl⟩
      · exfalso
        have hil : i < M.length := (List.getElem?_eq_some_iff.1 hi2).1
        have h6 := (hall i (by omega) hil).1
        rw [(List.getElem?_eq_some_iff.1 hi2).2] at h6
        exact h4 es[i] (by simp) h6
      · subst hok
        exact .d (.tup [_, _] [_, _] rfl (fun i a b => by
          match i, a with
          | 0, _ => exact hzd _ _
          | 1, _ => exact .v _))
  · have hjs : j < es.size := by simpa using (List.getElem?_eq_some_iff.1 h4).1
    have hej : es[j] = en := by have := (List.getElem?_eq_some_iff.1 h4).2; simpa using this
    have hjl : j < M.length := by omega
    refine ⟨.tuple #[en.val, .bool true], F, w, ?_, ?_, Ext.refl hF⟩
    · unfold execOp
      simp only [ho, hv, hxv, Sem.run_bind]
      simp [Instr.lookup, run_underlying ht, MapKept.run_getObj_map hh, K.check w _ hkl, h3, Result.andThen]
    · have hkj : M[j].1 = key := by rw [← (hall j hjs hjl).1, hej]; exact h5
      rcases hd with ⟨hok, i, hi2, hu⟩ | ⟨_, hno, _⟩
      · have := hu j M[j] (List.getElem?_eq_getElem hjl) hkj
        subst this
        have h6 := (hall j hjs hjl).2
        rw [(List.getElem?_eq_some_iff.1 hi2).2, hej] at h6
        subst hok
        exact .d (.tup [_, _] [_, _] rfl (fun i a b => by
          match i, a with
          | 0, _ => exact h6
          | 1, _ => exact .v _))
      · exact absurd hkj (hno _ (List.getElem_mem hjl))

/-- An own object is written no more: nobody speaks of it from here on. -/
theorem R0.freezeAny {F : Nat → Prop} {ρ : Nat → Value} {a : Act} {w : World} (h : R0 cx F ρ e σ a w) {id : Nat} {ob : Ob} (hm : (id, ob) ∈ σ) : R0 cx (fun b => F b ∨ blk (ρ id) = some b) ρ e (Obs.del id σ) a w := by
  have hF2 : ∀ b, (F b ∨ blk (ρ id) = some b) → b < w.heap.size := fun b hb => by
    rcases hb with hb | hb
    · exact h.lt b hb
    · exact ((h.obs.ok _ hm).blk_lt hb).2
  refine ⟨h.size, h.defers, hF2, fun b hb => .inl (h.base b hb), fun b hb => ?_, h.below, h.hB, fun u => ?_, ?_, h.up, fun p hp => h.kown p (Obs.mem_del hp).1, h.fixed⟩
  · rcases hb with hb | hb
    · exact h.new b hb
    · exact .inr (h.kown _ hm b hb)
  · exact RepS.turn (row := none) (h.env u) h.lt (fun g hg => by simp at hg) ⟨rfl, rfl, rfl, Nat.le_refl _, fun _ _ _ => rfl⟩ (fun b hb => .inl hb)
  · refine ⟨fun p hp => ?_, fun p hp q hq => h.obs.apart p (Obs.mem_del hp).1 q (Obs.mem_del hq).1, fun p hp q hq => h.obs.uniq p (Obs.mem_del hp).1 q (Obs.mem_del hq).1⟩
    obtain ⟨h1, h2⟩ := Obs.mem_del hp
    have h3 := h.obs.ok p h1
    have hne : ∀ g, blk (ρ p.1) = some g → blk (ρ id) ≠ some g := fun g hg => h.obs.apart p h1 _ hm h2 g hg
    exact h3.more h.lt (fun b hb => .inl hb) (fun g hg hf => by
      rcases hf with hf | hf
      · exact h3.nF hg hf
      · exact hne g hg hf)
/-- range m: the map is written no more, the iterator is an own object. -/
theorem AOps.range {t k et dst idm : Nat} {m : Operand} {M : List (Value × D)} (id : Nat) (hg : o.guard = none) (ht : o.dst = some dst) (hdn : Nat.blt dst cx.N = true) (ho : o.op = .range t m) (hu : cx.P.underlying t = some (.map k et)) (hm : e.ev m = .own idm) (hmem : (idm, Ob.map M) ∈ σ) (hid : Obs.fresh id σ = true)
    (kk : AOps cx ops rest ((e.kill id).put (some dst) (.ptr id 0)) ((id, .iter M []) :: Obs.kill id (Obs.del idm σ)) Q) (hfx : cx.free id = true := by rfl) : AOps cx ops (o :: rest) e σ Q := by
  intro a w ⟨F, ρ, hr⟩
  have r1 := ev_rep (e := e) (x := m) (a := a) (fun t _ => hr.env t)
  rw [hm] at r1
  obtain ⟨b, es, clock, hρ, hB, hFb, hh, hMC, hall⟩ := hr.obs.ok _ hmem
  dsimp only at hρ
  have hv : a.eval m = .map (some b) := by rw [← hρ]; generalize a.eval m = u at r1; cases r1; rfl
  have hfz := hr.freezeAny hmem
  have hbb : blk (ρ idm) = some b := by rw [hρ]; rfl
  have hblt : b < w.heap.size := (Array.getElem?_eq_some_iff.1 hh).1
  have hE : Ext (fun c => F c ∨ blk (ρ idm) = some c) w (fun c => F c ∨ blk (ρ idm) = some c) (w.alloc (.mapIter (some b) clock #[] clock)) := Ext.of_below hfz.lt ((Below.refl _ _).alloc (Nat.le_refl _) _)
  have hid' : ∀ p ∈ Obs.del idm σ, p.1 ≠ id := fun p hp => Obs.fresh_spec hid p (Obs.mem_del hp).1
  have h2 := hfz.turn (ρ' := fun j => if j = id then .pointer (some ⟨w.heap.size, 0, none⟩) else ρ j) (id := id) (ob := .iter M []) (row := none) (w' := w.alloc (.mapIter (some b) clock #[] clock)) (F' := fun c => F c ∨ blk (ρ idm) = some c) (fun j hj => by simp [hj])
    ⟨hE.below.os, hE.below.tape, hE.below.output, hE.below.size, fun k hk _ => hE.below.block k hk⟩ hfx (fun g hg => by simp at hg) (fun b hb => hb) (fun b hb => .inl hb) hE.lt
    ⟨w.heap.size, b, es, clock, #[], clock, by simp, hr.hB, fun hf => by have := hfz.lt _ hf; omega, by simpa using heap_alloc_new w _, .inr hbb, by rw [hE.below.block b hblt]; exact hh, ⟨hMC, rfl, by simp, rfl⟩,
      fun i hi hi' => ⟨(hall i hi hi').1, (hall i hi hi').2.mono (fun c hc => .inl hc) fun c hc => hE.below.block c (hr.lt c hc)⟩⟩
    (fun g hg => by simp [blk] at hg; exact .inr (by omega)) ((id, .iter M []) :: Obs.kill id (Obs.del idm σ)) (fun p hp => by
      cases hp with
      | head => exact .inl rfl
      | tail _ hp => obtain ⟨q, hq, rfl⟩ := Obs.mem_kill hp; exact .inr ⟨q, hq, hid' q hq, rfl⟩)
  have h3 := h2.put (o := ⟨some dst, .ready 0, 0, "", #[], none⟩) (v := .pointer (some ⟨w.heap.size, 0, none⟩)) (s := .ptr id 0) (Ext.refl h2.lt) (.ptr id 0 w.heap.size (by simp [blk])) (by simpa [DstOk, Nat.blt_eq] using hdn)
  refine wpList_plain hg fun K hK => ?_
  unfold Oper.wp execOp
  simp only [ho, hv, Sem.run_bind, run_range_map w t k et b es clock hu hh, Result.andThen_ok, Sem.run_pure]
  have := kk _ _ ⟨_, _, h3⟩
  rw [← ht] at this
  exact hK _ _ this
theorem R0.drewMaybe {F : Nat → Prop} {ρ : Nat → Value} {a : Act} {w w1 : World} (h : R0 cx F ρ e σ a w) (hw : w1 = w ∨ w1 = w.drew) : R0 cx F ρ e σ a w1 := by
  rcases hw with rfl | rfl
  · exact h
  · exact h.drew
theorem iter_of {F : Nat → Prop} {ρ : Nat → Value} {a : Act} {w : World} (hr : R0 cx F ρ e σ a w) {it : Operand} {id : Nat} {M : List (Value × D)} {done : List Nat} (hi : e.ev it = .ptr id 0) (hm : (id, Ob.iter M done) ∈ σ) :
    ∃ g b, ∃ es : Array MapEntry, ∃ clock seen, a.eval it = .pointer (some ⟨g, 0, none⟩) ∧ ρ id = .pointer (some ⟨g, 0, none⟩) ∧ cx.B ≤ g ∧ ¬ F g ∧ w.heap[g]? = some (.mapIter (some b) clock seen clock) ∧ F b ∧ w.heap[b]? = some (.map es clock) ∧ IterC M.length done es clock seen clock ∧
      (∀ i (h : i < es.size) (h' : i < M.length), es[i].key = M[i].1 ∧ Rep F w es[i].val M[i].2) := by
  have r1 := ev_rep (e := e) (x := it) (a := a) (fun t _ => hr.env t)
  rw [hi] at r1
  obtain ⟨g, b, es, clock, seen, c0, hρ, hB, hF, hg, hb, hh, hI, hall⟩ := hr.obs.ok _ hm
  dsimp only at hρ
  have hl := hI.late
  subst hl
  exact ⟨g, b, es, c0, seen, ptr_at r1 (by rw [hρ]; rfl), hρ, hB, hF, hg, hb, hh, hI, hall⟩
theorem seen_mem {n : Nat} {done : List Nat} {es : Array MapEntry} {clock c0 : Nat} {seen : Array Nat} (h : IterC n done es clock seen c0) {i : Nat} (hi : i < es.size) : seen.contains es[i].born = true ↔ i ∈ done := by
  rw [h.seen, Array.contains_iff_mem, List.mem_toArray, List.mem_map]
  constructor
  · rintro ⟨j, hj, he⟩
    have hjs : j < es.size := by rw [h.size]; exact h.lt j hj
    rw [Array.getElem?_eq_getElem hjs, Option.map_some, Option.getD_some] at he
    have hnd := h.born
    have : j = i := by
      have h1 : j < (es.toList.map (·.born)).length := by simpa using hjs
      have h2 : i < (es.toList.map (·.born)).length := by simpa using hi
      exact (List.getElem_inj hnd (h₀ := h1) (h₁ := h2)).1 (by simpa using he)
    rw [← this]; exact hj
  · intro hj
    exact ⟨i, hj, by rw [Array.getElem?_eq_getElem hi]; rfl⟩
/-- The step of a range: nothing is left, or an entry that was not there yet. -/
theorem AOps.next {dst id : Nat} {it : Operand} {M : List (Value × D)} {done : List Nat} (hg : o.guard = none) (ht : o.dst = some dst) (hdn : Nat.blt dst cx.N = true) (ho : o.op = .next it false) (hi : e.ev it = .ptr id 0) (hmem : (id, Ob.iter M done) ∈ σ)
    (k0 : (∀ i, i < M.length → i ∈ done) → AOps cx ops rest (e.put (some dst) (.d (.tup [.v (.bool false)]))) σ Q)
    (k1 : ∀ i (h : i < M.length), i ∉ done → AOps cx ops rest (e.put (some dst) (.d (.tup [.v (.bool true), .v M[i].1, M[i].2]))) (Obs.upd id (.iter M (done ++ [i])) σ) Q) : AOps cx ops (o :: rest) e σ Q := by
  intro a w ⟨F, ρ, hr⟩
  obtain ⟨g, b, es, clock, seen, hv, hρ, hB, hF, hgg, hb, hh, hI, hall⟩ := iter_of hr hi hmem
  have hl := hI.size
  refine wpList_plain hg fun K hK => ?_
  unfold Oper.wp
  rcases run_next_at (P := cx.P) w o.type g b clock clock seen es clock hgg hh hI.old (Nat.le_refl _) with ⟨h0, hrun⟩ | ⟨en, hen, w1, hal, hrun⟩
  · have hx : (execOp a.eval o).run cx.P w = .ok (.value (.tuple #[.bool false])) w := by
      unfold execOp
      simp only [ho, hv, Sem.run_bind, hrun, Result.andThen_ok, Sem.run_pure]
    rw [hx]
    have h2 := hr.put (o := ⟨some dst, .ready 0, 0, "", #[], none⟩) (v := .tuple #[.bool false]) (s := .d (.tup [.v (.bool false)])) (Ext.refl hr.lt) (.d (.tup [_] [_] rfl (fun i a b => by
      match i, a with
      | 0, _ => exact .v _))) (by simpa [DstOk, Nat.blt_eq] using hdn)
    have := k0 (fun i hi2 => by
      have h3 : leftOf es seen = #[] := Array.eq_empty_of_size_eq_zero h0
      unfold leftOf at h3
      rw [Array.filter_eq_empty_iff] at h3
      have h4 := h3 es[i] (Array.getElem_mem (by omega))
      simp only [Bool.not_eq_true', Bool.not_eq_false] at h4
      exact (seen_mem hI (by omega)).1 h4) _ _ ⟨F, ρ, h2⟩
    rw [← ht] at this
    exact hK _ _ this
  · have hx : (execOp a.eval o).run cx.P w = .ok (.value (.tuple #[.bool true, en.key, en.val])) (ChangeMaps.setBlock w1 g (.mapIter (some b) clock (seen.push en.born) clock)) := by
      unfold execOp
      simp only [ho, hv, Sem.run_bind, hrun, Result.andThen_ok, Sem.run_pure]
    rw [hx]
    unfold leftOf at hen
    simp only [Array.toList_filter, List.mem_filter, Bool.not_eq_true'] at hen
    obtain ⟨i, hil, rfl⟩ := List.mem_iff_getElem.1 hen.1
    have his : i < es.size := by simpa using hil
    have hgi : es.toList[i] = es[i] := by simp
    have hiM : i < M.length := by omega
    have hnd : i ∉ done := fun h => by
      have := (seen_mem hI his).2 h
      rw [hgi] at hen
      rw [hen.2] at this
      cases this
    have hr1 := hr.drewMaybe hal
    have hg1 : w1.heap[g]? = some (.mapIter (some b) clock seen clock) := by rcases hal with rfl | rfl <;> exact hgg
    have hh1 : w1.heap[b]? = some (.map es clock) := by rcases hal with rfl | rfl <;> exact hh
    have hbg : b ≠ g := fun h => hF (h ▸ hb)
    have hall1 : ∀ i (h : i < es.size) (h' : i < M.length), es[i].key = M[i].1 ∧ Rep F w1 es[i].val M[i].2 := fun i h h' => ⟨(hall i h h').1, (hall i h h').2.mono (fun _ h => h) fun c _ => by rcases hal with rfl | rfl <;> rfl⟩
    have hkeep : ∀ {u : Value} {y : D}, Rep F w1 u y → Rep F (ChangeMaps.setBlock w1 g (.mapIter (some b) clock (seen.push es[i].born) clock)) u y := fun h => h.mono (fun _ h => h) fun c hc => by
      have : g ≠ c := fun h => hF (by rw [h]; exact hc)
      simp [ChangeMaps.setBlock, this]
    have h2 := hr1.writeOb (ob' := .iter M (done ++ [i])) (g := g) (by rw [hρ]; rfl) hmem hB hF (setObj_turn (o := .mapIter (some b) clock (seen.push es[i].born) clock))
      ⟨g, b, es, clock, seen.push es[i].born, clock, hρ, hB, hF, (MapKept.heap_set hg1).1, hb, by
          have : g ≠ b := fun h => hbg h.symm
          simp [this]; simpa using hh1, ⟨hI.toMapC, by
            rw [hI.seen]
            simp [Array.getElem?_eq_getElem his], fun j hj => by
            rcases List.mem_append.1 hj with hj | hj
            · exact hI.lt j hj
            · rw [List.mem_singleton] at hj; omega, rfl⟩, fun j hj hj' => ⟨(hall1 j hj hj').1, hkeep (hall1 j hj hj').2⟩⟩
    have h3 := h2.put (o := ⟨some dst, .ready 0, 0, "", #[], none⟩) (v := .tuple #[.bool true, es[i].key, es[i].val]) (s := .d (.tup [.v (.bool true), .v M[i].1, M[i].2])) (Ext.refl h2.lt) (.d (.tup [_, _, _] [_, _, _] rfl (fun j a b => by
      match j, a with
      | 0, _ => exact .v _
      | 1, _ => rw [show [Value.bool true, es[i].key, es[i].val][1] = M[i].1 from (hall i his hiM).1]; exact .v _
      | 2, _ => exact hkeep (hall1 i his hiM).2))) (by simpa [DstOk, Nat.blt_eq] using hdn)
    have := k1 i hiM hnd _ _ ⟨F, ρ, h3⟩
    rw [← ht] at this
    rw [hgi]
    exact hK _ _ this
/-- The round's key and element. -/
theorem AOp.entry {id i : Nat} {it : Operand} {M : List (Value × D)} {done : List Nat} (ho : o.op = .entry it) (hi : e.ev it = .ptr id 0) (hmem : (id, Ob.iter M (done ++ [i])) ∈ σ) (hiM : i < M.length) : AOp P B ops o e σ (.d (.tup [.v M[i].1, M[i].2])) := .value fun F ρ w a hF hr hσ => by
  have r1 := hr it (by rw [ho]; simp [Op.operands])
  rw [hi] at r1
  obtain ⟨g, b, es, clock, seen, c0, hρ, hB, hFg, hgg, hb, hh, hI, hall⟩ := hσ.ok _ hmem
  dsimp only at hρ
  have hv := ptr_at r1 (g := g) (by rw [hρ]; rfl)
  have hl := hI.size
  have his : i < es.size := by omega
  have hs : seen = ((done.map fun i => ((es[i]?).map (·.born)).getD 0).toArray).push es[i].born := by
    rw [hI.seen]
    simp [Array.getElem?_eq_getElem his]
  have hc := hI.late
  subst hc
  rw [hs] at hgg
  refine ⟨.tuple #[es[i].key, es[i].val], F, w, ?_, .d (.tup [_, _] [_, _] rfl (fun j a b => by
    match j, a with
    | 0, _ => rw [show [es[i].key, es[i].val][0] = M[i].1 from (hall i his hiM).1]; exact .v _
    | 1, _ => exact (hall i his hiM).2)), Ext.refl hF⟩
  unfold execOp
  simp only [ho, hv, Sem.run_bind, run_entry_at w g b _ _ es _ es[i] hgg hh (by simp) hI.born, Result.andThen_ok, Sem.run_pure]
/-- .. where the map's entries are those of a Lean list. -/
theorem AOps.nextL {γ : Type} {L : List γ} {f : γ → Value × D} {dst id : Nat} {it : Operand} {done : List Nat} (hg : o.guard = none) (ht : o.dst = some dst) (hdn : Nat.blt dst cx.N = true) (ho : o.op = .next it false) (hi : e.ev it = .ptr id 0) (hmem : (id, Ob.iter (L.map f) done) ∈ σ)
    (k0 : (∀ i, i < L.length → i ∈ done) → AOps cx ops rest (e.put (some dst) (.d (.tup [.v (.bool false)]))) σ Q)
    (k1 : ∀ i (h : i < L.length), i ∉ done → AOps cx ops rest (e.put (some dst) (.d (.tup [.v (.bool true), .v (f L[i]).1, (f L[i]).2]))) (Obs.upd id (.iter (L.map f) (done ++ [i])) σ) Q) : AOps cx ops (o :: rest) e σ Q :=
  .next hg ht hdn ho hi hmem (fun h => k0 fun i hi => h i (by simpa using hi)) fun i h hn => by
    have := k1 i (by simpa using h) hn
    simpa only [List.getElem_map] using this
theorem AOp.entryL {γ : Type} {L : List γ} {f : γ → Value × D} {id i : Nat} {it : Operand} {done : List Nat} (ho : o.op = .entry it) (hi : e.ev it = .ptr id 0) (hmem : (id, Ob.iter (L.map f) (done ++ [i])) ∈ σ) (hiL : i < L.length) : AOp P B ops o e σ (.d (.tup [.v (f L[i]).1, (f L[i]).2])) := by
  have := AOp.entry (P := P) (B := B) (ops := ops) ho hi hmem (by simpa using hiL)
  simpa only [List.getElem_map] using this
end
end Go.Proofs.YtekenfknoakboaaDoor


namespace Go.Proofs.YtekenfknoakboaaDoor
open Go.RowKit
set_option linter.unusedVariables false

/-! Types. -/
namespace TyO1

end TyO1
open TyO1


open Go.Sort Go.Lib
set_option linter.unusedSectionVars false
section
variable {κ β : Type} [DecidableEq κ]
/-! ## Lists by keys -/
def hasG (L : List (κ × β)) (k : κ) : Bool := L.any fun p => decide (p.1 = k)
def findG (L : List (κ × β)) (k : κ) : Option β := (L.find? fun p => decide (p.1 = k)).map (·.2)
def putG (L : List (κ × β)) (k : κ) (v : β) : List (κ × β) := if hasG L k = true then L.map (fun p => if p.1 = k then (k, v) else p) else L ++ [(k, v)]
def NkG (L : List (κ × β)) : Prop := L.Pairwise fun p q => p.1 ≠ q.1
theorem hasG_iff {L : List (κ × β)} {k : κ} : hasG L k = true ↔ ∃ p ∈ L, p.1 = k := by
  unfold hasG
  rw [List.any_eq_true]
  constructor
  · rintro ⟨p, h1, h2⟩; exact ⟨p, h1, of_decide_eq_true h2⟩
  · rintro ⟨p, h1, h2⟩; exact ⟨p, h1, decide_eq_true h2⟩
theorem putG_nk {L : List (κ × β)} (h : NkG L) (k : κ) (v : β) : NkG (putG L k v) := by
  unfold putG
  by_cases hh : hasG L k = true
  · rw [if_pos hh]
    unfold NkG
    rw [List.pairwise_map]
    refine h.imp fun {p q} hpq => ?_
    by_cases h1 : p.1 = k <;> by_cases h2 : q.1 = k
    · exact absurd (h1.trans h2.symm) hpq
    · rw [if_pos h1, if_neg h2]; exact fun e => h2 e.symm
    · rw [if_neg h1, if_pos h2]; exact h1
    · rw [if_neg h1, if_neg h2]; exact hpq
  · rw [if_neg hh]
    refine List.pairwise_append.2 ⟨h, by simp, fun p hp q hq => ?_⟩
    rw [List.mem_singleton] at hq
    subst hq
    exact fun e => hh (hasG_iff.2 ⟨p, hp, e⟩)
theorem findG_cons (p : κ × β) (L : List (κ × β)) (k : κ) : findG (p :: L) k = if p.1 = k then some p.2 else findG L k := by
  unfold findG
  rw [List.find?_cons]
  by_cases h : p.1 = k <;> simp [h]
theorem findG_nil (k : κ) : findG ([] : List (κ × β)) k = none := rfl
theorem findG_append (L M : List (κ × β)) (k : κ) : findG (L ++ M) k = match findG L k with | some v => some v | none => findG M k := by
  induction L with
  | nil => rfl
  | cons p L ih =>
    rw [List.cons_append, findG_cons, findG_cons, ih]
    by_cases h : p.1 = k <;> simp [h]
theorem findG_none {L : List (κ × β)} {k : κ} : findG L k = none ↔ hasG L k = false := by
  induction L with
  | nil => simp [findG_nil, hasG]
  | cons p L ih =>
    rw [findG_cons]
    have : hasG (p :: L) k = (decide (p.1 = k) || hasG L k) := by simp [hasG]
    rw [this]
    by_cases h : p.1 = k <;> simp [h, ih]
theorem findG_map (L : List (κ × β)) (k k' : κ) (v : β) : findG (L.map fun p => if p.1 = k then (k, v) else p) k' = if k' = k then (if hasG L k = true then some v else none) else findG L k' := by
  induction L with
  | nil => by_cases h : k' = k <;> simp [h, findG_nil, hasG]
  | cons p L ih =>
    rw [List.map_cons, findG_cons, findG_cons, ih]
    have hh : hasG (p :: L) k = (decide (p.1 = k) || hasG L k) := by simp [hasG]
    rw [hh]
    by_cases h : p.1 = k
    · rw [if_pos h]
      by_cases h2 : k' = k
      · subst h2; simp [h]
      · have h3 : ¬ k = k' := fun e => h2 e.symm
        have h4 : ¬ p.1 = k' := fun e => h2 (e.symm.trans h)
        simp [h2, h3, h4]
    · rw [if_neg h]
      by_cases h2 : k' = k
      · subst h2; simp [h]
      · simp [h2]
theorem findG_put (L : List (κ × β)) (k : κ) (v : β) (k' : κ) : findG (putG L k v) k' = if k' = k then some v else findG L k' := by
  unfold putG
  by_cases hh : hasG L k = true
  · rw [if_pos hh, findG_map, if_pos hh]
  · rw [if_neg hh, findG_append, findG_cons, findG_nil]
    by_cases h : k' = k
    · subst h
      rw [findG_none.2 (by simpa using hh)]
      try simp
    · have h3 : ¬ k = k' := fun e => h e.symm
      rw [if_neg h, if_neg h3]
      cases findG L k' <;> rfl
theorem findG_mem {L : List (κ × β)} (h : NkG L) (p : κ × β) : p ∈ L ↔ findG L p.1 = some p.2 := by
  induction L with
  | nil => simp [findG_nil]
  | cons q L ih =>
    obtain ⟨h1, h2⟩ := List.pairwise_cons.1 h
    rw [findG_cons, List.mem_cons]
    by_cases hq : q.1 = p.1
    · rw [if_pos hq]
      constructor
      · rintro (rfl | hp)
        · rfl
        · exact absurd hq (h1 p hp)
      · intro e
        exact .inl (Prod.ext hq.symm (Option.some.inj e).symm)
    · rw [if_neg hq, ← ih h2]
      constructor
      · rintro (rfl | hp)
        · exact absurd rfl hq
        · exact hp
      · exact .inr
theorem putG_mem {L : List (κ × β)} {k : κ} {v : β} {p : κ × β} (h : p ∈ putG L k v) : p = (k, v) ∨ p ∈ L := by
  unfold putG at h
  by_cases hh : hasG L k = true
  · rw [if_pos hh] at h
    obtain ⟨q, hq, rfl⟩ := List.mem_map.1 h
    by_cases h2 : q.1 = k
    · rw [if_pos h2]; exact .inl rfl
    · rw [if_neg h2]; exact .inr hq
  · rw [if_neg hh, List.mem_append, List.mem_singleton] at h
    exact h.elim .inr .inl
theorem putG_len (L : List (κ × β)) (k : κ) (v : β) : (putG L k v).length ≤ L.length + 1 := by
  unfold putG
  split <;> simp
/-- What is at k and what comes to it. -/
def plusG (add : β → β → β) (o : Option β) (v : β) : β := match o with
  | some u => add u v
  | none => v
/-- The program's step, the reference's step. -/
def accG (add : β → β → β) (L : List (κ × β)) (e : κ × β) : List (κ × β) := putG L e.1 (plusG add (findG L e.1) e.2)
def addO (lt : κ → κ → Bool) (add : β → β → β) (e : κ × β) : List (κ × β) → List (κ × β)
  | [] => [e]
  | p :: l => if lt p.1 e.1 = true then p :: addO lt add e l else if p.1 = e.1 then (e.1, add p.2 e.2) :: l else e :: p :: l
def RiG (lt : κ → κ → Bool) (L : List (κ × β)) : Prop := L.Pairwise fun p q => lt p.1 q.1 = true
structure Tot (lt : κ → κ → Bool) : Prop where
  irr : ∀ x, lt x x = false
  tr : ∀ {x y z}, lt x y = true → lt y z = true → lt x z = true
  tot : ∀ {x y}, lt x y = false → lt y x = false → x = y
variable {lt : κ → κ → Bool} {add : β → β → β}
theorem RiG.nk (T : Tot lt) {L : List (κ × β)} (h : RiG lt L) : NkG L := h.imp fun {p q} h e => by rw [e, T.irr] at h; cases h
theorem addO_mem {e p : κ × β} : ∀ {L : List (κ × β)}, p ∈ addO lt add e L → p.1 = e.1 ∨ p ∈ L
  | [], h => by
    rw [addO, List.mem_singleton] at h
    exact .inl (by rw [h])
  | q :: l, h => by
    rw [addO] at h
    split at h
    · rcases List.mem_cons.1 h with rfl | h
      · exact .inr (List.mem_cons_self ..)
      · exact (addO_mem h).imp id (List.mem_cons_of_mem _)
    · split at h
      · rcases List.mem_cons.1 h with rfl | h
        · exact .inl rfl
        · exact .inr (List.mem_cons_of_mem _ h)
      · rcases List.mem_cons.1 h with rfl | h
        · exact .inl rfl
        · exact .inr h
theorem addO_ri (T : Tot lt) (e : κ × β) : ∀ {L : List (κ × β)}, RiG lt L → RiG lt (addO lt add e L)
  | [], _ => by rw [addO]; exact List.pairwise_singleton ..
  | q :: l, h => by
    obtain ⟨h1, h2⟩ := List.pairwise_cons.1 h
    rw [addO]
    split
    · rename_i hl
      refine List.pairwise_cons.2 ⟨fun p hp => ?_, addO_ri T e h2⟩
      rcases addO_mem hp with h3 | h3
      · rw [h3]; exact hl
      · exact h1 p h3
    · rename_i hl
      split
      · rename_i he
        refine List.pairwise_cons.2 ⟨fun p hp => ?_, h2⟩
        have := h1 p hp
        rw [he] at this; exact this
      · rename_i he
        have h3 : lt e.1 q.1 = true := by
          cases h4 : lt e.1 q.1 with
          | true => rfl
          | false => exact absurd (T.tot (by simpa using hl) h4) he
        refine List.pairwise_cons.2 ⟨fun p hp => ?_, h⟩
        rcases List.mem_cons.1 hp with rfl | hp
        · exact h3
        · exact T.tr h3 (h1 p hp)
theorem findG_addO (T : Tot lt) (e : κ × β) (k : κ) : ∀ {L : List (κ × β)}, RiG lt L → findG (addO lt add e L) k = if k = e.1 then some (plusG add (findG L e.1) e.2) else findG L k
  | [], _ => by
    rw [addO, findG_cons, findG_nil]
    by_cases h : k = e.1
    · simp [h, plusG, findG_nil]
    · have : ¬ e.1 = k := fun e2 => h e2.symm
      simp [h, this]
  | q :: l, h => by
    obtain ⟨h1, h2⟩ := List.pairwise_cons.1 h
    have hno : lt e.1 q.1 = true ∨ ¬ lt q.1 e.1 = true ∧ ¬ q.1 = e.1 → findG (q :: l) e.1 = none := fun hh => by
      have h3 : lt e.1 q.1 = true := by
        rcases hh with h3 | ⟨h3, h4⟩
        · exact h3
        · cases h5 : lt e.1 q.1 with
          | true => rfl
          | false => exact absurd (T.tot (by simpa using h3) h5) h4
      rw [findG_none]
      cases h6 : hasG (q :: l) e.1 with
      | false => rfl
      | true =>
        obtain ⟨p, hp, he⟩ := hasG_iff.1 h6
        rcases List.mem_cons.1 hp with rfl | hp
        · rw [he, T.irr] at h3; cases h3
        · have := T.tr h3 (h1 p hp)
          rw [he, T.irr] at this; cases this
    rw [addO]
    split
    · rename_i hl
      have hne : ¬ q.1 = e.1 := fun e2 => by rw [e2, T.irr] at hl; cases hl
      rw [findG_cons, findG_addO T e k h2, findG_cons, findG_cons, if_neg hne]
      by_cases hk : k = e.1
      · subst hk; simp [hne]
      · simp [hk]
    · rename_i hl
      split
      · rename_i he
        rw [findG_cons, findG_cons, findG_cons, if_pos he]
        by_cases hk : k = e.1
        · simp [hk, plusG]
        · have h3 : ¬ e.1 = k := fun e2 => hk e2.symm
          have h4 : ¬ q.1 = k := fun e2 => hk (e2.symm.trans he)
          simp [hk, h3, h4]
      · rename_i he
        rw [findG_cons, hno (.inr ⟨hl, he⟩)]
        by_cases hk : k = e.1
        · simp [hk, plusG]
        · have h3 : ¬ e.1 = k := fun e2 => hk e2.symm
          simp [hk, h3]
def foldP (add : β → β → β) (E : List (κ × β)) : List (κ × β) := E.foldl (accG add) []
def foldO (lt : κ → κ → Bool) (add : β → β → β) (E : List (κ × β)) : List (κ × β) := E.foldl (fun L e => addO lt add e L) []
theorem fold_same (T : Tot lt) (E : List (κ × β)) : ∀ (G O : List (κ × β)), NkG G → RiG lt O → (∀ k, findG G k = findG O k) →
    NkG (E.foldl (accG add) G) ∧ RiG lt (E.foldl (fun L e => addO lt add e L) O) ∧ ∀ k, findG (E.foldl (accG add) G) k = findG (E.foldl (fun L e => addO lt add e L) O) k := by
  induction E with
  | nil => exact fun G O h1 h2 h3 => ⟨h1, h2, h3⟩
  | cons e E ih =>
    intro G O h1 h2 h3
    rw [List.foldl_cons, List.foldl_cons]
    refine ih _ _ (putG_nk h1 _ _) (addO_ri T e h2) fun k => ?_
    unfold accG
    rw [findG_put, findG_addO T e k h2, h3 e.1, h3 k]
theorem foldP_nk (T : Tot lt) (E : List (κ × β)) : NkG (foldP add E) := (fold_same T E [] [] List.Pairwise.nil List.Pairwise.nil fun _ => rfl).1
theorem foldO_ri (T : Tot lt) (E : List (κ × β)) : RiG lt (foldO lt add E) := (fold_same T E [] [] List.Pairwise.nil List.Pairwise.nil fun _ => rfl).2.1
theorem fold_mem (T : Tot lt) (E : List (κ × β)) (p : κ × β) : p ∈ foldP add E ↔ p ∈ foldO lt add E := by
  rw [findG_mem (foldP_nk T E), findG_mem (RiG.nk T (foldO_ri T E))]
  have := (fold_same (add := add) T E [] [] List.Pairwise.nil List.Pairwise.nil fun _ => rfl).2.2 p.1
  unfold foldP foldO
  rw [this]
/-- Lists in order of the same members are one. -/
theorem ri_uniq (T : Tot lt) {l r : List (κ × β)} (h1 : RiG lt l) (h2 : RiG lt r) (hm : ∀ x, x ∈ l ↔ x ∈ r) : l = r := by
  have nd : ∀ {l : List (κ × β)}, RiG lt l → l.Nodup := fun h => h.imp fun {a b} hab e => by rw [e, T.irr] at hab; cases hab
  have hp : l.Perm r := (List.perm_ext_iff_of_nodup (nd h1) (nd h2)).2 hm
  refine List.Perm.eq_of_pairwise (le := fun (x y : κ × β) => lt x.1 y.1 = true) (fun a b _ _ h3 h4 => ?_) h1 h2 hp
  have := T.tr h3 h4
  rw [T.irr] at this
  cases this
/-! ## Sums -/
def sumB (f : β → Int) (L : List (κ × β)) : Int := (L.map fun p => f p.2).foldr (· + ·) 0
theorem sumB_cons (f : β → Int) (p : κ × β) (L : List (κ × β)) : sumB f (p :: L) = f p.2 + sumB f L := rfl
theorem sumB_addO {f : β → Int} (hf : ∀ a b, f (add a b) = f a + f b) (e : κ × β) : ∀ L : List (κ × β), sumB f (addO lt add e L) = sumB f L + f e.2
  | [] => by simp [addO, sumB]
  | p :: l => by
    rw [addO]
    split
    · rw [sumB_cons, sumB_addO hf e l, sumB_cons]; omega
    · split
      · rw [sumB_cons, sumB_cons, hf]; omega
      · rw [sumB_cons, sumB_cons]; omega
theorem sumB_foldO {f : β → Int} (hf : ∀ a b, f (add a b) = f a + f b) (E : List (κ × β)) : ∀ O : List (κ × β), sumB f (E.foldl (fun L e => addO lt add e L) O) = sumB f O + sumB f E := by
  induction E with
  | nil => intro O; simp [sumB]
  | cons e E ih => intro O; rw [List.foldl_cons, ih, sumB_addO hf, sumB_cons]; omega
end



/-! ## Orders -/
def ltI2 (a b : Int) : Bool := decide (a < b)
def ltB (a b : ByteArray) : Bool := decide (strCmp a b < 0)
def lexL {κ ι : Type} [DecidableEq κ] (l1 : κ → κ → Bool) (l2 : ι → ι → Bool) (a b : κ × ι) : Bool := l1 a.1 b.1 || (decide (a.1 = b.1) && l2 a.2 b.2)
theorem tot_int : Tot ltI2 := ⟨fun x => by simp [ltI2], fun {x y z} h1 h2 => by unfold ltI2 at *; simp at *; omega, fun {x y} h1 h2 => by unfold ltI2 at *; simp at *; omega⟩
theorem ltB_iff {a b : ByteArray} : ltB a b = true ↔ a.data.toList < b.data.toList := by
  unfold ltB strCmp
  rw [decide_eq_true_eq, cbLt]
theorem tot_str : Tot ltB where
  irr x := by
    cases h : ltB x x with
    | false => rfl
    | true => exact absurd (ltB_iff.1 h) (List.lt_irrefl _)
  tr h1 h2 := ltB_iff.2 (List.lt_trans (ltB_iff.1 h1) (ltB_iff.1 h2))
  tot {x y} h1 h2 := by
    have a1 : ¬ x.data.toList < y.data.toList := fun h => by rw [ltB_iff.2 h] at h1; cases h1
    have a2 : ¬ y.data.toList < x.data.toList := fun h => by rw [ltB_iff.2 h] at h2; cases h2
    exact baEq.1 (List.le_antisymm (List.not_lt.1 a2) (List.not_lt.1 a1))
theorem lexL_iff {κ ι : Type} [DecidableEq κ] {l1 : κ → κ → Bool} {l2 : ι → ι → Bool} {a b : κ × ι} : lexL l1 l2 a b = true ↔ l1 a.1 b.1 = true ∨ a.1 = b.1 ∧ l2 a.2 b.2 = true := by
  unfold lexL
  rw [Bool.or_eq_true, Bool.and_eq_true, decide_eq_true_eq]
theorem Tot.lex {κ ι : Type} [DecidableEq κ] {l1 : κ → κ → Bool} {l2 : ι → ι → Bool} (h1 : Tot l1) (h2 : Tot l2) : Tot (lexL l1 l2) where
  irr x := by
    cases h : lexL l1 l2 x x with
    | false => rfl
    | true =>
      rcases lexL_iff.1 h with h3 | ⟨_, h3⟩
      · rw [h1.irr] at h3; cases h3
      · rw [h2.irr] at h3; cases h3
  tr {x y z} h3 h4 := by
    rw [lexL_iff] at *
    rcases h3 with h3 | ⟨h3, h5⟩ <;> rcases h4 with h4 | ⟨h4, h6⟩
    · exact .inl (h1.tr h3 h4)
    · exact .inl (by rw [← h4]; exact h3)
    · exact .inl (by rw [h3]; exact h4)
    · exact .inr ⟨h3.trans h4, h2.tr h5 h6⟩
  tot {x y} h3 h4 := by
    have n1 : ∀ {p q : κ × ι}, lexL l1 l2 p q = false → ¬ (l1 p.1 q.1 = true ∨ p.1 = q.1 ∧ l2 p.2 q.2 = true) := fun h h' => by rw [lexL_iff.2 h'] at h; cases h
    have a1 := n1 h3
    have a2 := n1 h4
    have e1 : x.1 = y.1 := h1.tot (by
      cases h : l1 x.1 y.1 with
      | false => rfl
      | true => exact absurd (.inl h) a1) (by
      cases h : l1 y.1 x.1 with
      | false => rfl
      | true => exact absurd (.inl h) a2)
    refine Prod.ext e1 (h2.tot ?_ ?_)
    · cases h : l2 x.2 y.2 with
      | false => rfl
      | true => exact absurd (.inr ⟨e1, h⟩) a1
    · cases h : l2 y.2 x.2 with
      | false => rfl
      | true => exact absurd (.inr ⟨e1.symm, h⟩) a2
theorem Tot.swo {κ α : Type} {lt : κ → κ → Bool} (T : Tot lt) (f : α → κ) : SWO (fun x y => lt (f x) (f y)) where
  irrefl x := T.irr _
  trans x y z h1 h2 := T.tr h1 h2
  ntrans x y z h1 h2 := by
    cases h3 : lt (f x) (f z) with
    | false => rfl
    | true =>
      cases h4 : lt (f y) (f x) with
      | true => rw [T.tr h4 h3] at h2; cases h2
      | false => rw [T.tot h1 h4] at h3; rw [h3] at h2; cases h2
/-! ## Sales, unknown things -/
structure Sal where
  recd : Int
  per : Int
  units : Int
  money : Int
deriving DecidableEq
structure Unk where
  source : ByteArray
  title : ByteArray
  per : Int
  units : Int
  money : Int
deriving DecidableEq
instance : Inhabited Sal := ⟨⟨0, 0, 0, 0⟩⟩
instance : Inhabited Unk := ⟨⟨⟨#[]⟩, ⟨#[]⟩, 0, 0, 0⟩⟩
def Sal.ds (x : Sal) : List D := [.v (.int .i64 x.recd), .v (.int .i64 x.per), .v (.int .i64 x.units), .v (.int .i64 x.money)]
def Unk.ds (x : Unk) : List D := [.v (.string x.source), .v (.string x.title), .v (.int .i64 x.per), .v (.int .i64 x.units), .v (.int .i64 x.money)]
abbrev KS := Int × Int
abbrev KU := ByteArray × ByteArray × Int
abbrev UM := Int × Int
def addU (a b : UM) : UM := (a.1 + b.1, a.2 + b.2)
def ltS : KS → KS → Bool := lexL ltI2 ltI2
def ltU : KU → KU → Bool := lexL ltB (lexL ltB ltI2)
theorem tot_S : Tot ltS := tot_int.lex tot_int
theorem tot_U : Tot ltU := tot_str.lex (tot_str.lex tot_int)
def toS (p : KS × UM) : Sal := ⟨p.1.1, p.1.2, p.2.1, p.2.2⟩
def toU (p : KU × UM) : Unk := ⟨p.1.1, p.1.2.1, p.1.2.2, p.2.1, p.2.2⟩
def Sal.key (x : Sal) : KS := (x.recd, x.per)
def Unk.key (x : Unk) : KU := (x.source, x.title, x.per)
def cmpI2 (a b : Int) : Int := if a < b then -1 else if b < a then 1 else 0
def cmpS (x y : Sal) : Int := orI [cmpI2 x.recd y.recd, cmpI2 x.per y.per]
def cmpU (x y : Unk) : Int := orI [strCmp x.source y.source, strCmp x.title y.title, cmpI2 x.per y.per]
theorem cmpI2_lt {a b : Int} : cmpI2 a b < 0 ↔ a < b := by unfold cmpI2; split <;> (try split) <;> omega
theorem cmpI2_zero {a b : Int} : cmpI2 a b = 0 ↔ a = b := by unfold cmpI2; split <;> (try split) <;> omega
theorem orI_cons (a : Int) (l : List Int) : orI (a :: l) = if a = 0 then orI l else a := by
  unfold orI
  rw [List.find?_cons]
  by_cases h : a = 0 <;> simp [h]
theorem orI_one (a : Int) : orI [a] = a := by
  rw [orI_cons]
  by_cases h : a = 0
  · rw [if_pos h, h]; rfl
  · rw [if_neg h]
theorem ltOf_S (x y : Sal) : ltOf cmpS x y = ltS x.key y.key := by
  unfold ltOf cmpS ltS lexL Sal.key ltI2
  rw [orI_cons, orI_one]
  dsimp only
  by_cases h : cmpI2 x.recd y.recd = 0
  · rw [if_pos h]
    have := cmpI2_zero.1 h
    simp [this, cmpI2_lt]
  · rw [if_neg h]
    have h2 : ¬ x.recd = y.recd := fun e => h (cmpI2_zero.2 e)
    simp [h2, cmpI2_lt]
theorem ltOf_U (x y : Unk) : ltOf cmpU x y = ltU x.key y.key := by
  unfold ltOf cmpU ltU lexL Unk.key ltI2 ltB
  rw [orI_cons, orI_cons, orI_one]
  dsimp only
  by_cases h : strCmp x.source y.source = 0
  · rw [if_pos h]
    have e1 := strCmp_zero.1 h
    by_cases h3 : strCmp x.title y.title = 0
    · rw [if_pos h3]
      have e2 := strCmp_zero.1 h3
      rw [e1, e2]
      simp [cmpI2_lt, strCmp_zero.2 rfl]
    · rw [if_neg h3]
      have e2 : ¬ x.title = y.title := fun e => h3 (strCmp_zero.2 e)
      rw [e1]
      simp [e2, strCmp_zero.2 rfl]
  · rw [if_neg h]
    have h2 : ¬ x.source = y.source := fun e => h (strCmp_zero.2 e)
    simp [h2]
theorem swo_S : SWO (ltOf cmpS) := by
  have : ltOf cmpS = fun x y => ltS (Sal.key x) (Sal.key y) := by funext x y; exact ltOf_S x y
  rw [this]; exact tot_S.swo _
theorem swo_U : SWO (ltOf cmpU) := by
  have : ltOf cmpU = fun x y => ltU (Unk.key x) (Unk.key y) := by funext x y; exact ltOf_U x y
  rw [this]; exact tot_U.swo _
/-! ## Aliases -/
instance : Inhabited Ali := ⟨⟨⟨#[]⟩, ⟨#[]⟩, 0⟩⟩
def Ali.key (x : Ali) : ByteArray × ByteArray := (x.source, x.title)
def ltA : ByteArray × ByteArray → ByteArray × ByteArray → Bool := lexL ltB ltB
theorem tot_A : Tot ltA := tot_str.lex tot_str
theorem aliCmp_lt {a b : Ali} : aliCmp a b < 0 ↔ ltA a.key b.key = true := by
  unfold aliCmp ltA Ali.key
  rw [lexL_iff]
  unfold ltB
  rw [decide_eq_true_eq, decide_eq_true_eq]
  dsimp only
  by_cases h : a.source = b.source
  · rw [if_pos h, h, strCmp_zero.2 rfl]; simp
  · rw [if_neg h]; simp [h]
theorem aliCmp_zero {a b : Ali} : aliCmp a b = 0 ↔ a.key = b.key := by
  unfold aliCmp Ali.key
  by_cases h : a.source = b.source
  · rw [if_pos h, strCmp_zero]; simp [h]
  · rw [if_neg h, strCmp_zero]; simp [h]
/-- What a source means by a title. -/
def meantA (a : List Ali) (s t : ByteArray) : Int := ((a.find? fun x => decide (x.source = s) && decide (x.title = t)).map (·.recd)).getD 0
structure Als (a : List Ali) : Prop where
  len : a.length ≤ 500
  rng : ∀ x ∈ a, 1 ≤ x.recd ∧ x.recd ≤ 1000000
  rise : a.Pairwise fun x y => ltA x.key y.key = true
theorem als_of {a : List Ali} (h : alisF a = 0) : Als a := by
  unfold alisF at h
  by_cases h1 : 500 < a.length
  · rw [if_pos h1] at h; simp at h
  rw [if_neg h1] at h
  have h2 := ffst_all _ h
  have key : ∀ k, (hk : k < a.length) → (1 ≤ a[k].recd ∧ a[k].recd ≤ 1000000) ∧ (∀ h0 : 0 < k, ltA (a[k-1]'(by omega)).key a[k].key = true) := fun k hk => by
    have h3 := h2 k hk
    unfold aliF at h3
    rw [dif_pos hk] at h3
    split at h3
    · omega
    split at h3
    · omega
    split at h3
    · omega
    split at h3
    · rename_i _ _ n1 n2
      refine ⟨n2, fun h0 => aliCmp_lt.1 ?_⟩
      exact Int.not_le.1 fun h6 => n1 ⟨h0, h6⟩
    · omega
  refine ⟨by omega, fun x hx => ?_, ?_⟩
  · obtain ⟨k, hk, rfl⟩ := List.mem_iff_getElem.1 hx
    exact (key k hk).1
  · have step : ∀ d i, (h : i + d + 1 < a.length) → ltA a[i].key a[i + d + 1].key = true := by
      intro d
      induction d with
      | zero => intro i h3; exact (key (i + 1) h3).2 (by omega)
      | succ d ih => intro i h3; exact tot_A.tr (ih i (by omega)) ((key (i + (d + 1) + 1) h3).2 (by omega))
    refine List.pairwise_iff_getElem.2 fun i j hi hj hij => ?_
    obtain ⟨d, rfl⟩ : ∃ d, j = i + d + 1 := ⟨j - i - 1, by omega⟩
    exact step d i hj
/-! ### The search -/
def ltQA (l : List Ali) (t : Ali) (k : Nat) : Bool := decide (k < l.length) && decide (aliCmp (l.getD k default) t < 0)
def posA (l : List Ali) (t : Ali) : Nat := bsr (ltQA l t) 0 l.length
def hasA (l : List Ali) (t : Ali) : Bool := decide (posA l t < l.length) && decide (aliCmp (l.getD (posA l t) default) t = 0)
theorem ltQA_at {l : List Ali} {t : Ali} {k : Nat} (hk : k < l.length) : ltQA l t k = decide (aliCmp l[k] t < 0) := by unfold ltQA; rw [decide_eq_true hk, List.getD_eq_getElem?_getD, List.getElem?_eq_getElem hk]; rfl
theorem ltQA_t {l : List Ali} {t : Ali} {k : Nat} (hk : k < l.length) (h : aliCmp l[k] t < 0) : ltQA l t k = true := by rw [ltQA_at hk]; exact decide_eq_true h
theorem ltQA_f {l : List Ali} {t : Ali} {k : Nat} (hk : k < l.length) (h : ¬ aliCmp l[k] t < 0) : ltQA l t k = false := by rw [ltQA_at hk]; exact decide_eq_false h
theorem hasA_at {l : List Ali} {t : Ali} (hk : posA l t < l.length) : hasA l t = decide (aliCmp l[posA l t] t = 0) := by unfold hasA; rw [decide_eq_true hk, List.getD_eq_getElem?_getD, List.getElem?_eq_getElem hk]; rfl
theorem hasA_t {l : List Ali} {t : Ali} {k : Nat} (hk : k < l.length) (hp : posA l t = k) (h : aliCmp l[k] t = 0) : hasA l t = true := by subst hp; rw [hasA_at hk]; exact decide_eq_true h
theorem hasA_f {l : List Ali} {t : Ali} {k : Nat} (hk : k < l.length) (hp : posA l t = k) (h : ¬ aliCmp l[k] t = 0) : hasA l t = false := by subst hp; rw [hasA_at hk]; exact decide_eq_false h
theorem hasA_e {l : List Ali} {t : Ali} {k : Nat} (hk : ¬ k < l.length) (hp : posA l t = k) : hasA l t = false := by unfold hasA; rw [hp]; simp [hk]
theorem hasA_k {l : List Ali} {t : Ali} {k : Nat} (hk : k < l.length) (hp : posA l t = k) : hasA l t = decide (aliCmp l[k] t = 0) := by subst hp; exact hasA_at hk
theorem meant_at {a : List Ali} (ok : Als a) {i : Nat} (hi : i < a.length) : meantA a a[i].source a[i].title = a[i].recd := by
  unfold meantA
  cases hf : a.find? fun x => decide (x.source = a[i].source) && decide (x.title = a[i].title) with
  | none =>
    have := List.find?_eq_none.1 hf _ (List.getElem_mem hi)
    simp at this
  | some y =>
    have h2 := List.find?_some hf
    obtain ⟨j, hj, rfl⟩ := List.mem_iff_getElem.1 (List.mem_of_find?_eq_some hf)
    simp only [Bool.and_eq_true, decide_eq_true_eq] at h2
    have hk : a[j].key = a[i].key := Prod.ext h2.1 h2.2
    have hji : j = i := by
      rcases Nat.lt_trichotomy i j with h3 | h3 | h3
      · have := List.pairwise_iff_getElem.1 ok.rise i j hi hj h3
        rw [hk, tot_A.irr] at this; cases this
      · exact h3.symm
      · have := List.pairwise_iff_getElem.1 ok.rise j i hj hi h3
        rw [hk, tot_A.irr] at this; cases this
    subst hji
    rfl
theorem meant_no {a : List Ali} {s t : ByteArray} (h : ∀ x ∈ a, ¬ (x.source = s ∧ x.title = t)) : meantA a s t = 0 := by
  unfold meantA
  cases hf : a.find? fun x => decide (x.source = s) && decide (x.title = t) with
  | none => rfl
  | some y =>
    have h2 := List.find?_some hf
    simp only [Bool.and_eq_true, decide_eq_true_eq] at h2
    exact absurd h2 (h y (List.mem_of_find?_eq_some hf))
theorem ltQA_mono {l : List Ali} (ok : Als l) (t : Ali) : ∀ a b, a ≤ b → ltQA l t b = true → ltQA l t a = true := fun a b hab h => by
  by_cases hb : b < l.length
  · rw [ltQA_at hb, decide_eq_true_eq, aliCmp_lt] at h
    refine ltQA_t (show a < l.length by omega) (aliCmp_lt.2 ?_)
    by_cases e : a = b
    · subst e; exact h
    · exact tot_A.tr (List.pairwise_iff_getElem.1 ok.rise a b (by omega) hb (by omega)) h
  · unfold ltQA at h
    rw [decide_eq_false hb] at h; cases h
/-- There: the recording is what is meant. -/
theorem hasA_yes {a : List Ali} (ok : Als a) {s t : ByteArray} {r : Int} (h : hasA a ⟨s, t, r⟩ = true) : ∃ hp : posA a ⟨s, t, r⟩ < a.length, a[posA a ⟨s, t, r⟩].recd = meantA a s t ∧ meantA a s t ≠ 0 := by
  by_cases hp : posA a ⟨s, t, r⟩ < a.length
  · rw [hasA_at hp, decide_eq_true_eq, aliCmp_zero] at h
    have h1 : a[posA a ⟨s, t, r⟩].source = s := congrArg Prod.fst h
    have h2 : a[posA a ⟨s, t, r⟩].title = t := congrArg Prod.snd h
    have h3 := meant_at ok hp
    rw [h1, h2] at h3
    have := (ok.rng _ (List.getElem_mem hp)).1
    exact ⟨hp, h3.symm, by rw [h3]; omega⟩
  · rw [hasA_e hp rfl] at h; cases h
theorem hasA_no {a : List Ali} (ok : Als a) {s t : ByteArray} {r : Int} (h : hasA a ⟨s, t, r⟩ = false) : meantA a s t = 0 := by
  refine meant_no fun x hx hst => ?_
  obtain ⟨i, hi, rfl⟩ := List.mem_iff_getElem.1 hx
  have hk : a[i].key = (⟨s, t, r⟩ : Ali).key := Prod.ext hst.1 hst.2
  have h1 := bsr_spec (ltQA_mono ok ⟨s, t, r⟩) a.length 0 a.length (by omega) (Nat.zero_le _) (fun k hk => by omega)
  have hi0 : ltQA a ⟨s, t, r⟩ i = false := ltQA_f hi (fun h2 => by rw [aliCmp_lt, hk, tot_A.irr] at h2; cases h2)
  have hle : posA a ⟨s, t, r⟩ ≤ i := Nat.not_lt.1 fun hlt => by
    have := h1.1 i (Nat.zero_le _) hlt
    rw [hi0] at this; cases this
  have hge : ¬ posA a ⟨s, t, r⟩ < i := fun hlt => by
    have h2 := h1.2 (posA a ⟨s, t, r⟩) (Nat.le_refl _) (show posA a ⟨s, t, r⟩ < a.length by omega)
    have h3 := List.pairwise_iff_getElem.1 ok.rise (posA a ⟨s, t, r⟩) i (by omega) hi hlt
    rw [ltQA_t (show posA a ⟨s, t, r⟩ < a.length by omega) (aliCmp_lt.2 (hk ▸ h3))] at h2; cases h2
  have e : posA a ⟨s, t, r⟩ = i := by omega
  rw [hasA_t hi e (aliCmp_zero.2 hk)] at h; cases h
/-! ## Sums -/
abbrev SU := List (KS × UM) × List (KU × UM)
def stU (a : List Ali) (x : Rpt) (s : SU) (u : Usd) : SU :=
  if meantA a x.source u.title ≠ 0 then (accG addU s.1 ((meantA a x.source u.title, x.period), (u.units, u.money)), s.2) else (s.1, accG addU s.2 ((x.source, u.title, x.period), (u.units, u.money)))
def stX (a : List Ali) (s : SU) (x : Rpt) : SU := x.lines.foldl (stU a x) s
def stA (a : List Ali) (l : List Rpt) : SU := l.foldl (stX a) ([], [])
def stB (a : List Ali) (x : Rpt) (s : SU) (j : Nat) : SU := (x.lines.take j).foldl (stU a x) s
theorem stB_next {a : List Ali} {x : Rpt} {s : SU} {j : Nat} (h : j < x.lines.length) : stB a x s (j + 1) = stU a x (stB a x s j) x.lines[j] := by
  unfold stB
  rw [List.take_add_one, List.getElem?_eq_getElem h, Option.toList_some, List.foldl_append]; rfl
theorem stA_next {a : List Ali} {l : List Rpt} {k : Nat} (h : k < l.length) : stA a (l.take (k + 1)) = stB a l[k] (stA a (l.take k)) l[k].lines.length := by
  unfold stA stB
  rw [List.take_add_one, List.getElem?_eq_getElem h, Option.toList_some, List.foldl_append, List.take_length]; rfl
/-- What is known, what is not: entry by entry. -/
def knE (a : List Ali) (x : Rpt) (u : Usd) : List (KS × UM) := if meantA a x.source u.title ≠ 0 then [((meantA a x.source u.title, x.period), (u.units, u.money))] else []
def opE (a : List Ali) (x : Rpt) (u : Usd) : List (KU × UM) := if meantA a x.source u.title ≠ 0 then [] else [((x.source, u.title, x.period), (u.units, u.money))]
def knA (a : List Ali) (l : List Rpt) : List (KS × UM) := l.flatMap fun x => x.lines.flatMap (knE a x)
def opA (a : List Ali) (l : List Rpt) : List (KU × UM) := l.flatMap fun x => x.lines.flatMap (opE a x)
theorem stU_eq (a : List Ali) (x : Rpt) (s : SU) (u : Usd) : stU a x s u = ((knE a x u).foldl (accG addU) s.1, (opE a x u).foldl (accG addU) s.2) := by
  unfold stU knE opE
  by_cases h : meantA a x.source u.title ≠ 0
  · rw [if_pos h, if_pos h, if_pos h]; rfl
  · rw [if_neg h, if_neg h, if_neg h]; rfl
theorem stX_eq (a : List Ali) (x : Rpt) : ∀ (us : List Usd) (s : SU), us.foldl (stU a x) s = ((us.flatMap (knE a x)).foldl (accG addU) s.1, (us.flatMap (opE a x)).foldl (accG addU) s.2)
  | [], s => rfl
  | u :: us, s => by
    rw [List.foldl_cons, stX_eq a x us, stU_eq, List.flatMap_cons, List.flatMap_cons, List.foldl_append, List.foldl_append]
theorem stA_fold (a : List Ali) : ∀ (l : List Rpt) (s : SU), l.foldl (stX a) s = ((knA a l).foldl (accG addU) s.1, (opA a l).foldl (accG addU) s.2)
  | [], s => rfl
  | x :: l, s => by
    rw [List.foldl_cons, stA_fold a l]
    unfold stX knA opA
    rw [stX_eq, List.flatMap_cons, List.flatMap_cons, List.foldl_append, List.foldl_append]
theorem stA_eq (a : List Ali) (l : List Rpt) : stA a l = (foldP addU (knA a l), foldP addU (opA a l)) := stA_fold a l ([], [])
/-- What was sold, what is not known. -/
def salesR (a : List Ali) (l : List Rpt) : List Sal := (foldO ltS addU (knA a l)).map toS
def unkR (a : List Ali) (l : List Rpt) : List Unk := (foldO ltU addU (opA a l)).map toU
/-! ### Bounds -/
structure InvS (n : Int) (s : SU) : Prop where
  n1 : NkG s.1
  n2 : NkG s.2
  b1 : ∀ p ∈ s.1, (0 ≤ p.2.1 ∧ p.2.1 ≤ 1000000000 * n) ∧ 0 ≤ p.2.2 ∧ p.2.2 ≤ 1000000000 * n
  b2 : ∀ p ∈ s.2, (0 ≤ p.2.1 ∧ p.2.1 ≤ 1000000000 * n) ∧ 0 ≤ p.2.2 ∧ p.2.2 ≤ 1000000000 * n
  k1 : ∀ p ∈ s.1, (0 ≤ p.1.1 ∧ p.1.1 ≤ 1000000) ∧ 0 ≤ p.1.2 ∧ p.1.2 ≤ 2400
  k2 : ∀ p ∈ s.2, p.1.1.size ≤ maxLen ∧ p.1.2.1.size ≤ maxLen ∧ 0 ≤ p.1.2.2 ∧ p.1.2.2 ≤ 2400
  l1 : (s.1.length : Int) ≤ n
  l2 : (s.2.length : Int) ≤ n
theorem InvS.nil : InvS 0 ([], []) := ⟨List.Pairwise.nil, List.Pairwise.nil, by simp, by simp, by simp, by simp, by simp, by simp⟩
theorem plus_bound {κ : Type} [DecidableEq κ] {L : List (κ × UM)} {n : Int} (hL : ∀ p ∈ L, (0 ≤ p.2.1 ∧ p.2.1 ≤ 1000000000 * n) ∧ 0 ≤ p.2.2 ∧ p.2.2 ≤ 1000000000 * n) (hn : 0 ≤ n) (k : κ) {u : UM} (hu : (0 ≤ u.1 ∧ u.1 ≤ 1000000000) ∧ 0 ≤ u.2 ∧ u.2 ≤ 1000000000) :
    (0 ≤ (plusG addU (findG L k) u).1 ∧ (plusG addU (findG L k) u).1 ≤ 1000000000 * (n + 1)) ∧ 0 ≤ (plusG addU (findG L k) u).2 ∧ (plusG addU (findG L k) u).2 ≤ 1000000000 * (n + 1) := by
  cases hf : findG L k with
  | none => simp only [plusG]; omega
  | some v =>
    unfold findG at hf
    cases hq : L.find? fun p => decide (p.1 = k) with
    | none => rw [hq] at hf; cases hf
    | some p =>
      rw [hq] at hf
      have := hL p (List.mem_of_find?_eq_some hq)
      have hv : p.2 = v := Option.some.inj hf
      subst hv
      simp only [plusG, addU]
      omega
theorem acc_inv {κ : Type} [DecidableEq κ] {L : List (κ × UM)} {n : Int} {K : κ → Prop} (hn : 0 ≤ n) (hk : NkG L) (hb : ∀ p ∈ L, (0 ≤ p.2.1 ∧ p.2.1 ≤ 1000000000 * n) ∧ 0 ≤ p.2.2 ∧ p.2.2 ≤ 1000000000 * n) (hK : ∀ p ∈ L, K p.1) (hl : (L.length : Int) ≤ n)
    (e : κ × UM) (he : (0 ≤ e.2.1 ∧ e.2.1 ≤ 1000000000) ∧ 0 ≤ e.2.2 ∧ e.2.2 ≤ 1000000000) (hke : K e.1) :
    NkG (accG addU L e) ∧ (∀ p ∈ accG addU L e, (0 ≤ p.2.1 ∧ p.2.1 ≤ 1000000000 * (n + 1)) ∧ 0 ≤ p.2.2 ∧ p.2.2 ≤ 1000000000 * (n + 1)) ∧ (∀ p ∈ accG addU L e, K p.1) ∧ ((accG addU L e).length : Int) ≤ n + 1 := by
  unfold accG
  refine ⟨putG_nk hk _ _, fun p hp => ?_, fun p hp => ?_, ?_⟩
  · rcases putG_mem hp with rfl | hp
    · exact plus_bound hb hn e.1 he
    · have := hb p hp; omega
  · rcases putG_mem hp with rfl | hp
    · exact hke
    · exact hK p hp
  · have := putG_len L e.1 (plusG addU (findG L e.1) e.2)
    omega
theorem InvS.step {n : Int} {s : SU} (h : InvS n s) (hn : 0 ≤ n) (a : List Ali) (x : Rpt) (u : Usd) (hr : ∀ y ∈ a, 1 ≤ y.recd ∧ y.recd ≤ 1000000) (hx : x.source.size ≤ maxLen ∧ 0 ≤ x.period ∧ x.period ≤ 2400) (hu : u.title.size ≤ maxLen ∧ (0 ≤ u.units ∧ u.units ≤ 1000000000) ∧ 0 ≤ u.money ∧ u.money ≤ 1000000000) : InvS (n + 1) (stU a x s u) := by
  have hm : 0 ≤ meantA a x.source u.title ∧ meantA a x.source u.title ≤ 1000000 := by
    unfold meantA
    cases hf : a.find? fun y => decide (y.source = x.source) && decide (y.title = u.title) with
    | none => simp
    | some y => have := hr y (List.mem_of_find?_eq_some hf); simp only [Option.map_some, Option.getD_some]; omega
  have wk : ∀ {κ : Type} {L : List (κ × UM)}, (∀ p ∈ L, (0 ≤ p.2.1 ∧ p.2.1 ≤ 1000000000 * n) ∧ 0 ≤ p.2.2 ∧ p.2.2 ≤ 1000000000 * n) → ∀ p ∈ L, (0 ≤ p.2.1 ∧ p.2.1 ≤ 1000000000 * (n + 1)) ∧ 0 ≤ p.2.2 ∧ p.2.2 ≤ 1000000000 * (n + 1) := fun h p hp => by have := h p hp; omega
  unfold stU
  have h1 := h.l1
  have h2 := h.l2
  split
  · obtain ⟨a1, a2, a3, a4⟩ := acc_inv (K := fun k : KS => (0 ≤ k.1 ∧ k.1 ≤ 1000000) ∧ 0 ≤ k.2 ∧ k.2 ≤ 2400) hn h.n1 h.b1 h.k1 h.l1 ((meantA a x.source u.title, x.period), (u.units, u.money)) hu.2 ⟨hm, hx.2⟩
    exact ⟨a1, h.n2, a2, wk h.b2, a3, h.k2, a4, by dsimp only; omega⟩
  · obtain ⟨a1, a2, a3, a4⟩ := acc_inv (K := fun k : KU => k.1.size ≤ maxLen ∧ k.2.1.size ≤ maxLen ∧ 0 ≤ k.2.2 ∧ k.2.2 ≤ 2400) hn h.n2 h.b2 h.k2 h.l2 ((x.source, u.title, x.period), (u.units, u.money)) hu.2 ⟨hx.1, hu.1, hx.2⟩
    exact ⟨h.n1, a1, wk h.b1, a2, h.k1, a3, by dsimp only; omega, a4⟩
/-! ### What a range hands out, sorted -/
def pickG {κ τ : Type} [Inhabited κ] (f : κ × UM → τ) (K : List (κ × UM)) (done : List Nat) : List τ := done.map fun i => f (K.getD i default)
theorem pickG_snoc {κ τ : Type} [Inhabited κ] (f : κ × UM → τ) (K : List (κ × UM)) (done : List Nat) {i : Nat} (hi : i < K.length) : pickG f K (done ++ [i]) = pickG f K done ++ [f K[i]] := by
  unfold pickG
  rw [List.map_append, List.map_cons, List.map_nil, List.getD_eq_getElem?_getD, List.getElem?_eq_getElem hi]; rfl
theorem pickG_perm {κ τ : Type} [Inhabited κ] (f : κ × UM → τ) (K : List (κ × UM)) {done : List Nat} (hn : done.Nodup) (hl : ∀ i ∈ done, i < K.length) (ha : ∀ i, i < K.length → i ∈ done) : (pickG f K done).Perm (K.map f) := by
  have hp : done.Perm (List.range K.length) := (List.perm_ext_iff_of_nodup hn List.nodup_range).2 fun i => ⟨fun h => List.mem_range.2 (hl i h), fun h => ha i (List.mem_range.1 h)⟩
  have h1 := hp.map fun i => f (K.getD i default)
  have h2 : (List.range K.length).map (fun i => f (K.getD i default)) = K.map f := by
    apply List.ext_getElem
    · simp
    · intro i a1 a2
      have : i < K.length := by simpa using a2
      simp [List.getD_eq_getElem?_getD, List.getElem?_eq_getElem this]
  rw [h2] at h1
  exact h1
theorem sort_pick {κ τ : Type} [DecidableEq κ] [Inhabited κ] {lt : κ → κ → Bool} (T : Tot lt) {f : κ × UM → τ} {key : τ → κ} {cf : τ → τ → Int} (hkey : ∀ p, key (f p) = p.1) (hcf : ∀ x y, ltOf cf x y = lt (key x) (key y)) (E : List (κ × UM)) {done : List Nat} (hn : done.Nodup) (hl : ∀ i ∈ done, i < (foldP addU E).length) (ha : ∀ i, i < (foldP addU E).length → i ∈ done) :
    sortF cf (pickG f (foldP addU E) done) = (foldO lt addU E).map f ∧ DistF cf (pickG f (foldP addU E) done) := by
  have hO : SWO (ltOf cf) := by
    have : ltOf cf = fun x y => lt (key x) (key y) := by funext x y; exact hcf x y
    rw [this]; exact T.swo _
  have hp := pickG_perm f (foldP addU E) hn hl ha
  have hpm : ∀ p, p ∈ foldP addU E ↔ p ∈ foldO lt addU E := fold_mem T E
  have hri : RiseF cf ((foldO lt addU E).map f) := by
    unfold RiseF
    rw [List.pairwise_map]
    exact (foldO_ri (add := addU) T E).imp fun {p q} h => by rw [hcf, hkey, hkey]; exact h
  have hd : DistF cf (pickG f (foldP addU E) done) := by
    refine distF_symm hp.symm ?_
    unfold DistF
    rw [List.pairwise_map]
    refine (foldP_nk (add := addU) T E).imp fun {p q} h => ?_
    rw [hcf, hcf, hkey, hkey]
    cases h1 : lt p.1 q.1 with
    | true => exact .inl rfl
    | false =>
      cases h2 : lt q.1 p.1 with
      | true => exact .inr rfl
      | false => exact absurd (T.tot h1 h2) h
  refine ⟨riseF_uniq hO (sortF_rise hO hd) hri fun x => ?_, hd⟩
  rw [(sortF_perm _).mem_iff, hp.mem_iff, List.mem_map, List.mem_map]
  constructor
  · rintro ⟨p, h1, h2⟩; exact ⟨p, (hpm p).1 h1, h2⟩
  · rintro ⟨p, h1, h2⟩; exact ⟨p, (hpm p).2 h1, h2⟩
/-! ### Maps, by their entries -/
section
variable {κ β : Type} [DecidableEq κ] (kv : κ → Value) (dv : κ × β → D)
def encG (L : List (κ × β)) : List (Value × D) := L.map fun p => (kv p.1, dv p)
variable {kv dv}
theorem nkG_one {L : List (κ × β)} (h : NkG L) {i j : Nat} (hi : i < L.length) (hj : j < L.length) (he : L[j].1 = L[i].1) : j = i := by
  rcases Nat.lt_trichotomy i j with h1 | h1 | h1
  · exact absurd he.symm (List.pairwise_iff_getElem.1 h i j hi hj h1)
  · exact h1.symm
  · exact absurd he (List.pairwise_iff_getElem.1 h j i hj hi h1)
theorem encG_at {L : List (κ × β)} {j : Nat} {p : Value × D} (h : (encG kv dv L)[j]? = some p) : ∃ hj : j < L.length, p = (kv L[j].1, dv L[j]) := by
  unfold encG at h
  rw [List.getElem?_map] at h
  cases h2 : L[j]? with
  | none => rw [h2] at h; cases h
  | some q =>
    rw [h2] at h
    obtain ⟨hj, rfl⟩ := List.getElem?_eq_some_iff.1 h2
    exact ⟨hj, (Option.some.inj h).symm⟩
theorem encG_one (hinj : ∀ {a b}, kv a = kv b → a = b) {L : List (κ × β)} (h : NkG L) {i : Nat} (hi : i < L.length) : ∀ (j : Nat) (p : Value × D), (encG kv dv L)[j]? = some p → p.1 = kv L[i].1 → j = i := fun j p hp he => by
  obtain ⟨hj, rfl⟩ := encG_at hp
  exact nkG_one h hi hj (hinj he)
theorem encG_no (hinj : ∀ {a b}, kv a = kv b → a = b) {L : List (κ × β)} {k : κ} (h : ¬ hasG L k = true) : ∀ p ∈ encG kv dv L, p.1 ≠ kv k := fun p hp e => by
  unfold encG at hp
  obtain ⟨q, hq, rfl⟩ := List.mem_map.1 hp
  exact h (hasG_iff.2 ⟨q, hq, hinj e⟩)
theorem mputG (hinj : ∀ {a b}, kv a = kv b → a = b) {L : List (κ × β)} (h : NkG L) (k : κ) (v : β) : MPut (encG kv dv L) (kv k) (dv (k, v)) (encG kv dv (putG L k v)) := by
  by_cases hh : hasG L k = true
  · obtain ⟨p, hp, rfl⟩ := hasG_iff.1 hh
    obtain ⟨i, hi, rfl⟩ := List.mem_iff_getElem.1 hp
    refine .inl ⟨i, dv L[i], ?_, encG_one hinj h hi, ?_⟩
    · unfold encG; rw [List.getElem?_map, List.getElem?_eq_getElem hi]; rfl
    · unfold putG
      rw [if_pos hh]
      apply List.ext_getElem
      · simp [encG]
      · intro j h1 h2
        have hj : j < L.length := by simpa [encG] using h1
        rw [List.getElem_set]
        simp only [encG, List.getElem_map]
        by_cases he : i = j
        · subst he; simp
        · have : ¬ L[j].1 = L[i].1 := fun e => he (nkG_one h hi hj e).symm
          rw [if_neg he, if_neg this]
  · refine .inr ⟨encG_no hinj hh, ?_⟩
    unfold putG
    rw [if_neg hh]
    simp [encG]
theorem mgetG (hinj : ∀ {a b}, kv a = kv b → a = b) {L : List (κ × β)} (h : NkG L) (k : κ) (zd d : D) (hd : d = match findG L k with | some v => dv (k, v) | none => zd) : MGet (encG kv dv L) (kv k) zd d := by
  subst hd
  by_cases hh : hasG L k = true
  · obtain ⟨p, hp, rfl⟩ := hasG_iff.1 hh
    obtain ⟨i, hi, rfl⟩ := List.mem_iff_getElem.1 hp
    refine .inl ⟨i, ?_, encG_one hinj h hi⟩
    rw [(findG_mem h L[i]).1 hp]
    unfold encG; rw [List.getElem?_map, List.getElem?_eq_getElem hi]; rfl
  · refine .inr ⟨encG_no hinj hh, ?_⟩
    rw [findG_none.2 (by simpa using hh)]
end


end Go.Proofs.YtekenfknoakboaaDoor


namespace Go.Proofs.YtekenfknoakboaaDoor
open Go.RowKit
set_option linter.unusedVariables false

/-! Types. -/
namespace TyM10
theorem ag_40 : AggT Tryd.prog 40 5 := .of (by kernel_rfl)
theorem et_22 : ElemTy Tryd.prog 22 40 5 64 (.agg #[(.string ⟨#[]⟩), (.int .i64 0), (.int .i64 0), (.int .i64 0), (.slice none 0 0)]) := ⟨by kernel_rfl, by kernel_rfl, by kernel_rfl, by decide⟩
theorem sz_40 : ∀ w, (sizeOf 40).run Tryd.prog w = .ok 5 w := SizeT.of (by kernel_rfl)
theorem zt_40 : (Tryd.prog.info? 40).bind (·.zero) = some (.agg #[(.string ⟨#[]⟩), (.int .i64 0), (.int .i64 0), (.int .i64 0), (.slice none 0 0)]) := by kernel_rfl
end TyM10
open TyM10


def cellsR (y : Rpt) : List S := [.d (.v (.string y.source)), .d (.v (.int .i64 y.no)), .d (.v (.int .i64 y.period)), .d (.v (.int .i64 y.corrects)), .d (.sl (y.lines.map Usd.ds))]
theorem cells_sameM {i : Nat} {a b : List S} {τ : Obs} (h : a = b) : ∀ p ∈ [(i, Ob.cells b)], p ∈ (i, Ob.cells a) :: τ := fun p hp => by
  subst h
  rw [List.mem_singleton] at hp; subst hp; exact .head _
theorem rootA_0 (l : List Rpt) (y : Rpt) : rootA l 0 y = y.no := rfl
theorem rootA_no {l : List Rpt} {y : Rpt} {d : Nat} (h : y.corrects = 0) : rootA l (d + 1) y = y.no := if_pos h
theorem rootA_cor {l : List Rpt} {y : Rpt} {d : Nat} (h : ¬ y.corrects = 0) (h2 : upTo l y l.length < 0) : rootA l (d + 1) y = y.corrects := (if_neg h).trans (if_pos h2)
theorem rootA_up {l : List Rpt} {y : Rpt} {d : Nat} (h : ¬ y.corrects = 0) (h2 : ¬ upTo l y l.length < 0) : ∃ u, ∃ hu : u < l.length, upTo l y l.length = (u : Int) ∧ rootA l (d + 1) y = rootA l d l[u] := by
  rcases up_cases (l := l) y with ⟨h1, _⟩ | ⟨u, hu, h1, _⟩
  · exact absurd h1 h2
  · refine ⟨u, hu, h1, ?_⟩
    have e : upX l y = (u : Int) := h1
    rw [rootA, if_neg h, if_neg (by omega), e, Int.toNat_natCast, gd hu]
theorem up_yes {l : List Rpt} {y : Rpt} {k : Nat} (hk : k < l.length) (h1 : l[k].source = y.source) (h2 : l[k].no = y.corrects) : upTo l y (k + 1) = (k : Int) := by
  unfold upTo
  rw [if_pos]
  rw [gd hk]
  unfold mtB
  rw [decide_eq_true h1, decide_eq_true h2]; rfl
theorem up_no {l : List Rpt} {y : Rpt} {k : Nat} (hk : k < l.length) (h : ¬ (l[k].source = y.source ∧ l[k].no = y.corrects)) : upTo l y (k + 1) = upTo l y k := by
  rw [upTo, if_neg]
  rw [gd hk]
  intro hh
  exact h (mt_key hh)
theorem sg_at {l : List Rpt} {i j : Nat} (hi : i < l.length) (hj : j < l.length) : sameG l i j = (decide (l[j].source = l[i].source) && decide (rootQ l l[j] = rootQ l l[i])) := by unfold sameG; rw [gd hj, gd hi]


set_option maxRecDepth 100000 in
set_option maxHeartbeats 1000000 in
theorem c_pValid (l : List Rpt) (ho : ∀ x ∈ l, okRpt x) : ACallT Tryd.prog MaxT 7 [.sl (l.map Rpt.ds)] (.tup [.sl ((valR l).map Rpt.ds), .v (.int .i64 (logF l))]) := by
  refine acall_ofT (n := 27) (ds' := [.sl ((valR l).map Rpt.ds), .v (.int .i64 (logF l))]) Tryd.func7 rfl (by kernel_rfl) rfl [2, 3] rfl rfl ?_
  intro B w0 F0 hT
  refine AWP.seq ?_
  refine AWP.region ?_
  refine AOps.step rfl rfl rfl (AOp.assignD rfl rfl) ?_
  refine AOps.step rfl rfl rfl (AOp.assignD rfl rfl) ?_
  refine AOps.nil ?_
  refine AWP.seq ?_
  refine AWP.seq ?_
  refine AWP.region ?_
  refine AOps.step rfl rfl rfl (AOp.moveD rfl rfl) ?_
  -- wants the world
  refine AOps.callT rfl rfl rfl hT maxT_stays rfl (.cons (ArgOk.rfl' rfl) .nil) (c_pLog l ho) ?_
  refine AOps.step rfl rfl rfl (AOp.assignD rfl rfl) ?_
  refine AOps.nil ?_
  refine AWP.seq ?_
  refine AWP.region ?_
  refine AOps.step rfl rfl rfl (AOp.moveD rfl rfl) ?_
  refine AOps.step rfl rfl rfl (AOp.neq rfl rfl rfl) ?_
  refine AOps.nil ?_
  refine AWP.cond rfl (fun h1 => ?_) (fun h1 => ?_)
  · replace h1 := of_decide_eq_true h1
    have HV : valR l = [] := if_neg h1
    rw [HV]
    refine AWP.seq ?_
    refine AWP.region ?_
    refine AOps.step rfl rfl rfl (AOp.moveD rfl rfl) ?_
    refine AOps.step rfl rfl rfl (AOp.assignD rfl rfl) ?_
    refine AOps.step rfl rfl rfl (AOp.assignD rfl rfl) ?_
    refine AOps.nil ?_
    refine AWP.ret ?_
    refine ⟨RetD.nil rfl, RetD.eq rfl ?_, trivial⟩
    all_goals (rfl)
  · replace h1 := of_decide_eq_false h1
    have h0 : logF l = 0 := by omega
    have hl := log_of h0
    have hll := hl.len
    have HV : valR l = validR l := if_pos h0
    rw [HV, h0]
    have hvl : (validR l).length ≤ l.length := List.length_filter_le _ _
    refine AWP.skip ?_
    refine AWP.seq ?_
    refine AWP.region ?_
    refine AOps.step rfl rfl rfl (AOp.assignD rfl rfl) ?_
    refine AOps.nil ?_
    refine AWP.seq ?_
    refine AWP.seq ?_
    refine AWP.region ?_
    refine AOps.step rfl rfl rfl (AOp.moveD rfl rfl) ?_
    refine AOps.step rfl rfl rfl (AOp.call rfl (.cons (ArgOk.rfl' rfl) .nil) (c_pVal l hl ho)) ?_
    refine AOps.step rfl rfl rfl (AOp.lenSl rfl et_22.ht rfl) ?_
    refine AOps.step rfl rfl rfl (AOp.moveD rfl rfl) ?_
    refine AOps.nil ?_
    refine AWP.block ?_
    refine AWP.adopt 5 61 40 5 rfl rfl ?_
    refine AWP.loop (G := Nat) (fun k => Env.of [(16, .d (.v (.int .i64 (k : Int)))), (14, .d (.sl ((validR l).map Rpt.ds))), (15, .d (.v (.int .i64 (((validR l).map Rpt.ds).length : Int)))), (5, .own 61)]) (fun k => [(61, .row 40 5 (((validR l).take k).map Rpt.ds))]) (fun k => k ≤ (validR l).length) (fun k => (validR l).length - k) 0 (Nat.zero_le _) (Sub.less ⟨(SLe.of_eq rfl), SLe.refl _, SLe.refl _, SLe.refl _, trivial⟩ (row_sameM rfl)) ?_
    intro k hk
    refine AWP.seq ?_
    refine AWP.region ?_
    refine AOps.step rfl rfl rfl (AOp.lss rfl rfl rfl) ?_
    refine AOps.nil ?_
    refine AWP.seq ?_
    refine AWP.cond rfl (fun h2 => ?_) (fun h2 => ?_)
    · replace h2 := of_decide_eq_true h2
      rw [List.length_map] at h2
      have hlt : k < (validR l).length := by omega
      refine AWP.skip ?_
      refine AWP.seq ?_
      refine AWP.block ?_
      refine AWP.seq ?_
      refine AWP.region ?_
      refine AOps.step rfl rfl rfl (AOp.indexAddr rfl et_22 rfl rfl k rfl (at_lst hlt) rfl) ?_
      refine AOps.step rfl rfl rfl (AOp.loadAgg rfl ag_40 rfl rfl) ?_
      refine AOps.alloc 101 rfl rfl rfl rfl zt_40 rfl rfl rfl ?_
      refine AOps.store rfl rfl rfl sz_40 rfl (.head _) rfl rfl rfl (Nat.le_of_ble_eq_true rfl) ?_
      refine AOps.freezeCells 7 (ds := (validR l)[k].ds) rfl (.head _) ?_
      refine AOps.nil ?_
      refine AWP.region ?_
      refine AOps.step rfl rfl rfl (AOp.moveO rfl rfl) ?_
      refine AOps.step rfl rfl rfl (AOp.loadAgg rfl ag_40 rfl rfl) ?_
      refine AOps.step rfl rfl rfl (AOp.call rfl (.cons (ArgOk.rfl' rfl) .nil) (c_own (validR l)[k] (by have := rpt_lines (hl.ok _ (List.mem_filter.1 (List.getElem_mem hlt)).1); omega))) ?_
      refine AOps.step rfl rfl rfl (AOp.buildSlice rfl et_22 (.cons rfl rfl rfl .nil) rfl (by decide)) ?_
      -- append 24
      refine AOps.append rfl rfl rfl rfl et_22 rfl (.head _) rfl (fun y hy => by obtain rfl := List.mem_singleton.1 hy; rfl) (by simp; omega) (by simp; omega) ?_
      refine AOps.step rfl rfl rfl (AOp.assignO rfl rfl) ?_
      refine AOps.nil ?_
      refine AWP.region ?_
      refine AOps.step rfl rfl rfl (AOp.add64 rfl rfl rfl (by omega) (by omega)) ?_
      refine AOps.step rfl rfl rfl (AOp.moveD rfl rfl) ?_
      refine AOps.nil ?_
      refine ⟨k + 1, (by omega), (by dsimp only; omega), Sub.less ⟨(SLe.of_eq rfl), SLe.refl _, SLe.refl _, SLe.refl _, trivial⟩ (row_sameM (by rw [List.take_add_one, List.getElem?_eq_getElem hlt, Option.toList_some, List.map_append]; rfl))⟩
    · replace h2 := of_decide_eq_false h2
      rw [List.length_map] at h2
      obtain rfl : k = (validR l).length := by omega
      rw [List.take_length]
      refine AWP.exit ?_
      refine AWP.seq ?_
      refine AWP.region ?_
      refine AOps.step rfl rfl rfl (AOp.moveO rfl rfl) ?_
      refine AOps.step rfl rfl rfl (AOp.assignO rfl rfl) ?_
      refine AOps.step rfl rfl rfl (AOp.assignD rfl rfl) ?_
      refine AOps.nil ?_
      refine AWP.ret ?_
      refine ⟨RetD.own rfl (.head _) ?_, RetD.eq rfl ?_, trivial⟩
      all_goals (rfl)

end Go.Proofs.YtekenfknoakboaaDoor


namespace Go.Proofs.YtekenfknoakboaaDoor
open Go.RowKit
set_option linter.unusedVariables false

/-! Types. -/
namespace TyO2
theorem ag_94 : AggT Tryd.prog 94 3 := .of (by kernel_rfl)
theorem et_23 : ElemTy Tryd.prog 23 94 3 40 (.agg #[(.string ⟨#[]⟩), (.string ⟨#[]⟩), (.int .i64 0)]) := ⟨by kernel_rfl, by kernel_rfl, by kernel_rfl, by decide⟩
end TyO2
open TyO2


open Go.Sort Go.Lib
theorem wf64 {n : Int} (hn : -9223372036854775808 ≤ n ∧ n ≤ 9223372036854775807) : (Lit.int .i64 n).wf = true := by
  have h1 : IntKind.i64.min = -9223372036854775808 := by decide
  have h2 : IntKind.i64.max = 9223372036854775807 := by decide
  simp only [Lit.wf, Bool.and_eq_true, decide_eq_true_eq, h1, h2]
  exact hn
def keyBi (P : Program) (k : TypeId) : Bool := match P.underlying k with
  | some (.struct fs) => (match fs.toList with
    | [f, g] => f.name != "_" && g.name != "_" && f.offset == 0 && g.offset == 1 && isI64T (P.underlying f.type) && isI64T (P.underlying g.type) && P.cellsOf f.type == 1 && P.cellsOf g.type == 1
    | _ => false) && P.cellsOf k == 2
  | _ => false
def keyBs (P : Program) (k : TypeId) : Bool := match P.underlying k with
  | some (.struct fs) => (match fs.toList with
    | [f, h, g] => ((f.name != "_" && f.offset == 0 && isStrT (P.underlying f.type) && P.cellsOf f.type == 1) && (h.name != "_" && h.offset == 1 && isStrT (P.underlying h.type) && P.cellsOf h.type == 1)) && (g.name != "_" && g.offset == 2 && isI64T (P.underlying g.type) && P.cellsOf g.type == 1)
    | _ => false) && P.cellsOf k == 3
  | _ => false
theorem keyBi_ok {P : Program} {k : TypeId} (h : keyBi P k = true) (hk : P.keyType k = true) (h0 : k < P.types.size) (s n : Int) (hs : (Lit.int .i64 s).wf = true) (hn : (Lit.int .i64 n).wf = true) : ∃ l, keyOf P k (.agg #[.int .i64 s, .int .i64 n]) = some l := by
  unfold keyBi at h
  cases hu : P.underlying k with
  | none => rw [hu] at h; cases h
  | some td =>
    rw [hu] at h
    cases td <;> try (cases h; done)
    rename_i fs
    simp only [Bool.and_eq_true] at h
    obtain ⟨h1, h2⟩ := h
    cases hf : fs.toList with
    | nil => rw [hf] at h1; cases h1
    | cons f r =>
      cases r with
      | nil => rw [hf] at h1; cases h1
      | cons g r =>
        cases r with
        | cons _ _ => rw [hf] at h1; cases h1
        | nil =>
          rw [hf] at h1
          simp only [Bool.and_eq_true, beq_iff_eq] at h1 h2
          obtain ⟨⟨⟨⟨⟨⟨⟨a1, a2⟩, a3⟩, a4⟩, a5⟩, a6⟩, a7⟩, a8⟩ := h1
          have a5' := isI64T_eq a5
          have a6' := isI64T_eq a6
          obtain ⟨m, hm⟩ : ∃ m, P.types.size = m + 1 := ⟨P.types.size - 1, (Nat.sub_add_cancel (Nat.lt_of_le_of_lt (Nat.zero_le k) h0)).symm⟩
          have hall : fs.all (·.name != "_") = true := by
            rw [← Array.all_toList, hf]
            simp only [List.all_cons, List.all_nil, a1, a2, Bool.and_self]
          unfold keyOf
          rw [hu]
          simp only [hk, Value.formed, hu, h2, Bool.true_and]
          refine ⟨.string (keyBytes [.int .i64 s, .int .i64 n]), ?_⟩
          have kf : P.keyLits (m + 1) f.type [.int .i64 s] = some [.int .i64 s] := by
            unfold Program.keyLits
            rw [a5']
            simp [hs]
          have kg : P.keyLits (m + 1) g.type [.int .i64 n] = some [.int .i64 n] := by
            unfold Program.keyLits
            rw [a6']
            simp [hn]
          have c1 : (([Value.int .i64 s, .int .i64 n] : List Value).drop f.offset).take (P.cellsOf f.type) = [.int .i64 s] := by rw [a3, a7]; rfl
          have c2 : (([Value.int .i64 s, .int .i64 n] : List Value).drop g.offset).take (P.cellsOf g.type) = [.int .i64 n] := by rw [a4, a8]; rfl
          have hk2 : P.keyLits (m + 1 + 1) k [.int .i64 s, .int .i64 n] = some [.int .i64 s, .int .i64 n] := by
            unfold Program.keyLits
            rw [hu]
            simp only [List.length_cons, List.length_nil, h2, hall, and_self, if_true, hf, List.mapM_cons, List.mapM_nil, c1, c2, kf, kg]
            rfl
          simp [Value.cells, hm, hk2]

theorem keyBs_ok {P : Program} {k : TypeId} (h : keyBs P k = true) (hk : P.keyType k = true) (h0 : k < P.types.size) (s t : ByteArray) (n : Int) (hs : s.size ≤ maxLen) (ht : t.size ≤ maxLen) (hn : (Lit.int .i64 n).wf = true) : ∃ l, keyOf P k (.agg #[.string s, .string t, .int .i64 n]) = some l := by
  unfold keyBs at h
  cases hu : P.underlying k with
  | none => rw [hu] at h; cases h
  | some td =>
    rw [hu] at h
    cases td <;> try (cases h; done)
    rename_i fs
    simp only [Bool.and_eq_true] at h
    obtain ⟨h1, h2⟩ := h
    cases hf : fs.toList with
    | nil => rw [hf] at h1; cases h1
    | cons f r =>
      cases r with
      | nil => rw [hf] at h1; cases h1
      | cons f2 r =>
        cases r with
        | nil => rw [hf] at h1; cases h1
        | cons g r =>
          cases r with
          | cons _ _ => rw [hf] at h1; cases h1
          | nil =>
            rw [hf] at h1
            simp only [Bool.and_eq_true, beq_iff_eq] at h1 h2
            obtain ⟨⟨⟨a1, a3⟩, a5⟩, a7⟩ := h1.1.1
            obtain ⟨⟨⟨b1, b3⟩, b5⟩, b7⟩ := h1.1.2
            obtain ⟨⟨⟨d1, d3⟩, d5⟩, d7⟩ := h1.2
            have a5' := isStrT_eq a5
            have b5' := isStrT_eq b5
            have d5' := isI64T_eq d5
            obtain ⟨m, hm⟩ : ∃ m, P.types.size = m + 1 := ⟨P.types.size - 1, (Nat.sub_add_cancel (Nat.lt_of_le_of_lt (Nat.zero_le k) h0)).symm⟩
            have hall : fs.all (·.name != "_") = true := by
              rw [← Array.all_toList, hf]
              simp only [List.all_cons, List.all_nil, a1, b1, d1, Bool.and_self]
            unfold keyOf
            rw [hu]
            simp only [hk, Value.formed, hu, h2, Bool.true_and]
            refine ⟨.string (keyBytes [.string s.data.toList, .string t.data.toList, .int .i64 n]), ?_⟩
            have kf : P.keyLits (m + 1) f.type [.string s] = some [.string s.data.toList] := by
              unfold Program.keyLits
              rw [a5']
              simp [hs]
            have kf2 : P.keyLits (m + 1) f2.type [.string t] = some [.string t.data.toList] := by
              unfold Program.keyLits
              rw [b5']
              simp [ht]
            have kg : P.keyLits (m + 1) g.type [.int .i64 n] = some [.int .i64 n] := by
              unfold Program.keyLits
              rw [d5']
              simp [hn]
            have c1 : (([Value.string s, .string t, .int .i64 n] : List Value).drop f.offset).take (P.cellsOf f.type) = [.string s] := by rw [a3, a7]; rfl
            have c2 : (([Value.string s, .string t, .int .i64 n] : List Value).drop f2.offset).take (P.cellsOf f2.type) = [.string t] := by rw [b3, b7]; rfl
            have c3 : (([Value.string s, .string t, .int .i64 n] : List Value).drop g.offset).take (P.cellsOf g.type) = [.int .i64 n] := by rw [d3, d7]; rfl
            have hk2 : P.keyLits (m + 1 + 1) k [.string s, .string t, .int .i64 n] = some [.string s.data.toList, .string t.data.toList, .int .i64 n] := by
              unfold Program.keyLits
              rw [hu]
              simp only [List.length_cons, List.length_nil, h2, hall, and_self, if_true, hf, List.mapM_cons, List.mapM_nil, c1, c2, c3, kf, kf2, kg]
              rfl
            simp [Value.cells, hm, hk2]

theorem krow_S : (97 : TypeId) < Tryd.prog.types.size := of_decide_eq_true (by kernel_rfl)
theorem krow_U : (99 : TypeId) < Tryd.prog.types.size := of_decide_eq_true (by kernel_rfl)
theorem kwide_S : (match Tryd.prog.underlying 97 with | some (.array _ _) | some (.struct _) => true | _ => false) = true := by kernel_rfl
theorem kwide_U : (match Tryd.prog.underlying 99 with | some (.array _ _) | some (.struct _) => true | _ => false) = true := by kernel_rfl
set_option maxRecDepth 100000 in
theorem kd_S : Maps.Keyed Tryd.prog 97 := Maps.Keyed.of_law (deep_law_laid klaid (m := 3) (by omega) krow_S (by kernel_rfl) kwide_S)
set_option maxRecDepth 100000 in
theorem kd_U : Maps.Keyed Tryd.prog 99 := Maps.Keyed.of_law (deep_law_laid klaid (m := 3) (by omega) krow_U (by kernel_rfl) kwide_U)
def keyS (k : KS) : Value := .agg #[.int .i64 k.1, .int .i64 k.2]
def keyU (k : KU) : Value := .agg #[.string k.1, .string k.2.1, .int .i64 k.2.2]
theorem keyS_ok (k : KS) (h1 : -9223372036854775808 ≤ k.1 ∧ k.1 ≤ 9223372036854775807) (h2 : -9223372036854775808 ≤ k.2 ∧ k.2 ≤ 9223372036854775807) : ∃ l, keyOf Tryd.prog 97 (keyS k) = some l :=
  keyBi_ok (by kernel_rfl) (by kernel_rfl) krow_S k.1 k.2 (wf64 h1) (wf64 h2)
theorem keyU_ok (k : KU) (h1 : k.1.size ≤ maxLen) (h2 : k.2.1.size ≤ maxLen) (h3 : -9223372036854775808 ≤ k.2.2 ∧ k.2.2 ≤ 9223372036854775807) : ∃ l, keyOf Tryd.prog 99 (keyU k) = some l :=
  keyBs_ok (by kernel_rfl) (by kernel_rfl) krow_U k.1 k.2.1 k.2.2 h1 h2 (wf64 h3)
theorem keyS_inj {a b : KS} (h : keyS a = keyS b) : a = b := by
  unfold keyS at h
  simp only [Value.agg.injEq] at h
  have h2 : [Value.int .i64 a.1, .int .i64 a.2] = [.int .i64 b.1, .int .i64 b.2] := congrArg Array.toList h
  simp at h2
  exact Prod.ext h2.1 h2.2
theorem keyU_inj {a b : KU} (h : keyU a = keyU b) : a = b := by
  unfold keyU at h
  simp only [Value.agg.injEq] at h
  have h2 : [Value.string a.1, .string a.2.1, .int .i64 a.2.2] = [.string b.1, .string b.2.1, .int .i64 b.2.2] := congrArg Array.toList h
  simp at h2
  exact Prod.ext h2.1 (Prod.ext h2.2.1 h2.2.2)
def encS (L : List (KS × UM)) : List (Value × D) := L.map fun p => (keyS p.1, .agg (toS p).ds)
def encU (L : List (KU × UM)) : List (Value × D) := L.map fun p => (keyU p.1, .agg (toU p).ds)
/-- What a look-up gives. -/
def getS (L : List (KS × UM)) (k : KS) : Sal := match findG L k with
  | some v => toS (k, v)
  | none => default
def getU (L : List (KU × UM)) (k : KU) : Unk := match findG L k with
  | some v => toU (k, v)
  | none => default
theorem mput_S {L : List (KS × UM)} (h : NkG L) (k : KS) (v : UM) {d : D} (hd : d = .agg (toS (k, v)).ds) : MPut (encS L) (keyS k) d (encS (putG L k v)) := by
  subst hd
  exact mputG (kv := keyS) (dv := fun p => .agg (toS p).ds) keyS_inj h k v
theorem mput_U {L : List (KU × UM)} (h : NkG L) (k : KU) (v : UM) {d : D} (hd : d = .agg (toU (k, v)).ds) : MPut (encU L) (keyU k) d (encU (putG L k v)) := by
  subst hd
  exact mputG (kv := keyU) (dv := fun p => .agg (toU p).ds) keyU_inj h k v
theorem mget_S {L : List (KS × UM)} (h : NkG L) (k : KS) : MGet (encS L) (keyS k) (.agg (default : Sal).ds) (.agg (getS L k).ds) :=
  mgetG (kv := keyS) (dv := fun p => .agg (toS p).ds) keyS_inj h k _ _ (by unfold getS; cases findG L k <;> rfl)
theorem mget_U {L : List (KU × UM)} (h : NkG L) (k : KU) : MGet (encU L) (keyU k) (.agg (default : Unk).ds) (.agg (getU L k).ds) :=
  mgetG (kv := keyU) (dv := fun p => .agg (toU p).ds) keyU_inj h k _ _ (by unfold getU; cases findG L k <;> rfl)
theorem get_plus_S (L : List (KS × UM)) (k : KS) (u m : Int) : (getS L k).units + u = (plusG addU (findG L k) (u, m)).1 ∧ (getS L k).money + m = (plusG addU (findG L k) (u, m)).2 := by
  unfold getS plusG
  cases findG L k with
  | none => exact ⟨Int.zero_add _, Int.zero_add _⟩
  | some v => exact ⟨rfl, rfl⟩
theorem get_plus_U (L : List (KU × UM)) (k : KU) (u m : Int) : (getU L k).units + u = (plusG addU (findG L k) (u, m)).1 ∧ (getU L k).money + m = (plusG addU (findG L k) (u, m)).2 := by
  unfold getU plusG
  cases findG L k with
  | none => exact ⟨Int.zero_add _, Int.zero_add _⟩
  | some v => exact ⟨rfl, rfl⟩
theorem get_bound_S {L : List (KS × UM)} {n : Int} (hL : ∀ p ∈ L, (0 ≤ p.2.1 ∧ p.2.1 ≤ 1000000000 * n) ∧ 0 ≤ p.2.2 ∧ p.2.2 ≤ 1000000000 * n) (hn : 0 ≤ n) (k : KS) : (0 ≤ (getS L k).units ∧ (getS L k).units ≤ 1000000000 * n) ∧ 0 ≤ (getS L k).money ∧ (getS L k).money ≤ 1000000000 * n := by
  unfold getS findG
  cases hq : L.find? fun p => decide (p.1 = k) with
  | none =>
    show (0 ≤ (0 : Int) ∧ (0 : Int) ≤ 1000000000 * n) ∧ 0 ≤ (0 : Int) ∧ (0 : Int) ≤ 1000000000 * n
    omega
  | some p => exact hL p (List.mem_of_find?_eq_some hq)
theorem get_bound_U {L : List (KU × UM)} {n : Int} (hL : ∀ p ∈ L, (0 ≤ p.2.1 ∧ p.2.1 ≤ 1000000000 * n) ∧ 0 ≤ p.2.2 ∧ p.2.2 ≤ 1000000000 * n) (hn : 0 ≤ n) (k : KU) : (0 ≤ (getU L k).units ∧ (getU L k).units ≤ 1000000000 * n) ∧ 0 ≤ (getU L k).money ∧ (getU L k).money ≤ 1000000000 * n := by
  unfold getU findG
  cases hq : L.find? fun p => decide (p.1 = k) with
  | none =>
    show (0 ≤ (0 : Int) ∧ (0 : Int) ≤ 1000000000 * n) ∧ 0 ≤ (0 : Int) ∧ (0 : Int) ≤ 1000000000 * n
    omega
  | some p => exact hL p (List.mem_of_find?_eq_some hq)
theorem encS_ok {n : Int} {s : SU} (h : InvS n s) : ∀ p ∈ encS s.1, ∃ l, keyOf Tryd.prog 97 p.1 = some l := fun p hp => by
  unfold encS at hp
  obtain ⟨q, hq, rfl⟩ := List.mem_map.1 hp
  have := h.k1 q hq
  exact keyS_ok q.1 (by omega) (by omega)
theorem encU_ok {n : Int} {s : SU} (h : InvS n s) : ∀ p ∈ encU s.2, ∃ l, keyOf Tryd.prog 99 p.1 = some l := fun p hp => by
  unfold encU at hp
  obtain ⟨q, hq, rfl⟩ := List.mem_map.1 hp
  have := h.k2 q hq
  exact keyU_ok q.1 this.1 this.2.1 (by omega)
theorem zt_S : (Tryd.prog.info? 35).bind (·.zero) = some (.agg #[.int .i64 0, .int .i64 0, .int .i64 0, .int .i64 0]) := by kernel_rfl
theorem zt_U : (Tryd.prog.info? 37).bind (·.zero) = some (.agg #[.string ⟨#[]⟩, .string ⟨#[]⟩, .int .i64 0, .int .i64 0, .int .i64 0]) := by kernel_rfl
theorem zd_S (F : Nat → Prop) (w : World) : Rep F w (.agg #[.int .i64 0, .int .i64 0, .int .i64 0, .int .i64 0]) (.agg (default : Sal).ds) := rep_aggv [.int .i64 0, .int .i64 0, .int .i64 0, .int .i64 0] rfl
theorem zd_U (F : Nat → Prop) (w : World) : Rep F w (.agg #[.string ⟨#[]⟩, .string ⟨#[]⟩, .int .i64 0, .int .i64 0, .int .i64 0]) (.agg (default : Unk).ds) := rep_aggv [.string ⟨#[]⟩, .string ⟨#[]⟩, .int .i64 0, .int .i64 0, .int .i64 0] rfl
theorem mt_S : Tryd.prog.underlying 89 = some (.map 97 35) := by kernel_rfl
theorem mt_U : Tryd.prog.underlying 90 = some (.map 99 37) := by kernel_rfl


set_option maxRecDepth 100000 in
set_option maxHeartbeats 1000000 in
theorem c_bsA (l : List Ali) (x : Ali) (hl : l.length ≤ 100000) : ACall Tryd.prog 35 [.sl (l.map Ali.ds), .agg x.ds, .clo (.func 36) []] (.tup [.v (.int .i64 (posA l x : Int)), .v (.bool (hasA l x))]) := by
  refine acall_of (n := 49) (ds' := [.v (.int .i64 (posA l x : Int)), .v (.bool (hasA l x))]) Tryd.func35 rfl (by kernel_rfl) rfl [6, 7] rfl rfl ?_
  intro B w0 F0 fr
  refine AWP.seq ?_
  refine AWP.region ?_
  refine AOps.step rfl rfl rfl (AOp.box rfl rfl rfl) ?_
  refine AOps.step rfl rfl rfl (AOp.assignD rfl rfl) ?_
  refine AOps.step rfl rfl rfl (AOp.assignD rfl rfl) ?_
  refine AOps.nil ?_
  refine AWP.seq ?_
  refine AWP.region ?_
  refine AOps.step rfl rfl rfl (AOp.moveD rfl rfl) ?_
  refine AOps.step rfl rfl rfl (AOp.lenSl rfl et_23.ht rfl) ?_
  refine AOps.step rfl rfl rfl (AOp.assignD rfl rfl) ?_
  refine AOps.nil ?_
  refine AWP.seq ?_
  refine AWP.region ?_
  refine AOps.step rfl rfl rfl (AOp.moveD rfl rfl) ?_
  refine AOps.step rfl rfl rfl (AOp.assignD rfl rfl) ?_
  refine AOps.step rfl rfl rfl (AOp.assignD rfl rfl) ?_
  refine AOps.nil ?_
  refine AWP.seq ?_
  refine AWP.block ?_
  refine AWP.loop (G := Nat × Nat) (fun g => Env.of [(9, .d (.v (.int .i64 (g.1 : Int)))), (10, .d (.v (.int .i64 (g.2 : Int)))), (8, .d (.v (.int .i64 (l.length : Int)))), (0, .d (.sl (l.map Ali.ds))), (4, .d (.fp x.ds)), (2, .d (.clo (.func 36) []))]) (fun g => []) (fun g => g.1 ≤ g.2 ∧ g.2 ≤ l.length ∧ posA l x = bsr (ltQA l x) g.1 g.2) (fun g => g.2 - g.1) (0, l.length) ⟨Nat.zero_le _, Nat.le_refl _, rfl⟩ (Sub.less ⟨(SLe.i64 rfl), (SLe.i64 (by simp)), (SLe.i64 (by simp)), SLe.refl _, SLe.refl _, SLe.refl _, trivial⟩ (fun _ h => h)) ?_
  rintro ⟨i, j⟩ ⟨hij, hjl, hb⟩
  dsimp only at hij hjl hb ⊢
  refine AWP.seq ?_
  refine AWP.seq ?_
  refine AWP.region ?_
  refine AOps.step rfl rfl rfl (AOp.moveD rfl rfl) ?_
  refine AOps.step rfl rfl rfl (AOp.moveD rfl rfl) ?_
  refine AOps.step rfl rfl rfl (AOp.lss rfl rfl rfl) ?_
  refine AOps.nil ?_
  refine AWP.cond rfl (fun h1 => ?_) (fun h1 => ?_)
  · replace h1 := of_decide_eq_true h1
    have hlt : i < j := by omega
    refine AWP.skip ?_
    refine AWP.block ?_
    refine AWP.seq ?_
    refine AWP.region ?_
    refine AOps.step rfl rfl rfl (AOp.moveD rfl rfl) ?_
    refine AOps.step rfl rfl rfl (AOp.moveD rfl rfl) ?_
    refine AOps.step rfl rfl rfl (AOp.add64 rfl rfl rfl (by omega) (by omega)) ?_
    refine AOps.step rfl rfl rfl (AOp.convSame rfl (by kernel_rfl) rfl (wrapU64 (by omega) (by omega))) ?_
    refine AOps.step rfl rfl rfl (AOp.half rfl rfl rfl) ?_
    refine AOps.step rfl rfl rfl (AOp.convSame rfl (by kernel_rfl) rfl (w64 (by omega) (by omega))) ?_
    refine AOps.step rfl rfl rfl (AOp.assignD rfl rfl) ?_
    refine AOps.nil ?_
    refine AWP.seq ?_
    refine AWP.draw (by kernel_rfl) (by kernel_rfl) ?_
    refine DRun.step rfl rfl rfl (AOp.moveD rfl rfl) ?_
    refine DRun.step rfl rfl rfl (AOp.moveD rfl rfl) ?_
    refine DRun.step rfl rfl rfl (AOp.moveD rfl rfl) ?_
    refine DRun.step rfl rfl rfl (AOp.indexAddr rfl et_23 rfl rfl ((i + j) / 2) (by omega) (at_lst (by omega)) rfl) ?_
    refine DRun.step rfl rfl rfl (AOp.loadAgg rfl ag_94 rfl rfl) ?_
    refine DRun.step rfl rfl rfl (AOp.loadAgg rfl ag_94 rfl rfl) ?_
    refine DRun.step rfl rfl rfl (AOp.callClo rfl rfl (.cons (ArgOk.rfl' rfl) (.cons (ArgOk.rfl' rfl) .nil)) (c_cmpAli l[(i + j) / 2] x)) ?_
    refine DRun.step rfl rfl rfl (AOp.lss rfl rfl rfl) ?_
    refine DRun.nil ?_
    refine AWP.cond rfl (fun h2 => ?_) (fun h2 => ?_)
    · replace h2 := of_decide_eq_true h2
      have HB := bsr_up hlt (ltQA_t (by omega) h2)
      refine AWP.region ?_
      refine AOps.step rfl rfl rfl (AOp.moveD rfl rfl) ?_
      refine AOps.step rfl rfl rfl (AOp.add64 rfl rfl rfl (by omega) (by omega)) ?_
      refine AOps.step rfl rfl rfl (AOp.assignD rfl rfl) ?_
      refine AOps.nil ?_
      refine ⟨((i + j) / 2 + 1, j), ⟨by dsimp only; omega, by dsimp only; omega, by dsimp only; rw [hb]; exact HB⟩, (by dsimp only; omega), Sub.less ⟨(SLe.i64 (by dsimp only; omega)), (SLe.refl _), SLe.refl _, SLe.refl _, SLe.refl _, SLe.refl _, trivial⟩ (fun _ h => h)⟩
    · replace h2 := of_decide_eq_false h2
      have HB := bsr_dn hlt (ltQA_f (by omega) h2)
      refine AWP.region ?_
      refine AOps.step rfl rfl rfl (AOp.moveD rfl rfl) ?_
      refine AOps.step rfl rfl rfl (AOp.assignD rfl rfl) ?_
      refine AOps.nil ?_
      refine ⟨(i, (i + j) / 2), ⟨by dsimp only; omega, by dsimp only; omega, by dsimp only; rw [hb]; exact HB⟩, (by dsimp only; omega), Sub.less ⟨(SLe.refl _), (SLe.i64 (by dsimp only; omega)), SLe.refl _, SLe.refl _, SLe.refl _, SLe.refl _, trivial⟩ (fun _ h => h)⟩
  · replace h1 := of_decide_eq_false h1
    rw [bsr_end (by omega)] at hb
    refine AWP.exit ?_
    refine AWP.seq ?_
    refine AWP.draw (by kernel_rfl) (by kernel_rfl) ?_
    refine DRun.step rfl rfl rfl (AOp.moveD rfl rfl) ?_
    refine DRun.step rfl rfl rfl (AOp.moveD rfl rfl) ?_
    refine DRun.step rfl rfl rfl (AOp.moveD rfl rfl) ?_
    refine DRun.step rfl rfl rfl (AOp.lss rfl rfl rfl) ?_
    refine DRun.step rfl rfl rfl (AOp.moveD rfl rfl) ?_
    refine DRun.split 39 rfl (fun g3 => ?_) (fun g3 => ?_)
    · replace g3 := of_decide_eq_true g3
      have hil : i < l.length := by omega
      refine DRun.step ⟨39, rfl, .inl ⟨_, rfl, rfl⟩⟩ rfl rfl (AOp.moveD rfl rfl) ?_
      refine DRun.step ⟨39, rfl, .inl ⟨_, rfl, rfl⟩⟩ rfl rfl (AOp.moveD rfl rfl) ?_
      refine DRun.step ⟨39, rfl, .inl ⟨_, rfl, rfl⟩⟩ rfl rfl (AOp.moveD rfl rfl) ?_
      refine DRun.step ⟨39, rfl, .inl ⟨_, rfl, rfl⟩⟩ rfl rfl (AOp.indexAddr rfl et_23 rfl rfl i rfl (at_lst hil) rfl) ?_
      refine DRun.step ⟨39, rfl, .inl ⟨_, rfl, rfl⟩⟩ rfl rfl (AOp.loadAgg rfl ag_94 rfl rfl) ?_
      refine DRun.step ⟨39, rfl, .inl ⟨_, rfl, rfl⟩⟩ rfl rfl (AOp.loadAgg rfl ag_94 rfl rfl) ?_
      refine DRun.step ⟨39, rfl, .inl ⟨_, rfl, rfl⟩⟩ rfl rfl (AOp.callClo rfl rfl (.cons (ArgOk.rfl' rfl) (.cons (ArgOk.rfl' rfl) .nil)) (c_cmpAli l[i] x)) ?_
      refine DRun.step ⟨39, rfl, .inl ⟨_, rfl, rfl⟩⟩ rfl rfl (AOp.eql rfl rfl rfl) ?_
      refine DRun.step rfl rfl rfl (AOp.pickT rfl rfl rfl) ?_
      refine DRun.step rfl rfl rfl (AOp.assignD rfl rfl) ?_
      refine DRun.step rfl rfl rfl (AOp.assignD rfl rfl) ?_
      refine DRun.nil ?_
      refine AWP.ret ?_
      refine ⟨RetD.eq rfl ?_, RetD.eq rfl ?_, trivial⟩
      all_goals (first | rfl | rw [hb] | rw [HX] | rw [hasA_k hil hb])
    · replace g3 := of_decide_eq_false g3
      have HX : hasA l x = false := hasA_e (by omega) hb
      refine DRun.pass ⟨39, rfl, .inl ⟨_, rfl, rfl⟩⟩ rfl rfl ?_
      refine DRun.pass ⟨39, rfl, .inl ⟨_, rfl, rfl⟩⟩ rfl rfl ?_
      refine DRun.pass ⟨39, rfl, .inl ⟨_, rfl, rfl⟩⟩ rfl rfl ?_
      refine DRun.pass ⟨39, rfl, .inl ⟨_, rfl, rfl⟩⟩ rfl rfl ?_
      refine DRun.pass ⟨39, rfl, .inl ⟨_, rfl, rfl⟩⟩ rfl rfl ?_
      refine DRun.pass ⟨39, rfl, .inl ⟨_, rfl, rfl⟩⟩ rfl rfl ?_
      refine DRun.pass ⟨39, rfl, .inl ⟨_, rfl, rfl⟩⟩ rfl rfl ?_
      refine DRun.pass ⟨39, rfl, .inl ⟨_, rfl, rfl⟩⟩ rfl rfl ?_
      refine DRun.step rfl rfl rfl (AOp.pickF rfl rfl rfl) ?_
      refine DRun.step rfl rfl rfl (AOp.assignD rfl rfl) ?_
      refine DRun.step rfl rfl rfl (AOp.assignD rfl rfl) ?_
      refine DRun.nil ?_
      refine AWP.ret ?_
      refine ⟨RetD.eq rfl ?_, RetD.eq rfl ?_, trivial⟩
      all_goals (first | rfl | rw [hb] | rw [HX] | rw [hasA_k hil hb])

end Go.Proofs.YtekenfknoakboaaDoor


namespace Go.Proofs
open Go.Shelf
def Tryd.sortSale_ren : Go.Shelf.Ren := ⟨fun | 6 => 37 | 15 => 50 | 14 => 57 | 28 => 76 | 29 => 77 | 20 => 83 | 21 => 84 | 22 => 85 | 23 => 86 | 24 => 87 | 25 => 88 | 26 => 89 | 27 => 90 | 46 => 116 | 47 => 106 | 48 => 107 | 49 => 117 | 50 => 118 | 57 => 132 | n => n, fun | 22 => 24 | 24 => 35 | 25 => 103 | 3 => 3 | 39 => 116 | 0 => 0 | 53 => 138 | 55 => 140 | 4 => 4 | 46 => 132 | 45 => 131 | 50 => 91 | 5 => 5 | 9 => 9 | 66 => 161 | 70 => 165 | 76 => 177 | 77 => 178 | n => n, fun | n => n⟩
theorem Tryd.sortSale : Go.Proofs.SlLaysF0.n6 Tryd.prog Tryd.sortSale_ren := {
  mixed := by kernel_rfl
  f6 := ⟨Tryd.f37.name, by decide, Tryd.func37.trans (congrArg some (by kernel_rfl))⟩
  f14 := ⟨Tryd.f57.name, by decide, Tryd.func57.trans (congrArg some (by kernel_rfl))⟩
  f15 := Tryd.func50.trans (congrArg some (by kernel_rfl))
  f20 := ⟨Tryd.f83.name, by decide, Tryd.func83.trans (congrArg some (by kernel_rfl))⟩
  f21 := ⟨Tryd.f84.name, by decide, Tryd.func84.trans (congrArg some (by kernel_rfl))⟩
  f22 := ⟨Tryd.f85.name, by decide, Tryd.func85.trans (congrArg some (by kernel_rfl))⟩
  f23 := ⟨Tryd.f86.name, by decide, Tryd.func86.trans (congrArg some (by kernel_rfl))⟩
  f24 := ⟨Tryd.f87.name, by decide, Tryd.func87.trans (congrArg some (by kernel_rfl))⟩
  f25 := ⟨Tryd.f88.name, by decide, Tryd.func88.trans (congrArg some (by kernel_rfl))⟩
  f26 := ⟨Tryd.f89.name, by decide, Tryd.func89.trans (congrArg some (by kernel_rfl))⟩
  f27 := ⟨Tryd.f90.name, by decide, Tryd.func90.trans (congrArg some (by kernel_rfl))⟩
  f28 := Tryd.func76.trans (congrArg some (by kernel_rfl))
  f29 := Tryd.func77.trans (congrArg some (by kernel_rfl))
  f46 := ⟨Tryd.f116.name, by decide, Tryd.func116.trans (congrArg some (by kernel_rfl))⟩
  f47 := Tryd.func106.trans (congrArg some (by kernel_rfl))
  f48 := Tryd.func107.trans (congrArg some (by kernel_rfl))
  f49 := ⟨Tryd.f117.name, by decide, Tryd.func117.trans (congrArg some (by kernel_rfl))⟩
  f50 := ⟨Tryd.f118.name, by decide, Tryd.func118.trans (congrArg some (by kernel_rfl))⟩
  f57 := ⟨Tryd.f132.name, by decide, Tryd.func132.trans (congrArg some (by kernel_rfl))⟩
  t0 := Tryd.underlying0
  a0 := Tryd.isAgg0
  z0 := Tryd.sizeOf0
  v0 := Tryd.zeroValue0
  t3 := Tryd.underlying3
  a3 := Tryd.isAgg3
  z3 := Tryd.sizeOf3
  v3 := Tryd.zeroValue3
  t4 := Tryd.underlying4
  a4 := Tryd.isAgg4
  z4 := Tryd.sizeOf4
  v4 := Tryd.zeroValue4
  t5 := Tryd.underlying5
  a5 := Tryd.isAgg5
  z5 := Tryd.sizeOf5
  v5 := Tryd.zeroValue5
  t9 := Tryd.underlying9
  a9 := Tryd.isAgg9
  z9 := Tryd.sizeOf9
  v9 := Tryd.zeroValue9
  t22 := Tryd.underlying24
  a22 := Tryd.isAgg24
  z22 := Tryd.sizeOf24
  v22 := Tryd.zeroValue24
  t25 := Tryd.underlying103
  a25 := Tryd.isAgg103
  z25 := Tryd.sizeOf103
  v25 := Tryd.zeroValue103
  t39 := Tryd.underlying116
  a39 := Tryd.isAgg116
  z39 := Tryd.sizeOf116
  v39 := Tryd.zeroValue116
  t45 := Tryd.underlying131
  a45 := Tryd.isAgg131
  z45 := Tryd.sizeOf131
  v45 := Tryd.zeroValue131
  t46 := Tryd.underlying132
  a46 := Tryd.isAgg132
  z46 := Tryd.sizeOf132
  v46 := Tryd.zeroValue132
  t50 := Tryd.underlying91
  a50 := Tryd.isAgg91
  z50 := Tryd.sizeOf91
  v50 := Tryd.zeroValue91
  t53 := Tryd.underlying138
  a53 := Tryd.isAgg138
  z53 := Tryd.sizeOf138
  v53 := Tryd.zeroValue138
  t55 := Tryd.underlying140
  a55 := Tryd.isAgg140
  z55 := Tryd.sizeOf140
  v55 := Tryd.zeroValue140
  t66 := Tryd.underlying161
  a66 := Tryd.isAgg161
  z66 := Tryd.sizeOf161
  v66 := Tryd.zeroValue161
  t70 := Tryd.underlying165
  a70 := Tryd.isAgg165
  z70 := Tryd.sizeOf165
  v70 := Tryd.zeroValue165
  t76 := Tryd.underlying177
  a76 := Tryd.isAgg177
  z76 := Tryd.sizeOf177
  v76 := Tryd.zeroValue177
  t77 := Tryd.underlying178
  a77 := Tryd.isAgg178
  z77 := Tryd.sizeOf178
  v77 := Tryd.zeroValue178 }
def Tryd.sortUnk_ren : Go.Shelf.Ren := ⟨fun | 6 => 41 | 15 => 50 | 14 => 59 | 28 => 76 | 29 => 77 | 20 => 91 | 21 => 92 | 22 => 93 | 23 => 94 | 24 => 95 | 25 => 96 | 26 => 97 | 27 => 98 | 46 => 119 | 47 => 106 | 48 => 107 | 49 => 120 | 50 => 121 | 57 => 133 | n => n, fun | 22 => 28 | 24 => 37 | 25 => 105 | 3 => 3 | 39 => 116 | 0 => 0 | 53 => 138 | 55 => 140 | 4 => 4 | 46 => 132 | 45 => 131 | 50 => 91 | 5 => 5 | 9 => 9 | 66 => 161 | 70 => 165 | 76 => 177 | 77 => 178 | n => n, fun | n => n⟩
theorem Tryd.sortUnk : Go.Proofs.SlLaysF0.n6 Tryd.prog Tryd.sortUnk_ren := {
  mixed := by kernel_rfl
  f6 := ⟨Tryd.f41.name, by decide, Tryd.func41.trans (congrArg some (by kernel_rfl))⟩
  f14 := ⟨Tryd.f59.name, by decide, Tryd.func59.trans (congrArg some (by kernel_rfl))⟩
  f15 := Tryd.func50.trans (congrArg some (by kernel_rfl))
  f20 := ⟨Tryd.f91.name, by decide, Tryd.func91.trans (congrArg some (by kernel_rfl))⟩
  f21 := ⟨Tryd.f92.name, by decide, Tryd.func92.trans (congrArg some (by kernel_rfl))⟩
  f22 := ⟨Tryd.f93.name, by decide, Tryd.func93.trans (congrArg some (by kernel_rfl))⟩
  f23 := ⟨Tryd.f94.name, by decide, Tryd.func94.trans (congrArg some (by kernel_rfl))⟩
  f24 := ⟨Tryd.f95.name, by decide, Tryd.func95.trans (congrArg some (by kernel_rfl))⟩
  f25 := ⟨Tryd.f96.name, by decide, Tryd.func96.trans (congrArg some (by kernel_rfl))⟩
  f26 := ⟨Tryd.f97.name, by decide, Tryd.func97.trans (congrArg some (by kernel_rfl))⟩
  f27 := ⟨Tryd.f98.name, by decide, Tryd.func98.trans (congrArg some (by kernel_rfl))⟩
  f28 := Tryd.func76.trans (congrArg some (by kernel_rfl))
  f29 := Tryd.func77.trans (congrArg some (by kernel_rfl))
  f46 := ⟨Tryd.f119.name, by decide, Tryd.func119.trans (congrArg some (by kernel_rfl))⟩
  f47 := Tryd.func106.trans (congrArg some (by kernel_rfl))
  f48 := Tryd.func107.trans (congrArg some (by kernel_rfl))
  f49 := ⟨Tryd.f120.name, by decide, Tryd.func120.trans (congrArg some (by kernel_rfl))⟩
  f50 := ⟨Tryd.f121.name, by decide, Tryd.func121.trans (congrArg some (by kernel_rfl))⟩
  f57 := ⟨Tryd.f133.name, by decide, Tryd.func133.trans (congrArg some (by kernel_rfl))⟩
  t0 := Tryd.underlying0
  a0 := Tryd.isAgg0
  z0 := Tryd.sizeOf0
  v0 := Tryd.zeroValue0
  t3 := Tryd.underlying3
  a3 := Tryd.isAgg3
  z3 := Tryd.sizeOf3
  v3 := Tryd.zeroValue3
  t4 := Tryd.underlying4
  a4 := Tryd.isAgg4
  z4 := Tryd.sizeOf4
  v4 := Tryd.zeroValue4
  t5 := Tryd.underlying5
  a5 := Tryd.isAgg5
  z5 := Tryd.sizeOf5
  v5 := Tryd.zeroValue5
  t9 := Tryd.underlying9
  a9 := Tryd.isAgg9
  z9 := Tryd.sizeOf9
  v9 := Tryd.zeroValue9
  t22 := Tryd.underlying28
  a22 := Tryd.isAgg28
  z22 := Tryd.sizeOf28
  v22 := Tryd.zeroValue28
  t25 := Tryd.underlying105
  a25 := Tryd.isAgg105
  z25 := Tryd.sizeOf105
  v25 := Tryd.zeroValue105
  t39 := Tryd.underlying116
  a39 := Tryd.isAgg116
  z39 := Tryd.sizeOf116
  v39 := Tryd.zeroValue116
  t45 := Tryd.underlying131
  a45 := Tryd.isAgg131
  z45 := Tryd.sizeOf131
  v45 := Tryd.zeroValue131
  t46 := Tryd.underlying132
  a46 := Tryd.isAgg132
  z46 := Tryd.sizeOf132
  v46 := Tryd.zeroValue132
  t50 := Tryd.underlying91
  a50 := Tryd.isAgg91
  z50 := Tryd.sizeOf91
  v50 := Tryd.zeroValue91
  t53 := Tryd.underlying138
  a53 := Tryd.isAgg138
  z53 := Tryd.sizeOf138
  v53 := Tryd.zeroValue138
  t55 := Tryd.underlying140
  a55 := Tryd.isAgg140
  z55 := Tryd.sizeOf140
  v55 := Tryd.zeroValue140
  t66 := Tryd.underlying161
  a66 := Tryd.isAgg161
  z66 := Tryd.sizeOf161
  v66 := Tryd.zeroValue161
  t70 := Tryd.underlying165
  a70 := Tryd.isAgg165
  z70 := Tryd.sizeOf165
  v70 := Tryd.zeroValue165
  t76 := Tryd.underlying177
  a76 := Tryd.isAgg177
  z76 := Tryd.sizeOf177
  v76 := Tryd.zeroValue177
  t77 := Tryd.underlying178
  a77 := Tryd.isAgg178
  z77 := Tryd.sizeOf178
  v77 := Tryd.zeroValue178 }
def Tryd.sortPaid_ren : Go.Shelf.Ren := ⟨fun | 6 => 23 | 15 => 50 | 14 => 49 | 28 => 76 | 29 => 77 | 20 => 68 | 21 => 69 | 22 => 70 | 23 => 71 | 24 => 72 | 25 => 73 | 26 => 74 | 27 => 75 | 46 => 105 | 47 => 106 | 48 => 107 | 49 => 108 | 50 => 109 | 57 => 126 | n => n, fun | 22 => 45 | 24 => 50 | 25 => 72 | 3 => 3 | 39 => 116 | 0 => 0 | 53 => 138 | 55 => 140 | 4 => 4 | 46 => 132 | 45 => 131 | 50 => 91 | 5 => 5 | 9 => 9 | 66 => 161 | 70 => 165 | 76 => 177 | 77 => 178 | n => n, fun | n => n⟩
theorem Tryd.sortPaid : Go.Proofs.SlLaysF0.n6 Tryd.prog Tryd.sortPaid_ren := {
  mixed := by kernel_rfl
  f6 := ⟨Tryd.f23.name, by decide, Tryd.func23.trans (congrArg some (by kernel_rfl))⟩
  f14 := ⟨Tryd.f49.name, by decide, Tryd.func49.trans (congrArg some (by kernel_rfl))⟩
  f15 := Tryd.func50.trans (congrArg some (by kernel_rfl))
  f20 := ⟨Tryd.f68.name, by decide, Tryd.func68.trans (congrArg some (by kernel_rfl))⟩
  f21 := ⟨Tryd.f69.name, by decide, Tryd.func69.trans (congrArg some (by kernel_rfl))⟩
  f22 := ⟨Tryd.f70.name, by decide, Tryd.func70.trans (congrArg some (by kernel_rfl))⟩
  f23 := ⟨Tryd.f71.name, by decide, Tryd.func71.trans (congrArg some (by kernel_rfl))⟩
  f24 := ⟨Tryd.f72.name, by decide, Tryd.func72.trans (congrArg some (by kernel_rfl))⟩
  f25 := ⟨Tryd.f73.name, by decide, Tryd.func73.trans (congrArg some (by kernel_rfl))⟩
  f26 := ⟨Tryd.f74.name, by decide, Tryd.func74.trans (congrArg some (by kernel_rfl))⟩
  f27 := ⟨Tryd.f75.name, by decide, Tryd.func75.trans (congrArg some (by kernel_rfl))⟩
  f28 := Tryd.func76.trans (congrArg some (by kernel_rfl))
  f29 := Tryd.func77.trans (congrArg some (by kernel_rfl))
  f46 := ⟨Tryd.f105.name, by decide, Tryd.func105.trans (congrArg some (by kernel_rfl))⟩
  f47 := Tryd.func106.trans (congrArg some (by kernel_rfl))
  f48 := Tryd.func107.trans (congrArg some (by kernel_rfl))
  f49 := ⟨Tryd.f108.name, by decide, Tryd.func108.trans (congrArg some (by kernel_rfl))⟩
  f50 := ⟨Tryd.f109.name, by decide, Tryd.func109.trans (congrArg some (by kernel_rfl))⟩
  f57 := ⟨Tryd.f126.name, by decide, Tryd.func126.trans (congrArg some (by kernel_rfl))⟩
  t0 := Tryd.underlying0
  a0 := Tryd.isAgg0
  z0 := Tryd.sizeOf0
  v0 := Tryd.zeroValue0
  t3 := Tryd.underlying3
  a3 := Tryd.isAgg3
  z3 := Tryd.sizeOf3
  v3 := Tryd.zeroValue3
  t4 := Tryd.underlying4
  a4 := Tryd.isAgg4
  z4 := Tryd.sizeOf4
  v4 := Tryd.zeroValue4
  t5 := Tryd.underlying5
  a5 := Tryd.isAgg5
  z5 := Tryd.sizeOf5
  v5 := Tryd.zeroValue5
  t9 := Tryd.underlying9
  a9 := Tryd.isAgg9
  z9 := Tryd.sizeOf9
  v9 := Tryd.zeroValue9
  t22 := Tryd.underlying45
  a22 := Tryd.isAgg45
  z22 := Tryd.sizeOf45
  v22 := Tryd.zeroValue45
  t25 := Tryd.underlying72
  a25 := Tryd.isAgg72
  z25 := Tryd.sizeOf72
  v25 := Tryd.zeroValue72
  t39 := Tryd.underlying116
  a39 := Tryd.isAgg116
  z39 := Tryd.sizeOf116
  v39 := Tryd.zeroValue116
  t45 := Tryd.underlying131
  a45 := Tryd.isAgg131
  z45 := Tryd.sizeOf131
  v45 := Tryd.zeroValue131
  t46 := Tryd.underlying132
  a46 := Tryd.isAgg132
  z46 := Tryd.sizeOf132
  v46 := Tryd.zeroValue132
  t50 := Tryd.underlying91
  a50 := Tryd.isAgg91
  z50 := Tryd.sizeOf91
  v50 := Tryd.zeroValue91
  t53 := Tryd.underlying138
  a53 := Tryd.isAgg138
  z53 := Tryd.sizeOf138
  v53 := Tryd.zeroValue138
  t55 := Tryd.underlying140
  a55 := Tryd.isAgg140
  z55 := Tryd.sizeOf140
  v55 := Tryd.zeroValue140
  t66 := Tryd.underlying161
  a66 := Tryd.isAgg161
  z66 := Tryd.sizeOf161
  v66 := Tryd.zeroValue161
  t70 := Tryd.underlying165
  a70 := Tryd.isAgg165
  z70 := Tryd.sizeOf165
  v70 := Tryd.zeroValue165
  t76 := Tryd.underlying177
  a76 := Tryd.isAgg177
  z76 := Tryd.sizeOf177
  v76 := Tryd.zeroValue177
  t77 := Tryd.underlying178
  a77 := Tryd.isAgg178
  z77 := Tryd.sizeOf178
  v77 := Tryd.zeroValue178 }
def Tryd.cmpI_ren : Go.Shelf.Ren := ⟨fun | 5 => 40 | 7 => 58 | n => n, fun | 22 => 3 | 3 => 3 | 4 => 4 | n => n, fun | n => n⟩
theorem Tryd.cmpI : Go.Proofs.SlLaysC2.n5 Tryd.prog Tryd.cmpI_ren := {
  mixed := by kernel_rfl
  f5 := ⟨Tryd.f40.name, by decide, Tryd.func40.trans (congrArg some (by kernel_rfl))⟩
  f7 := ⟨Tryd.f58.name, by decide, Tryd.func58.trans (congrArg some (by kernel_rfl))⟩
  t3 := Tryd.underlying3
  a3 := Tryd.isAgg3
  z3 := Tryd.sizeOf3
  v3 := Tryd.zeroValue3
  t4 := Tryd.underlying4
  a4 := Tryd.isAgg4
  z4 := Tryd.sizeOf4
  v4 := Tryd.zeroValue4
  t22 := Tryd.underlying3
  a22 := Tryd.isAgg3
  z22 := Tryd.sizeOf3
  v22 := Tryd.zeroValue3 }
end Go.Proofs


namespace Go.Proofs.YtekenfknoakboaaDoor
open Go.RowKit Go.Shelf Go.Lib Go.Sort
set_option linter.unusedVariables false
set_option linter.unusedSimpArgs false

set_option maxHeartbeats 2000000 in
/-- cmp.Or at two. -/
theorem or2 (a b : Int) (blk : Nat) (W : World) (h0 : W.cell? ⟨blk, 0, none⟩ = some (.int .i64 a)) (h1 : W.cell? ⟨blk, 1, none⟩ = some (.int .i64 b)) :
    Calls Tryd.prog 39 #[.slice (some ⟨blk, 0, none⟩) 2 2] W fun e w' => e = .returned (.int .i64 (if a = 0 then b else a)) ∧ w' = W := by
  go_enter Tryd.func39, Tryd.ntmps39
  go_wp2
  refine wp_loop_rounds 3 ?_
  rw [rounds_succ]
  by_cases ha : a = 0
  · subst ha
    go_wp2
    rw [rounds_succ]
    by_cases hb : b = 0
    · subst hb
      go_wp2
      rw [rounds_succ]
      go_wp2
      go_ret
      exact ⟨rfl, rfl⟩
    · go_wp2
      go_ret
      exact ⟨rfl, rfl⟩
  · go_wp2
    go_ret
    exact ⟨rfl, rfl⟩
set_option maxHeartbeats 4000000 in
/-- cmp.Or at three. -/
theorem or3 (a b c : Int) (blk : Nat) (W : World) (h0 : W.cell? ⟨blk, 0, none⟩ = some (.int .i64 a)) (h1 : W.cell? ⟨blk, 1, none⟩ = some (.int .i64 b)) (h2 : W.cell? ⟨blk, 2, none⟩ = some (.int .i64 c)) :
    Calls Tryd.prog 39 #[.slice (some ⟨blk, 0, none⟩) 3 3] W fun e w' => e = .returned (.int .i64 (if a = 0 then (if b = 0 then c else b) else a)) ∧ w' = W := by
  go_enter Tryd.func39, Tryd.ntmps39
  go_wp2
  refine wp_loop_rounds 4 ?_
  rw [rounds_succ]
  by_cases ha : a = 0
  · subst ha
    go_wp2
    rw [rounds_succ]
    by_cases hb : b = 0
    · subst hb
      go_wp2
      rw [rounds_succ]
      by_cases hc : c = 0
      · subst hc
        go_wp2
        rw [rounds_succ]
        go_wp2
        go_ret
        exact ⟨rfl, rfl⟩
      · go_wp2
        go_ret
        exact ⟨rfl, rfl⟩
    · go_wp2
      go_ret
      exact ⟨rfl, rfl⟩
  · go_wp2
    go_ret
    exact ⟨rfl, rfl⟩
theorem cmpI_any (a b : Int) (W : World) : Calls Tryd.prog 40 #[.int .i64 a, .int .i64 b] W fun e w' => e = .returned (.int .i64 (cmpI2 a b)) ∧ w' = W := AnyG.cmp_Compare_int Tryd.cmpI a b W
theorem cmpB_any (a b : ByteArray) (W : World) : Calls Tryd.prog 25 #[.string a, .string b] W fun e w' => e = .returned (.int .i64 (strCmp a b)) ∧ w' = W := Any.strings_Compare Tryd.l106 a b W
set_option maxHeartbeats 4000000 in
set_option maxRecDepth 1000000 in
/-- The order of sales, in whatever world. -/
theorem cmpS_any (x1 x2 y1 y2 : Int) (x3 x4 y3 y4 : Value) (W : World) : Calls Tryd.prog 38 #[.agg #[.int .i64 x1, .int .i64 x2, x3, x4], .agg #[.int .i64 y1, .int .i64 y2, y3, y4]] W fun e w' => e = .returned (.int .i64 (if cmpI2 x1 y1 = 0 then cmpI2 x2 y2 else cmpI2 x1 y1)) ∧ ∃ q os', w' = grow (W.drewN q) os' := by
  have hcon := fun W' => cmpI_any x1 y1 W'
  have hcon2 := fun W' => cmpI_any x2 y2 W'
  have hor := or2 (cmpI2 x1 y1) (cmpI2 x2 y2)
  generalize cmpI2 x1 y1 = r at *
  generalize cmpI2 x2 y2 = s at *
  have hor2 : ∀ (X : World) (b e : Nat), b = X.heap.size → Calls Tryd.prog 39 #[.slice (some ⟨b, 0, none⟩) 2 2] (X.alloc (.cells #[.int .i64 r, .int .i64 s] e)) fun e' w' => e' = .returned (.int .i64 (if r = 0 then s else r)) ∧ w' = X.alloc (.cells #[.int .i64 r, .int .i64 s] e) :=
    fun X b e hb => hor b _ (cell_top hb rfl) (cell_top hb rfl)
  clear hor
  generalize (if r = 0 then s else r) = t at hor2 ⊢
  go_enter Tryd.func38, Tryd.ntmps38
  go_wp2
  generalize hW2 : (W.alloc (Obj.cells #[Value.int IntKind.i64 x1, Value.int IntKind.i64 x2, x3, x4] 35)).alloc (Obj.cells #[Value.int IntKind.i64 y1, Value.int IntKind.i64 y2, y3, y4] 35) = W2
  have c1 : W2.cell? ⟨W.heap.size, 0, none⟩ = some (.int .i64 x1) := by rw [← hW2]; simp [go_sem]
  have c2 : W2.cell? ⟨W.heap.size, 1, none⟩ = some (.int .i64 x2) := by rw [← hW2]; simp [go_sem]
  have c3 : W2.cell? ⟨W.heap.size + 1, 0, none⟩ = some (.int .i64 y1) := by rw [← hW2]; simp [go_sem]
  have c4 : W2.cell? ⟨W.heap.size + 1, 1, none⟩ = some (.int .i64 y2) := by rw [← hW2]; simp [go_sem]
  have hG : ∃ os, W2 = grow W os := ⟨_, by rw [← hW2, alloc_eq_grow, alloc_eq_grow, grow_grow]⟩
  clear hW2
  refine wp_region_still_tail 10 (by kernel_rfl) (by kernel_rfl) ?_
  simp only [List.take_succ_cons, List.take_zero, List.drop_succ_cons, List.drop_zero]
  have e3 : ({ W2 with drawn := W2.drawn + 1 } : World) = W2.drew := rfl
  simp only [e3]
  have c1' : W2.drew.cell? ⟨W.heap.size, 0, none⟩ = some (.int .i64 x1) := c1
  have c2' : W2.drew.cell? ⟨W.heap.size, 1, none⟩ = some (.int .i64 x2) := c2
  have c3' : W2.drew.cell? ⟨W.heap.size + 1, 0, none⟩ = some (.int .i64 y1) := c3
  have c4' : W2.drew.cell? ⟨W.heap.size + 1, 1, none⟩ = some (.int .i64 y2) := c4
  have hG' : ∃ q os, W2.drew = grow (W.drewN q) os := by obtain ⟨os, rfl⟩ := hG; exact ⟨1, os, rfl⟩
  clear c1 c2 c3 c4 hG e3
  generalize W2.drew = W3 at *
  still_step
  still_step
  still_step
  still_step
  still_call (hcon _)
  still_step
  still_step
  still_step
  still_step
  still_call (hcon2 _)
  refine wpStill_nil ?_
  clear hcon hcon2 c1' c2' c3' c4'
  go_wp2_with (go_at_call 39; refine (hor2 _ _ _ (by simp)).mono ?_; rintro e w' ⟨rfl, rfl⟩)
  go_ret
  obtain ⟨q, os, rfl⟩ := hG'
  exact ⟨rfl, q, _, by rw [alloc_eq_grow, grow_grow]⟩
set_option maxHeartbeats 8000000 in
set_option maxRecDepth 1000000 in
/-- The order of unknown things, in whatever world. -/
theorem cmpU_any (x1 x2 y1 y2 : ByteArray) (x3 y3 : Int) (x4 x5 y4 y5 : Value) (W : World) : Calls Tryd.prog 42 #[.agg #[.string x1, .string x2, .int .i64 x3, x4, x5], .agg #[.string y1, .string y2, .int .i64 y3, y4, y5]] W fun e w' => e = .returned (.int .i64 (if strCmp x1 y1 = 0 then (if strCmp x2 y2 = 0 then cmpI2 x3 y3 else strCmp x2 y2) else strCmp x1 y1)) ∧ ∃ q os', w' = grow (W.drewN q) os' := by
  have hcon := fun W' => cmpB_any x1 y1 W'
  have hcon2 := fun W' => cmpB_any x2 y2 W'
  have hcon3 := fun W' => cmpI_any x3 y3 W'
  have hor := or3 (strCmp x1 y1) (strCmp x2 y2) (cmpI2 x3 y3)
  generalize strCmp x1 y1 = r at *
  generalize strCmp x2 y2 = s at *
  generalize cmpI2 x3 y3 = u at *
  have hor2 : ∀ (X : World) (b e : Nat), b = X.heap.size → Calls Tryd.prog 39 #[.slice (some ⟨b, 0, none⟩) 3 3] (X.alloc (.cells #[.int .i64 r, .int .i64 s, .int .i64 u] e)) fun e' w' => e' = .returned (.int .i64 (if r = 0 then (if s = 0 then u else s) else r)) ∧ w' = X.alloc (.cells #[.int .i64 r, .int .i64 s, .int .i64 u] e) :=
    fun X b e hb => hor b _ (cell_top hb rfl) (cell_top hb rfl) (cell_top hb rfl)
  clear hor
  generalize (if r = 0 then (if s = 0 then u else s) else r) = t at hor2 ⊢
  go_enter Tryd.func42, Tryd.ntmps42
  go_wp2
  generalize hW2 : (W.alloc (Obj.cells #[Value.string x1, Value.string x2, Value.int IntKind.i64 x3, x4, x5] 37)).alloc (Obj.cells #[Value.string y1, Value.string y2, Value.int IntKind.i64 y3, y4, y5] 37) = W2
  have c1 : W2.cell? ⟨W.heap.size, 0, none⟩ = some (.string x1) := by rw [← hW2]; simp [go_sem]
  have c2 : W2.cell? ⟨W.heap.size, 1, none⟩ = some (.string x2) := by rw [← hW2]; simp [go_sem]
  have c5 : W2.cell? ⟨W.heap.size, 2, none⟩ = some (.int .i64 x3) := by rw [← hW2]; simp [go_sem]
  have c3 : W2.cell? ⟨W.heap.size + 1, 0, none⟩ = some (.string y1) := by rw [← hW2]; simp [go_sem]
  have c4 : W2.cell? ⟨W.heap.size + 1, 1, none⟩ = some (.string y2) := by rw [← hW2]; simp [go_sem]
  have c6 : W2.cell? ⟨W.heap.size + 1, 2, none⟩ = some (.int .i64 y3) := by rw [← hW2]; simp [go_sem]
  have hG : ∃ os, W2 = grow W os := ⟨_, by rw [← hW2, alloc_eq_grow, alloc_eq_grow, grow_grow]⟩
  clear hW2
  refine wp_region_still_tail 15 (by kernel_rfl) (by kernel_rfl) ?_
  simp only [List.take_succ_cons, List.take_zero, List.drop_succ_cons, List.drop_zero]
  have e3 : ({ W2 with drawn := W2.drawn + 1 } : World) = W2.drew := rfl
  simp only [e3]
  have c1' : W2.drew.cell? ⟨W.heap.size, 0, none⟩ = some (.string x1) := c1
  have c2' : W2.drew.cell? ⟨W.heap.size, 1, none⟩ = some (.string x2) := c2
  have c5' : W2.drew.cell? ⟨W.heap.size, 2, none⟩ = some (.int .i64 x3) := c5
  have c3' : W2.drew.cell? ⟨W.heap.size + 1, 0, none⟩ = some (.string y1) := c3
  have c4' : W2.drew.cell? ⟨W.heap.size + 1, 1, none⟩ = some (.string y2) := c4
  have c6' : W2.drew.cell? ⟨W.heap.size + 1, 2, none⟩ = some (.int .i64 y3) := c6
  have hG' : ∃ q os, W2.drew = grow (W.drewN q) os := by obtain ⟨os, rfl⟩ := hG; exact ⟨1, os, rfl⟩
  clear c1 c2 c3 c4 c5 c6 hG e3
  generalize W2.drew = W3 at *
  iterate 4 still_step
  still_call (hcon _)
  iterate 4 still_step
  still_call (hcon2 _)
  iterate 4 still_step
  still_call (hcon3 _)
  refine wpStill_nil ?_
  clear hcon hcon2 hcon3 c1' c2' c3' c4' c5' c6'
  go_wp2_with (go_at_call 39; refine (hor2 _ _ _ (by simp)).mono ?_; rintro e w' ⟨rfl, rfl⟩)
  go_ret
  obtain ⟨q, os, rfl⟩ := hG'
  exact ⟨rfl, q, _, by rw [alloc_eq_grow, grow_grow]⟩
/-! ## The contracts of the sorts -/
theorem repL_vv {F : Nat → Prop} {w : World} : ∀ {xs : List Value} {vs : List Value}, xs.length = vs.length → (∀ i (h : i < xs.length) (h' : i < (vs.map D.v).length), Rep F w xs[i] (vs.map D.v)[i]) → xs = vs := fun hl h => by
  apply List.ext_getElem hl
  intro i h1 h2
  have := h i h1 (by simpa using h2)
  rw [List.getElem_map] at this
  exact rep_v this
theorem cmpT_S : CmpT Tryd.prog 38 4 Sal.ds cmpS := fun F w0 W x y xs ys h1 h2 h3 h4 => by
  have e1 := repL_vv (vs := [.int .i64 x.recd, .int .i64 x.per, .int .i64 x.units, .int .i64 x.money]) (by simpa using h1) h3
  have e2 := repL_vv (vs := [.int .i64 y.recd, .int .i64 y.per, .int .i64 y.units, .int .i64 y.money]) (by simpa using h2) h4
  subst e1; subst e2
  have e3 : cmpS x y = if cmpI2 x.recd y.recd = 0 then cmpI2 x.per y.per else cmpI2 x.recd y.recd := by unfold cmpS; rw [orI_cons, orI_one]
  rw [e3]
  exact cmpS_any _ _ _ _ _ _ _ _ W
theorem cmpT_U : CmpT Tryd.prog 42 5 Unk.ds cmpU := fun F w0 W x y xs ys h1 h2 h3 h4 => by
  have e1 := repL_vv (vs := [.string x.source, .string x.title, .int .i64 x.per, .int .i64 x.units, .int .i64 x.money]) (by simpa using h1) h3
  have e2 := repL_vv (vs := [.string y.source, .string y.title, .int .i64 y.per, .int .i64 y.units, .int .i64 y.money]) (by simpa using h2) h4
  subst e1; subst e2
  have e3 : cmpU x y = if strCmp x.source y.source = 0 then (if strCmp x.title y.title = 0 then cmpI2 x.per y.per else strCmp x.title y.title) else strCmp x.source y.source := by unfold cmpU; rw [orI_cons, orI_cons, orI_one]
  rw [e3]
  exact cmpU_any _ _ _ _ _ _ _ _ _ _ W
theorem sortT_S : SortT Tryd.prog 37 4 where
  ent := enters_of Tryd.func37 (by kernel_rfl) rfl
  nil fv w := AnyF.slices_SortFunc_none Tryd.sortSale none 0 fv w
  all enc hk h1 cf hO g blk cap d w eg hC hH hb hn := AnyQ.slices_SortFunc Tryd.sortSale 4 (fun w => (AggT.of (by kernel_rfl) : AggT Tryd.prog 35 4).agg w) (fun w => (AggT.of (by kernel_rfl) : AggT Tryd.prog 35 4).size w) enc hk h1 cf hO g #[] blk 0 cap d w eg hC hH hb hn
theorem sortT_U : SortT Tryd.prog 41 5 where
  ent := enters_of Tryd.func41 (by kernel_rfl) rfl
  nil fv w := AnyF.slices_SortFunc_none Tryd.sortUnk none 0 fv w
  all enc hk h1 cf hO g blk cap d w eg hC hH hb hn := AnyQ.slices_SortFunc Tryd.sortUnk 5 (fun w => (AggT.of (by kernel_rfl) : AggT Tryd.prog 37 5).agg w) (fun w => (AggT.of (by kernel_rfl) : AggT Tryd.prog 37 5).size w) enc hk h1 cf hO g #[] blk 0 cap d w eg hC hH hb hn
theorem c_sortS (xs : List Sal) (hn : xs.length < 4611686018427387904) (hd : DistF cmpS xs) (e : Nat) : RCall Tryd.prog 37 e 4 (xs.map Sal.ds) ((sortF cmpS xs).map Sal.ds) [.clo (.func 38) []] (.tup []) :=
  sort_rcall sortT_S swo_S (enters_of Tryd.func38 (by kernel_rfl) rfl) cmpT_S (fun _ => rfl) [.int .i64 0, .int .i64 0, .int .i64 0, .int .i64 0] rfl (by simp [Value.oneCell']) (fun F w i h h' => by
    have hi : i < 4 := h
    match i, hi with
    | 0, _ => exact .v _
    | 1, _ => exact .v _
    | 2, _ => exact .v _
    | 3, _ => exact .v _) xs hn hd e
theorem c_sortU (xs : List Unk) (hn : xs.length < 4611686018427387904) (hd : DistF cmpU xs) (e : Nat) : RCall Tryd.prog 41 e 5 (xs.map Unk.ds) ((sortF cmpU xs).map Unk.ds) [.clo (.func 42) []] (.tup []) :=
  sort_rcall sortT_U swo_U (enters_of Tryd.func42 (by kernel_rfl) rfl) cmpT_U (fun _ => rfl) [.string ⟨#[]⟩, .string ⟨#[]⟩, .int .i64 0, .int .i64 0, .int .i64 0] rfl (by simp [Value.oneCell']) (fun F w i h h' => by
    have hi : i < 5 := h
    match i, hi with
    | 0, _ => exact .v _
    | 1, _ => exact .v _
    | 2, _ => exact .v _
    | 3, _ => exact .v _
    | 4, _ => exact .v _) xs hn hd e
end Go.Proofs.YtekenfknoakboaaDoor


namespace Go.Proofs.YtekenfknoakboaaDoor
open Go.RowKit
set_option linter.unusedVariables false

/-! Types. -/
namespace TyO3
theorem ag_35 : AggT Tryd.prog 35 4 := .of (by kernel_rfl)
theorem ag_37 : AggT Tryd.prog 37 5 := .of (by kernel_rfl)
theorem ag_40 : AggT Tryd.prog 40 5 := .of (by kernel_rfl)
theorem ag_42 : AggT Tryd.prog 42 3 := .of (by kernel_rfl)
theorem ag_97 : AggT Tryd.prog 97 2 := .of (by kernel_rfl)
theorem ag_99 : AggT Tryd.prog 99 3 := .of (by kernel_rfl)
theorem bu_35 : StructT Tryd.prog 35 (fun i => (#[(0, 1), (1, 1), (2, 1), (3, 1)] : Array (Nat × Nat))[i]?) [(.int .i64 0), (.int .i64 0), (.int .i64 0), (.int .i64 0)] := .of (by kernel_rfl) (by kernel_rfl) (by decide)
theorem bu_37 : StructT Tryd.prog 37 (fun i => (#[(0, 1), (1, 1), (2, 1), (3, 1), (4, 1)] : Array (Nat × Nat))[i]?) [(.string ⟨#[]⟩), (.string ⟨#[]⟩), (.int .i64 0), (.int .i64 0), (.int .i64 0)] := .of (by kernel_rfl) (by kernel_rfl) (by decide)
theorem bu_94 : StructT Tryd.prog 94 (fun i => (#[(0, 1), (1, 1), (2, 1)] : Array (Nat × Nat))[i]?) [(.string ⟨#[]⟩), (.string ⟨#[]⟩), (.int .i64 0)] := .of (by kernel_rfl) (by kernel_rfl) (by decide)
theorem bu_97 : StructT Tryd.prog 97 (fun i => (#[(0, 1), (1, 1)] : Array (Nat × Nat))[i]?) [(.int .i64 0), (.int .i64 0)] := .of (by kernel_rfl) (by kernel_rfl) (by decide)
theorem bu_99 : StructT Tryd.prog 99 (fun i => (#[(0, 1), (1, 1), (2, 1)] : Array (Nat × Nat))[i]?) [(.string ⟨#[]⟩), (.string ⟨#[]⟩), (.int .i64 0)] := .of (by kernel_rfl) (by kernel_rfl) (by decide)
theorem et_22 : ElemTy Tryd.prog 22 40 5 64 (.agg #[(.string ⟨#[]⟩), (.int .i64 0), (.int .i64 0), (.int .i64 0), (.slice none 0 0)]) := ⟨by kernel_rfl, by kernel_rfl, by kernel_rfl, by decide⟩
theorem et_23 : ElemTy Tryd.prog 23 94 3 40 (.agg #[(.string ⟨#[]⟩), (.string ⟨#[]⟩), (.int .i64 0)]) := ⟨by kernel_rfl, by kernel_rfl, by kernel_rfl, by decide⟩
theorem et_24 : ElemTy Tryd.prog 24 35 4 32 (.agg #[(.int .i64 0), (.int .i64 0), (.int .i64 0), (.int .i64 0)]) := ⟨by kernel_rfl, by kernel_rfl, by kernel_rfl, by decide⟩
theorem et_28 : ElemTy Tryd.prog 28 37 5 56 (.agg #[(.string ⟨#[]⟩), (.string ⟨#[]⟩), (.int .i64 0), (.int .i64 0), (.int .i64 0)]) := ⟨by kernel_rfl, by kernel_rfl, by kernel_rfl, by decide⟩
theorem et_38 : ElemTy Tryd.prog 38 42 3 32 (.agg #[(.string ⟨#[]⟩), (.int .i64 0), (.int .i64 0)]) := ⟨by kernel_rfl, by kernel_rfl, by kernel_rfl, by decide⟩
theorem fo_35_2 : fieldOff Tryd.prog 35 2 = some 2 := by kernel_rfl
theorem fo_35_3 : fieldOff Tryd.prog 35 3 = some 3 := by kernel_rfl
theorem fo_37_3 : fieldOff Tryd.prog 37 3 = some 3 := by kernel_rfl
theorem fo_37_4 : fieldOff Tryd.prog 37 4 = some 4 := by kernel_rfl
theorem fo_40_0 : fieldOff Tryd.prog 40 0 = some 0 := by kernel_rfl
theorem fo_40_2 : fieldOff Tryd.prog 40 2 = some 2 := by kernel_rfl
theorem fo_40_4 : fieldOff Tryd.prog 40 4 = some 4 := by kernel_rfl
theorem fo_42_0 : fieldOff Tryd.prog 42 0 = some 0 := by kernel_rfl
theorem fo_42_1 : fieldOff Tryd.prog 42 1 = some 1 := by kernel_rfl
theorem fo_42_2 : fieldOff Tryd.prog 42 2 = some 2 := by kernel_rfl
theorem fo_94_2 : fieldOff Tryd.prog 94 2 = some 2 := by kernel_rfl
theorem fo_97_0 : fieldOff Tryd.prog 97 0 = some 0 := by kernel_rfl
theorem fo_97_1 : fieldOff Tryd.prog 97 1 = some 1 := by kernel_rfl
theorem mt_89 : Tryd.prog.underlying 89 = some (.map 97 35) := by kernel_rfl
theorem mt_90 : Tryd.prog.underlying 90 = some (.map 99 37) := by kernel_rfl
theorem sc_3 : Scal Tryd.prog 3 := .of (by kernel_rfl)
theorem sc_38 : Scal Tryd.prog 38 := .of (by kernel_rfl)
theorem sc_9 : Scal Tryd.prog 9 := .of (by kernel_rfl)
theorem sz_35 : ∀ w, (sizeOf 35).run Tryd.prog w = .ok 4 w := SizeT.of (by kernel_rfl)
theorem sz_37 : ∀ w, (sizeOf 37).run Tryd.prog w = .ok 5 w := SizeT.of (by kernel_rfl)
theorem sz_40 : ∀ w, (sizeOf 40).run Tryd.prog w = .ok 5 w := SizeT.of (by kernel_rfl)
theorem sz_42 : ∀ w, (sizeOf 42).run Tryd.prog w = .ok 3 w := SizeT.of (by kernel_rfl)
theorem sz_97 : ∀ w, (sizeOf 97).run Tryd.prog w = .ok 2 w := SizeT.of (by kernel_rfl)
theorem sz_99 : ∀ w, (sizeOf 99).run Tryd.prog w = .ok 3 w := SizeT.of (by kernel_rfl)
theorem zt_35 : (Tryd.prog.info? 35).bind (·.zero) = some (.agg #[(.int .i64 0), (.int .i64 0), (.int .i64 0), (.int .i64 0)]) := by kernel_rfl
theorem zt_37 : (Tryd.prog.info? 37).bind (·.zero) = some (.agg #[(.string ⟨#[]⟩), (.string ⟨#[]⟩), (.int .i64 0), (.int .i64 0), (.int .i64 0)]) := by kernel_rfl
theorem zt_40 : (Tryd.prog.info? 40).bind (·.zero) = some (.agg #[(.string ⟨#[]⟩), (.int .i64 0), (.int .i64 0), (.int .i64 0), (.slice none 0 0)]) := by kernel_rfl
theorem zt_42 : (Tryd.prog.info? 42).bind (·.zero) = some (.agg #[(.string ⟨#[]⟩), (.int .i64 0), (.int .i64 0)]) := by kernel_rfl
theorem zt_97 : (Tryd.prog.info? 97).bind (·.zero) = some (.agg #[(.int .i64 0), (.int .i64 0)]) := by kernel_rfl
theorem zt_99 : (Tryd.prog.info? 99).bind (·.zero) = some (.agg #[(.string ⟨#[]⟩), (.string ⟨#[]⟩), (.int .i64 0)]) := by kernel_rfl
end TyO3
open TyO3


open Go.Sort Go.Lib
theorem usd_rng {x : Rpt} (h : rptF x = 0) : ∀ u ∈ x.lines, (0 ≤ u.units ∧ u.units ≤ 1000000000) ∧ 0 ≤ u.money ∧ u.money ≤ 1000000000 := fun u hu => by
  have h0 : ffst (usdF x.lines) x.lines.length = 0 := by
    unfold rptF at h
    split at h
    · omega
    · split at h
      · omega
      · split at h
        · omega
        · exact h
  obtain ⟨k, hk, rfl⟩ := List.mem_iff_getElem.1 hu
  have h1 := ffst_all _ h0 k hk
  unfold usdF at h1
  rw [dif_pos hk] at h1
  split at h1
  · omega
  · split at h1
    · omega
    · rename_i h2
      exact Decidable.not_not.1 h2
theorem rpt_per {x : Rpt} (h : rptF x = 0) : 0 ≤ x.period ∧ x.period ≤ 2400 := by
  unfold rptF at h
  split at h
  · omega
  · split at h
    · omega
    · rename_i h2
      exact (Decidable.not_not.1 h2).2.1
theorem InvS.mono {n m : Int} {s : SU} (h : InvS n s) (hm : n ≤ m) : InvS m s :=
  ⟨h.n1, h.n2, fun p hp => by have := h.b1 p hp; omega, fun p hp => by have := h.b2 p hp; omega, h.k1, h.k2, by have := h.l1; omega, by have := h.l2; omega⟩
structure RpO (x : Rpt) : Prop where
  src : x.source.size ≤ maxLen
  per : 0 ≤ x.period ∧ x.period ≤ 2400
  len : x.lines.length ≤ 100
  use : ∀ u ∈ x.lines, u.title.size ≤ maxLen ∧ (0 ≤ u.units ∧ u.units ≤ 1000000000) ∧ 0 ≤ u.money ∧ u.money ≤ 1000000000
theorem rpO {x : Rpt} (h : rptF x = 0) (ho : okRpt x) : RpO x := ⟨ho.1, rpt_per h, rpt_lines h, fun u hu => ⟨ho.2 u hu, usd_rng h u hu⟩⟩
theorem inv_B {a : List Ali} (ha : Als a) {x : Rpt} (hx : RpO x) {n : Int} (hn : 0 ≤ n) {s : SU} (hs : InvS n s) : ∀ j, j ≤ x.lines.length → InvS (n + (j : Int)) (stB a x s j)
  | 0, _ => by simpa [stB] using hs
  | j + 1, hj => by
    rw [stB_next (by omega)]
    have := (inv_B ha hx hn hs j (by omega)).step (by omega) a x x.lines[j] ha.rng ⟨hx.src, hx.per⟩ (hx.use _ (List.getElem_mem _))
    exact this.mono (by omega)
theorem inv_A {a : List Ali} (ha : Als a) {V : List Rpt} (hV : ∀ x ∈ V, RpO x) : ∀ k, k ≤ V.length → InvS (100 * (k : Int)) (stA a (V.take k))
  | 0, _ => by
    have : stA a (V.take 0) = ([], []) := by simp [stA]
    rw [this]
    exact InvS.nil
  | k + 1, hk => by
    rw [stA_next (by omega)]
    have hx := hV _ (List.getElem_mem (show k < V.length by omega))
    have hl := hx.len
    exact (inv_B ha hx (by omega) (inv_A ha hV k (by omega)) _ (Nat.le_refl _)).mono (by omega)
theorem put_eq_S (L : List (KS × UM)) (k : KS) (u m : Int) : D.agg [.v (.int .i64 k.1), .v (.int .i64 k.2), .v (.int .i64 ((getS L k).units + u)), .v (.int .i64 ((getS L k).money + m))] = .agg (toS (k, plusG addU (findG L k) (u, m))).ds := by
  rw [(get_plus_S L k u m).1, (get_plus_S L k u m).2]; rfl
theorem put_eq_U (L : List (KU × UM)) (k : KU) (u m : Int) : D.agg [.v (.string k.1), .v (.string k.2.1), .v (.int .i64 k.2.2), .v (.int .i64 ((getU L k).units + u)), .v (.int .i64 ((getU L k).money + m))] = .agg (toU (k, plusG addU (findG L k) (u, m))).ds := by
  rw [(get_plus_U L k u m).1, (get_plus_U L k u m).2]; rfl
theorem stU_yes {a : List Ali} {x : Rpt} {s : SU} {u : Usd} (h : meantA a x.source u.title ≠ 0) : stU a x s u = (putG s.1 (meantA a x.source u.title, x.period) (plusG addU (findG s.1 (meantA a x.source u.title, x.period)) (u.units, u.money)), s.2) := if_pos h
theorem stU_no {a : List Ali} {x : Rpt} {s : SU} {u : Usd} (h : meantA a x.source u.title = 0) : stU a x s u = (s.1, putG s.2 (x.source, u.title, x.period) (plusG addU (findG s.2 (x.source, u.title, x.period)) (u.units, u.money))) := if_neg (by rw [h]; simp)
theorem nd_len : ∀ {n : Nat} {l : List Nat}, l.Nodup → (∀ i ∈ l, i < n) → l.length ≤ n := fun {n l} h1 h2 => by
  have hp : l.Perm ((List.range n).filter fun i => decide (i ∈ l)) := (List.perm_ext_iff_of_nodup h1 (List.nodup_range.filter _)).2 fun i => by
    rw [List.mem_filter, List.mem_range, decide_eq_true_eq]
    exact ⟨fun h => ⟨h2 i h, h⟩, fun h => h.2⟩
  have := hp.length_eq
  have h3 := List.length_filter_le (fun i => decide (i ∈ l)) (List.range n)
  rw [List.length_range] at h3
  omega
theorem nd_snoc {n : Nat} {l : List Nat} {i : Nat} (h1 : l.Nodup ∧ ∀ i ∈ l, i < n) (hi : i < n) (hn : i ∉ l) : (l ++ [i]).Nodup ∧ ∀ j ∈ l ++ [i], j < n := by
  refine ⟨List.nodup_append.2 ⟨h1.1, by simp, fun x hx y hy => ?_⟩, fun j hj => ?_⟩
  · rw [List.mem_singleton] at hy
    subst hy
    exact fun e => hn (e ▸ hx)
  · rcases List.mem_append.1 hj with hj | hj
    · exact h1.2 j hj
    · rw [List.mem_singleton] at hj; omega
theorem obs_3 {i j m e s : Nat} {r r' : List (List D)} {a a' b b' : Ob} {τ : Obs} (h : r = r') (h2 : a = a') (h3 : b = b') : ∀ p ∈ [(m, Ob.row e s r'), (i, a'), (j, b')], p ∈ (m, Ob.row e s r) :: (i, a) :: (j, b) :: τ := fun p hp => by
  subst h; subst h2; subst h3
  rcases List.mem_cons.1 hp with rfl | hp
  · exact .head _
  · rcases List.mem_cons.1 hp with rfl | hp
    · exact .tail _ (.head _)
    · rw [List.mem_singleton] at hp; subst hp; exact .tail _ (.tail _ (.head _))
theorem pick_ds_S (K : List (KS × UM)) (dn : List Nat) {i : Nat} (hi : i < K.length) : (pickG toS K dn).map Sal.ds ++ [(toS K[i]).ds] = (pickG toS K (dn ++ [i])).map Sal.ds := by rw [pickG_snoc toS K dn hi, List.map_append]; rfl
theorem pick_ds_U (K : List (KU × UM)) (dn : List Nat) {i : Nat} (hi : i < K.length) : (pickG toU K dn).map Unk.ds ++ [(toU K[i]).ds] = (pickG toU K (dn ++ [i])).map Unk.ds := by rw [pickG_snoc toU K dn hi, List.map_append]; rfl
theorem pick_len {κ τ : Type} [Inhabited κ] (f : κ × UM → τ) (K : List (κ × UM)) (dn : List Nat) : (pickG f K dn).length = dn.length := List.length_map ..
theorem sort_S (a : List Ali) (V : List Rpt) {dn : List Nat} (h : dn.Nodup ∧ ∀ i ∈ dn, i < (stA a V).1.length) (ha : ∀ i, i < (stA a V).1.length → i ∈ dn) : sortF cmpS (pickG toS (stA a V).1 dn) = salesR a V ∧ DistF cmpS (pickG toS (stA a V).1 dn) := by
  rw [stA_eq] at *
  exact sort_pick tot_S (key := Sal.key) (fun _ => rfl) ltOf_S (knA a V) h.1 h.2 ha
theorem sort_U (a : List Ali) (V : List Rpt) {dn : List Nat} (h : dn.Nodup ∧ ∀ i ∈ dn, i < (stA a V).2.length) (ha : ∀ i, i < (stA a V).2.length → i ∈ dn) : sortF cmpU (pickG toU (stA a V).2 dn) = unkR a V ∧ DistF cmpU (pickG toU (stA a V).2 dn) := by
  rw [stA_eq] at *
  exact sort_pick tot_U (key := Unk.key) (fun _ => rfl) ltOf_U (opA a V) h.1 h.2 ha


set_option maxRecDepth 100000 in
set_option maxHeartbeats 4000000 in
theorem c_sums (l : List Rpt) (a : List Ali) (hl : Log l) (ho : ∀ x ∈ l, okRpt x) (ha : Als a) : ACall Tryd.prog 15 [.sl (l.map Rpt.ds), .sl (a.map Ali.ds)] (.tup [.sl ((salesR a (validR l)).map Sal.ds), .sl ((unkR a (validR l)).map Unk.ds)]) := by
  refine acall_of (n := 136) (ds' := [.sl ((salesR a (validR l)).map Sal.ds), .sl ((unkR a (validR l)).map Unk.ds)]) Tryd.func15 rfl (by kernel_rfl) rfl [4, 5] rfl rfl ?_
  intro B w0 F0 fr
  have hll := hl.len
  have hvl : (validR l).length ≤ l.length := List.length_filter_le _ _
  have hV : ∀ x ∈ (validR l), RpO x := fun x hx => rpO (hl.ok x (List.mem_filter.1 hx).1) (ho x (List.mem_filter.1 hx).1)
  have hal := ha.len
  refine AWP.seq ?_
  refine AWP.region ?_
  refine AOps.step rfl rfl rfl (AOp.assignD rfl rfl) ?_
  refine AOps.step rfl rfl rfl (AOp.assignD rfl rfl) ?_
  refine AOps.nil ?_
  refine AWP.seq ?_
  refine AWP.region ?_
  refine AOps.makeMap 91 rfl rfl rfl rfl rfl ?_
  refine AOps.makeMap 92 rfl rfl rfl rfl rfl ?_
  refine AOps.step rfl rfl rfl (AOp.assignO rfl rfl) ?_
  refine AOps.step rfl rfl rfl (AOp.assignO rfl rfl) ?_
  refine AOps.nil ?_
  refine AWP.seq ?_
  refine AWP.seq ?_
  refine AWP.region ?_
  refine AOps.step rfl rfl rfl (AOp.moveD rfl rfl) ?_
  refine AOps.step rfl rfl rfl (AOp.call rfl (.cons (ArgOk.rfl' rfl) .nil) (c_pVal l hl ho)) ?_
  refine AOps.step rfl rfl rfl (AOp.lenSl rfl et_22.ht rfl) ?_
  refine AOps.step rfl rfl rfl (AOp.moveD rfl rfl) ?_
  refine AOps.nil ?_
  refine AWP.block ?_
  refine AWP.loop (G := Nat) (fun k => Env.of [(29, .d (.v (.int .i64 (k : Int)))), (27, .d (.sl ((validR l).map Rpt.ds))), (28, .d (.v (.int .i64 (((validR l).map Rpt.ds).length : Int)))), (1, .d (.sl (a.map Ali.ds))), (6, .own 91), (7, .own 92)]) (fun k => [(92, .map (encU (stA a ((validR l).take k)).2)), (91, .map (encS (stA a ((validR l).take k)).1))]) (fun k => k ≤ (validR l).length) (fun k => (validR l).length - k) 0 (Nat.zero_le _) (Sub.less ⟨(SLe.of_eq rfl), SLe.refl _, SLe.refl _, SLe.refl _, SLe.refl _, SLe.refl _, trivial⟩ (maps_2 rfl rfl)) ?_
  intro k hk
  refine AWP.seq ?_
  refine AWP.region ?_
  refine AOps.step rfl rfl rfl (AOp.lss rfl rfl rfl) ?_
  refine AOps.nil ?_
  refine AWP.seq ?_
  refine AWP.cond rfl (fun h1 => ?_) (fun h1 => ?_)
  · replace h1 := of_decide_eq_true h1
    rw [List.length_map] at h1
    have hlt : k < (validR l).length := by omega
    have hx := hV _ (List.getElem_mem hlt)
    have hA := inv_A ha hV k (by omega)
    have hxl := hx.len
    refine AWP.skip ?_
    refine AWP.seq ?_
    refine AWP.block ?_
    refine AWP.seq ?_
    refine AWP.region ?_
    refine AOps.step rfl rfl rfl (AOp.indexAddr rfl et_22 rfl rfl k rfl (at_lst hlt) rfl) ?_
    refine AOps.step rfl rfl rfl (AOp.loadAgg rfl ag_40 rfl rfl) ?_
    refine AOps.alloc 103 rfl rfl rfl rfl zt_40 rfl rfl rfl ?_
    refine AOps.store rfl rfl rfl sz_40 rfl (.head _) rfl rfl rfl (Nat.le_of_ble_eq_true rfl) ?_
    refine AOps.freezeCells 9 (ds := (validR l)[k].ds) rfl (.head _) ?_
    refine AOps.nil ?_
    refine AWP.seq ?_
    refine AWP.region ?_
    refine AOps.step rfl rfl rfl (AOp.fieldAddr rfl fo_40_4 rfl) ?_
    refine AOps.step rfl rfl rfl (AOp.load rfl sc_38 rfl) ?_
    refine AOps.step rfl rfl rfl (AOp.lenSl rfl et_38.ht rfl) ?_
    refine AOps.step rfl rfl rfl (AOp.moveD rfl rfl) ?_
    refine AOps.nil ?_
    refine AWP.block ?_
    refine AWP.loop (G := Nat) (fun j => Env.of [(36, .d (.v (.int .i64 (j : Int)))), (34, .d (.sl ((validR l)[k].lines.map Usd.ds))), (35, .d (.v (.int .i64 (((validR l)[k].lines.map Usd.ds).length : Int)))), (9, .d (.fp (validR l)[k].ds)), (29, .d (.v (.int .i64 (k : Int)))), (27, .d (.sl ((validR l).map Rpt.ds))), (28, .d (.v (.int .i64 (((validR l).map Rpt.ds).length : Int)))), (1, .d (.sl (a.map Ali.ds))), (6, .own 91), (7, .own 92)]) (fun j => [(92, .map (encU (stB a (validR l)[k] (stA a ((validR l).take k)) j).2)), (91, .map (encS (stB a (validR l)[k] (stA a ((validR l).take k)) j).1))]) (fun j => j ≤ (validR l)[k].lines.length) (fun j => (validR l)[k].lines.length - j) 0 (Nat.zero_le _) (Sub.less ⟨(SLe.of_eq rfl), SLe.refl _, SLe.refl _, SLe.refl _, SLe.refl _, SLe.refl _, SLe.refl _, SLe.refl _, SLe.refl _, SLe.refl _, trivial⟩ (maps_2 rfl rfl)) ?_
    intro j hj
    refine AWP.seq ?_
    refine AWP.region ?_
    refine AOps.step rfl rfl rfl (AOp.lss rfl rfl rfl) ?_
    refine AOps.nil ?_
    refine AWP.seq ?_
    refine AWP.cond rfl (fun h2 => ?_) (fun h2 => ?_)
    · replace h2 := of_decide_eq_true h2
      rw [List.length_map] at h2
      have hjl : j < (validR l)[k].lines.length := by omega
      have hI := inv_B ha hx (show 0 ≤ 100 * (k : Int) by omega) hA j (by omega)
      have hu := hx.use _ (List.getElem_mem hjl)
      have hper := hx.per
      have HN := stB_next (a := a) (s := (stA a ((validR l).take k))) hjl
      refine AWP.skip ?_
      refine AWP.seq ?_
      refine AWP.block ?_
      refine AWP.seq ?_
      refine AWP.region ?_
      refine AOps.step rfl rfl rfl (AOp.indexAddr rfl et_38 rfl rfl j rfl (at_lst hjl) rfl) ?_
      refine AOps.step rfl rfl rfl (AOp.loadAgg rfl ag_42 rfl rfl) ?_
      refine AOps.alloc 104 rfl rfl rfl rfl zt_42 rfl rfl rfl ?_
      refine AOps.store rfl rfl rfl sz_42 rfl (.head _) rfl rfl rfl (Nat.le_of_ble_eq_true rfl) ?_
      refine AOps.freezeCells 11 (ds := (validR l)[k].lines[j].ds) rfl (.head _) ?_
      refine AOps.nil ?_
      refine AWP.seq ?_
      refine AWP.region ?_
      refine AOps.step rfl rfl rfl (AOp.moveD rfl rfl) ?_
      refine AOps.step rfl rfl rfl (AOp.fieldAddr rfl fo_40_0 rfl) ?_
      refine AOps.step rfl rfl rfl (AOp.load rfl sc_9 rfl) ?_
      refine AOps.step rfl rfl rfl (AOp.fieldAddr rfl fo_42_0 rfl) ?_
      refine AOps.step rfl rfl rfl (AOp.load rfl sc_9 rfl) ?_
      refine AOps.step rfl rfl rfl (AOp.build rfl bu_94 (.cons rfl rfl (.cons rfl rfl .nil)) rfl) ?_
      refine AOps.step rfl rfl rfl (AOp.call rfl (.cons (ArgOk.rfl' rfl) (.cons (ArgOk.rfl' rfl) (.cons (by first | exact ArgOk.rfl' rfl | exact ArgOk.fn rfl) .nil))) (c_bsA a ⟨(validR l)[k].source, (validR l)[k].lines[j].title, 0⟩ (by omega))) ?_
      refine AOps.step rfl rfl rfl (AOp.moveD rfl rfl) ?_
      refine AOps.step rfl rfl rfl (AOp.extract rfl rfl rfl) ?_
      refine AOps.step rfl rfl rfl (AOp.extract rfl rfl rfl) ?_
      refine AOps.step rfl rfl rfl (AOp.assignD rfl rfl) ?_
      refine AOps.step rfl rfl rfl (AOp.assignD rfl rfl) ?_
      refine AOps.nil ?_
      refine AWP.seq ?_
      refine AWP.seq ?_
      refine AWP.region ?_
      refine AOps.step rfl rfl rfl (AOp.moveD rfl rfl) ?_
      refine AOps.nil ?_
      refine AWP.cond rfl (fun h3 => ?_) (fun h3 => ?_)
      · skip
        obtain ⟨hp, hre, hmn⟩ := hasA_yes ha h3
        have hrr := ha.rng _ (List.getElem_mem hp)
        rw [hre] at hrr
        have hky := keyS_ok (meantA a (validR l)[k].source (validR l)[k].lines[j].title, (validR l)[k].period) (by dsimp only; omega) (by dsimp only; omega)
        have hgb := get_bound_S hI.b1 (by omega) (meantA a (validR l)[k].source (validR l)[k].lines[j].title, (validR l)[k].period)
        rw [stU_yes hmn] at HN
        refine AWP.seq ?_
        refine AWP.drawFresh 9 [⟨14, 105, .ptr 105 0, .cells [.d (.v (.int .i64 0)), .d (.v (.int .i64 0))]⟩] (FrOk.one rfl (by simp) rfl rfl rfl) (by kernel_rfl) (by kernel_rfl) (by kernel_rfl) (by kernel_rfl) ?_
        refine XRun.step rfl rfl rfl (AOp.moveD rfl rfl) ?_
        refine XRun.step rfl rfl rfl (AOp.moveD rfl rfl) ?_
        refine XRun.step rfl rfl rfl (AOp.indexAddr rfl et_23 rfl rfl (posA a ⟨(validR l)[k].source, (validR l)[k].lines[j].title, 0⟩) rfl (at_lst hp) rfl) ?_
        refine XRun.step rfl rfl rfl (AOp.fieldAddr rfl fo_94_2 rfl) ?_
        refine XRun.step rfl rfl rfl (AOp.load rfl sc_3 rfl) ?_
        refine XRun.step rfl rfl rfl (AOp.fieldAddr rfl fo_40_2 rfl) ?_
        refine XRun.step rfl rfl rfl (AOp.load rfl sc_3 rfl) ?_
        refine XRun.step rfl rfl rfl (AOp.build rfl bu_97 (.cons rfl rfl (.cons rfl rfl .nil)) rfl) ?_
        refine XRun.alloc _ (.head _) rfl rfl rfl rfl rfl zt_97 rfl rfl rfl rfl ?_
        refine XRun.nil ⟨rfl, trivial⟩ ?_
        refine AOps.store rfl rfl rfl sz_97 rfl (.head _) rfl rfl rfl (Nat.le_of_ble_eq_true rfl) ?_
        refine AOps.freezeCells 14 (ds := [.v (.int .i64 a[posA a ⟨(validR l)[k].source, (validR l)[k].lines[j].title, 0⟩].recd), .v (.int .i64 (validR l)[k].period)]) rfl (.head _) ?_
        refine AOps.nil ?_
        refine AWP.seq ?_
        rw [hre]
        refine AWP.region ?_
        refine AOps.step rfl rfl rfl (AOp.moveO rfl rfl) ?_
        refine AOps.step rfl rfl rfl (AOp.loadAgg rfl ag_97 rfl rfl) ?_
        refine AOps.step rfl rfl rfl (AOp.lookupX (key := keyS (meantA a (validR l)[k].source (validR l)[k].lines[j].title, (validR l)[k].period)) rfl mt_S kd_S zt_S zd_S rfl (.tail _ (.head _)) rfl (DExact.agg2 _ _) hky (encS_ok hI) (mget_S hI.n1 _)) ?_
        refine AOps.alloc 106 rfl rfl rfl rfl zt_35 rfl rfl rfl ?_
        refine AOps.store rfl rfl rfl sz_35 rfl (.head _) rfl rfl rfl (Nat.le_of_ble_eq_true rfl) ?_
        refine AOps.freezeCells 15 (ds := (getS (stB a (validR l)[k] (stA a ((validR l).take k)) j).1 (meantA a (validR l)[k].source (validR l)[k].lines[j].title, (validR l)[k].period)).ds) rfl (.head _) ?_
        refine AOps.nil ?_
        refine AWP.seq ?_
        refine AWP.region ?_
        refine AOps.step rfl rfl rfl (AOp.moveO rfl rfl) ?_
        refine AOps.step rfl rfl rfl (AOp.loadAgg rfl ag_97 rfl rfl) ?_
        refine AOps.step rfl rfl rfl (AOp.fieldAddr rfl fo_97_0 rfl) ?_
        refine AOps.step rfl rfl rfl (AOp.load rfl sc_3 rfl) ?_
        refine AOps.step rfl rfl rfl (AOp.fieldAddr rfl fo_97_1 rfl) ?_
        refine AOps.step rfl rfl rfl (AOp.load rfl sc_3 rfl) ?_
        refine AOps.step rfl rfl rfl (AOp.fieldAddr rfl fo_35_2 rfl) ?_
        refine AOps.step rfl rfl rfl (AOp.load rfl sc_3 rfl) ?_
        refine AOps.step rfl rfl rfl (AOp.fieldAddr rfl fo_42_1 rfl) ?_
        refine AOps.step rfl rfl rfl (AOp.load rfl sc_3 rfl) ?_
        refine AOps.step rfl rfl rfl (AOp.add64 rfl rfl rfl (by omega) (by omega)) ?_
        refine AOps.step rfl rfl rfl (AOp.fieldAddr rfl fo_35_3 rfl) ?_
        refine AOps.step rfl rfl rfl (AOp.load rfl sc_3 rfl) ?_
        refine AOps.step rfl rfl rfl (AOp.fieldAddr rfl fo_42_2 rfl) ?_
        refine AOps.step rfl rfl rfl (AOp.load rfl sc_3 rfl) ?_
        refine AOps.step rfl rfl rfl (AOp.add64 rfl rfl rfl (by omega) (by omega)) ?_
        refine AOps.step rfl rfl rfl (AOp.build rfl bu_35 (.cons rfl rfl (.cons rfl rfl (.cons rfl rfl (.cons rfl rfl .nil)))) rfl) ?_
        refine AOps.eff rfl rfl (EOp.mapUpdateX (key := keyS (meantA a (validR l)[k].source (validR l)[k].lines[j].title, (validR l)[k].period)) rfl rfl mt_S kd_S rfl (.tail _ (.head _)) rfl (DExact.agg2 _ _) rfl hky (encS_ok hI) (mput_S hI.n1 _ _ (put_eq_S (stB a (validR l)[k] (stA a ((validR l).take k)) j).1 (meantA a (validR l)[k].source (validR l)[k].lines[j].title, (validR l)[k].period) (validR l)[k].lines[j].units (validR l)[k].lines[j].money))) ?_
        refine AOps.nil ?_
        refine AWP.exit ?_
        refine AWP.region ?_
        refine AOps.step rfl rfl rfl (AOp.add64 rfl rfl rfl (by omega) (by omega)) ?_
        refine AOps.step rfl rfl rfl (AOp.moveD rfl rfl) ?_
        refine AOps.nil ?_
        refine ⟨j + 1, (by dsimp only; omega), (by dsimp only; omega), Sub.less ⟨(SLe.of_eq rfl), SLe.refl _, SLe.refl _, SLe.refl _, SLe.refl _, SLe.refl _, SLe.refl _, SLe.refl _, SLe.refl _, SLe.refl _, trivial⟩ (maps_2 (by rw [HN]) (by rw [HN]))⟩
      · skip
        have hmn := hasA_no ha h3
        have hky := keyU_ok ((validR l)[k].source, (validR l)[k].lines[j].title, (validR l)[k].period) hx.src hu.1 (by dsimp only; omega)
        have hgb := get_bound_U hI.b2 (by omega) ((validR l)[k].source, (validR l)[k].lines[j].title, (validR l)[k].period)
        rw [stU_no hmn] at HN
        refine AWP.skip ?_
        refine AWP.seq ?_
        refine AWP.region ?_
        refine AOps.step rfl rfl rfl (AOp.fieldAddr rfl fo_40_0 rfl) ?_
        refine AOps.step rfl rfl rfl (AOp.load rfl sc_9 rfl) ?_
        refine AOps.step rfl rfl rfl (AOp.fieldAddr rfl fo_42_0 rfl) ?_
        refine AOps.step rfl rfl rfl (AOp.load rfl sc_9 rfl) ?_
        refine AOps.step rfl rfl rfl (AOp.fieldAddr rfl fo_40_2 rfl) ?_
        refine AOps.step rfl rfl rfl (AOp.load rfl sc_3 rfl) ?_
        refine AOps.step rfl rfl rfl (AOp.build rfl bu_99 (.cons rfl rfl (.cons rfl rfl (.cons rfl rfl .nil))) rfl) ?_
        refine AOps.alloc 107 rfl rfl rfl rfl zt_99 rfl rfl rfl ?_
        refine AOps.store rfl rfl rfl sz_99 rfl (.head _) rfl rfl rfl (Nat.le_of_ble_eq_true rfl) ?_
        refine AOps.freezeCells 16 (ds := [.v (.string (validR l)[k].source), .v (.string (validR l)[k].lines[j].title), .v (.int .i64 (validR l)[k].period)]) rfl (.head _) ?_
        refine AOps.nil ?_
        refine AWP.seq ?_
        refine AWP.region ?_
        refine AOps.step rfl rfl rfl (AOp.moveO rfl rfl) ?_
        refine AOps.step rfl rfl rfl (AOp.loadAgg rfl ag_99 rfl rfl) ?_
        refine AOps.step rfl rfl rfl (AOp.lookupX (key := keyU ((validR l)[k].source, (validR l)[k].lines[j].title, (validR l)[k].period)) rfl mt_U kd_U zt_U zd_U rfl (.head _) rfl (DExact.agg3 _ _ _) hky (encU_ok hI) (mget_U hI.n2 _)) ?_
        refine AOps.alloc 108 rfl rfl rfl rfl zt_37 rfl rfl rfl ?_
        refine AOps.store rfl rfl rfl sz_37 rfl (.head _) rfl rfl rfl (Nat.le_of_ble_eq_true rfl) ?_
        refine AOps.freezeCells 17 (ds := (getU (stB a (validR l)[k] (stA a ((validR l).take k)) j).2 ((validR l)[k].source, (validR l)[k].lines[j].title, (validR l)[k].period)).ds) rfl (.head _) ?_
        refine AOps.nil ?_
        refine AWP.region ?_
        refine AOps.step rfl rfl rfl (AOp.moveO rfl rfl) ?_
        refine AOps.step rfl rfl rfl (AOp.loadAgg rfl ag_99 rfl rfl) ?_
        refine AOps.step rfl rfl rfl (AOp.fieldAddr rfl fo_40_0 rfl) ?_
        refine AOps.step rfl rfl rfl (AOp.load rfl sc_9 rfl) ?_
        refine AOps.step rfl rfl rfl (AOp.fieldAddr rfl fo_42_0 rfl) ?_
        refine AOps.step rfl rfl rfl (AOp.load rfl sc_9 rfl) ?_
        refine AOps.step rfl rfl rfl (AOp.fieldAddr rfl fo_40_2 rfl) ?_
        refine AOps.step rfl rfl rfl (AOp.load rfl sc_3 rfl) ?_
        refine AOps.step rfl rfl rfl (AOp.fieldAddr rfl fo_37_3 rfl) ?_
        refine AOps.step rfl rfl rfl (AOp.load rfl sc_3 rfl) ?_
        refine AOps.step rfl rfl rfl (AOp.fieldAddr rfl fo_42_1 rfl) ?_
        refine AOps.step rfl rfl rfl (AOp.load rfl sc_3 rfl) ?_
        refine AOps.step rfl rfl rfl (AOp.add64 rfl rfl rfl (by omega) (by omega)) ?_
        refine AOps.step rfl rfl rfl (AOp.fieldAddr rfl fo_37_4 rfl) ?_
        refine AOps.step rfl rfl rfl (AOp.load rfl sc_3 rfl) ?_
        refine AOps.step rfl rfl rfl (AOp.fieldAddr rfl fo_42_2 rfl) ?_
        refine AOps.step rfl rfl rfl (AOp.load rfl sc_3 rfl) ?_
        refine AOps.step rfl rfl rfl (AOp.add64 rfl rfl rfl (by omega) (by omega)) ?_
        refine AOps.step rfl rfl rfl (AOp.build rfl bu_37 (.cons rfl rfl (.cons rfl rfl (.cons rfl rfl (.cons rfl rfl (.cons rfl rfl .nil))))) rfl) ?_
        refine AOps.eff rfl rfl (EOp.mapUpdateX (key := keyU ((validR l)[k].source, (validR l)[k].lines[j].title, (validR l)[k].period)) rfl rfl mt_U kd_U rfl (.head _) rfl (DExact.agg3 _ _ _) rfl hky (encU_ok hI) (mput_U hI.n2 _ _ (put_eq_U (stB a (validR l)[k] (stA a ((validR l).take k)) j).2 ((validR l)[k].source, (validR l)[k].lines[j].title, (validR l)[k].period) (validR l)[k].lines[j].units (validR l)[k].lines[j].money))) ?_
        refine AOps.nil ?_
        refine AWP.region ?_
        refine AOps.step rfl rfl rfl (AOp.add64 rfl rfl rfl (by omega) (by omega)) ?_
        refine AOps.step rfl rfl rfl (AOp.moveD rfl rfl) ?_
        refine AOps.nil ?_
        refine ⟨j + 1, (by dsimp only; omega), (by dsimp only; omega), Sub.less ⟨(SLe.of_eq rfl), SLe.refl _, SLe.refl _, SLe.refl _, SLe.refl _, SLe.refl _, SLe.refl _, SLe.refl _, SLe.refl _, SLe.refl _, trivial⟩ (maps_2 (by rw [HN]) (by rw [HN]))⟩
    · replace h2 := of_decide_eq_false h2
      rw [List.length_map] at h2
      obtain rfl : j = (validR l)[k].lines.length := by omega
      have HS := stA_next (a := a) hlt
      refine AWP.exit ?_
      refine AWP.region ?_
      refine AOps.step rfl rfl rfl (AOp.add64 rfl rfl rfl (by omega) (by omega)) ?_
      refine AOps.step rfl rfl rfl (AOp.moveD rfl rfl) ?_
      refine AOps.nil ?_
      refine ⟨k + 1, (by omega), (by dsimp only; omega), Sub.less ⟨(SLe.of_eq rfl), SLe.refl _, SLe.refl _, SLe.refl _, SLe.refl _, SLe.refl _, trivial⟩ (maps_2 (by rw [HS]) (by rw [HS]))⟩
  · replace h1 := of_decide_eq_false h1
    rw [List.length_map] at h1
    obtain rfl : k = (validR l).length := by omega
    rw [List.take_length]
    have hI := inv_A ha hV (validR l).length (Nat.le_refl _)
    rw [List.take_length] at hI
    have hk1 := hI.l1
    have hk2 := hI.l2
    refine AWP.exit ?_
    refine AWP.seq ?_
    refine AWP.region ?_
    refine AOps.step rfl rfl rfl (AOp.assignD rfl rfl) ?_
    refine AOps.nil ?_
    refine AWP.seq ?_
    refine AWP.seq ?_
    refine AWP.region ?_
    refine AOps.step rfl rfl rfl (AOp.moveO rfl rfl) ?_
    refine AOps.range 71 rfl rfl rfl rfl mt_89 rfl (.tail _ (.head _)) rfl ?_
    refine AOps.nil ?_
    refine AWP.block ?_
    refine AWP.adopt 18 61 35 4 rfl rfl ?_
    refine AWP.loop (G := List Nat) (fun dn => Env.of [(111, .ptr 71 0), (18, .own 61), (7, .own 92)]) (fun dn => [(61, .row 35 4 ((pickG toS (stA a (validR l)).1 dn).map Sal.ds)), (71, .iter (encS (stA a (validR l)).1) dn), (92, .map (encU (stA a (validR l)).2))]) (fun dn => dn.Nodup ∧ ∀ i ∈ dn, i < (stA a (validR l)).1.length) (fun dn => (stA a (validR l)).1.length - dn.length) [] ⟨List.nodup_nil, fun i h => absurd h List.not_mem_nil⟩ (Sub.less ⟨SLe.refl _, SLe.refl _, SLe.refl _, trivial⟩ (obs_3 rfl rfl rfl)) ?_
    intro dn hd
    refine AWP.seq ?_
    refine AWP.region ?_
    refine AOps.nextL rfl rfl rfl rfl rfl (.tail _ (.head _)) (fun hall => ?_) (fun i hi hni => ?_)
    · skip
      have hdl := nd_len hd.1 hd.2
      obtain ⟨HS1, HD1⟩ := sort_S a (validR l) hd hall
      refine AOps.step rfl rfl rfl (AOp.extract rfl rfl rfl) ?_
      refine AOps.nil ?_
      refine AWP.seq ?_
      refine AWP.cond rfl (fun h => nomatch h) (fun _ => ?_)
      refine AWP.exit ?_
      refine AWP.seq ?_
      refine AWP.region ?_
      refine AOps.step rfl rfl rfl (AOp.assignD rfl rfl) ?_
      refine AOps.nil ?_
      refine AWP.seq ?_
      refine AWP.seq ?_
      refine AWP.region ?_
      refine AOps.step rfl rfl rfl (AOp.moveO rfl rfl) ?_
      refine AOps.range 72 rfl rfl rfl rfl mt_90 rfl (.tail _ (.tail _ (.head _))) rfl ?_
      refine AOps.nil ?_
      refine AWP.block ?_
      refine AWP.adopt 21 62 37 5 rfl rfl ?_
      refine AWP.loop (G := List Nat) (fun dm => Env.of [(121, .ptr 72 0), (21, .own 62), (18, .own 61)]) (fun dm => [(62, .row 37 5 ((pickG toU (stA a (validR l)).2 dm).map Unk.ds)), (72, .iter (encU (stA a (validR l)).2) dm), (61, .row 35 4 ((pickG toS (stA a (validR l)).1 dn).map Sal.ds))]) (fun dm => dm.Nodup ∧ ∀ i ∈ dm, i < (stA a (validR l)).2.length) (fun dm => (stA a (validR l)).2.length - dm.length) [] ⟨List.nodup_nil, fun i h => absurd h List.not_mem_nil⟩ (Sub.less ⟨SLe.refl _, SLe.refl _, SLe.refl _, trivial⟩ (obs_3 rfl rfl rfl)) ?_
      intro dm he
      refine AWP.seq ?_
      refine AWP.region ?_
      refine AOps.nextL rfl rfl rfl rfl rfl (.tail _ (.head _)) (fun hbll => ?_) (fun i hi hni => ?_)
      · skip
        have hel := nd_len he.1 he.2
        obtain ⟨HS2, HD2⟩ := sort_U a (validR l) he hbll
        refine AOps.step rfl rfl rfl (AOp.extract rfl rfl rfl) ?_
        refine AOps.nil ?_
        refine AWP.seq ?_
        refine AWP.cond rfl (fun h => nomatch h) (fun _ => ?_)
        refine AWP.exit ?_
        refine AWP.seq ?_
        refine AWP.region ?_
        refine AOps.step rfl rfl rfl (AOp.moveO rfl rfl) ?_
        -- turns 61
        refine AOps.callX rfl rfl rfl (.cons (SLe.refl _) (.cons (SLe.fn _) .nil)) ((c_sortS _ (by rw [pick_len]; omega) HD1 _) 61) ⟨(.tail _ (.tail _ (.head _))), trivial⟩ rfl rfl (fun _ h => nomatch h) ?_
        rw [HS1]
        refine AOps.nil ?_
        refine AWP.seq ?_
        refine AWP.region ?_
        refine AOps.step rfl rfl rfl (AOp.moveO rfl rfl) ?_
        -- turns 62
        refine AOps.callX rfl rfl rfl (.cons (SLe.refl _) (.cons (SLe.fn _) .nil)) ((c_sortU _ (by rw [pick_len]; omega) HD2 _) 62) ⟨(.tail _ (.head _)), trivial⟩ rfl rfl (fun _ h => nomatch h) ?_
        rw [HS2]
        refine AOps.nil ?_
        refine AWP.seq ?_
        refine AWP.region ?_
        refine AOps.step rfl rfl rfl (AOp.moveO rfl rfl) ?_
        refine AOps.step rfl rfl rfl (AOp.moveO rfl rfl) ?_
        refine AOps.step rfl rfl rfl (AOp.assignO rfl rfl) ?_
        refine AOps.step rfl rfl rfl (AOp.assignO rfl rfl) ?_
        refine AOps.nil ?_
        refine AWP.ret ?_
        refine ⟨RetD.own rfl (.tail _ (.head _)) ?_, RetD.own rfl (.head _) ?_, trivial⟩
        all_goals (rfl)
      · skip
        have hsn := nd_snoc he hi hni
        have hnl := nd_len hsn.1 hsn.2
        rw [List.length_append, List.length_singleton] at hnl
        refine AOps.step rfl rfl rfl (AOp.extract rfl rfl rfl) ?_
        refine AOps.nil ?_
        refine AWP.seq ?_
        refine AWP.cond rfl (fun _ => ?_) (fun h => nomatch h)
        refine AWP.skip ?_
        refine AWP.block ?_
        refine AWP.seq ?_
        refine AWP.region ?_
        refine AOps.step rfl rfl rfl (AOp.entryL rfl rfl (.tail _ (.head _)) hi) ?_
        refine AOps.step rfl rfl rfl (AOp.extract rfl rfl rfl) ?_
        refine AOps.alloc 111 rfl rfl rfl rfl zt_37 rfl rfl rfl ?_
        refine AOps.store rfl rfl rfl sz_37 rfl (.head _) rfl rfl rfl (Nat.le_of_ble_eq_true rfl) ?_
        refine AOps.freezeCells 23 (ds := (toU (stA a (validR l)).2[i]).ds) rfl (.head _) ?_
        refine AOps.nil ?_
        refine AWP.region ?_
        refine AOps.step rfl rfl rfl (AOp.moveO rfl rfl) ?_
        refine AOps.step rfl rfl rfl (AOp.loadAgg rfl ag_37 rfl rfl) ?_
        refine AOps.step rfl rfl rfl (AOp.buildSlice rfl et_28 (.cons rfl rfl rfl .nil) rfl (by decide)) ?_
        -- append 129
        refine AOps.append rfl rfl rfl rfl et_28 rfl (.head _) rfl (fun y hy => by obtain rfl := List.mem_singleton.1 hy; rfl) (by simp [pickG]; omega) (by simp [pickG]; omega) ?_
        refine AOps.step rfl rfl rfl (AOp.assignO rfl rfl) ?_
        refine AOps.nil ?_
        refine ⟨dm ++ [i], hsn, (by dsimp only; rw [List.length_append, List.length_singleton]; omega), Sub.less ⟨SLe.refl _, SLe.refl _, SLe.refl _, trivial⟩ (obs_3 (pick_ds_U _ _ hi) rfl rfl)⟩
    · skip
      have hsn := nd_snoc hd hi hni
      have hnl := nd_len hsn.1 hsn.2
      rw [List.length_append, List.length_singleton] at hnl
      refine AOps.step rfl rfl rfl (AOp.extract rfl rfl rfl) ?_
      refine AOps.nil ?_
      refine AWP.seq ?_
      refine AWP.cond rfl (fun _ => ?_) (fun h => nomatch h)
      refine AWP.skip ?_
      refine AWP.block ?_
      refine AWP.seq ?_
      refine AWP.region ?_
      refine AOps.step rfl rfl rfl (AOp.entryL rfl rfl (.tail _ (.head _)) hi) ?_
      refine AOps.step rfl rfl rfl (AOp.extract rfl rfl rfl) ?_
      refine AOps.alloc 112 rfl rfl rfl rfl zt_35 rfl rfl rfl ?_
      refine AOps.store rfl rfl rfl sz_35 rfl (.head _) rfl rfl rfl (Nat.le_of_ble_eq_true rfl) ?_
      refine AOps.freezeCells 20 (ds := (toS (stA a (validR l)).1[i]).ds) rfl (.head _) ?_
      refine AOps.nil ?_
      refine AWP.region ?_
      refine AOps.step rfl rfl rfl (AOp.moveO rfl rfl) ?_
      refine AOps.step rfl rfl rfl (AOp.loadAgg rfl ag_35 rfl rfl) ?_
      refine AOps.step rfl rfl rfl (AOp.buildSlice rfl et_24 (.cons rfl rfl rfl .nil) rfl (by decide)) ?_
      -- append 119
      refine AOps.append rfl rfl rfl rfl et_24 rfl (.head _) rfl (fun y hy => by obtain rfl := List.mem_singleton.1 hy; rfl) (by simp [pickG]; omega) (by simp [pickG]; omega) ?_
      refine AOps.step rfl rfl rfl (AOp.assignO rfl rfl) ?_
      refine AOps.nil ?_
      refine ⟨dn ++ [i], hsn, (by dsimp only; rw [List.length_append, List.length_singleton]; omega), Sub.less ⟨SLe.refl _, SLe.refl _, SLe.refl _, trivial⟩ (obs_3 (pick_ds_S _ _ hi) rfl rfl)⟩

end Go.Proofs.YtekenfknoakboaaDoor


namespace Go.Proofs.YtekenfknoakboaaDoor
open Go.RowKit
set_option linter.unusedVariables false

/-! Types. -/
namespace TyO4

end TyO4
open TyO4


open Go.Sort Go.Lib
/-- The fault of a log and aliases. -/
def askF (l : List Rpt) (a : List Ali) : Int := if logF l ≠ 0 then logF l else alisF a
def matchR (l : List Rpt) (a : List Ali) : List Sal := if askF l a = 0 then salesR a (validR l) else []
def openR (l : List Rpt) (a : List Ali) : List Unk := if askF l a = 0 then unkR a (validR l) else []
theorem ask_ok {l : List Rpt} {a : List Ali} (h : askF l a = 0) : logF l = 0 ∧ alisF a = 0 := by
  unfold askF at h
  split at h
  · exact absurd h (by assumption)
  · rename_i h1; exact ⟨Decidable.not_not.1 h1, h⟩
/-! ### All is matched or open -/
def sumI {α : Type} (f : α → Int) (l : List α) : Int := (l.map f).foldr (· + ·) 0
theorem sumI_nil {α : Type} (f : α → Int) : sumI f [] = 0 := rfl
theorem sumI_cons {α : Type} (f : α → Int) (x : α) (l : List α) : sumI f (x :: l) = f x + sumI f l := rfl
theorem sumI_append {α : Type} (f : α → Int) (l r : List α) : sumI f (l ++ r) = sumI f l + sumI f r := by
  induction l with
  | nil => rw [List.nil_append, sumI_nil]; omega
  | cons x l ih => rw [List.cons_append, sumI_cons, sumI_cons, ih]; omega
theorem sumI_next {α : Type} (f : α → Int) {l : List α} {k : Nat} (h : k < l.length) : sumI f (l.take (k + 1)) = sumI f (l.take k) + f l[k] := by
  rw [List.take_add_one, List.getElem?_eq_getElem h, Option.toList_some, sumI_append, sumI_cons, sumI_nil]; omega
theorem sumI_nonneg {α : Type} {f : α → Int} {l : List α} (h : ∀ x ∈ l, 0 ≤ f x) : 0 ≤ sumI f l := by
  induction l with
  | nil => exact Int.le_refl _
  | cons x l ih =>
    rw [sumI_cons]
    have := h x (List.mem_cons_self ..)
    have := ih fun y hy => h y (List.mem_cons_of_mem _ hy)
    omega
theorem sumI_take {α : Type} {f : α → Int} {l : List α} (h : ∀ x ∈ l, 0 ≤ f x) (k : Nat) : 0 ≤ sumI f (l.take k) ∧ sumI f (l.take k) ≤ sumI f l := by
  have h1 : sumI f l = sumI f (l.take k) + sumI f (l.drop k) := by rw [← sumI_append, List.take_append_drop]
  have h2 : 0 ≤ sumI f (l.take k) := sumI_nonneg fun x hx => h x (List.mem_of_mem_take hx)
  have h3 : 0 ≤ sumI f (l.drop k) := sumI_nonneg fun x hx => h x (List.mem_of_mem_drop hx)
  omega
theorem sumI_le {α : Type} {f : α → Int} {l : List α} {c : Int} (h : ∀ x ∈ l, f x ≤ c) : sumI f l ≤ c * (l.length : Int) := by
  induction l with
  | nil => rw [sumI_nil]; simp
  | cons x l ih =>
    rw [sumI_cons, List.length_cons]
    have := h x (List.mem_cons_self ..)
    have := ih fun y hy => h y (List.mem_cons_of_mem _ hy)
    rw [show (((l.length + 1 : Nat) : Int)) = (l.length : Int) + 1 by omega, Int.mul_add, Int.mul_one]
    omega
theorem sumI_map {α β : Type} (f : β → Int) (g : α → β) (l : List α) : sumI f (l.map g) = sumI (fun x => f (g x)) l := by
  unfold sumI
  rw [List.map_map]; rfl
theorem sumI_flat {α β : Type} (f : β → Int) (g : α → List β) (l : List α) : sumI f (l.flatMap g) = sumI (fun x => sumI f (g x)) l := by
  induction l with
  | nil => rfl
  | cons x l ih => rw [List.flatMap_cons, sumI_append, ih, sumI_cons]
theorem sumI_add {α : Type} (f g : α → Int) (l : List α) : sumI f l + sumI g l = sumI (fun x => f x + g x) l := by
  induction l with
  | nil => rfl
  | cons x l ih => rw [sumI_cons, sumI_cons, sumI_cons, ← ih]; omega
theorem sumI_congr {α : Type} {f g : α → Int} {l : List α} (h : ∀ x ∈ l, f x = g x) : sumI f l = sumI g l := by
  induction l with
  | nil => rfl
  | cons x l ih => rw [sumI_cons, sumI_cons, h x (List.mem_cons_self ..), ih fun y hy => h y (List.mem_cons_of_mem _ hy)]
/-- Of a sum over units or money. -/
structure Pick where
  um : UM → Int
  add : ∀ a b, um (addU a b) = um a + um b
def pkU : Pick := ⟨fun u => u.1, fun _ _ => rfl⟩
def pkM : Pick := ⟨fun u => u.2, fun _ _ => rfl⟩
theorem fold_sum {κ : Type} [DecidableEq κ] (p : Pick) (lt : κ → κ → Bool) (E : List (κ × UM)) : sumI (fun q : κ × UM => p.um q.2) (foldO lt addU E) = sumI (fun q : κ × UM => p.um q.2) E := by
  have := sumB_foldO (lt := lt) (add := addU) (f := p.um) p.add E []
  have e0 : sumB p.um ([] : List (κ × UM)) = 0 := rfl
  rw [e0, Int.zero_add] at this
  exact this
theorem all_sum (p : Pick) (a : List Ali) (V : List Rpt) : sumI (fun s : Sal => p.um (s.units, s.money)) (salesR a V) + sumI (fun s : Unk => p.um (s.units, s.money)) (unkR a V) = sumI (fun x : Rpt => sumI (fun u : Usd => p.um (u.units, u.money)) x.lines) V := by
  unfold salesR unkR
  rw [sumI_map, sumI_map]
  have e1 : sumI (fun q : KS × UM => p.um ((toS q).units, (toS q).money)) (foldO ltS addU (knA a V)) = sumI (fun q : KS × UM => p.um q.2) (foldO ltS addU (knA a V)) := rfl
  have e2 : sumI (fun q : KU × UM => p.um ((toU q).units, (toU q).money)) (foldO ltU addU (opA a V)) = sumI (fun q : KU × UM => p.um q.2) (foldO ltU addU (opA a V)) := rfl
  rw [e1, e2, fold_sum, fold_sum]
  unfold knA opA
  rw [sumI_flat, sumI_flat, sumI_add]
  refine sumI_congr fun x _ => ?_
  rw [sumI_flat, sumI_flat, sumI_add]
  refine sumI_congr fun u _ => ?_
  unfold knE opE
  split
  · simp [sumI]
  · simp [sumI]
theorem sal_nn {a : List Ali} (ha : Als a) {V : List Rpt} (hV : ∀ x ∈ V, RpO x) : (∀ s ∈ salesR a V, 0 ≤ s.units ∧ 0 ≤ s.money) ∧ ∀ s ∈ unkR a V, 0 ≤ s.units ∧ 0 ≤ s.money := by
  have hI := inv_A ha hV V.length (Nat.le_refl _)
  rw [List.take_length, stA_eq] at hI
  constructor
  · intro s hs
    obtain ⟨q, hq, rfl⟩ := List.mem_map.1 hs
    have := hI.b1 q ((fold_mem tot_S (knA a V) q).2 hq)
    exact ⟨this.1.1, this.2.1⟩
  · intro s hs
    obtain ⟨q, hq, rfl⟩ := List.mem_map.1 hs
    have := hI.b2 q ((fold_mem tot_U (opA a V) q).2 hq)
    exact ⟨this.1.1, this.2.1⟩
theorem lines_le {V : List Rpt} (hV : ∀ x ∈ V, RpO x) (hl : V.length ≤ 300) (f : Usd → Int) (hf : ∀ u : Usd, (0 ≤ u.units ∧ u.units ≤ 1000000000) ∧ 0 ≤ u.money ∧ u.money ≤ 1000000000 → 0 ≤ f u ∧ f u ≤ 1000000000) :
    sumI (fun x : Rpt => sumI f x.lines) V ≤ 30000000000000 ∧ ∀ x ∈ V, (0 ≤ sumI f x.lines ∧ sumI f x.lines ≤ 100000000000) ∧ ∀ u ∈ x.lines, 0 ≤ f u := by
  have h1 : ∀ x ∈ V, (0 ≤ sumI f x.lines ∧ sumI f x.lines ≤ 100000000000) ∧ ∀ u ∈ x.lines, 0 ≤ f u := fun x hx => by
    have hx' := hV x hx
    have h2 := sumI_le (f := f) (l := x.lines) (c := 1000000000) fun u hu => (hf u (hx'.use u hu).2).2
    have h3 := hx'.len
    exact ⟨⟨sumI_nonneg fun u hu => (hf u (hx'.use u hu).2).1, by omega⟩, fun u hu => (hf u (hx'.use u hu).2).1⟩
  have h2 := sumI_le (f := fun x : Rpt => sumI f x.lines) (l := V) (c := 100000000000) fun x hx => (h1 x hx).1.2
  exact ⟨by omega, h1⟩
def sU (x : Sal) : Int := x.units
def sM (x : Sal) : Int := x.money
def uU (x : Unk) : Int := x.units
def uM (x : Unk) : Int := x.money
def lU (x : Rpt) : Int := sumI Usd.units x.lines
def lM (x : Rpt) : Int := sumI Usd.money x.lines
theorem all_U (a : List Ali) (V : List Rpt) : sumI sU (salesR a V) + sumI uU (unkR a V) = sumI lU V := all_sum pkU a V
theorem all_M (a : List Ali) (V : List Rpt) : sumI sM (salesR a V) + sumI uM (unkR a V) = sumI lM V := all_sum pkM a V


set_option maxRecDepth 100000 in
set_option maxHeartbeats 1000000 in
theorem c_pAsk (l : List Rpt) (a : List Ali) (ho : ∀ x ∈ l, okRpt x) (ha : ∀ x ∈ a, x.source.size ≤ 9223372036854775807 ∧ x.title.size ≤ 9223372036854775807) : ACallT Tryd.prog MaxT 14 [.sl (l.map Rpt.ds), .sl (a.map Ali.ds)] (.v (.int .i64 (askF l a))) := by
  refine acall_ofT (n := 13) (ds' := [.v (.int .i64 (askF l a))]) Tryd.func14 rfl (by kernel_rfl) rfl [4] rfl rfl ?_
  intro B w0 F0 hT
  refine AWP.seq ?_
  refine AWP.region ?_
  refine AOps.step rfl rfl rfl (AOp.assignD rfl rfl) ?_
  refine AOps.nil ?_
  refine AWP.seq ?_
  refine AWP.seq ?_
  refine AWP.region ?_
  refine AOps.step rfl rfl rfl (AOp.moveD rfl rfl) ?_
  -- wants the world
  refine AOps.callT rfl rfl rfl hT maxT_stays rfl (.cons (ArgOk.rfl' rfl) .nil) (c_pLog l ho) ?_
  refine AOps.step rfl rfl rfl (AOp.assignD rfl rfl) ?_
  refine AOps.nil ?_
  refine AWP.seq ?_
  refine AWP.region ?_
  refine AOps.step rfl rfl rfl (AOp.moveD rfl rfl) ?_
  refine AOps.step rfl rfl rfl (AOp.neq rfl rfl rfl) ?_
  refine AOps.nil ?_
  refine AWP.cond rfl (fun h1 => ?_) (fun h1 => ?_)
  · replace h1 := of_decide_eq_true h1
    have HR : askF l a = logF l := if_pos h1
    refine AWP.seq ?_
    refine AWP.region ?_
    refine AOps.step rfl rfl rfl (AOp.moveD rfl rfl) ?_
    refine AOps.step rfl rfl rfl (AOp.assignD rfl rfl) ?_
    refine AOps.nil ?_
    refine AWP.ret ?_
    refine ⟨RetD.eq rfl ?_, trivial⟩
    all_goals (rw [HR])
  · replace h1 := of_decide_eq_false h1
    have HR : askF l a = alisF a := if_neg h1
    refine AWP.skip ?_
    refine AWP.seq ?_
    refine AWP.region ?_
    refine AOps.step rfl rfl rfl (AOp.moveD rfl rfl) ?_
    -- wants the world
    refine AOps.callT rfl rfl rfl hT maxT_stays rfl (.cons (ArgOk.rfl' rfl) .nil) (c_pAlis a ha) ?_
    refine AOps.step rfl rfl rfl (AOp.assignD rfl rfl) ?_
    refine AOps.nil ?_
    refine AWP.ret ?_
    refine ⟨RetD.eq rfl ?_, trivial⟩
    all_goals (rw [HR])

set_option maxRecDepth 100000 in
set_option maxHeartbeats 1000000 in
theorem c_pMatch (l : List Rpt) (a : List Ali) (ho : ∀ x ∈ l, okRpt x) (ha : ∀ x ∈ a, x.source.size ≤ 9223372036854775807 ∧ x.title.size ≤ 9223372036854775807) : ACallT Tryd.prog MaxT 5 [.sl (l.map Rpt.ds), .sl (a.map Ali.ds)] (.tup [.sl ((matchR l a).map Sal.ds), .v (.int .i64 (askF l a))]) := by
  refine acall_ofT (n := 22) (ds' := [.sl ((matchR l a).map Sal.ds), .v (.int .i64 (askF l a))]) Tryd.func5 rfl (by kernel_rfl) rfl [4, 5] rfl rfl ?_
  intro B w0 F0 hT
  refine AWP.seq ?_
  refine AWP.region ?_
  refine AOps.step rfl rfl rfl (AOp.assignD rfl rfl) ?_
  refine AOps.step rfl rfl rfl (AOp.assignD rfl rfl) ?_
  refine AOps.nil ?_
  refine AWP.seq ?_
  refine AWP.seq ?_
  refine AWP.region ?_
  refine AOps.step rfl rfl rfl (AOp.moveD rfl rfl) ?_
  refine AOps.step rfl rfl rfl (AOp.moveD rfl rfl) ?_
  -- wants the world
  refine AOps.callT rfl rfl rfl hT maxT_stays rfl (.cons (ArgOk.rfl' rfl) (.cons (ArgOk.rfl' rfl) .nil)) (c_pAsk l a ho ha) ?_
  refine AOps.step rfl rfl rfl (AOp.assignD rfl rfl) ?_
  refine AOps.nil ?_
  refine AWP.seq ?_
  refine AWP.region ?_
  refine AOps.step rfl rfl rfl (AOp.moveD rfl rfl) ?_
  refine AOps.step rfl rfl rfl (AOp.neq rfl rfl rfl) ?_
  refine AOps.nil ?_
  refine AWP.cond rfl (fun h1 => ?_) (fun h1 => ?_)
  · replace h1 := of_decide_eq_true h1
    have HR : matchR l a = [] := if_neg h1
    rw [HR]
    refine AWP.seq ?_
    refine AWP.region ?_
    refine AOps.step rfl rfl rfl (AOp.moveD rfl rfl) ?_
    refine AOps.step rfl rfl rfl (AOp.assignD rfl rfl) ?_
    refine AOps.step rfl rfl rfl (AOp.assignD rfl rfl) ?_
    refine AOps.nil ?_
    refine AWP.ret ?_
    refine ⟨RetD.nil rfl, RetD.eq rfl ?_, trivial⟩
    all_goals (rfl)
  · replace h1 := of_decide_eq_false h1
    have h0 : askF l a = 0 := by omega
    obtain ⟨h1, h2⟩ := ask_ok h0
    have hl := log_of h1
    have hA := als_of h2
    have HR : matchR l a = salesR a (validR l) := if_pos h0
    rw [HR, h0]
    refine AWP.skip ?_
    refine AWP.seq ?_
    refine AWP.region ?_
    refine AOps.step rfl rfl rfl (AOp.moveD rfl rfl) ?_
    refine AOps.step rfl rfl rfl (AOp.moveD rfl rfl) ?_
    refine AOps.step rfl rfl rfl (AOp.call rfl (.cons (ArgOk.rfl' rfl) (.cons (ArgOk.rfl' rfl) .nil)) (c_sums l a hl ho hA)) ?_
    refine AOps.step rfl rfl rfl (AOp.moveD rfl rfl) ?_
    refine AOps.step rfl rfl rfl (AOp.extract rfl rfl rfl) ?_
    refine AOps.step rfl rfl rfl (AOp.extract rfl rfl rfl) ?_
    refine AOps.step rfl rfl rfl (AOp.assignD rfl rfl) ?_
    refine AOps.step rfl rfl rfl (AOp.assignD rfl rfl) ?_
    refine AOps.nil ?_
    refine AWP.seq ?_
    refine AWP.region ?_
    refine AOps.step rfl rfl rfl (AOp.moveD rfl rfl) ?_
    refine AOps.step rfl rfl rfl (AOp.assignD rfl rfl) ?_
    refine AOps.step rfl rfl rfl (AOp.assignD rfl rfl) ?_
    refine AOps.nil ?_
    refine AWP.ret ?_
    refine ⟨RetD.eq rfl ?_, RetD.eq rfl ?_, trivial⟩
    all_goals (rfl)

set_option maxRecDepth 100000 in
set_option maxHeartbeats 1000000 in
theorem c_pOpen (l : List Rpt) (a : List Ali) (ho : ∀ x ∈ l, okRpt x) (ha : ∀ x ∈ a, x.source.size ≤ 9223372036854775807 ∧ x.title.size ≤ 9223372036854775807) : ACallT Tryd.prog MaxT 6 [.sl (l.map Rpt.ds), .sl (a.map Ali.ds)] (.tup [.sl ((openR l a).map Unk.ds), .v (.int .i64 (askF l a))]) := by
  refine acall_ofT (n := 22) (ds' := [.sl ((openR l a).map Unk.ds), .v (.int .i64 (askF l a))]) Tryd.func6 rfl (by kernel_rfl) rfl [4, 5] rfl rfl ?_
  intro B w0 F0 hT
  refine AWP.seq ?_
  refine AWP.region ?_
  refine AOps.step rfl rfl rfl (AOp.assignD rfl rfl) ?_
  refine AOps.step rfl rfl rfl (AOp.assignD rfl rfl) ?_
  refine AOps.nil ?_
  refine AWP.seq ?_
  refine AWP.seq ?_
  refine AWP.region ?_
  refine AOps.step rfl rfl rfl (AOp.moveD rfl rfl) ?_
  refine AOps.step rfl rfl rfl (AOp.moveD rfl rfl) ?_
  -- wants the world
  refine AOps.callT rfl rfl rfl hT maxT_stays rfl (.cons (ArgOk.rfl' rfl) (.cons (ArgOk.rfl' rfl) .nil)) (c_pAsk l a ho ha) ?_
  refine AOps.step rfl rfl rfl (AOp.assignD rfl rfl) ?_
  refine AOps.nil ?_
  refine AWP.seq ?_
  refine AWP.region ?_
  refine AOps.step rfl rfl rfl (AOp.moveD rfl rfl) ?_
  refine AOps.step rfl rfl rfl (AOp.neq rfl rfl rfl) ?_
  refine AOps.nil ?_
  refine AWP.cond rfl (fun h1 => ?_) (fun h1 => ?_)
  · replace h1 := of_decide_eq_true h1
    have HR : openR l a = [] := if_neg h1
    rw [HR]
    refine AWP.seq ?_
    refine AWP.region ?_
    refine AOps.step rfl rfl rfl (AOp.moveD rfl rfl) ?_
    refine AOps.step rfl rfl rfl (AOp.assignD rfl rfl) ?_
    refine AOps.step rfl rfl rfl (AOp.assignD rfl rfl) ?_
    refine AOps.nil ?_
    refine AWP.ret ?_
    refine ⟨RetD.nil rfl, RetD.eq rfl ?_, trivial⟩
    all_goals (rfl)
  · replace h1 := of_decide_eq_false h1
    have h0 : askF l a = 0 := by omega
    obtain ⟨h1, h2⟩ := ask_ok h0
    have hl := log_of h1
    have hA := als_of h2
    have HR : openR l a = unkR a (validR l) := if_pos h0
    rw [HR, h0]
    refine AWP.skip ?_
    refine AWP.seq ?_
    refine AWP.region ?_
    refine AOps.step rfl rfl rfl (AOp.moveD rfl rfl) ?_
    refine AOps.step rfl rfl rfl (AOp.moveD rfl rfl) ?_
    refine AOps.step rfl rfl rfl (AOp.call rfl (.cons (ArgOk.rfl' rfl) (.cons (ArgOk.rfl' rfl) .nil)) (c_sums l a hl ho hA)) ?_
    refine AOps.step rfl rfl rfl (AOp.moveD rfl rfl) ?_
    refine AOps.step rfl rfl rfl (AOp.extract rfl rfl rfl) ?_
    refine AOps.step rfl rfl rfl (AOp.extract rfl rfl rfl) ?_
    refine AOps.step rfl rfl rfl (AOp.assignD rfl rfl) ?_
    refine AOps.step rfl rfl rfl (AOp.assignD rfl rfl) ?_
    refine AOps.nil ?_
    refine AWP.seq ?_
    refine AWP.region ?_
    refine AOps.step rfl rfl rfl (AOp.moveD rfl rfl) ?_
    refine AOps.step rfl rfl rfl (AOp.assignD rfl rfl) ?_
    refine AOps.step rfl rfl rfl (AOp.assignD rfl rfl) ?_
    refine AOps.nil ?_
    refine AWP.ret ?_
    refine ⟨RetD.eq rfl ?_, RetD.eq rfl ?_, trivial⟩
    all_goals (rfl)

end Go.Proofs.YtekenfknoakboaaDoor


namespace Go.Proofs.YtekenfknoakboaaDoor
open Go.RowKit
set_option linter.unusedVariables false

/-! Types. -/
namespace TyO5
theorem ag_35 : AggT Tryd.prog 35 4 := .of (by kernel_rfl)
theorem ag_37 : AggT Tryd.prog 37 5 := .of (by kernel_rfl)
theorem ag_40 : AggT Tryd.prog 40 5 := .of (by kernel_rfl)
theorem ag_42 : AggT Tryd.prog 42 3 := .of (by kernel_rfl)
theorem et_22 : ElemTy Tryd.prog 22 40 5 64 (.agg #[(.string ⟨#[]⟩), (.int .i64 0), (.int .i64 0), (.int .i64 0), (.slice none 0 0)]) := ⟨by kernel_rfl, by kernel_rfl, by kernel_rfl, by decide⟩
theorem et_24 : ElemTy Tryd.prog 24 35 4 32 (.agg #[(.int .i64 0), (.int .i64 0), (.int .i64 0), (.int .i64 0)]) := ⟨by kernel_rfl, by kernel_rfl, by kernel_rfl, by decide⟩
theorem et_28 : ElemTy Tryd.prog 28 37 5 56 (.agg #[(.string ⟨#[]⟩), (.string ⟨#[]⟩), (.int .i64 0), (.int .i64 0), (.int .i64 0)]) := ⟨by kernel_rfl, by kernel_rfl, by kernel_rfl, by decide⟩
theorem et_38 : ElemTy Tryd.prog 38 42 3 32 (.agg #[(.string ⟨#[]⟩), (.int .i64 0), (.int .i64 0)]) := ⟨by kernel_rfl, by kernel_rfl, by kernel_rfl, by decide⟩
theorem fo_35_2 : fieldOff Tryd.prog 35 2 = some 2 := by kernel_rfl
theorem fo_35_3 : fieldOff Tryd.prog 35 3 = some 3 := by kernel_rfl
theorem fo_37_3 : fieldOff Tryd.prog 37 3 = some 3 := by kernel_rfl
theorem fo_37_4 : fieldOff Tryd.prog 37 4 = some 4 := by kernel_rfl
theorem fo_40_4 : fieldOff Tryd.prog 40 4 = some 4 := by kernel_rfl
theorem fo_42_1 : fieldOff Tryd.prog 42 1 = some 1 := by kernel_rfl
theorem fo_42_2 : fieldOff Tryd.prog 42 2 = some 2 := by kernel_rfl
theorem sc_3 : Scal Tryd.prog 3 := .of (by kernel_rfl)
theorem sc_38 : Scal Tryd.prog 38 := .of (by kernel_rfl)
theorem sz_35 : ∀ w, (sizeOf 35).run Tryd.prog w = .ok 4 w := SizeT.of (by kernel_rfl)
theorem sz_37 : ∀ w, (sizeOf 37).run Tryd.prog w = .ok 5 w := SizeT.of (by kernel_rfl)
theorem sz_40 : ∀ w, (sizeOf 40).run Tryd.prog w = .ok 5 w := SizeT.of (by kernel_rfl)
theorem sz_42 : ∀ w, (sizeOf 42).run Tryd.prog w = .ok 3 w := SizeT.of (by kernel_rfl)
theorem zt_35 : (Tryd.prog.info? 35).bind (·.zero) = some (.agg #[(.int .i64 0), (.int .i64 0), (.int .i64 0), (.int .i64 0)]) := by kernel_rfl
theorem zt_37 : (Tryd.prog.info? 37).bind (·.zero) = some (.agg #[(.string ⟨#[]⟩), (.string ⟨#[]⟩), (.int .i64 0), (.int .i64 0), (.int .i64 0)]) := by kernel_rfl
theorem zt_40 : (Tryd.prog.info? 40).bind (·.zero) = some (.agg #[(.string ⟨#[]⟩), (.int .i64 0), (.int .i64 0), (.int .i64 0), (.slice none 0 0)]) := by kernel_rfl
theorem zt_42 : (Tryd.prog.info? 42).bind (·.zero) = some (.agg #[(.string ⟨#[]⟩), (.int .i64 0), (.int .i64 0)]) := by kernel_rfl
end TyO5
open TyO5

set_option maxRecDepth 100000 in
set_option maxHeartbeats 4000000 in
theorem lawAll (l : List Rpt) (a : List Ali) (ho : ∀ x ∈ l, okRpt x) (ha : ∀ x ∈ a, x.source.size ≤ 9223372036854775807 ∧ x.title.size ≤ 9223372036854775807) : ACallT Tryd.prog MaxT 3 [.sl (l.map Rpt.ds), .sl (a.map Ali.ds)] (.v (.bool true)) := by
  refine acall_ofT (n := 118) (ds' := [.v (.bool true)]) Tryd.func3 rfl (by kernel_rfl) rfl [4] rfl rfl ?_
  intro B w0 F0 hT
  refine AWP.seq ?_
  refine AWP.region ?_
  refine AOps.step rfl rfl rfl (AOp.assignD rfl rfl) ?_
  refine AOps.nil ?_
  refine AWP.seq ?_
  refine AWP.region ?_
  refine AOps.step rfl rfl rfl (AOp.moveD rfl rfl) ?_
  refine AOps.step rfl rfl rfl (AOp.moveD rfl rfl) ?_
  -- wants the world
  refine AOps.callT rfl rfl rfl hT maxT_stays rfl (.cons (ArgOk.rfl' rfl) (.cons (ArgOk.rfl' rfl) .nil)) (c_pMatch l a ho ha) ?_
  refine AOps.step rfl rfl rfl (AOp.moveD rfl rfl) ?_
  refine AOps.step rfl rfl rfl (AOp.extract rfl rfl rfl) ?_
  refine AOps.step rfl rfl rfl (AOp.extract rfl rfl rfl) ?_
  refine AOps.step rfl rfl rfl (AOp.assignD rfl rfl) ?_
  refine AOps.step rfl rfl rfl (AOp.assignD rfl rfl) ?_
  refine AOps.nil ?_
  refine AWP.seq ?_
  refine AWP.region ?_
  refine AOps.step rfl rfl rfl (AOp.moveD rfl rfl) ?_
  refine AOps.step rfl rfl rfl (AOp.moveD rfl rfl) ?_
  -- wants the world
  refine AOps.callT rfl rfl rfl hT maxT_stays rfl (.cons (ArgOk.rfl' rfl) (.cons (ArgOk.rfl' rfl) .nil)) (c_pOpen l a ho ha) ?_
  refine AOps.step rfl rfl rfl (AOp.moveD rfl rfl) ?_
  refine AOps.step rfl rfl rfl (AOp.extract rfl rfl rfl) ?_
  refine AOps.step rfl rfl rfl (AOp.extract rfl rfl rfl) ?_
  refine AOps.step rfl rfl rfl (AOp.assignD rfl rfl) ?_
  refine AOps.step rfl rfl rfl (AOp.assignD rfl rfl) ?_
  refine AOps.nil ?_
  refine AWP.seq ?_
  refine AWP.region ?_
  refine AOps.step rfl rfl rfl (AOp.moveD rfl rfl) ?_
  -- wants the world
  refine AOps.callT rfl rfl rfl hT maxT_stays rfl (.cons (ArgOk.rfl' rfl) .nil) (c_pValid l ho) ?_
  refine AOps.step rfl rfl rfl (AOp.moveD rfl rfl) ?_
  refine AOps.step rfl rfl rfl (AOp.extract rfl rfl rfl) ?_
  refine AOps.step rfl rfl rfl (AOp.extract rfl rfl rfl) ?_
  refine AOps.step rfl rfl rfl (AOp.assignD rfl rfl) ?_
  refine AOps.step rfl rfl rfl (AOp.assignD rfl rfl) ?_
  refine AOps.nil ?_
  refine AWP.seq ?_
  refine AWP.seq ?_
  refine AWP.region ?_
  refine AOps.step rfl rfl rfl (AOp.moveD rfl rfl) ?_
  refine AOps.step rfl rfl rfl (AOp.moveD rfl rfl) ?_
  refine AOps.step rfl rfl rfl (AOp.neq rfl rfl rfl) ?_
  refine AOps.step rfl rfl rfl (AOp.moveD rfl rfl) ?_
  refine AOps.split 41 rfl (fun g1 => ?_) (fun g1 => ?_)
  · replace g1 := of_decide_eq_true g1
    exact absurd rfl g1
  · replace g1 := of_decide_eq_false g1
    refine AOps.step ⟨41, rfl, .inl ⟨_, rfl, rfl⟩⟩ rfl rfl (AOp.call rfl .nil c_awake) ?_
    refine AOps.step ⟨41, rfl, .inl ⟨_, rfl, rfl⟩⟩ rfl rfl (AOp.not rfl rfl) ?_
    refine AOps.step rfl rfl rfl (AOp.pickF rfl rfl rfl) ?_
    refine AOps.nil ?_
    refine AWP.cond rfl (fun h => nomatch h) (fun _ => ?_)
    refine AWP.skip ?_
    refine AWP.seq ?_
    refine AWP.seq ?_
    refine AWP.region ?_
    refine AOps.step rfl rfl rfl (AOp.moveD rfl rfl) ?_
    refine AOps.step rfl rfl rfl (AOp.neq rfl rfl rfl) ?_
    refine AOps.nil ?_
    refine AWP.cond rfl (fun h2 => ?_) (fun h2 => ?_)
    · replace h2 := of_decide_eq_true h2
      rw [show matchR l a = [] from if_neg h2, show openR l a = [] from if_neg h2]
      refine AWP.seq ?_
      refine AWP.region ?_
      refine AOps.step rfl rfl rfl (AOp.moveD rfl rfl) ?_
      refine AOps.step rfl rfl rfl (AOp.lenSl rfl et_24.ht rfl) ?_
      refine AOps.step rfl rfl rfl (AOp.eql rfl rfl rfl) ?_
      refine AOps.step rfl rfl rfl (AOp.moveD rfl rfl) ?_
      refine AOps.split 50 rfl (fun g3 => ?_) (fun g3 => ?_)
      · replace g3 := of_decide_eq_true g3
        refine AOps.step ⟨50, rfl, .inl ⟨_, rfl, rfl⟩⟩ rfl rfl (AOp.moveD rfl rfl) ?_
        refine AOps.step ⟨50, rfl, .inl ⟨_, rfl, rfl⟩⟩ rfl rfl (AOp.lenSl rfl et_28.ht rfl) ?_
        refine AOps.step ⟨50, rfl, .inl ⟨_, rfl, rfl⟩⟩ rfl rfl (AOp.eql rfl rfl rfl) ?_
        refine AOps.step rfl rfl rfl (AOp.pickT rfl rfl rfl) ?_
        refine AOps.step rfl rfl rfl (AOp.assignD rfl rfl) ?_
        refine AOps.nil ?_
        refine AWP.ret ?_
        refine ⟨RetD.eq rfl ?_, trivial⟩
        all_goals (rfl)
      · replace g3 := of_decide_eq_false g3
        exact absurd rfl g3
    · replace h2 := of_decide_eq_false h2
      have h0 : askF l a = 0 := by omega
      obtain ⟨h1, h2⟩ := ask_ok h0
      have hl := log_of h1
      have hA := als_of h2
      rw [show matchR l a = (salesR a (validR l)) from if_pos h0, show openR l a = (unkR a (validR l)) from if_pos h0, show valR l = validR l from if_pos h1, h1]
      have hll := hl.len
      have hvl : (validR l).length ≤ l.length := List.length_filter_le _ _
      have hV : ∀ x ∈ (validR l), RpO x := fun x hx => rpO (hl.ok x (List.mem_filter.1 hx).1) (ho x (List.mem_filter.1 hx).1)
      obtain ⟨hnS, hnU⟩ := sal_nn hA hV
      have hnS1 : ∀ x ∈ (salesR a (validR l)), 0 ≤ sU x := fun x hx => (hnS x hx).1
      have hnS2 : ∀ x ∈ (salesR a (validR l)), 0 ≤ sM x := fun x hx => (hnS x hx).2
      have hnU1 : ∀ x ∈ (unkR a (validR l)), 0 ≤ uU x := fun x hx => (hnU x hx).1
      have hnU2 : ∀ x ∈ (unkR a (validR l)), 0 ≤ uM x := fun x hx => (hnU x hx).2
      have hT1 := all_U a (validR l)
      have hT2 := all_M a (validR l)
      have hb1 : sumI lU (validR l) ≤ 30000000000000 := (lines_le hV (by omega) Usd.units (fun u h => ⟨h.1.1, h.1.2⟩)).1
      have hb2 : sumI lM (validR l) ≤ 30000000000000 := (lines_le hV (by omega) Usd.money (fun u h => ⟨h.2.1, h.2.2⟩)).1
      have hL1 := (lines_le hV (by omega) Usd.units (fun u h => ⟨h.1.1, h.1.2⟩)).2
      have hL2 := (lines_le hV (by omega) Usd.money (fun u h => ⟨h.2.1, h.2.2⟩)).2
      have hv1 : ∀ x ∈ (validR l), 0 ≤ lU x := fun x hx => (hL1 x hx).1.1
      have hv2 : ∀ x ∈ (validR l), 0 ≤ lM x := fun x hx => (hL2 x hx).1.1
      have hz1 := sumI_nonneg hnS1
      have hz2 := sumI_nonneg hnS2
      have hz3 := sumI_nonneg hnU1
      have hz4 := sumI_nonneg hnU2
      refine AWP.bound 5 rfl (fun hbS => ?_)
      rw [List.length_map] at hbS
      refine AWP.bound 7 rfl (fun hbU => ?_)
      rw [List.length_map] at hbU
      refine AWP.skip ?_
      refine AWP.seq ?_
      refine AWP.region ?_
      refine AOps.step rfl rfl rfl (AOp.assignD rfl rfl) ?_
      refine AOps.step rfl rfl rfl (AOp.assignD rfl rfl) ?_
      refine AOps.nil ?_
      refine AWP.seq ?_
      refine AWP.seq ?_
      refine AWP.region ?_
      refine AOps.step rfl rfl rfl (AOp.moveD rfl rfl) ?_
      refine AOps.step rfl rfl rfl (AOp.lenSl rfl et_24.ht rfl) ?_
      refine AOps.step rfl rfl rfl (AOp.moveD rfl rfl) ?_
      refine AOps.nil ?_
      refine AWP.block ?_
      refine AWP.loop (G := Nat) (fun k => Env.of [(57, .d (.v (.int .i64 (k : Int)))), (55, .d (.sl ((salesR a (validR l)).map Sal.ds))), (56, .d (.v (.int .i64 (((salesR a (validR l)).map Sal.ds).length : Int)))), (11, .d (.v (.int .i64 (sumI sU ((salesR a (validR l)).take k))))), (12, .d (.v (.int .i64 (sumI sM ((salesR a (validR l)).take k))))), (7, .d (.sl ((unkR a (validR l)).map Unk.ds))), (9, .d (.sl ((validR l).map Rpt.ds))), (10, .d (.v (.int .i64 (0))))]) (fun k => []) (fun k => k ≤ (salesR a (validR l)).length) (fun k => (salesR a (validR l)).length - k) 0 (Nat.zero_le _) (Sub.less ⟨(SLe.of_eq rfl), SLe.refl _, SLe.refl _, (SLe.of_eq rfl), (SLe.of_eq rfl), SLe.refl _, SLe.refl _, SLe.refl _, trivial⟩ (fun _ h => h)) ?_
      intro k hk
      refine AWP.seq ?_
      refine AWP.region ?_
      refine AOps.step rfl rfl rfl (AOp.lss rfl rfl rfl) ?_
      refine AOps.nil ?_
      refine AWP.seq ?_
      refine AWP.cond rfl (fun h4 => ?_) (fun h4 => ?_)
      · replace h4 := of_decide_eq_true h4
        rw [List.length_map] at h4
        have hlt : k < (salesR a (validR l)).length := by omega
        have HNa := sumI_next sU hlt
        have hqa := sumI_take hnS1 k
        have hra := sumI_take hnS1 (k + 1)
        rw [HNa] at hra
        have HNb := sumI_next sM hlt
        have hqb := sumI_take hnS2 k
        have hrb := sumI_take hnS2 (k + 1)
        rw [HNb] at hrb
        have hu1 : (salesR a (validR l))[k].units = sU (salesR a (validR l))[k] := rfl
        have hu2 : (salesR a (validR l))[k].money = sM (salesR a (validR l))[k] := rfl
        refine AWP.skip ?_
        refine AWP.seq ?_
        refine AWP.block ?_
        refine AWP.seq ?_
        refine AWP.region ?_
        refine AOps.step rfl rfl rfl (AOp.indexAddr rfl et_24 rfl rfl k rfl (at_lst hlt) rfl) ?_
        refine AOps.step rfl rfl rfl (AOp.loadAgg rfl ag_35 rfl rfl) ?_
        refine AOps.alloc 101 rfl rfl rfl rfl zt_35 rfl rfl rfl ?_
        refine AOps.store rfl rfl rfl sz_35 rfl (.head _) rfl rfl rfl (Nat.le_of_ble_eq_true rfl) ?_
        refine AOps.freezeCells 14 (ds := (salesR a (validR l))[k].ds) rfl (.head _) ?_
        refine AOps.nil ?_
        refine AWP.draw (by kernel_rfl) (by kernel_rfl) ?_
        refine DRun.step rfl rfl rfl (AOp.moveD rfl rfl) ?_
        refine DRun.step rfl rfl rfl (AOp.fieldAddr rfl fo_35_2 rfl) ?_
        refine DRun.step rfl rfl rfl (AOp.load rfl sc_3 rfl) ?_
        refine DRun.step rfl rfl rfl (AOp.add64 rfl rfl rfl (by omega) (by omega)) ?_
        refine DRun.step rfl rfl rfl (AOp.moveD rfl rfl) ?_
        refine DRun.step rfl rfl rfl (AOp.fieldAddr rfl fo_35_3 rfl) ?_
        refine DRun.step rfl rfl rfl (AOp.load rfl sc_3 rfl) ?_
        refine DRun.step rfl rfl rfl (AOp.add64 rfl rfl rfl (by omega) (by omega)) ?_
        refine DRun.step rfl rfl rfl (AOp.assignD rfl rfl) ?_
        refine DRun.step rfl rfl rfl (AOp.assignD rfl rfl) ?_
        refine DRun.nil ?_
        refine AWP.region ?_
        refine AOps.step rfl rfl rfl (AOp.add64 rfl rfl rfl (by omega) (by omega)) ?_
        refine AOps.step rfl rfl rfl (AOp.moveD rfl rfl) ?_
        refine AOps.nil ?_
        refine ⟨k + 1, (by omega), (by dsimp only; omega), Sub.less ⟨(SLe.of_eq rfl), SLe.refl _, SLe.refl _, (SLe.i64 (by rw [HNa]; rfl)), (SLe.i64 (by rw [HNb]; rfl)), SLe.refl _, SLe.refl _, SLe.refl _, trivial⟩ (fun _ h => h)⟩
      · replace h4 := of_decide_eq_false h4
        rw [List.length_map] at h4
        obtain rfl : k = (salesR a (validR l)).length := by omega
        rw [List.take_length]
        refine AWP.exit ?_
        refine AWP.seq ?_
        refine AWP.seq ?_
        refine AWP.region ?_
        refine AOps.step rfl rfl rfl (AOp.moveD rfl rfl) ?_
        refine AOps.step rfl rfl rfl (AOp.lenSl rfl et_28.ht rfl) ?_
        refine AOps.step rfl rfl rfl (AOp.moveD rfl rfl) ?_
        refine AOps.nil ?_
        refine AWP.block ?_
        refine AWP.loop (G := Nat) (fun k => Env.of [(72, .d (.v (.int .i64 (k : Int)))), (70, .d (.sl ((unkR a (validR l)).map Unk.ds))), (71, .d (.v (.int .i64 (((unkR a (validR l)).map Unk.ds).length : Int)))), (11, .d (.v (.int .i64 (sumI sU (salesR a (validR l)) + sumI uU ((unkR a (validR l)).take k))))), (12, .d (.v (.int .i64 (sumI sM (salesR a (validR l)) + sumI uM ((unkR a (validR l)).take k))))), (9, .d (.sl ((validR l).map Rpt.ds))), (10, .d (.v (.int .i64 (0))))]) (fun k => []) (fun k => k ≤ (unkR a (validR l)).length) (fun k => (unkR a (validR l)).length - k) 0 (Nat.zero_le _) (Sub.less ⟨(SLe.of_eq rfl), SLe.refl _, SLe.refl _, (SLe.i64 (by rw [List.take_zero, sumI_nil]; omega)), (SLe.i64 (by rw [List.take_zero, sumI_nil]; omega)), SLe.refl _, SLe.refl _, trivial⟩ (fun _ h => h)) ?_
        intro k hk
        refine AWP.seq ?_
        refine AWP.region ?_
        refine AOps.step rfl rfl rfl (AOp.lss rfl rfl rfl) ?_
        refine AOps.nil ?_
        refine AWP.seq ?_
        refine AWP.cond rfl (fun h5 => ?_) (fun h5 => ?_)
        · replace h5 := of_decide_eq_true h5
          rw [List.length_map] at h5
          have hlt : k < (unkR a (validR l)).length := by omega
          have HNa := sumI_next uU hlt
          have hqa := sumI_take hnU1 k
          have hra := sumI_take hnU1 (k + 1)
          rw [HNa] at hra
          have HNb := sumI_next uM hlt
          have hqb := sumI_take hnU2 k
          have hrb := sumI_take hnU2 (k + 1)
          rw [HNb] at hrb
          have hu1 : (unkR a (validR l))[k].units = uU (unkR a (validR l))[k] := rfl
          have hu2 : (unkR a (validR l))[k].money = uM (unkR a (validR l))[k] := rfl
          refine AWP.skip ?_
          refine AWP.seq ?_
          refine AWP.block ?_
          refine AWP.seq ?_
          refine AWP.region ?_
          refine AOps.step rfl rfl rfl (AOp.indexAddr rfl et_28 rfl rfl k rfl (at_lst hlt) rfl) ?_
          refine AOps.step rfl rfl rfl (AOp.loadAgg rfl ag_37 rfl rfl) ?_
          refine AOps.alloc 102 rfl rfl rfl rfl zt_37 rfl rfl rfl ?_
          refine AOps.store rfl rfl rfl sz_37 rfl (.head _) rfl rfl rfl (Nat.le_of_ble_eq_true rfl) ?_
          refine AOps.freezeCells 16 (ds := (unkR a (validR l))[k].ds) rfl (.head _) ?_
          refine AOps.nil ?_
          refine AWP.draw (by kernel_rfl) (by kernel_rfl) ?_
          refine DRun.step rfl rfl rfl (AOp.moveD rfl rfl) ?_
          refine DRun.step rfl rfl rfl (AOp.fieldAddr rfl fo_37_3 rfl) ?_
          refine DRun.step rfl rfl rfl (AOp.load rfl sc_3 rfl) ?_
          refine DRun.step rfl rfl rfl (AOp.add64 rfl rfl rfl (by omega) (by omega)) ?_
          refine DRun.step rfl rfl rfl (AOp.moveD rfl rfl) ?_
          refine DRun.step rfl rfl rfl (AOp.fieldAddr rfl fo_37_4 rfl) ?_
          refine DRun.step rfl rfl rfl (AOp.load rfl sc_3 rfl) ?_
          refine DRun.step rfl rfl rfl (AOp.add64 rfl rfl rfl (by omega) (by omega)) ?_
          refine DRun.step rfl rfl rfl (AOp.assignD rfl rfl) ?_
          refine DRun.step rfl rfl rfl (AOp.assignD rfl rfl) ?_
          refine DRun.nil ?_
          refine AWP.region ?_
          refine AOps.step rfl rfl rfl (AOp.add64 rfl rfl rfl (by omega) (by omega)) ?_
          refine AOps.step rfl rfl rfl (AOp.moveD rfl rfl) ?_
          refine AOps.nil ?_
          refine ⟨k + 1, (by omega), (by dsimp only; omega), Sub.less ⟨(SLe.of_eq rfl), SLe.refl _, SLe.refl _, (SLe.i64 (by rw [HNa]; omega)), (SLe.i64 (by rw [HNb]; omega)), SLe.refl _, SLe.refl _, trivial⟩ (fun _ h => h)⟩
        · replace h5 := of_decide_eq_false h5
          rw [List.length_map] at h5
          obtain rfl : k = (unkR a (validR l)).length := by omega
          rw [List.take_length, hT1, hT2]
          refine AWP.exit ?_
          refine AWP.seq ?_
          refine AWP.seq ?_
          refine AWP.region ?_
          refine AOps.step rfl rfl rfl (AOp.moveD rfl rfl) ?_
          refine AOps.step rfl rfl rfl (AOp.lenSl rfl et_22.ht rfl) ?_
          refine AOps.step rfl rfl rfl (AOp.moveD rfl rfl) ?_
          refine AOps.nil ?_
          refine AWP.block ?_
          refine AWP.loop (G := Nat) (fun k => Env.of [(87, .d (.v (.int .i64 (k : Int)))), (85, .d (.sl ((validR l).map Rpt.ds))), (86, .d (.v (.int .i64 (((validR l).map Rpt.ds).length : Int)))), (11, .d (.v (.int .i64 (sumI lU (validR l) - sumI lU ((validR l).take k))))), (12, .d (.v (.int .i64 (sumI lM (validR l) - sumI lM ((validR l).take k))))), (10, .d (.v (.int .i64 (0))))]) (fun k => []) (fun k => k ≤ (validR l).length) (fun k => (validR l).length - k) 0 (Nat.zero_le _) (Sub.less ⟨(SLe.of_eq rfl), SLe.refl _, SLe.refl _, (SLe.i64 (by rw [List.take_zero, sumI_nil]; omega)), (SLe.i64 (by rw [List.take_zero, sumI_nil]; omega)), SLe.refl _, trivial⟩ (fun _ h => h)) ?_
          intro k hk
          refine AWP.seq ?_
          refine AWP.region ?_
          refine AOps.step rfl rfl rfl (AOp.lss rfl rfl rfl) ?_
          refine AOps.nil ?_
          refine AWP.seq ?_
          refine AWP.cond rfl (fun h6 => ?_) (fun h6 => ?_)
          · replace h6 := of_decide_eq_true h6
            rw [List.length_map] at h6
            have hlt : k < (validR l).length := by omega
            have hxm := List.getElem_mem hlt
            have HNa := sumI_next lU hlt
            have hqa := sumI_take hv1 k
            have hra := sumI_take hv1 (k + 1)
            rw [HNa] at hra
            have HNb := sumI_next lM hlt
            have hqb := sumI_take hv2 k
            have hrb := sumI_take hv2 (k + 1)
            rw [HNb] at hrb
            
            refine AWP.skip ?_
            refine AWP.seq ?_
            refine AWP.block ?_
            refine AWP.seq ?_
            refine AWP.region ?_
            refine AOps.step rfl rfl rfl (AOp.indexAddr rfl et_22 rfl rfl k rfl (at_lst hlt) rfl) ?_
            refine AOps.step rfl rfl rfl (AOp.loadAgg rfl ag_40 rfl rfl) ?_
            refine AOps.alloc 103 rfl rfl rfl rfl zt_40 rfl rfl rfl ?_
            refine AOps.store rfl rfl rfl sz_40 rfl (.head _) rfl rfl rfl (Nat.le_of_ble_eq_true rfl) ?_
            refine AOps.freezeCells 18 (ds := (validR l)[k].ds) rfl (.head _) ?_
            refine AOps.nil ?_
            refine AWP.seq ?_
            refine AWP.region ?_
            refine AOps.step rfl rfl rfl (AOp.fieldAddr rfl fo_40_4 rfl) ?_
            refine AOps.step rfl rfl rfl (AOp.load rfl sc_38 rfl) ?_
            refine AOps.step rfl rfl rfl (AOp.lenSl rfl et_38.ht rfl) ?_
            refine AOps.step rfl rfl rfl (AOp.moveD rfl rfl) ?_
            refine AOps.nil ?_
            refine AWP.block ?_
            refine AWP.loop (G := Nat) (fun j => Env.of [(94, .d (.v (.int .i64 ((j : Int))))), (92, .d (.sl ((validR l)[k].lines.map Usd.ds))), (93, .d (.v (.int .i64 (((validR l)[k].lines.map Usd.ds).length : Int)))), (11, .d (.v (.int .i64 (sumI lU (validR l) - sumI lU ((validR l).take k) - sumI Usd.units ((validR l)[k].lines.take j))))), (12, .d (.v (.int .i64 (sumI lM (validR l) - sumI lM ((validR l).take k) - sumI Usd.money ((validR l)[k].lines.take j))))), (87, .d (.v (.int .i64 ((k : Int))))), (85, .d (.sl ((validR l).map Rpt.ds))), (86, .d (.v (.int .i64 (((validR l).map Rpt.ds).length : Int)))), (10, .d (.v (.int .i64 (0))))]) (fun j => []) (fun j => j ≤ (validR l)[k].lines.length) (fun j => (validR l)[k].lines.length - j) 0 (Nat.zero_le _) (Sub.less ⟨(SLe.of_eq rfl), SLe.refl _, SLe.refl _, (SLe.i64 (by rw [List.take_zero, sumI_nil]; omega)), (SLe.i64 (by rw [List.take_zero, sumI_nil]; omega)), SLe.refl _, SLe.refl _, SLe.refl _, SLe.refl _, trivial⟩ (fun _ h => h)) ?_
            intro j hj
            refine AWP.seq ?_
            refine AWP.region ?_
            refine AOps.step rfl rfl rfl (AOp.lss rfl rfl rfl) ?_
            refine AOps.nil ?_
            refine AWP.seq ?_
            refine AWP.cond rfl (fun h7 => ?_) (fun h7 => ?_)
            · replace h7 := of_decide_eq_true h7
              rw [List.length_map] at h7
              have hjl : j < (validR l)[k].lines.length := by omega
              clear HNa hra HNb hrb
              have hqc := hqa
              have hqd := hqb
              have HNa := sumI_next Usd.units hjl
              have hqa := sumI_take (hL1 _ hxm).2 j
              have hra := sumI_take (hL1 _ hxm).2 (j + 1)
              rw [HNa] at hra
              have HNb := sumI_next Usd.money hjl
              have hqb := sumI_take (hL2 _ hxm).2 j
              have hrb := sumI_take (hL2 _ hxm).2 (j + 1)
              rw [HNb] at hrb
              have hxl := (hV _ hxm).len
              have hb3 := (hL1 _ hxm).1
              have hb4 := (hL2 _ hxm).1
              refine AWP.skip ?_
              refine AWP.seq ?_
              refine AWP.block ?_
              refine AWP.seq ?_
              refine AWP.region ?_
              refine AOps.step rfl rfl rfl (AOp.indexAddr rfl et_38 rfl rfl j rfl (at_lst hjl) rfl) ?_
              refine AOps.step rfl rfl rfl (AOp.loadAgg rfl ag_42 rfl rfl) ?_
              refine AOps.alloc 104 rfl rfl rfl rfl zt_42 rfl rfl rfl ?_
              refine AOps.store rfl rfl rfl sz_42 rfl (.head _) rfl rfl rfl (Nat.le_of_ble_eq_true rfl) ?_
              refine AOps.freezeCells 20 (ds := (validR l)[k].lines[j].ds) rfl (.head _) ?_
              refine AOps.nil ?_
              refine AWP.draw (by kernel_rfl) (by kernel_rfl) ?_
              refine DRun.step rfl rfl rfl (AOp.moveD rfl rfl) ?_
              refine DRun.step rfl rfl rfl (AOp.fieldAddr rfl fo_42_1 rfl) ?_
              refine DRun.step rfl rfl rfl (AOp.load rfl sc_3 rfl) ?_
              refine DRun.step rfl rfl rfl (AOp.sub64 rfl rfl rfl (by omega) (by omega)) ?_
              refine DRun.step rfl rfl rfl (AOp.moveD rfl rfl) ?_
              refine DRun.step rfl rfl rfl (AOp.fieldAddr rfl fo_42_2 rfl) ?_
              refine DRun.step rfl rfl rfl (AOp.load rfl sc_3 rfl) ?_
              refine DRun.step rfl rfl rfl (AOp.sub64 rfl rfl rfl (by omega) (by omega)) ?_
              refine DRun.step rfl rfl rfl (AOp.assignD rfl rfl) ?_
              refine DRun.step rfl rfl rfl (AOp.assignD rfl rfl) ?_
              refine DRun.nil ?_
              refine AWP.region ?_
              refine AOps.step rfl rfl rfl (AOp.add64 rfl rfl rfl (by omega) (by omega)) ?_
              refine AOps.step rfl rfl rfl (AOp.moveD rfl rfl) ?_
              refine AOps.nil ?_
              refine ⟨j + 1, (by dsimp only; omega), (by dsimp only; omega), Sub.less ⟨(SLe.of_eq rfl), SLe.refl _, SLe.refl _, (SLe.i64 (by rw [HNa]; omega)), (SLe.i64 (by rw [HNb]; omega)), SLe.refl _, SLe.refl _, SLe.refl _, SLe.refl _, trivial⟩ (fun _ h => h)⟩
            · replace h7 := of_decide_eq_false h7
              rw [List.length_map] at h7
              obtain rfl : j = (validR l)[k].lines.length := by omega
              rw [List.take_length]
              refine AWP.exit ?_
              refine AWP.region ?_
              refine AOps.step rfl rfl rfl (AOp.add64 rfl rfl rfl (by omega) (by omega)) ?_
              refine AOps.step rfl rfl rfl (AOp.moveD rfl rfl) ?_
              refine AOps.nil ?_
              refine ⟨k + 1, (by omega), (by dsimp only; omega), Sub.less ⟨(SLe.of_eq rfl), SLe.refl _, SLe.refl _, (SLe.i64 (by rw [HNa]; unfold lU; omega)), (SLe.i64 (by rw [HNb]; unfold lM; omega)), SLe.refl _, trivial⟩ (fun _ h => h)⟩
          · replace h6 := of_decide_eq_false h6
            rw [List.length_map] at h6
            obtain rfl : k = (validR l).length := by omega
            rw [List.take_length, Int.sub_self, Int.sub_self]
            refine AWP.exit ?_
            refine AWP.seq ?_
            refine AWP.region ?_
            refine AOps.step rfl rfl rfl (AOp.moveD rfl rfl) ?_
            refine AOps.step rfl rfl rfl (AOp.eql rfl rfl rfl) ?_
            refine AOps.step rfl rfl rfl (AOp.moveD rfl rfl) ?_
            refine AOps.split 110 rfl (fun g8 => ?_) (fun g8 => ?_)
            · replace g8 := of_decide_eq_true g8
              refine AOps.step ⟨110, rfl, .inl ⟨_, rfl, rfl⟩⟩ rfl rfl (AOp.moveD rfl rfl) ?_
              refine AOps.step ⟨110, rfl, .inl ⟨_, rfl, rfl⟩⟩ rfl rfl (AOp.eql rfl rfl rfl) ?_
              refine AOps.step rfl rfl rfl (AOp.pickT rfl rfl rfl) ?_
              refine AOps.step rfl rfl rfl (AOp.moveD rfl rfl) ?_
              refine AOps.split 114 rfl (fun g9 => ?_) (fun g9 => ?_)
              · replace g9 := of_decide_eq_true g9
                refine AOps.step ⟨114, rfl, .inl ⟨_, rfl, rfl⟩⟩ rfl rfl (AOp.moveD rfl rfl) ?_
                refine AOps.step ⟨114, rfl, .inl ⟨_, rfl, rfl⟩⟩ rfl rfl (AOp.eql rfl rfl rfl) ?_
                refine AOps.step rfl rfl rfl (AOp.pickT rfl rfl rfl) ?_
                refine AOps.step rfl rfl rfl (AOp.assignD rfl rfl) ?_
                refine AOps.nil ?_
                refine AWP.ret ?_
                refine ⟨RetD.eq rfl ?_, trivial⟩
                all_goals (rfl)
              · replace g9 := of_decide_eq_false g9
                exact absurd rfl g9
            · replace g8 := of_decide_eq_false g8
              exact absurd rfl g8

end Go.Proofs.YtekenfknoakboaaDoor
