/- Walks and laws over abstract values, merged by tools/merge.py. No statement of the seat. -/
import Derived.Test.YtcfamaddnmnaeaaGreatDoorZE5
set_option linter.unusedSimpArgs false
set_option linter.unusedVariables false
set_option maxHeartbeats 4000000
set_option maxRecDepth 100000
open List renaming length_map -> ZlM, getElem?_eq_getElem -> ZgE, getElem_mem -> ZgM, getD_eq_getElem?_getD -> ZgD, map_append -> ZmA, length_drop -> ZlD, mem_singleton -> ZmS, mem_map -> ZmM
open Nat renaming le_of_ble_eq_true -> ZnB, ne_of_beq_eq_false -> ZnE, zero_le -> ZnZ, le_refl -> ZnR
open Bool renaming and_eq_true -> ZbA, or_eq_true_iff -> ZbO
namespace Go.Proofs.YtcfamaddnmnaeaaGreatDoor
open Go.RowKit
open Ty
def cellsR (y : Rpt) : List S := [.d (.v (.string y.source)), .d (.v (.int .i64 y.no)), .d (.v (.int .i64 y.period)), .d (.v (.int .i64 y.corrects)), .d (.sl (y.lines.map Usd.ds))]
theorem Ybw {i : Nat} {a b : List S} {τ : Obs} (h : a = b) : ∀ p ∈ [(i, Ob.cells b)], p ∈ (i, Ob.cells a) :: τ := fun p hp => by
 subst h
 rw [ZmS] at hp; subst hp; exact .head _
theorem rootA_0 (l : List Rpt) (y : Rpt) : rootA l 0 y = y.no := rfl
theorem rootA_no {l : List Rpt} {y : Rpt} {d : Nat} (h : y.corrects = 0) : rootA l (d + 1) y = y.no := if_pos h
theorem rootA_cor {l : List Rpt} {y : Rpt} {d : Nat} (h : ¬ y.corrects = 0) (h2 : upTo l y l.length < 0) : rootA l (d + 1) y = y.corrects := (if_neg h).trans (if_pos h2)
theorem rootA_up {l : List Rpt} {y : Rpt} {d : Nat} (h : ¬ y.corrects = 0) (h2 : ¬ upTo l y l.length < 0) : ∃ u, ∃ hu : u < l.length, upTo l y l.length = (u : Int) /\ rootA l (d + 1) y = rootA l d l[u] := by
 rcases up_cases (l := l) y with ⟨h1, _⟩ | ⟨u, hu, h1, _⟩
 ·exact absurd h1 h2
 ·refine ⟨u, hu, h1, ?_⟩
  have e : upX l y = (u : Int) := h1
  rw [rootA, if_neg h, if_neg (by omega), e, Int.toNat_natCast, gd hu]
theorem up_yes {l : List Rpt} {y : Rpt} {k : Nat} (hk : k < l.length) (h1 : l[k].source = y.source) (h2 : l[k].no = y.corrects) : upTo l y (k + 1) = (k : Int) := by
 unfold upTo
 rw [if_pos]
 rw [gd hk]
 unfold mtB
 rw [decide_eq_true h1, decide_eq_true h2]; rfl
theorem up_no {l : List Rpt} {y : Rpt} {k : Nat} (hk : k < l.length) (h : ¬ (l[k].source = y.source /\ l[k].no = y.corrects)) : upTo l y (k + 1) = upTo l y k := by
 rw [upTo, if_neg]
 rw [gd hk]
 intro hh
 exact h (mt_key hh)
theorem sg_at {l : List Rpt} {i j : Nat} (hi : i < l.length) (hj : j < l.length) : sameG l i j = (decide (l[j].source = l[i].source) && decide (Yb4 l l[j] = Yb4 l l[i])) := by unfold sameG; rw [gd hj, gd hi]
theorem c_root (l : List Rpt) (x : Rpt) (hll : l.length <= 300) : Yaq Tryz.prog 139 [.sl (l.map Rpt.ds), .agg x.ds] (.v (.int .i64 (Yb4 l x))) := by
 refine Yah (n := 50) (ds' := [.v (.int .i64 (Yb4 l x))]) Tryz.func139 J (by kernel_rfl) J [4] J J ?_
 intro B w0 F0 fr
 refine .sr (.boxOwn 91 J J J J J J J ?_)
 refine .aN ?_
 refine .seq (.sr (.mA ?_))
 refine .sA (.lenSl J et_22.ht J) ?_
 refine .sA (.add64 rfl rfl rfl (by simp only [ZlM]; omega) (by simp only [ZlM]; omega)) ?_
 refine .mN ?_
 refine .block (.loop (G := Nat × Rpt) (fun g => Env.of [(11, .iv g.1), (10, .iv ((l.length : Int) + 1)), (0, .d (.sl (l.map Rpt.ds))), (3, .ptr 91 0)]) (fun g => [(91, .cells (cellsR g.2))]) (fun g => g.1 <= l.length + 1 /\ Yb4 l x = rootA l (l.length + 1 - g.1) g.2) (fun g => l.length + 1 - g.1) (0, x) ⟨ZnZ _, J⟩ (Sub.less ⟨U, (SLe.i64 (by rw [ZlM])), U, U, trivial⟩ (Ybw J)) ?_)
 rintro ⟨m, y⟩ ⟨hm, hr⟩
 dsimp only at hm hr ⊢
 refine .sr (.sA (.lss J J J) (.nil ?_))
 refine .seq (.cT J (fun h1 => ?_) fun h1 => ?_)
 ·have hml : m < l.length + 1 := by omega
  obtain ⟨d, hd⟩ : ∃ d, l.length + 1 - m = d + 1 := ⟨l.length - m, by omega⟩
  rw [hd] at hr
  refine .skip (.seq (.block (.seq (.sr (.sA (.fieldAddrP J fo_80_3 J) ?_)))))
  refine .sA (.loadP J sc_3 J (.head _) J) ?_
  refine .sA (.eql J J J) (.nil ?_)
  refine .cT J (fun h2 => ?_) fun h2 => ?_
  ·rw [hr, rootA_no h2]
   refine .sr (.sA (.fieldAddrP J YaV J) ?_)
   refine .sA (.loadP J sc_3 J (.head _) J) ?_
   refine .aN ?_
   refine .ret (rD J ?_)
   all_goals (rfl)
  have hc := h2
  refine .skip (.sr (.aN ?_))
  refine .seq (.sr (.mA ?_))
  refine .sA (.lenSl J et_22.ht J) ?_
  refine .mN ?_
  refine .block (.loop (G := Nat) (fun k => Env.of [(20, .iv k), (18, .d (.sl (l.map Rpt.ds))), (19, .iv (l.map Rpt.ds).length), (5, .iv (upTo l y k)), (11, .iv m), (10, .iv ((l.length : Int) + 1)), (0, .d (.sl (l.map Rpt.ds))), (3, .ptr 91 0)]) (fun k => [(91, .cells (cellsR y))]) (fun k => k <= l.length) (fun k => l.length - k) 0 (ZnZ _) (Sub.less ⟨U, U, U, U, U, U, U, U, trivial⟩ (Ybw J)) ?_)
  intro k hk
  refine .sr (.sA (.lss J J J) (.nil ?_))
  refine .seq (.cT J (fun h3 => ?_) fun h3 => ?_)
  ·rw [ZlM] at h3
   have hlt : k < l.length := by omega
   refine .skip (.seq (.block (.sr (.mA ?_))))
   refine .sA (.indexAddr J et_22 J J k J (Yad hlt) J) (.sA (.loadAgg J Ycq J J) ?_)
   refine .alloc 102 J J J J zt_80 J J J ?_
   refine .aA ?_
   refine .store J J J sz_80 J (.head _) J J J (ZnB J) ?_
   refine .freezeCells 7 (ds := l[k].ds) J (.head _) (.nil ?_)
   refine .sr (.sA (.fieldAddr J YaG J) ?_)
   refine .sA (.load J sc_9 J) (.sA (.fieldAddrP J YaG J) (.sA (.loadP J sc_9 J (.head _) J) (.sA (.seql J J J) ?_)))
   refine .mA ?_
   refine .sT 30 J (fun g4 => ?_) fun g4 => ?_
   ·have e1 := g4
    refine .sG (.fieldAddr J YaV J) ?_
    refine .sG (.load J sc_3 J) ?_
    refine .sG (.fieldAddrP J fo_80_3 J) ?_
    refine .sG (.loadP J sc_3 J (.head _) J) ?_
    refine .sG (.eql J J J) ?_
    refine .sA (.pickT J J J) (.nil ?_)
    refine .cT J (fun h5 => ?_) fun h5 => ?_
    ·have HU := up_yes hlt e1 h5
     refine .region (.mA ?_)
     refine .aN ?_
     refine .region (.sA (.add64 J J J) ?_)
     refine .mN ?_
     refine ⟨k + 1, (by dsimp only; omega), (by dsimp only; omega), Sub.less ⟨U, U, U, (SLe.i64 HU.symm), U, U, U, U, trivial⟩ (Ybw rfl)⟩
    have HU := up_no (l := l) (y := y) hlt (fun hh => h5 hh.2)
    refine .skip (.region (.sA (.add64 J J J) ?_))
    refine .mN ?_
    refine ⟨k + 1, (by dsimp only; omega), (by dsimp only; omega), Sub.less ⟨U, U, U, (SLe.i64 HU.symm), U, U, U, U, trivial⟩ (Ybw rfl)⟩
   have HU := up_no (l := l) (y := y) hlt (fun hh => g4 hh.1)
   refine .pA ?_
   refine .pA ?_
   refine .pA ?_
   refine .pA ?_
   refine .pA ?_
   refine .sA (.pickF J J J) (.nil ?_)
   refine .cond J (fun h => nomatch h) (fun _ => ?_)
   refine .skip (.region (.sA (.add64 J J J) ?_))
   refine .mN ?_
   refine ⟨k + 1, (by dsimp only; omega), (by dsimp only; omega), Sub.less ⟨U, U, U, (SLe.i64 HU.symm), U, U, U, U, trivial⟩ (Ybw rfl)⟩
  rw [ZlM] at h3
  obtain rfl : k = l.length := by omega
  refine .exit (.seq (.sr (.mA ?_)))
  refine .sA (.lss J J J) (.nil ?_)
  refine .cT J (fun h6 => ?_) fun h6 => ?_
  ·rw [hr, rootA_cor hc h6]
   refine .sr (.sA (.fieldAddrP J fo_80_3 J) ?_)
   refine .sA (.loadP J sc_3 J (.head _) J) ?_
   refine .aN ?_
   refine .ret (rD J ?_)
   all_goals (rfl)
  obtain ⟨u, hu, hue, hur⟩ := rootA_up (d := d) hc (by omega)
  refine .skip (.region (.mA ?_))
  refine .mA ?_
  refine .sA (.indexAddr J et_22 J J u hue (Yad hu) J) (.sA (.loadAgg J Ycq J J) ?_)
  refine .store J J J sz_80 J (.head _) J J J (ZnB J) (.nil ?_)
  refine .region (.sA (.add64 J J J) ?_)
  refine .mN ?_
  refine ⟨(m + 1, l[u]), ⟨by dsimp only; omega, by dsimp only; rw [hr, hur, show l.length + 1 - (m + 1) = d by omega]⟩, (by dsimp only; omega), Sub.less ⟨U, U, U, U, trivial⟩ (Ybw rfl)⟩
 obtain rfl : m = l.length + 1 := by omega
 rw [Nat.sub_self, rootA_0] at hr
 rw [hr]
 refine .exit (.sr (.sA (.fieldAddrP J YaV J) ?_))
 refine .sA (.loadP J sc_3 J (.head _) J) ?_
 refine .aN ?_
 refine .ret (rD J ?_)
 all_goals (rfl)
open Go.Sort Go.Lib
theorem wf64 {n : Int} (hn : -9223372036854775808 <= n /\ n <= 9223372036854775807) : (Lit.int .i64 n).wf = true := by
 have h1 : IntKind.i64.min = -9223372036854775808 := by decide
 have h2 : IntKind.i64.max = 9223372036854775807 := by decide
 simp only [Lit.wf, ZbA, decide_eq_true_eq, h1, h2]
 exact hn
def keyBi (P : Program) (k : TypeId) : Bool := match P.underlying k with
 | some (.struct fs) => (match fs.toList with
  | [f, g] => f.name != "_" && g.name != "_" && f.offset == 0 && g.offset == 1 && isI64T (P.underlying f.type) && isI64T (P.underlying g.type) && P.cellsOf f.type == 1 && P.cellsOf g.type == 1
  | _ => false) && P.cellsOf k == 2
 | _ => false
def keyBs (P : Program) (k : TypeId) : Bool := match P.underlying k with
 | some (.struct fs) => (match fs.toList with
  | [f, h, g] => ((f.name != "_" && f.offset == 0 && isStrT (P.underlying f.type) && P.cellsOf f.type == 1) && (h.name != "_" && h.offset == 1 && isStrT (P.underlying h.type) && P.cellsOf h.type == 1)) && (g.name != "_" && g.offset == 2 && isI64T (P.underlying g.type) && P.cellsOf g.type == 1)
  | _ => false) && P.cellsOf k == 3
 | _ => false
theorem keyBi_ok {P : Program} {k : TypeId} (h : keyBi P k = true) (hk : P.keyType k = true) (h0 : k < P.types.size) (s n : Int) (hs : (Lit.int .i64 s).wf = true) (hn : (Lit.int .i64 n).wf = true) : ∃ l, keyOf P k (.agg #[.int .i64 s, .int .i64 n]) = some l := by
 unfold keyBi at h
 cases hu : P.underlying k with
 | none => rw [hu] at h; cases h
 | some td =>
  rw [hu] at h
  cases td <;> try (cases h; done)
  rename_i fs
  simp only [ZbA] at h
  obtain ⟨h1, h2⟩ := h
  cases hf : fs.toList with
  | nil => rw [hf] at h1; cases h1
  | cons f r =>
   cases r with
   | nil => rw [hf] at h1; cases h1
   | cons g r =>
    cases r with
    | cons _ _ => rw [hf] at h1; cases h1
    | nil =>
     rw [hf] at h1
     simp only [ZbA, beq_iff_eq] at h1 h2
     obtain ⟨⟨⟨⟨⟨⟨⟨a1, a2⟩, a3⟩, a4⟩, a5⟩, a6⟩, a7⟩, a8⟩ := h1
     have a5' := isI64T_eq a5
     have a6' := isI64T_eq a6
     obtain ⟨m, hm⟩ : ∃ m, P.types.size = m + 1 := ⟨P.types.size - 1, (Nat.sub_add_cancel (Nat.lt_of_le_of_lt (ZnZ k) h0)).symm⟩
     have hall : fs.all (·.name != "_") = true := by
      rw [<- Array.all_toList, hf]
      simp only [List.all_cons, List.all_nil, a1, a2, Bool.and_self]
     unfold keyOf
     rw [hu]
     simp only [hk, Value.formed, hu, h2, Bool.true_and]
     refine ⟨.string (keyBytes [.int .i64 s, .int .i64 n]), ?_⟩
     have kf : P.keyLits (m + 1) f.type [.int .i64 s] = some [.int .i64 s] := by
      unfold Program.keyLits
      rw [a5']
      simp [hs]
     have kg : P.keyLits (m + 1) g.type [.int .i64 n] = some [.int .i64 n] := by
      unfold Program.keyLits
      rw [a6']
      simp [hn]
     have c1 : (([Value.int .i64 s, .int .i64 n] : List Value).drop f.offset).take (P.cellsOf f.type) = [.int .i64 s] := by rw [a3, a7]; rfl
     have c2 : (([Value.int .i64 s, .int .i64 n] : List Value).drop g.offset).take (P.cellsOf g.type) = [.int .i64 n] := by rw [a4, a8]; rfl
     have hk2 : P.keyLits (m + 1 + 1) k [.int .i64 s, .int .i64 n] = some [.int .i64 s, .int .i64 n] := by
      unfold Program.keyLits
      rw [hu]
      simp only [List.length_cons, List.length_nil, h2, hall, and_self, if_true, hf, List.mapM_cons, List.mapM_nil, c1, c2, kf, kg]
      rfl
     simp [Value.cells, hm, hk2]
theorem keyBs_ok {P : Program} {k : TypeId} (h : keyBs P k = true) (hk : P.keyType k = true) (h0 : k < P.types.size) (s t : ByteArray) (n : Int) (hs : s.size <= maxLen) (ht : t.size <= maxLen) (hn : (Lit.int .i64 n).wf = true) : ∃ l, keyOf P k (.agg #[.string s, .string t, .int .i64 n]) = some l := by
 unfold keyBs at h
 cases hu : P.underlying k with
 | none => rw [hu] at h; cases h
 | some td =>
  rw [hu] at h
  cases td <;> try (cases h; done)
  rename_i fs
  simp only [ZbA] at h
  obtain ⟨h1, h2⟩ := h
  cases hf : fs.toList with
  | nil => rw [hf] at h1; cases h1
  | cons f r =>
   cases r with
   | nil => rw [hf] at h1; cases h1
   | cons f2 r =>
    cases r with
    | nil => rw [hf] at h1; cases h1
    | cons g r =>
     cases r with
     | cons _ _ => rw [hf] at h1; cases h1
     | nil =>
      rw [hf] at h1
      simp only [ZbA, beq_iff_eq] at h1 h2
      obtain ⟨⟨⟨a1, a3⟩, a5⟩, a7⟩ := h1.1.1
      obtain ⟨⟨⟨b1, b3⟩, b5⟩, b7⟩ := h1.1.2
      obtain ⟨⟨⟨d1, d3⟩, d5⟩, d7⟩ := h1.2
      have a5' := isStrT_eq a5
      have b5' := isStrT_eq b5
      have d5' := isI64T_eq d5
      obtain ⟨m, hm⟩ : ∃ m, P.types.size = m + 1 := ⟨P.types.size - 1, (Nat.sub_add_cancel (Nat.lt_of_le_of_lt (ZnZ k) h0)).symm⟩
      have hall : fs.all (·.name != "_") = true := by
       rw [<- Array.all_toList, hf]
       simp only [List.all_cons, List.all_nil, a1, b1, d1, Bool.and_self]
      unfold keyOf
      rw [hu]
      simp only [hk, Value.formed, hu, h2, Bool.true_and]
      refine ⟨.string (keyBytes [.string s.data.toList, .string t.data.toList, .int .i64 n]), ?_⟩
      have kf : P.keyLits (m + 1) f.type [.string s] = some [.string s.data.toList] := by
       unfold Program.keyLits
       rw [a5']
       simp [hs]
      have kf2 : P.keyLits (m + 1) f2.type [.string t] = some [.string t.data.toList] := by
       unfold Program.keyLits
       rw [b5']
       simp [ht]
      have kg : P.keyLits (m + 1) g.type [.int .i64 n] = some [.int .i64 n] := by
       unfold Program.keyLits
       rw [d5']
       simp [hn]
      have c1 : (([Value.string s, .string t, .int .i64 n] : List Value).drop f.offset).take (P.cellsOf f.type) = [.string s] := by rw [a3, a7]; rfl
      have c2 : (([Value.string s, .string t, .int .i64 n] : List Value).drop f2.offset).take (P.cellsOf f2.type) = [.string t] := by rw [b3, b7]; rfl
      have c3 : (([Value.string s, .string t, .int .i64 n] : List Value).drop g.offset).take (P.cellsOf g.type) = [.int .i64 n] := by rw [d3, d7]; rfl
      have hk2 : P.keyLits (m + 1 + 1) k [.string s, .string t, .int .i64 n] = some [.string s.data.toList, .string t.data.toList, .int .i64 n] := by
       unfold Program.keyLits
       rw [hu]
       simp only [List.length_cons, List.length_nil, h2, hall, and_self, if_true, hf, List.mapM_cons, List.mapM_nil, c1, c2, c3, kf, kf2, kg]
       rfl
      simp [Value.cells, hm, hk2]
theorem krow_S : (165 : TypeId) < Tryz.prog.types.size := dcT (by kernel_rfl)
theorem krow_U : (169 : TypeId) < Tryz.prog.types.size := dcT (by kernel_rfl)
theorem kwide_S : (match Tryz.prog.underlying 165 with | some (.array _ _) | some (.struct _) => true | _ => false) = true := by kernel_rfl
theorem kwide_U : (match Tryz.prog.underlying 169 with | some (.array _ _) | some (.struct _) => true | _ => false) = true := by kernel_rfl
theorem kd_S : Maps.Keyed Tryz.prog 165 := Maps.Keyed.of_law (deep_law_laid klaid (m := 3) (by omega) krow_S (by kernel_rfl) kwide_S)
theorem kd_U : Maps.Keyed Tryz.prog 169 := Maps.Keyed.of_law (deep_law_laid klaid (m := 3) (by omega) krow_U (by kernel_rfl) kwide_U)
def keyS (k : KS) : Value := .agg #[.int .i64 k.1, .int .i64 k.2]
def keyU (k : KU) : Value := .agg #[.string k.1, .string k.2.1, .int .i64 k.2.2]
theorem keyS_ok (k : KS) (h1 : -9223372036854775808 <= k.1 /\ k.1 <= 9223372036854775807) (h2 : -9223372036854775808 <= k.2 /\ k.2 <= 9223372036854775807) : ∃ l, keyOf Tryz.prog 165 (keyS k) = some l :=
 keyBi_ok (by kernel_rfl) (by kernel_rfl) krow_S k.1 k.2 (wf64 h1) (wf64 h2)
theorem keyU_ok (k : KU) (h1 : k.1.size <= maxLen) (h2 : k.2.1.size <= maxLen) (h3 : -9223372036854775808 <= k.2.2 /\ k.2.2 <= 9223372036854775807) : ∃ l, keyOf Tryz.prog 169 (keyU k) = some l :=
 keyBs_ok (by kernel_rfl) (by kernel_rfl) krow_U k.1 k.2.1 k.2.2 h1 h2 (wf64 h3)
theorem keyS_inj {a b : KS} (h : keyS a = keyS b) : a = b := by
 unfold keyS at h
 simp only [Value.agg.injEq] at h
 have h2 : [Value.int .i64 a.1, .int .i64 a.2] = [.int .i64 b.1, .int .i64 b.2] := congrArg Array.toList h
 simp at h2
 exact Prod.ext h2.1 h2.2
theorem keyU_inj {a b : KU} (h : keyU a = keyU b) : a = b := by
 unfold keyU at h
 simp only [Value.agg.injEq] at h
 have h2 : [Value.string a.1, .string a.2.1, .int .i64 a.2.2] = [.string b.1, .string b.2.1, .int .i64 b.2.2] := congrArg Array.toList h
 simp at h2
 exact Prod.ext h2.1 (Prod.ext h2.2.1 h2.2.2)
def encS (L : List (KS × UM)) : List (Value × D) := L.map fun p => (keyS p.1, .agg (toS p).ds)
def encU (L : List (KU × UM)) : List (Value × D) := L.map fun p => (keyU p.1, .agg (toU p).ds)
def getS (L : List (KS × UM)) (k : KS) : Sal := match Yap L k with
 | some v => toS (k, v)
 | none => default
def getU (L : List (KU × UM)) (k : KU) : Unk := match Yap L k with
 | some v => toU (k, v)
 | none => default
theorem mput_S {L : List (KS × UM)} (h : NkG L) (k : KS) (v : UM) {d : D} (hd : d = .agg (toS (k, v)).ds) : MPut (encS L) (keyS k) d (encS (putG L k v)) := by
 subst hd
 exact mputG (kv := keyS) (dv := fun p => .agg (toS p).ds) keyS_inj h k v
theorem mput_U {L : List (KU × UM)} (h : NkG L) (k : KU) (v : UM) {d : D} (hd : d = .agg (toU (k, v)).ds) : MPut (encU L) (keyU k) d (encU (putG L k v)) := by
 subst hd
 exact mputG (kv := keyU) (dv := fun p => .agg (toU p).ds) keyU_inj h k v
theorem mget_S {L : List (KS × UM)} (h : NkG L) (k : KS) : MGet (encS L) (keyS k) (.agg (default : Sal).ds) (.agg (getS L k).ds) :=
 mgetG (kv := keyS) (dv := fun p => .agg (toS p).ds) keyS_inj h k _ _ (by unfold getS; cases Yap L k <;> rfl)
theorem mget_U {L : List (KU × UM)} (h : NkG L) (k : KU) : MGet (encU L) (keyU k) (.agg (default : Unk).ds) (.agg (getU L k).ds) :=
 mgetG (kv := keyU) (dv := fun p => .agg (toU p).ds) keyU_inj h k _ _ (by unfold getU; cases Yap L k <;> rfl)
theorem get_plus_S (L : List (KS × UM)) (k : KS) (u m : Int) : (getS L k).units + u = (YbE addU (Yap L k) (u, m)).1 /\ (getS L k).money + m = (YbE addU (Yap L k) (u, m)).2 := by
 unfold getS YbE
 cases Yap L k with
 | none => exact ⟨Int.zero_add _, Int.zero_add _⟩
 | some v => exact ⟨rfl, rfl⟩
theorem get_plus_U (L : List (KU × UM)) (k : KU) (u m : Int) : (getU L k).units + u = (YbE addU (Yap L k) (u, m)).1 /\ (getU L k).money + m = (YbE addU (Yap L k) (u, m)).2 := by
 unfold getU YbE
 cases Yap L k with
 | none => exact ⟨Int.zero_add _, Int.zero_add _⟩
 | some v => exact ⟨rfl, rfl⟩
theorem get_bound_S {L : List (KS × UM)} {n : Int} (hL : ∀ p ∈ L, (0 <= p.2.1 /\ p.2.1 <= 1000000000 * n) /\ 0 <= p.2.2 /\ p.2.2 <= 1000000000 * n) (hn : 0 <= n) (k : KS) : (0 <= (getS L k).units /\ (getS L k).units <= 1000000000 * n) /\ 0 <= (getS L k).money /\ (getS L k).money <= 1000000000 * n := by
 unfold getS Yap
 cases hq : L.find? fun p => decide (p.1 = k) with
 | none =>
  show (0 <= (0 : Int) /\ (0 : Int) <= 1000000000 * n) /\ 0 <= (0 : Int) /\ (0 : Int) <= 1000000000 * n
  omega
 | some p => exact hL p (List.mem_of_find?_eq_some hq)
theorem get_bound_U {L : List (KU × UM)} {n : Int} (hL : ∀ p ∈ L, (0 <= p.2.1 /\ p.2.1 <= 1000000000 * n) /\ 0 <= p.2.2 /\ p.2.2 <= 1000000000 * n) (hn : 0 <= n) (k : KU) : (0 <= (getU L k).units /\ (getU L k).units <= 1000000000 * n) /\ 0 <= (getU L k).money /\ (getU L k).money <= 1000000000 * n := by
 unfold getU Yap
 cases hq : L.find? fun p => decide (p.1 = k) with
 | none =>
  show (0 <= (0 : Int) /\ (0 : Int) <= 1000000000 * n) /\ 0 <= (0 : Int) /\ (0 : Int) <= 1000000000 * n
  omega
 | some p => exact hL p (List.mem_of_find?_eq_some hq)
theorem encS_ok {n : Int} {s : SU} (h : InvS n s) : ∀ p ∈ encS s.1, ∃ l, keyOf Tryz.prog 165 p.1 = some l := fun p hp => by
 unfold encS at hp
 obtain ⟨q, hq, rfl⟩ := ZmM.1 hp
 have := h.k1 q hq
 exact keyS_ok q.1 (by omega) (by omega)
theorem encU_ok {n : Int} {s : SU} (h : InvS n s) : ∀ p ∈ encU s.2, ∃ l, keyOf Tryz.prog 169 p.1 = some l := fun p hp => by
 unfold encU at hp
 obtain ⟨q, hq, rfl⟩ := ZmM.1 hp
 have := h.k2 q hq
 exact keyU_ok q.1 this.1 this.2.1 (by omega)
theorem zt_S : (Tryz.prog.info? 167).bind (·.zero) = some (.agg #[.int .i64 0, .int .i64 0, .int .i64 0, .int .i64 0]) := by kernel_rfl
theorem zt_U : (Tryz.prog.info? 171).bind (·.zero) = some (.agg #[.string ⟨#[]⟩, .string ⟨#[]⟩, .int .i64 0, .int .i64 0, .int .i64 0]) := by kernel_rfl
theorem zd_S (F : Nat -> Prop) (w : World) : Rep F w (.agg #[.int .i64 0, .int .i64 0, .int .i64 0, .int .i64 0]) (.agg (default : Sal).ds) := rep_aggv [.int .i64 0, .int .i64 0, .int .i64 0, .int .i64 0] rfl
theorem zd_U (F : Nat -> Prop) (w : World) : Rep F w (.agg #[.string ⟨#[]⟩, .string ⟨#[]⟩, .int .i64 0, .int .i64 0, .int .i64 0]) (.agg (default : Unk).ds) := rep_aggv [.string ⟨#[]⟩, .string ⟨#[]⟩, .int .i64 0, .int .i64 0, .int .i64 0] rfl
theorem mt_S : Tryz.prog.underlying 159 = some (.map 165 167) := by kernel_rfl
theorem mt_U : Tryz.prog.underlying 160 = some (.map 169 171) := by kernel_rfl
theorem c_bsA (l : List Ali) (x : Ali) (hl : l.length <= 100000) : Yaq Tryz.prog 85 [.sl (l.map Ali.ds), .agg x.ds, .clo (.func 86) []] (.tup [.v (.int .i64 (posA l x : Int)), .v (.bool (hasA l x))]) := by
 refine Yah (n := 49) (ds' := [.v (.int .i64 (posA l x : Int)), .v (.bool (hasA l x))]) Tryz.func85 J (by kernel_rfl) J [6, 7] J J ?_
 intro B w0 F0 fr
 refine .sr (.sA (.box J J J) ?_)
 refine .aA ?_
 refine .aN ?_
 refine .sr (.mA ?_)
 refine .sA (.lenSl J et_32.ht J) ?_
 refine .aN ?_
 refine .sr (.mA ?_)
 refine .aA ?_
 refine .aN ?_
 refine .seq (.block (.loop (G := Nat × Nat) (fun g => Env.of [(9, .iv g.1), (10, .iv g.2), (8, .iv l.length), (0, .d (.sl (l.map Ali.ds))), (4, .d (.fp x.ds)), (2, .d (.clo (.func 86) []))]) (fun g => []) (fun g => g.1 <= g.2 /\ g.2 <= l.length /\ posA l x = bsr (ltQA l x) g.1 g.2) (fun g => g.2 - g.1) (0, l.length) ⟨ZnZ _, ZnR _, rfl⟩ (Sub.less ⟨(SLe.i64 rfl), (SLe.i64 (by simp)), (SLe.i64 (by simp)), U, U, U, trivial⟩ (fun _ h => h)) ?_))
 rintro ⟨i, j⟩ ⟨hij, hjl, hb⟩
 dsimp only at hij hjl hb ⊢
 refine .seq (.sr (.mA ?_))
 refine .mA ?_
 refine .sA (.lss J J J) (.nil ?_)
 refine .cT J (fun h1 => ?_) fun h1 => ?_
 ·have hlt : i < j := by omega
  refine .skip (.block (.sr (.mA ?_)))
  refine .mA ?_
  refine .sA (.add64 J J J) ?_
  refine .sA (.convSame J (by kernel_rfl) J (wrapU64 (by omega) (by omega))) ?_
  refine .sA (.half J J J) ?_
  refine .sA (.convSame J (by kernel_rfl) J (w64 (by omega) (by omega))) ?_
  refine .aN ?_
  refine .seq (.draw (by kernel_rfl) (by kernel_rfl) ?_)
  refine .sA (.moveD J J) (.sA (.moveD J J) (.sA (.moveD J J) ?_))
  refine .sA (.indexAddr J et_32 J J ((i + j) / 2) (by omega) (Yad (by omega)) J) ?_
  refine .sA (.loadAgg J ag_122 J J) (.sA (.loadAgg J ag_122 J J) (.sA (.callClo J J (.cons (.rfl' J) (.cons (.rfl' J) .nil)) (c_cmpAli l[(i + j) / 2] x)) (.sA (.lss J J J) ?_)))
  refine .nil ?_
  refine .cT J (fun h2 => ?_) fun h2 => ?_
  ·have HB := bsr_up hlt (ltQA_t (by omega) h2)
   refine .region (.mA ?_)
   refine .sA (.add64 J J J) ?_
   refine .aN ?_
   refine ⟨((i + j) / 2 + 1, j), ⟨by dsimp only; omega, by dsimp only; omega, by dsimp only; rw [hb]; exact HB⟩, (by dsimp only; omega), Sub.less ⟨(SLe.i64 (by dsimp only; omega)), U, U, U, U, U, trivial⟩ (fun _ h => h)⟩
  have HB := bsr_dn hlt (ltQA_f (by omega) h2)
  refine .region (.mA ?_)
  refine .aN ?_
  refine ⟨(i, (i + j) / 2), ⟨by dsimp only; omega, by dsimp only; omega, by dsimp only; rw [hb]; exact HB⟩, (by dsimp only; omega), Sub.less ⟨U, (SLe.i64 (by dsimp only; omega)), U, U, U, U, trivial⟩ (fun _ h => h)⟩
 rw [bsr_end (by omega)] at hb
 refine .exit (.seq (.draw (by kernel_rfl) (by kernel_rfl) ?_))
 refine .sA (.moveD J J) (.sA (.moveD J J) (.sA (.moveD J J) (.sA (.lss J J J) (.sA (.moveD J J) ?_))))
 refine .sT 39 J (fun g3 => ?_) fun g3 => ?_
 ·have hil : i < l.length := by omega
  refine .sG (.moveD J J) ?_
  refine .sG (.moveD J J) ?_
  refine .sG (.moveD J J) ?_
  refine .sG (.indexAddr J et_32 J J i J (Yad hil) J) ?_
  refine .sG (.loadAgg J ag_122 J J) ?_
  refine .sG (.loadAgg J ag_122 J J) ?_
  refine .sG (.callClo J J (.cons (.rfl' J) (.cons (.rfl' J) .nil)) (c_cmpAli l[i] x)) ?_
  refine .sG (.eql J J J) ?_
  refine .sA (.pickT J J J) (.sA (.assignD J J) (.sA (.assignD J J) ?_))
  refine .nil ?_
  refine .ret ?_
  refine ⟨RetD.eq J ?_, RetD.eq J ?_, trivial⟩
  all_goals (first | rfl | rw [hb] | rw [HX] | rw [hasA_k hil hb])
 have HX : hasA l x = false := hasA_e (by omega) hb
 refine .pA ?_
 refine .pA ?_
 refine .pA ?_
 refine .pA ?_
 refine .pA ?_
 refine .pA ?_
 refine .pA ?_
 refine .pA ?_
 refine .sA (.pickF J J J) (.sA (.assignD J J) (.sA (.assignD J J) ?_))
 refine .nil ?_
 refine .ret ?_
 refine ⟨RetD.eq J ?_, RetD.eq J ?_, trivial⟩
 all_goals (first | rfl | rw [hb] | rw [HX] | rw [hasA_k hil hb])
namespace Ty
theorem Yck : Yaf Tryz.prog 36 0 = some 0 := by kernel_rfl
theorem sc_32 : Scal Tryz.prog 32 := .of (by kernel_rfl)
end Ty
open Go.Lib
def prevG (l : List Grp) (k : Nat) : ByteArray := if h : 0 < k /\ k <= l.length then (l[k-1]'(by omega)).name else ⟨#[]⟩
def prevD (l : List Deal) (k : Nat) : ByteArray := if h : 0 < k /\ k <= l.length then (l[k-1]'(by omega)).name else ⟨#[]⟩
theorem nm_emp : YaI ⟨#[]⟩ = false := nm_len (by decide)
theorem sle_nil {x : ByteArray} (h : ¬ YaI x = false) : sle x ⟨#[]⟩ = false := by
 have h1 := slt_nil x
 unfold slt at h1
 unfold sle
 rw [h1, Bool.false_or]
 exact decide_eq_false fun e => h (by rw [e]; exact nm_emp)
theorem grpFB_eq {l : List Grp} {k : Nat} (h : k < l.length) : grpFB l[k] (prevG l k) = grpF l k := by
 unfold grpFB grpF prevG
 rw [dif_pos h]
 by_cases h1 : YaI l[k].name = false
 ·rw [if_pos h1, if_pos h1]
 ·rw [if_neg h1, if_neg h1]
  by_cases h2 : 0 < k
  ·rw [dif_pos ⟨h2, by omega⟩]
   by_cases h3 : sle l[k].name (l[k-1]'(by omega)).name = true
   ·rw [if_pos h3, if_pos ⟨h2, h3⟩]
   ·rw [if_neg h3, if_neg (fun hh => h3 hh.2)]
  ·rw [dif_neg (fun hh => h2 hh.1), sle_nil h1, if_neg (by decide), if_neg (fun hh => h2 hh.1)]
theorem dealFB_eq {c : Ctr} {k : Nat} (h : k < c.deals.length) : YaS c c.deals[k] (prevD c.deals k) = Ybp c k := by
 unfold YaS Ybp prevD
 rw [dif_pos h]
 by_cases h1 : YaI c.deals[k].name = false
 ·rw [if_pos h1, if_pos h1]
 ·rw [if_neg h1, if_neg h1]
  by_cases h2 : 0 < k
  ·rw [dif_pos ⟨h2, by omega⟩]
   by_cases h3 : sle c.deals[k].name (c.deals[k-1]'(by omega)).name = true
   ·rw [if_pos h3, if_pos ⟨h2, h3⟩]
   ·rw [if_neg h3, if_neg (fun hh => h3 hh.2)]
  ·rw [dif_neg (fun hh => h2 hh.1), sle_nil h1, if_neg (by decide), if_neg (fun hh => h2 hh.1)]
theorem prevG_next {l : List Grp} {k : Nat} (h : k < l.length) : prevG l (k + 1) = l[k].name := by unfold prevG; rw [dif_pos ⟨by omega, by omega⟩]; simp
theorem prevD_next {l : List Deal} {k : Nat} (h : k < l.length) : prevD l (k + 1) = l[k].name := by unfold prevD; rw [dif_pos ⟨by omega, by omega⟩]; simp
def okCtr (c : Ctr) : Prop := (∀ x ∈ c.als, x.source.size <= 9223372036854775807 /\ x.title.size <= 9223372036854775807) /\ (∀ g ∈ c.groups, okGrp g) /\ ∀ d ∈ c.deals, d.name.size <= 9223372036854775807
theorem c_pCtr (c : Ctr) (hc : okCtr c) : Ya3 Tryz.prog MaxT 62 [.agg c.ds] (.v (.int .i64 (ctrF c))) := by
 refine YaF (n := 60) (ds' := [.v (.int .i64 (ctrF c))]) Tryz.func62 J (by kernel_rfl) J [2] J J ?_
 intro B w0 F0 hT
 refine .sr (.sA (.box J J J) ?_)
 refine .aN ?_
 refine .seq (.sr (.sA (.fieldAddr J Yck J) ?_))
 refine .sA (.load J sc_32 J) ?_
 -- wants the world
 refine .callT J J J hT Yan J (.cons (.rfl' J) .nil) (c_pAlis c.als hc.1) ?_
 refine .aN ?_
 refine .sr (.mA ?_)
 refine .sA (.neq J J J) (.nil ?_)
 refine .cT J (fun h1 => ?_) fun h1 => ?_
 ·have HR : ctrF c = Yb5 c.als := if_pos h1
  refine .sr (.mA ?_)
  refine .aN ?_
  refine .ret (rD J ?_)
  all_goals (rw [HR])
 have n1 : ¬ Yb5 c.als ≠ 0 := h1
 refine .skip (.seq (.sr (.sA (.fieldAddr J YaE J) ?_)))
 refine .sA (.load J YbI J) (.sA (.lenSl J et_33.ht J) (.sA (.gtr J J J) ?_))
 refine .mA ?_
 refine .sT 21 J (fun g2 => ?_) fun g2 => ?_
 ·rw [ZlM] at g2
  have HR : ctrF c = 2 := by unfold ctrF; rw [if_neg n1, if_pos (by omega)]
  refine .pA ?_
  refine .pA ?_
  refine .pA ?_
  refine .pA ?_
  refine .sA (.pickT J J J) (.nil ?_)
  refine .cond J (fun _ => ?_) (fun h => nomatch h)
  refine .sr (.aN ?_)
  refine .ret (rD J ?_)
  all_goals (rw [HR])
 rw [ZlM] at g2
 refine .sG (.fieldAddr J YaP J) ?_
 refine .sG (.load J Yce J) ?_
 refine .sG (.lenSl J et_34.ht J) ?_
 refine .sG (.gtr J J J) ?_
 refine .sA (.pickF J J J) (.nil ?_)
 refine .cT J (fun h3 => ?_) fun h3 => ?_
 ·rw [ZlM] at h3
  have HR : ctrF c = 2 := by unfold ctrF; rw [if_neg n1, if_pos (by omega)]
  refine .sr (.aN ?_)
  refine .ret (rD J ?_)
  all_goals (rw [HR])
 rw [ZlM] at h3
 have n2 : ¬ (40 < c.deals.length \/ 20 < c.groups.length) := by omega
 refine .skip (.sr (.aN ?_))
 refine .seq (.sr (.sA (.fieldAddr J YaP J) ?_))
 refine .sA (.load J Yce J) (.sA (.lenSl J et_34.ht J) ?_)
 refine .mN ?_
 refine .block (.loop (G := Nat) (fun k => Env.of [(30, .iv k), (28, .d (.sl (c.groups.map Grp.ds))), (29, .iv (c.groups.map Grp.ds).length), (1, .d (.fp c.ds)), (4, .d (.v (.string (prevG c.groups k))))]) (fun k => []) (fun k => k <= c.groups.length /\ ffst (grpF c.groups) k = 0) (fun k => c.groups.length - k) 0 ⟨ZnZ _, J⟩ (Sub.less ⟨U, U, U, U, U, trivial⟩ (fun _ h => h)) ?_)
 intro k hk
 refine .sr (.sA (.lss J J J) (.nil ?_))
 refine .seq (.cT J (fun h4 => ?_) fun h4 => ?_)
 ·rw [ZlM] at h4
  have hlt : k < c.groups.length := by omega
  have hgk := hc.2.1 _ (ZgM hlt)
  refine .skip (.seq (.block (.sr (.sA (.indexAddr J et_34 J J k J (Yad hlt) J) ?_))))
  refine .sA (.loadAgg J ag_128 J J) ?_
  refine .alloc 101 J J J J zt_128 J J J ?_
  refine .store J J J sz_128 J (.head _) J J J (ZnB J) ?_
  refine .freezeCells 6 (ds := c.groups[k].ds) J (.head _) (.nil ?_)
  refine .seq (.sr (.sA (.loadAgg J ag_128 J J) ?_))
  refine .mA ?_
  refine .sA (.call J (.cons (.rfl' J) (.cons (.rfl' J) .nil)) (c_pGrp c.groups[k] (prevG c.groups k) hgk)) ?_
  rw [grpFB_eq hlt]
  refine .aN ?_
  refine .sr (.mA ?_)
  refine .sA (.neq J J J) (.nil ?_)
  refine .cT J (fun h5 => ?_) fun h5 => ?_
  ·have e2 := Yab (f := grpF c.groups) hk.2 (by exact h5) _ hlt
   have HR : ctrF c = grpF c.groups k := by unfold ctrF; rw [if_neg n1, if_neg n2, if_pos (by rw [e2]; exact h5), e2]
   refine .sr (.mA ?_)
   refine .aN ?_
   refine .ret (rD J ?_)
   all_goals (rw [HR])
  have e0 : grpF c.groups k = 0 := by omega
  refine .skip (.region (.sA (.fieldAddr J Ya1 J) ?_))
  refine .sA (.load J sc_9 J) ?_
  refine .aN ?_
  refine .region (.sA (.add64 J J J) ?_)
  refine .mN ?_
  refine ⟨k + 1, ⟨by omega, Yag hk.2 e0⟩, (by dsimp only; omega), Sub.less ⟨U, U, U, U, (SLe.of_eq (by rw [prevG_next hlt]; rfl)), trivial⟩ (fun _ h => h)⟩
 rw [ZlM] at h4
 have HZ : ffst (grpF c.groups) c.groups.length = 0 := by rw [show c.groups.length = k by omega]; exact hk.2
 refine .exit (.sr (.aN ?_))
 refine .seq (.sr (.sA (.fieldAddr J YaE J) ?_))
 refine .sA (.load J YbI J) (.sA (.lenSl J et_33.ht J) ?_)
 refine .mN ?_
 refine .block (.loop (G := Nat) (fun k => Env.of [(46, .iv k), (44, .d (.sl (c.deals.map Deal.ds))), (45, .iv (c.deals.map Deal.ds).length), (1, .d (.fp c.ds)), (4, .d (.v (.string (prevD c.deals k))))]) (fun k => []) (fun k => k <= c.deals.length /\ ffst (Ybp c) k = 0) (fun k => c.deals.length - k) 0 ⟨ZnZ _, J⟩ (Sub.less ⟨U, U, U, U, U, trivial⟩ (fun _ h => h)) ?_)
 intro k hk
 refine .sr (.sA (.lss J J J) (.nil ?_))
 refine .seq (.cT J (fun h6 => ?_) fun h6 => ?_)
 ·rw [ZlM] at h6
  have hlt : k < c.deals.length := by omega
  have hdk := hc.2.2 _ (ZgM hlt)
  refine .skip (.seq (.block (.sr (.sA (.indexAddr J et_33 J J k J (Yad hlt) J) ?_))))
  refine .sA (.loadAgg J ag_63 J J) ?_
  refine .alloc 102 J J J J zt_63 J J J ?_
  refine .store J J J sz_63 J (.head _) J J J (ZnB J) ?_
  refine .freezeCells 9 (ds := c.deals[k].ds) J (.head _) (.nil ?_)
  refine .seq (.sr (.sA (.loadAgg J ag_36 J J) ?_))
  refine .sA (.loadAgg J ag_63 J J) ?_
  refine .mA ?_
  refine .sA (.call J (.cons (.rfl' J) (.cons (.rfl' J) (.cons (.rfl' J) .nil))) (c_pDeal c c.deals[k] (prevD c.deals k) hdk)) ?_
  rw [dealFB_eq hlt]
  refine .aN ?_
  refine .sr (.mA ?_)
  refine .sA (.neq J J J) (.nil ?_)
  refine .cT J (fun h7 => ?_) fun h7 => ?_
  ·have e2 := Yab (f := (Ybp c)) hk.2 (by exact h7) _ hlt
   have HR : ctrF c = (Ybp c) k := by unfold ctrF; rw [if_neg n1, if_neg n2, if_neg (by rw [HZ]; decide), e2]
   refine .sr (.mA ?_)
   refine .aN ?_
   refine .ret (rD J ?_)
   all_goals (rw [HR])
  have e0 : Ybp c k = 0 := by omega
  refine .skip (.region (.sA (.fieldAddr J YaZ J) ?_))
  refine .sA (.load J sc_9 J) ?_
  refine .aN ?_
  refine .region (.sA (.add64 J J J) ?_)
  refine .mN ?_
  refine ⟨k + 1, ⟨by omega, Yag hk.2 e0⟩, (by dsimp only; omega), Sub.less ⟨U, U, U, U, (SLe.of_eq (by rw [prevD_next hlt]; rfl)), trivial⟩ (fun _ h => h)⟩
 rw [ZlM] at h6
 have HR : ctrF c = 0 := by unfold ctrF; rw [if_neg n1, if_neg n2, if_neg (by rw [HZ]; decide), show c.deals.length = k by omega]; exact hk.2
 refine .exit (.sr (.aN ?_))
 refine .ret (rD J ?_)
 all_goals (rw [HR])
theorem c_rCtr (c : Ctr) (hc : okCtr c) : Ya3 Tryz.prog MaxT 137 [.agg c.ds] (.v (.int .i64 (ctrF c))) := by
 refine YaF (n := 91) (ds' := [.v (.int .i64 (ctrF c))]) Tryz.func137 J (by kernel_rfl) J [2] J J ?_
 intro B w0 F0 hT
 refine .sr (.sA (.box J J J) ?_)
 refine .aN ?_
 refine .seq (.sr (.sA (.fieldAddr J Yck J) ?_))
 refine .sA (.load J sc_32 J) ?_
 -- wants the world
 refine .callT J J J hT Yan J (.cons (.rfl' J) .nil) (c_rAlis c.als hc.1) ?_
 refine .aN ?_
 refine .sr (.mA ?_)
 refine .sA (.neq J J J) (.nil ?_)
 refine .cT J (fun h1 => ?_) fun h1 => ?_
 ·have HR : ctrF c = Yb5 c.als := if_pos h1
  refine .sr (.mA ?_)
  refine .aN ?_
  refine .ret (rD J ?_)
  all_goals (rw [HR])
 have n1 : ¬ Yb5 c.als ≠ 0 := h1
 refine .skip (.seq (.sr (.sA (.fieldAddr J YaE J) ?_)))
 refine .sA (.load J YbI J) (.sA (.lenSl J et_33.ht J) (.sA (.gtr J J J) ?_))
 refine .mA ?_
 refine .sT 20 J (fun g2 => ?_) fun g2 => ?_
 ·rw [ZlM] at g2
  have HR : ctrF c = 2 := by unfold ctrF; rw [if_neg n1, if_pos (by omega)]
  refine .pA ?_
  refine .pA ?_
  refine .pA ?_
  refine .pA ?_
  refine .sA (.pickT J J J) (.nil ?_)
  refine .cond J (fun _ => ?_) (fun h => nomatch h)
  refine .sr (.aN ?_)
  refine .ret (rD J ?_)
  all_goals (rw [HR])
 rw [ZlM] at g2
 refine .sG (.fieldAddr J YaP J) ?_
 refine .sG (.load J Yce J) ?_
 refine .sG (.lenSl J et_34.ht J) ?_
 refine .sG (.gtr J J J) ?_
 refine .sA (.pickF J J J) (.nil ?_)
 refine .cT J (fun h3 => ?_) fun h3 => ?_
 ·rw [ZlM] at h3
  have HR : ctrF c = 2 := by unfold ctrF; rw [if_neg n1, if_pos (by omega)]
  refine .sr (.aN ?_)
  refine .ret (rD J ?_)
  all_goals (rw [HR])
 rw [ZlM] at h3
 have n2 : ¬ (40 < c.deals.length \/ 20 < c.groups.length) := by omega
 refine .skip (.seq (.sr (.sA (.fieldAddr J YaP J) ?_)))
 refine .sA (.load J Yce J) (.sA (.lenSl J et_34.ht J) ?_)
 refine .mN ?_
 refine .block (.loop (G := Nat) (fun k => Env.of [(29, .iv k), (27, .d (.sl (c.groups.map Grp.ds))), (28, .iv (c.groups.map Grp.ds).length), (1, .d (.fp c.ds))]) (fun k => []) (fun k => k <= c.groups.length /\ ffst (grpF c.groups) k = 0) (fun k => c.groups.length - k) 0 ⟨ZnZ _, J⟩ (Sub.less ⟨U, U, U, U, trivial⟩ (fun _ h => h)) ?_)
 intro k hk
 refine .sr (.sA (.lss J J J) (.nil ?_))
 refine .seq (.cT J (fun h4 => ?_) fun h4 => ?_)
 ·rw [ZlM] at h4
  have hlt : k < c.groups.length := by omega
  have hgk := hc.2.1 _ (ZgM hlt)
  refine .skip (.seq (.block (.sr (.mA ?_))))
  refine .sA (.indexAddr J et_34 J J k J (Yad hlt) J) (.sA (.loadAgg J ag_128 J J) ?_)
  refine .alloc 101 J J J J zt_128 J J J ?_
  refine .aA ?_
  refine .store J J J sz_128 J (.head _) J J J (ZnB J) ?_
  refine .freezeCells 5 (ds := c.groups[k].ds) J (.head _) (.nil ?_)
  refine .seq (.sr (.sA (.fieldAddr J Ya1 J) ?_))
  refine .sA (.load J sc_9 J) (.sA (.call J (.cons (.rfl' J) .nil) (c_rName _ hgk.1)) ?_)
  refine .sA (.not J J) (.nil ?_)
  refine .cond J (fun h5 => ?_) (fun h5 => ?_)
  ·replace h5 := Ybb h5
   have n4 := h5
   have e1 : grpF c.groups k = 5 := by unfold grpF; rw [dif_pos hlt]; grind
   have e2 := Yab (f := grpF c.groups) hk.2 (by rw [e1]; decide) _ hlt
   have HR : ctrF c = 5 := by unfold ctrF; rw [if_neg n1, if_neg n2, if_pos (by rw [e2, e1]; decide), e2, e1]
   refine .sr (.aN ?_)
   refine .ret (rD J ?_)
   all_goals (rw [HR])
  replace h5 := Ybc h5
  have n4 : ¬ YaI c.groups[k].name = false := by rw [h5]; decide
  refine .skip (.seq (.seq (.draw (by kernel_rfl) (by kernel_rfl) ?_)))
  refine .sA (.moveD J J) (.sA (.gtr J J J) (.sA (.moveD J J) ?_))
  refine .sT 40 J (fun g6 => ?_) fun g6 => ?_
  ·have hk0 : 0 < k := by omega
   refine .sG (.fieldAddr J Ya1 J) ?_
   refine .sG (.load J sc_9 J) ?_
   refine .sG (.fieldAddr J YaP J) ?_
   refine .sG (.load J Yce J) ?_
   refine .sG (.moveD J J) ?_
   refine .sG (.sub64 J J J) ?_
   refine .sG (.indexAddr J et_34 J J (k - 1) (by omega) (Yad (by omega)) J) ?_
   refine .sG (.fieldAddr J Ya1 J) ?_
   refine .sG (.load J sc_9 J) ?_
   refine .sG (.sleq J J J) ?_
   refine .sA (.pickT J J J) ?_
   refine .nil ?_
   refine .cond J (fun h7 => ?_) (fun h7 => ?_)
   ·skip
    have n5 : (0 < k /\ sle c.groups[k].name (c.groups[k-1]'(by omega)).name = true) := ⟨hk0, h7⟩
    have e1 : grpF c.groups k = 8 := by unfold grpF; rw [dif_pos hlt]; grind
    have e2 := Yab (f := grpF c.groups) hk.2 (by rw [e1]; decide) _ hlt
    have HR : ctrF c = 8 := by unfold ctrF; rw [if_neg n1, if_neg n2, if_pos (by rw [e2, e1]; decide), e2, e1]
    refine .sr (.aN ?_)
    refine .ret (rD J ?_)
    all_goals (rw [HR])
   have n5 : ¬ (0 < k /\ sle c.groups[k].name (c.groups[k-1]'(by omega)).name = true) := fun hh => by have h5 := hh.2; rw [show sle c.groups[k].name (c.groups[k-1]'(by omega)).name = false from h7] at h5; cases h5
   refine .skip (.sr (.sA (.loadAgg J ag_128 J J) ?_))
   refine .sA (.call J (.cons (.rfl' J) .nil) (c_rGrp c.groups[k] hgk)) ?_
   refine .aN ?_
   refine .sr (.mA ?_)
   refine .sA (.neq J J J) (.nil ?_)
   refine .cT J (fun h8 => ?_) fun h8 => ?_
   ·have n6 := h8
    have e1 : grpF c.groups k = Ybq c.groups[k] := by unfold grpF; rw [dif_pos hlt]; grind
    have e2 := Yab (f := grpF c.groups) hk.2 (by rw [e1]; exact n6) _ hlt
    have HR : ctrF c = Ybq c.groups[k] := by unfold ctrF; rw [if_neg n1, if_neg n2, if_pos (by rw [e2, e1]; exact n6), e2, e1]
    refine .sr (.mA ?_)
    refine .aN ?_
    refine .ret (rD J ?_)
    all_goals (rw [HR])
   have n6 : Ybq c.groups[k] = 0 := by omega
   have e0 : grpF c.groups k = 0 := by unfold grpF; rw [dif_pos hlt]; grind
   refine .skip (.region (.sA (.add64 J J J) ?_))
   refine .mN ?_
   refine ⟨k + 1, ⟨by omega, Yag hk.2 e0⟩, (by dsimp only; omega), Sub.less ⟨U, U, U, U, trivial⟩ (fun _ h => h)⟩
  have n5 : ¬ (0 < k /\ sle c.groups[k].name (c.groups[k-1]'(by omega)).name = true) := fun hh => by omega
  refine .pA ?_
  refine .pA ?_
  refine .pA ?_
  refine .pA ?_
  refine .pA ?_
  refine .pA ?_
  refine .pA ?_
  refine .pA ?_
  refine .pA ?_
  refine .pA ?_
  refine .sA (.pickF J J J) ?_
  refine .nil ?_
  refine .cond J (fun h => nomatch h) (fun _ => ?_)
  refine .skip (.sr (.sA (.loadAgg J ag_128 J J) ?_))
  refine .sA (.call J (.cons (.rfl' J) .nil) (c_rGrp c.groups[k] hgk)) ?_
  refine .aN ?_
  refine .sr (.mA ?_)
  refine .sA (.neq J J J) (.nil ?_)
  refine .cT J (fun h9 => ?_) fun h9 => ?_
  ·have n6 := h9
   have e1 : grpF c.groups k = Ybq c.groups[k] := by unfold grpF; rw [dif_pos hlt]; grind
   have e2 := Yab (f := grpF c.groups) hk.2 (by rw [e1]; exact n6) _ hlt
   have HR : ctrF c = Ybq c.groups[k] := by unfold ctrF; rw [if_neg n1, if_neg n2, if_pos (by rw [e2, e1]; exact n6), e2, e1]
   refine .sr (.mA ?_)
   refine .aN ?_
   refine .ret (rD J ?_)
   all_goals (rw [HR])
  have n6 : Ybq c.groups[k] = 0 := by omega
  have e0 : grpF c.groups k = 0 := by unfold grpF; rw [dif_pos hlt]; grind
  refine .skip (.region (.sA (.add64 J J J) ?_))
  refine .mN ?_
  refine ⟨k + 1, ⟨by omega, Yag hk.2 e0⟩, (by dsimp only; omega), Sub.less ⟨U, U, U, U, trivial⟩ (fun _ h => h)⟩
 rw [ZlM] at h4
 have HZ : ffst (grpF c.groups) c.groups.length = 0 := by rw [show c.groups.length = k by omega]; exact hk.2
 refine .exit (.seq (.sr (.sA (.fieldAddr J YaE J) ?_)))
 refine .sA (.load J YbI J) (.sA (.lenSl J et_33.ht J) ?_)
 refine .mN ?_
 refine .block (.loop (G := Nat) (fun k => Env.of [(61, .iv k), (59, .d (.sl (c.deals.map Deal.ds))), (60, .iv (c.deals.map Deal.ds).length), (1, .d (.fp c.ds))]) (fun k => []) (fun k => k <= c.deals.length /\ ffst (Ybp c) k = 0) (fun k => c.deals.length - k) 0 ⟨ZnZ _, J⟩ (Sub.less ⟨U, U, U, U, trivial⟩ (fun _ h => h)) ?_)
 intro k hk
 refine .sr (.sA (.lss J J J) (.nil ?_))
 refine .seq (.cT J (fun h10 => ?_) fun h10 => ?_)
 ·rw [ZlM] at h10
  have hlt : k < c.deals.length := by omega
  have hdk := hc.2.2 _ (ZgM hlt)
  refine .skip (.seq (.block (.sr (.mA ?_))))
  refine .sA (.indexAddr J et_33 J J k J (Yad hlt) J) (.sA (.loadAgg J ag_63 J J) ?_)
  refine .alloc 102 J J J J zt_63 J J J ?_
  refine .aA ?_
  refine .store J J J sz_63 J (.head _) J J J (ZnB J) ?_
  refine .freezeCells 8 (ds := c.deals[k].ds) J (.head _) (.nil ?_)
  refine .seq (.sr (.sA (.fieldAddr J YaZ J) ?_))
  refine .sA (.load J sc_9 J) (.sA (.call J (.cons (.rfl' J) .nil) (c_rName _ hdk)) ?_)
  refine .sA (.not J J) (.nil ?_)
  refine .cond J (fun h11 => ?_) (fun h11 => ?_)
  ·replace h11 := Ybb h11
   have n4 := h11
   have e1 : (Ybp c) k = 5 := by unfold Ybp; rw [dif_pos hlt]; grind
   have e2 := Yab (f := (Ybp c)) hk.2 (by rw [e1]; decide) _ hlt
   have HR : ctrF c = 5 := by unfold ctrF; rw [if_neg n1, if_neg n2, if_neg (by rw [HZ]; decide), e2, e1]
   refine .sr (.aN ?_)
   refine .ret (rD J ?_)
   all_goals (rw [HR])
  replace h11 := Ybc h11
  have n4 : ¬ YaI c.deals[k].name = false := by rw [h11]; decide
  refine .skip (.seq (.seq (.draw (by kernel_rfl) (by kernel_rfl) ?_)))
  refine .sA (.moveD J J) (.sA (.gtr J J J) (.sA (.moveD J J) ?_))
  refine .sT 72 J (fun g12 => ?_) fun g12 => ?_
  ·have hk0 : 0 < k := by omega
   refine .sG (.fieldAddr J YaZ J) ?_
   refine .sG (.load J sc_9 J) ?_
   refine .sG (.fieldAddr J YaE J) ?_
   refine .sG (.load J YbI J) ?_
   refine .sG (.moveD J J) ?_
   refine .sG (.sub64 J J J) ?_
   refine .sG (.indexAddr J et_33 J J (k - 1) (by omega) (Yad (by omega)) J) ?_
   refine .sG (.fieldAddr J YaZ J) ?_
   refine .sG (.load J sc_9 J) ?_
   refine .sG (.sleq J J J) ?_
   refine .sA (.pickT J J J) ?_
   refine .nil ?_
   refine .cond J (fun h13 => ?_) (fun h13 => ?_)
   ·skip
    have n5 : (0 < k /\ sle c.deals[k].name (c.deals[k-1]'(by omega)).name = true) := ⟨hk0, h13⟩
    have e1 : (Ybp c) k = 8 := by unfold Ybp; rw [dif_pos hlt]; grind
    have e2 := Yab (f := (Ybp c)) hk.2 (by rw [e1]; decide) _ hlt
    have HR : ctrF c = 8 := by unfold ctrF; rw [if_neg n1, if_neg n2, if_neg (by rw [HZ]; decide), e2, e1]
    refine .sr (.aN ?_)
    refine .ret (rD J ?_)
    all_goals (rw [HR])
   have n5 : ¬ (0 < k /\ sle c.deals[k].name (c.deals[k-1]'(by omega)).name = true) := fun hh => by have h5 := hh.2; rw [show sle c.deals[k].name (c.deals[k-1]'(by omega)).name = false from h13] at h5; cases h5
   refine .skip (.sr (.sA (.loadAgg J ag_36 J J) ?_))
   refine .sA (.loadAgg J ag_63 J J) (.sA (.call J (.cons (.rfl' J) (.cons (.rfl' J) .nil)) (c_rDeal c c.deals[k] hdk)) ?_)
   refine .aN ?_
   refine .sr (.mA ?_)
   refine .sA (.neq J J J) (.nil ?_)
   refine .cT J (fun h14 => ?_) fun h14 => ?_
   ·have n6 := h14
    have e1 : (Ybp c) k = Yas c c.deals[k] := by unfold Ybp; rw [dif_pos hlt]; grind
    have e2 := Yab (f := (Ybp c)) hk.2 (by rw [e1]; exact n6) _ hlt
    have HR : ctrF c = Yas c c.deals[k] := by unfold ctrF; rw [if_neg n1, if_neg n2, if_neg (by rw [HZ]; decide), e2, e1]
    refine .sr (.mA ?_)
    refine .aN ?_
    refine .ret (rD J ?_)
    all_goals (rw [HR])
   have n6 : Yas c c.deals[k] = 0 := by omega
   have e0 : Ybp c k = 0 := by unfold Ybp; rw [dif_pos hlt]; grind
   refine .skip (.region (.sA (.add64 J J J) ?_))
   refine .mN ?_
   refine ⟨k + 1, ⟨by omega, Yag hk.2 e0⟩, (by dsimp only; omega), Sub.less ⟨U, U, U, U, trivial⟩ (fun _ h => h)⟩
  have n5 : ¬ (0 < k /\ sle c.deals[k].name (c.deals[k-1]'(by omega)).name = true) := fun hh => by omega
  refine .pA ?_
  refine .pA ?_
  refine .pA ?_
  refine .pA ?_
  refine .pA ?_
  refine .pA ?_
  refine .pA ?_
  refine .pA ?_
  refine .pA ?_
  refine .pA ?_
  refine .sA (.pickF J J J) ?_
  refine .nil ?_
  refine .cond J (fun h => nomatch h) (fun _ => ?_)
  refine .skip (.sr (.sA (.loadAgg J ag_36 J J) ?_))
  refine .sA (.loadAgg J ag_63 J J) (.sA (.call J (.cons (.rfl' J) (.cons (.rfl' J) .nil)) (c_rDeal c c.deals[k] hdk)) ?_)
  refine .aN ?_
  refine .sr (.mA ?_)
  refine .sA (.neq J J J) (.nil ?_)
  refine .cT J (fun h15 => ?_) fun h15 => ?_
  ·have n6 := h15
   have e1 : (Ybp c) k = Yas c c.deals[k] := by unfold Ybp; rw [dif_pos hlt]; grind
   have e2 := Yab (f := (Ybp c)) hk.2 (by rw [e1]; exact n6) _ hlt
   have HR : ctrF c = Yas c c.deals[k] := by unfold ctrF; rw [if_neg n1, if_neg n2, if_neg (by rw [HZ]; decide), e2, e1]
   refine .sr (.mA ?_)
   refine .aN ?_
   refine .ret (rD J ?_)
   all_goals (rw [HR])
  have n6 : Yas c c.deals[k] = 0 := by omega
  have e0 : Ybp c k = 0 := by unfold Ybp; rw [dif_pos hlt]; grind
  refine .skip (.region (.sA (.add64 J J J) ?_))
  refine .mN ?_
  refine ⟨k + 1, ⟨by omega, Yag hk.2 e0⟩, (by dsimp only; omega), Sub.less ⟨U, U, U, U, trivial⟩ (fun _ h => h)⟩
 rw [ZlM] at h10
 have HR : ctrF c = 0 := by unfold ctrF; rw [if_neg n1, if_neg n2, if_neg (by rw [HZ]; decide), show c.deals.length = k by omega]; exact hk.2
 refine .exit (.sr (.aN ?_))
 refine .ret (rD J ?_)
 all_goals (rw [HR])
namespace Ty
theorem Ybk : AggT Tryz.prog 105 3 := .of (by kernel_rfl)
theorem et_38 : ElemTy Tryz.prog 38 105 3 32 (.agg #[(.string ⟨#[]⟩), (.int .i64 0), (.int .i64 0)]) := ⟨by kernel_rfl, by kernel_rfl, by kernel_rfl, by decide⟩
theorem Ybn : Yaf Tryz.prog 105 0 = some 0 := by kernel_rfl
theorem Ybf : Yaf Tryz.prog 105 1 = some 1 := by kernel_rfl
theorem YaX : Yaf Tryz.prog 105 2 = some 2 := by kernel_rfl
theorem Yay : Yaf Tryz.prog 40 0 = some 0 := by kernel_rfl
theorem YaB : Yaf Tryz.prog 40 1 = some 3 := by kernel_rfl
theorem Ybh : Yaf Tryz.prog 40 2 = some 4 := by kernel_rfl
theorem YaJ : Yaf Tryz.prog 40 3 = some 5 := by kernel_rfl
theorem Ybv : Yaf Tryz.prog 40 4 = some 6 := by kernel_rfl
theorem Ycn : Scal Tryz.prog 38 := .of (by kernel_rfl)
theorem sz_105 : ∀ w, (sizeOf 105).run Tryz.prog w = .ok 3 w := SizeT.of (by kernel_rfl)
theorem zt_105 : (Tryz.prog.info? 105).bind (·.zero) = some (.agg #[(.string ⟨#[]⟩), (.int .i64 0), (.int .i64 0)]) := by kernel_rfl
end Ty
open Go.Lib
theorem orI_hld (a b : Hld) : orI [Yax a.deal b.deal, if a.period < b.period then -1 else if b.period < a.period then 1 else 0] = YaQ a b := by
 rw [orI_two]
 unfold YaQ
 by_cases h : a.deal = b.deal
 ·rw [if_pos (strCmp_zero.2 h), if_pos h]
  split
  ·rfl
  ·split
   ·split
    ·omega
    ·rfl
   ·split
    ·rfl
    ·omega
 ·rw [if_neg (fun hh => h (strCmp_zero.1 hh)), if_neg h]
def hLess (a b : Hld) : Bool := decide (YaQ a b < 0)
theorem hl_1 {a b : Hld} (h : slt a.deal b.deal = true) : hLess a b = true := by
 have hne : ¬ a.deal = b.deal := fun e => by rw [e] at h; rw [show slt b.deal b.deal = false from less_irr _] at h; cases h
 exact decide_eq_true (by unfold YaQ; rw [if_neg hne]; exact strCmp_lt.2 h)
theorem hl_2 {a b : Hld} (h : slt a.deal b.deal = false) (hne : ¬ a.deal = b.deal) : hLess a b = false := by
 refine decide_eq_false ?_
 unfold YaQ
 rw [if_neg hne]
 intro hh
 rw [strCmp_lt.1 hh] at h; cases h
theorem hl_3 {a b : Hld} (h : a.deal = b.deal) : hLess a b = decide (a.period < b.period) := by
 unfold hLess YaQ
 rw [if_pos h]
 apply decide_eq_decide.2
 split
 ·simp [*]
 ·split <;> simp [*]
def okBks (b : Bks) : Prop := okCtr b.ctr
theorem deal_any {l : List Deal} {nm : ByteArray} : idxBy (fun x : Deal => decide (x.name = nm)) l < 0 ↔ Yb2 l nm = false := idx_any
theorem c_cmpHld (a b : Hld) : Yaq Tryz.prog 131 [.agg a.ds, .agg b.ds] (.v (.int .i64 (YaQ a b))) := by
 refine Yah (n := 17) (ds' := [.v (.int .i64 (YaQ a b))]) Tryz.func131 J (by kernel_rfl) J [4] J J ?_
 intro B w0 F0 fr
 refine .sr (.sA (.box J J J) ?_)
 refine .sA (.box J J J) ?_
 refine .aN ?_
 refine .seq (.draw (by kernel_rfl) (by kernel_rfl) ?_)
 refine .sA (.fieldAddr J Ybn J) (.sA (.load J sc_9 J) (.sA (.fieldAddr J Ybn J) (.sA (.load J sc_9 J) (.sA (.call J (.cons (.rfl' J) (.cons (.rfl' J) .nil)) (c_strCmp _ _)) (.sA (.fieldAddr J Ybf J) ?_)))))
 refine .sA (.load J sc_3 J) (.sA (.fieldAddr J Ybf J) (.sA (.load J sc_3 J) (.sA (.call J (.cons (.rfl' J) (.cons (.rfl' J) .nil)) (c_cmpInt _ _)) ?_)))
 refine .sA (.buildSlice J et_37 (.cons J J J (.cons J J J .nil)) J (by decide)) ?_
 refine .sA (.call J (.cons (.rfl' J) .nil) (c_or [Yax a.deal b.deal, if a.period < b.period then -1 else if b.period < a.period then 1 else 0])) (.sA (.assignD J J) ?_)
 refine .nil ?_
 refine .ret (rD J ?_)
 all_goals (rw [orI_hld])
theorem c_hLess (a b : Hld) : Yaq Tryz.prog 105 [.agg a.ds, .agg b.ds] (.v (.bool (hLess a b))) := by
 refine Yah (n := 24) (ds' := [.v (.bool (hLess a b))]) Tryz.func105 J (by kernel_rfl) J [4] J J ?_
 intro B w0 F0 fr
 refine .sr (.sA (.box J J J) ?_)
 refine .sA (.box J J J) ?_
 refine .aN ?_
 refine .sr (.sA (.fieldAddr J Ybn J) ?_)
 refine .sA (.load J sc_9 J) (.sA (.fieldAddr J Ybn J) (.sA (.load J sc_9 J) (.sA (.slss J J J) ?_)))
 refine .mA ?_
 refine .split 10 J (fun g1 => ?_) (fun g1 => ?_)
 ·skip
  rw [hl_1 g1]
  refine .pA ?_
  refine .pA ?_
  refine .pA ?_
  refine .pA ?_
  refine .pA ?_
  refine .pA ?_
  refine .pass ⟨16, J, .inr ⟨J, J⟩⟩ J J ?_
  refine .pass ⟨16, J, .inr ⟨J, J⟩⟩ J J ?_
  refine .pass ⟨16, J, .inr ⟨J, J⟩⟩ J J ?_
  refine .pass ⟨16, J, .inr ⟨J, J⟩⟩ J J ?_
  refine .pass ⟨16, J, .inr ⟨J, J⟩⟩ J J ?_
  refine .pA ?_
  refine .sA (.pickT J J J) ?_
  refine .aN ?_
  refine .ret (rD J ?_)
  all_goals (rfl)
 have n1 := g1
 refine .sG (.fieldAddr J Ybn J) ?_
 refine .sG (.load J sc_9 J) ?_
 refine .sG (.fieldAddr J Ybn J) ?_
 refine .sG (.load J sc_9 J) ?_
 refine .sG (.seql J J J) ?_
 refine .sG (.moveD J J) ?_
 refine .sT 16 J (fun g2 => ?_) fun g2 => ?_
 ·rw [hl_3 g2]
  refine .sG (.fieldAddr J Ybf J) ?_
  refine .sG (.load J sc_3 J) ?_
  refine .sG (.fieldAddr J Ybf J) ?_
  refine .sG (.load J sc_3 J) ?_
  refine .sG (.lss J J J) ?_
  refine .sG (.pickT J J J) ?_
  refine .sA (.pickF J J J) ?_
  refine .aN ?_
  refine .ret (rD J ?_)
  all_goals (rfl)
 rw [hl_2 n1 g2]
 refine .pA ?_
 refine .pA ?_
 refine .pA ?_
 refine .pA ?_
 refine .pA ?_
 refine .sG (.pickF J J J) ?_
 refine .sA (.pickF J J J) ?_
 refine .aN ?_
 refine .ret (rD J ?_)
 all_goals (rfl)
theorem c_hAt1 (x : Deal) (h : Hld) : Yaq Tryz.prog 130 [.agg x.ds, .fp h.ds] (.v (.bool (decide (x.name = h.deal)))) := by
 refine Yah (n := 9) (ds' := [.v (.bool (decide (x.name = h.deal)))]) Tryz.func130 J (by kernel_rfl) J [3] J J ?_
 intro B w0 F0 fr
 refine .sr (.sA (.box J J J) ?_)
 refine .aN ?_
 refine .sr (.sA (.fieldAddr J YaZ J) ?_)
 refine .sA (.load J sc_9 J) (.sA (.fieldAddr J Ybn J) (.sA (.load J sc_9 J) (.sA (.seql J J J) ?_)))
 refine .aN ?_
 refine .ret (rD J ?_)
 all_goals (rfl)
theorem c_hasDeal (l : List Deal) (p : Deal -> Bool) (f : Nat) (caps : List D) (hp : ∀ x : Deal, Yaq Tryz.prog f (.agg x.ds :: caps) (.v (.bool (p x)))) : Yaq Tryz.prog 129 [.sl (l.map Deal.ds), .clo (.func f) caps] (.v (.bool (l.any p))) := by
 refine Yah (n := 9) (ds' := [.v (.bool (l.any p))]) Tryz.func129 J (by kernel_rfl) J [4] J J ?_
 intro B w0 F0 fr
 refine .sr (.aN ?_)
 refine .sr (.mA ?_)
 refine .mA ?_
 refine .sA (.call J (.cons (.rfl' J) (.cons (.rfl' J) .nil)) (c_ixDeal l p f caps hp)) (.sA (.geq J J J) ?_)
 refine .aN ?_
 refine .ret (rD J ?_)
 all_goals (refine congrArg (fun z => D.v (.bool z)) ?_; have h0 := idx_any (p := p) (l := l); cases ha : l.any p with | true => exact decide_eq_true (by have : ¬ idxBy p l < 0 := fun hh => (by rw [h0.1 hh] at ha; cases ha); omega) | false => exact decide_eq_false (by have := h0.2 ha; omega))
theorem c_pBks (b : Bks) (hb : okBks b) : Ya3 Tryz.prog MaxT 83 [.agg b.ds] (.v (.int .i64 (bksF b))) := by
 refine YaF (n := 103) (ds' := [.v (.int .i64 (bksF b))]) Tryz.func83 J (by kernel_rfl) J [2] J J ?_
 intro B w0 F0 hT
 refine .sr (.sA (.box J J J) ?_)
 refine .aN ?_
 refine .seq (.sr (.sA (.fieldAddr J Yay J) ?_))
 refine .sA (.loadAggT J ag_36 J (ZnB J)) ?_
 -- wants the world
 refine .callT J J J hT Yan J (.cons (.rfl' J) .nil) (c_pCtr b.ctr hb) ?_
 refine .aN ?_
 refine .sr (.mA ?_)
 refine .sA (.neq J J J) (.nil ?_)
 refine .cT J (fun h1 => ?_) fun h1 => ?_
 ·have HR : bksF b = ctrF b.ctr := if_pos h1
  refine .sr (.mA ?_)
  refine .aN ?_
  refine .ret (rD J ?_)
  all_goals (rw [HR])
 have n1 : ¬ ctrF b.ctr ≠ 0 := h1
 refine .skip (.seq (.sr (.sA (.fieldAddr J YaB J) ?_)))
 refine .sA (.load J sc_3 J) (.sA (.call J (.cons (.rfl' J) (.cons (.rfl' J) (.cons (.rfl' J) .nil))) (YbG _ _ _)) ?_)
 refine .sA (.not J J) (.nil ?_)
 refine .cN J (fun h2 => ?_) fun h2 => ?_
 ·have HR : bksF b = 1 := by unfold bksF; rw [if_neg n1, if_pos h2]
  refine .sr (.aN ?_)
  refine .ret (rD J ?_)
  all_goals (rw [HR])
 have n2 := h2
 refine .skip (.seq (.sr (.sA (.fieldAddr J Ybh J) ?_)))
 refine .sA (.load J YaO J) (.sA (.lenSl J et_37.ht J) (.sA (.fieldAddr J Yay J) (.sA (.fieldAddr J YaE J) (.sA (.load J YbI J) (.sA (.lenSl J et_33.ht J) ?_)))))
 refine .sA (.neq J J J) ?_
 refine .mA ?_
 refine .sT 28 J (fun g3 => ?_) fun g3 => ?_
 ·rw [ZlM, ZlM] at g3
  have HR : bksF b = 3 := by unfold bksF; rw [if_neg n1, if_neg (Decidable.not_not.2 n2), if_pos (by omega)]
  refine .pA ?_
  refine .pA ?_
  refine .pA ?_
  refine .pA ?_
  refine .pA ?_
  refine .pA ?_
  refine .pA ?_
  refine .pA ?_
  refine .sA (.pickT J J J) (.nil ?_)
  refine .cond J (fun _ => ?_) (fun h => nomatch h)
  refine .sr (.aN ?_)
  refine .ret (rD J ?_)
  all_goals (rw [HR])
 rw [ZlM, ZlM] at g3
 refine .sG (.fieldAddr J Ybv J) ?_
 refine .sG (.load J YaO J) ?_
 refine .sG (.lenSl J et_37.ht J) ?_
 refine .sG (.fieldAddr J Yay J) ?_
 refine .sG (.fieldAddr J YaP J) ?_
 refine .sG (.load J Yce J) ?_
 refine .sG (.lenSl J et_34.ht J) ?_
 refine .sG (.neq J J J) ?_
 refine .sA (.pickF J J J) (.nil ?_)
 refine .cT J (fun h4 => ?_) fun h4 => ?_
 ·rw [ZlM, ZlM] at h4
  have HR : bksF b = 3 := by unfold bksF; rw [if_neg n1, if_neg (Decidable.not_not.2 n2), if_pos (by omega)]
  refine .sr (.aN ?_)
  refine .ret (rD J ?_)
  all_goals (rw [HR])
 rw [ZlM, ZlM] at h4
 have n3 : ¬ (b.stated.length ≠ b.ctr.deals.length \/ b.bal.length ≠ b.ctr.groups.length) := by omega
 refine .skip (.seq (.sr (.sA (.fieldAddr J Ybh J) ?_)))
 refine .sA (.load J YaO J) (.sA (.lenSl J et_37.ht J) ?_)
 refine .mN ?_
 refine .block (.bound 39 J (fun hbd => ?_))
 rw [ZlM] at hbd
 refine .loop (G := Nat) (fun k => Env.of [(41, .iv k), (39, .d (.sl (b.stated.map intD))), (40, .iv (b.stated.map intD).length), (1, .d (.fp b.ds))]) (fun k => []) (fun k => k <= b.stated.length /\ ffst (Ycm b.stated) k = 0) (fun k => b.stated.length - k) 0 ⟨ZnZ _, J⟩ (Sub.less ⟨U, U, U, U, trivial⟩ (fun _ h => h)) ?_
 intro k hk
 refine .sr (.sA (.lss J J J) (.nil ?_))
 refine .seq (.cT J (fun h5 => ?_) fun h5 => ?_)
 ·rw [ZlM] at h5
  have hlt : k < b.stated.length := by omega
  refine .skip (.seq (.block (.sr (.sA (.indexAddr J et_37 J J k J (Yad hlt) J) ?_))))
  refine .sA (.load J sc_3 J) ?_
  refine .aN ?_
  refine .sr (.mA ?_)
  refine .sA (.call J (.cons (.rfl' J) (.cons (.rfl' J) (.cons (.rfl' J) .nil))) (YbG _ _ _)) ?_
  refine .sA (.not J J) (.nil ?_)
  refine .cN J (fun h6 => ?_) fun h6 => ?_
  ·have n4 := h6
   have e1 : Ycm b.stated k = 1 := by unfold Ycm; rw [dif_pos hlt]; grind
   have e2 := Yab (f := Ycm b.stated) hk.2 (by rw [e1]; decide) _ hlt
   have HR : bksF b = 1 := by unfold bksF; rw [if_neg n1, if_neg (Decidable.not_not.2 n2), if_neg n3, if_pos (by rw [e2, e1]; decide), e2, e1]
   refine .sr (.aN ?_)
   refine .ret (rD J ?_)
   all_goals (rw [HR])
  have n4 := h6
  have e0 : Ycm b.stated k = 0 := by unfold Ycm; rw [dif_pos hlt]; grind
  refine .skip (.region (.sA (.add64 J J J) ?_))
  refine .mN ?_
  refine ⟨k + 1, ⟨by omega, Yag hk.2 e0⟩, (by dsimp only; omega), Sub.less ⟨U, U, U, U, trivial⟩ (fun _ h => h)⟩
 rw [ZlM] at h5
 have HS : ffst (Ycm b.stated) b.stated.length = 0 := by rw [show b.stated.length = k by omega]; exact hk.2
 refine .exit (.seq (.sr (.sA (.fieldAddr J YaJ J) ?_)))
 refine .sA (.load J Ycn J) (.sA (.lenSl J et_38.ht J) ?_)
 refine .mN ?_
 refine .block (.bound 50 J (fun hbd => ?_))
 rw [ZlM] at hbd
 refine .loop (G := Nat) (fun k => Env.of [(52, .iv k), (50, .d (.sl (b.held.map Hld.ds))), (51, .iv (b.held.map Hld.ds).length), (1, .d (.fp b.ds))]) (fun k => []) (fun k => k <= b.held.length /\ ffst (hldF b) k = 0) (fun k => b.held.length - k) 0 ⟨ZnZ _, J⟩ (Sub.less ⟨U, U, U, U, trivial⟩ (fun _ h => h)) ?_
 intro k hk
 refine .sr (.sA (.lss J J J) (.nil ?_))
 refine .seq (.cT J (fun h7 => ?_) fun h7 => ?_)
 ·rw [ZlM] at h7
  have hlt : k < b.held.length := by omega
  refine .skip (.seq (.block (.sr (.mA ?_))))
  refine .sA (.indexAddr J et_38 J J k J (Yad hlt) J) (.sA (.loadAgg J Ybk J J) ?_)
  refine .alloc 101 J J J J zt_105 J J J ?_
  refine .aA ?_
  refine .store J J J sz_105 J (.head _) J J J (ZnB J) ?_
  refine .freezeCells 7 (ds := b.held[k].ds) J (.head _) (.nil ?_)
  refine .block (.sr (.sA (.fieldAddr J Yay J) ?_))
  refine .sA (.fieldAddr J YaE J) (.sA (.load J YbI J) (.sA (.makeFunc J (.cons (.rfl' J) .nil)) (.sA (.call J (.cons (.rfl' J) (.cons (.rfl' J) .nil)) (c_hasDeal b.ctr.deals (fun x => decide (x.name = b.held[k].deal)) 130 _ (fun x => c_hAt1 x b.held[k]))) (.sA (.not J J) ?_))))
  refine .aN ?_
  refine .cond J (fun h8 => ?_) (fun h8 => ?_)
  ·replace h8 := Ybb h8
   have n5 : Yb2 b.ctr.deals b.held[k].deal = false := h8
   have e1 : (hldF b) k = 9 := by unfold hldF; rw [dif_pos hlt]; grind
   have e2 := Yab (f := (hldF b)) hk.2 (by rw [e1]; decide) _ hlt
   have HR : bksF b = 9 := by unfold bksF; rw [if_neg n1, if_neg (Decidable.not_not.2 n2), if_neg n3, if_neg (by rw [HS]; decide), if_pos (by rw [e2, e1]; decide), e2, e1]
   refine .sr (.aN ?_)
   refine .ret (rD J ?_)
   all_goals (rw [HR])
  replace h8 := Ybc h8
  have n5 : ¬ Yb2 b.ctr.deals b.held[k].deal = false := fun hh => by rw [show Yb2 b.ctr.deals b.held[k].deal = true from h8] at hh; cases hh
  refine .seq (.draw (by kernel_rfl) (by kernel_rfl) ?_)
  refine .sA (.moveD J J) (.sA (.gtr J J J) (.sA (.moveD J J) ?_))
  refine .sT 67 J (fun g9 => ?_) fun g9 => ?_
  ·have hk0 : 0 < k := by omega
   refine .sG (.fieldAddr J YaJ J) ?_
   refine .sG (.load J Ycn J) ?_
   refine .sG (.moveD J J) ?_
   refine .sG (.sub64 J J J) ?_
   refine .sG (.indexAddr J et_38 J J (k - 1) (by omega) (Yad (by omega)) J) ?_
   refine .sG (.loadAgg J Ybk J J) ?_
   refine .sG (.loadAgg J Ybk J J) ?_
   refine .sG (.call J (.cons (.rfl' J) (.cons (.rfl' J) .nil)) (c_cmpHld _ _)) ?_
   refine .sG (.geq J J J) ?_
   refine .sA (.pickT J J J) (.sA (.assignD J J) ?_)
   refine .nil ?_
   refine .cT J (fun h10 => ?_) fun h10 => ?_
   ·have n6 : (0 < k /\ 0 <= YaQ (b.held[k-1]'(by omega)) b.held[k]) := ⟨hk0, by omega⟩
    have e1 : (hldF b) k = 8 := by unfold hldF; rw [dif_pos hlt]; grind
    have e2 := Yab (f := (hldF b)) hk.2 (by rw [e1]; decide) _ hlt
    have HR : bksF b = 8 := by unfold bksF; rw [if_neg n1, if_neg (Decidable.not_not.2 n2), if_neg n3, if_neg (by rw [HS]; decide), if_pos (by rw [e2, e1]; decide), e2, e1]
    refine .sr (.aN ?_)
    refine .ret (rD J ?_)
    all_goals (rw [HR])
   have n6 : ¬ (0 < k /\ 0 <= YaQ (b.held[k-1]'(by omega)) b.held[k]) := fun hh => h10 hh.2
   refine .sr (.sA (.fieldAddr J Ybf J) ?_)
   refine .sA (.load J sc_3 J) (.sA (.fieldAddr J YaB J) (.sA (.load J sc_3 J) (.sA (.call J (.cons (.rfl' J) (.cons (.rfl' J) (.cons (.rfl' J) .nil))) (YbG _ _ _)) (.sA (.not J J) ?_))))
   refine .mA ?_
   refine .sN 85 J (fun g11 => ?_) fun g11 => ?_
   ·have e1 : (hldF b) k = 1 := by unfold hldF; rw [dif_pos hlt]; grind
    have e2 := Yab (f := (hldF b)) hk.2 (by rw [e1]; decide) _ hlt
    have HR : bksF b = 1 := by unfold bksF; rw [if_neg n1, if_neg (Decidable.not_not.2 n2), if_neg n3, if_neg (by rw [HS]; decide), if_pos (by rw [e2, e1]; decide), e2, e1]
    refine .pA ?_
    refine .pA ?_
    refine .pA ?_
    refine .pA ?_
    refine .sA (.pickT J J J) ?_
    refine .aN ?_
    refine .cond J (fun _ => ?_) (fun h => nomatch h)
    refine .sr (.aN ?_)
    refine .ret (rD J ?_)
    all_goals (rw [HR])
   refine .sG (.fieldAddr J YaX J) ?_
   refine .sG (.load J sc_3 J) ?_
   refine .sG (.call J (.cons (.rfl' J) (.cons (.rfl' J) (.cons (.rfl' J) .nil))) (YbG _ _ _)) ?_
   refine .sG (.not J J) ?_
   refine .sA (.pickF J J J) ?_
   refine .aN ?_
   refine .cN J (fun h12 => ?_) fun h12 => ?_
   ·have e1 : (hldF b) k = 1 := by unfold hldF; rw [dif_pos hlt]; grind
    have e2 := Yab (f := (hldF b)) hk.2 (by rw [e1]; decide) _ hlt
    have HR : bksF b = 1 := by unfold bksF; rw [if_neg n1, if_neg (Decidable.not_not.2 n2), if_neg n3, if_neg (by rw [HS]; decide), if_pos (by rw [e2, e1]; decide), e2, e1]
    refine .sr (.aN ?_)
    refine .ret (rD J ?_)
    all_goals (rw [HR])
   have e0 : hldF b k = 0 := by unfold hldF; rw [dif_pos hlt]; grind
   refine .skip (.region (.sA (.add64 J J J) ?_))
   refine .mN ?_
   refine ⟨k + 1, ⟨by omega, Yag hk.2 e0⟩, (by dsimp only; omega), Sub.less ⟨U, U, U, U, trivial⟩ (fun _ h => h)⟩
  have n6 : ¬ (0 < k /\ 0 <= YaQ (b.held[k-1]'(by omega)) b.held[k]) := fun hh => by omega
  refine .pA ?_
  refine .pA ?_
  refine .pA ?_
  refine .pA ?_
  refine .pA ?_
  refine .pA ?_
  refine .pA ?_
  refine .pA ?_
  refine .pA ?_
  refine .sA (.pickF J J J) (.sA (.assignD J J) ?_)
  refine .nil ?_
  refine .cond J (fun h => nomatch h) (fun _ => ?_)
  refine .sr (.sA (.fieldAddr J Ybf J) ?_)
  refine .sA (.load J sc_3 J) (.sA (.fieldAddr J YaB J) (.sA (.load J sc_3 J) (.sA (.call J (.cons (.rfl' J) (.cons (.rfl' J) (.cons (.rfl' J) .nil))) (YbG _ _ _)) (.sA (.not J J) ?_))))
  refine .mA ?_
  refine .sN 85 J (fun g13 => ?_) fun g13 => ?_
  ·have e1 : (hldF b) k = 1 := by unfold hldF; rw [dif_pos hlt]; grind
   have e2 := Yab (f := (hldF b)) hk.2 (by rw [e1]; decide) _ hlt
   have HR : bksF b = 1 := by unfold bksF; rw [if_neg n1, if_neg (Decidable.not_not.2 n2), if_neg n3, if_neg (by rw [HS]; decide), if_pos (by rw [e2, e1]; decide), e2, e1]
   refine .pA ?_
   refine .pA ?_
   refine .pA ?_
   refine .pA ?_
   refine .sA (.pickT J J J) ?_
   refine .aN ?_
   refine .cond J (fun _ => ?_) (fun h => nomatch h)
   refine .sr (.aN ?_)
   refine .ret (rD J ?_)
   all_goals (rw [HR])
  refine .sG (.fieldAddr J YaX J) ?_
  refine .sG (.load J sc_3 J) ?_
  refine .sG (.call J (.cons (.rfl' J) (.cons (.rfl' J) (.cons (.rfl' J) .nil))) (YbG _ _ _)) ?_
  refine .sG (.not J J) ?_
  refine .sA (.pickF J J J) ?_
  refine .aN ?_
  refine .cN J (fun h14 => ?_) fun h14 => ?_
  ·have e1 : (hldF b) k = 1 := by unfold hldF; rw [dif_pos hlt]; grind
   have e2 := Yab (f := (hldF b)) hk.2 (by rw [e1]; decide) _ hlt
   have HR : bksF b = 1 := by unfold bksF; rw [if_neg n1, if_neg (Decidable.not_not.2 n2), if_neg n3, if_neg (by rw [HS]; decide), if_pos (by rw [e2, e1]; decide), e2, e1]
   refine .sr (.aN ?_)
   refine .ret (rD J ?_)
   all_goals (rw [HR])
  have e0 : hldF b k = 0 := by unfold hldF; rw [dif_pos hlt]; grind
  refine .skip (.region (.sA (.add64 J J J) ?_))
  refine .mN ?_
  refine ⟨k + 1, ⟨by omega, Yag hk.2 e0⟩, (by dsimp only; omega), Sub.less ⟨U, U, U, U, trivial⟩ (fun _ h => h)⟩
 rw [ZlM] at h7
 have HH : ffst (hldF b) b.held.length = 0 := by rw [show b.held.length = k by omega]; exact hk.2
 refine .exit (.seq (.sr (.sA (.fieldAddr J Ybv J) ?_)))
 refine .sA (.load J YaO J) (.sA (.lenSl J et_37.ht J) ?_)
 refine .mN ?_
 refine .block (.bound 93 J (fun hbd => ?_))
 rw [ZlM] at hbd
 refine .loop (G := Nat) (fun k => Env.of [(95, .iv k), (93, .d (.sl (b.bal.map intD))), (94, .iv (b.bal.map intD).length), (1, .d (.fp b.ds))]) (fun k => []) (fun k => k <= b.bal.length /\ ffst (balF b.bal) k = 0) (fun k => b.bal.length - k) 0 ⟨ZnZ _, J⟩ (Sub.less ⟨U, U, U, U, trivial⟩ (fun _ h => h)) ?_
 intro k hk
 refine .sr (.sA (.lss J J J) (.nil ?_))
 refine .seq (.cT J (fun h15 => ?_) fun h15 => ?_)
 ·rw [ZlM] at h15
  have hlt : k < b.bal.length := by omega
  refine .skip (.seq (.block (.sr (.sA (.indexAddr J et_37 J J k J (Yad hlt) J) ?_))))
  refine .sA (.load J sc_3 J) ?_
  refine .aN ?_
  refine .sr (.mA ?_)
  refine .sA (.call J (.cons (.rfl' J) (.cons (.rfl' J) (.cons (.rfl' J) .nil))) (YbG _ _ _)) ?_
  refine .sA (.not J J) (.nil ?_)
  refine .cN J (fun h16 => ?_) fun h16 => ?_
  ·have n4 := h16
   have e1 : balF b.bal k = 1 := by unfold balF; rw [dif_pos hlt]; grind
   have e2 := Yab (f := balF b.bal) hk.2 (by rw [e1]; decide) _ hlt
   have HR : bksF b = 1 := by unfold bksF; rw [if_neg n1, if_neg (Decidable.not_not.2 n2), if_neg n3, if_neg (by rw [HS]; decide), if_neg (by rw [HH]; decide), e2, e1]
   refine .sr (.aN ?_)
   refine .ret (rD J ?_)
   all_goals (rw [HR])
  have n4 := h16
  have e0 : balF b.bal k = 0 := by unfold balF; rw [dif_pos hlt]; grind
  refine .skip (.region (.sA (.add64 J J J) ?_))
  refine .mN ?_
  refine ⟨k + 1, ⟨by omega, Yag hk.2 e0⟩, (by dsimp only; omega), Sub.less ⟨U, U, U, U, trivial⟩ (fun _ h => h)⟩
 rw [ZlM] at h15
 have HR : bksF b = 0 := by unfold bksF; rw [if_neg n1, if_neg (Decidable.not_not.2 n2), if_neg n3, if_neg (by rw [HS]; decide), if_neg (by rw [HH]; decide), show b.bal.length = k by omega]; exact hk.2
 refine .exit (.sr (.aN ?_))
 refine .ret (rD J ?_)
 all_goals (rw [HR])
theorem c_rBks (b : Bks) (hb : okBks b) : Ya3 Tryz.prog MaxT 100 [.agg b.ds] (.v (.int .i64 (bksF b))) := by
 refine YaF (n := 103) (ds' := [.v (.int .i64 (bksF b))]) Tryz.func100 J (by kernel_rfl) J [2] J J ?_
 intro B w0 F0 hT
 refine .sr (.sA (.box J J J) ?_)
 refine .aN ?_
 refine .seq (.sr (.sA (.fieldAddr J Yay J) ?_))
 refine .sA (.loadAggT J ag_36 J (ZnB J)) ?_
 -- wants the world
 refine .callT J J J hT Yan J (.cons (.rfl' J) .nil) (c_rCtr b.ctr hb) ?_
 refine .aN ?_
 refine .sr (.mA ?_)
 refine .sA (.neq J J J) (.nil ?_)
 refine .cT J (fun h1 => ?_) fun h1 => ?_
 ·have HR : bksF b = ctrF b.ctr := if_pos h1
  refine .sr (.mA ?_)
  refine .aN ?_
  refine .ret (rD J ?_)
  all_goals (rw [HR])
 have n1 : ¬ ctrF b.ctr ≠ 0 := h1
 refine .skip (.seq (.sr (.sA (.fieldAddr J YaB J) ?_)))
 refine .sA (.load J sc_3 J) (.sA (.call J (.cons (.rfl' J) (.cons (.rfl' J) (.cons (.rfl' J) .nil))) (Ybr _ _ _)) ?_)
 refine .sA (.not J J) (.nil ?_)
 refine .cN J (fun h2 => ?_) fun h2 => ?_
 ·have HR : bksF b = 1 := by unfold bksF; rw [if_neg n1, if_pos h2]
  refine .sr (.aN ?_)
  refine .ret (rD J ?_)
  all_goals (rw [HR])
 have n2 := h2
 refine .skip (.seq (.sr (.sA (.fieldAddr J Ybh J) ?_)))
 refine .sA (.load J YaO J) (.sA (.lenSl J et_37.ht J) (.sA (.fieldAddr J Yay J) (.sA (.fieldAddr J YaE J) (.sA (.load J YbI J) (.sA (.lenSl J et_33.ht J) ?_)))))
 refine .sA (.neq J J J) ?_
 refine .mA ?_
 refine .sT 28 J (fun g3 => ?_) fun g3 => ?_
 ·rw [ZlM, ZlM] at g3
  have HR : bksF b = 3 := by unfold bksF; rw [if_neg n1, if_neg (Decidable.not_not.2 n2), if_pos (by omega)]
  refine .pA ?_
  refine .pA ?_
  refine .pA ?_
  refine .pA ?_
  refine .pA ?_
  refine .pA ?_
  refine .pA ?_
  refine .pA ?_
  refine .sA (.pickT J J J) (.nil ?_)
  refine .cond J (fun _ => ?_) (fun h => nomatch h)
  refine .sr (.aN ?_)
  refine .ret (rD J ?_)
  all_goals (rw [HR])
 rw [ZlM, ZlM] at g3
 refine .sG (.fieldAddr J Ybv J) ?_
 refine .sG (.load J YaO J) ?_
 refine .sG (.lenSl J et_37.ht J) ?_
 refine .sG (.fieldAddr J Yay J) ?_
 refine .sG (.fieldAddr J YaP J) ?_
 refine .sG (.load J Yce J) ?_
 refine .sG (.lenSl J et_34.ht J) ?_
 refine .sG (.neq J J J) ?_
 refine .sA (.pickF J J J) (.nil ?_)
 refine .cT J (fun h4 => ?_) fun h4 => ?_
 ·rw [ZlM, ZlM] at h4
  have HR : bksF b = 3 := by unfold bksF; rw [if_neg n1, if_neg (Decidable.not_not.2 n2), if_pos (by omega)]
  refine .sr (.aN ?_)
  refine .ret (rD J ?_)
  all_goals (rw [HR])
 rw [ZlM, ZlM] at h4
 have n3 : ¬ (b.stated.length ≠ b.ctr.deals.length \/ b.bal.length ≠ b.ctr.groups.length) := by omega
 refine .skip (.seq (.sr (.sA (.fieldAddr J Ybh J) ?_)))
 refine .sA (.load J YaO J) (.sA (.lenSl J et_37.ht J) ?_)
 refine .mN ?_
 refine .block (.bound 39 J (fun hbd => ?_))
 rw [ZlM] at hbd
 refine .loop (G := Nat) (fun k => Env.of [(41, .iv k), (39, .d (.sl (b.stated.map intD))), (40, .iv (b.stated.map intD).length), (1, .d (.fp b.ds))]) (fun k => []) (fun k => k <= b.stated.length /\ ffst (Ycm b.stated) k = 0) (fun k => b.stated.length - k) 0 ⟨ZnZ _, J⟩ (Sub.less ⟨U, U, U, U, trivial⟩ (fun _ h => h)) ?_
 intro k hk
 refine .sr (.sA (.lss J J J) (.nil ?_))
 refine .seq (.cT J (fun h5 => ?_) fun h5 => ?_)
 ·rw [ZlM] at h5
  have hlt : k < b.stated.length := by omega
  refine .skip (.seq (.block (.sr (.sA (.indexAddr J et_37 J J k J (Yad hlt) J) ?_))))
  refine .sA (.load J sc_3 J) ?_
  refine .aN ?_
  refine .sr (.mA ?_)
  refine .sA (.call J (.cons (.rfl' J) (.cons (.rfl' J) (.cons (.rfl' J) .nil))) (Ybr _ _ _)) ?_
  refine .sA (.not J J) (.nil ?_)
  refine .cN J (fun h6 => ?_) fun h6 => ?_
  ·have n4 := h6
   have e1 : Ycm b.stated k = 1 := by unfold Ycm; rw [dif_pos hlt]; grind
   have e2 := Yab (f := Ycm b.stated) hk.2 (by rw [e1]; decide) _ hlt
   have HR : bksF b = 1 := by unfold bksF; rw [if_neg n1, if_neg (Decidable.not_not.2 n2), if_neg n3, if_pos (by rw [e2, e1]; decide), e2, e1]
   refine .sr (.aN ?_)
   refine .ret (rD J ?_)
   all_goals (rw [HR])
  have n4 := h6
  have e0 : Ycm b.stated k = 0 := by unfold Ycm; rw [dif_pos hlt]; grind
  refine .skip (.region (.sA (.add64 J J J) ?_))
  refine .mN ?_
  refine ⟨k + 1, ⟨by omega, Yag hk.2 e0⟩, (by dsimp only; omega), Sub.less ⟨U, U, U, U, trivial⟩ (fun _ h => h)⟩
 rw [ZlM] at h5
 have HS : ffst (Ycm b.stated) b.stated.length = 0 := by rw [show b.stated.length = k by omega]; exact hk.2
 refine .exit (.seq (.sr (.sA (.fieldAddr J YaJ J) ?_)))
 refine .sA (.load J Ycn J) (.sA (.lenSl J et_38.ht J) ?_)
 refine .mN ?_
 refine .block (.bound 50 J (fun hbd => ?_))
 rw [ZlM] at hbd
 refine .loop (G := Nat) (fun k => Env.of [(52, .iv k), (50, .d (.sl (b.held.map Hld.ds))), (51, .iv (b.held.map Hld.ds).length), (1, .d (.fp b.ds))]) (fun k => []) (fun k => k <= b.held.length /\ ffst (hldF b) k = 0) (fun k => b.held.length - k) 0 ⟨ZnZ _, J⟩ (Sub.less ⟨U, U, U, U, trivial⟩ (fun _ h => h)) ?_
 intro k hk
 refine .sr (.sA (.lss J J J) (.nil ?_))
 refine .seq (.cT J (fun h7 => ?_) fun h7 => ?_)
 ·rw [ZlM] at h7
  have hlt : k < b.held.length := by omega
  refine .skip (.seq (.block (.sr (.mA ?_))))
  refine .sA (.indexAddr J et_38 J J k J (Yad hlt) J) (.sA (.loadAgg J Ybk J J) ?_)
  refine .alloc 101 J J J J zt_105 J J J ?_
  refine .aA ?_
  refine .store J J J sz_105 J (.head _) J J J (ZnB J) ?_
  refine .freezeCells 7 (ds := b.held[k].ds) J (.head _) (.nil ?_)
  refine .block (.sr (.sA (.fieldAddr J Yay J) ?_))
  refine .sA (.loadAggT J ag_36 J (ZnB J)) (.sA (.fieldAddr J Ybn J) (.sA (.load J sc_9 J) (.sA (.call J (.cons (.rfl' J) (.cons (.rfl' J) .nil)) (c_dealOf b.ctr _)) (.sA (.lss J J J) ?_))))
  refine .aN ?_
  refine .cT J (fun h8 => ?_) fun h8 => ?_
  ·have n5 : Yb2 b.ctr.deals b.held[k].deal = false := deal_any.1 h8
   have e1 : (hldF b) k = 9 := by unfold hldF; rw [dif_pos hlt]; grind
   have e2 := Yab (f := (hldF b)) hk.2 (by rw [e1]; decide) _ hlt
   have HR : bksF b = 9 := by unfold bksF; rw [if_neg n1, if_neg (Decidable.not_not.2 n2), if_neg n3, if_neg (by rw [HS]; decide), if_pos (by rw [e2, e1]; decide), e2, e1]
   refine .sr (.aN ?_)
   refine .ret (rD J ?_)
   all_goals (rw [HR])
  have n5 : ¬ Yb2 b.ctr.deals b.held[k].deal = false := fun hh => h8 (deal_any.2 hh)
  refine .seq (.draw (by kernel_rfl) (by kernel_rfl) ?_)
  refine .sA (.moveD J J) (.sA (.gtr J J J) (.sA (.moveD J J) ?_))
  refine .sT 67 J (fun g9 => ?_) fun g9 => ?_
  ·have hk0 : 0 < k := by omega
   refine .sG (.fieldAddr J YaJ J) ?_
   refine .sG (.load J Ycn J) ?_
   refine .sG (.moveD J J) ?_
   refine .sG (.sub64 J J J) ?_
   refine .sG (.indexAddr J et_38 J J (k - 1) (by omega) (Yad (by omega)) J) ?_
   refine .sG (.loadAgg J Ybk J J) ?_
   refine .sG (.loadAgg J Ybk J J) ?_
   refine .sG (.call J (.cons (.rfl' J) (.cons (.rfl' J) .nil)) (c_hLess _ _)) ?_
   refine .sG (.not J J) ?_
   refine .sA (.pickT J J J) (.sA (.assignD J J) ?_)
   refine .nil ?_
   refine .cond J (fun h10 => ?_) (fun h10 => ?_)
   ·replace h10 := Ybb h10
    have n6 : (0 < k /\ 0 <= YaQ (b.held[k-1]'(by omega)) b.held[k]) := ⟨hk0, by have := dcF (show decide (YaQ (b.held[k-1]'(by omega)) b.held[k] < 0) = false from h10); omega⟩
    have e1 : (hldF b) k = 8 := by unfold hldF; rw [dif_pos hlt]; grind
    have e2 := Yab (f := (hldF b)) hk.2 (by rw [e1]; decide) _ hlt
    have HR : bksF b = 8 := by unfold bksF; rw [if_neg n1, if_neg (Decidable.not_not.2 n2), if_neg n3, if_neg (by rw [HS]; decide), if_pos (by rw [e2, e1]; decide), e2, e1]
    refine .sr (.aN ?_)
    refine .ret (rD J ?_)
    all_goals (rw [HR])
   replace h10 := Ybc h10
   have n6 : ¬ (0 < k /\ 0 <= YaQ (b.held[k-1]'(by omega)) b.held[k]) := fun hh => by have := dcT (show decide (YaQ (b.held[k-1]'(by omega)) b.held[k] < 0) = true from h10); omega
   refine .sr (.sA (.fieldAddr J Ybf J) ?_)
   refine .sA (.load J sc_3 J) (.sA (.fieldAddr J YaB J) (.sA (.load J sc_3 J) (.sA (.call J (.cons (.rfl' J) (.cons (.rfl' J) (.cons (.rfl' J) .nil))) (Ybr _ _ _)) (.sA (.not J J) ?_))))
   refine .mA ?_
   refine .sN 85 J (fun g11 => ?_) fun g11 => ?_
   ·have e1 : (hldF b) k = 1 := by unfold hldF; rw [dif_pos hlt]; grind
    have e2 := Yab (f := (hldF b)) hk.2 (by rw [e1]; decide) _ hlt
    have HR : bksF b = 1 := by unfold bksF; rw [if_neg n1, if_neg (Decidable.not_not.2 n2), if_neg n3, if_neg (by rw [HS]; decide), if_pos (by rw [e2, e1]; decide), e2, e1]
    refine .pA ?_
    refine .pA ?_
    refine .pA ?_
    refine .pA ?_
    refine .sA (.pickT J J J) ?_
    refine .aN ?_
    refine .cond J (fun _ => ?_) (fun h => nomatch h)
    refine .sr (.aN ?_)
    refine .ret (rD J ?_)
    all_goals (rw [HR])
   refine .sG (.fieldAddr J YaX J) ?_
   refine .sG (.load J sc_3 J) ?_
   refine .sG (.call J (.cons (.rfl' J) (.cons (.rfl' J) (.cons (.rfl' J) .nil))) (Ybr _ _ _)) ?_
   refine .sG (.not J J) ?_
   refine .sA (.pickF J J J) ?_
   refine .aN ?_
   refine .cN J (fun h12 => ?_) fun h12 => ?_
   ·have e1 : (hldF b) k = 1 := by unfold hldF; rw [dif_pos hlt]; grind
    have e2 := Yab (f := (hldF b)) hk.2 (by rw [e1]; decide) _ hlt
    have HR : bksF b = 1 := by unfold bksF; rw [if_neg n1, if_neg (Decidable.not_not.2 n2), if_neg n3, if_neg (by rw [HS]; decide), if_pos (by rw [e2, e1]; decide), e2, e1]
    refine .sr (.aN ?_)
    refine .ret (rD J ?_)
    all_goals (rw [HR])
   have e0 : hldF b k = 0 := by unfold hldF; rw [dif_pos hlt]; grind
   refine .skip (.region (.sA (.add64 J J J) ?_))
   refine .mN ?_
   refine ⟨k + 1, ⟨by omega, Yag hk.2 e0⟩, (by dsimp only; omega), Sub.less ⟨U, U, U, U, trivial⟩ (fun _ h => h)⟩
  have n6 : ¬ (0 < k /\ 0 <= YaQ (b.held[k-1]'(by omega)) b.held[k]) := fun hh => by omega
  refine .pA ?_
  refine .pA ?_
  refine .pA ?_
  refine .pA ?_
  refine .pA ?_
  refine .pA ?_
  refine .pA ?_
  refine .pA ?_
  refine .pA ?_
  refine .sA (.pickF J J J) (.sA (.assignD J J) ?_)
  refine .nil ?_
  refine .cond J (fun h => nomatch h) (fun _ => ?_)
  refine .sr (.sA (.fieldAddr J Ybf J) ?_)
  refine .sA (.load J sc_3 J) (.sA (.fieldAddr J YaB J) (.sA (.load J sc_3 J) (.sA (.call J (.cons (.rfl' J) (.cons (.rfl' J) (.cons (.rfl' J) .nil))) (Ybr _ _ _)) (.sA (.not J J) ?_))))
  refine .mA ?_
  refine .sN 85 J (fun g13 => ?_) fun g13 => ?_
  ·have e1 : (hldF b) k = 1 := by unfold hldF; rw [dif_pos hlt]; grind
   have e2 := Yab (f := (hldF b)) hk.2 (by rw [e1]; decide) _ hlt
   have HR : bksF b = 1 := by unfold bksF; rw [if_neg n1, if_neg (Decidable.not_not.2 n2), if_neg n3, if_neg (by rw [HS]; decide), if_pos (by rw [e2, e1]; decide), e2, e1]
   refine .pA ?_
   refine .pA ?_
   refine .pA ?_
   refine .pA ?_
   refine .sA (.pickT J J J) ?_
   refine .aN ?_
   refine .cond J (fun _ => ?_) (fun h => nomatch h)
   refine .sr (.aN ?_)
   refine .ret (rD J ?_)
   all_goals (rw [HR])
  refine .sG (.fieldAddr J YaX J) ?_
  refine .sG (.load J sc_3 J) ?_
  refine .sG (.call J (.cons (.rfl' J) (.cons (.rfl' J) (.cons (.rfl' J) .nil))) (Ybr _ _ _)) ?_
  refine .sG (.not J J) ?_
  refine .sA (.pickF J J J) ?_
  refine .aN ?_
  refine .cN J (fun h14 => ?_) fun h14 => ?_
  ·have e1 : (hldF b) k = 1 := by unfold hldF; rw [dif_pos hlt]; grind
   have e2 := Yab (f := (hldF b)) hk.2 (by rw [e1]; decide) _ hlt
   have HR : bksF b = 1 := by unfold bksF; rw [if_neg n1, if_neg (Decidable.not_not.2 n2), if_neg n3, if_neg (by rw [HS]; decide), if_pos (by rw [e2, e1]; decide), e2, e1]
   refine .sr (.aN ?_)
   refine .ret (rD J ?_)
   all_goals (rw [HR])
  have e0 : hldF b k = 0 := by unfold hldF; rw [dif_pos hlt]; grind
  refine .skip (.region (.sA (.add64 J J J) ?_))
  refine .mN ?_
  refine ⟨k + 1, ⟨by omega, Yag hk.2 e0⟩, (by dsimp only; omega), Sub.less ⟨U, U, U, U, trivial⟩ (fun _ h => h)⟩
 rw [ZlM] at h7
 have HH : ffst (hldF b) b.held.length = 0 := by rw [show b.held.length = k by omega]; exact hk.2
 refine .exit (.seq (.sr (.sA (.fieldAddr J Ybv J) ?_)))
 refine .sA (.load J YaO J) (.sA (.lenSl J et_37.ht J) ?_)
 refine .mN ?_
 refine .block (.bound 93 J (fun hbd => ?_))
 rw [ZlM] at hbd
 refine .loop (G := Nat) (fun k => Env.of [(95, .iv k), (93, .d (.sl (b.bal.map intD))), (94, .iv (b.bal.map intD).length), (1, .d (.fp b.ds))]) (fun k => []) (fun k => k <= b.bal.length /\ ffst (balF b.bal) k = 0) (fun k => b.bal.length - k) 0 ⟨ZnZ _, J⟩ (Sub.less ⟨U, U, U, U, trivial⟩ (fun _ h => h)) ?_
 intro k hk
 refine .sr (.sA (.lss J J J) (.nil ?_))
 refine .seq (.cT J (fun h15 => ?_) fun h15 => ?_)
 ·rw [ZlM] at h15
  have hlt : k < b.bal.length := by omega
  refine .skip (.seq (.block (.sr (.sA (.indexAddr J et_37 J J k J (Yad hlt) J) ?_))))
  refine .sA (.load J sc_3 J) ?_
  refine .aN ?_
  refine .sr (.mA ?_)
  refine .sA (.call J (.cons (.rfl' J) (.cons (.rfl' J) (.cons (.rfl' J) .nil))) (Ybr _ _ _)) ?_
  refine .sA (.not J J) (.nil ?_)
  refine .cN J (fun h16 => ?_) fun h16 => ?_
  ·have n4 := h16
   have e1 : balF b.bal k = 1 := by unfold balF; rw [dif_pos hlt]; grind
   have e2 := Yab (f := balF b.bal) hk.2 (by rw [e1]; decide) _ hlt
   have HR : bksF b = 1 := by unfold bksF; rw [if_neg n1, if_neg (Decidable.not_not.2 n2), if_neg n3, if_neg (by rw [HS]; decide), if_neg (by rw [HH]; decide), e2, e1]
   refine .sr (.aN ?_)
   refine .ret (rD J ?_)
   all_goals (rw [HR])
  have n4 := h16
  have e0 : balF b.bal k = 0 := by unfold balF; rw [dif_pos hlt]; grind
  refine .skip (.region (.sA (.add64 J J J) ?_))
  refine .mN ?_
  refine ⟨k + 1, ⟨by omega, Yag hk.2 e0⟩, (by dsimp only; omega), Sub.less ⟨U, U, U, U, trivial⟩ (fun _ h => h)⟩
 rw [ZlM] at h15
 have HR : bksF b = 0 := by unfold bksF; rw [if_neg n1, if_neg (Decidable.not_not.2 n2), if_neg n3, if_neg (by rw [HS]; decide), if_neg (by rw [HH]; decide), show b.bal.length = k by omega]; exact hk.2
 refine .exit (.sr (.aN ?_))
 refine .ret (rD J ?_)
 all_goals (rw [HR])
theorem c_clAli (l : List Ali) (hl : l.length <= 1000000) : OCall Tryz.prog 93 [.sl (l.map Ali.ds)] 122 3 (l.map Ali.ds) := by
 refine Yct (n := 8) Tryz.func93 J (by kernel_rfl) J 2 J J ?_
 intro B w0 F0 fr
 refine (Classical.em (l = [])).elim (fun hn => ?_) (fun hn => ?_)
 subst hn
 refine .nilOr 0 J ?_ (fun ad cap hcap => ?_)
 ·skip
  refine .sr (.aN ?_)
  refine .seq (.sr (.mA ?_))
  refine .sA (.eqNilV J Tryz.underlying32 J J) (.nil ?_)
  refine .cond J (fun _ => ?_) (fun h => nomatch h)
  refine .sr (.aN ?_)
  refine .adopt 2 51 122 3 J J ?_
  refine .ret ?_
  refine ⟨51, J, Yam (.head _) ?_⟩
  first | rfl | simp
 ·skip
  refine .sr (.aN ?_)
  refine .seq (.sr (.mA ?_))
  refine .sA (.eqNilV J Tryz.underlying32 J J) (.nil ?_)
  refine .cond J (fun h => nomatch h) (fun _ => ?_)
  refine .skip (.sr (.build0 102 J J J J et_32 J ?_))
  refine .mA ?_
  refine .le 6 J (SLe.d (Le.empty hcap)) ?_
  -- append 7
  refine .append rfl rfl rfl rfl et_32 rfl (.head _) rfl (fun y hy => by first | exact absurd hy List.not_mem_nil | (obtain ⟨x, _, rfl⟩ := ZmM.1 hy; rfl)) (by simp; try omega) (by simp; try omega) ?_
  refine .sA (.assignO J J) (.nil ?_)
  refine .ret ?_
  refine ⟨102, J, Yam (.head _) ?_⟩
  first | rfl | simp
 refine .sr (.aN ?_)
 refine .seq (.sr (.mA ?_))
 refine .sA (.eqNilS J Tryz.underlying32 J J (fun h => hn (List.map_eq_nil_iff.1 h))) (.nil ?_)
 refine .cond J (fun h => nomatch h) (fun _ => ?_)
 refine .skip (.sr (.build0 103 J J J J et_32 J ?_))
 refine .mA ?_
 -- append 7
 refine .append rfl rfl rfl rfl et_32 rfl (.head _) rfl (fun y hy => by first | exact absurd hy List.not_mem_nil | (obtain ⟨x, _, rfl⟩ := ZmM.1 hy; rfl)) (by simp; try omega) (by simp; try omega) ?_
 refine .sA (.assignO J J) (.nil ?_)
 refine .ret ?_
 refine ⟨103, J, Yam (.head _) ?_⟩
 first | rfl | simp
theorem c_clDeal (l : List Deal) (hl : l.length <= 1000000) : OCall Tryz.prog 94 [.sl (l.map Deal.ds)] 63 9 (l.map Deal.ds) := by
 refine Yct (n := 8) Tryz.func94 J (by kernel_rfl) J 2 J J ?_
 intro B w0 F0 fr
 refine (Classical.em (l = [])).elim (fun hn => ?_) (fun hn => ?_)
 subst hn
 refine .nilOr 0 J ?_ (fun ad cap hcap => ?_)
 ·skip
  refine .sr (.aN ?_)
  refine .seq (.sr (.mA ?_))
  refine .sA (.eqNilV J Tryz.underlying33 J J) (.nil ?_)
  refine .cond J (fun _ => ?_) (fun h => nomatch h)
  refine .sr (.aN ?_)
  refine .adopt 2 51 63 9 J J ?_
  refine .ret ?_
  refine ⟨51, J, Yam (.head _) ?_⟩
  first | rfl | simp
 ·skip
  refine .sr (.aN ?_)
  refine .seq (.sr (.mA ?_))
  refine .sA (.eqNilV J Tryz.underlying33 J J) (.nil ?_)
  refine .cond J (fun h => nomatch h) (fun _ => ?_)
  refine .skip (.sr (.build0 102 J J J J et_33 J ?_))
  refine .mA ?_
  refine .le 6 J (SLe.d (Le.empty hcap)) ?_
  -- append 7
  refine .append rfl rfl rfl rfl et_33 rfl (.head _) rfl (fun y hy => by first | exact absurd hy List.not_mem_nil | (obtain ⟨x, _, rfl⟩ := ZmM.1 hy; rfl)) (by simp; try omega) (by simp; try omega) ?_
  refine .sA (.assignO J J) (.nil ?_)
  refine .ret ?_
  refine ⟨102, J, Yam (.head _) ?_⟩
  first | rfl | simp
 refine .sr (.aN ?_)
 refine .seq (.sr (.mA ?_))
 refine .sA (.eqNilS J Tryz.underlying33 J J (fun h => hn (List.map_eq_nil_iff.1 h))) (.nil ?_)
 refine .cond J (fun h => nomatch h) (fun _ => ?_)
 refine .skip (.sr (.build0 103 J J J J et_33 J ?_))
 refine .mA ?_
 -- append 7
 refine .append rfl rfl rfl rfl et_33 rfl (.head _) rfl (fun y hy => by first | exact absurd hy List.not_mem_nil | (obtain ⟨x, _, rfl⟩ := ZmM.1 hy; rfl)) (by simp; try omega) (by simp; try omega) ?_
 refine .sA (.assignO J J) (.nil ?_)
 refine .ret ?_
 refine ⟨103, J, Yam (.head _) ?_⟩
 first | rfl | simp
theorem c_clGrp (l : List Grp) (hl : l.length <= 1000000) : OCall Tryz.prog 95 [.sl (l.map Grp.ds)] 128 3 (l.map Grp.ds) := by
 refine Yct (n := 8) Tryz.func95 J (by kernel_rfl) J 2 J J ?_
 intro B w0 F0 fr
 refine (Classical.em (l = [])).elim (fun hn => ?_) (fun hn => ?_)
 subst hn
 refine .nilOr 0 J ?_ (fun ad cap hcap => ?_)
 ·skip
  refine .sr (.aN ?_)
  refine .seq (.sr (.mA ?_))
  refine .sA (.eqNilV J Tryz.underlying34 J J) (.nil ?_)
  refine .cond J (fun _ => ?_) (fun h => nomatch h)
  refine .sr (.aN ?_)
  refine .adopt 2 51 128 3 J J ?_
  refine .ret ?_
  refine ⟨51, J, Yam (.head _) ?_⟩
  first | rfl | simp
 ·skip
  refine .sr (.aN ?_)
  refine .seq (.sr (.mA ?_))
  refine .sA (.eqNilV J Tryz.underlying34 J J) (.nil ?_)
  refine .cond J (fun h => nomatch h) (fun _ => ?_)
  refine .skip (.sr (.build0 102 J J J J et_34 J ?_))
  refine .mA ?_
  refine .le 6 J (SLe.d (Le.empty hcap)) ?_
  -- append 7
  refine .append rfl rfl rfl rfl et_34 rfl (.head _) rfl (fun y hy => by first | exact absurd hy List.not_mem_nil | (obtain ⟨x, _, rfl⟩ := ZmM.1 hy; rfl)) (by simp; try omega) (by simp; try omega) ?_
  refine .sA (.assignO J J) (.nil ?_)
  refine .ret ?_
  refine ⟨102, J, Yam (.head _) ?_⟩
  first | rfl | simp
 refine .sr (.aN ?_)
 refine .seq (.sr (.mA ?_))
 refine .sA (.eqNilS J Tryz.underlying34 J J (fun h => hn (List.map_eq_nil_iff.1 h))) (.nil ?_)
 refine .cond J (fun h => nomatch h) (fun _ => ?_)
 refine .skip (.sr (.build0 103 J J J J et_34 J ?_))
 refine .mA ?_
 -- append 7
 refine .append rfl rfl rfl rfl et_34 rfl (.head _) rfl (fun y hy => by first | exact absurd hy List.not_mem_nil | (obtain ⟨x, _, rfl⟩ := ZmM.1 hy; rfl)) (by simp; try omega) (by simp; try omega) ?_
 refine .sA (.assignO J J) (.nil ?_)
 refine .ret ?_
 refine ⟨103, J, Yam (.head _) ?_⟩
 first | rfl | simp
theorem c_clInt (l : List Int) (hl : l.length <= 1000000) : OCall Tryz.prog 43 [.sl (l.map intD)] 3 1 (l.map intD) := by
 refine Yct (n := 8) Tryz.func43 J (by kernel_rfl) J 2 J J ?_
 intro B w0 F0 fr
 refine (Classical.em (l = [])).elim (fun hn => ?_) (fun hn => ?_)
 subst hn
 refine .nilOr 0 J ?_ (fun ad cap hcap => ?_)
 ·skip
  refine .sr (.aN ?_)
  refine .seq (.sr (.mA ?_))
  refine .sA (.eqNilV J Tryz.underlying37 J J) (.nil ?_)
  refine .cond J (fun _ => ?_) (fun h => nomatch h)
  refine .sr (.aN ?_)
  refine .adopt 2 51 3 1 J J ?_
  refine .ret ?_
  refine ⟨51, J, Yam (.head _) ?_⟩
  first | rfl | simp
 ·skip
  refine .sr (.aN ?_)
  refine .seq (.sr (.mA ?_))
  refine .sA (.eqNilV J Tryz.underlying37 J J) (.nil ?_)
  refine .cond J (fun h => nomatch h) (fun _ => ?_)
  refine .skip (.sr (.build0 102 J J J J et_37 J ?_))
  refine .mA ?_
  refine .le 6 J (SLe.d (Le.empty hcap)) ?_
  -- append 7
  refine .append rfl rfl rfl rfl et_37 rfl (.head _) rfl (fun y hy => by first | exact absurd hy List.not_mem_nil | (obtain ⟨x, _, rfl⟩ := ZmM.1 hy; rfl)) (by simp; try omega) (by simp; try omega) ?_
  refine .sA (.assignO J J) (.nil ?_)
  refine .ret ?_
  refine ⟨102, J, Yam (.head _) ?_⟩
  first | rfl | simp
 refine .sr (.aN ?_)
 refine .seq (.sr (.mA ?_))
 refine .sA (.eqNilS J Tryz.underlying37 J J (fun h => hn (List.map_eq_nil_iff.1 h))) (.nil ?_)
 refine .cond J (fun h => nomatch h) (fun _ => ?_)
 refine .skip (.sr (.build0 103 J J J J et_37 J ?_))
 refine .mA ?_
 -- append 7
 refine .append rfl rfl rfl rfl et_37 rfl (.head _) rfl (fun y hy => by first | exact absurd hy List.not_mem_nil | (obtain ⟨x, _, rfl⟩ := ZmM.1 hy; rfl)) (by simp; try omega) (by simp; try omega) ?_
 refine .sA (.assignO J J) (.nil ?_)
 refine .ret ?_
 refine ⟨103, J, Yam (.head _) ?_⟩
 first | rfl | simp
theorem c_clTr (l : List Tr) (hl : l.length <= 1000000) : OCall Tryz.prog 96 [.sl (l.map Tr.ds)] 125 2 (l.map Tr.ds) := by
 refine Yct (n := 8) Tryz.func96 J (by kernel_rfl) J 2 J J ?_
 intro B w0 F0 fr
 refine (Classical.em (l = [])).elim (fun hn => ?_) (fun hn => ?_)
 subst hn
 refine .nilOr 0 J ?_ (fun ad cap hcap => ?_)
 ·skip
  refine .sr (.aN ?_)
  refine .seq (.sr (.mA ?_))
  refine .sA (.eqNilV J Tryz.underlying61 J J) (.nil ?_)
  refine .cond J (fun _ => ?_) (fun h => nomatch h)
  refine .sr (.aN ?_)
  refine .adopt 2 51 125 2 J J ?_
  refine .ret ?_
  refine ⟨51, J, Yam (.head _) ?_⟩
  first | rfl | simp
 ·skip
  refine .sr (.aN ?_)
  refine .seq (.sr (.mA ?_))
  refine .sA (.eqNilV J Tryz.underlying61 J J) (.nil ?_)
  refine .cond J (fun h => nomatch h) (fun _ => ?_)
  refine .skip (.sr (.build0 102 J J J J et_61 J ?_))
  refine .mA ?_
  refine .le 6 J (SLe.d (Le.empty hcap)) ?_
  -- append 7
  refine .append rfl rfl rfl rfl et_61 rfl (.head _) rfl (fun y hy => by first | exact absurd hy List.not_mem_nil | (obtain ⟨x, _, rfl⟩ := ZmM.1 hy; rfl)) (by simp; try omega) (by simp; try omega) ?_
  refine .sA (.assignO J J) (.nil ?_)
  refine .ret ?_
  refine ⟨102, J, Yam (.head _) ?_⟩
  first | rfl | simp
 refine .sr (.aN ?_)
 refine .seq (.sr (.mA ?_))
 refine .sA (.eqNilS J Tryz.underlying61 J J (fun h => hn (List.map_eq_nil_iff.1 h))) (.nil ?_)
 refine .cond J (fun h => nomatch h) (fun _ => ?_)
 refine .skip (.sr (.build0 103 J J J J et_61 J ?_))
 refine .mA ?_
 -- append 7
 refine .append rfl rfl rfl rfl et_61 rfl (.head _) rfl (fun y hy => by first | exact absurd hy List.not_mem_nil | (obtain ⟨x, _, rfl⟩ := ZmM.1 hy; rfl)) (by simp; try omega) (by simp; try omega) ?_
 refine .sA (.assignO J J) (.nil ?_)
 refine .ret ?_
 refine ⟨103, J, Yam (.head _) ?_⟩
 first | rfl | simp
theorem c_clStk (l : List Stk) (hl : l.length <= 1000000) : OCall Tryz.prog 97 [.sl (l.map Stk.ds)] 131 2 (l.map Stk.ds) := by
 refine Yct (n := 8) Tryz.func97 J (by kernel_rfl) J 2 J J ?_
 intro B w0 F0 fr
 refine (Classical.em (l = [])).elim (fun hn => ?_) (fun hn => ?_)
 subst hn
 refine .nilOr 0 J ?_ (fun ad cap hcap => ?_)
 ·skip
  refine .sr (.aN ?_)
  refine .seq (.sr (.mA ?_))
  refine .sA (.eqNilV J Tryz.underlying126 J J) (.nil ?_)
  refine .cond J (fun _ => ?_) (fun h => nomatch h)
  refine .sr (.aN ?_)
  refine .adopt 2 51 131 2 J J ?_
  refine .ret ?_
  refine ⟨51, J, Yam (.head _) ?_⟩
  first | rfl | simp
 ·skip
  refine .sr (.aN ?_)
  refine .seq (.sr (.mA ?_))
  refine .sA (.eqNilV J Tryz.underlying126 J J) (.nil ?_)
  refine .cond J (fun h => nomatch h) (fun _ => ?_)
  refine .skip (.sr (.build0 102 J J J J et_126 J ?_))
  refine .mA ?_
  refine .le 6 J (SLe.d (Le.empty hcap)) ?_
  -- append 7
  refine .append rfl rfl rfl rfl et_126 rfl (.head _) rfl (fun y hy => by first | exact absurd hy List.not_mem_nil | (obtain ⟨x, _, rfl⟩ := ZmM.1 hy; rfl)) (by simp; try omega) (by simp; try omega) ?_
  refine .sA (.assignO J J) (.nil ?_)
  refine .ret ?_
  refine ⟨102, J, Yam (.head _) ?_⟩
  first | rfl | simp
 refine .sr (.aN ?_)
 refine .seq (.sr (.mA ?_))
 refine .sA (.eqNilS J Tryz.underlying126 J J (fun h => hn (List.map_eq_nil_iff.1 h))) (.nil ?_)
 refine .cond J (fun h => nomatch h) (fun _ => ?_)
 refine .skip (.sr (.build0 103 J J J J et_126 J ?_))
 refine .mA ?_
 -- append 7
 refine .append rfl rfl rfl rfl et_126 rfl (.head _) rfl (fun y hy => by first | exact absurd hy List.not_mem_nil | (obtain ⟨x, _, rfl⟩ := ZmM.1 hy; rfl)) (by simp; try omega) (by simp; try omega) ?_
 refine .sA (.assignO J J) (.nil ?_)
 refine .ret ?_
 refine ⟨103, J, Yam (.head _) ?_⟩
 first | rfl | simp
namespace Ty
theorem sz_126 : ∀ w, (sizeOf 126).run Tryz.prog w = .ok 1 w := SizeT.of (by kernel_rfl)
theorem sz_32 : ∀ w, (sizeOf 32).run Tryz.prog w = .ok 1 w := SizeT.of (by kernel_rfl)
theorem sz_33 : ∀ w, (sizeOf 33).run Tryz.prog w = .ok 1 w := SizeT.of (by kernel_rfl)
theorem sz_34 : ∀ w, (sizeOf 34).run Tryz.prog w = .ok 1 w := SizeT.of (by kernel_rfl)
theorem sz_36 : ∀ w, (sizeOf 36).run Tryz.prog w = .ok 3 w := SizeT.of (by kernel_rfl)
theorem sz_37 : ∀ w, (sizeOf 37).run Tryz.prog w = .ok 1 w := SizeT.of (by kernel_rfl)
theorem sz_61 : ∀ w, (sizeOf 61).run Tryz.prog w = .ok 1 w := SizeT.of (by kernel_rfl)
theorem zt_36 : (Tryz.prog.info? 36).bind (·.zero) = some (.agg #[(.slice none 0 0), (.slice none 0 0), (.slice none 0 0)]) := by kernel_rfl
end Ty
theorem obs4 {i e s : Nat} {els els' : List (List D)} {x y z : Nat × Ob} {τ : Obs} (h : els = els') : ∀ p ∈ [(i, Ob.row e s els'), x, y, z], p ∈ (i, Ob.row e s els) :: x :: y :: z :: τ := fun p hp => by
 subst h
 simp only [List.mem_cons, List.not_mem_nil, or_false] at hp ⊢
 rcases hp with h | h | h | h
 ·exact .inl h
 ·exact .inr (.inl h)
 ·exact .inr (.inr (.inl h))
 ·exact .inr (.inr (.inr (.inl h)))
theorem obs4b {i e s : Nat} {els els' : List (List D)} {x y z : Nat × Ob} {τ : Obs} (h : els = els') : ∀ p ∈ [x, (i, Ob.row e s els'), y, z], p ∈ x :: (i, Ob.row e s els) :: y :: z :: τ := fun p hp => by
 subst h
 simp only [List.mem_cons, List.not_mem_nil, or_false] at hp ⊢
 rcases hp with h | h | h | h
 ·exact .inl h
 ·exact .inr (.inl h)
 ·exact .inr (.inr (.inl h))
 ·exact .inr (.inr (.inr (.inl h)))
theorem set_set_back {α : Type} {l : List α} {f : α -> List D} {k : Nat} {X Y : List D} (hk : k < l.length) (hY : Y = f l[k]) : ((l.map f).set k X).set k Y = l.map f := by
 subst hY
 rw [List.set_set]
 apply List.ext_getElem
 ·simp
 ·intro i h1 h2
  rw [List.getElem_set]
  by_cases h : k = i
  ·subst h; simp
  ·rw [if_neg h]
theorem set_back {α : Type} {l : List α} {f : α -> List D} {k : Nat} {Y : List D} (hk : k < l.length) (hY : Y = f l[k]) : (l.map f).set k Y = l.map f := by
 subst hY
 apply List.ext_getElem
 ·simp
 ·intro i h1 h2
  rw [List.getElem_set]
  by_cases h : k = i
  ·subst h; simp
  ·rw [if_neg h]
structure COk (c : Ctr) : Prop where
 als : c.als.length <= 1000000
 deals : c.deals.length <= 1000000
 groups : c.groups.length <= 1000000
 recs : ∀ d ∈ c.deals, d.recs.length <= 1000000 /\ d.tiers.length <= 1000000
 cut : ∀ g ∈ c.groups, g.cut.length <= 1000000
theorem tiers_len {l : List Tr} (h : YaW l = 0) : l.length <= 10 := by
 unfold YaW at h
 split at h
 ·omega
 ·split at h
  ·omega
  ·omega
theorem deal0_ok {c : Ctr} {d : Deal} (h : Yas c d = 0) : d.recs.length <= 100 /\ d.tiers.length <= 10 := by
 unfold Yas at h
 split at h
 ·omega
 ·split at h
  ·omega
  ·split at h
   ·omega
   ·split at h
    ·omega
    ·split at h
     ·omega
     ·rename_i h1 h2 h3 h4 h5
      exact ⟨by omega, tiers_len (by omega)⟩
theorem grp0_ok {g : Grp} (h : Ybq g = 0) : g.cut.length <= 20 := by
 unfold Ybq at h
 split at h
 ·omega
 ·split at h
  ·omega
  ·split at h
   ·omega
   ·omega
theorem ctr_ok {c : Ctr} (h : ctrF c = 0) : COk c := by
 unfold ctrF at h
 split at h
 ·omega
 rename_i ha
 split at h
 ·omega
 rename_i hl
 split at h
 ·omega
 rename_i hg
 have hal : c.als.length <= 500 := by
  have h0 : Yb5 c.als = 0 := by omega
  unfold Yb5 at h0
  split at h0 <;> omega
 refine ⟨by omega, by omega, by omega, fun d hd => ?_, fun g hgm => ?_⟩
 ·obtain ⟨k, hk, rfl⟩ := List.getElem_of_mem hd
  have h1 := Ya2 (f := Ybp c) _ h k hk
  unfold Ybp at h1
  rw [dif_pos hk] at h1
  split at h1
  ·omega
  ·split at h1
   ·omega
   ·have := deal0_ok h1; omega
 ·obtain ⟨k, hk, rfl⟩ := List.getElem_of_mem hgm
  have h1 := Ya2 (f := grpF c.groups) c.groups.length (by omega) k hk
  unfold grpF at h1
  rw [dif_pos hk] at h1
  split at h1
  ·omega
  ·split at h1
   ·omega
   ·have := grp0_ok h1; omega
theorem c_ownCtr (c : Ctr) (ok : COk c) : Yaq Tryz.prog 42 [.agg c.ds] (.agg c.ds) := by
 refine acall_ofR (n := 65) (ds' := [.agg c.ds]) Tryz.func42 J (by kernel_rfl) J [.cell 2 36] J J ?_
 intro B w0 F0 fr
 refine .sr (.boxOwn 101 J J J J J J J ?_)
 refine .alloc 102 J J J J zt_36 J J J (.nil ?_)
 refine .seq (.drawFresh 10 [⟨11, 103, .own 103, .row 63 9 (c.deals.map Deal.ds)⟩, ⟨14, 104, .own 104, .row 128 3 (c.groups.map Grp.ds)⟩] (FrOk.two rfl (by simp) rfl rfl rfl rfl (by simp) rfl rfl rfl (ZnE rfl) (ZnE rfl) rfl rfl rfl rfl) (by kernel_rfl) (by kernel_rfl) (by kernel_rfl) (by kernel_rfl) ?_)
 refine .step J J J (.fieldAddrP J Yck J) ?_
 refine .step J J J (.loadP J sc_32 J (.tail _ (.head _)) J) ?_
 refine .step J J J (.call J (.cons (.rfl' J) .nil) (c_clAli c.als ok.als).toA) ?_
 refine .step J J J (.fieldAddrP J YaE J) ?_
 refine .step J J J (.loadP J YbI J (.tail _ (.head _)) J) ?_
 refine .callO _ (.head _) J J J J J (.cons (.rfl' J) .nil) (c_clDeal c.deals ok.deals) J J ?_
 refine .step J J J (.fieldAddrP J YaP J) ?_
 refine .step J J J (.loadP J Yce J (.tail _ (.head _)) J) ?_
 refine .callO _ (.tail _ (.head _)) J J J J J (.cons (.rfl' J) .nil) (c_clGrp c.groups ok.groups) J J ?_
 refine .step J J J (.fieldAddrP J Yck J) ?_
 refine .nil ⟨J, J, trivial⟩ ?_
 refine .store J J J sz_32 J (.tail _ (.tail _ (.tail _ (.head _)))) J J J (ZnB J) ?_
 refine .sA (.fieldAddrP J YaE J) ?_
 refine .storeS J J J sz_33 J (.tail _ (.tail _ (.tail _ (.head _)))) J (.head _) (ZnB J) ?_
 refine .sA (.fieldAddrP J YaP J) ?_
 refine .storeS J J J sz_34 J (.tail _ (.tail _ (.tail _ (.head _)))) J (.tail _ (.head _)) (ZnB J) (.nil ?_)
 refine .seq (.sr (.sA (.fieldAddrP J YaE J) ?_))
 refine .sA (.loadP J YbI J (.tail _ (.tail _ (.tail _ (.head _)))) J) (.sA (.lenOwn J et_33.ht J (.head _)) ?_)
 refine .mN ?_
 refine .block ?_
 have okd := ok.deals
 refine .loop (G := Nat) (fun k => Env.of [(21, .iv k), (20, .iv (c.deals.map Deal.ds).length), (1, .ptr 101 0), (2, .ptr 102 0)]) (fun k => [(103, .row 63 9 (c.deals.map Deal.ds)), (104, .row 128 3 (c.groups.map Grp.ds)), (102, .cells [.d (.v (.slice none 0 0)), .d (.v (.slice none 0 0)), .d (.v (.slice none 0 0))]), (101, .cells [.d (.sl (c.als.map Ali.ds)), .own 103, .own 104])]) (fun k => k <= c.deals.length) (fun k => c.deals.length - k) 0 (ZnZ _) (Sub.less ⟨U, U, U, U, trivial⟩ (fun _ h => h)) ?_
 intro k hk
 refine .sr (.sA (.lss J J J) (.nil ?_))
 refine .seq (.cT J (fun h1 => ?_) fun h1 => ?_)
 ·rw [ZlM] at h1
  have hlt : k < c.deals.length := by omega
  have hdk := ok.recs _ (ZgM hlt)
  refine .skip (.seq (.block (.sr (.mA ?_))))
  refine .aN ?_
  refine .sr (.sA (.fieldAddrP J YaE J) ?_)
  refine .sA (.loadP J YbI J (.tail _ (.tail _ (.tail _ (.head _)))) J) ?_
  refine .mA ?_
  refine .sA (.indexOwn J et_33 J J (.head _) k J (by rw [ZlM]; exact hlt)) ?_
  refine .sA (.assignP J J) (.nil ?_)
  refine .drawG (fun k => (Nat.beq k 14 || Nat.beq k 17) || (Nat.beq k 5 || Nat.beq k 10)) (fun k => Nat.beq k 14 || Nat.beq k 17) (fun k h => ZbO.2 (.inl h)) (by kernel_rfl) (by kernel_rfl) (by kernel_rfl) ?_
  refine .step J J J (fun _ => AOp.moveP J J) ?_
  refine .step J J J (fun _ => AOp.moveP J J) ?_
  refine .step J J J (fun _ => AOp.moveP J J) ?_
  refine .step J J J (fun _ => AOp.nilCheckP J J) ?_
  refine .step J J J (fun _ => AOp.fieldAddrP J Ybm J) ?_
  refine .stepS J J J J (.loadRow J YaO J (.head _) k 4 J (Yad hlt) J) ?_
  refine .step J J J (fun _ => AOp.call J (.cons (.rfl' J) .nil) (c_clInt _ hdk.1).toA) ?_
  refine .step J J J (fun _ => AOp.moveP J J) ?_
  refine .step J J J (fun _ => AOp.nilCheckP J J) ?_
  refine .step J J J (fun _ => AOp.fieldAddrP J Yci J) ?_
  refine .stepS J J J J (.loadRow J sc_61 J (.head _) k 5 J (Yad hlt) J) ?_
  refine .step J J J (fun _ => AOp.call J (.cons (.rfl' J) .nil) (c_clTr _ hdk.2).toA) ?_
  refine .step J J J (fun _ => AOp.nilCheckP J J) ?_
  refine .step J J J (fun _ => AOp.fieldAddrP J Ybm J) ?_
  refine .eff J J J (.storeRow J J sz_37 J (.head _) J J J k 4 J (Yad hlt) (ZnB J)) ?_
  refine .step J J J (fun _ => AOp.nilCheckP J J) ?_
  refine .step J J J (fun _ => AOp.fieldAddrP J Yci J) ?_
  refine .eff J J J (.storeRow J J sz_61 J (.head _) J J J k 5 J (List.getElem?_set_self (by rw [ZlM]; exact hlt)) (ZnB J)) ?_
  refine .nil ?_
  refine .region (.sA (.add64 J J J) ?_)
  refine .mN ?_
  refine ⟨k + 1, (by omega), (by dsimp only; omega), Sub.less ⟨U, U, U, U, trivial⟩ (obs4 (set_set_back hlt rfl))⟩
 refine .exit (.seq (.sr (.sA (.fieldAddrP J YaP J) ?_)))
 refine .sA (.loadP J Yce J (.tail _ (.tail _ (.tail _ (.head _)))) J) (.sA (.lenOwn J et_34.ht J (.tail _ (.head _))) ?_)
 refine .mN ?_
 refine .block ?_
 have okg := ok.groups
 refine .loop (G := Nat) (fun k => Env.of [(48, .iv k), (47, .iv (c.groups.map Grp.ds).length), (1, .ptr 101 0), (2, .ptr 102 0)]) (fun k => [(103, .row 63 9 (c.deals.map Deal.ds)), (104, .row 128 3 (c.groups.map Grp.ds)), (102, .cells [.d (.v (.slice none 0 0)), .d (.v (.slice none 0 0)), .d (.v (.slice none 0 0))]), (101, .cells [.d (.sl (c.als.map Ali.ds)), .own 103, .own 104])]) (fun k => k <= c.groups.length) (fun k => c.groups.length - k) 0 (ZnZ _) (Sub.less ⟨U, U, U, U, trivial⟩ (fun _ h => h)) ?_
 intro k hk
 refine .sr (.sA (.lss J J J) (.nil ?_))
 refine .seq (.cT J (fun h2 => ?_) fun h2 => ?_)
 ·rw [ZlM] at h2
  have hlt : k < c.groups.length := by omega
  have hgk := ok.cut _ (ZgM hlt)
  refine .skip (.seq (.block (.sr (.mA ?_))))
  refine .aN ?_
  refine .drawG (fun k => (Nat.beq k 12) || (Nat.beq k 1 || Nat.beq k 4 || Nat.beq k 6 || Nat.beq k 8 || Nat.beq k 10)) (fun k => Nat.beq k 12) (fun k h => ZbO.2 (.inl h)) (by kernel_rfl) (by kernel_rfl) (by kernel_rfl) ?_
  refine .step J J J (fun _ => AOp.fieldAddrP J YaP J) ?_
  refine .stepS J J J J (.loadP J Yce J (.tail _ (.tail _ (.tail _ (.head _)))) J) ?_
  refine .step J J J (fun _ => AOp.moveD J J) ?_
  refine .step J J J (fun _ => AOp.fieldAddrP J YaP J) ?_
  refine .stepS J J J J (.loadP J Yce J (.tail _ (.tail _ (.tail _ (.head _)))) J) ?_
  refine .step J J J (fun _ => AOp.moveD J J) ?_
  refine .stepS J J J J (.indexOwn J et_34 J J (.tail _ (.head _)) k J (by rw [ZlM]; exact hlt)) ?_
  refine .step J J J (fun _ => AOp.fieldAddrP J YaT J) ?_
  refine .stepS J J J J (.loadRow J YbV J (.tail _ (.head _)) k 2 J (Yad hlt) J) ?_
  refine .step J J J (fun _ => AOp.call J (.cons (.rfl' J) .nil) (c_clStk _ hgk).toA) ?_
  refine .stepS J J J J (.indexOwn J et_34 J J (.tail _ (.head _)) k J (by rw [ZlM]; exact hlt)) ?_
  refine .step J J J (fun _ => AOp.fieldAddrP J YaT J) ?_
  refine .eff J J J (.storeRow J J sz_126 J (.tail _ (.head _)) J J J k 2 J (Yad hlt) (ZnB J)) ?_
  refine .nil ?_
  refine .region (.sA (.add64 J J J) ?_)
  refine .mN ?_
  refine ⟨k + 1, (by omega), (by dsimp only; omega), Sub.less ⟨U, U, U, U, trivial⟩ (obs4b (set_back hlt rfl))⟩
 refine .exit (.seq (.freezeIn 101 1 J (.tail _ (.tail _ (.head _))) (.head _) ?_))
 refine .freezeIn 101 2 J (.tail _ (.head _)) (.head _) ?_
 refine .region (.sA (.loadPU J ag_36 J (.tail _ (.head _)) J J) ?_)
 refine .store J J J sz_36 J (.head _) J J J (ZnB J) (.nil ?_)
 refine .ret ?_
 refine ⟨RetR.agg J (.head _) ag_36 J (.c0 (.c0 (.c0 .nil))), trivial⟩
 all_goals (rfl)
open Go.Sort Go.Lib
structure Pd where
 party : ByteArray
 cents : Int
deriving DecidableEq
structure Rw where
 deal : ByteArray
 earned : Int
 withheld : Int
 released : Int
 advance : Int
deriving DecidableEq
structure Stm where
 period : Int
 group : ByteArray
 rows : List Rw
 opening : Int
 paid : Int
 parts : List Pd
 closing : Int
def Pd.ds (p : Pd) : List D := [.v (.string p.party), .v (.int .i64 p.cents)]
def Rw.ds (r : Rw) : List D := [.v (.string r.deal), .v (.int .i64 r.earned), .v (.int .i64 r.withheld), .v (.int .i64 r.released), .v (.int .i64 r.advance)]
def Stm.ds (s : Stm) : List D := [.v (.int .i64 s.period), .v (.string s.group), .sl (s.rows.map Rw.ds), .v (.int .i64 s.opening), .v (.int .i64 s.paid), .sl (s.parts.map Pd.ds), .v (.int .i64 s.closing)]
def zTr : Tr := ⟨0, 0⟩
def endA (l : List Tr) (m : Int) (i : Nat) : Int := if i + 1 < l.length then min m (l.getD (i + 1) zTr).frm else m
def ernT (l : List Tr) (m : Int) (i : Nat) : Int := max 0 (endA l m i - (l.getD i zTr).frm) * (l.getD i zTr).rate
def ernS (l : List Tr) (m : Int) : Nat -> Int
 | 0 => 0
 | k + 1 => ernS l m k + ernT l m k
def ernV (l : List Tr) (m : Int) : Int := ernS l m l.length / 10000
structure TrsOk (l : List Tr) : Prop where
 len : 0 < l.length /\ l.length <= 10
 rng : ∀ t ∈ l, (0 <= t.frm /\ t.frm <= 1000000000000) /\ 0 <= t.rate /\ t.rate <= 10000
 zero : (l.getD 0 zTr).frm = 0
 up : ∀ k, k + 1 < l.length -> (l.getD k zTr).frm < (l.getD (k + 1) zTr).frm
theorem trsOk {l : List Tr} (h : YaW l = 0) : TrsOk l := by
 unfold YaW at h
 split at h
 ·omega
 ·split at h
  ·omega
  ·rename_i h1 h2
   have ha := Ya2 _ h
   have hk : ∀ k (hk : k < l.length), ((0 <= l[k].frm /\ l[k].frm <= 1000000000000) /\ 0 <= l[k].rate /\ l[k].rate <= 10000) /\ (k = 0 -> l[k].frm = 0) /\ (0 < k -> (l[k-1]'(by omega)).frm < l[k].frm) := fun k hk => by
    have h3 := ha k hk
    unfold Yaw at h3
    rw [dif_pos hk] at h3
    split at h3
    ·omega
    ·rename_i h4
     split at h3
     ·omega
     ·split at h3
      ·omega
      ·refine ⟨Decidable.not_not.1 h4, fun e => ?_, fun e => ?_⟩
       ·rename_i h5 _
        exact Classical.byContradiction fun hh => h5 ⟨e, hh⟩
       ·rename_i h6
        exact Int.not_le.1 fun hh => h6 ⟨e, hh⟩
   refine ⟨by omega, fun t ht => ?_, ?_, fun k hk2 => ?_⟩
   ·obtain ⟨k, hkl, rfl⟩ := List.mem_iff_getElem.1 ht
    exact (hk k hkl).1
   ·rw [ZgD, ZgE (by omega)]
    exact (hk 0 (by omega)).2.1 J
   ·rw [ZgD, ZgD, ZgE (by omega), ZgE hk2]
    exact (hk (k + 1) hk2).2.2 (by omega)
theorem YbT {l : List Tr} {k : Nat} (h : k < l.length) : l.getD k zTr = l[k] := by rw [ZgD, ZgE h]; rfl
theorem ern_rng {l : List Tr} (ok : TrsOk l) {m : Int} (hm : 0 <= m /\ m <= 1000000000000) {i : Nat} (hi : i < l.length) : (0 <= max 0 (endA l m i - l[i].frm) /\ max 0 (endA l m i - l[i].frm) <= 1000000000000) /\ 0 <= ernT l m i /\ ernT l m i <= 10000000000000000 := by
 have h1 := ok.rng _ (ZgM hi)
 have h2 : endA l m i <= m := by unfold endA; split <;> omega
 have h3 : 0 <= max 0 (endA l m i - l[i].frm) /\ max 0 (endA l m i - l[i].frm) <= 1000000000000 := by omega
 refine ⟨h3, ?_, ?_⟩
 ·unfold ernT
  rw [YbT hi]
  exact Int.mul_nonneg h3.1 h1.2.1
 ·unfold ernT
  rw [YbT hi]
  have := Int.mul_le_mul h3.2 h1.2.2 h1.2.1 (by omega)
  omega
theorem ernS_rng {l : List Tr} (ok : TrsOk l) {m : Int} (hm : 0 <= m /\ m <= 1000000000000) : ∀ k, k <= l.length -> 0 <= ernS l m k /\ ernS l m k <= 10000000000000000 * (k : Int)
 | 0, _ => ⟨Int.le_refl _, Int.le_refl _⟩
 | k + 1, hk => by
  have ih := ernS_rng ok hm k (by omega)
  have h1 := (ern_rng ok hm (show k < l.length by omega)).2
  show 0 <= ernS l m k + ernT l m k /\ ernS l m k + ernT l m k <= _
  omega
theorem ern_sum {l : List Tr} (ok : TrsOk l) {m : Int} (hm : 0 <= m) : ∀ k, k < l.length -> ernS l m (k + 1) <= 10000 * max 0 (endA l m k)
 | 0, hk => by
  have h1 := ok.rng _ (ZgM hk)
  have h0 := ok.zero
  rw [YbT hk] at h0
  show 0 + ernT l m 0 <= _
  unfold ernT
  rw [YbT hk, h0]
  have : max 0 (endA l m 0 - 0) * l[0].rate <= max 0 (endA l m 0 - 0) * 10000 := Int.mul_le_mul_of_nonneg_left h1.2.2 (by omega)
  rw [Int.sub_zero] at *
  omega
 | k + 1, hk => by
  have ih := ern_sum ok hm k (by omega)
  have h1 := ok.rng _ (ZgM hk)
  have hu := ok.up k hk
  have e : endA l m k = min m (l.getD (k + 1) zTr).frm := if_pos hk
  rw [e] at ih
  rw [YbT hk] at ih
  show ernS l m (k + 1) + ernT l m (k + 1) <= _
  unfold ernT
  rw [YbT hk]
  have hen : endA l m (k + 1) <= m := by unfold endA; split <;> omega
  have h2 : max 0 (endA l m (k + 1) - l[k + 1].frm) * l[k + 1].rate <= max 0 (endA l m (k + 1) - l[k + 1].frm) * 10000 := Int.mul_le_mul_of_nonneg_left h1.2.2 (by omega)
  have he2 : ∀ h : k + 2 < l.length, endA l m (k + 1) = min m (l[k + 2]'h).frm := fun h => by unfold endA; rw [if_pos h, YbT h]
  have he3 : ¬ k + 2 < l.length -> endA l m (k + 1) = m := fun h => by unfold endA; rw [if_neg h]
  by_cases h3 : k + 2 < l.length
  ·have hu2 := ok.up (k + 1) h3
   rw [YbT hk, YbT h3] at hu2
   have := he2 h3
   omega
  ·have := he3 h3
   omega
theorem ernV_le {l : List Tr} (ok : TrsOk l) {m : Int} (hm : 0 <= m) (hm2 : m <= 1000000000000) : 0 <= ernV l m /\ ernV l m <= m := by
 have h1 := ernS_rng ok ⟨hm, hm2⟩ l.length (ZnR _)
 have hl := ok.len
 have h2 := ern_sum ok hm (l.length - 1) (by omega)
 rw [show l.length - 1 + 1 = l.length by omega] at h2
 have h3 : endA l m (l.length - 1) = m := by unfold endA; rw [if_neg (by omega)]
 rw [h3] at h2
 unfold ernV
 omega
def zSal : Sal := ⟨0, 0, 0, 0⟩
def covB (d : Deal) (p : Int) (s : Sal) : Bool := decide (d.frm <= s.per) && (decide (s.per < d.upto) && (decide (s.per <= p) && (decide (d.recs.length = 0) || decide (s.recd ∈ d.recs))))
def basS (d : Deal) (p : Int) (l : List Sal) : Nat -> Int
 | 0 => 0
 | k + 1 => basS d p l k + if covB d p (l.getD k zSal) = true then (l.getD k zSal).money else 0
def basV (d : Deal) (p : Int) (l : List Sal) : Int := basS d p l l.length
structure SalsOk (l : List Sal) : Prop where
 len : l.length <= 30000
 rng : ∀ s ∈ l, 0 <= s.money /\ s.money <= 30000000000000
theorem sal_get {l : List Sal} {k : Nat} (h : k < l.length) : l.getD k zSal = l[k] := by rw [ZgD, ZgE h]; rfl
theorem basS_next {d : Deal} {p : Int} {l : List Sal} {k : Nat} (h : k < l.length) : basS d p l (k + 1) = basS d p l k + if covB d p l[k] = true then l[k].money else 0 := by
 show basS d p l k + _ = _
 rw [sal_get h]
theorem Yca {d : Deal} {p : Int} {l : List Sal} (ok : SalsOk l) : ∀ k, k <= l.length -> 0 <= basS d p l k /\ basS d p l k <= 30000000000000 * (k : Int)
 | 0, _ => ⟨Int.le_refl _, Int.le_refl _⟩
 | k + 1, hk => by
  have ih := Yca (d := d) (p := p) ok k (by omega)
  have h1 := ok.rng _ (ZgM (show k < l.length by omega))
  rw [basS_next (by omega)]
  split <;> omega
theorem cov_y {d : Deal} {p : Int} {s : Sal} (h1 : d.frm <= s.per) (h2 : s.per < d.upto) (h3 : s.per <= p) (h4 : d.recs.length = 0 \/ s.recd ∈ d.recs) : covB d p s = true := by
 unfold covB
 rw [decide_eq_true h1, decide_eq_true h2, decide_eq_true h3]
 rcases h4 with h4 | h4
 ·rw [decide_eq_true h4]; rfl
 ·rw [decide_eq_true h4, Bool.or_true]; rfl
theorem cov_n {d : Deal} {p : Int} {s : Sal} (h : ¬ (d.frm <= s.per /\ s.per < d.upto /\ s.per <= p /\ (d.recs.length = 0 \/ s.recd ∈ d.recs))) : covB d p s = false := by
 cases hc : covB d p s with
 | false => rfl
 | true =>
  unfold covB at hc
  simp only [ZbA, Bool.or_eq_true, decide_eq_true_eq] at hc
  exact absurd hc h
open Go.Sort Go.Lib
instance : Inhabited Hld := ⟨⟨⟨#[]⟩, 0, 0⟩⟩
abbrev KH := ByteArray × Int
def Hld.key (x : Hld) : KH := (x.deal, x.period)
def ltH : KH -> KH -> Bool := lexL ltB ltI2
theorem tot_H : Tot ltH := tot_str.lex tot_int
theorem hldCmp_lt {a b : Hld} : YaQ a b < 0 ↔ ltH a.key b.key = true := by
 unfold YaQ ltH Hld.key
 rw [lexL_iff]
 unfold ltB ltI2
 rw [decide_eq_true_eq, decide_eq_true_eq]
 dsimp only
 by_cases h : a.deal = b.deal
 ·rw [if_pos h, h, strCmp_zero.2 rfl]
  constructor
  ·intro h2
   refine .inr ⟨J, ?_⟩
   split at h2
   ·assumption
   ·split at h2 <;> omega
  ·rintro (h2 | h2)
   ·omega
   ·rw [if_pos h2.2]; omega
 ·rw [if_neg h]; simp [h]
theorem hldCmp_zero {a b : Hld} : YaQ a b = 0 ↔ a.key = b.key := by
 unfold YaQ Hld.key
 by_cases h : a.deal = b.deal
 ·rw [if_pos h]
  constructor
  ·intro h2
   split at h2
   ·omega
   ·split at h2
    ·rename_i h3; rw [h, h3]
    ·omega
  ·intro h2
   have h3 : a.period = b.period := congrArg Prod.snd h2
   rw [if_neg (by omega), if_pos h3]
 ·rw [if_neg h, strCmp_zero]
  exact ⟨fun h2 => absurd h2 h, fun h2 => absurd (congrArg Prod.fst h2) h⟩
structure Hls (l : List Hld) : Prop where
 rise : l.Pairwise fun a b => ltH a.key b.key = true
def ltQH (l : List Hld) (t : Hld) (k : Nat) : Bool := decide (k < l.length) && decide (YaQ (l.getD k default) t < 0)
def posH (l : List Hld) (t : Hld) : Nat := bsr (ltQH l t) 0 l.length
def hasH (l : List Hld) (t : Hld) : Bool := decide (posH l t < l.length) && decide (YaQ (l.getD (posH l t) default) t = 0)
theorem ltQH_at {l : List Hld} {t : Hld} {k : Nat} (hk : k < l.length) : ltQH l t k = decide (YaQ l[k] t < 0) := by unfold ltQH; rw [decide_eq_true hk, ZgD, ZgE hk]; rfl
theorem ltQH_t {l : List Hld} {t : Hld} {k : Nat} (hk : k < l.length) (h : YaQ l[k] t < 0) : ltQH l t k = true := by rw [ltQH_at hk]; exact decide_eq_true h
theorem ltQH_f {l : List Hld} {t : Hld} {k : Nat} (hk : k < l.length) (h : ¬ YaQ l[k] t < 0) : ltQH l t k = false := by rw [ltQH_at hk]; exact decide_eq_false h
theorem hasH_at {l : List Hld} {t : Hld} (hk : posH l t < l.length) : hasH l t = decide (YaQ l[posH l t] t = 0) := by unfold hasH; rw [decide_eq_true hk, ZgD, ZgE hk]; rfl
theorem hasH_e {l : List Hld} {t : Hld} {k : Nat} (hk : ¬ k < l.length) (hp : posH l t = k) : hasH l t = false := by unfold hasH; rw [hp]; simp [hk]
theorem hasH_k {l : List Hld} {t : Hld} {k : Nat} (hk : k < l.length) (hp : posH l t = k) : hasH l t = decide (YaQ l[k] t = 0) := by subst hp; exact hasH_at hk
theorem ltQH_mono {l : List Hld} (ok : Hls l) (t : Hld) : ∀ a b, a <= b -> ltQH l t b = true -> ltQH l t a = true := fun a b hab h => by
 by_cases hb : b < l.length
 ·rw [ltQH_at hb, decide_eq_true_eq, hldCmp_lt] at h
  refine ltQH_t (show a < l.length by omega) (hldCmp_lt.2 ?_)
  by_cases e : a = b
  ·subst e; exact h
  ·exact tot_H.tr (List.pairwise_iff_getElem.1 ok.rise a b (by omega) hb (by omega)) h
 ·unfold ltQH at h
  rw [decide_eq_false hb] at h; cases h
theorem posH_le (l : List Hld) (t : Hld) : posH l t <= l.length := (bsr_le _ 0 l.length (ZnR _) (ZnZ _)).2
theorem posH_spec {l : List Hld} (ok : Hls l) (t : Hld) : (∀ k (hk : k < l.length), k < posH l t -> ltH l[k].key t.key = true) /\ ∀ k (hk : k < l.length), posH l t <= k -> ltH l[k].key t.key = false := by
 have h1 := bsr_spec (ltQH_mono ok t) l.length 0 l.length (by omega) (ZnZ _) (fun k hk => by omega)
 refine ⟨fun k hk hkp => ?_, fun k hk hkp => ?_⟩
 ·have := h1.1 k (ZnZ _) hkp
  rw [ltQH_at hk, decide_eq_true_eq, hldCmp_lt] at this
  exact this
 ·have h2 := h1.2 k hkp hk
  cases hc : ltH l[k].key t.key with
  | false => rfl
  | true =>
   rw [ltQH_t hk (hldCmp_lt.2 hc)] at h2; cases h2
section
variable {κ : Type} [DecidableEq κ]
theorem addO_ins {lt : κ -> κ -> Bool} {β : Type} {add : β -> β -> β} {e : κ × β} : ∀ {O : List (κ × β)} {i : Nat}, i <= O.length -> (∀ o ∈ O.take i, lt o.1 e.1 = true) -> (i = O.length \/ ∃ h : i < O.length, lt O[i].1 e.1 = false /\ ¬ O[i].1 = e.1) -> addO lt add e O = O.take i ++ [e] ++ O.drop i
 | [], i, hi, _, _ => by
  have : i = 0 := by simpa using hi
  subst this
  rfl
 | p :: l, 0, _, _, hs => by
  rcases hs with hs | ⟨h, h1, h2⟩
  ·simp at hs
  ·rw [addO, if_neg (by rw [show lt p.1 e.1 = false from h1]; simp), if_neg (show ¬ p.1 = e.1 from h2)]; rfl
 | p :: l, i + 1, hi, ha, hs => by
  have hp : lt p.1 e.1 = true := ha p (by simp)
  rw [addO, if_pos hp, addO_ins (i := i) (by simpa using hi) (fun o ho => ha o (by simp [ho])) (by
   rcases hs with hs | ⟨h, h1, h2⟩
   ·exact .inl (by simpa using hs)
   ·exact .inr ⟨by simpa using h, by simpa using h1, by simpa using h2⟩)]
  simp
theorem addO_add {lt : κ -> κ -> Bool} {β : Type} {add : β -> β -> β} {e : κ × β} : ∀ {O : List (κ × β)} {i : Nat} (h : i < O.length), (∀ o ∈ O.take i, lt o.1 e.1 = true) -> lt O[i].1 e.1 = false -> O[i].1 = e.1 -> addO lt add e O = O.set i (e.1, add O[i].2 e.2)
 | [], i, h, _, _, _ => by simp at h
 | p :: l, 0, _, _, h1, h2 => by
  have h1' : lt p.1 e.1 = false := h1
  have h2' : p.1 = e.1 := h2
  rw [addO, if_neg (by rw [h1']; simp), if_pos h2']; rfl
 | p :: l, i + 1, h, ha, h1, h2 => by
  have hp : lt p.1 e.1 = true := ha p (by simp)
  rw [addO, if_pos hp, addO_add (i := i) (by simpa using h) (fun o ho => ha o (by simp [ho])) (by simpa using h1) (by simpa using h2)]
  rfl
def HL (l : List Hld) : List (KH × Int) := l.map fun h => (h.key, h.cents)
def toH (p : KH × Int) : Hld := ⟨p.1.1, p.1.2, p.2⟩
theorem HL_len (l : List Hld) : (HL l).length = l.length := ZlM ..
theorem toH_HL (l : List Hld) : (HL l).map toH = l := by
 unfold HL
 rw [List.map_map]
 exact (List.map_congr_left fun h _ => J).trans (List.map_id _)
theorem HL_toH (L : List (KH × Int)) : HL (L.map toH) = L := by
 unfold HL
 rw [List.map_map]
 exact (List.map_congr_left fun h _ => J).trans (List.map_id _)
theorem HL_ri {l : List Hld} (ok : Hls l) : RiG ltH (HL l) := by
 unfold RiG HL
 rw [List.pairwise_map]
 exact ok.rise
theorem ri_HL {L : List (KH × Int)} (h : RiG ltH L) : Hls (L.map toH) := ⟨by
 rw [List.pairwise_map]
 exact h⟩
def cenH (l : List Hld) (k : KH) : Int := (Yap (HL l) k).getD 0
def addH (l : List Hld) (x : Hld) : List Hld := (addO ltH (· + ·) (x.key, x.cents) (HL l)).map toH
def delH (l : List Hld) (k : KH) : List Hld := l.filter fun h => decide (¬ h.key = k)
theorem addH_ok {l : List Hld} (ok : Hls l) (x : Hld) : Hls (addH l x) := ri_HL (addO_ri tot_H _ (HL_ri ok))
theorem delH_ok {l : List Hld} (ok : Hls l) (k : KH) : Hls (delH l k) := ⟨ok.rise.filter _⟩
theorem hasH_mem {l : List Hld} (ok : Hls l) (t : Hld) (h : hasH l t = true) : ∃ hp : posH l t < l.length, l[posH l t].key = t.key := by
 by_cases hp : posH l t < l.length
 ·rw [hasH_at hp, decide_eq_true_eq, hldCmp_zero] at h
  exact ⟨hp, h⟩
 ·rw [hasH_e hp rfl] at h; cases h
theorem hasH_not {l : List Hld} (ok : Hls l) (t : Hld) (h : hasH l t = false) : ∀ x ∈ l, x.key ≠ t.key := fun x hx e => by
 obtain ⟨i, hi, rfl⟩ := List.mem_iff_getElem.1 hx
 obtain ⟨h1, h2⟩ := posH_spec ok t
 rcases Nat.lt_trichotomy i (posH l t) with hh | hh | hh
 ·have := h1 i hi hh
  rw [e, tot_H.irr] at this; cases this
 ·subst hh
  rw [hasH_at hi, decide_eq_false_iff_not] at h
  exact h (hldCmp_zero.2 e)
 ·have h3 := h2 (posH l t) (by omega) (ZnR _)
  have h4 := List.pairwise_iff_getElem.1 ok.rise (posH l t) i (by omega) hi hh
  rw [e] at h4
  rw [h3] at h4; cases h4
theorem cen_none {l : List Hld} {k : KH} (h : ∀ x ∈ l, x.key ≠ k) : Yap (HL l) k = none := findG_none.2 (by
 cases hc : hasG (HL l) k with
 | false => rfl
 | true =>
  obtain ⟨p, hp, e⟩ := hasG_iff.1 hc
  obtain ⟨x, hx, rfl⟩ := ZmM.1 hp
  exact absurd e (h x hx))
theorem cen_some {l : List Hld} (ok : Hls l) {x : Hld} (hx : x ∈ l) : Yap (HL l) x.key = some x.cents := (YbF ((HL_ri ok).nk tot_H) (x.key, x.cents)).1 (ZmM.2 ⟨x, hx, rfl⟩)
theorem del_at {l : List Hld} (ok : Hls l) {k : KH} {p : Nat} (hp : p < l.length) (h : l[p].key = k) : delH l k = l.take p ++ l.drop (p + 1) := by
 have hs : l = l.take p ++ l[p] :: l.drop (p + 1) := by rw [<- List.drop_eq_getElem_cons hp, List.take_append_drop]
 have hpw := List.pairwise_iff_getElem.1 ok.rise
 unfold delH
 conv => lhs; rw [hs]
 rw [List.filter_append, List.filter_cons, if_neg (by simp [h])]
 congr 1
 ·refine List.filter_eq_self.2 fun x hx => ?_
  obtain ⟨i, hi, rfl⟩ := List.mem_take_iff_getElem.1 hx
  refine decide_eq_true fun e => ?_
  have := hpw i p (by omega) hp (by omega)
  rw [e, h, tot_H.irr] at this; cases this
 ·refine List.filter_eq_self.2 fun x hx => ?_
  obtain ⟨i, hi, rfl⟩ := List.mem_iff_getElem.1 hx
  rw [List.getElem_drop]
  refine decide_eq_true fun e => ?_
  have hi2 : p + 1 + i < l.length := by rw [ZlD] at hi; omega
  have := hpw p (p + 1 + i) hp hi2 (by omega)
  rw [e, h, tot_H.irr] at this; cases this
theorem del_none {l : List Hld} {k : KH} (h : ∀ x ∈ l, x.key ≠ k) : delH l k = l := List.filter_eq_self.2 fun x hx => decide_eq_true (h x hx)
theorem add_new {l : List Hld} (ok : Hls l) {x : Hld} (h : hasH l x = false) : addH l x = l.take (posH l x) ++ [x] ++ l.drop (posH l x) := by
 obtain ⟨h1, h2⟩ := posH_spec ok x
 have hle := posH_le l x
 have hn := hasH_not ok x h
 unfold addH
 rw [addO_ins (i := posH l x) (by rw [HL_len]; exact hle) (fun o ho => by
  obtain ⟨i, hi, rfl⟩ := List.mem_take_iff_getElem.1 ho
  have hi2 : i < l.length := by have := HL_len l; omega
  have := h1 i hi2 (by omega)
  simpa [HL] using this) (by
  rcases Nat.lt_or_eq_of_le hle with hh | hh
  ·refine .inr ⟨by rw [HL_len]; exact hh, ?_, ?_⟩
   ·have := h2 _ hh (ZnR _)
    simpa [HL] using this
   ·have := hn _ (ZgM hh)
    simpa [HL] using this
  ·exact .inl (by rw [HL_len]; exact hh))]
 rw [ZmA, ZmA, List.map_take, List.map_drop, toH_HL]
 rfl
theorem add_old {l : List Hld} (ok : Hls l) {x : Hld} (hp : posH l x < l.length) (h : l[posH l x].key = x.key) : addH l x = l.set (posH l x) ⟨x.deal, x.period, l[posH l x].cents + x.cents⟩ := by
 obtain ⟨h1, h2⟩ := posH_spec ok x
 unfold addH
 have hp2 : posH l x < (HL l).length := by rw [HL_len]; exact hp
 rw [addO_add hp2 (fun o ho => by
  obtain ⟨i, hi, rfl⟩ := List.mem_take_iff_getElem.1 ho
  have hi2 : i < l.length := by have := HL_len l; omega
  have := h1 i hi2 (by omega)
  simpa [HL] using this) (by
  have := h2 _ hp (ZnR _)
  simpa [HL] using this) (by simpa [HL] using h)]
 rw [List.map_set, toH_HL]
 congr 1
 simp [HL, toH, Hld.key]
theorem cen_add {l : List Hld} (ok : Hls l) (x : Hld) (k : KH) : Yap (HL (addH l x)) k = if k = x.key then some (YbE (· + ·) (Yap (HL l) x.key) x.cents) else Yap (HL l) k := by
 unfold addH
 rw [HL_toH, findG_addO tot_H _ k (HL_ri ok)]
end
end Go.Proofs.YtcfamaddnmnaeaaGreatDoor
