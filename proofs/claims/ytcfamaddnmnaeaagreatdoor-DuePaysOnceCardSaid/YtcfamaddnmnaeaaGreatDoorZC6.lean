/- Walks and laws over abstract values, merged by tools/merge.py. No statement of the seat. -/
import Derived.Test.YtcfamaddnmnaeaaGreatDoorZC5
set_option linter.unusedSimpArgs false
set_option linter.unusedVariables false
set_option maxHeartbeats 4000000
set_option maxRecDepth 100000
namespace Go.Proofs.YtcfamaddnmnaeaaGreatDoor
open Go.RowKit
namespace TyM10
end TyM10
open TyF0 TyF1 TyF2 TyF3 TyF4 TyF5 TyF6 TyF11 TyG1 TyG2 TyG5 TyU1 TyU2 TyU3 TyU4 TyM1 TyM2 TyM3 TyM7 TyM8 TyM9 TyO1 TyM10
def cellsR (y : Rpt) : List S := [.d (.v (.string y.source)), .d (.v (.int .i64 y.no)), .d (.v (.int .i64 y.period)), .d (.v (.int .i64 y.corrects)), .d (.sl (y.lines.map Usd.ds))]
theorem cells_sameM {i : Nat} {a b : List S} {τ : Obs} (h : a = b) : ∀ p ∈ [(i, Ob.cells b)], p ∈ (i, Ob.cells a) :: τ := fun p hp => by
  subst h
  rw [List.mem_singleton] at hp; subst hp; exact .head _
theorem rootA_0 (l : List Rpt) (y : Rpt) : rootA l 0 y = y.no := rfl
theorem rootA_no {l : List Rpt} {y : Rpt} {d : Nat} (h : y.corrects = 0) : rootA l (d + 1) y = y.no := if_pos h
theorem rootA_cor {l : List Rpt} {y : Rpt} {d : Nat} (h : ¬ y.corrects = 0) (h2 : upTo l y l.length < 0) : rootA l (d + 1) y = y.corrects := (if_neg h).trans (if_pos h2)
theorem rootA_up {l : List Rpt} {y : Rpt} {d : Nat} (h : ¬ y.corrects = 0) (h2 : ¬ upTo l y l.length < 0) : ∃ u, ∃ hu : u < l.length, upTo l y l.length = (u : Int) ∧ rootA l (d + 1) y = rootA l d l[u] := by
  rcases up_cases (l := l) y with ⟨h1, _⟩ | ⟨u, hu, h1, _⟩
  · exact absurd h1 h2
  · refine ⟨u, hu, h1, ?_⟩
    have e : upX l y = (u : Int) := h1
    rw [rootA, if_neg h, if_neg (by omega), e, Int.toNat_natCast, gd hu]
theorem up_yes {l : List Rpt} {y : Rpt} {k : Nat} (hk : k < l.length) (h1 : l[k].source = y.source) (h2 : l[k].no = y.corrects) : upTo l y (k + 1) = (k : Int) := by
  unfold upTo
  rw [if_pos]
  rw [gd hk]
  unfold mtB
  rw [decide_eq_true h1, decide_eq_true h2]; rfl
theorem up_no {l : List Rpt} {y : Rpt} {k : Nat} (hk : k < l.length) (h : ¬ (l[k].source = y.source ∧ l[k].no = y.corrects)) : upTo l y (k + 1) = upTo l y k := by
  rw [upTo, if_neg]
  rw [gd hk]
  intro hh
  exact h (mt_key hh)
theorem sg_at {l : List Rpt} {i j : Nat} (hi : i < l.length) (hj : j < l.length) : sameG l i j = (decide (l[j].source = l[i].source) && decide (rootQ l l[j] = rootQ l l[i])) := by unfold sameG; rw [gd hj, gd hi]
theorem c_root (l : List Rpt) (x : Rpt) (hll : l.length ≤ 300) : ACall Tryz.prog 139 [.sl (l.map Rpt.ds), .agg x.ds] (.v (.int .i64 (rootQ l x))) := by
 refine acall_of (n := 50) (ds' := [.v (.int .i64 (rootQ l x))]) Tryz.func139 rfl (by kernel_rfl) rfl [4] rfl rfl ?_
 intro B w0 F0 fr
 refine .sr (.boxOwn 91 rfl rfl rfl rfl rfl rfl rfl ?_)
 refine .aA (.nil ?_)
 refine .seq (.sr (.mA ?_))
 refine .sA (.lenSl rfl et_22.ht rfl) ?_
 refine .sA (.add64 rfl rfl rfl (by simp only [List.length_map]; omega) (by simp only [List.length_map]; omega)) ?_
 refine .mA (.nil ?_)
 refine .block (.loop (G := Nat × Rpt) (fun g => Env.of [(11, .d (.v (.int .i64 (g.1 : Int)))), (10, .d (.v (.int .i64 ((l.length : Int) + 1)))), (0, .d (.sl (l.map Rpt.ds))), (3, .ptr 91 0)]) (fun g => [(91, .cells (cellsR g.2))]) (fun g => g.1 ≤ l.length + 1 ∧ rootQ l x = rootA l (l.length + 1 - g.1) g.2) (fun g => l.length + 1 - g.1) (0, x) ⟨Nat.zero_le _, rfl⟩ (Sub.less ⟨(SLe.of_eq rfl), (SLe.i64 (by rw [List.length_map])), SLe.refl _, SLe.refl _, trivial⟩ (cells_sameM rfl)) ?_)
 rintro ⟨m, y⟩ ⟨hm, hr⟩
 dsimp only at hm hr ⊢
 refine .sr ?_
 refine .sA (.lss rfl rfl rfl) (.nil ?_)
 refine .seq ?_
 refine .cond rfl (fun h1 => ?_) (fun h1 => ?_)
 ·replace h1 := dcT h1
  have hml : m < l.length + 1 := by omega
  obtain ⟨d, hd⟩ : ∃ d, l.length + 1 - m = d + 1 := ⟨l.length - m, by omega⟩
  rw [hd] at hr
  refine .skip (.seq (.block (.seq (.sr (.sA (.fieldAddrP rfl fo_80_3 rfl) ?_)))))
  refine .sA (.loadP rfl sc_3 rfl (.head _) rfl) ?_
  refine .sA (.eql rfl rfl rfl) (.nil ?_)
  refine .cond rfl (fun h2 => ?_) (fun h2 => ?_)
  ·replace h2 := dcT h2
   rw [hr, rootA_no h2]
   refine .sr (.sA (.fieldAddrP rfl fo_80_1 rfl) ?_)
   refine .sA (.loadP rfl sc_3 rfl (.head _) rfl) ?_
   refine .aA (.nil ?_)
   refine .ret ?_
   refine ⟨RetD.eq rfl ?_, trivial⟩
   all_goals (rfl)
  replace h2 := dcF h2
  have hc := h2
  refine .skip (.sr ?_)
  refine .aA (.nil ?_)
  refine .seq (.sr (.mA ?_))
  refine .sA (.lenSl rfl et_22.ht rfl) ?_
  refine .mA (.nil ?_)
  refine .block (.loop (G := Nat) (fun k => Env.of [(20, .d (.v (.int .i64 (k : Int)))), (18, .d (.sl (l.map Rpt.ds))), (19, .d (.v (.int .i64 ((l.map Rpt.ds).length : Int)))), (5, .d (.v (.int .i64 (upTo l y k)))), (11, .d (.v (.int .i64 (m : Int)))), (10, .d (.v (.int .i64 ((l.length : Int) + 1)))), (0, .d (.sl (l.map Rpt.ds))), (3, .ptr 91 0)]) (fun k => [(91, .cells (cellsR y))]) (fun k => k ≤ l.length) (fun k => l.length - k) 0 (Nat.zero_le _) (Sub.less ⟨(SLe.of_eq rfl), SLe.refl _, SLe.refl _, (SLe.of_eq rfl), SLe.refl _, SLe.refl _, SLe.refl _, SLe.refl _, trivial⟩ (cells_sameM rfl)) ?_)
  intro k hk
  refine .sr ?_
  refine .sA (.lss rfl rfl rfl) (.nil ?_)
  refine .seq ?_
  refine .cond rfl (fun h3 => ?_) (fun h3 => ?_)
  ·replace h3 := dcT h3
   rw [List.length_map] at h3
   have hlt : k < l.length := by omega
   refine .skip (.seq (.block (.sr (.mA ?_))))
   refine .sA (.indexAddr rfl et_22 rfl rfl k rfl (at_lst hlt) rfl) (.sA (.loadAgg rfl ag_80 rfl rfl) ?_)
   refine .alloc 102 rfl rfl rfl rfl zt_80 rfl rfl rfl ?_
   refine .aA ?_
   refine .store rfl rfl rfl sz_80 rfl (.head _) rfl rfl rfl (Nat.le_of_ble_eq_true rfl) ?_
   refine .freezeCells 7 (ds := l[k].ds) rfl (.head _) (.nil ?_)
   refine .sr (.sA (.fieldAddr rfl fo_80_0 rfl) ?_)
   refine .sA (.load rfl sc_9 rfl) (.sA (.fieldAddrP rfl fo_80_0 rfl) (.sA (.loadP rfl sc_9 rfl (.head _) rfl) (.sA (.seql rfl rfl rfl) ?_)))
   refine .mA ?_
   refine .split 30 rfl (fun g4 => ?_) (fun g4 => ?_)
   ·replace g4 := dcT g4
    have e1 := g4
    refine .sG (.fieldAddr rfl fo_80_1 rfl) ?_
    refine .sG (.load rfl sc_3 rfl) ?_
    refine .sG (.fieldAddrP rfl fo_80_3 rfl) ?_
    refine .sG (.loadP rfl sc_3 rfl (.head _) rfl) ?_
    refine .sG (.eql rfl rfl rfl) ?_
    refine .sA (.pickT rfl rfl rfl) (.nil ?_)
    refine .cond rfl (fun h5 => ?_) (fun h5 => ?_)
    ·replace h5 := dcT h5
     have HU := up_yes hlt e1 h5
     refine .region (.mA ?_)
     refine .aA (.nil ?_)
     refine .region (.sA (.add64 rfl rfl rfl (by omega) (by omega)) ?_)
     refine .mA (.nil ?_)
     refine ⟨k + 1, (by dsimp only; omega), (by dsimp only; omega), Sub.less ⟨(SLe.of_eq rfl), SLe.refl _, SLe.refl _, (SLe.i64 HU.symm), SLe.refl _, SLe.refl _, SLe.refl _, SLe.refl _, trivial⟩ (cells_sameM rfl)⟩
    replace h5 := dcF h5
    have HU := up_no (l := l) (y := y) hlt (fun hh => h5 hh.2)
    refine .skip (.region (.sA (.add64 rfl rfl rfl (by omega) (by omega)) ?_))
    refine .mA (.nil ?_)
    refine ⟨k + 1, (by dsimp only; omega), (by dsimp only; omega), Sub.less ⟨(SLe.of_eq rfl), SLe.refl _, SLe.refl _, (SLe.i64 HU.symm), SLe.refl _, SLe.refl _, SLe.refl _, SLe.refl _, trivial⟩ (cells_sameM rfl)⟩
   replace g4 := dcF g4
   have HU := up_no (l := l) (y := y) hlt (fun hh => g4 hh.1)
   refine .pA ?_
   refine .pA ?_
   refine .pA ?_
   refine .pA ?_
   refine .pA ?_
   refine .sA (.pickF rfl rfl rfl) (.nil ?_)
   refine .cond rfl (fun h => nomatch h) (fun _ => ?_)
   refine .skip (.region (.sA (.add64 rfl rfl rfl (by omega) (by omega)) ?_))
   refine .mA (.nil ?_)
   refine ⟨k + 1, (by dsimp only; omega), (by dsimp only; omega), Sub.less ⟨(SLe.of_eq rfl), SLe.refl _, SLe.refl _, (SLe.i64 HU.symm), SLe.refl _, SLe.refl _, SLe.refl _, SLe.refl _, trivial⟩ (cells_sameM rfl)⟩
  replace h3 := dcF h3
  rw [List.length_map] at h3
  obtain rfl : k = l.length := by omega
  refine .exit (.seq (.sr (.mA ?_)))
  refine .sA (.lss rfl rfl rfl) (.nil ?_)
  refine .cond rfl (fun h6 => ?_) (fun h6 => ?_)
  ·replace h6 := dcT h6
   rw [hr, rootA_cor hc h6]
   refine .sr (.sA (.fieldAddrP rfl fo_80_3 rfl) ?_)
   refine .sA (.loadP rfl sc_3 rfl (.head _) rfl) ?_
   refine .aA (.nil ?_)
   refine .ret ?_
   refine ⟨RetD.eq rfl ?_, trivial⟩
   all_goals (rfl)
  replace h6 := dcF h6
  obtain ⟨u, hu, hue, hur⟩ := rootA_up (d := d) hc (by omega)
  refine .skip (.region (.mA ?_))
  refine .mA ?_
  refine .sA (.indexAddr rfl et_22 rfl rfl u hue (at_lst hu) rfl) (.sA (.loadAgg rfl ag_80 rfl rfl) ?_)
  refine .store rfl rfl rfl sz_80 rfl (.head _) rfl rfl rfl (Nat.le_of_ble_eq_true rfl) (.nil ?_)
  refine .region (.sA (.add64 rfl rfl rfl (by omega) (by omega)) ?_)
  refine .mA (.nil ?_)
  refine ⟨(m + 1, l[u]), ⟨by dsimp only; omega, by dsimp only; rw [hr, hur, show l.length + 1 - (m + 1) = d by omega]⟩, (by dsimp only; omega), Sub.less ⟨(SLe.of_eq rfl), SLe.refl _, SLe.refl _, SLe.refl _, trivial⟩ (cells_sameM rfl)⟩
 replace h1 := dcF h1
 obtain rfl : m = l.length + 1 := by omega
 rw [Nat.sub_self, rootA_0] at hr
 rw [hr]
 refine .exit (.sr (.sA (.fieldAddrP rfl fo_80_1 rfl) ?_))
 refine .sA (.loadP rfl sc_3 rfl (.head _) rfl) ?_
 refine .aA (.nil ?_)
 refine .ret ?_
 refine ⟨RetD.eq rfl ?_, trivial⟩
 all_goals (rfl)
namespace TyO2
end TyO2
open TyF0 TyF1 TyF2 TyF3 TyF4 TyF5 TyF6 TyF11 TyG1 TyG2 TyG5 TyU1 TyU2 TyU3 TyU4 TyM1 TyM2 TyM3 TyM7 TyM8 TyM9 TyO1 TyM10 TyO2
open Go.Sort Go.Lib
theorem wf64 {n : Int} (hn : -9223372036854775808 ≤ n ∧ n ≤ 9223372036854775807) : (Lit.int .i64 n).wf = true := by
  have h1 : IntKind.i64.min = -9223372036854775808 := by decide
  have h2 : IntKind.i64.max = 9223372036854775807 := by decide
  simp only [Lit.wf, Bool.and_eq_true, decide_eq_true_eq, h1, h2]
  exact hn
def keyBi (P : Program) (k : TypeId) : Bool := match P.underlying k with
  | some (.struct fs) => (match fs.toList with
    | [f, g] => f.name != "_" && g.name != "_" && f.offset == 0 && g.offset == 1 && isI64T (P.underlying f.type) && isI64T (P.underlying g.type) && P.cellsOf f.type == 1 && P.cellsOf g.type == 1
    | _ => false) && P.cellsOf k == 2
  | _ => false
def keyBs (P : Program) (k : TypeId) : Bool := match P.underlying k with
  | some (.struct fs) => (match fs.toList with
    | [f, h, g] => ((f.name != "_" && f.offset == 0 && isStrT (P.underlying f.type) && P.cellsOf f.type == 1) && (h.name != "_" && h.offset == 1 && isStrT (P.underlying h.type) && P.cellsOf h.type == 1)) && (g.name != "_" && g.offset == 2 && isI64T (P.underlying g.type) && P.cellsOf g.type == 1)
    | _ => false) && P.cellsOf k == 3
  | _ => false
theorem keyBi_ok {P : Program} {k : TypeId} (h : keyBi P k = true) (hk : P.keyType k = true) (h0 : k < P.types.size) (s n : Int) (hs : (Lit.int .i64 s).wf = true) (hn : (Lit.int .i64 n).wf = true) : ∃ l, keyOf P k (.agg #[.int .i64 s, .int .i64 n]) = some l := by
  unfold keyBi at h
  cases hu : P.underlying k with
  | none => rw [hu] at h; cases h
  | some td =>
    rw [hu] at h
    cases td <;> try (cases h; done)
    rename_i fs
    simp only [Bool.and_eq_true] at h
    obtain ⟨h1, h2⟩ := h
    cases hf : fs.toList with
    | nil => rw [hf] at h1; cases h1
    | cons f r =>
      cases r with
      | nil => rw [hf] at h1; cases h1
      | cons g r =>
        cases r with
        | cons _ _ => rw [hf] at h1; cases h1
        | nil =>
          rw [hf] at h1
          simp only [Bool.and_eq_true, beq_iff_eq] at h1 h2
          obtain ⟨⟨⟨⟨⟨⟨⟨a1, a2⟩, a3⟩, a4⟩, a5⟩, a6⟩, a7⟩, a8⟩ := h1
          have a5' := isI64T_eq a5
          have a6' := isI64T_eq a6
          obtain ⟨m, hm⟩ : ∃ m, P.types.size = m + 1 := ⟨P.types.size - 1, (Nat.sub_add_cancel (Nat.lt_of_le_of_lt (Nat.zero_le k) h0)).symm⟩
          have hall : fs.all (·.name != "_") = true := by
            rw [← Array.all_toList, hf]
            simp only [List.all_cons, List.all_nil, a1, a2, Bool.and_self]
          unfold keyOf
          rw [hu]
          simp only [hk, Value.formed, hu, h2, Bool.true_and]
          refine ⟨.string (keyBytes [.int .i64 s, .int .i64 n]), ?_⟩
          have kf : P.keyLits (m + 1) f.type [.int .i64 s] = some [.int .i64 s] := by
            unfold Program.keyLits
            rw [a5']
            simp [hs]
          have kg : P.keyLits (m + 1) g.type [.int .i64 n] = some [.int .i64 n] := by
            unfold Program.keyLits
            rw [a6']
            simp [hn]
          have c1 : (([Value.int .i64 s, .int .i64 n] : List Value).drop f.offset).take (P.cellsOf f.type) = [.int .i64 s] := by rw [a3, a7]; rfl
          have c2 : (([Value.int .i64 s, .int .i64 n] : List Value).drop g.offset).take (P.cellsOf g.type) = [.int .i64 n] := by rw [a4, a8]; rfl
          have hk2 : P.keyLits (m + 1 + 1) k [.int .i64 s, .int .i64 n] = some [.int .i64 s, .int .i64 n] := by
            unfold Program.keyLits
            rw [hu]
            simp only [List.length_cons, List.length_nil, h2, hall, and_self, if_true, hf, List.mapM_cons, List.mapM_nil, c1, c2, kf, kg]
            rfl
          simp [Value.cells, hm, hk2]
theorem keyBs_ok {P : Program} {k : TypeId} (h : keyBs P k = true) (hk : P.keyType k = true) (h0 : k < P.types.size) (s t : ByteArray) (n : Int) (hs : s.size ≤ maxLen) (ht : t.size ≤ maxLen) (hn : (Lit.int .i64 n).wf = true) : ∃ l, keyOf P k (.agg #[.string s, .string t, .int .i64 n]) = some l := by
  unfold keyBs at h
  cases hu : P.underlying k with
  | none => rw [hu] at h; cases h
  | some td =>
    rw [hu] at h
    cases td <;> try (cases h; done)
    rename_i fs
    simp only [Bool.and_eq_true] at h
    obtain ⟨h1, h2⟩ := h
    cases hf : fs.toList with
    | nil => rw [hf] at h1; cases h1
    | cons f r =>
      cases r with
      | nil => rw [hf] at h1; cases h1
      | cons f2 r =>
        cases r with
        | nil => rw [hf] at h1; cases h1
        | cons g r =>
          cases r with
          | cons _ _ => rw [hf] at h1; cases h1
          | nil =>
            rw [hf] at h1
            simp only [Bool.and_eq_true, beq_iff_eq] at h1 h2
            obtain ⟨⟨⟨a1, a3⟩, a5⟩, a7⟩ := h1.1.1
            obtain ⟨⟨⟨b1, b3⟩, b5⟩, b7⟩ := h1.1.2
            obtain ⟨⟨⟨d1, d3⟩, d5⟩, d7⟩ := h1.2
            have a5' := isStrT_eq a5
            have b5' := isStrT_eq b5
            have d5' := isI64T_eq d5
            obtain ⟨m, hm⟩ : ∃ m, P.types.size = m + 1 := ⟨P.types.size - 1, (Nat.sub_add_cancel (Nat.lt_of_le_of_lt (Nat.zero_le k) h0)).symm⟩
            have hall : fs.all (·.name != "_") = true := by
              rw [← Array.all_toList, hf]
              simp only [List.all_cons, List.all_nil, a1, b1, d1, Bool.and_self]
            unfold keyOf
            rw [hu]
            simp only [hk, Value.formed, hu, h2, Bool.true_and]
            refine ⟨.string (keyBytes [.string s.data.toList, .string t.data.toList, .int .i64 n]), ?_⟩
            have kf : P.keyLits (m + 1) f.type [.string s] = some [.string s.data.toList] := by
              unfold Program.keyLits
              rw [a5']
              simp [hs]
            have kf2 : P.keyLits (m + 1) f2.type [.string t] = some [.string t.data.toList] := by
              unfold Program.keyLits
              rw [b5']
              simp [ht]
            have kg : P.keyLits (m + 1) g.type [.int .i64 n] = some [.int .i64 n] := by
              unfold Program.keyLits
              rw [d5']
              simp [hn]
            have c1 : (([Value.string s, .string t, .int .i64 n] : List Value).drop f.offset).take (P.cellsOf f.type) = [.string s] := by rw [a3, a7]; rfl
            have c2 : (([Value.string s, .string t, .int .i64 n] : List Value).drop f2.offset).take (P.cellsOf f2.type) = [.string t] := by rw [b3, b7]; rfl
            have c3 : (([Value.string s, .string t, .int .i64 n] : List Value).drop g.offset).take (P.cellsOf g.type) = [.int .i64 n] := by rw [d3, d7]; rfl
            have hk2 : P.keyLits (m + 1 + 1) k [.string s, .string t, .int .i64 n] = some [.string s.data.toList, .string t.data.toList, .int .i64 n] := by
              unfold Program.keyLits
              rw [hu]
              simp only [List.length_cons, List.length_nil, h2, hall, and_self, if_true, hf, List.mapM_cons, List.mapM_nil, c1, c2, c3, kf, kf2, kg]
              rfl
            simp [Value.cells, hm, hk2]
theorem krow_S : (165 : TypeId) < Tryz.prog.types.size := dcT (by kernel_rfl)
theorem krow_U : (169 : TypeId) < Tryz.prog.types.size := dcT (by kernel_rfl)
theorem kwide_S : (match Tryz.prog.underlying 165 with | some (.array _ _) | some (.struct _) => true | _ => false) = true := by kernel_rfl
theorem kwide_U : (match Tryz.prog.underlying 169 with | some (.array _ _) | some (.struct _) => true | _ => false) = true := by kernel_rfl
theorem kd_S : Maps.Keyed Tryz.prog 165 := Maps.Keyed.of_law (deep_law_laid klaid (m := 3) (by omega) krow_S (by kernel_rfl) kwide_S)
theorem kd_U : Maps.Keyed Tryz.prog 169 := Maps.Keyed.of_law (deep_law_laid klaid (m := 3) (by omega) krow_U (by kernel_rfl) kwide_U)
def keyS (k : KS) : Value := .agg #[.int .i64 k.1, .int .i64 k.2]
def keyU (k : KU) : Value := .agg #[.string k.1, .string k.2.1, .int .i64 k.2.2]
theorem keyS_ok (k : KS) (h1 : -9223372036854775808 ≤ k.1 ∧ k.1 ≤ 9223372036854775807) (h2 : -9223372036854775808 ≤ k.2 ∧ k.2 ≤ 9223372036854775807) : ∃ l, keyOf Tryz.prog 165 (keyS k) = some l :=
  keyBi_ok (by kernel_rfl) (by kernel_rfl) krow_S k.1 k.2 (wf64 h1) (wf64 h2)
theorem keyU_ok (k : KU) (h1 : k.1.size ≤ maxLen) (h2 : k.2.1.size ≤ maxLen) (h3 : -9223372036854775808 ≤ k.2.2 ∧ k.2.2 ≤ 9223372036854775807) : ∃ l, keyOf Tryz.prog 169 (keyU k) = some l :=
  keyBs_ok (by kernel_rfl) (by kernel_rfl) krow_U k.1 k.2.1 k.2.2 h1 h2 (wf64 h3)
theorem keyS_inj {a b : KS} (h : keyS a = keyS b) : a = b := by
  unfold keyS at h
  simp only [Value.agg.injEq] at h
  have h2 : [Value.int .i64 a.1, .int .i64 a.2] = [.int .i64 b.1, .int .i64 b.2] := congrArg Array.toList h
  simp at h2
  exact Prod.ext h2.1 h2.2
theorem keyU_inj {a b : KU} (h : keyU a = keyU b) : a = b := by
  unfold keyU at h
  simp only [Value.agg.injEq] at h
  have h2 : [Value.string a.1, .string a.2.1, .int .i64 a.2.2] = [.string b.1, .string b.2.1, .int .i64 b.2.2] := congrArg Array.toList h
  simp at h2
  exact Prod.ext h2.1 (Prod.ext h2.2.1 h2.2.2)
def encS (L : List (KS × UM)) : List (Value × D) := L.map fun p => (keyS p.1, .agg (toS p).ds)
def encU (L : List (KU × UM)) : List (Value × D) := L.map fun p => (keyU p.1, .agg (toU p).ds)
def getS (L : List (KS × UM)) (k : KS) : Sal := match findG L k with
  | some v => toS (k, v)
  | none => default
def getU (L : List (KU × UM)) (k : KU) : Unk := match findG L k with
  | some v => toU (k, v)
  | none => default
theorem mput_S {L : List (KS × UM)} (h : NkG L) (k : KS) (v : UM) {d : D} (hd : d = .agg (toS (k, v)).ds) : MPut (encS L) (keyS k) d (encS (putG L k v)) := by
  subst hd
  exact mputG (kv := keyS) (dv := fun p => .agg (toS p).ds) keyS_inj h k v
theorem mput_U {L : List (KU × UM)} (h : NkG L) (k : KU) (v : UM) {d : D} (hd : d = .agg (toU (k, v)).ds) : MPut (encU L) (keyU k) d (encU (putG L k v)) := by
  subst hd
  exact mputG (kv := keyU) (dv := fun p => .agg (toU p).ds) keyU_inj h k v
theorem mget_S {L : List (KS × UM)} (h : NkG L) (k : KS) : MGet (encS L) (keyS k) (.agg (default : Sal).ds) (.agg (getS L k).ds) :=
  mgetG (kv := keyS) (dv := fun p => .agg (toS p).ds) keyS_inj h k _ _ (by unfold getS; cases findG L k <;> rfl)
theorem mget_U {L : List (KU × UM)} (h : NkG L) (k : KU) : MGet (encU L) (keyU k) (.agg (default : Unk).ds) (.agg (getU L k).ds) :=
  mgetG (kv := keyU) (dv := fun p => .agg (toU p).ds) keyU_inj h k _ _ (by unfold getU; cases findG L k <;> rfl)
theorem get_plus_S (L : List (KS × UM)) (k : KS) (u m : Int) : (getS L k).units + u = (plusG addU (findG L k) (u, m)).1 ∧ (getS L k).money + m = (plusG addU (findG L k) (u, m)).2 := by
  unfold getS plusG
  cases findG L k with
  | none => exact ⟨Int.zero_add _, Int.zero_add _⟩
  | some v => exact ⟨rfl, rfl⟩
theorem get_plus_U (L : List (KU × UM)) (k : KU) (u m : Int) : (getU L k).units + u = (plusG addU (findG L k) (u, m)).1 ∧ (getU L k).money + m = (plusG addU (findG L k) (u, m)).2 := by
  unfold getU plusG
  cases findG L k with
  | none => exact ⟨Int.zero_add _, Int.zero_add _⟩
  | some v => exact ⟨rfl, rfl⟩
theorem get_bound_S {L : List (KS × UM)} {n : Int} (hL : ∀ p ∈ L, (0 ≤ p.2.1 ∧ p.2.1 ≤ 1000000000 * n) ∧ 0 ≤ p.2.2 ∧ p.2.2 ≤ 1000000000 * n) (hn : 0 ≤ n) (k : KS) : (0 ≤ (getS L k).units ∧ (getS L k).units ≤ 1000000000 * n) ∧ 0 ≤ (getS L k).money ∧ (getS L k).money ≤ 1000000000 * n := by
  unfold getS findG
  cases hq : L.find? fun p => decide (p.1 = k) with
  | none =>
    show (0 ≤ (0 : Int) ∧ (0 : Int) ≤ 1000000000 * n) ∧ 0 ≤ (0 : Int) ∧ (0 : Int) ≤ 1000000000 * n
    omega
  | some p => exact hL p (List.mem_of_find?_eq_some hq)
theorem get_bound_U {L : List (KU × UM)} {n : Int} (hL : ∀ p ∈ L, (0 ≤ p.2.1 ∧ p.2.1 ≤ 1000000000 * n) ∧ 0 ≤ p.2.2 ∧ p.2.2 ≤ 1000000000 * n) (hn : 0 ≤ n) (k : KU) : (0 ≤ (getU L k).units ∧ (getU L k).units ≤ 1000000000 * n) ∧ 0 ≤ (getU L k).money ∧ (getU L k).money ≤ 1000000000 * n := by
  unfold getU findG
  cases hq : L.find? fun p => decide (p.1 = k) with
  | none =>
    show (0 ≤ (0 : Int) ∧ (0 : Int) ≤ 1000000000 * n) ∧ 0 ≤ (0 : Int) ∧ (0 : Int) ≤ 1000000000 * n
    omega
  | some p => exact hL p (List.mem_of_find?_eq_some hq)
theorem encS_ok {n : Int} {s : SU} (h : InvS n s) : ∀ p ∈ encS s.1, ∃ l, keyOf Tryz.prog 165 p.1 = some l := fun p hp => by
  unfold encS at hp
  obtain ⟨q, hq, rfl⟩ := List.mem_map.1 hp
  have := h.k1 q hq
  exact keyS_ok q.1 (by omega) (by omega)
theorem encU_ok {n : Int} {s : SU} (h : InvS n s) : ∀ p ∈ encU s.2, ∃ l, keyOf Tryz.prog 169 p.1 = some l := fun p hp => by
  unfold encU at hp
  obtain ⟨q, hq, rfl⟩ := List.mem_map.1 hp
  have := h.k2 q hq
  exact keyU_ok q.1 this.1 this.2.1 (by omega)
theorem zt_S : (Tryz.prog.info? 167).bind (·.zero) = some (.agg #[.int .i64 0, .int .i64 0, .int .i64 0, .int .i64 0]) := by kernel_rfl
theorem zt_U : (Tryz.prog.info? 171).bind (·.zero) = some (.agg #[.string ⟨#[]⟩, .string ⟨#[]⟩, .int .i64 0, .int .i64 0, .int .i64 0]) := by kernel_rfl
theorem zd_S (F : Nat → Prop) (w : World) : Rep F w (.agg #[.int .i64 0, .int .i64 0, .int .i64 0, .int .i64 0]) (.agg (default : Sal).ds) := rep_aggv [.int .i64 0, .int .i64 0, .int .i64 0, .int .i64 0] rfl
theorem zd_U (F : Nat → Prop) (w : World) : Rep F w (.agg #[.string ⟨#[]⟩, .string ⟨#[]⟩, .int .i64 0, .int .i64 0, .int .i64 0]) (.agg (default : Unk).ds) := rep_aggv [.string ⟨#[]⟩, .string ⟨#[]⟩, .int .i64 0, .int .i64 0, .int .i64 0] rfl
theorem mt_S : Tryz.prog.underlying 159 = some (.map 165 167) := by kernel_rfl
theorem mt_U : Tryz.prog.underlying 160 = some (.map 169 171) := by kernel_rfl
theorem c_bsA (l : List Ali) (x : Ali) (hl : l.length ≤ 100000) : ACall Tryz.prog 85 [.sl (l.map Ali.ds), .agg x.ds, .clo (.func 86) []] (.tup [.v (.int .i64 (posA l x : Int)), .v (.bool (hasA l x))]) := by
 refine acall_of (n := 49) (ds' := [.v (.int .i64 (posA l x : Int)), .v (.bool (hasA l x))]) Tryz.func85 rfl (by kernel_rfl) rfl [6, 7] rfl rfl ?_
 intro B w0 F0 fr
 refine .sr (.sA (.box rfl rfl rfl) ?_)
 refine .aA ?_
 refine .aA (.nil ?_)
 refine .sr (.mA ?_)
 refine .sA (.lenSl rfl et_32.ht rfl) ?_
 refine .aA (.nil ?_)
 refine .sr (.mA ?_)
 refine .aA ?_
 refine .aA (.nil ?_)
 refine .seq (.block (.loop (G := Nat × Nat) (fun g => Env.of [(9, .d (.v (.int .i64 (g.1 : Int)))), (10, .d (.v (.int .i64 (g.2 : Int)))), (8, .d (.v (.int .i64 (l.length : Int)))), (0, .d (.sl (l.map Ali.ds))), (4, .d (.fp x.ds)), (2, .d (.clo (.func 86) []))]) (fun g => []) (fun g => g.1 ≤ g.2 ∧ g.2 ≤ l.length ∧ posA l x = bsr (ltQA l x) g.1 g.2) (fun g => g.2 - g.1) (0, l.length) ⟨Nat.zero_le _, Nat.le_refl _, rfl⟩ (Sub.less ⟨(SLe.i64 rfl), (SLe.i64 (by simp)), (SLe.i64 (by simp)), SLe.refl _, SLe.refl _, SLe.refl _, trivial⟩ (fun _ h => h)) ?_))
 rintro ⟨i, j⟩ ⟨hij, hjl, hb⟩
 dsimp only at hij hjl hb ⊢
 refine .seq (.sr (.mA ?_))
 refine .mA ?_
 refine .sA (.lss rfl rfl rfl) (.nil ?_)
 refine .cond rfl (fun h1 => ?_) (fun h1 => ?_)
 ·replace h1 := dcT h1
  have hlt : i < j := by omega
  refine .skip (.block (.sr (.mA ?_)))
  refine .mA ?_
  refine .sA (.add64 rfl rfl rfl (by omega) (by omega)) ?_
  refine .sA (.convSame rfl (by kernel_rfl) rfl (wrapU64 (by omega) (by omega))) ?_
  refine .sA (.half rfl rfl rfl) ?_
  refine .sA (.convSame rfl (by kernel_rfl) rfl (w64 (by omega) (by omega))) ?_
  refine .aA (.nil ?_)
  refine .seq (.draw (by kernel_rfl) (by kernel_rfl) ?_)
  refine .sA (.moveD rfl rfl) (.sA (.moveD rfl rfl) (.sA (.moveD rfl rfl) ?_))
  refine .sA (.indexAddr rfl et_32 rfl rfl ((i + j) / 2) (by omega) (at_lst (by omega)) rfl) ?_
  refine .sA (.loadAgg rfl ag_122 rfl rfl) (.sA (.loadAgg rfl ag_122 rfl rfl) (.sA (.callClo rfl rfl (.cons (.rfl' rfl) (.cons (.rfl' rfl) .nil)) (c_cmpAli l[(i + j) / 2] x)) (.sA (.lss rfl rfl rfl) ?_)))
  refine .nil ?_
  refine .cond rfl (fun h2 => ?_) (fun h2 => ?_)
  ·replace h2 := dcT h2
   have HB := bsr_up hlt (ltQA_t (by omega) h2)
   refine .region (.mA ?_)
   refine .sA (.add64 rfl rfl rfl (by omega) (by omega)) ?_
   refine .aA (.nil ?_)
   refine ⟨((i + j) / 2 + 1, j), ⟨by dsimp only; omega, by dsimp only; omega, by dsimp only; rw [hb]; exact HB⟩, (by dsimp only; omega), Sub.less ⟨(SLe.i64 (by dsimp only; omega)), (SLe.refl _), SLe.refl _, SLe.refl _, SLe.refl _, SLe.refl _, trivial⟩ (fun _ h => h)⟩
  replace h2 := dcF h2
  have HB := bsr_dn hlt (ltQA_f (by omega) h2)
  refine .region (.mA ?_)
  refine .aA (.nil ?_)
  refine ⟨(i, (i + j) / 2), ⟨by dsimp only; omega, by dsimp only; omega, by dsimp only; rw [hb]; exact HB⟩, (by dsimp only; omega), Sub.less ⟨(SLe.refl _), (SLe.i64 (by dsimp only; omega)), SLe.refl _, SLe.refl _, SLe.refl _, SLe.refl _, trivial⟩ (fun _ h => h)⟩
 replace h1 := dcF h1
 rw [bsr_end (by omega)] at hb
 refine .exit (.seq (.draw (by kernel_rfl) (by kernel_rfl) ?_))
 refine .sA (.moveD rfl rfl) (.sA (.moveD rfl rfl) (.sA (.moveD rfl rfl) (.sA (.lss rfl rfl rfl) (.sA (.moveD rfl rfl) ?_))))
 refine .split 39 rfl (fun g3 => ?_) (fun g3 => ?_)
 ·replace g3 := dcT g3
  have hil : i < l.length := by omega
  refine .sG (.moveD rfl rfl) ?_
  refine .sG (.moveD rfl rfl) ?_
  refine .sG (.moveD rfl rfl) ?_
  refine .sG (.indexAddr rfl et_32 rfl rfl i rfl (at_lst hil) rfl) ?_
  refine .sG (.loadAgg rfl ag_122 rfl rfl) ?_
  refine .sG (.loadAgg rfl ag_122 rfl rfl) ?_
  refine .sG (.callClo rfl rfl (.cons (.rfl' rfl) (.cons (.rfl' rfl) .nil)) (c_cmpAli l[i] x)) ?_
  refine .sG (.eql rfl rfl rfl) ?_
  refine .sA (.pickT rfl rfl rfl) (.sA (.assignD rfl rfl) (.sA (.assignD rfl rfl) ?_))
  refine .nil ?_
  refine .ret ?_
  refine ⟨RetD.eq rfl ?_, RetD.eq rfl ?_, trivial⟩
  all_goals (first | rfl | rw [hb] | rw [HX] | rw [hasA_k hil hb])
 replace g3 := dcF g3
 have HX : hasA l x = false := hasA_e (by omega) hb
 refine .pA ?_
 refine .pA ?_
 refine .pA ?_
 refine .pA ?_
 refine .pA ?_
 refine .pA ?_
 refine .pA ?_
 refine .pA ?_
 refine .sA (.pickF rfl rfl rfl) (.sA (.assignD rfl rfl) (.sA (.assignD rfl rfl) ?_))
 refine .nil ?_
 refine .ret ?_
 refine ⟨RetD.eq rfl ?_, RetD.eq rfl ?_, trivial⟩
 all_goals (first | rfl | rw [hb] | rw [HX] | rw [hasA_k hil hb])
namespace TyU5
theorem fo_36_0 : fieldOff Tryz.prog 36 0 = some 0 := by kernel_rfl
theorem sc_32 : Scal Tryz.prog 32 := .of (by kernel_rfl)
end TyU5
open TyF0 TyF1 TyF2 TyF3 TyF4 TyF5 TyF6 TyF11 TyG1 TyG2 TyG5 TyU1 TyU2 TyU3 TyU4 TyM1 TyM2 TyM3 TyM7 TyM8 TyM9 TyO1 TyM10 TyO2 TyU5
open Go.Lib
def prevG (l : List Grp) (k : Nat) : ByteArray := if h : 0 < k ∧ k ≤ l.length then (l[k-1]'(by omega)).name else ⟨#[]⟩
def prevD (l : List Deal) (k : Nat) : ByteArray := if h : 0 < k ∧ k ≤ l.length then (l[k-1]'(by omega)).name else ⟨#[]⟩
theorem nm_emp : nameOk ⟨#[]⟩ = false := nm_len (by decide)
theorem sle_nil {x : ByteArray} (h : ¬ nameOk x = false) : sle x ⟨#[]⟩ = false := by
  have h1 := slt_nil x
  unfold slt at h1
  unfold sle
  rw [h1, Bool.false_or]
  exact decide_eq_false fun e => h (by rw [e]; exact nm_emp)
theorem grpFB_eq {l : List Grp} {k : Nat} (h : k < l.length) : grpFB l[k] (prevG l k) = grpF l k := by
  unfold grpFB grpF prevG
  rw [dif_pos h]
  by_cases h1 : nameOk l[k].name = false
  · rw [if_pos h1, if_pos h1]
  · rw [if_neg h1, if_neg h1]
    by_cases h2 : 0 < k
    · rw [dif_pos ⟨h2, by omega⟩]
      by_cases h3 : sle l[k].name (l[k-1]'(by omega)).name = true
      · rw [if_pos h3, if_pos ⟨h2, h3⟩]
      · rw [if_neg h3, if_neg (fun hh => h3 hh.2)]
    · rw [dif_neg (fun hh => h2 hh.1), sle_nil h1, if_neg (by decide), if_neg (fun hh => h2 hh.1)]
theorem dealFB_eq {c : Ctr} {k : Nat} (h : k < c.deals.length) : dealFB c c.deals[k] (prevD c.deals k) = dealF c k := by
  unfold dealFB dealF prevD
  rw [dif_pos h]
  by_cases h1 : nameOk c.deals[k].name = false
  · rw [if_pos h1, if_pos h1]
  · rw [if_neg h1, if_neg h1]
    by_cases h2 : 0 < k
    · rw [dif_pos ⟨h2, by omega⟩]
      by_cases h3 : sle c.deals[k].name (c.deals[k-1]'(by omega)).name = true
      · rw [if_pos h3, if_pos ⟨h2, h3⟩]
      · rw [if_neg h3, if_neg (fun hh => h3 hh.2)]
    · rw [dif_neg (fun hh => h2 hh.1), sle_nil h1, if_neg (by decide), if_neg (fun hh => h2 hh.1)]
theorem prevG_next {l : List Grp} {k : Nat} (h : k < l.length) : prevG l (k + 1) = l[k].name := by unfold prevG; rw [dif_pos ⟨by omega, by omega⟩]; simp
theorem prevD_next {l : List Deal} {k : Nat} (h : k < l.length) : prevD l (k + 1) = l[k].name := by unfold prevD; rw [dif_pos ⟨by omega, by omega⟩]; simp
def okCtr (c : Ctr) : Prop := (∀ x ∈ c.als, x.source.size ≤ 9223372036854775807 ∧ x.title.size ≤ 9223372036854775807) ∧ (∀ g ∈ c.groups, okGrp g) ∧ ∀ d ∈ c.deals, d.name.size ≤ 9223372036854775807
theorem c_pCtr (c : Ctr) (hc : okCtr c) : ACallT Tryz.prog MaxT 62 [.agg c.ds] (.v (.int .i64 (ctrF c))) := by
 refine acall_ofT (n := 60) (ds' := [.v (.int .i64 (ctrF c))]) Tryz.func62 rfl (by kernel_rfl) rfl [2] rfl rfl ?_
 intro B w0 F0 hT
 refine .sr (.sA (.box rfl rfl rfl) ?_)
 refine .aA (.nil ?_)
 refine .seq (.sr (.sA (.fieldAddr rfl fo_36_0 rfl) ?_))
 refine .sA (.load rfl sc_32 rfl) ?_
 -- wants the world
 refine .callT rfl rfl rfl hT maxT_stays rfl (.cons (.rfl' rfl) .nil) (c_pAlis c.als hc.1) ?_
 refine .aA (.nil ?_)
 refine .sr (.mA ?_)
 refine .sA (.neq rfl rfl rfl) (.nil ?_)
 refine .cond rfl (fun h1 => ?_) (fun h1 => ?_)
 ·replace h1 := dcT h1
  have HR : ctrF c = alisF c.als := if_pos h1
  refine .sr (.mA ?_)
  refine .aA (.nil ?_)
  refine .ret ?_
  refine ⟨RetD.eq rfl ?_, trivial⟩
  all_goals (rw [HR])
 replace h1 := dcF h1
 have n1 : ¬ alisF c.als ≠ 0 := h1
 refine .skip (.seq (.sr (.sA (.fieldAddr rfl fo_36_1 rfl) ?_)))
 refine .sA (.load rfl sc_33 rfl) (.sA (.lenSl rfl et_33.ht rfl) (.sA (.gtr rfl rfl rfl) ?_))
 refine .mA ?_
 refine .split 21 rfl (fun g2 => ?_) (fun g2 => ?_)
 ·replace g2 := dcT g2
  rw [List.length_map] at g2
  have HR : ctrF c = 2 := by unfold ctrF; rw [if_neg n1, if_pos (by omega)]
  refine .pA ?_
  refine .pA ?_
  refine .pA ?_
  refine .pA ?_
  refine .sA (.pickT rfl rfl rfl) (.nil ?_)
  refine .cond rfl (fun _ => ?_) (fun h => nomatch h)
  refine .sr ?_
  refine .aA (.nil ?_)
  refine .ret ?_
  refine ⟨RetD.eq rfl ?_, trivial⟩
  all_goals (rw [HR])
 replace g2 := dcF g2
 rw [List.length_map] at g2
 refine .sG (.fieldAddr rfl fo_36_2 rfl) ?_
 refine .sG (.load rfl sc_34 rfl) ?_
 refine .sG (.lenSl rfl et_34.ht rfl) ?_
 refine .sG (.gtr rfl rfl rfl) ?_
 refine .sA (.pickF rfl rfl rfl) (.nil ?_)
 refine .cond rfl (fun h3 => ?_) (fun h3 => ?_)
 ·replace h3 := dcT h3
  rw [List.length_map] at h3
  have HR : ctrF c = 2 := by unfold ctrF; rw [if_neg n1, if_pos (by omega)]
  refine .sr ?_
  refine .aA (.nil ?_)
  refine .ret ?_
  refine ⟨RetD.eq rfl ?_, trivial⟩
  all_goals (rw [HR])
 replace h3 := dcF h3
 rw [List.length_map] at h3
 have n2 : ¬ (40 < c.deals.length ∨ 20 < c.groups.length) := by omega
 refine .skip (.sr ?_)
 refine .aA (.nil ?_)
 refine .seq (.sr (.sA (.fieldAddr rfl fo_36_2 rfl) ?_))
 refine .sA (.load rfl sc_34 rfl) (.sA (.lenSl rfl et_34.ht rfl) ?_)
 refine .mA (.nil ?_)
 refine .block (.loop (G := Nat) (fun k => Env.of [(30, .d (.v (.int .i64 (k : Int)))), (28, .d (.sl (c.groups.map Grp.ds))), (29, .d (.v (.int .i64 ((c.groups.map Grp.ds).length : Int)))), (1, .d (.fp c.ds)), (4, .d (.v (.string (prevG c.groups k))))]) (fun k => []) (fun k => k ≤ c.groups.length ∧ ffst (grpF c.groups) k = 0) (fun k => c.groups.length - k) 0 ⟨Nat.zero_le _, rfl⟩ (Sub.less ⟨(SLe.of_eq rfl), SLe.refl _, SLe.refl _, SLe.refl _, (SLe.of_eq rfl), trivial⟩ (fun _ h => h)) ?_)
 intro k hk
 refine .sr ?_
 refine .sA (.lss rfl rfl rfl) (.nil ?_)
 refine .seq ?_
 refine .cond rfl (fun h4 => ?_) (fun h4 => ?_)
 ·replace h4 := dcT h4
  rw [List.length_map] at h4
  have hlt : k < c.groups.length := by omega
  have hgk := hc.2.1 _ (List.getElem_mem hlt)
  refine .skip (.seq (.block (.sr (.sA (.indexAddr rfl et_34 rfl rfl k rfl (at_lst hlt) rfl) ?_))))
  refine .sA (.loadAgg rfl ag_128 rfl rfl) ?_
  refine .alloc 101 rfl rfl rfl rfl zt_128 rfl rfl rfl ?_
  refine .store rfl rfl rfl sz_128 rfl (.head _) rfl rfl rfl (Nat.le_of_ble_eq_true rfl) ?_
  refine .freezeCells 6 (ds := c.groups[k].ds) rfl (.head _) (.nil ?_)
  refine .seq (.sr (.sA (.loadAgg rfl ag_128 rfl rfl) ?_))
  refine .mA ?_
  refine .sA (.call rfl (.cons (.rfl' rfl) (.cons (.rfl' rfl) .nil)) (c_pGrp c.groups[k] (prevG c.groups k) hgk)) ?_
  rw [grpFB_eq hlt]
  refine .aA (.nil ?_)
  refine .sr (.mA ?_)
  refine .sA (.neq rfl rfl rfl) (.nil ?_)
  refine .cond rfl (fun h5 => ?_) (fun h5 => ?_)
  ·replace h5 := dcT h5
   have e2 := ffst_hit (f := grpF c.groups) hk.2 (by exact h5) _ hlt
   have HR : ctrF c = grpF c.groups k := by unfold ctrF; rw [if_neg n1, if_neg n2, if_pos (by rw [e2]; exact h5), e2]
   refine .sr (.mA ?_)
   refine .aA (.nil ?_)
   refine .ret ?_
   refine ⟨RetD.eq rfl ?_, trivial⟩
   all_goals (rw [HR])
  replace h5 := dcF h5
  have e0 : grpF c.groups k = 0 := by omega
  refine .skip (.region (.sA (.fieldAddr rfl fo_128_0 rfl) ?_))
  refine .sA (.load rfl sc_9 rfl) ?_
  refine .aA (.nil ?_)
  refine .region (.sA (.add64 rfl rfl rfl (by omega) (by omega)) ?_)
  refine .mA (.nil ?_)
  refine ⟨k + 1, ⟨by omega, ffst_next hk.2 e0⟩, (by dsimp only; omega), Sub.less ⟨(SLe.of_eq rfl), SLe.refl _, SLe.refl _, SLe.refl _, (SLe.of_eq (by rw [prevG_next hlt]; rfl)), trivial⟩ (fun _ h => h)⟩
 replace h4 := dcF h4
 rw [List.length_map] at h4
 have HZ : ffst (grpF c.groups) c.groups.length = 0 := by rw [show c.groups.length = k by omega]; exact hk.2
 refine .exit (.sr ?_)
 refine .aA (.nil ?_)
 refine .seq (.sr (.sA (.fieldAddr rfl fo_36_1 rfl) ?_))
 refine .sA (.load rfl sc_33 rfl) (.sA (.lenSl rfl et_33.ht rfl) ?_)
 refine .mA (.nil ?_)
 refine .block (.loop (G := Nat) (fun k => Env.of [(46, .d (.v (.int .i64 (k : Int)))), (44, .d (.sl (c.deals.map Deal.ds))), (45, .d (.v (.int .i64 ((c.deals.map Deal.ds).length : Int)))), (1, .d (.fp c.ds)), (4, .d (.v (.string (prevD c.deals k))))]) (fun k => []) (fun k => k ≤ c.deals.length ∧ ffst (dealF c) k = 0) (fun k => c.deals.length - k) 0 ⟨Nat.zero_le _, rfl⟩ (Sub.less ⟨(SLe.of_eq rfl), SLe.refl _, SLe.refl _, SLe.refl _, (SLe.of_eq rfl), trivial⟩ (fun _ h => h)) ?_)
 intro k hk
 refine .sr ?_
 refine .sA (.lss rfl rfl rfl) (.nil ?_)
 refine .seq ?_
 refine .cond rfl (fun h6 => ?_) (fun h6 => ?_)
 ·replace h6 := dcT h6
  rw [List.length_map] at h6
  have hlt : k < c.deals.length := by omega
  have hdk := hc.2.2 _ (List.getElem_mem hlt)
  refine .skip (.seq (.block (.sr (.sA (.indexAddr rfl et_33 rfl rfl k rfl (at_lst hlt) rfl) ?_))))
  refine .sA (.loadAgg rfl ag_63 rfl rfl) ?_
  refine .alloc 102 rfl rfl rfl rfl zt_63 rfl rfl rfl ?_
  refine .store rfl rfl rfl sz_63 rfl (.head _) rfl rfl rfl (Nat.le_of_ble_eq_true rfl) ?_
  refine .freezeCells 9 (ds := c.deals[k].ds) rfl (.head _) (.nil ?_)
  refine .seq (.sr (.sA (.loadAgg rfl ag_36 rfl rfl) ?_))
  refine .sA (.loadAgg rfl ag_63 rfl rfl) ?_
  refine .mA ?_
  refine .sA (.call rfl (.cons (.rfl' rfl) (.cons (.rfl' rfl) (.cons (.rfl' rfl) .nil))) (c_pDeal c c.deals[k] (prevD c.deals k) hdk)) ?_
  rw [dealFB_eq hlt]
  refine .aA (.nil ?_)
  refine .sr (.mA ?_)
  refine .sA (.neq rfl rfl rfl) (.nil ?_)
  refine .cond rfl (fun h7 => ?_) (fun h7 => ?_)
  ·replace h7 := dcT h7
   have e2 := ffst_hit (f := (dealF c)) hk.2 (by exact h7) _ hlt
   have HR : ctrF c = (dealF c) k := by unfold ctrF; rw [if_neg n1, if_neg n2, if_neg (by rw [HZ]; decide), e2]
   refine .sr (.mA ?_)
   refine .aA (.nil ?_)
   refine .ret ?_
   refine ⟨RetD.eq rfl ?_, trivial⟩
   all_goals (rw [HR])
  replace h7 := dcF h7
  have e0 : dealF c k = 0 := by omega
  refine .skip (.region (.sA (.fieldAddr rfl fo_63_0 rfl) ?_))
  refine .sA (.load rfl sc_9 rfl) ?_
  refine .aA (.nil ?_)
  refine .region (.sA (.add64 rfl rfl rfl (by omega) (by omega)) ?_)
  refine .mA (.nil ?_)
  refine ⟨k + 1, ⟨by omega, ffst_next hk.2 e0⟩, (by dsimp only; omega), Sub.less ⟨(SLe.of_eq rfl), SLe.refl _, SLe.refl _, SLe.refl _, (SLe.of_eq (by rw [prevD_next hlt]; rfl)), trivial⟩ (fun _ h => h)⟩
 replace h6 := dcF h6
 rw [List.length_map] at h6
 have HR : ctrF c = 0 := by unfold ctrF; rw [if_neg n1, if_neg n2, if_neg (by rw [HZ]; decide), show c.deals.length = k by omega]; exact hk.2
 refine .exit (.sr ?_)
 refine .aA (.nil ?_)
 refine .ret ?_
 refine ⟨RetD.eq rfl ?_, trivial⟩
 all_goals (rw [HR])
namespace TyU6
theorem ag_105 : AggT Tryz.prog 105 3 := .of (by kernel_rfl)
theorem et_38 : ElemTy Tryz.prog 38 105 3 32 (.agg #[(.string ⟨#[]⟩), (.int .i64 0), (.int .i64 0)]) := ⟨by kernel_rfl, by kernel_rfl, by kernel_rfl, by decide⟩
theorem fo_105_0 : fieldOff Tryz.prog 105 0 = some 0 := by kernel_rfl
theorem fo_105_1 : fieldOff Tryz.prog 105 1 = some 1 := by kernel_rfl
theorem fo_105_2 : fieldOff Tryz.prog 105 2 = some 2 := by kernel_rfl
theorem fo_40_0 : fieldOff Tryz.prog 40 0 = some 0 := by kernel_rfl
theorem fo_40_1 : fieldOff Tryz.prog 40 1 = some 3 := by kernel_rfl
theorem fo_40_2 : fieldOff Tryz.prog 40 2 = some 4 := by kernel_rfl
theorem fo_40_3 : fieldOff Tryz.prog 40 3 = some 5 := by kernel_rfl
theorem fo_40_4 : fieldOff Tryz.prog 40 4 = some 6 := by kernel_rfl
theorem sc_38 : Scal Tryz.prog 38 := .of (by kernel_rfl)
theorem sz_105 : ∀ w, (sizeOf 105).run Tryz.prog w = .ok 3 w := SizeT.of (by kernel_rfl)
theorem zt_105 : (Tryz.prog.info? 105).bind (·.zero) = some (.agg #[(.string ⟨#[]⟩), (.int .i64 0), (.int .i64 0)]) := by kernel_rfl
end TyU6
open TyF0 TyF1 TyF2 TyF3 TyF4 TyF5 TyF6 TyF11 TyG1 TyG2 TyG5 TyU1 TyU2 TyU3 TyU4 TyM1 TyM2 TyM3 TyM7 TyM8 TyM9 TyO1 TyM10 TyO2 TyU5 TyU6
open Go.Lib
theorem orI_hld (a b : Hld) : orI [strCmp a.deal b.deal, if a.period < b.period then -1 else if b.period < a.period then 1 else 0] = hldCmp a b := by
  rw [orI_two]
  unfold hldCmp
  by_cases h : a.deal = b.deal
  · rw [if_pos (strCmp_zero.2 h), if_pos h]
    split
    · rfl
    · split
      · split
        · omega
        · rfl
      · split
        · rfl
        · omega
  · rw [if_neg (fun hh => h (strCmp_zero.1 hh)), if_neg h]
def hLess (a b : Hld) : Bool := decide (hldCmp a b < 0)
def okBks (b : Bks) : Prop := okCtr b.ctr
theorem c_cmpHld (a b : Hld) : ACall Tryz.prog 131 [.agg a.ds, .agg b.ds] (.v (.int .i64 (hldCmp a b))) := by
 refine acall_of (n := 17) (ds' := [.v (.int .i64 (hldCmp a b))]) Tryz.func131 rfl (by kernel_rfl) rfl [4] rfl rfl ?_
 intro B w0 F0 fr
 refine .sr (.sA (.box rfl rfl rfl) ?_)
 refine .sA (.box rfl rfl rfl) ?_
 refine .aA (.nil ?_)
 refine .seq (.draw (by kernel_rfl) (by kernel_rfl) ?_)
 refine .sA (.fieldAddr rfl fo_105_0 rfl) (.sA (.load rfl sc_9 rfl) (.sA (.fieldAddr rfl fo_105_0 rfl) (.sA (.load rfl sc_9 rfl) (.sA (.call rfl (.cons (.rfl' rfl) (.cons (.rfl' rfl) .nil)) (c_strCmp _ _)) (.sA (.fieldAddr rfl fo_105_1 rfl) ?_)))))
 refine .sA (.load rfl sc_3 rfl) (.sA (.fieldAddr rfl fo_105_1 rfl) (.sA (.load rfl sc_3 rfl) (.sA (.call rfl (.cons (.rfl' rfl) (.cons (.rfl' rfl) .nil)) (c_cmpInt _ _)) ?_)))
 refine .sA (.buildSlice rfl et_37 (.cons rfl rfl rfl (.cons rfl rfl rfl .nil)) rfl (by decide)) ?_
 refine .sA (.call rfl (.cons (.rfl' rfl) .nil) (c_or [strCmp a.deal b.deal, if a.period < b.period then -1 else if b.period < a.period then 1 else 0])) (.sA (.assignD rfl rfl) ?_)
 refine .nil ?_
 refine .ret ?_
 refine ⟨RetD.eq rfl ?_, trivial⟩
 all_goals (rw [orI_hld])
theorem c_hAt1 (x : Deal) (h : Hld) : ACall Tryz.prog 130 [.agg x.ds, .fp h.ds] (.v (.bool (decide (x.name = h.deal)))) := by
 refine acall_of (n := 9) (ds' := [.v (.bool (decide (x.name = h.deal)))]) Tryz.func130 rfl (by kernel_rfl) rfl [3] rfl rfl ?_
 intro B w0 F0 fr
 refine .sr (.sA (.box rfl rfl rfl) ?_)
 refine .aA (.nil ?_)
 refine .sr (.sA (.fieldAddr rfl fo_63_0 rfl) ?_)
 refine .sA (.load rfl sc_9 rfl) (.sA (.fieldAddr rfl fo_105_0 rfl) (.sA (.load rfl sc_9 rfl) (.sA (.seql rfl rfl rfl) ?_)))
 refine .aA (.nil ?_)
 refine .ret ?_
 refine ⟨RetD.eq rfl ?_, trivial⟩
 all_goals (rfl)
theorem c_hasDeal (l : List Deal) (p : Deal → Bool) (f : Nat) (caps : List D) (hp : ∀ x : Deal, ACall Tryz.prog f (.agg x.ds :: caps) (.v (.bool (p x)))) : ACall Tryz.prog 129 [.sl (l.map Deal.ds), .clo (.func f) caps] (.v (.bool (l.any p))) := by
 refine acall_of (n := 9) (ds' := [.v (.bool (l.any p))]) Tryz.func129 rfl (by kernel_rfl) rfl [4] rfl rfl ?_
 intro B w0 F0 fr
 refine .sr ?_
 refine .aA (.nil ?_)
 refine .sr (.mA ?_)
 refine .mA ?_
 refine .sA (.call rfl (.cons (.rfl' rfl) (.cons (.rfl' rfl) .nil)) (c_ixDeal l p f caps hp)) (.sA (.geq rfl rfl rfl) ?_)
 refine .aA (.nil ?_)
 refine .ret ?_
 refine ⟨RetD.eq rfl ?_, trivial⟩
 all_goals (refine congrArg (fun z => D.v (.bool z)) ?_; have h0 := idx_any (p := p) (l := l); cases ha : l.any p with | true => exact decide_eq_true (by have : ¬ idxBy p l < 0 := fun hh => (by rw [h0.1 hh] at ha; cases ha); omega) | false => exact decide_eq_false (by have := h0.2 ha; omega))
theorem c_pBks (b : Bks) (hb : okBks b) : ACallT Tryz.prog MaxT 83 [.agg b.ds] (.v (.int .i64 (bksF b))) := by
 refine acall_ofT (n := 103) (ds' := [.v (.int .i64 (bksF b))]) Tryz.func83 rfl (by kernel_rfl) rfl [2] rfl rfl ?_
 intro B w0 F0 hT
 refine .sr (.sA (.box rfl rfl rfl) ?_)
 refine .aA (.nil ?_)
 refine .seq (.sr (.sA (.fieldAddr rfl fo_40_0 rfl) ?_))
 refine .sA (.loadAggT rfl ag_36 rfl (Nat.le_of_ble_eq_true rfl)) ?_
 -- wants the world
 refine .callT rfl rfl rfl hT maxT_stays rfl (.cons (.rfl' rfl) .nil) (c_pCtr b.ctr hb) ?_
 refine .aA (.nil ?_)
 refine .sr (.mA ?_)
 refine .sA (.neq rfl rfl rfl) (.nil ?_)
 refine .cond rfl (fun h1 => ?_) (fun h1 => ?_)
 ·replace h1 := dcT h1
  have HR : bksF b = ctrF b.ctr := if_pos h1
  refine .sr (.mA ?_)
  refine .aA (.nil ?_)
  refine .ret ?_
  refine ⟨RetD.eq rfl ?_, trivial⟩
  all_goals (rw [HR])
 replace h1 := dcF h1
 have n1 : ¬ ctrF b.ctr ≠ 0 := h1
 refine .skip (.seq (.sr (.sA (.fieldAddr rfl fo_40_1 rfl) ?_)))
 refine .sA (.load rfl sc_3 rfl) (.sA (.call rfl (.cons (.rfl' rfl) (.cons (.rfl' rfl) (.cons (.rfl' rfl) .nil))) (c_pIn _ _ _)) ?_)
 refine .sA (.not rfl rfl) (.nil ?_)
 refine .cond rfl (fun h2 => ?_) (fun h2 => ?_)
 ·replace h2 := bnot_t h2; replace h2 := dcF h2
  have HR : bksF b = 1 := by unfold bksF; rw [if_neg n1, if_pos h2]
  refine .sr ?_
  refine .aA (.nil ?_)
  refine .ret ?_
  refine ⟨RetD.eq rfl ?_, trivial⟩
  all_goals (rw [HR])
 replace h2 := bnot_f h2; replace h2 := dcT h2
 have n2 := h2
 refine .skip (.seq (.sr (.sA (.fieldAddr rfl fo_40_2 rfl) ?_)))
 refine .sA (.load rfl sc_37 rfl) (.sA (.lenSl rfl et_37.ht rfl) (.sA (.fieldAddr rfl fo_40_0 rfl) (.sA (.fieldAddr rfl fo_36_1 rfl) (.sA (.load rfl sc_33 rfl) (.sA (.lenSl rfl et_33.ht rfl) ?_)))))
 refine .sA (.neq rfl rfl rfl) ?_
 refine .mA ?_
 refine .split 28 rfl (fun g3 => ?_) (fun g3 => ?_)
 ·replace g3 := dcT g3
  rw [List.length_map, List.length_map] at g3
  have HR : bksF b = 3 := by unfold bksF; rw [if_neg n1, if_neg (Decidable.not_not.2 n2), if_pos (by omega)]
  refine .pA ?_
  refine .pA ?_
  refine .pA ?_
  refine .pA ?_
  refine .pA ?_
  refine .pA ?_
  refine .pA ?_
  refine .pA ?_
  refine .sA (.pickT rfl rfl rfl) (.nil ?_)
  refine .cond rfl (fun _ => ?_) (fun h => nomatch h)
  refine .sr ?_
  refine .aA (.nil ?_)
  refine .ret ?_
  refine ⟨RetD.eq rfl ?_, trivial⟩
  all_goals (rw [HR])
 replace g3 := dcF g3
 rw [List.length_map, List.length_map] at g3
 refine .sG (.fieldAddr rfl fo_40_4 rfl) ?_
 refine .sG (.load rfl sc_37 rfl) ?_
 refine .sG (.lenSl rfl et_37.ht rfl) ?_
 refine .sG (.fieldAddr rfl fo_40_0 rfl) ?_
 refine .sG (.fieldAddr rfl fo_36_2 rfl) ?_
 refine .sG (.load rfl sc_34 rfl) ?_
 refine .sG (.lenSl rfl et_34.ht rfl) ?_
 refine .sG (.neq rfl rfl rfl) ?_
 refine .sA (.pickF rfl rfl rfl) (.nil ?_)
 refine .cond rfl (fun h4 => ?_) (fun h4 => ?_)
 ·replace h4 := dcT h4
  rw [List.length_map, List.length_map] at h4
  have HR : bksF b = 3 := by unfold bksF; rw [if_neg n1, if_neg (Decidable.not_not.2 n2), if_pos (by omega)]
  refine .sr ?_
  refine .aA (.nil ?_)
  refine .ret ?_
  refine ⟨RetD.eq rfl ?_, trivial⟩
  all_goals (rw [HR])
 replace h4 := dcF h4
 rw [List.length_map, List.length_map] at h4
 have n3 : ¬ (b.stated.length ≠ b.ctr.deals.length ∨ b.bal.length ≠ b.ctr.groups.length) := by omega
 refine .skip (.seq (.sr (.sA (.fieldAddr rfl fo_40_2 rfl) ?_)))
 refine .sA (.load rfl sc_37 rfl) (.sA (.lenSl rfl et_37.ht rfl) ?_)
 refine .mA (.nil ?_)
 refine .block ?_
 refine .bound 39 rfl (fun hbd => ?_)
 rw [List.length_map] at hbd
 refine .loop (G := Nat) (fun k => Env.of [(41, .d (.v (.int .i64 (k : Int)))), (39, .d (.sl (b.stated.map intD))), (40, .d (.v (.int .i64 ((b.stated.map intD).length : Int)))), (1, .d (.fp b.ds))]) (fun k => []) (fun k => k ≤ b.stated.length ∧ ffst (statF b.stated) k = 0) (fun k => b.stated.length - k) 0 ⟨Nat.zero_le _, rfl⟩ (Sub.less ⟨(SLe.of_eq rfl), SLe.refl _, SLe.refl _, SLe.refl _, trivial⟩ (fun _ h => h)) ?_
 intro k hk
 refine .sr ?_
 refine .sA (.lss rfl rfl rfl) (.nil ?_)
 refine .seq ?_
 refine .cond rfl (fun h5 => ?_) (fun h5 => ?_)
 ·replace h5 := dcT h5
  rw [List.length_map] at h5
  have hlt : k < b.stated.length := by omega
  refine .skip (.seq (.block (.sr (.sA (.indexAddr rfl et_37 rfl rfl k rfl (at_lst hlt) rfl) ?_))))
  refine .sA (.load rfl sc_3 rfl) ?_
  refine .aA (.nil ?_)
  refine .sr (.mA ?_)
  refine .sA (.call rfl (.cons (.rfl' rfl) (.cons (.rfl' rfl) (.cons (.rfl' rfl) .nil))) (c_pIn _ _ _)) ?_
  refine .sA (.not rfl rfl) (.nil ?_)
  refine .cond rfl (fun h6 => ?_) (fun h6 => ?_)
  ·replace h6 := bnot_t h6; replace h6 := dcF h6
   have n4 := h6
   have e1 : statF b.stated k = 1 := by unfold statF; rw [dif_pos hlt]; grind
   have e2 := ffst_hit (f := statF b.stated) hk.2 (by rw [e1]; decide) _ hlt
   have HR : bksF b = 1 := by unfold bksF; rw [if_neg n1, if_neg (Decidable.not_not.2 n2), if_neg n3, if_pos (by rw [e2, e1]; decide), e2, e1]
   refine .sr ?_
   refine .aA (.nil ?_)
   refine .ret ?_
   refine ⟨RetD.eq rfl ?_, trivial⟩
   all_goals (rw [HR])
  replace h6 := bnot_f h6; replace h6 := dcT h6
  have n4 := h6
  have e0 : statF b.stated k = 0 := by unfold statF; rw [dif_pos hlt]; grind
  refine .skip (.region (.sA (.add64 rfl rfl rfl (by omega) (by omega)) ?_))
  refine .mA (.nil ?_)
  refine ⟨k + 1, ⟨by omega, ffst_next hk.2 e0⟩, (by dsimp only; omega), Sub.less ⟨(SLe.of_eq rfl), SLe.refl _, SLe.refl _, SLe.refl _, trivial⟩ (fun _ h => h)⟩
 replace h5 := dcF h5
 rw [List.length_map] at h5
 have HS : ffst (statF b.stated) b.stated.length = 0 := by rw [show b.stated.length = k by omega]; exact hk.2
 refine .exit (.seq (.sr (.sA (.fieldAddr rfl fo_40_3 rfl) ?_)))
 refine .sA (.load rfl sc_38 rfl) (.sA (.lenSl rfl et_38.ht rfl) ?_)
 refine .mA (.nil ?_)
 refine .block ?_
 refine .bound 50 rfl (fun hbd => ?_)
 rw [List.length_map] at hbd
 refine .loop (G := Nat) (fun k => Env.of [(52, .d (.v (.int .i64 (k : Int)))), (50, .d (.sl (b.held.map Hld.ds))), (51, .d (.v (.int .i64 ((b.held.map Hld.ds).length : Int)))), (1, .d (.fp b.ds))]) (fun k => []) (fun k => k ≤ b.held.length ∧ ffst (hldF b) k = 0) (fun k => b.held.length - k) 0 ⟨Nat.zero_le _, rfl⟩ (Sub.less ⟨(SLe.of_eq rfl), SLe.refl _, SLe.refl _, SLe.refl _, trivial⟩ (fun _ h => h)) ?_
 intro k hk
 refine .sr ?_
 refine .sA (.lss rfl rfl rfl) (.nil ?_)
 refine .seq ?_
 refine .cond rfl (fun h7 => ?_) (fun h7 => ?_)
 ·replace h7 := dcT h7
  rw [List.length_map] at h7
  have hlt : k < b.held.length := by omega
  refine .skip (.seq (.block (.sr (.mA ?_))))
  refine .sA (.indexAddr rfl et_38 rfl rfl k rfl (at_lst hlt) rfl) (.sA (.loadAgg rfl ag_105 rfl rfl) ?_)
  refine .alloc 101 rfl rfl rfl rfl zt_105 rfl rfl rfl ?_
  refine .aA ?_
  refine .store rfl rfl rfl sz_105 rfl (.head _) rfl rfl rfl (Nat.le_of_ble_eq_true rfl) ?_
  refine .freezeCells 7 (ds := b.held[k].ds) rfl (.head _) (.nil ?_)
  refine .block (.sr (.sA (.fieldAddr rfl fo_40_0 rfl) ?_))
  refine .sA (.fieldAddr rfl fo_36_1 rfl) (.sA (.load rfl sc_33 rfl) (.sA (.makeFunc rfl (.cons (.rfl' rfl) .nil)) (.sA (.call rfl (.cons (.rfl' rfl) (.cons (.rfl' rfl) .nil)) (c_hasDeal b.ctr.deals (fun x => decide (x.name = b.held[k].deal)) 130 _ (fun x => c_hAt1 x b.held[k]))) (.sA (.not rfl rfl) ?_))))
  refine .aA (.nil ?_)
  refine .cond rfl (fun h8 => ?_) (fun h8 => ?_)
  ·replace h8 := bnot_t h8
   have n5 : dealIdx b.ctr.deals b.held[k].deal = false := h8
   have e1 : (hldF b) k = 9 := by unfold hldF; rw [dif_pos hlt]; grind
   have e2 := ffst_hit (f := (hldF b)) hk.2 (by rw [e1]; decide) _ hlt
   have HR : bksF b = 9 := by unfold bksF; rw [if_neg n1, if_neg (Decidable.not_not.2 n2), if_neg n3, if_neg (by rw [HS]; decide), if_pos (by rw [e2, e1]; decide), e2, e1]
   refine .sr ?_
   refine .aA (.nil ?_)
   refine .ret ?_
   refine ⟨RetD.eq rfl ?_, trivial⟩
   all_goals (rw [HR])
  replace h8 := bnot_f h8
  have n5 : ¬ dealIdx b.ctr.deals b.held[k].deal = false := fun hh => by rw [show dealIdx b.ctr.deals b.held[k].deal = true from h8] at hh; cases hh
  refine .seq (.draw (by kernel_rfl) (by kernel_rfl) ?_)
  refine .sA (.moveD rfl rfl) (.sA (.gtr rfl rfl rfl) (.sA (.moveD rfl rfl) ?_))
  refine .split 67 rfl (fun g9 => ?_) (fun g9 => ?_)
  ·replace g9 := dcT g9
   have hk0 : 0 < k := by omega
   refine .sG (.fieldAddr rfl fo_40_3 rfl) ?_
   refine .sG (.load rfl sc_38 rfl) ?_
   refine .sG (.moveD rfl rfl) ?_
   refine .sG (.sub64 rfl rfl rfl (by omega) (by omega)) ?_
   refine .sG (.indexAddr rfl et_38 rfl rfl (k - 1) (by omega) (at_lst (by omega)) rfl) ?_
   refine .sG (.loadAgg rfl ag_105 rfl rfl) ?_
   refine .sG (.loadAgg rfl ag_105 rfl rfl) ?_
   refine .sG (.call rfl (.cons (.rfl' rfl) (.cons (.rfl' rfl) .nil)) (c_cmpHld _ _)) ?_
   refine .sG (.geq rfl rfl rfl) ?_
   refine .sA (.pickT rfl rfl rfl) (.sA (.assignD rfl rfl) ?_)
   refine .nil ?_
   refine .cond rfl (fun h10 => ?_) (fun h10 => ?_)
   ·replace h10 := dcT h10
    have n6 : (0 < k ∧ 0 ≤ hldCmp (b.held[k-1]'(by omega)) b.held[k]) := ⟨hk0, by omega⟩
    have e1 : (hldF b) k = 8 := by unfold hldF; rw [dif_pos hlt]; grind
    have e2 := ffst_hit (f := (hldF b)) hk.2 (by rw [e1]; decide) _ hlt
    have HR : bksF b = 8 := by unfold bksF; rw [if_neg n1, if_neg (Decidable.not_not.2 n2), if_neg n3, if_neg (by rw [HS]; decide), if_pos (by rw [e2, e1]; decide), e2, e1]
    refine .sr ?_
    refine .aA (.nil ?_)
    refine .ret ?_
    refine ⟨RetD.eq rfl ?_, trivial⟩
    all_goals (rw [HR])
   replace h10 := dcF h10
   have n6 : ¬ (0 < k ∧ 0 ≤ hldCmp (b.held[k-1]'(by omega)) b.held[k]) := fun hh => h10 hh.2
   refine .sr (.sA (.fieldAddr rfl fo_105_1 rfl) ?_)
   refine .sA (.load rfl sc_3 rfl) (.sA (.fieldAddr rfl fo_40_1 rfl) (.sA (.load rfl sc_3 rfl) (.sA (.call rfl (.cons (.rfl' rfl) (.cons (.rfl' rfl) (.cons (.rfl' rfl) .nil))) (c_pIn _ _ _)) (.sA (.not rfl rfl) ?_))))
   refine .mA ?_
   refine .split 85 rfl (fun g11 => ?_) (fun g11 => ?_)
   ·replace g11 := bnot_t g11; replace g11 := dcF g11
    have e1 : (hldF b) k = 1 := by unfold hldF; rw [dif_pos hlt]; grind
    have e2 := ffst_hit (f := (hldF b)) hk.2 (by rw [e1]; decide) _ hlt
    have HR : bksF b = 1 := by unfold bksF; rw [if_neg n1, if_neg (Decidable.not_not.2 n2), if_neg n3, if_neg (by rw [HS]; decide), if_pos (by rw [e2, e1]; decide), e2, e1]
    refine .pA ?_
    refine .pA ?_
    refine .pA ?_
    refine .pA ?_
    refine .sA (.pickT rfl rfl rfl) ?_
    refine .aA (.nil ?_)
    refine .cond rfl (fun _ => ?_) (fun h => nomatch h)
    refine .sr ?_
    refine .aA (.nil ?_)
    refine .ret ?_
    refine ⟨RetD.eq rfl ?_, trivial⟩
    all_goals (rw [HR])
   replace g11 := bnot_f g11; replace g11 := dcT g11
   refine .sG (.fieldAddr rfl fo_105_2 rfl) ?_
   refine .sG (.load rfl sc_3 rfl) ?_
   refine .sG (.call rfl (.cons (.rfl' rfl) (.cons (.rfl' rfl) (.cons (.rfl' rfl) .nil))) (c_pIn _ _ _)) ?_
   refine .sG (.not rfl rfl) ?_
   refine .sA (.pickF rfl rfl rfl) ?_
   refine .aA (.nil ?_)
   refine .cond rfl (fun h12 => ?_) (fun h12 => ?_)
   ·replace h12 := bnot_t h12; replace h12 := dcF h12
    have e1 : (hldF b) k = 1 := by unfold hldF; rw [dif_pos hlt]; grind
    have e2 := ffst_hit (f := (hldF b)) hk.2 (by rw [e1]; decide) _ hlt
    have HR : bksF b = 1 := by unfold bksF; rw [if_neg n1, if_neg (Decidable.not_not.2 n2), if_neg n3, if_neg (by rw [HS]; decide), if_pos (by rw [e2, e1]; decide), e2, e1]
    refine .sr ?_
    refine .aA (.nil ?_)
    refine .ret ?_
    refine ⟨RetD.eq rfl ?_, trivial⟩
    all_goals (rw [HR])
   replace h12 := bnot_f h12; replace h12 := dcT h12
   have e0 : hldF b k = 0 := by unfold hldF; rw [dif_pos hlt]; grind
   refine .skip (.region (.sA (.add64 rfl rfl rfl (by omega) (by omega)) ?_))
   refine .mA (.nil ?_)
   refine ⟨k + 1, ⟨by omega, ffst_next hk.2 e0⟩, (by dsimp only; omega), Sub.less ⟨(SLe.of_eq rfl), SLe.refl _, SLe.refl _, SLe.refl _, trivial⟩ (fun _ h => h)⟩
  replace g9 := dcF g9
  have n6 : ¬ (0 < k ∧ 0 ≤ hldCmp (b.held[k-1]'(by omega)) b.held[k]) := fun hh => by omega
  refine .pA ?_
  refine .pA ?_
  refine .pA ?_
  refine .pA ?_
  refine .pA ?_
  refine .pA ?_
  refine .pA ?_
  refine .pA ?_
  refine .pA ?_
  refine .sA (.pickF rfl rfl rfl) (.sA (.assignD rfl rfl) ?_)
  refine .nil ?_
  refine .cond rfl (fun h => nomatch h) (fun _ => ?_)
  refine .sr (.sA (.fieldAddr rfl fo_105_1 rfl) ?_)
  refine .sA (.load rfl sc_3 rfl) (.sA (.fieldAddr rfl fo_40_1 rfl) (.sA (.load rfl sc_3 rfl) (.sA (.call rfl (.cons (.rfl' rfl) (.cons (.rfl' rfl) (.cons (.rfl' rfl) .nil))) (c_pIn _ _ _)) (.sA (.not rfl rfl) ?_))))
  refine .mA ?_
  refine .split 85 rfl (fun g13 => ?_) (fun g13 => ?_)
  ·replace g13 := bnot_t g13; replace g13 := dcF g13
   have e1 : (hldF b) k = 1 := by unfold hldF; rw [dif_pos hlt]; grind
   have e2 := ffst_hit (f := (hldF b)) hk.2 (by rw [e1]; decide) _ hlt
   have HR : bksF b = 1 := by unfold bksF; rw [if_neg n1, if_neg (Decidable.not_not.2 n2), if_neg n3, if_neg (by rw [HS]; decide), if_pos (by rw [e2, e1]; decide), e2, e1]
   refine .pA ?_
   refine .pA ?_
   refine .pA ?_
   refine .pA ?_
   refine .sA (.pickT rfl rfl rfl) ?_
   refine .aA (.nil ?_)
   refine .cond rfl (fun _ => ?_) (fun h => nomatch h)
   refine .sr ?_
   refine .aA (.nil ?_)
   refine .ret ?_
   refine ⟨RetD.eq rfl ?_, trivial⟩
   all_goals (rw [HR])
  replace g13 := bnot_f g13; replace g13 := dcT g13
  refine .sG (.fieldAddr rfl fo_105_2 rfl) ?_
  refine .sG (.load rfl sc_3 rfl) ?_
  refine .sG (.call rfl (.cons (.rfl' rfl) (.cons (.rfl' rfl) (.cons (.rfl' rfl) .nil))) (c_pIn _ _ _)) ?_
  refine .sG (.not rfl rfl) ?_
  refine .sA (.pickF rfl rfl rfl) ?_
  refine .aA (.nil ?_)
  refine .cond rfl (fun h14 => ?_) (fun h14 => ?_)
  ·replace h14 := bnot_t h14; replace h14 := dcF h14
   have e1 : (hldF b) k = 1 := by unfold hldF; rw [dif_pos hlt]; grind
   have e2 := ffst_hit (f := (hldF b)) hk.2 (by rw [e1]; decide) _ hlt
   have HR : bksF b = 1 := by unfold bksF; rw [if_neg n1, if_neg (Decidable.not_not.2 n2), if_neg n3, if_neg (by rw [HS]; decide), if_pos (by rw [e2, e1]; decide), e2, e1]
   refine .sr ?_
   refine .aA (.nil ?_)
   refine .ret ?_
   refine ⟨RetD.eq rfl ?_, trivial⟩
   all_goals (rw [HR])
  replace h14 := bnot_f h14; replace h14 := dcT h14
  have e0 : hldF b k = 0 := by unfold hldF; rw [dif_pos hlt]; grind
  refine .skip (.region (.sA (.add64 rfl rfl rfl (by omega) (by omega)) ?_))
  refine .mA (.nil ?_)
  refine ⟨k + 1, ⟨by omega, ffst_next hk.2 e0⟩, (by dsimp only; omega), Sub.less ⟨(SLe.of_eq rfl), SLe.refl _, SLe.refl _, SLe.refl _, trivial⟩ (fun _ h => h)⟩
 replace h7 := dcF h7
 rw [List.length_map] at h7
 have HH : ffst (hldF b) b.held.length = 0 := by rw [show b.held.length = k by omega]; exact hk.2
 refine .exit (.seq (.sr (.sA (.fieldAddr rfl fo_40_4 rfl) ?_)))
 refine .sA (.load rfl sc_37 rfl) (.sA (.lenSl rfl et_37.ht rfl) ?_)
 refine .mA (.nil ?_)
 refine .block ?_
 refine .bound 93 rfl (fun hbd => ?_)
 rw [List.length_map] at hbd
 refine .loop (G := Nat) (fun k => Env.of [(95, .d (.v (.int .i64 (k : Int)))), (93, .d (.sl (b.bal.map intD))), (94, .d (.v (.int .i64 ((b.bal.map intD).length : Int)))), (1, .d (.fp b.ds))]) (fun k => []) (fun k => k ≤ b.bal.length ∧ ffst (balF b.bal) k = 0) (fun k => b.bal.length - k) 0 ⟨Nat.zero_le _, rfl⟩ (Sub.less ⟨(SLe.of_eq rfl), SLe.refl _, SLe.refl _, SLe.refl _, trivial⟩ (fun _ h => h)) ?_
 intro k hk
 refine .sr ?_
 refine .sA (.lss rfl rfl rfl) (.nil ?_)
 refine .seq ?_
 refine .cond rfl (fun h15 => ?_) (fun h15 => ?_)
 ·replace h15 := dcT h15
  rw [List.length_map] at h15
  have hlt : k < b.bal.length := by omega
  refine .skip (.seq (.block (.sr (.sA (.indexAddr rfl et_37 rfl rfl k rfl (at_lst hlt) rfl) ?_))))
  refine .sA (.load rfl sc_3 rfl) ?_
  refine .aA (.nil ?_)
  refine .sr (.mA ?_)
  refine .sA (.call rfl (.cons (.rfl' rfl) (.cons (.rfl' rfl) (.cons (.rfl' rfl) .nil))) (c_pIn _ _ _)) ?_
  refine .sA (.not rfl rfl) (.nil ?_)
  refine .cond rfl (fun h16 => ?_) (fun h16 => ?_)
  ·replace h16 := bnot_t h16; replace h16 := dcF h16
   have n4 := h16
   have e1 : balF b.bal k = 1 := by unfold balF; rw [dif_pos hlt]; grind
   have e2 := ffst_hit (f := balF b.bal) hk.2 (by rw [e1]; decide) _ hlt
   have HR : bksF b = 1 := by unfold bksF; rw [if_neg n1, if_neg (Decidable.not_not.2 n2), if_neg n3, if_neg (by rw [HS]; decide), if_neg (by rw [HH]; decide), e2, e1]
   refine .sr ?_
   refine .aA (.nil ?_)
   refine .ret ?_
   refine ⟨RetD.eq rfl ?_, trivial⟩
   all_goals (rw [HR])
  replace h16 := bnot_f h16; replace h16 := dcT h16
  have n4 := h16
  have e0 : balF b.bal k = 0 := by unfold balF; rw [dif_pos hlt]; grind
  refine .skip (.region (.sA (.add64 rfl rfl rfl (by omega) (by omega)) ?_))
  refine .mA (.nil ?_)
  refine ⟨k + 1, ⟨by omega, ffst_next hk.2 e0⟩, (by dsimp only; omega), Sub.less ⟨(SLe.of_eq rfl), SLe.refl _, SLe.refl _, SLe.refl _, trivial⟩ (fun _ h => h)⟩
 replace h15 := dcF h15
 rw [List.length_map] at h15
 have HR : bksF b = 0 := by unfold bksF; rw [if_neg n1, if_neg (Decidable.not_not.2 n2), if_neg n3, if_neg (by rw [HS]; decide), if_neg (by rw [HH]; decide), show b.bal.length = k by omega]; exact hk.2
 refine .exit (.sr ?_)
 refine .aA (.nil ?_)
 refine .ret ?_
 refine ⟨RetD.eq rfl ?_, trivial⟩
 all_goals (rw [HR])
namespace TyU7
end TyU7
open TyF0 TyF1 TyF2 TyF3 TyF4 TyF5 TyF6 TyF11 TyG1 TyG2 TyG5 TyU1 TyU2 TyU3 TyU4 TyM1 TyM2 TyM3 TyM7 TyM8 TyM9 TyO1 TyM10 TyO2 TyU5 TyU6 TyU7
theorem c_clAli (l : List Ali) (hl : l.length ≤ 1000000) : OCall Tryz.prog 93 [.sl (l.map Ali.ds)] 122 3 (l.map Ali.ds) := by
 refine ocall_of (n := 8) Tryz.func93 rfl (by kernel_rfl) rfl 2 rfl rfl ?_
 intro B w0 F0 fr
 refine (Classical.em (l = [])).elim (fun hn => ?_) (fun hn => ?_)
 subst hn
 refine .nilOr 0 rfl ?_ (fun ad cap hcap => ?_)
 ·skip
  refine .sr ?_
  refine .aA (.nil ?_)
  refine .seq (.sr (.mA ?_))
  refine .sA (.eqNilV rfl Tryz.underlying32 rfl rfl) (.nil ?_)
  refine .cond rfl (fun _ => ?_) (fun h => nomatch h)
  refine .sr ?_
  refine .aA (.nil ?_)
  refine .adopt 2 51 122 3 rfl rfl ?_
  refine .ret ?_
  refine ⟨51, rfl, mem_row_eq (.head _) ?_⟩
  first | rfl | simp
 ·skip
  refine .sr ?_
  refine .aA (.nil ?_)
  refine .seq (.sr (.mA ?_))
  refine .sA (.eqNilV rfl Tryz.underlying32 rfl rfl) (.nil ?_)
  refine .cond rfl (fun h => nomatch h) (fun _ => ?_)
  refine .skip (.sr (.build0 102 rfl rfl rfl rfl et_32 rfl ?_))
  refine .mA ?_
  refine .le 6 rfl (SLe.d (Le.empty hcap)) ?_
  -- append 7
  refine .append rfl rfl rfl rfl et_32 rfl (.head _) rfl (fun y hy => by first | exact absurd hy List.not_mem_nil | (obtain ⟨x, _, rfl⟩ := List.mem_map.1 hy; rfl)) (by simp; try omega) (by simp; try omega) ?_
  refine .sA (.assignO rfl rfl) (.nil ?_)
  refine .ret ?_
  refine ⟨102, rfl, mem_row_eq (.head _) ?_⟩
  first | rfl | simp
 refine .sr ?_
 refine .aA (.nil ?_)
 refine .seq (.sr (.mA ?_))
 refine .sA (.eqNilS rfl Tryz.underlying32 rfl rfl (fun h => hn (List.map_eq_nil_iff.1 h))) (.nil ?_)
 refine .cond rfl (fun h => nomatch h) (fun _ => ?_)
 refine .skip (.sr (.build0 103 rfl rfl rfl rfl et_32 rfl ?_))
 refine .mA ?_
 -- append 7
 refine .append rfl rfl rfl rfl et_32 rfl (.head _) rfl (fun y hy => by first | exact absurd hy List.not_mem_nil | (obtain ⟨x, _, rfl⟩ := List.mem_map.1 hy; rfl)) (by simp; try omega) (by simp; try omega) ?_
 refine .sA (.assignO rfl rfl) (.nil ?_)
 refine .ret ?_
 refine ⟨103, rfl, mem_row_eq (.head _) ?_⟩
 first | rfl | simp
theorem c_clDeal (l : List Deal) (hl : l.length ≤ 1000000) : OCall Tryz.prog 94 [.sl (l.map Deal.ds)] 63 9 (l.map Deal.ds) := by
 refine ocall_of (n := 8) Tryz.func94 rfl (by kernel_rfl) rfl 2 rfl rfl ?_
 intro B w0 F0 fr
 refine (Classical.em (l = [])).elim (fun hn => ?_) (fun hn => ?_)
 subst hn
 refine .nilOr 0 rfl ?_ (fun ad cap hcap => ?_)
 ·skip
  refine .sr ?_
  refine .aA (.nil ?_)
  refine .seq (.sr (.mA ?_))
  refine .sA (.eqNilV rfl Tryz.underlying33 rfl rfl) (.nil ?_)
  refine .cond rfl (fun _ => ?_) (fun h => nomatch h)
  refine .sr ?_
  refine .aA (.nil ?_)
  refine .adopt 2 51 63 9 rfl rfl ?_
  refine .ret ?_
  refine ⟨51, rfl, mem_row_eq (.head _) ?_⟩
  first | rfl | simp
 ·skip
  refine .sr ?_
  refine .aA (.nil ?_)
  refine .seq (.sr (.mA ?_))
  refine .sA (.eqNilV rfl Tryz.underlying33 rfl rfl) (.nil ?_)
  refine .cond rfl (fun h => nomatch h) (fun _ => ?_)
  refine .skip (.sr (.build0 102 rfl rfl rfl rfl et_33 rfl ?_))
  refine .mA ?_
  refine .le 6 rfl (SLe.d (Le.empty hcap)) ?_
  -- append 7
  refine .append rfl rfl rfl rfl et_33 rfl (.head _) rfl (fun y hy => by first | exact absurd hy List.not_mem_nil | (obtain ⟨x, _, rfl⟩ := List.mem_map.1 hy; rfl)) (by simp; try omega) (by simp; try omega) ?_
  refine .sA (.assignO rfl rfl) (.nil ?_)
  refine .ret ?_
  refine ⟨102, rfl, mem_row_eq (.head _) ?_⟩
  first | rfl | simp
 refine .sr ?_
 refine .aA (.nil ?_)
 refine .seq (.sr (.mA ?_))
 refine .sA (.eqNilS rfl Tryz.underlying33 rfl rfl (fun h => hn (List.map_eq_nil_iff.1 h))) (.nil ?_)
 refine .cond rfl (fun h => nomatch h) (fun _ => ?_)
 refine .skip (.sr (.build0 103 rfl rfl rfl rfl et_33 rfl ?_))
 refine .mA ?_
 -- append 7
 refine .append rfl rfl rfl rfl et_33 rfl (.head _) rfl (fun y hy => by first | exact absurd hy List.not_mem_nil | (obtain ⟨x, _, rfl⟩ := List.mem_map.1 hy; rfl)) (by simp; try omega) (by simp; try omega) ?_
 refine .sA (.assignO rfl rfl) (.nil ?_)
 refine .ret ?_
 refine ⟨103, rfl, mem_row_eq (.head _) ?_⟩
 first | rfl | simp
theorem c_clGrp (l : List Grp) (hl : l.length ≤ 1000000) : OCall Tryz.prog 95 [.sl (l.map Grp.ds)] 128 3 (l.map Grp.ds) := by
 refine ocall_of (n := 8) Tryz.func95 rfl (by kernel_rfl) rfl 2 rfl rfl ?_
 intro B w0 F0 fr
 refine (Classical.em (l = [])).elim (fun hn => ?_) (fun hn => ?_)
 subst hn
 refine .nilOr 0 rfl ?_ (fun ad cap hcap => ?_)
 ·skip
  refine .sr ?_
  refine .aA (.nil ?_)
  refine .seq (.sr (.mA ?_))
  refine .sA (.eqNilV rfl Tryz.underlying34 rfl rfl) (.nil ?_)
  refine .cond rfl (fun _ => ?_) (fun h => nomatch h)
  refine .sr ?_
  refine .aA (.nil ?_)
  refine .adopt 2 51 128 3 rfl rfl ?_
  refine .ret ?_
  refine ⟨51, rfl, mem_row_eq (.head _) ?_⟩
  first | rfl | simp
 ·skip
  refine .sr ?_
  refine .aA (.nil ?_)
  refine .seq (.sr (.mA ?_))
  refine .sA (.eqNilV rfl Tryz.underlying34 rfl rfl) (.nil ?_)
  refine .cond rfl (fun h => nomatch h) (fun _ => ?_)
  refine .skip (.sr (.build0 102 rfl rfl rfl rfl et_34 rfl ?_))
  refine .mA ?_
  refine .le 6 rfl (SLe.d (Le.empty hcap)) ?_
  -- append 7
  refine .append rfl rfl rfl rfl et_34 rfl (.head _) rfl (fun y hy => by first | exact absurd hy List.not_mem_nil | (obtain ⟨x, _, rfl⟩ := List.mem_map.1 hy; rfl)) (by simp; try omega) (by simp; try omega) ?_
  refine .sA (.assignO rfl rfl) (.nil ?_)
  refine .ret ?_
  refine ⟨102, rfl, mem_row_eq (.head _) ?_⟩
  first | rfl | simp
 refine .sr ?_
 refine .aA (.nil ?_)
 refine .seq (.sr (.mA ?_))
 refine .sA (.eqNilS rfl Tryz.underlying34 rfl rfl (fun h => hn (List.map_eq_nil_iff.1 h))) (.nil ?_)
 refine .cond rfl (fun h => nomatch h) (fun _ => ?_)
 refine .skip (.sr (.build0 103 rfl rfl rfl rfl et_34 rfl ?_))
 refine .mA ?_
 -- append 7
 refine .append rfl rfl rfl rfl et_34 rfl (.head _) rfl (fun y hy => by first | exact absurd hy List.not_mem_nil | (obtain ⟨x, _, rfl⟩ := List.mem_map.1 hy; rfl)) (by simp; try omega) (by simp; try omega) ?_
 refine .sA (.assignO rfl rfl) (.nil ?_)
 refine .ret ?_
 refine ⟨103, rfl, mem_row_eq (.head _) ?_⟩
 first | rfl | simp
theorem c_clInt (l : List Int) (hl : l.length ≤ 1000000) : OCall Tryz.prog 43 [.sl (l.map intD)] 3 1 (l.map intD) := by
 refine ocall_of (n := 8) Tryz.func43 rfl (by kernel_rfl) rfl 2 rfl rfl ?_
 intro B w0 F0 fr
 refine (Classical.em (l = [])).elim (fun hn => ?_) (fun hn => ?_)
 subst hn
 refine .nilOr 0 rfl ?_ (fun ad cap hcap => ?_)
 ·skip
  refine .sr ?_
  refine .aA (.nil ?_)
  refine .seq (.sr (.mA ?_))
  refine .sA (.eqNilV rfl Tryz.underlying37 rfl rfl) (.nil ?_)
  refine .cond rfl (fun _ => ?_) (fun h => nomatch h)
  refine .sr ?_
  refine .aA (.nil ?_)
  refine .adopt 2 51 3 1 rfl rfl ?_
  refine .ret ?_
  refine ⟨51, rfl, mem_row_eq (.head _) ?_⟩
  first | rfl | simp
 ·skip
  refine .sr ?_
  refine .aA (.nil ?_)
  refine .seq (.sr (.mA ?_))
  refine .sA (.eqNilV rfl Tryz.underlying37 rfl rfl) (.nil ?_)
  refine .cond rfl (fun h => nomatch h) (fun _ => ?_)
  refine .skip (.sr (.build0 102 rfl rfl rfl rfl et_37 rfl ?_))
  refine .mA ?_
  refine .le 6 rfl (SLe.d (Le.empty hcap)) ?_
  -- append 7
  refine .append rfl rfl rfl rfl et_37 rfl (.head _) rfl (fun y hy => by first | exact absurd hy List.not_mem_nil | (obtain ⟨x, _, rfl⟩ := List.mem_map.1 hy; rfl)) (by simp; try omega) (by simp; try omega) ?_
  refine .sA (.assignO rfl rfl) (.nil ?_)
  refine .ret ?_
  refine ⟨102, rfl, mem_row_eq (.head _) ?_⟩
  first | rfl | simp
 refine .sr ?_
 refine .aA (.nil ?_)
 refine .seq (.sr (.mA ?_))
 refine .sA (.eqNilS rfl Tryz.underlying37 rfl rfl (fun h => hn (List.map_eq_nil_iff.1 h))) (.nil ?_)
 refine .cond rfl (fun h => nomatch h) (fun _ => ?_)
 refine .skip (.sr (.build0 103 rfl rfl rfl rfl et_37 rfl ?_))
 refine .mA ?_
 -- append 7
 refine .append rfl rfl rfl rfl et_37 rfl (.head _) rfl (fun y hy => by first | exact absurd hy List.not_mem_nil | (obtain ⟨x, _, rfl⟩ := List.mem_map.1 hy; rfl)) (by simp; try omega) (by simp; try omega) ?_
 refine .sA (.assignO rfl rfl) (.nil ?_)
 refine .ret ?_
 refine ⟨103, rfl, mem_row_eq (.head _) ?_⟩
 first | rfl | simp
theorem c_clTr (l : List Tr) (hl : l.length ≤ 1000000) : OCall Tryz.prog 96 [.sl (l.map Tr.ds)] 125 2 (l.map Tr.ds) := by
 refine ocall_of (n := 8) Tryz.func96 rfl (by kernel_rfl) rfl 2 rfl rfl ?_
 intro B w0 F0 fr
 refine (Classical.em (l = [])).elim (fun hn => ?_) (fun hn => ?_)
 subst hn
 refine .nilOr 0 rfl ?_ (fun ad cap hcap => ?_)
 ·skip
  refine .sr ?_
  refine .aA (.nil ?_)
  refine .seq (.sr (.mA ?_))
  refine .sA (.eqNilV rfl Tryz.underlying61 rfl rfl) (.nil ?_)
  refine .cond rfl (fun _ => ?_) (fun h => nomatch h)
  refine .sr ?_
  refine .aA (.nil ?_)
  refine .adopt 2 51 125 2 rfl rfl ?_
  refine .ret ?_
  refine ⟨51, rfl, mem_row_eq (.head _) ?_⟩
  first | rfl | simp
 ·skip
  refine .sr ?_
  refine .aA (.nil ?_)
  refine .seq (.sr (.mA ?_))
  refine .sA (.eqNilV rfl Tryz.underlying61 rfl rfl) (.nil ?_)
  refine .cond rfl (fun h => nomatch h) (fun _ => ?_)
  refine .skip (.sr (.build0 102 rfl rfl rfl rfl et_61 rfl ?_))
  refine .mA ?_
  refine .le 6 rfl (SLe.d (Le.empty hcap)) ?_
  -- append 7
  refine .append rfl rfl rfl rfl et_61 rfl (.head _) rfl (fun y hy => by first | exact absurd hy List.not_mem_nil | (obtain ⟨x, _, rfl⟩ := List.mem_map.1 hy; rfl)) (by simp; try omega) (by simp; try omega) ?_
  refine .sA (.assignO rfl rfl) (.nil ?_)
  refine .ret ?_
  refine ⟨102, rfl, mem_row_eq (.head _) ?_⟩
  first | rfl | simp
 refine .sr ?_
 refine .aA (.nil ?_)
 refine .seq (.sr (.mA ?_))
 refine .sA (.eqNilS rfl Tryz.underlying61 rfl rfl (fun h => hn (List.map_eq_nil_iff.1 h))) (.nil ?_)
 refine .cond rfl (fun h => nomatch h) (fun _ => ?_)
 refine .skip (.sr (.build0 103 rfl rfl rfl rfl et_61 rfl ?_))
 refine .mA ?_
 -- append 7
 refine .append rfl rfl rfl rfl et_61 rfl (.head _) rfl (fun y hy => by first | exact absurd hy List.not_mem_nil | (obtain ⟨x, _, rfl⟩ := List.mem_map.1 hy; rfl)) (by simp; try omega) (by simp; try omega) ?_
 refine .sA (.assignO rfl rfl) (.nil ?_)
 refine .ret ?_
 refine ⟨103, rfl, mem_row_eq (.head _) ?_⟩
 first | rfl | simp
theorem c_clStk (l : List Stk) (hl : l.length ≤ 1000000) : OCall Tryz.prog 97 [.sl (l.map Stk.ds)] 131 2 (l.map Stk.ds) := by
 refine ocall_of (n := 8) Tryz.func97 rfl (by kernel_rfl) rfl 2 rfl rfl ?_
 intro B w0 F0 fr
 refine (Classical.em (l = [])).elim (fun hn => ?_) (fun hn => ?_)
 subst hn
 refine .nilOr 0 rfl ?_ (fun ad cap hcap => ?_)
 ·skip
  refine .sr ?_
  refine .aA (.nil ?_)
  refine .seq (.sr (.mA ?_))
  refine .sA (.eqNilV rfl Tryz.underlying126 rfl rfl) (.nil ?_)
  refine .cond rfl (fun _ => ?_) (fun h => nomatch h)
  refine .sr ?_
  refine .aA (.nil ?_)
  refine .adopt 2 51 131 2 rfl rfl ?_
  refine .ret ?_
  refine ⟨51, rfl, mem_row_eq (.head _) ?_⟩
  first | rfl | simp
 ·skip
  refine .sr ?_
  refine .aA (.nil ?_)
  refine .seq (.sr (.mA ?_))
  refine .sA (.eqNilV rfl Tryz.underlying126 rfl rfl) (.nil ?_)
  refine .cond rfl (fun h => nomatch h) (fun _ => ?_)
  refine .skip (.sr (.build0 102 rfl rfl rfl rfl et_126 rfl ?_))
  refine .mA ?_
  refine .le 6 rfl (SLe.d (Le.empty hcap)) ?_
  -- append 7
  refine .append rfl rfl rfl rfl et_126 rfl (.head _) rfl (fun y hy => by first | exact absurd hy List.not_mem_nil | (obtain ⟨x, _, rfl⟩ := List.mem_map.1 hy; rfl)) (by simp; try omega) (by simp; try omega) ?_
  refine .sA (.assignO rfl rfl) (.nil ?_)
  refine .ret ?_
  refine ⟨102, rfl, mem_row_eq (.head _) ?_⟩
  first | rfl | simp
 refine .sr ?_
 refine .aA (.nil ?_)
 refine .seq (.sr (.mA ?_))
 refine .sA (.eqNilS rfl Tryz.underlying126 rfl rfl (fun h => hn (List.map_eq_nil_iff.1 h))) (.nil ?_)
 refine .cond rfl (fun h => nomatch h) (fun _ => ?_)
 refine .skip (.sr (.build0 103 rfl rfl rfl rfl et_126 rfl ?_))
 refine .mA ?_
 -- append 7
 refine .append rfl rfl rfl rfl et_126 rfl (.head _) rfl (fun y hy => by first | exact absurd hy List.not_mem_nil | (obtain ⟨x, _, rfl⟩ := List.mem_map.1 hy; rfl)) (by simp; try omega) (by simp; try omega) ?_
 refine .sA (.assignO rfl rfl) (.nil ?_)
 refine .ret ?_
 refine ⟨103, rfl, mem_row_eq (.head _) ?_⟩
 first | rfl | simp
namespace TyU8
theorem sz_126 : ∀ w, (sizeOf 126).run Tryz.prog w = .ok 1 w := SizeT.of (by kernel_rfl)
theorem sz_32 : ∀ w, (sizeOf 32).run Tryz.prog w = .ok 1 w := SizeT.of (by kernel_rfl)
theorem sz_33 : ∀ w, (sizeOf 33).run Tryz.prog w = .ok 1 w := SizeT.of (by kernel_rfl)
theorem sz_34 : ∀ w, (sizeOf 34).run Tryz.prog w = .ok 1 w := SizeT.of (by kernel_rfl)
theorem sz_36 : ∀ w, (sizeOf 36).run Tryz.prog w = .ok 3 w := SizeT.of (by kernel_rfl)
theorem sz_37 : ∀ w, (sizeOf 37).run Tryz.prog w = .ok 1 w := SizeT.of (by kernel_rfl)
theorem sz_61 : ∀ w, (sizeOf 61).run Tryz.prog w = .ok 1 w := SizeT.of (by kernel_rfl)
theorem zt_36 : (Tryz.prog.info? 36).bind (·.zero) = some (.agg #[(.slice none 0 0), (.slice none 0 0), (.slice none 0 0)]) := by kernel_rfl
end TyU8
open TyF0 TyF1 TyF2 TyF3 TyF4 TyF5 TyF6 TyF11 TyG1 TyG2 TyG5 TyU1 TyU2 TyU3 TyU4 TyM1 TyM2 TyM3 TyM7 TyM8 TyM9 TyO1 TyM10 TyO2 TyU5 TyU6 TyU7 TyU8
theorem obs4 {i e s : Nat} {els els' : List (List D)} {x y z : Nat × Ob} {τ : Obs} (h : els = els') : ∀ p ∈ [(i, Ob.row e s els'), x, y, z], p ∈ (i, Ob.row e s els) :: x :: y :: z :: τ := fun p hp => by
  subst h
  simp only [List.mem_cons, List.not_mem_nil, or_false] at hp ⊢
  rcases hp with h | h | h | h
  · exact .inl h
  · exact .inr (.inl h)
  · exact .inr (.inr (.inl h))
  · exact .inr (.inr (.inr (.inl h)))
theorem obs4b {i e s : Nat} {els els' : List (List D)} {x y z : Nat × Ob} {τ : Obs} (h : els = els') : ∀ p ∈ [x, (i, Ob.row e s els'), y, z], p ∈ x :: (i, Ob.row e s els) :: y :: z :: τ := fun p hp => by
  subst h
  simp only [List.mem_cons, List.not_mem_nil, or_false] at hp ⊢
  rcases hp with h | h | h | h
  · exact .inl h
  · exact .inr (.inl h)
  · exact .inr (.inr (.inl h))
  · exact .inr (.inr (.inr (.inl h)))
theorem set_set_back {α : Type} {l : List α} {f : α → List D} {k : Nat} {X Y : List D} (hk : k < l.length) (hY : Y = f l[k]) : ((l.map f).set k X).set k Y = l.map f := by
  subst hY
  rw [List.set_set]
  apply List.ext_getElem
  · simp
  · intro i h1 h2
    rw [List.getElem_set]
    by_cases h : k = i
    · subst h; simp
    · rw [if_neg h]
theorem set_back {α : Type} {l : List α} {f : α → List D} {k : Nat} {Y : List D} (hk : k < l.length) (hY : Y = f l[k]) : (l.map f).set k Y = l.map f := by
  subst hY
  apply List.ext_getElem
  · simp
  · intro i h1 h2
    rw [List.getElem_set]
    by_cases h : k = i
    · subst h; simp
    · rw [if_neg h]
structure COk (c : Ctr) : Prop where
  als : c.als.length ≤ 1000000
  deals : c.deals.length ≤ 1000000
  groups : c.groups.length ≤ 1000000
  recs : ∀ d ∈ c.deals, d.recs.length ≤ 1000000 ∧ d.tiers.length ≤ 1000000
  cut : ∀ g ∈ c.groups, g.cut.length ≤ 1000000
theorem tiers_len {l : List Tr} (h : tiersF l = 0) : l.length ≤ 10 := by
  unfold tiersF at h
  split at h
  · omega
  · split at h
    · omega
    · omega
theorem deal0_ok {c : Ctr} {d : Deal} (h : dealF0 c d = 0) : d.recs.length ≤ 100 ∧ d.tiers.length ≤ 10 := by
  unfold dealF0 at h
  split at h
  · omega
  · split at h
    · omega
    · split at h
      · omega
      · split at h
        · omega
        · split at h
          · omega
          · rename_i h1 h2 h3 h4 h5
            exact ⟨by omega, tiers_len (by omega)⟩
theorem grp0_ok {g : Grp} (h : grpF0 g = 0) : g.cut.length ≤ 20 := by
  unfold grpF0 at h
  split at h
  · omega
  · split at h
    · omega
    · split at h
      · omega
      · omega
theorem ctr_ok {c : Ctr} (h : ctrF c = 0) : COk c := by
  unfold ctrF at h
  split at h
  · omega
  rename_i ha
  split at h
  · omega
  rename_i hl
  split at h
  · omega
  rename_i hg
  have hal : c.als.length ≤ 500 := by
    have h0 : alisF c.als = 0 := by omega
    unfold alisF at h0
    split at h0 <;> omega
  refine ⟨by omega, by omega, by omega, fun d hd => ?_, fun g hgm => ?_⟩
  · obtain ⟨k, hk, rfl⟩ := List.getElem_of_mem hd
    have h1 := ffst_all (f := dealF c) _ h k hk
    unfold dealF at h1
    rw [dif_pos hk] at h1
    split at h1
    · omega
    · split at h1
      · omega
      · have := deal0_ok h1; omega
  · obtain ⟨k, hk, rfl⟩ := List.getElem_of_mem hgm
    have h1 := ffst_all (f := grpF c.groups) c.groups.length (by omega) k hk
    unfold grpF at h1
    rw [dif_pos hk] at h1
    split at h1
    · omega
    · split at h1
      · omega
      · have := grp0_ok h1; omega
theorem c_ownCtr (c : Ctr) (ok : COk c) : ACall Tryz.prog 42 [.agg c.ds] (.agg c.ds) := by
 refine acall_ofR (n := 65) (ds' := [.agg c.ds]) Tryz.func42 rfl (by kernel_rfl) rfl [.cell 2 36] rfl rfl ?_
 intro B w0 F0 fr
 refine .sr (.boxOwn 101 rfl rfl rfl rfl rfl rfl rfl ?_)
 refine .alloc 102 rfl rfl rfl rfl zt_36 rfl rfl rfl (.nil ?_)
 refine .seq (.drawFresh 10 [⟨11, 103, .own 103, .row 63 9 (c.deals.map Deal.ds)⟩, ⟨14, 104, .own 104, .row 128 3 (c.groups.map Grp.ds)⟩] (FrOk.two rfl (by simp) rfl rfl rfl rfl (by simp) rfl rfl rfl (Nat.ne_of_beq_eq_false rfl) (Nat.ne_of_beq_eq_false rfl) rfl rfl rfl rfl) (by kernel_rfl) (by kernel_rfl) (by kernel_rfl) (by kernel_rfl) ?_)
 refine .step rfl rfl rfl (.fieldAddrP rfl fo_36_0 rfl) ?_
 refine .step rfl rfl rfl (.loadP rfl sc_32 rfl (.tail _ (.head _)) rfl) ?_
 refine .step rfl rfl rfl (.call rfl (.cons (.rfl' rfl) .nil) (c_clAli c.als ok.als).toA) ?_
 refine .step rfl rfl rfl (.fieldAddrP rfl fo_36_1 rfl) ?_
 refine .step rfl rfl rfl (.loadP rfl sc_33 rfl (.tail _ (.head _)) rfl) ?_
 refine .callO _ (.head _) rfl rfl rfl rfl rfl (.cons (.rfl' rfl) .nil) (c_clDeal c.deals ok.deals) rfl rfl ?_
 refine .step rfl rfl rfl (.fieldAddrP rfl fo_36_2 rfl) ?_
 refine .step rfl rfl rfl (.loadP rfl sc_34 rfl (.tail _ (.head _)) rfl) ?_
 refine .callO _ (.tail _ (.head _)) rfl rfl rfl rfl rfl (.cons (.rfl' rfl) .nil) (c_clGrp c.groups ok.groups) rfl rfl ?_
 refine .step rfl rfl rfl (.fieldAddrP rfl fo_36_0 rfl) ?_
 refine .nil ⟨rfl, rfl, trivial⟩ ?_
 refine .store rfl rfl rfl sz_32 rfl (.tail _ (.tail _ (.tail _ (.head _)))) rfl rfl rfl (Nat.le_of_ble_eq_true rfl) ?_
 refine .sA (.fieldAddrP rfl fo_36_1 rfl) ?_
 refine .storeS rfl rfl rfl sz_33 rfl (.tail _ (.tail _ (.tail _ (.head _)))) rfl (.head _) (Nat.le_of_ble_eq_true rfl) ?_
 refine .sA (.fieldAddrP rfl fo_36_2 rfl) ?_
 refine .storeS rfl rfl rfl sz_34 rfl (.tail _ (.tail _ (.tail _ (.head _)))) rfl (.tail _ (.head _)) (Nat.le_of_ble_eq_true rfl) (.nil ?_)
 refine .seq (.sr (.sA (.fieldAddrP rfl fo_36_1 rfl) ?_))
 refine .sA (.loadP rfl sc_33 rfl (.tail _ (.tail _ (.tail _ (.head _)))) rfl) (.sA (.lenOwn rfl et_33.ht rfl (.head _)) ?_)
 refine .mA (.nil ?_)
 refine .block ?_
 have okd := ok.deals
 refine .loop (G := Nat) (fun k => Env.of [(21, .d (.v (.int .i64 (k : Int)))), (20, .d (.v (.int .i64 ((c.deals.map Deal.ds).length : Int)))), (1, .ptr 101 0), (2, .ptr 102 0)]) (fun k => [(103, .row 63 9 (c.deals.map Deal.ds)), (104, .row 128 3 (c.groups.map Grp.ds)), (102, .cells [.d (.v (.slice none 0 0)), .d (.v (.slice none 0 0)), .d (.v (.slice none 0 0))]), (101, .cells [.d (.sl (c.als.map Ali.ds)), .own 103, .own 104])]) (fun k => k ≤ c.deals.length) (fun k => c.deals.length - k) 0 (Nat.zero_le _) (Sub.less ⟨(SLe.of_eq rfl), SLe.refl _, SLe.refl _, SLe.refl _, trivial⟩ (fun _ h => h)) ?_
 intro k hk
 refine .sr ?_
 refine .sA (.lss rfl rfl rfl) (.nil ?_)
 refine .seq ?_
 refine .cond rfl (fun h1 => ?_) (fun h1 => ?_)
 ·replace h1 := dcT h1
  rw [List.length_map] at h1
  have hlt : k < c.deals.length := by omega
  have hdk := ok.recs _ (List.getElem_mem hlt)
  refine .skip (.seq (.block (.sr (.mA ?_))))
  refine .aA (.nil ?_)
  refine .sr (.sA (.fieldAddrP rfl fo_36_1 rfl) ?_)
  refine .sA (.loadP rfl sc_33 rfl (.tail _ (.tail _ (.tail _ (.head _)))) rfl) ?_
  refine .mA ?_
  refine .sA (.indexOwn rfl et_33 rfl rfl (.head _) k rfl (by rw [List.length_map]; exact hlt)) ?_
  refine .sA (.assignP rfl rfl) (.nil ?_)
  refine .drawG (fun k => (Nat.beq k 14 || Nat.beq k 17) || (Nat.beq k 5 || Nat.beq k 10)) (fun k => Nat.beq k 14 || Nat.beq k 17) (fun k h => Bool.or_eq_true_iff.2 (.inl h)) (by kernel_rfl) (by kernel_rfl) (by kernel_rfl) ?_
  refine .step rfl rfl rfl (fun _ => AOp.moveP rfl rfl) ?_
  refine .step rfl rfl rfl (fun _ => AOp.moveP rfl rfl) ?_
  refine .step rfl rfl rfl (fun _ => AOp.moveP rfl rfl) ?_
  refine .step rfl rfl rfl (fun _ => AOp.nilCheckP rfl rfl) ?_
  refine .step rfl rfl rfl (fun _ => AOp.fieldAddrP rfl fo_63_4 rfl) ?_
  refine .stepS rfl rfl rfl rfl (.loadRow rfl sc_37 rfl (.head _) k 4 rfl (at_lst hlt) rfl) ?_
  refine .step rfl rfl rfl (fun _ => AOp.call rfl (.cons (.rfl' rfl) .nil) (c_clInt _ hdk.1).toA) ?_
  refine .step rfl rfl rfl (fun _ => AOp.moveP rfl rfl) ?_
  refine .step rfl rfl rfl (fun _ => AOp.nilCheckP rfl rfl) ?_
  refine .step rfl rfl rfl (fun _ => AOp.fieldAddrP rfl fo_63_5 rfl) ?_
  refine .stepS rfl rfl rfl rfl (.loadRow rfl sc_61 rfl (.head _) k 5 rfl (at_lst hlt) rfl) ?_
  refine .step rfl rfl rfl (fun _ => AOp.call rfl (.cons (.rfl' rfl) .nil) (c_clTr _ hdk.2).toA) ?_
  refine .step rfl rfl rfl (fun _ => AOp.nilCheckP rfl rfl) ?_
  refine .step rfl rfl rfl (fun _ => AOp.fieldAddrP rfl fo_63_4 rfl) ?_
  refine .eff rfl rfl rfl (.storeRow rfl rfl sz_37 rfl (.head _) rfl rfl rfl k 4 rfl (at_lst hlt) (Nat.le_of_ble_eq_true rfl)) ?_
  refine .step rfl rfl rfl (fun _ => AOp.nilCheckP rfl rfl) ?_
  refine .step rfl rfl rfl (fun _ => AOp.fieldAddrP rfl fo_63_5 rfl) ?_
  refine .eff rfl rfl rfl (.storeRow rfl rfl sz_61 rfl (.head _) rfl rfl rfl k 5 rfl (List.getElem?_set_self (by rw [List.length_map]; exact hlt)) (Nat.le_of_ble_eq_true rfl)) ?_
  refine .nil ?_
  refine .region (.sA (.add64 rfl rfl rfl (by omega) (by omega)) ?_)
  refine .mA (.nil ?_)
  refine ⟨k + 1, (by omega), (by dsimp only; omega), Sub.less ⟨(SLe.of_eq rfl), SLe.refl _, SLe.refl _, SLe.refl _, trivial⟩ (obs4 (set_set_back hlt rfl))⟩
 replace h1 := dcF h1
 refine .exit (.seq (.sr (.sA (.fieldAddrP rfl fo_36_2 rfl) ?_)))
 refine .sA (.loadP rfl sc_34 rfl (.tail _ (.tail _ (.tail _ (.head _)))) rfl) (.sA (.lenOwn rfl et_34.ht rfl (.tail _ (.head _))) ?_)
 refine .mA (.nil ?_)
 refine .block ?_
 have okg := ok.groups
 refine .loop (G := Nat) (fun k => Env.of [(48, .d (.v (.int .i64 (k : Int)))), (47, .d (.v (.int .i64 ((c.groups.map Grp.ds).length : Int)))), (1, .ptr 101 0), (2, .ptr 102 0)]) (fun k => [(103, .row 63 9 (c.deals.map Deal.ds)), (104, .row 128 3 (c.groups.map Grp.ds)), (102, .cells [.d (.v (.slice none 0 0)), .d (.v (.slice none 0 0)), .d (.v (.slice none 0 0))]), (101, .cells [.d (.sl (c.als.map Ali.ds)), .own 103, .own 104])]) (fun k => k ≤ c.groups.length) (fun k => c.groups.length - k) 0 (Nat.zero_le _) (Sub.less ⟨(SLe.of_eq rfl), SLe.refl _, SLe.refl _, SLe.refl _, trivial⟩ (fun _ h => h)) ?_
 intro k hk
 refine .sr ?_
 refine .sA (.lss rfl rfl rfl) (.nil ?_)
 refine .seq ?_
 refine .cond rfl (fun h2 => ?_) (fun h2 => ?_)
 ·replace h2 := dcT h2
  rw [List.length_map] at h2
  have hlt : k < c.groups.length := by omega
  have hgk := ok.cut _ (List.getElem_mem hlt)
  refine .skip (.seq (.block (.sr (.mA ?_))))
  refine .aA (.nil ?_)
  refine .drawG (fun k => (Nat.beq k 12) || (Nat.beq k 1 || Nat.beq k 4 || Nat.beq k 6 || Nat.beq k 8 || Nat.beq k 10)) (fun k => Nat.beq k 12) (fun k h => Bool.or_eq_true_iff.2 (.inl h)) (by kernel_rfl) (by kernel_rfl) (by kernel_rfl) ?_
  refine .step rfl rfl rfl (fun _ => AOp.fieldAddrP rfl fo_36_2 rfl) ?_
  refine .stepS rfl rfl rfl rfl (.loadP rfl sc_34 rfl (.tail _ (.tail _ (.tail _ (.head _)))) rfl) ?_
  refine .step rfl rfl rfl (fun _ => AOp.moveD rfl rfl) ?_
  refine .step rfl rfl rfl (fun _ => AOp.fieldAddrP rfl fo_36_2 rfl) ?_
  refine .stepS rfl rfl rfl rfl (.loadP rfl sc_34 rfl (.tail _ (.tail _ (.tail _ (.head _)))) rfl) ?_
  refine .step rfl rfl rfl (fun _ => AOp.moveD rfl rfl) ?_
  refine .stepS rfl rfl rfl rfl (.indexOwn rfl et_34 rfl rfl (.tail _ (.head _)) k rfl (by rw [List.length_map]; exact hlt)) ?_
  refine .step rfl rfl rfl (fun _ => AOp.fieldAddrP rfl fo_128_2 rfl) ?_
  refine .stepS rfl rfl rfl rfl (.loadRow rfl sc_126 rfl (.tail _ (.head _)) k 2 rfl (at_lst hlt) rfl) ?_
  refine .step rfl rfl rfl (fun _ => AOp.call rfl (.cons (.rfl' rfl) .nil) (c_clStk _ hgk).toA) ?_
  refine .stepS rfl rfl rfl rfl (.indexOwn rfl et_34 rfl rfl (.tail _ (.head _)) k rfl (by rw [List.length_map]; exact hlt)) ?_
  refine .step rfl rfl rfl (fun _ => AOp.fieldAddrP rfl fo_128_2 rfl) ?_
  refine .eff rfl rfl rfl (.storeRow rfl rfl sz_126 rfl (.tail _ (.head _)) rfl rfl rfl k 2 rfl (at_lst hlt) (Nat.le_of_ble_eq_true rfl)) ?_
  refine .nil ?_
  refine .region (.sA (.add64 rfl rfl rfl (by omega) (by omega)) ?_)
  refine .mA (.nil ?_)
  refine ⟨k + 1, (by omega), (by dsimp only; omega), Sub.less ⟨(SLe.of_eq rfl), SLe.refl _, SLe.refl _, SLe.refl _, trivial⟩ (obs4b (set_back hlt rfl))⟩
 replace h2 := dcF h2
 refine .exit (.seq (.freezeIn 101 1 rfl (.tail _ (.tail _ (.head _))) (.head _) ?_))
 refine .freezeIn 101 2 rfl (.tail _ (.head _)) (.head _) ?_
 refine .region (.sA (.loadPU rfl ag_36 rfl (.tail _ (.head _)) rfl rfl) ?_)
 refine .store rfl rfl rfl sz_36 rfl (.head _) rfl rfl rfl (Nat.le_of_ble_eq_true rfl) (.nil ?_)
 refine .ret ?_
 refine ⟨RetR.agg rfl (.head _) ag_36 rfl (.cons (by first | exact CellD.nil | exact CellD.d | exact CellD.eq (by simp) | (refine CellD.own (by first | exact .head _ | exact .tail _ (.head _)) ?_; rfl)) (.cons (by first | exact CellD.nil | exact CellD.d | exact CellD.eq (by simp) | (refine CellD.own (by first | exact .head _ | exact .tail _ (.head _)) ?_; rfl)) (.cons (by first | exact CellD.nil | exact CellD.d | exact CellD.eq (by simp) | (refine CellD.own (by first | exact .head _ | exact .tail _ (.head _)) ?_; rfl)) .nil))), trivial⟩
 all_goals (rfl)
namespace TyIA
end TyIA
open TyF0 TyF1 TyF2 TyF3 TyF4 TyF5 TyF6 TyF11 TyG1 TyG2 TyG5 TyU1 TyU2 TyU3 TyU4 TyM1 TyM2 TyM3 TyM7 TyM8 TyM9 TyO1 TyM10 TyO2 TyU5 TyU6 TyU7 TyU8 TyIA
open Go.Sort Go.Lib
structure Pd where
  party : ByteArray
  cents : Int
deriving DecidableEq
structure Rw where
  deal : ByteArray
  earned : Int
  withheld : Int
  released : Int
  advance : Int
deriving DecidableEq
structure Stm where
  period : Int
  group : ByteArray
  rows : List Rw
  opening : Int
  paid : Int
  parts : List Pd
  closing : Int
def Pd.ds (p : Pd) : List D := [.v (.string p.party), .v (.int .i64 p.cents)]
def Rw.ds (r : Rw) : List D := [.v (.string r.deal), .v (.int .i64 r.earned), .v (.int .i64 r.withheld), .v (.int .i64 r.released), .v (.int .i64 r.advance)]
def Stm.ds (s : Stm) : List D := [.v (.int .i64 s.period), .v (.string s.group), .sl (s.rows.map Rw.ds), .v (.int .i64 s.opening), .v (.int .i64 s.paid), .sl (s.parts.map Pd.ds), .v (.int .i64 s.closing)]
def zTr : Tr := ⟨0, 0⟩
def endA (l : List Tr) (m : Int) (i : Nat) : Int := if i + 1 < l.length then min m (l.getD (i + 1) zTr).frm else m
def ernT (l : List Tr) (m : Int) (i : Nat) : Int := max 0 (endA l m i - (l.getD i zTr).frm) * (l.getD i zTr).rate
def ernS (l : List Tr) (m : Int) : Nat → Int
  | 0 => 0
  | k + 1 => ernS l m k + ernT l m k
def ernV (l : List Tr) (m : Int) : Int := ernS l m l.length / 10000
structure TrsOk (l : List Tr) : Prop where
  len : 0 < l.length ∧ l.length ≤ 10
  rng : ∀ t ∈ l, (0 ≤ t.frm ∧ t.frm ≤ 1000000000000) ∧ 0 ≤ t.rate ∧ t.rate ≤ 10000
  zero : (l.getD 0 zTr).frm = 0
  up : ∀ k, k + 1 < l.length → (l.getD k zTr).frm < (l.getD (k + 1) zTr).frm
theorem trsOk {l : List Tr} (h : tiersF l = 0) : TrsOk l := by
  unfold tiersF at h
  split at h
  · omega
  · split at h
    · omega
    · rename_i h1 h2
      have ha := ffst_all _ h
      have hk : ∀ k (hk : k < l.length), ((0 ≤ l[k].frm ∧ l[k].frm ≤ 1000000000000) ∧ 0 ≤ l[k].rate ∧ l[k].rate ≤ 10000) ∧ (k = 0 → l[k].frm = 0) ∧ (0 < k → (l[k-1]'(by omega)).frm < l[k].frm) := fun k hk => by
        have h3 := ha k hk
        unfold tierF at h3
        rw [dif_pos hk] at h3
        split at h3
        · omega
        · rename_i h4
          split at h3
          · omega
          · split at h3
            · omega
            · refine ⟨Decidable.not_not.1 h4, fun e => ?_, fun e => ?_⟩
              · rename_i h5 _
                exact Classical.byContradiction fun hh => h5 ⟨e, hh⟩
              · rename_i h6
                exact Int.not_le.1 fun hh => h6 ⟨e, hh⟩
      refine ⟨by omega, fun t ht => ?_, ?_, fun k hk2 => ?_⟩
      · obtain ⟨k, hkl, rfl⟩ := List.mem_iff_getElem.1 ht
        exact (hk k hkl).1
      · rw [List.getD_eq_getElem?_getD, List.getElem?_eq_getElem (by omega)]
        exact (hk 0 (by omega)).2.1 rfl
      · rw [List.getD_eq_getElem?_getD, List.getD_eq_getElem?_getD, List.getElem?_eq_getElem (by omega), List.getElem?_eq_getElem hk2]
        exact (hk (k + 1) hk2).2.2 (by omega)
theorem tr_get {l : List Tr} {k : Nat} (h : k < l.length) : l.getD k zTr = l[k] := by rw [List.getD_eq_getElem?_getD, List.getElem?_eq_getElem h]; rfl
theorem ern_rng {l : List Tr} (ok : TrsOk l) {m : Int} (hm : 0 ≤ m ∧ m ≤ 1000000000000) {i : Nat} (hi : i < l.length) : (0 ≤ max 0 (endA l m i - l[i].frm) ∧ max 0 (endA l m i - l[i].frm) ≤ 1000000000000) ∧ 0 ≤ ernT l m i ∧ ernT l m i ≤ 10000000000000000 := by
  have h1 := ok.rng _ (List.getElem_mem hi)
  have h2 : endA l m i ≤ m := by unfold endA; split <;> omega
  have h3 : 0 ≤ max 0 (endA l m i - l[i].frm) ∧ max 0 (endA l m i - l[i].frm) ≤ 1000000000000 := by omega
  refine ⟨h3, ?_, ?_⟩
  · unfold ernT
    rw [tr_get hi]
    exact Int.mul_nonneg h3.1 h1.2.1
  · unfold ernT
    rw [tr_get hi]
    have := Int.mul_le_mul h3.2 h1.2.2 h1.2.1 (by omega)
    omega
theorem ernS_rng {l : List Tr} (ok : TrsOk l) {m : Int} (hm : 0 ≤ m ∧ m ≤ 1000000000000) : ∀ k, k ≤ l.length → 0 ≤ ernS l m k ∧ ernS l m k ≤ 10000000000000000 * (k : Int)
  | 0, _ => ⟨Int.le_refl _, Int.le_refl _⟩
  | k + 1, hk => by
    have ih := ernS_rng ok hm k (by omega)
    have h1 := (ern_rng ok hm (show k < l.length by omega)).2
    show 0 ≤ ernS l m k + ernT l m k ∧ ernS l m k + ernT l m k ≤ _
    omega
theorem ern_sum {l : List Tr} (ok : TrsOk l) {m : Int} (hm : 0 ≤ m) : ∀ k, k < l.length → ernS l m (k + 1) ≤ 10000 * max 0 (endA l m k)
  | 0, hk => by
    have h1 := ok.rng _ (List.getElem_mem hk)
    have h0 := ok.zero
    rw [tr_get hk] at h0
    show 0 + ernT l m 0 ≤ _
    unfold ernT
    rw [tr_get hk, h0]
    have : max 0 (endA l m 0 - 0) * l[0].rate ≤ max 0 (endA l m 0 - 0) * 10000 := Int.mul_le_mul_of_nonneg_left h1.2.2 (by omega)
    rw [Int.sub_zero] at *
    omega
  | k + 1, hk => by
    have ih := ern_sum ok hm k (by omega)
    have h1 := ok.rng _ (List.getElem_mem hk)
    have hu := ok.up k hk
    have e : endA l m k = min m (l.getD (k + 1) zTr).frm := if_pos hk
    rw [e] at ih
    rw [tr_get hk] at ih
    show ernS l m (k + 1) + ernT l m (k + 1) ≤ _
    unfold ernT
    rw [tr_get hk]
    have hen : endA l m (k + 1) ≤ m := by unfold endA; split <;> omega
    have h2 : max 0 (endA l m (k + 1) - l[k + 1].frm) * l[k + 1].rate ≤ max 0 (endA l m (k + 1) - l[k + 1].frm) * 10000 := Int.mul_le_mul_of_nonneg_left h1.2.2 (by omega)
    have he2 : ∀ h : k + 2 < l.length, endA l m (k + 1) = min m (l[k + 2]'h).frm := fun h => by unfold endA; rw [if_pos h, tr_get h]
    have he3 : ¬ k + 2 < l.length → endA l m (k + 1) = m := fun h => by unfold endA; rw [if_neg h]
    by_cases h3 : k + 2 < l.length
    · have hu2 := ok.up (k + 1) h3
      rw [tr_get hk, tr_get h3] at hu2
      have := he2 h3
      omega
    · have := he3 h3
      omega
theorem ernV_le {l : List Tr} (ok : TrsOk l) {m : Int} (hm : 0 ≤ m) (hm2 : m ≤ 1000000000000) : 0 ≤ ernV l m ∧ ernV l m ≤ m := by
  have h1 := ernS_rng ok ⟨hm, hm2⟩ l.length (Nat.le_refl _)
  have hl := ok.len
  have h2 := ern_sum ok hm (l.length - 1) (by omega)
  rw [show l.length - 1 + 1 = l.length by omega] at h2
  have h3 : endA l m (l.length - 1) = m := by unfold endA; rw [if_neg (by omega)]
  rw [h3] at h2
  unfold ernV
  omega
def zSal : Sal := ⟨0, 0, 0, 0⟩
def covB (d : Deal) (p : Int) (s : Sal) : Bool := decide (d.frm ≤ s.per) && (decide (s.per < d.upto) && (decide (s.per ≤ p) && (decide (d.recs.length = 0) || decide (s.recd ∈ d.recs))))
def basS (d : Deal) (p : Int) (l : List Sal) : Nat → Int
  | 0 => 0
  | k + 1 => basS d p l k + if covB d p (l.getD k zSal) = true then (l.getD k zSal).money else 0
def basV (d : Deal) (p : Int) (l : List Sal) : Int := basS d p l l.length
structure SalsOk (l : List Sal) : Prop where
  len : l.length ≤ 30000
  rng : ∀ s ∈ l, 0 ≤ s.money ∧ s.money ≤ 30000000000000
theorem sal_get {l : List Sal} {k : Nat} (h : k < l.length) : l.getD k zSal = l[k] := by rw [List.getD_eq_getElem?_getD, List.getElem?_eq_getElem h]; rfl
theorem basS_next {d : Deal} {p : Int} {l : List Sal} {k : Nat} (h : k < l.length) : basS d p l (k + 1) = basS d p l k + if covB d p l[k] = true then l[k].money else 0 := by
  show basS d p l k + _ = _
  rw [sal_get h]
theorem basS_rng {d : Deal} {p : Int} {l : List Sal} (ok : SalsOk l) : ∀ k, k ≤ l.length → 0 ≤ basS d p l k ∧ basS d p l k ≤ 30000000000000 * (k : Int)
  | 0, _ => ⟨Int.le_refl _, Int.le_refl _⟩
  | k + 1, hk => by
    have ih := basS_rng (d := d) (p := p) ok k (by omega)
    have h1 := ok.rng _ (List.getElem_mem (show k < l.length by omega))
    rw [basS_next (by omega)]
    split <;> omega
theorem cov_y {d : Deal} {p : Int} {s : Sal} (h1 : d.frm ≤ s.per) (h2 : s.per < d.upto) (h3 : s.per ≤ p) (h4 : d.recs.length = 0 ∨ s.recd ∈ d.recs) : covB d p s = true := by
  unfold covB
  rw [decide_eq_true h1, decide_eq_true h2, decide_eq_true h3]
  rcases h4 with h4 | h4
  · rw [decide_eq_true h4]; rfl
  · rw [decide_eq_true h4, Bool.or_true]; rfl
theorem cov_n {d : Deal} {p : Int} {s : Sal} (h : ¬ (d.frm ≤ s.per ∧ s.per < d.upto ∧ s.per ≤ p ∧ (d.recs.length = 0 ∨ s.recd ∈ d.recs))) : covB d p s = false := by
  cases hc : covB d p s with
  | false => rfl
  | true =>
    unfold covB at hc
    simp only [Bool.and_eq_true, Bool.or_eq_true, decide_eq_true_eq] at hc
    exact absurd hc h
namespace TyIC
end TyIC
open TyF0 TyF1 TyF2 TyF3 TyF4 TyF5 TyF6 TyF11 TyG1 TyG2 TyG5 TyU1 TyU2 TyU3 TyU4 TyM1 TyM2 TyM3 TyM7 TyM8 TyM9 TyO1 TyM10 TyO2 TyU5 TyU6 TyU7 TyU8 TyIA TyIC
open Go.Sort Go.Lib
instance : Inhabited Hld := ⟨⟨⟨#[]⟩, 0, 0⟩⟩
abbrev KH := ByteArray × Int
def Hld.key (x : Hld) : KH := (x.deal, x.period)
def ltH : KH → KH → Bool := lexL ltB ltI2
theorem tot_H : Tot ltH := tot_str.lex tot_int
theorem hldCmp_lt {a b : Hld} : hldCmp a b < 0 ↔ ltH a.key b.key = true := by
  unfold hldCmp ltH Hld.key
  rw [lexL_iff]
  unfold ltB ltI2
  rw [decide_eq_true_eq, decide_eq_true_eq]
  dsimp only
  by_cases h : a.deal = b.deal
  · rw [if_pos h, h, strCmp_zero.2 rfl]
    constructor
    · intro h2
      refine .inr ⟨rfl, ?_⟩
      split at h2
      · assumption
      · split at h2 <;> omega
    · rintro (h2 | h2)
      · omega
      · rw [if_pos h2.2]; omega
  · rw [if_neg h]; simp [h]
theorem hldCmp_zero {a b : Hld} : hldCmp a b = 0 ↔ a.key = b.key := by
  unfold hldCmp Hld.key
  by_cases h : a.deal = b.deal
  · rw [if_pos h]
    constructor
    · intro h2
      split at h2
      · omega
      · split at h2
        · rename_i h3; rw [h, h3]
        · omega
    · intro h2
      have h3 : a.period = b.period := congrArg Prod.snd h2
      rw [if_neg (by omega), if_pos h3]
  · rw [if_neg h, strCmp_zero]
    exact ⟨fun h2 => absurd h2 h, fun h2 => absurd (congrArg Prod.fst h2) h⟩
structure Hls (l : List Hld) : Prop where
  rise : l.Pairwise fun a b => ltH a.key b.key = true
def ltQH (l : List Hld) (t : Hld) (k : Nat) : Bool := decide (k < l.length) && decide (hldCmp (l.getD k default) t < 0)
def posH (l : List Hld) (t : Hld) : Nat := bsr (ltQH l t) 0 l.length
def hasH (l : List Hld) (t : Hld) : Bool := decide (posH l t < l.length) && decide (hldCmp (l.getD (posH l t) default) t = 0)
theorem ltQH_at {l : List Hld} {t : Hld} {k : Nat} (hk : k < l.length) : ltQH l t k = decide (hldCmp l[k] t < 0) := by unfold ltQH; rw [decide_eq_true hk, List.getD_eq_getElem?_getD, List.getElem?_eq_getElem hk]; rfl
theorem ltQH_t {l : List Hld} {t : Hld} {k : Nat} (hk : k < l.length) (h : hldCmp l[k] t < 0) : ltQH l t k = true := by rw [ltQH_at hk]; exact decide_eq_true h
theorem ltQH_f {l : List Hld} {t : Hld} {k : Nat} (hk : k < l.length) (h : ¬ hldCmp l[k] t < 0) : ltQH l t k = false := by rw [ltQH_at hk]; exact decide_eq_false h
theorem hasH_at {l : List Hld} {t : Hld} (hk : posH l t < l.length) : hasH l t = decide (hldCmp l[posH l t] t = 0) := by unfold hasH; rw [decide_eq_true hk, List.getD_eq_getElem?_getD, List.getElem?_eq_getElem hk]; rfl
theorem hasH_e {l : List Hld} {t : Hld} {k : Nat} (hk : ¬ k < l.length) (hp : posH l t = k) : hasH l t = false := by unfold hasH; rw [hp]; simp [hk]
theorem hasH_k {l : List Hld} {t : Hld} {k : Nat} (hk : k < l.length) (hp : posH l t = k) : hasH l t = decide (hldCmp l[k] t = 0) := by subst hp; exact hasH_at hk
theorem ltQH_mono {l : List Hld} (ok : Hls l) (t : Hld) : ∀ a b, a ≤ b → ltQH l t b = true → ltQH l t a = true := fun a b hab h => by
  by_cases hb : b < l.length
  · rw [ltQH_at hb, decide_eq_true_eq, hldCmp_lt] at h
    refine ltQH_t (show a < l.length by omega) (hldCmp_lt.2 ?_)
    by_cases e : a = b
    · subst e; exact h
    · exact tot_H.tr (List.pairwise_iff_getElem.1 ok.rise a b (by omega) hb (by omega)) h
  · unfold ltQH at h
    rw [decide_eq_false hb] at h; cases h
theorem posH_le (l : List Hld) (t : Hld) : posH l t ≤ l.length := (bsr_le _ 0 l.length (Nat.le_refl _) (Nat.zero_le _)).2
theorem posH_spec {l : List Hld} (ok : Hls l) (t : Hld) : (∀ k (hk : k < l.length), k < posH l t → ltH l[k].key t.key = true) ∧ ∀ k (hk : k < l.length), posH l t ≤ k → ltH l[k].key t.key = false := by
  have h1 := bsr_spec (ltQH_mono ok t) l.length 0 l.length (by omega) (Nat.zero_le _) (fun k hk => by omega)
  refine ⟨fun k hk hkp => ?_, fun k hk hkp => ?_⟩
  · have := h1.1 k (Nat.zero_le _) hkp
    rw [ltQH_at hk, decide_eq_true_eq, hldCmp_lt] at this
    exact this
  · have h2 := h1.2 k hkp hk
    cases hc : ltH l[k].key t.key with
    | false => rfl
    | true =>
      rw [ltQH_t hk (hldCmp_lt.2 hc)] at h2; cases h2
section
variable {κ : Type} [DecidableEq κ]
theorem addO_ins {lt : κ → κ → Bool} {β : Type} {add : β → β → β} {e : κ × β} : ∀ {O : List (κ × β)} {i : Nat}, i ≤ O.length → (∀ o ∈ O.take i, lt o.1 e.1 = true) → (i = O.length ∨ ∃ h : i < O.length, lt O[i].1 e.1 = false ∧ ¬ O[i].1 = e.1) → addO lt add e O = O.take i ++ [e] ++ O.drop i
  | [], i, hi, _, _ => by
    have : i = 0 := by simpa using hi
    subst this
    rfl
  | p :: l, 0, _, _, hs => by
    rcases hs with hs | ⟨h, h1, h2⟩
    · simp at hs
    · rw [addO, if_neg (by rw [show lt p.1 e.1 = false from h1]; simp), if_neg (show ¬ p.1 = e.1 from h2)]; rfl
  | p :: l, i + 1, hi, ha, hs => by
    have hp : lt p.1 e.1 = true := ha p (by simp)
    rw [addO, if_pos hp, addO_ins (i := i) (by simpa using hi) (fun o ho => ha o (by simp [ho])) (by
      rcases hs with hs | ⟨h, h1, h2⟩
      · exact .inl (by simpa using hs)
      · exact .inr ⟨by simpa using h, by simpa using h1, by simpa using h2⟩)]
    simp
theorem addO_add {lt : κ → κ → Bool} {β : Type} {add : β → β → β} {e : κ × β} : ∀ {O : List (κ × β)} {i : Nat} (h : i < O.length), (∀ o ∈ O.take i, lt o.1 e.1 = true) → lt O[i].1 e.1 = false → O[i].1 = e.1 → addO lt add e O = O.set i (e.1, add O[i].2 e.2)
  | [], i, h, _, _, _ => by simp at h
  | p :: l, 0, _, _, h1, h2 => by
    have h1' : lt p.1 e.1 = false := h1
    have h2' : p.1 = e.1 := h2
    rw [addO, if_neg (by rw [h1']; simp), if_pos h2']; rfl
  | p :: l, i + 1, h, ha, h1, h2 => by
    have hp : lt p.1 e.1 = true := ha p (by simp)
    rw [addO, if_pos hp, addO_add (i := i) (by simpa using h) (fun o ho => ha o (by simp [ho])) (by simpa using h1) (by simpa using h2)]
    rfl
def HL (l : List Hld) : List (KH × Int) := l.map fun h => (h.key, h.cents)
def toH (p : KH × Int) : Hld := ⟨p.1.1, p.1.2, p.2⟩
theorem HL_len (l : List Hld) : (HL l).length = l.length := List.length_map ..
theorem toH_HL (l : List Hld) : (HL l).map toH = l := by
  unfold HL
  rw [List.map_map]
  exact (List.map_congr_left fun h _ => rfl).trans (List.map_id _)
theorem HL_toH (L : List (KH × Int)) : HL (L.map toH) = L := by
  unfold HL
  rw [List.map_map]
  exact (List.map_congr_left fun h _ => rfl).trans (List.map_id _)
theorem HL_ri {l : List Hld} (ok : Hls l) : RiG ltH (HL l) := by
  unfold RiG HL
  rw [List.pairwise_map]
  exact ok.rise
theorem ri_HL {L : List (KH × Int)} (h : RiG ltH L) : Hls (L.map toH) := ⟨by
  rw [List.pairwise_map]
  exact h⟩
def cenH (l : List Hld) (k : KH) : Int := (findG (HL l) k).getD 0
def addH (l : List Hld) (x : Hld) : List Hld := (addO ltH (· + ·) (x.key, x.cents) (HL l)).map toH
def delH (l : List Hld) (k : KH) : List Hld := l.filter fun h => decide (¬ h.key = k)
theorem addH_ok {l : List Hld} (ok : Hls l) (x : Hld) : Hls (addH l x) := ri_HL (addO_ri tot_H _ (HL_ri ok))
theorem delH_ok {l : List Hld} (ok : Hls l) (k : KH) : Hls (delH l k) := ⟨ok.rise.filter _⟩
theorem hasH_mem {l : List Hld} (ok : Hls l) (t : Hld) (h : hasH l t = true) : ∃ hp : posH l t < l.length, l[posH l t].key = t.key := by
  by_cases hp : posH l t < l.length
  · rw [hasH_at hp, decide_eq_true_eq, hldCmp_zero] at h
    exact ⟨hp, h⟩
  · rw [hasH_e hp rfl] at h; cases h
theorem hasH_not {l : List Hld} (ok : Hls l) (t : Hld) (h : hasH l t = false) : ∀ x ∈ l, x.key ≠ t.key := fun x hx e => by
  obtain ⟨i, hi, rfl⟩ := List.mem_iff_getElem.1 hx
  obtain ⟨h1, h2⟩ := posH_spec ok t
  rcases Nat.lt_trichotomy i (posH l t) with hh | hh | hh
  · have := h1 i hi hh
    rw [e, tot_H.irr] at this; cases this
  · subst hh
    rw [hasH_at hi, decide_eq_false_iff_not] at h
    exact h (hldCmp_zero.2 e)
  · have h3 := h2 (posH l t) (by omega) (Nat.le_refl _)
    have h4 := List.pairwise_iff_getElem.1 ok.rise (posH l t) i (by omega) hi hh
    rw [e] at h4
    rw [h3] at h4; cases h4
theorem cen_none {l : List Hld} {k : KH} (h : ∀ x ∈ l, x.key ≠ k) : findG (HL l) k = none := findG_none.2 (by
  cases hc : hasG (HL l) k with
  | false => rfl
  | true =>
    obtain ⟨p, hp, e⟩ := hasG_iff.1 hc
    obtain ⟨x, hx, rfl⟩ := List.mem_map.1 hp
    exact absurd e (h x hx))
theorem cen_some {l : List Hld} (ok : Hls l) {x : Hld} (hx : x ∈ l) : findG (HL l) x.key = some x.cents := (findG_mem ((HL_ri ok).nk tot_H) (x.key, x.cents)).1 (List.mem_map.2 ⟨x, hx, rfl⟩)
theorem del_at {l : List Hld} (ok : Hls l) {k : KH} {p : Nat} (hp : p < l.length) (h : l[p].key = k) : delH l k = l.take p ++ l.drop (p + 1) := by
  have hs : l = l.take p ++ l[p] :: l.drop (p + 1) := by rw [← List.drop_eq_getElem_cons hp, List.take_append_drop]
  have hpw := List.pairwise_iff_getElem.1 ok.rise
  unfold delH
  conv => lhs; rw [hs]
  rw [List.filter_append, List.filter_cons, if_neg (by simp [h])]
  congr 1
  · refine List.filter_eq_self.2 fun x hx => ?_
    obtain ⟨i, hi, rfl⟩ := List.mem_take_iff_getElem.1 hx
    refine decide_eq_true fun e => ?_
    have := hpw i p (by omega) hp (by omega)
    rw [e, h, tot_H.irr] at this; cases this
  · refine List.filter_eq_self.2 fun x hx => ?_
    obtain ⟨i, hi, rfl⟩ := List.mem_iff_getElem.1 hx
    rw [List.getElem_drop]
    refine decide_eq_true fun e => ?_
    have hi2 : p + 1 + i < l.length := by rw [List.length_drop] at hi; omega
    have := hpw p (p + 1 + i) hp hi2 (by omega)
    rw [e, h, tot_H.irr] at this; cases this
theorem del_none {l : List Hld} {k : KH} (h : ∀ x ∈ l, x.key ≠ k) : delH l k = l := List.filter_eq_self.2 fun x hx => decide_eq_true (h x hx)
theorem add_new {l : List Hld} (ok : Hls l) {x : Hld} (h : hasH l x = false) : addH l x = l.take (posH l x) ++ [x] ++ l.drop (posH l x) := by
  obtain ⟨h1, h2⟩ := posH_spec ok x
  have hle := posH_le l x
  have hn := hasH_not ok x h
  unfold addH
  rw [addO_ins (i := posH l x) (by rw [HL_len]; exact hle) (fun o ho => by
    obtain ⟨i, hi, rfl⟩ := List.mem_take_iff_getElem.1 ho
    have hi2 : i < l.length := by have := HL_len l; omega
    have := h1 i hi2 (by omega)
    simpa [HL] using this) (by
    rcases Nat.lt_or_eq_of_le hle with hh | hh
    · refine .inr ⟨by rw [HL_len]; exact hh, ?_, ?_⟩
      · have := h2 _ hh (Nat.le_refl _)
        simpa [HL] using this
      · have := hn _ (List.getElem_mem hh)
        simpa [HL] using this
    · exact .inl (by rw [HL_len]; exact hh))]
  rw [List.map_append, List.map_append, List.map_take, List.map_drop, toH_HL]
  rfl
theorem add_old {l : List Hld} (ok : Hls l) {x : Hld} (hp : posH l x < l.length) (h : l[posH l x].key = x.key) : addH l x = l.set (posH l x) ⟨x.deal, x.period, l[posH l x].cents + x.cents⟩ := by
  obtain ⟨h1, h2⟩ := posH_spec ok x
  unfold addH
  have hp2 : posH l x < (HL l).length := by rw [HL_len]; exact hp
  rw [addO_add hp2 (fun o ho => by
    obtain ⟨i, hi, rfl⟩ := List.mem_take_iff_getElem.1 ho
    have hi2 : i < l.length := by have := HL_len l; omega
    have := h1 i hi2 (by omega)
    simpa [HL] using this) (by
    have := h2 _ hp (Nat.le_refl _)
    simpa [HL] using this) (by simpa [HL] using h)]
  rw [List.map_set, toH_HL]
  congr 1
  simp [HL, toH, Hld.key]
theorem cen_add {l : List Hld} (ok : Hls l) (x : Hld) (k : KH) : findG (HL (addH l x)) k = if k = x.key then some (plusG (· + ·) (findG (HL l) x.key) x.cents) else findG (HL l) k := by
  unfold addH
  rw [HL_toH, findG_addO tot_H _ k (HL_ri ok)]
end
end Go.Proofs.YtcfamaddnmnaeaaGreatDoor
