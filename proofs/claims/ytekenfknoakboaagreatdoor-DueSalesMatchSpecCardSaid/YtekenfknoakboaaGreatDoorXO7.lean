/- Walks and laws over abstract values, merged by tools/merge.py. No statement of the seat. -/
import Derived.WalkKit
import Derived.Ground.NamesProg
import Derived.Shelf.SlSortCmp.WholeK
import Derived.Shelf.SlSortCmp.NoneTotal
import Derived.Shelf.SlicesG.Cmp
import Derived.Ground.SlsfProg
import Derived.Ground.SlgcProg
import Derived.Test.YtekenfknoakboaaGreatDoorProg
import Derived.Shelf.Spec.SlicesInsert
import Derived.Shelf.Spec.SlicesInsertGrow
import Derived.Test.YtekenfknoakboaaGreatDoorXO6

namespace Go.Proofs.YtekenfknoakboaaGreatDoor
open Go.RowKit
set_option linter.unusedVariables false

/-! Types. -/
namespace TyM10
theorem ag_127 : AggT Tryz.prog 127 5 := .of (by kernel_rfl)
theorem et_22 : ElemTy Tryz.prog 22 127 5 64 (.agg #[(.string ⟨#[]⟩), (.int .i64 0), (.int .i64 0), (.int .i64 0), (.slice none 0 0)]) := ⟨by kernel_rfl, by kernel_rfl, by kernel_rfl, by decide⟩
theorem fo_127_0 : fieldOff Tryz.prog 127 0 = some 0 := by kernel_rfl
theorem fo_127_1 : fieldOff Tryz.prog 127 1 = some 1 := by kernel_rfl
theorem fo_127_3 : fieldOff Tryz.prog 127 3 = some 3 := by kernel_rfl
theorem sc_3 : Scal Tryz.prog 3 := .of (by kernel_rfl)
theorem sc_9 : Scal Tryz.prog 9 := .of (by kernel_rfl)
theorem sz_127 : ∀ w, (sizeOf 127).run Tryz.prog w = .ok 5 w := SizeT.of (by kernel_rfl)
theorem zt_127 : (Tryz.prog.info? 127).bind (·.zero) = some (.agg #[(.string ⟨#[]⟩), (.int .i64 0), (.int .i64 0), (.int .i64 0), (.slice none 0 0)]) := by kernel_rfl
end TyM10
open TyM10


def cellsR (y : Rpt) : List S := [.d (.v (.string y.source)), .d (.v (.int .i64 y.no)), .d (.v (.int .i64 y.period)), .d (.v (.int .i64 y.corrects)), .d (.sl (y.lines.map Usd.ds))]
theorem cells_sameM {i : Nat} {a b : List S} {τ : Obs} (h : a = b) : ∀ p ∈ [(i, Ob.cells b)], p ∈ (i, Ob.cells a) :: τ := fun p hp => by
  subst h
  rw [List.mem_singleton] at hp; subst hp; exact .head _
theorem rootA_0 (l : List Rpt) (y : Rpt) : rootA l 0 y = y.no := rfl
theorem rootA_no {l : List Rpt} {y : Rpt} {d : Nat} (h : y.corrects = 0) : rootA l (d + 1) y = y.no := if_pos h
theorem rootA_cor {l : List Rpt} {y : Rpt} {d : Nat} (h : ¬ y.corrects = 0) (h2 : upTo l y l.length < 0) : rootA l (d + 1) y = y.corrects := (if_neg h).trans (if_pos h2)
theorem rootA_up {l : List Rpt} {y : Rpt} {d : Nat} (h : ¬ y.corrects = 0) (h2 : ¬ upTo l y l.length < 0) : ∃ u, ∃ hu : u < l.length, upTo l y l.length = (u : Int) ∧ rootA l (d + 1) y = rootA l d l[u] := by
  rcases up_cases (l := l) y with ⟨h1, _⟩ | ⟨u, hu, h1, _⟩
  · exact absurd h1 h2
  · refine ⟨u, hu, h1, ?_⟩
    have e : upX l y = (u : Int) := h1
    rw [rootA, if_neg h, if_neg (by omega), e, Int.toNat_natCast, gd hu]
theorem up_yes {l : List Rpt} {y : Rpt} {k : Nat} (hk : k < l.length) (h1 : l[k].source = y.source) (h2 : l[k].no = y.corrects) : upTo l y (k + 1) = (k : Int) := by
  unfold upTo
  rw [if_pos]
  rw [gd hk]
  unfold mtB
  rw [decide_eq_true h1, decide_eq_true h2]; rfl
theorem up_no {l : List Rpt} {y : Rpt} {k : Nat} (hk : k < l.length) (h : ¬ (l[k].source = y.source ∧ l[k].no = y.corrects)) : upTo l y (k + 1) = upTo l y k := by
  rw [upTo, if_neg]
  rw [gd hk]
  intro hh
  exact h (mt_key hh)
theorem sg_at {l : List Rpt} {i j : Nat} (hi : i < l.length) (hj : j < l.length) : sameG l i j = (decide (l[j].source = l[i].source) && decide (rootQ l l[j] = rootQ l l[i])) := by unfold sameG; rw [gd hj, gd hi]


set_option maxRecDepth 100000 in
set_option maxHeartbeats 4000000 in
theorem c_root (l : List Rpt) (x : Rpt) (hll : l.length ≤ 300) : ACall Tryz.prog 117 [.sl (l.map Rpt.ds), .agg x.ds] (.v (.int .i64 (rootQ l x))) := by
  refine acall_of (n := 50) (ds' := [.v (.int .i64 (rootQ l x))]) Tryz.func117 rfl (by kernel_rfl) rfl [4] rfl rfl ?_
  intro B w0 F0 fr
  refine AWP.seq (AWP.region ?_)
  refine AOps.boxOwn 91 rfl rfl rfl rfl rfl rfl rfl ?_
  refine AOps.aD rfl rfl rfl rfl rfl (.nil ?_)
  refine AWP.seq ?_
  refine AWP.seq (AWP.region ?_)
  refine AOps.mD rfl rfl rfl rfl rfl ?_
  refine AOps.step rfl rfl rfl (AOp.lenSl rfl et_22.ht rfl) ?_
  refine AOps.step rfl rfl rfl (AOp.add64 rfl rfl rfl (by simp only [List.length_map]; omega) (by simp only [List.length_map]; omega)) ?_
  refine AOps.mD rfl rfl rfl rfl rfl (.nil ?_)
  refine AWP.block ?_
  refine AWP.loop (G := Nat × Rpt) (fun g => Env.of [(11, .d (.v (.int .i64 (g.1 : Int)))), (10, .d (.v (.int .i64 ((l.length : Int) + 1)))), (0, .d (.sl (l.map Rpt.ds))), (3, .ptr 91 0)]) (fun g => [(91, .cells (cellsR g.2))]) (fun g => g.1 ≤ l.length + 1 ∧ rootQ l x = rootA l (l.length + 1 - g.1) g.2) (fun g => l.length + 1 - g.1) (0, x) ⟨Nat.zero_le _, rfl⟩ (Sub.less ⟨(SLe.of_eq rfl), (SLe.i64 (by rw [List.length_map])), SLe.refl _, SLe.refl _, trivial⟩ (cells_sameM rfl)) ?_
  rintro ⟨m, y⟩ ⟨hm, hr⟩
  dsimp only at hm hr ⊢
  refine AWP.seq (AWP.region ?_)
  refine AOps.step rfl rfl rfl (AOp.lss rfl rfl rfl) (.nil ?_)
  refine AWP.seq ?_
  refine AWP.cond rfl (fun h1 => ?_) (fun h1 => ?_)
  · replace h1 := of_decide_eq_true h1
    have hml : m < l.length + 1 := by omega
    obtain ⟨d, hd⟩ : ∃ d, l.length + 1 - m = d + 1 := ⟨l.length - m, by omega⟩
    rw [hd] at hr
    refine AWP.skip ?_
    refine AWP.seq ?_
    refine AWP.block ?_
    refine AWP.seq ?_
    refine AWP.seq (AWP.region ?_)
    refine AOps.step rfl rfl rfl (AOp.fieldAddrP rfl fo_127_3 rfl) ?_
    refine AOps.step rfl rfl rfl (AOp.loadP rfl sc_3 rfl (.head _) rfl) ?_
    refine AOps.step rfl rfl rfl (AOp.eql rfl rfl rfl) (.nil ?_)
    refine AWP.cond rfl (fun h2 => ?_) (fun h2 => ?_)
    · replace h2 := of_decide_eq_true h2
      rw [hr, rootA_no h2]
      refine AWP.seq (AWP.region ?_)
      refine AOps.step rfl rfl rfl (AOp.fieldAddrP rfl fo_127_1 rfl) ?_
      refine AOps.step rfl rfl rfl (AOp.loadP rfl sc_3 rfl (.head _) rfl) ?_
      refine AOps.aD rfl rfl rfl rfl rfl (.nil ?_)
      refine AWP.ret ?_
      refine ⟨RetD.eq rfl ?_, trivial⟩
      all_goals (rfl)
    replace h2 := of_decide_eq_false h2
    have hc := h2
    refine AWP.skip ?_
    refine AWP.seq (AWP.region ?_)
    refine AOps.aD rfl rfl rfl rfl rfl (.nil ?_)
    refine AWP.seq ?_
    refine AWP.seq (AWP.region ?_)
    refine AOps.mD rfl rfl rfl rfl rfl ?_
    refine AOps.step rfl rfl rfl (AOp.lenSl rfl et_22.ht rfl) ?_
    refine AOps.mD rfl rfl rfl rfl rfl (.nil ?_)
    refine AWP.block ?_
    refine AWP.loop (G := Nat) (fun k => Env.of [(20, .d (.v (.int .i64 (k : Int)))), (18, .d (.sl (l.map Rpt.ds))), (19, .d (.v (.int .i64 ((l.map Rpt.ds).length : Int)))), (5, .d (.v (.int .i64 (upTo l y k)))), (11, .d (.v (.int .i64 (m : Int)))), (10, .d (.v (.int .i64 ((l.length : Int) + 1)))), (0, .d (.sl (l.map Rpt.ds))), (3, .ptr 91 0)]) (fun k => [(91, .cells (cellsR y))]) (fun k => k ≤ l.length) (fun k => l.length - k) 0 (Nat.zero_le _) (Sub.less ⟨(SLe.of_eq rfl), SLe.refl _, SLe.refl _, (SLe.of_eq rfl), SLe.refl _, SLe.refl _, SLe.refl _, SLe.refl _, trivial⟩ (cells_sameM rfl)) ?_
    intro k hk
    refine AWP.seq (AWP.region ?_)
    refine AOps.step rfl rfl rfl (AOp.lss rfl rfl rfl) (.nil ?_)
    refine AWP.seq ?_
    refine AWP.cond rfl (fun h3 => ?_) (fun h3 => ?_)
    · replace h3 := of_decide_eq_true h3
      rw [List.length_map] at h3
      have hlt : k < l.length := by omega
      refine AWP.skip ?_
      refine AWP.seq ?_
      refine AWP.block ?_
      refine AWP.seq (AWP.region ?_)
      refine AOps.mD rfl rfl rfl rfl rfl ?_
      refine AOps.step rfl rfl rfl (AOp.indexAddr rfl et_22 rfl rfl k rfl (at_lst hlt) rfl) ?_
      refine AOps.step rfl rfl rfl (AOp.loadAgg rfl ag_127 rfl rfl) ?_
      refine AOps.alloc 102 rfl rfl rfl rfl zt_127 rfl rfl rfl ?_
      refine AOps.aD rfl rfl rfl rfl rfl ?_
      refine AOps.store rfl rfl rfl sz_127 rfl (.head _) rfl rfl rfl (Nat.le_of_ble_eq_true rfl) ?_
      refine AOps.freezeCells 7 (ds := l[k].ds) rfl (.head _) (.nil ?_)
      refine AWP.seq (AWP.region ?_)
      refine AOps.step rfl rfl rfl (AOp.fieldAddr rfl fo_127_0 rfl) ?_
      refine AOps.step rfl rfl rfl (AOp.load rfl sc_9 rfl) ?_
      refine AOps.step rfl rfl rfl (AOp.fieldAddrP rfl fo_127_0 rfl) ?_
      refine AOps.step rfl rfl rfl (AOp.loadP rfl sc_9 rfl (.head _) rfl) ?_
      refine AOps.step rfl rfl rfl (AOp.seql rfl rfl rfl) ?_
      refine AOps.mD rfl rfl rfl rfl rfl ?_
      refine AOps.split 30 rfl (fun g4 => ?_) (fun g4 => ?_)
      · replace g4 := of_decide_eq_true g4
        have e1 := g4
        refine AOps.step ⟨30, rfl, .inl ⟨_, rfl, rfl⟩⟩ rfl rfl (AOp.fieldAddr rfl fo_127_1 rfl) ?_
        refine AOps.step ⟨30, rfl, .inl ⟨_, rfl, rfl⟩⟩ rfl rfl (AOp.load rfl sc_3 rfl) ?_
        refine AOps.step ⟨30, rfl, .inl ⟨_, rfl, rfl⟩⟩ rfl rfl (AOp.fieldAddrP rfl fo_127_3 rfl) ?_
        refine AOps.step ⟨30, rfl, .inl ⟨_, rfl, rfl⟩⟩ rfl rfl (AOp.loadP rfl sc_3 rfl (.head _) rfl) ?_
        refine AOps.step ⟨30, rfl, .inl ⟨_, rfl, rfl⟩⟩ rfl rfl (AOp.eql rfl rfl rfl) ?_
        refine AOps.step rfl rfl rfl (AOp.pickT rfl rfl rfl) (.nil ?_)
        refine AWP.cond rfl (fun h5 => ?_) (fun h5 => ?_)
        · replace h5 := of_decide_eq_true h5
          have HU := up_yes hlt e1 h5
          refine AWP.region ?_
          refine AOps.mD rfl rfl rfl rfl rfl ?_
          refine AOps.aD rfl rfl rfl rfl rfl (.nil ?_)
          refine AWP.region ?_
          refine AOps.step rfl rfl rfl (AOp.add64 rfl rfl rfl (by omega) (by omega)) ?_
          refine AOps.mD rfl rfl rfl rfl rfl (.nil ?_)
          refine ⟨k + 1, (by dsimp only; omega), (by dsimp only; omega), Sub.less ⟨(SLe.of_eq rfl), SLe.refl _, SLe.refl _, (SLe.i64 HU.symm), SLe.refl _, SLe.refl _, SLe.refl _, SLe.refl _, trivial⟩ (cells_sameM rfl)⟩
        replace h5 := of_decide_eq_false h5
        have HU := up_no (l := l) (y := y) hlt (fun hh => h5 hh.2)
        refine AWP.skip ?_
        refine AWP.region ?_
        refine AOps.step rfl rfl rfl (AOp.add64 rfl rfl rfl (by omega) (by omega)) ?_
        refine AOps.mD rfl rfl rfl rfl rfl (.nil ?_)
        refine ⟨k + 1, (by dsimp only; omega), (by dsimp only; omega), Sub.less ⟨(SLe.of_eq rfl), SLe.refl _, SLe.refl _, (SLe.i64 HU.symm), SLe.refl _, SLe.refl _, SLe.refl _, SLe.refl _, trivial⟩ (cells_sameM rfl)⟩
      replace g4 := of_decide_eq_false g4
      have HU := up_no (l := l) (y := y) hlt (fun hh => g4 hh.1)
      refine AOps.pass ⟨30, rfl, .inl ⟨_, rfl, rfl⟩⟩ rfl rfl ?_
      refine AOps.pass ⟨30, rfl, .inl ⟨_, rfl, rfl⟩⟩ rfl rfl ?_
      refine AOps.pass ⟨30, rfl, .inl ⟨_, rfl, rfl⟩⟩ rfl rfl ?_
      refine AOps.pass ⟨30, rfl, .inl ⟨_, rfl, rfl⟩⟩ rfl rfl ?_
      refine AOps.pass ⟨30, rfl, .inl ⟨_, rfl, rfl⟩⟩ rfl rfl ?_
      refine AOps.step rfl rfl rfl (AOp.pickF rfl rfl rfl) (.nil ?_)
      refine AWP.cond rfl (fun h => nomatch h) (fun _ => ?_)
      refine AWP.skip ?_
      refine AWP.region ?_
      refine AOps.step rfl rfl rfl (AOp.add64 rfl rfl rfl (by omega) (by omega)) ?_
      refine AOps.mD rfl rfl rfl rfl rfl (.nil ?_)
      refine ⟨k + 1, (by dsimp only; omega), (by dsimp only; omega), Sub.less ⟨(SLe.of_eq rfl), SLe.refl _, SLe.refl _, (SLe.i64 HU.symm), SLe.refl _, SLe.refl _, SLe.refl _, SLe.refl _, trivial⟩ (cells_sameM rfl)⟩
    replace h3 := of_decide_eq_false h3
    rw [List.length_map] at h3
    obtain rfl : k = l.length := by omega
    refine AWP.exit ?_
    refine AWP.seq ?_
    refine AWP.seq (AWP.region ?_)
    refine AOps.mD rfl rfl rfl rfl rfl ?_
    refine AOps.step rfl rfl rfl (AOp.lss rfl rfl rfl) (.nil ?_)
    refine AWP.cond rfl (fun h6 => ?_) (fun h6 => ?_)
    · replace h6 := of_decide_eq_true h6
      rw [hr, rootA_cor hc h6]
      refine AWP.seq (AWP.region ?_)
      refine AOps.step rfl rfl rfl (AOp.fieldAddrP rfl fo_127_3 rfl) ?_
      refine AOps.step rfl rfl rfl (AOp.loadP rfl sc_3 rfl (.head _) rfl) ?_
      refine AOps.aD rfl rfl rfl rfl rfl (.nil ?_)
      refine AWP.ret ?_
      refine ⟨RetD.eq rfl ?_, trivial⟩
      all_goals (rfl)
    replace h6 := of_decide_eq_false h6
    obtain ⟨u, hu, hue, hur⟩ := rootA_up (d := d) hc (by omega)
    refine AWP.skip ?_
    refine AWP.region ?_
    refine AOps.mD rfl rfl rfl rfl rfl ?_
    refine AOps.mD rfl rfl rfl rfl rfl ?_
    refine AOps.step rfl rfl rfl (AOp.indexAddr rfl et_22 rfl rfl u hue (at_lst hu) rfl) ?_
    refine AOps.step rfl rfl rfl (AOp.loadAgg rfl ag_127 rfl rfl) ?_
    refine AOps.store rfl rfl rfl sz_127 rfl (.head _) rfl rfl rfl (Nat.le_of_ble_eq_true rfl) (.nil ?_)
    refine AWP.region ?_
    refine AOps.step rfl rfl rfl (AOp.add64 rfl rfl rfl (by omega) (by omega)) ?_
    refine AOps.mD rfl rfl rfl rfl rfl (.nil ?_)
    refine ⟨(m + 1, l[u]), ⟨by dsimp only; omega, by dsimp only; rw [hr, hur, show l.length + 1 - (m + 1) = d by omega]⟩, (by dsimp only; omega), Sub.less ⟨(SLe.of_eq rfl), SLe.refl _, SLe.refl _, SLe.refl _, trivial⟩ (cells_sameM rfl)⟩
  replace h1 := of_decide_eq_false h1
  obtain rfl : m = l.length + 1 := by omega
  rw [Nat.sub_self, rootA_0] at hr
  rw [hr]
  refine AWP.exit ?_
  refine AWP.seq (AWP.region ?_)
  refine AOps.step rfl rfl rfl (AOp.fieldAddrP rfl fo_127_1 rfl) ?_
  refine AOps.step rfl rfl rfl (AOp.loadP rfl sc_3 rfl (.head _) rfl) ?_
  refine AOps.aD rfl rfl rfl rfl rfl (.nil ?_)
  refine AWP.ret ?_
  refine ⟨RetD.eq rfl ?_, trivial⟩
  all_goals (rfl)

end Go.Proofs.YtekenfknoakboaaGreatDoor


namespace Go.Proofs.YtekenfknoakboaaGreatDoor
open Go.RowKit
set_option linter.unusedVariables false

/-! Types. -/
namespace TyO2
theorem ag_80 : AggT Tryz.prog 80 3 := .of (by kernel_rfl)
theorem et_23 : ElemTy Tryz.prog 23 80 3 40 (.agg #[(.string ⟨#[]⟩), (.string ⟨#[]⟩), (.int .i64 0)]) := ⟨by kernel_rfl, by kernel_rfl, by kernel_rfl, by decide⟩
end TyO2
open TyO2


open Go.Sort Go.Lib
theorem wf64 {n : Int} (hn : -9223372036854775808 ≤ n ∧ n ≤ 9223372036854775807) : (Lit.int .i64 n).wf = true := by
  have h1 : IntKind.i64.min = -9223372036854775808 := by decide
  have h2 : IntKind.i64.max = 9223372036854775807 := by decide
  simp only [Lit.wf, Bool.and_eq_true, decide_eq_true_eq, h1, h2]
  exact hn
def keyBi (P : Program) (k : TypeId) : Bool := match P.underlying k with
  | some (.struct fs) => (match fs.toList with
    | [f, g] => f.name != "_" && g.name != "_" && f.offset == 0 && g.offset == 1 && isI64T (P.underlying f.type) && isI64T (P.underlying g.type) && P.cellsOf f.type == 1 && P.cellsOf g.type == 1
    | _ => false) && P.cellsOf k == 2
  | _ => false
def keyBs (P : Program) (k : TypeId) : Bool := match P.underlying k with
  | some (.struct fs) => (match fs.toList with
    | [f, h, g] => ((f.name != "_" && f.offset == 0 && isStrT (P.underlying f.type) && P.cellsOf f.type == 1) && (h.name != "_" && h.offset == 1 && isStrT (P.underlying h.type) && P.cellsOf h.type == 1)) && (g.name != "_" && g.offset == 2 && isI64T (P.underlying g.type) && P.cellsOf g.type == 1)
    | _ => false) && P.cellsOf k == 3
  | _ => false
theorem keyBi_ok {P : Program} {k : TypeId} (h : keyBi P k = true) (hk : P.keyType k = true) (h0 : k < P.types.size) (s n : Int) (hs : (Lit.int .i64 s).wf = true) (hn : (Lit.int .i64 n).wf = true) : ∃ l, keyOf P k (.agg #[.int .i64 s, .int .i64 n]) = some l := by
  unfold keyBi at h
  cases hu : P.underlying k with
  | none => rw [hu] at h; cases h
  | some td =>
    rw [hu] at h
    cases td <;> try (cases h; done)
    rename_i fs
    simp only [Bool.and_eq_true] at h
    obtain ⟨h1, h2⟩ := h
    cases hf : fs.toList with
    | nil => rw [hf] at h1; cases h1
    | cons f r =>
      cases r with
      | nil => rw [hf] at h1; cases h1
      | cons g r =>
        cases r with
        | cons _ _ => rw [hf] at h1; cases h1
        | nil =>
          rw [hf] at h1
          simp only [Bool.and_eq_true, beq_iff_eq] at h1 h2
          obtain ⟨⟨⟨⟨⟨⟨⟨a1, a2⟩, a3⟩, a4⟩, a5⟩, a6⟩, a7⟩, a8⟩ := h1
          have a5' := isI64T_eq a5
          have a6' := isI64T_eq a6
          obtain ⟨m, hm⟩ : ∃ m, P.types.size = m + 1 := ⟨P.types.size - 1, (Nat.sub_add_cancel (Nat.lt_of_le_of_lt (Nat.zero_le k) h0)).symm⟩
          have hall : fs.all (·.name != "_") = true := by
            rw [← Array.all_toList, hf]
            simp only [List.all_cons, List.all_nil, a1, a2, Bool.and_self]
          unfold keyOf
          rw [hu]
          simp only [hk, Value.formed, hu, h2, Bool.true_and]
          refine ⟨.string (keyBytes [.int .i64 s, .int .i64 n]), ?_⟩
          have kf : P.keyLits (m + 1) f.type [.int .i64 s] = some [.int .i64 s] := by
            unfold Program.keyLits
            rw [a5']
            simp [hs]
          have kg : P.keyLits (m + 1) g.type [.int .i64 n] = some [.int .i64 n] := by
            unfold Program.keyLits
            rw [a6']
            simp [hn]
          have c1 : (([Value.int .i64 s, .int .i64 n] : List Value).drop f.offset).take (P.cellsOf f.type) = [.int .i64 s] := by rw [a3, a7]; rfl
          have c2 : (([Value.int .i64 s, .int .i64 n] : List Value).drop g.offset).take (P.cellsOf g.type) = [.int .i64 n] := by rw [a4, a8]; rfl
          have hk2 : P.keyLits (m + 1 + 1) k [.int .i64 s, .int .i64 n] = some [.int .i64 s, .int .i64 n] := by
            unfold Program.keyLits
            rw [hu]
            simp only [List.length_cons, List.length_nil, h2, hall, and_self, if_true, hf, List.mapM_cons, List.mapM_nil, c1, c2, kf, kg]
            rfl
          simp [Value.cells, hm, hk2]

theorem keyBs_ok {P : Program} {k : TypeId} (h : keyBs P k = true) (hk : P.keyType k = true) (h0 : k < P.types.size) (s t : ByteArray) (n : Int) (hs : s.size ≤ maxLen) (ht : t.size ≤ maxLen) (hn : (Lit.int .i64 n).wf = true) : ∃ l, keyOf P k (.agg #[.string s, .string t, .int .i64 n]) = some l := by
  unfold keyBs at h
  cases hu : P.underlying k with
  | none => rw [hu] at h; cases h
  | some td =>
    rw [hu] at h
    cases td <;> try (cases h; done)
    rename_i fs
    simp only [Bool.and_eq_true] at h
    obtain ⟨h1, h2⟩ := h
    cases hf : fs.toList with
    | nil => rw [hf] at h1; cases h1
    | cons f r =>
      cases r with
      | nil => rw [hf] at h1; cases h1
      | cons f2 r =>
        cases r with
        | nil => rw [hf] at h1; cases h1
        | cons g r =>
          cases r with
          | cons _ _ => rw [hf] at h1; cases h1
          | nil =>
            rw [hf] at h1
            simp only [Bool.and_eq_true, beq_iff_eq] at h1 h2
            obtain ⟨⟨⟨a1, a3⟩, a5⟩, a7⟩ := h1.1.1
            obtain ⟨⟨⟨b1, b3⟩, b5⟩, b7⟩ := h1.1.2
            obtain ⟨⟨⟨d1, d3⟩, d5⟩, d7⟩ := h1.2
            have a5' := isStrT_eq a5
            have b5' := isStrT_eq b5
            have d5' := isI64T_eq d5
            obtain ⟨m, hm⟩ : ∃ m, P.types.size = m + 1 := ⟨P.types.size - 1, (Nat.sub_add_cancel (Nat.lt_of_le_of_lt (Nat.zero_le k) h0)).symm⟩
            have hall : fs.all (·.name != "_") = true := by
              rw [← Array.all_toList, hf]
              simp only [List.all_cons, List.all_nil, a1, b1, d1, Bool.and_self]
            unfold keyOf
            rw [hu]
            simp only [hk, Value.formed, hu, h2, Bool.true_and]
            refine ⟨.string (keyBytes [.string s.data.toList, .string t.data.toList, .int .i64 n]), ?_⟩
            have kf : P.keyLits (m + 1) f.type [.string s] = some [.string s.data.toList] := by
              unfold Program.keyLits
              rw [a5']
              simp [hs]
            have kf2 : P.keyLits (m + 1) f2.type [.string t] = some [.string t.data.toList] := by
              unfold Program.keyLits
              rw [b5']
              simp [ht]
            have kg : P.keyLits (m + 1) g.type [.int .i64 n] = some [.int .i64 n] := by
              unfold Program.keyLits
              rw [d5']
              simp [hn]
            have c1 : (([Value.string s, .string t, .int .i64 n] : List Value).drop f.offset).take (P.cellsOf f.type) = [.string s] := by rw [a3, a7]; rfl
            have c2 : (([Value.string s, .string t, .int .i64 n] : List Value).drop f2.offset).take (P.cellsOf f2.type) = [.string t] := by rw [b3, b7]; rfl
            have c3 : (([Value.string s, .string t, .int .i64 n] : List Value).drop g.offset).take (P.cellsOf g.type) = [.int .i64 n] := by rw [d3, d7]; rfl
            have hk2 : P.keyLits (m + 1 + 1) k [.string s, .string t, .int .i64 n] = some [.string s.data.toList, .string t.data.toList, .int .i64 n] := by
              unfold Program.keyLits
              rw [hu]
              simp only [List.length_cons, List.length_nil, h2, hall, and_self, if_true, hf, List.mapM_cons, List.mapM_nil, c1, c2, c3, kf, kf2, kg]
              rfl
            simp [Value.cells, hm, hk2]

theorem krow_S : (141 : TypeId) < Tryz.prog.types.size := of_decide_eq_true (by kernel_rfl)
theorem krow_U : (143 : TypeId) < Tryz.prog.types.size := of_decide_eq_true (by kernel_rfl)
theorem kwide_S : (match Tryz.prog.underlying 141 with | some (.array _ _) | some (.struct _) => true | _ => false) = true := by kernel_rfl
theorem kwide_U : (match Tryz.prog.underlying 143 with | some (.array _ _) | some (.struct _) => true | _ => false) = true := by kernel_rfl
set_option maxRecDepth 100000 in
theorem kd_S : Maps.Keyed Tryz.prog 141 := Maps.Keyed.of_law (deep_law_laid klaid (m := 3) (by omega) krow_S (by kernel_rfl) kwide_S)
set_option maxRecDepth 100000 in
theorem kd_U : Maps.Keyed Tryz.prog 143 := Maps.Keyed.of_law (deep_law_laid klaid (m := 3) (by omega) krow_U (by kernel_rfl) kwide_U)
def keyS (k : KS) : Value := .agg #[.int .i64 k.1, .int .i64 k.2]
def keyU (k : KU) : Value := .agg #[.string k.1, .string k.2.1, .int .i64 k.2.2]
theorem keyS_ok (k : KS) (h1 : -9223372036854775808 ≤ k.1 ∧ k.1 ≤ 9223372036854775807) (h2 : -9223372036854775808 ≤ k.2 ∧ k.2 ≤ 9223372036854775807) : ∃ l, keyOf Tryz.prog 141 (keyS k) = some l :=
  keyBi_ok (by kernel_rfl) (by kernel_rfl) krow_S k.1 k.2 (wf64 h1) (wf64 h2)
theorem keyU_ok (k : KU) (h1 : k.1.size ≤ maxLen) (h2 : k.2.1.size ≤ maxLen) (h3 : -9223372036854775808 ≤ k.2.2 ∧ k.2.2 ≤ 9223372036854775807) : ∃ l, keyOf Tryz.prog 143 (keyU k) = some l :=
  keyBs_ok (by kernel_rfl) (by kernel_rfl) krow_U k.1 k.2.1 k.2.2 h1 h2 (wf64 h3)
theorem keyS_inj {a b : KS} (h : keyS a = keyS b) : a = b := by
  unfold keyS at h
  simp only [Value.agg.injEq] at h
  have h2 : [Value.int .i64 a.1, .int .i64 a.2] = [.int .i64 b.1, .int .i64 b.2] := congrArg Array.toList h
  simp at h2
  exact Prod.ext h2.1 h2.2
theorem keyU_inj {a b : KU} (h : keyU a = keyU b) : a = b := by
  unfold keyU at h
  simp only [Value.agg.injEq] at h
  have h2 : [Value.string a.1, .string a.2.1, .int .i64 a.2.2] = [.string b.1, .string b.2.1, .int .i64 b.2.2] := congrArg Array.toList h
  simp at h2
  exact Prod.ext h2.1 (Prod.ext h2.2.1 h2.2.2)
def encS (L : List (KS × UM)) : List (Value × D) := L.map fun p => (keyS p.1, .agg (toS p).ds)
def encU (L : List (KU × UM)) : List (Value × D) := L.map fun p => (keyU p.1, .agg (toU p).ds)
/-- What a look-up gives. -/
def getS (L : List (KS × UM)) (k : KS) : Sal := match findG L k with
  | some v => toS (k, v)
  | none => default
def getU (L : List (KU × UM)) (k : KU) : Unk := match findG L k with
  | some v => toU (k, v)
  | none => default
theorem mput_S {L : List (KS × UM)} (h : NkG L) (k : KS) (v : UM) {d : D} (hd : d = .agg (toS (k, v)).ds) : MPut (encS L) (keyS k) d (encS (putG L k v)) := by
  subst hd
  exact mputG (kv := keyS) (dv := fun p => .agg (toS p).ds) keyS_inj h k v
theorem mput_U {L : List (KU × UM)} (h : NkG L) (k : KU) (v : UM) {d : D} (hd : d = .agg (toU (k, v)).ds) : MPut (encU L) (keyU k) d (encU (putG L k v)) := by
  subst hd
  exact mputG (kv := keyU) (dv := fun p => .agg (toU p).ds) keyU_inj h k v
theorem mget_S {L : List (KS × UM)} (h : NkG L) (k : KS) : MGet (encS L) (keyS k) (.agg (default : Sal).ds) (.agg (getS L k).ds) :=
  mgetG (kv := keyS) (dv := fun p => .agg (toS p).ds) keyS_inj h k _ _ (by unfold getS; cases findG L k <;> rfl)
theorem mget_U {L : List (KU × UM)} (h : NkG L) (k : KU) : MGet (encU L) (keyU k) (.agg (default : Unk).ds) (.agg (getU L k).ds) :=
  mgetG (kv := keyU) (dv := fun p => .agg (toU p).ds) keyU_inj h k _ _ (by unfold getU; cases findG L k <;> rfl)
theorem get_plus_S (L : List (KS × UM)) (k : KS) (u m : Int) : (getS L k).units + u = (plusG addU (findG L k) (u, m)).1 ∧ (getS L k).money + m = (plusG addU (findG L k) (u, m)).2 := by
  unfold getS plusG
  cases findG L k with
  | none => exact ⟨Int.zero_add _, Int.zero_add _⟩
  | some v => exact ⟨rfl, rfl⟩
theorem get_plus_U (L : List (KU × UM)) (k : KU) (u m : Int) : (getU L k).units + u = (plusG addU (findG L k) (u, m)).1 ∧ (getU L k).money + m = (plusG addU (findG L k) (u, m)).2 := by
  unfold getU plusG
  cases findG L k with
  | none => exact ⟨Int.zero_add _, Int.zero_add _⟩
  | some v => exact ⟨rfl, rfl⟩
theorem get_bound_S {L : List (KS × UM)} {n : Int} (hL : ∀ p ∈ L, (0 ≤ p.2.1 ∧ p.2.1 ≤ 1000000000 * n) ∧ 0 ≤ p.2.2 ∧ p.2.2 ≤ 1000000000 * n) (hn : 0 ≤ n) (k : KS) : (0 ≤ (getS L k).units ∧ (getS L k).units ≤ 1000000000 * n) ∧ 0 ≤ (getS L k).money ∧ (getS L k).money ≤ 1000000000 * n := by
  unfold getS findG
  cases hq : L.find? fun p => decide (p.1 = k) with
  | none =>
    show (0 ≤ (0 : Int) ∧ (0 : Int) ≤ 1000000000 * n) ∧ 0 ≤ (0 : Int) ∧ (0 : Int) ≤ 1000000000 * n
    omega
  | some p => exact hL p (List.mem_of_find?_eq_some hq)
theorem get_bound_U {L : List (KU × UM)} {n : Int} (hL : ∀ p ∈ L, (0 ≤ p.2.1 ∧ p.2.1 ≤ 1000000000 * n) ∧ 0 ≤ p.2.2 ∧ p.2.2 ≤ 1000000000 * n) (hn : 0 ≤ n) (k : KU) : (0 ≤ (getU L k).units ∧ (getU L k).units ≤ 1000000000 * n) ∧ 0 ≤ (getU L k).money ∧ (getU L k).money ≤ 1000000000 * n := by
  unfold getU findG
  cases hq : L.find? fun p => decide (p.1 = k) with
  | none =>
    show (0 ≤ (0 : Int) ∧ (0 : Int) ≤ 1000000000 * n) ∧ 0 ≤ (0 : Int) ∧ (0 : Int) ≤ 1000000000 * n
    omega
  | some p => exact hL p (List.mem_of_find?_eq_some hq)
theorem encS_ok {n : Int} {s : SU} (h : InvS n s) : ∀ p ∈ encS s.1, ∃ l, keyOf Tryz.prog 141 p.1 = some l := fun p hp => by
  unfold encS at hp
  obtain ⟨q, hq, rfl⟩ := List.mem_map.1 hp
  have := h.k1 q hq
  exact keyS_ok q.1 (by omega) (by omega)
theorem encU_ok {n : Int} {s : SU} (h : InvS n s) : ∀ p ∈ encU s.2, ∃ l, keyOf Tryz.prog 143 p.1 = some l := fun p hp => by
  unfold encU at hp
  obtain ⟨q, hq, rfl⟩ := List.mem_map.1 hp
  have := h.k2 q hq
  exact keyU_ok q.1 this.1 this.2.1 (by omega)
theorem zt_S : (Tryz.prog.info? 31).bind (·.zero) = some (.agg #[.int .i64 0, .int .i64 0, .int .i64 0, .int .i64 0]) := by kernel_rfl
theorem zt_U : (Tryz.prog.info? 37).bind (·.zero) = some (.agg #[.string ⟨#[]⟩, .string ⟨#[]⟩, .int .i64 0, .int .i64 0, .int .i64 0]) := by kernel_rfl
theorem zd_S (F : Nat → Prop) (w : World) : Rep F w (.agg #[.int .i64 0, .int .i64 0, .int .i64 0, .int .i64 0]) (.agg (default : Sal).ds) := rep_aggv [.int .i64 0, .int .i64 0, .int .i64 0, .int .i64 0] rfl
theorem zd_U (F : Nat → Prop) (w : World) : Rep F w (.agg #[.string ⟨#[]⟩, .string ⟨#[]⟩, .int .i64 0, .int .i64 0, .int .i64 0]) (.agg (default : Unk).ds) := rep_aggv [.string ⟨#[]⟩, .string ⟨#[]⟩, .int .i64 0, .int .i64 0, .int .i64 0] rfl
theorem mt_S : Tryz.prog.underlying 136 = some (.map 141 31) := by kernel_rfl
theorem mt_U : Tryz.prog.underlying 137 = some (.map 143 37) := by kernel_rfl


set_option maxRecDepth 100000 in
set_option maxHeartbeats 1000000 in
theorem c_bsA (l : List Ali) (x : Ali) (hl : l.length ≤ 100000) : ACall Tryz.prog 74 [.sl (l.map Ali.ds), .agg x.ds, .clo (.func 37) []] (.tup [.v (.int .i64 (posA l x : Int)), .v (.bool (hasA l x))]) := by
  refine acall_of (n := 49) (ds' := [.v (.int .i64 (posA l x : Int)), .v (.bool (hasA l x))]) Tryz.func74 rfl (by kernel_rfl) rfl [6, 7] rfl rfl ?_
  intro B w0 F0 fr
  refine AWP.seq (AWP.region ?_)
  refine AOps.step rfl rfl rfl (AOp.box rfl rfl rfl) ?_
  refine AOps.aD rfl rfl rfl rfl rfl ?_
  refine AOps.aD rfl rfl rfl rfl rfl (.nil ?_)
  refine AWP.seq (AWP.region ?_)
  refine AOps.mD rfl rfl rfl rfl rfl ?_
  refine AOps.step rfl rfl rfl (AOp.lenSl rfl et_23.ht rfl) ?_
  refine AOps.aD rfl rfl rfl rfl rfl (.nil ?_)
  refine AWP.seq (AWP.region ?_)
  refine AOps.mD rfl rfl rfl rfl rfl ?_
  refine AOps.aD rfl rfl rfl rfl rfl ?_
  refine AOps.aD rfl rfl rfl rfl rfl (.nil ?_)
  refine AWP.seq ?_
  refine AWP.block ?_
  refine AWP.loop (G := Nat × Nat) (fun g => Env.of [(9, .d (.v (.int .i64 (g.1 : Int)))), (10, .d (.v (.int .i64 (g.2 : Int)))), (8, .d (.v (.int .i64 (l.length : Int)))), (0, .d (.sl (l.map Ali.ds))), (4, .d (.fp x.ds)), (2, .d (.clo (.func 37) []))]) (fun g => []) (fun g => g.1 ≤ g.2 ∧ g.2 ≤ l.length ∧ posA l x = bsr (ltQA l x) g.1 g.2) (fun g => g.2 - g.1) (0, l.length) ⟨Nat.zero_le _, Nat.le_refl _, rfl⟩ (Sub.less ⟨(SLe.i64 rfl), (SLe.i64 (by simp)), (SLe.i64 (by simp)), SLe.refl _, SLe.refl _, SLe.refl _, trivial⟩ (fun _ h => h)) ?_
  rintro ⟨i, j⟩ ⟨hij, hjl, hb⟩
  dsimp only at hij hjl hb ⊢
  refine AWP.seq ?_
  refine AWP.seq (AWP.region ?_)
  refine AOps.mD rfl rfl rfl rfl rfl ?_
  refine AOps.mD rfl rfl rfl rfl rfl ?_
  refine AOps.step rfl rfl rfl (AOp.lss rfl rfl rfl) (.nil ?_)
  refine AWP.cond rfl (fun h1 => ?_) (fun h1 => ?_)
  · replace h1 := of_decide_eq_true h1
    have hlt : i < j := by omega
    refine AWP.skip ?_
    refine AWP.block ?_
    refine AWP.seq (AWP.region ?_)
    refine AOps.mD rfl rfl rfl rfl rfl ?_
    refine AOps.mD rfl rfl rfl rfl rfl ?_
    refine AOps.step rfl rfl rfl (AOp.add64 rfl rfl rfl (by omega) (by omega)) ?_
    refine AOps.step rfl rfl rfl (AOp.convSame rfl (by kernel_rfl) rfl (wrapU64 (by omega) (by omega))) ?_
    refine AOps.step rfl rfl rfl (AOp.half rfl rfl rfl) ?_
    refine AOps.step rfl rfl rfl (AOp.convSame rfl (by kernel_rfl) rfl (w64 (by omega) (by omega))) ?_
    refine AOps.aD rfl rfl rfl rfl rfl (.nil ?_)
    refine AWP.seq ?_
    refine AWP.draw (by kernel_rfl) (by kernel_rfl) ?_
    refine DRun.step rfl rfl rfl (AOp.moveD rfl rfl) ?_
    refine DRun.step rfl rfl rfl (AOp.moveD rfl rfl) ?_
    refine DRun.step rfl rfl rfl (AOp.moveD rfl rfl) ?_
    refine DRun.step rfl rfl rfl (AOp.indexAddr rfl et_23 rfl rfl ((i + j) / 2) (by omega) (at_lst (by omega)) rfl) ?_
    refine DRun.step rfl rfl rfl (AOp.loadAgg rfl ag_80 rfl rfl) ?_
    refine DRun.step rfl rfl rfl (AOp.loadAgg rfl ag_80 rfl rfl) ?_
    refine DRun.step rfl rfl rfl (AOp.callClo rfl rfl (.cons (ArgOk.rfl' rfl) (.cons (ArgOk.rfl' rfl) .nil)) (c_cmpAli l[(i + j) / 2] x)) ?_
    refine DRun.step rfl rfl rfl (AOp.lss rfl rfl rfl) ?_
    refine DRun.nil ?_
    refine AWP.cond rfl (fun h2 => ?_) (fun h2 => ?_)
    · replace h2 := of_decide_eq_true h2
      have HB := bsr_up hlt (ltQA_t (by omega) h2)
      refine AWP.region ?_
      refine AOps.mD rfl rfl rfl rfl rfl ?_
      refine AOps.step rfl rfl rfl (AOp.add64 rfl rfl rfl (by omega) (by omega)) ?_
      refine AOps.aD rfl rfl rfl rfl rfl (.nil ?_)
      refine ⟨((i + j) / 2 + 1, j), ⟨by dsimp only; omega, by dsimp only; omega, by dsimp only; rw [hb]; exact HB⟩, (by dsimp only; omega), Sub.less ⟨(SLe.i64 (by dsimp only; omega)), (SLe.refl _), SLe.refl _, SLe.refl _, SLe.refl _, SLe.refl _, trivial⟩ (fun _ h => h)⟩
    replace h2 := of_decide_eq_false h2
    have HB := bsr_dn hlt (ltQA_f (by omega) h2)
    refine AWP.region ?_
    refine AOps.mD rfl rfl rfl rfl rfl ?_
    refine AOps.aD rfl rfl rfl rfl rfl (.nil ?_)
    refine ⟨(i, (i + j) / 2), ⟨by dsimp only; omega, by dsimp only; omega, by dsimp only; rw [hb]; exact HB⟩, (by dsimp only; omega), Sub.less ⟨(SLe.refl _), (SLe.i64 (by dsimp only; omega)), SLe.refl _, SLe.refl _, SLe.refl _, SLe.refl _, trivial⟩ (fun _ h => h)⟩
  replace h1 := of_decide_eq_false h1
  rw [bsr_end (by omega)] at hb
  refine AWP.exit ?_
  refine AWP.seq ?_
  refine AWP.draw (by kernel_rfl) (by kernel_rfl) ?_
  refine DRun.step rfl rfl rfl (AOp.moveD rfl rfl) ?_
  refine DRun.step rfl rfl rfl (AOp.moveD rfl rfl) ?_
  refine DRun.step rfl rfl rfl (AOp.moveD rfl rfl) ?_
  refine DRun.step rfl rfl rfl (AOp.lss rfl rfl rfl) ?_
  refine DRun.step rfl rfl rfl (AOp.moveD rfl rfl) ?_
  refine DRun.split 39 rfl (fun g3 => ?_) (fun g3 => ?_)
  · replace g3 := of_decide_eq_true g3
    have hil : i < l.length := by omega
    refine DRun.step ⟨39, rfl, .inl ⟨_, rfl, rfl⟩⟩ rfl rfl (AOp.moveD rfl rfl) ?_
    refine DRun.step ⟨39, rfl, .inl ⟨_, rfl, rfl⟩⟩ rfl rfl (AOp.moveD rfl rfl) ?_
    refine DRun.step ⟨39, rfl, .inl ⟨_, rfl, rfl⟩⟩ rfl rfl (AOp.moveD rfl rfl) ?_
    refine DRun.step ⟨39, rfl, .inl ⟨_, rfl, rfl⟩⟩ rfl rfl (AOp.indexAddr rfl et_23 rfl rfl i rfl (at_lst hil) rfl) ?_
    refine DRun.step ⟨39, rfl, .inl ⟨_, rfl, rfl⟩⟩ rfl rfl (AOp.loadAgg rfl ag_80 rfl rfl) ?_
    refine DRun.step ⟨39, rfl, .inl ⟨_, rfl, rfl⟩⟩ rfl rfl (AOp.loadAgg rfl ag_80 rfl rfl) ?_
    refine DRun.step ⟨39, rfl, .inl ⟨_, rfl, rfl⟩⟩ rfl rfl (AOp.callClo rfl rfl (.cons (ArgOk.rfl' rfl) (.cons (ArgOk.rfl' rfl) .nil)) (c_cmpAli l[i] x)) ?_
    refine DRun.step ⟨39, rfl, .inl ⟨_, rfl, rfl⟩⟩ rfl rfl (AOp.eql rfl rfl rfl) ?_
    refine DRun.step rfl rfl rfl (AOp.pickT rfl rfl rfl) ?_
    refine DRun.step rfl rfl rfl (AOp.assignD rfl rfl) ?_
    refine DRun.step rfl rfl rfl (AOp.assignD rfl rfl) ?_
    refine DRun.nil ?_
    refine AWP.ret ?_
    refine ⟨RetD.eq rfl ?_, RetD.eq rfl ?_, trivial⟩
    all_goals (first | rfl | rw [hb] | rw [HX] | rw [hasA_k hil hb])
  replace g3 := of_decide_eq_false g3
  have HX : hasA l x = false := hasA_e (by omega) hb
  refine DRun.pass ⟨39, rfl, .inl ⟨_, rfl, rfl⟩⟩ rfl rfl ?_
  refine DRun.pass ⟨39, rfl, .inl ⟨_, rfl, rfl⟩⟩ rfl rfl ?_
  refine DRun.pass ⟨39, rfl, .inl ⟨_, rfl, rfl⟩⟩ rfl rfl ?_
  refine DRun.pass ⟨39, rfl, .inl ⟨_, rfl, rfl⟩⟩ rfl rfl ?_
  refine DRun.pass ⟨39, rfl, .inl ⟨_, rfl, rfl⟩⟩ rfl rfl ?_
  refine DRun.pass ⟨39, rfl, .inl ⟨_, rfl, rfl⟩⟩ rfl rfl ?_
  refine DRun.pass ⟨39, rfl, .inl ⟨_, rfl, rfl⟩⟩ rfl rfl ?_
  refine DRun.pass ⟨39, rfl, .inl ⟨_, rfl, rfl⟩⟩ rfl rfl ?_
  refine DRun.step rfl rfl rfl (AOp.pickF rfl rfl rfl) ?_
  refine DRun.step rfl rfl rfl (AOp.assignD rfl rfl) ?_
  refine DRun.step rfl rfl rfl (AOp.assignD rfl rfl) ?_
  refine DRun.nil ?_
  refine AWP.ret ?_
  refine ⟨RetD.eq rfl ?_, RetD.eq rfl ?_, trivial⟩
  all_goals (first | rfl | rw [hb] | rw [HX] | rw [hasA_k hil hb])

end Go.Proofs.YtekenfknoakboaaGreatDoor


namespace Go.Proofs
open Go.Shelf
def Tryz.sortSale_ren : Go.Shelf.Ren := ⟨fun | 6 => 75 | 15 => 110 | 14 => 111 | 28 => 151 | 29 => 152 | 20 => 153 | 21 => 154 | 22 => 155 | 23 => 156 | 24 => 157 | 25 => 158 | 26 => 159 | 27 => 160 | 46 => 190 | 47 => 186 | 48 => 187 | 49 => 191 | 50 => 192 | 57 => 210 | n => n, fun | 22 => 24 | 24 => 31 | 25 => 147 | 3 => 3 | 39 => 174 | 0 => 0 | 53 => 212 | 55 => 214 | 4 => 4 | 46 => 206 | 45 => 205 | 50 => 129 | 5 => 5 | 9 => 9 | 66 => 236 | 70 => 240 | 76 => 252 | 77 => 253 | n => n, fun | n => n⟩
theorem Tryz.sortSale : Go.Proofs.SlLaysF0.n6 Tryz.prog Tryz.sortSale_ren := {
  mixed := by kernel_rfl
  f6 := ⟨Tryz.f75.name, by decide, Tryz.func75.trans (congrArg some (by kernel_rfl))⟩
  f14 := ⟨Tryz.f111.name, by decide, Tryz.func111.trans (congrArg some (by kernel_rfl))⟩
  f15 := Tryz.func110.trans (congrArg some (by kernel_rfl))
  f20 := ⟨Tryz.f153.name, by decide, Tryz.func153.trans (congrArg some (by kernel_rfl))⟩
  f21 := ⟨Tryz.f154.name, by decide, Tryz.func154.trans (congrArg some (by kernel_rfl))⟩
  f22 := ⟨Tryz.f155.name, by decide, Tryz.func155.trans (congrArg some (by kernel_rfl))⟩
  f23 := ⟨Tryz.f156.name, by decide, Tryz.func156.trans (congrArg some (by kernel_rfl))⟩
  f24 := ⟨Tryz.f157.name, by decide, Tryz.func157.trans (congrArg some (by kernel_rfl))⟩
  f25 := ⟨Tryz.f158.name, by decide, Tryz.func158.trans (congrArg some (by kernel_rfl))⟩
  f26 := ⟨Tryz.f159.name, by decide, Tryz.func159.trans (congrArg some (by kernel_rfl))⟩
  f27 := ⟨Tryz.f160.name, by decide, Tryz.func160.trans (congrArg some (by kernel_rfl))⟩
  f28 := Tryz.func151.trans (congrArg some (by kernel_rfl))
  f29 := Tryz.func152.trans (congrArg some (by kernel_rfl))
  f46 := ⟨Tryz.f190.name, by decide, Tryz.func190.trans (congrArg some (by kernel_rfl))⟩
  f47 := Tryz.func186.trans (congrArg some (by kernel_rfl))
  f48 := Tryz.func187.trans (congrArg some (by kernel_rfl))
  f49 := ⟨Tryz.f191.name, by decide, Tryz.func191.trans (congrArg some (by kernel_rfl))⟩
  f50 := ⟨Tryz.f192.name, by decide, Tryz.func192.trans (congrArg some (by kernel_rfl))⟩
  f57 := ⟨Tryz.f210.name, by decide, Tryz.func210.trans (congrArg some (by kernel_rfl))⟩
  t0 := Tryz.underlying0
  a0 := Tryz.isAgg0
  z0 := Tryz.sizeOf0
  v0 := Tryz.zeroValue0
  t3 := Tryz.underlying3
  a3 := Tryz.isAgg3
  z3 := Tryz.sizeOf3
  v3 := Tryz.zeroValue3
  t4 := Tryz.underlying4
  a4 := Tryz.isAgg4
  z4 := Tryz.sizeOf4
  v4 := Tryz.zeroValue4
  t5 := Tryz.underlying5
  a5 := Tryz.isAgg5
  z5 := Tryz.sizeOf5
  v5 := Tryz.zeroValue5
  t9 := Tryz.underlying9
  a9 := Tryz.isAgg9
  z9 := Tryz.sizeOf9
  v9 := Tryz.zeroValue9
  t22 := Tryz.underlying24
  a22 := Tryz.isAgg24
  z22 := Tryz.sizeOf24
  v22 := Tryz.zeroValue24
  t25 := Tryz.underlying147
  a25 := Tryz.isAgg147
  z25 := Tryz.sizeOf147
  v25 := Tryz.zeroValue147
  t39 := Tryz.underlying174
  a39 := Tryz.isAgg174
  z39 := Tryz.sizeOf174
  v39 := Tryz.zeroValue174
  t45 := Tryz.underlying205
  a45 := Tryz.isAgg205
  z45 := Tryz.sizeOf205
  v45 := Tryz.zeroValue205
  t46 := Tryz.underlying206
  a46 := Tryz.isAgg206
  z46 := Tryz.sizeOf206
  v46 := Tryz.zeroValue206
  t50 := Tryz.underlying129
  a50 := Tryz.isAgg129
  z50 := Tryz.sizeOf129
  v50 := Tryz.zeroValue129
  t53 := Tryz.underlying212
  a53 := Tryz.isAgg212
  z53 := Tryz.sizeOf212
  v53 := Tryz.zeroValue212
  t55 := Tryz.underlying214
  a55 := Tryz.isAgg214
  z55 := Tryz.sizeOf214
  v55 := Tryz.zeroValue214
  t66 := Tryz.underlying236
  a66 := Tryz.isAgg236
  z66 := Tryz.sizeOf236
  v66 := Tryz.zeroValue236
  t70 := Tryz.underlying240
  a70 := Tryz.isAgg240
  z70 := Tryz.sizeOf240
  v70 := Tryz.zeroValue240
  t76 := Tryz.underlying252
  a76 := Tryz.isAgg252
  z76 := Tryz.sizeOf252
  v76 := Tryz.zeroValue252
  t77 := Tryz.underlying253
  a77 := Tryz.isAgg253
  z77 := Tryz.sizeOf253
  v77 := Tryz.zeroValue253 }
def Tryz.sortUnk_ren : Go.Shelf.Ren := ⟨fun | 6 => 79 | 15 => 110 | 14 => 113 | 28 => 151 | 29 => 152 | 20 => 161 | 21 => 162 | 22 => 163 | 23 => 164 | 24 => 165 | 25 => 166 | 26 => 167 | 27 => 168 | 46 => 193 | 47 => 186 | 48 => 187 | 49 => 194 | 50 => 195 | 57 => 211 | n => n, fun | 22 => 32 | 24 => 37 | 25 => 150 | 3 => 3 | 39 => 174 | 0 => 0 | 53 => 212 | 55 => 214 | 4 => 4 | 46 => 206 | 45 => 205 | 50 => 129 | 5 => 5 | 9 => 9 | 66 => 236 | 70 => 240 | 76 => 252 | 77 => 253 | n => n, fun | n => n⟩
theorem Tryz.sortUnk : Go.Proofs.SlLaysF0.n6 Tryz.prog Tryz.sortUnk_ren := {
  mixed := by kernel_rfl
  f6 := ⟨Tryz.f79.name, by decide, Tryz.func79.trans (congrArg some (by kernel_rfl))⟩
  f14 := ⟨Tryz.f113.name, by decide, Tryz.func113.trans (congrArg some (by kernel_rfl))⟩
  f15 := Tryz.func110.trans (congrArg some (by kernel_rfl))
  f20 := ⟨Tryz.f161.name, by decide, Tryz.func161.trans (congrArg some (by kernel_rfl))⟩
  f21 := ⟨Tryz.f162.name, by decide, Tryz.func162.trans (congrArg some (by kernel_rfl))⟩
  f22 := ⟨Tryz.f163.name, by decide, Tryz.func163.trans (congrArg some (by kernel_rfl))⟩
  f23 := ⟨Tryz.f164.name, by decide, Tryz.func164.trans (congrArg some (by kernel_rfl))⟩
  f24 := ⟨Tryz.f165.name, by decide, Tryz.func165.trans (congrArg some (by kernel_rfl))⟩
  f25 := ⟨Tryz.f166.name, by decide, Tryz.func166.trans (congrArg some (by kernel_rfl))⟩
  f26 := ⟨Tryz.f167.name, by decide, Tryz.func167.trans (congrArg some (by kernel_rfl))⟩
  f27 := ⟨Tryz.f168.name, by decide, Tryz.func168.trans (congrArg some (by kernel_rfl))⟩
  f28 := Tryz.func151.trans (congrArg some (by kernel_rfl))
  f29 := Tryz.func152.trans (congrArg some (by kernel_rfl))
  f46 := ⟨Tryz.f193.name, by decide, Tryz.func193.trans (congrArg some (by kernel_rfl))⟩
  f47 := Tryz.func186.trans (congrArg some (by kernel_rfl))
  f48 := Tryz.func187.trans (congrArg some (by kernel_rfl))
  f49 := ⟨Tryz.f194.name, by decide, Tryz.func194.trans (congrArg some (by kernel_rfl))⟩
  f50 := ⟨Tryz.f195.name, by decide, Tryz.func195.trans (congrArg some (by kernel_rfl))⟩
  f57 := ⟨Tryz.f211.name, by decide, Tryz.func211.trans (congrArg some (by kernel_rfl))⟩
  t0 := Tryz.underlying0
  a0 := Tryz.isAgg0
  z0 := Tryz.sizeOf0
  v0 := Tryz.zeroValue0
  t3 := Tryz.underlying3
  a3 := Tryz.isAgg3
  z3 := Tryz.sizeOf3
  v3 := Tryz.zeroValue3
  t4 := Tryz.underlying4
  a4 := Tryz.isAgg4
  z4 := Tryz.sizeOf4
  v4 := Tryz.zeroValue4
  t5 := Tryz.underlying5
  a5 := Tryz.isAgg5
  z5 := Tryz.sizeOf5
  v5 := Tryz.zeroValue5
  t9 := Tryz.underlying9
  a9 := Tryz.isAgg9
  z9 := Tryz.sizeOf9
  v9 := Tryz.zeroValue9
  t22 := Tryz.underlying32
  a22 := Tryz.isAgg32
  z22 := Tryz.sizeOf32
  v22 := Tryz.zeroValue32
  t25 := Tryz.underlying150
  a25 := Tryz.isAgg150
  z25 := Tryz.sizeOf150
  v25 := Tryz.zeroValue150
  t39 := Tryz.underlying174
  a39 := Tryz.isAgg174
  z39 := Tryz.sizeOf174
  v39 := Tryz.zeroValue174
  t45 := Tryz.underlying205
  a45 := Tryz.isAgg205
  z45 := Tryz.sizeOf205
  v45 := Tryz.zeroValue205
  t46 := Tryz.underlying206
  a46 := Tryz.isAgg206
  z46 := Tryz.sizeOf206
  v46 := Tryz.zeroValue206
  t50 := Tryz.underlying129
  a50 := Tryz.isAgg129
  z50 := Tryz.sizeOf129
  v50 := Tryz.zeroValue129
  t53 := Tryz.underlying212
  a53 := Tryz.isAgg212
  z53 := Tryz.sizeOf212
  v53 := Tryz.zeroValue212
  t55 := Tryz.underlying214
  a55 := Tryz.isAgg214
  z55 := Tryz.sizeOf214
  v55 := Tryz.zeroValue214
  t66 := Tryz.underlying236
  a66 := Tryz.isAgg236
  z66 := Tryz.sizeOf236
  v66 := Tryz.zeroValue236
  t70 := Tryz.underlying240
  a70 := Tryz.isAgg240
  z70 := Tryz.sizeOf240
  v70 := Tryz.zeroValue240
  t76 := Tryz.underlying252
  a76 := Tryz.isAgg252
  z76 := Tryz.sizeOf252
  v76 := Tryz.zeroValue252
  t77 := Tryz.underlying253
  a77 := Tryz.isAgg253
  z77 := Tryz.sizeOf253
  v77 := Tryz.zeroValue253 }
def Tryz.sortF_ren : Go.Shelf.Ren := ⟨fun | 6 => 72 | 15 => 110 | 14 => 109 | 28 => 151 | 29 => 152 | 20 => 143 | 21 => 144 | 22 => 145 | 23 => 146 | 24 => 147 | 25 => 148 | 26 => 149 | 27 => 150 | 46 => 185 | 47 => 186 | 48 => 187 | 49 => 188 | 50 => 189 | 57 => 209 | n => n, fun | 22 => 22 | 24 => 127 | 25 => 131 | 3 => 3 | 39 => 174 | 0 => 0 | 53 => 212 | 55 => 214 | 4 => 4 | 46 => 206 | 45 => 205 | 50 => 129 | 5 => 5 | 9 => 9 | 66 => 236 | 70 => 240 | 76 => 252 | 77 => 253 | n => n, fun | n => n⟩
def Tryz.cmpI_ren : Go.Shelf.Ren := ⟨fun | 5 => 78 | 7 => 112 | n => n, fun | 22 => 3 | 3 => 3 | 4 => 4 | n => n, fun | n => n⟩
theorem Tryz.cmpI : Go.Proofs.SlLaysC2.n5 Tryz.prog Tryz.cmpI_ren := {
  mixed := by kernel_rfl
  f5 := ⟨Tryz.f78.name, by decide, Tryz.func78.trans (congrArg some (by kernel_rfl))⟩
  f7 := ⟨Tryz.f112.name, by decide, Tryz.func112.trans (congrArg some (by kernel_rfl))⟩
  t3 := Tryz.underlying3
  a3 := Tryz.isAgg3
  z3 := Tryz.sizeOf3
  v3 := Tryz.zeroValue3
  t4 := Tryz.underlying4
  a4 := Tryz.isAgg4
  z4 := Tryz.sizeOf4
  v4 := Tryz.zeroValue4
  t22 := Tryz.underlying3
  a22 := Tryz.isAgg3
  z22 := Tryz.sizeOf3
  v22 := Tryz.zeroValue3 }
end Go.Proofs


namespace Go.Proofs.YtekenfknoakboaaGreatDoor
open Go.RowKit Go.Shelf Go.Lib Go.Sort
set_option linter.unusedVariables false
set_option linter.unusedSimpArgs false

set_option maxHeartbeats 2000000 in
/-- cmp.Or at two. -/
theorem or2 (a b : Int) (blk : Nat) (W : World) (h0 : W.cell? ⟨blk, 0, none⟩ = some (.int .i64 a)) (h1 : W.cell? ⟨blk, 1, none⟩ = some (.int .i64 b)) :
    Calls Tryz.prog 77 #[.slice (some ⟨blk, 0, none⟩) 2 2] W fun e w' => e = .returned (.int .i64 (if a = 0 then b else a)) ∧ w' = W := by
  go_enter Tryz.func77, Tryz.ntmps77
  go_wp2
  refine wp_loop_rounds 3 ?_
  rw [rounds_succ]
  by_cases ha : a = 0
  · subst ha
    go_wp2
    rw [rounds_succ]
    by_cases hb : b = 0
    · subst hb
      go_wp2
      rw [rounds_succ]
      go_wp2
      go_ret
      exact ⟨rfl, rfl⟩
    · go_wp2
      go_ret
      exact ⟨rfl, rfl⟩
  · go_wp2
    go_ret
    exact ⟨rfl, rfl⟩
set_option maxHeartbeats 4000000 in
/-- cmp.Or at three. -/
theorem or3 (a b c : Int) (blk : Nat) (W : World) (h0 : W.cell? ⟨blk, 0, none⟩ = some (.int .i64 a)) (h1 : W.cell? ⟨blk, 1, none⟩ = some (.int .i64 b)) (h2 : W.cell? ⟨blk, 2, none⟩ = some (.int .i64 c)) :
    Calls Tryz.prog 77 #[.slice (some ⟨blk, 0, none⟩) 3 3] W fun e w' => e = .returned (.int .i64 (if a = 0 then (if b = 0 then c else b) else a)) ∧ w' = W := by
  go_enter Tryz.func77, Tryz.ntmps77
  go_wp2
  refine wp_loop_rounds 4 ?_
  rw [rounds_succ]
  by_cases ha : a = 0
  · subst ha
    go_wp2
    rw [rounds_succ]
    by_cases hb : b = 0
    · subst hb
      go_wp2
      rw [rounds_succ]
      by_cases hc : c = 0
      · subst hc
        go_wp2
        rw [rounds_succ]
        go_wp2
        go_ret
        exact ⟨rfl, rfl⟩
      · go_wp2
        go_ret
        exact ⟨rfl, rfl⟩
    · go_wp2
      go_ret
      exact ⟨rfl, rfl⟩
  · go_wp2
    go_ret
    exact ⟨rfl, rfl⟩
theorem cmpI_any (a b : Int) (W : World) : Calls Tryz.prog 78 #[.int .i64 a, .int .i64 b] W fun e w' => e = .returned (.int .i64 (cmpI2 a b)) ∧ w' = W := AnyG.cmp_Compare_int Tryz.cmpI a b W
theorem cmpB_any (a b : ByteArray) (W : World) : Calls Tryz.prog 81 #[.string a, .string b] W fun e w' => e = .returned (.int .i64 (strCmp a b)) ∧ w' = W := Any.strings_Compare Tryz.l106 a b W
set_option maxHeartbeats 4000000 in
set_option maxRecDepth 1000000 in
/-- The order of sales, in whatever world. -/
theorem cmpS_any (x1 x2 y1 y2 : Int) (x3 x4 y3 y4 : Value) (W : World) : Calls Tryz.prog 76 #[.agg #[.int .i64 x1, .int .i64 x2, x3, x4], .agg #[.int .i64 y1, .int .i64 y2, y3, y4]] W fun e w' => e = .returned (.int .i64 (if cmpI2 x1 y1 = 0 then cmpI2 x2 y2 else cmpI2 x1 y1)) ∧ ∃ q os', w' = grow (W.drewN q) os' := by
  have hcon := fun W' => cmpI_any x1 y1 W'
  have hcon2 := fun W' => cmpI_any x2 y2 W'
  have hor := or2 (cmpI2 x1 y1) (cmpI2 x2 y2)
  generalize cmpI2 x1 y1 = r at *
  generalize cmpI2 x2 y2 = s at *
  have hor2 : ∀ (X : World) (b e : Nat), b = X.heap.size → Calls Tryz.prog 77 #[.slice (some ⟨b, 0, none⟩) 2 2] (X.alloc (.cells #[.int .i64 r, .int .i64 s] e)) fun e' w' => e' = .returned (.int .i64 (if r = 0 then s else r)) ∧ w' = X.alloc (.cells #[.int .i64 r, .int .i64 s] e) :=
    fun X b e hb => hor b _ (cell_top hb rfl) (cell_top hb rfl)
  clear hor
  generalize (if r = 0 then s else r) = t at hor2 ⊢
  go_enter Tryz.func76, Tryz.ntmps76
  go_wp2
  generalize hW2 : (W.alloc (Obj.cells #[Value.int IntKind.i64 x1, Value.int IntKind.i64 x2, x3, x4] 31)).alloc (Obj.cells #[Value.int IntKind.i64 y1, Value.int IntKind.i64 y2, y3, y4] 31) = W2
  have c1 : W2.cell? ⟨W.heap.size, 0, none⟩ = some (.int .i64 x1) := by rw [← hW2]; simp [go_sem]
  have c2 : W2.cell? ⟨W.heap.size, 1, none⟩ = some (.int .i64 x2) := by rw [← hW2]; simp [go_sem]
  have c3 : W2.cell? ⟨W.heap.size + 1, 0, none⟩ = some (.int .i64 y1) := by rw [← hW2]; simp [go_sem]
  have c4 : W2.cell? ⟨W.heap.size + 1, 1, none⟩ = some (.int .i64 y2) := by rw [← hW2]; simp [go_sem]
  have hG : ∃ os, W2 = grow W os := ⟨_, by rw [← hW2, alloc_eq_grow, alloc_eq_grow, grow_grow]⟩
  clear hW2
  refine wp_region_still_tail 10 (by kernel_rfl) (by kernel_rfl) ?_
  simp only [List.take_succ_cons, List.take_zero, List.drop_succ_cons, List.drop_zero]
  have e3 : ({ W2 with drawn := W2.drawn + 1 } : World) = W2.drew := rfl
  simp only [e3]
  have c1' : W2.drew.cell? ⟨W.heap.size, 0, none⟩ = some (.int .i64 x1) := c1
  have c2' : W2.drew.cell? ⟨W.heap.size, 1, none⟩ = some (.int .i64 x2) := c2
  have c3' : W2.drew.cell? ⟨W.heap.size + 1, 0, none⟩ = some (.int .i64 y1) := c3
  have c4' : W2.drew.cell? ⟨W.heap.size + 1, 1, none⟩ = some (.int .i64 y2) := c4
  have hG' : ∃ q os, W2.drew = grow (W.drewN q) os := by obtain ⟨os, rfl⟩ := hG; exact ⟨1, os, rfl⟩
  clear c1 c2 c3 c4 hG e3
  generalize W2.drew = W3 at *
  still_step
  still_step
  still_step
  still_step
  still_call (hcon _)
  still_step
  still_step
  still_step
  still_step
  still_call (hcon2 _)
  refine wpStill_nil ?_
  clear hcon hcon2 c1' c2' c3' c4'
  go_wp2_with (go_at_call 77; refine (hor2 _ _ _ (by simp)).mono ?_; rintro e w' ⟨rfl, rfl⟩)
  go_ret
  obtain ⟨q, os, rfl⟩ := hG'
  exact ⟨rfl, q, _, by rw [alloc_eq_grow, grow_grow]⟩
set_option maxHeartbeats 8000000 in
set_option maxRecDepth 1000000 in
/-- The order of unknown things, in whatever world. -/
theorem cmpU_any (x1 x2 y1 y2 : ByteArray) (x3 y3 : Int) (x4 x5 y4 y5 : Value) (W : World) : Calls Tryz.prog 80 #[.agg #[.string x1, .string x2, .int .i64 x3, x4, x5], .agg #[.string y1, .string y2, .int .i64 y3, y4, y5]] W fun e w' => e = .returned (.int .i64 (if strCmp x1 y1 = 0 then (if strCmp x2 y2 = 0 then cmpI2 x3 y3 else strCmp x2 y2) else strCmp x1 y1)) ∧ ∃ q os', w' = grow (W.drewN q) os' := by
  have hcon := fun W' => cmpB_any x1 y1 W'
  have hcon2 := fun W' => cmpB_any x2 y2 W'
  have hcon3 := fun W' => cmpI_any x3 y3 W'
  have hor := or3 (strCmp x1 y1) (strCmp x2 y2) (cmpI2 x3 y3)
  generalize strCmp x1 y1 = r at *
  generalize strCmp x2 y2 = s at *
  generalize cmpI2 x3 y3 = u at *
  have hor2 : ∀ (X : World) (b e : Nat), b = X.heap.size → Calls Tryz.prog 77 #[.slice (some ⟨b, 0, none⟩) 3 3] (X.alloc (.cells #[.int .i64 r, .int .i64 s, .int .i64 u] e)) fun e' w' => e' = .returned (.int .i64 (if r = 0 then (if s = 0 then u else s) else r)) ∧ w' = X.alloc (.cells #[.int .i64 r, .int .i64 s, .int .i64 u] e) :=
    fun X b e hb => hor b _ (cell_top hb rfl) (cell_top hb rfl) (cell_top hb rfl)
  clear hor
  generalize (if r = 0 then (if s = 0 then u else s) else r) = t at hor2 ⊢
  go_enter Tryz.func80, Tryz.ntmps80
  go_wp2
  generalize hW2 : (W.alloc (Obj.cells #[Value.string x1, Value.string x2, Value.int IntKind.i64 x3, x4, x5] 37)).alloc (Obj.cells #[Value.string y1, Value.string y2, Value.int IntKind.i64 y3, y4, y5] 37) = W2
  have c1 : W2.cell? ⟨W.heap.size, 0, none⟩ = some (.string x1) := by rw [← hW2]; simp [go_sem]
  have c2 : W2.cell? ⟨W.heap.size, 1, none⟩ = some (.string x2) := by rw [← hW2]; simp [go_sem]
  have c5 : W2.cell? ⟨W.heap.size, 2, none⟩ = some (.int .i64 x3) := by rw [← hW2]; simp [go_sem]
  have c3 : W2.cell? ⟨W.heap.size + 1, 0, none⟩ = some (.string y1) := by rw [← hW2]; simp [go_sem]
  have c4 : W2.cell? ⟨W.heap.size + 1, 1, none⟩ = some (.string y2) := by rw [← hW2]; simp [go_sem]
  have c6 : W2.cell? ⟨W.heap.size + 1, 2, none⟩ = some (.int .i64 y3) := by rw [← hW2]; simp [go_sem]
  have hG : ∃ os, W2 = grow W os := ⟨_, by rw [← hW2, alloc_eq_grow, alloc_eq_grow, grow_grow]⟩
  clear hW2
  refine wp_region_still_tail 15 (by kernel_rfl) (by kernel_rfl) ?_
  simp only [List.take_succ_cons, List.take_zero, List.drop_succ_cons, List.drop_zero]
  have e3 : ({ W2 with drawn := W2.drawn + 1 } : World) = W2.drew := rfl
  simp only [e3]
  have c1' : W2.drew.cell? ⟨W.heap.size, 0, none⟩ = some (.string x1) := c1
  have c2' : W2.drew.cell? ⟨W.heap.size, 1, none⟩ = some (.string x2) := c2
  have c5' : W2.drew.cell? ⟨W.heap.size, 2, none⟩ = some (.int .i64 x3) := c5
  have c3' : W2.drew.cell? ⟨W.heap.size + 1, 0, none⟩ = some (.string y1) := c3
  have c4' : W2.drew.cell? ⟨W.heap.size + 1, 1, none⟩ = some (.string y2) := c4
  have c6' : W2.drew.cell? ⟨W.heap.size + 1, 2, none⟩ = some (.int .i64 y3) := c6
  have hG' : ∃ q os, W2.drew = grow (W.drewN q) os := by obtain ⟨os, rfl⟩ := hG; exact ⟨1, os, rfl⟩
  clear c1 c2 c3 c4 c5 c6 hG e3
  generalize W2.drew = W3 at *
  iterate 4 still_step
  still_call (hcon _)
  iterate 4 still_step
  still_call (hcon2 _)
  iterate 4 still_step
  still_call (hcon3 _)
  refine wpStill_nil ?_
  clear hcon hcon2 hcon3 c1' c2' c3' c4' c5' c6'
  go_wp2_with (go_at_call 77; refine (hor2 _ _ _ (by simp)).mono ?_; rintro e w' ⟨rfl, rfl⟩)
  go_ret
  obtain ⟨q, os, rfl⟩ := hG'
  exact ⟨rfl, q, _, by rw [alloc_eq_grow, grow_grow]⟩
/-! ## The contracts of the sorts -/
theorem repL_vv {F : Nat → Prop} {w : World} : ∀ {xs : List Value} {vs : List Value}, xs.length = vs.length → (∀ i (h : i < xs.length) (h' : i < (vs.map D.v).length), Rep F w xs[i] (vs.map D.v)[i]) → xs = vs := fun hl h => by
  apply List.ext_getElem hl
  intro i h1 h2
  have := h i h1 (by simpa using h2)
  rw [List.getElem_map] at this
  exact rep_v this
theorem cmpT_S : CmpT Tryz.prog 76 4 Sal.ds cmpS := fun F w0 W x y xs ys h1 h2 h3 h4 => by
  have e1 := repL_vv (vs := [.int .i64 x.recd, .int .i64 x.per, .int .i64 x.units, .int .i64 x.money]) (by simpa using h1) h3
  have e2 := repL_vv (vs := [.int .i64 y.recd, .int .i64 y.per, .int .i64 y.units, .int .i64 y.money]) (by simpa using h2) h4
  subst e1; subst e2
  have e3 : cmpS x y = if cmpI2 x.recd y.recd = 0 then cmpI2 x.per y.per else cmpI2 x.recd y.recd := by unfold cmpS; rw [orI_cons, orI_one]
  rw [e3]
  exact cmpS_any _ _ _ _ _ _ _ _ W
theorem cmpT_U : CmpT Tryz.prog 80 5 Unk.ds cmpU := fun F w0 W x y xs ys h1 h2 h3 h4 => by
  have e1 := repL_vv (vs := [.string x.source, .string x.title, .int .i64 x.per, .int .i64 x.units, .int .i64 x.money]) (by simpa using h1) h3
  have e2 := repL_vv (vs := [.string y.source, .string y.title, .int .i64 y.per, .int .i64 y.units, .int .i64 y.money]) (by simpa using h2) h4
  subst e1; subst e2
  have e3 : cmpU x y = if strCmp x.source y.source = 0 then (if strCmp x.title y.title = 0 then cmpI2 x.per y.per else strCmp x.title y.title) else strCmp x.source y.source := by unfold cmpU; rw [orI_cons, orI_cons, orI_one]
  rw [e3]
  exact cmpU_any _ _ _ _ _ _ _ _ _ _ W
theorem sortT_S : SortT Tryz.prog 75 4 where
  ent := enters_of Tryz.func75 (by kernel_rfl) rfl
  nil fv w := AnyF.slices_SortFunc_none Tryz.sortSale none 0 fv w
  all enc hk h1 cf hO g blk cap d w eg hC hH hb hn := AnyQ.slices_SortFunc Tryz.sortSale 4 (fun w => (AggT.of (by kernel_rfl) : AggT Tryz.prog 31 4).agg w) (fun w => (AggT.of (by kernel_rfl) : AggT Tryz.prog 31 4).size w) enc hk h1 cf hO g #[] blk 0 cap d w eg hC hH hb hn
theorem sortT_U : SortT Tryz.prog 79 5 where
  ent := enters_of Tryz.func79 (by kernel_rfl) rfl
  nil fv w := AnyF.slices_SortFunc_none Tryz.sortUnk none 0 fv w
  all enc hk h1 cf hO g blk cap d w eg hC hH hb hn := AnyQ.slices_SortFunc Tryz.sortUnk 5 (fun w => (AggT.of (by kernel_rfl) : AggT Tryz.prog 37 5).agg w) (fun w => (AggT.of (by kernel_rfl) : AggT Tryz.prog 37 5).size w) enc hk h1 cf hO g #[] blk 0 cap d w eg hC hH hb hn
theorem c_sortS (xs : List Sal) (hn : xs.length < 4611686018427387904) (hd : DistF cmpS xs) (e : Nat) : RCall Tryz.prog 75 e 4 (xs.map Sal.ds) ((sortF cmpS xs).map Sal.ds) [.clo (.func 76) []] (.tup []) :=
  sort_rcall sortT_S swo_S (enters_of Tryz.func76 (by kernel_rfl) rfl) cmpT_S (fun _ => rfl) [.int .i64 0, .int .i64 0, .int .i64 0, .int .i64 0] rfl (by simp [Value.oneCell']) (fun F w i h h' => by
    have hi : i < 4 := h
    match i, hi with
    | 0, _ => exact .v _
    | 1, _ => exact .v _
    | 2, _ => exact .v _
    | 3, _ => exact .v _) xs hn hd e
theorem c_sortU (xs : List Unk) (hn : xs.length < 4611686018427387904) (hd : DistF cmpU xs) (e : Nat) : RCall Tryz.prog 79 e 5 (xs.map Unk.ds) ((sortF cmpU xs).map Unk.ds) [.clo (.func 80) []] (.tup []) :=
  sort_rcall sortT_U swo_U (enters_of Tryz.func80 (by kernel_rfl) rfl) cmpT_U (fun _ => rfl) [.string ⟨#[]⟩, .string ⟨#[]⟩, .int .i64 0, .int .i64 0, .int .i64 0] rfl (by simp [Value.oneCell']) (fun F w i h h' => by
    have hi : i < 5 := h
    match i, hi with
    | 0, _ => exact .v _
    | 1, _ => exact .v _
    | 2, _ => exact .v _
    | 3, _ => exact .v _
    | 4, _ => exact .v _) xs hn hd e
end Go.Proofs.YtekenfknoakboaaGreatDoor


namespace Go.Proofs.YtekenfknoakboaaGreatDoor
open Go.RowKit
set_option linter.unusedVariables false

/-! Types. -/
namespace TyO3
theorem ag_127 : AggT Tryz.prog 127 5 := .of (by kernel_rfl)
theorem ag_134 : AggT Tryz.prog 134 3 := .of (by kernel_rfl)
theorem ag_141 : AggT Tryz.prog 141 2 := .of (by kernel_rfl)
theorem ag_143 : AggT Tryz.prog 143 3 := .of (by kernel_rfl)
theorem ag_31 : AggT Tryz.prog 31 4 := .of (by kernel_rfl)
theorem ag_37 : AggT Tryz.prog 37 5 := .of (by kernel_rfl)
theorem bu_141 : StructT Tryz.prog 141 (fun i => (#[(0, 1), (1, 1)] : Array (Nat × Nat))[i]?) [(.int .i64 0), (.int .i64 0)] := .of (by kernel_rfl) (by kernel_rfl) (by decide)
theorem bu_143 : StructT Tryz.prog 143 (fun i => (#[(0, 1), (1, 1), (2, 1)] : Array (Nat × Nat))[i]?) [(.string ⟨#[]⟩), (.string ⟨#[]⟩), (.int .i64 0)] := .of (by kernel_rfl) (by kernel_rfl) (by decide)
theorem bu_31 : StructT Tryz.prog 31 (fun i => (#[(0, 1), (1, 1), (2, 1), (3, 1)] : Array (Nat × Nat))[i]?) [(.int .i64 0), (.int .i64 0), (.int .i64 0), (.int .i64 0)] := .of (by kernel_rfl) (by kernel_rfl) (by decide)
theorem bu_37 : StructT Tryz.prog 37 (fun i => (#[(0, 1), (1, 1), (2, 1), (3, 1), (4, 1)] : Array (Nat × Nat))[i]?) [(.string ⟨#[]⟩), (.string ⟨#[]⟩), (.int .i64 0), (.int .i64 0), (.int .i64 0)] := .of (by kernel_rfl) (by kernel_rfl) (by decide)
theorem bu_80 : StructT Tryz.prog 80 (fun i => (#[(0, 1), (1, 1), (2, 1)] : Array (Nat × Nat))[i]?) [(.string ⟨#[]⟩), (.string ⟨#[]⟩), (.int .i64 0)] := .of (by kernel_rfl) (by kernel_rfl) (by decide)
theorem et_125 : ElemTy Tryz.prog 125 134 3 32 (.agg #[(.string ⟨#[]⟩), (.int .i64 0), (.int .i64 0)]) := ⟨by kernel_rfl, by kernel_rfl, by kernel_rfl, by decide⟩
theorem et_22 : ElemTy Tryz.prog 22 127 5 64 (.agg #[(.string ⟨#[]⟩), (.int .i64 0), (.int .i64 0), (.int .i64 0), (.slice none 0 0)]) := ⟨by kernel_rfl, by kernel_rfl, by kernel_rfl, by decide⟩
theorem et_23 : ElemTy Tryz.prog 23 80 3 40 (.agg #[(.string ⟨#[]⟩), (.string ⟨#[]⟩), (.int .i64 0)]) := ⟨by kernel_rfl, by kernel_rfl, by kernel_rfl, by decide⟩
theorem et_24 : ElemTy Tryz.prog 24 31 4 32 (.agg #[(.int .i64 0), (.int .i64 0), (.int .i64 0), (.int .i64 0)]) := ⟨by kernel_rfl, by kernel_rfl, by kernel_rfl, by decide⟩
theorem et_32 : ElemTy Tryz.prog 32 37 5 56 (.agg #[(.string ⟨#[]⟩), (.string ⟨#[]⟩), (.int .i64 0), (.int .i64 0), (.int .i64 0)]) := ⟨by kernel_rfl, by kernel_rfl, by kernel_rfl, by decide⟩
theorem fo_127_0 : fieldOff Tryz.prog 127 0 = some 0 := by kernel_rfl
theorem fo_127_2 : fieldOff Tryz.prog 127 2 = some 2 := by kernel_rfl
theorem fo_127_4 : fieldOff Tryz.prog 127 4 = some 4 := by kernel_rfl
theorem fo_134_0 : fieldOff Tryz.prog 134 0 = some 0 := by kernel_rfl
theorem fo_134_1 : fieldOff Tryz.prog 134 1 = some 1 := by kernel_rfl
theorem fo_134_2 : fieldOff Tryz.prog 134 2 = some 2 := by kernel_rfl
theorem fo_141_0 : fieldOff Tryz.prog 141 0 = some 0 := by kernel_rfl
theorem fo_141_1 : fieldOff Tryz.prog 141 1 = some 1 := by kernel_rfl
theorem fo_31_2 : fieldOff Tryz.prog 31 2 = some 2 := by kernel_rfl
theorem fo_31_3 : fieldOff Tryz.prog 31 3 = some 3 := by kernel_rfl
theorem fo_37_3 : fieldOff Tryz.prog 37 3 = some 3 := by kernel_rfl
theorem fo_37_4 : fieldOff Tryz.prog 37 4 = some 4 := by kernel_rfl
theorem fo_80_2 : fieldOff Tryz.prog 80 2 = some 2 := by kernel_rfl
theorem mt_136 : Tryz.prog.underlying 136 = some (.map 141 31) := by kernel_rfl
theorem mt_137 : Tryz.prog.underlying 137 = some (.map 143 37) := by kernel_rfl
theorem sc_125 : Scal Tryz.prog 125 := .of (by kernel_rfl)
theorem sc_3 : Scal Tryz.prog 3 := .of (by kernel_rfl)
theorem sc_9 : Scal Tryz.prog 9 := .of (by kernel_rfl)
theorem sz_127 : ∀ w, (sizeOf 127).run Tryz.prog w = .ok 5 w := SizeT.of (by kernel_rfl)
theorem sz_134 : ∀ w, (sizeOf 134).run Tryz.prog w = .ok 3 w := SizeT.of (by kernel_rfl)
theorem sz_141 : ∀ w, (sizeOf 141).run Tryz.prog w = .ok 2 w := SizeT.of (by kernel_rfl)
theorem sz_143 : ∀ w, (sizeOf 143).run Tryz.prog w = .ok 3 w := SizeT.of (by kernel_rfl)
theorem sz_31 : ∀ w, (sizeOf 31).run Tryz.prog w = .ok 4 w := SizeT.of (by kernel_rfl)
theorem sz_37 : ∀ w, (sizeOf 37).run Tryz.prog w = .ok 5 w := SizeT.of (by kernel_rfl)
theorem zt_127 : (Tryz.prog.info? 127).bind (·.zero) = some (.agg #[(.string ⟨#[]⟩), (.int .i64 0), (.int .i64 0), (.int .i64 0), (.slice none 0 0)]) := by kernel_rfl
theorem zt_134 : (Tryz.prog.info? 134).bind (·.zero) = some (.agg #[(.string ⟨#[]⟩), (.int .i64 0), (.int .i64 0)]) := by kernel_rfl
theorem zt_141 : (Tryz.prog.info? 141).bind (·.zero) = some (.agg #[(.int .i64 0), (.int .i64 0)]) := by kernel_rfl
theorem zt_143 : (Tryz.prog.info? 143).bind (·.zero) = some (.agg #[(.string ⟨#[]⟩), (.string ⟨#[]⟩), (.int .i64 0)]) := by kernel_rfl
theorem zt_31 : (Tryz.prog.info? 31).bind (·.zero) = some (.agg #[(.int .i64 0), (.int .i64 0), (.int .i64 0), (.int .i64 0)]) := by kernel_rfl
theorem zt_37 : (Tryz.prog.info? 37).bind (·.zero) = some (.agg #[(.string ⟨#[]⟩), (.string ⟨#[]⟩), (.int .i64 0), (.int .i64 0), (.int .i64 0)]) := by kernel_rfl
end TyO3
open TyO3


open Go.Sort Go.Lib
theorem usd_rng {x : Rpt} (h : rptF x = 0) : ∀ u ∈ x.lines, (0 ≤ u.units ∧ u.units ≤ 1000000000) ∧ 0 ≤ u.money ∧ u.money ≤ 1000000000 := fun u hu => by
  have h0 : ffst (usdF x.lines) x.lines.length = 0 := by
    unfold rptF at h
    split at h
    · omega
    · split at h
      · omega
      · split at h
        · omega
        · exact h
  obtain ⟨k, hk, rfl⟩ := List.mem_iff_getElem.1 hu
  have h1 := ffst_all _ h0 k hk
  unfold usdF at h1
  rw [dif_pos hk] at h1
  split at h1
  · omega
  · split at h1
    · omega
    · rename_i h2
      exact Decidable.not_not.1 h2
theorem rpt_per {x : Rpt} (h : rptF x = 0) : 0 ≤ x.period ∧ x.period ≤ 2400 := by
  unfold rptF at h
  split at h
  · omega
  · split at h
    · omega
    · rename_i h2
      exact (Decidable.not_not.1 h2).2.1
theorem InvS.mono {n m : Int} {s : SU} (h : InvS n s) (hm : n ≤ m) : InvS m s :=
  ⟨h.n1, h.n2, fun p hp => by have := h.b1 p hp; omega, fun p hp => by have := h.b2 p hp; omega, h.k1, h.k2, by have := h.l1; omega, by have := h.l2; omega⟩
structure RpO (x : Rpt) : Prop where
  src : x.source.size ≤ maxLen
  per : 0 ≤ x.period ∧ x.period ≤ 2400
  len : x.lines.length ≤ 100
  use : ∀ u ∈ x.lines, u.title.size ≤ maxLen ∧ (0 ≤ u.units ∧ u.units ≤ 1000000000) ∧ 0 ≤ u.money ∧ u.money ≤ 1000000000
theorem rpO {x : Rpt} (h : rptF x = 0) (ho : okRpt x) : RpO x := ⟨ho.1, rpt_per h, rpt_lines h, fun u hu => ⟨ho.2 u hu, usd_rng h u hu⟩⟩
theorem inv_B {a : List Ali} (ha : Als a) {x : Rpt} (hx : RpO x) {n : Int} (hn : 0 ≤ n) {s : SU} (hs : InvS n s) : ∀ j, j ≤ x.lines.length → InvS (n + (j : Int)) (stB a x s j)
  | 0, _ => by simpa [stB] using hs
  | j + 1, hj => by
    rw [stB_next (by omega)]
    have := (inv_B ha hx hn hs j (by omega)).step (by omega) a x x.lines[j] ha.rng ⟨hx.src, hx.per⟩ (hx.use _ (List.getElem_mem _))
    exact this.mono (by omega)
theorem inv_A {a : List Ali} (ha : Als a) {V : List Rpt} (hV : ∀ x ∈ V, RpO x) : ∀ k, k ≤ V.length → InvS (100 * (k : Int)) (stA a (V.take k))
  | 0, _ => by
    have : stA a (V.take 0) = ([], []) := by simp [stA]
    rw [this]
    exact InvS.nil
  | k + 1, hk => by
    rw [stA_next (by omega)]
    have hx := hV _ (List.getElem_mem (show k < V.length by omega))
    have hl := hx.len
    exact (inv_B ha hx (by omega) (inv_A ha hV k (by omega)) _ (Nat.le_refl _)).mono (by omega)
theorem put_eq_S (L : List (KS × UM)) (k : KS) (u m : Int) : D.agg [.v (.int .i64 k.1), .v (.int .i64 k.2), .v (.int .i64 ((getS L k).units + u)), .v (.int .i64 ((getS L k).money + m))] = .agg (toS (k, plusG addU (findG L k) (u, m))).ds := by
  rw [(get_plus_S L k u m).1, (get_plus_S L k u m).2]; rfl
theorem put_eq_U (L : List (KU × UM)) (k : KU) (u m : Int) : D.agg [.v (.string k.1), .v (.string k.2.1), .v (.int .i64 k.2.2), .v (.int .i64 ((getU L k).units + u)), .v (.int .i64 ((getU L k).money + m))] = .agg (toU (k, plusG addU (findG L k) (u, m))).ds := by
  rw [(get_plus_U L k u m).1, (get_plus_U L k u m).2]; rfl
theorem stU_yes {a : List Ali} {x : Rpt} {s : SU} {u : Usd} (h : meantA a x.source u.title ≠ 0) : stU a x s u = (putG s.1 (meantA a x.source u.title, x.period) (plusG addU (findG s.1 (meantA a x.source u.title, x.period)) (u.units, u.money)), s.2) := if_pos h
theorem stU_no {a : List Ali} {x : Rpt} {s : SU} {u : Usd} (h : meantA a x.source u.title = 0) : stU a x s u = (s.1, putG s.2 (x.source, u.title, x.period) (plusG addU (findG s.2 (x.source, u.title, x.period)) (u.units, u.money))) := if_neg (by rw [h]; simp)
theorem nd_len : ∀ {n : Nat} {l : List Nat}, l.Nodup → (∀ i ∈ l, i < n) → l.length ≤ n := fun {n l} h1 h2 => by
  have hp : l.Perm ((List.range n).filter fun i => decide (i ∈ l)) := (List.perm_ext_iff_of_nodup h1 (List.nodup_range.filter _)).2 fun i => by
    rw [List.mem_filter, List.mem_range, decide_eq_true_eq]
    exact ⟨fun h => ⟨h2 i h, h⟩, fun h => h.2⟩
  have := hp.length_eq
  have h3 := List.length_filter_le (fun i => decide (i ∈ l)) (List.range n)
  rw [List.length_range] at h3
  omega
theorem nd_snoc {n : Nat} {l : List Nat} {i : Nat} (h1 : l.Nodup ∧ ∀ i ∈ l, i < n) (hi : i < n) (hn : i ∉ l) : (l ++ [i]).Nodup ∧ ∀ j ∈ l ++ [i], j < n := by
  refine ⟨List.nodup_append.2 ⟨h1.1, by simp, fun x hx y hy => ?_⟩, fun j hj => ?_⟩
  · rw [List.mem_singleton] at hy
    subst hy
    exact fun e => hn (e ▸ hx)
  · rcases List.mem_append.1 hj with hj | hj
    · exact h1.2 j hj
    · rw [List.mem_singleton] at hj; omega
theorem obs_3 {i j m e s : Nat} {r r' : List (List D)} {a a' b b' : Ob} {τ : Obs} (h : r = r') (h2 : a = a') (h3 : b = b') : ∀ p ∈ [(m, Ob.row e s r'), (i, a'), (j, b')], p ∈ (m, Ob.row e s r) :: (i, a) :: (j, b) :: τ := fun p hp => by
  subst h; subst h2; subst h3
  rcases List.mem_cons.1 hp with rfl | hp
  · exact .head _
  · rcases List.mem_cons.1 hp with rfl | hp
    · exact .tail _ (.head _)
    · rw [List.mem_singleton] at hp; subst hp; exact .tail _ (.tail _ (.head _))
theorem pick_ds_S (K : List (KS × UM)) (dn : List Nat) {i : Nat} (hi : i < K.length) : (pickG toS K dn).map Sal.ds ++ [(toS K[i]).ds] = (pickG toS K (dn ++ [i])).map Sal.ds := by rw [pickG_snoc toS K dn hi, List.map_append]; rfl
theorem pick_ds_U (K : List (KU × UM)) (dn : List Nat) {i : Nat} (hi : i < K.length) : (pickG toU K dn).map Unk.ds ++ [(toU K[i]).ds] = (pickG toU K (dn ++ [i])).map Unk.ds := by rw [pickG_snoc toU K dn hi, List.map_append]; rfl
theorem pick_len {κ τ : Type} [Inhabited κ] (f : κ × UM → τ) (K : List (κ × UM)) (dn : List Nat) : (pickG f K dn).length = dn.length := List.length_map ..
theorem sort_S (a : List Ali) (V : List Rpt) {dn : List Nat} (h : dn.Nodup ∧ ∀ i ∈ dn, i < (stA a V).1.length) (ha : ∀ i, i < (stA a V).1.length → i ∈ dn) : sortF cmpS (pickG toS (stA a V).1 dn) = salesR a V ∧ DistF cmpS (pickG toS (stA a V).1 dn) := by
  rw [stA_eq] at *
  exact sort_pick tot_S (key := Sal.key) (fun _ => rfl) ltOf_S (knA a V) h.1 h.2 ha
theorem sort_U (a : List Ali) (V : List Rpt) {dn : List Nat} (h : dn.Nodup ∧ ∀ i ∈ dn, i < (stA a V).2.length) (ha : ∀ i, i < (stA a V).2.length → i ∈ dn) : sortF cmpU (pickG toU (stA a V).2 dn) = unkR a V ∧ DistF cmpU (pickG toU (stA a V).2 dn) := by
  rw [stA_eq] at *
  exact sort_pick tot_U (key := Unk.key) (fun _ => rfl) ltOf_U (opA a V) h.1 h.2 ha


set_option maxRecDepth 100000 in
set_option maxHeartbeats 4000000 in
theorem c_sums (l : List Rpt) (a : List Ali) (hl : Log l) (ho : ∀ x ∈ l, okRpt x) (ha : Als a) : ACall Tryz.prog 32 [.sl (l.map Rpt.ds), .sl (a.map Ali.ds)] (.tup [.sl ((salesR a (validR l)).map Sal.ds), .sl ((unkR a (validR l)).map Unk.ds)]) := by
  refine acall_of (n := 136) (ds' := [.sl ((salesR a (validR l)).map Sal.ds), .sl ((unkR a (validR l)).map Unk.ds)]) Tryz.func32 rfl (by kernel_rfl) rfl [4, 5] rfl rfl ?_
  intro B w0 F0 fr
  have hll := hl.len
  have hvl : (validR l).length ≤ l.length := List.length_filter_le _ _
  have hV : ∀ x ∈ (validR l), RpO x := fun x hx => rpO (hl.ok x (List.mem_filter.1 hx).1) (ho x (List.mem_filter.1 hx).1)
  have hal := ha.len
  refine AWP.seq (AWP.region ?_)
  refine AOps.aD rfl rfl rfl rfl rfl ?_
  refine AOps.aD rfl rfl rfl rfl rfl (.nil ?_)
  refine AWP.seq (AWP.region ?_)
  refine AOps.makeMap 91 rfl rfl rfl rfl rfl ?_
  refine AOps.makeMap 92 rfl rfl rfl rfl rfl ?_
  refine AOps.step rfl rfl rfl (AOp.assignO rfl rfl) ?_
  refine AOps.step rfl rfl rfl (AOp.assignO rfl rfl) (.nil ?_)
  refine AWP.seq ?_
  refine AWP.seq (AWP.region ?_)
  refine AOps.mD rfl rfl rfl rfl rfl ?_
  refine AOps.step rfl rfl rfl (AOp.call rfl (.cons (ArgOk.rfl' rfl) .nil) (c_pVal l hl ho)) ?_
  refine AOps.step rfl rfl rfl (AOp.lenSl rfl et_22.ht rfl) ?_
  refine AOps.mD rfl rfl rfl rfl rfl (.nil ?_)
  refine AWP.block ?_
  refine AWP.loop (G := Nat) (fun k => Env.of [(29, .d (.v (.int .i64 (k : Int)))), (27, .d (.sl ((validR l).map Rpt.ds))), (28, .d (.v (.int .i64 (((validR l).map Rpt.ds).length : Int)))), (1, .d (.sl (a.map Ali.ds))), (6, .own 91), (7, .own 92)]) (fun k => [(92, .map (encU (stA a ((validR l).take k)).2)), (91, .map (encS (stA a ((validR l).take k)).1))]) (fun k => k ≤ (validR l).length) (fun k => (validR l).length - k) 0 (Nat.zero_le _) (Sub.less ⟨(SLe.of_eq rfl), SLe.refl _, SLe.refl _, SLe.refl _, SLe.refl _, SLe.refl _, trivial⟩ (maps_2 rfl rfl)) ?_
  intro k hk
  refine AWP.seq (AWP.region ?_)
  refine AOps.step rfl rfl rfl (AOp.lss rfl rfl rfl) (.nil ?_)
  refine AWP.seq ?_
  refine AWP.cond rfl (fun h1 => ?_) (fun h1 => ?_)
  · replace h1 := of_decide_eq_true h1
    rw [List.length_map] at h1
    have hlt : k < (validR l).length := by omega
    have hx := hV _ (List.getElem_mem hlt)
    have hA := inv_A ha hV k (by omega)
    have hxl := hx.len
    refine AWP.skip ?_
    refine AWP.seq ?_
    refine AWP.block ?_
    refine AWP.seq (AWP.region ?_)
    refine AOps.step rfl rfl rfl (AOp.indexAddr rfl et_22 rfl rfl k rfl (at_lst hlt) rfl) ?_
    refine AOps.step rfl rfl rfl (AOp.loadAgg rfl ag_127 rfl rfl) ?_
    refine AOps.alloc 103 rfl rfl rfl rfl zt_127 rfl rfl rfl ?_
    refine AOps.store rfl rfl rfl sz_127 rfl (.head _) rfl rfl rfl (Nat.le_of_ble_eq_true rfl) ?_
    refine AOps.freezeCells 9 (ds := (validR l)[k].ds) rfl (.head _) (.nil ?_)
    refine AWP.seq (AWP.region ?_)
    refine AOps.step rfl rfl rfl (AOp.fieldAddr rfl fo_127_4 rfl) ?_
    refine AOps.step rfl rfl rfl (AOp.load rfl sc_125 rfl) ?_
    refine AOps.step rfl rfl rfl (AOp.lenSl rfl et_125.ht rfl) ?_
    refine AOps.mD rfl rfl rfl rfl rfl (.nil ?_)
    refine AWP.block ?_
    refine AWP.loop (G := Nat) (fun j => Env.of [(36, .d (.v (.int .i64 (j : Int)))), (34, .d (.sl ((validR l)[k].lines.map Usd.ds))), (35, .d (.v (.int .i64 (((validR l)[k].lines.map Usd.ds).length : Int)))), (9, .d (.fp (validR l)[k].ds)), (29, .d (.v (.int .i64 (k : Int)))), (27, .d (.sl ((validR l).map Rpt.ds))), (28, .d (.v (.int .i64 (((validR l).map Rpt.ds).length : Int)))), (1, .d (.sl (a.map Ali.ds))), (6, .own 91), (7, .own 92)]) (fun j => [(92, .map (encU (stB a (validR l)[k] (stA a ((validR l).take k)) j).2)), (91, .map (encS (stB a (validR l)[k] (stA a ((validR l).take k)) j).1))]) (fun j => j ≤ (validR l)[k].lines.length) (fun j => (validR l)[k].lines.length - j) 0 (Nat.zero_le _) (Sub.less ⟨(SLe.of_eq rfl), SLe.refl _, SLe.refl _, SLe.refl _, SLe.refl _, SLe.refl _, SLe.refl _, SLe.refl _, SLe.refl _, SLe.refl _, trivial⟩ (maps_2 rfl rfl)) ?_
    intro j hj
    refine AWP.seq (AWP.region ?_)
    refine AOps.step rfl rfl rfl (AOp.lss rfl rfl rfl) (.nil ?_)
    refine AWP.seq ?_
    refine AWP.cond rfl (fun h2 => ?_) (fun h2 => ?_)
    · replace h2 := of_decide_eq_true h2
      rw [List.length_map] at h2
      have hjl : j < (validR l)[k].lines.length := by omega
      have hI := inv_B ha hx (show 0 ≤ 100 * (k : Int) by omega) hA j (by omega)
      have hu := hx.use _ (List.getElem_mem hjl)
      have hper := hx.per
      have HN := stB_next (a := a) (s := (stA a ((validR l).take k))) hjl
      refine AWP.skip ?_
      refine AWP.seq ?_
      refine AWP.block ?_
      refine AWP.seq (AWP.region ?_)
      refine AOps.step rfl rfl rfl (AOp.indexAddr rfl et_125 rfl rfl j rfl (at_lst hjl) rfl) ?_
      refine AOps.step rfl rfl rfl (AOp.loadAgg rfl ag_134 rfl rfl) ?_
      refine AOps.alloc 104 rfl rfl rfl rfl zt_134 rfl rfl rfl ?_
      refine AOps.store rfl rfl rfl sz_134 rfl (.head _) rfl rfl rfl (Nat.le_of_ble_eq_true rfl) ?_
      refine AOps.freezeCells 11 (ds := (validR l)[k].lines[j].ds) rfl (.head _) (.nil ?_)
      refine AWP.seq (AWP.region ?_)
      refine AOps.mD rfl rfl rfl rfl rfl ?_
      refine AOps.step rfl rfl rfl (AOp.fieldAddr rfl fo_127_0 rfl) ?_
      refine AOps.step rfl rfl rfl (AOp.load rfl sc_9 rfl) ?_
      refine AOps.step rfl rfl rfl (AOp.fieldAddr rfl fo_134_0 rfl) ?_
      refine AOps.step rfl rfl rfl (AOp.load rfl sc_9 rfl) ?_
      refine AOps.step rfl rfl rfl (AOp.build rfl bu_80 (.cons rfl rfl (.cons rfl rfl .nil)) rfl) ?_
      refine AOps.step rfl rfl rfl (AOp.call rfl (.cons (ArgOk.rfl' rfl) (.cons (ArgOk.rfl' rfl) (.cons (by first | exact ArgOk.rfl' rfl | exact ArgOk.fn rfl) .nil))) (c_bsA a ⟨(validR l)[k].source, (validR l)[k].lines[j].title, 0⟩ (by omega))) ?_
      refine AOps.mD rfl rfl rfl rfl rfl ?_
      refine AOps.step rfl rfl rfl (AOp.extract rfl rfl rfl) ?_
      refine AOps.step rfl rfl rfl (AOp.extract rfl rfl rfl) ?_
      refine AOps.aD rfl rfl rfl rfl rfl ?_
      refine AOps.aD rfl rfl rfl rfl rfl (.nil ?_)
      refine AWP.seq ?_
      refine AWP.seq (AWP.region ?_)
      refine AOps.mD rfl rfl rfl rfl rfl (.nil ?_)
      refine AWP.cond rfl (fun h3 => ?_) (fun h3 => ?_)
      · skip
        obtain ⟨hp, hre, hmn⟩ := hasA_yes ha h3
        have hrr := ha.rng _ (List.getElem_mem hp)
        rw [hre] at hrr
        have hky := keyS_ok (meantA a (validR l)[k].source (validR l)[k].lines[j].title, (validR l)[k].period) (by dsimp only; omega) (by dsimp only; omega)
        have hgb := get_bound_S hI.b1 (by omega) (meantA a (validR l)[k].source (validR l)[k].lines[j].title, (validR l)[k].period)
        rw [stU_yes hmn] at HN
        refine AWP.seq ?_
        refine AWP.drawFresh 9 [⟨14, 105, .ptr 105 0, .cells [.d (.v (.int .i64 0)), .d (.v (.int .i64 0))]⟩] (FrOk.one rfl (by simp) rfl rfl rfl) (by kernel_rfl) (by kernel_rfl) (by kernel_rfl) (by kernel_rfl) ?_
        refine XRun.step rfl rfl rfl (AOp.moveD rfl rfl) ?_
        refine XRun.step rfl rfl rfl (AOp.moveD rfl rfl) ?_
        refine XRun.step rfl rfl rfl (AOp.indexAddr rfl et_23 rfl rfl (posA a ⟨(validR l)[k].source, (validR l)[k].lines[j].title, 0⟩) rfl (at_lst hp) rfl) ?_
        refine XRun.step rfl rfl rfl (AOp.fieldAddr rfl fo_80_2 rfl) ?_
        refine XRun.step rfl rfl rfl (AOp.load rfl sc_3 rfl) ?_
        refine XRun.step rfl rfl rfl (AOp.fieldAddr rfl fo_127_2 rfl) ?_
        refine XRun.step rfl rfl rfl (AOp.load rfl sc_3 rfl) ?_
        refine XRun.step rfl rfl rfl (AOp.build rfl bu_141 (.cons rfl rfl (.cons rfl rfl .nil)) rfl) ?_
        refine XRun.alloc _ (.head _) rfl rfl rfl rfl rfl zt_141 rfl rfl rfl rfl ?_
        refine XRun.nil ⟨rfl, trivial⟩ ?_
        refine AOps.store rfl rfl rfl sz_141 rfl (.head _) rfl rfl rfl (Nat.le_of_ble_eq_true rfl) ?_
        refine AOps.freezeCells 14 (ds := [.v (.int .i64 a[posA a ⟨(validR l)[k].source, (validR l)[k].lines[j].title, 0⟩].recd), .v (.int .i64 (validR l)[k].period)]) rfl (.head _) (.nil ?_)
        refine AWP.seq ?_
        rw [hre]
        refine AWP.region ?_
        refine AOps.step rfl rfl rfl (AOp.moveO rfl rfl) ?_
        refine AOps.step rfl rfl rfl (AOp.loadAgg rfl ag_141 rfl rfl) ?_
        refine AOps.step rfl rfl rfl (AOp.lookupX (key := keyS (meantA a (validR l)[k].source (validR l)[k].lines[j].title, (validR l)[k].period)) rfl mt_S kd_S zt_S zd_S rfl (.tail _ (.head _)) rfl (DExact.agg2 _ _) hky (encS_ok hI) (mget_S hI.n1 _)) ?_
        refine AOps.alloc 106 rfl rfl rfl rfl zt_31 rfl rfl rfl ?_
        refine AOps.store rfl rfl rfl sz_31 rfl (.head _) rfl rfl rfl (Nat.le_of_ble_eq_true rfl) ?_
        refine AOps.freezeCells 15 (ds := (getS (stB a (validR l)[k] (stA a ((validR l).take k)) j).1 (meantA a (validR l)[k].source (validR l)[k].lines[j].title, (validR l)[k].period)).ds) rfl (.head _) (.nil ?_)
        refine AWP.seq (AWP.region ?_)
        refine AOps.step rfl rfl rfl (AOp.moveO rfl rfl) ?_
        refine AOps.step rfl rfl rfl (AOp.loadAgg rfl ag_141 rfl rfl) ?_
        refine AOps.step rfl rfl rfl (AOp.fieldAddr rfl fo_141_0 rfl) ?_
        refine AOps.step rfl rfl rfl (AOp.load rfl sc_3 rfl) ?_
        refine AOps.step rfl rfl rfl (AOp.fieldAddr rfl fo_141_1 rfl) ?_
        refine AOps.step rfl rfl rfl (AOp.load rfl sc_3 rfl) ?_
        refine AOps.step rfl rfl rfl (AOp.fieldAddr rfl fo_31_2 rfl) ?_
        refine AOps.step rfl rfl rfl (AOp.load rfl sc_3 rfl) ?_
        refine AOps.step rfl rfl rfl (AOp.fieldAddr rfl fo_134_1 rfl) ?_
        refine AOps.step rfl rfl rfl (AOp.load rfl sc_3 rfl) ?_
        refine AOps.step rfl rfl rfl (AOp.add64 rfl rfl rfl (by omega) (by omega)) ?_
        refine AOps.step rfl rfl rfl (AOp.fieldAddr rfl fo_31_3 rfl) ?_
        refine AOps.step rfl rfl rfl (AOp.load rfl sc_3 rfl) ?_
        refine AOps.step rfl rfl rfl (AOp.fieldAddr rfl fo_134_2 rfl) ?_
        refine AOps.step rfl rfl rfl (AOp.load rfl sc_3 rfl) ?_
        refine AOps.step rfl rfl rfl (AOp.add64 rfl rfl rfl (by omega) (by omega)) ?_
        refine AOps.step rfl rfl rfl (AOp.build rfl bu_31 (.cons rfl rfl (.cons rfl rfl (.cons rfl rfl (.cons rfl rfl .nil)))) rfl) ?_
        refine AOps.eff rfl rfl (EOp.mapUpdateX (key := keyS (meantA a (validR l)[k].source (validR l)[k].lines[j].title, (validR l)[k].period)) rfl rfl mt_S kd_S rfl (.tail _ (.head _)) rfl (DExact.agg2 _ _) rfl hky (encS_ok hI) (mput_S hI.n1 _ _ (put_eq_S (stB a (validR l)[k] (stA a ((validR l).take k)) j).1 (meantA a (validR l)[k].source (validR l)[k].lines[j].title, (validR l)[k].period) (validR l)[k].lines[j].units (validR l)[k].lines[j].money))) (.nil ?_)
        refine AWP.exit ?_
        refine AWP.region ?_
        refine AOps.step rfl rfl rfl (AOp.add64 rfl rfl rfl (by omega) (by omega)) ?_
        refine AOps.mD rfl rfl rfl rfl rfl (.nil ?_)
        refine ⟨j + 1, (by dsimp only; omega), (by dsimp only; omega), Sub.less ⟨(SLe.of_eq rfl), SLe.refl _, SLe.refl _, SLe.refl _, SLe.refl _, SLe.refl _, SLe.refl _, SLe.refl _, SLe.refl _, SLe.refl _, trivial⟩ (maps_2 (by rw [HN]) (by rw [HN]))⟩
      have hmn := hasA_no ha h3
      have hky := keyU_ok ((validR l)[k].source, (validR l)[k].lines[j].title, (validR l)[k].period) hx.src hu.1 (by dsimp only; omega)
      have hgb := get_bound_U hI.b2 (by omega) ((validR l)[k].source, (validR l)[k].lines[j].title, (validR l)[k].period)
      rw [stU_no hmn] at HN
      refine AWP.skip ?_
      refine AWP.seq (AWP.region ?_)
      refine AOps.step rfl rfl rfl (AOp.fieldAddr rfl fo_127_0 rfl) ?_
      refine AOps.step rfl rfl rfl (AOp.load rfl sc_9 rfl) ?_
      refine AOps.step rfl rfl rfl (AOp.fieldAddr rfl fo_134_0 rfl) ?_
      refine AOps.step rfl rfl rfl (AOp.load rfl sc_9 rfl) ?_
      refine AOps.step rfl rfl rfl (AOp.fieldAddr rfl fo_127_2 rfl) ?_
      refine AOps.step rfl rfl rfl (AOp.load rfl sc_3 rfl) ?_
      refine AOps.step rfl rfl rfl (AOp.build rfl bu_143 (.cons rfl rfl (.cons rfl rfl (.cons rfl rfl .nil))) rfl) ?_
      refine AOps.alloc 107 rfl rfl rfl rfl zt_143 rfl rfl rfl ?_
      refine AOps.store rfl rfl rfl sz_143 rfl (.head _) rfl rfl rfl (Nat.le_of_ble_eq_true rfl) ?_
      refine AOps.freezeCells 16 (ds := [.v (.string (validR l)[k].source), .v (.string (validR l)[k].lines[j].title), .v (.int .i64 (validR l)[k].period)]) rfl (.head _) (.nil ?_)
      refine AWP.seq (AWP.region ?_)
      refine AOps.step rfl rfl rfl (AOp.moveO rfl rfl) ?_
      refine AOps.step rfl rfl rfl (AOp.loadAgg rfl ag_143 rfl rfl) ?_
      refine AOps.step rfl rfl rfl (AOp.lookupX (key := keyU ((validR l)[k].source, (validR l)[k].lines[j].title, (validR l)[k].period)) rfl mt_U kd_U zt_U zd_U rfl (.head _) rfl (DExact.agg3 _ _ _) hky (encU_ok hI) (mget_U hI.n2 _)) ?_
      refine AOps.alloc 108 rfl rfl rfl rfl zt_37 rfl rfl rfl ?_
      refine AOps.store rfl rfl rfl sz_37 rfl (.head _) rfl rfl rfl (Nat.le_of_ble_eq_true rfl) ?_
      refine AOps.freezeCells 17 (ds := (getU (stB a (validR l)[k] (stA a ((validR l).take k)) j).2 ((validR l)[k].source, (validR l)[k].lines[j].title, (validR l)[k].period)).ds) rfl (.head _) (.nil ?_)
      refine AWP.region ?_
      refine AOps.step rfl rfl rfl (AOp.moveO rfl rfl) ?_
      refine AOps.step rfl rfl rfl (AOp.loadAgg rfl ag_143 rfl rfl) ?_
      refine AOps.step rfl rfl rfl (AOp.fieldAddr rfl fo_127_0 rfl) ?_
      refine AOps.step rfl rfl rfl (AOp.load rfl sc_9 rfl) ?_
      refine AOps.step rfl rfl rfl (AOp.fieldAddr rfl fo_134_0 rfl) ?_
      refine AOps.step rfl rfl rfl (AOp.load rfl sc_9 rfl) ?_
      refine AOps.step rfl rfl rfl (AOp.fieldAddr rfl fo_127_2 rfl) ?_
      refine AOps.step rfl rfl rfl (AOp.load rfl sc_3 rfl) ?_
      refine AOps.step rfl rfl rfl (AOp.fieldAddr rfl fo_37_3 rfl) ?_
      refine AOps.step rfl rfl rfl (AOp.load rfl sc_3 rfl) ?_
      refine AOps.step rfl rfl rfl (AOp.fieldAddr rfl fo_134_1 rfl) ?_
      refine AOps.step rfl rfl rfl (AOp.load rfl sc_3 rfl) ?_
      refine AOps.step rfl rfl rfl (AOp.add64 rfl rfl rfl (by omega) (by omega)) ?_
      refine AOps.step rfl rfl rfl (AOp.fieldAddr rfl fo_37_4 rfl) ?_
      refine AOps.step rfl rfl rfl (AOp.load rfl sc_3 rfl) ?_
      refine AOps.step rfl rfl rfl (AOp.fieldAddr rfl fo_134_2 rfl) ?_
      refine AOps.step rfl rfl rfl (AOp.load rfl sc_3 rfl) ?_
      refine AOps.step rfl rfl rfl (AOp.add64 rfl rfl rfl (by omega) (by omega)) ?_
      refine AOps.step rfl rfl rfl (AOp.build rfl bu_37 (.cons rfl rfl (.cons rfl rfl (.cons rfl rfl (.cons rfl rfl (.cons rfl rfl .nil))))) rfl) ?_
      refine AOps.eff rfl rfl (EOp.mapUpdateX (key := keyU ((validR l)[k].source, (validR l)[k].lines[j].title, (validR l)[k].period)) rfl rfl mt_U kd_U rfl (.head _) rfl (DExact.agg3 _ _ _) rfl hky (encU_ok hI) (mput_U hI.n2 _ _ (put_eq_U (stB a (validR l)[k] (stA a ((validR l).take k)) j).2 ((validR l)[k].source, (validR l)[k].lines[j].title, (validR l)[k].period) (validR l)[k].lines[j].units (validR l)[k].lines[j].money))) (.nil ?_)
      refine AWP.region ?_
      refine AOps.step rfl rfl rfl (AOp.add64 rfl rfl rfl (by omega) (by omega)) ?_
      refine AOps.mD rfl rfl rfl rfl rfl (.nil ?_)
      refine ⟨j + 1, (by dsimp only; omega), (by dsimp only; omega), Sub.less ⟨(SLe.of_eq rfl), SLe.refl _, SLe.refl _, SLe.refl _, SLe.refl _, SLe.refl _, SLe.refl _, SLe.refl _, SLe.refl _, SLe.refl _, trivial⟩ (maps_2 (by rw [HN]) (by rw [HN]))⟩
    replace h2 := of_decide_eq_false h2
    rw [List.length_map] at h2
    obtain rfl : j = (validR l)[k].lines.length := by omega
    have HS := stA_next (a := a) hlt
    refine AWP.exit ?_
    refine AWP.region ?_
    refine AOps.step rfl rfl rfl (AOp.add64 rfl rfl rfl (by omega) (by omega)) ?_
    refine AOps.mD rfl rfl rfl rfl rfl (.nil ?_)
    refine ⟨k + 1, (by omega), (by dsimp only; omega), Sub.less ⟨(SLe.of_eq rfl), SLe.refl _, SLe.refl _, SLe.refl _, SLe.refl _, SLe.refl _, trivial⟩ (maps_2 (by rw [HS]) (by rw [HS]))⟩
  replace h1 := of_decide_eq_false h1
  rw [List.length_map] at h1
  obtain rfl : k = (validR l).length := by omega
  rw [List.take_length]
  have hI := inv_A ha hV (validR l).length (Nat.le_refl _)
  rw [List.take_length] at hI
  have hk1 := hI.l1
  have hk2 := hI.l2
  refine AWP.exit ?_
  refine AWP.seq (AWP.region ?_)
  refine AOps.aD rfl rfl rfl rfl rfl (.nil ?_)
  refine AWP.seq ?_
  refine AWP.seq (AWP.region ?_)
  refine AOps.step rfl rfl rfl (AOp.moveO rfl rfl) ?_
  refine AOps.range 71 rfl rfl rfl rfl mt_136 rfl (.tail _ (.head _)) rfl ?_
  refine AOps.nil ?_
  refine AWP.block ?_
  refine AWP.adopt 18 61 31 4 rfl rfl ?_
  refine AWP.loop (G := List Nat) (fun dn => Env.of [(111, .ptr 71 0), (18, .own 61), (7, .own 92)]) (fun dn => [(61, .row 31 4 ((pickG toS (stA a (validR l)).1 dn).map Sal.ds)), (71, .iter (encS (stA a (validR l)).1) dn), (92, .map (encU (stA a (validR l)).2))]) (fun dn => dn.Nodup ∧ ∀ i ∈ dn, i < (stA a (validR l)).1.length) (fun dn => (stA a (validR l)).1.length - dn.length) [] ⟨List.nodup_nil, fun i h => absurd h List.not_mem_nil⟩ (Sub.less ⟨SLe.refl _, SLe.refl _, SLe.refl _, trivial⟩ (obs_3 rfl rfl rfl)) ?_
  intro dn hd
  refine AWP.seq (AWP.region ?_)
  refine AOps.nextL rfl rfl rfl rfl rfl (.tail _ (.head _)) (fun hall => ?_) (fun i hi hni => ?_)
  · skip
    have hdl := nd_len hd.1 hd.2
    obtain ⟨HS1, HD1⟩ := sort_S a (validR l) hd hall
    refine AOps.step rfl rfl rfl (AOp.extract rfl rfl rfl) (.nil ?_)
    refine AWP.seq ?_
    refine AWP.cond rfl (fun h => nomatch h) (fun _ => ?_)
    refine AWP.exit ?_
    refine AWP.seq (AWP.region ?_)
    refine AOps.aD rfl rfl rfl rfl rfl (.nil ?_)
    refine AWP.seq ?_
    refine AWP.seq (AWP.region ?_)
    refine AOps.step rfl rfl rfl (AOp.moveO rfl rfl) ?_
    refine AOps.range 72 rfl rfl rfl rfl mt_137 rfl (.tail _ (.tail _ (.head _))) rfl ?_
    refine AOps.nil ?_
    refine AWP.block ?_
    refine AWP.adopt 21 62 37 5 rfl rfl ?_
    refine AWP.loop (G := List Nat) (fun dm => Env.of [(121, .ptr 72 0), (21, .own 62), (18, .own 61)]) (fun dm => [(62, .row 37 5 ((pickG toU (stA a (validR l)).2 dm).map Unk.ds)), (72, .iter (encU (stA a (validR l)).2) dm), (61, .row 31 4 ((pickG toS (stA a (validR l)).1 dn).map Sal.ds))]) (fun dm => dm.Nodup ∧ ∀ i ∈ dm, i < (stA a (validR l)).2.length) (fun dm => (stA a (validR l)).2.length - dm.length) [] ⟨List.nodup_nil, fun i h => absurd h List.not_mem_nil⟩ (Sub.less ⟨SLe.refl _, SLe.refl _, SLe.refl _, trivial⟩ (obs_3 rfl rfl rfl)) ?_
    intro dm he
    refine AWP.seq (AWP.region ?_)
    refine AOps.nextL rfl rfl rfl rfl rfl (.tail _ (.head _)) (fun hbll => ?_) (fun i hi hni => ?_)
    · skip
      have hel := nd_len he.1 he.2
      obtain ⟨HS2, HD2⟩ := sort_U a (validR l) he hbll
      refine AOps.step rfl rfl rfl (AOp.extract rfl rfl rfl) (.nil ?_)
      refine AWP.seq ?_
      refine AWP.cond rfl (fun h => nomatch h) (fun _ => ?_)
      refine AWP.exit ?_
      refine AWP.seq (AWP.region ?_)
      refine AOps.step rfl rfl rfl (AOp.moveO rfl rfl) ?_
      -- turns 61
      refine AOps.callX rfl rfl rfl (.cons (SLe.refl _) (.cons (SLe.fn _) .nil)) ((c_sortS _ (by rw [pick_len]; omega) HD1 _) 61) ⟨(.tail _ (.tail _ (.head _))), trivial⟩ rfl rfl (fun _ h => nomatch h) ?_
      rw [HS1]
      refine AOps.nil ?_
      refine AWP.seq (AWP.region ?_)
      refine AOps.step rfl rfl rfl (AOp.moveO rfl rfl) ?_
      -- turns 62
      refine AOps.callX rfl rfl rfl (.cons (SLe.refl _) (.cons (SLe.fn _) .nil)) ((c_sortU _ (by rw [pick_len]; omega) HD2 _) 62) ⟨(.tail _ (.head _)), trivial⟩ rfl rfl (fun _ h => nomatch h) ?_
      rw [HS2]
      refine AOps.nil ?_
      refine AWP.seq (AWP.region ?_)
      refine AOps.step rfl rfl rfl (AOp.moveO rfl rfl) ?_
      refine AOps.step rfl rfl rfl (AOp.moveO rfl rfl) ?_
      refine AOps.step rfl rfl rfl (AOp.assignO rfl rfl) ?_
      refine AOps.step rfl rfl rfl (AOp.assignO rfl rfl) (.nil ?_)
      refine AWP.ret ?_
      refine ⟨RetD.own rfl (.tail _ (.head _)) ?_, RetD.own rfl (.head _) ?_, trivial⟩
      all_goals (rfl)
    have hsn := nd_snoc he hi hni
    have hnl := nd_len hsn.1 hsn.2
    rw [List.length_append, List.length_singleton] at hnl
    refine AOps.step rfl rfl rfl (AOp.extract rfl rfl rfl) (.nil ?_)
    refine AWP.seq ?_
    refine AWP.cond rfl (fun _ => ?_) (fun h => nomatch h)
    refine AWP.skip ?_
    refine AWP.block ?_
    refine AWP.seq (AWP.region ?_)
    refine AOps.step rfl rfl rfl (AOp.entryL rfl rfl (.tail _ (.head _)) hi) ?_
    refine AOps.step rfl rfl rfl (AOp.extract rfl rfl rfl) ?_
    refine AOps.alloc 111 rfl rfl rfl rfl zt_37 rfl rfl rfl ?_
    refine AOps.store rfl rfl rfl sz_37 rfl (.head _) rfl rfl rfl (Nat.le_of_ble_eq_true rfl) ?_
    refine AOps.freezeCells 23 (ds := (toU (stA a (validR l)).2[i]).ds) rfl (.head _) (.nil ?_)
    refine AWP.region ?_
    refine AOps.step rfl rfl rfl (AOp.moveO rfl rfl) ?_
    refine AOps.step rfl rfl rfl (AOp.loadAgg rfl ag_37 rfl rfl) ?_
    refine AOps.step rfl rfl rfl (AOp.buildSlice rfl et_32 (.cons rfl rfl rfl .nil) rfl (by decide)) ?_
    -- append 129
    refine AOps.append rfl rfl rfl rfl et_32 rfl (.head _) rfl (fun y hy => by obtain rfl := List.mem_singleton.1 hy; rfl) (by simp [pickG]; omega) (by simp [pickG]; omega) ?_
    refine AOps.step rfl rfl rfl (AOp.assignO rfl rfl) (.nil ?_)
    refine ⟨dm ++ [i], hsn, (by dsimp only; rw [List.length_append, List.length_singleton]; omega), Sub.less ⟨SLe.refl _, SLe.refl _, SLe.refl _, trivial⟩ (obs_3 (pick_ds_U _ _ hi) rfl rfl)⟩
  have hsn := nd_snoc hd hi hni
  have hnl := nd_len hsn.1 hsn.2
  rw [List.length_append, List.length_singleton] at hnl
  refine AOps.step rfl rfl rfl (AOp.extract rfl rfl rfl) (.nil ?_)
  refine AWP.seq ?_
  refine AWP.cond rfl (fun _ => ?_) (fun h => nomatch h)
  refine AWP.skip ?_
  refine AWP.block ?_
  refine AWP.seq (AWP.region ?_)
  refine AOps.step rfl rfl rfl (AOp.entryL rfl rfl (.tail _ (.head _)) hi) ?_
  refine AOps.step rfl rfl rfl (AOp.extract rfl rfl rfl) ?_
  refine AOps.alloc 112 rfl rfl rfl rfl zt_31 rfl rfl rfl ?_
  refine AOps.store rfl rfl rfl sz_31 rfl (.head _) rfl rfl rfl (Nat.le_of_ble_eq_true rfl) ?_
  refine AOps.freezeCells 20 (ds := (toS (stA a (validR l)).1[i]).ds) rfl (.head _) (.nil ?_)
  refine AWP.region ?_
  refine AOps.step rfl rfl rfl (AOp.moveO rfl rfl) ?_
  refine AOps.step rfl rfl rfl (AOp.loadAgg rfl ag_31 rfl rfl) ?_
  refine AOps.step rfl rfl rfl (AOp.buildSlice rfl et_24 (.cons rfl rfl rfl .nil) rfl (by decide)) ?_
  -- append 119
  refine AOps.append rfl rfl rfl rfl et_24 rfl (.head _) rfl (fun y hy => by obtain rfl := List.mem_singleton.1 hy; rfl) (by simp [pickG]; omega) (by simp [pickG]; omega) ?_
  refine AOps.step rfl rfl rfl (AOp.assignO rfl rfl) (.nil ?_)
  refine ⟨dn ++ [i], hsn, (by dsimp only; rw [List.length_append, List.length_singleton]; omega), Sub.less ⟨SLe.refl _, SLe.refl _, SLe.refl _, trivial⟩ (obs_3 (pick_ds_S _ _ hi) rfl rfl)⟩

end Go.Proofs.YtekenfknoakboaaGreatDoor


namespace Go.Proofs.YtekenfknoakboaaGreatDoor
open Go.RowKit
set_option linter.unusedVariables false

/-! Types. -/
namespace TyO4

end TyO4
open TyO4


open Go.Sort Go.Lib
/-- The fault of a log and aliases. -/
def askF (l : List Rpt) (a : List Ali) : Int := if logF l ≠ 0 then logF l else alisF a
def matchR (l : List Rpt) (a : List Ali) : List Sal := if askF l a = 0 then salesR a (validR l) else []
def openR (l : List Rpt) (a : List Ali) : List Unk := if askF l a = 0 then unkR a (validR l) else []
theorem ask_ok {l : List Rpt} {a : List Ali} (h : askF l a = 0) : logF l = 0 ∧ alisF a = 0 := by
  unfold askF at h
  split at h
  · exact absurd h (by assumption)
  · rename_i h1; exact ⟨Decidable.not_not.1 h1, h⟩
/-! ### All is matched or open -/
def sumI {α : Type} (f : α → Int) (l : List α) : Int := (l.map f).foldr (· + ·) 0
theorem sumI_nil {α : Type} (f : α → Int) : sumI f [] = 0 := rfl
theorem sumI_cons {α : Type} (f : α → Int) (x : α) (l : List α) : sumI f (x :: l) = f x + sumI f l := rfl
theorem sumI_append {α : Type} (f : α → Int) (l r : List α) : sumI f (l ++ r) = sumI f l + sumI f r := by
  induction l with
  | nil => rw [List.nil_append, sumI_nil]; omega
  | cons x l ih => rw [List.cons_append, sumI_cons, sumI_cons, ih]; omega
theorem sumI_next {α : Type} (f : α → Int) {l : List α} {k : Nat} (h : k < l.length) : sumI f (l.take (k + 1)) = sumI f (l.take k) + f l[k] := by
  rw [List.take_add_one, List.getElem?_eq_getElem h, Option.toList_some, sumI_append, sumI_cons, sumI_nil]; omega
theorem sumI_nonneg {α : Type} {f : α → Int} {l : List α} (h : ∀ x ∈ l, 0 ≤ f x) : 0 ≤ sumI f l := by
  induction l with
  | nil => exact Int.le_refl _
  | cons x l ih =>
    rw [sumI_cons]
    have := h x (List.mem_cons_self ..)
    have := ih fun y hy => h y (List.mem_cons_of_mem _ hy)
    omega
theorem sumI_take {α : Type} {f : α → Int} {l : List α} (h : ∀ x ∈ l, 0 ≤ f x) (k : Nat) : 0 ≤ sumI f (l.take k) ∧ sumI f (l.take k) ≤ sumI f l := by
  have h1 : sumI f l = sumI f (l.take k) + sumI f (l.drop k) := by rw [← sumI_append, List.take_append_drop]
  have h2 : 0 ≤ sumI f (l.take k) := sumI_nonneg fun x hx => h x (List.mem_of_mem_take hx)
  have h3 : 0 ≤ sumI f (l.drop k) := sumI_nonneg fun x hx => h x (List.mem_of_mem_drop hx)
  omega
theorem sumI_le {α : Type} {f : α → Int} {l : List α} {c : Int} (h : ∀ x ∈ l, f x ≤ c) : sumI f l ≤ c * (l.length : Int) := by
  induction l with
  | nil => rw [sumI_nil]; simp
  | cons x l ih =>
    rw [sumI_cons, List.length_cons]
    have := h x (List.mem_cons_self ..)
    have := ih fun y hy => h y (List.mem_cons_of_mem _ hy)
    rw [show (((l.length + 1 : Nat) : Int)) = (l.length : Int) + 1 by omega, Int.mul_add, Int.mul_one]
    omega
theorem sumI_map {α β : Type} (f : β → Int) (g : α → β) (l : List α) : sumI f (l.map g) = sumI (fun x => f (g x)) l := by
  unfold sumI
  rw [List.map_map]; rfl
theorem sumI_flat {α β : Type} (f : β → Int) (g : α → List β) (l : List α) : sumI f (l.flatMap g) = sumI (fun x => sumI f (g x)) l := by
  induction l with
  | nil => rfl
  | cons x l ih => rw [List.flatMap_cons, sumI_append, ih, sumI_cons]
theorem sumI_add {α : Type} (f g : α → Int) (l : List α) : sumI f l + sumI g l = sumI (fun x => f x + g x) l := by
  induction l with
  | nil => rfl
  | cons x l ih => rw [sumI_cons, sumI_cons, sumI_cons, ← ih]; omega
theorem sumI_congr {α : Type} {f g : α → Int} {l : List α} (h : ∀ x ∈ l, f x = g x) : sumI f l = sumI g l := by
  induction l with
  | nil => rfl
  | cons x l ih => rw [sumI_cons, sumI_cons, h x (List.mem_cons_self ..), ih fun y hy => h y (List.mem_cons_of_mem _ hy)]
/-- Of a sum over units or money. -/
structure Pick where
  um : UM → Int
  add : ∀ a b, um (addU a b) = um a + um b
def pkU : Pick := ⟨fun u => u.1, fun _ _ => rfl⟩
def pkM : Pick := ⟨fun u => u.2, fun _ _ => rfl⟩
theorem fold_sum {κ : Type} [DecidableEq κ] (p : Pick) (lt : κ → κ → Bool) (E : List (κ × UM)) : sumI (fun q : κ × UM => p.um q.2) (foldO lt addU E) = sumI (fun q : κ × UM => p.um q.2) E := by
  have := sumB_foldO (lt := lt) (add := addU) (f := p.um) p.add E []
  have e0 : sumB p.um ([] : List (κ × UM)) = 0 := rfl
  rw [e0, Int.zero_add] at this
  exact this
theorem all_sum (p : Pick) (a : List Ali) (V : List Rpt) : sumI (fun s : Sal => p.um (s.units, s.money)) (salesR a V) + sumI (fun s : Unk => p.um (s.units, s.money)) (unkR a V) = sumI (fun x : Rpt => sumI (fun u : Usd => p.um (u.units, u.money)) x.lines) V := by
  unfold salesR unkR
  rw [sumI_map, sumI_map]
  have e1 : sumI (fun q : KS × UM => p.um ((toS q).units, (toS q).money)) (foldO ltS addU (knA a V)) = sumI (fun q : KS × UM => p.um q.2) (foldO ltS addU (knA a V)) := rfl
  have e2 : sumI (fun q : KU × UM => p.um ((toU q).units, (toU q).money)) (foldO ltU addU (opA a V)) = sumI (fun q : KU × UM => p.um q.2) (foldO ltU addU (opA a V)) := rfl
  rw [e1, e2, fold_sum, fold_sum]
  unfold knA opA
  rw [sumI_flat, sumI_flat, sumI_add]
  refine sumI_congr fun x _ => ?_
  rw [sumI_flat, sumI_flat, sumI_add]
  refine sumI_congr fun u _ => ?_
  unfold knE opE
  split
  · simp [sumI]
  · simp [sumI]
theorem sal_nn {a : List Ali} (ha : Als a) {V : List Rpt} (hV : ∀ x ∈ V, RpO x) : (∀ s ∈ salesR a V, 0 ≤ s.units ∧ 0 ≤ s.money) ∧ ∀ s ∈ unkR a V, 0 ≤ s.units ∧ 0 ≤ s.money := by
  have hI := inv_A ha hV V.length (Nat.le_refl _)
  rw [List.take_length, stA_eq] at hI
  constructor
  · intro s hs
    obtain ⟨q, hq, rfl⟩ := List.mem_map.1 hs
    have := hI.b1 q ((fold_mem tot_S (knA a V) q).2 hq)
    exact ⟨this.1.1, this.2.1⟩
  · intro s hs
    obtain ⟨q, hq, rfl⟩ := List.mem_map.1 hs
    have := hI.b2 q ((fold_mem tot_U (opA a V) q).2 hq)
    exact ⟨this.1.1, this.2.1⟩
theorem lines_le {V : List Rpt} (hV : ∀ x ∈ V, RpO x) (hl : V.length ≤ 300) (f : Usd → Int) (hf : ∀ u : Usd, (0 ≤ u.units ∧ u.units ≤ 1000000000) ∧ 0 ≤ u.money ∧ u.money ≤ 1000000000 → 0 ≤ f u ∧ f u ≤ 1000000000) :
    sumI (fun x : Rpt => sumI f x.lines) V ≤ 30000000000000 ∧ ∀ x ∈ V, (0 ≤ sumI f x.lines ∧ sumI f x.lines ≤ 100000000000) ∧ ∀ u ∈ x.lines, 0 ≤ f u := by
  have h1 : ∀ x ∈ V, (0 ≤ sumI f x.lines ∧ sumI f x.lines ≤ 100000000000) ∧ ∀ u ∈ x.lines, 0 ≤ f u := fun x hx => by
    have hx' := hV x hx
    have h2 := sumI_le (f := f) (l := x.lines) (c := 1000000000) fun u hu => (hf u (hx'.use u hu).2).2
    have h3 := hx'.len
    exact ⟨⟨sumI_nonneg fun u hu => (hf u (hx'.use u hu).2).1, by omega⟩, fun u hu => (hf u (hx'.use u hu).2).1⟩
  have h2 := sumI_le (f := fun x : Rpt => sumI f x.lines) (l := V) (c := 100000000000) fun x hx => (h1 x hx).1.2
  exact ⟨by omega, h1⟩
def sU (x : Sal) : Int := x.units
def sM (x : Sal) : Int := x.money
def uU (x : Unk) : Int := x.units
def uM (x : Unk) : Int := x.money
def lU (x : Rpt) : Int := sumI Usd.units x.lines
def lM (x : Rpt) : Int := sumI Usd.money x.lines
theorem all_M (a : List Ali) (V : List Rpt) : sumI sM (salesR a V) + sumI uM (unkR a V) = sumI lM V := all_sum pkM a V


set_option maxRecDepth 100000 in
set_option maxHeartbeats 1000000 in
theorem c_pAsk (l : List Rpt) (a : List Ali) (ho : ∀ x ∈ l, okRpt x) (ha : ∀ x ∈ a, x.source.size ≤ 9223372036854775807 ∧ x.title.size ≤ 9223372036854775807) : ACallT Tryz.prog MaxT 31 [.sl (l.map Rpt.ds), .sl (a.map Ali.ds)] (.v (.int .i64 (askF l a))) := by
  refine acall_ofT (n := 13) (ds' := [.v (.int .i64 (askF l a))]) Tryz.func31 rfl (by kernel_rfl) rfl [4] rfl rfl ?_
  intro B w0 F0 hT
  refine AWP.seq (AWP.region ?_)
  refine AOps.aD rfl rfl rfl rfl rfl (.nil ?_)
  refine AWP.seq ?_
  refine AWP.seq (AWP.region ?_)
  refine AOps.mD rfl rfl rfl rfl rfl ?_
  -- wants the world
  refine AOps.callT rfl rfl rfl hT maxT_stays rfl (.cons (ArgOk.rfl' rfl) .nil) (c_pLog l ho) ?_
  refine AOps.aD rfl rfl rfl rfl rfl (.nil ?_)
  refine AWP.seq (AWP.region ?_)
  refine AOps.mD rfl rfl rfl rfl rfl ?_
  refine AOps.step rfl rfl rfl (AOp.neq rfl rfl rfl) (.nil ?_)
  refine AWP.cond rfl (fun h1 => ?_) (fun h1 => ?_)
  · replace h1 := of_decide_eq_true h1
    have HR : askF l a = logF l := if_pos h1
    refine AWP.seq (AWP.region ?_)
    refine AOps.mD rfl rfl rfl rfl rfl ?_
    refine AOps.aD rfl rfl rfl rfl rfl (.nil ?_)
    refine AWP.ret ?_
    refine ⟨RetD.eq rfl ?_, trivial⟩
    all_goals (rw [HR])
  replace h1 := of_decide_eq_false h1
  have HR : askF l a = alisF a := if_neg h1
  refine AWP.skip ?_
  refine AWP.seq (AWP.region ?_)
  refine AOps.mD rfl rfl rfl rfl rfl ?_
  -- wants the world
  refine AOps.callT rfl rfl rfl hT maxT_stays rfl (.cons (ArgOk.rfl' rfl) .nil) (c_pAlis a ha) ?_
  refine AOps.aD rfl rfl rfl rfl rfl (.nil ?_)
  refine AWP.ret ?_
  refine ⟨RetD.eq rfl ?_, trivial⟩
  all_goals (rw [HR])

set_option maxRecDepth 100000 in
set_option maxHeartbeats 1000000 in
theorem c_pMatch (l : List Rpt) (a : List Ali) (ho : ∀ x ∈ l, okRpt x) (ha : ∀ x ∈ a, x.source.size ≤ 9223372036854775807 ∧ x.title.size ≤ 9223372036854775807) : ACallT Tryz.prog MaxT 7 [.sl (l.map Rpt.ds), .sl (a.map Ali.ds)] (.tup [.sl ((matchR l a).map Sal.ds), .v (.int .i64 (askF l a))]) := by
  refine acall_ofT (n := 22) (ds' := [.sl ((matchR l a).map Sal.ds), .v (.int .i64 (askF l a))]) Tryz.func7 rfl (by kernel_rfl) rfl [4, 5] rfl rfl ?_
  intro B w0 F0 hT
  refine AWP.seq (AWP.region ?_)
  refine AOps.aD rfl rfl rfl rfl rfl ?_
  refine AOps.aD rfl rfl rfl rfl rfl (.nil ?_)
  refine AWP.seq ?_
  refine AWP.seq (AWP.region ?_)
  refine AOps.mD rfl rfl rfl rfl rfl ?_
  refine AOps.mD rfl rfl rfl rfl rfl ?_
  -- wants the world
  refine AOps.callT rfl rfl rfl hT maxT_stays rfl (.cons (ArgOk.rfl' rfl) (.cons (ArgOk.rfl' rfl) .nil)) (c_pAsk l a ho ha) ?_
  refine AOps.aD rfl rfl rfl rfl rfl (.nil ?_)
  refine AWP.seq (AWP.region ?_)
  refine AOps.mD rfl rfl rfl rfl rfl ?_
  refine AOps.step rfl rfl rfl (AOp.neq rfl rfl rfl) (.nil ?_)
  refine AWP.cond rfl (fun h1 => ?_) (fun h1 => ?_)
  · replace h1 := of_decide_eq_true h1
    have HR : matchR l a = [] := if_neg h1
    rw [HR]
    refine AWP.seq (AWP.region ?_)
    refine AOps.mD rfl rfl rfl rfl rfl ?_
    refine AOps.aD rfl rfl rfl rfl rfl ?_
    refine AOps.aD rfl rfl rfl rfl rfl (.nil ?_)
    refine AWP.ret ?_
    refine ⟨RetD.nil rfl, RetD.eq rfl ?_, trivial⟩
    all_goals (rfl)
  replace h1 := of_decide_eq_false h1
  have h0 : askF l a = 0 := by omega
  obtain ⟨h1, h2⟩ := ask_ok h0
  have hl := log_of h1
  have hA := als_of h2
  have HR : matchR l a = salesR a (validR l) := if_pos h0
  rw [HR, h0]
  refine AWP.skip ?_
  refine AWP.seq (AWP.region ?_)
  refine AOps.mD rfl rfl rfl rfl rfl ?_
  refine AOps.mD rfl rfl rfl rfl rfl ?_
  refine AOps.step rfl rfl rfl (AOp.call rfl (.cons (ArgOk.rfl' rfl) (.cons (ArgOk.rfl' rfl) .nil)) (c_sums l a hl ho hA)) ?_
  refine AOps.mD rfl rfl rfl rfl rfl ?_
  refine AOps.step rfl rfl rfl (AOp.extract rfl rfl rfl) ?_
  refine AOps.step rfl rfl rfl (AOp.extract rfl rfl rfl) ?_
  refine AOps.aD rfl rfl rfl rfl rfl ?_
  refine AOps.aD rfl rfl rfl rfl rfl (.nil ?_)
  refine AWP.seq (AWP.region ?_)
  refine AOps.mD rfl rfl rfl rfl rfl ?_
  refine AOps.aD rfl rfl rfl rfl rfl ?_
  refine AOps.aD rfl rfl rfl rfl rfl (.nil ?_)
  refine AWP.ret ?_
  refine ⟨RetD.eq rfl ?_, RetD.eq rfl ?_, trivial⟩
  all_goals (rfl)

set_option maxRecDepth 100000 in
set_option maxHeartbeats 1000000 in
theorem c_pOpen (l : List Rpt) (a : List Ali) (ho : ∀ x ∈ l, okRpt x) (ha : ∀ x ∈ a, x.source.size ≤ 9223372036854775807 ∧ x.title.size ≤ 9223372036854775807) : ACallT Tryz.prog MaxT 12 [.sl (l.map Rpt.ds), .sl (a.map Ali.ds)] (.tup [.sl ((openR l a).map Unk.ds), .v (.int .i64 (askF l a))]) := by
  refine acall_ofT (n := 22) (ds' := [.sl ((openR l a).map Unk.ds), .v (.int .i64 (askF l a))]) Tryz.func12 rfl (by kernel_rfl) rfl [4, 5] rfl rfl ?_
  intro B w0 F0 hT
  refine AWP.seq (AWP.region ?_)
  refine AOps.aD rfl rfl rfl rfl rfl ?_
  refine AOps.aD rfl rfl rfl rfl rfl (.nil ?_)
  refine AWP.seq ?_
  refine AWP.seq (AWP.region ?_)
  refine AOps.mD rfl rfl rfl rfl rfl ?_
  refine AOps.mD rfl rfl rfl rfl rfl ?_
  -- wants the world
  refine AOps.callT rfl rfl rfl hT maxT_stays rfl (.cons (ArgOk.rfl' rfl) (.cons (ArgOk.rfl' rfl) .nil)) (c_pAsk l a ho ha) ?_
  refine AOps.aD rfl rfl rfl rfl rfl (.nil ?_)
  refine AWP.seq (AWP.region ?_)
  refine AOps.mD rfl rfl rfl rfl rfl ?_
  refine AOps.step rfl rfl rfl (AOp.neq rfl rfl rfl) (.nil ?_)
  refine AWP.cond rfl (fun h1 => ?_) (fun h1 => ?_)
  · replace h1 := of_decide_eq_true h1
    have HR : openR l a = [] := if_neg h1
    rw [HR]
    refine AWP.seq (AWP.region ?_)
    refine AOps.mD rfl rfl rfl rfl rfl ?_
    refine AOps.aD rfl rfl rfl rfl rfl ?_
    refine AOps.aD rfl rfl rfl rfl rfl (.nil ?_)
    refine AWP.ret ?_
    refine ⟨RetD.nil rfl, RetD.eq rfl ?_, trivial⟩
    all_goals (rfl)
  replace h1 := of_decide_eq_false h1
  have h0 : askF l a = 0 := by omega
  obtain ⟨h1, h2⟩ := ask_ok h0
  have hl := log_of h1
  have hA := als_of h2
  have HR : openR l a = unkR a (validR l) := if_pos h0
  rw [HR, h0]
  refine AWP.skip ?_
  refine AWP.seq (AWP.region ?_)
  refine AOps.mD rfl rfl rfl rfl rfl ?_
  refine AOps.mD rfl rfl rfl rfl rfl ?_
  refine AOps.step rfl rfl rfl (AOp.call rfl (.cons (ArgOk.rfl' rfl) (.cons (ArgOk.rfl' rfl) .nil)) (c_sums l a hl ho hA)) ?_
  refine AOps.mD rfl rfl rfl rfl rfl ?_
  refine AOps.step rfl rfl rfl (AOp.extract rfl rfl rfl) ?_
  refine AOps.step rfl rfl rfl (AOp.extract rfl rfl rfl) ?_
  refine AOps.aD rfl rfl rfl rfl rfl ?_
  refine AOps.aD rfl rfl rfl rfl rfl (.nil ?_)
  refine AWP.seq (AWP.region ?_)
  refine AOps.mD rfl rfl rfl rfl rfl ?_
  refine AOps.aD rfl rfl rfl rfl rfl ?_
  refine AOps.aD rfl rfl rfl rfl rfl (.nil ?_)
  refine AWP.ret ?_
  refine ⟨RetD.eq rfl ?_, RetD.eq rfl ?_, trivial⟩
  all_goals (rfl)

end Go.Proofs.YtekenfknoakboaaGreatDoor


namespace Go.Proofs.YtekenfknoakboaaGreatDoor
open Go.RowKit Go.Shelf
set_option linter.unusedVariables false

theorem setCells_turn (g : Nat) : ∀ (vs : List Value) (o : Nat) (w : World), Turn w (w.setCells g o vs) (some g)
  | [], _, _ => ⟨rfl, rfl, rfl, Nat.le_refl _, fun _ _ _ => rfl⟩
  | v :: vs, o, w => (setCell_turn w g o v).trans (setCells_turn g vs (o + 1) _)
theorem setCells_heap {g : Nat} {e : TypeId} : ∀ (vs : List Value) (o : Nat) (w : World) (cur : List Value), w.heap[g]? = some (.cells cur.toArray e (0, 0)) → o + vs.length ≤ cur.length →
    (w.setCells g o vs).heap[g]? = some (.cells (cur.take o ++ vs ++ cur.drop (o + vs.length)).toArray e (0, 0))
  | [], o, w, cur, h, _ => by simpa [World.setCells] using h
  | v :: vs, o, w, cur, h, hl => by
    simp only [List.length_cons] at hl
    have hset : (w.setCell ⟨g, o, none⟩ v).heap[g]? = some (.cells (cur.set o v).toArray e (0, 0)) := by
      unfold World.setCell
      simp [Array.getElem?_modify, h]
    rw [World.setCells, setCells_heap vs (o + 1) _ _ hset (by simp; omega)]
    congr 3
    have hn : o < cur.length := by omega
    apply List.ext_getElem?
    intro k
    rw [get3, get3]
    simp only [List.length_take, List.length_set, List.length_cons, Nat.min_eq_left (show o + 1 ≤ cur.length by omega), Nat.min_eq_left (show o ≤ cur.length by omega)]
    by_cases k1 : k < o
    · rw [if_pos (by omega), if_pos k1, List.getElem?_take, List.getElem?_take, if_pos (by omega), if_pos k1, List.getElem?_set, if_neg (by omega)]
    · by_cases k2 : k = o
      · subst k2
        rw [if_pos (by omega), if_neg (by omega), if_pos (by omega), List.getElem?_take, if_pos (by omega), List.getElem?_set, if_pos rfl, if_pos hn, Nat.sub_self]
        rfl
      · rw [if_neg (show ¬ k < o + 1 by omega), if_neg k1]
        by_cases k3 : k < o + 1 + vs.length
        · rw [if_pos k3, if_pos (by omega), show k - o = (k - (o + 1)) + 1 by omega, List.getElem?_cons_succ]
        · rw [if_neg k3, if_neg (by omega), List.getElem?_drop, List.getElem?_drop, List.getElem?_set, if_neg (by omega)]
          congr 1
          omega

/-- What Insert does with an own row. -/
structure InsEnd (B : Nat) (e : TypeId) (w : World) (v : Value) (n : Nat) (ys : List Value) (v' : Value) (w' : World) : Prop where
  own : w'.ownsRow B e 1 v' n ys
  turn : Turn w w' (blk v)
  new : ∀ g, blk v' = some g → blk v = some g ∨ w.heap.size ≤ g

theorem drew_turn (w : World) (row : Option Nat) : Turn w w.drew row := ⟨rfl, rfl, rfl, Nat.le_refl _, fun _ _ _ => rfl⟩
theorem alloc_turn (w : World) (o : Obj) (row : Option Nat) : Turn w (w.alloc o) row :=
  have h := (Below.refl w.heap.size w).alloc (Nat.le_refl _) o
  ⟨h.os, h.tape, h.output, h.size, fun k hk _ => h.block k hk⟩
/-- A block that was not there: the world as it was is what counts. -/
theorem Turn.behind {w a b : World} {g : Nat} {row : Option Nat} (h : Turn w a row) (hg : w.heap.size ≤ g) (k : Turn a b (some g)) : Turn w b row :=
  ⟨k.os.trans h.os, k.tape.trans h.tape, k.output.trans h.output, Nat.le_trans h.size k.size, fun i hi hne => (k.block i (Nat.lt_of_lt_of_le hi h.size) (fun e => by have := Option.some.inj e; omega)).trans (h.block i hi hne)⟩

theorem alloc_at (w : World) (o : Obj) : (w.alloc o).heap[w.heap.size]? = some o := (MapKept.heap_alloc w o).1

end Go.Proofs.YtekenfknoakboaaGreatDoor


namespace Go.Proofs.YtekenfknoakboaaGreatDoor
open Go.RowKit
set_option linter.unusedVariables false

/-- From k on each one waits for all before it but for the first b. -/
def Region.chain1B (ops : Array Oper) (b k : Nat) : Bool := Region.downB ops && Nat.ble k ops.size && Nat.ble b k && (List.range (ops.size - 1)).all fun j =>
  Nat.blt j b || (List.range ops.size).any fun m => Nat.blt j m && (Nat.ble m k || Nat.ble m (j + 1)) && Region.edge ops m j
structure Chain1 (ops : Array Oper) (b k : Nat) : Prop where
  down : Region.downB ops = true
  le : k ≤ ops.size
  bk : b ≤ k
  next : ∀ j, b ≤ j → j < ops.size - 1 → ∃ m, j < m ∧ (m ≤ k ∨ m ≤ j + 1) ∧ Region.edge ops m j = true
theorem Chain1.of {ops : Array Oper} {b k : Nat} (h : Region.chain1B ops b k = true) : Chain1 ops b k := by
  unfold Region.chain1B at h
  simp only [Bool.and_eq_true] at h
  obtain ⟨⟨⟨h1, h2⟩, h5⟩, h3⟩ := h
  refine ⟨h1, Nat.le_of_ble_eq_true h2, Nat.le_of_ble_eq_true h5, fun j hb hj => ?_⟩
  have h4 := List.all_eq_true.1 h3 j (List.mem_range.2 hj)
  rw [Bool.or_eq_true] at h4
  rcases h4 with h4 | h4
  · rw [Nat.blt_eq] at h4; omega
  · obtain ⟨m, _, hm⟩ := List.any_eq_true.1 h4
    simp only [Bool.and_eq_true, Bool.or_eq_true, Nat.blt_eq] at hm
    exact ⟨m, hm.1.1, hm.1.2.imp Nat.le_of_ble_eq_true Nat.le_of_ble_eq_true, hm.2⟩
section
variable {P : Program} {ops : Array Oper} {Q Q0 : Exit → Act → World → Prop} {b k : Nat}
end

def notSelect (o : Oper) : Bool := match o.op with | .select _ _ => false | _ => true
end Go.Proofs.YtekenfknoakboaaGreatDoor


namespace Go.Proofs.YtekenfknoakboaaGreatDoor
open Go.RowKit Go.Shelf
set_option linter.unusedVariables false

def intC (n : Int) : List D := [.v (.int .i64 n)]
section
variable {cx : Cx} {ops : Array Oper} {o : Oper} {rest : List Oper} {e : Env} {σ : Obs} {Q : Post}
end
section
variable {cx : Cx} {ops : Array Oper} {o : Oper} {rest : List Oper} {e : Env} {σ : Obs} {Q : Post}
end
def apartB (ops : Array Oper) (o0 : Oper) : Bool := (List.range ops.size).all fun j => Nat.beq j 0 || Region.edge ops j 0 || ((ops[j]?).map fun oj => o0.apart ops oj).getD true
def dstB (Φ : List Fr) (l : List Oper) : Bool := Φ.all fun f => (List.range l.length).all fun i => (List.range l.length).all fun j => Nat.beq i j || ((l[i]?).map fun o => neDst o f.dst).getD true || ((l[j]?).map fun o => neDst o f.dst).getD true
def openB (l : List Oper) (k2 k : Nat) (o0 : Oper) : Bool := Nat.blt 0 k2 && Nat.ble k2 k && Region.chainB l.toArray k && Region.chain1B (l.take k).toArray 1 k2 && (l.take k).all notSelect && apartB (l.take k).toArray o0 && (Array.all o0.after fun e => !(Region.binds .any e)) && Region.lexFrom .any (l.take k2).toArray (k2 - 1) 1 ((Array.replicate k2 false).setIfInBounds 0 true)
end Go.Proofs.YtekenfknoakboaaGreatDoor


namespace Go.Proofs.YtekenfknoakboaaGreatDoor
open Go.RowKit
set_option linter.unusedVariables false

def OneC (σ : Obs) (s : S) : Prop := OneS σ s ∨ ∃ id off, s = .ptr id off
theorem OneC.cell {σ : Obs} {s : S} (h : OneC σ s) {B : Nat} {F : Nat → Prop} {ρ : Nat → Value} {w : World} (hσ : ObsOk B F ρ w σ) {u : Value} (hu : RepS F ρ w u s) : ∃ c, u.cells = #[c] ∧ c.oneCell' = true ∧ RepS F ρ w c s := by
  rcases h with h | ⟨id, off, rfl⟩
  · exact h.cell hσ hu
  · cases hu with
    | ptr _ _ g hg => exact ⟨_, rfl, rfl, .ptr id off g hg⟩
section
variable {cx : Cx} {ops : Array Oper} {o : Oper} {rest : List Oper} {e : Env} {σ : Obs} {Q : Post}
end
/-! One object takes another's place. -/
def S.ren (i j : Nat) : S → S
  | .own k => match Nat.beq k i with | true => .own j | false => match Nat.beq k j with | true => .d .any | false => .own k
  | .ptr k off => match Nat.beq k i with | true => .ptr j off | false => match Nat.beq k j with | true => .d .any | false => .ptr k off
  | .d x => .d x
  | .clo f caps => .d .any
def Ob.ren (i j : Nat) : Ob → Ob
  | .row e size els => .row e size els
  | .cells ss => .cells (ss.map (S.ren i j))
  | .map M => .map M
  | .rowS e size els => .rowS e size (els.map fun ss => ss.map (S.ren i j))
  | .bts l => .bts l
  | .val ss => .val (ss.map (S.ren i j))
  | .iter M done => .iter M done
section
variable {cx : Cx} {ops : Array Oper} {rest : List Oper} {e : Env} {σ : Obs} {Q : Post}
end
end Go.Proofs.YtekenfknoakboaaGreatDoor


namespace Go.Proofs.YtekenfknoakboaaGreatDoor
open Go.RowKit
set_option linter.unusedVariables false

/-- f returns a struct whose parts are as ss', some of them own objects; the object vid is that struct. -/
def XSCall (P : Program) (f : FuncId) (ss : List S) (σ σ' : Obs) (chg : Nat → Bool) (s : S) : Prop := Enters P f ∧
  ∀ (F : Nat → Prop) (ρ : Nat → Value) (B : Nat) (w : World) (vs : List Value), (∀ b, F b → b < w.heap.size) → B ≤ w.heap.size → ObsOk B F ρ w σ → RepSL F ρ w vs ss →
    Calls P f vs.toArray w fun e w' => ∃ v F' ρ', e = .returned v ∧ RepS F' ρ' w' v s ∧ XEnd B F ρ w σ F' ρ' w' σ' chg

def RetXC (b : Nat) (ds : List D) (σ' : Obs) : Post := fun ex e σ => match ex with
  | .ret => (∃ cid, e b = .ptr cid 0 ∧ (cid, Ob.cells (ds.map S.d)) ∈ σ) ∧ AllIn σ σ'
  | .normal => (∃ cid, e b = .ptr cid 0 ∧ (cid, Ob.cells (ds.map S.d)) ∈ σ) ∧ AllIn σ σ'
  | _ => False
def RetXV (b vid : Nat) (ss' : List S) (σr : Obs) : Post := fun ex e σ => match ex with
  | .ret => (∃ cid ssr, e b = .ptr cid 0 ∧ (cid, Ob.cells ssr) ∈ σ ∧ ssr.map (S.kill vid) = ss' ∧ Obs.fresh vid σr = true ∧ Obs.kill vid σr = σr) ∧ AllIn σ σr
  | .normal => (∃ cid ssr, e b = .ptr cid 0 ∧ (cid, Ob.cells ssr) ∈ σ ∧ ssr.map (S.kill vid) = ss' ∧ Obs.fresh vid σr = true ∧ Obs.kill vid σr = σr) ∧ AllIn σ σr
  | _ => False
section
variable {cx : Cx} {ops : Array Oper} {o : Oper} {rest : List Oper} {e : Env} {σ : Obs} {Q : Post}
end
end Go.Proofs.YtekenfknoakboaaGreatDoor


namespace Go.Proofs.YtekenfknoakboaaGreatDoor
open Go.RowKit
set_option linter.unusedVariables false

/-- One step; sl: who reads objects, ef: who writes them. -/
def HStep (cx : Cx) (ops : Array Oper) (sl ef : Nat → Bool) (I : Obs → Prop) (k : Nat) (o : Oper) (e : Env) (σ : Obs) (e' : Env) (σ' : Obs) : Prop :=
  (GW ops o e true ∧ ∃ s, ((sl k = true ∧ AOp cx.P cx.B ops o e σ s) ∨ (I σ ∧ ∀ τ, I τ → AOp cx.P cx.B ops o e τ s)) ∧ e' = e.put o.dst s ∧ σ' = σ) ∨
  (GW ops o e false ∧ e' = e.put o.dst (.d (.v undef)) ∧ σ' = σ) ∨
  (GW ops o e true ∧ ef k = true ∧ o.dst = none ∧ EOp cx ops o e σ σ' ∧ e' = e ∧ I σ ∧ I σ')

def HRun (cx : Cx) (ops : Array Oper) (sl ef : Nat → Bool) (I : Obs → Prop) : Nat → List Oper → Env → Obs → (Env → Obs → Prop) → Prop
  | _, [], e, σ, Q => Q e σ
  | k, o :: l, e, σ, Q => DstOk cx.N o ∧ ∃ e' σ', HStep cx ops sl ef I k o e σ e' σ' ∧ HRun cx ops sl ef I (k + 1) l e' σ' Q

def anyH (cx : Cx) (ops : Array Oper) (sl ef : Nat → Bool) (I : Obs → Prop) (Q : Env → Obs → Prop) : Nat → Array Bool → Env → Obs → Prop
  | 0, listed, e, σ => Region.ready .any ops listed = [] ∧ Q e σ
  | fuel + 1, listed, e, σ => (Region.ready .any ops listed = [] → Q e σ) ∧
      ∀ i ∈ Region.ready .any ops listed, ∀ o, ops[i]? = some o → ∃ e' σ', HStep cx ops sl ef I i o e σ e' σ' ∧ anyH cx ops sl ef I Q fuel (listed.setIfInBounds i true) e' σ'

section
variable {cx : Cx} {ops : Array Oper} {o : Oper} {rest : List Oper} {e : Env} {σ : Obs} {sl ef : Nat → Bool} {I : Obs → Prop} {n : Nat} {l : List Oper} {Q : Env → Obs → Prop}
end
end Go.Proofs.YtekenfknoakboaaGreatDoor


namespace Go.Proofs.YtekenfknoakboaaGreatDoor
open Go.RowKit
set_option linter.unusedVariables false

/-- What the operation gives depends on x's value alone; or it gives nothing. -/
def PureOp (P : Program) (o : Oper) (x : Operand) : Prop := ∀ u : Value, (∃ v, ∀ (a : Act) (w : World), a.eval x = u → (execOp a.eval o).run P w = .ok (.value v) w) ∨
  (∀ (a : Act) (w : World) (K : Act → World → Prop) (Q : Exit → Act → World → Prop), (∀ e a w, e ≠ .normal → ¬ Q e a w) → a.eval x = u → ¬ o.wp P a w K Q)
theorem PureOp.move {P : Program} {o : Oper} {x : Operand} (h : o.op = .move x) : PureOp P o x := fun u => .inl ⟨u, fun a w hx => by
  unfold execOp
  simp only [h, hx, Sem.run_pure]⟩
theorem PureOp.extract {P : Program} {o : Oper} {x : Operand} {i : Nat} (h : o.op = .extract x i) : PureOp P o x := fun u => by
  by_cases hu : ∃ vs v, u = .tuple vs ∧ vs[i]? = some v
  · obtain ⟨vs, v, rfl, hv⟩ := hu
    refine .inl ⟨v, fun a w hx => ?_⟩
    unfold execOp
    simp only [h, hx, Instr.extract, hv, Sem.run_bind, Sem.run_pure, Result.andThen_ok]
  · refine .inr fun a w K Q hQ hx hw => ?_
    unfold Oper.wp execOp at hw
    simp only [h, hx] at hw
    cases u with
    | tuple vs =>
      cases hv : vs[i]? with
      | some v => exact hu ⟨vs, v, rfl, hv⟩
      | none => simp only [Instr.extract, hv, Sem.run_bind] at hw; exact hw
    | _ => simp only [Instr.extract, Sem.run_bind] at hw; exact hw
/-- From k on each one waits for all before it, but for those of L ahead of k. -/
def Region.chainLB (ops : Array Oper) (L : Nat → Bool) (k : Nat) : Bool := Region.downB ops && Nat.ble k ops.size && (List.range (ops.size - 1)).all fun j =>
  (L j && Nat.blt j k) || (List.range ops.size).any fun m => Nat.blt j m && (Nat.ble m k || Nat.ble m (j + 1)) && (!(L m) || Nat.ble k m) && Region.edge ops m j
structure ChainL (ops : Array Oper) (L : Nat → Bool) (k : Nat) : Prop where
  down : Region.downB ops = true
  le : k ≤ ops.size
  next : ∀ j, (L j = false ∨ k ≤ j) → j < ops.size - 1 → ∃ m, j < m ∧ (m ≤ k ∨ m ≤ j + 1) ∧ (L m = false ∨ k ≤ m) ∧ Region.edge ops m j = true
theorem ChainL.of {ops : Array Oper} {L : Nat → Bool} {k : Nat} (h : Region.chainLB ops L k = true) : ChainL ops L k := by
  unfold Region.chainLB at h
  simp only [Bool.and_eq_true] at h
  obtain ⟨⟨h1, h2⟩, h3⟩ := h
  refine ⟨h1, Nat.le_of_ble_eq_true h2, fun j hL hj => ?_⟩
  have h4 := List.all_eq_true.1 h3 j (List.mem_range.2 hj)
  rw [Bool.or_eq_true] at h4
  rcases h4 with h4 | h4
  · simp only [Bool.and_eq_true, Nat.blt_eq] at h4
    rcases hL with hL | hL
    · rw [hL] at h4; simp at h4
    · omega
  · obtain ⟨m, _, hm⟩ := List.any_eq_true.1 h4
    simp only [Bool.and_eq_true, Bool.or_eq_true, Nat.blt_eq, Bool.not_eq_true'] at hm
    exact ⟨m, hm.1.1.1, hm.1.1.2.imp Nat.le_of_ble_eq_true Nat.le_of_ble_eq_true, hm.1.2.imp id Nat.le_of_ble_eq_true, hm.2⟩
section
variable {P : Program} {ops : Array Oper} {Q Q0 : Exit → Act → World → Prop} {k : Nat} {L : Nat → Bool}
/-- The operations of L: pure, unguarded, apart from whoever is not bound to come after. -/
structure LateOk (P : Program) (ops : Array Oper) (L : Nat → Bool) (k : Nat) : Prop where
  op : ∀ i, L i = true → i < k → ∃ oi x d, ops[i]? = some oi ∧ PureOp P oi x ∧ (∀ t, x = .tmp t → t ∈ oi.looksAt ops) ∧ oi.dst = some d ∧ oi.guard = none
  sel : ∀ (j : Nat) (oj : Oper), ops[j]? = some oj → notSelect oj = true
  apart : ∀ i oi, L i = true → i < k → ops[i]? = some oi → ∀ (j : Nat) (oj : Oper), ops[j]? = some oj → j ≠ i → (∀ e ∈ oj.after, Region.binds .any e = true → e.on ≠ i) → (∀ e ∈ oi.after, Region.binds .any e = true → e.on ≠ j) → oi.apart ops oj = true
end
/-- The late ones, by a look at them. -/
def pureB (o : Oper) : Bool := (match o.op with | .move _ => true | .extract _ _ => true | _ => false) && o.guard.isNone && o.dst.isSome
theorem pureB_spec {P : Program} {ops : Array Oper} {o : Oper} (h : pureB o = true) : ∃ x d, PureOp P o x ∧ (∀ t, x = .tmp t → t ∈ o.looksAt ops) ∧ o.dst = some d ∧ o.guard = none := by
  unfold pureB at h
  simp only [Bool.and_eq_true] at h
  obtain ⟨⟨h1, h2⟩, h3⟩ := h
  obtain ⟨d, hd⟩ := Option.isSome_iff_exists.1 h3
  have hg : o.guard = none := by simpa using h2
  cases hop : o.op with
  | move x => exact ⟨x, d, .move hop, fun t ht => looks_op (by rw [hop, ht]; simp [Op.operands]), hd, hg⟩
  | extract x i => exact ⟨x, d, .extract hop, fun t ht => looks_op (by rw [hop, ht]; simp [Op.operands]), hd, hg⟩
  | _ => rw [hop] at h1; simp at h1
def lateB (ops : Array Oper) (L : List Nat) (k : Nat) : Bool := (ops.toList.all notSelect) && L.all fun i => Nat.blt i k && ((ops[i]?).map fun oi => pureB oi && (List.range ops.size).all fun j => Nat.beq j i || Region.edge ops j i || Region.edge ops i j || ((ops[j]?).map fun oj => oi.apart ops oj).getD true).getD false
theorem LateOk.of {P : Program} {ops : Array Oper} {L : List Nat} {k : Nat} (h : lateB ops L k = true) : LateOk P ops (fun i => L.contains i) k := by
  unfold lateB at h
  simp only [Bool.and_eq_true] at h
  have hL : ∀ i, L.contains i = true → ∃ oi, ops[i]? = some oi ∧ pureB oi = true ∧ ∀ j oj, ops[j]? = some oj → j ≠ i → (∀ e ∈ oj.after, Region.binds .any e = true → e.on ≠ i) → (∀ e ∈ oi.after, Region.binds .any e = true → e.on ≠ j) → oi.apart ops oj = true := fun i hi => by
    have h1 := List.all_eq_true.1 h.2 i (List.contains_iff_mem.1 hi)
    simp only [Bool.and_eq_true] at h1
    cases ho : ops[i]? with
    | none => rw [ho] at h1; simp at h1
    | some oi =>
      rw [ho] at h1
      simp only [Option.map_some, Option.getD_some, Bool.and_eq_true] at h1
      refine ⟨oi, rfl, h1.2.1, fun j oj hj hji hn hn2 => ?_⟩
      have h2 := List.all_eq_true.1 h1.2.2 j (List.mem_range.2 (Array.getElem?_eq_some_iff.1 hj).1)
      rw [hj] at h2
      simp only [Option.map_some, Option.getD_some, Bool.or_eq_true] at h2
      rcases h2 with ((h2 | h2) | h2) | h2
      · exact absurd (Nat.eq_of_beq_eq_true h2) hji
      · obtain ⟨o, ho2, e, he, hb, heq⟩ := Region.edge_spec h2
        rw [hj] at ho2; cases ho2
        exact absurd heq (hn e he hb)
      · obtain ⟨o, ho2, e, he, hb, heq⟩ := Region.edge_spec h2
        rw [ho] at ho2; cases ho2
        exact absurd heq (hn2 e he hb)
      · exact h2
  refine ⟨fun i hi _ => ?_, fun j oj hj => List.all_eq_true.1 h.1 oj (by simpa using Array.mem_of_getElem? hj), fun i oi hi _ hoi j oj hj hji hn hn2 => ?_⟩
  · obtain ⟨oi, h1, h2, _⟩ := hL i hi
    obtain ⟨x, d, h3, h4, h5, h6⟩ := pureB_spec (P := P) (ops := ops) h2
    exact ⟨oi, x, d, h1, h3, h4, h5, h6⟩
  · obtain ⟨oi', h1, _, h3⟩ := hL i hi
    rw [hoi] at h1; cases h1
    exact h3 j oj hj hji hn hn2
def QN (Q : Post) : Post := fun ex e σ => match ex with | .normal => Q .normal e σ | _ => False
end Go.Proofs.YtekenfknoakboaaGreatDoor
