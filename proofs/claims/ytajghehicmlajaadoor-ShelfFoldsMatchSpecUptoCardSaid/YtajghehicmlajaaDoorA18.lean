/- Abstract values: a struct read out of an own row; rows told anew. No statement of the seat. -/
import Derived.Test.YtajghehicmlajaaDoorA17
namespace Go.Proofs.YtajghehicmlajaaDoor
open Go.RowKit
set_option linter.unusedVariables false
section
variable {P : Program} {B : Nat} {ops : Array Oper} {o : Oper} {e : Env} {σ : Obs}
/-- An element that is a struct, loaded whole out of an own row. -/
theorem AOp.loadRowAgg {t : TypeId} {x : Operand} {id off ee size : Nat} {els : List (List D)} {ds : List D} (ho : o.op = .load t x) (hT : AggT P t size) (hx : e.ev x = .ptr id off) (hm : (id, Ob.row ee size els) ∈ σ) (k : Nat) (hoff : off = k * size) (hk : els[k]? = some ds) :
    AOp P B ops o e σ (.d (.agg ds)) :=
  .value fun F ρ w a hF hr hσ => by
  have h1 := hr x (by rw [ho]; simp [Op.operands])
  rw [hx] at h1
  obtain ⟨xs, h3, h4, h5, h6⟩ := hσ.ok _ hm
  dsimp only at h3
  have hlt : k < els.length := (List.getElem?_eq_some_iff.1 hk).1
  have hde : els[k] = ds := (List.getElem?_eq_some_iff.1 hk).2
  have hsz := h4 k hlt
  rw [hde] at hsz
  rcases h3.2 with ⟨_, h7⟩ | ⟨g, cap, cur, h7, _, h8, _⟩
  · omega
  · have hv := ptr_at h1 (g := g) (by rw [h7]; rfl)
    have hl' : (loadCells ⟨g, off, none⟩ ((List.range size).map (xs k)).length).run P w = .ok ((List.range size).map (xs k)).toArray w := run_loadCells_list w _ _ (fun j v hj => by
      have hjl := (List.getElem?_eq_some_iff.1 hj).1
      simp at hjl
      have hc := row_cell h3 h7 h8 hlt hjl
      rw [addr_add, hoff, hc, ← hj]
      simp [hjl])
    simp only [List.length_map, List.length_range] at hl'
    refine ⟨.agg ((List.range size).map (xs k)).toArray, F, w, ?_, .d (.agg _ _ (by simp [hsz]) (fun i hi => ?_) (fun i hi hi2 => ?_)), Ext.refl hF⟩
    · unfold execOp
      simp only [ho, hv, Instr.loadAt, Instr.sureAddr, loadVar, Sem.run_bind, Sem.run_pure, Result.andThen_ok, hT.agg w, hT.size w, if_true, hl']
    · simp at hi ⊢
      exact (h5 k hlt i (by rw [hde, hsz]; exact hi)).1
    · simp at hi ⊢
      have := (h5 k hlt i (by rw [hde, hsz]; exact hi)).2
      simp only [hde] at this
      exact this
end
theorem row_same {id e size : Nat} {els els' : List (List D)} {τ : Obs} (h : els = els') : ∀ p ∈ [(id, Ob.row e size els')], p ∈ (id, Ob.row e size els) :: τ := fun p hp => by
  have : p = (id, Ob.row e size els') := by simpa using hp
  rw [this, ← h]
  exact .head _
end Go.Proofs.YtajghehicmlajaaDoor
