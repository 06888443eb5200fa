/- Lists of plain values as abstract values; strings and bytes. No statement of the seat. -/
import Derived.Test.YtajghehicmlajaaDoorA14
namespace Go.Proofs.YtajghehicmlajaaDoor
open Go.RowKit

/-- One cell an element, each of a plain value: the elder word for it. -/
theorem sl_of_rep {α : Type} {F : Nat → Prop} {w : World} {x : Value} (l : List α) (f : α → Value) (h : Rep F w x (.sl (l.map fun a => [D.v (f a)]))) : Sl w 1 x l.length (l.map f) := by
  refine ⟨by simp, ?_⟩
  rcases rep_sl_sl h with ⟨rfl, h2⟩ | ⟨ad, cap, size, vs, rfl, hc, hm, hF, hs, hcell, hone, hrep⟩
  · have : l = [] := by simpa using h2
    subst this
    exact .inl ⟨rfl, rfl⟩
  · rw [List.length_map] at hc hcell
    refine .inr ⟨ad, cap, by simp, hc, hm, fun i hi => ?_⟩
    rw [List.length_map] at hi
    have hs1 : size = 1 := by rw [← hs i (by simpa using hi)]; simp
    subst hs1
    have h3 := hcell i 0 hi (by omega)
    have h4 := hrep i (by simpa using hi) 0 (by simp)
    simp only [List.getElem_map, List.getElem_cons_zero] at h4
    rw [Nat.mul_one, Nat.add_zero] at h3
    rw [h3, rep_v h4]
    simp

def u8D (c : UInt8) : List D := [.v (.int .u8 (c.toNat : Int))]
def u32D (n : Nat) : List D := [.v (.int .u32 (n : Int))]
def intD (n : Int) : List D := [.v (.int .i64 n)]

theorem at_map {α : Type} {l : List α} {f : α → List D} {k : Nat} (h : k < l.length) : (l.map f)[k]? = some (f l[k]) := by simp [h]


section
variable {P : Program} {B : Nat} {ops : Array Oper} {o : Oper} {e : Env} {σ : Obs}
/-- string(b), b frozen bytes. -/
theorem AOp.bytesStr {s t el : TypeId} {x : Operand} {l : List UInt8} (ho : o.op = .convert s t x) (hs : P.underlying s = some (.slice el)) (he : P.underlying el = some (.int .u8)) (hd : P.underlying t = some .string) (hx : e.ev x = .d (.sl (l.map u8D))) :
    AOp P B ops o e σ (.d (.v (.string ⟨l.toArray⟩))) := .value fun F ρ w a hF hr _ => by
  have h1 := hr x (by rw [ho]; simp [Op.operands])
  rw [hx] at h1
  have h2 := sl_of_rep l (fun c => .int .u8 (c.toNat : Int)) (repS_d h1)
  refine ⟨_, F, w, ?_, .d (.v _), Ext.refl hF⟩
  unfold execOp
  simp only [ho]
  rw [Sem.run_bind]
  rcases h2.2 with ⟨h3, h4⟩ | ⟨ad, cap, h3, h4, h5, h6⟩
  · have : l = [] := List.eq_nil_of_length_eq_zero h4
    subst this
    rw [h3, run_convert_bytes_nil w s el hs he 0 0 t hd]
    rfl
  · rw [h3, run_convert_bytes_back w s t el ad cap l hs he hd (fun j hj => by
      have := h6 j (by simpa using hj)
      simpa using this)]
    rfl
end
end Go.Proofs.YtajghehicmlajaaDoor
