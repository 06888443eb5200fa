/- Walks and laws over abstract values, merged by tools/merge.py. No statement of the seat. -/
import Derived.WalkKit
import Derived.Ground.NamesProg
import Derived.Shelf.Sort.Plain
import Derived.Shelf.Slices.In.SortNone
import Derived.Test.YtieccphckobhjaaGreatDoorProg
import Derived.Test.YtieccphckobhjaaGreatDoorXI5

namespace Go.Proofs.YtieccphckobhjaaGreatDoor
open Go.RowKit
set_option linter.unusedVariables false

/-! Types. -/
namespace TyP1
theorem et_63 : ElemTy Tryz.prog 63 3 1 8 (.int .i64 0) := ⟨by kernel_rfl, by kernel_rfl, by kernel_rfl, by decide⟩
theorem sc_3 : Scal Tryz.prog 3 := .of (by kernel_rfl)
end TyP1
open TyP1


/-- The binary search: the number to which it comes. -/
def bsr (lt : Nat → Bool) (i j : Nat) : Nat := if h : i < j then (if lt ((i + j) / 2) = true then bsr lt ((i + j) / 2 + 1) j else bsr lt i ((i + j) / 2)) else i
termination_by j - i
decreasing_by all_goals omega
theorem bsr_up {lt : Nat → Bool} {i j : Nat} (h : i < j) (h2 : lt ((i + j) / 2) = true) : bsr lt i j = bsr lt ((i + j) / 2 + 1) j := by rw [bsr, dif_pos h, if_pos h2]
theorem bsr_dn {lt : Nat → Bool} {i j : Nat} (h : i < j) (h2 : lt ((i + j) / 2) = false) : bsr lt i j = bsr lt i ((i + j) / 2) := by rw [bsr, dif_pos h, if_neg (by rw [h2]; simp)]
theorem bsr_end {lt : Nat → Bool} {i j : Nat} (h : ¬ i < j) : bsr lt i j = i := by rw [bsr, dif_neg h]
theorem bsr_le {lt : Nat → Bool} : ∀ (n i j : Nat), j - i ≤ n → i ≤ j → i ≤ bsr lt i j ∧ bsr lt i j ≤ j
  | 0, i, j, h, hij => by rw [bsr_end (by omega)]; omega
  | n + 1, i, j, h, hij => by
    by_cases hlt : i < j
    · by_cases hb : lt ((i + j) / 2) = true
      · rw [bsr_up hlt hb]
        have := bsr_le (lt := lt) n ((i + j) / 2 + 1) j (by omega) (by omega)
        omega
      · rw [bsr_dn hlt (by simpa using hb)]
        have := bsr_le (lt := lt) n i ((i + j) / 2) (by omega) (by omega)
        omega
    · rw [bsr_end hlt]; omega
def ltI (l : List Int) (x : Int) (k : Nat) : Bool := decide (l.getD k 0 < x)
def posI (l : List Int) (x : Int) : Nat := bsr (ltI l x) 0 l.length
def hasI (l : List Int) (x : Int) : Bool := decide (posI l x < l.length) && decide (l.getD (posI l x) 0 = x)
end Go.Proofs.YtieccphckobhjaaGreatDoor


namespace Go.Proofs.YtieccphckobhjaaGreatDoor
open Go.RowKit
set_option linter.unusedVariables false

/-! Types. -/
namespace TyP2
theorem ag_65 : AggT Tryz.prog 65 7 := .of (by kernel_rfl)
theorem bu_65 : StructT Tryz.prog 65 (fun i => (#[(0, 1), (1, 1), (2, 1), (3, 1), (4, 1), (5, 1), (6, 1)] : Array (Nat × Nat))[i]?) [(.string ⟨#[]⟩), (.string ⟨#[]⟩), (.string ⟨#[]⟩), (.int .i64 0), (.int .i64 0), (.int .i64 0), (.slice none 0 0)] := .of (by kernel_rfl) (by kernel_rfl) (by decide)
theorem et_24 : ElemTy Tryz.prog 24 65 7 96 (.agg #[(.string ⟨#[]⟩), (.string ⟨#[]⟩), (.string ⟨#[]⟩), (.int .i64 0), (.int .i64 0), (.int .i64 0), (.slice none 0 0)]) := ⟨by kernel_rfl, by kernel_rfl, by kernel_rfl, by decide⟩
theorem fo_26_2 : fieldOff Tryz.prog 26 2 = some 2 := by kernel_rfl
theorem sc_24 : Scal Tryz.prog 24 := .of (by kernel_rfl)
end TyP2
open TyP2


def zC : Cpy := ⟨⟨#[]⟩, ⟨#[]⟩, ⟨#[]⟩, 0, 0, 0, []⟩
def keyC (it ca : ByteArray) : Cpy := { zC with item := it, carrier := ca }
def ltC (l : List Cpy) (t : Cpy) (k : Nat) : Bool := decide (cpyCmp (l.getD k zC) t < 0)
def posC (l : List Cpy) (t : Cpy) : Nat := bsr (ltC l t) 0 l.length
def hasC (l : List Cpy) (t : Cpy) : Bool := decide (posC l t < l.length) && decide (cpyCmp (l.getD (posC l t) zC) t = 0)
theorem posC_le (l : List Cpy) (t : Cpy) : posC l t ≤ l.length := (bsr_le _ 0 l.length (Nat.le_refl _) (Nat.zero_le _)).2
theorem ltC_t {l : List Cpy} {t : Cpy} {k : Nat} (hk : k < l.length) (h : cpyCmp l[k] t < 0) : ltC l t k = true := by unfold ltC; rw [List.getD_eq_getElem?_getD, List.getElem?_eq_getElem hk]; simpa using h
theorem ltC_f {l : List Cpy} {t : Cpy} {k : Nat} (hk : k < l.length) (h : ¬ cpyCmp l[k] t < 0) : ltC l t k = false := by unfold ltC; rw [List.getD_eq_getElem?_getD, List.getElem?_eq_getElem hk]; simpa using h
theorem hasC_eq {l : List Cpy} {t : Cpy} {k : Nat} (hk : k < l.length) (hp : posC l t = k) : hasC l t = decide (cpyCmp l[k] t = 0) := by unfold hasC; rw [hp, List.getD_eq_getElem?_getD, List.getElem?_eq_getElem hk]; simp [hk]
theorem Le.aggLast (ds : List D) : Le (.agg (ds ++ [.v (.slice none 0 0)])) (.agg (ds ++ [.sl []])) := fun F w x hx => by
  cases hx with
  | agg cs _ hl hone h =>
    refine .agg cs _ (by simpa using hl) hone fun i h1 h2 => ?_
    have h3 := h i h1 (by simpa using h2)
    by_cases hi : i < ds.length
    · rw [List.getElem_append_left hi] at h3 ⊢
      exact h3
    · have : i = ds.length := by simp at h2; omega
      subst this
      rw [List.getElem_append_right (Nat.le_refl _)] at h3 ⊢
      simp only [Nat.sub_self, List.getElem_cons_zero] at h3 ⊢
      exact Le.nil _ _ _ h3
theorem keyLe (it ca : ByteArray) : Le (.agg [.v (.string it), .v (.string ca), .v (.string ⟨#[]⟩), .v (.int .i64 0), .v (.int .i64 0), .v (.int .i64 0), .v (.slice none 0 0)]) (.agg (keyC it ca).ds) := Le.aggLast [.v (.string it), .v (.string ca), .v (.string ⟨#[]⟩), .v (.int .i64 0), .v (.int .i64 0), .v (.int .i64 0)]
theorem hasC_t {l : List Cpy} {t : Cpy} {k : Nat} (hk : k < l.length) (hp : posC l t = k) (h : cpyCmp l[k] t = 0) : hasC l t = true := by unfold hasC; rw [hp, List.getD_eq_getElem?_getD, List.getElem?_eq_getElem hk]; simp [hk, h]
theorem hasC_e {l : List Cpy} {t : Cpy} {k : Nat} (hk : ¬ k < l.length) (hp : posC l t = k) : hasC l t = false := by unfold hasC; rw [hp]; simp [hk]


set_option maxRecDepth 100000 in
set_option maxHeartbeats 1000000 in
theorem c_bsC (l : List Cpy) (x : Cpy) (hl : l.length ≤ 100000) : ACall Tryz.prog 79 [.sl (l.map Cpy.ds), .agg x.ds, .clo (.func 80) []] (.tup [.v (.int .i64 (posC l x : Int)), .v (.bool (hasC l x))]) := by
  refine acall_of (n := 49) (ds' := [.v (.int .i64 (posC l x : Int)), .v (.bool (hasC l x))]) Tryz.func79 rfl (by kernel_rfl) rfl [6, 7] rfl rfl ?_
  intro B w0 F0 fr
  refine AWP.seq (AWP.region ?_)
  refine AOps.step rfl rfl rfl (AOp.box rfl rfl rfl) ?_
  refine AOps.aD rfl rfl rfl rfl rfl ?_
  refine AOps.aD rfl rfl rfl rfl rfl (.nil ?_)
  refine AWP.seq (AWP.region ?_)
  refine AOps.mD rfl rfl rfl rfl rfl ?_
  refine AOps.step rfl rfl rfl (AOp.lenSl rfl et_24.ht rfl) ?_
  refine AOps.aD rfl rfl rfl rfl rfl (.nil ?_)
  refine AWP.seq (AWP.region ?_)
  refine AOps.mD rfl rfl rfl rfl rfl ?_
  refine AOps.aD rfl rfl rfl rfl rfl ?_
  refine AOps.aD rfl rfl rfl rfl rfl (.nil ?_)
  refine AWP.seq ?_
  refine AWP.block ?_
  refine AWP.loop (G := Nat × Nat) (fun g => Env.of [(9, .d (.v (.int .i64 (g.1 : Int)))), (10, .d (.v (.int .i64 (g.2 : Int)))), (8, .d (.v (.int .i64 (l.length : Int)))), (0, .d (.sl (l.map Cpy.ds))), (4, .d (.fp x.ds)), (2, .d (.clo (.func 80) []))]) (fun g => []) (fun g => g.1 ≤ g.2 ∧ g.2 ≤ l.length ∧ posC l x = bsr (ltC l x) g.1 g.2) (fun g => g.2 - g.1) (0, l.length) ⟨Nat.zero_le _, Nat.le_refl _, rfl⟩ (Sub.less ⟨(SLe.i64 rfl), (SLe.i64 (by simp)), (SLe.i64 (by simp)), SLe.refl _, SLe.refl _, SLe.refl _, trivial⟩ (fun _ h => h)) ?_
  rintro ⟨i, j⟩ ⟨hij, hjl, hb⟩
  dsimp only at hij hjl hb ⊢
  refine AWP.seq ?_
  refine AWP.seq (AWP.region ?_)
  refine AOps.mD rfl rfl rfl rfl rfl ?_
  refine AOps.mD rfl rfl rfl rfl rfl ?_
  refine AOps.step rfl rfl rfl (AOp.lss rfl rfl rfl) (.nil ?_)
  refine AWP.cond rfl (fun h1 => ?_) (fun h1 => ?_)
  · replace h1 := of_decide_eq_true h1
    have hlt : i < j := by omega
    refine AWP.skip ?_
    refine AWP.block ?_
    refine AWP.seq (AWP.region ?_)
    refine AOps.mD rfl rfl rfl rfl rfl ?_
    refine AOps.mD rfl rfl rfl rfl rfl ?_
    refine AOps.step rfl rfl rfl (AOp.add64 rfl rfl rfl (by omega) (by omega)) ?_
    refine AOps.step rfl rfl rfl (AOp.convSame rfl (by kernel_rfl) rfl (wrapU64 (by omega) (by omega))) ?_
    refine AOps.step rfl rfl rfl (AOp.half rfl rfl rfl) ?_
    refine AOps.step rfl rfl rfl (AOp.convSame rfl (by kernel_rfl) rfl (w64 (by omega) (by omega))) ?_
    refine AOps.aD rfl rfl rfl rfl rfl (.nil ?_)
    refine AWP.seq ?_
    refine AWP.draw (by kernel_rfl) (by kernel_rfl) ?_
    refine DRun.step rfl rfl rfl (AOp.moveD rfl rfl) ?_
    refine DRun.step rfl rfl rfl (AOp.moveD rfl rfl) ?_
    refine DRun.step rfl rfl rfl (AOp.moveD rfl rfl) ?_
    refine DRun.step rfl rfl rfl (AOp.indexAddr rfl et_24 rfl rfl ((i + j) / 2) (by omega) (at_list (by omega)) rfl) ?_
    refine DRun.step rfl rfl rfl (AOp.loadAgg rfl ag_65 rfl rfl) ?_
    refine DRun.step rfl rfl rfl (AOp.loadAgg rfl ag_65 rfl rfl) ?_
    refine DRun.step rfl rfl rfl (AOp.callClo rfl rfl (.cons (ArgOk.rfl' rfl) (.cons (ArgOk.rfl' rfl) .nil)) (c_cmpCopies l[(i + j) / 2] x)) ?_
    refine DRun.step rfl rfl rfl (AOp.lss rfl rfl rfl) ?_
    refine DRun.nil ?_
    refine AWP.cond rfl (fun h2 => ?_) (fun h2 => ?_)
    · replace h2 := of_decide_eq_true h2
      have HB := bsr_up hlt (ltC_t (by omega) h2)
      refine AWP.region ?_
      refine AOps.mD rfl rfl rfl rfl rfl ?_
      refine AOps.step rfl rfl rfl (AOp.add64 rfl rfl rfl (by omega) (by omega)) ?_
      refine AOps.aD rfl rfl rfl rfl rfl (.nil ?_)
      refine ⟨((i + j) / 2 + 1, j), ⟨by dsimp only; omega, by dsimp only; omega, by dsimp only; rw [hb]; exact HB⟩, (by dsimp only; omega), Sub.less ⟨(SLe.i64 (by dsimp only; omega)), (SLe.refl _), SLe.refl _, SLe.refl _, SLe.refl _, SLe.refl _, trivial⟩ (fun _ h => h)⟩
    replace h2 := of_decide_eq_false h2
    have HB := bsr_dn hlt (ltC_f (by omega) h2)
    refine AWP.region ?_
    refine AOps.mD rfl rfl rfl rfl rfl ?_
    refine AOps.aD rfl rfl rfl rfl rfl (.nil ?_)
    refine ⟨(i, (i + j) / 2), ⟨by dsimp only; omega, by dsimp only; omega, by dsimp only; rw [hb]; exact HB⟩, (by dsimp only; omega), Sub.less ⟨(SLe.refl _), (SLe.i64 (by dsimp only; omega)), SLe.refl _, SLe.refl _, SLe.refl _, SLe.refl _, trivial⟩ (fun _ h => h)⟩
  replace h1 := of_decide_eq_false h1
  rw [bsr_end (by omega)] at hb
  refine AWP.exit ?_
  refine AWP.seq ?_
  refine AWP.draw (by kernel_rfl) (by kernel_rfl) ?_
  refine DRun.step rfl rfl rfl (AOp.moveD rfl rfl) ?_
  refine DRun.step rfl rfl rfl (AOp.moveD rfl rfl) ?_
  refine DRun.step rfl rfl rfl (AOp.moveD rfl rfl) ?_
  refine DRun.step rfl rfl rfl (AOp.lss rfl rfl rfl) ?_
  refine DRun.step rfl rfl rfl (AOp.moveD rfl rfl) ?_
  refine DRun.split 39 rfl (fun g3 => ?_) (fun g3 => ?_)
  · replace g3 := of_decide_eq_true g3
    have hil : i < l.length := by omega
    refine DRun.step ⟨39, rfl, .inl ⟨_, rfl, rfl⟩⟩ rfl rfl (AOp.moveD rfl rfl) ?_
    refine DRun.step ⟨39, rfl, .inl ⟨_, rfl, rfl⟩⟩ rfl rfl (AOp.moveD rfl rfl) ?_
    refine DRun.step ⟨39, rfl, .inl ⟨_, rfl, rfl⟩⟩ rfl rfl (AOp.moveD rfl rfl) ?_
    refine DRun.step ⟨39, rfl, .inl ⟨_, rfl, rfl⟩⟩ rfl rfl (AOp.indexAddr rfl et_24 rfl rfl i rfl (at_list hil) rfl) ?_
    refine DRun.step ⟨39, rfl, .inl ⟨_, rfl, rfl⟩⟩ rfl rfl (AOp.loadAgg rfl ag_65 rfl rfl) ?_
    refine DRun.step ⟨39, rfl, .inl ⟨_, rfl, rfl⟩⟩ rfl rfl (AOp.loadAgg rfl ag_65 rfl rfl) ?_
    refine DRun.step ⟨39, rfl, .inl ⟨_, rfl, rfl⟩⟩ rfl rfl (AOp.callClo rfl rfl (.cons (ArgOk.rfl' rfl) (.cons (ArgOk.rfl' rfl) .nil)) (c_cmpCopies l[i] x)) ?_
    refine DRun.step ⟨39, rfl, .inl ⟨_, rfl, rfl⟩⟩ rfl rfl (AOp.eql rfl rfl rfl) ?_
    refine DRun.step rfl rfl rfl (AOp.pickT rfl rfl rfl) ?_
    refine DRun.step rfl rfl rfl (AOp.assignD rfl rfl) ?_
    refine DRun.step rfl rfl rfl (AOp.assignD rfl rfl) ?_
    refine DRun.nil ?_
    refine AWP.ret ?_
    refine ⟨RetD.eq rfl ?_, RetD.eq rfl ?_, trivial⟩
    all_goals (first | rfl | rw [hb] | rw [HX] | rw [hasC_eq hil hb])
  replace g3 := of_decide_eq_false g3
  have HX : hasC l x = false := hasC_e (by omega) hb
  refine DRun.pass ⟨39, rfl, .inl ⟨_, rfl, rfl⟩⟩ rfl rfl ?_
  refine DRun.pass ⟨39, rfl, .inl ⟨_, rfl, rfl⟩⟩ rfl rfl ?_
  refine DRun.pass ⟨39, rfl, .inl ⟨_, rfl, rfl⟩⟩ rfl rfl ?_
  refine DRun.pass ⟨39, rfl, .inl ⟨_, rfl, rfl⟩⟩ rfl rfl ?_
  refine DRun.pass ⟨39, rfl, .inl ⟨_, rfl, rfl⟩⟩ rfl rfl ?_
  refine DRun.pass ⟨39, rfl, .inl ⟨_, rfl, rfl⟩⟩ rfl rfl ?_
  refine DRun.pass ⟨39, rfl, .inl ⟨_, rfl, rfl⟩⟩ rfl rfl ?_
  refine DRun.pass ⟨39, rfl, .inl ⟨_, rfl, rfl⟩⟩ rfl rfl ?_
  refine DRun.step rfl rfl rfl (AOp.pickF rfl rfl rfl) ?_
  refine DRun.step rfl rfl rfl (AOp.assignD rfl rfl) ?_
  refine DRun.step rfl rfl rfl (AOp.assignD rfl rfl) ?_
  refine DRun.nil ?_
  refine AWP.ret ?_
  refine ⟨RetD.eq rfl ?_, RetD.eq rfl ?_, trivial⟩
  all_goals (first | rfl | rw [hb] | rw [HX] | rw [hasC_eq hil hb])

set_option maxRecDepth 100000 in
set_option maxHeartbeats 1000000 in
theorem c_copyAt (v : Vlt) (it ca : ByteArray) (hl : v.copies.length ≤ 100000) : ACall Tryz.prog 25 [.agg v.ds, .v (.string it), .v (.string ca)] (.tup [.v (.int .i64 (posC v.copies (keyC it ca) : Int)), .v (.bool (hasC v.copies (keyC it ca)))]) := by
  refine acall_of (n := 16) (ds' := [.v (.int .i64 (posC v.copies (keyC it ca) : Int)), .v (.bool (hasC v.copies (keyC it ca)))]) Tryz.func25 rfl (by kernel_rfl) rfl [6, 7] rfl rfl ?_
  intro B w0 F0 fr
  refine AWP.seq (AWP.region ?_)
  refine AOps.step rfl rfl rfl (AOp.box rfl rfl rfl) ?_
  refine AOps.aD rfl rfl rfl rfl rfl ?_
  refine AOps.aD rfl rfl rfl rfl rfl (.nil ?_)
  refine AWP.seq (AWP.region ?_)
  refine AOps.step rfl rfl rfl (AOp.fieldAddr rfl fo_26_2 rfl) ?_
  refine AOps.step rfl rfl rfl (AOp.load rfl sc_24 rfl) ?_
  refine AOps.mD rfl rfl rfl rfl rfl ?_
  refine AOps.mD rfl rfl rfl rfl rfl ?_
  refine AOps.step rfl rfl rfl (AOp.build rfl bu_65 (.cons rfl rfl (.cons rfl rfl .nil)) rfl) ?_
  refine AOps.step rfl rfl rfl (AOp.call rfl (.cons (ArgOk.rfl' rfl) (.cons ⟨_, rfl, keyLe it ca⟩ (.cons (ArgOk.fn rfl) .nil))) (c_bsC v.copies (keyC it ca) hl)) ?_
  refine AOps.step rfl rfl rfl (AOp.extract rfl rfl rfl) ?_
  refine AOps.step rfl rfl rfl (AOp.extract rfl rfl rfl) ?_
  refine AOps.aD rfl rfl rfl rfl rfl ?_
  refine AOps.aD rfl rfl rfl rfl rfl (.nil ?_)
  refine AWP.ret ?_
  refine ⟨RetD.eq rfl ?_, RetD.eq rfl ?_, trivial⟩
  all_goals (rfl)

end Go.Proofs.YtieccphckobhjaaGreatDoor


namespace Go.Proofs.YtieccphckobhjaaGreatDoor
open Go.RowKit
set_option linter.unusedVariables false

/-! Types. -/
namespace TyP3
theorem ag_65 : AggT Tryz.prog 65 7 := .of (by kernel_rfl)
theorem et_24 : ElemTy Tryz.prog 24 65 7 96 (.agg #[(.string ⟨#[]⟩), (.string ⟨#[]⟩), (.string ⟨#[]⟩), (.int .i64 0), (.int .i64 0), (.int .i64 0), (.slice none 0 0)]) := ⟨by kernel_rfl, by kernel_rfl, by kernel_rfl, by decide⟩
theorem fo_65_0 : fieldOff Tryz.prog 65 0 = some 0 := by kernel_rfl
theorem fo_65_1 : fieldOff Tryz.prog 65 1 = some 1 := by kernel_rfl
theorem fo_65_6 : fieldOff Tryz.prog 65 6 = some 6 := by kernel_rfl
theorem sc_3 : Scal Tryz.prog 3 := .of (by kernel_rfl)
theorem sc_63 : Scal Tryz.prog 63 := .of (by kernel_rfl)
theorem sc_9 : Scal Tryz.prog 9 := .of (by kernel_rfl)
end TyP3
open TyP3


/-- Is the block right in another copy of the same item? -/
def whole1 (c : Cpy) (n : Int) (x : Cpy) : Bool := decide (x.item = c.item) && (decide (x.carrier ≠ c.carrier) && !decide (n ∈ x.bad))


end Go.Proofs.YtieccphckobhjaaGreatDoor


namespace Go.Proofs.YtieccphckobhjaaGreatDoor
open Go.RowKit
set_option linter.unusedVariables false

/-! Types. -/
namespace TyP4

end TyP4
open TyP4


def cpyS (b : Nat) (c : Cpy) : List S := [.d (.v (.string c.item)), .d (.v (.string c.carrier)), .d (.v (.string c.frm)), .d (.v (.int .i64 c.day)), .d (.v (.int .i64 c.last)), .d (.v (.int .i64 c.gen)), .own b]
/-- The copies as cells: the damaged blocks of each lie in an own row, numbered from b on. -/
def cpysS : Nat → List Cpy → List (List S)
  | _, [] => []
  | b, c :: l => cpyS b c :: cpysS (b + 1) l
theorem cpysS_len : ∀ (b : Nat) (l : List Cpy), (cpysS b l).length = l.length
  | _, [] => rfl
  | b, c :: l => by simp [cpysS, cpysS_len (b + 1) l]
theorem cpysS_get : ∀ {b : Nat} {l : List Cpy} {k : Nat} {c : Cpy}, l[k]? = some c → (cpysS b l)[k]? = some (cpyS (b + k) c)
  | b, d :: l, 0, c, h => by
    have : d = c := by simpa using h
    subst this; rfl
  | b, d :: l, k + 1, c, h => by
    have := cpysS_get (b := b + 1) (l := l) (k := k) (c := c) (by simpa using h)
    rw [show b + 1 + k = b + (k + 1) by omega] at this
    simpa [cpysS] using this
theorem cpysS_at {b : Nat} {l : List Cpy} {k : Nat} (h : k < l.length) : (cpysS b l)[k]'(by rw [cpysS_len]; exact h) = cpyS (b + k) l[k] := by
  have := cpysS_get (b := b) (List.getElem?_eq_getElem h)
  rw [List.getElem?_eq_getElem (by rw [cpysS_len]; exact h)] at this
  exact Option.some.inj this
/-- Who does not hold it does not lose it. -/
theorem cpysS_kill {id : Nat} : ∀ {b : Nat} {l : List Cpy}, id < b → (cpysS b l).map (fun ss => ss.map (S.kill id)) = cpysS b l
  | _, [], _ => rfl
  | b, c :: l, h => by
    have hb : Nat.beq b id = false := by rw [Bool.eq_false_iff]; intro hh; have := Nat.eq_of_beq_eq_true hh; omega
    have ih := cpysS_kill (id := id) (b := b + 1) (l := l) (by omega)
    simp only [cpysS, List.map_cons, ih]
    simp [cpyS, S.kill, hb]
def badsD (l : List Cpy) : List (List (List D)) := l.map fun c => c.bad.map intD
def famC (l : List Cpy) : Obs := fam 3 1 1000 (badsD l)
def vaultS (v : Vlt) : List S := [.d (.sl (v.items.map Item.ds)), .d (.sl (v.carrs.map Carr.ds)), .own 101]
/-- The copies of a vault of the program's own, as objects. -/
def vObs (l : List Cpy) : Obs := (101, .rowS 65 7 (cpysS 1000 l)) :: famC l
theorem badsD_get {l : List Cpy} {k : Nat} (h : k < l.length) : (badsD l)[k]? = some (l[k].bad.map intD) := by simp [badsD, h]
theorem famC_get {l : List Cpy} {k : Nat} (h : k < l.length) : (1000 + k, Ob.row 3 1 (l[k].bad.map intD)) ∈ famC l := fam_get (badsD_get h)
theorem snap_cpy {σ : Obs} {l : List Cpy} (h : ∀ p ∈ famC l, p ∈ σ) {k : Nat} (hk : k < l.length) : ∀ j (h1 : j < (cpyS (1000 + k) l[k]).length) (h2 : j < l[k].ds.length), Snap σ (cpyS (1000 + k) l[k])[j] l[k].ds[j] := by
  intro j h1 h2
  have hj : j < 7 := by simpa [cpyS] using h1
  match j, hj with
  | 0, _ => exact .d _
  | 1, _ => exact .d _
  | 2, _ => exact .d _
  | 3, _ => exact .d _
  | 4, _ => exact .d _
  | 5, _ => exact .d _
  | 6, _ => exact .row (h _ (famC_get hk))
end Go.Proofs.YtieccphckobhjaaGreatDoor


namespace Go.Proofs.YtieccphckobhjaaGreatDoor
open Go.RowKit
set_option linter.unusedVariables false

/-! Types. -/
namespace TyP5

end TyP5
open TyP5


structure Hrm where
  day : Int
  item : ByteArray
  carrier : ByteArray
  block : Int
def Hrm.ds (h : Hrm) : List D := [.v (.int .i64 h.day), .v (.string h.item), .v (.string h.carrier), .v (.int .i64 h.block)]
def insI (l : List Int) (x : Int) : List Int := if hasI l x = true then l else l.take (posI l x) ++ [x] ++ l.drop (posI l x)
def harmC (l : List Cpy) (h : Hrm) : List Cpy := if hasC l (keyC h.item h.carrier) = true then l.modify (posC l (keyC h.item h.carrier)) (fun c => { c with bad := insI c.bad h.block }) else l
theorem hfo_v2 : fieldOff Tryz.prog 26 2 = some 2 := by kernel_rfl
theorem hfo_c6 : fieldOff Tryz.prog 65 6 = some 6 := by kernel_rfl
theorem hag_v : AggT Tryz.prog 26 3 := .of (by kernel_rfl)
theorem hsc_s : Scal Tryz.prog 9 := .of (by kernel_rfl)
theorem hsc_i : Scal Tryz.prog 3 := .of (by kernel_rfl)
theorem hsc_24 : Scal Tryz.prog 24 := .of (by kernel_rfl)
theorem hsc_75 : Scal Tryz.prog 63 := .of (by kernel_rfl)
theorem het_24 : ElemTy Tryz.prog 24 65 7 96 (.agg #[(.string ⟨#[]⟩), (.string ⟨#[]⟩), (.string ⟨#[]⟩), (.int .i64 0), (.int .i64 0), (.int .i64 0), (.slice none 0 0)]) := ⟨by kernel_rfl, by kernel_rfl, by kernel_rfl, by decide⟩
theorem hsz_75 : ∀ w, (sizeOf 63).run Tryz.prog w = .ok 1 w := SizeT.of (by kernel_rfl)
theorem vObs_fresh {i : Nat} {l : List Cpy} (h : i < 101) : Obs.fresh i (vObs l) = true := by
  unfold vObs Obs.fresh
  have h1 : Nat.beq 101 i = false := by rw [Bool.eq_false_iff]; intro hh; have := Nat.eq_of_beq_eq_true hh; omega
  simp [h1, famC, fam_fresh (show i < 1000 by omega)]
theorem vObs_kill {i : Nat} {l : List Cpy} (h : i < 1000) : Obs.kill i (vObs l) = vObs l := by
  unfold vObs Obs.kill
  simp only [Ob.kill, cpysS_kill h, famC, fam_kill]
def harm0 (v : Vlt) : Obs := (100, .val (vaultS v)) :: vObs v.copies
end Go.Proofs.YtieccphckobhjaaGreatDoor


namespace Go.Proofs.YtieccphckobhjaaGreatDoor
open Go.RowKit
set_option linter.unusedVariables false

/-! Types. -/
namespace TyP6

end TyP6
open TyP6


/-- Is block n of copy c right in another copy of the same item? -/
def fixB (l : List Cpy) (c : Cpy) (n : Int) : Bool := l.any (whole1 c n)
def stillI (l : List Cpy) (c : Cpy) : List Int := c.bad.filter fun n => !fixB l c n
structure Dn where
  day : Int
  item : ByteArray
  carrier : ByteArray
  fixed : Int
  lost : Int
def Dn.ds (d : Dn) : List D := [.v (.int .i64 d.day), .v (.string d.item), .v (.string d.carrier), .v (.int .i64 d.fixed), .v (.int .i64 d.lost)]
def doneC (l : List Cpy) (c : Cpy) (day : Int) : Dn := ⟨day, c.item, c.carrier, ((c.bad.filter (fixB l c)).length : Int), ((stillI l c).length : Int)⟩
def checkedC (l : List Cpy) (k : Nat) (day : Int) : List Cpy := l.modify k fun c => { c with bad := stillI l c, last := day }
/-- The first j damaged blocks. -/
def stillTo (l : List Cpy) (c : Cpy) (j : Nat) : List Int := (c.bad.take j).filter fun n => !fixB l c n
def fixTo (l : List Cpy) (c : Cpy) (j : Nat) : Nat := ((c.bad.take j).filter (fixB l c)).length
end Go.Proofs.YtieccphckobhjaaGreatDoor


namespace Go.Proofs.YtieccphckobhjaaGreatDoor
open Go.RowKit
set_option linter.unusedVariables false

/-! Types. -/
namespace TyQ1

end TyQ1
open TyQ1


/-- Damaged blocks as they must be. -/
def SBad (n : Int) (l : List Int) : Prop := l.Pairwise (· < ·) ∧ ∀ x ∈ l, 0 ≤ x ∧ x ≤ n - 1
theorem pw_of_adj {l : List Int} (h : ∀ k (hk : k + 1 < l.length), l[k] < l[k + 1]) : l.Pairwise (· < ·) := by
  rw [List.pairwise_iff_getElem]
  intro i j hi hj hij
  obtain ⟨d, rfl⟩ : ∃ d, j = i + d + 1 := ⟨j - i - 1, by omega⟩
  clear hij
  induction d with
  | zero => exact h i hj
  | succ d ih => exact Int.lt_trans (ih (by omega)) (h (i + d + 1) hj)
theorem badFault_ok {n : Int} {l : List Int} {k : Nat} (hk : k < l.length) (h : badFault n l k = 0) : (0 ≤ l[k] ∧ l[k] ≤ n - 1) ∧ (0 < k → l[k - 1]'(by omega) < l[k]) := by
  unfold badFault at h
  rw [dif_pos hk] at h
  by_cases h1 : ¬ (0 ≤ l[k] ∧ l[k] ≤ n - 1)
  · rw [if_pos h1] at h; simp at h
  · rw [if_neg h1] at h
    refine ⟨Decidable.not_not.1 h1, fun h0 => ?_⟩
    by_cases h2 : 0 < k ∧ l[k] ≤ l[k - 1]'(by omega)
    · rw [if_pos h2] at h; simp at h
    · exact Int.not_le.1 fun hh => h2 ⟨h0, hh⟩
theorem sbad_of {n : Int} {l : List Int} (h : ffst (badFault n l) l.length = 0) : SBad n l := by
  have h1 := ffst_all _ h
  refine ⟨pw_of_adj fun k hk => ?_, fun x hx => ?_⟩
  · have := (badFault_ok hk (h1 (k + 1) hk)).2 (Nat.succ_pos k)
    simpa using this
  · obtain ⟨k, hk, rfl⟩ := List.mem_iff_getElem.1 hx
    exact (badFault_ok hk (h1 k hk)).1
theorem SBad.ge {n : Int} {l : List Int} (h : SBad n l) : ∀ k (hk : k < l.length), (k : Int) ≤ l[k]
  | 0, hk => (h.2 _ (List.getElem_mem hk)).1
  | k + 1, hk => by
    have h1 := h.ge k (by omega)
    have h2 := List.pairwise_iff_getElem.1 h.1 k (k + 1) (by omega) hk (by omega)
    omega
theorem SBad.len {n : Int} {l : List Int} (h : SBad n l) (hn : 0 ≤ n) : (l.length : Int) ≤ n := by
  by_cases h0 : 0 < l.length
  · have h1 := h.ge (l.length - 1) (by omega)
    have h2 := (h.2 _ (List.getElem_mem (show l.length - 1 < l.length by omega))).2
    omega
  · omega
theorem bsr_spec2 {lt : Nat → Bool} {N : Nat} (hm : ∀ a b, a ≤ b → b < N → lt b = true → lt a = true) : ∀ (n i j : Nat), j - i ≤ n → i ≤ j → j ≤ N → (∀ k, k < i → lt k = true) → (∀ k, k < bsr lt i j → lt k = true) ∧ (∀ k, bsr lt i j ≤ k → k < j → lt k = false)
  | 0, i, j, h, hij, _, h0 => by rw [bsr_end (by omega)]; exact ⟨h0, fun k h1 h2 => by omega⟩
  | n + 1, i, j, h, hij, hN, h0 => by
    by_cases hlt : i < j
    · by_cases hb : lt ((i + j) / 2) = true
      · rw [bsr_up hlt hb]
        exact bsr_spec2 hm n ((i + j) / 2 + 1) j (by omega) (by omega) hN (fun k hk => hm k _ (by omega) (by omega) hb)
      · have hb' : lt ((i + j) / 2) = false := by simpa using hb
        rw [bsr_dn hlt hb']
        have h1 := bsr_spec2 hm n i ((i + j) / 2) (by omega) (by omega) (by omega) h0
        refine ⟨h1.1, fun k h2 h3 => ?_⟩
        by_cases hk : k < (i + j) / 2
        · exact h1.2 k h2 hk
        · cases hlk : lt k with
          | false => rfl
          | true => rw [hm _ k (by omega) (by omega) hlk] at hb'; simp at hb'
    · rw [bsr_end hlt]; exact ⟨h0, fun k h1 h2 => by omega⟩
/-! What is right of a vault stays right. -/
theorem cpyCmp_same {a b c d : Cpy} (h1 : a.item = c.item) (h2 : a.carrier = c.carrier) (h3 : b.item = d.item) (h4 : b.carrier = d.carrier) : cpyCmp a b = cpyCmp c d := by unfold cpyCmp; rw [h1, h2, h3, h4]
/-- The vault with other copies. -/
def withC (v : Vlt) (l : List Cpy) : Vlt := { v with copies := l }
/-- A harm that may come. -/
structure HrmOk (v : Vlt) (h : Hrm) : Prop where
  item : 0 ≤ itemIdx v h.item
  carr : 0 ≤ carrIdx v h.carrier
  blk : 0 ≤ h.block ∧ h.block ≤ itemBlocks v h.item - 1
theorem strCmp_eq {a b : ByteArray} (h : strCmp a b = 0) : a = b := strCmp_zero.1 h
theorem cpyCmp_zero {a b : Cpy} (h : cpyCmp a b = 0) : a.item = b.item ∧ a.carrier = b.carrier := by
  unfold cpyCmp at h
  by_cases e : a.item = b.item
  · rw [if_pos e] at h; exact ⟨e, strCmp_eq h⟩
  · rw [if_neg e] at h; exact absurd (strCmp_eq h) e
theorem hasC_spec {l : List Cpy} {it ca : ByteArray} (h : hasC l (keyC it ca) = true) : ∃ hk : posC l (keyC it ca) < l.length, l[posC l (keyC it ca)].item = it ∧ l[posC l (keyC it ca)].carrier = ca := by
  unfold hasC at h
  simp only [Bool.and_eq_true, decide_eq_true_eq] at h
  refine ⟨h.1, ?_⟩
  have h2 := h.2
  rw [List.getD_eq_getElem?_getD, List.getElem?_eq_getElem h.1, Option.getD_some] at h2
  exact cpyCmp_zero h2
/-! A day. -/
def chk1 (every day : Int) (s : List Cpy × List Dn) (k : Nat) : List Cpy × List Dn :=
  match s.1[k]? with
  | none => s
  | some c => if c.last + every > day then s else (checkedC s.1 k day, s.2 ++ [doneC s.1 c day])
def chkTo (every day : Int) (s : List Cpy × List Dn) : Nat → List Cpy × List Dn
  | 0 => s
  | k + 1 => chk1 every day (chkTo every day s k) k
def dayH (hs : List Hrm) (day : Int) : List Hrm := hs.takeWhile fun h => decide (h.day = day)
structure St where
  l : List Cpy
  hs : List Hrm
  o : List Dn
def day1 (every : Int) (s : St) (day : Int) : St :=
  ⟨(chkTo every day ((dayH s.hs day).foldl harmC s.l, s.o) s.l.length).1, s.hs.drop (dayH s.hs day).length, (chkTo every day ((dayH s.hs day).foldl harmC s.l, s.o) s.l.length).2⟩
def liveTo (every frm : Int) (s : St) : Nat → St
  | 0 => s
  | n + 1 => day1 every (liveTo every frm s n) (frm + n)
theorem vok_bad {v : Vlt} {l : List Cpy} (hv : VOk (withC v l)) : ∀ c ∈ l, c.bad.length ≤ 1000 := fun c hc => by
  have h1 := hv.cpy c hc
  have h2 := itemBlocks_bound (okItems_of hv.items) c.item
  have h3 := (sbad_of h1.bad).len h2.1
  omega
/-! All of Live. -/
def harmFault (v : Vlt) (frm to : Int) (hs : List Hrm) (k : Nat) : Int :=
  if h : k < hs.length then
    if ¬ (frm ≤ hs[k].day ∧ hs[k].day ≤ to - 1) then 1
    else if itemIdx v hs[k].item < 0 ∨ carrIdx v hs[k].carrier < 0 then 9
    else if ¬ (0 ≤ hs[k].block ∧ hs[k].block ≤ itemBlocks v hs[k].item - 1) then 1
    else if 0 < k ∧ hs[k].day < (hs[k - 1]'(by omega)).day then 8 else 0
  else 0
def harmsFault (v : Vlt) (frm to : Int) (hs : List Hrm) : Int := if 1000 < (hs.length : Int) then 2 else ffst (harmFault v frm to hs) hs.length
def liveS (v : Vlt) (p : Pol) (frm to : Int) (hs : List Hrm) : St := liveTo p.every frm ⟨v.copies, hs, []⟩ (to - frm).toNat
def liveFault (v : Vlt) (p : Pol) (frm to : Int) (hs : List Hrm) : Int :=
  if bothFault v p ≠ 0 then bothFault v p
  else if ¬ (0 ≤ frm ∧ frm ≤ 200000) ∨ ¬ (frm ≤ to ∧ to ≤ 200001) then 1
  else if harmsFault v frm to hs ≠ 0 then harmsFault v frm to hs
  else if 20000 < (liveS v p frm to hs).o.length then 2 else 0
def liveV (v : Vlt) (p : Pol) (frm to : Int) (hs : List Hrm) : Vlt := if liveFault v p frm to hs = 0 then withC v (liveS v p frm to hs).l else ⟨[], [], []⟩
def liveO (v : Vlt) (p : Pol) (frm to : Int) (hs : List Hrm) : List Dn := if liveFault v p frm to hs = 0 then (liveS v p frm to hs).o else []
/-- Harms that are right. -/
structure HsOk (v : Vlt) (frm to : Int) (hs : List Hrm) : Prop where
  len : hs.length ≤ 1000
  ok : ∀ h ∈ hs, HrmOk v h
  day : ∀ h ∈ hs, frm ≤ h.day ∧ h.day ≤ to - 1
  sorted : hs.Pairwise fun a b => a.day ≤ b.day
end Go.Proofs.YtieccphckobhjaaGreatDoor


namespace Go.Proofs.YtieccphckobhjaaGreatDoor
open Go.RowKit
set_option linter.unusedVariables false

/-! Types. -/
namespace TyQ2

end TyQ2
open TyQ2


structure LvOk (v : Vlt) (p : Pol) (frm to : Int) (hs : List Hrm) : Prop where
  vv : VOk v
  pp : POk p
  both : bothFault v p = 0
  fr : 0 ≤ frm ∧ frm ≤ 200000
  tt : frm ≤ to ∧ to ≤ 200001
  hh : HsOk v frm to hs
  out : (liveS v p frm to hs).o.length ≤ 20000
end Go.Proofs.YtieccphckobhjaaGreatDoor


namespace Go.Proofs.YtieccphckobhjaaGreatDoor
open Go.RowKit
set_option linter.unusedVariables false

/-! Types. -/
namespace TyQ3

end TyQ3
open TyQ3


theorem cb_trans : ∀ (a b c : List UInt8), Lib.compareBytes a b < 0 → Lib.compareBytes b c < 0 → Lib.compareBytes a c < 0
  | [], [], c, h, _ => by simp [Lib.compareBytes] at h
  | [], _ :: _, [], _, h => by simp [Lib.compareBytes] at h
  | [], _ :: _, _ :: _, _, _ => by simp [Lib.compareBytes]
  | _ :: _, [], _, h, _ => by simp [Lib.compareBytes] at h
  | _ :: _, _ :: _, [], _, h => by simp [Lib.compareBytes] at h
  | x :: a, y :: b, z :: c, h1, h2 => by
    unfold Lib.compareBytes at h1 h2 ⊢
    by_cases hxz : x < z
    · rw [if_pos hxz]; decide
    · rw [if_neg hxz]
      by_cases hxy : x < y
      · by_cases hyz : y < z
        · exact absurd (UInt8.lt_trans hxy hyz) hxz
        · rw [if_neg hyz] at h2
          by_cases hzy : z < y
          · rw [if_pos hzy] at h2; simp at h2
          · have : y = z := UInt8.le_antisymm (UInt8.not_lt.1 hzy) (UInt8.not_lt.1 hyz)
            exact absurd (this ▸ hxy) hxz
      · rw [if_neg hxy] at h1
        by_cases hyx : y < x
        · rw [if_pos hyx] at h1; simp at h1
        · rw [if_neg hyx] at h1
          have e : x = y := UInt8.le_antisymm (UInt8.not_lt.1 hyx) (UInt8.not_lt.1 hxy)
          subst e
          rw [if_neg hxz] at h2
          by_cases hzx : z < x
          · rw [if_pos hzx] at h2; simp at h2
          · rw [if_neg hzx] at h2 ⊢
            exact cb_trans a b c h1 h2
theorem strCmp_trans {a b c : ByteArray} (h1 : strCmp a b < 0) (h2 : strCmp b c < 0) : strCmp a c < 0 := cb_trans _ _ _ h1 h2
theorem strCmp_self (a : ByteArray) : strCmp a a = 0 := strCmp_zero.2 rfl
theorem cpyCmp_trans {a b c : Cpy} (h1 : cpyCmp a b < 0) (h2 : cpyCmp b c < 0) : cpyCmp a c < 0 := by
  unfold cpyCmp at *
  by_cases e1 : a.item = b.item
  · rw [if_pos e1] at h1
    by_cases e2 : b.item = c.item
    · rw [if_pos e2] at h2
      rw [if_pos (e1.trans e2)]
      exact strCmp_trans h1 h2
    · rw [if_neg e2] at h2
      rw [if_neg (fun e => e2 (e1.symm.trans e)), e1]
      exact h2
  · rw [if_neg e1] at h1
    by_cases e2 : b.item = c.item
    · rw [if_pos e2] at h2
      rw [if_neg (fun e => e1 (e.trans e2.symm)), ← e2]
      exact h1
    · rw [if_neg e2] at h2
      have h3 := strCmp_trans h1 h2
      rw [if_neg (fun e => by rw [e, strCmp_self] at h3; omega)]
      exact h3
theorem VOk.lt {v : Vlt} (h : VOk v) : ∀ i j (hi : i < v.copies.length) (hj : j < v.copies.length), i < j → cpyCmp v.copies[i] v.copies[j] < 0 := by
  intro i j hi hj hij
  obtain ⟨d, rfl⟩ : ∃ d, j = i + d + 1 := ⟨j - i - 1, by omega⟩
  clear hij
  induction d with
  | zero => exact h.order i hj
  | succ d ih => exact cpyCmp_trans (ih (by omega)) (h.order (i + d + 1) hj)
theorem cpyCmp_eq {a b : Cpy} (h1 : a.item = b.item) (h2 : a.carrier = b.carrier) : cpyCmp a b = 0 := by unfold cpyCmp; rw [if_pos h1, h2]; exact strCmp_self _
/-! Who is safe. -/
def copyIdx (v : Vlt) (it ca : ByteArray) : Int := idxBy (fun x : Cpy => decide (x.item = it) && decide (x.carrier = ca)) v.copies
def isHit (v : Vlt) (p : Pol) (it : ByteArray) (f h : Hrm) : Bool := decide (h.item = it) && (decide (h.day ≥ f.day) && (decide (h.day < f.day + p.every) && decide (copyIdx v it h.carrier ≥ 0)))
def addCa (v : Vlt) (p : Pol) (it : ByteArray) (f : Hrm) (acc : List ByteArray) (h : Hrm) : List ByteArray := if isHit v p it f h = true ∧ h.carrier ∉ acc then acc ++ [h.carrier] else acc
def hitC (v : Vlt) (p : Pol) (it : ByteArray) (f : Hrm) (hs : List Hrm) : List ByteArray := hs.foldl (addCa v p it f) []
def cpSafe (p : Pol) (frm : Int) (c : Cpy) : Bool := decide (c.bad = []) && (decide (c.last < frm) && decide (frm ≤ c.last + p.every))
def nOf (v : Vlt) (it : ByteArray) : Nat := (v.copies.filter fun c => decide (c.item = it)).length
def isSafe (v : Vlt) (p : Pol) (frm : Int) (hs : List Hrm) (it : ByteArray) : Bool :=
  (v.copies.all fun c => !decide (c.item = it) || cpSafe p frm c) && ((hs.all fun f => decide ((hitC v p it f hs).length < nOf v it)) && decide (0 < nOf v it))
/-- The copies stay where they are. -/
def Same (l m : List Cpy) : Prop := l.length = m.length ∧ ∀ i (h1 : i < l.length) (h2 : i < m.length), l[i].item = m[i].item ∧ l[i].carrier = m[i].carrier
/-- What holds of the copies of a safe item, in the course of day d: at the beginning of it (lim = d - 1), and from the harms on (lim = d). -/
def Fine (p : Pol) (hs : List Hrm) (it : ByteArray) (d : Int) (c : Cpy) : Prop := c.item = it → (c.bad = [] ∨ ∃ h ∈ hs, h.item = it ∧ h.carrier = c.carrier ∧ c.last < h.day ∧ h.day ≤ d) ∧ c.last ≤ d ∧ d ≤ c.last + p.every
def Pre (p : Pol) (hs : List Hrm) (it : ByteArray) (d : Int) (l : List Cpy) : Prop := ∀ c ∈ l, Fine p hs it d c ∧ (c.item = it → c.last < d)
def Mid (p : Pol) (hs : List Hrm) (it : ByteArray) (d : Int) (l : List Cpy) (k : Nat) : Prop := ∀ i (hi : i < l.length), Fine p hs it d l[i] ∧ (k ≤ i → l[i].item = it → l[i].last < d) ∧ (i < k → l[i].item = it → d + 1 ≤ l[i].last + p.every)
structure SafeC (v : Vlt) (p : Pol) (frm : Int) (hs : List Hrm) (it : ByteArray) : Prop where
  cp : ∀ c ∈ v.copies, c.item = it → c.bad = [] ∧ c.last < frm ∧ frm ≤ c.last + p.every
  few : ∀ f ∈ hs, (hitC v p it f hs).length < nOf v it
  pos : 0 < nOf v it
end Go.Proofs.YtieccphckobhjaaGreatDoor


namespace Go.Proofs.YtieccphckobhjaaGreatDoor
open Go.RowKit
set_option linter.unusedVariables false

/-! Types. -/
namespace TyR1

end TyR1
open TyR1


section
variable (frm every : Int)
def dueAt (c : Cpy) (d : Int) : Prop := fstD frm every c ≤ d ∧ (d - fstD frm every c) % every = 0
instance (c : Cpy) (d : Int) : Decidable (dueAt frm every c d) := by unfold dueAt; infer_instance
def dayTag1 (d : Int) (c : Cpy) (j : Nat) : List (Tsk × Nat) := if dueAt frm every c d then [(⟨d, c.item, c.carrier⟩, j * 1000000 + d.toNat)] else []
/-- What is due on a day, of the first n copies. -/
def dayTag (l : List Cpy) (d : Int) : Nat → List (Tsk × Nat)
  | 0 => []
  | n + 1 => dayTag l d n ++ (match l[n]? with | none => [] | some c => dayTag1 frm every d c n)
def allTag (l : List Cpy) : Nat → List (Tsk × Nat)
  | 0 => []
  | n + 1 => allTag l n ++ dayTag frm every l (frm + n) l.length
end
section
variable {frm every to : Int}
end
/-! When a copy is due. -/
/-- The copy c at the beginning of day d, which was c0 at first. -/
def CI (frm every d : Int) (c0 c : Cpy) : Prop := c.item = c0.item ∧ c.carrier = c0.carrier ∧ ((c.last = c0.last ∧ d ≤ fstD frm every c0) ∨ ∃ m : Nat, c.last = fstD frm every c0 + m * every ∧ c.last < d ∧ d ≤ c.last + every)
/-! The reference's run over the tasks. -/
def keyIdx (l : List Cpy) (it ca : ByteArray) : Nat := l.findIdx fun x => decide (x.item = it) && decide (x.carrier = ca)
def upTo (hs : List Hrm) (d : Int) : List Hrm := hs.takeWhile fun h => decide (h.day ≤ d)
def refT (s : St) (t : Tsk) : St :=
  ⟨checkedC ((upTo s.hs t.day).foldl harmC s.l) (keyIdx ((upTo s.hs t.day).foldl harmC s.l) t.item t.carrier) t.day, s.hs.drop (upTo s.hs t.day).length,
    s.o ++ [doneC ((upTo s.hs t.day).foldl harmC s.l) (((upTo s.hs t.day).foldl harmC s.l).getD (keyIdx ((upTo s.hs t.day).foldl harmC s.l) t.item t.carrier) zC) t.day]⟩
/-- How the copies stand in the course of day d, behind k checks. -/
def MidCI (frm every d : Int) (l0 l : List Cpy) (k : Nat) : Prop := l.length = l0.length ∧ ∀ i (h1 : i < l.length) (h2 : i < l0.length), if i < k then CI frm every (d + 1) l0[i] l[i] else CI frm every d l0[i] l[i]
end Go.Proofs.YtieccphckobhjaaGreatDoor


namespace Go.Proofs.YtieccphckobhjaaGreatDoor
open Go.RowKit
set_option linter.unusedVariables false

/-! Types. -/
namespace TyR2

end TyR2
open TyR2


theorem idx_nonneg {l : List Cpy} {it ca : ByteArray} {v : Vlt} (hl : v.copies = l) (h : 0 ≤ copyIdx v it ca) : ∃ k, ∃ hk : k < l.length, copyIdx v it ca = (k : Int) ∧ l[k].item = it ∧ l[k].carrier = ca := by
  subst hl
  obtain ⟨k, hk, h1, h2⟩ := idxBy_some h
  simp only [Bool.and_eq_true, decide_eq_true_eq] at h2
  exact ⟨k, hk, h1, h2⟩
theorem ltC_eq {l : List Cpy} {t : Cpy} {k : Nat} (hk : k < l.length) : ltC l t k = decide (cpyCmp l[k] t < 0) := by unfold ltC; rw [List.getD_eq_getElem?_getD, List.getElem?_eq_getElem hk]; rfl
theorem posC_at {v : Vlt} {l : List Cpy} (hv : VOk (withC v l)) {k : Nat} (hk : k < l.length) : posC l (keyC l[k].item l[k].carrier) = k ∧ hasC l (keyC l[k].item l[k].carrier) = true := by
  have hcmp : ∀ j (hj : j < l.length), cpyCmp l[j] (keyC l[k].item l[k].carrier) = cpyCmp l[j] l[k] := fun j hj => cpyCmp_same rfl rfl rfl rfl
  have hlt : ∀ j (hj : j < l.length), j < k → cpyCmp l[j] l[k] < 0 := fun j hj h => hv.lt j k hj hk h
  have hself : cpyCmp l[k] l[k] = 0 := cpyCmp_eq rfl rfl
  have hge : ∀ j (hj : j < l.length), k ≤ j → ¬ cpyCmp l[j] l[k] < 0 := fun j hj h hh => by
    by_cases e : j = k
    · subst e; omega
    · have h1 := hv.lt k j hk hj (by omega)
      have := cpyCmp_trans (show cpyCmp l[k] l[j] < 0 from h1) hh
      omega
  have hs := bsr_spec2 (lt := ltC l (keyC l[k].item l[k].carrier)) (N := l.length) (fun a b hab hb hlb => by
    rw [ltC_eq hb, hcmp b hb] at hlb
    have h1 : b < k := by
      refine Nat.lt_of_not_le fun hh => hge b hb hh (of_decide_eq_true hlb)
    have ha : a < l.length := by omega
    rw [ltC_eq ha, hcmp a ha]
    exact decide_eq_true (hlt a ha (by omega))) l.length 0 l.length (by omega) (Nat.zero_le _) (Nat.le_refl _) (fun j hj => by omega)
  have hpos : posC l (keyC l[k].item l[k].carrier) = k := by
    show bsr (ltC l (keyC l[k].item l[k].carrier)) 0 l.length = k
    rcases Nat.lt_trichotomy (bsr (ltC l (keyC l[k].item l[k].carrier)) 0 l.length) k with h | h | h
    · have h1 := hs.2 _ (Nat.le_refl _) (by omega)
      rw [ltC_eq (by omega), hcmp _ (by omega)] at h1
      exact absurd (hlt _ (by omega) h) (of_decide_eq_false h1)
    · exact h
    · have h1 := hs.1 k h
      rw [ltC_eq hk, hcmp k hk] at h1
      exact absurd (of_decide_eq_true h1) (hge k hk (Nat.le_refl _))
  exact ⟨hpos, hasC_t hk hpos (by rw [hcmp k hk]; exact hself)⟩
theorem has_iff {v : Vlt} {l : List Cpy} (hv : VOk (withC v l)) (it ca : ByteArray) : (0 ≤ copyIdx (withC v l) it ca ↔ hasC l (keyC it ca) = true) ∧ (0 ≤ copyIdx (withC v l) it ca → copyIdx (withC v l) it ca = (posC l (keyC it ca) : Int)) := by
  refine ⟨⟨fun h => ?_, fun h => ?_⟩, fun h => ?_⟩
  · obtain ⟨k, hk, _, h2, h3⟩ := idx_nonneg (v := withC v l) rfl h
    rw [← h2, ← h3]
    exact (posC_at hv hk).2
  · obtain ⟨hk, h1, h2⟩ := hasC_spec h
    unfold copyIdx idxBy
    rw [if_pos (List.any_eq_true.2 ⟨_, List.getElem_mem (l := (withC v l).copies) hk, by simp only [Bool.and_eq_true, decide_eq_true_eq]; exact ⟨h1, h2⟩⟩)]
    omega
  · obtain ⟨k, hk, h1, h2, h3⟩ := idx_nonneg (v := withC v l) rfl h
    rw [h1, ← h2, ← h3]
    exact congrArg _ (posC_at hv hk).1.symm
theorem has_none {v : Vlt} {l : List Cpy} (hv : VOk (withC v l)) {it ca : ByteArray} (h : copyIdx (withC v l) it ca < 0) : hasC l (keyC it ca) = false := by
  cases hc : hasC l (keyC it ca) with
  | false => rfl
  | true => have := (has_iff hv it ca).1.2 hc; omega
def sortI (l : List Int) : List Int := l.mergeSort fun a b => decide (a ≤ b)
/-- What the reference's harmed does. -/
def harmR (v : Vlt) (h : Hrm) : List Cpy :=
  if copyIdx v h.item h.carrier < 0 then v.copies
  else if h.block ∈ (v.copies.getD (copyIdx v h.item h.carrier).toNat zC).bad then v.copies
  else v.copies.set (copyIdx v h.item h.carrier).toNat { v.copies.getD (copyIdx v h.item h.carrier).toNat zC with bad := sortI ((v.copies.getD (copyIdx v h.item h.carrier).toNat zC).bad ++ [h.block]) }
/-- Is the block right in a copy of another number, of the same item? -/
def wholeR (l : List Cpy) (i : Nat) (n : Int) : Bool := (List.range l.length).any fun k => !decide (k = i) && (decide ((l.getD k zC).item = (l.getD i zC).item) && !decide (n ∈ (l.getD k zC).bad))
def leftR (l : List Cpy) (i : Nat) : List Int := (l.getD i zC).bad.filter fun b => !wholeR l i b
/-- What the reference's checked does. -/
def chkR (l : List Cpy) (i : Nat) (day : Int) : List Cpy := l.set i { l.getD i zC with bad := leftR l i, last := day }
def dnR (l : List Cpy) (i : Nat) (day : Int) : Dn := ⟨day, (l.getD i zC).item, (l.getD i zC).carrier, ((l.getD i zC).bad.length : Int) - ((leftR l i).length : Int), ((leftR l i).length : Int)⟩
end Go.Proofs.YtieccphckobhjaaGreatDoor


namespace Go.Proofs
open Go.Shelf
def Tryz.l189_ren : Go.Shelf.Ren := ⟨fun | 189 => 103 | 125 => 108 | 257 => 127 | 128 => 136 | 129 => 137 | 294 => 150 | 295 => 151 | 296 => 152 | 297 => 153 | 298 => 154 | 299 => 155 | 216 => 121 | 300 => 156 | 301 => 157 | 328 => 179 | 329 => 159 | 330 => 160 | 331 => 180 | 332 => 181 | 215 => 109 | 343 => 190 | n => n, fun | 28 => 63 | 3 => 3 | 46 => 156 | 0 => 0 | 51 => 91 | 53 => 180 | 4 => 4 | 183 => 173 | 182 => 172 | 131 => 73 | 5 => 5 | 9 => 9 | 218 => 195 | 222 => 199 | 228 => 215 | 229 => 216 | n => n, fun | n => n⟩
end Go.Proofs


namespace Go.Proofs.YtieccphckobhjaaGreatDoor
open Go.RowKit
set_option linter.unusedVariables false

/-- f returns a struct whose parts are as ss', some of them own objects; the object vid is that struct. -/
def XSCall (P : Program) (f : FuncId) (ss : List S) (σ σ' : Obs) (chg : Nat → Bool) (s : S) : Prop := Enters P f ∧
  ∀ (F : Nat → Prop) (ρ : Nat → Value) (B : Nat) (w : World) (vs : List Value), (∀ b, F b → b < w.heap.size) → B ≤ w.heap.size → ObsOk B F ρ w σ → RepSL F ρ w vs ss →
    Calls P f vs.toArray w fun e w' => ∃ v F' ρ', e = .returned v ∧ RepS F' ρ' w' v s ∧ XEnd B F ρ w σ F' ρ' w' σ' chg

theorem args_R {P : Program} {n : Nat} {ss : List S} {σ : Obs} {chg : Nat → Bool} {F : Nat → Prop} {ρ : Nat → Value} {B : Nat} {w : World} {vs : List Value} {m : Nat} (hN : m = n) (hle : ss.length ≤ n) (hF : ∀ b, F b → b < w.heap.size) (hB : B ≤ w.heap.size) (hσ : ObsOk B F ρ w σ) (hv : RepSL F ρ w vs ss) :
    R ⟨P, n, B, w, F, (fun b => w.heap.size ≤ b ∨ ownB σ ρ b), fun i => !(chg i), ρ⟩ (Env.argsS 0 ss) σ { tmps := vs.toArray ++ Array.replicate (m - vs.toArray.size) undef, defers := [] } w := by
  refine ⟨F, ρ, ?_, rfl, hF, fun b hb => hb, fun b hb => .inl hb, Kept.refl _ _, hB, fun t => ?_, hσ, fun b hb => .inl hb, fun p hp g hg => .inr ⟨p, hp, hg⟩, fun i _ => rfl⟩
  · simp [hN, hv.1]; omega
  · by_cases ht : t < ss.length
    · have := Env.argsS_get ss 0 t ht
      rw [Nat.zero_add] at this
      rw [this]
      have hvt : t < vs.length := by rw [hv.1]; exact ht
      have : (vs.toArray ++ Array.replicate (m - vs.toArray.size) undef).getD t undef = vs[t] := by
        rw [Array.getD_eq_getD_getElem?, Array.getElem?_append_left (by simpa using hvt)]
        simp [hvt]
      rw [this]
      exact hv.2 t hvt ht
    · have := Env.argsS_out ss 0 t (by omega)
      rw [Nat.zero_add] at this
      rw [this]
      exact .d (.any _)
/-- What a result in a cell comes to. -/
theorem res_cell {cx : Cx} {F : Nat → Prop} {ρ : Nat → Value} {e : Env} {σ : Obs} {a : Act} {w : World} {fn : Func} {b t size cid : Nat} {ss : List S} (h : R0 cx F ρ e σ a w) (hr : fn.results = #[.cell b t]) (hT : AggT cx.P t size) (he : e b = .ptr cid 0) (hm : (cid, Ob.cells ss) ∈ σ) (hl : ss.length = size) :
    ∃ cs : List Value, (results fn a.tmps).run cx.P w = .ok (.agg cs.toArray) w ∧ cs.length = ss.length ∧ ∀ j (h1 : j < cs.length) (h2 : j < ss.length), cs[j].oneCell' = true ∧ RepS F ρ w cs[j] ss[j] := by
  obtain ⟨g, ty, cs, k1, k2, k3, k4, k5, k6⟩ := h.obs.ok _ hm
  dsimp only at k1
  have hv : a.tmps.getD b undef = .pointer (some ⟨g, 0, none⟩) := by
    have := h.env b
    rw [he] at this
    exact ptr_at this (by rw [k1]; rfl)
  have hcells : (loadCells ⟨g, 0, none⟩ cs.length).run cx.P w = .ok cs.toArray w := run_loadCells_list w _ cs (fun j v hj => by
    rw [addr_add, cell_of_row w g (0 + j) cs.toArray ty (0, 0) k4]
    simpa using hj)
  have hn : cs.length = size := by omega
  rw [hn] at hcells
  refine ⟨cs, ?_, k5, k6⟩
  have h1 : (List.mapM (resSem a.tmps) [ResultVar.cell b t] : Sem (List Value)).run cx.P w = .ok [.agg cs.toArray] w := by
    rw [List.mapM_cons, Sem.run_bind]
    have h2 : (resSem a.tmps (.cell b t)).run cx.P w = .ok (.agg cs.toArray) w := by
      simp only [resSem, hv, asAddr, Sem.run_bind, Sem.run_pure, Result.andThen_ok, loadVar, hT.agg w, if_true, hT.size w, hcells]
    rw [h2]
    rfl
  unfold results
  rw [hr, Sem.run_bind]
  have h2 : (Array.mapM (fun r => match r with | ResultVar.tmp t => pure (a.tmps.getD t undef) | ResultVar.cell b t => do loadVar t (← asAddr (a.tmps.getD b undef))) [ResultVar.cell b t].toArray : Sem (Array Value)).run cx.P w = .ok [Value.agg cs.toArray].toArray w := by
    rw [List.mapM_toArray, Sem.run_map]
    have h4 : (List.mapM (fun r => match r with | ResultVar.tmp t => pure (a.tmps.getD t undef) | ResultVar.cell b t => do loadVar t (← asAddr (a.tmps.getD b undef))) [ResultVar.cell b t] : Sem (List Value)).run cx.P w = .ok [.agg cs.toArray] w := h1
    rw [h4]
    rfl
  exact (congrArg (fun r => Result.andThen r _) h2).trans rfl
def RetXC (b : Nat) (ds : List D) (σ' : Obs) : Post := fun ex e σ => match ex with
  | .ret => (∃ cid, e b = .ptr cid 0 ∧ (cid, Ob.cells (ds.map S.d)) ∈ σ) ∧ AllIn σ σ'
  | .normal => (∃ cid, e b = .ptr cid 0 ∧ (cid, Ob.cells (ds.map S.d)) ∈ σ) ∧ AllIn σ σ'
  | _ => False
def RetXV (b vid : Nat) (ss' : List S) (σr : Obs) : Post := fun ex e σ => match ex with
  | .ret => (∃ cid ssr, e b = .ptr cid 0 ∧ (cid, Ob.cells ssr) ∈ σ ∧ ssr.map (S.kill vid) = ss' ∧ Obs.fresh vid σr = true ∧ Obs.kill vid σr = σr) ∧ AllIn σ σr
  | .normal => (∃ cid ssr, e b = .ptr cid 0 ∧ (cid, Ob.cells ssr) ∈ σ ∧ ssr.map (S.kill vid) = ss' ∧ Obs.fresh vid σr = true ∧ Obs.kill vid σr = σr) ∧ AllIn σ σr
  | _ => False
/-- Its result: a struct with own parts, out of a cell. -/
theorem xval_of {P : Program} {f : FuncId} {fn : Func} {c : Code} {n b t size vid : Nat} {ss ss' : List S} {σ σr : Obs} {chg : Nat → Bool} (hf : P.funcs[f]? = some fn) (hb : fn.body = some c) (hn : (fn.name == "runtime.NumGoroutine") = false) (hN : fn.ntmps = n)
    (hr : fn.results = #[.cell b t]) (hT : AggT P t size) (hl : ss'.length = size) (hle' : Nat.ble ss.length n = true) (hvid : chg vid = true)
    (h : ∀ B w0 F0 fr ρ0, AWP ⟨P, n, B, w0, F0, fr, fun i => !(chg i), ρ0⟩ c (Env.argsS 0 ss) σ (RetXV b vid ss' σr)) : XSCall P f ss σ ((vid, .val ss') :: σr) chg (.own vid) := by
  have hle : ss.length ≤ n := Nat.le_of_ble_eq_true hle'
  refine ⟨Enters.of hf hn (by rw [hb]; rfl), fun F ρ B w vs hF hB hσ hv => ?_⟩
  refine calls_of_wp hf hb ?_
  refine wp_mono (h _ _ _ _ _ _ _ (args_R hN hle hF hB hσ hv)) ?_
  rintro ex a w' ⟨e', σe, hq, F', ρ', hr'⟩
  have hends : (∃ cid ssr, e' b = .ptr cid 0 ∧ (cid, Ob.cells ssr) ∈ σe ∧ ssr.map (S.kill vid) = ss' ∧ Obs.fresh vid σr = true ∧ Obs.kill vid σr = σr) ∧ AllIn σe σr →
      bodyPost P fn (fun e w' => ∃ v F' ρ', e = .returned v ∧ RepS F' ρ' w' v (.own vid) ∧ XEnd B F ρ w σ F' ρ' w' ((vid, .val ss') :: σr) chg) .ret a w' := by
    rintro ⟨⟨cid, ssr, h1, h2, h3, h4, h5⟩, hin⟩
    have hin := hin.mem
    have hls : ssr.length = size := by rw [← hl, ← h3]; simp
    obtain ⟨cs, k1, k2, k3⟩ := res_cell hr' hr hT h1 h2 hls
    have hT := hr'.turn (ρ' := fun j => if j = vid then .agg cs.toArray else ρ' j) (id := vid) (ob := .val ss') (row := none) (w' := w') (F' := F') (fun j hj => by simp [hj])
      ⟨rfl, rfl, rfl, Nat.le_refl _, fun _ _ _ => rfl⟩ (by unfold Cx.free; dsimp only; rw [hvid]; rfl) (fun g hg => by simp at hg) (fun b hb => hb) (fun b hb => .inl hb) hr'.lt
      ⟨cs, by simp, by rw [← h3]; simpa using k2, fun j hj hj' => by
        subst h3
        rw [List.getElem_map]
        have hj2 : j < ssr.length := by simpa using hj'
        exact ⟨(k3 j hj hj2).1, (k3 j hj hj2).2.kill vid (fun i hi => by simp [hi])⟩⟩ (fun g hg => by simp [blk] at hg) ((vid, .val ss') :: σr) (fun p hp => by
        rcases List.mem_cons.1 hp with rfl | hp
        · exact .inl rfl
        · rw [← h5] at hp
          obtain ⟨q, hq, rfl⟩ := Obs.mem_kill hp
          exact .inr ⟨q, hin q hq, Obs.fresh_spec h4 q hq, rfl⟩)
    refine ⟨hr'.defers, _, k1, _, F', _, rfl, ?_, hT.base, hT.new, hT.lt, hT.below, hT.obs, hT.kown, fun i hi => hT.fixed i (by show (!(chg i)) = true; rw [hi]; rfl)⟩
    have := RepS.own (F := F') (ρ := fun j => if j = vid then Value.agg cs.toArray else ρ' j) (w := w') vid
    simpa using this
  cases ex with
  | ret => exact hends hq
  | normal => exact hends hq
  | exit id => exact hq.elim
  | goto l => exact hq.elim
  | panic c => exact hq.elim
  | outgrown => exact hq.elim
section
variable {cx : Cx} {ops : Array Oper} {o : Oper} {rest : List Oper} {e : Env} {σ : Obs} {Q : Post}
theorem AOps.callXS {f : FuncId} {xs : List Operand} {ts : Array TypeId} {ss : List S} {σc σ' : Obs} {chg : Nat → Bool} {s : S} (hg : o.guard = none) (hd : DstOk cx.N o)
    (ho : o.op = .call { callee := .value (.func f), args := xs.toArray, argTypes := ts }) (ha : ArgsS e xs ss) (h : XSCall cx.P f ss σc σ' chg s) (hin : AllIn σ σc)
    (h1 : Obs.allIds (fun i => !(chg i)) (Obs.dels σc σ) = true) (h2 : Obs.allIds (fun i => Obs.allIds (fun j => !(Nat.beq i j)) (Obs.dels σc σ)) σ' = true) (h3 : ∀ i, chg i = true → cx.fixp i = false)
    (k : AOps cx ops rest ((e.killP chg).put o.dst s) (Obs.join σ' (Obs.killP chg (Obs.dels σc σ))) Q) : AOps cx ops (o :: rest) e σ Q := by
  intro a w ⟨F, ρ, hr⟩
  have h4 := h.2 F ρ cx.B w _ hr.lt hr.hB (hr.obs.sub hin.mem) (ArgsS.rep hr.env ha)
  have h5 := h.1 (xs.map a.eval).toArray w
  have hx : (execOp a.eval o).run cx.P w = .ok (.enter f (xs.map a.eval).toArray) w := by
    unfold execOp
    simp only [ho, resolve, Deferred.ofValue, Act.eval, invoke, Sem.run_bind, Sem.run_pure, Result.andThen_ok]
    simpa using h5
  refine wpList_plain hg fun K hK => ?_
  unfold Oper.wp
  rw [hx]
  refine h4.mono fun _ w' ⟨v, F', ρ', he, hv, hE⟩ => ?_
  subst he
  exact hK _ _ (k _ _ ⟨F', ρ', (hr.after hin.mem hE h1 h2 h3).put (Ext.refl hE.lt) hv hd⟩)
end
end Go.Proofs.YtieccphckobhjaaGreatDoor


namespace Go.Proofs.YtieccphckobhjaaGreatDoor
open Go.RowKit
set_option linter.unusedVariables false

/-- One step; sl: who reads objects, ef: who writes them. -/
def HStep (cx : Cx) (ops : Array Oper) (sl ef : Nat → Bool) (I : Obs → Prop) (k : Nat) (o : Oper) (e : Env) (σ : Obs) (e' : Env) (σ' : Obs) : Prop :=
  (GW ops o e true ∧ ∃ s, ((sl k = true ∧ AOp cx.P cx.B ops o e σ s) ∨ (I σ ∧ ∀ τ, I τ → AOp cx.P cx.B ops o e τ s)) ∧ e' = e.put o.dst s ∧ σ' = σ) ∨
  (GW ops o e false ∧ e' = e.put o.dst (.d (.v undef)) ∧ σ' = σ) ∨
  (GW ops o e true ∧ ef k = true ∧ o.dst = none ∧ EOp cx ops o e σ σ' ∧ e' = e ∧ I σ ∧ I σ')

def HRun (cx : Cx) (ops : Array Oper) (sl ef : Nat → Bool) (I : Obs → Prop) : Nat → List Oper → Env → Obs → (Env → Obs → Prop) → Prop
  | _, [], e, σ, Q => Q e σ
  | k, o :: l, e, σ, Q => DstOk cx.N o ∧ ∃ e' σ', HStep cx ops sl ef I k o e σ e' σ' ∧ HRun cx ops sl ef I (k + 1) l e' σ' Q

def anyH (cx : Cx) (ops : Array Oper) (sl ef : Nat → Bool) (I : Obs → Prop) (Q : Env → Obs → Prop) : Nat → Array Bool → Env → Obs → Prop
  | 0, listed, e, σ => Region.ready .any ops listed = [] ∧ Q e σ
  | fuel + 1, listed, e, σ => (Region.ready .any ops listed = [] → Q e σ) ∧
      ∀ i ∈ Region.ready .any ops listed, ∀ o, ops[i]? = some o → ∃ e' σ', HStep cx ops sl ef I i o e σ e' σ' ∧ anyH cx ops sl ef I Q fuel (listed.setIfInBounds i true) e' σ'

section
variable {cx : Cx} {ops : Array Oper} {o : Oper} {rest : List Oper} {e : Env} {σ : Obs} {sl ef : Nat → Bool} {I : Obs → Prop} {n : Nat} {l : List Oper} {Q : Env → Obs → Prop}
end
end Go.Proofs.YtieccphckobhjaaGreatDoor


namespace Go.Proofs.YtieccphckobhjaaGreatDoor
open Go.RowKit
set_option linter.unusedVariables false

/-- What the operation gives depends on x's value alone; or it gives nothing. -/
def PureOp (P : Program) (o : Oper) (x : Operand) : Prop := ∀ u : Value, (∃ v, ∀ (a : Act) (w : World), a.eval x = u → (execOp a.eval o).run P w = .ok (.value v) w) ∨
  (∀ (a : Act) (w : World) (K : Act → World → Prop) (Q : Exit → Act → World → Prop), (∀ e a w, e ≠ .normal → ¬ Q e a w) → a.eval x = u → ¬ o.wp P a w K Q)
theorem PureOp.move {P : Program} {o : Oper} {x : Operand} (h : o.op = .move x) : PureOp P o x := fun u => .inl ⟨u, fun a w hx => by
  unfold execOp
  simp only [h, hx, Sem.run_pure]⟩
theorem PureOp.extract {P : Program} {o : Oper} {x : Operand} {i : Nat} (h : o.op = .extract x i) : PureOp P o x := fun u => by
  by_cases hu : ∃ vs v, u = .tuple vs ∧ vs[i]? = some v
  · obtain ⟨vs, v, rfl, hv⟩ := hu
    refine .inl ⟨v, fun a w hx => ?_⟩
    unfold execOp
    simp only [h, hx, Instr.extract, hv, Sem.run_bind, Sem.run_pure, Result.andThen_ok]
  · refine .inr fun a w K Q hQ hx hw => ?_
    unfold Oper.wp execOp at hw
    simp only [h, hx] at hw
    cases u with
    | tuple vs =>
      cases hv : vs[i]? with
      | some v => exact hu ⟨vs, v, rfl, hv⟩
      | none => simp only [Instr.extract, hv, Sem.run_bind] at hw; exact hw
    | _ => simp only [Instr.extract, Sem.run_bind] at hw; exact hw
/-- From k on each one waits for all before it, but for those of L ahead of k. -/
def Region.chainLB (ops : Array Oper) (L : Nat → Bool) (k : Nat) : Bool := Region.downB ops && Nat.ble k ops.size && (List.range (ops.size - 1)).all fun j =>
  (L j && Nat.blt j k) || (List.range ops.size).any fun m => Nat.blt j m && (Nat.ble m k || Nat.ble m (j + 1)) && (!(L m) || Nat.ble k m) && Region.edge ops m j
structure ChainL (ops : Array Oper) (L : Nat → Bool) (k : Nat) : Prop where
  down : Region.downB ops = true
  le : k ≤ ops.size
  next : ∀ j, (L j = false ∨ k ≤ j) → j < ops.size - 1 → ∃ m, j < m ∧ (m ≤ k ∨ m ≤ j + 1) ∧ (L m = false ∨ k ≤ m) ∧ Region.edge ops m j = true
theorem ChainL.of {ops : Array Oper} {L : Nat → Bool} {k : Nat} (h : Region.chainLB ops L k = true) : ChainL ops L k := by
  unfold Region.chainLB at h
  simp only [Bool.and_eq_true] at h
  obtain ⟨⟨h1, h2⟩, h3⟩ := h
  refine ⟨h1, Nat.le_of_ble_eq_true h2, fun j hL hj => ?_⟩
  have h4 := List.all_eq_true.1 h3 j (List.mem_range.2 hj)
  rw [Bool.or_eq_true] at h4
  rcases h4 with h4 | h4
  · simp only [Bool.and_eq_true, Nat.blt_eq] at h4
    rcases hL with hL | hL
    · rw [hL] at h4; simp at h4
    · omega
  · obtain ⟨m, _, hm⟩ := List.any_eq_true.1 h4
    simp only [Bool.and_eq_true, Bool.or_eq_true, Nat.blt_eq, Bool.not_eq_true'] at hm
    exact ⟨m, hm.1.1.1, hm.1.1.2.imp Nat.le_of_ble_eq_true Nat.le_of_ble_eq_true, hm.1.2.imp id Nat.le_of_ble_eq_true, hm.2⟩
section
variable {P : Program} {ops : Array Oper} {Q Q0 : Exit → Act → World → Prop} {k : Nat} {L : Nat → Bool}
/-- The operations of L: pure, unguarded, apart from whoever is not bound to come after. -/
structure LateOk (P : Program) (ops : Array Oper) (L : Nat → Bool) (k : Nat) : Prop where
  op : ∀ i, L i = true → i < k → ∃ oi x d, ops[i]? = some oi ∧ PureOp P oi x ∧ (∀ t, x = .tmp t → t ∈ oi.looksAt ops) ∧ oi.dst = some d ∧ oi.guard = none
  sel : ∀ (j : Nat) (oj : Oper), ops[j]? = some oj → notSelect oj = true
  apart : ∀ i oi, L i = true → i < k → ops[i]? = some oi → ∀ (j : Nat) (oj : Oper), ops[j]? = some oj → j ≠ i → (∀ e ∈ oj.after, Region.binds .any e = true → e.on ≠ i) → (∀ e ∈ oi.after, Region.binds .any e = true → e.on ≠ j) → oi.apart ops oj = true
end
/-- The late ones, by a look at them. -/
def pureB (o : Oper) : Bool := (match o.op with | .move _ => true | .extract _ _ => true | _ => false) && o.guard.isNone && o.dst.isSome
theorem pureB_spec {P : Program} {ops : Array Oper} {o : Oper} (h : pureB o = true) : ∃ x d, PureOp P o x ∧ (∀ t, x = .tmp t → t ∈ o.looksAt ops) ∧ o.dst = some d ∧ o.guard = none := by
  unfold pureB at h
  simp only [Bool.and_eq_true] at h
  obtain ⟨⟨h1, h2⟩, h3⟩ := h
  obtain ⟨d, hd⟩ := Option.isSome_iff_exists.1 h3
  have hg : o.guard = none := by simpa using h2
  cases hop : o.op with
  | move x => exact ⟨x, d, .move hop, fun t ht => looks_op (by rw [hop, ht]; simp [Op.operands]), hd, hg⟩
  | extract x i => exact ⟨x, d, .extract hop, fun t ht => looks_op (by rw [hop, ht]; simp [Op.operands]), hd, hg⟩
  | _ => rw [hop] at h1; simp at h1
def lateB (ops : Array Oper) (L : List Nat) (k : Nat) : Bool := (ops.toList.all notSelect) && L.all fun i => Nat.blt i k && ((ops[i]?).map fun oi => pureB oi && (List.range ops.size).all fun j => Nat.beq j i || Region.edge ops j i || Region.edge ops i j || ((ops[j]?).map fun oj => oi.apart ops oj).getD true).getD false
theorem LateOk.of {P : Program} {ops : Array Oper} {L : List Nat} {k : Nat} (h : lateB ops L k = true) : LateOk P ops (fun i => L.contains i) k := by
  unfold lateB at h
  simp only [Bool.and_eq_true] at h
  have hL : ∀ i, L.contains i = true → ∃ oi, ops[i]? = some oi ∧ pureB oi = true ∧ ∀ j oj, ops[j]? = some oj → j ≠ i → (∀ e ∈ oj.after, Region.binds .any e = true → e.on ≠ i) → (∀ e ∈ oi.after, Region.binds .any e = true → e.on ≠ j) → oi.apart ops oj = true := fun i hi => by
    have h1 := List.all_eq_true.1 h.2 i (List.contains_iff_mem.1 hi)
    simp only [Bool.and_eq_true] at h1
    cases ho : ops[i]? with
    | none => rw [ho] at h1; simp at h1
    | some oi =>
      rw [ho] at h1
      simp only [Option.map_some, Option.getD_some, Bool.and_eq_true] at h1
      refine ⟨oi, rfl, h1.2.1, fun j oj hj hji hn hn2 => ?_⟩
      have h2 := List.all_eq_true.1 h1.2.2 j (List.mem_range.2 (Array.getElem?_eq_some_iff.1 hj).1)
      rw [hj] at h2
      simp only [Option.map_some, Option.getD_some, Bool.or_eq_true] at h2
      rcases h2 with ((h2 | h2) | h2) | h2
      · exact absurd (Nat.eq_of_beq_eq_true h2) hji
      · obtain ⟨o, ho2, e, he, hb, heq⟩ := Region.edge_spec h2
        rw [hj] at ho2; cases ho2
        exact absurd heq (hn e he hb)
      · obtain ⟨o, ho2, e, he, hb, heq⟩ := Region.edge_spec h2
        rw [ho] at ho2; cases ho2
        exact absurd heq (hn2 e he hb)
      · exact h2
  refine ⟨fun i hi _ => ?_, fun j oj hj => List.all_eq_true.1 h.1 oj (by simpa using Array.mem_of_getElem? hj), fun i oi hi _ hoi j oj hj hji hn hn2 => ?_⟩
  · obtain ⟨oi, h1, h2, _⟩ := hL i hi
    obtain ⟨x, d, h3, h4, h5, h6⟩ := pureB_spec (P := P) (ops := ops) h2
    exact ⟨oi, x, d, h1, h3, h4, h5, h6⟩
  · obtain ⟨oi', h1, _, h3⟩ := hL i hi
    rw [hoi] at h1; cases h1
    exact h3 j oj hj hji hn hn2
def QN (Q : Post) : Post := fun ex e σ => match ex with | .normal => Q .normal e σ | _ => False
end Go.Proofs.YtieccphckobhjaaGreatDoor


namespace Go.Proofs.YtieccphckobhjaaGreatDoor
open Go.RowKit
set_option linter.unusedVariables false

def Env.puts (e : Env) : List (Nat × S) → Env
  | [] => e
  | p :: l => Env.puts (e.put (some p.1) p.2) l
theorem puts_other {t : Nat} : ∀ {l : List (Nat × S)} {e : Env}, t ∉ l.map Prod.fst → Env.puts e l t = e t
  | [], _, _ => rfl
  | p :: l, e, h => by
    simp only [List.map_cons, List.mem_cons, not_or] at h
    unfold Env.puts
    rw [puts_other h.2, Env.put_other _ _ _ _ h.1]
theorem puts_put {dst : Option Nat} {s : S} : ∀ {l : List (Nat × S)} {e : Env}, (∀ d, dst = some d → d ∉ l.map Prod.fst) → Env.puts (e.put dst s) l = (Env.puts e l).put dst s
  | [], _, _ => rfl
  | p :: l, e, h => by
    unfold Env.puts
    rw [Env.put_comm e dst (some p.1) s p.2 (fun d hd he => h d hd (by rw [← Option.some.inj he]; simp)), puts_put fun d hd hm => h d hd (by simp only [List.map_cons, List.mem_cons]; exact .inr hm)]
/-- An object that the region makes, and the slots that may hold it. -/
structure Fc where
  id : Nat
  slots : List Nat
def Clean (Φ : List Fc) (e : Env) : Prop := ∀ f ∈ Φ, ∀ t, f.slots.contains t = false → (e t).kill f.id = e t
def QE (e1 : Env) (σ1 : Obs) : Post := fun ex e σ => match ex with | .normal => e = e1 ∧ σ = σ1 | _ => False
/-- An operation that makes or turns objects: the slots that it sets, the objects behind it. -/
def GE (cx : Cx) (ops : Array Oper) (Φ : List Fc) (o : Oper) (e : Env) (σ : Obs) (si : List (Nat × S)) (σ' : Obs) : Prop :=
  ∀ e0 : Env, (∀ t, t ∈ o.looksAt ops → e0 t = e t) → (∀ t, t ∈ si.map Prod.fst → e0 t = e t) → Clean Φ e0 → AOps cx ops [o] e0 σ (QE (Env.puts e0 si) σ')
def LStep (cx : Cx) (ops : Array Oper) (Φ : List Fc) (ef : Nat → Bool) (K : Nat → List Nat) (I : Obs → Prop) (k : Nat) (o : Oper) (e : Env) (σ : Obs) (e' : Env) (σ' : Obs) : Prop :=
  (GW ops o e true ∧ ef k = false ∧ ∃ s, I σ ∧ (∀ τ, I τ → AOp cx.P cx.B ops o e τ s) ∧ (∀ f ∈ Φ, (∃ t, o.dst = some t ∧ f.slots.contains t = true) ∨ s.kill f.id = s) ∧ e' = e.put o.dst s ∧ σ' = σ) ∨
  (GW ops o e false ∧ ef k = false ∧ e' = e.put o.dst (.d (.v undef)) ∧ σ' = σ) ∨
  (GW ops o e true ∧ ef k = true ∧ I σ ∧ I σ' ∧ ∃ si, si.map Prod.fst = K k ∧ GE cx ops Φ o e σ si σ' ∧ (∀ p ∈ si, ∀ f ∈ Φ, f.slots.contains p.1 = true ∨ p.2.kill f.id = p.2) ∧ e' = Env.puts e si)
def LRun (cx : Cx) (ops : Array Oper) (Φ : List Fc) (ef : Nat → Bool) (K : Nat → List Nat) (I : Obs → Prop) : Nat → List Oper → Env → Obs → (Env → Obs → Prop) → Prop
  | _, [], e, σ, Q => Q e σ
  | k, o :: l, e, σ, Q => DstOk cx.N o ∧ ∃ e' σ', LStep cx ops Φ ef K I k o e σ e' σ' ∧ LRun cx ops Φ ef K I (k + 1) l e' σ' Q
def anyL (cx : Cx) (ops : Array Oper) (Φ : List Fc) (ef : Nat → Bool) (K : Nat → List Nat) (I : Obs → Prop) (Q : Env → Obs → Prop) : Nat → Array Bool → Env → Obs → Prop
  | 0, listed, e, σ => Region.ready .any ops listed = [] ∧ Q e σ
  | fuel + 1, listed, e, σ => (Region.ready .any ops listed = [] → Q e σ) ∧
      ∀ i ∈ Region.ready .any ops listed, ∀ o, ops[i]? = some o → ∃ e' σ', LStep cx ops Φ ef K I i o e σ e' σ' ∧ anyL cx ops Φ ef K I Q fuel (listed.setIfInBounds i true) e' σ'
/-- The slots of one are none of the other's. -/
def keysOkB (ops : Array Oper) (K : Nat → List Nat) (i j : Nat) (oi oj : Oper) : Bool :=
  ((K i).all fun k => !((oj.looksAt ops).contains k) && neDst oj k) && ((K j).all fun k => !((oi.looksAt ops).contains k) && neDst oi k) && (!(K i).any fun k => (K j).contains k)
theorem keysOk_l {ops : Array Oper} {K : Nat → List Nat} {i j : Nat} {oi oj : Oper} (h : keysOkB ops K i j oi oj = true) : ∀ k ∈ K i, k ∉ oj.looksAt ops ∧ oj.dst ≠ some k := fun k hk => by
  unfold keysOkB at h
  simp only [Bool.and_eq_true] at h
  have h1 := List.all_eq_true.1 h.1.1 k hk
  simp only [Bool.and_eq_true, Bool.not_eq_true', List.contains_eq_mem, decide_eq_false_iff_not] at h1
  exact ⟨h1.1, neDst_spec h1.2⟩
theorem keysOk_r {ops : Array Oper} {K : Nat → List Nat} {i j : Nat} {oi oj : Oper} (h : keysOkB ops K i j oi oj = true) : ∀ k ∈ K j, k ∉ oi.looksAt ops ∧ oi.dst ≠ some k := fun k hk => by
  unfold keysOkB at h
  simp only [Bool.and_eq_true] at h
  have h1 := List.all_eq_true.1 h.1.2 k hk
  simp only [Bool.and_eq_true, Bool.not_eq_true', List.contains_eq_mem, decide_eq_false_iff_not] at h1
  exact ⟨h1.1, neDst_spec h1.2⟩
theorem GE.same {cx : Cx} {ops : Array Oper} {Φ : List Fc} {o : Oper} {e e' : Env} {σ σ' : Obs} {si : List (Nat × S)} (h : GE cx ops Φ o e σ si σ') (h1 : ∀ t, t ∈ o.looksAt ops → e' t = e t) (h2 : ∀ t, t ∈ si.map Prod.fst → e' t = e t) : GE cx ops Φ o e' σ si σ' :=
  fun e0 k1 k2 k3 => h e0 (fun t ht => (k1 t ht).trans (h1 t ht)) (fun t ht => (k2 t ht).trans (h2 t ht)) k3
theorem anyL_first {cx : Cx} {ops : Array Oper} {Φ : List Fc} {ef : Nat → Bool} {K : Nat → List Nat} {I : Obs → Prop} (hK : ∀ k, ef k = false → K k = []) {Q : Env → Obs → Prop} {i : Nat} {oi : Oper} (hi : ops[i]? = some oi) (late : Nat → Bool)
    (hclos : ∀ j oj, ops[j]? = some oj → late j = true → ∃ e ∈ oj.after, Region.binds .any e = true ∧ (e.on = i ∨ late e.on = true)) :
    ∀ (fuel : Nat) (listed : Array Bool) (e : Env) (σ : Obs) (e1 : Env) (σ1 : Obs), (∀ j, late j = true → listed.getD j false = false) →
      (∀ j oj, ops[j]? = some oj → j ≠ i → listed.getD j true = false → (∀ e ∈ oj.after, Region.binds .any e = true → e.on ≠ i) → oi.apart ops oj = true ∧ (late j = false → (ef i = false ∨ ef j = false) ∧ keysOkB ops K i j oi oj = true)) →
      i ∈ Region.ready .any ops listed → LStep cx ops Φ ef K I i oi e σ e1 σ1 → anyL cx ops Φ ef K I Q fuel (listed.setIfInBounds i true) e1 σ1 → anyL cx ops Φ ef K I Q (fuel + 1) listed e σ := by
  intro fuel
  induction fuel with
  | zero =>
    intro listed e σ e1 σ1 _ _ hr hy H
    refine ⟨fun h => (by rw [h] at hr; cases hr), fun j hj o ho => ?_⟩
    by_cases hji : j = i
    · subst hji
      rw [hi] at ho; cases ho
      exact ⟨e1, σ1, hy, H⟩
    · have := ready_mono hj hji
      rw [H.1] at this
      cases this
  | succ fuel ih =>
    intro listed e σ e1 σ1 hlate hfree hr hy H
    refine ⟨fun h => (by rw [h] at hr; cases hr), fun j hj oj hoj => ?_⟩
    by_cases hji : j = i
    · subst hji
      rw [hi] at hoj; cases hoj
      exact ⟨e1, σ1, hy, H⟩
    · obtain ⟨e2, σ2, h1, h2⟩ := H.2 j (ready_mono hj hji) oj hoj
      obtain ⟨hjun, oj', hoj', hall⟩ := mem_ready.1 hj
      rw [hoj] at hoj'; cases hoj'
      have hnot : ∀ e ∈ oj.after, Region.binds .any e = true → e.on ≠ i := fun e he hb heq => by
        have h1 := hall e he hb
        have h0 := (mem_ready.1 hr).1
        rw [heq] at h1
        rcases Nat.lt_or_ge i listed.size with h' | h'
        · simp [h'] at h0 h1; rw [h0] at h1; cases h1
        · simp [Array.getElem?_eq_none h'] at h1
      have hjl : late j = false := by
        cases hl : late j with
        | false => rfl
        | true =>
          obtain ⟨e, he, hb, hh⟩ := hclos j oj hoj hl
          rcases hh with hh | hh
          · exact absurd hh (hnot e he hb)
          · have h3 := hall e he hb
            rw [hlate _ hh] at h3
            simp at h3
      obtain ⟨hap, hss⟩ := hfree j oj hoj hji hjun hnot
      obtain ⟨hs1, hs2⟩ := hss hjl
      obtain ⟨a1, a2, a3⟩ := Oper.apart_spec hap
      have kl := keysOk_l hs2
      have kr := keysOk_r hs2
      have fin : ∀ ej σj, LStep cx ops Φ ef K I j oj e σ ej σj → LStep cx ops Φ ef K I i oi ej σj e2 σ2 → ∃ e' σ', LStep cx ops Φ ef K I j oj e σ e' σ' ∧ anyL cx ops Φ ef K I Q (fuel + 1) (listed.setIfInBounds j true) e' σ' := fun ej σj hsj hsi => by
        refine ⟨ej, σj, hsj, ?_⟩
        refine ih (listed.setIfInBounds j true) ej σj e2 σ2 (fun k hk => ?_) (fun k ok hk hki hun hno => ?_) (ready_mono hr (Ne.symm hji)) hsi ?_
        · have hkj : j ≠ k := fun h => by rw [h, hk] at hjl; simp at hjl
          rw [getD_set_ne false hkj]
          exact hlate k hk
        · refine hfree k ok hk hki ?_ hno
          by_cases hjk : j = k
          · subst hjk; exact hjun
          · rw [getD_set_ne true hjk] at hun; exact hun
        · rw [Array.setIfInBounds_comm _ _ hji]
          exact h2
      have look1 : ∀ {s : S} t, t ∈ oj.looksAt ops → (e.put oi.dst s) t = e t := fun t ht => put_looks a1 t ht
      have look2 : ∀ {s : S} t, t ∈ oi.looksAt ops → (e.put oj.dst s) t = e t := fun t ht => put_looks a3 t ht
      rcases hy with ⟨hgi, hei, s, hI, hopi, hcl, rfl, rfl⟩ | ⟨hgi, hei, rfl, rfl⟩ | ⟨hgi, hei, hi1, hi2, si, hki, hopi, hci, rfl⟩
      · rcases h1 with ⟨hgj, hej, sj, hIj, hopj, hclj, rfl, rfl⟩ | ⟨hgj, hej, rfl, rfl⟩ | ⟨hgj, hej, hj1, hj2, sj, hkj, hopj, hcj, rfl⟩
        · exact fin (e.put oj.dst sj) _ (.inl ⟨hgj.same fun t ht => (look1 t ht).symm, hej, sj, hIj, fun τ hτ => (hopj τ hτ).same fun t ht => (look1 t ht).symm, hclj, rfl, rfl⟩) (.inl ⟨hgi.same (fun t ht => look2 t ht), hei, s, hI, fun τ hτ => (hopi τ hτ).same (fun t ht => look2 t ht), hcl, (Env.put_comm e oi.dst oj.dst s sj a2), rfl⟩)
        · exact fin (e.put oj.dst (.d (.v undef))) _ (.inr (.inl ⟨hgj.same fun t ht => (look1 t ht).symm, hej, rfl, rfl⟩)) (.inl ⟨hgi.same (fun t ht => look2 t ht), hei, s, hI, fun τ hτ => (hopi τ hτ).same (fun t ht => look2 t ht), hcl, (Env.put_comm e oi.dst oj.dst s _ a2), rfl⟩)
        · have hkd : ∀ d, oi.dst = some d → d ∉ sj.map Prod.fst := fun d hd hm => by rw [hkj] at hm; exact (kr d hm).2 hd
          have hkl : ∀ t, t ∈ oi.looksAt ops → Env.puts e sj t = e t := fun t ht => puts_other fun hm => by rw [hkj] at hm; exact (kr t hm).1 ht
          refine fin (Env.puts e sj) σ2 (.inr (.inr ⟨hgj.same fun t ht => (look1 t ht).symm, hej, hj1, hj2, sj, hkj, hopj.same (fun t ht => (look1 t ht).symm) (fun t ht => ?_), hcj, rfl⟩)) (.inl ⟨hgi.same hkl, hei, s, hj2, fun τ hτ => (hopi τ hτ).same hkl, hcl, puts_put hkd, rfl⟩)
          cases hd : oi.dst with
          | none => rfl
          | some d => exact (Env.put_other _ _ _ _ (fun (he : t = d) => hkd d hd (he ▸ ht))).symm
      · rcases h1 with ⟨hgj, hej, sj, hIj, hopj, hclj, rfl, rfl⟩ | ⟨hgj, hej, rfl, rfl⟩ | ⟨hgj, hej, hj1, hj2, sj, hkj, hopj, hcj, rfl⟩
        · exact fin (e.put oj.dst sj) _ (.inl ⟨hgj.same fun t ht => (look1 t ht).symm, hej, sj, hIj, fun τ hτ => (hopj τ hτ).same fun t ht => (look1 t ht).symm, hclj, rfl, rfl⟩) (.inr (.inl ⟨hgi.same (fun t ht => look2 t ht), hei, (Env.put_comm e oi.dst oj.dst _ sj a2), rfl⟩))
        · exact fin (e.put oj.dst (.d (.v undef))) _ (.inr (.inl ⟨hgj.same fun t ht => (look1 t ht).symm, hej, rfl, rfl⟩)) (.inr (.inl ⟨hgi.same (fun t ht => look2 t ht), hei, (Env.put_comm e oi.dst oj.dst _ _ a2), rfl⟩))
        · have hkd : ∀ d, oi.dst = some d → d ∉ sj.map Prod.fst := fun d hd hm => by rw [hkj] at hm; exact (kr d hm).2 hd
          have hkl : ∀ t, t ∈ oi.looksAt ops → Env.puts e sj t = e t := fun t ht => puts_other fun hm => by rw [hkj] at hm; exact (kr t hm).1 ht
          refine fin (Env.puts e sj) σ2 (.inr (.inr ⟨hgj.same fun t ht => (look1 t ht).symm, hej, hj1, hj2, sj, hkj, hopj.same (fun t ht => (look1 t ht).symm) (fun t ht => ?_), hcj, rfl⟩)) (.inr (.inl ⟨hgi.same hkl, hei, puts_put hkd, rfl⟩))
          cases hd : oi.dst with
          | none => rfl
          | some d => exact (Env.put_other _ _ _ _ (fun (he : t = d) => hkd d hd (he ▸ ht))).symm
      · have hkd : ∀ d, oj.dst = some d → d ∉ si.map Prod.fst := fun d hd hm => by rw [hki] at hm; exact (kl d hm).2 hd
        have hkl : ∀ t, t ∈ oj.looksAt ops → Env.puts e si t = e t := fun t ht => puts_other fun hm => by rw [hki] at hm; exact (kl t hm).1 ht
        have hke : ∀ {s : S} t, t ∈ si.map Prod.fst → (e.put oj.dst s) t = e t := fun {s} t ht => by
          cases hd : oj.dst with
          | none => rfl
          | some d => exact Env.put_other _ _ _ _ (fun he => hkd d hd (he ▸ ht))
        rcases h1 with ⟨hgj, hej, sj, hIj, hopj, hclj, rfl, rfl⟩ | ⟨hgj, hej, rfl, rfl⟩ | ⟨hgj, hej, hj1, hj2, sj, hkj, hopj, hcj, rfl⟩
        · exact fin (e.put oj.dst sj) σ (.inl ⟨hgj.same fun t ht => (hkl t ht).symm, hej, sj, hi1, fun τ hτ => (hopj τ hτ).same fun t ht => (hkl t ht).symm, hclj, rfl, rfl⟩) (.inr (.inr ⟨hgi.same (fun t ht => look2 t ht), hei, hi1, hi2, si, hki, hopi.same (fun t ht => look2 t ht) (fun t ht => hke t ht), hci, (puts_put hkd).symm⟩))
        · exact fin (e.put oj.dst (.d (.v undef))) σ (.inr (.inl ⟨hgj.same fun t ht => (hkl t ht).symm, hej, rfl, rfl⟩)) (.inr (.inr ⟨hgi.same (fun t ht => look2 t ht), hei, hi1, hi2, si, hki, hopi.same (fun t ht => look2 t ht) (fun t ht => hke t ht), hci, (puts_put hkd).symm⟩))
        · rcases hs1 with h | h
          · rw [hei] at h; simp at h
          · rw [hej] at h; simp at h
/-- The check: whoever is free to change places has nothing to do with the other. -/
def Region.keysFree (ops : Array Oper) (ef : Nat → Bool) (K : Nat → List Nat) (listed : Array Bool) (k : Nat) (late : Nat → Bool) : Bool :=
  (List.range ops.size).all fun j =>
    (!(late j) || (!(listed.getD j false) && ((ops[j]?).map fun o => o.after.any fun e => Region.binds .any e && (Nat.beq e.on k || late e.on)).getD true)) &&
    (Nat.beq j k || listed.getD j true || late j || Region.edge ops j k || ((!(ef k) || !(ef j)) && ((ops[k]?).bind fun oi => (ops[j]?).map fun oj => keysOkB ops K k j oi oj).getD false))
def Region.keysFrom (ops : Array Oper) (ef : Nat → Bool) (K : Nat → List Nat) : Nat → Nat → Array Bool → Bool
  | 0, _, _ => true
  | fuel + 1, k, listed => Region.keysFree ops ef K listed k (Region.lateB ops k) && Region.keysFrom ops ef K fuel (k + 1) (listed.setIfInBounds k true)
theorem Region.keysFree_spec {ops : Array Oper} {ef : Nat → Bool} {K : Nat → List Nat} {listed : Array Bool} {k : Nat} {oi : Oper} {late : Nat → Bool} (h : Region.keysFree ops ef K listed k late = true) (hk : ops[k]? = some oi) (hl : ∀ j, late j = true → j < ops.size) :
    (∀ j oj, ops[j]? = some oj → late j = true → ∃ e ∈ oj.after, Region.binds .any e = true ∧ (e.on = k ∨ late e.on = true)) ∧ (∀ j, late j = true → listed.getD j false = false) ∧
    ∀ j oj, ops[j]? = some oj → j ≠ k → listed.getD j true = false → (∀ e ∈ oj.after, Region.binds .any e = true → e.on ≠ k) → late j = false → (ef k = false ∨ ef j = false) ∧ keysOkB ops K k j oi oj = true := by
  have h1 : ∀ j, j < ops.size → _ := fun j hj => List.all_eq_true.1 h j (List.mem_range.2 hj)
  simp only [Bool.and_eq_true] at h1
  refine ⟨fun j oj hoj hlj => ?_, fun j hlj => ?_, fun j oj hoj hjk hun hno hlj => ?_⟩
  · have h2 := (h1 j (Array.getElem?_eq_some_iff.1 hoj).1).1
    rw [hlj, hoj] at h2
    simp only [Bool.not_true, Bool.false_or, Option.map_some, Option.getD_some, Bool.and_eq_true, Array.any_eq_true'] at h2
    obtain ⟨_, e, he, hb⟩ := h2
    simp only [Bool.or_eq_true] at hb
    exact ⟨e, he, hb.1, hb.2.imp Nat.eq_of_beq_eq_true (fun x => x)⟩
  · have h2 := (h1 j (hl j hlj)).1
    rw [hlj] at h2
    simp only [Bool.not_true, Bool.false_or, Bool.and_eq_true, Bool.not_eq_true'] at h2
    exact h2.1
  · have h2 := (h1 j (Array.getElem?_eq_some_iff.1 hoj).1).2
    have hb : Nat.beq j k = false := by rw [Bool.eq_false_iff]; exact fun hh => hjk (Nat.eq_of_beq_eq_true hh)
    rw [hb, hun, hlj, hk, hoj] at h2
    simp only [Bool.false_or, Bool.or_eq_true, Bool.and_eq_true, Bool.not_eq_true', Option.bind_some, Option.map_some, Option.getD_some] at h2
    rcases h2 with h2 | h2
    · obtain ⟨o, ho, e, he, hb2, heq⟩ := Region.edge_spec h2
      rw [hoj] at ho; cases ho
      exact absurd heq (hno e he hb2)
    · exact h2
theorem anyL_lex {cx : Cx} {ops : Array Oper} {Φ : List Fc} {ef : Nat → Bool} {K : Nat → List Nat} {I : Obs → Prop} (hK : ∀ k, ef k = false → K k = []) {Q : Env → Obs → Prop} : ∀ (l : List Oper) (k : Nat) (listed : Array Bool) (e : Env) (σ : Obs), (∀ j, l[j]? = ops[k + j]?) →
    Region.lexFrom .any ops l.length k listed = true → Region.keysFrom ops ef K l.length k listed = true → LRun cx ops Φ ef K I k l e σ Q → anyL cx ops Φ ef K I Q l.length listed e σ
  | [], _, _, _, _, _, hB, _, h => ⟨by simpa [Region.lexFrom] using hB, h⟩
  | o :: l, k, listed, e, σ, hl, hB, hS, h => by
    have h0 : ops[k]? = some o := by simpa using (hl 0).symm
    simp only [List.length_cons, Region.lexFrom, Bool.and_eq_true] at hB
    simp only [List.length_cons, Region.keysFrom, Bool.and_eq_true] at hS
    obtain ⟨⟨hr, hf⟩, hB'⟩ := hB
    have hl' : ∀ j, l[j]? = ops[k + 1 + j]? := fun j => by have := hl (j + 1); simpa [Nat.add_assoc, Nat.add_comm 1 j] using this
    obtain ⟨_, e', σ', hs, hq⟩ := h
    have hgo := anyL_lex hK l (k + 1) _ _ _ hl' hB' hS.2 hq
    obtain ⟨k1, k2, k3⟩ := Region.keysFree_spec hS.1 h0 (fun j hj => by
      unfold Region.lateB at hj
      simp only [Bool.and_eq_true, Nat.blt_eq] at hj
      exact hj.1)
    exact anyL_first hK h0 _ k1 l.length listed e σ e' σ' k2 (fun j oj hj hji hun hno => ⟨Region.free_spec h0 hf j oj hj hji hun hno, fun hl => k3 j oj hj hji hun hno hl⟩) (by simpa using hr) hs hgo
theorem LRun.dsts {cx : Cx} {ops : Array Oper} {Φ : List Fc} {ef : Nat → Bool} {K : Nat → List Nat} {I : Obs → Prop} {Q : Env → Obs → Prop} : ∀ (l : List Oper) (k : Nat) (e : Env) (σ : Obs), LRun cx ops Φ ef K I k l e σ Q → ∀ o ∈ l, DstOk cx.N o
  | [], _, _, _, _, o, ho => by cases ho
  | x :: l, k, e, σ, h, o, ho => by
    obtain ⟨h1, _, _, _, h2⟩ := h
    cases ho with
    | head => exact h1
    | tail _ ho => exact LRun.dsts l _ _ _ h2 o ho
theorem Clean.put {Φ : List Fc} {e : Env} {dst : Option Nat} {s : S} (h : Clean Φ e) (hs : ∀ f ∈ Φ, (∃ t, dst = some t ∧ f.slots.contains t = true) ∨ s.kill f.id = s) : Clean Φ (e.put dst s) := fun f hf t ht => by
  cases dst with
  | none => exact h f hf t ht
  | some d =>
    by_cases hd : t = d
    · subst hd
      rw [Env.put_same]
      rcases hs f hf with ⟨t', h1, h2⟩ | h1
      · cases h1; rw [ht] at h2; simp at h2
      · exact h1
    · rw [Env.put_other _ _ _ _ hd]; exact h f hf t ht
theorem Clean.puts {Φ : List Fc} : ∀ {l : List (Nat × S)} {e : Env}, Clean Φ e → (∀ p ∈ l, ∀ f ∈ Φ, f.slots.contains p.1 = true ∨ p.2.kill f.id = p.2) → Clean Φ (Env.puts e l)
  | [], _, h, _ => h
  | p :: l, e, h, hs => by
    unfold Env.puts
    refine Clean.puts (fun f hf t ht => ?_) fun q hq => hs q (List.mem_cons_of_mem _ hq)
    by_cases hd : t = p.1
    · subst hd
      rw [Env.put_same]
      rcases hs p (by simp) f hf with h1 | h1
      · rw [ht] at h1; simp at h1
      · exact h1
    · rw [Env.put_other _ _ _ _ hd]; exact h f hf t ht
theorem wpAny_of_L {cx : Cx} {ops : Array Oper} {Φ : List Fc} {ef : Nat → Bool} {K : Nat → List Nat} {I : Obs → Prop} {Q : Post} (hQ : ∀ ex e σ, ex ≠ .normal → ¬ Q ex e σ) (hd : ∀ o ∈ ops.toList, DstOk cx.N o) : ∀ (fuel : Nat) (listed : Array Bool) (e : Env) (σ : Obs) (a : Act) (w : World), R cx e σ a w → Clean Φ e →
    anyL cx ops Φ ef K I (fun e σ => Q .normal e σ) fuel listed e σ → wpAny cx.P .any ops (lift cx Q) fuel listed a w
  | 0, _, e, σ, _, _, hr, _, h => ⟨h.1, e, σ, h.2, hr⟩
  | fuel + 1, listed, e, σ, a, w, hr, hc, h => by
    refine ⟨fun h0 => ⟨e, σ, h.1 h0, hr⟩, fun i hi => ?_⟩
    obtain ⟨_, o, ho, _⟩ := mem_ready.1 hi
    obtain ⟨e', σ', hs, hk⟩ := h.2 i hi o ho
    have hdo : DstOk cx.N o := hd o (Array.mem_toList_iff.2 (Array.mem_of_getElem? ho))
    unfold wpOp
    simp only [ho]
    have hR := hr
    obtain ⟨F, ρ, hr⟩ := hr
    rcases hs with ⟨hg, _, s, hI, hop, hcl, rfl, rfl⟩ | ⟨hg, _, rfl, rfl⟩ | ⟨hg, _, _, _, si, _, hop, hci, rfl⟩
    · rw [if_pos (hg.wanted (fun t _ => hr.env t))]
      refine .inl (wp_to ?_ (fun _ _ _ => False.elim) (hop _ hI F ρ w a hr.lt (fun t _ => hr.env t) hr.obs))
      rintro a' w' ⟨v, F', rfl, hv, he⟩
      exact wpAny_of_L hQ hd fuel _ _ _ _ _ ⟨F', ρ, hr.put he hv hdo⟩ (hc.put hcl) hk
    · rw [if_neg (by rw [hg.wanted (fun t _ => hr.env t)]; simp)]
      exact wpAny_of_L hQ hd fuel _ _ _ _ _ ⟨F, ρ, hr.put (Ext.refl hr.lt) repS_undef hdo⟩ (hc.put fun _ _ => .inr rfl) hk
    · have hw : Region.wanted o (yielded ops a.tmps) = true := hg.wanted (fun t _ => hr.env t)
      rw [if_pos hw]
      have h4 := hop e (fun _ _ => rfl) (fun _ _ => rfl) hc a w hR
      unfold wpList at h4
      rw [if_pos hw] at h4
      refine h4.imp (wp_to2 ?_ ?_) fun h => ⟨h.1, ?_⟩
      · rintro a' w' ⟨e', σ'', ⟨rfl, rfl⟩, hr'⟩
        exact wpAny_of_L hQ hd fuel _ _ _ _ _ hr' (hc.puts hci) hk
      · rintro ex a' w' hne ⟨e', σ'', hq, _⟩
        cases ex <;> first | exact absurd rfl hne | exact hq.elim
      · obtain ⟨a', w', e', σ'', hq, _⟩ := h.2
        exact hq.elim
/-- Before the region: no slot but those told holds what it makes or turns. -/
def Env.killOut (f : Fc) (e : Env) : Env := fun t => match f.slots.contains t with | true => e t | false => (e t).kill f.id
def Env.killIds : List Fc → Env → Env
  | [], e => e
  | f :: l, e => Env.killIds l (e.killOut f)
theorem killOut_keep {f : Fc} {g : Fc} {e : Env} (h : Clean [g] e) : Clean [g] (e.killOut f) := fun g' hg t ht => by
  have h1 := h g' hg t ht
  unfold Env.killOut
  cases f.slots.contains t with
  | true => exact h1
  | false => show S.kill g'.id (S.kill f.id (e t)) = S.kill f.id (e t); rw [kill_comm, h1]
theorem killIds_keep {g : Fc} : ∀ {Φ : List Fc} {e : Env}, Clean [g] e → Clean [g] (Env.killIds Φ e)
  | [], _, h => h
  | _ :: l, _, h => killIds_keep (Φ := l) (killOut_keep h)
theorem killOut_clean (f : Fc) (e : Env) : Clean [f] (e.killOut f) := fun g hg t ht => by
  obtain rfl := List.mem_singleton.1 hg
  unfold Env.killOut
  rw [ht]
  exact S.kill_kill g.id (e t)
theorem killIds_clean : ∀ (Φ : List Fc) (e : Env), Clean Φ (Env.killIds Φ e)
  | g :: l, e, f, hf, t, ht => by
    rcases List.mem_cons.1 hf with rfl | hf
    · exact killIds_keep (Φ := l) (killOut_clean f e) f (by simp) t ht
    · exact killIds_clean l (e.killOut g) f hf t ht
theorem R.killOut {cx : Cx} {σ : Obs} {a : Act} {w : World} {e : Env} (f : Fc) : R cx e σ a w → R cx (e.killOut f) σ a w
  | ⟨F, ρ, h⟩ => by
    have henv : ∀ t, RepS F ρ w (a.tmps.getD t undef) (e.killOut f t) := fun t => by
      unfold Env.killOut
      cases f.slots.contains t with
      | true => exact h.env t
      | false => exact (h.killEnv f.id).env t
    exact ⟨F, ρ, h.size, h.defers, h.lt, h.base, h.new, h.below, h.hB, henv, h.obs, h.up, h.kown, h.fixed⟩
theorem R.killIds {cx : Cx} {σ : Obs} {a : Act} {w : World} : ∀ (Φ : List Fc) {e : Env}, R cx e σ a w → R cx (Env.killIds Φ e) σ a w
  | [], _, h => h
  | f :: l, _, h => R.killIds l (R.killOut f h)
/-- Such a region, walked once, in the order of the text. -/
theorem AWP.drawL {cx : Cx} {id : Nat} {l : List Oper} {e : Env} {σ : Obs} {Q : Post} (Φ : List Fc) (E : List (Nat × List Nat)) (I : Obs → Prop) (hm : cx.P.follows .mixedOrders = true) (hB : Region.lexB .any l.toArray = true)
    (hS : Region.keysFrom l.toArray (fun k => E.any fun p => Nat.beq p.1 k) (fun k => ((E.find? fun p => Nat.beq p.1 k).map Prod.snd).getD []) l.length 0 (Array.replicate l.length false) = true)
    (h : LRun cx l.toArray Φ (fun k => E.any fun p => Nat.beq p.1 k) (fun k => ((E.find? fun p => Nat.beq p.1 k).map Prod.snd).getD []) I 0 l (Env.killIds Φ e) σ (fun e σ => Q .normal e σ)) : AWP cx (.region id l.toArray true) e σ Q := by
  intro a w ⟨F, ρ, hr⟩
  simp only [Region.lexB, Bool.and_eq_true] at hB
  have hK : ∀ k, (E.any fun p => Nat.beq p.1 k) = false → ((E.find? fun p => Nat.beq p.1 k).map Prod.snd).getD [] = [] := fun k hk => by
    have : E.find? (fun p => Nat.beq p.1 k) = none := List.find?_eq_none.2 fun p hp hh => by
      have : (E.any fun p => Nat.beq p.1 k) = true := List.any_eq_true.2 ⟨p, hp, hh⟩
      rw [hk] at this
      simp at this
    rw [this]; rfl
  have h1 := anyL_lex hK l 0 (Array.replicate l.toArray.size false) _ σ (by simp) (by simpa using hB.2) (by simpa using hS) h
  have h2 : wpAny cx.P .any l.toArray (lift cx (QN Q)) l.toArray.size (Array.replicate l.toArray.size false) a { w with drawn := w.drawn + 1 } :=
    wpAny_of_L (Q := QN Q) (fun ex e σ hne hq => by cases ex <;> first | exact absurd rfl hne | exact hq.elim) (by simpa using LRun.dsts l 0 _ σ h) _ _ _ σ a _ (R.killIds Φ ⟨F, ρ, hr.drew⟩) (killIds_clean Φ e) h1
  refine wp_mono (wp_region_any hm h2) ?_
  rintro ex a w ⟨e, σ, h4, h5⟩
  cases ex with
  | normal => exact ⟨e, σ, h4, h5⟩
  | exit id => exact h4.elim
  | goto l => exact h4.elim
  | ret => exact h4.elim
  | panic c => exact h4.elim
  | outgrown => exact h4.elim
/-- The same, with a tail that waits for all before it. -/
theorem AWP.drawLTail {cx : Cx} {id : Nat} {l : List Oper} {e : Env} {σ : Obs} {Q : Post} (k : Nat) (Φ : List Fc) (E : List (Nat × List Nat)) (I : Obs → Prop) (hm : cx.P.follows .mixedOrders = true) (hB : Region.lexB .any (l.take k).toArray = true)
    (hS : Region.keysFrom (l.take k).toArray (fun k => E.any fun p => Nat.beq p.1 k) (fun k => ((E.find? fun p => Nat.beq p.1 k).map Prod.snd).getD []) (l.take k).length 0 (Array.replicate (l.take k).length false) = true) (hC : Region.chainB l.toArray k = true)
    (h : LRun cx (l.take k).toArray Φ (fun k => E.any fun p => Nat.beq p.1 k) (fun k => ((E.find? fun p => Nat.beq p.1 k).map Prod.snd).getD []) I 0 (l.take k) (Env.killIds Φ e) σ (fun e σ => AOps cx l.toArray (l.drop k) e σ Q)) : AWP cx (.region id l.toArray true) e σ Q := by
  intro a w ⟨F, ρ, hr⟩
  simp only [Region.lexB, Bool.and_eq_true] at hB
  have hch := Chain.of hC
  have hkl : k ≤ l.length := by simpa using hch.le
  have hK : ∀ k, (E.any fun p => Nat.beq p.1 k) = false → ((E.find? fun p => Nat.beq p.1 k).map Prod.snd).getD [] = [] := fun k hk => by
    have : E.find? (fun p => Nat.beq p.1 k) = none := List.find?_eq_none.2 fun p hp hh => by
      have : (E.any fun p => Nat.beq p.1 k) = true := List.any_eq_true.2 ⟨p, hp, hh⟩
      rw [hk] at this
      simp at this
    rw [this]; rfl
  have h1 := anyL_lex hK (l.take k) 0 (Array.replicate (l.take k).toArray.size false) _ σ (by simp) (by simpa using hB.2) (by simpa using hS) h
  have h2 := wpAny_of_L (cx := cx) (ops := (l.take k).toArray) (Q := fun ex e σ => match ex with | .normal => AOps cx l.toArray (l.drop k) e σ Q | _ => False) (fun ex e σ hne hq => by cases ex <;> first | exact absurd rfl hne | exact hq.elim) (by simpa using LRun.dsts _ 0 _ σ h) _ _ _ σ a _ (R.killIds Φ ⟨F, ρ, hr.drew⟩) (killIds_clean Φ e) h1
  refine wp_region_any hm (wpAny_split hch (ops0 := (l.take k).toArray) (by simp; omega) (fun j hj => by simp [hj]) ?_ ?_ (l.take k).length _ _ _ _ _ (by simp; omega) (by simp) ?_ ?_ ?_ (by simp; omega) h2)
  · rintro a w ⟨e, σ, h3, h4⟩
    have := h3 a w h4
    simpa using this
  · rintro ex a w hne ⟨e, σ, h3, _⟩
    cases ex <;> first | exact absurd rfl hne | exact h3.elim
  · intro j hj d
    have h5 : j < l.length := by omega
    have h6 : j < min k l.length := by omega
    simp [Array.getD_eq_getD_getElem?, h5, h6]
  · intro j hj hj2
    have : j < l.length := by simpa using hj2
    simp [Array.getD_eq_getD_getElem?, this]
  · intro i o ho hi
    have : i < l.length := by simpa using (Array.getElem?_eq_some_iff.1 ho).1
    simp [Array.getD_eq_getD_getElem?, this] at hi
section
variable {cx : Cx} {ops : Array Oper} {Φ : List Fc} {ef : Nat → Bool} {K : Nat → List Nat} {I : Obs → Prop} {n : Nat} {o : Oper} {l : List Oper} {e : Env} {σ : Obs} {Q : Env → Obs → Prop}
def cleanS (t : Nat) (s : S) : List Fc → Prop
  | [] => True
  | f :: l => (f.slots.contains t = true ∨ s.kill f.id = s) ∧ cleanS t s l
theorem cleanS.all {t : Nat} {s : S} : ∀ {l : List Fc}, cleanS t s l → ∀ f ∈ l, f.slots.contains t = true ∨ s.kill f.id = s
  | [], _, f, hf => by cases hf
  | g :: l, h, f, hf => by
    cases hf with
    | head => exact h.1
    | tail _ hf => exact cleanS.all h.2 f hf
theorem LRun.nil (h : Q e σ) : LRun cx ops Φ ef K I n [] e σ Q := h
theorem LRun.step {s : S} {t : Nat} (hg : GW ops o e true) (ht : o.dst = some t) (hd : Nat.blt t cx.N = true) (hI : I σ) (h : ∀ τ, I τ → AOp cx.P cx.B ops o e τ s) (k : LRun cx ops Φ ef K I (n + 1) l (e.put (some t) s) σ Q) (he : ef n = false := by rfl) (hc : cleanS t s Φ := by first | exact ⟨.inr rfl, trivial⟩ | exact ⟨.inl rfl, trivial⟩) : LRun cx ops Φ ef K I n (o :: l) e σ Q :=
  ⟨by unfold DstOk; rw [ht]; exact hd, _, _, .inl ⟨hg, he, s, hI, h, fun f hf => (hc.all f hf).imp (fun h => ⟨t, ht, h⟩) id, rfl, rfl⟩, by rw [ht]; exact k⟩
def cleanL (Φ : List Fc) : List (Nat × S) → Prop
  | [] => True
  | p :: l => (∀ f ∈ Φ, f.slots.contains p.1 = true ∨ p.2.kill f.id = p.2) ∧ cleanL Φ l
theorem LRun.eff {si : List (Nat × S)} {σ' : Obs} (hg : GW ops o e true) (hd : DstOk cx.N o) (h1 : I σ) (h2 : I σ') (h : GE cx ops Φ o e σ si σ') (k : LRun cx ops Φ ef K I (n + 1) l (Env.puts e si) σ' Q) (hc : ∀ p ∈ si, ∀ f ∈ Φ, f.slots.contains p.1 = true ∨ p.2.kill f.id = p.2) (he : ef n = true := by rfl) (hk : si.map Prod.fst = K n := by rfl) : LRun cx ops Φ ef K I n (o :: l) e σ Q :=
  ⟨hd, _, _, .inr (.inr ⟨hg, he, h1, h2, si, hk, h, hc, rfl⟩), k⟩
theorem triple_eq {id a b c : Nat} {e0 e : Env} (hab : a ≠ b) (hac : a ≠ c) (hbc : b ≠ c) (hb : e0 b = e b) (hcc : e0 c = e c) (hc : ∀ t, t ≠ a → t ≠ b → t ≠ c → (e0 t).kill id = e0 t) : (e0.kill id).put (some a) (.own id) = Env.puts e0 [(c, (e c).kill id), (b, (e b).kill id), (a, .own id)] := by
  funext t
  show _ = (((e0.put (some c) ((e c).kill id)).put (some b) ((e b).kill id)).put (some a) (.own id)) t
  by_cases h1 : t = a
  · subst h1; rw [Env.put_same, Env.put_same]
  · rw [Env.put_other _ _ _ _ h1, Env.put_other _ _ _ _ h1]
    by_cases h2 : t = b
    · subst h2; rw [Env.put_same]; show (e0 t).kill id = _; rw [hb]
    · rw [Env.put_other _ _ _ _ h2]
      by_cases h3 : t = c
      · subst h3; rw [Env.put_same]; show (e0 t).kill id = _; rw [hcc]
      · rw [Env.put_other _ _ _ _ h3]; exact hc t h1 h2 h3
/-- An append to a row that two other slots hold. -/
theorem GE.append3 {s x : Operand} {t ee size bytes dst : Nat} {z : Value} {els els2 : List (List D)} {σ' : Obs} (id b c : Nat) {sl : List Nat} (hΦ : ⟨id, sl⟩ ∈ Φ) (hsl : ∀ t, t ≠ dst → t ≠ b → t ≠ c → sl.contains t = false) (hab : dst ≠ b) (hac : dst ≠ c) (hbc : b ≠ c) (hg : o.guard = none)
    (ho : o.op = .call { callee := .builtin .append, args := #[s, x], argTypes := #[t, t] }) (hd : o.dst = some dst) (hdn' : Nat.blt dst cx.N = true) (T : ElemTy cx.P t ee size bytes z) (hs : e.ev s = .own id) (hm : (id, Ob.row ee size els) ∈ σ)
    (hx : e.ev x = .d (.sl els2)) (hsz : ∀ y ∈ els2, y.length = size) (hb : (els.length + els2.length) * bytes ≤ 140737488355328) (hn : els.length + els2.length ≤ 9223372036854775807) (hσ : Obs.upd id (.row ee size (els ++ els2)) (Obs.kill id σ) = σ') (hfx : cx.free id = true := by rfl) :
    GE cx ops Φ o e σ [(c, (e c).kill id), (b, (e b).kill id), (dst, .own id)] σ' := fun e0 h1 h2 h3 => by
  have e1 : e0.ev s = e.ev s := ev_same fun t hxt => h1 t (looks_op (by rw [ho, ← hxt]; simp [Op.operands, Call.operands]))
  have e2 : e0.ev x = e.ev x := ev_same fun t hxt => h1 t (looks_op (by rw [ho, ← hxt]; simp [Op.operands, Call.operands]))
  have hp := triple_eq (id := id) (e0 := e0) (e := e) hab hac hbc (h2 b (by simp)) (h2 c (by simp)) fun t ht1 ht2 ht3 => h3 _ hΦ t (hsl t ht1 ht2 ht3)
  exact AOps.append hg ho hd hdn' T (e1.trans hs) hm (e2.trans hx) hsz hb hn (.nil ⟨hp, hσ⟩) hfx
end
/-- Data, stored into own cells. -/
theorem EOp.store {cx : Cx} {ops : Array Oper} {o : Oper} {e : Env} {σ : Obs} {t id off size : Nat} {x y : Operand} {d : D} {ss : List S} (ht : o.dst = none) (ho : o.op = .store t x y) (hs : ∀ w, (sizeOf t).run cx.P w = .ok size w) (hx : e.ev x = .ptr id off) (hm : (id, Ob.cells ss) ∈ σ) (hy : e.ev y = .d d) (h1 : d.one = true) (hl : d.parts.length = size)
    (hle : off + size ≤ ss.length) : EOp cx ops o e σ (Obs.upd id (.cells (ss.take off ++ d.parts.map S.d ++ ss.drop (off + size))) σ) := by
  intro F ρ a w e0 hr ha
  have hop : ∀ y ∈ o.op.operands.toList, RepS F ρ w (a.eval y) (e.ev y) := fun y hy => ev_rep fun t ht => ha t (looks_op (by rw [← ht]; exact hy))
  have r1 := hop x (by rw [ho]; simp [Op.operands])
  have r2 := hop y (by rw [ho]; simp [Op.operands])
  rw [hx] at r1
  rw [hy] at r2
  obtain ⟨h3, h4⟩ := parts_rep (repS_d r2) h1
  obtain ⟨g, ty, cs, hρ, hB, hF, hh, hcl, hcs⟩ := hr.obs.ok _ hm
  dsimp only at hρ
  have hxv := ptr_at r1 (g := g) (by rw [hρ]; rfl)
  have hsz : (a.eval y).cells.size = size := by have := h3.1; rw [Array.length_toList] at this; omega
  obtain ⟨w', h5, h6, h7⟩ := storeVar_run (P := cx.P) (off := off) hs hsz hh (by omega) h4
  unfold Oper.wp execOp
  simp only [ho, Instr.storeAt, hxv, Instr.sureAddr, Sem.run_bind, Sem.run_pure, Result.andThen_ok, h5]
  refine ⟨by rw [ht]; rfl, fun e2 hr2 => ⟨F, ρ, ?_⟩⟩
  refine hr2.write hρ hm hB hF h6 h7 (by simp; omega) (fun j hj hj' => by
    have hlen : (a.eval y).cells.toList.length = size := by rw [Array.length_toList]; exact hsz
    by_cases j1 : j < off
    · rw [List.getElem_append_left (by simp; omega), List.getElem_append_left (by simp; omega), List.getElem_append_left (by simp; omega), List.getElem_append_left (by simp; omega), List.getElem_take, List.getElem_take]
      exact hcs j (by omega) (by omega)
    · by_cases j2 : j < off + size
      · rw [List.getElem_append_left (by simp; omega), List.getElem_append_right (by simp; omega), List.getElem_append_left (by simp; omega), List.getElem_append_right (by simp; omega), List.getElem_map]
        have e1 : (List.take off cs).length = off := by simp; omega
        have e2 : (List.take off ss).length = off := by simp; omega
        simp only [e1, e2]
        exact ⟨h4 _ (List.getElem_mem _), .d (h3.2 _ _ _)⟩
      · rw [List.getElem_append_right (by simp; omega), List.getElem_append_right (by simp; omega), List.getElem_drop, List.getElem_drop]
        have e1 : (List.take off cs ++ (a.eval y).cells.toList).length = off + size := by simp; omega
        have e2 : (List.take off ss ++ d.parts.map S.d).length = off + size := by simp; omega
        simp only [e1, e2]
        exact hcs _ _ _)
end Go.Proofs.YtieccphckobhjaaGreatDoor


namespace Go.Proofs.YtieccphckobhjaaGreatDoor
open Go.RowKit
set_option linter.unusedVariables false

/-! Types. -/
namespace TyR3

end TyR3
open TyR3


open Go.Lib
end Go.Proofs.YtieccphckobhjaaGreatDoor
