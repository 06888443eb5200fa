/- Walks and laws over abstract values, merged by tools/merge.py. No statement of the seat. -/
import Derived.Test.YtieccphckobhjaaDoorXG4

namespace Go.Proofs.YtieccphckobhjaaDoor
open Go.RowKit
set_option linter.unusedVariables false

/-! Types. -/
namespace TyP5

end TyP5
open TyP5


structure Hrm where
  day : Int
  item : ByteArray
  carrier : ByteArray
  block : Int
def Hrm.ds (h : Hrm) : List D := [.v (.int .i64 h.day), .v (.string h.item), .v (.string h.carrier), .v (.int .i64 h.block)]
def insI (l : List Int) (x : Int) : List Int := if hasI l x = true then l else l.take (posI l x) ++ [x] ++ l.drop (posI l x)
def harmC (l : List Cpy) (h : Hrm) : List Cpy := if hasC l (keyC h.item h.carrier) = true then l.modify (posC l (keyC h.item h.carrier)) (fun c => { c with bad := insI c.bad h.block }) else l
theorem hfo_v2 : fieldOff Tryd.prog 26 2 = some 2 := by kernel_rfl
theorem hfo_h1 : fieldOff Tryd.prog 57 1 = some 1 := by kernel_rfl
theorem hfo_h2 : fieldOff Tryd.prog 57 2 = some 2 := by kernel_rfl
theorem hfo_h3 : fieldOff Tryd.prog 57 3 = some 3 := by kernel_rfl
theorem hfo_c6 : fieldOff Tryd.prog 77 6 = some 6 := by kernel_rfl
theorem hag_v : AggT Tryd.prog 26 3 := .of (by kernel_rfl)
theorem hsc_s : Scal Tryd.prog 9 := .of (by kernel_rfl)
theorem hsc_i : Scal Tryd.prog 3 := .of (by kernel_rfl)
theorem hsc_24 : Scal Tryd.prog 24 := .of (by kernel_rfl)
theorem hsc_75 : Scal Tryd.prog 75 := .of (by kernel_rfl)
theorem het_24 : ElemTy Tryd.prog 24 77 7 96 (.agg #[(.string ⟨#[]⟩), (.string ⟨#[]⟩), (.string ⟨#[]⟩), (.int .i64 0), (.int .i64 0), (.int .i64 0), (.slice none 0 0)]) := ⟨by kernel_rfl, by kernel_rfl, by kernel_rfl, by decide⟩
theorem het_75 : ElemTy Tryd.prog 75 3 1 8 (.int .i64 0) := ⟨by kernel_rfl, by kernel_rfl, by kernel_rfl, by decide⟩
theorem hsz_75 : ∀ w, (sizeOf 75).run Tryd.prog w = .ok 1 w := SizeT.of (by kernel_rfl)
theorem vObs_fresh {i : Nat} {l : List Cpy} (h : i < 101) : Obs.fresh i (vObs l) = true := by
  unfold vObs Obs.fresh
  have h1 : Nat.beq 101 i = false := by rw [Bool.eq_false_iff]; intro hh; have := Nat.eq_of_beq_eq_true hh; omega
  simp [h1, famC, fam_fresh (show i < 1000 by omega)]
theorem vObs_kill {i : Nat} {l : List Cpy} (h : i < 1000) : Obs.kill i (vObs l) = vObs l := by
  unfold vObs Obs.kill
  simp only [Ob.kill, cpysS_kill h, famC, fam_kill]
def harm0 (v : Vlt) : Obs := (100, .val (vaultS v)) :: vObs v.copies
set_option maxRecDepth 20000 in
set_option maxHeartbeats 1000000 in
theorem c_harm (v : Vlt) (h : Hrm) (hl : v.copies.length ≤ 100000) (hb : ∀ c ∈ v.copies, c.bad.length ≤ 100000) : XCall Tryd.prog 61 [.own 100, .d (.agg h.ds)] (harm0 v) (vObs (harmC v.copies h)) (fun i => Nat.ble 1000 i || Nat.blt i 100) (.tup []) := by
  refine xcall_of (n := 48) (ds' := []) Tryd.func61 rfl (by kernel_rfl) rfl [] rfl rfl ?_
  intro B w0 F0 fr ρ0
  refine AWP.seq ?_
  refine AWP.region ?_
  refine AOps.boxVal 12 rfl rfl rfl rfl rfl (.head _) (by show Obs.fresh 12 ((100, _) :: vObs v.copies) = true; unfold Obs.fresh; simp [vObs_fresh, show Nat.beq 100 12 = false from rfl]) ?_ rfl
  refine AOps.obsEq ((12, .cells (vaultS v)) :: (100, .val (vaultS v)) :: vObs v.copies) (by show (12, _) :: (100, _) :: Obs.kill 12 (vObs v.copies) = _; rw [vObs_kill (by omega)]; rfl) ?_
  refine AOps.step rfl rfl rfl (AOp.box rfl rfl rfl) ?_
  refine AOps.nil ?_
  refine AWP.seq ?_
  refine AWP.region ?_
  refine AOps.loadVal 13 rfl rfl rfl rfl hag_v rfl (.head _) (Nat.le_refl 3) (by show Obs.fresh 13 ((12, _) :: (100, _) :: vObs v.copies) = true; unfold Obs.fresh Obs.fresh; simp [vObs_fresh, show Nat.beq 100 13 = false from rfl, show Nat.beq 12 13 = false from rfl]) ?_ rfl
  refine AOps.obsEq ((13, .val (vaultS v)) :: (12, .cells (vaultS v)) :: (100, .val (vaultS v)) :: vObs v.copies) (by show (13, _) :: (12, _) :: (100, _) :: Obs.kill 13 (vObs v.copies) = _; rw [vObs_kill (by omega)]; rfl) ?_
  refine AOps.step rfl rfl rfl (AOp.fieldAddr (ds := h.ds) rfl hfo_h1 rfl) ?_
  refine AOps.step rfl rfl rfl (AOp.load rfl hsc_s rfl) ?_
  refine AOps.step rfl rfl rfl (AOp.fieldAddr (ds := h.ds) rfl hfo_h2 rfl) ?_
  refine AOps.step rfl rfl rfl (AOp.load rfl hsc_s rfl) ?_
  refine AOps.step rfl rfl rfl (AOp.callSnap rfl (.cons rfl (snap_vault (v := v) (.head _) (fun p hp => .tail _ (.tail _ (.tail _ hp)))) (.cons rfl (.d _) (.cons rfl (.d _) .nil))) (c_copyAt v h.item h.carrier hl) (.tup _ (by simp [Plain.v]))) ?_
  refine AOps.step rfl rfl rfl (AOp.moveD rfl rfl) ?_
  refine AOps.step rfl rfl rfl (AOp.extract rfl rfl rfl) ?_
  refine AOps.step rfl rfl rfl (AOp.extract rfl rfl rfl) ?_
  refine AOps.step rfl rfl rfl (AOp.assignD rfl rfl) ?_
  refine AOps.step rfl rfl rfl (AOp.assignD rfl rfl) ?_
  refine AOps.nil ?_
  refine AWP.seq ?_
  refine AWP.seq ?_
  refine AWP.region ?_
  refine AOps.step rfl rfl rfl (AOp.moveD rfl rfl) ?_
  refine AOps.step rfl rfl rfl (AOp.not rfl rfl) ?_
  refine AOps.nil ?_
  refine AWP.cond rfl (fun g => ?_) (fun g => ?_)
  · refine AWP.ret ?_
    have hc : harmC v.copies h = v.copies := by unfold harmC; rw [if_neg (by simpa using g)]
    rw [hc]
    exact ⟨trivial, AllIn.of fun p hp => .tail _ (.tail _ (.tail _ hp))⟩
  have g1 : hasC v.copies (keyC h.item h.carrier) = true := by simpa using g
  generalize hk : posC v.copies (keyC h.item h.carrier) = k
  have hkl : k < v.copies.length := by unfold hasC at g1; rw [hk] at g1; simp at g1; exact g1.1
  refine AWP.skip ?_
  refine AWP.seq ?_
  refine AWP.region ?_
  refine AOps.step rfl rfl rfl (AOp.fieldAddrP rfl hfo_v2 rfl) ?_
  refine AOps.step rfl rfl rfl (AOp.loadP (s := .own 101) rfl hsc_24 rfl (.tail _ (.head _)) rfl) ?_
  refine AOps.step rfl rfl rfl (AOp.moveD rfl rfl) ?_
  refine AOps.step rfl rfl rfl (AOp.weak (AOp.indexOwn rfl het_24 rfl rfl (Obs.weak_mem (p := (101, _)) (.tail _ (.tail _ (.tail _ (.head _))))) k rfl (by rw [List.length_map, cpysS_len]; exact hkl))) ?_
  refine AOps.step rfl rfl rfl (AOp.assignP rfl rfl) ?_
  refine AOps.nil ?_
  have hbk := hb _ (List.getElem_mem hkl)
  have hfam : (1000 + k, Ob.row 3 1 (v.copies[k].bad.map intD)) ∈ vObs v.copies := .tail _ (famC_get hkl)
  refine AWP.seq ?_
  refine AWP.draw (by kernel_rfl) (by kernel_rfl) ?_
  refine DRun.step rfl rfl rfl (AOp.moveP rfl rfl) ?_
  refine DRun.step rfl rfl rfl (AOp.nilCheckP rfl rfl) ?_
  refine DRun.step rfl rfl rfl (AOp.fieldAddrP rfl hfo_c6 rfl) ?_
  refine DRun.step rfl rfl rfl (AOp.loadRowS (s := .own (1000 + k)) rfl hsc_75 rfl (.tail _ (.tail _ (.tail _ (.head _)))) k 6 rfl (cpysS_get (List.getElem?_eq_getElem hkl)) rfl) ?_
  refine DRun.step rfl rfl rfl (AOp.fieldAddr (ds := h.ds) rfl hfo_h3 rfl) ?_
  refine DRun.step rfl rfl rfl (AOp.load rfl hsc_i rfl) ?_
  refine DRun.step rfl rfl rfl (AOp.callSnap rfl (.cons rfl (.row (.tail _ (.tail _ (.tail _ hfam)))) (.cons rfl (.d _) .nil)) (c_bsInt v.copies[k].bad h.block hbk) (.tup _ (by simp [Plain.v]))) ?_
  refine DRun.step rfl rfl rfl (AOp.moveD rfl rfl) ?_
  refine DRun.step rfl rfl rfl (AOp.extract rfl rfl rfl) ?_
  refine DRun.step rfl rfl rfl (AOp.extract rfl rfl rfl) ?_
  refine DRun.step rfl rfl rfl (AOp.assignD rfl rfl) ?_
  refine DRun.step rfl rfl rfl (AOp.assignD rfl rfl) ?_
  refine DRun.nil ?_
  refine AWP.seq ?_
  refine AWP.region ?_
  refine AOps.step rfl rfl rfl (AOp.moveD rfl rfl) ?_
  refine AOps.step rfl rfl rfl (AOp.not rfl rfl) ?_
  refine AOps.nil ?_
  refine AWP.cond rfl (fun g2 => ?_) (fun g2 => ?_)
  · have g3 : hasI v.copies[k].bad h.block = false := by simpa using g2
    have hpk := posI_le v.copies[k].bad h.block
    generalize hpp : posI v.copies[k].bad h.block = q at hpk
    have hbq : Nat.beq 101 (1000 + k) = false := by rw [Bool.eq_false_iff]; intro hh; have := Nat.eq_of_beq_eq_true hh; omega
    have hfx : (!(!(Nat.ble 1000 (1000 + k) || Nat.blt (1000 + k) 100))) = true := by
      have : Nat.ble 1000 (1000 + k) = true := Nat.ble_eq_true_of_le (by omega)
      rw [this]; rfl
    refine AWP.drawMove (s0 := .ptr 101 (k * 7)) 9 10 [⟨44, 14, .own 14, .row 3 1 [[.v (.int .i64 h.block)]]⟩] (FrOk.one rfl (by simp) (by show Obs.fresh 14 ((13, _) :: (12, _) :: (100, _) :: vObs v.copies) = true; unfold Obs.fresh Obs.fresh Obs.fresh; simp [vObs_fresh, show Nat.beq 100 14 = false from rfl, show Nat.beq 12 14 = false from rfl, show Nat.beq 13 14 = false from rfl]) (by show (13, _) :: (12, _) :: (100, _) :: Obs.kill 14 (vObs v.copies) = _; rw [vObs_kill (by omega)]; rfl) rfl) (by kernel_rfl) (by kernel_rfl) rfl rfl rfl rfl rfl (by kernel_rfl) ?_
    refine XRun.step rfl rfl rfl (AOp.moveP rfl rfl) ?_
    refine XRun.step rfl rfl rfl (AOp.nilCheckP rfl rfl) ?_
    refine XRun.step rfl rfl rfl (AOp.fieldAddrP rfl hfo_c6 rfl) ?_
    refine XRun.step rfl rfl rfl (AOp.loadRowS (s := .own (1000 + k)) rfl hsc_75 rfl (.tail _ (.tail _ (.tail _ (.head _)))) k 6 rfl (cpysS_get (List.getElem?_eq_getElem hkl)) rfl) ?_ rfl ⟨.inl (by
      have hb14 : Nat.beq (1000 + k) 14 = false := by rw [Bool.eq_false_iff]; intro hh; have := Nat.eq_of_beq_eq_true hh; omega
      show S.kill 14 (.own (1000 + k)) = _
      simp [S.kill, hb14]), trivial⟩
    refine XRun.step rfl rfl rfl (AOp.moveD rfl rfl) ?_
    refine XRun.step rfl rfl rfl (AOp.fieldAddr (ds := h.ds) rfl hfo_h3 rfl) ?_
    refine XRun.step rfl rfl rfl (AOp.load rfl hsc_i rfl) ?_
    refine XRun.build1 _ (.head _) rfl rfl rfl rfl rfl het_75 rfl rfl rfl rfl rfl ?_
    refine XRun.nil ⟨rfl, trivial⟩ ?_
    refine AOps.insertI Tryd.b21 (id := 1000 + k) (idx := 14) (k := q) (l := v.copies[k].bad) (y := h.block) ((101, .rowS 77 7 ((cpysS 1000 v.copies).set k ((cpyS (1000 + k) v.copies[k]).set 6 (.d .any)))) :: fam 3 1 1000 ((badsD v.copies).set k ((v.copies[k].bad.take q ++ [h.block] ++ v.copies[k].bad.drop q).map intD))) rfl rfl rfl rfl rfl
      (.tail _ (.tail _ (.tail _ (.tail _ hfam)))) rfl rfl hpk rfl (.head _) (by omega) (by omega) ?_ ?_ hfx
    · intro p hp
      rcases List.mem_cons.1 hp with rfl | hp
      · refine .inr ⟨(101, .rowS 77 7 (cpysS 1000 v.copies)), .tail _ (.tail _ (.tail _ (.tail _ (.head _)))), by show 101 ≠ 1000 + k; omega, ?_⟩
        show _ = (101, Ob.rowS _ 7 _)
        rw [cpysS_killAt hkl]
      · obtain ⟨j, x, h1, rfl⟩ := fam_mem hp
        rw [List.getElem?_set] at h1
        by_cases hj : k = j
        · subst hj
          rw [if_pos rfl] at h1
          split at h1
          · exact .inl (by rw [← Option.some.inj h1]; rfl)
          · simp at h1
        · rw [if_neg hj] at h1
          exact .inr ⟨(1000 + j, .row 3 1 x), .tail _ (.tail _ (.tail _ (.tail _ (.tail _ (fam_get h1))))), by show 1000 + j ≠ 1000 + k; omega, rfl⟩
    refine AOps.le 36 (s := .ptr 101 (k * 7)) (s' := .ptr 101 (k * 7)) (by show S.kill (1000 + k) (.ptr 101 (k * 7)) = _; simp [S.kill, hbq]) (SLe.refl _) ?_
    refine AOps.nil ?_
    refine AOps.step rfl rfl rfl (AOp.nilCheckP rfl rfl) ?_
    refine AOps.step rfl rfl rfl (AOp.fieldAddrP rfl hfo_c6 rfl) ?_
    have hnew : (1000 + k, Ob.row 3 1 ((v.copies[k].bad.take q ++ [h.block] ++ v.copies[k].bad.drop q).map intD)) ∈ fam 3 1 1000 ((badsD v.copies).set k ((v.copies[k].bad.take q ++ [h.block] ++ v.copies[k].bad.drop q).map intD)) := fam_get (by rw [List.getElem?_set]; simp [badsD, hkl])
    refine AOps.eff rfl rfl (EOp.storeRowS (s := .own (1000 + k)) rfl rfl hsz_75 rfl (.head _) rfl (.own (.tail _ hnew)) k 6 rfl (ss := (cpyS (1000 + k) v.copies[k]).set 6 (.d .any)) (by rw [List.getElem?_set]; simp [cpysS_len, hkl]) (by decide)) ?_
    refine AOps.nil ?_
    have hc : harmC v.copies h = v.copies.set k { v.copies[k] with bad := v.copies[k].bad.take q ++ [h.block] ++ v.copies[k].bad.drop q } := by
      have hI : insI v.copies[k].bad h.block = v.copies[k].bad.take q ++ [h.block] ++ v.copies[k].bad.drop q := by unfold insI; rw [if_neg (by rw [g3]; simp), hpp]
      unfold harmC
      rw [if_pos g1, hk]
      apply List.ext_getElem?
      intro j
      rw [List.getElem?_modify, List.getElem?_set]
      by_cases hj : k = j
      · subst hj
        rw [List.getElem?_eq_getElem hkl]
        simp [hI, hkl]
      · simp [hj]
    refine ⟨trivial, AllIn.of fun p hp => ?_⟩
    rw [hc] at hp
    have hu : Obs.upd 101 (.rowS 77 7 (((cpysS 1000 v.copies).set k ((cpyS (1000 + k) v.copies[k]).set 6 (.d .any))).set k (((cpyS (1000 + k) v.copies[k]).set 6 (.d .any)).set 6 (.own (1000 + k))))) ((101, .rowS 77 7 ((cpysS 1000 v.copies).set k ((cpyS (1000 + k) v.copies[k]).set 6 (.d .any)))) :: fam 3 1 1000 ((badsD v.copies).set k ((v.copies[k].bad.take q ++ [h.block] ++ v.copies[k].bad.drop q).map intD))) = vObs (v.copies.set k { v.copies[k] with bad := v.copies[k].bad.take q ++ [h.block] ++ v.copies[k].bad.drop q }) := by
      unfold Obs.upd
      dsimp only
      simp only [List.set_set]
      rw [fam_upd_low (by omega)]
      unfold vObs famC
      rw [← badsD_set, ← cpysS_set hkl]
      rfl
    exact hu ▸ hp
  · refine AWP.skip ?_
    have hc : harmC v.copies h = v.copies := by
      have hI : insI v.copies[k].bad h.block = v.copies[k].bad := by unfold insI; rw [if_pos (by simpa using g2)]
      unfold harmC
      rw [if_pos g1, hk]
      apply List.ext_getElem?
      intro j
      rw [List.getElem?_modify]
      by_cases hj : k = j
      · subst hj
        rw [List.getElem?_eq_getElem hkl]
        simp [hI]
      · simp [hj]
    rw [hc]
    exact ⟨trivial, AllIn.of fun p hp => .tail _ (.tail _ (.tail _ hp))⟩


end Go.Proofs.YtieccphckobhjaaDoor


namespace Go.Proofs.YtieccphckobhjaaDoor
open Go.RowKit
set_option linter.unusedVariables false

/-! Types. -/
namespace TyP6

end TyP6
open TyP6


/-- Is block n of copy c right in another copy of the same item? -/
def fixB (l : List Cpy) (c : Cpy) (n : Int) : Bool := l.any (whole1 c n)
def stillI (l : List Cpy) (c : Cpy) : List Int := c.bad.filter fun n => !fixB l c n
structure Dn where
  day : Int
  item : ByteArray
  carrier : ByteArray
  fixed : Int
  lost : Int
def Dn.ds (d : Dn) : List D := [.v (.int .i64 d.day), .v (.string d.item), .v (.string d.carrier), .v (.int .i64 d.fixed), .v (.int .i64 d.lost)]
def doneC (l : List Cpy) (c : Cpy) (day : Int) : Dn := ⟨day, c.item, c.carrier, ((c.bad.filter (fixB l c)).length : Int), ((stillI l c).length : Int)⟩
def checkedC (l : List Cpy) (k : Nat) (day : Int) : List Cpy := l.modify k fun c => { c with bad := stillI l c, last := day }
/-- The first j damaged blocks. -/
def stillTo (l : List Cpy) (c : Cpy) (j : Nat) : List Int := (c.bad.take j).filter fun n => !fixB l c n
def fixTo (l : List Cpy) (c : Cpy) (j : Nat) : Nat := ((c.bad.take j).filter (fixB l c)).length
theorem stillTo_t {l : List Cpy} {c : Cpy} {j : Nat} (hj : j < c.bad.length) (h : fixB l c c.bad[j] = true) : stillTo l c (j + 1) = stillTo l c j ∧ fixTo l c (j + 1) = fixTo l c j + 1 := by
  unfold stillTo fixTo
  rw [List.take_add_one, List.getElem?_eq_getElem hj, Option.toList_some, List.filter_append, List.filter_append, List.length_append]
  have h1 : [c.bad[j]].filter (fun n => !fixB l c n) = [] := by rw [List.filter_cons, h]; rfl
  have h2 : [c.bad[j]].filter (fixB l c) = [c.bad[j]] := by rw [List.filter_cons, h]; rfl
  rw [h1, h2]
  exact ⟨by first | rfl | rw [List.append_nil], rfl⟩
theorem stillTo_f {l : List Cpy} {c : Cpy} {j : Nat} (hj : j < c.bad.length) (h : fixB l c c.bad[j] = false) : stillTo l c (j + 1) = stillTo l c j ++ [c.bad[j]] ∧ fixTo l c (j + 1) = fixTo l c j := by
  unfold stillTo fixTo
  rw [List.take_add_one, List.getElem?_eq_getElem hj, Option.toList_some, List.filter_append, List.filter_append, List.length_append]
  have h1 : [c.bad[j]].filter (fun n => !fixB l c n) = [c.bad[j]] := by rw [List.filter_cons, h]; rfl
  have h2 : [c.bad[j]].filter (fixB l c) = [] := by rw [List.filter_cons, h]; rfl
  rw [h1, h2]
  exact ⟨by first | rfl | rw [List.append_nil], rfl⟩
theorem stillTo_len (l : List Cpy) (c : Cpy) (j : Nat) : (stillTo l c j).length ≤ c.bad.length ∧ fixTo l c j ≤ c.bad.length := by
  unfold stillTo fixTo
  have h1 := List.length_filter_le (fun n => !fixB l c n) (c.bad.take j)
  have h2 := List.length_filter_le (fixB l c) (c.bad.take j)
  have h3 := List.length_take_le j c.bad
  simp only [List.length_take] at h1 h2
  omega
theorem stillTo_all (l : List Cpy) (c : Cpy) : stillTo l c c.bad.length = stillI l c ∧ fixTo l c c.bad.length = (c.bad.filter (fixB l c)).length := by
  unfold stillTo fixTo stillI
  rw [List.take_length]
  exact ⟨rfl, rfl⟩


end Go.Proofs.YtieccphckobhjaaDoor


namespace Go.Proofs.YtieccphckobhjaaDoor
open Go.RowKit
set_option linter.unusedVariables false

/-- f returns a struct whose parts are as ss', some of them own objects; the object vid is that struct. -/
def XSCall (P : Program) (f : FuncId) (ss : List S) (σ σ' : Obs) (chg : Nat → Bool) (s : S) : Prop := Enters P f ∧
  ∀ (F : Nat → Prop) (ρ : Nat → Value) (B : Nat) (w : World) (vs : List Value), (∀ b, F b → b < w.heap.size) → B ≤ w.heap.size → ObsOk B F ρ w σ → RepSL F ρ w vs ss →
    Calls P f vs.toArray w fun e w' => ∃ v F' ρ', e = .returned v ∧ RepS F' ρ' w' v s ∧ XEnd B F ρ w σ F' ρ' w' σ' chg

theorem args_R {P : Program} {n : Nat} {ss : List S} {σ : Obs} {chg : Nat → Bool} {F : Nat → Prop} {ρ : Nat → Value} {B : Nat} {w : World} {vs : List Value} {m : Nat} (hN : m = n) (hle : ss.length ≤ n) (hF : ∀ b, F b → b < w.heap.size) (hB : B ≤ w.heap.size) (hσ : ObsOk B F ρ w σ) (hv : RepSL F ρ w vs ss) :
    R ⟨P, n, B, w, F, (fun b => w.heap.size ≤ b ∨ ownB σ ρ b), fun i => !(chg i), ρ⟩ (Env.argsS 0 ss) σ { tmps := vs.toArray ++ Array.replicate (m - vs.toArray.size) undef, defers := [] } w := by
  refine ⟨F, ρ, ?_, rfl, hF, fun b hb => hb, fun b hb => .inl hb, Kept.refl _ _, hB, fun t => ?_, hσ, fun b hb => .inl hb, fun p hp g hg => .inr ⟨p, hp, hg⟩, fun i _ => rfl⟩
  · simp [hN, hv.1]; omega
  · by_cases ht : t < ss.length
    · have := Env.argsS_get ss 0 t ht
      rw [Nat.zero_add] at this
      rw [this]
      have hvt : t < vs.length := by rw [hv.1]; exact ht
      have : (vs.toArray ++ Array.replicate (m - vs.toArray.size) undef).getD t undef = vs[t] := by
        rw [Array.getD_eq_getD_getElem?, Array.getElem?_append_left (by simpa using hvt)]
        simp [hvt]
      rw [this]
      exact hv.2 t hvt ht
    · have := Env.argsS_out ss 0 t (by omega)
      rw [Nat.zero_add] at this
      rw [this]
      exact .d (.any _)
/-- What a result in a cell comes to. -/
theorem res_cell {cx : Cx} {F : Nat → Prop} {ρ : Nat → Value} {e : Env} {σ : Obs} {a : Act} {w : World} {fn : Func} {b t size cid : Nat} {ss : List S} (h : R0 cx F ρ e σ a w) (hr : fn.results = #[.cell b t]) (hT : AggT cx.P t size) (he : e b = .ptr cid 0) (hm : (cid, Ob.cells ss) ∈ σ) (hl : ss.length = size) :
    ∃ cs : List Value, (results fn a.tmps).run cx.P w = .ok (.agg cs.toArray) w ∧ cs.length = ss.length ∧ ∀ j (h1 : j < cs.length) (h2 : j < ss.length), cs[j].oneCell' = true ∧ RepS F ρ w cs[j] ss[j] := by
  obtain ⟨g, ty, cs, k1, k2, k3, k4, k5, k6⟩ := h.obs.ok _ hm
  dsimp only at k1
  have hv : a.tmps.getD b undef = .pointer (some ⟨g, 0, none⟩) := by
    have := h.env b
    rw [he] at this
    exact ptr_at this (by rw [k1]; rfl)
  have hcells : (loadCells ⟨g, 0, none⟩ cs.length).run cx.P w = .ok cs.toArray w := run_loadCells_list w _ cs (fun j v hj => by
    rw [addr_add, cell_of_row w g (0 + j) cs.toArray ty (0, 0) k4]
    simpa using hj)
  have hn : cs.length = size := by omega
  rw [hn] at hcells
  refine ⟨cs, ?_, k5, k6⟩
  have h1 : (List.mapM (resSem a.tmps) [ResultVar.cell b t] : Sem (List Value)).run cx.P w = .ok [.agg cs.toArray] w := by
    rw [List.mapM_cons, Sem.run_bind]
    have h2 : (resSem a.tmps (.cell b t)).run cx.P w = .ok (.agg cs.toArray) w := by
      simp only [resSem, hv, asAddr, Sem.run_bind, Sem.run_pure, Result.andThen_ok, loadVar, hT.agg w, if_true, hT.size w, hcells]
    rw [h2]
    rfl
  unfold results
  rw [hr, Sem.run_bind]
  have h2 : (Array.mapM (fun r => match r with | ResultVar.tmp t => pure (a.tmps.getD t undef) | ResultVar.cell b t => do loadVar t (← asAddr (a.tmps.getD b undef))) [ResultVar.cell b t].toArray : Sem (Array Value)).run cx.P w = .ok [Value.agg cs.toArray].toArray w := by
    rw [List.mapM_toArray, Sem.run_map]
    have h4 : (List.mapM (fun r => match r with | ResultVar.tmp t => pure (a.tmps.getD t undef) | ResultVar.cell b t => do loadVar t (← asAddr (a.tmps.getD b undef))) [ResultVar.cell b t] : Sem (List Value)).run cx.P w = .ok [.agg cs.toArray] w := h1
    rw [h4]
    rfl
  exact (congrArg (fun r => Result.andThen r _) h2).trans rfl
def RetXC (b : Nat) (ds : List D) (σ' : Obs) : Post := fun ex e σ => match ex with
  | .ret => (∃ cid, e b = .ptr cid 0 ∧ (cid, Ob.cells (ds.map S.d)) ∈ σ) ∧ AllIn σ σ'
  | .normal => (∃ cid, e b = .ptr cid 0 ∧ (cid, Ob.cells (ds.map S.d)) ∈ σ) ∧ AllIn σ σ'
  | _ => False
theorem xcall_ofC {P : Program} {f : FuncId} {fn : Func} {c : Code} {n b t size : Nat} {ss : List S} {σ σ' : Obs} {chg : Nat → Bool} {ds : List D} (hf : P.funcs[f]? = some fn) (hb : fn.body = some c) (hn : (fn.name == "runtime.NumGoroutine") = false) (hN : fn.ntmps = n)
    (hr : fn.results = #[.cell b t]) (hT : AggT P t size) (hl : ds.length = size) (hle' : Nat.ble ss.length n = true)
    (h : ∀ B w0 F0 fr ρ0, AWP ⟨P, n, B, w0, F0, fr, fun i => !(chg i), ρ0⟩ c (Env.argsS 0 ss) σ (RetXC b ds σ')) : XCall P f ss σ σ' chg (.agg ds) := by
  have hle : ss.length ≤ n := Nat.le_of_ble_eq_true hle'
  refine ⟨Enters.of hf hn (by rw [hb]; rfl), fun F ρ B w vs hF hB hσ hv => ?_⟩
  refine calls_of_wp hf hb ?_
  refine wp_mono (h _ _ _ _ _ _ _ (args_R hN hle hF hB hσ hv)) ?_
  rintro ex a w' ⟨e', σe, hq, F', ρ', hr'⟩
  have hends : (∃ cid, e' b = .ptr cid 0 ∧ (cid, Ob.cells (ds.map S.d)) ∈ σe) ∧ AllIn σe σ' → bodyPost P fn (fun e w' => ∃ v F' ρ', e = .returned v ∧ Rep F' w' v (.agg ds) ∧ XEnd B F ρ w σ F' ρ' w' σ' chg) .ret a w' := by
    rintro ⟨⟨cid, h1, h2⟩, hin⟩
    have hin := hin.mem
    obtain ⟨cs, k1, k2, k3⟩ := res_cell hr' hr hT h1 h2 (by simpa using hl)
    refine ⟨hr'.defers, _, k1, _, F', ρ', rfl, ?_, ?_⟩
    · refine .agg cs ds (by simpa using k2) (fun i hi => (k3 i hi (by rw [← k2]; exact hi)).1) (fun i hi hi2 => ?_)
      have := (k3 i hi (by rw [← k2]; exact hi)).2
      rw [List.getElem_map] at this
      exact repS_d this
    · exact ⟨hr'.base, hr'.new, hr'.lt, hr'.below, hr'.obs.sub hin, fun p hp => hr'.kown p (hin p hp), fun i hi => hr'.fixed i (by show (!(chg i)) = true; rw [hi]; rfl)⟩
  cases ex with
  | ret => exact hends hq
  | normal => exact hends hq
  | exit id => exact hq.elim
  | goto l => exact hq.elim
  | panic c => exact hq.elim
  | outgrown => exact hq.elim
def RetXV (b vid : Nat) (ss' : List S) (σr : Obs) : Post := fun ex e σ => match ex with
  | .ret => (∃ cid ssr, e b = .ptr cid 0 ∧ (cid, Ob.cells ssr) ∈ σ ∧ ssr.map (S.kill vid) = ss' ∧ Obs.fresh vid σr = true ∧ Obs.kill vid σr = σr) ∧ AllIn σ σr
  | .normal => (∃ cid ssr, e b = .ptr cid 0 ∧ (cid, Ob.cells ssr) ∈ σ ∧ ssr.map (S.kill vid) = ss' ∧ Obs.fresh vid σr = true ∧ Obs.kill vid σr = σr) ∧ AllIn σ σr
  | _ => False
/-- Its result: a struct with own parts, out of a cell. -/
theorem xval_of {P : Program} {f : FuncId} {fn : Func} {c : Code} {n b t size vid : Nat} {ss ss' : List S} {σ σr : Obs} {chg : Nat → Bool} (hf : P.funcs[f]? = some fn) (hb : fn.body = some c) (hn : (fn.name == "runtime.NumGoroutine") = false) (hN : fn.ntmps = n)
    (hr : fn.results = #[.cell b t]) (hT : AggT P t size) (hl : ss'.length = size) (hle' : Nat.ble ss.length n = true) (hvid : chg vid = true)
    (h : ∀ B w0 F0 fr ρ0, AWP ⟨P, n, B, w0, F0, fr, fun i => !(chg i), ρ0⟩ c (Env.argsS 0 ss) σ (RetXV b vid ss' σr)) : XSCall P f ss σ ((vid, .val ss') :: σr) chg (.own vid) := by
  have hle : ss.length ≤ n := Nat.le_of_ble_eq_true hle'
  refine ⟨Enters.of hf hn (by rw [hb]; rfl), fun F ρ B w vs hF hB hσ hv => ?_⟩
  refine calls_of_wp hf hb ?_
  refine wp_mono (h _ _ _ _ _ _ _ (args_R hN hle hF hB hσ hv)) ?_
  rintro ex a w' ⟨e', σe, hq, F', ρ', hr'⟩
  have hends : (∃ cid ssr, e' b = .ptr cid 0 ∧ (cid, Ob.cells ssr) ∈ σe ∧ ssr.map (S.kill vid) = ss' ∧ Obs.fresh vid σr = true ∧ Obs.kill vid σr = σr) ∧ AllIn σe σr →
      bodyPost P fn (fun e w' => ∃ v F' ρ', e = .returned v ∧ RepS F' ρ' w' v (.own vid) ∧ XEnd B F ρ w σ F' ρ' w' ((vid, .val ss') :: σr) chg) .ret a w' := by
    rintro ⟨⟨cid, ssr, h1, h2, h3, h4, h5⟩, hin⟩
    have hin := hin.mem
    have hls : ssr.length = size := by rw [← hl, ← h3]; simp
    obtain ⟨cs, k1, k2, k3⟩ := res_cell hr' hr hT h1 h2 hls
    have hT := hr'.turn (ρ' := fun j => if j = vid then .agg cs.toArray else ρ' j) (id := vid) (ob := .val ss') (row := none) (w' := w') (F' := F') (fun j hj => by simp [hj])
      ⟨rfl, rfl, rfl, Nat.le_refl _, fun _ _ _ => rfl⟩ (by unfold Cx.free; dsimp only; rw [hvid]; rfl) (fun g hg => by simp at hg) (fun b hb => hb) (fun b hb => .inl hb) hr'.lt
      ⟨cs, by simp, by rw [← h3]; simpa using k2, fun j hj hj' => by
        subst h3
        rw [List.getElem_map]
        have hj2 : j < ssr.length := by simpa using hj'
        exact ⟨(k3 j hj hj2).1, (k3 j hj hj2).2.kill vid (fun i hi => by simp [hi])⟩⟩ (fun g hg => by simp [blk] at hg) ((vid, .val ss') :: σr) (fun p hp => by
        rcases List.mem_cons.1 hp with rfl | hp
        · exact .inl rfl
        · rw [← h5] at hp
          obtain ⟨q, hq, rfl⟩ := Obs.mem_kill hp
          exact .inr ⟨q, hin q hq, Obs.fresh_spec h4 q hq, rfl⟩)
    refine ⟨hr'.defers, _, k1, _, F', _, rfl, ?_, hT.base, hT.new, hT.lt, hT.below, hT.obs, hT.kown, fun i hi => hT.fixed i (by show (!(chg i)) = true; rw [hi]; rfl)⟩
    have := RepS.own (F := F') (ρ := fun j => if j = vid then Value.agg cs.toArray else ρ' j) (w := w') vid
    simpa using this
  cases ex with
  | ret => exact hends hq
  | normal => exact hends hq
  | exit id => exact hq.elim
  | goto l => exact hq.elim
  | panic c => exact hq.elim
  | outgrown => exact hq.elim
section
variable {cx : Cx} {ops : Array Oper} {o : Oper} {rest : List Oper} {e : Env} {σ : Obs} {Q : Post}
theorem AOps.callXS {f : FuncId} {xs : List Operand} {ts : Array TypeId} {ss : List S} {σc σ' : Obs} {chg : Nat → Bool} {s : S} (hg : o.guard = none) (hd : DstOk cx.N o)
    (ho : o.op = .call { callee := .value (.func f), args := xs.toArray, argTypes := ts }) (ha : ArgsS e xs ss) (h : XSCall cx.P f ss σc σ' chg s) (hin : AllIn σ σc)
    (h1 : Obs.allIds (fun i => !(chg i)) (Obs.dels σc σ) = true) (h2 : Obs.allIds (fun i => Obs.allIds (fun j => !(Nat.beq i j)) (Obs.dels σc σ)) σ' = true) (h3 : ∀ i, chg i = true → cx.fixp i = false)
    (k : AOps cx ops rest ((e.killP chg).put o.dst s) (Obs.join σ' (Obs.killP chg (Obs.dels σc σ))) Q) : AOps cx ops (o :: rest) e σ Q := by
  intro a w ⟨F, ρ, hr⟩
  have h4 := h.2 F ρ cx.B w _ hr.lt hr.hB (hr.obs.sub hin.mem) (ArgsS.rep hr.env ha)
  have h5 := h.1 (xs.map a.eval).toArray w
  have hx : (execOp a.eval o).run cx.P w = .ok (.enter f (xs.map a.eval).toArray) w := by
    unfold execOp
    simp only [ho, resolve, Deferred.ofValue, Act.eval, invoke, Sem.run_bind, Sem.run_pure, Result.andThen_ok]
    simpa using h5
  refine wpList_plain hg fun K hK => ?_
  unfold Oper.wp
  rw [hx]
  refine h4.mono fun _ w' ⟨v, F', ρ', he, hv, hE⟩ => ?_
  subst he
  exact hK _ _ (k _ _ ⟨F', ρ', (hr.after hin.mem hE h1 h2 h3).put (Ext.refl hE.lt) hv hd⟩)
end
end Go.Proofs.YtieccphckobhjaaDoor


namespace Go.Proofs.YtieccphckobhjaaDoor
open Go.RowKit
set_option linter.unusedVariables false

/-- One step; sl: who reads objects, ef: who writes them. -/
def HStep (cx : Cx) (ops : Array Oper) (sl ef : Nat → Bool) (I : Obs → Prop) (k : Nat) (o : Oper) (e : Env) (σ : Obs) (e' : Env) (σ' : Obs) : Prop :=
  (GW ops o e true ∧ ∃ s, ((sl k = true ∧ AOp cx.P cx.B ops o e σ s) ∨ (I σ ∧ ∀ τ, I τ → AOp cx.P cx.B ops o e τ s)) ∧ e' = e.put o.dst s ∧ σ' = σ) ∨
  (GW ops o e false ∧ e' = e.put o.dst (.d (.v undef)) ∧ σ' = σ) ∨
  (GW ops o e true ∧ ef k = true ∧ o.dst = none ∧ EOp cx ops o e σ σ' ∧ e' = e ∧ I σ ∧ I σ')

def HRun (cx : Cx) (ops : Array Oper) (sl ef : Nat → Bool) (I : Obs → Prop) : Nat → List Oper → Env → Obs → (Env → Obs → Prop) → Prop
  | _, [], e, σ, Q => Q e σ
  | k, o :: l, e, σ, Q => DstOk cx.N o ∧ ∃ e' σ', HStep cx ops sl ef I k o e σ e' σ' ∧ HRun cx ops sl ef I (k + 1) l e' σ' Q

def anyH (cx : Cx) (ops : Array Oper) (sl ef : Nat → Bool) (I : Obs → Prop) (Q : Env → Obs → Prop) : Nat → Array Bool → Env → Obs → Prop
  | 0, listed, e, σ => Region.ready .any ops listed = [] ∧ Q e σ
  | fuel + 1, listed, e, σ => (Region.ready .any ops listed = [] → Q e σ) ∧
      ∀ i ∈ Region.ready .any ops listed, ∀ o, ops[i]? = some o → ∃ e' σ', HStep cx ops sl ef I i o e σ e' σ' ∧ anyH cx ops sl ef I Q fuel (listed.setIfInBounds i true) e' σ'

theorem anyH_first {cx : Cx} {ops : Array Oper} {sl ef : Nat → Bool} {I : Obs → Prop} (hse : ∀ k, ef k = true → sl k = true) {Q : Env → Obs → Prop} {i : Nat} {oi : Oper} (hi : ops[i]? = some oi) (late : Nat → Bool)
    (hclos : ∀ j oj, ops[j]? = some oj → late j = true → ∃ e ∈ oj.after, Region.binds .any e = true ∧ (e.on = i ∨ late e.on = true)) :
    ∀ (fuel : Nat) (listed : Array Bool) (e : Env) (σ : Obs) (e1 : Env) (σ1 : Obs), (∀ j, late j = true → listed.getD j false = false) →
      (∀ j oj, ops[j]? = some oj → j ≠ i → listed.getD j true = false → (∀ e ∈ oj.after, Region.binds .any e = true → e.on ≠ i) → oi.apart ops oj = true ∧ (late j = false → (ef i = false ∨ sl j = false) ∧ (sl i = false ∨ ef j = false))) →
      i ∈ Region.ready .any ops listed → HStep cx ops sl ef I i oi e σ e1 σ1 → anyH cx ops sl ef I Q fuel (listed.setIfInBounds i true) e1 σ1 → anyH cx ops sl ef I Q (fuel + 1) listed e σ := by
  intro fuel
  induction fuel with
  | zero =>
    intro listed e σ e1 σ1 _ _ hr hy H
    refine ⟨fun h => (by rw [h] at hr; cases hr), fun j hj o ho => ?_⟩
    by_cases hji : j = i
    · subst hji
      rw [hi] at ho; cases ho
      exact ⟨e1, σ1, hy, H⟩
    · have := ready_mono hj hji
      rw [H.1] at this
      cases this
  | succ fuel ih =>
    intro listed e σ e1 σ1 hlate hfree hr hy H
    refine ⟨fun h => (by rw [h] at hr; cases hr), fun j hj oj hoj => ?_⟩
    by_cases hji : j = i
    · subst hji
      rw [hi] at hoj; cases hoj
      exact ⟨e1, σ1, hy, H⟩
    · obtain ⟨e2, σ2, h1, h2⟩ := H.2 j (ready_mono hj hji) oj hoj
      obtain ⟨hjun, oj', hoj', hall⟩ := mem_ready.1 hj
      rw [hoj] at hoj'; cases hoj'
      have hnot : ∀ e ∈ oj.after, Region.binds .any e = true → e.on ≠ i := fun e he hb heq => by
        have h1 := hall e he hb
        have h0 := (mem_ready.1 hr).1
        rw [heq] at h1
        rcases Nat.lt_or_ge i listed.size with h' | h'
        · simp [h'] at h0 h1; rw [h0] at h1; cases h1
        · simp [Array.getElem?_eq_none h'] at h1
      have hjl : late j = false := by
        cases hl : late j with
        | false => rfl
        | true =>
          obtain ⟨e, he, hb, hh⟩ := hclos j oj hoj hl
          rcases hh with hh | hh
          · exact absurd hh (hnot e he hb)
          · have h3 := hall e he hb
            rw [hlate _ hh] at h3
            simp at h3
      obtain ⟨hap, hss⟩ := hfree j oj hoj hji hjun hnot
      obtain ⟨hs1, hs2⟩ := hss hjl
      obtain ⟨a1, a2, a3⟩ := Oper.apart_spec hap
      have fin : ∀ ej σj, HStep cx ops sl ef I j oj e σ ej σj → HStep cx ops sl ef I i oi ej σj e2 σ2 → ∃ e' σ', HStep cx ops sl ef I j oj e σ e' σ' ∧ anyH cx ops sl ef I Q (fuel + 1) (listed.setIfInBounds j true) e' σ' := fun ej σj hsj hsi => by
        refine ⟨ej, σj, hsj, ?_⟩
        refine ih (listed.setIfInBounds j true) ej σj e2 σ2 (fun k hk => ?_) (fun k ok hk hki hun hno => ?_) (ready_mono hr (Ne.symm hji)) hsi ?_
        · have hkj : j ≠ k := fun h => by rw [h, hk] at hjl; simp at hjl
          rw [getD_set_ne false hkj]
          exact hlate k hk
        · refine hfree k ok hk hki ?_ hno
          by_cases hjk : j = k
          · subst hjk; exact hjun
          · rw [getD_set_ne true hjk] at hun; exact hun
        · rw [Array.setIfInBounds_comm _ _ hji]
          exact h2
      rcases hy with ⟨hgi, s, hopi, rfl, rfl⟩ | ⟨hgi, rfl, rfl⟩ | ⟨hgi, hefi, hdi, hopi, rfl, hi1, hi2⟩
      · rcases h1 with ⟨hgj, sj, hopj, rfl, rfl⟩ | ⟨hgj, rfl, rfl⟩ | ⟨hgj, hefj, hdj, hopj, rfl, hj1, hj2⟩
        · refine fin (e.put oj.dst sj) _ (.inl ⟨hgj.same fun t ht => (put_looks a1 t ht).symm, sj, ?_, rfl, rfl⟩) (.inl ⟨hgi.same (put_looks a3), s, ?_, (Env.put_comm e oi.dst oj.dst s sj a2), rfl⟩)
          · exact hopj.imp (fun h => ⟨h.1, h.2.same fun t ht => (put_looks a1 t ht).symm⟩) (fun h => ⟨h.1, fun τ hτ => (h.2 τ hτ).same fun t ht => (put_looks a1 t ht).symm⟩)
          · exact hopi.imp (fun h => ⟨h.1, h.2.same (put_looks a3)⟩) (fun h => ⟨h.1, fun τ hτ => (h.2 τ hτ).same (put_looks a3)⟩)
        · refine fin (e.put oj.dst (.d (.v undef))) _ (.inr (.inl ⟨hgj.same fun t ht => (put_looks a1 t ht).symm, rfl, rfl⟩)) (.inl ⟨hgi.same (put_looks a3), s, ?_, (Env.put_comm e oi.dst oj.dst s _ a2), rfl⟩)
          exact hopi.imp (fun h => ⟨h.1, h.2.same (put_looks a3)⟩) (fun h => ⟨h.1, fun τ hτ => (h.2 τ hτ).same (put_looks a3)⟩)
        · have hsi : sl i = false := by
            rcases hs2 with h | h
            · exact h
            · rw [hefj] at h; simp at h
          refine fin e σ2 (.inr (.inr ⟨hgj.same fun t ht => (put_looks a1 t ht).symm, hefj, hdj, hopj.same fun t ht => (put_looks a1 t ht).symm, rfl, hj1, hj2⟩)) (.inl ⟨hgi, s, .inr ?_, rfl, rfl⟩)
          rcases hopi with h | h
          · rw [h.1] at hsi; simp at hsi
          · exact ⟨hj2, h.2⟩
      · rcases h1 with ⟨hgj, sj, hopj, rfl, rfl⟩ | ⟨hgj, rfl, rfl⟩ | ⟨hgj, hefj, hdj, hopj, rfl, hj1, hj2⟩
        · refine fin (e.put oj.dst sj) _ (.inl ⟨hgj.same fun t ht => (put_looks a1 t ht).symm, sj, ?_, rfl, rfl⟩) (.inr (.inl ⟨hgi.same (put_looks a3), (Env.put_comm e oi.dst oj.dst _ sj a2), rfl⟩))
          exact hopj.imp (fun h => ⟨h.1, h.2.same fun t ht => (put_looks a1 t ht).symm⟩) (fun h => ⟨h.1, fun τ hτ => (h.2 τ hτ).same fun t ht => (put_looks a1 t ht).symm⟩)
        · exact fin (e.put oj.dst (.d (.v undef))) _ (.inr (.inl ⟨hgj.same fun t ht => (put_looks a1 t ht).symm, rfl, rfl⟩)) (.inr (.inl ⟨hgi.same (put_looks a3), (Env.put_comm e oi.dst oj.dst _ _ a2), rfl⟩))
        · exact fin e σ2 (.inr (.inr ⟨hgj.same fun t ht => (put_looks a1 t ht).symm, hefj, hdj, hopj.same fun t ht => (put_looks a1 t ht).symm, rfl, hj1, hj2⟩)) (.inr (.inl ⟨hgi, rfl, rfl⟩))
      · have hsj : sl j = false := by
          rcases hs1 with h | h
          · rw [hefi] at h; simp at h
          · exact h
        rcases h1 with ⟨hgj, sj, hopj, rfl, rfl⟩ | ⟨hgj, rfl, rfl⟩ | ⟨hgj, hefj, hdj, hopj, rfl, hj1, hj2⟩
        · have hall : ∀ τ, I τ → AOp cx.P cx.B ops oj e1 τ sj := by
            rcases hopj with h | h
            · rw [h.1] at hsj; simp at hsj
            · exact h.2
          exact fin (e1.put oj.dst sj) σ (.inl ⟨hgj, sj, .inr ⟨hi1, hall⟩, rfl, rfl⟩) (.inr (.inr ⟨hgi.same (put_looks a3), hefi, hdi, hopi.same (put_looks a3), rfl, hi1, hi2⟩))
        · exact fin (e1.put oj.dst (.d (.v undef))) σ (.inr (.inl ⟨hgj, rfl, rfl⟩)) (.inr (.inr ⟨hgi.same (put_looks a3), hefi, hdi, hopi.same (put_looks a3), rfl, hi1, hi2⟩))
        · rw [hse j hefj] at hsj; simp at hsj

theorem anyH_lex {cx : Cx} {ops : Array Oper} {sl ef : Nat → Bool} {I : Obs → Prop} (hse : ∀ k, ef k = true → sl k = true) {Q : Env → Obs → Prop} : ∀ (l : List Oper) (k : Nat) (listed : Array Bool) (e : Env) (σ : Obs), (∀ j, l[j]? = ops[k + j]?) →
    Region.lexFrom .any ops l.length k listed = true → Region.sensFrom ops sl ef l.length k listed = true → HRun cx ops sl ef I k l e σ Q → anyH cx ops sl ef I Q l.length listed e σ
  | [], _, _, _, _, _, hB, _, h => ⟨by simpa [Region.lexFrom] using hB, h⟩
  | o :: l, k, listed, e, σ, hl, hB, hS, h => by
    have h0 : ops[k]? = some o := by simpa using (hl 0).symm
    simp only [List.length_cons, Region.lexFrom, Bool.and_eq_true] at hB
    simp only [List.length_cons, Region.sensFrom, Bool.and_eq_true] at hS
    obtain ⟨⟨hr, hf⟩, hB'⟩ := hB
    have hl' : ∀ j, l[j]? = ops[k + 1 + j]? := fun j => by have := hl (j + 1); simpa [Nat.add_assoc, Nat.add_comm 1 j] using this
    obtain ⟨_, e', σ', hs, hK⟩ := h
    have hgo := anyH_lex hse l (k + 1) _ _ _ hl' hB' hS.2 hK
    by_cases hc : (sl k || ef k) = true
    · have h1 := hS.1
      rw [if_pos hc] at h1
      obtain ⟨k1, k2, k3⟩ := Region.sensFree_spec h1 (fun j hj => by
        unfold Region.lateB at hj
        simp only [Bool.and_eq_true, Nat.blt_eq] at hj
        exact hj.1)
      exact anyH_first hse h0 _ k1 l.length listed e σ e' σ' k2 (fun j oj hj hji hun hno => ⟨Region.free_spec h0 hf j oj hj hji hun hno, fun hl => k3 j oj hj hji hun hl⟩) (by simpa using hr) hs hgo
    · have h2 : sl k = false ∧ ef k = false := by simpa using hc
      exact anyH_first hse h0 (fun _ => false) (fun _ _ _ h => by simp at h) l.length listed e σ e' σ' (fun _ h => by simp at h) (fun j oj hj hji hun hno => ⟨Region.free_spec h0 hf j oj hj hji hun hno, fun _ => ⟨.inl h2.2, .inl h2.1⟩⟩) (by simpa using hr) hs hgo

theorem HRun.dsts {cx : Cx} {ops : Array Oper} {sl ef : Nat → Bool} {I : Obs → Prop} {Q : Env → Obs → Prop} : ∀ (l : List Oper) (k : Nat) (e : Env) (σ : Obs), HRun cx ops sl ef I k l e σ Q → ∀ o ∈ l, DstOk cx.N o
  | [], _, _, _, _, o, ho => by cases ho
  | x :: l, k, e, σ, h, o, ho => by
    obtain ⟨h1, _, _, _, h2⟩ := h
    cases ho with
    | head => exact h1
    | tail _ ho => exact HRun.dsts l _ _ _ h2 o ho

theorem wpAny_of_H {cx : Cx} {ops : Array Oper} {sl ef : Nat → Bool} {I : Obs → Prop} {Q : Post} (hd : ∀ o ∈ ops.toList, DstOk cx.N o) : ∀ (fuel : Nat) (listed : Array Bool) (e : Env) (σ : Obs) (a : Act) (w : World), R cx e σ a w →
    anyH cx ops sl ef I (fun e σ => Q .normal e σ) fuel listed e σ → wpAny cx.P .any ops (lift cx Q) fuel listed a w
  | 0, _, e, σ, _, _, hr, h => ⟨h.1, e, σ, h.2, hr⟩
  | fuel + 1, listed, e, σ, a, w, hr, h => by
    refine ⟨fun h0 => ⟨e, σ, h.1 h0, hr⟩, fun i hi => ?_⟩
    obtain ⟨_, o, ho, _⟩ := mem_ready.1 hi
    obtain ⟨e', σ', hs, hk⟩ := h.2 i hi o ho
    have hdo : DstOk cx.N o := hd o (Array.mem_toList_iff.2 (Array.mem_of_getElem? ho))
    unfold wpOp
    simp only [ho]
    obtain ⟨F, ρ, hr⟩ := hr
    rcases hs with ⟨hg, s, hop, rfl, rfl⟩ | ⟨hg, rfl, rfl⟩ | ⟨hg, _, hdst, hop, rfl, _, _⟩
    · rw [if_pos (hg.wanted (fun t _ => hr.env t))]
      have hop' : AOp cx.P cx.B ops o e σ' s := by
        rcases hop with h | h
        · exact h.2
        · exact h.2 _ h.1
      refine .inl (wp_to ?_ (fun _ _ _ => False.elim) (hop' F ρ w a hr.lt (fun t _ => hr.env t) hr.obs))
      rintro a' w' ⟨v, F', rfl, hv, he⟩
      exact wpAny_of_H hd fuel _ _ _ _ _ ⟨F', ρ, hr.put he hv hdo⟩ hk
    · rw [if_neg (by rw [hg.wanted (fun t _ => hr.env t)]; simp)]
      exact wpAny_of_H hd fuel _ _ _ _ _ ⟨F, ρ, hr.put (Ext.refl hr.lt) repS_undef hdo⟩ hk
    · rw [if_pos (hg.wanted (fun t _ => hr.env t))]
      refine .inl (wp_to ?_ (fun _ _ _ => False.elim) (hop F ρ a w e' hr (fun t _ => hr.env t)))
      rintro a' w' ⟨rfl, h3⟩
      obtain ⟨F', ρ', h4⟩ := h3 e' hr
      exact wpAny_of_H hd fuel _ _ _ _ _ ⟨F', ρ', h4⟩ hk

/-- A region that draws its order and writes, walked once, in the order of the text. -/
theorem AWP.drawH {cx : Cx} {id : Nat} {l : List Oper} {e : Env} {σ : Obs} {Q : Post} (sl ef : Nat → Bool) (I : Obs → Prop) (hse : ∀ k, ef k = true → sl k = true) (hm : cx.P.follows .mixedOrders = true) (hB : Region.lexB .any l.toArray = true)
    (hS : Region.sensFrom l.toArray sl ef l.length 0 (Array.replicate l.length false) = true) (h : HRun cx l.toArray sl ef I 0 l e σ (fun e σ => Q .normal e σ)) : AWP cx (.region id l.toArray true) e σ Q := by
  intro a w ⟨F, ρ, hr⟩
  simp only [Region.lexB, Bool.and_eq_true] at hB
  have h1 := anyH_lex hse l 0 (Array.replicate l.toArray.size false) e σ (by simp) (by simpa using hB.2) (by simpa using hS) h
  exact wp_region_any hm (wpAny_of_H (by simpa using HRun.dsts l 0 e σ h) _ _ e σ a _ ⟨F, ρ, hr.drew⟩ (by simpa using h1))
section
variable {cx : Cx} {ops : Array Oper} {o : Oper} {rest : List Oper} {e : Env} {σ : Obs} {sl ef : Nat → Bool} {I : Obs → Prop} {n : Nat} {l : List Oper} {Q : Env → Obs → Prop}
theorem HRun.nil (h : Q e σ) : HRun cx ops sl ef I n [] e σ Q := h
/-- It reads no object. -/
theorem HRun.step {s : S} {t : Nat} (hg : GW ops o e true) (ht : o.dst = some t) (hd : Nat.blt t cx.N = true) (hI : I σ) (h : ∀ τ, I τ → AOp cx.P cx.B ops o e τ s) (k : HRun cx ops sl ef I (n + 1) l (e.put (some t) s) σ Q) : HRun cx ops sl ef I n (o :: l) e σ Q :=
  ⟨by unfold DstOk; rw [ht]; exact hd, _, _, .inl ⟨hg, s, .inr ⟨hI, h⟩, rfl, rfl⟩, by rw [ht]; exact k⟩
theorem HRun.cons {s : S} (hg : GW ops o e true) (ht : o.dst = none) (hI : I σ) (h : ∀ τ, I τ → AOp cx.P cx.B ops o e τ s) (k : HRun cx ops sl ef I (n + 1) l e σ Q) : HRun cx ops sl ef I n (o :: l) e σ Q :=
  ⟨by unfold DstOk; rw [ht], _, _, .inl ⟨hg, s, .inr ⟨hI, h⟩, rfl, rfl⟩, by rw [ht]; exact k⟩
/-- It reads objects. -/
theorem HRun.stepS {s : S} {t : Nat} (hs : sl n = true) (hg : GW ops o e true) (ht : o.dst = some t) (hd : Nat.blt t cx.N = true) (h : AOp cx.P cx.B ops o e σ s) (k : HRun cx ops sl ef I (n + 1) l (e.put (some t) s) σ Q) : HRun cx ops sl ef I n (o :: l) e σ Q :=
  ⟨by unfold DstOk; rw [ht]; exact hd, _, _, .inl ⟨hg, s, .inl ⟨hs, h⟩, rfl, rfl⟩, by rw [ht]; exact k⟩
theorem HRun.pass {t : Nat} (hg : GW ops o e false) (ht : o.dst = some t) (hd : Nat.blt t cx.N = true) (k : HRun cx ops sl ef I (n + 1) l (e.put (some t) (.d (.v undef))) σ Q) : HRun cx ops sl ef I n (o :: l) e σ Q :=
  ⟨by unfold DstOk; rw [ht]; exact hd, _, _, .inr (.inl ⟨hg, rfl, rfl⟩), by rw [ht]; exact k⟩
theorem HRun.split (t : Nat) {b : Bool} (ht : e t = .d (.v (.bool b))) (h1 : b = true → HRun cx ops sl ef I n l (e.put (some t) (.d (.v (.bool true)))) σ Q) (h0 : b = false → HRun cx ops sl ef I n l (e.put (some t) (.d (.v (.bool false)))) σ Q) : HRun cx ops sl ef I n l e σ Q := by
  cases b with
  | true => have := h1 rfl; rwa [Env.put_id ht] at this
  | false => have := h0 rfl; rwa [Env.put_id ht] at this
/-- It writes. -/
theorem HRun.eff {σ' : Obs} (hf : ef n = true) (hg : GW ops o e true) (ht : o.dst = none) (h : EOp cx ops o e σ σ') (h1 : I σ) (h2 : I σ') (k : HRun cx ops sl ef I (n + 1) l e σ' Q) : HRun cx ops sl ef I n (o :: l) e σ Q :=
  ⟨by unfold DstOk; rw [ht], _, _, .inr (.inr ⟨hg, hf, ht, h, rfl, h1, h2⟩), k⟩
end
/-- A struct with own parts, loaded in a drawn region. -/
theorem XRun.loadVal {cx : Cx} {ops : Array Oper} {σ : Obs} {Φ : List Fr} {e : Env} {Qe : Env → Prop} {o : Oper} {l : List Oper} {t cid off size : Nat} {x : Operand} {ss : List S} (f : Fr) (hf : f ∈ Φ) (hg : GW ops o e true) (hgn : o.guard = none) (ht : o.dst = some f.dst) (hd : Nat.blt f.dst cx.N = true) (ho : o.op = .load t x) (hT : AggT cx.P t size)
    (hx : e.ev x = .ptr cid off) (hm : (cid, Ob.cells ss) ∈ σ) (hl : off + size ≤ ss.length) (hob : f.ob = .val (((ss.drop off).take size).map (S.kill f.id))) (hs : f.s0 = .own f.id) (k : XRun cx ops σ Φ l (e.put (some f.dst) f.s0) Qe) (hfx : cx.free f.id = true := by rfl) : XRun cx ops σ Φ (o :: l) e Qe :=
  ⟨by unfold DstOk; rw [ht]; exact hd, _, .inl ⟨hg, .inl ⟨f, hf, ⟨ht, fun e0 σ hτ he hfr => by
    have h2 : e0.ev x = e.ev x := ev_same fun t ht => he t (looks_op (by rw [ho, ht]; simp [Op.operands]))
    exact AOps.loadVal f.id hgn ht hd ho hT (h2.trans hx) (hτ _ hm) hl hfr (.nil ⟨by rw [hs], by rw [hob]⟩) hfx⟩, rfl⟩⟩, by rw [ht]; exact k⟩
end Go.Proofs.YtieccphckobhjaaDoor


namespace Go.Proofs.YtieccphckobhjaaDoor
open Go.RowKit
set_option linter.unusedVariables false

/-! Types. -/
namespace TyQ5

end TyQ5
open TyQ5


def vId (i : Nat) : Bool := Nat.blt i 1000 && !(Nat.beq i 101)
theorem vId_lt {i : Nat} (h : vId i = true) : i < 1000 ∧ Nat.beq 101 i = false := by
  unfold vId at h
  simp only [Bool.and_eq_true, Nat.blt_eq, Bool.not_eq_true'] at h
  refine ⟨h.1, ?_⟩
  rw [Bool.eq_false_iff]
  intro hh
  have := Nat.eq_of_beq_eq_true hh
  subst this
  simp at h
section
variable {l : List Cpy} {i : Nat} {o : Ob} {pre : Obs}
theorem vk (h : vId i = true) : Obs.kill i (vObs l) = vObs l := vObs_kill (vId_lt h).1
theorem vu (h : vId i = true) : Obs.upd i o (vObs l) = vObs l := by
  unfold vObs Obs.upd
  dsimp only
  rw [(vId_lt h).2]
  unfold famC
  rw [fam_upd_low (vId_lt h).1]
theorem fam_del {e size id : Nat} : ∀ {b : Nat} {l : List (List (List D))}, id < b → Obs.del id (fam e size b l) = fam e size b l
  | _, [], _ => rfl
  | b, y :: l, h => by
    unfold fam Obs.del
    have : Nat.beq b id = false := by rw [Bool.eq_false_iff]; intro hh; have := Nat.eq_of_beq_eq_true hh; omega
    dsimp only
    rw [this, fam_del (by omega)]
theorem vd (h : vId i = true) : Obs.del i (vObs l) = vObs l := by
  unfold vObs Obs.del
  dsimp only
  rw [(vId_lt h).2]
  unfold famC
  rw [fam_del (vId_lt h).1]
theorem vf (h : vId i = true) : Obs.fresh i (vObs l) = true := by
  unfold vObs Obs.fresh
  rw [(vId_lt h).2]
  simp [famC, fam_fresh (vId_lt h).1]
theorem kill_app : ∀ (a b : Obs), Obs.kill i (a ++ b) = Obs.kill i a ++ Obs.kill i b
  | [], _ => rfl
  | p :: a, b => by
    show (p.1, p.2.kill i) :: Obs.kill i (a ++ b) = _
    rw [kill_app a b]; rfl
theorem upd_t {p : Nat × Ob} {l : Obs} (h : Nat.beq p.1 i = true) : Obs.upd i o (p :: l) = (i, o) :: Obs.upd i o l := by
  show (match Nat.beq p.1 i with | true => (i, o) :: Obs.upd i o l | false => p :: Obs.upd i o l) = _
  rw [h]
theorem upd_f {p : Nat × Ob} {l : Obs} (h : Nat.beq p.1 i = false) : Obs.upd i o (p :: l) = p :: Obs.upd i o l := by
  show (match Nat.beq p.1 i with | true => (i, o) :: Obs.upd i o l | false => p :: Obs.upd i o l) = _
  rw [h]
theorem del_t {p : Nat × Ob} {l : Obs} (h : Nat.beq p.1 i = true) : Obs.del i (p :: l) = Obs.del i l := by
  show (match Nat.beq p.1 i with | true => Obs.del i l | false => p :: Obs.del i l) = _
  rw [h]
theorem del_f {p : Nat × Ob} {l : Obs} (h : Nat.beq p.1 i = false) : Obs.del i (p :: l) = p :: Obs.del i l := by
  show (match Nat.beq p.1 i with | true => Obs.del i l | false => p :: Obs.del i l) = _
  rw [h]
theorem upd_app : ∀ (a b : Obs), Obs.upd i o (a ++ b) = Obs.upd i o a ++ Obs.upd i o b
  | [], _ => rfl
  | p :: a, b => by
    rw [List.cons_append]
    cases hb : Nat.beq p.1 i with
    | true => rw [upd_t hb, upd_t hb, upd_app a b]; rfl
    | false => rw [upd_f hb, upd_f hb, upd_app a b]; rfl
theorem del_app : ∀ (a b : Obs), Obs.del i (a ++ b) = Obs.del i a ++ Obs.del i b
  | [], _ => rfl
  | p :: a, b => by
    rw [List.cons_append]
    cases hb : Nat.beq p.1 i with
    | true => rw [del_t hb, del_t hb, del_app a b]
    | false => rw [del_f hb, del_f hb, del_app a b]; rfl
theorem fresh_app : ∀ (a b : Obs), Obs.fresh i (a ++ b) = (Obs.fresh i a && Obs.fresh i b)
  | [], _ => by simp [Obs.fresh]
  | p :: a, b => by
    show (!(Nat.beq p.1 i) && Obs.fresh i (a ++ b)) = ((!(Nat.beq p.1 i) && Obs.fresh i a) && Obs.fresh i b)
    rw [fresh_app a b, Bool.and_assoc]
theorem fK (h : vId i = true) (hp : Obs.fresh i pre = true) : Obs.fresh i (pre ++ vObs l) = true := by rw [fresh_app, hp, vf h]; rfl
theorem kEq (h : vId i = true) (hp : Obs.kill i pre = pre) : Obs.kill i (pre ++ vObs l) = pre ++ vObs l := by rw [kill_app, hp, vk h]
theorem mem_of_eq {a b : Obs} (h : b = a) : ∀ p ∈ b, p ∈ a := fun p hp => h ▸ hp
end
section
variable {cx : Cx} {ops : Array Oper} {rest : List Oper} {e : Env} {Q : Post} {l : List Cpy} {i : Nat} {ob : Ob} {pre : Obs} {Φ : List Fr} {c : Code}
theorem AOps.nK (h : vId i = true) (k : AOps cx ops rest e (((i, ob) :: Obs.kill i pre) ++ vObs l) Q) : AOps cx ops rest e ((i, ob) :: Obs.kill i (pre ++ vObs l)) Q := by rw [kill_app, vk h]; exact k
theorem AWP.nK (h : vId i = true) (k : AWP cx c e (((i, ob) :: Obs.kill i pre) ++ vObs l) Q) : AWP cx c e ((i, ob) :: Obs.kill i (pre ++ vObs l)) Q := by rw [kill_app, vk h]; exact k
theorem AOps.nU (h : vId i = true) (k : AOps cx ops rest e (Obs.upd i ob pre ++ vObs l) Q) : AOps cx ops rest e (Obs.upd i ob (pre ++ vObs l)) Q := by rw [upd_app, vu h]; exact k
theorem AOps.nD (h : vId i = true) (k : AOps cx ops rest e (Obs.del i pre ++ vObs l) Q) : AOps cx ops rest e (Obs.del i (pre ++ vObs l)) Q := by rw [del_app, vd h]; exact k
theorem AWP.nD (h : vId i = true) (k : AWP cx c e (Obs.del i pre ++ vObs l) Q) : AWP cx c e (Obs.del i (pre ++ vObs l)) Q := by rw [del_app, vd h]; exact k
theorem AOps.nA (h : vId i = true) (k : AOps cx ops rest e (Obs.upd i ob (Obs.kill i pre) ++ vObs l) Q) : AOps cx ops rest e (Obs.upd i ob (Obs.kill i (pre ++ vObs l))) Q := by rw [kill_app, vk h, upd_app, vu h]; exact k
theorem AOps.nF (h : true = true) (k : AOps cx ops rest e ((frObs Φ ++ pre) ++ vObs l) Q) : AOps cx ops rest e (frObs Φ ++ (pre ++ vObs l)) Q := by rw [← List.append_assoc]; exact k
end
theorem beqF {a b : Nat} (h : a ≠ b) : Nat.beq a b = false := by rw [Bool.eq_false_iff]; exact fun hh => h (Nat.eq_of_beq_eq_true hh)
/-- A closure over a cell that holds a pointer to a copy, and over a number. -/
theorem snap_clo1 {σ : Obs} {l : List Cpy} {k pid f : Nat} {n : Int} (hp : (pid, Ob.cells [.ptr 101 (k * 7)]) ∈ σ) (h : ∀ p ∈ vObs l, p ∈ σ) (hk : k < l.length) : Snap σ (.clo f [.p pid 0, .d (.fp [.v (.int .i64 n)])]) (.clo (.func f) [.fp [.fp l[k].ds], .fp [.v (.int .i64 n)]]) := by
  refine .clo rfl fun i h1 h2 => ?_
  have hi : i < 2 := h1
  match i, hi with
  | 0, _ =>
    refine .ptr hp (Nat.le_refl 1) fun j h3 h4 => ?_
    have hj : j = 0 := by have : j < 1 := h4; omega
    subst hj
    exact snap_ptr h hk
  | 1, _ => exact .d _
theorem cpysS_ren {i j : Nat} : ∀ {l : List Cpy} {b : Nat}, i < b → (∀ m, m < l.length → b + m ≠ j) → (cpysS b l).map (fun ss => ss.map (S.ren i j)) = cpysS b l
  | [], _, _, _ => rfl
  | c :: l, b, h, hj => by
    have ih := cpysS_ren (i := i) (j := j) (l := l) (b := b + 1) (by omega) (fun m hm => by have := hj (m + 1) (by simp; omega); omega)
    have h1 : Nat.beq b i = false := beqF (by omega)
    have h2 : Nat.beq b j = false := beqF (by have := hj 0 (by simp); omega)
    simp only [cpysS, List.map_cons, ih]
    simp [cpyS, S.ren, h1, h2]
theorem cpysS_renAt {i : Nat} {c : Cpy} : ∀ {l : List Cpy} {b k : Nat}, i < b → k < l.length → (((cpysS b l).set k ((cpyS (b + k) c).set 6 (.own i))).map fun ss => ss.map (S.ren i (b + k))) = cpysS b (l.set k c)
  | d :: l, b, 0, h, _ => by
    have ih := cpysS_ren (i := i) (j := b) (l := l) (b := b + 1) (by omega) (fun m hm => by omega)
    simp only [cpysS, List.set_cons_zero, List.map_cons, Nat.add_zero, ih]
    simp [cpyS, S.ren]
  | d :: l, b, k + 1, h, hk => by
    have ih := cpysS_renAt (i := i) (c := c) (l := l) (b := b + 1) (k := k) (by omega) (by simpa using hk)
    rw [show b + 1 + k = b + (k + 1) by omega] at ih
    have h1 : Nat.beq b i = false := beqF (by omega)
    have h2 : Nat.beq b (b + (k + 1)) = false := beqF (by omega)
    simp only [cpysS, List.set_cons_succ, List.map_cons, ih]
    simp [cpyS, S.ren, h1, h2]

theorem killF {i k : Nat} (h : i < 1000) : S.kill i (.own (1000 + k)) = .own (1000 + k) := by simp only [S.kill, beqF (show 1000 + k ≠ i by omega)]
theorem renP {k t off : Nat} (h1 : t ≠ 51) (h2 : t < 1000) : S.ren 51 (1000 + k) (.ptr t off) = .ptr t off := by simp only [S.ren, beqF h1, beqF (show t ≠ 1000 + k by omega)]
section
variable {cx : Cx} {ops : Array Oper} {rest : List Oper} {e : Env} {Q : Post} {l : List Cpy} {o x : Ob} {pre : Obs}
theorem upd101 (hp : Obs.upd 101 o pre = pre) : Obs.upd 101 o (pre ++ vObs l) = pre ++ ((101, o) :: famC l) := by
  rw [upd_app, hp]
  unfold vObs famC
  rw [upd_t rfl, fam_upd_low (by omega)]
theorem upd101' (hp : Obs.upd 101 o pre = pre) : Obs.upd 101 o (pre ++ ((101, x) :: famC l)) = pre ++ ((101, o) :: famC l) := by
  rw [upd_app, hp]
  unfold famC
  rw [upd_t rfl, fam_upd_low (by omega)]
theorem AOps.n101 (hp : Obs.upd 101 o pre = pre) (k : AOps cx ops rest e (pre ++ ((101, o) :: famC l)) Q) : AOps cx ops rest e (Obs.upd 101 o (pre ++ vObs l)) Q := by rw [upd101 hp]; exact k
theorem AOps.n101' (hp : Obs.upd 101 o pre = pre) (k : AOps cx ops rest e (pre ++ ((101, o) :: famC l)) Q) : AOps cx ops rest e (Obs.upd 101 o (pre ++ ((101, x) :: famC l))) Q := by rw [upd101' hp]; exact k
theorem HRun.n101 {sl ef : Nat → Bool} {I : Obs → Prop} {n : Nat} {K : Env → Obs → Prop} (hp : Obs.upd 101 o pre = pre) (k : HRun cx ops sl ef I n rest e (pre ++ ((101, o) :: famC l)) K) : HRun cx ops sl ef I n rest e (Obs.upd 101 o (pre ++ vObs l)) K := by rw [upd101 hp]; exact k
theorem HRun.n101' {sl ef : Nat → Bool} {I : Obs → Prop} {n : Nat} {K : Env → Obs → Prop} (hp : Obs.upd 101 o pre = pre) (k : HRun cx ops sl ef I n rest e (pre ++ ((101, o) :: famC l)) K) : HRun cx ops sl ef I n rest e (Obs.upd 101 o (pre ++ ((101, x) :: famC l))) K := by rw [upd101' hp]; exact k
end
/-- What checked does to the objects at its end: the blocks that stay lost take the damaged ones' place. -/
theorem ren_checked {pre pre' : Obs} {l : List Cpy} {k : Nat} {day : Int} (hk : k < l.length) (hpre : ∀ p ∈ pre', p ∈ pre ∧ p.1 ≠ 51 ∧ p.1 < 1000 ∧ p.2.ren 51 (1000 + k) = p.2) (h51 : (51, Ob.row 3 1 ((stillI l l[k]).map intD)) ∈ pre) :
    ∀ p ∈ pre' ++ vObs (checkedC l k day), (∃ q ∈ pre ++ ((101, Ob.rowS 77 7 (((cpysS 1000 l).set k ((cpyS (1000 + k) l[k]).set 6 (.own 51))).set k (((cpyS (1000 + k) l[k]).set 6 (.own 51)).set 4 (.d (.v (.int .i64 day)))))) :: famC l), q.1 = 51 ∧ p = (1000 + k, q.2.ren 51 (1000 + k))) ∨
      ∃ q ∈ pre ++ ((101, Ob.rowS 77 7 (((cpysS 1000 l).set k ((cpyS (1000 + k) l[k]).set 6 (.own 51))).set k (((cpyS (1000 + k) l[k]).set 6 (.own 51)).set 4 (.d (.v (.int .i64 day)))))) :: famC l), q.1 ≠ 51 ∧ q.1 ≠ 1000 + k ∧ p = (q.1, q.2.ren 51 (1000 + k)) := by
  have hset : checkedC l k day = l.set k { l[k] with bad := stillI l l[k], last := day } := by
    unfold checkedC
    apply List.ext_getElem?
    intro j
    rw [List.getElem?_modify, List.getElem?_set]
    by_cases hj : k = j
    · subst hj
      rw [List.getElem?_eq_getElem hk]
      simp [hk]
    · simp [hj]
  intro p hp
  rcases List.mem_append.1 hp with hp | hp
  · obtain ⟨h1, h2, h3, h4⟩ := hpre p hp
    exact .inr ⟨p, List.mem_append_left _ h1, h2, by omega, by rw [h4]⟩
  · rcases List.mem_cons.1 hp with rfl | hp
    · refine .inr ⟨_, List.mem_append_right _ (.head _), by show 101 ≠ 51; decide, by show 101 ≠ 1000 + k; omega, ?_⟩
      rw [hset]
      have h5 := cpysS_renAt (i := 51) (c := { l[k] with bad := stillI l l[k], last := day }) (l := l) (b := 1000) (k := k) (by omega) hk
      show (101, Ob.rowS _ 7 _) = (101, Ob.rowS _ 7 _)
      rw [← h5, List.set_set]
      rfl
    · obtain ⟨m, x, h1, rfl⟩ := fam_mem hp
      rw [hset, ← badsD_set, List.getElem?_set] at h1
      by_cases hm : k = m
      · subst hm
        rw [if_pos rfl] at h1
        split at h1
        · refine .inl ⟨_, List.mem_append_left _ h51, rfl, ?_⟩
          rw [← Option.some.inj h1]
          rfl
        · simp at h1
      · rw [if_neg hm] at h1
        exact .inr ⟨(1000 + m, .row 3 1 x), List.mem_append_right _ (.tail _ (fam_get h1)), by show 1000 + m ≠ 51; omega, by show 1000 + m ≠ 1000 + k; omega, rfl⟩


end Go.Proofs.YtieccphckobhjaaDoor


namespace Go.Proofs.YtieccphckobhjaaDoor
open Go.RowKit
set_option linter.unusedVariables false

/-! Types. -/
namespace TyQ6
theorem ag_53 : AggT Tryd.prog 53 5 := .of (by kernel_rfl)
theorem bu_53 : StructT Tryd.prog 53 (fun i => (#[(0, 1), (1, 1), (2, 1), (3, 1), (4, 1)] : Array (Nat × Nat))[i]?) [(.int .i64 0), (.string ⟨#[]⟩), (.string ⟨#[]⟩), (.int .i64 0), (.int .i64 0)] := .of (by kernel_rfl) (by kernel_rfl) (by decide)
theorem et_24 : ElemTy Tryd.prog 24 77 7 96 (.agg #[(.string ⟨#[]⟩), (.string ⟨#[]⟩), (.string ⟨#[]⟩), (.int .i64 0), (.int .i64 0), (.int .i64 0), (.slice none 0 0)]) := ⟨by kernel_rfl, by kernel_rfl, by kernel_rfl, by decide⟩
theorem et_75 : ElemTy Tryd.prog 75 3 1 8 (.int .i64 0) := ⟨by kernel_rfl, by kernel_rfl, by kernel_rfl, by decide⟩
theorem fo_26_2 : fieldOff Tryd.prog 26 2 = some 2 := by kernel_rfl
theorem fo_53_3 : fieldOff Tryd.prog 53 3 = some 3 := by kernel_rfl
theorem fo_53_4 : fieldOff Tryd.prog 53 4 = some 4 := by kernel_rfl
theorem fo_77_0 : fieldOff Tryd.prog 77 0 = some 0 := by kernel_rfl
theorem fo_77_1 : fieldOff Tryd.prog 77 1 = some 1 := by kernel_rfl
theorem fo_77_4 : fieldOff Tryd.prog 77 4 = some 4 := by kernel_rfl
theorem fo_77_6 : fieldOff Tryd.prog 77 6 = some 6 := by kernel_rfl
theorem sc_24 : Scal Tryd.prog 24 := .of (by kernel_rfl)
theorem sc_3 : Scal Tryd.prog 3 := .of (by kernel_rfl)
theorem sc_75 : Scal Tryd.prog 75 := .of (by kernel_rfl)
theorem sc_78 : Scal Tryd.prog 78 := .of (by kernel_rfl)
theorem sc_9 : Scal Tryd.prog 9 := .of (by kernel_rfl)
theorem sz_3 : ∀ w, (sizeOf 3).run Tryd.prog w = .ok 1 w := SizeT.of (by kernel_rfl)
theorem sz_53 : ∀ w, (sizeOf 53).run Tryd.prog w = .ok 5 w := SizeT.of (by kernel_rfl)
theorem zt_3 : (Tryd.prog.info? 3).bind (·.zero) = some (.int .i64 0) := by kernel_rfl
theorem zt_53 : (Tryd.prog.info? 53).bind (·.zero) = some (.agg #[(.int .i64 0), (.string ⟨#[]⟩), (.string ⟨#[]⟩), (.int .i64 0), (.int .i64 0)]) := by kernel_rfl
theorem zt_78 : (Tryd.prog.info? 78).bind (·.zero) = some (.pointer none) := by kernel_rfl
end TyQ6
open TyQ6


theorem hag_d : AggT Tryd.prog 53 5 := .of (by kernel_rfl)
theorem hsz_78 : ∀ w, (sizeOf 78).run Tryd.prog w = .ok 1 w := SizeT.of (by kernel_rfl)
theorem hsc_78 : Scal Tryd.prog 78 := .of (by kernel_rfl)
theorem hsz_i : ∀ w, (sizeOf 3).run Tryd.prog w = .ok 1 w := SizeT.of (by kernel_rfl)


set_option maxRecDepth 100000 in
set_option maxHeartbeats 1000000 in
set_option maxRecDepth 20000 in
set_option maxHeartbeats 2000000 in
theorem c_checked (v : Vlt) (k : Nat) (day : Int) (hkl : k < v.copies.length) (hb : ∀ c ∈ v.copies, c.bad.length ≤ 100000) : XCall Tryd.prog 62 [.own 100, .d (.v (.int .i64 (k : Int))), .d (.v (.int .i64 day))] (harm0 v) (vObs (checkedC v.copies k day)) (fun i => Nat.ble 1000 i || Nat.blt i 100) (.agg (doneC v.copies v.copies[k] day).ds) := by
  have hbk := hb _ (List.getElem_mem hkl)
  have hfx : (!(!(Nat.ble 1000 (1000 + k) || Nat.blt (1000 + k) 100))) = true := by
    have : Nat.ble 1000 (1000 + k) = true := Nat.ble_eq_true_of_le (by omega)
    rw [this]; rfl
  refine xcall_ofC (n := 61) (b := 6) (t := 53) (size := 5) Tryd.func62 rfl (by kernel_rfl) rfl rfl hag_d rfl rfl ?_
  intro B w0 F0 fr ρ0
  refine AWP.obsEq ([(100, .val (vaultS v))] ++ vObs v.copies) rfl ?_
  refine AWP.seq ?_
  refine AWP.region ?_
  refine AOps.boxVal 90 rfl rfl rfl rfl rfl (.head _) (fK rfl rfl) ?_
  refine AOps.nK rfl ?_
  refine AOps.alloc 11 rfl rfl rfl rfl zt_53 rfl rfl (fK rfl rfl) ?_
  refine AOps.nK rfl ?_
  refine AOps.nil ?_
  refine AWP.seq ?_
  refine AWP.region ?_
  refine AOps.step rfl rfl rfl (AOp.fieldAddrP rfl fo_26_2 rfl) ?_
  refine AOps.step rfl rfl rfl (AOp.loadP rfl sc_24 rfl (.tail _ (.head _)) rfl) ?_
  refine AOps.step rfl rfl rfl (AOp.moveD rfl rfl) ?_
  refine AOps.step rfl rfl rfl (AOp.weak (AOp.indexOwn rfl het_24 rfl rfl (Obs.weak_mem (p := (101, _)) (.tail _ (.tail _ (.tail _ (.head _))))) k rfl (by rw [List.length_map, cpysS_len]; exact hkl))) ?_
  refine AOps.alloc 12 rfl rfl rfl rfl zt_78 rfl rfl (fK rfl rfl) ?_
  refine AOps.nK rfl ?_
  refine AOps.eff rfl rfl (EOp.storeC (s := .ptr 101 (k * 7)) rfl rfl hsz_78 rfl (.head _) rfl (.inr ⟨101, k * 7, rfl⟩) (by decide)) ?_
  refine AOps.nU rfl ?_
  refine AOps.nil ?_
  refine AWP.seq ?_
  refine AWP.drawFresh 11 [⟨8, 13, .ptr 13 0, .cells [.d (.v (.int .i64 0)), .d (.v (.string ⟨#[]⟩)), .d (.v (.string ⟨#[]⟩)), .d (.v (.int .i64 0)), .d (.v (.int .i64 0))]⟩] (FrOk.one rfl (by simp) (fK rfl rfl) (kEq rfl rfl) rfl) (by kernel_rfl) (by kernel_rfl) (by kernel_rfl) (by kernel_rfl) ?_
  refine XRun.step rfl rfl rfl (AOp.moveD rfl rfl) ?_
  refine XRun.step rfl rfl rfl (AOp.loadP rfl sc_78 rfl (.head _) rfl) ?_
  refine XRun.step rfl rfl rfl (AOp.nilCheckP rfl rfl) ?_
  refine XRun.step rfl rfl rfl (AOp.fieldAddrP rfl fo_77_0 rfl) ?_
  refine XRun.step rfl rfl rfl (AOp.loadRowS (s := .d (.v (.string v.copies[k].item))) rfl hsc_s rfl (.tail _ (.tail _ (.tail _ (.tail _ (.head _))))) k 0 rfl (cpysS_get (List.getElem?_eq_getElem hkl)) rfl) ?_
  refine XRun.step rfl rfl rfl (AOp.loadP rfl sc_78 rfl (.head _) rfl) ?_
  refine XRun.step rfl rfl rfl (AOp.nilCheckP rfl rfl) ?_
  refine XRun.step rfl rfl rfl (AOp.fieldAddrP rfl fo_77_1 rfl) ?_
  refine XRun.step rfl rfl rfl (AOp.loadRowS (s := .d (.v (.string v.copies[k].carrier))) rfl hsc_s rfl (.tail _ (.tail _ (.tail _ (.tail _ (.head _))))) k 1 rfl (cpysS_get (List.getElem?_eq_getElem hkl)) rfl) ?_
  refine XRun.step rfl rfl rfl (AOp.build rfl bu_53 (.cons rfl rfl (.cons rfl rfl (.cons rfl rfl .nil))) rfl) ?_
  refine XRun.alloc _ (.head _) rfl rfl rfl rfl rfl zt_53 rfl rfl rfl rfl ?_
  refine XRun.nil ⟨rfl, trivial⟩ ?_
  refine AOps.nF rfl ?_
  refine AOps.store rfl rfl rfl sz_53 rfl (.head _) rfl rfl rfl (Nat.le_of_ble_eq_true rfl) ?_
  refine AOps.nU rfl ?_
  refine AOps.nil ?_
  refine AWP.seq ?_
  refine AWP.region ?_
  refine AOps.step rfl rfl rfl (AOp.assignD rfl rfl) ?_
  refine AOps.nil ?_
  refine AWP.seq ?_
  refine AWP.seq ?_
  refine AWP.region ?_
  refine AOps.step rfl rfl rfl (AOp.loadP rfl sc_78 rfl (.tail _ (.head _)) rfl) ?_
  refine AOps.step rfl rfl rfl (AOp.nilCheckP rfl rfl) ?_
  refine AOps.step rfl rfl rfl (AOp.fieldAddrP rfl fo_77_6 rfl) ?_
  refine AOps.step rfl rfl rfl (AOp.loadRowS (s := .own (1000 + k)) rfl hsc_75 rfl (.tail _ (.tail _ (.tail _ (.tail _ (.tail _ (.head _)))))) k 6 rfl (cpysS_get (List.getElem?_eq_getElem hkl)) rfl) ?_
  refine AOps.step rfl rfl rfl (AOp.lenOwn rfl het_75.ht rfl (.tail _ (.tail _ (.tail _ (.tail _ (.tail _ (.tail _ (famC_get hkl)))))))) ?_
  refine AOps.step rfl rfl rfl (AOp.moveD rfl rfl) ?_
  refine AOps.nil ?_
  refine AWP.block ?_
  refine AWP.adopt 9 51 3 1 rfl (fK rfl rfl) ?_
  refine AWP.nK rfl ?_
  refine AWP.loop (G := Nat) (fun j => Env.of [(31, .d (.v (.int .i64 (j : Int)))), (29, .own (1000 + k)), (30, .d (.v (.int .i64 ((v.copies[k].bad.map intD).length : Int)))), (7, .ptr 12 0), (3, .ptr 90 0), (8, .ptr 13 0), (6, .ptr 11 0), (9, .own 51), (2, .d (.v (.int .i64 day)))]) (fun j => [(51, .row 3 1 ((stillTo v.copies v.copies[k] j).map intD)), (13, .cells [.d (.v (.int .i64 day)), .d (.v (.string v.copies[k].item)), .d (.v (.string v.copies[k].carrier)), .d (.v (.int .i64 (fixTo v.copies v.copies[k] j : Int))), .d (.v (.int .i64 ((stillTo v.copies v.copies[k] j).length : Int)))]), (12, .cells [.ptr 101 (k * 7)]), (11, .cells [.d (.v (.int .i64 0)), .d (.v (.string ⟨#[]⟩)), .d (.v (.string ⟨#[]⟩)), .d (.v (.int .i64 0)), .d (.v (.int .i64 0))]), (90, .cells (vaultS v)), (100, .val (vaultS v))] ++ vObs v.copies) (fun j => j ≤ v.copies[k].bad.length) (fun j => v.copies[k].bad.length - j) 0 (Nat.zero_le _) (Sub.less ⟨(SLe.of_eq rfl), (SLe.of_eq (killF (by omega))), SLe.refl _, SLe.refl _, SLe.refl _, SLe.refl _, SLe.refl _, SLe.refl _, SLe.refl _, trivial⟩ (mem_of_eq rfl)) ?_
  intro j hk
  refine AWP.seq ?_
  refine AWP.region ?_
  refine AOps.step rfl rfl rfl (AOp.lss rfl rfl rfl) ?_
  refine AOps.nil ?_
  refine AWP.seq ?_
  refine AWP.cond rfl (fun h1 => ?_) (fun h1 => ?_)
  · replace h1 := of_decide_eq_true h1
    rw [List.length_map] at h1
    have hlt : j < v.copies[k].bad.length := by omega
    have hsl := stillTo_len v.copies v.copies[k] j
    refine AWP.skip ?_
    refine AWP.seq ?_
    refine AWP.block ?_
    refine AWP.seq ?_
    refine AWP.region ?_
    refine AOps.step rfl rfl rfl (AOp.indexOwn rfl het_75 rfl rfl (.tail _ (.tail _ (.tail _ (.tail _ (.tail _ (.tail _ (.tail _ (famC_get hkl)))))))) j rfl (by rw [List.length_map]; exact hlt)) ?_
    refine AOps.step rfl rfl rfl (AOp.loadRow rfl hsc_i rfl (.tail _ (.tail _ (.tail _ (.tail _ (.tail _ (.tail _ (.tail _ (famC_get hkl)))))))) j 0 rfl (at_list hlt) rfl) ?_
    refine AOps.alloc 14 rfl rfl rfl rfl zt_3 rfl rfl (fK rfl rfl) ?_
    refine AOps.nK rfl ?_
    refine AOps.store rfl rfl rfl sz_3 rfl (.head _) rfl rfl rfl (Nat.le_of_ble_eq_true rfl) ?_
    refine AOps.nU rfl ?_
    refine AOps.freezeCells 11 (ds := [.v (.int .i64 v.copies[k].bad[j])]) rfl (.head _) ?_
    refine AOps.nD rfl ?_
    refine AOps.nil ?_
    refine AWP.seq ?_
    refine AWP.region ?_
    refine AOps.le 29 (s := .own (1000 + k)) (s' := .own (1000 + k)) (killF (by omega)) (SLe.refl _) ?_
    refine AOps.step rfl rfl rfl (AOp.fieldAddrP rfl fo_26_2 rfl) ?_
    refine AOps.step rfl rfl rfl (AOp.loadP rfl sc_24 rfl (.tail _ (.tail _ (.tail _ (.tail _ (.head _))))) rfl) ?_
    refine AOps.step rfl rfl rfl (AOp.makeClo rfl (CapsOk.p rfl (CapsOk.d rfl CapsOk.nil))) ?_
    refine AOps.step rfl rfl rfl (AOp.callSnap rfl (.cons rfl (snap_copies (fun p hp => (.tail _ (.tail _ (.tail _ (.tail _ (.tail _ (.tail _ hp)))))))) (.cons rfl (snap_clo1 (.tail _ (.tail _ (.head _))) (fun p hp => (.tail _ (.tail _ (.tail _ (.tail _ (.tail _ (.tail _ hp))))))) hkl) .nil)) (c_containsC v.copies (whole1 v.copies[k] v.copies[k].bad[j]) _ _ (fun x => c_checked1 x v.copies[k] v.copies[k].bad[j])) (.v _)) ?_
    refine AOps.nil ?_
    refine AWP.cond rfl (fun h2 => ?_) (fun h2 => ?_)
    · skip
      have HT := stillTo_t hlt h2
      refine AWP.region ?_
      refine AOps.step rfl rfl rfl (AOp.fieldAddrP rfl fo_53_3 rfl) ?_
      refine AOps.step rfl rfl rfl (AOp.loadP rfl sc_3 rfl (.tail _ (.head _)) rfl) ?_
      refine AOps.step rfl rfl rfl (AOp.add64 rfl rfl rfl (by omega) (by omega)) ?_
      refine AOps.step rfl rfl rfl (AOp.fieldAddrP rfl fo_53_3 rfl) ?_
      refine AOps.store rfl rfl rfl sz_3 rfl (.tail _ (.head _)) rfl rfl rfl (Nat.le_of_ble_eq_true rfl) ?_
      refine AOps.nU rfl ?_
      refine AOps.nil ?_
      refine AWP.region ?_
      refine AOps.step rfl rfl rfl (AOp.add64 rfl rfl rfl (by omega) (by omega)) ?_
      refine AOps.step rfl rfl rfl (AOp.moveD rfl rfl) ?_
      refine AOps.nil ?_
      refine ⟨j + 1, (by omega), (by dsimp only; omega), Sub.less ⟨(SLe.of_eq rfl), SLe.refl _, SLe.refl _, SLe.refl _, SLe.refl _, SLe.refl _, SLe.refl _, SLe.refl _, SLe.refl _, trivial⟩ (mem_of_eq (by dsimp only; rw [HT.1, HT.2, Int.natCast_add]; rfl))⟩
    · skip
      have HT := stillTo_f hlt h2
      refine AWP.seq ?_
      refine AWP.region ?_
      refine AOps.step rfl rfl rfl (AOp.moveO rfl rfl) ?_
      refine AOps.step rfl rfl rfl (AOp.load rfl sc_3 rfl) ?_
      refine AOps.step rfl rfl rfl (AOp.buildSlice rfl et_75 (.cons rfl rfl rfl .nil) rfl (by decide)) ?_
      -- append 46
      refine AOps.append rfl rfl rfl rfl et_75 rfl (.head _) rfl (by simp [D.parts]) (by simp; omega) (by simp; omega) ?_
      refine AOps.nA rfl ?_
      refine AOps.le 29 (s := .own (1000 + k)) (s' := .own (1000 + k)) (killF (by omega)) (SLe.refl _) ?_
      refine AOps.step rfl rfl rfl (AOp.assignO rfl rfl) ?_
      refine AOps.nil ?_
      refine AWP.region ?_
      refine AOps.step rfl rfl rfl (AOp.fieldAddrP rfl fo_53_4 rfl) ?_
      refine AOps.step rfl rfl rfl (AOp.loadP rfl sc_3 rfl (.tail _ (.head _)) rfl) ?_
      refine AOps.step rfl rfl rfl (AOp.add64 rfl rfl rfl (by omega) (by omega)) ?_
      refine AOps.step rfl rfl rfl (AOp.fieldAddrP rfl fo_53_4 rfl) ?_
      refine AOps.store rfl rfl rfl sz_3 rfl (.tail _ (.head _)) rfl rfl rfl (Nat.le_of_ble_eq_true rfl) ?_
      refine AOps.nU rfl ?_
      refine AOps.nil ?_
      refine AWP.region ?_
      refine AOps.step rfl rfl rfl (AOp.add64 rfl rfl rfl (by omega) (by omega)) ?_
      refine AOps.step rfl rfl rfl (AOp.moveD rfl rfl) ?_
      refine AOps.nil ?_
      refine ⟨j + 1, (by omega), (by dsimp only; omega), Sub.less ⟨(SLe.of_eq rfl), SLe.refl _, SLe.refl _, SLe.refl _, SLe.refl _, SLe.refl _, SLe.refl _, SLe.refl _, SLe.refl _, trivial⟩ (mem_of_eq (by dsimp only; rw [HT.1, HT.2, List.map_append, List.length_append, Int.natCast_add]; rfl))⟩
  · replace h1 := of_decide_eq_false h1
    rw [List.length_map] at h1
    obtain rfl : j = v.copies[k].bad.length := by omega
    refine AWP.exit ?_
    refine AWP.seq ?_
    rw [(stillTo_all v.copies v.copies[k]).1, (stillTo_all v.copies v.copies[k]).2]
    refine AWP.obsEq ([_, _, _, _, _, _] ++ vObs v.copies) rfl ?_
    refine AWP.drawH (fun k => (Nat.beq k 6 || Nat.beq k 9) || (false)) (fun k => Nat.beq k 6 || Nat.beq k 9) (fun τ => (12, Ob.cells [.ptr 101 (k * 7)]) ∈ τ) (fun k h => Bool.or_eq_true_iff.2 (.inl h)) (by kernel_rfl) (by kernel_rfl) (by kernel_rfl) ?_
    refine HRun.step rfl rfl rfl (.tail _ (.tail _ (.head _))) (fun τ hτ => AOp.loadP rfl hsc_78 rfl hτ rfl) ?_
    refine HRun.step rfl rfl rfl (.tail _ (.tail _ (.head _))) (fun τ hτ => AOp.loadP rfl hsc_78 rfl hτ rfl) ?_
    refine HRun.step rfl rfl rfl (.tail _ (.tail _ (.head _))) (fun τ hτ => AOp.moveO rfl rfl) ?_
    refine HRun.step rfl rfl rfl (.tail _ (.tail _ (.head _))) (fun τ hτ => AOp.moveD rfl rfl) ?_
    refine HRun.step rfl rfl rfl (.tail _ (.tail _ (.head _))) (fun τ hτ => AOp.nilCheckP rfl rfl) ?_
    refine HRun.step rfl rfl rfl (.tail _ (.tail _ (.head _))) (fun τ hτ => AOp.fieldAddrP rfl fo_77_6 rfl) ?_
    refine HRun.eff rfl rfl rfl (EOp.storeRowS (s := .own 51) rfl rfl hsz_75 rfl (.tail _ (.tail _ (.tail _ (.tail _ (.tail _ (.tail _ (.head _))))))) rfl (.own (.head _)) k 6 rfl (cpysS_get (List.getElem?_eq_getElem hkl)) (by decide)) (.tail _ (.tail _ (.head _))) (.tail _ (.tail _ (.head _))) ?_
    refine HRun.n101 (pre := [_, _, _, _, _, _]) (l := v.copies) (by rfl) ?_
    refine HRun.step rfl rfl rfl (.tail _ (.tail _ (.head _))) (fun τ hτ => AOp.nilCheckP rfl rfl) ?_
    refine HRun.step rfl rfl rfl (.tail _ (.tail _ (.head _))) (fun τ hτ => AOp.fieldAddrP rfl fo_77_4 rfl) ?_
    refine HRun.eff rfl rfl rfl (EOp.storeRowS (s := .d (.v (.int .i64 day))) rfl rfl hsz_i rfl (.tail _ (.tail _ (.tail _ (.tail _ (.tail _ (.tail _ (.head _))))))) rfl (.d rfl rfl) k 4 rfl (ss := (cpyS (1000 + k) v.copies[k]).set 6 (.own 51)) (by rw [List.getElem?_set]; simp [cpysS_len, hkl]) (by decide)) (.tail _ (.tail _ (.head _))) (.tail _ (.tail _ (.head _))) ?_
    refine HRun.n101' (pre := [_, _, _, _, _, _]) (l := v.copies) (by rfl) ?_
    refine HRun.nil ?_
    refine AWP.seq ?_
    refine AWP.rename 51 (1000 + k) ([(13, .cells ((doneC v.copies v.copies[k] day).ds.map S.d)), (11, .cells [.d (.v (.int .i64 0)), .d (.v (.string ⟨#[]⟩)), .d (.v (.string ⟨#[]⟩)), .d (.v (.int .i64 0)), .d (.v (.int .i64 0))])] ++ vObs (checkedC v.copies k day)) (by omega) hfx (ren_checked hkl (fun p hp => ?_) (.head _)) ?_
    · rcases List.mem_cons.1 hp with rfl | hp
      · exact ⟨.tail _ (.head _), by show 13 ≠ 51; decide, by show 13 < 1000; decide, rfl⟩
      · have hp : p = _ := List.mem_singleton.1 hp
        subst hp
        exact ⟨.tail _ (.tail _ (.tail _ (.head _))), by show 11 ≠ 51; decide, by show 11 < 1000; decide, rfl⟩
    refine AWP.region ?_
    refine AOps.le 8 (s := .ptr 13 0) (s' := .ptr 13 0) (renP (k := k) (t := 13) (off := 0) (by decide) (by decide)) (SLe.refl _) ?_
    refine AOps.le 6 (s := .ptr 11 0) (s' := .ptr 11 0) (renP (k := k) (t := 11) (off := 0) (by decide) (by decide)) (SLe.refl _) ?_
    refine AOps.step rfl rfl rfl (AOp.loadPU rfl ag_53 rfl (.head _) rfl rfl) ?_
    refine AOps.store rfl rfl rfl sz_53 rfl (.tail _ (.head _)) rfl rfl rfl (Nat.le_of_ble_eq_true rfl) ?_
    refine AOps.nU rfl ?_
    refine AOps.nil ?_
    refine AWP.ret ?_
    exact ⟨⟨11, rfl, .tail _ (.head _)⟩, AllIn.of fun p hp => .tail _ (.tail _ hp)⟩

end Go.Proofs.YtieccphckobhjaaDoor


namespace Go.Proofs.YtieccphckobhjaaDoor
open Go.RowKit
set_option linter.unusedVariables false

/-! Types. -/
namespace TyE0

end TyE0
open TyE0


instance memDec (s : ByteArray) (l : List ByteArray) : Decidable (s ∈ l) := @List.instDecidableMemOfLawfulBEq ByteArray instBEqOfDecidableEq inferInstance s l
structure CpyOk (v : Vlt) (c : Cpy) : Prop where
  item : 0 ≤ itemIdx v c.item
  carr : 0 ≤ carrIdx v c.carrier
  frm : c.frm = ⟨#[]⟩ ∨ 0 ≤ carrIdx v c.frm
  ne : c.frm ≠ c.carrier
  day : 0 ≤ c.day ∧ c.day ≤ 200000
  last : c.day ≤ c.last ∧ c.last ≤ 200000
  gen : 1 ≤ c.gen ∧ c.gen ≤ 100
  form : decide (c.gen = 1) = decide (c.frm = ⟨#[]⟩)
  bad : ffst (badFault (itemBlocks v c.item) c.bad) c.bad.length = 0
theorem cpyOk_of {v : Vlt} {c : Cpy} {b : Option Cpy} (h : cpyFault v c b = 0) : CpyOk v c ∧ ∀ d, b = some d → cpyCmp d c < 0 := by
  unfold cpyFault at h
  by_cases h1 : itemIdx v c.item < 0 ∨ carrIdx v c.carrier < 0
  · rw [if_pos h1] at h; simp at h
  rw [if_neg h1] at h
  by_cases h2 : ∃ d, b = some d ∧ 0 ≤ cpyCmp d c
  · rw [if_pos h2] at h; simp at h
  rw [if_neg h2] at h
  by_cases h3 : c.frm ≠ ⟨#[]⟩ ∧ carrIdx v c.frm < 0
  · rw [if_pos h3] at h; simp at h
  rw [if_neg h3] at h
  by_cases h4 : c.frm = c.carrier
  · rw [if_pos h4] at h; simp at h
  rw [if_neg h4] at h
  by_cases h5 : ¬ (0 ≤ c.day ∧ c.day ≤ 200000) ∨ ¬ (c.day ≤ c.last ∧ c.last ≤ 200000) ∨ ¬ (1 ≤ c.gen ∧ c.gen ≤ 100)
  · rw [if_pos h5] at h; simp at h
  rw [if_neg h5] at h
  by_cases h6 : decide (c.gen = 1) ≠ decide (c.frm = ⟨#[]⟩)
  · rw [if_pos h6] at h; simp at h
  rw [if_neg h6] at h
  refine ⟨⟨by omega, by omega, ?_, h4, by omega, by omega, by omega, Decidable.not_not.1 h6, h⟩, fun d hd => by
    by_cases hh : cpyCmp d c < 0
    · exact hh
    · exact absurd ⟨d, hd, by omega⟩ h2⟩
  by_cases h7 : c.frm = ⟨#[]⟩
  · exact .inl h7
  · right
    by_cases h8 : carrIdx v c.frm < 0
    · exact absurd ⟨h7, h8⟩ h3
    · omega
structure VOk (v : Vlt) : Prop where
  ni : v.items.length ≤ 30
  nc : v.carrs.length ≤ 16
  np : v.copies.length ≤ 200
  items : ffst (itemFault v.items) v.items.length = 0
  carrs : ffst (carrFault v.carrs) v.carrs.length = 0
  cps : ffst (cpyFaultAt v) v.copies.length = 0
  cpy : ∀ c ∈ v.copies, CpyOk v c
  order : ∀ k (h : k + 1 < v.copies.length), cpyCmp v.copies[k] v.copies[k + 1] < 0
  room : ∀ x ∈ v.carrs, usedOn v x.name ≤ x.room
theorem vok_of {v : Vlt} (h : checkV v = 0) : VOk v := by
  unfold checkV at h
  by_cases h1 : largeV v
  · rw [if_pos h1] at h; simp at h
  rw [if_neg h1] at h
  by_cases h2 : ffst (itemFault v.items) v.items.length ≠ 0
  · rw [if_pos h2] at h; exact absurd h h2
  rw [if_neg h2] at h
  by_cases h3 : ffst (carrFault v.carrs) v.carrs.length ≠ 0
  · rw [if_pos h3] at h; exact absurd h h3
  rw [if_neg h3] at h
  by_cases h4 : ffst (cpyFaultAt v) v.copies.length ≠ 0
  · rw [if_pos h4] at h; exact absurd h h4
  rw [if_neg h4] at h
  by_cases h5 : overFull v = true
  · rw [if_pos h5] at h; simp at h
  have h4' := Decidable.not_not.1 h4
  unfold largeV at h1
  refine ⟨by omega, by omega, by omega, Decidable.not_not.1 h2, Decidable.not_not.1 h3, h4', fun c hc => ?_, fun k hk => ?_, fun x hx => ?_⟩
  · obtain ⟨k, hk, rfl⟩ := List.mem_iff_getElem.1 hc
    have h6 := ffst_all _ h4' k hk
    by_cases h0 : 0 < k
    · rw [cpyFaultAt_some hk h0] at h6; exact (cpyOk_of h6).1
    · rw [cpyFaultAt_none hk h0] at h6; exact (cpyOk_of h6).1
  · have h6 := ffst_all _ h4' (k + 1) hk
    rw [cpyFaultAt_some hk (Nat.succ_pos k)] at h6
    exact (cpyOk_of h6).2 _ rfl
  · refine Int.not_lt.1 fun hh => h5 ?_
    unfold overFull
    exact List.any_eq_true.2 ⟨x, hx, decide_eq_true hh⟩
structure POk (p : Pol) : Prop where
  copies : 1 ≤ p.copies ∧ p.copies ≤ 16
  places : 1 ≤ p.places ∧ p.places ≤ p.copies
  kinds : 1 ≤ p.kinds ∧ p.kinds ≤ p.copies
  every : 1 ≤ p.every ∧ p.every ≤ 200000
  old : 1 ≤ p.old ∧ p.old ≤ 200000
  gens : 1 ≤ p.gens ∧ p.gens ≤ 100
theorem pok_of {p : Pol} (h : polFault p = 0) : POk p := by
  unfold polFault at h
  split at h
  · simp at h
  · exact ⟨by omega, by omega, by omega, by omega, by omega, by omega⟩
/-- The error of a vault and a policy. -/
def bothFault (v : Vlt) (p : Pol) : Int := if checkV v ≠ 0 then checkV v else polFault p
theorem both_v {v : Vlt} {p : Pol} (h : checkV v ≠ 0) : bothFault v p = checkV v := if_pos h
theorem both_p {v : Vlt} {p : Pol} (h : checkV v = 0) : bothFault v p = polFault p := if_neg (fun hh => hh h)
theorem both_ok {v : Vlt} {p : Pol} (h : bothFault v p = 0) : VOk v ∧ POk p := by
  unfold bothFault at h
  by_cases h1 : checkV v ≠ 0
  · rw [if_pos h1] at h; exact absurd h h1
  · rw [if_neg h1] at h; exact ⟨vok_of (Decidable.not_not.1 h1), pok_of h⟩
def dayFault (v : Vlt) (p : Pol) (day : Int) : Int := if bothFault v p ≠ 0 then bothFault v p else if 0 ≤ day ∧ day ≤ 200000 then 0 else 1


end Go.Proofs.YtieccphckobhjaaDoor


namespace Go.Proofs.YtieccphckobhjaaDoor
open Go.RowKit
set_option linter.unusedVariables false

/-! Types. -/
namespace TyQ1

end TyQ1
open TyQ1


theorem ffst_zero {f : Nat → Int} : ∀ n, (∀ k, k < n → f k = 0) → ffst f n = 0
  | 0, _ => rfl
  | n + 1, h => ffst_next (ffst_zero n fun k hk => h k (by omega)) (h n (by omega))
/-- Damaged blocks as they must be. -/
def SBad (n : Int) (l : List Int) : Prop := l.Pairwise (· < ·) ∧ ∀ x ∈ l, 0 ≤ x ∧ x ≤ n - 1
theorem pw_of_adj {l : List Int} (h : ∀ k (hk : k + 1 < l.length), l[k] < l[k + 1]) : l.Pairwise (· < ·) := by
  rw [List.pairwise_iff_getElem]
  intro i j hi hj hij
  obtain ⟨d, rfl⟩ : ∃ d, j = i + d + 1 := ⟨j - i - 1, by omega⟩
  clear hij
  induction d with
  | zero => exact h i hj
  | succ d ih => exact Int.lt_trans (ih (by omega)) (h (i + d + 1) hj)
theorem badFault_ok {n : Int} {l : List Int} {k : Nat} (hk : k < l.length) (h : badFault n l k = 0) : (0 ≤ l[k] ∧ l[k] ≤ n - 1) ∧ (0 < k → l[k - 1]'(by omega) < l[k]) := by
  unfold badFault at h
  rw [dif_pos hk] at h
  by_cases h1 : ¬ (0 ≤ l[k] ∧ l[k] ≤ n - 1)
  · rw [if_pos h1] at h; simp at h
  · rw [if_neg h1] at h
    refine ⟨Decidable.not_not.1 h1, fun h0 => ?_⟩
    by_cases h2 : 0 < k ∧ l[k] ≤ l[k - 1]'(by omega)
    · rw [if_pos h2] at h; simp at h
    · exact Int.not_le.1 fun hh => h2 ⟨h0, hh⟩
theorem sbad_of {n : Int} {l : List Int} (h : ffst (badFault n l) l.length = 0) : SBad n l := by
  have h1 := ffst_all _ h
  refine ⟨pw_of_adj fun k hk => ?_, fun x hx => ?_⟩
  · have := (badFault_ok hk (h1 (k + 1) hk)).2 (Nat.succ_pos k)
    simpa using this
  · obtain ⟨k, hk, rfl⟩ := List.mem_iff_getElem.1 hx
    exact (badFault_ok hk (h1 k hk)).1
theorem sbad_fault {n : Int} {l : List Int} (h : SBad n l) : ffst (badFault n l) l.length = 0 :=
  ffst_zero _ fun k hk => badFault_0 hk (h.2 _ (List.getElem_mem hk)) fun h0 => by
    have := List.pairwise_iff_getElem.1 h.1 (k - 1) k (by omega) hk (by omega)
    omega
theorem SBad.ge {n : Int} {l : List Int} (h : SBad n l) : ∀ k (hk : k < l.length), (k : Int) ≤ l[k]
  | 0, hk => (h.2 _ (List.getElem_mem hk)).1
  | k + 1, hk => by
    have h1 := h.ge k (by omega)
    have h2 := List.pairwise_iff_getElem.1 h.1 k (k + 1) (by omega) hk (by omega)
    omega
theorem SBad.len {n : Int} {l : List Int} (h : SBad n l) (hn : 0 ≤ n) : (l.length : Int) ≤ n := by
  by_cases h0 : 0 < l.length
  · have h1 := h.ge (l.length - 1) (by omega)
    have h2 := (h.2 _ (List.getElem_mem (show l.length - 1 < l.length by omega))).2
    omega
  · omega
theorem bsr_spec2 {lt : Nat → Bool} {N : Nat} (hm : ∀ a b, a ≤ b → b < N → lt b = true → lt a = true) : ∀ (n i j : Nat), j - i ≤ n → i ≤ j → j ≤ N → (∀ k, k < i → lt k = true) → (∀ k, k < bsr lt i j → lt k = true) ∧ (∀ k, bsr lt i j ≤ k → k < j → lt k = false)
  | 0, i, j, h, hij, _, h0 => by rw [bsr_end (by omega)]; exact ⟨h0, fun k h1 h2 => by omega⟩
  | n + 1, i, j, h, hij, hN, h0 => by
    by_cases hlt : i < j
    · by_cases hb : lt ((i + j) / 2) = true
      · rw [bsr_up hlt hb]
        exact bsr_spec2 hm n ((i + j) / 2 + 1) j (by omega) (by omega) hN (fun k hk => hm k _ (by omega) (by omega) hb)
      · have hb' : lt ((i + j) / 2) = false := by simpa using hb
        rw [bsr_dn hlt hb']
        have h1 := bsr_spec2 hm n i ((i + j) / 2) (by omega) (by omega) (by omega) h0
        refine ⟨h1.1, fun k h2 h3 => ?_⟩
        by_cases hk : k < (i + j) / 2
        · exact h1.2 k h2 hk
        · cases hlk : lt k with
          | false => rfl
          | true => rw [hm _ k (by omega) (by omega) hlk] at hb'; simp at hb'
    · rw [bsr_end hlt]; exact ⟨h0, fun k h1 h2 => by omega⟩
theorem ltI_eq {l : List Int} {x : Int} {k : Nat} (hk : k < l.length) : ltI l x k = decide (l[k] < x) := by unfold ltI; rw [List.getD_eq_getElem?_getD, List.getElem?_eq_getElem hk]; rfl
theorem posI_spec {l : List Int} {x : Int} (h : l.Pairwise (· < ·)) : (∀ k (hk : k < l.length), k < posI l x → l[k] < x) ∧ (∀ k (hk : k < l.length), posI l x ≤ k → x ≤ l[k]) := by
  have h1 := bsr_spec2 (lt := ltI l x) (N := l.length) (fun a b hab hb hlt => by
    have hbx : l[b] < x := by rw [ltI_eq hb] at hlt; exact of_decide_eq_true hlt
    by_cases e : a = b
    · subst e; exact hlt
    · have := List.pairwise_iff_getElem.1 h a b (by omega) hb (by omega)
      exact ltI_t (by omega) (by omega)) l.length 0 l.length (by omega) (Nat.zero_le _) (Nat.le_refl _) (fun k hk => by omega)
  refine ⟨fun k hk hp => ?_, fun k hk hp => ?_⟩
  · have := h1.1 k hp
    rw [ltI_eq hk] at this
    exact of_decide_eq_true this
  · have := h1.2 k hp hk
    rw [ltI_eq hk] at this
    have := of_decide_eq_false this
    omega
theorem insI_sbad {n x : Int} {l : List Int} (h : SBad n l) (hx : 0 ≤ x ∧ x ≤ n - 1) : SBad n (insI l x) := by
  unfold insI
  split
  · exact h
  · rename_i hh
    have hs := posI_spec (x := x) h.1
    have hple := posI_le l x
    have hgt : ∀ k (hk : k < l.length), posI l x ≤ k → x < l[k] := fun k hk hp => by
      have h1 := hs.2 k hk hp
      have h2 : posI l x < l.length := by omega
      have h3 := hs.2 _ h2 (Nat.le_refl _)
      have h4 : l[posI l x] ≠ x := fun he => hh (hasI_t h2 rfl he)
      by_cases e : k = posI l x
      · subst e; omega
      · have := List.pairwise_iff_getElem.1 h.1 (posI l x) k h2 hk (by omega)
        omega
    refine ⟨?_, fun y hy => ?_⟩
    · rw [List.append_assoc, List.pairwise_append]
      refine ⟨h.1.sublist (List.take_sublist _ _), ?_, fun a ha b hb => ?_⟩
      · rw [List.singleton_append, List.pairwise_cons]
        refine ⟨fun b hb => ?_, h.1.sublist (List.drop_sublist _ _)⟩
        obtain ⟨k, hk, rfl⟩ := List.mem_iff_getElem.1 hb
        rw [List.getElem_drop]
        exact hgt _ _ (by omega)
      · obtain ⟨k, hk, rfl⟩ := List.mem_iff_getElem.1 ha
        rw [List.getElem_take]
        rw [List.length_take] at hk
        have h5 := hs.1 k (by omega) (by omega)
        rcases List.mem_append.1 hb with hb | hb
        · rw [List.mem_singleton] at hb; rw [hb]; exact h5
        · obtain ⟨m, hm, rfl⟩ := List.mem_iff_getElem.1 hb
          rw [List.getElem_drop]
          have := hgt (posI l x + m) (by rw [List.length_drop] at hm; omega) (by omega)
          omega
    · simp only [List.mem_append, List.mem_singleton] at hy
      rcases hy with (hy | rfl) | hy
      · exact h.2 y (List.mem_of_mem_take hy)
      · exact hx
      · exact h.2 y (List.mem_of_mem_drop hy)
theorem stillI_sbad {n : Int} {l : List Cpy} {c : Cpy} (h : SBad n c.bad) : SBad n (stillI l c) := by
  unfold stillI
  exact ⟨h.1.sublist List.filter_sublist, fun x hx => h.2 x (List.mem_filter.1 hx).1⟩
/-! What is right of a vault stays right. -/
theorem cpyFault_zero {v : Vlt} {c : Cpy} {b : Option Cpy} (h : CpyOk v c) (hb : ∀ d, b = some d → cpyCmp d c < 0) : cpyFault v c b = 0 := by
  have h1 := h.item
  have h2 := h.carr
  have h3 := h.day
  have h4 := h.last
  have h5 := h.gen
  unfold cpyFault
  rw [if_neg (by omega), if_neg (fun ⟨d, hd, hd2⟩ => by have := hb d hd; omega), if_neg (fun ⟨ha, hc⟩ => by
    rcases h.frm with hf | hf
    · exact ha hf
    · omega), if_neg h.ne, if_neg (by omega), if_neg (fun hh => hh h.form)]
  exact h.bad
theorem vok_mk {v : Vlt} (ni : v.items.length ≤ 30) (nc : v.carrs.length ≤ 16) (np : v.copies.length ≤ 200) (items : ffst (itemFault v.items) v.items.length = 0) (carrs : ffst (carrFault v.carrs) v.carrs.length = 0)
    (cpy : ∀ c ∈ v.copies, CpyOk v c) (order : ∀ k (h : k + 1 < v.copies.length), cpyCmp v.copies[k] v.copies[k + 1] < 0) (room : ∀ x ∈ v.carrs, usedOn v x.name ≤ x.room) : VOk v :=
  ⟨ni, nc, np, items, carrs, ffst_zero _ fun k hk => by
    by_cases h0 : 0 < k
    · rw [cpyFaultAt_some hk h0]
      refine cpyFault_zero (cpy _ (List.getElem_mem hk)) fun d hd => ?_
      obtain ⟨j, rfl⟩ : ∃ j, k = j + 1 := ⟨k - 1, by omega⟩
      have h1 := order j hk
      rw [← Option.some.inj hd]
      simpa using h1
    · rw [cpyFaultAt_none hk h0]
      exact cpyFault_zero (cpy _ (List.getElem_mem hk)) fun d hd => by simp at hd, cpy, order, room⟩
theorem check_vok {v : Vlt} (h : VOk v) : checkV v = 0 := by
  have h1 := h.ni
  have h2 := h.nc
  have h3 := h.np
  unfold checkV
  rw [if_neg (by unfold largeV; omega), if_neg (fun hh => hh h.items), if_neg (fun hh => hh h.carrs), if_neg (fun hh => hh h.cps), if_neg]
  intro hh
  unfold overFull at hh
  obtain ⟨x, hx, hx2⟩ := List.any_eq_true.1 hh
  have := h.room x hx
  have := of_decide_eq_true hx2
  omega
theorem cpyCmp_same {a b c d : Cpy} (h1 : a.item = c.item) (h2 : a.carrier = c.carrier) (h3 : b.item = d.item) (h4 : b.carrier = d.carrier) : cpyCmp a b = cpyCmp c d := by unfold cpyCmp; rw [h1, h2, h3, h4]
/-- The vault with other copies. -/
def withC (v : Vlt) (l : List Cpy) : Vlt := { v with copies := l }
theorem withC_self (v : Vlt) : withC v v.copies = v := rfl
theorem withC_withC (v : Vlt) (l m : List Cpy) : withC (withC v l) m = withC v m := rfl
theorem useOf_same {v : Vlt} {l : List Cpy} {nm : ByteArray} {c d : Cpy} (h1 : c.item = d.item) (h2 : c.carrier = d.carrier) : useOf (withC v l) nm c = useOf v nm d := by
  unfold useOf
  rw [h1, h2]
  rfl
theorem vok_set {v : Vlt} {l : List Cpy} (h : VOk (withC v l)) {k : Nat} (hk : k < l.length) {c : Cpy} (e1 : c.item = l[k].item) (e2 : c.carrier = l[k].carrier) (e3 : c.frm = l[k].frm) (e4 : c.day = l[k].day) (e5 : c.gen = l[k].gen)
    (hl : c.day ≤ c.last ∧ c.last ≤ 200000) (hb : SBad (itemBlocks v c.item) c.bad) : VOk (withC v (l.set k c)) := by
  have hck := h.cpy l[k] (List.getElem_mem hk)
  have hlen : (l.set k c).length = l.length := List.length_set
  have hget : ∀ i (hi : i < (l.set k c).length), (l.set k c)[i].item = (l[i]'(by omega)).item ∧ (l.set k c)[i].carrier = (l[i]'(by omega)).carrier := fun i hi => by
    rw [List.getElem_set]
    by_cases e : k = i
    · subst e; rw [if_pos rfl]; exact ⟨e1, e2⟩
    · rw [if_neg e]; exact ⟨rfl, rfl⟩
  refine vok_mk h.ni h.nc (by show (l.set k c).length ≤ 200; rw [hlen]; exact h.np) h.items h.carrs (fun d hd => ?_) (fun i hi => ?_) (fun x hx => ?_)
  · rcases List.mem_or_eq_of_mem_set hd with h1 | rfl
    · exact ⟨(h.cpy d h1).item, (h.cpy d h1).carr, (h.cpy d h1).frm, (h.cpy d h1).ne, (h.cpy d h1).day, (h.cpy d h1).last, (h.cpy d h1).gen, (h.cpy d h1).form, (h.cpy d h1).bad⟩
    · refine ⟨?_, ?_, ?_, ?_, ?_, hl, ?_, ?_, sbad_fault hb⟩
      · rw [e1]; exact hck.item
      · rw [e2]; exact hck.carr
      · rw [e3]; exact hck.frm
      · rw [e3, e2]; exact hck.ne
      · rw [e4]; exact hck.day
      · rw [e5]; exact hck.gen
      · rw [e5, e3]; exact hck.form
  · have hi' : i + 1 < (l.set k c).length := hi
    have a := hget i (by omega)
    have b := hget (i + 1) hi'
    have hi2 : i + 1 < l.length := by omega
    have h2 := h.order i hi2
    show cpyCmp (l.set k c)[i] (l.set k c)[i + 1] < 0
    rw [cpyCmp_same a.1 a.2 b.1 b.2]
    exact h2
  · have h3 := h.room x hx
    refine Int.le_trans (Int.le_of_eq ?_) h3
    show usedOn (withC v (l.set k c)) x.name = usedOn (withC v l) x.name
    unfold usedOn usedTo
    show (((l.set k c).take (l.set k c).length).map _).sum = ((l.take l.length).map _).sum
    rw [List.take_length, List.take_length]
    congr 1
    apply List.ext_getElem
    · simp
    · intro i h4 h5
      rw [List.getElem_map, List.getElem_map]
      have hi : i < (l.set k c).length := by simpa using h4
      have a := hget i hi
      unfold useOf
      rw [a.1, a.2]
      rfl
theorem modify_set {l : List Cpy} {k : Nat} (f : Cpy → Cpy) (hk : k < l.length) : l.modify k f = l.set k (f l[k]) := by
  apply List.ext_getElem?
  intro j
  rw [List.getElem?_modify, List.getElem?_set]
  by_cases hj : k = j
  · subst hj
    rw [List.getElem?_eq_getElem hk]
    simp [hk]
  · simp [hj]
/-- A harm that may come. -/
structure HrmOk (v : Vlt) (h : Hrm) : Prop where
  item : 0 ≤ itemIdx v h.item
  carr : 0 ≤ carrIdx v h.carrier
  blk : 0 ≤ h.block ∧ h.block ≤ itemBlocks v h.item - 1
theorem strCmp_eq {a b : ByteArray} (h : strCmp a b = 0) : a = b := strCmp_zero.1 h
theorem cpyCmp_zero {a b : Cpy} (h : cpyCmp a b = 0) : a.item = b.item ∧ a.carrier = b.carrier := by
  unfold cpyCmp at h
  by_cases e : a.item = b.item
  · rw [if_pos e] at h; exact ⟨e, strCmp_eq h⟩
  · rw [if_neg e] at h; exact absurd (strCmp_eq h) e
theorem hasC_spec {l : List Cpy} {it ca : ByteArray} (h : hasC l (keyC it ca) = true) : ∃ hk : posC l (keyC it ca) < l.length, l[posC l (keyC it ca)].item = it ∧ l[posC l (keyC it ca)].carrier = ca := by
  unfold hasC at h
  simp only [Bool.and_eq_true, decide_eq_true_eq] at h
  refine ⟨h.1, ?_⟩
  have h2 := h.2
  rw [List.getD_eq_getElem?_getD, List.getElem?_eq_getElem h.1, Option.getD_some] at h2
  exact cpyCmp_zero h2
theorem harmC_vok {v : Vlt} {l : List Cpy} {h : Hrm} (hv : VOk (withC v l)) (hh : HrmOk v h) : VOk (withC v (harmC l h)) := by
  unfold harmC
  split
  · rename_i hc
    obtain ⟨hk, h1, h2⟩ := hasC_spec hc
    rw [modify_set _ hk]
    have hck := hv.cpy _ (List.getElem_mem hk)
    refine vok_set hv hk rfl rfl rfl rfl rfl hck.last ?_
    refine insI_sbad (sbad_of hck.bad) ?_
    show 0 ≤ h.block ∧ h.block ≤ itemBlocks v l[posC l (keyC h.item h.carrier)].item - 1
    rw [h1]
    exact hh.blk
  · exact hv
theorem harmC_len (l : List Cpy) (h : Hrm) : (harmC l h).length = l.length := by unfold harmC; split <;> simp
theorem harms_vok {v : Vlt} : ∀ (hs : List Hrm) {l : List Cpy}, VOk (withC v l) → (∀ h ∈ hs, HrmOk v h) → VOk (withC v (hs.foldl harmC l))
  | [], _, hv, _ => hv
  | h :: hs, l, hv, hh => harms_vok hs (harmC_vok hv (hh h (by simp))) fun h' hm => hh h' (List.mem_cons_of_mem _ hm)
theorem harms_len : ∀ (hs : List Hrm) (l : List Cpy), (hs.foldl harmC l).length = l.length
  | [], _ => rfl
  | h :: hs, l => by rw [List.foldl_cons, harms_len hs, harmC_len]
/-! A day. -/
def chk1 (every day : Int) (s : List Cpy × List Dn) (k : Nat) : List Cpy × List Dn :=
  match s.1[k]? with
  | none => s
  | some c => if c.last + every > day then s else (checkedC s.1 k day, s.2 ++ [doneC s.1 c day])
def chkTo (every day : Int) (s : List Cpy × List Dn) : Nat → List Cpy × List Dn
  | 0 => s
  | k + 1 => chk1 every day (chkTo every day s k) k
theorem chk1_no {every day : Int} {s : List Cpy × List Dn} {k : Nat} (hk : k < s.1.length) (h : s.1[k].last + every > day) : chk1 every day s k = s := by
  unfold chk1
  rw [List.getElem?_eq_getElem hk]
  exact if_pos h
theorem chk1_yes {every day : Int} {s : List Cpy × List Dn} {k : Nat} (hk : k < s.1.length) (h : ¬ s.1[k].last + every > day) : chk1 every day s k = (checkedC s.1 k day, s.2 ++ [doneC s.1 s.1[k] day]) := by
  unfold chk1
  rw [List.getElem?_eq_getElem hk]
  exact if_neg h
theorem checkedC_len (l : List Cpy) (k : Nat) (day : Int) : (checkedC l k day).length = l.length := by unfold checkedC; simp
theorem chk1_len (every day : Int) (s : List Cpy × List Dn) (k : Nat) : (chk1 every day s k).1.length = s.1.length := by
  unfold chk1
  split
  · rfl
  · split
    · rfl
    · exact checkedC_len _ _ _
theorem chkTo_len (every day : Int) (s : List Cpy × List Dn) : ∀ k, (chkTo every day s k).1.length = s.1.length
  | 0 => rfl
  | k + 1 => by unfold chkTo; rw [chk1_len, chkTo_len every day s k]
theorem chk1_out (every day : Int) (s : List Cpy × List Dn) (k : Nat) : ∃ o, (chk1 every day s k).2 = s.2 ++ o ∧ o.length ≤ 1 := by
  unfold chk1
  split
  · exact ⟨[], by simp⟩
  · split
    · exact ⟨[], by simp⟩
    · exact ⟨[_], rfl, by simp⟩
theorem chkTo_mono (every day : Int) (s : List Cpy × List Dn) (k : Nat) : ∀ m, (chkTo every day s k).2.length ≤ (chkTo every day s (k + m)).2.length
  | 0 => Nat.le_refl _
  | m + 1 => by
    have h1 := chkTo_mono every day s k m
    obtain ⟨o, h2, _⟩ := chk1_out every day (chkTo every day s (k + m)) (k + m)
    show _ ≤ (chk1 every day (chkTo every day s (k + m)) (k + m)).2.length
    rw [h2, List.length_append]
    omega
theorem checkedC_vok {v : Vlt} {l : List Cpy} (hv : VOk (withC v l)) {k : Nat} (hk : k < l.length) {every day : Int} (he : 1 ≤ every) (hd : day ≤ 200000) (h : ¬ l[k].last + every > day) : VOk (withC v (checkedC l k day)) := by
  unfold checkedC
  rw [modify_set _ hk]
  have hck := hv.cpy _ (List.getElem_mem hk)
  have h1 := hck.last
  refine vok_set hv hk rfl rfl rfl rfl rfl ⟨?_, hd⟩ (stillI_sbad (sbad_of hck.bad))
  show l[k].day ≤ day
  omega
theorem chk1_vok {v : Vlt} {s : List Cpy × List Dn} (hv : VOk (withC v s.1)) {every day : Int} (he : 1 ≤ every) (hd : day ≤ 200000) (k : Nat) : VOk (withC v (chk1 every day s k).1) := by
  by_cases hk : k < s.1.length
  · by_cases h : s.1[k].last + every > day
    · rw [chk1_no hk h]; exact hv
    · rw [chk1_yes hk h]; exact checkedC_vok hv hk he hd h
  · unfold chk1
    rw [List.getElem?_eq_none (by omega)]
    exact hv
theorem chkTo_vok {v : Vlt} {s : List Cpy × List Dn} (hv : VOk (withC v s.1)) {every day : Int} (he : 1 ≤ every) (hd : day ≤ 200000) : ∀ k, VOk (withC v (chkTo every day s k).1)
  | 0 => hv
  | k + 1 => chk1_vok (chkTo_vok hv he hd k) he hd k
def dayH (hs : List Hrm) (day : Int) : List Hrm := hs.takeWhile fun h => decide (h.day = day)
structure St where
  l : List Cpy
  hs : List Hrm
  o : List Dn
def day1 (every : Int) (s : St) (day : Int) : St :=
  ⟨(chkTo every day ((dayH s.hs day).foldl harmC s.l, s.o) s.l.length).1, s.hs.drop (dayH s.hs day).length, (chkTo every day ((dayH s.hs day).foldl harmC s.l, s.o) s.l.length).2⟩
def liveTo (every frm : Int) (s : St) : Nat → St
  | 0 => s
  | n + 1 => day1 every (liveTo every frm s n) (frm + n)
theorem day1_len (every : Int) (s : St) (day : Int) : (day1 every s day).l.length = s.l.length := by
  unfold day1
  rw [chkTo_len]
  exact harms_len _ _
theorem liveTo_len (every frm : Int) (s : St) : ∀ n, (liveTo every frm s n).l.length = s.l.length
  | 0 => rfl
  | n + 1 => by unfold liveTo; rw [day1_len, liveTo_len every frm s n]
theorem dayH_sub {hs : List Hrm} {day : Int} : ∀ h ∈ dayH hs day, h ∈ hs := fun _ h => (List.takeWhile_sublist _).subset h
theorem day1_hs {every : Int} {s : St} {day : Int} : ∀ h ∈ (day1 every s day).hs, h ∈ s.hs := fun _ h => List.mem_of_mem_drop h
theorem liveTo_hs {every frm : Int} {s : St} : ∀ n, ∀ h ∈ (liveTo every frm s n).hs, h ∈ s.hs
  | 0, _, h => h
  | n + 1, _, h => liveTo_hs n _ (day1_hs _ h)
theorem day1_vok {v : Vlt} {s : St} (hv : VOk (withC v s.l)) (hh : ∀ h ∈ s.hs, HrmOk v h) {every day : Int} (he : 1 ≤ every) (hd : day ≤ 200000) : VOk (withC v (day1 every s day).l) :=
  chkTo_vok (s := ((dayH s.hs day).foldl harmC s.l, s.o)) (harms_vok _ hv fun h hm => hh h (dayH_sub h hm)) he hd _
theorem liveTo_vok {v : Vlt} {s : St} (hv : VOk (withC v s.l)) (hh : ∀ h ∈ s.hs, HrmOk v h) {every frm : Int} (he : 1 ≤ every) : ∀ n : Nat, frm + n ≤ 200001 → VOk (withC v (liveTo every frm s n).l)
  | 0, _ => hv
  | n + 1, hn => day1_vok (liveTo_vok hv hh he n (by omega)) (fun h hm => hh h (liveTo_hs n h hm)) he (by omega)
theorem vok_bad {v : Vlt} {l : List Cpy} (hv : VOk (withC v l)) : ∀ c ∈ l, c.bad.length ≤ 1000 := fun c hc => by
  have h1 := hv.cpy c hc
  have h2 := itemBlocks_bound (okItems_of hv.items) c.item
  have h3 := (sbad_of h1.bad).len h2.1
  omega
theorem day1_mono (every : Int) (s : St) (day : Int) : s.o.length ≤ (day1 every s day).o.length := by
  have h1 := chkTo_mono every day ((dayH s.hs day).foldl harmC s.l, s.o) 0 s.l.length
  rw [Nat.zero_add] at h1
  exact h1
theorem liveTo_mono (every frm : Int) (s : St) (n : Nat) : ∀ m, (liveTo every frm s n).o.length ≤ (liveTo every frm s (n + m)).o.length
  | 0 => Nat.le_refl _
  | m + 1 => Nat.le_trans (liveTo_mono every frm s n m) (day1_mono every _ _)
/-! All of Live. -/
def harmFault (v : Vlt) (frm to : Int) (hs : List Hrm) (k : Nat) : Int :=
  if h : k < hs.length then
    if ¬ (frm ≤ hs[k].day ∧ hs[k].day ≤ to - 1) then 1
    else if itemIdx v hs[k].item < 0 ∨ carrIdx v hs[k].carrier < 0 then 9
    else if ¬ (0 ≤ hs[k].block ∧ hs[k].block ≤ itemBlocks v hs[k].item - 1) then 1
    else if 0 < k ∧ hs[k].day < (hs[k - 1]'(by omega)).day then 8 else 0
  else 0
def harmsFault (v : Vlt) (frm to : Int) (hs : List Hrm) : Int := if 1000 < (hs.length : Int) then 2 else ffst (harmFault v frm to hs) hs.length
def liveS (v : Vlt) (p : Pol) (frm to : Int) (hs : List Hrm) : St := liveTo p.every frm ⟨v.copies, hs, []⟩ (to - frm).toNat
def liveFault (v : Vlt) (p : Pol) (frm to : Int) (hs : List Hrm) : Int :=
  if bothFault v p ≠ 0 then bothFault v p
  else if ¬ (0 ≤ frm ∧ frm ≤ 200000) ∨ ¬ (frm ≤ to ∧ to ≤ 200001) then 1
  else if harmsFault v frm to hs ≠ 0 then harmsFault v frm to hs
  else if 20000 < (liveS v p frm to hs).o.length then 2 else 0
def liveV (v : Vlt) (p : Pol) (frm to : Int) (hs : List Hrm) : Vlt := if liveFault v p frm to hs = 0 then withC v (liveS v p frm to hs).l else ⟨[], [], []⟩
def liveO (v : Vlt) (p : Pol) (frm to : Int) (hs : List Hrm) : List Dn := if liveFault v p frm to hs = 0 then (liveS v p frm to hs).o else []
theorem harmFault_1 {v : Vlt} {frm to : Int} {hs : List Hrm} {k : Nat} (hk : k < hs.length) (h : ¬ (frm ≤ hs[k].day ∧ hs[k].day ≤ to - 1)) : harmFault v frm to hs k = 1 := by unfold harmFault; rw [dif_pos hk, if_pos h]
theorem harmFault_9 {v : Vlt} {frm to : Int} {hs : List Hrm} {k : Nat} (hk : k < hs.length) (h : frm ≤ hs[k].day ∧ hs[k].day ≤ to - 1) (h2 : itemIdx v hs[k].item < 0 ∨ carrIdx v hs[k].carrier < 0) : harmFault v frm to hs k = 9 := by
  unfold harmFault; rw [dif_pos hk, if_neg (fun hh => hh h), if_pos h2]
theorem harmFault_1b {v : Vlt} {frm to : Int} {hs : List Hrm} {k : Nat} (hk : k < hs.length) (h : frm ≤ hs[k].day ∧ hs[k].day ≤ to - 1) (h2 : ¬ (itemIdx v hs[k].item < 0 ∨ carrIdx v hs[k].carrier < 0)) (h3 : ¬ (0 ≤ hs[k].block ∧ hs[k].block ≤ itemBlocks v hs[k].item - 1)) : harmFault v frm to hs k = 1 := by
  unfold harmFault; rw [dif_pos hk, if_neg (fun hh => hh h), if_neg h2, if_pos h3]
theorem harmFault_8 {v : Vlt} {frm to : Int} {hs : List Hrm} {k : Nat} (hk : k < hs.length) (h : frm ≤ hs[k].day ∧ hs[k].day ≤ to - 1) (h2 : ¬ (itemIdx v hs[k].item < 0 ∨ carrIdx v hs[k].carrier < 0)) (h3 : 0 ≤ hs[k].block ∧ hs[k].block ≤ itemBlocks v hs[k].item - 1) (h4 : 0 < k ∧ hs[k].day < (hs[k - 1]'(by omega)).day) : harmFault v frm to hs k = 8 := by
  unfold harmFault; rw [dif_pos hk, if_neg (fun hh => hh h), if_neg h2, if_neg (fun hh => hh h3), if_pos h4]
theorem harmFault_0 {v : Vlt} {frm to : Int} {hs : List Hrm} {k : Nat} (hk : k < hs.length) (h : frm ≤ hs[k].day ∧ hs[k].day ≤ to - 1) (h2 : ¬ (itemIdx v hs[k].item < 0 ∨ carrIdx v hs[k].carrier < 0)) (h3 : 0 ≤ hs[k].block ∧ hs[k].block ≤ itemBlocks v hs[k].item - 1) (h4 : ¬ (0 < k ∧ hs[k].day < (hs[k - 1]'(by omega)).day)) : harmFault v frm to hs k = 0 := by
  unfold harmFault; rw [dif_pos hk, if_neg (fun hh => hh h), if_neg h2, if_neg (fun hh => hh h3), if_neg h4]
theorem harmFault_ok {v : Vlt} {frm to : Int} {hs : List Hrm} {k : Nat} (hk : k < hs.length) (h : harmFault v frm to hs k = 0) : (frm ≤ hs[k].day ∧ hs[k].day ≤ to - 1) ∧ HrmOk v hs[k] ∧ ¬ (0 < k ∧ hs[k].day < (hs[k - 1]'(by omega)).day) := by
  by_cases h1 : frm ≤ hs[k].day ∧ hs[k].day ≤ to - 1
  · by_cases h2 : itemIdx v hs[k].item < 0 ∨ carrIdx v hs[k].carrier < 0
    · rw [harmFault_9 hk h1 h2] at h; simp at h
    · by_cases h3 : 0 ≤ hs[k].block ∧ hs[k].block ≤ itemBlocks v hs[k].item - 1
      · by_cases h4 : 0 < k ∧ hs[k].day < (hs[k - 1]'(by omega)).day
        · rw [harmFault_8 hk h1 h2 h3 h4] at h; simp at h
        · exact ⟨h1, ⟨by omega, by omega, h3⟩, h4⟩
      · rw [harmFault_1b hk h1 h2 h3] at h; simp at h
  · rw [harmFault_1 hk h1] at h; simp at h
/-- Harms that are right. -/
structure HsOk (v : Vlt) (frm to : Int) (hs : List Hrm) : Prop where
  len : hs.length ≤ 1000
  ok : ∀ h ∈ hs, HrmOk v h
  day : ∀ h ∈ hs, frm ≤ h.day ∧ h.day ≤ to - 1
  sorted : hs.Pairwise fun a b => a.day ≤ b.day
theorem pw_of_adjH {l : List Hrm} (h : ∀ k (hk : k + 1 < l.length), l[k].day ≤ l[k + 1].day) : l.Pairwise fun a b => a.day ≤ b.day := by
  rw [List.pairwise_iff_getElem]
  intro i j hi hj hij
  obtain ⟨d, rfl⟩ : ∃ d, j = i + d + 1 := ⟨j - i - 1, by omega⟩
  clear hij
  induction d with
  | zero => exact h i hj
  | succ d ih => exact Int.le_trans (ih (by omega)) (h (i + d + 1) hj)
theorem hsok_of {v : Vlt} {frm to : Int} {hs : List Hrm} (h : harmsFault v frm to hs = 0) : HsOk v frm to hs := by
  unfold harmsFault at h
  by_cases h1 : 1000 < (hs.length : Int)
  · rw [if_pos h1] at h; simp at h
  · rw [if_neg h1] at h
    have h2 := ffst_all _ h
    refine ⟨by omega, fun x hx => ?_, fun x hx => ?_, pw_of_adjH fun k hk => ?_⟩
    · obtain ⟨k, hk, rfl⟩ := List.mem_iff_getElem.1 hx
      exact (harmFault_ok hk (h2 k hk)).2.1
    · obtain ⟨k, hk, rfl⟩ := List.mem_iff_getElem.1 hx
      exact (harmFault_ok hk (h2 k hk)).1
    · have h3 := (harmFault_ok hk (h2 (k + 1) hk)).2.2
      have h4 : ¬ hs[k + 1].day < hs[k].day := fun hh => h3 ⟨Nat.succ_pos k, by simpa using hh⟩
      omega
theorem hsok_fault {v : Vlt} {frm to : Int} {hs : List Hrm} (h : HsOk v frm to hs) : harmsFault v frm to hs = 0 := by
  have h0 := h.len
  unfold harmsFault
  rw [if_neg (by omega)]
  refine ffst_zero _ fun k hk => ?_
  have h1 := h.ok _ (List.getElem_mem hk)
  have hi := h1.item
  have hc := h1.carr
  refine harmFault_0 hk (h.day _ (List.getElem_mem hk)) (by omega) h1.blk fun ⟨h2, h3⟩ => ?_
  have := List.pairwise_iff_getElem.1 h.sorted (k - 1) k (by omega) hk (by omega)
  omega


end Go.Proofs.YtieccphckobhjaaDoor


namespace Go.Proofs.YtieccphckobhjaaDoor
open Go.RowKit
set_option linter.unusedVariables false

/-! Types. -/
namespace TyQ7
theorem et_22 : ElemTy Tryd.prog 22 69 2 24 (.agg #[(.string ⟨#[]⟩), (.int .i64 0)]) := ⟨by kernel_rfl, by kernel_rfl, by kernel_rfl, by decide⟩
theorem et_23 : ElemTy Tryd.prog 23 73 5 64 (.agg #[(.string ⟨#[]⟩), (.string ⟨#[]⟩), (.string ⟨#[]⟩), (.int .i64 0), (.int .i64 0)]) := ⟨by kernel_rfl, by kernel_rfl, by kernel_rfl, by decide⟩
theorem et_24 : ElemTy Tryd.prog 24 77 7 96 (.agg #[(.string ⟨#[]⟩), (.string ⟨#[]⟩), (.string ⟨#[]⟩), (.int .i64 0), (.int .i64 0), (.int .i64 0), (.slice none 0 0)]) := ⟨by kernel_rfl, by kernel_rfl, by kernel_rfl, by decide⟩
theorem et_75 : ElemTy Tryd.prog 75 3 1 8 (.int .i64 0) := ⟨by kernel_rfl, by kernel_rfl, by kernel_rfl, by decide⟩
theorem fo_26_0 : fieldOff Tryd.prog 26 0 = some 0 := by kernel_rfl
theorem fo_26_1 : fieldOff Tryd.prog 26 1 = some 1 := by kernel_rfl
theorem fo_26_2 : fieldOff Tryd.prog 26 2 = some 2 := by kernel_rfl
theorem sc_22 : Scal Tryd.prog 22 := .of (by kernel_rfl)
theorem sc_23 : Scal Tryd.prog 23 := .of (by kernel_rfl)
theorem sc_24 : Scal Tryd.prog 24 := .of (by kernel_rfl)
theorem sz_22 : ∀ w, (sizeOf 22).run Tryd.prog w = .ok 1 w := SizeT.of (by kernel_rfl)
theorem sz_23 : ∀ w, (sizeOf 23).run Tryd.prog w = .ok 1 w := SizeT.of (by kernel_rfl)
theorem sz_24 : ∀ w, (sizeOf 24).run Tryd.prog w = .ok 1 w := SizeT.of (by kernel_rfl)
theorem zt_26 : (Tryd.prog.info? 26).bind (·.zero) = some (.agg #[(.slice none 0 0), (.slice none 0 0), (.slice none 0 0)]) := by kernel_rfl
end TyQ7
open TyQ7

set_option maxRecDepth 100000 in
set_option maxHeartbeats 1000000 in
theorem c_clItem (l : List Item) (hl : l.length ≤ 1000000) : OCall Tryd.prog 87 [.sl (l.map Item.ds)] 69 2 (l.map Item.ds) := by
  refine ocall_of (n := 8) Tryd.func87 rfl (by kernel_rfl) rfl 2 rfl rfl ?_
  intro B w0 F0 fr
  refine (Classical.em (l = [])).elim (fun hn => ?_) (fun hn => ?_)
  subst hn
  refine AWP.nilOr 0 rfl ?_ (fun ad cap hcap => ?_)
  · skip
    refine AWP.seq ?_
    refine AWP.region ?_
    refine AOps.step rfl rfl rfl (AOp.assignD rfl rfl) ?_
    refine AOps.nil ?_
    refine AWP.seq ?_
    refine AWP.seq ?_
    refine AWP.region ?_
    refine AOps.step rfl rfl rfl (AOp.moveD rfl rfl) ?_
    refine AOps.step rfl rfl rfl (AOp.eqNilV rfl Tryd.underlying22 rfl rfl) ?_
    refine AOps.nil ?_
    refine AWP.cond rfl (fun _ => ?_) (fun h => nomatch h)
    refine AWP.seq ?_
    refine AWP.region ?_
    refine AOps.step rfl rfl rfl (AOp.assignD rfl rfl) ?_
    refine AOps.nil ?_
    refine AWP.adopt 2 51 69 2 rfl rfl ?_
    refine AWP.ret ?_
    refine ⟨51, rfl, mem_row_eq (.head _) ?_⟩
    first | rfl | simp
  · skip
    refine AWP.seq ?_
    refine AWP.region ?_
    refine AOps.step rfl rfl rfl (AOp.assignD rfl rfl) ?_
    refine AOps.nil ?_
    refine AWP.seq ?_
    refine AWP.seq ?_
    refine AWP.region ?_
    refine AOps.step rfl rfl rfl (AOp.moveD rfl rfl) ?_
    refine AOps.step rfl rfl rfl (AOp.eqNilV rfl Tryd.underlying22 rfl rfl) ?_
    refine AOps.nil ?_
    refine AWP.cond rfl (fun h => nomatch h) (fun _ => ?_)
    refine AWP.skip ?_
    refine AWP.seq ?_
    refine AWP.region ?_
    refine AOps.build0 102 rfl rfl rfl rfl et_22 rfl ?_
    refine AOps.step rfl rfl rfl (AOp.moveD rfl rfl) ?_
    refine AOps.le 6 rfl (SLe.d (Le.empty hcap)) ?_
    -- append 7
    refine AOps.append rfl rfl rfl rfl et_22 rfl (.head _) rfl (fun y hy => by first | exact absurd hy List.not_mem_nil | (obtain ⟨x, _, rfl⟩ := List.mem_map.1 hy; rfl)) (by simp; try omega) (by simp; try omega) ?_
    refine AOps.step rfl rfl rfl (AOp.assignO rfl rfl) ?_
    refine AOps.nil ?_
    refine AWP.ret ?_
    refine ⟨102, rfl, mem_row_eq (.head _) ?_⟩
    first | rfl | simp
  · skip
    refine AWP.seq ?_
    refine AWP.region ?_
    refine AOps.step rfl rfl rfl (AOp.assignD rfl rfl) ?_
    refine AOps.nil ?_
    refine AWP.seq ?_
    refine AWP.seq ?_
    refine AWP.region ?_
    refine AOps.step rfl rfl rfl (AOp.moveD rfl rfl) ?_
    refine AOps.step rfl rfl rfl (AOp.eqNilS rfl Tryd.underlying22 rfl rfl (fun h => hn (List.map_eq_nil_iff.1 h))) ?_
    refine AOps.nil ?_
    refine AWP.cond rfl (fun h => nomatch h) (fun _ => ?_)
    refine AWP.skip ?_
    refine AWP.seq ?_
    refine AWP.region ?_
    refine AOps.build0 103 rfl rfl rfl rfl et_22 rfl ?_
    refine AOps.step rfl rfl rfl (AOp.moveD rfl rfl) ?_
    -- append 7
    refine AOps.append rfl rfl rfl rfl et_22 rfl (.head _) rfl (fun y hy => by first | exact absurd hy List.not_mem_nil | (obtain ⟨x, _, rfl⟩ := List.mem_map.1 hy; rfl)) (by simp; try omega) (by simp; try omega) ?_
    refine AOps.step rfl rfl rfl (AOp.assignO rfl rfl) ?_
    refine AOps.nil ?_
    refine AWP.ret ?_
    refine ⟨103, rfl, mem_row_eq (.head _) ?_⟩
    first | rfl | simp

set_option maxRecDepth 100000 in
set_option maxHeartbeats 1000000 in
theorem c_clCarr (l : List Carr) (hl : l.length ≤ 1000000) : OCall Tryd.prog 74 [.sl (l.map Carr.ds)] 73 5 (l.map Carr.ds) := by
  refine ocall_of (n := 8) Tryd.func74 rfl (by kernel_rfl) rfl 2 rfl rfl ?_
  intro B w0 F0 fr
  refine (Classical.em (l = [])).elim (fun hn => ?_) (fun hn => ?_)
  subst hn
  refine AWP.nilOr 0 rfl ?_ (fun ad cap hcap => ?_)
  · skip
    refine AWP.seq ?_
    refine AWP.region ?_
    refine AOps.step rfl rfl rfl (AOp.assignD rfl rfl) ?_
    refine AOps.nil ?_
    refine AWP.seq ?_
    refine AWP.seq ?_
    refine AWP.region ?_
    refine AOps.step rfl rfl rfl (AOp.moveD rfl rfl) ?_
    refine AOps.step rfl rfl rfl (AOp.eqNilV rfl Tryd.underlying23 rfl rfl) ?_
    refine AOps.nil ?_
    refine AWP.cond rfl (fun _ => ?_) (fun h => nomatch h)
    refine AWP.seq ?_
    refine AWP.region ?_
    refine AOps.step rfl rfl rfl (AOp.assignD rfl rfl) ?_
    refine AOps.nil ?_
    refine AWP.adopt 2 51 73 5 rfl rfl ?_
    refine AWP.ret ?_
    refine ⟨51, rfl, mem_row_eq (.head _) ?_⟩
    first | rfl | simp
  · skip
    refine AWP.seq ?_
    refine AWP.region ?_
    refine AOps.step rfl rfl rfl (AOp.assignD rfl rfl) ?_
    refine AOps.nil ?_
    refine AWP.seq ?_
    refine AWP.seq ?_
    refine AWP.region ?_
    refine AOps.step rfl rfl rfl (AOp.moveD rfl rfl) ?_
    refine AOps.step rfl rfl rfl (AOp.eqNilV rfl Tryd.underlying23 rfl rfl) ?_
    refine AOps.nil ?_
    refine AWP.cond rfl (fun h => nomatch h) (fun _ => ?_)
    refine AWP.skip ?_
    refine AWP.seq ?_
    refine AWP.region ?_
    refine AOps.build0 102 rfl rfl rfl rfl et_23 rfl ?_
    refine AOps.step rfl rfl rfl (AOp.moveD rfl rfl) ?_
    refine AOps.le 6 rfl (SLe.d (Le.empty hcap)) ?_
    -- append 7
    refine AOps.append rfl rfl rfl rfl et_23 rfl (.head _) rfl (fun y hy => by first | exact absurd hy List.not_mem_nil | (obtain ⟨x, _, rfl⟩ := List.mem_map.1 hy; rfl)) (by simp; try omega) (by simp; try omega) ?_
    refine AOps.step rfl rfl rfl (AOp.assignO rfl rfl) ?_
    refine AOps.nil ?_
    refine AWP.ret ?_
    refine ⟨102, rfl, mem_row_eq (.head _) ?_⟩
    first | rfl | simp
  · skip
    refine AWP.seq ?_
    refine AWP.region ?_
    refine AOps.step rfl rfl rfl (AOp.assignD rfl rfl) ?_
    refine AOps.nil ?_
    refine AWP.seq ?_
    refine AWP.seq ?_
    refine AWP.region ?_
    refine AOps.step rfl rfl rfl (AOp.moveD rfl rfl) ?_
    refine AOps.step rfl rfl rfl (AOp.eqNilS rfl Tryd.underlying23 rfl rfl (fun h => hn (List.map_eq_nil_iff.1 h))) ?_
    refine AOps.nil ?_
    refine AWP.cond rfl (fun h => nomatch h) (fun _ => ?_)
    refine AWP.skip ?_
    refine AWP.seq ?_
    refine AWP.region ?_
    refine AOps.build0 103 rfl rfl rfl rfl et_23 rfl ?_
    refine AOps.step rfl rfl rfl (AOp.moveD rfl rfl) ?_
    -- append 7
    refine AOps.append rfl rfl rfl rfl et_23 rfl (.head _) rfl (fun y hy => by first | exact absurd hy List.not_mem_nil | (obtain ⟨x, _, rfl⟩ := List.mem_map.1 hy; rfl)) (by simp; try omega) (by simp; try omega) ?_
    refine AOps.step rfl rfl rfl (AOp.assignO rfl rfl) ?_
    refine AOps.nil ?_
    refine AWP.ret ?_
    refine ⟨103, rfl, mem_row_eq (.head _) ?_⟩
    first | rfl | simp

set_option maxRecDepth 100000 in
set_option maxHeartbeats 1000000 in
theorem c_clCpy (l : List Cpy) (hl : l.length ≤ 1000000) : OCall Tryd.prog 88 [.sl (l.map Cpy.ds)] 77 7 (l.map Cpy.ds) := by
  refine ocall_of (n := 8) Tryd.func88 rfl (by kernel_rfl) rfl 2 rfl rfl ?_
  intro B w0 F0 fr
  refine (Classical.em (l = [])).elim (fun hn => ?_) (fun hn => ?_)
  subst hn
  refine AWP.nilOr 0 rfl ?_ (fun ad cap hcap => ?_)
  · skip
    refine AWP.seq ?_
    refine AWP.region ?_
    refine AOps.step rfl rfl rfl (AOp.assignD rfl rfl) ?_
    refine AOps.nil ?_
    refine AWP.seq ?_
    refine AWP.seq ?_
    refine AWP.region ?_
    refine AOps.step rfl rfl rfl (AOp.moveD rfl rfl) ?_
    refine AOps.step rfl rfl rfl (AOp.eqNilV rfl Tryd.underlying24 rfl rfl) ?_
    refine AOps.nil ?_
    refine AWP.cond rfl (fun _ => ?_) (fun h => nomatch h)
    refine AWP.seq ?_
    refine AWP.region ?_
    refine AOps.step rfl rfl rfl (AOp.assignD rfl rfl) ?_
    refine AOps.nil ?_
    refine AWP.adopt 2 51 77 7 rfl rfl ?_
    refine AWP.ret ?_
    refine ⟨51, rfl, mem_row_eq (.head _) ?_⟩
    first | rfl | simp
  · skip
    refine AWP.seq ?_
    refine AWP.region ?_
    refine AOps.step rfl rfl rfl (AOp.assignD rfl rfl) ?_
    refine AOps.nil ?_
    refine AWP.seq ?_
    refine AWP.seq ?_
    refine AWP.region ?_
    refine AOps.step rfl rfl rfl (AOp.moveD rfl rfl) ?_
    refine AOps.step rfl rfl rfl (AOp.eqNilV rfl Tryd.underlying24 rfl rfl) ?_
    refine AOps.nil ?_
    refine AWP.cond rfl (fun h => nomatch h) (fun _ => ?_)
    refine AWP.skip ?_
    refine AWP.seq ?_
    refine AWP.region ?_
    refine AOps.build0 102 rfl rfl rfl rfl et_24 rfl ?_
    refine AOps.step rfl rfl rfl (AOp.moveD rfl rfl) ?_
    refine AOps.le 6 rfl (SLe.d (Le.empty hcap)) ?_
    -- append 7
    refine AOps.append rfl rfl rfl rfl et_24 rfl (.head _) rfl (fun y hy => by first | exact absurd hy List.not_mem_nil | (obtain ⟨x, _, rfl⟩ := List.mem_map.1 hy; rfl)) (by simp; try omega) (by simp; try omega) ?_
    refine AOps.step rfl rfl rfl (AOp.assignO rfl rfl) ?_
    refine AOps.nil ?_
    refine AWP.ret ?_
    refine ⟨102, rfl, mem_row_eq (.head _) ?_⟩
    first | rfl | simp
  · skip
    refine AWP.seq ?_
    refine AWP.region ?_
    refine AOps.step rfl rfl rfl (AOp.assignD rfl rfl) ?_
    refine AOps.nil ?_
    refine AWP.seq ?_
    refine AWP.seq ?_
    refine AWP.region ?_
    refine AOps.step rfl rfl rfl (AOp.moveD rfl rfl) ?_
    refine AOps.step rfl rfl rfl (AOp.eqNilS rfl Tryd.underlying24 rfl rfl (fun h => hn (List.map_eq_nil_iff.1 h))) ?_
    refine AOps.nil ?_
    refine AWP.cond rfl (fun h => nomatch h) (fun _ => ?_)
    refine AWP.skip ?_
    refine AWP.seq ?_
    refine AWP.region ?_
    refine AOps.build0 103 rfl rfl rfl rfl et_24 rfl ?_
    refine AOps.step rfl rfl rfl (AOp.moveD rfl rfl) ?_
    -- append 7
    refine AOps.append rfl rfl rfl rfl et_24 rfl (.head _) rfl (fun y hy => by first | exact absurd hy List.not_mem_nil | (obtain ⟨x, _, rfl⟩ := List.mem_map.1 hy; rfl)) (by simp; try omega) (by simp; try omega) ?_
    refine AOps.step rfl rfl rfl (AOp.assignO rfl rfl) ?_
    refine AOps.nil ?_
    refine AWP.ret ?_
    refine ⟨103, rfl, mem_row_eq (.head _) ?_⟩
    first | rfl | simp

set_option maxRecDepth 100000 in
set_option maxHeartbeats 1000000 in
theorem c_clInt (l : List Int) (hl : l.length ≤ 1000000) : OCall Tryd.prog 89 [.sl (l.map intD)] 3 1 (l.map intD) := by
  refine ocall_of (n := 8) Tryd.func89 rfl (by kernel_rfl) rfl 2 rfl rfl ?_
  intro B w0 F0 fr
  refine (Classical.em (l = [])).elim (fun hn => ?_) (fun hn => ?_)
  subst hn
  refine AWP.nilOr 0 rfl ?_ (fun ad cap hcap => ?_)
  · skip
    refine AWP.seq ?_
    refine AWP.region ?_
    refine AOps.step rfl rfl rfl (AOp.assignD rfl rfl) ?_
    refine AOps.nil ?_
    refine AWP.seq ?_
    refine AWP.seq ?_
    refine AWP.region ?_
    refine AOps.step rfl rfl rfl (AOp.moveD rfl rfl) ?_
    refine AOps.step rfl rfl rfl (AOp.eqNilV rfl Tryd.underlying75 rfl rfl) ?_
    refine AOps.nil ?_
    refine AWP.cond rfl (fun _ => ?_) (fun h => nomatch h)
    refine AWP.seq ?_
    refine AWP.region ?_
    refine AOps.step rfl rfl rfl (AOp.assignD rfl rfl) ?_
    refine AOps.nil ?_
    refine AWP.adopt 2 51 3 1 rfl rfl ?_
    refine AWP.ret ?_
    refine ⟨51, rfl, mem_row_eq (.head _) ?_⟩
    first | rfl | simp
  · skip
    refine AWP.seq ?_
    refine AWP.region ?_
    refine AOps.step rfl rfl rfl (AOp.assignD rfl rfl) ?_
    refine AOps.nil ?_
    refine AWP.seq ?_
    refine AWP.seq ?_
    refine AWP.region ?_
    refine AOps.step rfl rfl rfl (AOp.moveD rfl rfl) ?_
    refine AOps.step rfl rfl rfl (AOp.eqNilV rfl Tryd.underlying75 rfl rfl) ?_
    refine AOps.nil ?_
    refine AWP.cond rfl (fun h => nomatch h) (fun _ => ?_)
    refine AWP.skip ?_
    refine AWP.seq ?_
    refine AWP.region ?_
    refine AOps.build0 102 rfl rfl rfl rfl et_75 rfl ?_
    refine AOps.step rfl rfl rfl (AOp.moveD rfl rfl) ?_
    refine AOps.le 6 rfl (SLe.d (Le.empty hcap)) ?_
    -- append 7
    refine AOps.append rfl rfl rfl rfl et_75 rfl (.head _) rfl (fun y hy => by first | exact absurd hy List.not_mem_nil | (obtain ⟨x, _, rfl⟩ := List.mem_map.1 hy; rfl)) (by simp; try omega) (by simp; try omega) ?_
    refine AOps.step rfl rfl rfl (AOp.assignO rfl rfl) ?_
    refine AOps.nil ?_
    refine AWP.ret ?_
    refine ⟨102, rfl, mem_row_eq (.head _) ?_⟩
    first | rfl | simp
  · skip
    refine AWP.seq ?_
    refine AWP.region ?_
    refine AOps.step rfl rfl rfl (AOp.assignD rfl rfl) ?_
    refine AOps.nil ?_
    refine AWP.seq ?_
    refine AWP.seq ?_
    refine AWP.region ?_
    refine AOps.step rfl rfl rfl (AOp.moveD rfl rfl) ?_
    refine AOps.step rfl rfl rfl (AOp.eqNilS rfl Tryd.underlying75 rfl rfl (fun h => hn (List.map_eq_nil_iff.1 h))) ?_
    refine AOps.nil ?_
    refine AWP.cond rfl (fun h => nomatch h) (fun _ => ?_)
    refine AWP.skip ?_
    refine AWP.seq ?_
    refine AWP.region ?_
    refine AOps.build0 103 rfl rfl rfl rfl et_75 rfl ?_
    refine AOps.step rfl rfl rfl (AOp.moveD rfl rfl) ?_
    -- append 7
    refine AOps.append rfl rfl rfl rfl et_75 rfl (.head _) rfl (fun y hy => by first | exact absurd hy List.not_mem_nil | (obtain ⟨x, _, rfl⟩ := List.mem_map.1 hy; rfl)) (by simp; try omega) (by simp; try omega) ?_
    refine AOps.step rfl rfl rfl (AOp.assignO rfl rfl) ?_
    refine AOps.nil ?_
    refine AWP.ret ?_
    refine ⟨103, rfl, mem_row_eq (.head _) ?_⟩
    first | rfl | simp


theorem killSelf (i : Nat) : S.kill i (.own i) = .d .any := by simp [S.kill]
theorem killP' {i t off : Nat} (h : t ≠ i) : S.kill i (.ptr t off) = .ptr t off := by simp only [S.kill, beqF h]
theorem killO' {i t : Nat} (h : t ≠ i) : S.kill i (.own t) = .own t := by simp only [S.kill, beqF h]
theorem mem_upd_ne {i : Nat} {o : Ob} : ∀ {σ : Obs} {p : Nat × Ob}, p ∈ σ → p.1 ≠ i → p ∈ Obs.upd i o σ
  | [], _, h, _ => by cases h
  | q :: l, p, h, hn => by
    cases hb : Nat.beq q.1 i with
    | true =>
      rw [upd_t hb]
      rcases List.mem_cons.1 h with rfl | h
      · exact absurd (Nat.eq_of_beq_eq_true hb) hn
      · exact .tail _ (mem_upd_ne h hn)
    | false =>
      rw [upd_f hb]
      rcases List.mem_cons.1 h with rfl | h
      · exact .head _
      · exact .tail _ (mem_upd_ne h hn)
theorem mem_upd_eq {i : Nat} {o x : Ob} : ∀ {σ : Obs}, (i, x) ∈ σ → (i, o) ∈ Obs.upd i o σ
  | [], h => by cases h
  | q :: l, h => by
    cases hb : Nat.beq q.1 i with
    | true => rw [upd_t hb]; exact .head _
    | false =>
      rw [upd_f hb]
      rcases List.mem_cons.1 h with rfl | h
      · simp at hb
      · exact .tail _ (mem_upd_eq h)
theorem XRun.set {cx : Cx} {ops : Array Oper} {σ : Obs} {Φ : List Fr} {l : List Oper} {e : Env} {Qe : Env → Prop} (t : Nat) {s : S} (ht : e t = s) (k : XRun cx ops σ Φ l (e.put (some t) s) Qe) : XRun cx ops σ Φ l e Qe := by
  have : e.put (some t) s = e := by
    funext u
    by_cases hu : u = t
    · subst hu; rw [Env.put_same, ht]
    · rw [Env.put_other _ _ _ _ hu]
  rw [this] at k
  exact k
/-- The copies as cells, where the first k have their own damaged blocks. -/
def mixS : Nat → Nat → List Cpy → List (List S)
  | _, 0, l => l.map fun c => c.ds.map S.d
  | _, _ + 1, [] => []
  | b, k + 1, c :: l => cpyS b c :: mixS (b + 1) k l
theorem mixS_len : ∀ (b k : Nat) (l : List Cpy), (mixS b k l).length = l.length
  | _, 0, l => by simp [mixS]
  | _, _ + 1, [] => rfl
  | b, k + 1, c :: l => by simp [mixS, mixS_len (b + 1) k l]
theorem mixS_at : ∀ {b k : Nat} {l : List Cpy} (h : k < l.length), (mixS b k l)[k]? = some (l[k].ds.map S.d)
  | b, 0, l, h => by simp [mixS, h]
  | b, k + 1, c :: l, h => by
    have := mixS_at (b := b + 1) (k := k) (l := l) (by simpa using h)
    simpa [mixS] using this
theorem mixS_set : ∀ {b k : Nat} {l : List Cpy} (h : k < l.length), (mixS b k l).set k ((l[k].ds.map S.d).set 6 (.own (b + k))) = mixS b (k + 1) l
  | b, 0, c :: l, h => by simp [mixS, Cpy.ds, cpyS]
  | b, k + 1, c :: l, h => by
    have := mixS_set (b := b + 1) (k := k) (l := l) (by simpa using h)
    rw [show b + 1 + k = b + (k + 1) by omega] at this
    simp only [mixS, List.set_cons_succ, List.getElem_cons_succ]
    rw [this]
theorem mixS_all : ∀ (b : Nat) (l : List Cpy), mixS b l.length l = cpysS b l
  | _, [] => rfl
  | b, c :: l => by simp [mixS, cpysS, mixS_all (b + 1) l]
theorem data_kill (i : Nat) (l : List Cpy) : (l.map fun c => c.ds.map S.d).map (fun ss => ss.map (S.kill i)) = l.map fun c => c.ds.map S.d := by
  rw [List.map_map]
  congr 1
theorem mixS_kill : ∀ {b k i : Nat} {l : List Cpy}, b + k ≤ i → (mixS b k l).map (fun ss => ss.map (S.kill i)) = mixS b k l
  | b, 0, i, l, _ => data_kill i l
  | b, k + 1, i, [], _ => rfl
  | b, k + 1, i, c :: l, h => by
    have ih := mixS_kill (b := b + 1) (k := k) (i := i) (l := l) (by omega)
    have h1 : Nat.beq b i = false := beqF (by omega)
    simp only [mixS, List.map_cons, ih]
    simp [cpyS, S.kill, h1]
theorem fam_snoc {e size : Nat} : ∀ {b : Nat} {l : List (List (List D))} {x : List (List D)}, fam e size b (l ++ [x]) = fam e size b l ++ [(b + l.length, .row e size x)]
  | b, [], x => rfl
  | b, y :: l, x => by
    have := fam_snoc (e := e) (size := size) (b := b + 1) (l := l) (x := x)
    rw [List.cons_append]
    unfold fam
    rw [this, List.length_cons, show b + 1 + l.length = b + (l.length + 1) by omega]
    rfl
theorem badsD_take {l : List Cpy} {k : Nat} (h : k < l.length) : badsD (l.take (k + 1)) = badsD (l.take k) ++ [l[k].bad.map intD] := by
  unfold badsD
  rw [List.take_add_one, List.getElem?_eq_getElem h, Option.toList_some, List.map_append]
  rfl
theorem badsD_len (l : List Cpy) : (badsD l).length = l.length := by simp [badsD]
def ZV : List S := [.d (.v (.slice none 0 0)), .d (.v (.slice none 0 0)), .d (.v (.slice none 0 0))]
/-- The objects while the k-th copy is being cloned. -/
def ownObs (v : Vlt) (k : Nat) : Obs := [(12, .cells ZV), (11, .cells (vaultS v)), (101, .rowS 77 7 (mixS 1000 k v.copies))] ++ fam 3 1 1000 (badsD (v.copies.take k))
theorem fam_fresh2 {e size : Nat} : ∀ {b : Nat} {l : List (List (List D))} {i : Nat}, b + l.length ≤ i → Obs.fresh i (fam e size b l) = true
  | _, [], _, _ => rfl
  | b, y :: l, i, h => by
    have h1 : Nat.beq b i = false := beqF (by simp at h; omega)
    unfold fam Obs.fresh
    rw [h1, fam_fresh2 (b := b + 1) (by simp at h; omega)]
    rfl
theorem own_fresh {v : Vlt} {k : Nat} (h : k < v.copies.length) : Obs.fresh (1000 + k) (ownObs v k) = true := by
  unfold ownObs
  rw [fresh_app, fam_fresh2 (by rw [badsD_len, List.length_take]; omega)]
  simp [Obs.fresh, beqF (show 12 ≠ 1000 + k by omega), beqF (show 11 ≠ 1000 + k by omega), beqF (show 101 ≠ 1000 + k by omega)]
theorem own_kill {v : Vlt} {k : Nat} : Obs.kill (1000 + k) (ownObs v k) = ownObs v k := by
  unfold ownObs
  rw [kill_app, fam_kill]
  have h1 : S.kill (1000 + k) (.own 101) = .own 101 := killO' (by omega)
  show [(12, Ob.cells ((ZV).map (S.kill (1000 + k)))), (11, Ob.cells ((vaultS v).map (S.kill (1000 + k)))), (101, Ob.rowS _ 7 ((mixS 1000 k v.copies).map fun ss => ss.map (S.kill (1000 + k))))] ++ _ = _
  rw [mixS_kill (Nat.le_refl _)]
  have h2 : (vaultS v).map (S.kill (1000 + k)) = vaultS v := by
    show [_, _, S.kill (1000 + k) (.own 101)] = _
    rw [h1]; rfl
  rw [h2]
  rfl
/-- .. and behind it. -/
theorem own_next {v : Vlt} {k : Nat} (h : k < v.copies.length) : ∀ p ∈ ownObs v (k + 1), p ∈ Obs.upd 101 (.rowS 77 7 ((mixS 1000 k v.copies).set k ((v.copies[k].ds.map S.d).set 6 (.own (1000 + k))))) ([(1000 + k, .row 3 1 (v.copies[k].bad.map intD))] ++ ownObs v k) := by
  intro p hp
  rw [mixS_set h]
  unfold ownObs at hp
  rw [badsD_take h, fam_snoc, badsD_len, List.length_take, Nat.min_eq_left (by omega)] at hp
  rcases List.mem_append.1 hp with hp | hp
  · rcases List.mem_cons.1 hp with rfl | hp
    · exact mem_upd_ne (List.mem_append_right _ (List.mem_append_left _ (.head _))) (by show 12 ≠ 101; decide)
    · rcases List.mem_cons.1 hp with rfl | hp
      · exact mem_upd_ne (List.mem_append_right _ (List.mem_append_left _ (.tail _ (.head _)))) (by show 11 ≠ 101; decide)
      · have hp : p = _ := List.mem_singleton.1 hp
        subst hp
        exact mem_upd_eq (List.mem_append_right _ (List.mem_append_left _ (.tail _ (.tail _ (.head _)))))
  · rcases List.mem_append.1 hp with hp | hp
    · refine mem_upd_ne (List.mem_append_right _ (List.mem_append_right _ hp)) ?_
      obtain ⟨m, x, _, rfl⟩ := fam_mem hp
      show 1000 + m ≠ 101
      omega
    · have hp : p = _ := List.mem_singleton.1 hp
      subst hp
      exact mem_upd_ne (List.mem_append_left _ (.head _)) (by show 1000 + k ≠ 101; omega)
theorem own_end {v : Vlt} : ownObs v v.copies.length = [(12, .cells ZV), (11, .cells (vaultS v))] ++ vObs v.copies := by
  unfold ownObs vObs famC
  rw [mixS_all, List.take_length]
  rfl
theorem hsz_26 : ∀ w, (sizeOf 26).run Tryd.prog w = .ok 3 w := SizeT.of (by kernel_rfl)



set_option maxRecDepth 100000 in
set_option maxHeartbeats 1000000 in
set_option maxRecDepth 20000 in
set_option maxHeartbeats 2000000 in
theorem c_own (v : Vlt) (vo : VOk v) : XSCall Tryd.prog 60 [.d (.agg v.ds)] [] ((100, .val (vaultS v)) :: vObs v.copies) (fun i => Nat.ble 1000 i || Nat.blt i 102) (.own 100) := by
  have hni := vo.ni
  have hnc := vo.nc
  have hnp := vo.np
  have hfx : ∀ k, (!(!(Nat.ble 1000 (1000 + k) || Nat.blt (1000 + k) 102))) = true := fun k => by
    have : Nat.ble 1000 (1000 + k) = true := Nat.ble_eq_true_of_le (by omega)
    rw [this]; rfl
  refine xval_of (n := 36) (b := 2) (t := 26) (size := 3) (vid := 100) (ss' := vaultS v) Tryd.func60 rfl (by kernel_rfl) rfl rfl hag_v rfl rfl rfl ?_
  intro B w0 F0 fr ρ0
  refine AWP.seq ?_
  refine AWP.region ?_
  refine AOps.boxOwn 11 rfl rfl rfl rfl rfl rfl rfl ?_
  refine AOps.alloc 12 rfl rfl rfl rfl zt_26 rfl rfl rfl ?_
  refine AOps.nil ?_
  refine AWP.seq ?_
  refine AWP.drawFresh 10 [⟨12, 101, .own 101, .row 77 7 (v.copies.map Cpy.ds)⟩] (FrOk.one rfl (by simp) rfl rfl rfl) (by kernel_rfl) (by kernel_rfl) (by kernel_rfl) (by kernel_rfl) ?_
  refine XRun.step rfl rfl rfl (AOp.fieldAddrP rfl fo_26_0 rfl) ?_
  refine XRun.step rfl rfl rfl (AOp.loadP rfl sc_22 rfl (.tail _ (.head _)) rfl) ?_
  refine XRun.step rfl rfl rfl (AOp.call rfl (.cons (ArgOk.rfl' rfl) .nil) ((c_clItem v.items (by omega)).toA)) ?_
  refine XRun.step rfl rfl rfl (AOp.fieldAddrP rfl fo_26_1 rfl) ?_
  refine XRun.step rfl rfl rfl (AOp.loadP rfl sc_23 rfl (.tail _ (.head _)) rfl) ?_
  refine XRun.step rfl rfl rfl (AOp.call rfl (.cons (ArgOk.rfl' rfl) .nil) ((c_clCarr v.carrs (by omega)).toA)) ?_
  refine XRun.step rfl rfl rfl (AOp.fieldAddrP rfl fo_26_2 rfl) ?_
  refine XRun.step rfl rfl rfl (AOp.loadP rfl sc_24 rfl (.tail _ (.head _)) rfl) ?_
  refine XRun.callO _ (.head _) rfl rfl rfl rfl rfl (.cons (ArgOk.rfl' rfl) .nil) (c_clCpy v.copies (by omega)) rfl rfl ?_
  refine XRun.step rfl rfl rfl (AOp.fieldAddrP rfl fo_26_0 rfl) ?_
  refine XRun.nil ⟨rfl, trivial⟩ ?_
  refine AOps.store rfl rfl rfl sz_22 rfl (.tail _ (.tail _ (.head _))) rfl rfl rfl (Nat.le_of_ble_eq_true rfl) ?_
  refine AOps.step rfl rfl rfl (AOp.fieldAddrP rfl fo_26_1 rfl) ?_
  refine AOps.store rfl rfl rfl sz_23 rfl (.tail _ (.tail _ (.head _))) rfl rfl rfl (Nat.le_of_ble_eq_true rfl) ?_
  refine AOps.step rfl rfl rfl (AOp.fieldAddrP rfl fo_26_2 rfl) ?_
  refine AOps.storeS rfl rfl rfl sz_24 rfl (.tail _ (.tail _ (.head _))) rfl (.head _) (Nat.le_of_ble_eq_true rfl) ?_
  refine AOps.nil ?_
  refine AWP.seq ?_
  refine AWP.seq ?_
  refine AWP.rowToS 101 (ee := 77) (size := 7) (els := v.copies.map Cpy.ds) (by first | exact .head _ | exact .tail _ (.head _) | exact .tail _ (.tail _ (.head _))) ?_
  refine AWP.obs (σ' := ownObs v 0) (fun p hp => ?_) ?_
  · have hr : (v.copies.map Cpy.ds).map (fun ds => ds.map S.d) = mixS 1000 0 v.copies := by simp [mixS]
    rw [hr]
    rcases List.mem_cons.1 hp with rfl | hp
    · first | exact .head _ | exact .tail _ (.head _) | exact .tail _ (.tail _ (.head _))
    · rcases List.mem_cons.1 hp with rfl | hp
      · first | exact .head _ | exact .tail _ (.head _) | exact .tail _ (.tail _ (.head _))
      · have hp : p = _ := List.mem_singleton.1 hp
        subst hp
        first | exact .head _ | exact .tail _ (.head _) | exact .tail _ (.tail _ (.head _))
  refine AWP.region ?_
  refine AOps.step rfl rfl rfl (AOp.fieldAddrP rfl fo_26_2 rfl) ?_
  refine AOps.step rfl rfl rfl (AOp.loadP rfl sc_24 rfl (.tail _ (.head _)) rfl) ?_
  refine AOps.step rfl rfl rfl (AOp.weak (AOp.lenOwn rfl het_24.ht rfl (Obs.weak_mem (p := (101, _)) (.tail _ (.tail _ (.head _)))))) ?_
  refine AOps.step rfl rfl rfl (AOp.moveD rfl rfl) ?_
  refine AOps.nil ?_
  refine AWP.block ?_
  refine AWP.loop (G := Nat) (fun k => Env.of [(19, .d (.v (.int .i64 (k : Int)))), (18, .d (.v (.int .i64 (((mixS 1000 0 v.copies).map fun ss => ss.map S.weak).length : Int)))), (1, .ptr 11 0), (2, .ptr 12 0)]) (fun k => ownObs v k) (fun k => k ≤ v.copies.length) (fun k => v.copies.length - k) 0 (Nat.zero_le _) (Sub.less ⟨(SLe.of_eq rfl), SLe.refl _, SLe.refl _, SLe.refl _, trivial⟩ (fun _ h => h)) ?_
  intro k hk
  refine AWP.seq ?_
  refine AWP.region ?_
  refine AOps.step rfl rfl rfl (AOp.lss rfl rfl rfl) ?_
  refine AOps.nil ?_
  refine AWP.seq ?_
  refine AWP.cond rfl (fun h1 => ?_) (fun h1 => ?_)
  · replace h1 := of_decide_eq_true h1
    rw [List.length_map, mixS_len] at h1
    have hlt : k < v.copies.length := by omega
    have hbk := vok_bad (v := v) vo _ (List.getElem_mem hlt)
    refine AWP.skip ?_
    refine AWP.seq ?_
    refine AWP.block ?_
    refine AWP.seq ?_
    refine AWP.region ?_
    refine AOps.step rfl rfl rfl (AOp.moveD rfl rfl) ?_
    refine AOps.step rfl rfl rfl (AOp.assignD rfl rfl) ?_
    refine AOps.nil ?_
    refine AWP.drawFresh 10 [⟨31, 1000 + k, .own (1000 + k), .row 3 1 (v.copies[k].bad.map intD)⟩] (FrOk.one (killSelf _) (by simp) (own_fresh hlt) own_kill (hfx k)) (by kernel_rfl) (by kernel_rfl) (by kernel_rfl) (by kernel_rfl) ?_
    refine XRun.set 1 (s := .ptr 11 0) (killP' (i := 1000 + k) (t := 11) (off := 0) (by omega)) ?_
    refine XRun.set 2 (s := .ptr 12 0) (killP' (i := 1000 + k) (t := 12) (off := 0) (by omega)) ?_
    refine XRun.step rfl rfl rfl (AOp.fieldAddrP rfl hfo_v2 rfl) ?_ rfl ⟨.inl (killP' (i := 1000 + k) (t := 11) (by omega)), trivial⟩
    refine XRun.step rfl rfl rfl (AOp.loadP (s := .own 101) rfl hsc_24 rfl (.tail _ (.head _)) rfl) ?_ rfl ⟨.inl (killO' (i := 1000 + k) (t := 101) (by omega)), trivial⟩
    refine XRun.step rfl rfl rfl (AOp.moveD rfl rfl) ?_ rfl ⟨.inl (rfl), trivial⟩
    refine XRun.step rfl rfl rfl (AOp.fieldAddrP rfl hfo_v2 rfl) ?_ rfl ⟨.inl (killP' (i := 1000 + k) (t := 11) (by omega)), trivial⟩
    refine XRun.step rfl rfl rfl (AOp.loadP (s := .own 101) rfl hsc_24 rfl (.tail _ (.head _)) rfl) ?_ rfl ⟨.inl (killO' (i := 1000 + k) (t := 101) (by omega)), trivial⟩
    refine XRun.step rfl rfl rfl (AOp.moveD rfl rfl) ?_ rfl ⟨.inl (rfl), trivial⟩
    refine XRun.step rfl rfl rfl (AOp.weak (AOp.indexOwn rfl het_24 rfl rfl (Obs.weak_mem (p := (101, _)) (.tail _ (.tail _ (.head _)))) k rfl (by rw [List.length_map, mixS_len]; exact hlt))) ?_ rfl ⟨.inl (killP' (i := 1000 + k) (t := 101) (by omega)), trivial⟩
    refine XRun.step rfl rfl rfl (AOp.fieldAddrP rfl hfo_c6 rfl) ?_ rfl ⟨.inl (killP' (i := 1000 + k) (t := 101) (by omega)), trivial⟩
    refine XRun.step rfl rfl rfl (AOp.loadRowS (s := .d (.sl (v.copies[k].bad.map intD))) rfl hsc_75 rfl (.tail _ (.tail _ (.head _))) k 6 rfl (mixS_at hlt) rfl) ?_ rfl ⟨.inl (rfl), trivial⟩
    refine XRun.callO _ (.head _) rfl rfl rfl rfl rfl (.cons (ArgOk.rfl' rfl) .nil) (c_clInt v.copies[k].bad (by omega)) rfl rfl ?_ (hfx k)
    refine XRun.nil ⟨rfl, trivial⟩ ?_
    refine AOps.step rfl rfl rfl (AOp.weak (AOp.indexOwn rfl het_24 rfl rfl (Obs.weak_mem (p := (101, _)) (.tail _ (.tail _ (.tail _ (.head _))))) k rfl (by rw [List.length_map, mixS_len]; exact hlt))) ?_
    refine AOps.step rfl rfl rfl (AOp.fieldAddrP rfl hfo_c6 rfl) ?_
    refine AOps.eff rfl rfl (EOp.storeRowS (s := .own (1000 + k)) rfl rfl hsz_75 rfl (.tail _ (.tail _ (.tail _ (.head _)))) rfl (.own (.head _)) k 6 rfl (mixS_at hlt) (by decide)) ?_
    refine AOps.obs (own_next hlt) ?_
    refine AOps.nil ?_
    refine AWP.region ?_
    refine AOps.step rfl rfl rfl (AOp.add64 rfl rfl rfl (by omega) (by omega)) ?_
    refine AOps.step rfl rfl rfl (AOp.moveD rfl rfl) ?_
    refine AOps.nil ?_
    refine ⟨k + 1, (by omega), (by dsimp only; omega), Sub.less ⟨(SLe.of_eq rfl), SLe.refl _, SLe.refl _, SLe.refl _, trivial⟩ (fun _ h => h)⟩
  · replace h1 := of_decide_eq_false h1
    rw [List.length_map, mixS_len] at h1
    obtain rfl : k = v.copies.length := by omega
    refine AWP.exit ?_
    refine AWP.seq ?_
    rw [own_end]
    refine AWP.region ?_
    refine AOps.loadVal 13 rfl rfl rfl rfl hag_v rfl (.tail _ (.head _)) (Nat.le_refl 3) (fK rfl rfl) ?_
    refine AOps.nK rfl ?_
    refine AOps.eff rfl rfl (EOp.storeVal (ss' := vaultS v) rfl rfl hsz_26 rfl (.tail _ (.head _)) rfl (.head _) rfl (Nat.le_refl 3)) ?_
    refine AOps.nU rfl ?_
    refine AOps.nil ?_
    refine AWP.ret ?_
    refine ⟨⟨12, vaultS v, rfl, .tail _ (.head _), rfl, vObs_fresh (by omega), vObs_kill (by omega)⟩, AllIn.of fun p hp => .tail _ (.tail _ (.tail _ hp))⟩

end Go.Proofs.YtieccphckobhjaaDoor


namespace Go.Proofs.YtieccphckobhjaaDoor
open Go.RowKit
set_option linter.unusedVariables false

/-! Types. -/
namespace TyQ2

end TyQ2
open TyQ2


theorem liveTo_add (every frm : Int) (s : St) (n : Nat) : ∀ m, liveTo every frm s (n + m) = liveTo every (frm + n) (liveTo every frm s n) m
  | 0 => rfl
  | m + 1 => by
    show day1 every (liveTo every frm s (n + m)) (frm + ((n + m : Nat) : Int)) = day1 every (liveTo every (frm + n) (liveTo every frm s n) m) (frm + n + m)
    rw [liveTo_add every frm s n m, Int.natCast_add, Int.add_assoc]
theorem chk1_pre (every day : Int) (l : List Cpy) (o0 o : List Dn) (k : Nat) : chk1 every day (l, o0 ++ o) k = ((chk1 every day (l, o) k).1, o0 ++ (chk1 every day (l, o) k).2) := by
  unfold chk1
  dsimp only
  cases l[k]? with
  | none => rfl
  | some c =>
    dsimp only
    split
    · rfl
    · rw [List.append_assoc]
theorem chkTo_pre (every day : Int) (l : List Cpy) (o0 o : List Dn) : ∀ k, chkTo every day (l, o0 ++ o) k = ((chkTo every day (l, o) k).1, o0 ++ (chkTo every day (l, o) k).2)
  | 0 => rfl
  | k + 1 => by
    show chk1 every day (chkTo every day (l, o0 ++ o) k) k = _
    rw [chkTo_pre every day l o0 o k, chk1_pre]
    rfl
theorem day1_pre (every day : Int) (l : List Cpy) (hs : List Hrm) (o0 o : List Dn) : day1 every ⟨l, hs, o0 ++ o⟩ day = ⟨(day1 every ⟨l, hs, o⟩ day).l, (day1 every ⟨l, hs, o⟩ day).hs, o0 ++ (day1 every ⟨l, hs, o⟩ day).o⟩ := by
  unfold day1
  dsimp only
  rw [chkTo_pre]
theorem liveTo_pre (every frm : Int) (l : List Cpy) (hs : List Hrm) (o0 o : List Dn) : ∀ n, liveTo every frm ⟨l, hs, o0 ++ o⟩ n = ⟨(liveTo every frm ⟨l, hs, o⟩ n).l, (liveTo every frm ⟨l, hs, o⟩ n).hs, o0 ++ (liveTo every frm ⟨l, hs, o⟩ n).o⟩
  | 0 => rfl
  | n + 1 => by
    show day1 every (liveTo every frm ⟨l, hs, o0 ++ o⟩ n) (frm + n) = _
    rw [liveTo_pre every frm l hs o0 o n, day1_pre]
    rfl
theorem dayH_app {day : Int} : ∀ (a b : List Hrm), (∀ h ∈ b, day < h.day) → dayH (a ++ b) day = dayH a day
  | [], [], _ => rfl
  | [], h :: b, hb => by
    unfold dayH
    have := hb h (by simp)
    rw [List.nil_append, List.takeWhile_cons, if_neg (by simp; omega)]
    rfl
  | h :: a, b, hb => by
    have ih := dayH_app a b hb
    unfold dayH at ih ⊢
    rw [List.cons_append, List.takeWhile_cons, List.takeWhile_cons, ih]
theorem dayH_le (hs : List Hrm) (day : Int) : (dayH hs day).length ≤ hs.length := (List.takeWhile_sublist _).length_le
theorem day1_suf {every day : Int} (l : List Cpy) (a b : List Hrm) (o : List Dn) (hb : ∀ h ∈ b, day < h.day) : day1 every ⟨l, a ++ b, o⟩ day = ⟨(day1 every ⟨l, a, o⟩ day).l, (day1 every ⟨l, a, o⟩ day).hs ++ b, (day1 every ⟨l, a, o⟩ day).o⟩ := by
  unfold day1
  dsimp only
  rw [dayH_app a b hb, List.drop_append_of_le_length (dayH_le a day)]
theorem liveTo_suf {every frm mid : Int} (l : List Cpy) (a b : List Hrm) (o : List Dn) (hb : ∀ h ∈ b, mid ≤ h.day) : ∀ n : Nat, frm + n ≤ mid →
    liveTo every frm ⟨l, a ++ b, o⟩ n = ⟨(liveTo every frm ⟨l, a, o⟩ n).l, (liveTo every frm ⟨l, a, o⟩ n).hs ++ b, (liveTo every frm ⟨l, a, o⟩ n).o⟩
  | 0, _ => rfl
  | n + 1, hn => by
    show day1 every (liveTo every frm ⟨l, a ++ b, o⟩ n) (frm + n) = _
    rw [liveTo_suf l a b o hb n (by omega), day1_suf _ _ _ _ (fun h hm => by have := hb h hm; omega)]
    rfl
theorem rem_after {day : Int} : ∀ (hs : List Hrm), (hs.Pairwise fun a b => a.day ≤ b.day) → (∀ h ∈ hs, day ≤ h.day) → ∀ h ∈ hs.drop (dayH hs day).length, day + 1 ≤ h.day
  | [], _, _, h, hm => by simp at hm
  | x :: t, hp, hd, h, hm => by
    unfold dayH at hm
    rw [List.takeWhile_cons] at hm
    have hp' := List.pairwise_cons.1 hp
    by_cases e : x.day = day
    · rw [if_pos (by simpa using e), List.length_cons, List.drop_succ_cons] at hm
      exact rem_after t hp'.2 (fun h' hm' => hd h' (List.mem_cons_of_mem _ hm')) h hm
    · rw [if_neg (by simpa using e)] at hm
      have h1 := hd x (by simp)
      rcases List.mem_cons.1 hm with rfl | hm
      · omega
      · have := hp'.1 h hm
        omega
theorem liveTo_rem {every frm : Int} (l : List Cpy) (hs : List Hrm) (o : List Dn) (hp : hs.Pairwise fun a b => a.day ≤ b.day) (hd : ∀ h ∈ hs, frm ≤ h.day) : ∀ n : Nat,
    ((liveTo every frm ⟨l, hs, o⟩ n).hs.Pairwise fun a b => a.day ≤ b.day) ∧ ∀ h ∈ (liveTo every frm ⟨l, hs, o⟩ n).hs, frm + n ≤ h.day
  | 0 => ⟨hp, fun h hm => by have := hd h hm; simpa using this⟩
  | n + 1 => by
    obtain ⟨h1, h2⟩ := liveTo_rem (every := every) l hs o hp hd n
    refine ⟨h1.sublist (List.drop_sublist _ _), fun h hm => ?_⟩
    have := rem_after _ h1 h2 h hm
    omega
structure LvOk (v : Vlt) (p : Pol) (frm to : Int) (hs : List Hrm) : Prop where
  vv : VOk v
  pp : POk p
  both : bothFault v p = 0
  fr : 0 ≤ frm ∧ frm ≤ 200000
  tt : frm ≤ to ∧ to ≤ 200001
  hh : HsOk v frm to hs
  out : (liveS v p frm to hs).o.length ≤ 20000
theorem lvok_of {v : Vlt} {p : Pol} {frm to : Int} {hs : List Hrm} (h : liveFault v p frm to hs = 0) : LvOk v p frm to hs := by
  unfold liveFault at h
  by_cases h1 : bothFault v p ≠ 0
  · rw [if_pos h1] at h; exact absurd h h1
  rw [if_neg h1] at h
  by_cases h2 : ¬ (0 ≤ frm ∧ frm ≤ 200000) ∨ ¬ (frm ≤ to ∧ to ≤ 200001)
  · rw [if_pos h2] at h; simp at h
  rw [if_neg h2] at h
  by_cases h3 : harmsFault v frm to hs ≠ 0
  · rw [if_pos h3] at h; exact absurd h h3
  rw [if_neg h3] at h
  by_cases h4 : 20000 < (liveS v p frm to hs).o.length
  · rw [if_pos h4] at h; simp at h
  obtain ⟨hv, hp⟩ := both_ok (Decidable.not_not.1 h1)
  exact ⟨hv, hp, Decidable.not_not.1 h1, by omega, by omega, hsok_of (Decidable.not_not.1 h3), by omega⟩
theorem LvOk.fault {v : Vlt} {p : Pol} {frm to : Int} {hs : List Hrm} (h : LvOk v p frm to hs) : liveFault v p frm to hs = 0 := by
  have h1 := h.fr
  have h2 := h.tt
  have h3 := h.out
  unfold liveFault
  rw [if_neg (fun hh => hh h.both), if_neg (by omega), if_neg (fun hh => hh (hsok_fault h.hh)), if_neg (by omega)]
theorem LvOk.vok {v : Vlt} {p : Pol} {frm to : Int} {hs : List Hrm} (h : LvOk v p frm to hs) : VOk (withC v (liveS v p frm to hs).l) := by
  have h1 := h.fr
  have h2 := h.tt
  exact liveTo_vok (s := ⟨v.copies, hs, []⟩) h.vv h.hh.ok h.pp.every.1 _ (by omega)
theorem itemIdx_withC (v : Vlt) (l : List Cpy) (nm : ByteArray) : itemIdx (withC v l) nm = itemIdx v nm := rfl
theorem HrmOk.withC {v : Vlt} {h : Hrm} (hh : HrmOk v h) (l : List Cpy) : HrmOk (withC v l) h := ⟨hh.item, hh.carr, hh.blk⟩
theorem life_on {v : Vlt} {p : Pol} {frm mid to : Int} {hs : List Hrm} (h : liveFault v p frm to hs = 0) (h1 : frm ≤ mid) (h2 : mid ≤ to) (h3 : mid ≤ 200000) {k : Nat} (hk1 : ∀ h ∈ hs.take k, h.day < mid) (hk2 : ∀ h ∈ hs.drop k, mid ≤ h.day) :
    liveFault v p frm mid (hs.take k) = 0 ∧ liveFault (liveV v p frm mid (hs.take k)) p mid to (hs.drop k) = 0 ∧ liveV v p frm to hs = liveV (liveV v p frm mid (hs.take k)) p mid to (hs.drop k) ∧
      liveO v p frm to hs = liveO v p frm mid (hs.take k) ++ liveO (liveV v p frm mid (hs.take k)) p mid to (hs.drop k) := by
  have ok := lvok_of h
  have hf := ok.fr
  have ht := ok.tt
  have hlen := ok.hh.len
  have hs1 : HsOk v frm mid (hs.take k) := ⟨by rw [List.length_take]; omega, fun x hx => ok.hh.ok x (List.mem_of_mem_take hx), fun x hx => by
    have a := ok.hh.day x (List.mem_of_mem_take hx)
    have b := hk1 x hx
    omega, ok.hh.sorted.sublist (List.take_sublist _ _)⟩
  obtain ⟨S1, hS1⟩ : ∃ S1, S1 = liveS v p frm mid (hs.take k) := ⟨_, rfl⟩
  have hrem := liveTo_rem (every := p.every) v.copies (hs.take k) [] hs1.sorted (fun x hx => (hs1.day x hx).1) (mid - frm).toNat
  have hnil : S1.hs = [] := by
    refine List.eq_nil_iff_forall_not_mem.2 fun x hx => ?_
    rw [hS1] at hx
    have a := hrem.2 x hx
    have b := hk1 x (liveTo_hs (s := ⟨v.copies, hs.take k, []⟩) _ x hx)
    omega
  have hbig : liveS v p frm to hs = liveTo p.every mid ⟨S1.l, hs.drop k, S1.o ++ []⟩ (to - mid).toNat := by
    unfold liveS
    have e : (to - frm).toNat = (mid - frm).toNat + (to - mid).toNat := by omega
    have e2 : frm + (((mid - frm).toNat : Nat) : Int) = mid := by omega
    rw [e, liveTo_add, e2]
    have e3 := liveTo_suf (every := p.every) (frm := frm) (mid := mid) v.copies (hs.take k) (hs.drop k) [] hk2 (mid - frm).toNat (by omega)
    rw [List.take_append_drop] at e3
    rw [e3]
    have e4 : liveTo p.every frm ⟨v.copies, hs.take k, []⟩ (mid - frm).toNat = S1 := hS1.symm
    rw [e4, hnil, List.nil_append, List.append_nil]
  rw [liveTo_pre] at hbig
  have hout := ok.out
  rw [hbig] at hout
  dsimp only at hout
  rw [List.length_append] at hout
  have ok1 : LvOk v p frm mid (hs.take k) := ⟨ok.vv, ok.pp, ok.both, hf, by omega, hs1, by rw [← hS1]; omega⟩
  have hb1 : liveV v p frm mid (hs.take k) = withC v S1.l := by unfold liveV; rw [if_pos ok1.fault, ← hS1]
  have hvb : VOk (withC v S1.l) := by rw [hS1]; exact ok1.vok
  have hbo : bothFault (withC v S1.l) p = 0 := by
    have h4 := ok.both
    unfold bothFault at h4 ⊢
    rw [if_neg (fun hh => hh (check_vok ok.vv))] at h4
    rw [if_neg (fun hh => hh (check_vok hvb))]
    exact h4
  have ok2 : LvOk (withC v S1.l) p mid to (hs.drop k) := ⟨hvb, ok.pp, hbo, by omega, by omega, ⟨by rw [List.length_drop]; omega, fun x hx => (ok.hh.ok x (List.mem_of_mem_drop hx)).withC _, fun x hx => ⟨hk2 x hx, (ok.hh.day x (List.mem_of_mem_drop hx)).2⟩, ok.hh.sorted.sublist (List.drop_sublist _ _)⟩, by
    show (liveTo p.every mid ⟨S1.l, hs.drop k, []⟩ (to - mid).toNat).o.length ≤ 20000
    omega⟩
  refine ⟨ok1.fault, by rw [hb1]; exact ok2.fault, ?_, ?_⟩
  · rw [hb1]
    unfold liveV
    rw [if_pos h, if_pos ok2.fault, hbig]
    rfl
  · rw [hb1]
    unfold liveO
    rw [if_pos h, if_pos ok1.fault, if_pos ok2.fault, hbig, ← hS1]
    rfl


end Go.Proofs.YtieccphckobhjaaDoor


namespace Go.Proofs.YtieccphckobhjaaDoor
open Go.RowKit
set_option linter.unusedVariables false

/-! Types. -/
namespace TyQ4
theorem ag_26 : AggT Tryd.prog 26 3 := .of (by kernel_rfl)
theorem ag_57 : AggT Tryd.prog 57 4 := .of (by kernel_rfl)
theorem et_22 : ElemTy Tryd.prog 22 69 2 24 (.agg #[(.string ⟨#[]⟩), (.int .i64 0)]) := ⟨by kernel_rfl, by kernel_rfl, by kernel_rfl, by decide⟩
theorem et_48 : ElemTy Tryd.prog 48 57 4 48 (.agg #[(.int .i64 0), (.string ⟨#[]⟩), (.string ⟨#[]⟩), (.int .i64 0)]) := ⟨by kernel_rfl, by kernel_rfl, by kernel_rfl, by decide⟩
theorem fo_26_0 : fieldOff Tryd.prog 26 0 = some 0 := by kernel_rfl
theorem fo_57_0 : fieldOff Tryd.prog 57 0 = some 0 := by kernel_rfl
theorem fo_57_1 : fieldOff Tryd.prog 57 1 = some 1 := by kernel_rfl
theorem fo_57_2 : fieldOff Tryd.prog 57 2 = some 2 := by kernel_rfl
theorem fo_57_3 : fieldOff Tryd.prog 57 3 = some 3 := by kernel_rfl
theorem fo_69_1 : fieldOff Tryd.prog 69 1 = some 1 := by kernel_rfl
theorem sc_22 : Scal Tryd.prog 22 := .of (by kernel_rfl)
theorem sc_3 : Scal Tryd.prog 3 := .of (by kernel_rfl)
theorem sc_9 : Scal Tryd.prog 9 := .of (by kernel_rfl)
theorem sz_57 : ∀ w, (sizeOf 57).run Tryd.prog w = .ok 4 w := SizeT.of (by kernel_rfl)
theorem zt_57 : (Tryd.prog.info? 57).bind (·.zero) = some (.agg #[(.int .i64 0), (.string ⟨#[]⟩), (.string ⟨#[]⟩), (.int .i64 0)]) := by kernel_rfl
end TyQ4
open TyQ4


theorem harms_hit {v : Vlt} {frm to : Int} {hs : List Hrm} {k : Nat} {c : Int} (hl : ¬ 1000 < (hs.length : Int)) (hk : k < hs.length) (h : ffst (harmFault v frm to hs) k = 0) (hf : harmFault v frm to hs k = c) (hc : c ≠ 0) : harmsFault v frm to hs = c := by
  unfold harmsFault
  rw [if_neg hl, ffst_hit h (by rw [hf]; exact hc) _ hk, hf]


set_option maxRecDepth 100000 in
set_option maxHeartbeats 1000000 in
theorem c_checkHarms (v : Vlt) (frm to : Int) (hs : List Hrm) (hv : okItems v) (hft : 0 ≤ frm ∧ frm ≤ to ∧ to ≤ 200001) : ACall Tryd.prog 59 [.agg v.ds, .v (.int .i64 frm), .v (.int .i64 to), .sl (hs.map Hrm.ds)] (.v (.int .i64 (harmsFault v frm to hs))) := by
  refine acall_of (n := 71) (ds' := [.v (.int .i64 (harmsFault v frm to hs))]) Tryd.func59 rfl (by kernel_rfl) rfl [8] rfl rfl ?_
  intro B w0 F0 fr
  refine AWP.bound 3 rfl (fun hbd3 => ?_)
  rw [List.length_map] at hbd3
  refine AWP.seq ?_
  refine AWP.region ?_
  refine AOps.step rfl rfl rfl (AOp.box rfl rfl rfl) ?_
  refine AOps.step rfl rfl rfl (AOp.assignD rfl rfl) ?_
  refine AOps.nil ?_
  refine AWP.seq ?_
  refine AWP.seq ?_
  refine AWP.region ?_
  refine AOps.step rfl rfl rfl (AOp.moveD rfl rfl) ?_
  refine AOps.step rfl rfl rfl (AOp.lenSl rfl et_48.ht rfl) ?_
  refine AOps.step rfl rfl rfl (AOp.gtr rfl rfl rfl) ?_
  refine AOps.nil ?_
  refine AWP.cond rfl (fun h1 => ?_) (fun h1 => ?_)
  · replace h1 := of_decide_eq_true h1
    rw [List.length_map] at h1
    have HF : harmsFault v frm to hs = 2 := if_pos h1
    refine AWP.seq ?_
    refine AWP.region ?_
    refine AOps.step rfl rfl rfl (AOp.assignD rfl rfl) ?_
    refine AOps.nil ?_
    refine AWP.ret ?_
    refine ⟨RetD.eq rfl ?_, trivial⟩
    all_goals (rw [HF])
  · replace h1 := of_decide_eq_false h1
    rw [List.length_map] at h1
    have hL : ¬ 1000 < (hs.length : Int) := h1
    refine AWP.skip ?_
    refine AWP.seq ?_
    refine AWP.seq ?_
    refine AWP.region ?_
    refine AOps.step rfl rfl rfl (AOp.moveD rfl rfl) ?_
    refine AOps.step rfl rfl rfl (AOp.lenSl rfl et_48.ht rfl) ?_
    refine AOps.step rfl rfl rfl (AOp.moveD rfl rfl) ?_
    refine AOps.nil ?_
    refine AWP.block ?_
    refine AWP.loop (G := Nat) (fun k => Env.of [(17, .d (.v (.int .i64 (k : Int)))), (15, .d (.sl (hs.map Hrm.ds))), (16, .d (.v (.int .i64 ((hs.map Hrm.ds).length : Int)))), (4, .d (.fp v.ds)), (1, .d (.v (.int .i64 frm))), (2, .d (.v (.int .i64 to))), (3, .d (.sl (hs.map Hrm.ds)))]) (fun k => []) (fun k => k ≤ hs.length ∧ ffst (harmFault v frm to hs) k = 0) (fun k => hs.length - k) 0 ⟨Nat.zero_le _, rfl⟩ (Sub.less ⟨(SLe.of_eq rfl), SLe.refl _, SLe.refl _, SLe.refl _, SLe.refl _, SLe.refl _, SLe.refl _, trivial⟩ (fun _ h => h)) ?_
    intro k hk
    refine AWP.seq ?_
    refine AWP.region ?_
    refine AOps.step rfl rfl rfl (AOp.lss rfl rfl rfl) ?_
    refine AOps.nil ?_
    refine AWP.seq ?_
    refine AWP.cond rfl (fun h2 => ?_) (fun h2 => ?_)
    · replace h2 := of_decide_eq_true h2
      rw [List.length_map] at h2
      have hlt : k < hs.length := by omega
      refine AWP.skip ?_
      refine AWP.seq ?_
      refine AWP.block ?_
      refine AWP.seq ?_
      refine AWP.region ?_
      refine AOps.step rfl rfl rfl (AOp.moveD rfl rfl) ?_
      refine AOps.step rfl rfl rfl (AOp.indexAddr rfl et_48 rfl rfl k rfl (at_list hlt) rfl) ?_
      refine AOps.step rfl rfl rfl (AOp.loadAgg rfl ag_57 rfl rfl) ?_
      refine AOps.alloc 101 rfl rfl rfl rfl zt_57 rfl rfl rfl ?_
      refine AOps.step rfl rfl rfl (AOp.assignD rfl rfl) ?_
      refine AOps.store rfl rfl rfl sz_57 rfl (.head _) rfl rfl rfl (Nat.le_of_ble_eq_true rfl) ?_
      refine AOps.freezeCells 10 (ds := hs[k].ds) rfl (.head _) ?_
      refine AOps.nil ?_
      refine AWP.seq ?_
      refine AWP.region ?_
      refine AOps.step rfl rfl rfl (AOp.loadAgg rfl ag_26 rfl rfl) ?_
      refine AOps.step rfl rfl rfl (AOp.fieldAddr rfl fo_57_1 rfl) ?_
      refine AOps.step rfl rfl rfl (AOp.load rfl sc_9 rfl) ?_
      refine AOps.step rfl rfl rfl (AOp.call rfl (.cons (ArgOk.rfl' rfl) (.cons (ArgOk.rfl' rfl) .nil)) (c_itemAt _ _)) ?_
      refine AOps.step rfl rfl rfl (AOp.assignD rfl rfl) ?_
      refine AOps.nil ?_
      refine AWP.block ?_
      refine AWP.seq ?_
      refine AWP.region ?_
      refine AOps.step rfl rfl rfl (AOp.fieldAddr rfl fo_57_0 rfl) ?_
      refine AOps.step rfl rfl rfl (AOp.load rfl sc_3 rfl) ?_
      refine AOps.step rfl rfl rfl (AOp.moveD rfl rfl) ?_
      refine AOps.step rfl rfl rfl (AOp.moveD rfl rfl) ?_
      refine AOps.step rfl rfl rfl (AOp.sub64 rfl rfl rfl (by omega) (by omega)) ?_
      refine AOps.step rfl rfl rfl (AOp.call rfl (.cons (ArgOk.rfl' rfl) (.cons (ArgOk.rfl' rfl) (.cons (ArgOk.rfl' rfl) .nil))) (c_pWithin _ _ _)) ?_
      refine AOps.step rfl rfl rfl (AOp.not rfl rfl) ?_
      refine AOps.step rfl rfl rfl (AOp.assignD rfl rfl) ?_
      refine AOps.nil ?_
      refine AWP.cond rfl (fun h3 => ?_) (fun h3 => ?_)
      · replace h3 := bnot_t h3; replace h3 := of_decide_eq_false h3
        have HF : harmsFault v frm to hs = 1 := harms_hit hL hlt hk.2 (harmFault_1 hlt (by omega)) (by decide)
        refine AWP.seq ?_
        refine AWP.region ?_
        refine AOps.step rfl rfl rfl (AOp.assignD rfl rfl) ?_
        refine AOps.nil ?_
        refine AWP.ret ?_
        refine ⟨RetD.eq rfl ?_, trivial⟩
        all_goals (rw [HF])
      · replace h3 := bnot_f h3; replace h3 := of_decide_eq_true h3
        have h1 : frm ≤ hs[k].day ∧ hs[k].day ≤ to - 1 := by omega
        refine AWP.seq ?_
        refine AWP.region ?_
        refine AOps.step rfl rfl rfl (AOp.moveD rfl rfl) ?_
        refine AOps.step rfl rfl rfl (AOp.lss rfl rfl rfl) ?_
        refine AOps.step rfl rfl rfl (AOp.moveD rfl rfl) ?_
        refine AOps.split 37 rfl (fun g4 => ?_) (fun g4 => ?_)
        · replace g4 := of_decide_eq_true g4
          have HF : harmsFault v frm to hs = 9 := harms_hit hL hlt hk.2 (harmFault_9 hlt h1 (.inl g4)) (by decide)
          refine AOps.pass ⟨37, rfl, .inl ⟨_, rfl, rfl⟩⟩ rfl rfl ?_
          refine AOps.pass ⟨37, rfl, .inl ⟨_, rfl, rfl⟩⟩ rfl rfl ?_
          refine AOps.pass ⟨37, rfl, .inl ⟨_, rfl, rfl⟩⟩ rfl rfl ?_
          refine AOps.pass ⟨37, rfl, .inl ⟨_, rfl, rfl⟩⟩ rfl rfl ?_
          refine AOps.pass ⟨37, rfl, .inl ⟨_, rfl, rfl⟩⟩ rfl rfl ?_
          refine AOps.step rfl rfl rfl (AOp.pickT rfl rfl rfl) ?_
          refine AOps.step rfl rfl rfl (AOp.assignD rfl rfl) ?_
          refine AOps.nil ?_
          refine AWP.cond rfl (fun _ => ?_) (fun h => nomatch h)
          refine AWP.seq ?_
          refine AWP.region ?_
          refine AOps.step rfl rfl rfl (AOp.assignD rfl rfl) ?_
          refine AOps.nil ?_
          refine AWP.ret ?_
          refine ⟨RetD.eq rfl ?_, trivial⟩
          all_goals (rw [HF])
        · replace g4 := of_decide_eq_false g4
          refine AOps.step ⟨37, rfl, .inl ⟨_, rfl, rfl⟩⟩ rfl rfl (AOp.loadAgg rfl ag_26 rfl rfl) ?_
          refine AOps.step ⟨37, rfl, .inl ⟨_, rfl, rfl⟩⟩ rfl rfl (AOp.fieldAddr rfl fo_57_2 rfl) ?_
          refine AOps.step ⟨37, rfl, .inl ⟨_, rfl, rfl⟩⟩ rfl rfl (AOp.load rfl sc_9 rfl) ?_
          refine AOps.step ⟨37, rfl, .inl ⟨_, rfl, rfl⟩⟩ rfl rfl (AOp.call rfl (.cons (ArgOk.rfl' rfl) (.cons (ArgOk.rfl' rfl) .nil)) (c_carrAt _ _)) ?_
          refine AOps.step ⟨37, rfl, .inl ⟨_, rfl, rfl⟩⟩ rfl rfl (AOp.lss rfl rfl rfl) ?_
          refine AOps.step rfl rfl rfl (AOp.pickF rfl rfl rfl) ?_
          refine AOps.step rfl rfl rfl (AOp.assignD rfl rfl) ?_
          refine AOps.nil ?_
          refine AWP.cond rfl (fun h5 => ?_) (fun h5 => ?_)
          · replace h5 := of_decide_eq_true h5
            have HF : harmsFault v frm to hs = 9 := harms_hit hL hlt hk.2 (harmFault_9 hlt h1 (.inr h5)) (by decide)
            refine AWP.seq ?_
            refine AWP.region ?_
            refine AOps.step rfl rfl rfl (AOp.assignD rfl rfl) ?_
            refine AOps.nil ?_
            refine AWP.ret ?_
            refine ⟨RetD.eq rfl ?_, trivial⟩
            all_goals (rw [HF])
          · replace h5 := of_decide_eq_false h5
            have h2 : ¬ (itemIdx v hs[k].item < 0 ∨ carrIdx v hs[k].carrier < 0) := by omega
            obtain ⟨ki, hki, eki, _⟩ := idxBy_some (show 0 ≤ itemIdx v hs[k].item by omega)
            have hbi := hv _ (List.getElem_mem hki)
            have hib := itemBlocks_at hki eki
            refine AWP.seq ?_
            refine AWP.draw (by kernel_rfl) (by kernel_rfl) ?_
            refine DRun.step rfl rfl rfl (AOp.fieldAddr rfl fo_57_3 rfl) ?_
            refine DRun.step rfl rfl rfl (AOp.load rfl sc_3 rfl) ?_
            refine DRun.step rfl rfl rfl (AOp.fieldAddr rfl fo_26_0 rfl) ?_
            refine DRun.step rfl rfl rfl (AOp.load rfl sc_22 rfl) ?_
            refine DRun.step rfl rfl rfl (AOp.moveD rfl rfl) ?_
            refine DRun.step rfl rfl rfl (AOp.indexAddr rfl et_22 rfl rfl ki eki (at_list hki) rfl) ?_
            refine DRun.step rfl rfl rfl (AOp.fieldAddr rfl fo_69_1 rfl) ?_
            refine DRun.step rfl rfl rfl (AOp.load rfl sc_3 rfl) ?_
            refine DRun.step rfl rfl rfl (AOp.sub64 rfl rfl rfl (by omega) (by omega)) ?_
            refine DRun.step rfl rfl rfl (AOp.call rfl (.cons (ArgOk.rfl' rfl) (.cons (ArgOk.rfl' rfl) (.cons (ArgOk.rfl' rfl) .nil))) (c_pWithin _ _ _)) ?_
            refine DRun.step rfl rfl rfl (AOp.not rfl rfl) ?_
            refine DRun.step rfl rfl rfl (AOp.assignD rfl rfl) ?_
            refine DRun.nil ?_
            refine AWP.cond rfl (fun h6 => ?_) (fun h6 => ?_)
            · replace h6 := bnot_t h6; replace h6 := of_decide_eq_false h6
              have HF : harmsFault v frm to hs = 1 := harms_hit hL hlt hk.2 (harmFault_1b hlt h1 h2 (by rw [hib]; omega)) (by decide)
              refine AWP.seq ?_
              refine AWP.region ?_
              refine AOps.step rfl rfl rfl (AOp.assignD rfl rfl) ?_
              refine AOps.nil ?_
              refine AWP.ret ?_
              refine ⟨RetD.eq rfl ?_, trivial⟩
              all_goals (rw [HF])
            · replace h6 := bnot_f h6; replace h6 := of_decide_eq_true h6
              have h3 : 0 ≤ hs[k].block ∧ hs[k].block ≤ itemBlocks v hs[k].item - 1 := by rw [hib]; omega
              refine AWP.seq ?_
              refine AWP.draw (by kernel_rfl) (by kernel_rfl) ?_
              refine DRun.step rfl rfl rfl (AOp.moveD rfl rfl) ?_
              refine DRun.step rfl rfl rfl (AOp.gtr rfl rfl rfl) ?_
              refine DRun.step rfl rfl rfl (AOp.moveD rfl rfl) ?_
              refine DRun.split 59 rfl (fun g7 => ?_) (fun g7 => ?_)
              · replace g7 := of_decide_eq_true g7
                refine DRun.step ⟨59, rfl, .inl ⟨_, rfl, rfl⟩⟩ rfl rfl (AOp.fieldAddr rfl fo_57_0 rfl) ?_
                refine DRun.step ⟨59, rfl, .inl ⟨_, rfl, rfl⟩⟩ rfl rfl (AOp.load rfl sc_3 rfl) ?_
                refine DRun.step ⟨59, rfl, .inl ⟨_, rfl, rfl⟩⟩ rfl rfl (AOp.moveD rfl rfl) ?_
                refine DRun.step ⟨59, rfl, .inl ⟨_, rfl, rfl⟩⟩ rfl rfl (AOp.moveD rfl rfl) ?_
                refine DRun.step ⟨59, rfl, .inl ⟨_, rfl, rfl⟩⟩ rfl rfl (AOp.sub64 rfl rfl rfl (by omega) (by omega)) ?_
                refine DRun.step ⟨59, rfl, .inl ⟨_, rfl, rfl⟩⟩ rfl rfl (AOp.indexAddr rfl et_48 rfl rfl (k - 1) (by omega) (at_list (by omega)) rfl) ?_
                refine DRun.step ⟨59, rfl, .inl ⟨_, rfl, rfl⟩⟩ rfl rfl (AOp.fieldAddr rfl fo_57_0 rfl) ?_
                refine DRun.step ⟨59, rfl, .inl ⟨_, rfl, rfl⟩⟩ rfl rfl (AOp.load rfl sc_3 rfl) ?_
                refine DRun.step ⟨59, rfl, .inl ⟨_, rfl, rfl⟩⟩ rfl rfl (AOp.lss rfl rfl rfl) ?_
                refine DRun.step rfl rfl rfl (AOp.pickT rfl rfl rfl) ?_
                refine DRun.step rfl rfl rfl (AOp.assignD rfl rfl) ?_
                refine DRun.nil ?_
                refine AWP.cond rfl (fun h8 => ?_) (fun h8 => ?_)
                · replace h8 := of_decide_eq_true h8
                  have HF : harmsFault v frm to hs = 8 := harms_hit hL hlt hk.2 (harmFault_8 hlt h1 h2 h3 ⟨by omega, h8⟩) (by decide)
                  refine AWP.seq ?_
                  refine AWP.region ?_
                  refine AOps.step rfl rfl rfl (AOp.assignD rfl rfl) ?_
                  refine AOps.nil ?_
                  refine AWP.ret ?_
                  refine ⟨RetD.eq rfl ?_, trivial⟩
                  all_goals (rw [HF])
                · replace h8 := of_decide_eq_false h8
                  have h4 : ¬ (0 < k ∧ hs[k].day < (hs[k - 1]'(by omega)).day) := fun hh => h8 hh.2
                  refine AWP.skip ?_
                  refine AWP.region ?_
                  refine AOps.step rfl rfl rfl (AOp.add64 rfl rfl rfl (by omega) (by omega)) ?_
                  refine AOps.step rfl rfl rfl (AOp.moveD rfl rfl) ?_
                  refine AOps.nil ?_
                  refine ⟨k + 1, ⟨by omega, ffst_next hk.2 (harmFault_0 hlt h1 h2 h3 h4)⟩, (by dsimp only; omega), Sub.less ⟨(SLe.of_eq rfl), SLe.refl _, SLe.refl _, SLe.refl _, SLe.refl _, SLe.refl _, SLe.refl _, trivial⟩ (fun _ h => by cases h)⟩
              · replace g7 := of_decide_eq_false g7
                have h4 : ¬ (0 < k ∧ hs[k].day < (hs[k - 1]'(by omega)).day) := fun hh => by omega
                refine DRun.pass ⟨59, rfl, .inl ⟨_, rfl, rfl⟩⟩ rfl rfl ?_
                refine DRun.pass ⟨59, rfl, .inl ⟨_, rfl, rfl⟩⟩ rfl rfl ?_
                refine DRun.pass ⟨59, rfl, .inl ⟨_, rfl, rfl⟩⟩ rfl rfl ?_
                refine DRun.pass ⟨59, rfl, .inl ⟨_, rfl, rfl⟩⟩ rfl rfl ?_
                refine DRun.pass ⟨59, rfl, .inl ⟨_, rfl, rfl⟩⟩ rfl rfl ?_
                refine DRun.pass ⟨59, rfl, .inl ⟨_, rfl, rfl⟩⟩ rfl rfl ?_
                refine DRun.pass ⟨59, rfl, .inl ⟨_, rfl, rfl⟩⟩ rfl rfl ?_
                refine DRun.pass ⟨59, rfl, .inl ⟨_, rfl, rfl⟩⟩ rfl rfl ?_
                refine DRun.pass ⟨59, rfl, .inl ⟨_, rfl, rfl⟩⟩ rfl rfl ?_
                refine DRun.step rfl rfl rfl (AOp.pickF rfl rfl rfl) ?_
                refine DRun.step rfl rfl rfl (AOp.assignD rfl rfl) ?_
                refine DRun.nil ?_
                refine AWP.cond rfl (fun h => nomatch h) (fun _ => ?_)
                refine AWP.skip ?_
                refine AWP.region ?_
                refine AOps.step rfl rfl rfl (AOp.add64 rfl rfl rfl (by omega) (by omega)) ?_
                refine AOps.step rfl rfl rfl (AOp.moveD rfl rfl) ?_
                refine AOps.nil ?_
                refine ⟨k + 1, ⟨by omega, ffst_next hk.2 (harmFault_0 hlt h1 h2 h3 h4)⟩, (by dsimp only; omega), Sub.less ⟨(SLe.of_eq rfl), SLe.refl _, SLe.refl _, SLe.refl _, SLe.refl _, SLe.refl _, SLe.refl _, trivial⟩ (fun _ h => by cases h)⟩
    · replace h2 := of_decide_eq_false h2
      rw [List.length_map] at h2
      have HF : harmsFault v frm to hs = 0 := by unfold harmsFault; rw [if_neg hL, ← show k = hs.length by omega]; exact hk.2
      refine AWP.exit ?_
      refine AWP.seq ?_
      refine AWP.region ?_
      refine AOps.step rfl rfl rfl (AOp.assignD rfl rfl) ?_
      refine AOps.nil ?_
      refine AWP.ret ?_
      refine ⟨RetD.eq rfl ?_, trivial⟩
      all_goals (rw [HF])

end Go.Proofs.YtieccphckobhjaaDoor


namespace Go.Proofs.YtieccphckobhjaaDoor
open Go.RowKit
set_option linter.unusedVariables false

/-! Types. -/
namespace TyQ8
theorem ag_26 : AggT Tryd.prog 26 3 := .of (by kernel_rfl)
theorem ag_28 : AggT Tryd.prog 28 6 := .of (by kernel_rfl)
end TyQ8
open TyQ8


theorem allIds_of {c : Nat → Bool} : ∀ {σ : Obs}, (∀ p ∈ σ, c p.1 = true) → Obs.allIds c σ = true
  | [], _ => rfl
  | p :: l, h => by
    unfold Obs.allIds
    rw [h p (by simp), allIds_of fun q hq => h q (List.mem_cons_of_mem _ hq)]
    rfl
theorem mem_killP_of {c : Nat → Bool} : ∀ {σ : Obs} {q : Nat × Ob}, q ∈ σ → (q.1, q.2.killP c) ∈ Obs.killP c σ
  | [], _, h => by cases h
  | x :: l, q, h => by
    unfold Obs.killP
    rcases List.mem_cons.1 h with rfl | h
    · exact .head _
    · exact .tail _ (mem_killP_of h)
theorem mem_del_of {i : Nat} : ∀ {σ : Obs} {p : Nat × Ob}, p ∈ σ → p.1 ≠ i → p ∈ Obs.del i σ
  | [], _, h, _ => by cases h
  | x :: l, p, h, hn => by
    cases hb : Nat.beq x.1 i with
    | true =>
      rw [del_t hb]
      rcases List.mem_cons.1 h with rfl | h
      · exact absurd (Nat.eq_of_beq_eq_true hb) hn
      · exact mem_del_of h hn
    | false =>
      rw [del_f hb]
      rcases List.mem_cons.1 h with rfl | h
      · exact .head _
      · exact .tail _ (mem_del_of h hn)
theorem mem_dels_of : ∀ {l σ : Obs} {p : Nat × Ob}, p ∈ σ → (∀ q ∈ l, p.1 ≠ q.1) → p ∈ Obs.dels l σ
  | [], _, _, h, _ => h
  | x :: l, σ, p, h, hn => mem_dels_of (l := l) (mem_del_of h (hn x (by simp))) fun q hq => hn q (List.mem_cons_of_mem _ hq)
theorem mem_join_l : ∀ {a b : Obs} {p : Nat × Ob}, p ∈ a → p ∈ Obs.join a b
  | x :: l, b, p, h => by
    unfold Obs.join
    rcases List.mem_cons.1 h with rfl | h
    · exact .head _
    · exact .tail _ (mem_join_l h)
theorem mem_join_r : ∀ {a b : Obs} {p : Nat × Ob}, p ∈ b → p ∈ Obs.join a b
  | [], _, _, h => h
  | x :: l, b, p, h => by
    unfold Obs.join
    exact .tail _ (mem_join_r h)
theorem vObs_ids {l : List Cpy} {q : Nat × Ob} (h : q ∈ vObs l) : q.1 = 101 ∨ 1000 ≤ q.1 := by
  rcases List.mem_cons.1 h with rfl | h
  · exact .inl rfl
  · obtain ⟨m, x, _, rfl⟩ := fam_mem h
    exact .inr (Nat.le_add_right _ _)
section
variable {cx : Cx} {ops : Array Oper} {o : Oper} {rest : List Oper} {e : Env} {σ : Obs} {Q : Post}
def preB (pre : Obs) : Bool := Obs.allIds (fun i => Nat.blt 101 i && Nat.blt i 1000) pre
theorem preB_spec {pre : Obs} (h : preB pre = true) : ∀ p ∈ pre, 101 < p.1 ∧ p.1 < 1000 := fun p hp => by
  have := Obs.allIds_mem h p hp
  simpa [Nat.blt_eq] using this
/-- A call that takes the vault's value and turns its copies. -/
theorem AOps.callV {f : FuncId} {xs : List Operand} {ts : Array TypeId} {ss vs : List S} {l l' : List Cpy} {pre : Obs} {d : D} (hg : o.guard = none) (hd : DstOk cx.N o)
    (ho : o.op = .call { callee := .value (.func f), args := xs.toArray, argTypes := ts }) (ha : ArgsS e xs ss) (h : XCall cx.P f ss ((100, .val vs) :: vObs l) (vObs l') (fun i => Nat.ble 1000 i || Nat.blt i 100) d) (hp : preB pre = true)
    (h3 : ∀ i, (Nat.ble 1000 i || Nat.blt i 100) = true → cx.fixp i = false) (k : AOps cx ops rest ((e.killP fun i => Nat.ble 1000 i || Nat.blt i 100).put o.dst (.d d)) (Obs.killP (fun i => Nat.ble 1000 i || Nat.blt i 100) pre ++ vObs l') Q) :
    AOps cx ops (o :: rest) e (((100, .val vs) :: pre) ++ vObs l) Q := by
  have hpr := preB_spec hp
  have hids : ∀ p ∈ Obs.dels ((100, Ob.val vs) :: vObs l) (((100, Ob.val vs) :: pre) ++ vObs l), p ∈ pre := fun p hq => by
    obtain ⟨h1, h2⟩ := Obs.mem_dels hq
    rcases List.mem_append.1 h1 with h1 | h1
    · rcases List.mem_cons.1 h1 with rfl | h1
      · exact absurd rfl (h2 _ (.head _))
      · exact h1
    · exact absurd rfl (h2 p (.tail _ h1))
  have hpre : ∀ p ∈ pre, p ∈ Obs.dels ((100, Ob.val vs) :: vObs l) (((100, Ob.val vs) :: pre) ++ vObs l) := fun p hq => by
    refine mem_dels_of (List.mem_append_left _ (.tail _ hq)) fun q hq2 => ?_
    have := hpr p hq
    rcases List.mem_cons.1 hq2 with rfl | hq2
    · show p.1 ≠ 100; omega
    · rcases vObs_ids hq2 with h4 | h4 <;> omega
  refine AOps.callX hg hd ho ha h (AllIn.of fun p hq => ?_) (allIds_of fun p hq => ?_) (allIds_of fun p hq => allIds_of fun q hq2 => ?_) h3 (AOps.obs (fun p hq => ?_) k)
  · rcases List.mem_cons.1 hq with rfl | hq
    · exact .head _
    · exact List.mem_append_right _ hq
  · have := hpr p (hids p hq)
    have h4 : Nat.ble 1000 p.1 = false := by rw [Bool.eq_false_iff]; intro hh; have := Nat.le_of_ble_eq_true hh; omega
    have h5 : Nat.blt p.1 100 = false := by rw [Bool.eq_false_iff]; intro hh; rw [Nat.blt_eq] at hh; omega
    simp [h4, h5]
  · have := hpr q (hids q hq2)
    rcases vObs_ids hq with h4 | h4 <;> simp [beqF (show p.1 ≠ q.1 by omega)]
  · rcases List.mem_append.1 hq with hq | hq
    · obtain ⟨q, hq', rfl⟩ := Obs.mem_killP hq
      exact mem_join_r (mem_killP_of (hpre q hq'))
    · exact mem_join_l hq
/-- The call that makes a vault of the program's own. -/
theorem AOps.callOwn {f : FuncId} {xs : List Operand} {ts : Array TypeId} {ss vs : List S} {l : List Cpy} {pre : Obs} (hg : o.guard = none) (hd : DstOk cx.N o)
    (ho : o.op = .call { callee := .value (.func f), args := xs.toArray, argTypes := ts }) (ha : ArgsS e xs ss) (h : XSCall cx.P f ss [] ((100, .val vs) :: vObs l) (fun i => Nat.ble 1000 i || Nat.blt i 102) (.own 100)) (hp : preB pre = true)
    (h3 : ∀ i, (Nat.ble 1000 i || Nat.blt i 102) = true → cx.fixp i = false) (k : AOps cx ops rest ((e.killP fun i => Nat.ble 1000 i || Nat.blt i 102).put o.dst (.own 100)) (((100, .val vs) :: Obs.killP (fun i => Nat.ble 1000 i || Nat.blt i 102) pre) ++ vObs l) Q) :
    AOps cx ops (o :: rest) e pre Q := by
  have hpr := preB_spec hp
  refine AOps.callXS hg hd ho ha h trivial (allIds_of fun p hq => ?_) (allIds_of fun p hq => allIds_of fun q hq2 => ?_) h3 (AOps.obs (fun p hq => ?_) k)
  · have hq : p ∈ pre := hq
    have := hpr p hq
    have h4 : Nat.ble 1000 p.1 = false := by rw [Bool.eq_false_iff]; intro hh; have := Nat.le_of_ble_eq_true hh; omega
    have h5 : Nat.blt p.1 102 = false := by rw [Bool.eq_false_iff]; intro hh; rw [Nat.blt_eq] at hh; omega
    simp [h4, h5]
  · have hq2 : q ∈ pre := hq2
    have := hpr q hq2
    rcases List.mem_cons.1 hq with rfl | hq
    · simp [beqF (show 100 ≠ q.1 by omega)]
    · rcases vObs_ids hq with h4 | h4 <;> simp [beqF (show p.1 ≠ q.1 by omega)]
  · rcases List.mem_append.1 hq with hq | hq
    · rcases List.mem_cons.1 hq with rfl | hq
      · exact mem_join_l (.head _)
      · exact mem_join_r hq
    · exact mem_join_l (.tail _ hq)
end
theorem dayH_in : ∀ {hs : List Hrm} {d : Int} {j : Nat} (hj : j < hs.length), j ≤ (dayH hs d).length → hs[j].day = d → j < (dayH hs d).length
  | h :: hs, d, 0, _, _, he => by
    unfold dayH
    rw [List.takeWhile_cons, if_pos (by simpa using he)]
    exact Nat.succ_pos _
  | h :: hs, d, j + 1, hj, hle, he => by
    unfold dayH at hle ⊢
    rw [List.takeWhile_cons] at hle ⊢
    by_cases e : h.day = d
    · rw [if_pos (by simpa using e)] at hle ⊢
      have := dayH_in (hs := hs) (d := d) (j := j) (by simpa using hj) (by unfold dayH; simpa using hle) (by simpa using he)
      unfold dayH at this
      simpa using this
    · rw [if_neg (by simpa using e)] at hle
      simp at hle
theorem dayH_get {hs : List Hrm} {d : Int} {j : Nat} (h : j < (dayH hs d).length) : ∃ hj : j < hs.length, hs[j] = (dayH hs d)[j] ∧ hs[j].day = d := by
  have hj : j < hs.length := Nat.lt_of_lt_of_le h (dayH_le hs d)
  have h1 : hs[j] = (dayH hs d)[j] := by
    have h2 : dayH hs d <+: hs := List.takeWhile_prefix _
    exact (h2.getElem h).symm
  refine ⟨hj, h1, ?_⟩
  rw [h1]
  have h3 : (dayH hs d)[j] ∈ dayH hs d := List.getElem_mem h
  have key : ∀ (l : List Hrm) (x : Hrm), x ∈ dayH l d → x.day = d := by
    intro l
    induction l with
    | nil => intro x hx; cases hx
    | cons y l ih =>
      intro x hx
      unfold dayH at hx
      rw [List.takeWhile_cons] at hx
      by_cases e : y.day = d
      · rw [if_pos (by simpa using e)] at hx
        rcases List.mem_cons.1 hx with rfl | hx
        · exact e
        · exact ih x hx
      · rw [if_neg (by simpa using e)] at hx; cases hx
  exact key _ _ h3
theorem dayH_end {hs : List Hrm} {d : Int} {j : Nat} (hle : j ≤ (dayH hs d).length) (h : ∀ hj : j < hs.length, hs[j].day ≠ d) : j = (dayH hs d).length := by
  by_cases h1 : j < (dayH hs d).length
  · obtain ⟨hj, _, h2⟩ := dayH_get h1
    exact absurd h2 (h hj)
  · omega
theorem fold_take {l : List Cpy} {hs : List Hrm} {j : Nat} (h : j < hs.length) : (hs.take (j + 1)).foldl harmC l = harmC ((hs.take j).foldl harmC l) hs[j] := by
  rw [List.take_add_one, List.getElem?_eq_getElem h, Option.toList_some, List.foldl_append]
  rfl
/-- Where a day stands, behind its first j harms. -/
def hAt (s : St) (day : Int) (j : Nat) : List Cpy := ((dayH s.hs day).take j).foldl harmC s.l
theorem hAt_all (s : St) (day : Int) : hAt s day (dayH s.hs day).length = (dayH s.hs day).foldl harmC s.l := by unfold hAt; rw [List.take_length]
/-- .. behind its first k checks. -/
def cAt (every : Int) (s : St) (day : Int) (k : Nat) : List Cpy × List Dn := chkTo every day ((dayH s.hs day).foldl harmC s.l, s.o) k
theorem hAt_vok {v : Vlt} {s : St} (hv : VOk (withC v s.l)) (hh : ∀ h ∈ s.hs, HrmOk v h) (day : Int) (j : Nat) : VOk (withC v (hAt s day j)) :=
  harms_vok _ hv fun h hm => hh h (dayH_sub h (List.mem_of_mem_take hm))
theorem hAt_len (s : St) (day : Int) (j : Nat) : (hAt s day j).length = s.l.length := harms_len _ _
theorem cAt_vok {v : Vlt} {s : St} (hv : VOk (withC v s.l)) (hh : ∀ h ∈ s.hs, HrmOk v h) {every day : Int} (he : 1 ≤ every) (hd : day ≤ 200000) (k : Nat) : VOk (withC v (cAt every s day k).1) :=
  chkTo_vok (s := ((dayH s.hs day).foldl harmC s.l, s.o)) (harms_vok _ hv fun h hm => hh h (dayH_sub h hm)) he hd k
theorem cAt_len (every : Int) (s : St) (day : Int) (k : Nat) : (cAt every s day k).1.length = s.l.length := by unfold cAt; rw [chkTo_len]; exact harms_len _ _
theorem cAt_next_no {every : Int} {s : St} {day : Int} {k : Nat} (hk : k < (cAt every s day k).1.length) (h : (cAt every s day k).1[k].last + every > day) : cAt every s day (k + 1) = cAt every s day k := chk1_no hk h
theorem cAt_next {every : Int} {s : St} {day : Int} {k : Nat} (hk : k < (cAt every s day k).1.length) (h : ¬ (cAt every s day k).1[k].last + every > day) :
    (cAt every s day (k + 1)).1 = checkedC (cAt every s day k).1 k day ∧ (cAt every s day (k + 1)).2 = (cAt every s day k).2 ++ [doneC (cAt every s day k).1 (cAt every s day k).1[k] day] := by
  have := chk1_yes hk h
  exact ⟨congrArg Prod.fst this, congrArg Prod.snd this⟩
theorem day1_eq (every : Int) (s : St) (day : Int) : (day1 every s day).l = (cAt every s day s.l.length).1 ∧ (day1 every s day).hs = s.hs.drop (dayH s.hs day).length ∧ (day1 every s day).o = (cAt every s day s.l.length).2 := ⟨rfl, rfl, rfl⟩
/-- Where Live stands, behind n days. -/
def sAt (v : Vlt) (p : Pol) (frm : Int) (hs : List Hrm) (n : Nat) : St := liveTo p.every frm ⟨v.copies, hs, []⟩ n
theorem sAt_next (v : Vlt) (p : Pol) (frm : Int) (hs : List Hrm) (n : Nat) : sAt v p frm hs (n + 1) = day1 p.every (sAt v p frm hs n) (frm + n) := rfl
/-- One check too many. -/
theorem live_over {v : Vlt} {p : Pol} {frm to : Int} {hs : List Hrm} {n k : Nat} (hb : bothFault v p = 0) (h1 : 0 ≤ frm ∧ frm ≤ 200000) (h2 : frm ≤ to ∧ to ≤ 200001) (hh : harmsFault v frm to hs = 0) (hn : n < (to - frm).toNat)
    (hk : k < (cAt p.every (sAt v p frm hs n) (frm + n) k).1.length) (hle : ¬ (cAt p.every (sAt v p frm hs n) (frm + n) k).1[k].last + p.every > frm + n) (ho : (cAt p.every (sAt v p frm hs n) (frm + n) k).2.length = 20000) : liveFault v p frm to hs = 2 := by
  have hkl : k < (sAt v p frm hs n).l.length := by rw [cAt_len] at hk; exact hk
  have h3 := (cAt_next hk hle).2
  have h4 : 20000 < (cAt p.every (sAt v p frm hs n) (frm + n) (k + 1)).2.length := by rw [h3, List.length_append]; simp; omega
  have h5 := chkTo_mono p.every (frm + n) ((dayH (sAt v p frm hs n).hs (frm + n)).foldl harmC (sAt v p frm hs n).l, (sAt v p frm hs n).o) (k + 1) ((sAt v p frm hs n).l.length - (k + 1))
  rw [show k + 1 + ((sAt v p frm hs n).l.length - (k + 1)) = (sAt v p frm hs n).l.length by omega] at h5
  have h6 : 20000 < (sAt v p frm hs (n + 1)).o.length := by
    rw [sAt_next]
    exact Nat.lt_of_lt_of_le h4 h5
  have h7 := liveTo_mono p.every frm ⟨v.copies, hs, []⟩ (n + 1) ((to - frm).toNat - (n + 1))
  rw [show n + 1 + ((to - frm).toNat - (n + 1)) = (to - frm).toNat by omega] at h7
  unfold liveFault
  rw [if_neg (fun h => h hb), if_neg (by omega), if_neg (fun h => h hh), if_pos (show 20000 < (liveS v p frm to hs).o.length from Nat.lt_of_lt_of_le h6 h7)]
theorem live_bad {v : Vlt} {p : Pol} {frm to : Int} {hs : List Hrm} (h : liveFault v p frm to hs ≠ 0) : liveV v p frm to hs = ⟨[], [], []⟩ ∧ liveO v p frm to hs = [] := by
  unfold liveV liveO
  rw [if_neg h, if_neg h]
  exact ⟨rfl, rfl⟩
theorem live_ok {v : Vlt} {p : Pol} {frm to : Int} {hs : List Hrm} (hb : bothFault v p = 0) (h1 : 0 ≤ frm ∧ frm ≤ 200000) (h2 : frm ≤ to ∧ to ≤ 200001) (hh : harmsFault v frm to hs = 0) (ho : (sAt v p frm hs (to - frm).toNat).o.length ≤ 20000) :
    liveFault v p frm to hs = 0 ∧ liveV v p frm to hs = withC v (sAt v p frm hs (to - frm).toNat).l ∧ liveO v p frm to hs = (sAt v p frm hs (to - frm).toNat).o := by
  have h0 : liveFault v p frm to hs = 0 := by
    unfold liveFault
    rw [if_neg (fun h => h hb), if_neg (by omega), if_neg (fun h => h hh), if_neg]
    show ¬ 20000 < (sAt v p frm hs (to - frm).toNat).o.length
    omega
  unfold liveV liveO
  rw [if_pos h0, if_pos h0]
  exact ⟨h0, rfl, rfl⟩


set_option maxRecDepth 100000 in
set_option maxHeartbeats 1000000 in
theorem c_pBothL (v : Vlt) (p : Pol) (hs : smallV v) : ACall Tryd.prog 54 [.agg v.ds, .agg p.ds] (.v (.int .i64 (bothFault v p))) := by
  refine acall_of (n := 13) (ds' := [.v (.int .i64 (bothFault v p))]) Tryd.func54 rfl (by kernel_rfl) rfl [4] rfl rfl ?_
  intro B w0 F0 fr
  refine AWP.seq ?_
  refine AWP.region ?_
  refine AOps.step rfl rfl rfl (AOp.box rfl rfl rfl) ?_
  refine AOps.step rfl rfl rfl (AOp.box rfl rfl rfl) ?_
  refine AOps.step rfl rfl rfl (AOp.assignD rfl rfl) ?_
  refine AOps.nil ?_
  refine AWP.seq ?_
  refine AWP.seq ?_
  refine AWP.region ?_
  refine AOps.step rfl rfl rfl (AOp.loadAgg rfl ag_26 rfl rfl) ?_
  refine AOps.step rfl rfl rfl (AOp.call rfl (.cons (ArgOk.rfl' rfl) .nil) (c_pCheck v hs)) ?_
  refine AOps.step rfl rfl rfl (AOp.assignD rfl rfl) ?_
  refine AOps.nil ?_
  refine AWP.seq ?_
  refine AWP.region ?_
  refine AOps.step rfl rfl rfl (AOp.moveD rfl rfl) ?_
  refine AOps.step rfl rfl rfl (AOp.neq rfl rfl rfl) ?_
  refine AOps.nil ?_
  refine AWP.cond rfl (fun h1 => ?_) (fun h1 => ?_)
  · replace h1 := of_decide_eq_true h1
    rw [both_v h1]
    refine AWP.seq ?_
    refine AWP.region ?_
    refine AOps.step rfl rfl rfl (AOp.moveD rfl rfl) ?_
    refine AOps.step rfl rfl rfl (AOp.assignD rfl rfl) ?_
    refine AOps.nil ?_
    refine AWP.ret ?_
    refine ⟨RetD.eq rfl ?_, trivial⟩
    all_goals (rfl)
  · replace h1 := of_decide_eq_false h1
    rw [both_p (Decidable.not_not.1 h1)]
    refine AWP.skip ?_
    refine AWP.seq ?_
    refine AWP.region ?_
    refine AOps.step rfl rfl rfl (AOp.loadAgg rfl ag_28 rfl rfl) ?_
    refine AOps.step rfl rfl rfl (AOp.call rfl (.cons (ArgOk.rfl' rfl) .nil) (c_pPol p)) ?_
    refine AOps.step rfl rfl rfl (AOp.assignD rfl rfl) ?_
    refine AOps.nil ?_
    refine AWP.ret ?_
    refine ⟨RetD.eq rfl ?_, trivial⟩
    all_goals (rfl)

end Go.Proofs.YtieccphckobhjaaDoor


namespace Go.Proofs.YtieccphckobhjaaDoor
open Go.RowKit
set_option linter.unusedVariables false

/-! Types. -/
namespace TyQ9
theorem ag_26 : AggT Tryd.prog 26 3 := .of (by kernel_rfl)
theorem ag_28 : AggT Tryd.prog 28 6 := .of (by kernel_rfl)
theorem ag_77 : AggT Tryd.prog 77 7 := .of (by kernel_rfl)
theorem bu_26 : StructT Tryd.prog 26 (fun i => (#[(0, 1), (1, 1), (2, 1)] : Array (Nat × Nat))[i]?) [(.slice none 0 0), (.slice none 0 0), (.slice none 0 0)] := .of (by kernel_rfl) (by kernel_rfl) (by decide)
theorem et_24 : ElemTy Tryd.prog 24 77 7 96 (.agg #[(.string ⟨#[]⟩), (.string ⟨#[]⟩), (.string ⟨#[]⟩), (.int .i64 0), (.int .i64 0), (.int .i64 0), (.slice none 0 0)]) := ⟨by kernel_rfl, by kernel_rfl, by kernel_rfl, by decide⟩
theorem et_48 : ElemTy Tryd.prog 48 57 4 48 (.agg #[(.int .i64 0), (.string ⟨#[]⟩), (.string ⟨#[]⟩), (.int .i64 0)]) := ⟨by kernel_rfl, by kernel_rfl, by kernel_rfl, by decide⟩
theorem et_49 : ElemTy Tryd.prog 49 53 5 56 (.agg #[(.int .i64 0), (.string ⟨#[]⟩), (.string ⟨#[]⟩), (.int .i64 0), (.int .i64 0)]) := ⟨by kernel_rfl, by kernel_rfl, by kernel_rfl, by decide⟩
theorem fo_26_2 : fieldOff Tryd.prog 26 2 = some 2 := by kernel_rfl
theorem fo_28_3 : fieldOff Tryd.prog 28 3 = some 3 := by kernel_rfl
theorem fo_57_0 : fieldOff Tryd.prog 57 0 = some 0 := by kernel_rfl
theorem fo_77_4 : fieldOff Tryd.prog 77 4 = some 4 := by kernel_rfl
theorem sc_24 : Scal Tryd.prog 24 := .of (by kernel_rfl)
theorem sc_3 : Scal Tryd.prog 3 := .of (by kernel_rfl)
theorem sz_26 : ∀ w, (sizeOf 26).run Tryd.prog w = .ok 3 w := SizeT.of (by kernel_rfl)
theorem sz_77 : ∀ w, (sizeOf 77).run Tryd.prog w = .ok 7 w := SizeT.of (by kernel_rfl)
theorem zt_26 : (Tryd.prog.info? 26).bind (·.zero) = some (.agg #[(.slice none 0 0), (.slice none 0 0), (.slice none 0 0)]) := by kernel_rfl
theorem zt_77 : (Tryd.prog.info? 77).bind (·.zero) = some (.agg #[(.string ⟨#[]⟩), (.string ⟨#[]⟩), (.string ⟨#[]⟩), (.int .i64 0), (.int .i64 0), (.int .i64 0), (.slice none 0 0)]) := by kernel_rfl
end TyQ9
open TyQ9


theorem hag_77 : AggT Tryd.prog 77 7 := .of (by kernel_rfl)
theorem hag_57 : AggT Tryd.prog 57 4 := .of (by kernel_rfl)
theorem het_48 : ElemTy Tryd.prog 48 57 4 48 (.agg #[.int .i64 0, .string ⟨#[]⟩, .string ⟨#[]⟩, .int .i64 0]) := ⟨by kernel_rfl, by kernel_rfl, by kernel_rfl, by decide⟩
theorem drop_at {hs : List Hrm} {j : Nat} (h : j < hs.length) : ((hs.drop j).map Hrm.ds)[0]? = some hs[j].ds := by simp [h]
theorem drop_next {hs : List Hrm} {j : Nat} : ((hs.drop j).map Hrm.ds).drop (Int.toNat 1) = (hs.drop (j + 1)).map Hrm.ds := by
  show ((hs.drop j).map Hrm.ds).drop 1 = _
  rw [← List.map_drop, List.drop_drop]
def cpyW (c : Cpy) : List D := [.v (.string c.item), .v (.string c.carrier), .v (.string c.frm), .v (.int .i64 c.day), .v (.int .i64 c.last), .v (.int .i64 c.gen), .any]
theorem cpysW {b k : Nat} {l : List Cpy} (h : k < l.length) : ((cpysS b l).map fun ss => ss.map S.weak)[k]? = some (cpyW l[k]) := by
  rw [List.getElem?_map, cpysS_get (List.getElem?_eq_getElem h)]
  rfl
theorem sub_drop2 {a b x : Nat × Ob} {c T : Obs} : ∀ p ∈ (a :: c) ++ T, p ∈ (a :: x :: c) ++ T := fun p hp => by
  rcases List.mem_cons.1 hp with rfl | hp
  · exact .head _
  · exact .tail _ (.tail _ hp)


set_option maxRecDepth 100000 in
set_option maxHeartbeats 4000000 in
theorem c_live (v : Vlt) (p : Pol) (frm to : Int) (hs : List Hrm) (hsm : smallV v) : ACall Tryd.prog 20 [.agg v.ds, .agg p.ds, .v (.int .i64 frm), .v (.int .i64 to), .sl (hs.map Hrm.ds)] (.tup [.agg (liveV v p frm to hs).ds, .sl ((liveO v p frm to hs).map Dn.ds), .v (.int .i64 (liveFault v p frm to hs))]) := by
  refine acall_ofR (n := 100) (ds' := [.agg (liveV v p frm to hs).ds, .sl ((liveO v p frm to hs).map Dn.ds), .v (.int .i64 (liveFault v p frm to hs))]) Tryd.func20 rfl (by kernel_rfl) rfl [.cell 10 26, .tmp 11, .tmp 12] rfl rfl ?_
  intro B w0 F0 fr
  refine AWP.seq ?_
  refine AWP.region ?_
  refine AOps.boxOwn 201 rfl rfl rfl rfl rfl rfl rfl ?_
  refine AOps.step rfl rfl rfl (AOp.box rfl rfl rfl) ?_
  refine AOps.alloc 202 rfl rfl rfl rfl zt_26 rfl rfl rfl ?_
  refine AOps.step rfl rfl rfl (AOp.assignD rfl rfl) ?_
  refine AOps.step rfl rfl rfl (AOp.assignD rfl rfl) ?_
  refine AOps.nil ?_
  refine AWP.seq ?_
  refine AWP.seq ?_
  refine AWP.region ?_
  refine AOps.step rfl rfl rfl (AOp.loadPU rfl ag_26 rfl (.tail _ (.head _)) rfl rfl) ?_
  refine AOps.step rfl rfl rfl (AOp.loadAgg rfl ag_28 rfl rfl) ?_
  refine AOps.step rfl rfl rfl (AOp.call rfl (.cons (ArgOk.rfl' rfl) (.cons (ArgOk.rfl' rfl) .nil)) (c_pBothL v p hsm)) ?_
  refine AOps.step rfl rfl rfl (AOp.assignD rfl rfl) ?_
  refine AOps.nil ?_
  refine AWP.seq ?_
  refine AWP.region ?_
  refine AOps.step rfl rfl rfl (AOp.moveD rfl rfl) ?_
  refine AOps.step rfl rfl rfl (AOp.neq rfl rfl rfl) ?_
  refine AOps.nil ?_
  refine AWP.cond rfl (fun h1 => ?_) (fun h1 => ?_)
  · replace h1 := of_decide_eq_true h1
    have HF : liveFault v p frm to hs = bothFault v p := by unfold liveFault; rw [if_pos h1]
    obtain ⟨HV, HO⟩ := live_bad (v := v) (p := p) (frm := frm) (to := to) (hs := hs) (by rw [HF]; first | assumption | decide)
    rw [HV, HO, HF]
    refine AWP.seq ?_
    refine AWP.region ?_
    refine AOps.step rfl rfl rfl (AOp.build rfl bu_26 .nil rfl) ?_
    refine AOps.step rfl rfl rfl (AOp.moveD rfl rfl) ?_
    refine AOps.store rfl rfl rfl sz_26 rfl (.head _) rfl rfl rfl (Nat.le_of_ble_eq_true rfl) ?_
    refine AOps.step rfl rfl rfl (AOp.assignD rfl rfl) ?_
    refine AOps.step rfl rfl rfl (AOp.assignD rfl rfl) ?_
    refine AOps.nil ?_
    refine AWP.ret ?_
    refine ⟨RetR.agg rfl (.head _) ag_26 rfl (.cons (by first | exact CellD.nil | exact CellD.d | exact CellD.eq (by simp) | (refine CellD.own (by first | exact .head _ | exact .tail _ (.head _)) ?_; rfl)) (.cons (by first | exact CellD.nil | exact CellD.d | exact CellD.eq (by simp) | (refine CellD.own (by first | exact .head _ | exact .tail _ (.head _)) ?_; rfl)) (.cons (by first | exact CellD.nil | exact CellD.d | exact CellD.eq (by simp) | (refine CellD.own (by first | exact .head _ | exact .tail _ (.head _)) ?_; rfl)) .nil))), RetD.nil rfl, RetD.eq rfl ?_, trivial⟩
    all_goals (rfl)
  · replace h1 := of_decide_eq_false h1
    have hb0 := Decidable.not_not.1 h1
    obtain ⟨vo, po⟩ := both_ok hb0
    have hpe := po.every
    refine AWP.skip ?_
    refine AWP.seq ?_
    refine AWP.seq ?_
    refine AWP.region ?_
    refine AOps.step rfl rfl rfl (AOp.moveD rfl rfl) ?_
    refine AOps.step rfl rfl rfl (AOp.call rfl (.cons (ArgOk.rfl' rfl) .nil) (c_pDay _)) ?_
    refine AOps.step rfl rfl rfl (AOp.not rfl rfl) ?_
    refine AOps.step rfl rfl rfl (AOp.moveD rfl rfl) ?_
    refine AOps.split 29 rfl (fun g2 => ?_) (fun g2 => ?_)
    · replace g2 := bnot_t g2; replace g2 := of_decide_eq_false g2
      have HF : liveFault v p frm to hs = 1 := by unfold liveFault; rw [if_neg (fun hh => hh hb0), if_pos (.inl g2)]
      obtain ⟨HV, HO⟩ := live_bad (v := v) (p := p) (frm := frm) (to := to) (hs := hs) (by rw [HF]; first | assumption | decide)
      rw [HV, HO, HF]
      refine AOps.pass ⟨29, rfl, .inl ⟨_, rfl, rfl⟩⟩ rfl rfl ?_
      refine AOps.pass ⟨29, rfl, .inl ⟨_, rfl, rfl⟩⟩ rfl rfl ?_
      refine AOps.pass ⟨29, rfl, .inl ⟨_, rfl, rfl⟩⟩ rfl rfl ?_
      refine AOps.pass ⟨29, rfl, .inl ⟨_, rfl, rfl⟩⟩ rfl rfl ?_
      refine AOps.step rfl rfl rfl (AOp.pickT rfl rfl rfl) ?_
      refine AOps.nil ?_
      refine AWP.cond rfl (fun _ => ?_) (fun h => nomatch h)
      refine AWP.seq ?_
      refine AWP.region ?_
      refine AOps.step rfl rfl rfl (AOp.build rfl bu_26 .nil rfl) ?_
      refine AOps.store rfl rfl rfl sz_26 rfl (.head _) rfl rfl rfl (Nat.le_of_ble_eq_true rfl) ?_
      refine AOps.step rfl rfl rfl (AOp.assignD rfl rfl) ?_
      refine AOps.step rfl rfl rfl (AOp.assignD rfl rfl) ?_
      refine AOps.nil ?_
      refine AWP.ret ?_
      refine ⟨RetR.agg rfl (.head _) ag_26 rfl (.cons (by first | exact CellD.nil | exact CellD.d | exact CellD.eq (by simp) | (refine CellD.own (by first | exact .head _ | exact .tail _ (.head _)) ?_; rfl)) (.cons (by first | exact CellD.nil | exact CellD.d | exact CellD.eq (by simp) | (refine CellD.own (by first | exact .head _ | exact .tail _ (.head _)) ?_; rfl)) (.cons (by first | exact CellD.nil | exact CellD.d | exact CellD.eq (by simp) | (refine CellD.own (by first | exact .head _ | exact .tail _ (.head _)) ?_; rfl)) .nil))), RetD.nil rfl, RetD.eq rfl ?_, trivial⟩
      all_goals (rfl)
    · replace g2 := bnot_f g2; replace g2 := of_decide_eq_true g2
      have hfr : 0 ≤ frm ∧ frm ≤ 200000 := by omega
      refine AOps.step ⟨29, rfl, .inl ⟨_, rfl, rfl⟩⟩ rfl rfl (AOp.moveD rfl rfl) ?_
      refine AOps.step ⟨29, rfl, .inl ⟨_, rfl, rfl⟩⟩ rfl rfl (AOp.moveD rfl rfl) ?_
      refine AOps.step ⟨29, rfl, .inl ⟨_, rfl, rfl⟩⟩ rfl rfl (AOp.call rfl (.cons (ArgOk.rfl' rfl) (.cons (ArgOk.rfl' rfl) (.cons (ArgOk.rfl' rfl) .nil))) (c_pWithin _ _ _)) ?_
      refine AOps.step ⟨29, rfl, .inl ⟨_, rfl, rfl⟩⟩ rfl rfl (AOp.not rfl rfl) ?_
      refine AOps.step rfl rfl rfl (AOp.pickF rfl rfl rfl) ?_
      refine AOps.nil ?_
      refine AWP.cond rfl (fun h3 => ?_) (fun h3 => ?_)
      · replace h3 := bnot_t h3; replace h3 := of_decide_eq_false h3
        have HF : liveFault v p frm to hs = 1 := by unfold liveFault; rw [if_neg (fun hh => hh hb0), if_pos (.inr (by omega))]
        obtain ⟨HV, HO⟩ := live_bad (v := v) (p := p) (frm := frm) (to := to) (hs := hs) (by rw [HF]; first | assumption | decide)
        rw [HV, HO, HF]
        refine AWP.seq ?_
        refine AWP.region ?_
        refine AOps.step rfl rfl rfl (AOp.build rfl bu_26 .nil rfl) ?_
        refine AOps.store rfl rfl rfl sz_26 rfl (.head _) rfl rfl rfl (Nat.le_of_ble_eq_true rfl) ?_
        refine AOps.step rfl rfl rfl (AOp.assignD rfl rfl) ?_
        refine AOps.step rfl rfl rfl (AOp.assignD rfl rfl) ?_
        refine AOps.nil ?_
        refine AWP.ret ?_
        refine ⟨RetR.agg rfl (.head _) ag_26 rfl (.cons (by first | exact CellD.nil | exact CellD.d | exact CellD.eq (by simp) | (refine CellD.own (by first | exact .head _ | exact .tail _ (.head _)) ?_; rfl)) (.cons (by first | exact CellD.nil | exact CellD.d | exact CellD.eq (by simp) | (refine CellD.own (by first | exact .head _ | exact .tail _ (.head _)) ?_; rfl)) (.cons (by first | exact CellD.nil | exact CellD.d | exact CellD.eq (by simp) | (refine CellD.own (by first | exact .head _ | exact .tail _ (.head _)) ?_; rfl)) .nil))), RetD.nil rfl, RetD.eq rfl ?_, trivial⟩
        all_goals (rfl)
      · replace h3 := bnot_f h3; replace h3 := of_decide_eq_true h3
        have hft : frm ≤ to ∧ to ≤ 200001 := by omega
        refine AWP.skip ?_
        refine AWP.seq ?_
        refine AWP.seq ?_
        refine AWP.region ?_
        refine AOps.step rfl rfl rfl (AOp.loadPU rfl ag_26 rfl (.tail _ (.head _)) rfl rfl) ?_
        refine AOps.step rfl rfl rfl (AOp.moveD rfl rfl) ?_
        refine AOps.step rfl rfl rfl (AOp.moveD rfl rfl) ?_
        refine AOps.step rfl rfl rfl (AOp.moveD rfl rfl) ?_
        refine AOps.step rfl rfl rfl (AOp.call rfl (.cons (ArgOk.rfl' rfl) (.cons (ArgOk.rfl' rfl) (.cons (ArgOk.rfl' rfl) (.cons (ArgOk.rfl' rfl) .nil)))) (c_checkHarms v frm to hs (okItems_of vo.items) (by omega))) ?_
        refine AOps.step rfl rfl rfl (AOp.assignD rfl rfl) ?_
        refine AOps.nil ?_
        refine AWP.seq ?_
        refine AWP.region ?_
        refine AOps.step rfl rfl rfl (AOp.moveD rfl rfl) ?_
        refine AOps.step rfl rfl rfl (AOp.neq rfl rfl rfl) ?_
        refine AOps.nil ?_
        refine AWP.cond rfl (fun h4 => ?_) (fun h4 => ?_)
        · replace h4 := of_decide_eq_true h4
          have HF : liveFault v p frm to hs = harmsFault v frm to hs := by unfold liveFault; rw [if_neg (fun hh => hh hb0), if_neg (by omega), if_pos h4]
          obtain ⟨HV, HO⟩ := live_bad (v := v) (p := p) (frm := frm) (to := to) (hs := hs) (by rw [HF]; first | assumption | decide)
          rw [HV, HO, HF]
          refine AWP.seq ?_
          refine AWP.region ?_
          refine AOps.step rfl rfl rfl (AOp.build rfl bu_26 .nil rfl) ?_
          refine AOps.step rfl rfl rfl (AOp.moveD rfl rfl) ?_
          refine AOps.store rfl rfl rfl sz_26 rfl (.head _) rfl rfl rfl (Nat.le_of_ble_eq_true rfl) ?_
          refine AOps.step rfl rfl rfl (AOp.assignD rfl rfl) ?_
          refine AOps.step rfl rfl rfl (AOp.assignD rfl rfl) ?_
          refine AOps.nil ?_
          refine AWP.ret ?_
          refine ⟨RetR.agg rfl (.head _) ag_26 rfl (.cons (by first | exact CellD.nil | exact CellD.d | exact CellD.eq (by simp) | (refine CellD.own (by first | exact .head _ | exact .tail _ (.head _)) ?_; rfl)) (.cons (by first | exact CellD.nil | exact CellD.d | exact CellD.eq (by simp) | (refine CellD.own (by first | exact .head _ | exact .tail _ (.head _)) ?_; rfl)) (.cons (by first | exact CellD.nil | exact CellD.d | exact CellD.eq (by simp) | (refine CellD.own (by first | exact .head _ | exact .tail _ (.head _)) ?_; rfl)) .nil))), RetD.nil rfl, RetD.eq rfl ?_, trivial⟩
          all_goals (rfl)
        · replace h4 := of_decide_eq_false h4
          have hh0 := Decidable.not_not.1 h4
          have hok := hsok_of hh0
          refine AWP.skip ?_
          refine AWP.seq ?_
          refine AWP.region ?_
          refine AOps.step rfl rfl rfl (AOp.loadPU rfl ag_26 rfl (.tail _ (.head _)) rfl rfl) ?_
          refine AOps.callOwn rfl rfl rfl (.cons (SLe.refl _) .nil) (c_own v vo) rfl (fun _ _ => rfl) ?_
          refine AOps.eff rfl rfl (EOp.storeVal (ss' := vaultS v) rfl rfl hsz_26 rfl (.tail _ (.tail _ (.head _))) rfl (.head _) rfl (Nat.le_refl 3)) ?_
          refine AOps.nU rfl ?_
          refine AOps.nil ?_
          refine AWP.seq ?_
          refine AWP.region ?_
          refine AOps.step rfl rfl rfl (AOp.assignD rfl rfl) ?_
          refine AOps.nil ?_
          refine AWP.seq ?_
          refine AWP.seq ?_
          refine AWP.region ?_
          refine AOps.step rfl rfl rfl (AOp.moveD rfl rfl) ?_
          refine AOps.step rfl rfl rfl (AOp.assignD rfl rfl) ?_
          refine AOps.nil ?_
          refine AWP.block ?_
          refine AWP.adopt 15 210 53 5 rfl (fK rfl rfl) ?_
          refine AWP.nK rfl ?_
          refine AWP.loop (G := Nat) (fun i => Env.of [(16, .d (.v (.int .i64 (frm + (i : Int))))), (4, .d (.sl ((sAt v p frm hs i).hs.map Hrm.ds))), (3, .d (.v (.int .i64 to))), (5, .ptr 201 0), (6, .d (.fp p.ds)), (10, .ptr 202 0), (15, .own 210)]) (fun i => [(210, .row 53 5 (((sAt v p frm hs i).o).map Dn.ds)), (202, .cells ZV), (201, .cells (vaultS v))] ++ vObs (sAt v p frm hs i).l) (fun i => i ≤ (to - frm).toNat ∧ (sAt v p frm hs i).o.length ≤ 20000) (fun i => (to - frm).toNat - i) 0 ⟨Nat.zero_le _, Nat.zero_le _⟩ (Sub.less ⟨(SLe.i64 (by simp)), (SLe.of_eq rfl), SLe.refl _, SLe.refl _, SLe.refl _, SLe.refl _, SLe.refl _, trivial⟩ (sub_drop2 (b := (0, .bts [])))) ?_
          intro i hi
          refine AWP.seq ?_
          refine AWP.seq ?_
          refine AWP.region ?_
          refine AOps.step rfl rfl rfl (AOp.moveD rfl rfl) ?_
          refine AOps.step rfl rfl rfl (AOp.moveD rfl rfl) ?_
          refine AOps.step rfl rfl rfl (AOp.lss rfl rfl rfl) ?_
          refine AOps.nil ?_
          refine AWP.cond rfl (fun h5 => ?_) (fun h5 => ?_)
          · replace h5 := of_decide_eq_true h5
            have hin : i < (to - frm).toNat := by omega
            have hvs := liveTo_vok (s := ⟨v.copies, hs, []⟩) (frm := frm) vo hok.ok hpe.1 i (by omega)
            have hsh : ∀ h ∈ (sAt v p frm hs i).hs, HrmOk v h := fun h hm => hok.ok h (liveTo_hs (s := ⟨v.copies, hs, []⟩) i h hm)
            have hnl := hvs.np
            refine AWP.skip ?_
            refine AWP.seq ?_
            refine AWP.block ?_
            refine AWP.seq ?_
            refine AWP.block ?_
            refine AWP.loop (G := Nat) (fun j => Env.of [(4, .d (.sl (((sAt v p frm hs i).hs.drop j).map Hrm.ds))), (16, .d (.v (.int .i64 (frm + (i : Int))))), (3, .d (.v (.int .i64 to))), (5, .ptr 201 0), (6, .d (.fp p.ds)), (10, .ptr 202 0), (15, .own 210)]) (fun j => [(210, .row 53 5 (((sAt v p frm hs i).o).map Dn.ds)), (202, .cells ZV), (201, .cells (vaultS v))] ++ vObs (hAt (sAt v p frm hs i) (frm + (i : Int)) j)) (fun j => j ≤ (dayH (sAt v p frm hs i).hs (frm + (i : Int))).length) (fun j => (dayH (sAt v p frm hs i).hs (frm + (i : Int))).length - j) 0 (Nat.zero_le _) (Sub.less ⟨(SLe.of_eq rfl), SLe.refl _, SLe.refl _, SLe.refl _, SLe.refl _, SLe.refl _, SLe.refl _, trivial⟩ (mem_of_eq rfl)) ?_
            intro j hj
            refine AWP.seq ?_
            refine AWP.seq ?_
            refine AWP.region ?_
            refine AOps.step rfl rfl rfl (AOp.moveD rfl rfl) ?_
            refine AOps.step rfl rfl rfl (AOp.lenSl rfl et_48.ht rfl) ?_
            refine AOps.step rfl rfl rfl (AOp.gtr rfl rfl rfl) ?_
            refine AOps.step rfl rfl rfl (AOp.moveD rfl rfl) ?_
            refine AOps.split 56 rfl (fun g6 => ?_) (fun g6 => ?_)
            · replace g6 := of_decide_eq_true g6
              rw [List.length_map, List.length_drop] at g6
              have hjl : j < (sAt v p frm hs i).hs.length := by omega
              refine AOps.step ⟨56, rfl, .inl ⟨_, rfl, rfl⟩⟩ rfl rfl (AOp.moveD rfl rfl) ?_
              refine AOps.step ⟨56, rfl, .inl ⟨_, rfl, rfl⟩⟩ rfl rfl (AOp.indexAddr rfl et_48 rfl rfl 0 rfl (drop_at hjl) rfl) ?_
              refine AOps.step ⟨56, rfl, .inl ⟨_, rfl, rfl⟩⟩ rfl rfl (AOp.fieldAddr rfl fo_57_0 rfl) ?_
              refine AOps.step ⟨56, rfl, .inl ⟨_, rfl, rfl⟩⟩ rfl rfl (AOp.load rfl sc_3 rfl) ?_
              refine AOps.step ⟨56, rfl, .inl ⟨_, rfl, rfl⟩⟩ rfl rfl (AOp.moveD rfl rfl) ?_
              refine AOps.step ⟨56, rfl, .inl ⟨_, rfl, rfl⟩⟩ rfl rfl (AOp.eql rfl rfl rfl) ?_
              refine AOps.step rfl rfl rfl (AOp.pickT rfl rfl rfl) ?_
              refine AOps.nil ?_
              refine AWP.cond rfl (fun h7 => ?_) (fun h7 => ?_)
              · replace h7 := of_decide_eq_true h7
                have hjn := dayH_in hjl hj h7
                have hvh := hAt_vok hvs hsh (frm + (i : Int)) j
                have HN : hAt (sAt v p frm hs i) (frm + (i : Int)) (j + 1) = harmC (hAt (sAt v p frm hs i) (frm + (i : Int)) j) (sAt v p frm hs i).hs[j] := by
                  obtain ⟨_, e1, _⟩ := dayH_get hjn
                  rw [e1]
                  exact fold_take hjn
                refine AWP.skip ?_
                refine AWP.block ?_
                refine AWP.seq ?_
                refine AWP.drawFresh 4 [⟨64, 100, .own 100, .val (vaultS v)⟩] (FrOk.one rfl (by simp) (fK rfl rfl) (kEq rfl rfl) rfl) (by kernel_rfl) (by kernel_rfl) (by kernel_rfl) (by kernel_rfl) ?_
                refine XRun.loadVal _ (.head _) rfl rfl rfl rfl rfl hag_v rfl (.tail _ (.tail _ (.head _))) (Nat.le_refl 3) rfl rfl ?_
                refine XRun.step rfl rfl rfl (AOp.moveD rfl rfl) ?_
                refine XRun.step rfl rfl rfl (AOp.indexAddr rfl het_48 rfl rfl 0 rfl (drop_at hjl) rfl) ?_
                refine XRun.step rfl rfl rfl (AOp.loadAgg rfl hag_57 rfl rfl) ?_
                refine XRun.nil ⟨rfl, trivial⟩ ?_
                refine AOps.callV (pre := [_, _, _]) rfl rfl rfl (.cons (SLe.refl _) (.cons (SLe.refl _) .nil)) (c_harm (withC v (hAt (sAt v p frm hs i) (frm + (i : Int)) j)) (sAt v p frm hs i).hs[j] (by have h1 : (hAt (sAt v p frm hs i) (frm + (i : Int)) j).length ≤ 200 := hvh.np; show (hAt (sAt v p frm hs i) (frm + (i : Int)) j).length ≤ 100000; omega) (fun c hc => Nat.le_trans (vok_bad hvh c hc) (by decide))) rfl (fun _ _ => rfl) ?_
                refine AOps.nil ?_
                refine AWP.region ?_
                refine AOps.step rfl rfl rfl (AOp.moveD rfl rfl) ?_
                refine AOps.step rfl rfl rfl (AOp.sliceL rfl et_48 rfl rfl (by decide) (by rw [List.length_map, List.length_drop]; omega) (fun y hy => by obtain ⟨x, _, rfl⟩ := List.mem_map.1 hy; rfl)) ?_
                refine AOps.step rfl rfl rfl (AOp.assignD rfl rfl) ?_
                refine AOps.nil ?_
                refine ⟨j + 1, (by dsimp only; omega), (by dsimp only; omega), Sub.less ⟨(SLe.of_eq (congrArg (fun x => S.d (D.sl x)) drop_next)), SLe.refl _, SLe.refl _, SLe.refl _, SLe.refl _, SLe.refl _, SLe.refl _, trivial⟩ (mem_of_eq (by dsimp only; rw [HN]; rfl))⟩
              · replace h7 := of_decide_eq_false h7
                have hje : j = (dayH (sAt v p frm hs i).hs (frm + (i : Int))).length := dayH_end hj (fun _ => h7)
                refine AWP.exit ?_
                refine AWP.seq ?_
                subst hje
                refine AWP.region ?_
                refine AOps.step rfl rfl rfl (AOp.fieldAddrP rfl fo_26_2 rfl) ?_
                refine AOps.step rfl rfl rfl (AOp.loadP rfl sc_24 rfl (.tail _ (.tail _ (.head _))) rfl) ?_
                refine AOps.step rfl rfl rfl (AOp.weak (AOp.lenOwn rfl het_24.ht rfl (Obs.weak_mem (p := (101, _)) (.tail _ (.tail _ (.tail _ (.head _))))))) ?_
                refine AOps.step rfl rfl rfl (AOp.moveD rfl rfl) ?_
                refine AOps.nil ?_
                refine AWP.block ?_
                refine AWP.loop (G := Nat) (fun k => Env.of [(74, .d (.v (.int .i64 (k : Int)))), (72, .own 101), (73, .d (.v (.int .i64 ((sAt v p frm hs i).l.length : Int)))), (16, .d (.v (.int .i64 (frm + (i : Int))))), (4, .d (.sl (((sAt v p frm hs i).hs.drop (dayH (sAt v p frm hs i).hs (frm + (i : Int))).length).map Hrm.ds))), (3, .d (.v (.int .i64 to))), (5, .ptr 201 0), (6, .d (.fp p.ds)), (10, .ptr 202 0), (15, .own 210)]) (fun k => [(210, .row 53 5 (((cAt p.every (sAt v p frm hs i) (frm + (i : Int)) k).2).map Dn.ds)), (202, .cells ZV), (201, .cells (vaultS v))] ++ vObs (cAt p.every (sAt v p frm hs i) (frm + (i : Int)) k).1) (fun k => k ≤ (sAt v p frm hs i).l.length ∧ (cAt p.every (sAt v p frm hs i) (frm + (i : Int)) k).2.length ≤ 20000) (fun k => (sAt v p frm hs i).l.length - k) 0 ⟨Nat.zero_le _, hi.2⟩ (Sub.less ⟨(SLe.of_eq rfl), SLe.refl _, (SLe.i64 (by rw [List.length_map, cpysS_len, hAt_len])), SLe.refl _, SLe.refl _, SLe.refl _, SLe.refl _, SLe.refl _, SLe.refl _, SLe.refl _, trivial⟩ (mem_of_eq (by rw [hAt_all]; rfl))) ?_
                intro k hk
                refine AWP.seq ?_
                refine AWP.region ?_
                refine AOps.step rfl rfl rfl (AOp.lss rfl rfl rfl) ?_
                refine AOps.nil ?_
                refine AWP.seq ?_
                refine AWP.cond rfl (fun h8 => ?_) (fun h8 => ?_)
                · replace h8 := of_decide_eq_true h8
                  have hkl : k < (sAt v p frm hs i).l.length := by omega
                  have hkc : k < (cAt p.every (sAt v p frm hs i) (frm + (i : Int)) k).1.length := by rw [cAt_len]; exact hkl
                  have hvc := cAt_vok hvs hsh hpe.1 (show (frm + (i : Int)) ≤ 200000 by omega) k
                  have hck := hvc.cpy _ (List.getElem_mem hkc)
                  have hla := hck.last
                  have hda := hck.day
                  have hnc : (cAt p.every (sAt v p frm hs i) (frm + (i : Int)) k).1.length ≤ 200 := hvc.np
                  refine AWP.skip ?_
                  refine AWP.seq ?_
                  refine AWP.block ?_
                  refine AWP.seq ?_
                  refine AWP.region ?_
                  refine AOps.step rfl rfl rfl (AOp.moveD rfl rfl) ?_
                  refine AOps.step rfl rfl rfl (AOp.weak (AOp.indexOwn rfl het_24 rfl rfl (Obs.weak_mem (p := (101, _)) (.tail _ (.tail _ (.tail _ (.head _))))) k rfl (by rw [List.length_map, cpysS_len]; exact hkc))) ?_
                  refine AOps.step rfl rfl rfl (AOp.weak (AOp.loadRowAgg rfl hag_77 rfl (Obs.weak_mem (p := (101, _)) (.tail _ (.tail _ (.tail _ (.head _))))) k rfl (cpysW hkc))) ?_
                  refine AOps.alloc 203 rfl rfl rfl rfl zt_77 rfl rfl (fK rfl rfl) ?_
                  refine AOps.nK rfl ?_
                  refine AOps.step rfl rfl rfl (AOp.assignD rfl rfl) ?_
                  refine AOps.store rfl rfl rfl sz_77 rfl (.head _) rfl rfl rfl (Nat.le_of_ble_eq_true rfl) ?_
                  refine AOps.nU rfl ?_
                  refine AOps.freezeCells 18 (ds := cpyW (cAt p.every (sAt v p frm hs i) (frm + (i : Int)) k).1[k]) rfl (.head _) ?_
                  refine AOps.nD rfl ?_
                  refine AOps.nil ?_
                  refine AWP.seq ?_
                  refine AWP.seq ?_
                  refine AWP.region ?_
                  refine AOps.step rfl rfl rfl (AOp.fieldAddr rfl fo_77_4 rfl) ?_
                  refine AOps.step rfl rfl rfl (AOp.load rfl sc_3 rfl) ?_
                  refine AOps.step rfl rfl rfl (AOp.fieldAddr rfl fo_28_3 rfl) ?_
                  refine AOps.step rfl rfl rfl (AOp.load rfl sc_3 rfl) ?_
                  refine AOps.step rfl rfl rfl (AOp.add64 rfl rfl rfl (by omega) (by omega)) ?_
                  refine AOps.step rfl rfl rfl (AOp.moveD rfl rfl) ?_
                  refine AOps.step rfl rfl rfl (AOp.gtr rfl rfl rfl) ?_
                  refine AOps.nil ?_
                  refine AWP.cond rfl (fun h9 => ?_) (fun h9 => ?_)
                  · replace h9 := of_decide_eq_true h9
                    have HC := cAt_next_no hkc h9
                    refine AWP.exit ?_
                    refine AWP.region ?_
                    refine AOps.step rfl rfl rfl (AOp.add64 rfl rfl rfl (by omega) (by omega)) ?_
                    refine AOps.step rfl rfl rfl (AOp.moveD rfl rfl) ?_
                    refine AOps.nil ?_
                    refine ⟨k + 1, ⟨by omega, by rw [HC]; exact hk.2⟩, (by dsimp only; omega), Sub.less ⟨(SLe.of_eq rfl), SLe.refl _, SLe.refl _, SLe.refl _, SLe.refl _, SLe.refl _, SLe.refl _, SLe.refl _, SLe.refl _, SLe.refl _, trivial⟩ (mem_of_eq (by dsimp only; rw [HC]; rfl))⟩
                  · replace h9 := of_decide_eq_false h9
                    have hle := h9
                    have HC := cAt_next hkc h9
                    refine AWP.skip ?_
                    refine AWP.seq ?_
                    refine AWP.seq ?_
                    refine AWP.region ?_
                    refine AOps.step rfl rfl rfl (AOp.moveO rfl rfl) ?_
                    refine AOps.step rfl rfl rfl (AOp.lenOwn rfl et_49.ht rfl (.head _)) ?_
                    refine AOps.step rfl rfl rfl (AOp.eql rfl rfl rfl) ?_
                    refine AOps.nil ?_
                    refine AWP.cond rfl (fun h10 => ?_) (fun h10 => ?_)
                    · replace h10 := of_decide_eq_true h10
                      rw [List.length_map] at h10
                      have HF := live_over hb0 hfr hft hh0 hin hkc hle (by omega)
                      obtain ⟨HV, HO⟩ := live_bad (v := v) (p := p) (frm := frm) (to := to) (hs := hs) (by rw [HF]; first | assumption | decide)
                      rw [HV, HO, HF]
                      refine AWP.seq ?_
                      refine AWP.region ?_
                      refine AOps.step rfl rfl rfl (AOp.build rfl bu_26 .nil rfl) ?_
                      refine AOps.store rfl rfl rfl sz_26 rfl (.tail _ (.head _)) rfl rfl rfl (Nat.le_of_ble_eq_true rfl) ?_
                      refine AOps.nU rfl ?_
                      refine AOps.step rfl rfl rfl (AOp.assignD rfl rfl) ?_
                      refine AOps.step rfl rfl rfl (AOp.assignD rfl rfl) ?_
                      refine AOps.nil ?_
                      refine AWP.ret ?_
                      refine ⟨RetR.agg rfl (.tail _ (.head _)) ag_26 rfl (.cons (by first | exact CellD.nil | exact CellD.d | exact CellD.eq (by simp) | (refine CellD.own (by first | exact .head _ | exact .tail _ (.head _)) ?_; rfl)) (.cons (by first | exact CellD.nil | exact CellD.d | exact CellD.eq (by simp) | (refine CellD.own (by first | exact .head _ | exact .tail _ (.head _)) ?_; rfl)) (.cons (by first | exact CellD.nil | exact CellD.d | exact CellD.eq (by simp) | (refine CellD.own (by first | exact .head _ | exact .tail _ (.head _)) ?_; rfl)) .nil))), RetD.nil rfl, RetD.eq rfl ?_, trivial⟩
                      all_goals (rfl)
                    · replace h10 := of_decide_eq_false h10
                      rw [List.length_map] at h10
                      refine AWP.skip ?_
                      refine AWP.region ?_
                      refine AOps.step rfl rfl rfl (AOp.moveO rfl rfl) ?_
                      refine AOps.loadVal 100 rfl rfl rfl rfl hag_v rfl (.tail _ (.tail _ (.head _))) (Nat.le_refl 3) (fK rfl rfl) ?_
                      refine AOps.nK rfl ?_
                      refine AOps.step rfl rfl rfl (AOp.moveD rfl rfl) ?_
                      refine AOps.step rfl rfl rfl (AOp.moveD rfl rfl) ?_
                      refine AOps.callV rfl rfl rfl (.cons (SLe.refl _) (.cons (SLe.refl _) (.cons (SLe.refl _) .nil))) (c_checked (withC v (cAt p.every (sAt v p frm hs i) (frm + (i : Int)) k).1) k (frm + (i : Int)) hkc (fun c hc => Nat.le_trans (vok_bad hvc c hc) (by decide))) rfl (fun _ _ => rfl) ?_
                      refine AOps.step rfl rfl rfl (AOp.buildSlice rfl et_49 (.cons rfl rfl rfl .nil) rfl (by decide)) ?_
                      -- append 96
                      refine AOps.append rfl rfl rfl rfl et_49 rfl (.head _) rfl (fun y hy => by first | exact absurd hy List.not_mem_nil | (obtain rfl := List.mem_singleton.1 hy; rfl)) (by simp; omega) (by simp; omega) ?_
                      refine AOps.nA rfl ?_
                      refine AOps.step rfl rfl rfl (AOp.assignO rfl rfl) ?_
                      refine AOps.nil ?_
                      refine AWP.region ?_
                      refine AOps.step rfl rfl rfl (AOp.add64 rfl rfl rfl (by omega) (by omega)) ?_
                      refine AOps.step rfl rfl rfl (AOp.moveD rfl rfl) ?_
                      refine AOps.nil ?_
                      refine ⟨k + 1, ⟨by omega, by rw [HC.2, List.length_append]; simp; omega⟩, (by dsimp only; omega), Sub.less ⟨(SLe.of_eq rfl), SLe.refl _, SLe.refl _, SLe.refl _, SLe.refl _, SLe.refl _, SLe.refl _, SLe.refl _, SLe.refl _, SLe.refl _, trivial⟩ (mem_of_eq (by dsimp only; rw [HC.1, HC.2, List.map_append]; rfl))⟩
                · replace h8 := of_decide_eq_false h8
                  obtain rfl : k = (sAt v p frm hs i).l.length := by omega
                  refine AWP.exit ?_
                  refine AWP.region ?_
                  refine AOps.step rfl rfl rfl (AOp.moveD rfl rfl) ?_
                  refine AOps.step rfl rfl rfl (AOp.add64 rfl rfl rfl (by omega) (by omega)) ?_
                  refine AOps.step rfl rfl rfl (AOp.assignD rfl rfl) ?_
                  refine AOps.nil ?_
                  refine ⟨i + 1, ⟨by omega, hk.2⟩, (by dsimp only; omega), Sub.less ⟨(SLe.i64 (by omega)), (SLe.of_eq rfl), SLe.refl _, SLe.refl _, SLe.refl _, SLe.refl _, SLe.refl _, trivial⟩ (mem_of_eq rfl)⟩
            · replace g6 := of_decide_eq_false g6
              rw [List.length_map, List.length_drop] at g6
              have hje : j = (dayH (sAt v p frm hs i).hs (frm + (i : Int))).length := dayH_end hj (fun hjl => by omega)
              refine AOps.pass ⟨56, rfl, .inl ⟨_, rfl, rfl⟩⟩ rfl rfl ?_
              refine AOps.pass ⟨56, rfl, .inl ⟨_, rfl, rfl⟩⟩ rfl rfl ?_
              refine AOps.pass ⟨56, rfl, .inl ⟨_, rfl, rfl⟩⟩ rfl rfl ?_
              refine AOps.pass ⟨56, rfl, .inl ⟨_, rfl, rfl⟩⟩ rfl rfl ?_
              refine AOps.pass ⟨56, rfl, .inl ⟨_, rfl, rfl⟩⟩ rfl rfl ?_
              refine AOps.pass ⟨56, rfl, .inl ⟨_, rfl, rfl⟩⟩ rfl rfl ?_
              refine AOps.step rfl rfl rfl (AOp.pickF rfl rfl rfl) ?_
              refine AOps.nil ?_
              refine AWP.cond rfl (fun h => nomatch h) (fun _ => ?_)
              refine AWP.exit ?_
              refine AWP.seq ?_
              subst hje
              refine AWP.region ?_
              refine AOps.step rfl rfl rfl (AOp.fieldAddrP rfl fo_26_2 rfl) ?_
              refine AOps.step rfl rfl rfl (AOp.loadP rfl sc_24 rfl (.tail _ (.tail _ (.head _))) rfl) ?_
              refine AOps.step rfl rfl rfl (AOp.weak (AOp.lenOwn rfl het_24.ht rfl (Obs.weak_mem (p := (101, _)) (.tail _ (.tail _ (.tail _ (.head _))))))) ?_
              refine AOps.step rfl rfl rfl (AOp.moveD rfl rfl) ?_
              refine AOps.nil ?_
              refine AWP.block ?_
              refine AWP.loop (G := Nat) (fun k => Env.of [(74, .d (.v (.int .i64 (k : Int)))), (72, .own 101), (73, .d (.v (.int .i64 ((sAt v p frm hs i).l.length : Int)))), (16, .d (.v (.int .i64 (frm + (i : Int))))), (4, .d (.sl (((sAt v p frm hs i).hs.drop (dayH (sAt v p frm hs i).hs (frm + (i : Int))).length).map Hrm.ds))), (3, .d (.v (.int .i64 to))), (5, .ptr 201 0), (6, .d (.fp p.ds)), (10, .ptr 202 0), (15, .own 210)]) (fun k => [(210, .row 53 5 (((cAt p.every (sAt v p frm hs i) (frm + (i : Int)) k).2).map Dn.ds)), (202, .cells ZV), (201, .cells (vaultS v))] ++ vObs (cAt p.every (sAt v p frm hs i) (frm + (i : Int)) k).1) (fun k => k ≤ (sAt v p frm hs i).l.length ∧ (cAt p.every (sAt v p frm hs i) (frm + (i : Int)) k).2.length ≤ 20000) (fun k => (sAt v p frm hs i).l.length - k) 0 ⟨Nat.zero_le _, hi.2⟩ (Sub.less ⟨(SLe.of_eq rfl), SLe.refl _, (SLe.i64 (by rw [List.length_map, cpysS_len, hAt_len])), SLe.refl _, SLe.refl _, SLe.refl _, SLe.refl _, SLe.refl _, SLe.refl _, SLe.refl _, trivial⟩ (mem_of_eq (by rw [hAt_all]; rfl))) ?_
              intro k hk
              refine AWP.seq ?_
              refine AWP.region ?_
              refine AOps.step rfl rfl rfl (AOp.lss rfl rfl rfl) ?_
              refine AOps.nil ?_
              refine AWP.seq ?_
              refine AWP.cond rfl (fun h11 => ?_) (fun h11 => ?_)
              · replace h11 := of_decide_eq_true h11
                have hkl : k < (sAt v p frm hs i).l.length := by omega
                have hkc : k < (cAt p.every (sAt v p frm hs i) (frm + (i : Int)) k).1.length := by rw [cAt_len]; exact hkl
                have hvc := cAt_vok hvs hsh hpe.1 (show (frm + (i : Int)) ≤ 200000 by omega) k
                have hck := hvc.cpy _ (List.getElem_mem hkc)
                have hla := hck.last
                have hda := hck.day
                have hnc : (cAt p.every (sAt v p frm hs i) (frm + (i : Int)) k).1.length ≤ 200 := hvc.np
                refine AWP.skip ?_
                refine AWP.seq ?_
                refine AWP.block ?_
                refine AWP.seq ?_
                refine AWP.region ?_
                refine AOps.step rfl rfl rfl (AOp.moveD rfl rfl) ?_
                refine AOps.step rfl rfl rfl (AOp.weak (AOp.indexOwn rfl het_24 rfl rfl (Obs.weak_mem (p := (101, _)) (.tail _ (.tail _ (.tail _ (.head _))))) k rfl (by rw [List.length_map, cpysS_len]; exact hkc))) ?_
                refine AOps.step rfl rfl rfl (AOp.weak (AOp.loadRowAgg rfl hag_77 rfl (Obs.weak_mem (p := (101, _)) (.tail _ (.tail _ (.tail _ (.head _))))) k rfl (cpysW hkc))) ?_
                refine AOps.alloc 204 rfl rfl rfl rfl zt_77 rfl rfl (fK rfl rfl) ?_
                refine AOps.nK rfl ?_
                refine AOps.step rfl rfl rfl (AOp.assignD rfl rfl) ?_
                refine AOps.store rfl rfl rfl sz_77 rfl (.head _) rfl rfl rfl (Nat.le_of_ble_eq_true rfl) ?_
                refine AOps.nU rfl ?_
                refine AOps.freezeCells 18 (ds := cpyW (cAt p.every (sAt v p frm hs i) (frm + (i : Int)) k).1[k]) rfl (.head _) ?_
                refine AOps.nD rfl ?_
                refine AOps.nil ?_
                refine AWP.seq ?_
                refine AWP.seq ?_
                refine AWP.region ?_
                refine AOps.step rfl rfl rfl (AOp.fieldAddr rfl fo_77_4 rfl) ?_
                refine AOps.step rfl rfl rfl (AOp.load rfl sc_3 rfl) ?_
                refine AOps.step rfl rfl rfl (AOp.fieldAddr rfl fo_28_3 rfl) ?_
                refine AOps.step rfl rfl rfl (AOp.load rfl sc_3 rfl) ?_
                refine AOps.step rfl rfl rfl (AOp.add64 rfl rfl rfl (by omega) (by omega)) ?_
                refine AOps.step rfl rfl rfl (AOp.moveD rfl rfl) ?_
                refine AOps.step rfl rfl rfl (AOp.gtr rfl rfl rfl) ?_
                refine AOps.nil ?_
                refine AWP.cond rfl (fun h12 => ?_) (fun h12 => ?_)
                · replace h12 := of_decide_eq_true h12
                  have HC := cAt_next_no hkc h12
                  refine AWP.exit ?_
                  refine AWP.region ?_
                  refine AOps.step rfl rfl rfl (AOp.add64 rfl rfl rfl (by omega) (by omega)) ?_
                  refine AOps.step rfl rfl rfl (AOp.moveD rfl rfl) ?_
                  refine AOps.nil ?_
                  refine ⟨k + 1, ⟨by omega, by rw [HC]; exact hk.2⟩, (by dsimp only; omega), Sub.less ⟨(SLe.of_eq rfl), SLe.refl _, SLe.refl _, SLe.refl _, SLe.refl _, SLe.refl _, SLe.refl _, SLe.refl _, SLe.refl _, SLe.refl _, trivial⟩ (mem_of_eq (by dsimp only; rw [HC]; rfl))⟩
                · replace h12 := of_decide_eq_false h12
                  have hle := h12
                  have HC := cAt_next hkc h12
                  refine AWP.skip ?_
                  refine AWP.seq ?_
                  refine AWP.seq ?_
                  refine AWP.region ?_
                  refine AOps.step rfl rfl rfl (AOp.moveO rfl rfl) ?_
                  refine AOps.step rfl rfl rfl (AOp.lenOwn rfl et_49.ht rfl (.head _)) ?_
                  refine AOps.step rfl rfl rfl (AOp.eql rfl rfl rfl) ?_
                  refine AOps.nil ?_
                  refine AWP.cond rfl (fun h13 => ?_) (fun h13 => ?_)
                  · replace h13 := of_decide_eq_true h13
                    rw [List.length_map] at h13
                    have HF := live_over hb0 hfr hft hh0 hin hkc hle (by omega)
                    obtain ⟨HV, HO⟩ := live_bad (v := v) (p := p) (frm := frm) (to := to) (hs := hs) (by rw [HF]; first | assumption | decide)
                    rw [HV, HO, HF]
                    refine AWP.seq ?_
                    refine AWP.region ?_
                    refine AOps.step rfl rfl rfl (AOp.build rfl bu_26 .nil rfl) ?_
                    refine AOps.store rfl rfl rfl sz_26 rfl (.tail _ (.head _)) rfl rfl rfl (Nat.le_of_ble_eq_true rfl) ?_
                    refine AOps.nU rfl ?_
                    refine AOps.step rfl rfl rfl (AOp.assignD rfl rfl) ?_
                    refine AOps.step rfl rfl rfl (AOp.assignD rfl rfl) ?_
                    refine AOps.nil ?_
                    refine AWP.ret ?_
                    refine ⟨RetR.agg rfl (.tail _ (.head _)) ag_26 rfl (.cons (by first | exact CellD.nil | exact CellD.d | exact CellD.eq (by simp) | (refine CellD.own (by first | exact .head _ | exact .tail _ (.head _)) ?_; rfl)) (.cons (by first | exact CellD.nil | exact CellD.d | exact CellD.eq (by simp) | (refine CellD.own (by first | exact .head _ | exact .tail _ (.head _)) ?_; rfl)) (.cons (by first | exact CellD.nil | exact CellD.d | exact CellD.eq (by simp) | (refine CellD.own (by first | exact .head _ | exact .tail _ (.head _)) ?_; rfl)) .nil))), RetD.nil rfl, RetD.eq rfl ?_, trivial⟩
                    all_goals (rfl)
                  · replace h13 := of_decide_eq_false h13
                    rw [List.length_map] at h13
                    refine AWP.skip ?_
                    refine AWP.region ?_
                    refine AOps.step rfl rfl rfl (AOp.moveO rfl rfl) ?_
                    refine AOps.loadVal 100 rfl rfl rfl rfl hag_v rfl (.tail _ (.tail _ (.head _))) (Nat.le_refl 3) (fK rfl rfl) ?_
                    refine AOps.nK rfl ?_
                    refine AOps.step rfl rfl rfl (AOp.moveD rfl rfl) ?_
                    refine AOps.step rfl rfl rfl (AOp.moveD rfl rfl) ?_
                    refine AOps.callV rfl rfl rfl (.cons (SLe.refl _) (.cons (SLe.refl _) (.cons (SLe.refl _) .nil))) (c_checked (withC v (cAt p.every (sAt v p frm hs i) (frm + (i : Int)) k).1) k (frm + (i : Int)) hkc (fun c hc => Nat.le_trans (vok_bad hvc c hc) (by decide))) rfl (fun _ _ => rfl) ?_
                    refine AOps.step rfl rfl rfl (AOp.buildSlice rfl et_49 (.cons rfl rfl rfl .nil) rfl (by decide)) ?_
                    -- append 96
                    refine AOps.append rfl rfl rfl rfl et_49 rfl (.head _) rfl (fun y hy => by first | exact absurd hy List.not_mem_nil | (obtain rfl := List.mem_singleton.1 hy; rfl)) (by simp; omega) (by simp; omega) ?_
                    refine AOps.nA rfl ?_
                    refine AOps.step rfl rfl rfl (AOp.assignO rfl rfl) ?_
                    refine AOps.nil ?_
                    refine AWP.region ?_
                    refine AOps.step rfl rfl rfl (AOp.add64 rfl rfl rfl (by omega) (by omega)) ?_
                    refine AOps.step rfl rfl rfl (AOp.moveD rfl rfl) ?_
                    refine AOps.nil ?_
                    refine ⟨k + 1, ⟨by omega, by rw [HC.2, List.length_append]; simp; omega⟩, (by dsimp only; omega), Sub.less ⟨(SLe.of_eq rfl), SLe.refl _, SLe.refl _, SLe.refl _, SLe.refl _, SLe.refl _, SLe.refl _, SLe.refl _, SLe.refl _, SLe.refl _, trivial⟩ (mem_of_eq (by dsimp only; rw [HC.1, HC.2, List.map_append]; rfl))⟩
              · replace h11 := of_decide_eq_false h11
                obtain rfl : k = (sAt v p frm hs i).l.length := by omega
                refine AWP.exit ?_
                refine AWP.region ?_
                refine AOps.step rfl rfl rfl (AOp.moveD rfl rfl) ?_
                refine AOps.step rfl rfl rfl (AOp.add64 rfl rfl rfl (by omega) (by omega)) ?_
                refine AOps.step rfl rfl rfl (AOp.assignD rfl rfl) ?_
                refine AOps.nil ?_
                refine ⟨i + 1, ⟨by omega, hk.2⟩, (by dsimp only; omega), Sub.less ⟨(SLe.i64 (by omega)), (SLe.of_eq rfl), SLe.refl _, SLe.refl _, SLe.refl _, SLe.refl _, SLe.refl _, trivial⟩ (mem_of_eq rfl)⟩
          · replace h5 := of_decide_eq_false h5
            obtain rfl : i = (to - frm).toNat := by omega
            obtain ⟨HF, HV, HO⟩ := live_ok hb0 hfr hft hh0 hi.2
            rw [HV, HO, HF]
            refine AWP.exit ?_
            refine AWP.seq ?_
            refine AWP.region ?_
            refine AOps.loadVal 100 rfl rfl rfl rfl hag_v rfl (.tail _ (.tail _ (.head _))) (Nat.le_refl 3) (fK rfl rfl) ?_
            refine AOps.nK rfl ?_
            refine AOps.step rfl rfl rfl (AOp.moveO rfl rfl) ?_
            refine AOps.eff rfl rfl (EOp.storeVal (ss' := vaultS v) rfl rfl hsz_26 rfl (.tail _ (.tail _ (.head _))) rfl (.head _) rfl (Nat.le_refl 3)) ?_
            refine AOps.nU rfl ?_
            refine AOps.step rfl rfl rfl (AOp.assignO rfl rfl) ?_
            refine AOps.step rfl rfl rfl (AOp.assignD rfl rfl) ?_
            refine AOps.nil ?_
            refine AWP.freezeCell 202 2 (d := .sl ((sAt v p frm hs (to - frm).toNat).l.map Cpy.ds)) (vObs (sAt v p frm hs (to - frm).toNat).l) [(210, .row 53 5 ((sAt v p frm hs (to - frm).toNat).o.map Dn.ds)), (202, .cells (vaultS v))] (.tail _ (.head _)) rfl (snap_copies fun p hp => hp) (fun p hp => (.tail _ (.tail _ (.tail _ (.tail _ hp))))) (fun p hp => ?_) (fun p hp q hq => ?_) ?_
            · rcases List.mem_cons.1 hp with rfl | hp
              · exact (.tail _ (.head _))
              · obtain rfl := List.mem_singleton.1 hp
                exact (.tail _ (.tail _ (.head _)))
            · rcases vObs_ids hp with h4 | h4 <;> rcases List.mem_cons.1 hq with rfl | hq <;> first | (obtain rfl := List.mem_singleton.1 hq; dsimp only; omega) | (dsimp only; omega)
            refine AWP.ret ?_
            refine ⟨RetR.agg rfl (.tail _ (.head _)) ag_26 rfl (.cons (by first | exact CellD.nil | exact CellD.d | exact CellD.eq (by simp) | (refine CellD.own (by first | exact .head _ | exact .tail _ (.head _)) ?_; rfl)) (.cons (by first | exact CellD.nil | exact CellD.d | exact CellD.eq (by simp) | (refine CellD.own (by first | exact .head _ | exact .tail _ (.head _)) ?_; rfl)) (.cons (by first | exact CellD.nil | exact CellD.d | exact CellD.eq (by simp) | (refine CellD.own (by first | exact .head _ | exact .tail _ (.head _)) ?_; rfl)) .nil))), RetD.own rfl (.head _) ?_, RetD.eq rfl ?_, trivial⟩
            all_goals (rfl)

end Go.Proofs.YtieccphckobhjaaDoor


namespace Go.Proofs.YtieccphckobhjaaDoor
open Go.RowKit
set_option linter.unusedVariables false

/-! Types. -/
namespace TyQ3

end TyQ3
open TyQ3


theorem cb_trans : ∀ (a b c : List UInt8), Lib.compareBytes a b < 0 → Lib.compareBytes b c < 0 → Lib.compareBytes a c < 0
  | [], [], c, h, _ => by simp [Lib.compareBytes] at h
  | [], _ :: _, [], _, h => by simp [Lib.compareBytes] at h
  | [], _ :: _, _ :: _, _, _ => by simp [Lib.compareBytes]
  | _ :: _, [], _, h, _ => by simp [Lib.compareBytes] at h
  | _ :: _, _ :: _, [], _, h => by simp [Lib.compareBytes] at h
  | x :: a, y :: b, z :: c, h1, h2 => by
    unfold Lib.compareBytes at h1 h2 ⊢
    by_cases hxz : x < z
    · rw [if_pos hxz]; decide
    · rw [if_neg hxz]
      by_cases hxy : x < y
      · by_cases hyz : y < z
        · exact absurd (UInt8.lt_trans hxy hyz) hxz
        · rw [if_neg hyz] at h2
          by_cases hzy : z < y
          · rw [if_pos hzy] at h2; simp at h2
          · have : y = z := UInt8.le_antisymm (UInt8.not_lt.1 hzy) (UInt8.not_lt.1 hyz)
            exact absurd (this ▸ hxy) hxz
      · rw [if_neg hxy] at h1
        by_cases hyx : y < x
        · rw [if_pos hyx] at h1; simp at h1
        · rw [if_neg hyx] at h1
          have e : x = y := UInt8.le_antisymm (UInt8.not_lt.1 hyx) (UInt8.not_lt.1 hxy)
          subst e
          rw [if_neg hxz] at h2
          by_cases hzx : z < x
          · rw [if_pos hzx] at h2; simp at h2
          · rw [if_neg hzx] at h2 ⊢
            exact cb_trans a b c h1 h2
theorem strCmp_trans {a b c : ByteArray} (h1 : strCmp a b < 0) (h2 : strCmp b c < 0) : strCmp a c < 0 := cb_trans _ _ _ h1 h2
theorem strCmp_self (a : ByteArray) : strCmp a a = 0 := strCmp_zero.2 rfl
theorem cpyCmp_trans {a b c : Cpy} (h1 : cpyCmp a b < 0) (h2 : cpyCmp b c < 0) : cpyCmp a c < 0 := by
  unfold cpyCmp at *
  by_cases e1 : a.item = b.item
  · rw [if_pos e1] at h1
    by_cases e2 : b.item = c.item
    · rw [if_pos e2] at h2
      rw [if_pos (e1.trans e2)]
      exact strCmp_trans h1 h2
    · rw [if_neg e2] at h2
      rw [if_neg (fun e => e2 (e1.symm.trans e)), e1]
      exact h2
  · rw [if_neg e1] at h1
    by_cases e2 : b.item = c.item
    · rw [if_pos e2] at h2
      rw [if_neg (fun e => e1 (e.trans e2.symm)), ← e2]
      exact h1
    · rw [if_neg e2] at h2
      have h3 := strCmp_trans h1 h2
      rw [if_neg (fun e => by rw [e, strCmp_self] at h3; omega)]
      exact h3
theorem VOk.lt {v : Vlt} (h : VOk v) : ∀ i j (hi : i < v.copies.length) (hj : j < v.copies.length), i < j → cpyCmp v.copies[i] v.copies[j] < 0 := by
  intro i j hi hj hij
  obtain ⟨d, rfl⟩ : ∃ d, j = i + d + 1 := ⟨j - i - 1, by omega⟩
  clear hij
  induction d with
  | zero => exact h.order i hj
  | succ d ih => exact cpyCmp_trans (ih (by omega)) (h.order (i + d + 1) hj)
theorem cpyCmp_eq {a b : Cpy} (h1 : a.item = b.item) (h2 : a.carrier = b.carrier) : cpyCmp a b = 0 := by unfold cpyCmp; rw [if_pos h1, h2]; exact strCmp_self _
theorem VOk.inj {v : Vlt} (h : VOk v) {i j : Nat} (hi : i < v.copies.length) (hj : j < v.copies.length) (h1 : v.copies[i].item = v.copies[j].item) (h2 : v.copies[i].carrier = v.copies[j].carrier) : i = j := by
  rcases Nat.lt_trichotomy i j with hh | hh | hh
  · have := h.lt i j hi hj hh
    rw [cpyCmp_eq h1 h2] at this; omega
  · exact hh
  · have := h.lt j i hj hi hh
    rw [cpyCmp_eq h1.symm h2.symm] at this; omega
/-! Who is safe. -/
def copyIdx (v : Vlt) (it ca : ByteArray) : Int := idxBy (fun x : Cpy => decide (x.item = it) && decide (x.carrier = ca)) v.copies
def isHit (v : Vlt) (p : Pol) (it : ByteArray) (f h : Hrm) : Bool := decide (h.item = it) && (decide (h.day ≥ f.day) && (decide (h.day < f.day + p.every) && decide (copyIdx v it h.carrier ≥ 0)))
def addCa (v : Vlt) (p : Pol) (it : ByteArray) (f : Hrm) (acc : List ByteArray) (h : Hrm) : List ByteArray := if isHit v p it f h = true ∧ h.carrier ∉ acc then acc ++ [h.carrier] else acc
def hitC (v : Vlt) (p : Pol) (it : ByteArray) (f : Hrm) (hs : List Hrm) : List ByteArray := hs.foldl (addCa v p it f) []
def cpSafe (p : Pol) (frm : Int) (c : Cpy) : Bool := decide (c.bad = []) && (decide (c.last < frm) && decide (frm ≤ c.last + p.every))
def nOf (v : Vlt) (it : ByteArray) : Nat := (v.copies.filter fun c => decide (c.item = it)).length
def isSafe (v : Vlt) (p : Pol) (frm : Int) (hs : List Hrm) (it : ByteArray) : Bool :=
  (v.copies.all fun c => !decide (c.item = it) || cpSafe p frm c) && ((hs.all fun f => decide ((hitC v p it f hs).length < nOf v it)) && decide (0 < nOf v it))
theorem addCa_sub {v : Vlt} {p : Pol} {it : ByteArray} {f : Hrm} {acc : List ByteArray} {h : Hrm} : ∀ x ∈ acc, x ∈ addCa v p it f acc h := fun x hx => by
  unfold addCa
  split
  · exact List.mem_append_left _ hx
  · exact hx
theorem hitC_sub {v : Vlt} {p : Pol} {it : ByteArray} {f : Hrm} : ∀ (hs : List Hrm) (acc : List ByteArray), ∀ x ∈ acc, x ∈ hs.foldl (addCa v p it f) acc
  | [], _, _, h => h
  | _ :: hs, acc, x, h => hitC_sub hs _ x (addCa_sub x h)
theorem hitC_mem {v : Vlt} {p : Pol} {it : ByteArray} {f : Hrm} : ∀ (hs : List Hrm) (acc : List ByteArray) (h : Hrm), h ∈ hs → isHit v p it f h = true → h.carrier ∈ hs.foldl (addCa v p it f) acc
  | [], _, _, h, _ => by cases h
  | x :: hs, acc, h, hm, hh => by
    rw [List.foldl_cons]
    rcases List.mem_cons.1 hm with rfl | hm
    · refine hitC_sub hs _ _ ?_
      unfold addCa
      split
      · simp
      · rename_i hn
        exact Decidable.byContradiction fun h1 => hn ⟨hh, h1⟩
    · exact hitC_mem hs _ h hm hh
theorem len_le_of_sub {α : Type} [DecidableEq α] : ∀ (a b : List α), a.Nodup → (∀ x ∈ a, x ∈ b) → a.length ≤ b.length
  | [], _, _, _ => Nat.zero_le _
  | x :: a, b, hn, h => by
    have hn' := List.nodup_cons.1 hn
    have h1 := len_le_of_sub a (b.erase x) hn'.2 fun y hy => by
      have hne : y ≠ x := fun e => hn'.1 (e ▸ hy)
      exact (List.mem_erase_of_ne hne).2 (h y (List.mem_cons_of_mem _ hy))
    have h2 := List.length_erase_of_mem (h x (by simp))
    have h3 : 0 < b.length := List.length_pos_iff.2 (List.ne_nil_of_mem (h x (by simp)))
    rw [List.length_cons]
    omega
/-- The carriers of an item's copies, each once. -/
theorem carrs_nodup {v : Vlt} (h : VOk v) (it : ByteArray) : ((v.copies.filter fun c => decide (c.item = it)).map Cpy.carrier).Nodup := by
  have h1 : v.copies.Pairwise fun a b => cpyCmp a b < 0 := List.pairwise_iff_getElem.2 fun i j hi hj hij => h.lt i j hi hj hij
  have h2 : (v.copies.filter fun c => decide (c.item = it)).Pairwise fun a b => a.carrier ≠ b.carrier := by
    refine List.Pairwise.imp_of_mem (fun {a b} ha hb hab he => ?_) (h1.sublist List.filter_sublist)
    have e1 := of_decide_eq_true (List.mem_filter.1 ha).2
    have e2 := of_decide_eq_true (List.mem_filter.1 hb).2
    rw [cpyCmp_eq (e1.trans e2.symm) he] at hab
    omega
  exact List.pairwise_map.2 h2
/-- The copies stay where they are. -/
def Same (l m : List Cpy) : Prop := l.length = m.length ∧ ∀ i (h1 : i < l.length) (h2 : i < m.length), l[i].item = m[i].item ∧ l[i].carrier = m[i].carrier
theorem Same.refl (l : List Cpy) : Same l l := ⟨rfl, fun _ _ _ => ⟨rfl, rfl⟩⟩
theorem Same.set {l m : List Cpy} (h : Same l m) {k : Nat} (hk : k < l.length) {c : Cpy} (e1 : c.item = l[k].item) (e2 : c.carrier = l[k].carrier) : Same (l.set k c) m := by
  refine ⟨by rw [List.length_set]; exact h.1, fun i h1 h2 => ?_⟩
  rw [List.getElem_set]
  have h3 : i < l.length := by rw [List.length_set] at h1; exact h1
  by_cases e : k = i
  · subst e; rw [if_pos rfl, e1, e2]; exact h.2 k h3 h2
  · rw [if_neg e]; exact h.2 i h3 h2
theorem harmC_same {l m : List Cpy} {h : Hrm} (hs : Same l m) : Same (harmC l h) m := by
  unfold harmC
  split
  · rename_i hc
    obtain ⟨hk, _, _⟩ := hasC_spec hc
    rw [modify_set _ hk]
    exact hs.set hk rfl rfl
  · exact hs
theorem harms_same {m : List Cpy} : ∀ (hs : List Hrm) {l : List Cpy}, Same l m → Same (hs.foldl harmC l) m
  | [], _, h => h
  | _ :: hs, _, h => harms_same hs (harmC_same h)
/-- What holds of the copies of a safe item, in the course of day d: at the beginning of it (lim = d - 1), and from the harms on (lim = d). -/
def Fine (p : Pol) (hs : List Hrm) (it : ByteArray) (d : Int) (c : Cpy) : Prop := c.item = it → (c.bad = [] ∨ ∃ h ∈ hs, h.item = it ∧ h.carrier = c.carrier ∧ c.last < h.day ∧ h.day ≤ d) ∧ c.last ≤ d ∧ d ≤ c.last + p.every
def Pre (p : Pol) (hs : List Hrm) (it : ByteArray) (d : Int) (l : List Cpy) : Prop := ∀ c ∈ l, Fine p hs it d c ∧ (c.item = it → c.last < d)
def Mid (p : Pol) (hs : List Hrm) (it : ByteArray) (d : Int) (l : List Cpy) (k : Nat) : Prop := ∀ i (hi : i < l.length), Fine p hs it d l[i] ∧ (k ≤ i → l[i].item = it → l[i].last < d) ∧ (i < k → l[i].item = it → d + 1 ≤ l[i].last + p.every)
theorem pre_harm {p : Pol} {hs : List Hrm} {it : ByteArray} {d : Int} {l : List Cpy} {h : Hrm} (hp : Pre p hs it d l) (hm : h ∈ hs) (hd : h.day = d) : Pre p hs it d (harmC l h) := by
  unfold harmC
  split
  · rename_i hc
    obtain ⟨hk, h1, h2⟩ := hasC_spec hc
    rw [modify_set _ hk]
    intro c hcm
    rcases List.mem_or_eq_of_mem_set hcm with h3 | rfl
    · exact hp c h3
    · have h4 := hp _ (List.getElem_mem hk)
      refine ⟨fun hit => ?_, fun hit => h4.2 hit⟩
      have h5 := h4.1 hit
      have h6 := h4.2 hit
      refine ⟨.inr ⟨h, hm, ?_, h2.symm, ?_, by omega⟩, h5.2⟩
      · rw [← h1]; exact hit
      · show l[posC l (keyC h.item h.carrier)].last < h.day
        omega
  · exact hp
theorem pre_harms {p : Pol} {hs : List Hrm} {it : ByteArray} {d : Int} : ∀ (q : List Hrm) {l : List Cpy}, Pre p hs it d l → (∀ h ∈ q, h ∈ hs ∧ h.day = d) → Pre p hs it d (q.foldl harmC l)
  | [], _, hp, _ => hp
  | h :: q, _, hp, hq => pre_harms q (pre_harm hp (hq h (by simp)).1 (hq h (by simp)).2) fun h' hm => hq h' (List.mem_cons_of_mem _ hm)
structure SafeC (v : Vlt) (p : Pol) (frm : Int) (hs : List Hrm) (it : ByteArray) : Prop where
  cp : ∀ c ∈ v.copies, c.item = it → c.bad = [] ∧ c.last < frm ∧ frm ≤ c.last + p.every
  few : ∀ f ∈ hs, (hitC v p it f hs).length < nOf v it
  pos : 0 < nOf v it
theorem safe_of {v : Vlt} {p : Pol} {frm : Int} {hs : List Hrm} {it : ByteArray} (h : isSafe v p frm hs it = true) : SafeC v p frm hs it := by
  unfold isSafe at h
  simp only [Bool.and_eq_true, List.all_eq_true, Bool.or_eq_true, Bool.not_eq_true', decide_eq_true_eq, decide_eq_false_iff_not] at h
  refine ⟨fun c hc hit => ?_, h.2.1, h.2.2⟩
  rcases h.1 c hc with h1 | h1
  · exact absurd hit h1
  · unfold cpSafe at h1
    simp only [Bool.and_eq_true, decide_eq_true_eq] at h1
    exact ⟨h1.1, h1.2.1, h1.2.2⟩
/-- One copy at least is whole. -/
theorem some_whole {v : Vlt} {p : Pol} {frm : Int} {hs : List Hrm} {it : ByteArray} (hv : VOk v) (hsf : SafeC v p frm hs it) (hsort : hs.Pairwise fun a b => a.day ≤ b.day) {d : Int} {l : List Cpy} (hsm : Same l v.copies) (hf : ∀ c ∈ l, Fine p hs it d c) (hw : ∃ c ∈ l, c.item = it ∧ c.last < d ∧ c.bad ≠ []) : ∃ c ∈ l, c.item = it ∧ c.bad = [] := by
  refine Classical.byContradiction fun hno => ?_
  have hall : ∀ c ∈ l, c.item = it → ∃ h ∈ hs, h.item = it ∧ h.carrier = c.carrier ∧ d - p.every < h.day ∧ h.day ≤ d := fun c hc hit => by
    obtain ⟨h1, h2, h3⟩ := hf c hc hit
    rcases h1 with h1 | ⟨h, g1, g2, g3, g4, g5⟩
    · exact absurd ⟨c, hc, hit, h1⟩ hno
    · exact ⟨h, g1, g2, g3, by omega, g5⟩
  obtain ⟨c0, hc0, hit0, _, _⟩ := hw
  obtain ⟨h0, k1, _, _, k4, _⟩ := hall c0 hc0 hit0
  obtain ⟨F, hF⟩ : ∃ F, F = hs.filter fun h => decide (d - p.every < h.day) := ⟨_, rfl⟩
  have hFs : F.Pairwise fun a b => a.day ≤ b.day := by rw [hF]; exact hsort.sublist List.filter_sublist
  have hFm : ∀ h, h ∈ F ↔ h ∈ hs ∧ d - p.every < h.day := fun h => by rw [hF, List.mem_filter, decide_eq_true_eq]
  cases F with
  | nil => exact absurd ((hFm h0).2 ⟨k1, k4⟩) (by simp)
  | cons f F =>
    obtain ⟨f1, f2⟩ := (hFm f).1 (by simp)
    have hmin : ∀ h ∈ hs, d - p.every < h.day → f.day ≤ h.day := fun h hm hd => by
      rcases List.mem_cons.1 ((hFm h).2 ⟨hm, hd⟩) with rfl | h1
      · exact Int.le_refl _
      · exact (List.pairwise_cons.1 hFs).1 h h1
    have hlt := hsf.few f f1
    have hle : nOf v it ≤ (hitC v p it f hs).length := by
      have h1 := len_le_of_sub _ (hitC v p it f hs) (carrs_nodup hv it) fun x hx => by
        obtain ⟨c, hc, rfl⟩ := List.mem_map.1 hx
        obtain ⟨hcm, hci⟩ := List.mem_filter.1 hc
        have hci := of_decide_eq_true hci
        obtain ⟨i, hi, rfl⟩ := List.mem_iff_getElem.1 hcm
        have hil : i < l.length := by rw [hsm.1]; exact hi
        obtain ⟨e1, e2⟩ := hsm.2 i hil hi
        obtain ⟨h, g1, g2, g3, g4, g5⟩ := hall _ (List.getElem_mem hil) (e1.trans hci)
        rw [← e2, ← g3]
        refine hitC_mem hs [] h g1 ?_
        have h6 := hmin h g1 g4
        unfold isHit
        simp only [Bool.and_eq_true, decide_eq_true_eq]
        refine ⟨g2, h6, by omega, ?_⟩
        unfold copyIdx idxBy
        rw [if_pos (List.any_eq_true.2 ⟨_, hcm, by simp [hci, g3, e2]⟩)]
        omega
      rw [List.length_map] at h1
      exact h1
    omega
theorem mid_check {v : Vlt} {p : Pol} {frm : Int} {hs : List Hrm} {it : ByteArray} (hv : VOk v) (hsf : SafeC v p frm hs it) (hsort : hs.Pairwise fun a b => a.day ≤ b.day) (he : 1 ≤ p.every) {d : Int} {s : List Cpy × List Dn} {k : Nat} (hsm : Same s.1 v.copies) (hm : Mid p hs it d s.1 k) (ho : ∀ x ∈ s.2, x.item = it → x.lost = 0) :
    Same (chk1 p.every d s k).1 v.copies ∧ Mid p hs it d (chk1 p.every d s k).1 (k + 1) ∧ ∀ x ∈ (chk1 p.every d s k).2, x.item = it → x.lost = 0 := by
  obtain ⟨l, o⟩ := s
  dsimp only at hsm hm ho
  by_cases hk : k < l.length
  · by_cases hc : l[k].last + p.every > d
    · rw [chk1_no hk hc]
      refine ⟨hsm, fun i hi => ⟨(hm i hi).1, fun h1 => (hm i hi).2.1 (by omega), fun h1 hit => ?_⟩, ho⟩
      by_cases e : i = k
      · subst e
        show d + 1 ≤ l[i].last + p.every
        omega
      · exact (hm i hi).2.2 (by omega) hit
    · rw [chk1_yes hk hc]
      dsimp only at hc ⊢
      have hst : l[k].item = it → stillI l l[k] = [] := fun hit => by
        by_cases hb : l[k].bad = []
        · unfold stillI; rw [hb]; rfl
        · obtain ⟨c, hcm, hci, hcb⟩ := some_whole hv hsf hsort hsm (fun c hc => by
            obtain ⟨i, hi, rfl⟩ := List.mem_iff_getElem.1 hc
            exact (hm i hi).1) ⟨l[k], List.getElem_mem hk, hit, (hm k hk).2.1 (Nat.le_refl _) hit, hb⟩
          obtain ⟨i, hi, rfl⟩ := List.mem_iff_getElem.1 hcm
          have hne : l[i].carrier ≠ l[k].carrier := fun e => by
            have hi2 : i < v.copies.length := by rw [← hsm.1]; exact hi
            have hk2 : k < v.copies.length := by rw [← hsm.1]; exact hk
            have a := hsm.2 i hi hi2
            have b := hsm.2 k hk hk2
            have : i = k := hv.inj hi2 hk2 (by rw [← a.1, ← b.1, hci, hit]) (by rw [← a.2, ← b.2, e])
            subst this
            exact hb hcb
          unfold stillI
          rw [List.filter_eq_nil_iff]
          intro n hn
          have : fixB l l[k] n = true := List.any_eq_true.2 ⟨l[i], List.getElem_mem hi, by
            unfold whole1
            simp [hci, hit, hne, hcb]⟩
          rw [this]; simp
      have hlen : (checkedC l k d).length = l.length := checkedC_len l k d
      have hset : checkedC l k d = l.set k { l[k] with bad := stillI l l[k], last := d } := modify_set _ hk
      refine ⟨by rw [hset]; exact hsm.set hk rfl rfl, fun i hi => ?_, fun x hx hit => ?_⟩
      · have hil : i < l.length := by rw [← hlen]; exact hi
        by_cases e : k = i
        · subst e
          have h1 : (checkedC l k d)[k] = { l[k] with bad := stillI l l[k], last := d } := by simp only [hset, List.getElem_set_self]
          rw [h1]
          refine ⟨fun hit => ⟨.inl (hst hit), Int.le_refl _, ?_⟩, fun h2 => by omega, fun _ _ => ?_⟩
          · show d ≤ d + p.every; omega
          · show d + 1 ≤ d + p.every; omega
        · have h1 : (checkedC l k d)[i] = l[i] := by simp only [hset]; rw [List.getElem_set_ne e]
          rw [h1]
          exact ⟨(hm i hil).1, fun h2 => (hm i hil).2.1 (by omega), fun h2 => (hm i hil).2.2 (by omega)⟩
      · rcases List.mem_append.1 hx with hx | hx
        · exact ho x hx hit
        · rw [List.mem_singleton] at hx
          subst hx
          show ((stillI l l[k]).length : Int) = 0
          rw [hst hit]; rfl
  · have h1 : chk1 p.every d (l, o) k = (l, o) := by unfold chk1; dsimp only; rw [List.getElem?_eq_none (by omega)]
    rw [h1]
    exact ⟨hsm, fun i hi => by
      have hi' : i < l.length := hi
      exact ⟨(hm i hi).1, fun h2 => by omega, fun h2 => (hm i hi).2.2 (by omega)⟩, ho⟩
theorem mid_checks {v : Vlt} {p : Pol} {frm : Int} {hs : List Hrm} {it : ByteArray} (hv : VOk v) (hsf : SafeC v p frm hs it) (hsort : hs.Pairwise fun a b => a.day ≤ b.day) (he : 1 ≤ p.every) {d : Int} {s : List Cpy × List Dn} (hsm : Same s.1 v.copies) (hm : Mid p hs it d s.1 0) (ho : ∀ x ∈ s.2, x.item = it → x.lost = 0) : ∀ k,
    Same (chkTo p.every d s k).1 v.copies ∧ Mid p hs it d (chkTo p.every d s k).1 k ∧ ∀ x ∈ (chkTo p.every d s k).2, x.item = it → x.lost = 0
  | 0 => ⟨hsm, hm, ho⟩
  | k + 1 => by
    obtain ⟨h1, h2, h3⟩ := mid_checks hv hsf hsort he hsm hm ho k
    exact mid_check hv hsf hsort he h1 h2 h3
theorem takeWhile_mem {α : Type} {p : α → Bool} : ∀ (l : List α) (x : α), x ∈ l.takeWhile p → p x = true
  | [], _, h => by simp at h
  | y :: l, x, h => by
    rw [List.takeWhile_cons] at h
    by_cases e : p y = true
    · rw [if_pos e] at h
      rcases List.mem_cons.1 h with rfl | h
      · exact e
      · exact takeWhile_mem l x h
    · rw [if_neg e] at h; cases h
theorem safe_live {v : Vlt} {p : Pol} {frm : Int} {hs : List Hrm} {it : ByteArray} (hv : VOk v) (hsf : SafeC v p frm hs it) (hsort : hs.Pairwise fun a b => a.day ≤ b.day) (hday : ∀ h ∈ hs, frm ≤ h.day) (he : 1 ≤ p.every) : ∀ n : Nat,
    Same (liveTo p.every frm ⟨v.copies, hs, []⟩ n).l v.copies ∧ Pre p hs it (frm + n) (liveTo p.every frm ⟨v.copies, hs, []⟩ n).l ∧ ∀ x ∈ (liveTo p.every frm ⟨v.copies, hs, []⟩ n).o, x.item = it → x.lost = 0
  | 0 => ⟨Same.refl _, fun c hc => by
      refine ⟨fun hit => ?_, fun hit => ?_⟩
      · have := hsf.cp c hc hit
        exact ⟨.inl this.1, by have := this.2; simp; omega, by have := this.2; simp; omega⟩
      · have := (hsf.cp c hc hit).2.1
        simpa using this, fun x hx => by cases hx⟩
  | n + 1 => by
    obtain ⟨h1, h2, h3⟩ := safe_live hv hsf hsort hday he n
    obtain ⟨S, hS⟩ : ∃ S, S = liveTo p.every frm ⟨v.copies, hs, []⟩ n := ⟨_, rfl⟩
    have hrem : ∀ h ∈ S.hs, h ∈ hs := fun h hm => by rw [hS] at hm; exact liveTo_hs (s := ⟨v.copies, hs, []⟩) n h hm
    show Same (day1 p.every (liveTo p.every frm ⟨v.copies, hs, []⟩ n) (frm + n)).l v.copies ∧ Pre p hs it (frm + ((n + 1 : Nat) : Int)) (day1 p.every (liveTo p.every frm ⟨v.copies, hs, []⟩ n) (frm + n)).l ∧ ∀ x ∈ (day1 p.every (liveTo p.every frm ⟨v.copies, hs, []⟩ n) (frm + n)).o, x.item = it → x.lost = 0
    rw [← hS] at h1 h2 h3 ⊢
    have h4 := pre_harms (dayH S.hs (frm + n)) h2 fun h hm => ⟨hrem h (dayH_sub h hm), by
      unfold dayH at hm
      exact of_decide_eq_true (takeWhile_mem _ h hm)⟩
    have h5 := harms_same (dayH S.hs (frm + n)) h1
    have h6 := mid_checks hv hsf hsort he (d := frm + n) (s := ((dayH S.hs (frm + n)).foldl harmC S.l, S.o)) h5 (fun i hi => ⟨(h4 _ (List.getElem_mem hi)).1, fun _ => (h4 _ (List.getElem_mem hi)).2, fun h => by omega⟩) h3 S.l.length
    refine ⟨h6.1, ?_, h6.2.2⟩
    have hlen : (chkTo p.every (frm + n) ((dayH S.hs (frm + n)).foldl harmC S.l, S.o) S.l.length).1.length = S.l.length := by rw [chkTo_len]; exact harms_len _ _
    have hmid := h6.2.1
    show Pre p hs it (frm + ((n + 1 : Nat) : Int)) (chkTo p.every (frm + n) ((dayH S.hs (frm + n)).foldl harmC S.l, S.o) S.l.length).1
    clear h6 h5 h4
    generalize (chkTo p.every (frm + n) ((dayH S.hs (frm + n)).foldl harmC S.l, S.o) S.l.length).1 = L at *
    have hn1 : frm + ((n + 1 : Nat) : Int) = frm + n + 1 := by omega
    rw [hn1]
    intro c hc
    obtain ⟨i, hi, rfl⟩ := List.mem_iff_getElem.1 hc
    have h7 := hmid i hi
    have hil : i < S.l.length := by rw [← hlen]; exact hi
    refine ⟨fun hit => ?_, fun hit => ?_⟩
    · obtain ⟨a, b, c⟩ := h7.1 hit
      have e := h7.2.2 hil hit
      refine ⟨?_, by omega, by omega⟩
      rcases a with a | ⟨h, g1, g2, g3, g4, g5⟩
      · exact .inl a
      · exact .inr ⟨h, g1, g2, g3, g4, by omega⟩
    · obtain ⟨_, b, _⟩ := h7.1 hit
      omega
theorem loses_nothing {v : Vlt} {p : Pol} {frm to : Int} {hs : List Hrm} (h : liveFault v p frm to hs = 0) {x : Dn} (hx : x ∈ liveO v p frm to hs) (hl : x.lost > 0) : isSafe v p frm hs x.item = false := by
  have ok := lvok_of h
  cases hs' : isSafe v p frm hs x.item with
  | false => rfl
  | true =>
    unfold liveO at hx
    rw [if_pos h] at hx
    have := (safe_live ok.vv (safe_of hs') ok.hh.sorted (fun h hm => (ok.hh.day h hm).1) ok.pp.every.1 (to - frm).toNat).2.2 x hx rfl
    omega


end Go.Proofs.YtieccphckobhjaaDoor
