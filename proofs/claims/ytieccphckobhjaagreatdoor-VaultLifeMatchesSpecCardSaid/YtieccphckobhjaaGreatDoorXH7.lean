/- Walks and laws over abstract values, merged by tools/merge.py. No statement of the seat. -/
import Derived.Test.YtieccphckobhjaaGreatDoorXH6

namespace Go.Proofs.YtieccphckobhjaaGreatDoor
open Go.RowKit
set_option linter.unusedVariables false

/-! Types. -/
namespace TyQ5

end TyQ5
open TyQ5


def vId (i : Nat) : Bool := Nat.blt i 1000 && !(Nat.beq i 101)
theorem vId_lt {i : Nat} (h : vId i = true) : i < 1000 ∧ Nat.beq 101 i = false := by
  unfold vId at h
  simp only [Bool.and_eq_true, Nat.blt_eq, Bool.not_eq_true'] at h
  refine ⟨h.1, ?_⟩
  rw [Bool.eq_false_iff]
  intro hh
  have := Nat.eq_of_beq_eq_true hh
  subst this
  simp at h
section
variable {l : List Cpy} {i : Nat} {o : Ob} {pre : Obs}
theorem vk (h : vId i = true) : Obs.kill i (vObs l) = vObs l := vObs_kill (vId_lt h).1
theorem vu (h : vId i = true) : Obs.upd i o (vObs l) = vObs l := by
  unfold vObs Obs.upd
  dsimp only
  rw [(vId_lt h).2]
  unfold famC
  rw [fam_upd_low (vId_lt h).1]
theorem fam_del {e size id : Nat} : ∀ {b : Nat} {l : List (List (List D))}, id < b → Obs.del id (fam e size b l) = fam e size b l
  | _, [], _ => rfl
  | b, y :: l, h => by
    unfold fam Obs.del
    have : Nat.beq b id = false := by rw [Bool.eq_false_iff]; intro hh; have := Nat.eq_of_beq_eq_true hh; omega
    dsimp only
    rw [this, fam_del (by omega)]
theorem vd (h : vId i = true) : Obs.del i (vObs l) = vObs l := by
  unfold vObs Obs.del
  dsimp only
  rw [(vId_lt h).2]
  unfold famC
  rw [fam_del (vId_lt h).1]
theorem vf (h : vId i = true) : Obs.fresh i (vObs l) = true := by
  unfold vObs Obs.fresh
  rw [(vId_lt h).2]
  simp [famC, fam_fresh (vId_lt h).1]
theorem kill_app : ∀ (a b : Obs), Obs.kill i (a ++ b) = Obs.kill i a ++ Obs.kill i b
  | [], _ => rfl
  | p :: a, b => by
    show (p.1, p.2.kill i) :: Obs.kill i (a ++ b) = _
    rw [kill_app a b]; rfl
theorem upd_t {p : Nat × Ob} {l : Obs} (h : Nat.beq p.1 i = true) : Obs.upd i o (p :: l) = (i, o) :: Obs.upd i o l := by
  show (match Nat.beq p.1 i with | true => (i, o) :: Obs.upd i o l | false => p :: Obs.upd i o l) = _
  rw [h]
theorem upd_f {p : Nat × Ob} {l : Obs} (h : Nat.beq p.1 i = false) : Obs.upd i o (p :: l) = p :: Obs.upd i o l := by
  show (match Nat.beq p.1 i with | true => (i, o) :: Obs.upd i o l | false => p :: Obs.upd i o l) = _
  rw [h]
theorem del_t {p : Nat × Ob} {l : Obs} (h : Nat.beq p.1 i = true) : Obs.del i (p :: l) = Obs.del i l := by
  show (match Nat.beq p.1 i with | true => Obs.del i l | false => p :: Obs.del i l) = _
  rw [h]
theorem del_f {p : Nat × Ob} {l : Obs} (h : Nat.beq p.1 i = false) : Obs.del i (p :: l) = p :: Obs.del i l := by
  show (match Nat.beq p.1 i with | true => Obs.del i l | false => p :: Obs.del i l) = _
  rw [h]
theorem upd_app : ∀ (a b : Obs), Obs.upd i o (a ++ b) = Obs.upd i o a ++ Obs.upd i o b
  | [], _ => rfl
  | p :: a, b => by
    rw [List.cons_append]
    cases hb : Nat.beq p.1 i with
    | true => rw [upd_t hb, upd_t hb, upd_app a b]; rfl
    | false => rw [upd_f hb, upd_f hb, upd_app a b]; rfl
theorem del_app : ∀ (a b : Obs), Obs.del i (a ++ b) = Obs.del i a ++ Obs.del i b
  | [], _ => rfl
  | p :: a, b => by
    rw [List.cons_append]
    cases hb : Nat.beq p.1 i with
    | true => rw [del_t hb, del_t hb, del_app a b]
    | false => rw [del_f hb, del_f hb, del_app a b]; rfl
theorem fresh_app : ∀ (a b : Obs), Obs.fresh i (a ++ b) = (Obs.fresh i a && Obs.fresh i b)
  | [], _ => by simp [Obs.fresh]
  | p :: a, b => by
    show (!(Nat.beq p.1 i) && Obs.fresh i (a ++ b)) = ((!(Nat.beq p.1 i) && Obs.fresh i a) && Obs.fresh i b)
    rw [fresh_app a b, Bool.and_assoc]
theorem fK (h : vId i = true) (hp : Obs.fresh i pre = true) : Obs.fresh i (pre ++ vObs l) = true := by rw [fresh_app, hp, vf h]; rfl
theorem kEq (h : vId i = true) (hp : Obs.kill i pre = pre) : Obs.kill i (pre ++ vObs l) = pre ++ vObs l := by rw [kill_app, hp, vk h]
theorem mem_of_eq {a b : Obs} (h : b = a) : ∀ p ∈ b, p ∈ a := fun p hp => h ▸ hp
end
section
variable {cx : Cx} {ops : Array Oper} {rest : List Oper} {e : Env} {Q : Post} {l : List Cpy} {i : Nat} {ob : Ob} {pre : Obs} {Φ : List Fr} {c : Code}
theorem AOps.nK (h : vId i = true) (k : AOps cx ops rest e (((i, ob) :: Obs.kill i pre) ++ vObs l) Q) : AOps cx ops rest e ((i, ob) :: Obs.kill i (pre ++ vObs l)) Q := by rw [kill_app, vk h]; exact k
theorem AWP.nK (h : vId i = true) (k : AWP cx c e (((i, ob) :: Obs.kill i pre) ++ vObs l) Q) : AWP cx c e ((i, ob) :: Obs.kill i (pre ++ vObs l)) Q := by rw [kill_app, vk h]; exact k
theorem AOps.nU (h : vId i = true) (k : AOps cx ops rest e (Obs.upd i ob pre ++ vObs l) Q) : AOps cx ops rest e (Obs.upd i ob (pre ++ vObs l)) Q := by rw [upd_app, vu h]; exact k
theorem AOps.nD (h : vId i = true) (k : AOps cx ops rest e (Obs.del i pre ++ vObs l) Q) : AOps cx ops rest e (Obs.del i (pre ++ vObs l)) Q := by rw [del_app, vd h]; exact k
theorem AOps.nA (h : vId i = true) (k : AOps cx ops rest e (Obs.upd i ob (Obs.kill i pre) ++ vObs l) Q) : AOps cx ops rest e (Obs.upd i ob (Obs.kill i (pre ++ vObs l))) Q := by rw [kill_app, vk h, upd_app, vu h]; exact k
theorem AOps.nF (h : true = true) (k : AOps cx ops rest e ((frObs Φ ++ pre) ++ vObs l) Q) : AOps cx ops rest e (frObs Φ ++ (pre ++ vObs l)) Q := by rw [← List.append_assoc]; exact k
end
theorem beqF {a b : Nat} (h : a ≠ b) : Nat.beq a b = false := by rw [Bool.eq_false_iff]; exact fun hh => h (Nat.eq_of_beq_eq_true hh)
/-- A closure over a cell that holds a pointer to a copy, and over a number. -/
theorem snap_clo1 {σ : Obs} {l : List Cpy} {k pid f : Nat} {n : Int} (hp : (pid, Ob.cells [.ptr 101 (k * 7)]) ∈ σ) (h : ∀ p ∈ vObs l, p ∈ σ) (hk : k < l.length) : Snap σ (.clo f [.p pid 0, .d (.fp [.v (.int .i64 n)])]) (.clo (.func f) [.fp [.fp l[k].ds], .fp [.v (.int .i64 n)]]) := by
  refine .clo rfl fun i h1 h2 => ?_
  have hi : i < 2 := h1
  match i, hi with
  | 0, _ =>
    refine .ptr hp (Nat.le_refl 1) fun j h3 h4 => ?_
    have hj : j = 0 := by have : j < 1 := h4; omega
    subst hj
    exact snap_ptr h hk
  | 1, _ => exact .d _
theorem cpysS_ren {i j : Nat} : ∀ {l : List Cpy} {b : Nat}, i < b → (∀ m, m < l.length → b + m ≠ j) → (cpysS b l).map (fun ss => ss.map (S.ren i j)) = cpysS b l
  | [], _, _, _ => rfl
  | c :: l, b, h, hj => by
    have ih := cpysS_ren (i := i) (j := j) (l := l) (b := b + 1) (by omega) (fun m hm => by have := hj (m + 1) (by simp; omega); omega)
    have h1 : Nat.beq b i = false := beqF (by omega)
    have h2 : Nat.beq b j = false := beqF (by have := hj 0 (by simp); omega)
    simp only [cpysS, List.map_cons, ih]
    simp [cpyS, S.ren, h1, h2]
theorem cpysS_renAt {i : Nat} {c : Cpy} : ∀ {l : List Cpy} {b k : Nat}, i < b → k < l.length → (((cpysS b l).set k ((cpyS (b + k) c).set 6 (.own i))).map fun ss => ss.map (S.ren i (b + k))) = cpysS b (l.set k c)
  | d :: l, b, 0, h, _ => by
    have ih := cpysS_ren (i := i) (j := b) (l := l) (b := b + 1) (by omega) (fun m hm => by omega)
    simp only [cpysS, List.set_cons_zero, List.map_cons, Nat.add_zero, ih]
    simp [cpyS, S.ren]
  | d :: l, b, k + 1, h, hk => by
    have ih := cpysS_renAt (i := i) (c := c) (l := l) (b := b + 1) (k := k) (by omega) (by simpa using hk)
    rw [show b + 1 + k = b + (k + 1) by omega] at ih
    have h1 : Nat.beq b i = false := beqF (by omega)
    have h2 : Nat.beq b (b + (k + 1)) = false := beqF (by omega)
    simp only [cpysS, List.set_cons_succ, List.map_cons, ih]
    simp [cpyS, S.ren, h1, h2]

theorem killF {i k : Nat} (h : i < 1000) : S.kill i (.own (1000 + k)) = .own (1000 + k) := by simp only [S.kill, beqF (show 1000 + k ≠ i by omega)]
theorem renP {k t off : Nat} (h1 : t ≠ 51) (h2 : t < 1000) : S.ren 51 (1000 + k) (.ptr t off) = .ptr t off := by simp only [S.ren, beqF h1, beqF (show t ≠ 1000 + k by omega)]
section
variable {cx : Cx} {ops : Array Oper} {rest : List Oper} {e : Env} {Q : Post} {l : List Cpy} {o x : Ob} {pre : Obs}
theorem upd101 (hp : Obs.upd 101 o pre = pre) : Obs.upd 101 o (pre ++ vObs l) = pre ++ ((101, o) :: famC l) := by
  rw [upd_app, hp]
  unfold vObs famC
  rw [upd_t rfl, fam_upd_low (by omega)]
theorem upd101' (hp : Obs.upd 101 o pre = pre) : Obs.upd 101 o (pre ++ ((101, x) :: famC l)) = pre ++ ((101, o) :: famC l) := by
  rw [upd_app, hp]
  unfold famC
  rw [upd_t rfl, fam_upd_low (by omega)]
theorem HRun.n101 {sl ef : Nat → Bool} {I : Obs → Prop} {n : Nat} {K : Env → Obs → Prop} (hp : Obs.upd 101 o pre = pre) (k : HRun cx ops sl ef I n rest e (pre ++ ((101, o) :: famC l)) K) : HRun cx ops sl ef I n rest e (Obs.upd 101 o (pre ++ vObs l)) K := by rw [upd101 hp]; exact k
theorem HRun.n101' {sl ef : Nat → Bool} {I : Obs → Prop} {n : Nat} {K : Env → Obs → Prop} (hp : Obs.upd 101 o pre = pre) (k : HRun cx ops sl ef I n rest e (pre ++ ((101, o) :: famC l)) K) : HRun cx ops sl ef I n rest e (Obs.upd 101 o (pre ++ ((101, x) :: famC l))) K := by rw [upd101' hp]; exact k
end
/-- What checked does to the objects at its end: the blocks that stay lost take the damaged ones' place. -/
theorem ren_checked {pre pre' : Obs} {l : List Cpy} {k : Nat} {day : Int} (hk : k < l.length) (hpre : ∀ p ∈ pre', p ∈ pre ∧ p.1 ≠ 51 ∧ p.1 < 1000 ∧ p.2.ren 51 (1000 + k) = p.2) (h51 : (51, Ob.row 3 1 ((stillI l l[k]).map intD)) ∈ pre) :
    ∀ p ∈ pre' ++ vObs (checkedC l k day), (∃ q ∈ pre ++ ((101, Ob.rowS 65 7 (((cpysS 1000 l).set k ((cpyS (1000 + k) l[k]).set 6 (.own 51))).set k (((cpyS (1000 + k) l[k]).set 6 (.own 51)).set 4 (.d (.v (.int .i64 day)))))) :: famC l), q.1 = 51 ∧ p = (1000 + k, q.2.ren 51 (1000 + k))) ∨
      ∃ q ∈ pre ++ ((101, Ob.rowS 65 7 (((cpysS 1000 l).set k ((cpyS (1000 + k) l[k]).set 6 (.own 51))).set k (((cpyS (1000 + k) l[k]).set 6 (.own 51)).set 4 (.d (.v (.int .i64 day)))))) :: famC l), q.1 ≠ 51 ∧ q.1 ≠ 1000 + k ∧ p = (q.1, q.2.ren 51 (1000 + k)) := by
  have hset : checkedC l k day = l.set k { l[k] with bad := stillI l l[k], last := day } := by
    unfold checkedC
    apply List.ext_getElem?
    intro j
    rw [List.getElem?_modify, List.getElem?_set]
    by_cases hj : k = j
    · subst hj
      rw [List.getElem?_eq_getElem hk]
      simp [hk]
    · simp [hj]
  intro p hp
  rcases List.mem_append.1 hp with hp | hp
  · obtain ⟨h1, h2, h3, h4⟩ := hpre p hp
    exact .inr ⟨p, List.mem_append_left _ h1, h2, by omega, by rw [h4]⟩
  · rcases List.mem_cons.1 hp with rfl | hp
    · refine .inr ⟨_, List.mem_append_right _ (.head _), by show 101 ≠ 51; decide, by show 101 ≠ 1000 + k; omega, ?_⟩
      rw [hset]
      have h5 := cpysS_renAt (i := 51) (c := { l[k] with bad := stillI l l[k], last := day }) (l := l) (b := 1000) (k := k) (by omega) hk
      show (101, Ob.rowS _ 7 _) = (101, Ob.rowS _ 7 _)
      rw [← h5, List.set_set]
      rfl
    · obtain ⟨m, x, h1, rfl⟩ := fam_mem hp
      rw [hset, ← badsD_set, List.getElem?_set] at h1
      by_cases hm : k = m
      · subst hm
        rw [if_pos rfl] at h1
        split at h1
        · refine .inl ⟨_, List.mem_append_left _ h51, rfl, ?_⟩
          rw [← Option.some.inj h1]
          rfl
        · simp at h1
      · rw [if_neg hm] at h1
        exact .inr ⟨(1000 + m, .row 3 1 x), List.mem_append_right _ (.tail _ (fam_get h1)), by show 1000 + m ≠ 51; omega, by show 1000 + m ≠ 1000 + k; omega, rfl⟩


end Go.Proofs.YtieccphckobhjaaGreatDoor


namespace Go.Proofs.YtieccphckobhjaaGreatDoor
open Go.RowKit
set_option linter.unusedVariables false

/-! Types. -/
namespace TyQ6
theorem ag_47 : AggT Tryz.prog 47 5 := .of (by kernel_rfl)
theorem bu_47 : StructT Tryz.prog 47 (fun i => (#[(0, 1), (1, 1), (2, 1), (3, 1), (4, 1)] : Array (Nat × Nat))[i]?) [(.int .i64 0), (.string ⟨#[]⟩), (.string ⟨#[]⟩), (.int .i64 0), (.int .i64 0)] := .of (by kernel_rfl) (by kernel_rfl) (by decide)
theorem et_24 : ElemTy Tryz.prog 24 65 7 96 (.agg #[(.string ⟨#[]⟩), (.string ⟨#[]⟩), (.string ⟨#[]⟩), (.int .i64 0), (.int .i64 0), (.int .i64 0), (.slice none 0 0)]) := ⟨by kernel_rfl, by kernel_rfl, by kernel_rfl, by decide⟩
theorem et_63 : ElemTy Tryz.prog 63 3 1 8 (.int .i64 0) := ⟨by kernel_rfl, by kernel_rfl, by kernel_rfl, by decide⟩
theorem fo_26_2 : fieldOff Tryz.prog 26 2 = some 2 := by kernel_rfl
theorem fo_47_3 : fieldOff Tryz.prog 47 3 = some 3 := by kernel_rfl
theorem fo_47_4 : fieldOff Tryz.prog 47 4 = some 4 := by kernel_rfl
theorem fo_65_0 : fieldOff Tryz.prog 65 0 = some 0 := by kernel_rfl
theorem fo_65_1 : fieldOff Tryz.prog 65 1 = some 1 := by kernel_rfl
theorem fo_65_4 : fieldOff Tryz.prog 65 4 = some 4 := by kernel_rfl
theorem fo_65_6 : fieldOff Tryz.prog 65 6 = some 6 := by kernel_rfl
theorem sc_135 : Scal Tryz.prog 135 := .of (by kernel_rfl)
theorem sc_24 : Scal Tryz.prog 24 := .of (by kernel_rfl)
theorem sc_3 : Scal Tryz.prog 3 := .of (by kernel_rfl)
theorem sc_63 : Scal Tryz.prog 63 := .of (by kernel_rfl)
theorem sc_9 : Scal Tryz.prog 9 := .of (by kernel_rfl)
theorem sz_3 : ∀ w, (sizeOf 3).run Tryz.prog w = .ok 1 w := SizeT.of (by kernel_rfl)
theorem sz_47 : ∀ w, (sizeOf 47).run Tryz.prog w = .ok 5 w := SizeT.of (by kernel_rfl)
theorem zt_135 : (Tryz.prog.info? 135).bind (·.zero) = some (.pointer none) := by kernel_rfl
theorem zt_3 : (Tryz.prog.info? 3).bind (·.zero) = some (.int .i64 0) := by kernel_rfl
theorem zt_47 : (Tryz.prog.info? 47).bind (·.zero) = some (.agg #[(.int .i64 0), (.string ⟨#[]⟩), (.string ⟨#[]⟩), (.int .i64 0), (.int .i64 0)]) := by kernel_rfl
end TyQ6
open TyQ6


theorem hag_d : AggT Tryz.prog 47 5 := .of (by kernel_rfl)
theorem hsz_78 : ∀ w, (sizeOf 135).run Tryz.prog w = .ok 1 w := SizeT.of (by kernel_rfl)
theorem hsc_78 : Scal Tryz.prog 135 := .of (by kernel_rfl)
theorem hsz_i : ∀ w, (sizeOf 3).run Tryz.prog w = .ok 1 w := SizeT.of (by kernel_rfl)


set_option maxRecDepth 100000 in
set_option maxHeartbeats 1000000 in
set_option maxRecDepth 20000 in
set_option maxHeartbeats 2000000 in
theorem c_checked (v : Vlt) (k : Nat) (day : Int) (hkl : k < v.copies.length) (hb : ∀ c ∈ v.copies, c.bad.length ≤ 100000) : XCall Tryz.prog 49 [.own 100, .d (.v (.int .i64 (k : Int))), .d (.v (.int .i64 day))] (harm0 v) (vObs (checkedC v.copies k day)) (fun i => Nat.ble 1000 i || Nat.blt i 100) (.agg (doneC v.copies v.copies[k] day).ds) := by
  have hbk := hb _ (List.getElem_mem hkl)
  have hfx : (!(!(Nat.ble 1000 (1000 + k) || Nat.blt (1000 + k) 100))) = true := by
    have : Nat.ble 1000 (1000 + k) = true := Nat.ble_eq_true_of_le (by omega)
    rw [this]; rfl
  refine xcall_ofC (n := 61) (b := 6) (t := 47) (size := 5) Tryz.func49 rfl (by kernel_rfl) rfl rfl hag_d rfl rfl ?_
  intro B w0 F0 fr ρ0
  refine AWP.obsEq ([(100, .val (vaultS v))] ++ vObs v.copies) rfl ?_
  refine AWP.seq ?_
  refine AWP.region ?_
  refine AOps.boxVal 90 rfl rfl rfl rfl rfl (.head _) (fK rfl rfl) ?_
  refine AOps.nK rfl ?_
  refine AOps.alloc 11 rfl rfl rfl rfl zt_47 rfl rfl (fK rfl rfl) ?_
  refine AOps.nK rfl ?_
  refine AOps.nil ?_
  refine AWP.seq ?_
  refine AWP.region ?_
  refine AOps.step rfl rfl rfl (AOp.fieldAddrP rfl fo_26_2 rfl) ?_
  refine AOps.step rfl rfl rfl (AOp.loadP rfl sc_24 rfl (.tail _ (.head _)) rfl) ?_
  refine AOps.step rfl rfl rfl (AOp.moveD rfl rfl) ?_
  refine AOps.step rfl rfl rfl (AOp.weak (AOp.indexOwn rfl het_24 rfl rfl (Obs.weak_mem (p := (101, _)) (.tail _ (.tail _ (.tail _ (.head _))))) k rfl (by rw [List.length_map, cpysS_len]; exact hkl))) ?_
  refine AOps.alloc 12 rfl rfl rfl rfl zt_135 rfl rfl (fK rfl rfl) ?_
  refine AOps.nK rfl ?_
  refine AOps.eff rfl rfl (EOp.storeC (s := .ptr 101 (k * 7)) rfl rfl hsz_78 rfl (.head _) rfl (.inr ⟨101, k * 7, rfl⟩) (by decide)) ?_
  refine AOps.nU rfl ?_
  refine AOps.nil ?_
  refine AWP.seq ?_
  refine AWP.drawFresh 11 [⟨8, 13, .ptr 13 0, .cells [.d (.v (.int .i64 0)), .d (.v (.string ⟨#[]⟩)), .d (.v (.string ⟨#[]⟩)), .d (.v (.int .i64 0)), .d (.v (.int .i64 0))]⟩] (FrOk.one rfl (by simp) (fK rfl rfl) (kEq rfl rfl) rfl) (by kernel_rfl) (by kernel_rfl) (by kernel_rfl) (by kernel_rfl) ?_
  refine XRun.step rfl rfl rfl (AOp.moveD rfl rfl) ?_
  refine XRun.step rfl rfl rfl (AOp.loadP rfl sc_135 rfl (.head _) rfl) ?_
  refine XRun.step rfl rfl rfl (AOp.nilCheckP rfl rfl) ?_
  refine XRun.step rfl rfl rfl (AOp.fieldAddrP rfl fo_65_0 rfl) ?_
  refine XRun.step rfl rfl rfl (AOp.loadRowS (s := .d (.v (.string v.copies[k].item))) rfl hsc_s rfl (.tail _ (.tail _ (.tail _ (.tail _ (.head _))))) k 0 rfl (cpysS_get (List.getElem?_eq_getElem hkl)) rfl) ?_
  refine XRun.step rfl rfl rfl (AOp.loadP rfl sc_135 rfl (.head _) rfl) ?_
  refine XRun.step rfl rfl rfl (AOp.nilCheckP rfl rfl) ?_
  refine XRun.step rfl rfl rfl (AOp.fieldAddrP rfl fo_65_1 rfl) ?_
  refine XRun.step rfl rfl rfl (AOp.loadRowS (s := .d (.v (.string v.copies[k].carrier))) rfl hsc_s rfl (.tail _ (.tail _ (.tail _ (.tail _ (.head _))))) k 1 rfl (cpysS_get (List.getElem?_eq_getElem hkl)) rfl) ?_
  refine XRun.step rfl rfl rfl (AOp.build rfl bu_47 (.cons rfl rfl (.cons rfl rfl (.cons rfl rfl .nil))) rfl) ?_
  refine XRun.alloc _ (.head _) rfl rfl rfl rfl rfl zt_47 rfl rfl rfl rfl ?_
  refine XRun.nil ⟨rfl, trivial⟩ ?_
  refine AOps.nF rfl ?_
  refine AOps.store rfl rfl rfl sz_47 rfl (.head _) rfl rfl rfl (Nat.le_of_ble_eq_true rfl) ?_
  refine AOps.nU rfl ?_
  refine AOps.nil ?_
  refine AWP.seq ?_
  refine AWP.region ?_
  refine AOps.step rfl rfl rfl (AOp.assignD rfl rfl) ?_
  refine AOps.nil ?_
  refine AWP.seq ?_
  refine AWP.seq ?_
  refine AWP.region ?_
  refine AOps.step rfl rfl rfl (AOp.loadP rfl sc_135 rfl (.tail _ (.head _)) rfl) ?_
  refine AOps.step rfl rfl rfl (AOp.nilCheckP rfl rfl) ?_
  refine AOps.step rfl rfl rfl (AOp.fieldAddrP rfl fo_65_6 rfl) ?_
  refine AOps.step rfl rfl rfl (AOp.loadRowS (s := .own (1000 + k)) rfl hsc_75 rfl (.tail _ (.tail _ (.tail _ (.tail _ (.tail _ (.head _)))))) k 6 rfl (cpysS_get (List.getElem?_eq_getElem hkl)) rfl) ?_
  refine AOps.step rfl rfl rfl (AOp.lenOwn rfl het_75.ht rfl (.tail _ (.tail _ (.tail _ (.tail _ (.tail _ (.tail _ (famC_get hkl)))))))) ?_
  refine AOps.step rfl rfl rfl (AOp.moveD rfl rfl) ?_
  refine AOps.nil ?_
  refine AWP.block ?_
  refine AWP.adopt 9 51 3 1 rfl (fK rfl rfl) ?_
  refine AWP.nK rfl ?_
  refine AWP.loop (G := Nat) (fun j => Env.of [(31, .d (.v (.int .i64 (j : Int)))), (29, .own (1000 + k)), (30, .d (.v (.int .i64 ((v.copies[k].bad.map intD).length : Int)))), (7, .ptr 12 0), (3, .ptr 90 0), (8, .ptr 13 0), (6, .ptr 11 0), (9, .own 51), (2, .d (.v (.int .i64 day)))]) (fun j => [(51, .row 3 1 ((stillTo v.copies v.copies[k] j).map intD)), (13, .cells [.d (.v (.int .i64 day)), .d (.v (.string v.copies[k].item)), .d (.v (.string v.copies[k].carrier)), .d (.v (.int .i64 (fixTo v.copies v.copies[k] j : Int))), .d (.v (.int .i64 ((stillTo v.copies v.copies[k] j).length : Int)))]), (12, .cells [.ptr 101 (k * 7)]), (11, .cells [.d (.v (.int .i64 0)), .d (.v (.string ⟨#[]⟩)), .d (.v (.string ⟨#[]⟩)), .d (.v (.int .i64 0)), .d (.v (.int .i64 0))]), (90, .cells (vaultS v)), (100, .val (vaultS v))] ++ vObs v.copies) (fun j => j ≤ v.copies[k].bad.length) (fun j => v.copies[k].bad.length - j) 0 (Nat.zero_le _) (Sub.less ⟨(SLe.of_eq rfl), (SLe.of_eq (killF (by omega))), SLe.refl _, SLe.refl _, SLe.refl _, SLe.refl _, SLe.refl _, SLe.refl _, SLe.refl _, trivial⟩ (mem_of_eq rfl)) ?_
  intro j hk
  refine AWP.seq ?_
  refine AWP.region ?_
  refine AOps.step rfl rfl rfl (AOp.lss rfl rfl rfl) ?_
  refine AOps.nil ?_
  refine AWP.seq ?_
  refine AWP.cond rfl (fun h1 => ?_) (fun h1 => ?_)
  · replace h1 := of_decide_eq_true h1
    rw [List.length_map] at h1
    have hlt : j < v.copies[k].bad.length := by omega
    have hsl := stillTo_len v.copies v.copies[k] j
    refine AWP.skip ?_
    refine AWP.seq ?_
    refine AWP.block ?_
    refine AWP.seq ?_
    refine AWP.region ?_
    refine AOps.step rfl rfl rfl (AOp.indexOwn rfl het_75 rfl rfl (.tail _ (.tail _ (.tail _ (.tail _ (.tail _ (.tail _ (.tail _ (famC_get hkl)))))))) j rfl (by rw [List.length_map]; exact hlt)) ?_
    refine AOps.step rfl rfl rfl (AOp.loadRow rfl hsc_i rfl (.tail _ (.tail _ (.tail _ (.tail _ (.tail _ (.tail _ (.tail _ (famC_get hkl)))))))) j 0 rfl (at_list hlt) rfl) ?_
    refine AOps.alloc 14 rfl rfl rfl rfl zt_3 rfl rfl (fK rfl rfl) ?_
    refine AOps.nK rfl ?_
    refine AOps.store rfl rfl rfl sz_3 rfl (.head _) rfl rfl rfl (Nat.le_of_ble_eq_true rfl) ?_
    refine AOps.nU rfl ?_
    refine AOps.freezeCells 11 (ds := [.v (.int .i64 v.copies[k].bad[j])]) rfl (.head _) ?_
    refine AOps.nD rfl ?_
    refine AOps.nil ?_
    refine AWP.seq ?_
    refine AWP.region ?_
    refine AOps.le 29 (s := .own (1000 + k)) (s' := .own (1000 + k)) (killF (by omega)) (SLe.refl _) ?_
    refine AOps.step rfl rfl rfl (AOp.fieldAddrP rfl fo_26_2 rfl) ?_
    refine AOps.step rfl rfl rfl (AOp.loadP rfl sc_24 rfl (.tail _ (.tail _ (.tail _ (.tail _ (.head _))))) rfl) ?_
    refine AOps.step rfl rfl rfl (AOp.makeClo rfl (CapsOk.p rfl (CapsOk.d rfl CapsOk.nil))) ?_
    refine AOps.step rfl rfl rfl (AOp.callSnap rfl (.cons rfl (snap_copies (fun p hp => (.tail _ (.tail _ (.tail _ (.tail _ (.tail _ (.tail _ hp)))))))) (.cons rfl (snap_clo1 (.tail _ (.tail _ (.head _))) (fun p hp => (.tail _ (.tail _ (.tail _ (.tail _ (.tail _ (.tail _ hp))))))) hkl) .nil)) (c_containsC v.copies (whole1 v.copies[k] v.copies[k].bad[j]) _ _ (fun x => c_checked1 x v.copies[k] v.copies[k].bad[j])) (.v _)) ?_
    refine AOps.nil ?_
    refine AWP.cond rfl (fun h2 => ?_) (fun h2 => ?_)
    · skip
      have HT := stillTo_t hlt h2
      refine AWP.region ?_
      refine AOps.step rfl rfl rfl (AOp.fieldAddrP rfl fo_47_3 rfl) ?_
      refine AOps.step rfl rfl rfl (AOp.loadP rfl sc_3 rfl (.tail _ (.head _)) rfl) ?_
      refine AOps.step rfl rfl rfl (AOp.add64 rfl rfl rfl (by omega) (by omega)) ?_
      refine AOps.step rfl rfl rfl (AOp.fieldAddrP rfl fo_47_3 rfl) ?_
      refine AOps.store rfl rfl rfl sz_3 rfl (.tail _ (.head _)) rfl rfl rfl (Nat.le_of_ble_eq_true rfl) ?_
      refine AOps.nU rfl ?_
      refine AOps.nil ?_
      refine AWP.region ?_
      refine AOps.step rfl rfl rfl (AOp.add64 rfl rfl rfl (by omega) (by omega)) ?_
      refine AOps.step rfl rfl rfl (AOp.moveD rfl rfl) ?_
      refine AOps.nil ?_
      refine ⟨j + 1, (by omega), (by dsimp only; omega), Sub.less ⟨(SLe.of_eq rfl), SLe.refl _, SLe.refl _, SLe.refl _, SLe.refl _, SLe.refl _, SLe.refl _, SLe.refl _, SLe.refl _, trivial⟩ (mem_of_eq (by dsimp only; rw [HT.1, HT.2, Int.natCast_add]; rfl))⟩
    have HT := stillTo_f hlt h2
    refine AWP.seq ?_
    refine AWP.region ?_
    refine AOps.step rfl rfl rfl (AOp.moveO rfl rfl) ?_
    refine AOps.step rfl rfl rfl (AOp.load rfl sc_3 rfl) ?_
    refine AOps.step rfl rfl rfl (AOp.buildSlice rfl et_63 (.cons rfl rfl rfl .nil) rfl (by decide)) ?_
    -- append 46
    refine AOps.append rfl rfl rfl rfl et_63 rfl (.head _) rfl (by simp [D.parts]) (by simp; omega) (by simp; omega) ?_
    refine AOps.nA rfl ?_
    refine AOps.le 29 (s := .own (1000 + k)) (s' := .own (1000 + k)) (killF (by omega)) (SLe.refl _) ?_
    refine AOps.step rfl rfl rfl (AOp.assignO rfl rfl) ?_
    refine AOps.nil ?_
    refine AWP.region ?_
    refine AOps.step rfl rfl rfl (AOp.fieldAddrP rfl fo_47_4 rfl) ?_
    refine AOps.step rfl rfl rfl (AOp.loadP rfl sc_3 rfl (.tail _ (.head _)) rfl) ?_
    refine AOps.step rfl rfl rfl (AOp.add64 rfl rfl rfl (by omega) (by omega)) ?_
    refine AOps.step rfl rfl rfl (AOp.fieldAddrP rfl fo_47_4 rfl) ?_
    refine AOps.store rfl rfl rfl sz_3 rfl (.tail _ (.head _)) rfl rfl rfl (Nat.le_of_ble_eq_true rfl) ?_
    refine AOps.nU rfl ?_
    refine AOps.nil ?_
    refine AWP.region ?_
    refine AOps.step rfl rfl rfl (AOp.add64 rfl rfl rfl (by omega) (by omega)) ?_
    refine AOps.step rfl rfl rfl (AOp.moveD rfl rfl) ?_
    refine AOps.nil ?_
    refine ⟨j + 1, (by omega), (by dsimp only; omega), Sub.less ⟨(SLe.of_eq rfl), SLe.refl _, SLe.refl _, SLe.refl _, SLe.refl _, SLe.refl _, SLe.refl _, SLe.refl _, SLe.refl _, trivial⟩ (mem_of_eq (by dsimp only; rw [HT.1, HT.2, List.map_append, List.length_append, Int.natCast_add]; rfl))⟩
  replace h1 := of_decide_eq_false h1
  rw [List.length_map] at h1
  obtain rfl : j = v.copies[k].bad.length := by omega
  refine AWP.exit ?_
  refine AWP.seq ?_
  rw [(stillTo_all v.copies v.copies[k]).1, (stillTo_all v.copies v.copies[k]).2]
  refine AWP.obsEq ([_, _, _, _, _, _] ++ vObs v.copies) rfl ?_
  refine AWP.drawH (fun k => (Nat.beq k 6 || Nat.beq k 9) || (false)) (fun k => Nat.beq k 6 || Nat.beq k 9) (fun τ => (12, Ob.cells [.ptr 101 (k * 7)]) ∈ τ) (fun k h => Bool.or_eq_true_iff.2 (.inl h)) (by kernel_rfl) (by kernel_rfl) (by kernel_rfl) ?_
  refine HRun.step rfl rfl rfl (.tail _ (.tail _ (.head _))) (fun τ hτ => AOp.loadP rfl hsc_78 rfl hτ rfl) ?_
  refine HRun.step rfl rfl rfl (.tail _ (.tail _ (.head _))) (fun τ hτ => AOp.loadP rfl hsc_78 rfl hτ rfl) ?_
  refine HRun.step rfl rfl rfl (.tail _ (.tail _ (.head _))) (fun τ hτ => AOp.moveO rfl rfl) ?_
  refine HRun.step rfl rfl rfl (.tail _ (.tail _ (.head _))) (fun τ hτ => AOp.moveD rfl rfl) ?_
  refine HRun.step rfl rfl rfl (.tail _ (.tail _ (.head _))) (fun τ hτ => AOp.nilCheckP rfl rfl) ?_
  refine HRun.step rfl rfl rfl (.tail _ (.tail _ (.head _))) (fun τ hτ => AOp.fieldAddrP rfl fo_65_6 rfl) ?_
  refine HRun.eff rfl rfl rfl (EOp.storeRowS (s := .own 51) rfl rfl hsz_75 rfl (.tail _ (.tail _ (.tail _ (.tail _ (.tail _ (.tail _ (.head _))))))) rfl (.own (.head _)) k 6 rfl (cpysS_get (List.getElem?_eq_getElem hkl)) (by decide)) (.tail _ (.tail _ (.head _))) (.tail _ (.tail _ (.head _))) ?_
  refine HRun.n101 (pre := [_, _, _, _, _, _]) (l := v.copies) (by rfl) ?_
  refine HRun.step rfl rfl rfl (.tail _ (.tail _ (.head _))) (fun τ hτ => AOp.nilCheckP rfl rfl) ?_
  refine HRun.step rfl rfl rfl (.tail _ (.tail _ (.head _))) (fun τ hτ => AOp.fieldAddrP rfl fo_65_4 rfl) ?_
  refine HRun.eff rfl rfl rfl (EOp.storeRowS (s := .d (.v (.int .i64 day))) rfl rfl hsz_i rfl (.tail _ (.tail _ (.tail _ (.tail _ (.tail _ (.tail _ (.head _))))))) rfl (.d rfl rfl) k 4 rfl (ss := (cpyS (1000 + k) v.copies[k]).set 6 (.own 51)) (by rw [List.getElem?_set]; simp [cpysS_len, hkl]) (by decide)) (.tail _ (.tail _ (.head _))) (.tail _ (.tail _ (.head _))) ?_
  refine HRun.n101' (pre := [_, _, _, _, _, _]) (l := v.copies) (by rfl) ?_
  refine HRun.nil ?_
  refine AWP.seq ?_
  refine AWP.rename 51 (1000 + k) ([(13, .cells ((doneC v.copies v.copies[k] day).ds.map S.d)), (11, .cells [.d (.v (.int .i64 0)), .d (.v (.string ⟨#[]⟩)), .d (.v (.string ⟨#[]⟩)), .d (.v (.int .i64 0)), .d (.v (.int .i64 0))])] ++ vObs (checkedC v.copies k day)) (by omega) hfx (ren_checked hkl (fun p hp => ?_) (.head _)) ?_
  · rcases List.mem_cons.1 hp with rfl | hp
    · exact ⟨.tail _ (.head _), by show 13 ≠ 51; decide, by show 13 < 1000; decide, rfl⟩
    have hp : p = _ := List.mem_singleton.1 hp
    subst hp
    exact ⟨.tail _ (.tail _ (.tail _ (.head _))), by show 11 ≠ 51; decide, by show 11 < 1000; decide, rfl⟩
  refine AWP.region ?_
  refine AOps.le 8 (s := .ptr 13 0) (s' := .ptr 13 0) (renP (k := k) (t := 13) (off := 0) (by decide) (by decide)) (SLe.refl _) ?_
  refine AOps.le 6 (s := .ptr 11 0) (s' := .ptr 11 0) (renP (k := k) (t := 11) (off := 0) (by decide) (by decide)) (SLe.refl _) ?_
  refine AOps.step rfl rfl rfl (AOp.loadPU rfl ag_47 rfl (.head _) rfl rfl) ?_
  refine AOps.store rfl rfl rfl sz_47 rfl (.tail _ (.head _)) rfl rfl rfl (Nat.le_of_ble_eq_true rfl) ?_
  refine AOps.nU rfl ?_
  refine AOps.nil ?_
  refine AWP.ret ?_
  exact ⟨⟨11, rfl, .tail _ (.head _)⟩, AllIn.of fun p hp => .tail _ (.tail _ hp)⟩

end Go.Proofs.YtieccphckobhjaaGreatDoor


namespace Go.Proofs.YtieccphckobhjaaGreatDoor
open Go.RowKit
set_option linter.unusedVariables false

/-! Types. -/
namespace TyQ7
theorem et_22 : ElemTy Tryz.prog 22 62 2 24 (.agg #[(.string ⟨#[]⟩), (.int .i64 0)]) := ⟨by kernel_rfl, by kernel_rfl, by kernel_rfl, by decide⟩
theorem et_23 : ElemTy Tryz.prog 23 59 5 64 (.agg #[(.string ⟨#[]⟩), (.string ⟨#[]⟩), (.string ⟨#[]⟩), (.int .i64 0), (.int .i64 0)]) := ⟨by kernel_rfl, by kernel_rfl, by kernel_rfl, by decide⟩
theorem et_24 : ElemTy Tryz.prog 24 65 7 96 (.agg #[(.string ⟨#[]⟩), (.string ⟨#[]⟩), (.string ⟨#[]⟩), (.int .i64 0), (.int .i64 0), (.int .i64 0), (.slice none 0 0)]) := ⟨by kernel_rfl, by kernel_rfl, by kernel_rfl, by decide⟩
theorem et_63 : ElemTy Tryz.prog 63 3 1 8 (.int .i64 0) := ⟨by kernel_rfl, by kernel_rfl, by kernel_rfl, by decide⟩
theorem fo_26_0 : fieldOff Tryz.prog 26 0 = some 0 := by kernel_rfl
theorem fo_26_1 : fieldOff Tryz.prog 26 1 = some 1 := by kernel_rfl
theorem fo_26_2 : fieldOff Tryz.prog 26 2 = some 2 := by kernel_rfl
theorem sc_22 : Scal Tryz.prog 22 := .of (by kernel_rfl)
theorem sc_23 : Scal Tryz.prog 23 := .of (by kernel_rfl)
theorem sc_24 : Scal Tryz.prog 24 := .of (by kernel_rfl)
theorem sz_22 : ∀ w, (sizeOf 22).run Tryz.prog w = .ok 1 w := SizeT.of (by kernel_rfl)
theorem sz_23 : ∀ w, (sizeOf 23).run Tryz.prog w = .ok 1 w := SizeT.of (by kernel_rfl)
theorem sz_24 : ∀ w, (sizeOf 24).run Tryz.prog w = .ok 1 w := SizeT.of (by kernel_rfl)
theorem zt_26 : (Tryz.prog.info? 26).bind (·.zero) = some (.agg #[(.slice none 0 0), (.slice none 0 0), (.slice none 0 0)]) := by kernel_rfl
end TyQ7
open TyQ7

set_option maxRecDepth 100000 in
set_option maxHeartbeats 1000000 in
theorem c_clItem (l : List Item) (hl : l.length ≤ 1000000) : OCall Tryz.prog 86 [.sl (l.map Item.ds)] 62 2 (l.map Item.ds) := by
  refine ocall_of (n := 8) Tryz.func86 rfl (by kernel_rfl) rfl 2 rfl rfl ?_
  intro B w0 F0 fr
  refine (Classical.em (l = [])).elim (fun hn => ?_) (fun hn => ?_)
  subst hn
  refine AWP.nilOr 0 rfl ?_ (fun ad cap hcap => ?_)
  · skip
    refine AWP.seq ?_
    refine AWP.region ?_
    refine AOps.step rfl rfl rfl (AOp.assignD rfl rfl) ?_
    refine AOps.nil ?_
    refine AWP.seq ?_
    refine AWP.seq ?_
    refine AWP.region ?_
    refine AOps.step rfl rfl rfl (AOp.moveD rfl rfl) ?_
    refine AOps.step rfl rfl rfl (AOp.eqNilV rfl Tryz.underlying22 rfl rfl) ?_
    refine AOps.nil ?_
    refine AWP.cond rfl (fun _ => ?_) (fun h => nomatch h)
    refine AWP.seq ?_
    refine AWP.region ?_
    refine AOps.step rfl rfl rfl (AOp.assignD rfl rfl) ?_
    refine AOps.nil ?_
    refine AWP.adopt 2 51 62 2 rfl rfl ?_
    refine AWP.ret ?_
    refine ⟨51, rfl, mem_row_eq (.head _) ?_⟩
    first | rfl | simp
  · skip
    refine AWP.seq ?_
    refine AWP.region ?_
    refine AOps.step rfl rfl rfl (AOp.assignD rfl rfl) ?_
    refine AOps.nil ?_
    refine AWP.seq ?_
    refine AWP.seq ?_
    refine AWP.region ?_
    refine AOps.step rfl rfl rfl (AOp.moveD rfl rfl) ?_
    refine AOps.step rfl rfl rfl (AOp.eqNilV rfl Tryz.underlying22 rfl rfl) ?_
    refine AOps.nil ?_
    refine AWP.cond rfl (fun h => nomatch h) (fun _ => ?_)
    refine AWP.skip ?_
    refine AWP.seq ?_
    refine AWP.region ?_
    refine AOps.build0 102 rfl rfl rfl rfl et_22 rfl ?_
    refine AOps.step rfl rfl rfl (AOp.moveD rfl rfl) ?_
    refine AOps.le 6 rfl (SLe.d (Le.empty hcap)) ?_
    -- append 7
    refine AOps.append rfl rfl rfl rfl et_22 rfl (.head _) rfl (fun y hy => by first | exact absurd hy List.not_mem_nil | (obtain ⟨x, _, rfl⟩ := List.mem_map.1 hy; rfl)) (by simp; try omega) (by simp; try omega) ?_
    refine AOps.step rfl rfl rfl (AOp.assignO rfl rfl) ?_
    refine AOps.nil ?_
    refine AWP.ret ?_
    refine ⟨102, rfl, mem_row_eq (.head _) ?_⟩
    first | rfl | simp
  refine AWP.seq ?_
  refine AWP.region ?_
  refine AOps.step rfl rfl rfl (AOp.assignD rfl rfl) ?_
  refine AOps.nil ?_
  refine AWP.seq ?_
  refine AWP.seq ?_
  refine AWP.region ?_
  refine AOps.step rfl rfl rfl (AOp.moveD rfl rfl) ?_
  refine AOps.step rfl rfl rfl (AOp.eqNilS rfl Tryz.underlying22 rfl rfl (fun h => hn (List.map_eq_nil_iff.1 h))) ?_
  refine AOps.nil ?_
  refine AWP.cond rfl (fun h => nomatch h) (fun _ => ?_)
  refine AWP.skip ?_
  refine AWP.seq ?_
  refine AWP.region ?_
  refine AOps.build0 103 rfl rfl rfl rfl et_22 rfl ?_
  refine AOps.step rfl rfl rfl (AOp.moveD rfl rfl) ?_
  -- append 7
  refine AOps.append rfl rfl rfl rfl et_22 rfl (.head _) rfl (fun y hy => by first | exact absurd hy List.not_mem_nil | (obtain ⟨x, _, rfl⟩ := List.mem_map.1 hy; rfl)) (by simp; try omega) (by simp; try omega) ?_
  refine AOps.step rfl rfl rfl (AOp.assignO rfl rfl) ?_
  refine AOps.nil ?_
  refine AWP.ret ?_
  refine ⟨103, rfl, mem_row_eq (.head _) ?_⟩
  first | rfl | simp

set_option maxRecDepth 100000 in
set_option maxHeartbeats 1000000 in
theorem c_clCarr (l : List Carr) (hl : l.length ≤ 1000000) : OCall Tryz.prog 29 [.sl (l.map Carr.ds)] 59 5 (l.map Carr.ds) := by
  refine ocall_of (n := 8) Tryz.func29 rfl (by kernel_rfl) rfl 2 rfl rfl ?_
  intro B w0 F0 fr
  refine (Classical.em (l = [])).elim (fun hn => ?_) (fun hn => ?_)
  subst hn
  refine AWP.nilOr 0 rfl ?_ (fun ad cap hcap => ?_)
  · skip
    refine AWP.seq ?_
    refine AWP.region ?_
    refine AOps.step rfl rfl rfl (AOp.assignD rfl rfl) ?_
    refine AOps.nil ?_
    refine AWP.seq ?_
    refine AWP.seq ?_
    refine AWP.region ?_
    refine AOps.step rfl rfl rfl (AOp.moveD rfl rfl) ?_
    refine AOps.step rfl rfl rfl (AOp.eqNilV rfl Tryz.underlying23 rfl rfl) ?_
    refine AOps.nil ?_
    refine AWP.cond rfl (fun _ => ?_) (fun h => nomatch h)
    refine AWP.seq ?_
    refine AWP.region ?_
    refine AOps.step rfl rfl rfl (AOp.assignD rfl rfl) ?_
    refine AOps.nil ?_
    refine AWP.adopt 2 51 59 5 rfl rfl ?_
    refine AWP.ret ?_
    refine ⟨51, rfl, mem_row_eq (.head _) ?_⟩
    first | rfl | simp
  · skip
    refine AWP.seq ?_
    refine AWP.region ?_
    refine AOps.step rfl rfl rfl (AOp.assignD rfl rfl) ?_
    refine AOps.nil ?_
    refine AWP.seq ?_
    refine AWP.seq ?_
    refine AWP.region ?_
    refine AOps.step rfl rfl rfl (AOp.moveD rfl rfl) ?_
    refine AOps.step rfl rfl rfl (AOp.eqNilV rfl Tryz.underlying23 rfl rfl) ?_
    refine AOps.nil ?_
    refine AWP.cond rfl (fun h => nomatch h) (fun _ => ?_)
    refine AWP.skip ?_
    refine AWP.seq ?_
    refine AWP.region ?_
    refine AOps.build0 102 rfl rfl rfl rfl et_23 rfl ?_
    refine AOps.step rfl rfl rfl (AOp.moveD rfl rfl) ?_
    refine AOps.le 6 rfl (SLe.d (Le.empty hcap)) ?_
    -- append 7
    refine AOps.append rfl rfl rfl rfl et_23 rfl (.head _) rfl (fun y hy => by first | exact absurd hy List.not_mem_nil | (obtain ⟨x, _, rfl⟩ := List.mem_map.1 hy; rfl)) (by simp; try omega) (by simp; try omega) ?_
    refine AOps.step rfl rfl rfl (AOp.assignO rfl rfl) ?_
    refine AOps.nil ?_
    refine AWP.ret ?_
    refine ⟨102, rfl, mem_row_eq (.head _) ?_⟩
    first | rfl | simp
  refine AWP.seq ?_
  refine AWP.region ?_
  refine AOps.step rfl rfl rfl (AOp.assignD rfl rfl) ?_
  refine AOps.nil ?_
  refine AWP.seq ?_
  refine AWP.seq ?_
  refine AWP.region ?_
  refine AOps.step rfl rfl rfl (AOp.moveD rfl rfl) ?_
  refine AOps.step rfl rfl rfl (AOp.eqNilS rfl Tryz.underlying23 rfl rfl (fun h => hn (List.map_eq_nil_iff.1 h))) ?_
  refine AOps.nil ?_
  refine AWP.cond rfl (fun h => nomatch h) (fun _ => ?_)
  refine AWP.skip ?_
  refine AWP.seq ?_
  refine AWP.region ?_
  refine AOps.build0 103 rfl rfl rfl rfl et_23 rfl ?_
  refine AOps.step rfl rfl rfl (AOp.moveD rfl rfl) ?_
  -- append 7
  refine AOps.append rfl rfl rfl rfl et_23 rfl (.head _) rfl (fun y hy => by first | exact absurd hy List.not_mem_nil | (obtain ⟨x, _, rfl⟩ := List.mem_map.1 hy; rfl)) (by simp; try omega) (by simp; try omega) ?_
  refine AOps.step rfl rfl rfl (AOp.assignO rfl rfl) ?_
  refine AOps.nil ?_
  refine AWP.ret ?_
  refine ⟨103, rfl, mem_row_eq (.head _) ?_⟩
  first | rfl | simp

set_option maxRecDepth 100000 in
set_option maxHeartbeats 1000000 in
theorem c_clCpy (l : List Cpy) (hl : l.length ≤ 1000000) : OCall Tryz.prog 87 [.sl (l.map Cpy.ds)] 65 7 (l.map Cpy.ds) := by
  refine ocall_of (n := 8) Tryz.func87 rfl (by kernel_rfl) rfl 2 rfl rfl ?_
  intro B w0 F0 fr
  refine (Classical.em (l = [])).elim (fun hn => ?_) (fun hn => ?_)
  subst hn
  refine AWP.nilOr 0 rfl ?_ (fun ad cap hcap => ?_)
  · skip
    refine AWP.seq ?_
    refine AWP.region ?_
    refine AOps.step rfl rfl rfl (AOp.assignD rfl rfl) ?_
    refine AOps.nil ?_
    refine AWP.seq ?_
    refine AWP.seq ?_
    refine AWP.region ?_
    refine AOps.step rfl rfl rfl (AOp.moveD rfl rfl) ?_
    refine AOps.step rfl rfl rfl (AOp.eqNilV rfl Tryz.underlying24 rfl rfl) ?_
    refine AOps.nil ?_
    refine AWP.cond rfl (fun _ => ?_) (fun h => nomatch h)
    refine AWP.seq ?_
    refine AWP.region ?_
    refine AOps.step rfl rfl rfl (AOp.assignD rfl rfl) ?_
    refine AOps.nil ?_
    refine AWP.adopt 2 51 65 7 rfl rfl ?_
    refine AWP.ret ?_
    refine ⟨51, rfl, mem_row_eq (.head _) ?_⟩
    first | rfl | simp
  · skip
    refine AWP.seq ?_
    refine AWP.region ?_
    refine AOps.step rfl rfl rfl (AOp.assignD rfl rfl) ?_
    refine AOps.nil ?_
    refine AWP.seq ?_
    refine AWP.seq ?_
    refine AWP.region ?_
    refine AOps.step rfl rfl rfl (AOp.moveD rfl rfl) ?_
    refine AOps.step rfl rfl rfl (AOp.eqNilV rfl Tryz.underlying24 rfl rfl) ?_
    refine AOps.nil ?_
    refine AWP.cond rfl (fun h => nomatch h) (fun _ => ?_)
    refine AWP.skip ?_
    refine AWP.seq ?_
    refine AWP.region ?_
    refine AOps.build0 102 rfl rfl rfl rfl et_24 rfl ?_
    refine AOps.step rfl rfl rfl (AOp.moveD rfl rfl) ?_
    refine AOps.le 6 rfl (SLe.d (Le.empty hcap)) ?_
    -- append 7
    refine AOps.append rfl rfl rfl rfl et_24 rfl (.head _) rfl (fun y hy => by first | exact absurd hy List.not_mem_nil | (obtain ⟨x, _, rfl⟩ := List.mem_map.1 hy; rfl)) (by simp; try omega) (by simp; try omega) ?_
    refine AOps.step rfl rfl rfl (AOp.assignO rfl rfl) ?_
    refine AOps.nil ?_
    refine AWP.ret ?_
    refine ⟨102, rfl, mem_row_eq (.head _) ?_⟩
    first | rfl | simp
  refine AWP.seq ?_
  refine AWP.region ?_
  refine AOps.step rfl rfl rfl (AOp.assignD rfl rfl) ?_
  refine AOps.nil ?_
  refine AWP.seq ?_
  refine AWP.seq ?_
  refine AWP.region ?_
  refine AOps.step rfl rfl rfl (AOp.moveD rfl rfl) ?_
  refine AOps.step rfl rfl rfl (AOp.eqNilS rfl Tryz.underlying24 rfl rfl (fun h => hn (List.map_eq_nil_iff.1 h))) ?_
  refine AOps.nil ?_
  refine AWP.cond rfl (fun h => nomatch h) (fun _ => ?_)
  refine AWP.skip ?_
  refine AWP.seq ?_
  refine AWP.region ?_
  refine AOps.build0 103 rfl rfl rfl rfl et_24 rfl ?_
  refine AOps.step rfl rfl rfl (AOp.moveD rfl rfl) ?_
  -- append 7
  refine AOps.append rfl rfl rfl rfl et_24 rfl (.head _) rfl (fun y hy => by first | exact absurd hy List.not_mem_nil | (obtain ⟨x, _, rfl⟩ := List.mem_map.1 hy; rfl)) (by simp; try omega) (by simp; try omega) ?_
  refine AOps.step rfl rfl rfl (AOp.assignO rfl rfl) ?_
  refine AOps.nil ?_
  refine AWP.ret ?_
  refine ⟨103, rfl, mem_row_eq (.head _) ?_⟩
  first | rfl | simp

set_option maxRecDepth 100000 in
set_option maxHeartbeats 1000000 in
theorem c_clInt (l : List Int) (hl : l.length ≤ 1000000) : OCall Tryz.prog 88 [.sl (l.map intD)] 3 1 (l.map intD) := by
  refine ocall_of (n := 8) Tryz.func88 rfl (by kernel_rfl) rfl 2 rfl rfl ?_
  intro B w0 F0 fr
  refine (Classical.em (l = [])).elim (fun hn => ?_) (fun hn => ?_)
  subst hn
  refine AWP.nilOr 0 rfl ?_ (fun ad cap hcap => ?_)
  · skip
    refine AWP.seq ?_
    refine AWP.region ?_
    refine AOps.step rfl rfl rfl (AOp.assignD rfl rfl) ?_
    refine AOps.nil ?_
    refine AWP.seq ?_
    refine AWP.seq ?_
    refine AWP.region ?_
    refine AOps.step rfl rfl rfl (AOp.moveD rfl rfl) ?_
    refine AOps.step rfl rfl rfl (AOp.eqNilV rfl Tryz.underlying63 rfl rfl) ?_
    refine AOps.nil ?_
    refine AWP.cond rfl (fun _ => ?_) (fun h => nomatch h)
    refine AWP.seq ?_
    refine AWP.region ?_
    refine AOps.step rfl rfl rfl (AOp.assignD rfl rfl) ?_
    refine AOps.nil ?_
    refine AWP.adopt 2 51 3 1 rfl rfl ?_
    refine AWP.ret ?_
    refine ⟨51, rfl, mem_row_eq (.head _) ?_⟩
    first | rfl | simp
  · skip
    refine AWP.seq ?_
    refine AWP.region ?_
    refine AOps.step rfl rfl rfl (AOp.assignD rfl rfl) ?_
    refine AOps.nil ?_
    refine AWP.seq ?_
    refine AWP.seq ?_
    refine AWP.region ?_
    refine AOps.step rfl rfl rfl (AOp.moveD rfl rfl) ?_
    refine AOps.step rfl rfl rfl (AOp.eqNilV rfl Tryz.underlying63 rfl rfl) ?_
    refine AOps.nil ?_
    refine AWP.cond rfl (fun h => nomatch h) (fun _ => ?_)
    refine AWP.skip ?_
    refine AWP.seq ?_
    refine AWP.region ?_
    refine AOps.build0 102 rfl rfl rfl rfl et_63 rfl ?_
    refine AOps.step rfl rfl rfl (AOp.moveD rfl rfl) ?_
    refine AOps.le 6 rfl (SLe.d (Le.empty hcap)) ?_
    -- append 7
    refine AOps.append rfl rfl rfl rfl et_63 rfl (.head _) rfl (fun y hy => by first | exact absurd hy List.not_mem_nil | (obtain ⟨x, _, rfl⟩ := List.mem_map.1 hy; rfl)) (by simp; try omega) (by simp; try omega) ?_
    refine AOps.step rfl rfl rfl (AOp.assignO rfl rfl) ?_
    refine AOps.nil ?_
    refine AWP.ret ?_
    refine ⟨102, rfl, mem_row_eq (.head _) ?_⟩
    first | rfl | simp
  refine AWP.seq ?_
  refine AWP.region ?_
  refine AOps.step rfl rfl rfl (AOp.assignD rfl rfl) ?_
  refine AOps.nil ?_
  refine AWP.seq ?_
  refine AWP.seq ?_
  refine AWP.region ?_
  refine AOps.step rfl rfl rfl (AOp.moveD rfl rfl) ?_
  refine AOps.step rfl rfl rfl (AOp.eqNilS rfl Tryz.underlying63 rfl rfl (fun h => hn (List.map_eq_nil_iff.1 h))) ?_
  refine AOps.nil ?_
  refine AWP.cond rfl (fun h => nomatch h) (fun _ => ?_)
  refine AWP.skip ?_
  refine AWP.seq ?_
  refine AWP.region ?_
  refine AOps.build0 103 rfl rfl rfl rfl et_63 rfl ?_
  refine AOps.step rfl rfl rfl (AOp.moveD rfl rfl) ?_
  -- append 7
  refine AOps.append rfl rfl rfl rfl et_63 rfl (.head _) rfl (fun y hy => by first | exact absurd hy List.not_mem_nil | (obtain ⟨x, _, rfl⟩ := List.mem_map.1 hy; rfl)) (by simp; try omega) (by simp; try omega) ?_
  refine AOps.step rfl rfl rfl (AOp.assignO rfl rfl) ?_
  refine AOps.nil ?_
  refine AWP.ret ?_
  refine ⟨103, rfl, mem_row_eq (.head _) ?_⟩
  first | rfl | simp


theorem killSelf (i : Nat) : S.kill i (.own i) = .d .any := by simp [S.kill]
theorem killP' {i t off : Nat} (h : t ≠ i) : S.kill i (.ptr t off) = .ptr t off := by simp only [S.kill, beqF h]
theorem killO' {i t : Nat} (h : t ≠ i) : S.kill i (.own t) = .own t := by simp only [S.kill, beqF h]
theorem mem_upd_ne {i : Nat} {o : Ob} : ∀ {σ : Obs} {p : Nat × Ob}, p ∈ σ → p.1 ≠ i → p ∈ Obs.upd i o σ
  | [], _, h, _ => by cases h
  | q :: l, p, h, hn => by
    cases hb : Nat.beq q.1 i with
    | true =>
      rw [upd_t hb]
      rcases List.mem_cons.1 h with rfl | h
      · exact absurd (Nat.eq_of_beq_eq_true hb) hn
      · exact .tail _ (mem_upd_ne h hn)
    | false =>
      rw [upd_f hb]
      rcases List.mem_cons.1 h with rfl | h
      · exact .head _
      · exact .tail _ (mem_upd_ne h hn)
theorem mem_upd_eq {i : Nat} {o x : Ob} : ∀ {σ : Obs}, (i, x) ∈ σ → (i, o) ∈ Obs.upd i o σ
  | [], h => by cases h
  | q :: l, h => by
    cases hb : Nat.beq q.1 i with
    | true => rw [upd_t hb]; exact .head _
    | false =>
      rw [upd_f hb]
      rcases List.mem_cons.1 h with rfl | h
      · simp at hb
      · exact .tail _ (mem_upd_eq h)
theorem XRun.set {cx : Cx} {ops : Array Oper} {σ : Obs} {Φ : List Fr} {l : List Oper} {e : Env} {Qe : Env → Prop} (t : Nat) {s : S} (ht : e t = s) (k : XRun cx ops σ Φ l (e.put (some t) s) Qe) : XRun cx ops σ Φ l e Qe := by
  have : e.put (some t) s = e := by
    funext u
    by_cases hu : u = t
    · subst hu; rw [Env.put_same, ht]
    · rw [Env.put_other _ _ _ _ hu]
  rw [this] at k
  exact k
/-- The copies as cells, where the first k have their own damaged blocks. -/
def mixS : Nat → Nat → List Cpy → List (List S)
  | _, 0, l => l.map fun c => c.ds.map S.d
  | _, _ + 1, [] => []
  | b, k + 1, c :: l => cpyS b c :: mixS (b + 1) k l
theorem mixS_len : ∀ (b k : Nat) (l : List Cpy), (mixS b k l).length = l.length
  | _, 0, l => by simp [mixS]
  | _, _ + 1, [] => rfl
  | b, k + 1, c :: l => by simp [mixS, mixS_len (b + 1) k l]
theorem mixS_at : ∀ {b k : Nat} {l : List Cpy} (h : k < l.length), (mixS b k l)[k]? = some (l[k].ds.map S.d)
  | b, 0, l, h => by simp [mixS, h]
  | b, k + 1, c :: l, h => by
    have := mixS_at (b := b + 1) (k := k) (l := l) (by simpa using h)
    simpa [mixS] using this
theorem mixS_set : ∀ {b k : Nat} {l : List Cpy} (h : k < l.length), (mixS b k l).set k ((l[k].ds.map S.d).set 6 (.own (b + k))) = mixS b (k + 1) l
  | b, 0, c :: l, h => by simp [mixS, Cpy.ds, cpyS]
  | b, k + 1, c :: l, h => by
    have := mixS_set (b := b + 1) (k := k) (l := l) (by simpa using h)
    rw [show b + 1 + k = b + (k + 1) by omega] at this
    simp only [mixS, List.set_cons_succ, List.getElem_cons_succ]
    rw [this]
theorem mixS_all : ∀ (b : Nat) (l : List Cpy), mixS b l.length l = cpysS b l
  | _, [] => rfl
  | b, c :: l => by simp [mixS, cpysS, mixS_all (b + 1) l]
theorem data_kill (i : Nat) (l : List Cpy) : (l.map fun c => c.ds.map S.d).map (fun ss => ss.map (S.kill i)) = l.map fun c => c.ds.map S.d := by
  rw [List.map_map]
  congr 1
theorem mixS_kill : ∀ {b k i : Nat} {l : List Cpy}, b + k ≤ i → (mixS b k l).map (fun ss => ss.map (S.kill i)) = mixS b k l
  | b, 0, i, l, _ => data_kill i l
  | b, k + 1, i, [], _ => rfl
  | b, k + 1, i, c :: l, h => by
    have ih := mixS_kill (b := b + 1) (k := k) (i := i) (l := l) (by omega)
    have h1 : Nat.beq b i = false := beqF (by omega)
    simp only [mixS, List.map_cons, ih]
    simp [cpyS, S.kill, h1]
theorem fam_snoc {e size : Nat} : ∀ {b : Nat} {l : List (List (List D))} {x : List (List D)}, fam e size b (l ++ [x]) = fam e size b l ++ [(b + l.length, .row e size x)]
  | b, [], x => rfl
  | b, y :: l, x => by
    have := fam_snoc (e := e) (size := size) (b := b + 1) (l := l) (x := x)
    rw [List.cons_append]
    unfold fam
    rw [this, List.length_cons, show b + 1 + l.length = b + (l.length + 1) by omega]
    rfl
theorem badsD_take {l : List Cpy} {k : Nat} (h : k < l.length) : badsD (l.take (k + 1)) = badsD (l.take k) ++ [l[k].bad.map intD] := by
  unfold badsD
  rw [List.take_add_one, List.getElem?_eq_getElem h, Option.toList_some, List.map_append]
  rfl
theorem badsD_len (l : List Cpy) : (badsD l).length = l.length := by simp [badsD]
def ZV : List S := [.d (.v (.slice none 0 0)), .d (.v (.slice none 0 0)), .d (.v (.slice none 0 0))]
/-- The objects while the k-th copy is being cloned. -/
def ownObs (v : Vlt) (k : Nat) : Obs := [(12, .cells ZV), (11, .cells (vaultS v)), (101, .rowS 65 7 (mixS 1000 k v.copies))] ++ fam 3 1 1000 (badsD (v.copies.take k))
theorem fam_fresh2 {e size : Nat} : ∀ {b : Nat} {l : List (List (List D))} {i : Nat}, b + l.length ≤ i → Obs.fresh i (fam e size b l) = true
  | _, [], _, _ => rfl
  | b, y :: l, i, h => by
    have h1 : Nat.beq b i = false := beqF (by simp at h; omega)
    unfold fam Obs.fresh
    rw [h1, fam_fresh2 (b := b + 1) (by simp at h; omega)]
    rfl
theorem own_fresh {v : Vlt} {k : Nat} (h : k < v.copies.length) : Obs.fresh (1000 + k) (ownObs v k) = true := by
  unfold ownObs
  rw [fresh_app, fam_fresh2 (by rw [badsD_len, List.length_take]; omega)]
  simp [Obs.fresh, beqF (show 12 ≠ 1000 + k by omega), beqF (show 11 ≠ 1000 + k by omega), beqF (show 101 ≠ 1000 + k by omega)]
theorem own_kill {v : Vlt} {k : Nat} : Obs.kill (1000 + k) (ownObs v k) = ownObs v k := by
  unfold ownObs
  rw [kill_app, fam_kill]
  have h1 : S.kill (1000 + k) (.own 101) = .own 101 := killO' (by omega)
  show [(12, Ob.cells ((ZV).map (S.kill (1000 + k)))), (11, Ob.cells ((vaultS v).map (S.kill (1000 + k)))), (101, Ob.rowS _ 7 ((mixS 1000 k v.copies).map fun ss => ss.map (S.kill (1000 + k))))] ++ _ = _
  rw [mixS_kill (Nat.le_refl _)]
  have h2 : (vaultS v).map (S.kill (1000 + k)) = vaultS v := by
    show [_, _, S.kill (1000 + k) (.own 101)] = _
    rw [h1]; rfl
  rw [h2]
  rfl
/-- .. and behind it. -/
theorem own_next {v : Vlt} {k : Nat} (h : k < v.copies.length) : ∀ p ∈ ownObs v (k + 1), p ∈ Obs.upd 101 (.rowS 65 7 ((mixS 1000 k v.copies).set k ((v.copies[k].ds.map S.d).set 6 (.own (1000 + k))))) ([(1000 + k, .row 3 1 (v.copies[k].bad.map intD))] ++ ownObs v k) := by
  intro p hp
  rw [mixS_set h]
  unfold ownObs at hp
  rw [badsD_take h, fam_snoc, badsD_len, List.length_take, Nat.min_eq_left (by omega)] at hp
  rcases List.mem_append.1 hp with hp | hp
  · rcases List.mem_cons.1 hp with rfl | hp
    · exact mem_upd_ne (List.mem_append_right _ (List.mem_append_left _ (.head _))) (by show 12 ≠ 101; decide)
    · rcases List.mem_cons.1 hp with rfl | hp
      · exact mem_upd_ne (List.mem_append_right _ (List.mem_append_left _ (.tail _ (.head _)))) (by show 11 ≠ 101; decide)
      · have hp : p = _ := List.mem_singleton.1 hp
        subst hp
        exact mem_upd_eq (List.mem_append_right _ (List.mem_append_left _ (.tail _ (.tail _ (.head _)))))
  · rcases List.mem_append.1 hp with hp | hp
    · refine mem_upd_ne (List.mem_append_right _ (List.mem_append_right _ hp)) ?_
      obtain ⟨m, x, _, rfl⟩ := fam_mem hp
      show 1000 + m ≠ 101
      omega
    · have hp : p = _ := List.mem_singleton.1 hp
      subst hp
      exact mem_upd_ne (List.mem_append_left _ (.head _)) (by show 1000 + k ≠ 101; omega)
theorem own_end {v : Vlt} : ownObs v v.copies.length = [(12, .cells ZV), (11, .cells (vaultS v))] ++ vObs v.copies := by
  unfold ownObs vObs famC
  rw [mixS_all, List.take_length]
  rfl
theorem hsz_26 : ∀ w, (sizeOf 26).run Tryz.prog w = .ok 3 w := SizeT.of (by kernel_rfl)



set_option maxRecDepth 100000 in
set_option maxHeartbeats 1000000 in
set_option maxRecDepth 20000 in
set_option maxHeartbeats 2000000 in
theorem c_own (v : Vlt) (vo : VOk v) : XSCall Tryz.prog 36 [.d (.agg v.ds)] [] ((100, .val (vaultS v)) :: vObs v.copies) (fun i => Nat.ble 1000 i || Nat.blt i 102) (.own 100) := by
  have hni := vo.ni
  have hnc := vo.nc
  have hnp := vo.np
  have hfx : ∀ k, (!(!(Nat.ble 1000 (1000 + k) || Nat.blt (1000 + k) 102))) = true := fun k => by
    have : Nat.ble 1000 (1000 + k) = true := Nat.ble_eq_true_of_le (by omega)
    rw [this]; rfl
  refine xval_of (n := 36) (b := 2) (t := 26) (size := 3) (vid := 100) (ss' := vaultS v) Tryz.func36 rfl (by kernel_rfl) rfl rfl hag_v rfl rfl rfl ?_
  intro B w0 F0 fr ρ0
  refine AWP.seq ?_
  refine AWP.region ?_
  refine AOps.boxOwn 11 rfl rfl rfl rfl rfl rfl rfl ?_
  refine AOps.alloc 12 rfl rfl rfl rfl zt_26 rfl rfl rfl ?_
  refine AOps.nil ?_
  refine AWP.seq ?_
  refine AWP.drawFresh 10 [⟨12, 101, .own 101, .row 65 7 (v.copies.map Cpy.ds)⟩] (FrOk.one rfl (by simp) rfl rfl rfl) (by kernel_rfl) (by kernel_rfl) (by kernel_rfl) (by kernel_rfl) ?_
  refine XRun.step rfl rfl rfl (AOp.fieldAddrP rfl fo_26_0 rfl) ?_
  refine XRun.step rfl rfl rfl (AOp.loadP rfl sc_22 rfl (.tail _ (.head _)) rfl) ?_
  refine XRun.step rfl rfl rfl (AOp.call rfl (.cons (ArgOk.rfl' rfl) .nil) ((c_clItem v.items (by omega)).toA)) ?_
  refine XRun.step rfl rfl rfl (AOp.fieldAddrP rfl fo_26_1 rfl) ?_
  refine XRun.step rfl rfl rfl (AOp.loadP rfl sc_23 rfl (.tail _ (.head _)) rfl) ?_
  refine XRun.step rfl rfl rfl (AOp.call rfl (.cons (ArgOk.rfl' rfl) .nil) ((c_clCarr v.carrs (by omega)).toA)) ?_
  refine XRun.step rfl rfl rfl (AOp.fieldAddrP rfl fo_26_2 rfl) ?_
  refine XRun.step rfl rfl rfl (AOp.loadP rfl sc_24 rfl (.tail _ (.head _)) rfl) ?_
  refine XRun.callO _ (.head _) rfl rfl rfl rfl rfl (.cons (ArgOk.rfl' rfl) .nil) (c_clCpy v.copies (by omega)) rfl rfl ?_
  refine XRun.step rfl rfl rfl (AOp.fieldAddrP rfl fo_26_0 rfl) ?_
  refine XRun.nil ⟨rfl, trivial⟩ ?_
  refine AOps.store rfl rfl rfl sz_22 rfl (.tail _ (.tail _ (.head _))) rfl rfl rfl (Nat.le_of_ble_eq_true rfl) ?_
  refine AOps.step rfl rfl rfl (AOp.fieldAddrP rfl fo_26_1 rfl) ?_
  refine AOps.store rfl rfl rfl sz_23 rfl (.tail _ (.tail _ (.head _))) rfl rfl rfl (Nat.le_of_ble_eq_true rfl) ?_
  refine AOps.step rfl rfl rfl (AOp.fieldAddrP rfl fo_26_2 rfl) ?_
  refine AOps.storeS rfl rfl rfl sz_24 rfl (.tail _ (.tail _ (.head _))) rfl (.head _) (Nat.le_of_ble_eq_true rfl) ?_
  refine AOps.nil ?_
  refine AWP.seq ?_
  refine AWP.seq ?_
  refine AWP.rowToS 101 (ee := 65) (size := 7) (els := v.copies.map Cpy.ds) (by first | exact .head _ | exact .tail _ (.head _) | exact .tail _ (.tail _ (.head _))) ?_
  refine AWP.obs (σ' := ownObs v 0) (fun p hp => ?_) ?_
  · have hr : (v.copies.map Cpy.ds).map (fun ds => ds.map S.d) = mixS 1000 0 v.copies := by simp [mixS]
    rw [hr]
    rcases List.mem_cons.1 hp with rfl | hp
    · first | exact .head _ | exact .tail _ (.head _) | exact .tail _ (.tail _ (.head _))
    rcases List.mem_cons.1 hp with rfl | hp
    · first | exact .head _ | exact .tail _ (.head _) | exact .tail _ (.tail _ (.head _))
    have hp : p = _ := List.mem_singleton.1 hp
    subst hp
    first | exact .head _ | exact .tail _ (.head _) | exact .tail _ (.tail _ (.head _))
  refine AWP.region ?_
  refine AOps.step rfl rfl rfl (AOp.fieldAddrP rfl fo_26_2 rfl) ?_
  refine AOps.step rfl rfl rfl (AOp.loadP rfl sc_24 rfl (.tail _ (.head _)) rfl) ?_
  refine AOps.step rfl rfl rfl (AOp.weak (AOp.lenOwn rfl het_24.ht rfl (Obs.weak_mem (p := (101, _)) (.tail _ (.tail _ (.head _)))))) ?_
  refine AOps.step rfl rfl rfl (AOp.moveD rfl rfl) ?_
  refine AOps.nil ?_
  refine AWP.block ?_
  refine AWP.loop (G := Nat) (fun k => Env.of [(19, .d (.v (.int .i64 (k : Int)))), (18, .d (.v (.int .i64 (((mixS 1000 0 v.copies).map fun ss => ss.map S.weak).length : Int)))), (1, .ptr 11 0), (2, .ptr 12 0)]) (fun k => ownObs v k) (fun k => k ≤ v.copies.length) (fun k => v.copies.length - k) 0 (Nat.zero_le _) (Sub.less ⟨(SLe.of_eq rfl), SLe.refl _, SLe.refl _, SLe.refl _, trivial⟩ (fun _ h => h)) ?_
  intro k hk
  refine AWP.seq ?_
  refine AWP.region ?_
  refine AOps.step rfl rfl rfl (AOp.lss rfl rfl rfl) ?_
  refine AOps.nil ?_
  refine AWP.seq ?_
  refine AWP.cond rfl (fun h1 => ?_) (fun h1 => ?_)
  · replace h1 := of_decide_eq_true h1
    rw [List.length_map, mixS_len] at h1
    have hlt : k < v.copies.length := by omega
    have hbk := vok_bad (v := v) vo _ (List.getElem_mem hlt)
    refine AWP.skip ?_
    refine AWP.seq ?_
    refine AWP.block ?_
    refine AWP.seq ?_
    refine AWP.region ?_
    refine AOps.step rfl rfl rfl (AOp.moveD rfl rfl) ?_
    refine AOps.step rfl rfl rfl (AOp.assignD rfl rfl) ?_
    refine AOps.nil ?_
    refine AWP.drawFresh 10 [⟨31, 1000 + k, .own (1000 + k), .row 3 1 (v.copies[k].bad.map intD)⟩] (FrOk.one (killSelf _) (by simp) (own_fresh hlt) own_kill (hfx k)) (by kernel_rfl) (by kernel_rfl) (by kernel_rfl) (by kernel_rfl) ?_
    refine XRun.set 1 (s := .ptr 11 0) (killP' (i := 1000 + k) (t := 11) (off := 0) (by omega)) ?_
    refine XRun.set 2 (s := .ptr 12 0) (killP' (i := 1000 + k) (t := 12) (off := 0) (by omega)) ?_
    refine XRun.step rfl rfl rfl (AOp.fieldAddrP rfl hfo_v2 rfl) ?_ rfl ⟨.inl (killP' (i := 1000 + k) (t := 11) (by omega)), trivial⟩
    refine XRun.step rfl rfl rfl (AOp.loadP (s := .own 101) rfl hsc_24 rfl (.tail _ (.head _)) rfl) ?_ rfl ⟨.inl (killO' (i := 1000 + k) (t := 101) (by omega)), trivial⟩
    refine XRun.step rfl rfl rfl (AOp.moveD rfl rfl) ?_ rfl ⟨.inl (rfl), trivial⟩
    refine XRun.step rfl rfl rfl (AOp.fieldAddrP rfl hfo_v2 rfl) ?_ rfl ⟨.inl (killP' (i := 1000 + k) (t := 11) (by omega)), trivial⟩
    refine XRun.step rfl rfl rfl (AOp.loadP (s := .own 101) rfl hsc_24 rfl (.tail _ (.head _)) rfl) ?_ rfl ⟨.inl (killO' (i := 1000 + k) (t := 101) (by omega)), trivial⟩
    refine XRun.step rfl rfl rfl (AOp.moveD rfl rfl) ?_ rfl ⟨.inl (rfl), trivial⟩
    refine XRun.step rfl rfl rfl (AOp.weak (AOp.indexOwn rfl het_24 rfl rfl (Obs.weak_mem (p := (101, _)) (.tail _ (.tail _ (.head _)))) k rfl (by rw [List.length_map, mixS_len]; exact hlt))) ?_ rfl ⟨.inl (killP' (i := 1000 + k) (t := 101) (by omega)), trivial⟩
    refine XRun.step rfl rfl rfl (AOp.fieldAddrP rfl hfo_c6 rfl) ?_ rfl ⟨.inl (killP' (i := 1000 + k) (t := 101) (by omega)), trivial⟩
    refine XRun.step rfl rfl rfl (AOp.loadRowS (s := .d (.sl (v.copies[k].bad.map intD))) rfl hsc_75 rfl (.tail _ (.tail _ (.head _))) k 6 rfl (mixS_at hlt) rfl) ?_ rfl ⟨.inl (rfl), trivial⟩
    refine XRun.callO _ (.head _) rfl rfl rfl rfl rfl (.cons (ArgOk.rfl' rfl) .nil) (c_clInt v.copies[k].bad (by omega)) rfl rfl ?_ (hfx k)
    refine XRun.nil ⟨rfl, trivial⟩ ?_
    refine AOps.step rfl rfl rfl (AOp.weak (AOp.indexOwn rfl het_24 rfl rfl (Obs.weak_mem (p := (101, _)) (.tail _ (.tail _ (.tail _ (.head _))))) k rfl (by rw [List.length_map, mixS_len]; exact hlt))) ?_
    refine AOps.step rfl rfl rfl (AOp.fieldAddrP rfl hfo_c6 rfl) ?_
    refine AOps.eff rfl rfl (EOp.storeRowS (s := .own (1000 + k)) rfl rfl hsz_75 rfl (.tail _ (.tail _ (.tail _ (.head _)))) rfl (.own (.head _)) k 6 rfl (mixS_at hlt) (by decide)) ?_
    refine AOps.obs (own_next hlt) ?_
    refine AOps.nil ?_
    refine AWP.region ?_
    refine AOps.step rfl rfl rfl (AOp.add64 rfl rfl rfl (by omega) (by omega)) ?_
    refine AOps.step rfl rfl rfl (AOp.moveD rfl rfl) ?_
    refine AOps.nil ?_
    refine ⟨k + 1, (by omega), (by dsimp only; omega), Sub.less ⟨(SLe.of_eq rfl), SLe.refl _, SLe.refl _, SLe.refl _, trivial⟩ (fun _ h => h)⟩
  replace h1 := of_decide_eq_false h1
  rw [List.length_map, mixS_len] at h1
  obtain rfl : k = v.copies.length := by omega
  refine AWP.exit ?_
  refine AWP.seq ?_
  rw [own_end]
  refine AWP.region ?_
  refine AOps.loadVal 13 rfl rfl rfl rfl hag_v rfl (.tail _ (.head _)) (Nat.le_refl 3) (fK rfl rfl) ?_
  refine AOps.nK rfl ?_
  refine AOps.eff rfl rfl (EOp.storeVal (ss' := vaultS v) rfl rfl hsz_26 rfl (.tail _ (.head _)) rfl (.head _) rfl (Nat.le_refl 3)) ?_
  refine AOps.nU rfl ?_
  refine AOps.nil ?_
  refine AWP.ret ?_
  refine ⟨⟨12, vaultS v, rfl, .tail _ (.head _), rfl, vObs_fresh (by omega), vObs_kill (by omega)⟩, AllIn.of fun p hp => .tail _ (.tail _ (.tail _ hp))⟩

end Go.Proofs.YtieccphckobhjaaGreatDoor


namespace Go.Proofs.YtieccphckobhjaaGreatDoor
open Go.RowKit
set_option linter.unusedVariables false

/-! Types. -/
namespace TyQ4
theorem ag_26 : AggT Tryz.prog 26 3 := .of (by kernel_rfl)
theorem ag_97 : AggT Tryz.prog 97 4 := .of (by kernel_rfl)
theorem et_22 : ElemTy Tryz.prog 22 62 2 24 (.agg #[(.string ⟨#[]⟩), (.int .i64 0)]) := ⟨by kernel_rfl, by kernel_rfl, by kernel_rfl, by decide⟩
theorem et_41 : ElemTy Tryz.prog 41 97 4 48 (.agg #[(.int .i64 0), (.string ⟨#[]⟩), (.string ⟨#[]⟩), (.int .i64 0)]) := ⟨by kernel_rfl, by kernel_rfl, by kernel_rfl, by decide⟩
theorem fo_26_0 : fieldOff Tryz.prog 26 0 = some 0 := by kernel_rfl
theorem fo_62_1 : fieldOff Tryz.prog 62 1 = some 1 := by kernel_rfl
theorem fo_97_0 : fieldOff Tryz.prog 97 0 = some 0 := by kernel_rfl
theorem fo_97_1 : fieldOff Tryz.prog 97 1 = some 1 := by kernel_rfl
theorem fo_97_2 : fieldOff Tryz.prog 97 2 = some 2 := by kernel_rfl
theorem fo_97_3 : fieldOff Tryz.prog 97 3 = some 3 := by kernel_rfl
theorem sc_22 : Scal Tryz.prog 22 := .of (by kernel_rfl)
theorem sc_3 : Scal Tryz.prog 3 := .of (by kernel_rfl)
theorem sc_9 : Scal Tryz.prog 9 := .of (by kernel_rfl)
theorem sz_97 : ∀ w, (sizeOf 97).run Tryz.prog w = .ok 4 w := SizeT.of (by kernel_rfl)
theorem zt_97 : (Tryz.prog.info? 97).bind (·.zero) = some (.agg #[(.int .i64 0), (.string ⟨#[]⟩), (.string ⟨#[]⟩), (.int .i64 0)]) := by kernel_rfl
end TyQ4
open TyQ4


theorem harms_hit {v : Vlt} {frm to : Int} {hs : List Hrm} {k : Nat} {c : Int} (hl : ¬ 1000 < (hs.length : Int)) (hk : k < hs.length) (h : ffst (harmFault v frm to hs) k = 0) (hf : harmFault v frm to hs k = c) (hc : c ≠ 0) : harmsFault v frm to hs = c := by
  unfold harmsFault
  rw [if_neg hl, ffst_hit h (by rw [hf]; exact hc) _ hk, hf]


set_option maxRecDepth 100000 in
set_option maxHeartbeats 1000000 in
theorem c_checkHarms (v : Vlt) (frm to : Int) (hs : List Hrm) (hv : okItems v) (hft : 0 ≤ frm ∧ frm ≤ to ∧ to ≤ 200001) : ACall Tryz.prog 47 [.agg v.ds, .v (.int .i64 frm), .v (.int .i64 to), .sl (hs.map Hrm.ds)] (.v (.int .i64 (harmsFault v frm to hs))) := by
  refine acall_of (n := 71) (ds' := [.v (.int .i64 (harmsFault v frm to hs))]) Tryz.func47 rfl (by kernel_rfl) rfl [8] rfl rfl ?_
  intro B w0 F0 fr
  refine AWP.bound 3 rfl (fun hbd3 => ?_)
  rw [List.length_map] at hbd3
  refine AWP.seq ?_
  refine AWP.region ?_
  refine AOps.step rfl rfl rfl (AOp.box rfl rfl rfl) ?_
  refine AOps.step rfl rfl rfl (AOp.assignD rfl rfl) ?_
  refine AOps.nil ?_
  refine AWP.seq ?_
  refine AWP.seq ?_
  refine AWP.region ?_
  refine AOps.step rfl rfl rfl (AOp.moveD rfl rfl) ?_
  refine AOps.step rfl rfl rfl (AOp.lenSl rfl et_41.ht rfl) ?_
  refine AOps.step rfl rfl rfl (AOp.gtr rfl rfl rfl) ?_
  refine AOps.nil ?_
  refine AWP.cond rfl (fun h1 => ?_) (fun h1 => ?_)
  · replace h1 := of_decide_eq_true h1
    rw [List.length_map] at h1
    have HF : harmsFault v frm to hs = 2 := if_pos h1
    refine AWP.seq ?_
    refine AWP.region ?_
    refine AOps.step rfl rfl rfl (AOp.assignD rfl rfl) ?_
    refine AOps.nil ?_
    refine AWP.ret ?_
    refine ⟨RetD.eq rfl ?_, trivial⟩
    all_goals (rw [HF])
  replace h1 := of_decide_eq_false h1
  rw [List.length_map] at h1
  have hL : ¬ 1000 < (hs.length : Int) := h1
  refine AWP.skip ?_
  refine AWP.seq ?_
  refine AWP.seq ?_
  refine AWP.region ?_
  refine AOps.step rfl rfl rfl (AOp.moveD rfl rfl) ?_
  refine AOps.step rfl rfl rfl (AOp.lenSl rfl et_41.ht rfl) ?_
  refine AOps.step rfl rfl rfl (AOp.moveD rfl rfl) ?_
  refine AOps.nil ?_
  refine AWP.block ?_
  refine AWP.loop (G := Nat) (fun k => Env.of [(17, .d (.v (.int .i64 (k : Int)))), (15, .d (.sl (hs.map Hrm.ds))), (16, .d (.v (.int .i64 ((hs.map Hrm.ds).length : Int)))), (4, .d (.fp v.ds)), (1, .d (.v (.int .i64 frm))), (2, .d (.v (.int .i64 to))), (3, .d (.sl (hs.map Hrm.ds)))]) (fun k => []) (fun k => k ≤ hs.length ∧ ffst (harmFault v frm to hs) k = 0) (fun k => hs.length - k) 0 ⟨Nat.zero_le _, rfl⟩ (Sub.less ⟨(SLe.of_eq rfl), SLe.refl _, SLe.refl _, SLe.refl _, SLe.refl _, SLe.refl _, SLe.refl _, trivial⟩ (fun _ h => h)) ?_
  intro k hk
  refine AWP.seq ?_
  refine AWP.region ?_
  refine AOps.step rfl rfl rfl (AOp.lss rfl rfl rfl) ?_
  refine AOps.nil ?_
  refine AWP.seq ?_
  refine AWP.cond rfl (fun h2 => ?_) (fun h2 => ?_)
  · replace h2 := of_decide_eq_true h2
    rw [List.length_map] at h2
    have hlt : k < hs.length := by omega
    refine AWP.skip ?_
    refine AWP.seq ?_
    refine AWP.block ?_
    refine AWP.seq ?_
    refine AWP.region ?_
    refine AOps.step rfl rfl rfl (AOp.moveD rfl rfl) ?_
    refine AOps.step rfl rfl rfl (AOp.indexAddr rfl et_41 rfl rfl k rfl (at_list hlt) rfl) ?_
    refine AOps.step rfl rfl rfl (AOp.loadAgg rfl ag_97 rfl rfl) ?_
    refine AOps.alloc 101 rfl rfl rfl rfl zt_97 rfl rfl rfl ?_
    refine AOps.step rfl rfl rfl (AOp.assignD rfl rfl) ?_
    refine AOps.store rfl rfl rfl sz_97 rfl (.head _) rfl rfl rfl (Nat.le_of_ble_eq_true rfl) ?_
    refine AOps.freezeCells 10 (ds := hs[k].ds) rfl (.head _) ?_
    refine AOps.nil ?_
    refine AWP.seq ?_
    refine AWP.region ?_
    refine AOps.step rfl rfl rfl (AOp.loadAgg rfl ag_26 rfl rfl) ?_
    refine AOps.step rfl rfl rfl (AOp.fieldAddr rfl fo_97_1 rfl) ?_
    refine AOps.step rfl rfl rfl (AOp.load rfl sc_9 rfl) ?_
    refine AOps.step rfl rfl rfl (AOp.call rfl (.cons (ArgOk.rfl' rfl) (.cons (ArgOk.rfl' rfl) .nil)) (c_itemAt _ _)) ?_
    refine AOps.step rfl rfl rfl (AOp.assignD rfl rfl) ?_
    refine AOps.nil ?_
    refine AWP.block ?_
    refine AWP.seq ?_
    refine AWP.region ?_
    refine AOps.step rfl rfl rfl (AOp.fieldAddr rfl fo_97_0 rfl) ?_
    refine AOps.step rfl rfl rfl (AOp.load rfl sc_3 rfl) ?_
    refine AOps.step rfl rfl rfl (AOp.moveD rfl rfl) ?_
    refine AOps.step rfl rfl rfl (AOp.moveD rfl rfl) ?_
    refine AOps.step rfl rfl rfl (AOp.sub64 rfl rfl rfl (by omega) (by omega)) ?_
    refine AOps.step rfl rfl rfl (AOp.call rfl (.cons (ArgOk.rfl' rfl) (.cons (ArgOk.rfl' rfl) (.cons (ArgOk.rfl' rfl) .nil))) (c_pWithin _ _ _)) ?_
    refine AOps.step rfl rfl rfl (AOp.not rfl rfl) ?_
    refine AOps.step rfl rfl rfl (AOp.assignD rfl rfl) ?_
    refine AOps.nil ?_
    refine AWP.cond rfl (fun h3 => ?_) (fun h3 => ?_)
    · replace h3 := bnot_t h3; replace h3 := of_decide_eq_false h3
      have HF : harmsFault v frm to hs = 1 := harms_hit hL hlt hk.2 (harmFault_1 hlt (by omega)) (by decide)
      refine AWP.seq ?_
      refine AWP.region ?_
      refine AOps.step rfl rfl rfl (AOp.assignD rfl rfl) ?_
      refine AOps.nil ?_
      refine AWP.ret ?_
      refine ⟨RetD.eq rfl ?_, trivial⟩
      all_goals (rw [HF])
    replace h3 := bnot_f h3; replace h3 := of_decide_eq_true h3
    have h1 : frm ≤ hs[k].day ∧ hs[k].day ≤ to - 1 := by omega
    refine AWP.seq ?_
    refine AWP.region ?_
    refine AOps.step rfl rfl rfl (AOp.moveD rfl rfl) ?_
    refine AOps.step rfl rfl rfl (AOp.lss rfl rfl rfl) ?_
    refine AOps.step rfl rfl rfl (AOp.moveD rfl rfl) ?_
    refine AOps.split 37 rfl (fun g4 => ?_) (fun g4 => ?_)
    · replace g4 := of_decide_eq_true g4
      have HF : harmsFault v frm to hs = 9 := harms_hit hL hlt hk.2 (harmFault_9 hlt h1 (.inl g4)) (by decide)
      refine AOps.pass ⟨37, rfl, .inl ⟨_, rfl, rfl⟩⟩ rfl rfl ?_
      refine AOps.pass ⟨37, rfl, .inl ⟨_, rfl, rfl⟩⟩ rfl rfl ?_
      refine AOps.pass ⟨37, rfl, .inl ⟨_, rfl, rfl⟩⟩ rfl rfl ?_
      refine AOps.pass ⟨37, rfl, .inl ⟨_, rfl, rfl⟩⟩ rfl rfl ?_
      refine AOps.pass ⟨37, rfl, .inl ⟨_, rfl, rfl⟩⟩ rfl rfl ?_
      refine AOps.step rfl rfl rfl (AOp.pickT rfl rfl rfl) ?_
      refine AOps.step rfl rfl rfl (AOp.assignD rfl rfl) ?_
      refine AOps.nil ?_
      refine AWP.cond rfl (fun _ => ?_) (fun h => nomatch h)
      refine AWP.seq ?_
      refine AWP.region ?_
      refine AOps.step rfl rfl rfl (AOp.assignD rfl rfl) ?_
      refine AOps.nil ?_
      refine AWP.ret ?_
      refine ⟨RetD.eq rfl ?_, trivial⟩
      all_goals (rw [HF])
    replace g4 := of_decide_eq_false g4
    refine AOps.step ⟨37, rfl, .inl ⟨_, rfl, rfl⟩⟩ rfl rfl (AOp.loadAgg rfl ag_26 rfl rfl) ?_
    refine AOps.step ⟨37, rfl, .inl ⟨_, rfl, rfl⟩⟩ rfl rfl (AOp.fieldAddr rfl fo_97_2 rfl) ?_
    refine AOps.step ⟨37, rfl, .inl ⟨_, rfl, rfl⟩⟩ rfl rfl (AOp.load rfl sc_9 rfl) ?_
    refine AOps.step ⟨37, rfl, .inl ⟨_, rfl, rfl⟩⟩ rfl rfl (AOp.call rfl (.cons (ArgOk.rfl' rfl) (.cons (ArgOk.rfl' rfl) .nil)) (c_carrAt _ _)) ?_
    refine AOps.step ⟨37, rfl, .inl ⟨_, rfl, rfl⟩⟩ rfl rfl (AOp.lss rfl rfl rfl) ?_
    refine AOps.step rfl rfl rfl (AOp.pickF rfl rfl rfl) ?_
    refine AOps.step rfl rfl rfl (AOp.assignD rfl rfl) ?_
    refine AOps.nil ?_
    refine AWP.cond rfl (fun h5 => ?_) (fun h5 => ?_)
    · replace h5 := of_decide_eq_true h5
      have HF : harmsFault v frm to hs = 9 := harms_hit hL hlt hk.2 (harmFault_9 hlt h1 (.inr h5)) (by decide)
      refine AWP.seq ?_
      refine AWP.region ?_
      refine AOps.step rfl rfl rfl (AOp.assignD rfl rfl) ?_
      refine AOps.nil ?_
      refine AWP.ret ?_
      refine ⟨RetD.eq rfl ?_, trivial⟩
      all_goals (rw [HF])
    replace h5 := of_decide_eq_false h5
    have h2 : ¬ (itemIdx v hs[k].item < 0 ∨ carrIdx v hs[k].carrier < 0) := by omega
    obtain ⟨ki, hki, eki, _⟩ := idxBy_some (show 0 ≤ itemIdx v hs[k].item by omega)
    have hbi := hv _ (List.getElem_mem hki)
    have hib := itemBlocks_at hki eki
    refine AWP.seq ?_
    refine AWP.draw (by kernel_rfl) (by kernel_rfl) ?_
    refine DRun.step rfl rfl rfl (AOp.fieldAddr rfl fo_97_3 rfl) ?_
    refine DRun.step rfl rfl rfl (AOp.load rfl sc_3 rfl) ?_
    refine DRun.step rfl rfl rfl (AOp.fieldAddr rfl fo_26_0 rfl) ?_
    refine DRun.step rfl rfl rfl (AOp.load rfl sc_22 rfl) ?_
    refine DRun.step rfl rfl rfl (AOp.moveD rfl rfl) ?_
    refine DRun.step rfl rfl rfl (AOp.indexAddr rfl et_22 rfl rfl ki eki (at_list hki) rfl) ?_
    refine DRun.step rfl rfl rfl (AOp.fieldAddr rfl fo_62_1 rfl) ?_
    refine DRun.step rfl rfl rfl (AOp.load rfl sc_3 rfl) ?_
    refine DRun.step rfl rfl rfl (AOp.sub64 rfl rfl rfl (by omega) (by omega)) ?_
    refine DRun.step rfl rfl rfl (AOp.call rfl (.cons (ArgOk.rfl' rfl) (.cons (ArgOk.rfl' rfl) (.cons (ArgOk.rfl' rfl) .nil))) (c_pWithin _ _ _)) ?_
    refine DRun.step rfl rfl rfl (AOp.not rfl rfl) ?_
    refine DRun.step rfl rfl rfl (AOp.assignD rfl rfl) ?_
    refine DRun.nil ?_
    refine AWP.cond rfl (fun h6 => ?_) (fun h6 => ?_)
    · replace h6 := bnot_t h6; replace h6 := of_decide_eq_false h6
      have HF : harmsFault v frm to hs = 1 := harms_hit hL hlt hk.2 (harmFault_1b hlt h1 h2 (by rw [hib]; omega)) (by decide)
      refine AWP.seq ?_
      refine AWP.region ?_
      refine AOps.step rfl rfl rfl (AOp.assignD rfl rfl) ?_
      refine AOps.nil ?_
      refine AWP.ret ?_
      refine ⟨RetD.eq rfl ?_, trivial⟩
      all_goals (rw [HF])
    replace h6 := bnot_f h6; replace h6 := of_decide_eq_true h6
    have h3 : 0 ≤ hs[k].block ∧ hs[k].block ≤ itemBlocks v hs[k].item - 1 := by rw [hib]; omega
    refine AWP.seq ?_
    refine AWP.draw (by kernel_rfl) (by kernel_rfl) ?_
    refine DRun.step rfl rfl rfl (AOp.moveD rfl rfl) ?_
    refine DRun.step rfl rfl rfl (AOp.gtr rfl rfl rfl) ?_
    refine DRun.step rfl rfl rfl (AOp.moveD rfl rfl) ?_
    refine DRun.split 59 rfl (fun g7 => ?_) (fun g7 => ?_)
    · replace g7 := of_decide_eq_true g7
      refine DRun.step ⟨59, rfl, .inl ⟨_, rfl, rfl⟩⟩ rfl rfl (AOp.fieldAddr rfl fo_97_0 rfl) ?_
      refine DRun.step ⟨59, rfl, .inl ⟨_, rfl, rfl⟩⟩ rfl rfl (AOp.load rfl sc_3 rfl) ?_
      refine DRun.step ⟨59, rfl, .inl ⟨_, rfl, rfl⟩⟩ rfl rfl (AOp.moveD rfl rfl) ?_
      refine DRun.step ⟨59, rfl, .inl ⟨_, rfl, rfl⟩⟩ rfl rfl (AOp.moveD rfl rfl) ?_
      refine DRun.step ⟨59, rfl, .inl ⟨_, rfl, rfl⟩⟩ rfl rfl (AOp.sub64 rfl rfl rfl (by omega) (by omega)) ?_
      refine DRun.step ⟨59, rfl, .inl ⟨_, rfl, rfl⟩⟩ rfl rfl (AOp.indexAddr rfl et_41 rfl rfl (k - 1) (by omega) (at_list (by omega)) rfl) ?_
      refine DRun.step ⟨59, rfl, .inl ⟨_, rfl, rfl⟩⟩ rfl rfl (AOp.fieldAddr rfl fo_97_0 rfl) ?_
      refine DRun.step ⟨59, rfl, .inl ⟨_, rfl, rfl⟩⟩ rfl rfl (AOp.load rfl sc_3 rfl) ?_
      refine DRun.step ⟨59, rfl, .inl ⟨_, rfl, rfl⟩⟩ rfl rfl (AOp.lss rfl rfl rfl) ?_
      refine DRun.step rfl rfl rfl (AOp.pickT rfl rfl rfl) ?_
      refine DRun.step rfl rfl rfl (AOp.assignD rfl rfl) ?_
      refine DRun.nil ?_
      refine AWP.cond rfl (fun h8 => ?_) (fun h8 => ?_)
      · replace h8 := of_decide_eq_true h8
        have HF : harmsFault v frm to hs = 8 := harms_hit hL hlt hk.2 (harmFault_8 hlt h1 h2 h3 ⟨by omega, h8⟩) (by decide)
        refine AWP.seq ?_
        refine AWP.region ?_
        refine AOps.step rfl rfl rfl (AOp.assignD rfl rfl) ?_
        refine AOps.nil ?_
        refine AWP.ret ?_
        refine ⟨RetD.eq rfl ?_, trivial⟩
        all_goals (rw [HF])
      replace h8 := of_decide_eq_false h8
      have h4 : ¬ (0 < k ∧ hs[k].day < (hs[k - 1]'(by omega)).day) := fun hh => h8 hh.2
      refine AWP.skip ?_
      refine AWP.region ?_
      refine AOps.step rfl rfl rfl (AOp.add64 rfl rfl rfl (by omega) (by omega)) ?_
      refine AOps.step rfl rfl rfl (AOp.moveD rfl rfl) ?_
      refine AOps.nil ?_
      refine ⟨k + 1, ⟨by omega, ffst_next hk.2 (harmFault_0 hlt h1 h2 h3 h4)⟩, (by dsimp only; omega), Sub.less ⟨(SLe.of_eq rfl), SLe.refl _, SLe.refl _, SLe.refl _, SLe.refl _, SLe.refl _, SLe.refl _, trivial⟩ (fun _ h => by cases h)⟩
    replace g7 := of_decide_eq_false g7
    have h4 : ¬ (0 < k ∧ hs[k].day < (hs[k - 1]'(by omega)).day) := fun hh => by omega
    refine DRun.pass ⟨59, rfl, .inl ⟨_, rfl, rfl⟩⟩ rfl rfl ?_
    refine DRun.pass ⟨59, rfl, .inl ⟨_, rfl, rfl⟩⟩ rfl rfl ?_
    refine DRun.pass ⟨59, rfl, .inl ⟨_, rfl, rfl⟩⟩ rfl rfl ?_
    refine DRun.pass ⟨59, rfl, .inl ⟨_, rfl, rfl⟩⟩ rfl rfl ?_
    refine DRun.pass ⟨59, rfl, .inl ⟨_, rfl, rfl⟩⟩ rfl rfl ?_
    refine DRun.pass ⟨59, rfl, .inl ⟨_, rfl, rfl⟩⟩ rfl rfl ?_
    refine DRun.pass ⟨59, rfl, .inl ⟨_, rfl, rfl⟩⟩ rfl rfl ?_
    refine DRun.pass ⟨59, rfl, .inl ⟨_, rfl, rfl⟩⟩ rfl rfl ?_
    refine DRun.pass ⟨59, rfl, .inl ⟨_, rfl, rfl⟩⟩ rfl rfl ?_
    refine DRun.step rfl rfl rfl (AOp.pickF rfl rfl rfl) ?_
    refine DRun.step rfl rfl rfl (AOp.assignD rfl rfl) ?_
    refine DRun.nil ?_
    refine AWP.cond rfl (fun h => nomatch h) (fun _ => ?_)
    refine AWP.skip ?_
    refine AWP.region ?_
    refine AOps.step rfl rfl rfl (AOp.add64 rfl rfl rfl (by omega) (by omega)) ?_
    refine AOps.step rfl rfl rfl (AOp.moveD rfl rfl) ?_
    refine AOps.nil ?_
    refine ⟨k + 1, ⟨by omega, ffst_next hk.2 (harmFault_0 hlt h1 h2 h3 h4)⟩, (by dsimp only; omega), Sub.less ⟨(SLe.of_eq rfl), SLe.refl _, SLe.refl _, SLe.refl _, SLe.refl _, SLe.refl _, SLe.refl _, trivial⟩ (fun _ h => by cases h)⟩
  replace h2 := of_decide_eq_false h2
  rw [List.length_map] at h2
  have HF : harmsFault v frm to hs = 0 := by unfold harmsFault; rw [if_neg hL, ← show k = hs.length by omega]; exact hk.2
  refine AWP.exit ?_
  refine AWP.seq ?_
  refine AWP.region ?_
  refine AOps.step rfl rfl rfl (AOp.assignD rfl rfl) ?_
  refine AOps.nil ?_
  refine AWP.ret ?_
  refine ⟨RetD.eq rfl ?_, trivial⟩
  all_goals (rw [HF])

end Go.Proofs.YtieccphckobhjaaGreatDoor


namespace Go.Proofs.YtieccphckobhjaaGreatDoor
open Go.RowKit
set_option linter.unusedVariables false

/-! Types. -/
namespace TyQ8
theorem ag_26 : AggT Tryz.prog 26 3 := .of (by kernel_rfl)
theorem ag_28 : AggT Tryz.prog 28 6 := .of (by kernel_rfl)
end TyQ8
open TyQ8


theorem allIds_of {c : Nat → Bool} : ∀ {σ : Obs}, (∀ p ∈ σ, c p.1 = true) → Obs.allIds c σ = true
  | [], _ => rfl
  | p :: l, h => by
    unfold Obs.allIds
    rw [h p (by simp), allIds_of fun q hq => h q (List.mem_cons_of_mem _ hq)]
    rfl
theorem mem_killP_of {c : Nat → Bool} : ∀ {σ : Obs} {q : Nat × Ob}, q ∈ σ → (q.1, q.2.killP c) ∈ Obs.killP c σ
  | [], _, h => by cases h
  | x :: l, q, h => by
    unfold Obs.killP
    rcases List.mem_cons.1 h with rfl | h
    · exact .head _
    · exact .tail _ (mem_killP_of h)
theorem mem_del_of {i : Nat} : ∀ {σ : Obs} {p : Nat × Ob}, p ∈ σ → p.1 ≠ i → p ∈ Obs.del i σ
  | [], _, h, _ => by cases h
  | x :: l, p, h, hn => by
    cases hb : Nat.beq x.1 i with
    | true =>
      rw [del_t hb]
      rcases List.mem_cons.1 h with rfl | h
      · exact absurd (Nat.eq_of_beq_eq_true hb) hn
      · exact mem_del_of h hn
    | false =>
      rw [del_f hb]
      rcases List.mem_cons.1 h with rfl | h
      · exact .head _
      · exact .tail _ (mem_del_of h hn)
theorem mem_dels_of : ∀ {l σ : Obs} {p : Nat × Ob}, p ∈ σ → (∀ q ∈ l, p.1 ≠ q.1) → p ∈ Obs.dels l σ
  | [], _, _, h, _ => h
  | x :: l, σ, p, h, hn => mem_dels_of (l := l) (mem_del_of h (hn x (by simp))) fun q hq => hn q (List.mem_cons_of_mem _ hq)
theorem mem_join_l : ∀ {a b : Obs} {p : Nat × Ob}, p ∈ a → p ∈ Obs.join a b
  | x :: l, b, p, h => by
    unfold Obs.join
    rcases List.mem_cons.1 h with rfl | h
    · exact .head _
    · exact .tail _ (mem_join_l h)
theorem mem_join_r : ∀ {a b : Obs} {p : Nat × Ob}, p ∈ b → p ∈ Obs.join a b
  | [], _, _, h => h
  | x :: l, b, p, h => by
    unfold Obs.join
    exact .tail _ (mem_join_r h)
theorem vObs_ids {l : List Cpy} {q : Nat × Ob} (h : q ∈ vObs l) : q.1 = 101 ∨ 1000 ≤ q.1 := by
  rcases List.mem_cons.1 h with rfl | h
  · exact .inl rfl
  · obtain ⟨m, x, _, rfl⟩ := fam_mem h
    exact .inr (Nat.le_add_right _ _)
section
variable {cx : Cx} {ops : Array Oper} {o : Oper} {rest : List Oper} {e : Env} {σ : Obs} {Q : Post}
def preB (pre : Obs) : Bool := Obs.allIds (fun i => Nat.blt 101 i && Nat.blt i 1000) pre
theorem preB_spec {pre : Obs} (h : preB pre = true) : ∀ p ∈ pre, 101 < p.1 ∧ p.1 < 1000 := fun p hp => by
  have := Obs.allIds_mem h p hp
  simpa [Nat.blt_eq] using this
/-- A call that takes the vault's value and turns its copies. -/
theorem AOps.callV {f : FuncId} {xs : List Operand} {ts : Array TypeId} {ss vs : List S} {l l' : List Cpy} {pre : Obs} {d : D} (hg : o.guard = none) (hd : DstOk cx.N o)
    (ho : o.op = .call { callee := .value (.func f), args := xs.toArray, argTypes := ts }) (ha : ArgsS e xs ss) (h : XCall cx.P f ss ((100, .val vs) :: vObs l) (vObs l') (fun i => Nat.ble 1000 i || Nat.blt i 100) d) (hp : preB pre = true)
    (h3 : ∀ i, (Nat.ble 1000 i || Nat.blt i 100) = true → cx.fixp i = false) (k : AOps cx ops rest ((e.killP fun i => Nat.ble 1000 i || Nat.blt i 100).put o.dst (.d d)) (Obs.killP (fun i => Nat.ble 1000 i || Nat.blt i 100) pre ++ vObs l') Q) :
    AOps cx ops (o :: rest) e (((100, .val vs) :: pre) ++ vObs l) Q := by
  have hpr := preB_spec hp
  have hids : ∀ p ∈ Obs.dels ((100, Ob.val vs) :: vObs l) (((100, Ob.val vs) :: pre) ++ vObs l), p ∈ pre := fun p hq => by
    obtain ⟨h1, h2⟩ := Obs.mem_dels hq
    rcases List.mem_append.1 h1 with h1 | h1
    · rcases List.mem_cons.1 h1 with rfl | h1
      · exact absurd rfl (h2 _ (.head _))
      · exact h1
    · exact absurd rfl (h2 p (.tail _ h1))
  have hpre : ∀ p ∈ pre, p ∈ Obs.dels ((100, Ob.val vs) :: vObs l) (((100, Ob.val vs) :: pre) ++ vObs l) := fun p hq => by
    refine mem_dels_of (List.mem_append_left _ (.tail _ hq)) fun q hq2 => ?_
    have := hpr p hq
    rcases List.mem_cons.1 hq2 with rfl | hq2
    · show p.1 ≠ 100; omega
    · rcases vObs_ids hq2 with h4 | h4 <;> omega
  refine AOps.callX hg hd ho ha h (AllIn.of fun p hq => ?_) (allIds_of fun p hq => ?_) (allIds_of fun p hq => allIds_of fun q hq2 => ?_) h3 (AOps.obs (fun p hq => ?_) k)
  · rcases List.mem_cons.1 hq with rfl | hq
    · exact .head _
    · exact List.mem_append_right _ hq
  · have := hpr p (hids p hq)
    have h4 : Nat.ble 1000 p.1 = false := by rw [Bool.eq_false_iff]; intro hh; have := Nat.le_of_ble_eq_true hh; omega
    have h5 : Nat.blt p.1 100 = false := by rw [Bool.eq_false_iff]; intro hh; rw [Nat.blt_eq] at hh; omega
    simp [h4, h5]
  · have := hpr q (hids q hq2)
    rcases vObs_ids hq with h4 | h4 <;> simp [beqF (show p.1 ≠ q.1 by omega)]
  · rcases List.mem_append.1 hq with hq | hq
    · obtain ⟨q, hq', rfl⟩ := Obs.mem_killP hq
      exact mem_join_r (mem_killP_of (hpre q hq'))
    · exact mem_join_l hq
/-- The call that makes a vault of the program's own. -/
theorem AOps.callOwn {f : FuncId} {xs : List Operand} {ts : Array TypeId} {ss vs : List S} {l : List Cpy} {pre : Obs} (hg : o.guard = none) (hd : DstOk cx.N o)
    (ho : o.op = .call { callee := .value (.func f), args := xs.toArray, argTypes := ts }) (ha : ArgsS e xs ss) (h : XSCall cx.P f ss [] ((100, .val vs) :: vObs l) (fun i => Nat.ble 1000 i || Nat.blt i 102) (.own 100)) (hp : preB pre = true)
    (h3 : ∀ i, (Nat.ble 1000 i || Nat.blt i 102) = true → cx.fixp i = false) (k : AOps cx ops rest ((e.killP fun i => Nat.ble 1000 i || Nat.blt i 102).put o.dst (.own 100)) (((100, .val vs) :: Obs.killP (fun i => Nat.ble 1000 i || Nat.blt i 102) pre) ++ vObs l) Q) :
    AOps cx ops (o :: rest) e pre Q := by
  have hpr := preB_spec hp
  refine AOps.callXS hg hd ho ha h trivial (allIds_of fun p hq => ?_) (allIds_of fun p hq => allIds_of fun q hq2 => ?_) h3 (AOps.obs (fun p hq => ?_) k)
  · have hq : p ∈ pre := hq
    have := hpr p hq
    have h4 : Nat.ble 1000 p.1 = false := by rw [Bool.eq_false_iff]; intro hh; have := Nat.le_of_ble_eq_true hh; omega
    have h5 : Nat.blt p.1 102 = false := by rw [Bool.eq_false_iff]; intro hh; rw [Nat.blt_eq] at hh; omega
    simp [h4, h5]
  · have hq2 : q ∈ pre := hq2
    have := hpr q hq2
    rcases List.mem_cons.1 hq with rfl | hq
    · simp [beqF (show 100 ≠ q.1 by omega)]
    · rcases vObs_ids hq with h4 | h4 <;> simp [beqF (show p.1 ≠ q.1 by omega)]
  · rcases List.mem_append.1 hq with hq | hq
    · rcases List.mem_cons.1 hq with rfl | hq
      · exact mem_join_l (.head _)
      · exact mem_join_r hq
    · exact mem_join_l (.tail _ hq)
end
theorem dayH_in : ∀ {hs : List Hrm} {d : Int} {j : Nat} (hj : j < hs.length), j ≤ (dayH hs d).length → hs[j].day = d → j < (dayH hs d).length
  | h :: hs, d, 0, _, _, he => by
    unfold dayH
    rw [List.takeWhile_cons, if_pos (by simpa using he)]
    exact Nat.succ_pos _
  | h :: hs, d, j + 1, hj, hle, he => by
    unfold dayH at hle ⊢
    rw [List.takeWhile_cons] at hle ⊢
    by_cases e : h.day = d
    · rw [if_pos (by simpa using e)] at hle ⊢
      have := dayH_in (hs := hs) (d := d) (j := j) (by simpa using hj) (by unfold dayH; simpa using hle) (by simpa using he)
      unfold dayH at this
      simpa using this
    · rw [if_neg (by simpa using e)] at hle
      simp at hle
theorem dayH_get {hs : List Hrm} {d : Int} {j : Nat} (h : j < (dayH hs d).length) : ∃ hj : j < hs.length, hs[j] = (dayH hs d)[j] ∧ hs[j].day = d := by
  have hj : j < hs.length := Nat.lt_of_lt_of_le h (dayH_le hs d)
  have h1 : hs[j] = (dayH hs d)[j] := by
    have h2 : dayH hs d <+: hs := List.takeWhile_prefix _
    exact (h2.getElem h).symm
  refine ⟨hj, h1, ?_⟩
  rw [h1]
  have h3 : (dayH hs d)[j] ∈ dayH hs d := List.getElem_mem h
  have key : ∀ (l : List Hrm) (x : Hrm), x ∈ dayH l d → x.day = d := by
    intro l
    induction l with
    | nil => intro x hx; cases hx
    | cons y l ih =>
      intro x hx
      unfold dayH at hx
      rw [List.takeWhile_cons] at hx
      by_cases e : y.day = d
      · rw [if_pos (by simpa using e)] at hx
        rcases List.mem_cons.1 hx with rfl | hx
        · exact e
        · exact ih x hx
      · rw [if_neg (by simpa using e)] at hx; cases hx
  exact key _ _ h3
theorem dayH_end {hs : List Hrm} {d : Int} {j : Nat} (hle : j ≤ (dayH hs d).length) (h : ∀ hj : j < hs.length, hs[j].day ≠ d) : j = (dayH hs d).length := by
  by_cases h1 : j < (dayH hs d).length
  · obtain ⟨hj, _, h2⟩ := dayH_get h1
    exact absurd h2 (h hj)
  · omega
theorem fold_take {l : List Cpy} {hs : List Hrm} {j : Nat} (h : j < hs.length) : (hs.take (j + 1)).foldl harmC l = harmC ((hs.take j).foldl harmC l) hs[j] := by
  rw [List.take_add_one, List.getElem?_eq_getElem h, Option.toList_some, List.foldl_append]
  rfl
/-- Where a day stands, behind its first j harms. -/
def hAt (s : St) (day : Int) (j : Nat) : List Cpy := ((dayH s.hs day).take j).foldl harmC s.l
theorem hAt_all (s : St) (day : Int) : hAt s day (dayH s.hs day).length = (dayH s.hs day).foldl harmC s.l := by unfold hAt; rw [List.take_length]
/-- .. behind its first k checks. -/
def cAt (every : Int) (s : St) (day : Int) (k : Nat) : List Cpy × List Dn := chkTo every day ((dayH s.hs day).foldl harmC s.l, s.o) k
theorem hAt_vok {v : Vlt} {s : St} (hv : VOk (withC v s.l)) (hh : ∀ h ∈ s.hs, HrmOk v h) (day : Int) (j : Nat) : VOk (withC v (hAt s day j)) :=
  harms_vok _ hv fun h hm => hh h (dayH_sub h (List.mem_of_mem_take hm))
theorem hAt_len (s : St) (day : Int) (j : Nat) : (hAt s day j).length = s.l.length := harms_len _ _
theorem cAt_vok {v : Vlt} {s : St} (hv : VOk (withC v s.l)) (hh : ∀ h ∈ s.hs, HrmOk v h) {every day : Int} (he : 1 ≤ every) (hd : day ≤ 200000) (k : Nat) : VOk (withC v (cAt every s day k).1) :=
  chkTo_vok (s := ((dayH s.hs day).foldl harmC s.l, s.o)) (harms_vok _ hv fun h hm => hh h (dayH_sub h hm)) he hd k
theorem cAt_len (every : Int) (s : St) (day : Int) (k : Nat) : (cAt every s day k).1.length = s.l.length := by unfold cAt; rw [chkTo_len]; exact harms_len _ _
theorem cAt_next_no {every : Int} {s : St} {day : Int} {k : Nat} (hk : k < (cAt every s day k).1.length) (h : (cAt every s day k).1[k].last + every > day) : cAt every s day (k + 1) = cAt every s day k := chk1_no hk h
theorem cAt_next {every : Int} {s : St} {day : Int} {k : Nat} (hk : k < (cAt every s day k).1.length) (h : ¬ (cAt every s day k).1[k].last + every > day) :
    (cAt every s day (k + 1)).1 = checkedC (cAt every s day k).1 k day ∧ (cAt every s day (k + 1)).2 = (cAt every s day k).2 ++ [doneC (cAt every s day k).1 (cAt every s day k).1[k] day] := by
  have := chk1_yes hk h
  exact ⟨congrArg Prod.fst this, congrArg Prod.snd this⟩
/-- Where Live stands, behind n days. -/
def sAt (v : Vlt) (p : Pol) (frm : Int) (hs : List Hrm) (n : Nat) : St := liveTo p.every frm ⟨v.copies, hs, []⟩ n
theorem sAt_next (v : Vlt) (p : Pol) (frm : Int) (hs : List Hrm) (n : Nat) : sAt v p frm hs (n + 1) = day1 p.every (sAt v p frm hs n) (frm + n) := rfl
/-- One check too many. -/
theorem live_over {v : Vlt} {p : Pol} {frm to : Int} {hs : List Hrm} {n k : Nat} (hb : bothFault v p = 0) (h1 : 0 ≤ frm ∧ frm ≤ 200000) (h2 : frm ≤ to ∧ to ≤ 200001) (hh : harmsFault v frm to hs = 0) (hn : n < (to - frm).toNat)
    (hk : k < (cAt p.every (sAt v p frm hs n) (frm + n) k).1.length) (hle : ¬ (cAt p.every (sAt v p frm hs n) (frm + n) k).1[k].last + p.every > frm + n) (ho : (cAt p.every (sAt v p frm hs n) (frm + n) k).2.length = 20000) : liveFault v p frm to hs = 2 := by
  have hkl : k < (sAt v p frm hs n).l.length := by rw [cAt_len] at hk; exact hk
  have h3 := (cAt_next hk hle).2
  have h4 : 20000 < (cAt p.every (sAt v p frm hs n) (frm + n) (k + 1)).2.length := by rw [h3, List.length_append]; simp; omega
  have h5 := chkTo_mono p.every (frm + n) ((dayH (sAt v p frm hs n).hs (frm + n)).foldl harmC (sAt v p frm hs n).l, (sAt v p frm hs n).o) (k + 1) ((sAt v p frm hs n).l.length - (k + 1))
  rw [show k + 1 + ((sAt v p frm hs n).l.length - (k + 1)) = (sAt v p frm hs n).l.length by omega] at h5
  have h6 : 20000 < (sAt v p frm hs (n + 1)).o.length := by
    rw [sAt_next]
    exact Nat.lt_of_lt_of_le h4 h5
  have h7 := liveTo_mono p.every frm ⟨v.copies, hs, []⟩ (n + 1) ((to - frm).toNat - (n + 1))
  rw [show n + 1 + ((to - frm).toNat - (n + 1)) = (to - frm).toNat by omega] at h7
  unfold liveFault
  rw [if_neg (fun h => h hb), if_neg (by omega), if_neg (fun h => h hh), if_pos (show 20000 < (liveS v p frm to hs).o.length from Nat.lt_of_lt_of_le h6 h7)]
theorem live_bad {v : Vlt} {p : Pol} {frm to : Int} {hs : List Hrm} (h : liveFault v p frm to hs ≠ 0) : liveV v p frm to hs = ⟨[], [], []⟩ ∧ liveO v p frm to hs = [] := by
  unfold liveV liveO
  rw [if_neg h, if_neg h]
  exact ⟨rfl, rfl⟩
theorem live_ok {v : Vlt} {p : Pol} {frm to : Int} {hs : List Hrm} (hb : bothFault v p = 0) (h1 : 0 ≤ frm ∧ frm ≤ 200000) (h2 : frm ≤ to ∧ to ≤ 200001) (hh : harmsFault v frm to hs = 0) (ho : (sAt v p frm hs (to - frm).toNat).o.length ≤ 20000) :
    liveFault v p frm to hs = 0 ∧ liveV v p frm to hs = withC v (sAt v p frm hs (to - frm).toNat).l ∧ liveO v p frm to hs = (sAt v p frm hs (to - frm).toNat).o := by
  have h0 : liveFault v p frm to hs = 0 := by
    unfold liveFault
    rw [if_neg (fun h => h hb), if_neg (by omega), if_neg (fun h => h hh), if_neg]
    show ¬ 20000 < (sAt v p frm hs (to - frm).toNat).o.length
    omega
  unfold liveV liveO
  rw [if_pos h0, if_pos h0]
  exact ⟨h0, rfl, rfl⟩


set_option maxRecDepth 100000 in
set_option maxHeartbeats 1000000 in
theorem c_pBothL (v : Vlt) (p : Pol) (hs : smallV v) : ACall Tryz.prog 45 [.agg v.ds, .agg p.ds] (.v (.int .i64 (bothFault v p))) := by
  refine acall_of (n := 13) (ds' := [.v (.int .i64 (bothFault v p))]) Tryz.func45 rfl (by kernel_rfl) rfl [4] rfl rfl ?_
  intro B w0 F0 fr
  refine AWP.seq ?_
  refine AWP.region ?_
  refine AOps.step rfl rfl rfl (AOp.box rfl rfl rfl) ?_
  refine AOps.step rfl rfl rfl (AOp.box rfl rfl rfl) ?_
  refine AOps.step rfl rfl rfl (AOp.assignD rfl rfl) ?_
  refine AOps.nil ?_
  refine AWP.seq ?_
  refine AWP.seq ?_
  refine AWP.region ?_
  refine AOps.step rfl rfl rfl (AOp.loadAgg rfl ag_26 rfl rfl) ?_
  refine AOps.step rfl rfl rfl (AOp.call rfl (.cons (ArgOk.rfl' rfl) .nil) (c_pCheck v hs)) ?_
  refine AOps.step rfl rfl rfl (AOp.assignD rfl rfl) ?_
  refine AOps.nil ?_
  refine AWP.seq ?_
  refine AWP.region ?_
  refine AOps.step rfl rfl rfl (AOp.moveD rfl rfl) ?_
  refine AOps.step rfl rfl rfl (AOp.neq rfl rfl rfl) ?_
  refine AOps.nil ?_
  refine AWP.cond rfl (fun h1 => ?_) (fun h1 => ?_)
  · replace h1 := of_decide_eq_true h1
    rw [both_v h1]
    refine AWP.seq ?_
    refine AWP.region ?_
    refine AOps.step rfl rfl rfl (AOp.moveD rfl rfl) ?_
    refine AOps.step rfl rfl rfl (AOp.assignD rfl rfl) ?_
    refine AOps.nil ?_
    refine AWP.ret ?_
    refine ⟨RetD.eq rfl ?_, trivial⟩
    all_goals (rfl)
  replace h1 := of_decide_eq_false h1
  rw [both_p (Decidable.not_not.1 h1)]
  refine AWP.skip ?_
  refine AWP.seq ?_
  refine AWP.region ?_
  refine AOps.step rfl rfl rfl (AOp.loadAgg rfl ag_28 rfl rfl) ?_
  refine AOps.step rfl rfl rfl (AOp.call rfl (.cons (ArgOk.rfl' rfl) .nil) (c_pPol p)) ?_
  refine AOps.step rfl rfl rfl (AOp.assignD rfl rfl) ?_
  refine AOps.nil ?_
  refine AWP.ret ?_
  refine ⟨RetD.eq rfl ?_, trivial⟩
  all_goals (rfl)

end Go.Proofs.YtieccphckobhjaaGreatDoor


namespace Go.Proofs.YtieccphckobhjaaGreatDoor
open Go.RowKit
set_option linter.unusedVariables false

/-! Types. -/
namespace TyQ9
theorem ag_26 : AggT Tryz.prog 26 3 := .of (by kernel_rfl)
theorem ag_28 : AggT Tryz.prog 28 6 := .of (by kernel_rfl)
theorem ag_65 : AggT Tryz.prog 65 7 := .of (by kernel_rfl)
theorem bu_26 : StructT Tryz.prog 26 (fun i => (#[(0, 1), (1, 1), (2, 1)] : Array (Nat × Nat))[i]?) [(.slice none 0 0), (.slice none 0 0), (.slice none 0 0)] := .of (by kernel_rfl) (by kernel_rfl) (by decide)
theorem et_24 : ElemTy Tryz.prog 24 65 7 96 (.agg #[(.string ⟨#[]⟩), (.string ⟨#[]⟩), (.string ⟨#[]⟩), (.int .i64 0), (.int .i64 0), (.int .i64 0), (.slice none 0 0)]) := ⟨by kernel_rfl, by kernel_rfl, by kernel_rfl, by decide⟩
theorem et_41 : ElemTy Tryz.prog 41 97 4 48 (.agg #[(.int .i64 0), (.string ⟨#[]⟩), (.string ⟨#[]⟩), (.int .i64 0)]) := ⟨by kernel_rfl, by kernel_rfl, by kernel_rfl, by decide⟩
theorem et_42 : ElemTy Tryz.prog 42 47 5 56 (.agg #[(.int .i64 0), (.string ⟨#[]⟩), (.string ⟨#[]⟩), (.int .i64 0), (.int .i64 0)]) := ⟨by kernel_rfl, by kernel_rfl, by kernel_rfl, by decide⟩
theorem fo_26_2 : fieldOff Tryz.prog 26 2 = some 2 := by kernel_rfl
theorem fo_28_3 : fieldOff Tryz.prog 28 3 = some 3 := by kernel_rfl
theorem fo_65_4 : fieldOff Tryz.prog 65 4 = some 4 := by kernel_rfl
theorem fo_97_0 : fieldOff Tryz.prog 97 0 = some 0 := by kernel_rfl
theorem sc_24 : Scal Tryz.prog 24 := .of (by kernel_rfl)
theorem sc_3 : Scal Tryz.prog 3 := .of (by kernel_rfl)
theorem sz_26 : ∀ w, (sizeOf 26).run Tryz.prog w = .ok 3 w := SizeT.of (by kernel_rfl)
theorem sz_65 : ∀ w, (sizeOf 65).run Tryz.prog w = .ok 7 w := SizeT.of (by kernel_rfl)
theorem zt_26 : (Tryz.prog.info? 26).bind (·.zero) = some (.agg #[(.slice none 0 0), (.slice none 0 0), (.slice none 0 0)]) := by kernel_rfl
theorem zt_65 : (Tryz.prog.info? 65).bind (·.zero) = some (.agg #[(.string ⟨#[]⟩), (.string ⟨#[]⟩), (.string ⟨#[]⟩), (.int .i64 0), (.int .i64 0), (.int .i64 0), (.slice none 0 0)]) := by kernel_rfl
end TyQ9
open TyQ9


theorem hag_77 : AggT Tryz.prog 65 7 := .of (by kernel_rfl)
theorem hag_57 : AggT Tryz.prog 97 4 := .of (by kernel_rfl)
theorem het_48 : ElemTy Tryz.prog 41 97 4 48 (.agg #[.int .i64 0, .string ⟨#[]⟩, .string ⟨#[]⟩, .int .i64 0]) := ⟨by kernel_rfl, by kernel_rfl, by kernel_rfl, by decide⟩
theorem drop_at {hs : List Hrm} {j : Nat} (h : j < hs.length) : ((hs.drop j).map Hrm.ds)[0]? = some hs[j].ds := by simp [h]
theorem drop_next {hs : List Hrm} {j : Nat} : ((hs.drop j).map Hrm.ds).drop (Int.toNat 1) = (hs.drop (j + 1)).map Hrm.ds := by
  show ((hs.drop j).map Hrm.ds).drop 1 = _
  rw [← List.map_drop, List.drop_drop]
def cpyW (c : Cpy) : List D := [.v (.string c.item), .v (.string c.carrier), .v (.string c.frm), .v (.int .i64 c.day), .v (.int .i64 c.last), .v (.int .i64 c.gen), .any]
theorem cpysW {b k : Nat} {l : List Cpy} (h : k < l.length) : ((cpysS b l).map fun ss => ss.map S.weak)[k]? = some (cpyW l[k]) := by
  rw [List.getElem?_map, cpysS_get (List.getElem?_eq_getElem h)]
  rfl
theorem sub_drop2 {a b x : Nat × Ob} {c T : Obs} : ∀ p ∈ (a :: c) ++ T, p ∈ (a :: x :: c) ++ T := fun p hp => by
  rcases List.mem_cons.1 hp with rfl | hp
  · exact .head _
  · exact .tail _ (.tail _ hp)


set_option maxRecDepth 100000 in
set_option maxHeartbeats 4000000 in
theorem c_live (v : Vlt) (p : Pol) (frm to : Int) (hs : List Hrm) (hsm : smallV v) : ACall Tryz.prog 13 [.agg v.ds, .agg p.ds, .v (.int .i64 frm), .v (.int .i64 to), .sl (hs.map Hrm.ds)] (.tup [.agg (liveV v p frm to hs).ds, .sl ((liveO v p frm to hs).map Dn.ds), .v (.int .i64 (liveFault v p frm to hs))]) := by
  refine acall_ofR (n := 100) (ds' := [.agg (liveV v p frm to hs).ds, .sl ((liveO v p frm to hs).map Dn.ds), .v (.int .i64 (liveFault v p frm to hs))]) Tryz.func13 rfl (by kernel_rfl) rfl [.cell 10 26, .tmp 11, .tmp 12] rfl rfl ?_
  intro B w0 F0 fr
  refine AWP.seq ?_
  refine AWP.region ?_
  refine AOps.boxOwn 201 rfl rfl rfl rfl rfl rfl rfl ?_
  refine AOps.step rfl rfl rfl (AOp.box rfl rfl rfl) ?_
  refine AOps.alloc 202 rfl rfl rfl rfl zt_26 rfl rfl rfl ?_
  refine AOps.step rfl rfl rfl (AOp.assignD rfl rfl) ?_
  refine AOps.step rfl rfl rfl (AOp.assignD rfl rfl) ?_
  refine AOps.nil ?_
  refine AWP.seq ?_
  refine AWP.seq ?_
  refine AWP.region ?_
  refine AOps.step rfl rfl rfl (AOp.loadPU rfl ag_26 rfl (.tail _ (.head _)) rfl rfl) ?_
  refine AOps.step rfl rfl rfl (AOp.loadAgg rfl ag_28 rfl rfl) ?_
  refine AOps.step rfl rfl rfl (AOp.call rfl (.cons (ArgOk.rfl' rfl) (.cons (ArgOk.rfl' rfl) .nil)) (c_pBothL v p hsm)) ?_
  refine AOps.step rfl rfl rfl (AOp.assignD rfl rfl) ?_
  refine AOps.nil ?_
  refine AWP.seq ?_
  refine AWP.region ?_
  refine AOps.step rfl rfl rfl (AOp.moveD rfl rfl) ?_
  refine AOps.step rfl rfl rfl (AOp.neq rfl rfl rfl) ?_
  refine AOps.nil ?_
  refine AWP.cond rfl (fun h1 => ?_) (fun h1 => ?_)
  · replace h1 := of_decide_eq_true h1
    have HF : liveFault v p frm to hs = bothFault v p := by unfold liveFault; rw [if_pos h1]
    obtain ⟨HV, HO⟩ := live_bad (v := v) (p := p) (frm := frm) (to := to) (hs := hs) (by rw [HF]; first | assumption | decide)
    rw [HV, HO, HF]
    refine AWP.seq ?_
    refine AWP.region ?_
    refine AOps.step rfl rfl rfl (AOp.build rfl bu_26 .nil rfl) ?_
    refine AOps.step rfl rfl rfl (AOp.moveD rfl rfl) ?_
    refine AOps.store rfl rfl rfl sz_26 rfl (.head _) rfl rfl rfl (Nat.le_of_ble_eq_true rfl) ?_
    refine AOps.step rfl rfl rfl (AOp.assignD rfl rfl) ?_
    refine AOps.step rfl rfl rfl (AOp.assignD rfl rfl) ?_
    refine AOps.nil ?_
    refine AWP.ret ?_
    refine ⟨RetR.agg rfl (.head _) ag_26 rfl (.cons (by first | exact CellD.nil | exact CellD.d | exact CellD.eq (by simp) | (refine CellD.own (by first | exact .head _ | exact .tail _ (.head _)) ?_; rfl)) (.cons (by first | exact CellD.nil | exact CellD.d | exact CellD.eq (by simp) | (refine CellD.own (by first | exact .head _ | exact .tail _ (.head _)) ?_; rfl)) (.cons (by first | exact CellD.nil | exact CellD.d | exact CellD.eq (by simp) | (refine CellD.own (by first | exact .head _ | exact .tail _ (.head _)) ?_; rfl)) .nil))), RetD.nil rfl, RetD.eq rfl ?_, trivial⟩
    all_goals (rfl)
  replace h1 := of_decide_eq_false h1
  have hb0 := Decidable.not_not.1 h1
  obtain ⟨vo, po⟩ := both_ok hb0
  have hpe := po.every
  refine AWP.skip ?_
  refine AWP.seq ?_
  refine AWP.seq ?_
  refine AWP.region ?_
  refine AOps.step rfl rfl rfl (AOp.moveD rfl rfl) ?_
  refine AOps.step rfl rfl rfl (AOp.call rfl (.cons (ArgOk.rfl' rfl) .nil) (c_pDay _)) ?_
  refine AOps.step rfl rfl rfl (AOp.not rfl rfl) ?_
  refine AOps.step rfl rfl rfl (AOp.moveD rfl rfl) ?_
  refine AOps.split 29 rfl (fun g2 => ?_) (fun g2 => ?_)
  · replace g2 := bnot_t g2; replace g2 := of_decide_eq_false g2
    have HF : liveFault v p frm to hs = 1 := by unfold liveFault; rw [if_neg (fun hh => hh hb0), if_pos (.inl g2)]
    obtain ⟨HV, HO⟩ := live_bad (v := v) (p := p) (frm := frm) (to := to) (hs := hs) (by rw [HF]; first | assumption | decide)
    rw [HV, HO, HF]
    refine AOps.pass ⟨29, rfl, .inl ⟨_, rfl, rfl⟩⟩ rfl rfl ?_
    refine AOps.pass ⟨29, rfl, .inl ⟨_, rfl, rfl⟩⟩ rfl rfl ?_
    refine AOps.pass ⟨29, rfl, .inl ⟨_, rfl, rfl⟩⟩ rfl rfl ?_
    refine AOps.pass ⟨29, rfl, .inl ⟨_, rfl, rfl⟩⟩ rfl rfl ?_
    refine AOps.step rfl rfl rfl (AOp.pickT rfl rfl rfl) ?_
    refine AOps.nil ?_
    refine AWP.cond rfl (fun _ => ?_) (fun h => nomatch h)
    refine AWP.seq ?_
    refine AWP.region ?_
    refine AOps.step rfl rfl rfl (AOp.build rfl bu_26 .nil rfl) ?_
    refine AOps.store rfl rfl rfl sz_26 rfl (.head _) rfl rfl rfl (Nat.le_of_ble_eq_true rfl) ?_
    refine AOps.step rfl rfl rfl (AOp.assignD rfl rfl) ?_
    refine AOps.step rfl rfl rfl (AOp.assignD rfl rfl) ?_
    refine AOps.nil ?_
    refine AWP.ret ?_
    refine ⟨RetR.agg rfl (.head _) ag_26 rfl (.cons (by first | exact CellD.nil | exact CellD.d | exact CellD.eq (by simp) | (refine CellD.own (by first | exact .head _ | exact .tail _ (.head _)) ?_; rfl)) (.cons (by first | exact CellD.nil | exact CellD.d | exact CellD.eq (by simp) | (refine CellD.own (by first | exact .head _ | exact .tail _ (.head _)) ?_; rfl)) (.cons (by first | exact CellD.nil | exact CellD.d | exact CellD.eq (by simp) | (refine CellD.own (by first | exact .head _ | exact .tail _ (.head _)) ?_; rfl)) .nil))), RetD.nil rfl, RetD.eq rfl ?_, trivial⟩
    all_goals (rfl)
  replace g2 := bnot_f g2; replace g2 := of_decide_eq_true g2
  have hfr : 0 ≤ frm ∧ frm ≤ 200000 := by omega
  refine AOps.step ⟨29, rfl, .inl ⟨_, rfl, rfl⟩⟩ rfl rfl (AOp.moveD rfl rfl) ?_
  refine AOps.step ⟨29, rfl, .inl ⟨_, rfl, rfl⟩⟩ rfl rfl (AOp.moveD rfl rfl) ?_
  refine AOps.step ⟨29, rfl, .inl ⟨_, rfl, rfl⟩⟩ rfl rfl (AOp.call rfl (.cons (ArgOk.rfl' rfl) (.cons (ArgOk.rfl' rfl) (.cons (ArgOk.rfl' rfl) .nil))) (c_pWithin _ _ _)) ?_
  refine AOps.step ⟨29, rfl, .inl ⟨_, rfl, rfl⟩⟩ rfl rfl (AOp.not rfl rfl) ?_
  refine AOps.step rfl rfl rfl (AOp.pickF rfl rfl rfl) ?_
  refine AOps.nil ?_
  refine AWP.cond rfl (fun h3 => ?_) (fun h3 => ?_)
  · replace h3 := bnot_t h3; replace h3 := of_decide_eq_false h3
    have HF : liveFault v p frm to hs = 1 := by unfold liveFault; rw [if_neg (fun hh => hh hb0), if_pos (.inr (by omega))]
    obtain ⟨HV, HO⟩ := live_bad (v := v) (p := p) (frm := frm) (to := to) (hs := hs) (by rw [HF]; first | assumption | decide)
    rw [HV, HO, HF]
    refine AWP.seq ?_
    refine AWP.region ?_
    refine AOps.step rfl rfl rfl (AOp.build rfl bu_26 .nil rfl) ?_
    refine AOps.store rfl rfl rfl sz_26 rfl (.head _) rfl rfl rfl (Nat.le_of_ble_eq_true rfl) ?_
    refine AOps.step rfl rfl rfl (AOp.assignD rfl rfl) ?_
    refine AOps.step rfl rfl rfl (AOp.assignD rfl rfl) ?_
    refine AOps.nil ?_
    refine AWP.ret ?_
    refine ⟨RetR.agg rfl (.head _) ag_26 rfl (.cons (by first | exact CellD.nil | exact CellD.d | exact CellD.eq (by simp) | (refine CellD.own (by first | exact .head _ | exact .tail _ (.head _)) ?_; rfl)) (.cons (by first | exact CellD.nil | exact CellD.d | exact CellD.eq (by simp) | (refine CellD.own (by first | exact .head _ | exact .tail _ (.head _)) ?_; rfl)) (.cons (by first | exact CellD.nil | exact CellD.d | exact CellD.eq (by simp) | (refine CellD.own (by first | exact .head _ | exact .tail _ (.head _)) ?_; rfl)) .nil))), RetD.nil rfl, RetD.eq rfl ?_, trivial⟩
    all_goals (rfl)
  replace h3 := bnot_f h3; replace h3 := of_decide_eq_true h3
  have hft : frm ≤ to ∧ to ≤ 200001 := by omega
  refine AWP.skip ?_
  refine AWP.seq ?_
  refine AWP.seq ?_
  refine AWP.region ?_
  refine AOps.step rfl rfl rfl (AOp.loadPU rfl ag_26 rfl (.tail _ (.head _)) rfl rfl) ?_
  refine AOps.step rfl rfl rfl (AOp.moveD rfl rfl) ?_
  refine AOps.step rfl rfl rfl (AOp.moveD rfl rfl) ?_
  refine AOps.step rfl rfl rfl (AOp.moveD rfl rfl) ?_
  refine AOps.step rfl rfl rfl (AOp.call rfl (.cons (ArgOk.rfl' rfl) (.cons (ArgOk.rfl' rfl) (.cons (ArgOk.rfl' rfl) (.cons (ArgOk.rfl' rfl) .nil)))) (c_checkHarms v frm to hs (okItems_of vo.items) (by omega))) ?_
  refine AOps.step rfl rfl rfl (AOp.assignD rfl rfl) ?_
  refine AOps.nil ?_
  refine AWP.seq ?_
  refine AWP.region ?_
  refine AOps.step rfl rfl rfl (AOp.moveD rfl rfl) ?_
  refine AOps.step rfl rfl rfl (AOp.neq rfl rfl rfl) ?_
  refine AOps.nil ?_
  refine AWP.cond rfl (fun h4 => ?_) (fun h4 => ?_)
  · replace h4 := of_decide_eq_true h4
    have HF : liveFault v p frm to hs = harmsFault v frm to hs := by unfold liveFault; rw [if_neg (fun hh => hh hb0), if_neg (by omega), if_pos h4]
    obtain ⟨HV, HO⟩ := live_bad (v := v) (p := p) (frm := frm) (to := to) (hs := hs) (by rw [HF]; first | assumption | decide)
    rw [HV, HO, HF]
    refine AWP.seq ?_
    refine AWP.region ?_
    refine AOps.step rfl rfl rfl (AOp.build rfl bu_26 .nil rfl) ?_
    refine AOps.step rfl rfl rfl (AOp.moveD rfl rfl) ?_
    refine AOps.store rfl rfl rfl sz_26 rfl (.head _) rfl rfl rfl (Nat.le_of_ble_eq_true rfl) ?_
    refine AOps.step rfl rfl rfl (AOp.assignD rfl rfl) ?_
    refine AOps.step rfl rfl rfl (AOp.assignD rfl rfl) ?_
    refine AOps.nil ?_
    refine AWP.ret ?_
    refine ⟨RetR.agg rfl (.head _) ag_26 rfl (.cons (by first | exact CellD.nil | exact CellD.d | exact CellD.eq (by simp) | (refine CellD.own (by first | exact .head _ | exact .tail _ (.head _)) ?_; rfl)) (.cons (by first | exact CellD.nil | exact CellD.d | exact CellD.eq (by simp) | (refine CellD.own (by first | exact .head _ | exact .tail _ (.head _)) ?_; rfl)) (.cons (by first | exact CellD.nil | exact CellD.d | exact CellD.eq (by simp) | (refine CellD.own (by first | exact .head _ | exact .tail _ (.head _)) ?_; rfl)) .nil))), RetD.nil rfl, RetD.eq rfl ?_, trivial⟩
    all_goals (rfl)
  replace h4 := of_decide_eq_false h4
  have hh0 := Decidable.not_not.1 h4
  have hok := hsok_of hh0
  refine AWP.skip ?_
  refine AWP.seq ?_
  refine AWP.region ?_
  refine AOps.step rfl rfl rfl (AOp.loadPU rfl ag_26 rfl (.tail _ (.head _)) rfl rfl) ?_
  refine AOps.callOwn rfl rfl rfl (.cons (SLe.refl _) .nil) (c_own v vo) rfl (fun _ _ => rfl) ?_
  refine AOps.eff rfl rfl (EOp.storeVal (ss' := vaultS v) rfl rfl hsz_26 rfl (.tail _ (.tail _ (.head _))) rfl (.head _) rfl (Nat.le_refl 3)) ?_
  refine AOps.nU rfl ?_
  refine AOps.nil ?_
  refine AWP.seq ?_
  refine AWP.region ?_
  refine AOps.step rfl rfl rfl (AOp.assignD rfl rfl) ?_
  refine AOps.nil ?_
  refine AWP.seq ?_
  refine AWP.seq ?_
  refine AWP.region ?_
  refine AOps.step rfl rfl rfl (AOp.moveD rfl rfl) ?_
  refine AOps.step rfl rfl rfl (AOp.assignD rfl rfl) ?_
  refine AOps.nil ?_
  refine AWP.block ?_
  refine AWP.adopt 15 210 47 5 rfl (fK rfl rfl) ?_
  refine AWP.nK rfl ?_
  refine AWP.loop (G := Nat) (fun i => Env.of [(16, .d (.v (.int .i64 (frm + (i : Int))))), (4, .d (.sl ((sAt v p frm hs i).hs.map Hrm.ds))), (3, .d (.v (.int .i64 to))), (5, .ptr 201 0), (6, .d (.fp p.ds)), (10, .ptr 202 0), (15, .own 210)]) (fun i => [(210, .row 47 5 (((sAt v p frm hs i).o).map Dn.ds)), (202, .cells ZV), (201, .cells (vaultS v))] ++ vObs (sAt v p frm hs i).l) (fun i => i ≤ (to - frm).toNat ∧ (sAt v p frm hs i).o.length ≤ 20000) (fun i => (to - frm).toNat - i) 0 ⟨Nat.zero_le _, Nat.zero_le _⟩ (Sub.less ⟨(SLe.i64 (by simp)), (SLe.of_eq rfl), SLe.refl _, SLe.refl _, SLe.refl _, SLe.refl _, SLe.refl _, trivial⟩ (sub_drop2 (b := (0, .bts [])))) ?_
  intro i hi
  refine AWP.seq ?_
  refine AWP.seq ?_
  refine AWP.region ?_
  refine AOps.step rfl rfl rfl (AOp.moveD rfl rfl) ?_
  refine AOps.step rfl rfl rfl (AOp.moveD rfl rfl) ?_
  refine AOps.step rfl rfl rfl (AOp.lss rfl rfl rfl) ?_
  refine AOps.nil ?_
  refine AWP.cond rfl (fun h5 => ?_) (fun h5 => ?_)
  · replace h5 := of_decide_eq_true h5
    have hin : i < (to - frm).toNat := by omega
    have hvs := liveTo_vok (s := ⟨v.copies, hs, []⟩) (frm := frm) vo hok.ok hpe.1 i (by omega)
    have hsh : ∀ h ∈ (sAt v p frm hs i).hs, HrmOk v h := fun h hm => hok.ok h (liveTo_hs (s := ⟨v.copies, hs, []⟩) i h hm)
    have hnl := hvs.np
    refine AWP.skip ?_
    refine AWP.seq ?_
    refine AWP.block ?_
    refine AWP.seq ?_
    refine AWP.block ?_
    refine AWP.loop (G := Nat) (fun j => Env.of [(4, .d (.sl (((sAt v p frm hs i).hs.drop j).map Hrm.ds))), (16, .d (.v (.int .i64 (frm + (i : Int))))), (3, .d (.v (.int .i64 to))), (5, .ptr 201 0), (6, .d (.fp p.ds)), (10, .ptr 202 0), (15, .own 210)]) (fun j => [(210, .row 47 5 (((sAt v p frm hs i).o).map Dn.ds)), (202, .cells ZV), (201, .cells (vaultS v))] ++ vObs (hAt (sAt v p frm hs i) (frm + (i : Int)) j)) (fun j => j ≤ (dayH (sAt v p frm hs i).hs (frm + (i : Int))).length) (fun j => (dayH (sAt v p frm hs i).hs (frm + (i : Int))).length - j) 0 (Nat.zero_le _) (Sub.less ⟨(SLe.of_eq rfl), SLe.refl _, SLe.refl _, SLe.refl _, SLe.refl _, SLe.refl _, SLe.refl _, trivial⟩ (mem_of_eq rfl)) ?_
    intro j hj
    refine AWP.seq ?_
    refine AWP.seq ?_
    refine AWP.region ?_
    refine AOps.step rfl rfl rfl (AOp.moveD rfl rfl) ?_
    refine AOps.step rfl rfl rfl (AOp.lenSl rfl et_41.ht rfl) ?_
    refine AOps.step rfl rfl rfl (AOp.gtr rfl rfl rfl) ?_
    refine AOps.step rfl rfl rfl (AOp.moveD rfl rfl) ?_
    refine AOps.split 56 rfl (fun g6 => ?_) (fun g6 => ?_)
    · replace g6 := of_decide_eq_true g6
      rw [List.length_map, List.length_drop] at g6
      have hjl : j < (sAt v p frm hs i).hs.length := by omega
      refine AOps.step ⟨56, rfl, .inl ⟨_, rfl, rfl⟩⟩ rfl rfl (AOp.moveD rfl rfl) ?_
      refine AOps.step ⟨56, rfl, .inl ⟨_, rfl, rfl⟩⟩ rfl rfl (AOp.indexAddr rfl et_41 rfl rfl 0 rfl (drop_at hjl) rfl) ?_
      refine AOps.step ⟨56, rfl, .inl ⟨_, rfl, rfl⟩⟩ rfl rfl (AOp.fieldAddr rfl fo_97_0 rfl) ?_
      refine AOps.step ⟨56, rfl, .inl ⟨_, rfl, rfl⟩⟩ rfl rfl (AOp.load rfl sc_3 rfl) ?_
      refine AOps.step ⟨56, rfl, .inl ⟨_, rfl, rfl⟩⟩ rfl rfl (AOp.moveD rfl rfl) ?_
      refine AOps.step ⟨56, rfl, .inl ⟨_, rfl, rfl⟩⟩ rfl rfl (AOp.eql rfl rfl rfl) ?_
      refine AOps.step rfl rfl rfl (AOp.pickT rfl rfl rfl) ?_
      refine AOps.nil ?_
      refine AWP.cond rfl (fun h7 => ?_) (fun h7 => ?_)
      · replace h7 := of_decide_eq_true h7
        have hjn := dayH_in hjl hj h7
        have hvh := hAt_vok hvs hsh (frm + (i : Int)) j
        have HN : hAt (sAt v p frm hs i) (frm + (i : Int)) (j + 1) = harmC (hAt (sAt v p frm hs i) (frm + (i : Int)) j) (sAt v p frm hs i).hs[j] := by
          obtain ⟨_, e1, _⟩ := dayH_get hjn
          rw [e1]
          exact fold_take hjn
        refine AWP.skip ?_
        refine AWP.block ?_
        refine AWP.seq ?_
        refine AWP.drawFresh 4 [⟨64, 100, .own 100, .val (vaultS v)⟩] (FrOk.one rfl (by simp) (fK rfl rfl) (kEq rfl rfl) rfl) (by kernel_rfl) (by kernel_rfl) (by kernel_rfl) (by kernel_rfl) ?_
        refine XRun.loadVal _ (.head _) rfl rfl rfl rfl rfl hag_v rfl (.tail _ (.tail _ (.head _))) (Nat.le_refl 3) rfl rfl ?_
        refine XRun.step rfl rfl rfl (AOp.moveD rfl rfl) ?_
        refine XRun.step rfl rfl rfl (AOp.indexAddr rfl het_48 rfl rfl 0 rfl (drop_at hjl) rfl) ?_
        refine XRun.step rfl rfl rfl (AOp.loadAgg rfl hag_57 rfl rfl) ?_
        refine XRun.nil ⟨rfl, trivial⟩ ?_
        refine AOps.callV (pre := [_, _, _]) rfl rfl rfl (.cons (SLe.refl _) (.cons (SLe.refl _) .nil)) (c_harm (withC v (hAt (sAt v p frm hs i) (frm + (i : Int)) j)) (sAt v p frm hs i).hs[j] (by have h1 : (hAt (sAt v p frm hs i) (frm + (i : Int)) j).length ≤ 200 := hvh.np; show (hAt (sAt v p frm hs i) (frm + (i : Int)) j).length ≤ 100000; omega) (fun c hc => Nat.le_trans (vok_bad hvh c hc) (by decide))) rfl (fun _ _ => rfl) ?_
        refine AOps.nil ?_
        refine AWP.region ?_
        refine AOps.step rfl rfl rfl (AOp.moveD rfl rfl) ?_
        refine AOps.step rfl rfl rfl (AOp.sliceL rfl et_41 rfl rfl (by decide) (by rw [List.length_map, List.length_drop]; omega) (fun y hy => by obtain ⟨x, _, rfl⟩ := List.mem_map.1 hy; rfl)) ?_
        refine AOps.step rfl rfl rfl (AOp.assignD rfl rfl) ?_
        refine AOps.nil ?_
        refine ⟨j + 1, (by dsimp only; omega), (by dsimp only; omega), Sub.less ⟨(SLe.of_eq (congrArg (fun x => S.d (D.sl x)) drop_next)), SLe.refl _, SLe.refl _, SLe.refl _, SLe.refl _, SLe.refl _, SLe.refl _, trivial⟩ (mem_of_eq (by dsimp only; rw [HN]; rfl))⟩
      replace h7 := of_decide_eq_false h7
      have hje : j = (dayH (sAt v p frm hs i).hs (frm + (i : Int))).length := dayH_end hj (fun _ => h7)
      refine AWP.exit ?_
      refine AWP.seq ?_
      subst hje
      refine AWP.region ?_
      refine AOps.step rfl rfl rfl (AOp.fieldAddrP rfl fo_26_2 rfl) ?_
      refine AOps.step rfl rfl rfl (AOp.loadP rfl sc_24 rfl (.tail _ (.tail _ (.head _))) rfl) ?_
      refine AOps.step rfl rfl rfl (AOp.weak (AOp.lenOwn rfl het_24.ht rfl (Obs.weak_mem (p := (101, _)) (.tail _ (.tail _ (.tail _ (.head _))))))) ?_
      refine AOps.step rfl rfl rfl (AOp.moveD rfl rfl) ?_
      refine AOps.nil ?_
      refine AWP.block ?_
      refine AWP.loop (G := Nat) (fun k => Env.of [(74, .d (.v (.int .i64 (k : Int)))), (72, .own 101), (73, .d (.v (.int .i64 ((sAt v p frm hs i).l.length : Int)))), (16, .d (.v (.int .i64 (frm + (i : Int))))), (4, .d (.sl (((sAt v p frm hs i).hs.drop (dayH (sAt v p frm hs i).hs (frm + (i : Int))).length).map Hrm.ds))), (3, .d (.v (.int .i64 to))), (5, .ptr 201 0), (6, .d (.fp p.ds)), (10, .ptr 202 0), (15, .own 210)]) (fun k => [(210, .row 47 5 (((cAt p.every (sAt v p frm hs i) (frm + (i : Int)) k).2).map Dn.ds)), (202, .cells ZV), (201, .cells (vaultS v))] ++ vObs (cAt p.every (sAt v p frm hs i) (frm + (i : Int)) k).1) (fun k => k ≤ (sAt v p frm hs i).l.length ∧ (cAt p.every (sAt v p frm hs i) (frm + (i : Int)) k).2.length ≤ 20000) (fun k => (sAt v p frm hs i).l.length - k) 0 ⟨Nat.zero_le _, hi.2⟩ (Sub.less ⟨(SLe.of_eq rfl), SLe.refl _, (SLe.i64 (by rw [List.length_map, cpysS_len, hAt_len])), SLe.refl _, SLe.refl _, SLe.refl _, SLe.refl _, SLe.refl _, SLe.refl _, SLe.refl _, trivial⟩ (mem_of_eq (by rw [hAt_all]; rfl))) ?_
      intro k hk
      refine AWP.seq ?_
      refine AWP.region ?_
      refine AOps.step rfl rfl rfl (AOp.lss rfl rfl rfl) ?_
      refine AOps.nil ?_
      refine AWP.seq ?_
      refine AWP.cond rfl (fun h8 => ?_) (fun h8 => ?_)
      · replace h8 := of_decide_eq_true h8
        have hkl : k < (sAt v p frm hs i).l.length := by omega
        have hkc : k < (cAt p.every (sAt v p frm hs i) (frm + (i : Int)) k).1.length := by rw [cAt_len]; exact hkl
        have hvc := cAt_vok hvs hsh hpe.1 (show (frm + (i : Int)) ≤ 200000 by omega) k
        have hck := hvc.cpy _ (List.getElem_mem hkc)
        have hla := hck.last
        have hda := hck.day
        have hnc : (cAt p.every (sAt v p frm hs i) (frm + (i : Int)) k).1.length ≤ 200 := hvc.np
        refine AWP.skip ?_
        refine AWP.seq ?_
        refine AWP.block ?_
        refine AWP.seq ?_
        refine AWP.region ?_
        refine AOps.step rfl rfl rfl (AOp.moveD rfl rfl) ?_
        refine AOps.step rfl rfl rfl (AOp.weak (AOp.indexOwn rfl het_24 rfl rfl (Obs.weak_mem (p := (101, _)) (.tail _ (.tail _ (.tail _ (.head _))))) k rfl (by rw [List.length_map, cpysS_len]; exact hkc))) ?_
        refine AOps.step rfl rfl rfl (AOp.weak (AOp.loadRowAgg rfl hag_77 rfl (Obs.weak_mem (p := (101, _)) (.tail _ (.tail _ (.tail _ (.head _))))) k rfl (cpysW hkc))) ?_
        refine AOps.alloc 203 rfl rfl rfl rfl zt_65 rfl rfl (fK rfl rfl) ?_
        refine AOps.nK rfl ?_
        refine AOps.step rfl rfl rfl (AOp.assignD rfl rfl) ?_
        refine AOps.store rfl rfl rfl sz_65 rfl (.head _) rfl rfl rfl (Nat.le_of_ble_eq_true rfl) ?_
        refine AOps.nU rfl ?_
        refine AOps.freezeCells 18 (ds := cpyW (cAt p.every (sAt v p frm hs i) (frm + (i : Int)) k).1[k]) rfl (.head _) ?_
        refine AOps.nD rfl ?_
        refine AOps.nil ?_
        refine AWP.seq ?_
        refine AWP.seq ?_
        refine AWP.region ?_
        refine AOps.step rfl rfl rfl (AOp.fieldAddr rfl fo_65_4 rfl) ?_
        refine AOps.step rfl rfl rfl (AOp.load rfl sc_3 rfl) ?_
        refine AOps.step rfl rfl rfl (AOp.fieldAddr rfl fo_28_3 rfl) ?_
        refine AOps.step rfl rfl rfl (AOp.load rfl sc_3 rfl) ?_
        refine AOps.step rfl rfl rfl (AOp.add64 rfl rfl rfl (by omega) (by omega)) ?_
        refine AOps.step rfl rfl rfl (AOp.moveD rfl rfl) ?_
        refine AOps.step rfl rfl rfl (AOp.gtr rfl rfl rfl) ?_
        refine AOps.nil ?_
        refine AWP.cond rfl (fun h9 => ?_) (fun h9 => ?_)
        · replace h9 := of_decide_eq_true h9
          have HC := cAt_next_no hkc h9
          refine AWP.exit ?_
          refine AWP.region ?_
          refine AOps.step rfl rfl rfl (AOp.add64 rfl rfl rfl (by omega) (by omega)) ?_
          refine AOps.step rfl rfl rfl (AOp.moveD rfl rfl) ?_
          refine AOps.nil ?_
          refine ⟨k + 1, ⟨by omega, by rw [HC]; exact hk.2⟩, (by dsimp only; omega), Sub.less ⟨(SLe.of_eq rfl), SLe.refl _, SLe.refl _, SLe.refl _, SLe.refl _, SLe.refl _, SLe.refl _, SLe.refl _, SLe.refl _, SLe.refl _, trivial⟩ (mem_of_eq (by dsimp only; rw [HC]; rfl))⟩
        replace h9 := of_decide_eq_false h9
        have hle := h9
        have HC := cAt_next hkc h9
        refine AWP.skip ?_
        refine AWP.seq ?_
        refine AWP.seq ?_
        refine AWP.region ?_
        refine AOps.step rfl rfl rfl (AOp.moveO rfl rfl) ?_
        refine AOps.step rfl rfl rfl (AOp.lenOwn rfl et_42.ht rfl (.head _)) ?_
        refine AOps.step rfl rfl rfl (AOp.eql rfl rfl rfl) ?_
        refine AOps.nil ?_
        refine AWP.cond rfl (fun h10 => ?_) (fun h10 => ?_)
        · replace h10 := of_decide_eq_true h10
          rw [List.length_map] at h10
          have HF := live_over hb0 hfr hft hh0 hin hkc hle (by omega)
          obtain ⟨HV, HO⟩ := live_bad (v := v) (p := p) (frm := frm) (to := to) (hs := hs) (by rw [HF]; first | assumption | decide)
          rw [HV, HO, HF]
          refine AWP.seq ?_
          refine AWP.region ?_
          refine AOps.step rfl rfl rfl (AOp.build rfl bu_26 .nil rfl) ?_
          refine AOps.store rfl rfl rfl sz_26 rfl (.tail _ (.head _)) rfl rfl rfl (Nat.le_of_ble_eq_true rfl) ?_
          refine AOps.nU rfl ?_
          refine AOps.step rfl rfl rfl (AOp.assignD rfl rfl) ?_
          refine AOps.step rfl rfl rfl (AOp.assignD rfl rfl) ?_
          refine AOps.nil ?_
          refine AWP.ret ?_
          refine ⟨RetR.agg rfl (.tail _ (.head _)) ag_26 rfl (.cons (by first | exact CellD.nil | exact CellD.d | exact CellD.eq (by simp) | (refine CellD.own (by first | exact .head _ | exact .tail _ (.head _)) ?_; rfl)) (.cons (by first | exact CellD.nil | exact CellD.d | exact CellD.eq (by simp) | (refine CellD.own (by first | exact .head _ | exact .tail _ (.head _)) ?_; rfl)) (.cons (by first | exact CellD.nil | exact CellD.d | exact CellD.eq (by simp) | (refine CellD.own (by first | exact .head _ | exact .tail _ (.head _)) ?_; rfl)) .nil))), RetD.nil rfl, RetD.eq rfl ?_, trivial⟩
          all_goals (rfl)
        replace h10 := of_decide_eq_false h10
        rw [List.length_map] at h10
        refine AWP.skip ?_
        refine AWP.region ?_
        refine AOps.step rfl rfl rfl (AOp.moveO rfl rfl) ?_
        refine AOps.loadVal 100 rfl rfl rfl rfl hag_v rfl (.tail _ (.tail _ (.head _))) (Nat.le_refl 3) (fK rfl rfl) ?_
        refine AOps.nK rfl ?_
        refine AOps.step rfl rfl rfl (AOp.moveD rfl rfl) ?_
        refine AOps.step rfl rfl rfl (AOp.moveD rfl rfl) ?_
        refine AOps.callV rfl rfl rfl (.cons (SLe.refl _) (.cons (SLe.refl _) (.cons (SLe.refl _) .nil))) (c_checked (withC v (cAt p.every (sAt v p frm hs i) (frm + (i : Int)) k).1) k (frm + (i : Int)) hkc (fun c hc => Nat.le_trans (vok_bad hvc c hc) (by decide))) rfl (fun _ _ => rfl) ?_
        refine AOps.step rfl rfl rfl (AOp.buildSlice rfl et_42 (.cons rfl rfl rfl .nil) rfl (by decide)) ?_
        -- append 96
        refine AOps.append rfl rfl rfl rfl et_42 rfl (.head _) rfl (fun y hy => by first | exact absurd hy List.not_mem_nil | (obtain rfl := List.mem_singleton.1 hy; rfl)) (by simp; omega) (by simp; omega) ?_
        refine AOps.nA rfl ?_
        refine AOps.step rfl rfl rfl (AOp.assignO rfl rfl) ?_
        refine AOps.nil ?_
        refine AWP.region ?_
        refine AOps.step rfl rfl rfl (AOp.add64 rfl rfl rfl (by omega) (by omega)) ?_
        refine AOps.step rfl rfl rfl (AOp.moveD rfl rfl) ?_
        refine AOps.nil ?_
        refine ⟨k + 1, ⟨by omega, by rw [HC.2, List.length_append]; simp; omega⟩, (by dsimp only; omega), Sub.less ⟨(SLe.of_eq rfl), SLe.refl _, SLe.refl _, SLe.refl _, SLe.refl _, SLe.refl _, SLe.refl _, SLe.refl _, SLe.refl _, SLe.refl _, trivial⟩ (mem_of_eq (by dsimp only; rw [HC.1, HC.2, List.map_append]; rfl))⟩
      replace h8 := of_decide_eq_false h8
      obtain rfl : k = (sAt v p frm hs i).l.length := by omega
      refine AWP.exit ?_
      refine AWP.region ?_
      refine AOps.step rfl rfl rfl (AOp.moveD rfl rfl) ?_
      refine AOps.step rfl rfl rfl (AOp.add64 rfl rfl rfl (by omega) (by omega)) ?_
      refine AOps.step rfl rfl rfl (AOp.assignD rfl rfl) ?_
      refine AOps.nil ?_
      refine ⟨i + 1, ⟨by omega, hk.2⟩, (by dsimp only; omega), Sub.less ⟨(SLe.i64 (by omega)), (SLe.of_eq rfl), SLe.refl _, SLe.refl _, SLe.refl _, SLe.refl _, SLe.refl _, trivial⟩ (mem_of_eq rfl)⟩
    replace g6 := of_decide_eq_false g6
    rw [List.length_map, List.length_drop] at g6
    have hje : j = (dayH (sAt v p frm hs i).hs (frm + (i : Int))).length := dayH_end hj (fun hjl => by omega)
    refine AOps.pass ⟨56, rfl, .inl ⟨_, rfl, rfl⟩⟩ rfl rfl ?_
    refine AOps.pass ⟨56, rfl, .inl ⟨_, rfl, rfl⟩⟩ rfl rfl ?_
    refine AOps.pass ⟨56, rfl, .inl ⟨_, rfl, rfl⟩⟩ rfl rfl ?_
    refine AOps.pass ⟨56, rfl, .inl ⟨_, rfl, rfl⟩⟩ rfl rfl ?_
    refine AOps.pass ⟨56, rfl, .inl ⟨_, rfl, rfl⟩⟩ rfl rfl ?_
    refine AOps.pass ⟨56, rfl, .inl ⟨_, rfl, rfl⟩⟩ rfl rfl ?_
    refine AOps.step rfl rfl rfl (AOp.pickF rfl rfl rfl) ?_
    refine AOps.nil ?_
    refine AWP.cond rfl (fun h => nomatch h) (fun _ => ?_)
    refine AWP.exit ?_
    refine AWP.seq ?_
    subst hje
    refine AWP.region ?_
    refine AOps.step rfl rfl rfl (AOp.fieldAddrP rfl fo_26_2 rfl) ?_
    refine AOps.step rfl rfl rfl (AOp.loadP rfl sc_24 rfl (.tail _ (.tail _ (.head _))) rfl) ?_
    refine AOps.step rfl rfl rfl (AOp.weak (AOp.lenOwn rfl het_24.ht rfl (Obs.weak_mem (p := (101, _)) (.tail _ (.tail _ (.tail _ (.head _))))))) ?_
    refine AOps.step rfl rfl rfl (AOp.moveD rfl rfl) ?_
    refine AOps.nil ?_
    refine AWP.block ?_
    refine AWP.loop (G := Nat) (fun k => Env.of [(74, .d (.v (.int .i64 (k : Int)))), (72, .own 101), (73, .d (.v (.int .i64 ((sAt v p frm hs i).l.length : Int)))), (16, .d (.v (.int .i64 (frm + (i : Int))))), (4, .d (.sl (((sAt v p frm hs i).hs.drop (dayH (sAt v p frm hs i).hs (frm + (i : Int))).length).map Hrm.ds))), (3, .d (.v (.int .i64 to))), (5, .ptr 201 0), (6, .d (.fp p.ds)), (10, .ptr 202 0), (15, .own 210)]) (fun k => [(210, .row 47 5 (((cAt p.every (sAt v p frm hs i) (frm + (i : Int)) k).2).map Dn.ds)), (202, .cells ZV), (201, .cells (vaultS v))] ++ vObs (cAt p.every (sAt v p frm hs i) (frm + (i : Int)) k).1) (fun k => k ≤ (sAt v p frm hs i).l.length ∧ (cAt p.every (sAt v p frm hs i) (frm + (i : Int)) k).2.length ≤ 20000) (fun k => (sAt v p frm hs i).l.length - k) 0 ⟨Nat.zero_le _, hi.2⟩ (Sub.less ⟨(SLe.of_eq rfl), SLe.refl _, (SLe.i64 (by rw [List.length_map, cpysS_len, hAt_len])), SLe.refl _, SLe.refl _, SLe.refl _, SLe.refl _, SLe.refl _, SLe.refl _, SLe.refl _, trivial⟩ (mem_of_eq (by rw [hAt_all]; rfl))) ?_
    intro k hk
    refine AWP.seq ?_
    refine AWP.region ?_
    refine AOps.step rfl rfl rfl (AOp.lss rfl rfl rfl) ?_
    refine AOps.nil ?_
    refine AWP.seq ?_
    refine AWP.cond rfl (fun h11 => ?_) (fun h11 => ?_)
    · replace h11 := of_decide_eq_true h11
      have hkl : k < (sAt v p frm hs i).l.length := by omega
      have hkc : k < (cAt p.every (sAt v p frm hs i) (frm + (i : Int)) k).1.length := by rw [cAt_len]; exact hkl
      have hvc := cAt_vok hvs hsh hpe.1 (show (frm + (i : Int)) ≤ 200000 by omega) k
      have hck := hvc.cpy _ (List.getElem_mem hkc)
      have hla := hck.last
      have hda := hck.day
      have hnc : (cAt p.every (sAt v p frm hs i) (frm + (i : Int)) k).1.length ≤ 200 := hvc.np
      refine AWP.skip ?_
      refine AWP.seq ?_
      refine AWP.block ?_
      refine AWP.seq ?_
      refine AWP.region ?_
      refine AOps.step rfl rfl rfl (AOp.moveD rfl rfl) ?_
      refine AOps.step rfl rfl rfl (AOp.weak (AOp.indexOwn rfl het_24 rfl rfl (Obs.weak_mem (p := (101, _)) (.tail _ (.tail _ (.tail _ (.head _))))) k rfl (by rw [List.length_map, cpysS_len]; exact hkc))) ?_
      refine AOps.step rfl rfl rfl (AOp.weak (AOp.loadRowAgg rfl hag_77 rfl (Obs.weak_mem (p := (101, _)) (.tail _ (.tail _ (.tail _ (.head _))))) k rfl (cpysW hkc))) ?_
      refine AOps.alloc 204 rfl rfl rfl rfl zt_65 rfl rfl (fK rfl rfl) ?_
      refine AOps.nK rfl ?_
      refine AOps.step rfl rfl rfl (AOp.assignD rfl rfl) ?_
      refine AOps.store rfl rfl rfl sz_65 rfl (.head _) rfl rfl rfl (Nat.le_of_ble_eq_true rfl) ?_
      refine AOps.nU rfl ?_
      refine AOps.freezeCells 18 (ds := cpyW (cAt p.every (sAt v p frm hs i) (frm + (i : Int)) k).1[k]) rfl (.head _) ?_
      refine AOps.nD rfl ?_
      refine AOps.nil ?_
      refine AWP.seq ?_
      refine AWP.seq ?_
      refine AWP.region ?_
      refine AOps.step rfl rfl rfl (AOp.fieldAddr rfl fo_65_4 rfl) ?_
      refine AOps.step rfl rfl rfl (AOp.load rfl sc_3 rfl) ?_
      refine AOps.step rfl rfl rfl (AOp.fieldAddr rfl fo_28_3 rfl) ?_
      refine AOps.step rfl rfl rfl (AOp.load rfl sc_3 rfl) ?_
      refine AOps.step rfl rfl rfl (AOp.add64 rfl rfl rfl (by omega) (by omega)) ?_
      refine AOps.step rfl rfl rfl (AOp.moveD rfl rfl) ?_
      refine AOps.step rfl rfl rfl (AOp.gtr rfl rfl rfl) ?_
      refine AOps.nil ?_
      refine AWP.cond rfl (fun h12 => ?_) (fun h12 => ?_)
      · replace h12 := of_decide_eq_true h12
        have HC := cAt_next_no hkc h12
        refine AWP.exit ?_
        refine AWP.region ?_
        refine AOps.step rfl rfl rfl (AOp.add64 rfl rfl rfl (by omega) (by omega)) ?_
        refine AOps.step rfl rfl rfl (AOp.moveD rfl rfl) ?_
        refine AOps.nil ?_
        refine ⟨k + 1, ⟨by omega, by rw [HC]; exact hk.2⟩, (by dsimp only; omega), Sub.less ⟨(SLe.of_eq rfl), SLe.refl _, SLe.refl _, SLe.refl _, SLe.refl _, SLe.refl _, SLe.refl _, SLe.refl _, SLe.refl _, SLe.refl _, trivial⟩ (mem_of_eq (by dsimp only; rw [HC]; rfl))⟩
      replace h12 := of_decide_eq_false h12
      have hle := h12
      have HC := cAt_next hkc h12
      refine AWP.skip ?_
      refine AWP.seq ?_
      refine AWP.seq ?_
      refine AWP.region ?_
      refine AOps.step rfl rfl rfl (AOp.moveO rfl rfl) ?_
      refine AOps.step rfl rfl rfl (AOp.lenOwn rfl et_42.ht rfl (.head _)) ?_
      refine AOps.step rfl rfl rfl (AOp.eql rfl rfl rfl) ?_
      refine AOps.nil ?_
      refine AWP.cond rfl (fun h13 => ?_) (fun h13 => ?_)
      · replace h13 := of_decide_eq_true h13
        rw [List.length_map] at h13
        have HF := live_over hb0 hfr hft hh0 hin hkc hle (by omega)
        obtain ⟨HV, HO⟩ := live_bad (v := v) (p := p) (frm := frm) (to := to) (hs := hs) (by rw [HF]; first | assumption | decide)
        rw [HV, HO, HF]
        refine AWP.seq ?_
        refine AWP.region ?_
        refine AOps.step rfl rfl rfl (AOp.build rfl bu_26 .nil rfl) ?_
        refine AOps.store rfl rfl rfl sz_26 rfl (.tail _ (.head _)) rfl rfl rfl (Nat.le_of_ble_eq_true rfl) ?_
        refine AOps.nU rfl ?_
        refine AOps.step rfl rfl rfl (AOp.assignD rfl rfl) ?_
        refine AOps.step rfl rfl rfl (AOp.assignD rfl rfl) ?_
        refine AOps.nil ?_
        refine AWP.ret ?_
        refine ⟨RetR.agg rfl (.tail _ (.head _)) ag_26 rfl (.cons (by first | exact CellD.nil | exact CellD.d | exact CellD.eq (by simp) | (refine CellD.own (by first | exact .head _ | exact .tail _ (.head _)) ?_; rfl)) (.cons (by first | exact CellD.nil | exact CellD.d | exact CellD.eq (by simp) | (refine CellD.own (by first | exact .head _ | exact .tail _ (.head _)) ?_; rfl)) (.cons (by first | exact CellD.nil | exact CellD.d | exact CellD.eq (by simp) | (refine CellD.own (by first | exact .head _ | exact .tail _ (.head _)) ?_; rfl)) .nil))), RetD.nil rfl, RetD.eq rfl ?_, trivial⟩
        all_goals (rfl)
      replace h13 := of_decide_eq_false h13
      rw [List.length_map] at h13
      refine AWP.skip ?_
      refine AWP.region ?_
      refine AOps.step rfl rfl rfl (AOp.moveO rfl rfl) ?_
      refine AOps.loadVal 100 rfl rfl rfl rfl hag_v rfl (.tail _ (.tail _ (.head _))) (Nat.le_refl 3) (fK rfl rfl) ?_
      refine AOps.nK rfl ?_
      refine AOps.step rfl rfl rfl (AOp.moveD rfl rfl) ?_
      refine AOps.step rfl rfl rfl (AOp.moveD rfl rfl) ?_
      refine AOps.callV rfl rfl rfl (.cons (SLe.refl _) (.cons (SLe.refl _) (.cons (SLe.refl _) .nil))) (c_checked (withC v (cAt p.every (sAt v p frm hs i) (frm + (i : Int)) k).1) k (frm + (i : Int)) hkc (fun c hc => Nat.le_trans (vok_bad hvc c hc) (by decide))) rfl (fun _ _ => rfl) ?_
      refine AOps.step rfl rfl rfl (AOp.buildSlice rfl et_42 (.cons rfl rfl rfl .nil) rfl (by decide)) ?_
      -- append 96
      refine AOps.append rfl rfl rfl rfl et_42 rfl (.head _) rfl (fun y hy => by first | exact absurd hy List.not_mem_nil | (obtain rfl := List.mem_singleton.1 hy; rfl)) (by simp; omega) (by simp; omega) ?_
      refine AOps.nA rfl ?_
      refine AOps.step rfl rfl rfl (AOp.assignO rfl rfl) ?_
      refine AOps.nil ?_
      refine AWP.region ?_
      refine AOps.step rfl rfl rfl (AOp.add64 rfl rfl rfl (by omega) (by omega)) ?_
      refine AOps.step rfl rfl rfl (AOp.moveD rfl rfl) ?_
      refine AOps.nil ?_
      refine ⟨k + 1, ⟨by omega, by rw [HC.2, List.length_append]; simp; omega⟩, (by dsimp only; omega), Sub.less ⟨(SLe.of_eq rfl), SLe.refl _, SLe.refl _, SLe.refl _, SLe.refl _, SLe.refl _, SLe.refl _, SLe.refl _, SLe.refl _, SLe.refl _, trivial⟩ (mem_of_eq (by dsimp only; rw [HC.1, HC.2, List.map_append]; rfl))⟩
    replace h11 := of_decide_eq_false h11
    obtain rfl : k = (sAt v p frm hs i).l.length := by omega
    refine AWP.exit ?_
    refine AWP.region ?_
    refine AOps.step rfl rfl rfl (AOp.moveD rfl rfl) ?_
    refine AOps.step rfl rfl rfl (AOp.add64 rfl rfl rfl (by omega) (by omega)) ?_
    refine AOps.step rfl rfl rfl (AOp.assignD rfl rfl) ?_
    refine AOps.nil ?_
    refine ⟨i + 1, ⟨by omega, hk.2⟩, (by dsimp only; omega), Sub.less ⟨(SLe.i64 (by omega)), (SLe.of_eq rfl), SLe.refl _, SLe.refl _, SLe.refl _, SLe.refl _, SLe.refl _, trivial⟩ (mem_of_eq rfl)⟩
  replace h5 := of_decide_eq_false h5
  obtain rfl : i = (to - frm).toNat := by omega
  obtain ⟨HF, HV, HO⟩ := live_ok hb0 hfr hft hh0 hi.2
  rw [HV, HO, HF]
  refine AWP.exit ?_
  refine AWP.seq ?_
  refine AWP.region ?_
  refine AOps.loadVal 100 rfl rfl rfl rfl hag_v rfl (.tail _ (.tail _ (.head _))) (Nat.le_refl 3) (fK rfl rfl) ?_
  refine AOps.nK rfl ?_
  refine AOps.step rfl rfl rfl (AOp.moveO rfl rfl) ?_
  refine AOps.eff rfl rfl (EOp.storeVal (ss' := vaultS v) rfl rfl hsz_26 rfl (.tail _ (.tail _ (.head _))) rfl (.head _) rfl (Nat.le_refl 3)) ?_
  refine AOps.nU rfl ?_
  refine AOps.step rfl rfl rfl (AOp.assignO rfl rfl) ?_
  refine AOps.step rfl rfl rfl (AOp.assignD rfl rfl) ?_
  refine AOps.nil ?_
  refine AWP.freezeCell 202 2 (d := .sl ((sAt v p frm hs (to - frm).toNat).l.map Cpy.ds)) (vObs (sAt v p frm hs (to - frm).toNat).l) [(210, .row 47 5 ((sAt v p frm hs (to - frm).toNat).o.map Dn.ds)), (202, .cells (vaultS v))] (.tail _ (.head _)) rfl (snap_copies fun p hp => hp) (fun p hp => (.tail _ (.tail _ (.tail _ (.tail _ hp))))) (fun p hp => ?_) (fun p hp q hq => ?_) ?_
  · rcases List.mem_cons.1 hp with rfl | hp
    · exact (.tail _ (.head _))
    obtain rfl := List.mem_singleton.1 hp
    exact (.tail _ (.tail _ (.head _)))
  · rcases vObs_ids hp with h4 | h4 <;> rcases List.mem_cons.1 hq with rfl | hq <;> first | (obtain rfl := List.mem_singleton.1 hq; dsimp only; omega) | (dsimp only; omega)
  refine AWP.ret ?_
  refine ⟨RetR.agg rfl (.tail _ (.head _)) ag_26 rfl (.cons (by first | exact CellD.nil | exact CellD.d | exact CellD.eq (by simp) | (refine CellD.own (by first | exact .head _ | exact .tail _ (.head _)) ?_; rfl)) (.cons (by first | exact CellD.nil | exact CellD.d | exact CellD.eq (by simp) | (refine CellD.own (by first | exact .head _ | exact .tail _ (.head _)) ?_; rfl)) (.cons (by first | exact CellD.nil | exact CellD.d | exact CellD.eq (by simp) | (refine CellD.own (by first | exact .head _ | exact .tail _ (.head _)) ?_; rfl)) .nil))), RetD.own rfl (.head _) ?_, RetD.eq rfl ?_, trivial⟩
  all_goals (rfl)

end Go.Proofs.YtieccphckobhjaaGreatDoor


namespace Go.Proofs.YtieccphckobhjaaGreatDoor
open Go.RowKit
set_option linter.unusedVariables false

/-! Types. -/
namespace TyR4
theorem ag_26 : AggT Tryz.prog 26 3 := .of (by kernel_rfl)
theorem ag_47 : AggT Tryz.prog 47 5 := .of (by kernel_rfl)
theorem ag_65 : AggT Tryz.prog 65 7 := .of (by kernel_rfl)
theorem ag_97 : AggT Tryz.prog 97 4 := .of (by kernel_rfl)
theorem bu_47 : StructT Tryz.prog 47 (fun i => (#[(0, 1), (1, 1), (2, 1), (3, 1), (4, 1)] : Array (Nat × Nat))[i]?) [(.int .i64 0), (.string ⟨#[]⟩), (.string ⟨#[]⟩), (.int .i64 0), (.int .i64 0)] := .of (by kernel_rfl) (by kernel_rfl) (by decide)
theorem et_22 : ElemTy Tryz.prog 22 62 2 24 (.agg #[(.string ⟨#[]⟩), (.int .i64 0)]) := ⟨by kernel_rfl, by kernel_rfl, by kernel_rfl, by decide⟩
theorem et_24 : ElemTy Tryz.prog 24 65 7 96 (.agg #[(.string ⟨#[]⟩), (.string ⟨#[]⟩), (.string ⟨#[]⟩), (.int .i64 0), (.int .i64 0), (.int .i64 0), (.slice none 0 0)]) := ⟨by kernel_rfl, by kernel_rfl, by kernel_rfl, by decide⟩
theorem et_41 : ElemTy Tryz.prog 41 97 4 48 (.agg #[(.int .i64 0), (.string ⟨#[]⟩), (.string ⟨#[]⟩), (.int .i64 0)]) := ⟨by kernel_rfl, by kernel_rfl, by kernel_rfl, by decide⟩
theorem et_63 : ElemTy Tryz.prog 63 3 1 8 (.int .i64 0) := ⟨by kernel_rfl, by kernel_rfl, by kernel_rfl, by decide⟩
theorem fo_26_0 : fieldOff Tryz.prog 26 0 = some 0 := by kernel_rfl
theorem fo_26_2 : fieldOff Tryz.prog 26 2 = some 2 := by kernel_rfl
theorem fo_62_1 : fieldOff Tryz.prog 62 1 = some 1 := by kernel_rfl
theorem fo_65_0 : fieldOff Tryz.prog 65 0 = some 0 := by kernel_rfl
theorem fo_65_1 : fieldOff Tryz.prog 65 1 = some 1 := by kernel_rfl
theorem fo_65_4 : fieldOff Tryz.prog 65 4 = some 4 := by kernel_rfl
theorem fo_65_6 : fieldOff Tryz.prog 65 6 = some 6 := by kernel_rfl
theorem fo_97_0 : fieldOff Tryz.prog 97 0 = some 0 := by kernel_rfl
theorem fo_97_1 : fieldOff Tryz.prog 97 1 = some 1 := by kernel_rfl
theorem fo_97_2 : fieldOff Tryz.prog 97 2 = some 2 := by kernel_rfl
theorem fo_97_3 : fieldOff Tryz.prog 97 3 = some 3 := by kernel_rfl
theorem sc_22 : Scal Tryz.prog 22 := .of (by kernel_rfl)
theorem sc_24 : Scal Tryz.prog 24 := .of (by kernel_rfl)
theorem sc_3 : Scal Tryz.prog 3 := .of (by kernel_rfl)
theorem sc_63 : Scal Tryz.prog 63 := .of (by kernel_rfl)
theorem sc_9 : Scal Tryz.prog 9 := .of (by kernel_rfl)
theorem sz_24 : ∀ w, (sizeOf 24).run Tryz.prog w = .ok 1 w := SizeT.of (by kernel_rfl)
theorem sz_26 : ∀ w, (sizeOf 26).run Tryz.prog w = .ok 3 w := SizeT.of (by kernel_rfl)
theorem sz_3 : ∀ w, (sizeOf 3).run Tryz.prog w = .ok 1 w := SizeT.of (by kernel_rfl)
theorem sz_47 : ∀ w, (sizeOf 47).run Tryz.prog w = .ok 5 w := SizeT.of (by kernel_rfl)
theorem sz_63 : ∀ w, (sizeOf 63).run Tryz.prog w = .ok 1 w := SizeT.of (by kernel_rfl)
theorem sz_65 : ∀ w, (sizeOf 65).run Tryz.prog w = .ok 7 w := SizeT.of (by kernel_rfl)
theorem sz_97 : ∀ w, (sizeOf 97).run Tryz.prog w = .ok 4 w := SizeT.of (by kernel_rfl)
theorem zt_26 : (Tryz.prog.info? 26).bind (·.zero) = some (.agg #[(.slice none 0 0), (.slice none 0 0), (.slice none 0 0)]) := by kernel_rfl
theorem zt_47 : (Tryz.prog.info? 47).bind (·.zero) = some (.agg #[(.int .i64 0), (.string ⟨#[]⟩), (.string ⟨#[]⟩), (.int .i64 0), (.int .i64 0)]) := by kernel_rfl
theorem zt_65 : (Tryz.prog.info? 65).bind (·.zero) = some (.agg #[(.string ⟨#[]⟩), (.string ⟨#[]⟩), (.string ⟨#[]⟩), (.int .i64 0), (.int .i64 0), (.int .i64 0), (.slice none 0 0)]) := by kernel_rfl
theorem zt_97 : (Tryz.prog.info? 97).bind (·.zero) = some (.agg #[(.int .i64 0), (.string ⟨#[]⟩), (.string ⟨#[]⟩), (.int .i64 0)]) := by kernel_rfl
end TyR4
open TyR4

set_option maxRecDepth 100000 in
set_option maxHeartbeats 1000000 in
theorem c_copyOfR (v : Vlt) (it ca : ByteArray) (hl : v.copies.length ≤ 100000) : ACall Tryz.prog 56 [.agg v.ds, .v (.string it), .v (.string ca)] (.v (.int .i64 (copyIdx v it ca))) := by
  refine acall_of (n := 29) (ds' := [.v (.int .i64 (copyIdx v it ca))]) Tryz.func56 rfl (by kernel_rfl) rfl [6] rfl rfl ?_
  intro B w0 F0 fr
  unfold copyIdx
  refine AWP.seq ?_
  refine AWP.region ?_
  refine AOps.step rfl rfl rfl (AOp.box rfl rfl rfl) ?_
  refine AOps.step rfl rfl rfl (AOp.assignD rfl rfl) ?_
  refine AOps.nil ?_
  refine AWP.seq ?_
  refine AWP.seq ?_
  refine AWP.region ?_
  refine AOps.step rfl rfl rfl (AOp.fieldAddr rfl fo_26_2 rfl) ?_
  refine AOps.step rfl rfl rfl (AOp.load rfl sc_24 rfl) ?_
  refine AOps.step rfl rfl rfl (AOp.lenSl rfl et_24.ht rfl) ?_
  refine AOps.step rfl rfl rfl (AOp.moveD rfl rfl) ?_
  refine AOps.nil ?_
  refine AWP.block ?_
  refine AWP.loop (G := Nat) (fun k => Env.of [(12, .d (.v (.int .i64 (k : Int)))), (10, .d (.sl (v.copies.map Cpy.ds))), (11, .d (.v (.int .i64 ((v.copies.map Cpy.ds).length : Int)))), (1, .d (.v (.string it))), (2, .d (.v (.string ca)))]) (fun k => []) (fun k => k ≤ v.copies.length ∧ ∀ c ∈ v.copies.take k, (decide (c.item = it) && decide (c.carrier = ca)) = false) (fun k => v.copies.length - k) 0 ⟨Nat.zero_le _, fun c h => by simp at h⟩ (Sub.less ⟨(SLe.of_eq rfl), SLe.refl _, SLe.refl _, SLe.refl _, SLe.refl _, trivial⟩ (fun _ h => h)) ?_
  intro k hk
  refine AWP.seq ?_
  refine AWP.region ?_
  refine AOps.step rfl rfl rfl (AOp.lss rfl rfl rfl) ?_
  refine AOps.nil ?_
  refine AWP.seq ?_
  refine AWP.cond rfl (fun h1 => ?_) (fun h1 => ?_)
  · replace h1 := of_decide_eq_true h1
    rw [List.length_map] at h1
    have hlt : k < v.copies.length := by omega
    refine AWP.skip ?_
    refine AWP.seq ?_
    refine AWP.block ?_
    refine AWP.seq ?_
    refine AWP.region ?_
    refine AOps.step rfl rfl rfl (AOp.moveD rfl rfl) ?_
    refine AOps.step rfl rfl rfl (AOp.indexAddr rfl et_24 rfl rfl k rfl (at_list hlt) rfl) ?_
    refine AOps.step rfl rfl rfl (AOp.loadAgg rfl ag_65 rfl rfl) ?_
    refine AOps.alloc 101 rfl rfl rfl rfl zt_65 rfl rfl rfl ?_
    refine AOps.step rfl rfl rfl (AOp.assignD rfl rfl) ?_
    refine AOps.store rfl rfl rfl sz_65 rfl (.head _) rfl rfl rfl (Nat.le_of_ble_eq_true rfl) ?_
    refine AOps.freezeCells 8 (ds := v.copies[k].ds) rfl (.head _) ?_
    refine AOps.nil ?_
    refine AWP.seq ?_
    refine AWP.region ?_
    refine AOps.step rfl rfl rfl (AOp.fieldAddr rfl fo_65_0 rfl) ?_
    refine AOps.step rfl rfl rfl (AOp.load rfl sc_9 rfl) ?_
    refine AOps.step rfl rfl rfl (AOp.moveD rfl rfl) ?_
    refine AOps.step rfl rfl rfl (AOp.seql rfl rfl rfl) ?_
    refine AOps.step rfl rfl rfl (AOp.moveD rfl rfl) ?_
    refine AOps.split 21 rfl (fun g2 => ?_) (fun g2 => ?_)
    · replace g2 := of_decide_eq_true g2
      have hi1 := g2
      refine AOps.step ⟨21, rfl, .inl ⟨_, rfl, rfl⟩⟩ rfl rfl (AOp.fieldAddr rfl fo_65_1 rfl) ?_
      refine AOps.step ⟨21, rfl, .inl ⟨_, rfl, rfl⟩⟩ rfl rfl (AOp.load rfl sc_9 rfl) ?_
      refine AOps.step ⟨21, rfl, .inl ⟨_, rfl, rfl⟩⟩ rfl rfl (AOp.moveD rfl rfl) ?_
      refine AOps.step ⟨21, rfl, .inl ⟨_, rfl, rfl⟩⟩ rfl rfl (AOp.seql rfl rfl rfl) ?_
      refine AOps.step rfl rfl rfl (AOp.pickT rfl rfl rfl) ?_
      refine AOps.nil ?_
      refine AWP.cond rfl (fun h3 => ?_) (fun h3 => ?_)
      · replace h3 := of_decide_eq_true h3
        rw [idxBy_yes hlt hk.2 (by simp only [hi1, h3]; simp)]
        refine AWP.seq ?_
        refine AWP.region ?_
        refine AOps.step rfl rfl rfl (AOp.moveD rfl rfl) ?_
        refine AOps.step rfl rfl rfl (AOp.assignD rfl rfl) ?_
        refine AOps.nil ?_
        refine AWP.ret ?_
        refine ⟨RetD.eq rfl ?_, trivial⟩
        all_goals (rfl)
      replace h3 := of_decide_eq_false h3
      have hT := take_false' (p := fun x : Cpy => decide (x.item = it) && decide (x.carrier = ca)) hlt hk.2 (by simp only [Bool.and_eq_false_iff]; exact .inr (decide_eq_false h3))
      refine AWP.skip ?_
      refine AWP.region ?_
      refine AOps.step rfl rfl rfl (AOp.add64 rfl rfl rfl (by omega) (by omega)) ?_
      refine AOps.step rfl rfl rfl (AOp.moveD rfl rfl) ?_
      refine AOps.nil ?_
      refine ⟨k + 1, ⟨by omega, hT⟩, (by dsimp only; omega), Sub.less ⟨(SLe.of_eq rfl), SLe.refl _, SLe.refl _, SLe.refl _, SLe.refl _, trivial⟩ (fun _ h => by cases h)⟩
    replace g2 := of_decide_eq_false g2
    have hT := take_false' (p := fun x : Cpy => decide (x.item = it) && decide (x.carrier = ca)) hlt hk.2 (by simp only [Bool.and_eq_false_iff]; exact .inl (decide_eq_false g2))
    refine AOps.pass ⟨21, rfl, .inl ⟨_, rfl, rfl⟩⟩ rfl rfl ?_
    refine AOps.pass ⟨21, rfl, .inl ⟨_, rfl, rfl⟩⟩ rfl rfl ?_
    refine AOps.pass ⟨21, rfl, .inl ⟨_, rfl, rfl⟩⟩ rfl rfl ?_
    refine AOps.pass ⟨21, rfl, .inl ⟨_, rfl, rfl⟩⟩ rfl rfl ?_
    refine AOps.step rfl rfl rfl (AOp.pickF rfl rfl rfl) ?_
    refine AOps.nil ?_
    refine AWP.cond rfl (fun h => nomatch h) (fun _ => ?_)
    refine AWP.skip ?_
    refine AWP.region ?_
    refine AOps.step rfl rfl rfl (AOp.add64 rfl rfl rfl (by omega) (by omega)) ?_
    refine AOps.step rfl rfl rfl (AOp.moveD rfl rfl) ?_
    refine AOps.nil ?_
    refine ⟨k + 1, ⟨by omega, hT⟩, (by dsimp only; omega), Sub.less ⟨(SLe.of_eq rfl), SLe.refl _, SLe.refl _, SLe.refl _, SLe.refl _, trivial⟩ (fun _ h => by cases h)⟩
  replace h1 := of_decide_eq_false h1
  rw [List.length_map] at h1
  rw [idxBy_no (fun c hc => hk.2 c (by rw [show k = v.copies.length by omega]; exact hc))]
  refine AWP.exit ?_
  refine AWP.seq ?_
  refine AWP.region ?_
  refine AOps.step rfl rfl rfl (AOp.assignD rfl rfl) ?_
  refine AOps.nil ?_
  refine AWP.ret ?_
  refine ⟨RetD.eq rfl ?_, trivial⟩
  all_goals (rfl)

set_option maxRecDepth 100000 in
set_option maxHeartbeats 1000000 in
theorem c_checkHarmsR (v : Vlt) (frm to : Int) (hs : List Hrm) (hv : okItems v) (hft : 0 ≤ frm ∧ frm ≤ to ∧ to ≤ 200001) : ACall Tryz.prog 52 [.agg v.ds, .v (.int .i64 frm), .v (.int .i64 to), .sl (hs.map Hrm.ds)] (.v (.int .i64 (harmsFault v frm to hs))) := by
  refine acall_of (n := 71) (ds' := [.v (.int .i64 (harmsFault v frm to hs))]) Tryz.func52 rfl (by kernel_rfl) rfl [8] rfl rfl ?_
  intro B w0 F0 fr
  refine AWP.bound 3 rfl (fun hbd3 => ?_)
  rw [List.length_map] at hbd3
  refine AWP.seq ?_
  refine AWP.region ?_
  refine AOps.step rfl rfl rfl (AOp.box rfl rfl rfl) ?_
  refine AOps.step rfl rfl rfl (AOp.assignD rfl rfl) ?_
  refine AOps.nil ?_
  refine AWP.seq ?_
  refine AWP.seq ?_
  refine AWP.region ?_
  refine AOps.step rfl rfl rfl (AOp.moveD rfl rfl) ?_
  refine AOps.step rfl rfl rfl (AOp.lenSl rfl et_41.ht rfl) ?_
  refine AOps.step rfl rfl rfl (AOp.gtr rfl rfl rfl) ?_
  refine AOps.nil ?_
  refine AWP.cond rfl (fun h1 => ?_) (fun h1 => ?_)
  · replace h1 := of_decide_eq_true h1
    rw [List.length_map] at h1
    have HF : harmsFault v frm to hs = 2 := if_pos h1
    refine AWP.seq ?_
    refine AWP.region ?_
    refine AOps.step rfl rfl rfl (AOp.assignD rfl rfl) ?_
    refine AOps.nil ?_
    refine AWP.ret ?_
    refine ⟨RetD.eq rfl ?_, trivial⟩
    all_goals (rw [HF])
  replace h1 := of_decide_eq_false h1
  rw [List.length_map] at h1
  have hL : ¬ 1000 < (hs.length : Int) := h1
  refine AWP.skip ?_
  refine AWP.seq ?_
  refine AWP.seq ?_
  refine AWP.region ?_
  refine AOps.step rfl rfl rfl (AOp.moveD rfl rfl) ?_
  refine AOps.step rfl rfl rfl (AOp.lenSl rfl et_41.ht rfl) ?_
  refine AOps.step rfl rfl rfl (AOp.moveD rfl rfl) ?_
  refine AOps.nil ?_
  refine AWP.block ?_
  refine AWP.loop (G := Nat) (fun k => Env.of [(17, .d (.v (.int .i64 (k : Int)))), (15, .d (.sl (hs.map Hrm.ds))), (16, .d (.v (.int .i64 ((hs.map Hrm.ds).length : Int)))), (4, .d (.fp v.ds)), (1, .d (.v (.int .i64 frm))), (2, .d (.v (.int .i64 to))), (3, .d (.sl (hs.map Hrm.ds)))]) (fun k => []) (fun k => k ≤ hs.length ∧ ffst (harmFault v frm to hs) k = 0) (fun k => hs.length - k) 0 ⟨Nat.zero_le _, rfl⟩ (Sub.less ⟨(SLe.of_eq rfl), SLe.refl _, SLe.refl _, SLe.refl _, SLe.refl _, SLe.refl _, SLe.refl _, trivial⟩ (fun _ h => h)) ?_
  intro k hk
  refine AWP.seq ?_
  refine AWP.region ?_
  refine AOps.step rfl rfl rfl (AOp.lss rfl rfl rfl) ?_
  refine AOps.nil ?_
  refine AWP.seq ?_
  refine AWP.cond rfl (fun h2 => ?_) (fun h2 => ?_)
  · replace h2 := of_decide_eq_true h2
    rw [List.length_map] at h2
    have hlt : k < hs.length := by omega
    refine AWP.skip ?_
    refine AWP.seq ?_
    refine AWP.block ?_
    refine AWP.seq ?_
    refine AWP.region ?_
    refine AOps.step rfl rfl rfl (AOp.moveD rfl rfl) ?_
    refine AOps.step rfl rfl rfl (AOp.indexAddr rfl et_41 rfl rfl k rfl (at_list hlt) rfl) ?_
    refine AOps.step rfl rfl rfl (AOp.loadAgg rfl ag_97 rfl rfl) ?_
    refine AOps.alloc 101 rfl rfl rfl rfl zt_97 rfl rfl rfl ?_
    refine AOps.step rfl rfl rfl (AOp.assignD rfl rfl) ?_
    refine AOps.store rfl rfl rfl sz_97 rfl (.head _) rfl rfl rfl (Nat.le_of_ble_eq_true rfl) ?_
    refine AOps.freezeCells 10 (ds := hs[k].ds) rfl (.head _) ?_
    refine AOps.nil ?_
    refine AWP.seq ?_
    refine AWP.region ?_
    refine AOps.step rfl rfl rfl (AOp.loadAgg rfl ag_26 rfl rfl) ?_
    refine AOps.step rfl rfl rfl (AOp.fieldAddr rfl fo_97_1 rfl) ?_
    refine AOps.step rfl rfl rfl (AOp.load rfl sc_9 rfl) ?_
    refine AOps.step rfl rfl rfl (AOp.call rfl (.cons (ArgOk.rfl' rfl) (.cons (ArgOk.rfl' rfl) .nil)) (c_itemOf _ _)) ?_
    refine AOps.step rfl rfl rfl (AOp.assignD rfl rfl) ?_
    refine AOps.nil ?_
    refine AWP.block ?_
    refine AWP.seq ?_
    refine AWP.region ?_
    refine AOps.step rfl rfl rfl (AOp.fieldAddr rfl fo_97_0 rfl) ?_
    refine AOps.step rfl rfl rfl (AOp.load rfl sc_3 rfl) ?_
    refine AOps.step rfl rfl rfl (AOp.moveD rfl rfl) ?_
    refine AOps.step rfl rfl rfl (AOp.moveD rfl rfl) ?_
    refine AOps.step rfl rfl rfl (AOp.sub64 rfl rfl rfl (by omega) (by omega)) ?_
    refine AOps.step rfl rfl rfl (AOp.call rfl (.cons (ArgOk.rfl' rfl) (.cons (ArgOk.rfl' rfl) (.cons (ArgOk.rfl' rfl) .nil))) (c_rWithin _ _ _)) ?_
    refine AOps.step rfl rfl rfl (AOp.not rfl rfl) ?_
    refine AOps.step rfl rfl rfl (AOp.assignD rfl rfl) ?_
    refine AOps.nil ?_
    refine AWP.cond rfl (fun h3 => ?_) (fun h3 => ?_)
    · replace h3 := bnot_t h3; replace h3 := of_decide_eq_false h3
      have HF : harmsFault v frm to hs = 1 := harms_hit hL hlt hk.2 (harmFault_1 hlt (by omega)) (by decide)
      refine AWP.seq ?_
      refine AWP.region ?_
      refine AOps.step rfl rfl rfl (AOp.assignD rfl rfl) ?_
      refine AOps.nil ?_
      refine AWP.ret ?_
      refine ⟨RetD.eq rfl ?_, trivial⟩
      all_goals (rw [HF])
    replace h3 := bnot_f h3; replace h3 := of_decide_eq_true h3
    have h1 : frm ≤ hs[k].day ∧ hs[k].day ≤ to - 1 := by omega
    refine AWP.seq ?_
    refine AWP.region ?_
    refine AOps.step rfl rfl rfl (AOp.moveD rfl rfl) ?_
    refine AOps.step rfl rfl rfl (AOp.lss rfl rfl rfl) ?_
    refine AOps.step rfl rfl rfl (AOp.moveD rfl rfl) ?_
    refine AOps.split 37 rfl (fun g4 => ?_) (fun g4 => ?_)
    · replace g4 := of_decide_eq_true g4
      have HF : harmsFault v frm to hs = 9 := harms_hit hL hlt hk.2 (harmFault_9 hlt h1 (.inl g4)) (by decide)
      refine AOps.pass ⟨37, rfl, .inl ⟨_, rfl, rfl⟩⟩ rfl rfl ?_
      refine AOps.pass ⟨37, rfl, .inl ⟨_, rfl, rfl⟩⟩ rfl rfl ?_
      refine AOps.pass ⟨37, rfl, .inl ⟨_, rfl, rfl⟩⟩ rfl rfl ?_
      refine AOps.pass ⟨37, rfl, .inl ⟨_, rfl, rfl⟩⟩ rfl rfl ?_
      refine AOps.pass ⟨37, rfl, .inl ⟨_, rfl, rfl⟩⟩ rfl rfl ?_
      refine AOps.step rfl rfl rfl (AOp.pickT rfl rfl rfl) ?_
      refine AOps.step rfl rfl rfl (AOp.assignD rfl rfl) ?_
      refine AOps.nil ?_
      refine AWP.cond rfl (fun _ => ?_) (fun h => nomatch h)
      refine AWP.seq ?_
      refine AWP.region ?_
      refine AOps.step rfl rfl rfl (AOp.assignD rfl rfl) ?_
      refine AOps.nil ?_
      refine AWP.ret ?_
      refine ⟨RetD.eq rfl ?_, trivial⟩
      all_goals (rw [HF])
    replace g4 := of_decide_eq_false g4
    refine AOps.step ⟨37, rfl, .inl ⟨_, rfl, rfl⟩⟩ rfl rfl (AOp.loadAgg rfl ag_26 rfl rfl) ?_
    refine AOps.step ⟨37, rfl, .inl ⟨_, rfl, rfl⟩⟩ rfl rfl (AOp.fieldAddr rfl fo_97_2 rfl) ?_
    refine AOps.step ⟨37, rfl, .inl ⟨_, rfl, rfl⟩⟩ rfl rfl (AOp.load rfl sc_9 rfl) ?_
    refine AOps.step ⟨37, rfl, .inl ⟨_, rfl, rfl⟩⟩ rfl rfl (AOp.call rfl (.cons (ArgOk.rfl' rfl) (.cons (ArgOk.rfl' rfl) .nil)) (c_carrierOf _ _)) ?_
    refine AOps.step ⟨37, rfl, .inl ⟨_, rfl, rfl⟩⟩ rfl rfl (AOp.lss rfl rfl rfl) ?_
    refine AOps.step rfl rfl rfl (AOp.pickF rfl rfl rfl) ?_
    refine AOps.step rfl rfl rfl (AOp.assignD rfl rfl) ?_
    refine AOps.nil ?_
    refine AWP.cond rfl (fun h5 => ?_) (fun h5 => ?_)
    · replace h5 := of_decide_eq_true h5
      have HF : harmsFault v frm to hs = 9 := harms_hit hL hlt hk.2 (harmFault_9 hlt h1 (.inr h5)) (by decide)
      refine AWP.seq ?_
      refine AWP.region ?_
      refine AOps.step rfl rfl rfl (AOp.assignD rfl rfl) ?_
      refine AOps.nil ?_
      refine AWP.ret ?_
      refine ⟨RetD.eq rfl ?_, trivial⟩
      all_goals (rw [HF])
    replace h5 := of_decide_eq_false h5
    have h2 : ¬ (itemIdx v hs[k].item < 0 ∨ carrIdx v hs[k].carrier < 0) := by omega
    obtain ⟨ki, hki, eki, _⟩ := idxBy_some (show 0 ≤ itemIdx v hs[k].item by omega)
    have hbi := hv _ (List.getElem_mem hki)
    have hib := itemBlocks_at hki eki
    refine AWP.seq ?_
    refine AWP.draw (by kernel_rfl) (by kernel_rfl) ?_
    refine DRun.step rfl rfl rfl (AOp.fieldAddr rfl fo_97_3 rfl) ?_
    refine DRun.step rfl rfl rfl (AOp.load rfl sc_3 rfl) ?_
    refine DRun.step rfl rfl rfl (AOp.fieldAddr rfl fo_26_0 rfl) ?_
    refine DRun.step rfl rfl rfl (AOp.load rfl sc_22 rfl) ?_
    refine DRun.step rfl rfl rfl (AOp.moveD rfl rfl) ?_
    refine DRun.step rfl rfl rfl (AOp.indexAddr rfl et_22 rfl rfl ki eki (at_list hki) rfl) ?_
    refine DRun.step rfl rfl rfl (AOp.fieldAddr rfl fo_62_1 rfl) ?_
    refine DRun.step rfl rfl rfl (AOp.load rfl sc_3 rfl) ?_
    refine DRun.step rfl rfl rfl (AOp.sub64 rfl rfl rfl (by omega) (by omega)) ?_
    refine DRun.step rfl rfl rfl (AOp.call rfl (.cons (ArgOk.rfl' rfl) (.cons (ArgOk.rfl' rfl) (.cons (ArgOk.rfl' rfl) .nil))) (c_rWithin _ _ _)) ?_
    refine DRun.step rfl rfl rfl (AOp.not rfl rfl) ?_
    refine DRun.step rfl rfl rfl (AOp.assignD rfl rfl) ?_
    refine DRun.nil ?_
    refine AWP.cond rfl (fun h6 => ?_) (fun h6 => ?_)
    · replace h6 := bnot_t h6; replace h6 := of_decide_eq_false h6
      have HF : harmsFault v frm to hs = 1 := harms_hit hL hlt hk.2 (harmFault_1b hlt h1 h2 (by rw [hib]; omega)) (by decide)
      refine AWP.seq ?_
      refine AWP.region ?_
      refine AOps.step rfl rfl rfl (AOp.assignD rfl rfl) ?_
      refine AOps.nil ?_
      refine AWP.ret ?_
      refine ⟨RetD.eq rfl ?_, trivial⟩
      all_goals (rw [HF])
    replace h6 := bnot_f h6; replace h6 := of_decide_eq_true h6
    have h3 : 0 ≤ hs[k].block ∧ hs[k].block ≤ itemBlocks v hs[k].item - 1 := by rw [hib]; omega
    refine AWP.seq ?_
    refine AWP.draw (by kernel_rfl) (by kernel_rfl) ?_
    refine DRun.step rfl rfl rfl (AOp.moveD rfl rfl) ?_
    refine DRun.step rfl rfl rfl (AOp.gtr rfl rfl rfl) ?_
    refine DRun.step rfl rfl rfl (AOp.moveD rfl rfl) ?_
    refine DRun.split 59 rfl (fun g7 => ?_) (fun g7 => ?_)
    · replace g7 := of_decide_eq_true g7
      refine DRun.step ⟨59, rfl, .inl ⟨_, rfl, rfl⟩⟩ rfl rfl (AOp.fieldAddr rfl fo_97_0 rfl) ?_
      refine DRun.step ⟨59, rfl, .inl ⟨_, rfl, rfl⟩⟩ rfl rfl (AOp.load rfl sc_3 rfl) ?_
      refine DRun.step ⟨59, rfl, .inl ⟨_, rfl, rfl⟩⟩ rfl rfl (AOp.moveD rfl rfl) ?_
      refine DRun.step ⟨59, rfl, .inl ⟨_, rfl, rfl⟩⟩ rfl rfl (AOp.moveD rfl rfl) ?_
      refine DRun.step ⟨59, rfl, .inl ⟨_, rfl, rfl⟩⟩ rfl rfl (AOp.sub64 rfl rfl rfl (by omega) (by omega)) ?_
      refine DRun.step ⟨59, rfl, .inl ⟨_, rfl, rfl⟩⟩ rfl rfl (AOp.indexAddr rfl et_41 rfl rfl (k - 1) (by omega) (at_list (by omega)) rfl) ?_
      refine DRun.step ⟨59, rfl, .inl ⟨_, rfl, rfl⟩⟩ rfl rfl (AOp.fieldAddr rfl fo_97_0 rfl) ?_
      refine DRun.step ⟨59, rfl, .inl ⟨_, rfl, rfl⟩⟩ rfl rfl (AOp.load rfl sc_3 rfl) ?_
      refine DRun.step ⟨59, rfl, .inl ⟨_, rfl, rfl⟩⟩ rfl rfl (AOp.lss rfl rfl rfl) ?_
      refine DRun.step rfl rfl rfl (AOp.pickT rfl rfl rfl) ?_
      refine DRun.step rfl rfl rfl (AOp.assignD rfl rfl) ?_
      refine DRun.nil ?_
      refine AWP.cond rfl (fun h8 => ?_) (fun h8 => ?_)
      · replace h8 := of_decide_eq_true h8
        have HF : harmsFault v frm to hs = 8 := harms_hit hL hlt hk.2 (harmFault_8 hlt h1 h2 h3 ⟨by omega, h8⟩) (by decide)
        refine AWP.seq ?_
        refine AWP.region ?_
        refine AOps.step rfl rfl rfl (AOp.assignD rfl rfl) ?_
        refine AOps.nil ?_
        refine AWP.ret ?_
        refine ⟨RetD.eq rfl ?_, trivial⟩
        all_goals (rw [HF])
      replace h8 := of_decide_eq_false h8
      have h4 : ¬ (0 < k ∧ hs[k].day < (hs[k - 1]'(by omega)).day) := fun hh => h8 hh.2
      refine AWP.skip ?_
      refine AWP.region ?_
      refine AOps.step rfl rfl rfl (AOp.add64 rfl rfl rfl (by omega) (by omega)) ?_
      refine AOps.step rfl rfl rfl (AOp.moveD rfl rfl) ?_
      refine AOps.nil ?_
      refine ⟨k + 1, ⟨by omega, ffst_next hk.2 (harmFault_0 hlt h1 h2 h3 h4)⟩, (by dsimp only; omega), Sub.less ⟨(SLe.of_eq rfl), SLe.refl _, SLe.refl _, SLe.refl _, SLe.refl _, SLe.refl _, SLe.refl _, trivial⟩ (fun _ h => by cases h)⟩
    replace g7 := of_decide_eq_false g7
    have h4 : ¬ (0 < k ∧ hs[k].day < (hs[k - 1]'(by omega)).day) := fun hh => by omega
    refine DRun.pass ⟨59, rfl, .inl ⟨_, rfl, rfl⟩⟩ rfl rfl ?_
    refine DRun.pass ⟨59, rfl, .inl ⟨_, rfl, rfl⟩⟩ rfl rfl ?_
    refine DRun.pass ⟨59, rfl, .inl ⟨_, rfl, rfl⟩⟩ rfl rfl ?_
    refine DRun.pass ⟨59, rfl, .inl ⟨_, rfl, rfl⟩⟩ rfl rfl ?_
    refine DRun.pass ⟨59, rfl, .inl ⟨_, rfl, rfl⟩⟩ rfl rfl ?_
    refine DRun.pass ⟨59, rfl, .inl ⟨_, rfl, rfl⟩⟩ rfl rfl ?_
    refine DRun.pass ⟨59, rfl, .inl ⟨_, rfl, rfl⟩⟩ rfl rfl ?_
    refine DRun.pass ⟨59, rfl, .inl ⟨_, rfl, rfl⟩⟩ rfl rfl ?_
    refine DRun.pass ⟨59, rfl, .inl ⟨_, rfl, rfl⟩⟩ rfl rfl ?_
    refine DRun.step rfl rfl rfl (AOp.pickF rfl rfl rfl) ?_
    refine DRun.step rfl rfl rfl (AOp.assignD rfl rfl) ?_
    refine DRun.nil ?_
    refine AWP.cond rfl (fun h => nomatch h) (fun _ => ?_)
    refine AWP.skip ?_
    refine AWP.region ?_
    refine AOps.step rfl rfl rfl (AOp.add64 rfl rfl rfl (by omega) (by omega)) ?_
    refine AOps.step rfl rfl rfl (AOp.moveD rfl rfl) ?_
    refine AOps.nil ?_
    refine ⟨k + 1, ⟨by omega, ffst_next hk.2 (harmFault_0 hlt h1 h2 h3 h4)⟩, (by dsimp only; omega), Sub.less ⟨(SLe.of_eq rfl), SLe.refl _, SLe.refl _, SLe.refl _, SLe.refl _, SLe.refl _, SLe.refl _, trivial⟩ (fun _ h => by cases h)⟩
  replace h2 := of_decide_eq_false h2
  rw [List.length_map] at h2
  have HF : harmsFault v frm to hs = 0 := by unfold harmsFault; rw [if_neg hL, ← show k = hs.length by omega]; exact hk.2
  refine AWP.exit ?_
  refine AWP.seq ?_
  refine AWP.region ?_
  refine AOps.step rfl rfl rfl (AOp.assignD rfl rfl) ?_
  refine AOps.nil ?_
  refine AWP.ret ?_
  refine ⟨RetD.eq rfl ?_, trivial⟩
  all_goals (rw [HF])


def wAt (l : List Cpy) (i : Nat) (n : Int) (k : Nat) : Bool := !decide (k = i) && (decide ((l.getD k zC).item = (l.getD i zC).item) && !decide (n ∈ (l.getD k zC).bad))
theorem getD_at {l : List Cpy} {k : Nat} (hk : k < l.length) : l.getD k zC = l[k] := by rw [List.getD_eq_getElem?_getD, List.getElem?_eq_getElem hk]; rfl
theorem whole_yes {l : List Cpy} {i k : Nat} {n : Int} (hi : i < l.length) (hk : k < l.length) (h1 : ¬ (k : Int) = (i : Int)) (h2 : l[k].item = l[i].item) (h3 : ¬ n ∈ l[k].bad) : wholeR l i n = true := by
  unfold wholeR
  rw [List.any_eq_true]
  refine ⟨k, List.mem_range.2 hk, ?_⟩
  rw [getD_at hk, getD_at hi]
  simp [h2, h3, show ¬ k = i by omega]
theorem whole_all {l : List Cpy} {i : Nat} {n : Int} (h : ∀ k, k < l.length → wAt l i n k = false) : wholeR l i n = false := by
  unfold wholeR
  rw [List.any_eq_false]
  intro k hk
  rw [show (!decide (k = i) && (decide ((l.getD k zC).item = (l.getD i zC).item) && !decide (n ∈ (l.getD k zC).bad))) = wAt l i n k from rfl, h k (List.mem_range.1 hk)]
  simp
theorem wAt_next {l : List Cpy} {i k : Nat} {n : Int} (h : ∀ j, j < k → wAt l i n j = false) (hk : wAt l i n k = false) : ∀ j, j < k + 1 → wAt l i n j = false := fun j hj => by
  by_cases e : j = k
  · subst e; exact hk
  · exact h j (by omega)
theorem wAt_0 {l : List Cpy} {i k : Nat} {n : Int} (h : (k : Int) = (i : Int)) : wAt l i n k = false := by unfold wAt; simp [show k = i by omega]
theorem wAt_1 {l : List Cpy} {i k : Nat} {n : Int} (hi : i < l.length) (hk : k < l.length) (h : ¬ l[k].item = l[i].item) : wAt l i n k = false := by unfold wAt; rw [getD_at hk, getD_at hi]; simp [h]
theorem wAt_2 {l : List Cpy} {i k : Nat} {n : Int} (hk : k < l.length) (h : n ∈ l[k].bad) : wAt l i n k = false := by unfold wAt; rw [getD_at hk]; simp [h]
def leftTo (l : List Cpy) (i j : Nat) : List Int := ((l.getD i zC).bad.take j).filter fun b => !wholeR l i b
theorem leftTo_all {l : List Cpy} {i : Nat} (hi : i < l.length) : leftTo l i l[i].bad.length = leftR l i := by unfold leftTo leftR; rw [getD_at hi, List.take_length]
theorem leftTo_le {l : List Cpy} {i : Nat} (hi : i < l.length) (j : Nat) : (leftTo l i j).length ≤ l[i].bad.length := by
  unfold leftTo
  rw [getD_at hi]
  exact Nat.le_trans (List.length_filter_le _ _) (by rw [List.length_take]; omega)
theorem leftTo_t {l : List Cpy} {i j : Nat} (hi : i < l.length) (hj : j < l[i].bad.length) (h : wholeR l i l[i].bad[j] = false) : leftTo l i (j + 1) = leftTo l i j ++ [l[i].bad[j]] := by
  unfold leftTo
  rw [getD_at hi, List.take_add_one, List.getElem?_eq_getElem hj, Option.toList_some, List.filter_append]
  simp [h]
theorem leftTo_f {l : List Cpy} {i j : Nat} (hi : i < l.length) (hj : j < l[i].bad.length) (h : wholeR l i l[i].bad[j] = true) : leftTo l i (j + 1) = leftTo l i j := by
  unfold leftTo
  rw [getD_at hi, List.take_add_one, List.getElem?_eq_getElem hj, Option.toList_some, List.filter_append]
  simp [h]


set_option maxRecDepth 100000 in
set_option maxHeartbeats 1000000 in
theorem c_whole (v : Vlt) (i : Nat) (n : Int) (hi : i < v.copies.length) (hl : v.copies.length ≤ 100000) : ACall Tryz.prog 104 [.agg v.ds, .v (.int .i64 (i : Int)), .v (.int .i64 n)] (.v (.bool (wholeR v.copies i n))) := by
  refine acall_of (n := 39) (ds' := [.v (.bool (wholeR v.copies i n))]) Tryz.func104 rfl (by kernel_rfl) rfl [6] rfl rfl ?_
  intro B w0 F0 fr
  refine AWP.seq ?_
  refine AWP.region ?_
  refine AOps.step rfl rfl rfl (AOp.box rfl rfl rfl) ?_
  refine AOps.step rfl rfl rfl (AOp.assignD rfl rfl) ?_
  refine AOps.nil ?_
  refine AWP.seq ?_
  refine AWP.seq ?_
  refine AWP.region ?_
  refine AOps.step rfl rfl rfl (AOp.fieldAddr rfl fo_26_2 rfl) ?_
  refine AOps.step rfl rfl rfl (AOp.load rfl sc_24 rfl) ?_
  refine AOps.step rfl rfl rfl (AOp.lenSl rfl et_24.ht rfl) ?_
  refine AOps.step rfl rfl rfl (AOp.moveD rfl rfl) ?_
  refine AOps.nil ?_
  refine AWP.block ?_
  refine AWP.loop (G := Nat) (fun k => Env.of [(12, .d (.v (.int .i64 (k : Int)))), (10, .d (.sl (v.copies.map Cpy.ds))), (11, .d (.v (.int .i64 ((v.copies.map Cpy.ds).length : Int)))), (3, .d (.fp v.ds)), (1, .d (.v (.int .i64 (i : Int)))), (2, .d (.v (.int .i64 n)))]) (fun k => []) (fun k => k ≤ v.copies.length ∧ ∀ j, j < k → wAt v.copies i n j = false) (fun k => v.copies.length - k) 0 ⟨Nat.zero_le _, fun j h => by omega⟩ (Sub.less ⟨(SLe.of_eq rfl), SLe.refl _, SLe.refl _, SLe.refl _, SLe.refl _, SLe.refl _, trivial⟩ (fun _ h => h)) ?_
  intro k hk
  refine AWP.seq ?_
  refine AWP.region ?_
  refine AOps.step rfl rfl rfl (AOp.lss rfl rfl rfl) ?_
  refine AOps.nil ?_
  refine AWP.seq ?_
  refine AWP.cond rfl (fun h1 => ?_) (fun h1 => ?_)
  · replace h1 := of_decide_eq_true h1
    rw [List.length_map] at h1
    have hlt : k < v.copies.length := by omega
    refine AWP.skip ?_
    refine AWP.seq ?_
    refine AWP.block ?_
    refine AWP.seq ?_
    refine AWP.region ?_
    refine AOps.step rfl rfl rfl (AOp.moveD rfl rfl) ?_
    refine AOps.step rfl rfl rfl (AOp.indexAddr rfl et_24 rfl rfl k rfl (at_list hlt) rfl) ?_
    refine AOps.step rfl rfl rfl (AOp.loadAgg rfl ag_65 rfl rfl) ?_
    refine AOps.alloc 101 rfl rfl rfl rfl zt_65 rfl rfl rfl ?_
    refine AOps.step rfl rfl rfl (AOp.assignD rfl rfl) ?_
    refine AOps.store rfl rfl rfl sz_65 rfl (.head _) rfl rfl rfl (Nat.le_of_ble_eq_true rfl) ?_
    refine AOps.freezeCells 8 (ds := v.copies[k].ds) rfl (.head _) ?_
    refine AOps.nil ?_
    refine AWP.seq ?_
    refine AWP.draw (by kernel_rfl) (by kernel_rfl) ?_
    refine DRun.step rfl rfl rfl (AOp.moveD rfl rfl) ?_
    refine DRun.step rfl rfl rfl (AOp.moveD rfl rfl) ?_
    refine DRun.step rfl rfl rfl (AOp.neq rfl rfl rfl) ?_
    refine DRun.step rfl rfl rfl (AOp.moveD rfl rfl) ?_
    refine DRun.split 20 rfl (fun g2 => ?_) (fun g2 => ?_)
    · replace g2 := of_decide_eq_true g2
      have hki := g2
      refine DRun.step ⟨20, rfl, .inl ⟨_, rfl, rfl⟩⟩ rfl rfl (AOp.fieldAddr rfl fo_65_0 rfl) ?_
      refine DRun.step ⟨20, rfl, .inl ⟨_, rfl, rfl⟩⟩ rfl rfl (AOp.load rfl sc_9 rfl) ?_
      refine DRun.step ⟨20, rfl, .inl ⟨_, rfl, rfl⟩⟩ rfl rfl (AOp.fieldAddr rfl fo_26_2 rfl) ?_
      refine DRun.step ⟨20, rfl, .inl ⟨_, rfl, rfl⟩⟩ rfl rfl (AOp.load rfl sc_24 rfl) ?_
      refine DRun.step ⟨20, rfl, .inl ⟨_, rfl, rfl⟩⟩ rfl rfl (AOp.moveD rfl rfl) ?_
      refine DRun.step ⟨20, rfl, .inl ⟨_, rfl, rfl⟩⟩ rfl rfl (AOp.indexAddr rfl et_24 rfl rfl i rfl (at_list hi) rfl) ?_
      refine DRun.step ⟨20, rfl, .inl ⟨_, rfl, rfl⟩⟩ rfl rfl (AOp.fieldAddr rfl fo_65_0 rfl) ?_
      refine DRun.step ⟨20, rfl, .inl ⟨_, rfl, rfl⟩⟩ rfl rfl (AOp.load rfl sc_9 rfl) ?_
      refine DRun.step ⟨20, rfl, .inl ⟨_, rfl, rfl⟩⟩ rfl rfl (AOp.seql rfl rfl rfl) ?_
      refine DRun.step rfl rfl rfl (AOp.pickT rfl rfl rfl) ?_
      refine DRun.step rfl rfl rfl (AOp.moveD rfl rfl) ?_
      refine DRun.split 31 rfl (fun g3 => ?_) (fun g3 => ?_)
      · replace g3 := of_decide_eq_true g3
        have hit := g3
        refine DRun.step ⟨31, rfl, .inl ⟨_, rfl, rfl⟩⟩ rfl rfl (AOp.fieldAddr rfl fo_65_6 rfl) ?_
        refine DRun.step ⟨31, rfl, .inl ⟨_, rfl, rfl⟩⟩ rfl rfl (AOp.load rfl sc_63 rfl) ?_
        refine DRun.step ⟨31, rfl, .inl ⟨_, rfl, rfl⟩⟩ rfl rfl (AOp.moveD rfl rfl) ?_
        refine DRun.step ⟨31, rfl, .inl ⟨_, rfl, rfl⟩⟩ rfl rfl (AOp.call rfl (.cons (ArgOk.rfl' rfl) (.cons (ArgOk.rfl' rfl) .nil)) (c_containsInt _ _)) ?_
        refine DRun.step ⟨31, rfl, .inl ⟨_, rfl, rfl⟩⟩ rfl rfl (AOp.not rfl rfl) ?_
        refine DRun.step rfl rfl rfl (AOp.pickT rfl rfl rfl) ?_
        refine DRun.nil ?_
        refine AWP.cond rfl (fun h4 => ?_) (fun h4 => ?_)
        · replace h4 := bnot_t h4; replace h4 := of_decide_eq_false h4
          rw [whole_yes hi hlt hki hit h4]
          refine AWP.seq ?_
          refine AWP.region ?_
          refine AOps.step rfl rfl rfl (AOp.assignD rfl rfl) ?_
          refine AOps.nil ?_
          refine AWP.ret ?_
          refine ⟨RetD.eq rfl ?_, trivial⟩
          all_goals (rfl)
        replace h4 := bnot_f h4; replace h4 := of_decide_eq_true h4
        have hF := wAt_next hk.2 (wAt_2 hlt h4)
        refine AWP.skip ?_
        refine AWP.region ?_
        refine AOps.step rfl rfl rfl (AOp.add64 rfl rfl rfl (by omega) (by omega)) ?_
        refine AOps.step rfl rfl rfl (AOp.moveD rfl rfl) ?_
        refine AOps.nil ?_
        refine ⟨k + 1, ⟨by omega, hF⟩, (by dsimp only; omega), Sub.less ⟨(SLe.of_eq rfl), SLe.refl _, SLe.refl _, SLe.refl _, SLe.refl _, SLe.refl _, trivial⟩ (fun _ h => by cases h)⟩
      replace g3 := of_decide_eq_false g3
      have hF := wAt_next hk.2 (wAt_1 hi hlt g3)
      refine DRun.pass ⟨31, rfl, .inl ⟨_, rfl, rfl⟩⟩ rfl rfl ?_
      refine DRun.pass ⟨31, rfl, .inl ⟨_, rfl, rfl⟩⟩ rfl rfl ?_
      refine DRun.pass ⟨31, rfl, .inl ⟨_, rfl, rfl⟩⟩ rfl rfl ?_
      refine DRun.pass ⟨31, rfl, .inl ⟨_, rfl, rfl⟩⟩ rfl rfl ?_
      refine DRun.pass ⟨31, rfl, .inl ⟨_, rfl, rfl⟩⟩ rfl rfl ?_
      refine DRun.step rfl rfl rfl (AOp.pickF rfl rfl rfl) ?_
      refine DRun.nil ?_
      refine AWP.cond rfl (fun h => nomatch h) (fun _ => ?_)
      refine AWP.skip ?_
      refine AWP.region ?_
      refine AOps.step rfl rfl rfl (AOp.add64 rfl rfl rfl (by omega) (by omega)) ?_
      refine AOps.step rfl rfl rfl (AOp.moveD rfl rfl) ?_
      refine AOps.nil ?_
      refine ⟨k + 1, ⟨by omega, hF⟩, (by dsimp only; omega), Sub.less ⟨(SLe.of_eq rfl), SLe.refl _, SLe.refl _, SLe.refl _, SLe.refl _, SLe.refl _, trivial⟩ (fun _ h => by cases h)⟩
    replace g2 := of_decide_eq_false g2
    have hF := wAt_next hk.2 (wAt_0 (Decidable.not_not.1 g2))
    refine DRun.pass ⟨20, rfl, .inl ⟨_, rfl, rfl⟩⟩ rfl rfl ?_
    refine DRun.pass ⟨20, rfl, .inl ⟨_, rfl, rfl⟩⟩ rfl rfl ?_
    refine DRun.pass ⟨20, rfl, .inl ⟨_, rfl, rfl⟩⟩ rfl rfl ?_
    refine DRun.pass ⟨20, rfl, .inl ⟨_, rfl, rfl⟩⟩ rfl rfl ?_
    refine DRun.pass ⟨20, rfl, .inl ⟨_, rfl, rfl⟩⟩ rfl rfl ?_
    refine DRun.pass ⟨20, rfl, .inl ⟨_, rfl, rfl⟩⟩ rfl rfl ?_
    refine DRun.pass ⟨20, rfl, .inl ⟨_, rfl, rfl⟩⟩ rfl rfl ?_
    refine DRun.pass ⟨20, rfl, .inl ⟨_, rfl, rfl⟩⟩ rfl rfl ?_
    refine DRun.pass ⟨20, rfl, .inl ⟨_, rfl, rfl⟩⟩ rfl rfl ?_
    refine DRun.step rfl rfl rfl (AOp.pickF rfl rfl rfl) ?_
    refine DRun.step rfl rfl rfl (AOp.moveD rfl rfl) ?_
    refine DRun.pass ⟨31, rfl, .inl ⟨_, rfl, rfl⟩⟩ rfl rfl ?_
    refine DRun.pass ⟨31, rfl, .inl ⟨_, rfl, rfl⟩⟩ rfl rfl ?_
    refine DRun.pass ⟨31, rfl, .inl ⟨_, rfl, rfl⟩⟩ rfl rfl ?_
    refine DRun.pass ⟨31, rfl, .inl ⟨_, rfl, rfl⟩⟩ rfl rfl ?_
    refine DRun.pass ⟨31, rfl, .inl ⟨_, rfl, rfl⟩⟩ rfl rfl ?_
    refine DRun.step rfl rfl rfl (AOp.pickF rfl rfl rfl) ?_
    refine DRun.nil ?_
    refine AWP.cond rfl (fun h => nomatch h) (fun _ => ?_)
    refine AWP.skip ?_
    refine AWP.region ?_
    refine AOps.step rfl rfl rfl (AOp.add64 rfl rfl rfl (by omega) (by omega)) ?_
    refine AOps.step rfl rfl rfl (AOp.moveD rfl rfl) ?_
    refine AOps.nil ?_
    refine ⟨k + 1, ⟨by omega, hF⟩, (by dsimp only; omega), Sub.less ⟨(SLe.of_eq rfl), SLe.refl _, SLe.refl _, SLe.refl _, SLe.refl _, SLe.refl _, trivial⟩ (fun _ h => by cases h)⟩
  replace h1 := of_decide_eq_false h1
  rw [List.length_map] at h1
  rw [whole_all (fun j hj => hk.2 j (by omega))]
  refine AWP.exit ?_
  refine AWP.seq ?_
  refine AWP.region ?_
  refine AOps.step rfl rfl rfl (AOp.assignD rfl rfl) ?_
  refine AOps.nil ?_
  refine AWP.ret ?_
  refine ⟨RetD.eq rfl ?_, trivial⟩
  all_goals (rfl)


theorem chk_ds {v : Vlt} {i : Nat} (hi : i < v.copies.length) (day : Int) : [.sl (v.items.map Item.ds), .sl (v.carrs.map Carr.ds), .sl ((v.copies.map Cpy.ds).set i [.v (.string v.copies[i].item), .v (.string v.copies[i].carrier), .v (.string v.copies[i].frm), .v (.int .i64 v.copies[i].day), .v (.int .i64 day), .v (.int .i64 v.copies[i].gen), .sl ((leftR v.copies i).map intD)])] = (withC v (chkR v.copies i day)).ds := by
  unfold chkR
  rw [getD_at hi]
  show _ = [D.sl _, D.sl _, D.sl ((v.copies.set i _).map Cpy.ds)]
  rw [List.map_set]
  rfl
theorem dn_ds {v : Vlt} {i : Nat} (hi : i < v.copies.length) (day : Int) : [.v (.int .i64 day), .v (.string v.copies[i].item), .v (.string v.copies[i].carrier), .v (.int .i64 ((v.copies[i].bad.length : Int) - ((leftR v.copies i).length : Int))), .v (.int .i64 ((leftR v.copies i).length : Int))] = (dnR v.copies i day).ds := by
  unfold dnR
  rw [getD_at hi]
  rfl


set_option maxRecDepth 100000 in
set_option maxHeartbeats 1000000 in
theorem c_checkedR (v : Vlt) (i : Nat) (day : Int) (hi : i < v.copies.length) (hl : v.copies.length ≤ 100000) (hb : v.copies[i].bad.length ≤ 100000) : ACall Tryz.prog 55 [.agg v.ds, .v (.int .i64 (i : Int)), .v (.int .i64 day)] (.tup [.agg (withC v (chkR v.copies i day)).ds, .agg (dnR v.copies i day).ds]) := by
  refine acall_ofR (n := 64) (ds' := [.agg (withC v (chkR v.copies i day)).ds, .agg (dnR v.copies i day).ds]) Tryz.func55 rfl (by kernel_rfl) rfl [.cell 6 26, .cell 7 47] rfl rfl ?_
  intro B w0 F0 fr
  refine AWP.seq ?_
  refine AWP.region ?_
  refine AOps.boxOwn 90 rfl rfl rfl rfl rfl rfl rfl ?_
  refine AOps.alloc 11 rfl rfl rfl rfl zt_26 rfl rfl rfl ?_
  refine AOps.alloc 12 rfl rfl rfl rfl zt_47 rfl rfl rfl ?_
  refine AOps.nil ?_
  refine AWP.seq ?_
  refine AWP.region ?_
  refine AOps.step rfl rfl rfl (AOp.fieldAddrP rfl fo_26_2 rfl) ?_
  refine AOps.step rfl rfl rfl (AOp.loadP rfl sc_24 rfl (.tail _ (.tail _ (.head _))) rfl) ?_
  refine AOps.step rfl rfl rfl (AOp.moveD rfl rfl) ?_
  refine AOps.step rfl rfl rfl (AOp.indexAddr rfl et_24 rfl rfl i rfl (at_list hi) rfl) ?_
  refine AOps.step rfl rfl rfl (AOp.loadAgg rfl ag_65 rfl rfl) ?_
  refine AOps.alloc 13 rfl rfl rfl rfl zt_65 rfl rfl rfl ?_
  refine AOps.store rfl rfl rfl sz_65 rfl (.head _) rfl rfl rfl (Nat.le_of_ble_eq_true rfl) ?_
  refine AOps.nil ?_
  refine AWP.seq ?_
  refine AWP.region ?_
  refine AOps.step rfl rfl rfl (AOp.assignD rfl rfl) ?_
  refine AOps.nil ?_
  refine AWP.seq ?_
  refine AWP.seq ?_
  refine AWP.region ?_
  refine AOps.step rfl rfl rfl (AOp.fieldAddrP rfl fo_65_6 rfl) ?_
  refine AOps.step rfl rfl rfl (AOp.loadP rfl sc_63 rfl (.head _) rfl) ?_
  refine AOps.step rfl rfl rfl (AOp.lenSl rfl et_63.ht rfl) ?_
  refine AOps.step rfl rfl rfl (AOp.moveD rfl rfl) ?_
  refine AOps.nil ?_
  refine AWP.block ?_
  refine AWP.adopt 9 51 3 1 rfl rfl ?_
  refine AWP.loop (G := Nat) (fun j => Env.of [(21, .d (.v (.int .i64 (j : Int)))), (19, .d (.sl (v.copies[i].bad.map intD))), (20, .d (.v (.int .i64 ((v.copies[i].bad.map intD).length : Int)))), (9, .own 51), (8, .ptr 13 0), (3, .ptr 90 0), (6, .ptr 11 0), (7, .ptr 12 0), (1, .d (.v (.int .i64 (i : Int)))), (2, .d (.v (.int .i64 day)))]) (fun j => [(51, .row 3 1 ((leftTo v.copies i j).map intD)), (13, .cells (v.copies[i].ds.map S.d)), (12, .cells [.d (.v (.int .i64 0)), .d (.v (.string ⟨#[]⟩)), .d (.v (.string ⟨#[]⟩)), .d (.v (.int .i64 0)), .d (.v (.int .i64 0))]), (11, .cells [.d (.v (.slice none 0 0)), .d (.v (.slice none 0 0)), .d (.v (.slice none 0 0))]), (90, .cells (v.ds.map S.d))]) (fun j => j ≤ v.copies[i].bad.length) (fun j => v.copies[i].bad.length - j) 0 (Nat.zero_le _) (Sub.less ⟨(SLe.of_eq rfl), SLe.refl _, SLe.refl _, SLe.refl _, SLe.refl _, SLe.refl _, SLe.refl _, SLe.refl _, SLe.refl _, SLe.refl _, trivial⟩ (mem_of_eq rfl)) ?_
  intro j hk
  refine AWP.seq ?_
  refine AWP.region ?_
  refine AOps.step rfl rfl rfl (AOp.lss rfl rfl rfl) ?_
  refine AOps.nil ?_
  refine AWP.seq ?_
  refine AWP.cond rfl (fun h1 => ?_) (fun h1 => ?_)
  · replace h1 := of_decide_eq_true h1
    rw [List.length_map] at h1
    have hlt : j < v.copies[i].bad.length := by omega
    have hll := leftTo_le hi j
    refine AWP.skip ?_
    refine AWP.seq ?_
    refine AWP.block ?_
    refine AWP.seq ?_
    refine AWP.region ?_
    refine AOps.step rfl rfl rfl (AOp.indexAddr rfl et_63 rfl rfl j rfl (at_list hlt) rfl) ?_
    refine AOps.step rfl rfl rfl (AOp.load rfl sc_3 rfl) ?_
    refine AOps.step rfl rfl rfl (AOp.assignD rfl rfl) ?_
    refine AOps.nil ?_
    refine AWP.seq ?_
    refine AWP.region ?_
    refine AOps.step rfl rfl rfl (AOp.loadPU rfl ag_26 rfl (.tail _ (.tail _ (.tail _ (.tail _ (.head _))))) rfl rfl) ?_
    refine AOps.step rfl rfl rfl (AOp.moveD rfl rfl) ?_
    refine AOps.step rfl rfl rfl (AOp.moveD rfl rfl) ?_
    refine AOps.step rfl rfl rfl (AOp.call rfl (.cons (ArgOk.rfl' rfl) (.cons (ArgOk.rfl' rfl) (.cons (ArgOk.rfl' rfl) .nil))) (c_whole v i _ hi hl)) ?_
    refine AOps.step rfl rfl rfl (AOp.not rfl rfl) ?_
    refine AOps.nil ?_
    refine AWP.cond rfl (fun h2 => ?_) (fun h2 => ?_)
    · replace h2 := bnot_t h2
      have HT := leftTo_t hi hlt (by simpa using h2)
      refine AWP.region ?_
      refine AOps.step rfl rfl rfl (AOp.moveO rfl rfl) ?_
      refine AOps.step rfl rfl rfl (AOp.moveD rfl rfl) ?_
      refine AOps.step rfl rfl rfl (AOp.buildSlice rfl et_63 (.cons rfl rfl rfl .nil) rfl (by decide)) ?_
      -- append 33
      refine AOps.append rfl rfl rfl rfl et_63 rfl (.head _) rfl (by simp [D.parts]) (by simp; omega) (by simp; omega) ?_
      refine AOps.step rfl rfl rfl (AOp.assignO rfl rfl) ?_
      refine AOps.nil ?_
      refine AWP.region ?_
      refine AOps.step rfl rfl rfl (AOp.add64 rfl rfl rfl (by omega) (by omega)) ?_
      refine AOps.step rfl rfl rfl (AOp.moveD rfl rfl) ?_
      refine AOps.nil ?_
      refine ⟨j + 1, (by omega), (by dsimp only; omega), Sub.less ⟨(SLe.of_eq rfl), SLe.refl _, SLe.refl _, SLe.refl _, SLe.refl _, SLe.refl _, SLe.refl _, SLe.refl _, SLe.refl _, SLe.refl _, trivial⟩ (mem_of_eq (by dsimp only; rw [HT, List.map_append]; rfl))⟩
    replace h2 := bnot_f h2
    have HT := leftTo_f hi hlt (by simpa using h2)
    refine AWP.skip ?_
    refine AWP.region ?_
    refine AOps.step rfl rfl rfl (AOp.add64 rfl rfl rfl (by omega) (by omega)) ?_
    refine AOps.step rfl rfl rfl (AOp.moveD rfl rfl) ?_
    refine AOps.nil ?_
    refine ⟨j + 1, (by omega), (by dsimp only; omega), Sub.less ⟨(SLe.of_eq rfl), SLe.refl _, SLe.refl _, SLe.refl _, SLe.refl _, SLe.refl _, SLe.refl _, SLe.refl _, SLe.refl _, SLe.refl _, trivial⟩ (mem_of_eq (by dsimp only; rw [HT]))⟩
  replace h1 := of_decide_eq_false h1
  rw [List.length_map] at h1
  obtain rfl : j = v.copies[i].bad.length := by omega
  rw [leftTo_all hi]
  have hll := leftTo_le hi v.copies[i].bad.length
  rw [leftTo_all hi] at hll
  refine AWP.exit ?_
  refine AWP.seq ?_
  refine AWP.region ?_
  refine AOps.freeze 9 rfl (.head _) ?_
  refine AOps.step rfl rfl rfl (AOp.moveD rfl rfl) ?_
  refine AOps.step rfl rfl rfl (AOp.fieldAddrP rfl fo_65_0 rfl) ?_
  refine AOps.step rfl rfl rfl (AOp.loadP rfl sc_9 rfl (.head _) rfl) ?_
  refine AOps.step rfl rfl rfl (AOp.fieldAddrP rfl fo_65_1 rfl) ?_
  refine AOps.step rfl rfl rfl (AOp.loadP rfl sc_9 rfl (.head _) rfl) ?_
  refine AOps.step rfl rfl rfl (AOp.fieldAddrP rfl fo_65_6 rfl) ?_
  refine AOps.step rfl rfl rfl (AOp.loadP rfl sc_63 rfl (.head _) rfl) ?_
  refine AOps.step rfl rfl rfl (AOp.lenSl rfl et_63.ht rfl) ?_
  refine AOps.step rfl rfl rfl (AOp.moveD rfl rfl) ?_
  refine AOps.step rfl rfl rfl (AOp.lenSl rfl et_63.ht rfl) ?_
  refine AOps.step rfl rfl rfl (AOp.sub64 rfl rfl rfl (by simp only [List.length_map]; omega) (by simp only [List.length_map]; omega)) ?_
  refine AOps.le 45 (s' := .d (.v (.int .i64 ((v.copies[i].bad.length : Int) - ((leftR v.copies i).length : Int))))) rfl (SLe.i64 (by rw [List.length_map, List.length_map])) ?_
  refine AOps.step rfl rfl rfl (AOp.moveD rfl rfl) ?_
  refine AOps.step rfl rfl rfl (AOp.lenSl rfl et_63.ht rfl) ?_
  refine AOps.le 47 (s' := .d (.v (.int .i64 ((leftR v.copies i).length : Int)))) rfl (SLe.i64 (by rw [List.length_map])) ?_
  refine AOps.step rfl rfl rfl (AOp.build rfl bu_47 (.cons rfl rfl (.cons rfl rfl (.cons rfl rfl (.cons rfl rfl (.cons rfl rfl .nil))))) rfl) ?_
  refine AOps.alloc 14 rfl rfl rfl rfl zt_47 rfl rfl rfl ?_
  refine AOps.store rfl rfl rfl sz_47 rfl (.head _) rfl rfl rfl (Nat.le_of_ble_eq_true rfl) ?_
  refine AOps.freezeCells 12 (ds := [.v (.int .i64 day), .v (.string v.copies[i].item), .v (.string v.copies[i].carrier), .v (.int .i64 ((v.copies[i].bad.length : Int) - ((leftR v.copies i).length : Int))), .v (.int .i64 ((leftR v.copies i).length : Int))]) rfl (.head _) ?_
  refine AOps.nil ?_
  refine AWP.seq ?_
  refine AWP.region ?_
  refine AOps.step rfl rfl rfl (AOp.moveD rfl rfl) ?_
  refine AOps.step rfl rfl rfl (AOp.moveD rfl rfl) ?_
  refine AOps.step rfl rfl rfl (AOp.fieldAddrP rfl fo_65_6 rfl) ?_
  refine AOps.store rfl rfl rfl sz_63 rfl (.head _) rfl rfl rfl (Nat.le_of_ble_eq_true rfl) ?_
  refine AOps.step rfl rfl rfl (AOp.fieldAddrP rfl fo_65_4 rfl) ?_
  refine AOps.store rfl rfl rfl sz_3 rfl (.head _) rfl rfl rfl (Nat.le_of_ble_eq_true rfl) ?_
  refine AOps.nil ?_
  refine AWP.seq ?_
  refine AWP.region ?_
  refine AOps.step rfl rfl rfl (AOp.fieldAddrP rfl fo_26_2 rfl) ?_
  refine AOps.step rfl rfl rfl (AOp.loadP rfl sc_24 rfl (.tail _ (.tail _ (.tail _ (.head _)))) rfl) ?_
  refine AOps.callO 15 rfl rfl rfl rfl (.cons (ArgOk.rfl' rfl) .nil) (c_clCpy v.copies (by omega)) rfl ?_
  refine AOps.step rfl rfl rfl (AOp.fieldAddrP rfl fo_26_2 rfl) ?_
  refine AOps.storeS rfl rfl rfl sz_24 rfl (.tail _ (.tail _ (.tail _ (.tail _ (.head _))))) rfl (.head _) (Nat.le_of_ble_eq_true rfl) ?_
  refine AOps.nil ?_
  refine AWP.seq ?_
  refine AWP.region ?_
  refine AOps.step rfl rfl rfl (AOp.fieldAddrP rfl fo_26_2 rfl) ?_
  refine AOps.step rfl rfl rfl (AOp.loadP rfl sc_24 rfl (.tail _ (.tail _ (.tail _ (.tail _ (.head _))))) rfl) ?_
  refine AOps.step rfl rfl rfl (AOp.moveD rfl rfl) ?_
  refine AOps.step rfl rfl rfl (AOp.loadPU rfl ag_65 rfl (.tail _ (.head _)) rfl rfl) ?_
  refine AOps.step rfl rfl rfl (AOp.indexOwn rfl et_24 rfl rfl (.head _) i rfl (by rw [List.length_map]; exact hi)) ?_
  refine AOps.storeRow rfl rfl rfl sz_65 rfl (.head _) rfl rfl rfl i 0 rfl (at_list hi) (Nat.le_of_ble_eq_true rfl) ?_
  refine AOps.nil ?_
  refine AWP.seq ?_
  refine AWP.freezeIn 90 2 rfl (.tail _ (.tail _ (.tail _ (.head _)))) (.head _) ?_
  refine AWP.freezeCells 3 (ds := [.sl (v.items.map Item.ds), .sl (v.carrs.map Carr.ds), .sl ((v.copies.map Cpy.ds).set i [.v (.string v.copies[i].item), .v (.string v.copies[i].carrier), .v (.string v.copies[i].frm), .v (.int .i64 v.copies[i].day), .v (.int .i64 day), .v (.int .i64 v.copies[i].gen), .sl ((leftR v.copies i).map intD)])]) rfl (.tail _ (.tail _ (.tail _ (.head _)))) ?_
  rw [← chk_ds hi, ← dn_ds hi]
  refine AWP.drawG (fun k => (Nat.beq k 2 || Nat.beq k 3) || (false)) (fun k => Nat.beq k 2 || Nat.beq k 3) (fun k h => Bool.or_eq_true_iff.2 (.inl h)) (by kernel_rfl) (by kernel_rfl) (by kernel_rfl) ?_
  refine GRun.step rfl rfl rfl (fun _ => AOp.loadAgg rfl ag_26 rfl rfl) ?_
  refine GRun.step rfl rfl rfl (fun _ => AOp.loadAgg rfl ag_47 rfl rfl) ?_
  refine GRun.eff rfl rfl rfl (EOp.store rfl rfl sz_26 rfl (.tail _ (.tail _ (.head _))) rfl rfl rfl (Nat.le_of_ble_eq_true rfl)) ?_
  refine GRun.eff rfl rfl rfl (EOp.store rfl rfl sz_47 rfl (.tail _ (.head _)) rfl rfl rfl (Nat.le_of_ble_eq_true rfl)) ?_
  refine GRun.nil ?_
  refine AWP.ret ?_
  refine ⟨RetR.agg rfl (.tail _ (.tail _ (.head _))) ag_26 rfl (.cons (by first | exact CellD.nil | exact CellD.d | exact CellD.eq (by simp) | (refine CellD.own (by first | exact .head _ | exact .tail _ (.head _)) ?_; rfl)) (.cons (by first | exact CellD.nil | exact CellD.d | exact CellD.eq (by simp) | (refine CellD.own (by first | exact .head _ | exact .tail _ (.head _)) ?_; rfl)) (.cons (by first | exact CellD.nil | exact CellD.d | exact CellD.eq (by simp) | (refine CellD.own (by first | exact .head _ | exact .tail _ (.head _)) ?_; rfl)) .nil))), RetR.agg rfl (.tail _ (.head _)) ag_47 rfl (.cons (by first | exact CellD.nil | exact CellD.d | exact CellD.eq (by simp) | (refine CellD.own (by first | exact .head _ | exact .tail _ (.head _)) ?_; rfl)) (.cons (by first | exact CellD.nil | exact CellD.d | exact CellD.eq (by simp) | (refine CellD.own (by first | exact .head _ | exact .tail _ (.head _)) ?_; rfl)) (.cons (by first | exact CellD.nil | exact CellD.d | exact CellD.eq (by simp) | (refine CellD.own (by first | exact .head _ | exact .tail _ (.head _)) ?_; rfl)) (.cons (by first | exact CellD.nil | exact CellD.d | exact CellD.eq (by simp) | (refine CellD.own (by first | exact .head _ | exact .tail _ (.head _)) ?_; rfl)) (.cons (by first | exact CellD.nil | exact CellD.d | exact CellD.eq (by simp) | (refine CellD.own (by first | exact .head _ | exact .tail _ (.head _)) ?_; rfl)) .nil))))), trivial⟩
  all_goals (rfl)

end Go.Proofs.YtieccphckobhjaaGreatDoor


namespace Go.Proofs.YtieccphckobhjaaGreatDoor
open Go.RowKit
set_option linter.unusedVariables false

/-! Types. -/
namespace TyR5
theorem ag_26 : AggT Tryz.prog 26 3 := .of (by kernel_rfl)
theorem et_24 : ElemTy Tryz.prog 24 65 7 96 (.agg #[(.string ⟨#[]⟩), (.string ⟨#[]⟩), (.string ⟨#[]⟩), (.int .i64 0), (.int .i64 0), (.int .i64 0), (.slice none 0 0)]) := ⟨by kernel_rfl, by kernel_rfl, by kernel_rfl, by decide⟩
theorem fo_26_2 : fieldOff Tryz.prog 26 2 = some 2 := by kernel_rfl
theorem fo_65_6 : fieldOff Tryz.prog 65 6 = some 6 := by kernel_rfl
theorem fo_97_1 : fieldOff Tryz.prog 97 1 = some 1 := by kernel_rfl
theorem fo_97_2 : fieldOff Tryz.prog 97 2 = some 2 := by kernel_rfl
theorem fo_97_3 : fieldOff Tryz.prog 97 3 = some 3 := by kernel_rfl
theorem sc_24 : Scal Tryz.prog 24 := .of (by kernel_rfl)
theorem sc_3 : Scal Tryz.prog 3 := .of (by kernel_rfl)
theorem sc_63 : Scal Tryz.prog 63 := .of (by kernel_rfl)
theorem sc_9 : Scal Tryz.prog 9 := .of (by kernel_rfl)
theorem sz_24 : ∀ w, (sizeOf 24).run Tryz.prog w = .ok 1 w := SizeT.of (by kernel_rfl)
theorem sz_26 : ∀ w, (sizeOf 26).run Tryz.prog w = .ok 3 w := SizeT.of (by kernel_rfl)
theorem zt_26 : (Tryz.prog.info? 26).bind (·.zero) = some (.agg #[(.slice none 0 0), (.slice none 0 0), (.slice none 0 0)]) := by kernel_rfl
end TyR5
open TyR5


theorem hsc_24r : Scal Tryz.prog 24 := .of (by kernel_rfl)
theorem hsc_75r : Scal Tryz.prog 63 := .of (by kernel_rfl)
theorem hsc_ir : Scal Tryz.prog 3 := .of (by kernel_rfl)
theorem hsz_75r : ∀ w, (sizeOf 63).run Tryz.prog w = .ok 1 w := SizeT.of (by kernel_rfl)
theorem hfo_v2r : fieldOff Tryz.prog 26 2 = some 2 := by kernel_rfl
theorem hfo_c6r : fieldOff Tryz.prog 65 6 = some 6 := by kernel_rfl
theorem hfo_h3r : fieldOff Tryz.prog 97 3 = some 3 := by kernel_rfl
theorem het_24r : ElemTy Tryz.prog 24 65 7 96 (.agg #[(.string ⟨#[]⟩), (.string ⟨#[]⟩), (.string ⟨#[]⟩), (.int .i64 0), (.int .i64 0), (.int .i64 0), (.slice none 0 0)]) := ⟨by kernel_rfl, by kernel_rfl, by kernel_rfl, by decide⟩
theorem het_75r : ElemTy Tryz.prog 63 3 1 8 (.int .i64 0) := ⟨by kernel_rfl, by kernel_rfl, by kernel_rfl, by decide⟩
theorem dat_kill (i : Nat) (l : List Cpy) : ((l.map Cpy.ds).map fun ds => ds.map S.d).map (fun ss => ss.map (S.kill i)) = (l.map Cpy.ds).map fun ds => ds.map S.d := by
  rw [List.map_map]
  congr 1
  funext ds
  show (ds.map S.d).map (S.kill i) = ds.map S.d
  rw [List.map_map]
  rfl
theorem dat_at {l : List Cpy} {k : Nat} (hk : k < l.length) : ((l.map Cpy.ds).map fun ds => ds.map S.d)[k]? = some (l[k].ds.map S.d) := by simp [hk]
theorem killP_id (s : S) : s.killP (fun _ => false) = s := by
  cases s with
  | clo f caps =>
    have : Cap.anyP (fun _ => false) caps = false := by
      induction caps with
      | nil => rfl
      | cons c caps ih => cases c <;> simp_all [Cap.anyP]
    show (match Cap.anyP (fun _ => false) caps with | true => S.d .any | false => .clo f caps) = _
    rw [this]
  | _ => rfl
theorem killP_rows (L : List (List S)) : (L.map fun ss => ss.map (S.killP fun _ => false)) = L := by
  have : (fun ss : List S => ss.map (S.killP fun _ => false)) = id := by
    funext ss
    show ss.map _ = ss
    rw [show (S.killP fun _ => false) = id from funext killP_id, List.map_id]
  rw [this, List.map_id]
theorem dat_len {l : List Cpy} {j : Nat} (h : j < ((l.map Cpy.ds).map fun ds => ds.map S.d).length) (hj : j < l.length) : ((l.map Cpy.ds).map fun ds => ds.map S.d)[j] = l[j].ds.map S.d := by simp
theorem cl_pair {a b id : Nat} {s s' : S} {sl : List Nat} (ha : sl.contains a = true) (hb : sl.contains b = true) : ∀ p ∈ [(a, s), (b, s')], ∀ f ∈ [(⟨id, sl⟩ : Fc)], f.slots.contains p.1 = true ∨ p.2.kill f.id = p.2 := by
  intro p hp f hf
  obtain rfl := List.mem_singleton.1 hf
  rcases List.mem_cons.1 hp with rfl | hp
  · exact .inl ha
  · obtain rfl := List.mem_singleton.1 hp
    exact .inl hb
/-- What the reference's harmed ends with. -/
theorem snap_harmed {v : Vlt} {k : Nat} (hk : k < v.copies.length) (b : List Int) : Snap [(51, Ob.row 3 1 (b.map intD)), (15, Ob.rowS 65 7 (((v.copies.map Cpy.ds).map fun ds => ds.map S.d).set k ((v.copies[k].ds.map S.d).set 6 (.own 51))))] (.own 15) (.sl ((v.copies.set k { v.copies[k] with bad := b }).map Cpy.ds)) := by
  refine .rowS (.tail _ (.head _)) (by simp) (fun i h1 h2 => ?_) fun i h1 h2 j h3 h4 => ?_
  · have hi : i < v.copies.length := by simpa using h1
    rw [List.getElem_set]
    by_cases e : k = i
    · subst e
      rw [if_pos rfl]
      simp [Cpy.ds]
    · rw [if_neg e, dat_len (by simpa using hi) hi, List.getElem_map, List.getElem_set_ne e]
      simp
  · have hi : i < v.copies.length := by simpa using h1
    by_cases e : k = i
    · subst e
      have e1 : ((((v.copies.map Cpy.ds).map fun ds => ds.map S.d).set k ((v.copies[k].ds.map S.d).set 6 (.own 51))))[k] = (v.copies[k].ds.map S.d).set 6 (.own 51) := by rw [List.getElem_set, if_pos rfl]
      have e2 : ((v.copies.set k { v.copies[k] with bad := b }).map Cpy.ds)[k] = Cpy.ds { v.copies[k] with bad := b } := by rw [List.getElem_map, List.getElem_set_self]
      simp only [e1, e2] at h3 h4 ⊢
      have hj : j < 7 := h4
      match j, hj with
      | 0, _ => exact .d _
      | 1, _ => exact .d _
      | 2, _ => exact .d _
      | 3, _ => exact .d _
      | 4, _ => exact .d _
      | 5, _ => exact .d _
      | 6, _ => exact .row (.head _)
    · have e1 : ((((v.copies.map Cpy.ds).map fun ds => ds.map S.d).set k ((v.copies[k].ds.map S.d).set 6 (.own 51))))[i] = v.copies[i].ds.map S.d := by rw [List.getElem_set, if_neg e, dat_len (by simpa using hi) hi]
      have e2 : ((v.copies.set k { v.copies[k] with bad := b }).map Cpy.ds)[i] = v.copies[i].ds := by rw [List.getElem_map, List.getElem_set_ne e]
      simp only [e1, e2] at h3 h4 ⊢
      rw [List.getElem_map]
      exact .d _


set_option maxRecDepth 100000 in
set_option maxHeartbeats 1000000 in
theorem c_harmed (v : Vlt) (h : Hrm) (hl : v.copies.length ≤ 100000) (hb : ∀ c ∈ v.copies, c.bad.length ≤ 100000) : ACall Tryz.prog 54 [.agg v.ds, .agg h.ds] (.agg (withC v (harmR v h)).ds) := by
  refine acall_ofR (n := 54) (ds' := [.agg (withC v (harmR v h)).ds]) Tryz.func54 rfl (by kernel_rfl) rfl [.cell 4 26] rfl rfl ?_
  intro B w0 F0 fr
  refine AWP.seq ?_
  refine AWP.region ?_
  refine AOps.boxOwn 90 rfl rfl rfl rfl rfl rfl rfl ?_
  refine AOps.step rfl rfl rfl (AOp.box rfl rfl rfl) ?_
  refine AOps.alloc 11 rfl rfl rfl rfl zt_26 rfl rfl rfl ?_
  refine AOps.nil ?_
  refine AWP.seq ?_
  refine AWP.region ?_
  refine AOps.step rfl rfl rfl (AOp.loadPU rfl ag_26 rfl (.tail _ (.head _)) rfl rfl) ?_
  refine AOps.step rfl rfl rfl (AOp.fieldAddr rfl fo_97_1 rfl) ?_
  refine AOps.step rfl rfl rfl (AOp.load rfl sc_9 rfl) ?_
  refine AOps.step rfl rfl rfl (AOp.fieldAddr rfl fo_97_2 rfl) ?_
  refine AOps.step rfl rfl rfl (AOp.load rfl sc_9 rfl) ?_
  refine AOps.step rfl rfl rfl (AOp.call rfl (.cons (ArgOk.rfl' rfl) (.cons (ArgOk.rfl' rfl) (.cons (ArgOk.rfl' rfl) .nil))) (c_copyOfR _ _ _ hl)) ?_
  refine AOps.step rfl rfl rfl (AOp.assignD rfl rfl) ?_
  refine AOps.nil ?_
  refine AWP.seq ?_
  refine AWP.seq ?_
  refine AWP.draw (by kernel_rfl) (by kernel_rfl) ?_
  refine DRun.step rfl rfl rfl (AOp.moveD rfl rfl) ?_
  refine DRun.step rfl rfl rfl (AOp.lss rfl rfl rfl) ?_
  refine DRun.step rfl rfl rfl (AOp.moveD rfl rfl) ?_
  refine DRun.split 14 rfl (fun g1 => ?_) (fun g1 => ?_)
  · replace g1 := of_decide_eq_true g1
    have HR : harmR v h = v.copies := by unfold harmR; rw [if_pos g1]
    rw [HR]
    refine DRun.pass ⟨14, rfl, .inl ⟨_, rfl, rfl⟩⟩ rfl rfl ?_
    refine DRun.pass ⟨14, rfl, .inl ⟨_, rfl, rfl⟩⟩ rfl rfl ?_
    refine DRun.pass ⟨14, rfl, .inl ⟨_, rfl, rfl⟩⟩ rfl rfl ?_
    refine DRun.pass ⟨14, rfl, .inl ⟨_, rfl, rfl⟩⟩ rfl rfl ?_
    refine DRun.pass ⟨14, rfl, .inl ⟨_, rfl, rfl⟩⟩ rfl rfl ?_
    refine DRun.pass ⟨14, rfl, .inl ⟨_, rfl, rfl⟩⟩ rfl rfl ?_
    refine DRun.pass ⟨14, rfl, .inl ⟨_, rfl, rfl⟩⟩ rfl rfl ?_
    refine DRun.pass ⟨14, rfl, .inl ⟨_, rfl, rfl⟩⟩ rfl rfl ?_
    refine DRun.pass ⟨14, rfl, .inl ⟨_, rfl, rfl⟩⟩ rfl rfl ?_
    refine DRun.step rfl rfl rfl (AOp.pickT rfl rfl rfl) ?_
    refine DRun.nil ?_
    refine AWP.cond rfl (fun _ => ?_) (fun h => nomatch h)
    refine AWP.seq ?_
    refine AWP.region ?_
    refine AOps.step rfl rfl rfl (AOp.loadPU rfl ag_26 rfl (.tail _ (.head _)) rfl rfl) ?_
    refine AOps.store rfl rfl rfl sz_26 rfl (.head _) rfl rfl rfl (Nat.le_of_ble_eq_true rfl) ?_
    refine AOps.nil ?_
    refine AWP.ret ?_
    refine ⟨RetR.agg rfl (.head _) ag_26 rfl (.cons (by first | exact CellD.nil | exact CellD.d | exact CellD.eq (by simp) | (refine CellD.own (by first | exact .head _ | exact .tail _ (.head _)) ?_; rfl)) (.cons (by first | exact CellD.nil | exact CellD.d | exact CellD.eq (by simp) | (refine CellD.own (by first | exact .head _ | exact .tail _ (.head _)) ?_; rfl)) (.cons (by first | exact CellD.nil | exact CellD.d | exact CellD.eq (by simp) | (refine CellD.own (by first | exact .head _ | exact .tail _ (.head _)) ?_; rfl)) .nil))), trivial⟩
    all_goals (rfl)
  replace g1 := of_decide_eq_false g1
  obtain ⟨k, hk, ek, _, _⟩ := idx_nonneg (v := v) rfl (show 0 ≤ copyIdx v h.item h.carrier by omega)
  refine DRun.step ⟨14, rfl, .inl ⟨_, rfl, rfl⟩⟩ rfl rfl (AOp.fieldAddrP rfl fo_26_2 rfl) ?_
  refine DRun.step ⟨14, rfl, .inl ⟨_, rfl, rfl⟩⟩ rfl rfl (AOp.loadP rfl sc_24 rfl (.tail _ (.head _)) rfl) ?_
  refine DRun.step ⟨14, rfl, .inl ⟨_, rfl, rfl⟩⟩ rfl rfl (AOp.moveD rfl rfl) ?_
  refine DRun.step ⟨14, rfl, .inl ⟨_, rfl, rfl⟩⟩ rfl rfl (AOp.indexAddr rfl et_24 rfl rfl k ek (at_list hk) rfl) ?_
  refine DRun.step ⟨14, rfl, .inl ⟨_, rfl, rfl⟩⟩ rfl rfl (AOp.fieldAddr rfl fo_65_6 rfl) ?_
  refine DRun.step ⟨14, rfl, .inl ⟨_, rfl, rfl⟩⟩ rfl rfl (AOp.load rfl sc_63 rfl) ?_
  refine DRun.step ⟨14, rfl, .inl ⟨_, rfl, rfl⟩⟩ rfl rfl (AOp.fieldAddr rfl fo_97_3 rfl) ?_
  refine DRun.step ⟨14, rfl, .inl ⟨_, rfl, rfl⟩⟩ rfl rfl (AOp.load rfl sc_3 rfl) ?_
  refine DRun.step ⟨14, rfl, .inl ⟨_, rfl, rfl⟩⟩ rfl rfl (AOp.call rfl (.cons (ArgOk.rfl' rfl) (.cons (ArgOk.rfl' rfl) .nil)) (c_containsInt _ _)) ?_
  refine DRun.step rfl rfl rfl (AOp.pickF rfl rfl rfl) ?_
  refine DRun.nil ?_
  refine AWP.cond rfl (fun h2 => ?_) (fun h2 => ?_)
  · replace h2 := of_decide_eq_true h2
    have HR : harmR v h = v.copies := by unfold harmR; rw [ek, if_neg (by omega), Int.toNat_natCast, getD_at hk, if_pos h2]
    rw [HR]
    refine AWP.seq ?_
    refine AWP.region ?_
    refine AOps.step rfl rfl rfl (AOp.loadPU rfl ag_26 rfl (.tail _ (.head _)) rfl rfl) ?_
    refine AOps.store rfl rfl rfl sz_26 rfl (.head _) rfl rfl rfl (Nat.le_of_ble_eq_true rfl) ?_
    refine AOps.nil ?_
    refine AWP.ret ?_
    refine ⟨RetR.agg rfl (.head _) ag_26 rfl (.cons (by first | exact CellD.nil | exact CellD.d | exact CellD.eq (by simp) | (refine CellD.own (by first | exact .head _ | exact .tail _ (.head _)) ?_; rfl)) (.cons (by first | exact CellD.nil | exact CellD.d | exact CellD.eq (by simp) | (refine CellD.own (by first | exact .head _ | exact .tail _ (.head _)) ?_; rfl)) (.cons (by first | exact CellD.nil | exact CellD.d | exact CellD.eq (by simp) | (refine CellD.own (by first | exact .head _ | exact .tail _ (.head _)) ?_; rfl)) .nil))), trivial⟩
    all_goals (rfl)
  replace h2 := of_decide_eq_false h2
  have HR : harmR v h = v.copies.set k { v.copies[k] with bad := sortI (v.copies[k].bad ++ [h.block]) } := by unfold harmR; rw [ek, if_neg (by omega), Int.toNat_natCast, getD_at hk, if_neg h2]
  have hbk := hb _ (List.getElem_mem hk)
  refine AWP.skip ?_
  refine AWP.seq ?_
  refine AWP.region ?_
  refine AOps.step rfl rfl rfl (AOp.fieldAddrP rfl fo_26_2 rfl) ?_
  refine AOps.step rfl rfl rfl (AOp.loadP rfl sc_24 rfl (.tail _ (.head _)) rfl) ?_
  refine AOps.callO 15 rfl rfl rfl rfl (.cons (ArgOk.rfl' rfl) .nil) (c_clCpy v.copies (by omega)) rfl ?_
  refine AOps.step rfl rfl rfl (AOp.fieldAddrP rfl fo_26_2 rfl) ?_
  refine AOps.storeS rfl rfl rfl sz_24 rfl (.tail _ (.tail _ (.head _))) rfl (.head _) (Nat.le_of_ble_eq_true rfl) ?_
  refine AOps.nil ?_
  refine AWP.seq ?_
  refine AWP.rowToS 15 (ee := 65) (size := 7) (els := v.copies.map Cpy.ds) (.head _) ?_
  refine AWP.obsEq [(15, Ob.rowS 65 7 ((v.copies.map Cpy.ds).map fun ds => ds.map S.d)), (11, Ob.cells [.d (.v (.slice none 0 0)), .d (.v (.slice none 0 0)), .d (.v (.slice none 0 0))]), (90, Ob.cells [.d (.sl (v.items.map Item.ds)), .d (.sl (v.carrs.map Carr.ds)), .own 15])] rfl ?_
  refine AWP.drawLTail 14 [⟨51, [39, 43]⟩] [(9, [43, 39]), (13, [39, 43])] (fun τ => (90, Ob.cells [.d (.sl (v.items.map Item.ds)), .d (.sl (v.carrs.map Carr.ds)), .own 15]) ∈ τ ∧ (15, Ob.rowS 65 7 ((v.copies.map Cpy.ds).map fun ds => ds.map S.d)) ∈ τ) (by kernel_rfl) (by kernel_rfl) (by kernel_rfl) (by kernel_rfl) ?_
  have hI0 : (90, Ob.cells [.d (.sl (v.items.map Item.ds)), .d (.sl (v.carrs.map Carr.ds)), .own 15]) ∈ ([(15, Ob.rowS 65 7 ((v.copies.map Cpy.ds).map fun ds => ds.map S.d)), (11, Ob.cells [.d (.v (.slice none 0 0)), .d (.v (.slice none 0 0)), .d (.v (.slice none 0 0))]), (90, Ob.cells [.d (.sl (v.items.map Item.ds)), .d (.sl (v.carrs.map Carr.ds)), .own 15])] : Obs) ∧ (15, Ob.rowS 65 7 ((v.copies.map Cpy.ds).map fun ds => ds.map S.d)) ∈ ([(15, Ob.rowS 65 7 ((v.copies.map Cpy.ds).map fun ds => ds.map S.d)), (11, Ob.cells [.d (.v (.slice none 0 0)), .d (.v (.slice none 0 0)), .d (.v (.slice none 0 0))]), (90, Ob.cells [.d (.sl (v.items.map Item.ds)), .d (.sl (v.carrs.map Carr.ds)), .own 15])] : Obs) := ⟨.tail _ (.tail _ (.head _)), .head _⟩
  refine LRun.step rfl rfl rfl hI0 (fun τ hτ => AOp.fieldAddrP rfl hfo_v2r rfl) ?_
  refine LRun.step rfl rfl rfl hI0 (fun τ hτ => AOp.loadP (s := .own 15) rfl hsc_24r rfl hτ.1 rfl) ?_
  refine LRun.step rfl rfl rfl hI0 (fun τ hτ => AOp.moveD rfl rfl) ?_
  refine LRun.step rfl rfl rfl hI0 (fun τ hτ => AOp.fieldAddrP rfl hfo_v2r rfl) ?_
  refine LRun.step rfl rfl rfl hI0 (fun τ hτ => AOp.loadP (s := .own 15) rfl hsc_24r rfl hτ.1 rfl) ?_
  refine LRun.step rfl rfl rfl hI0 (fun τ hτ => AOp.moveD rfl rfl) ?_
  refine LRun.step rfl rfl rfl hI0 (fun τ hτ => AOp.weak (AOp.indexOwn rfl het_24r rfl rfl (Obs.weak_mem (p := (15, _)) hτ.2) k ek (by simpa using hk))) ?_
  refine LRun.step rfl rfl rfl hI0 (fun τ hτ => AOp.fieldAddrP rfl hfo_c6r rfl) ?_
  refine LRun.step rfl rfl rfl hI0 (fun τ hτ => AOp.loadRowS (s := .d (.sl (v.copies[k].bad.map intD))) rfl hsc_75r rfl hτ.2 k 6 rfl (dat_at hk) rfl) ?_
  refine LRun.eff (σ' := [(51, Ob.row 3 1 (v.copies[k].bad.map intD)), (15, Ob.rowS 65 7 ((v.copies.map Cpy.ds).map fun ds => ds.map S.d)), (11, Ob.cells [.d (.v (.slice none 0 0)), .d (.v (.slice none 0 0)), .d (.v (.slice none 0 0))]), (90, Ob.cells [.d (.sl (v.items.map Item.ds)), .d (.sl (v.carrs.map Carr.ds)), .own 15])]) rfl rfl hI0 ⟨.tail _ (.tail _ (.tail _ (.head _))), .tail _ (.head _)⟩ (GE.callO 51 43 (.head _) (fun t h1 h2 => by simp [h1, h2]) (by decide) rfl rfl rfl rfl (.cons (ArgOk.rfl' rfl) .nil) (c_clInt v.copies[k].bad (by omega)) rfl (by show _ :: (15, Ob.rowS _ 7 (((v.copies.map Cpy.ds).map fun ds => ds.map S.d).map fun ss => ss.map (S.kill 51))) :: _ = _; rw [dat_kill]; rfl) rfl) ?_ (cl_pair rfl rfl)
  have hI1 : (90, Ob.cells [.d (.sl (v.items.map Item.ds)), .d (.sl (v.carrs.map Carr.ds)), .own 15]) ∈ ([(51, Ob.row 3 1 (v.copies[k].bad.map intD)), (15, Ob.rowS 65 7 ((v.copies.map Cpy.ds).map fun ds => ds.map S.d)), (11, Ob.cells [.d (.v (.slice none 0 0)), .d (.v (.slice none 0 0)), .d (.v (.slice none 0 0))]), (90, Ob.cells [.d (.sl (v.items.map Item.ds)), .d (.sl (v.carrs.map Carr.ds)), .own 15])] : Obs) ∧ (15, Ob.rowS 65 7 ((v.copies.map Cpy.ds).map fun ds => ds.map S.d)) ∈ ([(51, Ob.row 3 1 (v.copies[k].bad.map intD)), (15, Ob.rowS 65 7 ((v.copies.map Cpy.ds).map fun ds => ds.map S.d)), (11, Ob.cells [.d (.v (.slice none 0 0)), .d (.v (.slice none 0 0)), .d (.v (.slice none 0 0))]), (90, Ob.cells [.d (.sl (v.items.map Item.ds)), .d (.sl (v.carrs.map Carr.ds)), .own 15])] : Obs) := ⟨.tail _ (.tail _ (.tail _ (.head _))), .tail _ (.head _)⟩
  refine LRun.step rfl rfl rfl hI1 (fun τ hτ => AOp.fieldAddr (ds := h.ds) rfl hfo_h3r rfl) ?_
  refine LRun.step rfl rfl rfl hI1 (fun τ hτ => AOp.load rfl hsc_ir rfl) ?_
  refine LRun.step rfl rfl rfl hI1 (fun τ hτ => AOp.buildSlice rfl het_75r (.cons rfl rfl rfl .nil) rfl (by decide)) ?_
  refine LRun.eff (σ' := [(51, Ob.row 3 1 ((v.copies[k].bad ++ [h.block]).map intD)), (15, Ob.rowS 65 7 ((v.copies.map Cpy.ds).map fun ds => ds.map S.d)), (11, Ob.cells [.d (.v (.slice none 0 0)), .d (.v (.slice none 0 0)), .d (.v (.slice none 0 0))]), (90, Ob.cells [.d (.sl (v.items.map Item.ds)), .d (.sl (v.carrs.map Carr.ds)), .own 15])]) rfl rfl hI1 ⟨.tail _ (.tail _ (.tail _ (.head _))), .tail _ (.head _)⟩ (GE.append 51 39 (.head _) (fun t h1 h2 => by simp [h1, h2]) (by decide) rfl rfl rfl rfl het_75r rfl (.head _) rfl (by simp [D.parts]) (by simp; omega) (by simp; omega) (by show _ :: (15, Ob.rowS _ 7 (((v.copies.map Cpy.ds).map fun ds => ds.map S.d).map fun ss => ss.map (S.kill 51))) :: _ = _; rw [dat_kill, List.map_append]; rfl) rfl) ?_ (cl_pair rfl rfl)
  refine LRun.nil ?_
  refine AOps.step rfl rfl rfl (AOp.weak (AOp.indexOwn rfl het_24r rfl rfl (Obs.weak_mem (p := (15, _)) (.tail _ (.head _))) k ek (by simpa using hk))) ?_
  refine AOps.step rfl rfl rfl (AOp.fieldAddrP rfl hfo_c6r rfl) ?_
  refine AOps.eff rfl rfl (EOp.storeRowS (s := .own 51) rfl rfl hsz_75r rfl (.tail _ (.head _)) rfl (.own (.head _)) k 6 rfl (dat_at hk) (by decide)) ?_
  refine AOps.nil ?_
  refine AWP.seq ?_
  refine AWP.region ?_
  refine AOps.step rfl rfl rfl (AOp.fieldAddrP rfl fo_26_2 rfl) ?_
  refine AOps.step rfl rfl rfl (AOp.loadP rfl sc_24 rfl (.tail _ (.tail _ (.tail _ (.head _)))) rfl) ?_
  refine AOps.step rfl rfl rfl (AOp.moveD rfl rfl) ?_
  refine AOps.step rfl rfl rfl (AOp.weak (AOp.indexOwn rfl het_24r rfl rfl (Obs.weak_mem (p := (15, _)) (.tail _ (.head _))) k ek (by simpa using hk))) ?_
  refine AOps.step rfl rfl rfl (AOp.fieldAddrP rfl fo_65_6 rfl) ?_
  refine AOps.step rfl rfl rfl (AOp.loadRowS (s := .own 51) (ss := (v.copies[k].ds.map S.d).set 6 (.own 51)) rfl hsc_75r rfl (.tail _ (.head _)) k 6 rfl (by rw [List.getElem?_set]; simp [hk]) rfl) ?_
  -- turns 51
  refine AOps.callX rfl rfl rfl (.cons (SLe.refl _) .nil) ((c_sortInt (v.copies[k].bad ++ [h.block]) (by simp; omega) _) 51) ⟨(.head _), trivial⟩ rfl rfl (fun _ h => nomatch h) ?_
  refine AOps.obsEq [(51, Ob.row 3 1 ((sortI (v.copies[k].bad ++ [h.block])).map intD)), (15, Ob.rowS 65 7 (((v.copies.map Cpy.ds).map fun ds => ds.map S.d).set k ((v.copies[k].ds.map S.d).set 6 (.own 51)))), (11, Ob.cells [.d (.v (.slice none 0 0)), .d (.v (.slice none 0 0)), .d (.v (.slice none 0 0))]), (90, Ob.cells [.d (.sl (v.items.map Item.ds)), .d (.sl (v.carrs.map Carr.ds)), .own 15])] (by show [_, (15, Ob.rowS _ 7 (((((v.copies.map Cpy.ds).map fun ds => ds.map S.d).set k ((v.copies[k].ds.map S.d).set 6 (.own 51)))).map fun ss => ss.map (S.killP fun _ => false))), _, _] = _; rw [killP_rows]; rfl) ?_
  refine AOps.nil ?_
  refine AWP.seq ?_
  refine AWP.freezeCell 90 2 (d := .sl ((v.copies.set k { v.copies[k] with bad := sortI (v.copies[k].bad ++ [h.block]) }).map Cpy.ds)) [(51, Ob.row 3 1 ((sortI (v.copies[k].bad ++ [h.block])).map intD)), (15, Ob.rowS 65 7 (((v.copies.map Cpy.ds).map fun ds => ds.map S.d).set k ((v.copies[k].ds.map S.d).set 6 (.own 51))))] [(11, Ob.cells [.d (.v (.slice none 0 0)), .d (.v (.slice none 0 0)), .d (.v (.slice none 0 0))]), (90, Ob.cells [.d (.sl (v.items.map Item.ds)), .d (.sl (v.carrs.map Carr.ds)), .own 15])] (.tail _ (.head _)) rfl (snap_harmed hk _) (fun p hp => ?_) (fun p hp => .tail _ (.tail _ hp)) (fun p hp q hq => by simp only [List.mem_cons, List.not_mem_nil, or_false] at hp hq; rcases hp with rfl | rfl <;> rcases hq with rfl | rfl <;> simp) ?_
  · rcases List.mem_cons.1 hp with rfl | hp
    · exact .head _
    obtain rfl := List.mem_singleton.1 hp
    exact .tail _ (.head _)
  rw [HR]
  refine AWP.region ?_
  refine AOps.step rfl rfl rfl (AOp.loadPU rfl ag_26 rfl (.tail _ (.head _)) rfl rfl) ?_
  refine AOps.store rfl rfl rfl sz_26 rfl (.head _) rfl rfl rfl (Nat.le_of_ble_eq_true rfl) ?_
  refine AOps.nil ?_
  refine AWP.ret ?_
  refine ⟨RetR.agg rfl (.head _) ag_26 rfl (.cons (by first | exact CellD.nil | exact CellD.d | exact CellD.eq (by simp) | (refine CellD.own (by first | exact .head _ | exact .tail _ (.head _)) ?_; rfl)) (.cons (by first | exact CellD.nil | exact CellD.d | exact CellD.eq (by simp) | (refine CellD.own (by first | exact .head _ | exact .tail _ (.head _)) ?_; rfl)) (.cons (by first | exact CellD.nil | exact CellD.d | exact CellD.eq (by simp) | (refine CellD.own (by first | exact .head _ | exact .tail _ (.head _)) ?_; rfl)) .nil))), trivial⟩
  all_goals (rfl)

end Go.Proofs.YtieccphckobhjaaGreatDoor


namespace Go.Proofs.YtieccphckobhjaaGreatDoor
open Go.RowKit
set_option linter.unusedVariables false

/-! Types. -/
namespace TyR6

end TyR6
open TyR6


/-- The same copies, but for what is damaged and when they were last checked. -/
def SameD (l m : List Cpy) : Prop := l.length = m.length ∧ ∀ i (h1 : i < l.length) (h2 : i < m.length), l[i].item = m[i].item ∧ l[i].carrier = m[i].carrier ∧ l[i].day = m[i].day
theorem SameD.set {l m : List Cpy} (h : SameD l m) {k : Nat} (hk : k < l.length) {c : Cpy} (e1 : c.item = l[k].item) (e2 : c.carrier = l[k].carrier) (e3 : c.day = l[k].day) : SameD (l.set k c) m := by
  refine ⟨by rw [List.length_set]; exact h.1, fun i h1 h2 => ?_⟩
  have h3 : i < l.length := by rw [List.length_set] at h1; exact h1
  have h4 := h.2 i h3 h2
  rw [List.getElem_set]
  by_cases e : k = i
  · subst e; rw [if_pos rfl, e1, e2, e3]; exact h4
  · rw [if_neg e]; exact h4
theorem harmC_sameD {l m : List Cpy} {h : Hrm} (hs : SameD l m) : SameD (harmC l h) m := by
  unfold harmC
  split
  · rename_i hc
    obtain ⟨hk, _, _⟩ := hasC_spec hc
    rw [modify_set _ hk]
    exact hs.set hk rfl rfl rfl
  · exact hs
theorem harms_sameD {m : List Cpy} : ∀ (hs : List Hrm) {l : List Cpy}, SameD l m → SameD (hs.foldl harmC l) m
  | [], _, h => h
  | _ :: hs, _, h => harms_sameD hs (harmC_sameD h)
theorem checkedC_sameD {l m : List Cpy} (hs : SameD l m) {k : Nat} (hk : k < l.length) (day : Int) : SameD (checkedC l k day) m := by
  unfold checkedC
  rw [modify_set _ hk]
  exact hs.set hk rfl rfl rfl
theorem checkedC_vok' {v : Vlt} {l : List Cpy} (hv : VOk (withC v l)) {k : Nat} (hk : k < l.length) {day : Int} (hd : day ≤ 200000) (h : l[k].day ≤ day) : VOk (withC v (checkedC l k day)) := by
  unfold checkedC
  rw [modify_set _ hk]
  have hck := hv.cpy _ (List.getElem_mem hk)
  exact vok_set hv hk rfl rfl rfl rfl rfl ⟨h, hd⟩ (stillI_sbad (sbad_of hck.bad))
theorem due_task {v : Vlt} {p : Pol} {frm to : Int} (hv : VOk v) (he : 1 ≤ p.every) (hf : 0 ≤ frm) (ht : to ≤ 200001) {t : Tsk} (h : t ∈ (dueL v p frm to).map Prod.fst) : ∃ j, ∃ hj : j < v.copies.length, t.item = v.copies[j].item ∧ t.carrier = v.copies[j].carrier ∧ v.copies[j].day ≤ t.day ∧ t.day ≤ 200000 := by
  obtain ⟨x, hx, rfl⟩ := List.mem_map.1 h
  unfold dueL at hx
  have hx := (sortSeg_perm cmpT (dueAll v p frm to) (Nat.zero_le _)).mem_iff.1 hx
  unfold dueAll at hx
  obtain ⟨i, c, k, h1, h2, h3, rfl⟩ := mem_tagTo.1 hx
  obtain ⟨hi, rfl⟩ := List.getElem?_eq_some_iff.1 h2
  have hb := day_bound he hf ht h3
  have hc := (hv.cpy _ (List.getElem_mem hi)).last
  refine ⟨i, hi, rfl, rfl, ?_, hb.2⟩
  show v.copies[i].day ≤ dayD frm p.every v.copies[i] k
  have hk : 0 ≤ (k : Int) * p.every := Int.mul_nonneg (by omega) (by omega)
  unfold dayD fstD
  omega
structure RI (v : Vlt) (s : St) : Prop where
  vok : VOk (withC v s.l)
  hok : ∀ h ∈ s.hs, HrmOk v h
  same : SameD s.l v.copies
theorem RI.start {v : Vlt} {hs : List Hrm} (hv : VOk v) (hh : ∀ h ∈ hs, HrmOk v h) : RI v ⟨v.copies, hs, []⟩ := ⟨hv, hh, rfl, fun _ _ _ => ⟨rfl, rfl, rfl⟩⟩
theorem upTo_sub {hs : List Hrm} {d : Int} : ∀ h ∈ upTo hs d, h ∈ hs := fun _ h => (List.takeWhile_sublist _).subset h
/-- Behind j of the harms before day d. -/
def hR (s : St) (d : Int) (j : Nat) : List Cpy := ((upTo s.hs d).take j).foldl harmC s.l
theorem hR_all (s : St) (d : Int) : hR s d (upTo s.hs d).length = (upTo s.hs d).foldl harmC s.l := by unfold hR; rw [List.take_length]
theorem hR_vok {v : Vlt} {s : St} (h : RI v s) (d : Int) (j : Nat) : VOk (withC v (hR s d j)) := harms_vok _ h.vok fun x hx => h.hok x (upTo_sub x (List.mem_of_mem_take hx))
theorem hR_same {v : Vlt} {s : St} (h : RI v s) (d : Int) (j : Nat) : SameD (hR s d j) v.copies := harms_sameD _ h.same
theorem upTo_get {hs : List Hrm} {d : Int} {j : Nat} (h : j < (upTo hs d).length) : ∃ hj : j < hs.length, hs[j] = (upTo hs d)[j] ∧ hs[j].day ≤ d := by
  have hp : upTo hs d <+: hs := List.takeWhile_prefix _
  have hj : j < hs.length := Nat.lt_of_lt_of_le h hp.length_le
  have h1 : hs[j] = (upTo hs d)[j] := (hp.getElem h).symm
  refine ⟨hj, h1, ?_⟩
  have key : ∀ x ∈ upTo hs d, x.day ≤ d := fun x hx => by
    unfold upTo at hx
    exact of_decide_eq_true (takeWhile_mem _ x hx)
  rw [h1]
  exact key _ (List.getElem_mem h)
theorem upTo_in : ∀ {hs : List Hrm} {d : Int} {j : Nat} (hj : j < hs.length), j ≤ (upTo hs d).length → hs[j].day ≤ d → j < (upTo hs d).length
  | h :: hs, d, 0, _, _, he => by
    unfold upTo
    rw [List.takeWhile_cons, if_pos (by simpa using he)]
    exact Nat.succ_pos _
  | h :: hs, d, j + 1, hj, hle, he => by
    unfold upTo at hle ⊢
    rw [List.takeWhile_cons] at hle ⊢
    by_cases e : h.day ≤ d
    · rw [if_pos (by simpa using e)] at hle ⊢
      have := upTo_in (hs := hs) (d := d) (j := j) (by simpa using hj) (by unfold upTo; simpa using hle) (by simpa using he)
      unfold upTo at this
      simpa using this
    · rw [if_neg (by simpa using e)] at hle
      simp at hle
theorem upTo_end {hs : List Hrm} {d : Int} {j : Nat} (hle : j ≤ (upTo hs d).length) (h : ∀ hj : j < hs.length, ¬ hs[j].day ≤ d) : j = (upTo hs d).length := by
  by_cases h1 : j < (upTo hs d).length
  · obtain ⟨hj, _, h2⟩ := upTo_get h1
    exact absurd h2 (h hj)
  · omega
theorem hR_next {s : St} {d : Int} {j : Nat} (hjl : j < s.hs.length) (h : j < (upTo s.hs d).length) : hR s d (j + 1) = harmC (hR s d j) s.hs[j] := by
  obtain ⟨_, e1, _⟩ := upTo_get h
  rw [e1]
  exact fold_take h
theorem keyIdx_idx {v : Vlt} {l : List Cpy} {k : Nat} (hv : VOk (withC v l)) (hk : k < l.length) : keyIdx l l[k].item l[k].carrier = k ∧ copyIdx (withC v l) l[k].item l[k].carrier = (k : Int) := by
  have h1 := keyIdx_at hv hk
  refine ⟨h1, ?_⟩
  unfold copyIdx idxBy
  rw [if_pos (List.any_eq_true.2 ⟨_, List.getElem_mem (l := (withC v l).copies) hk, by simp only [Bool.and_eq_true, decide_eq_true_eq]; exact ⟨rfl, rfl⟩⟩)]
  exact congrArg _ h1
/-- The reference's next step. -/
theorem ref_step {v : Vlt} {s : St} {t : Tsk} (h : RI v s) {j : Nat} (hj : j < v.copies.length) (e1 : t.item = v.copies[j].item) (e2 : t.carrier = v.copies[j].carrier) (e3 : v.copies[j].day ≤ t.day) (e4 : t.day ≤ 200000) :
    ∃ hk : j < (hR s t.day (upTo s.hs t.day).length).length, copyIdx (withC v (hR s t.day (upTo s.hs t.day).length)) t.item t.carrier = (j : Int) ∧
      (refT s t).l = checkedC (hR s t.day (upTo s.hs t.day).length) j t.day ∧ (refT s t).hs = s.hs.drop (upTo s.hs t.day).length ∧ (refT s t).o = s.o ++ [doneC (hR s t.day (upTo s.hs t.day).length) (hR s t.day (upTo s.hs t.day).length)[j] t.day] ∧ RI v (refT s t) := by
  have hsm := hR_same h t.day (upTo s.hs t.day).length
  have hvk := hR_vok h t.day (upTo s.hs t.day).length
  have hall := hR_all s t.day
  unfold refT
  rw [← hall]
  generalize hR s t.day (upTo s.hs t.day).length = l at *
  have hk : j < l.length := by rw [hsm.1]; exact hj
  obtain ⟨s1, s2, s3⟩ := hsm.2 j hk hj
  have hi := keyIdx_idx hvk hk
  rw [s1, s2, ← e1, ← e2] at hi
  refine ⟨hk, hi.2, ?_, rfl, ?_, ?_, ?_, ?_⟩
  · dsimp only; rw [hi.1]
  · dsimp only; rw [hi.1, getD_at hk]
  · show VOk (withC v (checkedC l (keyIdx l t.item t.carrier) t.day))
    rw [hi.1]
    exact checkedC_vok' hvk hk e4 (by rw [s3]; exact e3)
  · exact fun x hx => h.hok x (List.mem_of_mem_drop hx)
  · show SameD (checkedC l (keyIdx l t.item t.carrier) t.day) v.copies
    rw [hi.1]
    exact checkedC_sameD hsm hk _
def dueT (v : Vlt) (p : Pol) (frm to : Int) : List Tsk := (dueL v p frm to).map Prod.fst
def rAt (v : Vlt) (p : Pol) (frm to : Int) (hs : List Hrm) (n : Nat) : St := ((dueT v p frm to).take n).foldl refT ⟨v.copies, hs, []⟩
theorem rAt_next {v : Vlt} {p : Pol} {frm to : Int} {hs : List Hrm} {n : Nat} (hn : n < (dueT v p frm to).length) : rAt v p frm to hs (n + 1) = refT (rAt v p frm to hs n) (dueT v p frm to)[n] := by
  unfold rAt
  rw [List.take_add_one, List.getElem?_eq_getElem hn, Option.toList_some, List.foldl_append]
  rfl
theorem rAt_ri {v : Vlt} {p : Pol} {frm to : Int} {hs : List Hrm} (hv : VOk v) (he : 1 ≤ p.every) (hf : 0 ≤ frm) (ht : to ≤ 200001) (hh : ∀ h ∈ hs, HrmOk v h) : ∀ n, n ≤ (dueT v p frm to).length → RI v (rAt v p frm to hs n)
  | 0, _ => by unfold rAt; exact RI.start hv hh
  | n + 1, hn => by
    have ih := rAt_ri hv he hf ht hh n (by omega)
    obtain ⟨j, hj, e1, e2, e3, e4⟩ := due_task hv he hf ht (List.getElem_mem (l := dueT v p frm to) (show n < _ by omega))
    rw [rAt_next (by omega)]
    obtain ⟨_, _, _, _, _, h⟩ := ref_step ih hj e1 e2 e3 e4
    exact h
theorem rAt_o {v : Vlt} {p : Pol} {frm to : Int} {hs : List Hrm} : ∀ n, n ≤ (dueT v p frm to).length → (rAt v p frm to hs n).o.length = n
  | 0, _ => rfl
  | n + 1, hn => by
    rw [rAt_next (by omega)]
    unfold refT
    rw [List.length_append, rAt_o n (by omega)]
    rfl
theorem rAt_hs {v : Vlt} {p : Pol} {frm to : Int} {hs : List Hrm} : ∀ n, n ≤ (dueT v p frm to).length → (rAt v p frm to hs n).hs.length ≤ hs.length
  | 0, _ => Nat.le_refl _
  | n + 1, hn => by
    have := rAt_hs (v := v) (p := p) (frm := frm) (to := to) (hs := hs) n (by omega)
    rw [rAt_next (by omega)]
    unfold refT
    dsimp only
    rw [List.length_drop]
    omega
theorem dueT_len (v : Vlt) (p : Pol) (frm to : Int) : (dueT v p frm to).length = manyTo frm p.every to v.copies v.copies.length := by
  unfold dueT dueL
  rw [List.length_map, sortSeg_len _ _ (Nat.zero_le _)]
  exact tagTo_len (Nat.le_refl _)
theorem dueR_T {v : Vlt} {p : Pol} {frm to : Int} (h : dueFault v p frm to = 0) : dueR v p frm to = dueT v p frm to := if_pos h
/-- How the reference's Live ends. -/
theorem rLive_end {v : Vlt} {p : Pol} {frm to : Int} {hs : List Hrm} (hb : bothFault v p = 0) (h1 : 0 ≤ frm ∧ frm ≤ 200000) (h2 : frm ≤ to ∧ to ≤ 200001) (hh : harmsFault v frm to hs = 0) (hd : dueFault v p frm to = 0) :
    liveFault v p frm to hs = 0 ∧ liveV v p frm to hs = withC v ((rAt v p frm to hs (dueT v p frm to).length).hs.foldl harmC (rAt v p frm to hs (dueT v p frm to).length).l) ∧ liveO v p frm to hs = (rAt v p frm to hs (dueT v p frm to).length).o := by
  obtain ⟨vo, po⟩ := both_ok hb
  obtain ⟨k1, k2, k3⟩ := live_ref vo po h1 h2 (hsok_of hh)
  have hmany : ¬ 20000 < (manyTo frm p.every to v.copies v.copies.length : Int) := fun hh => by
    unfold dueFault at hd
    rw [if_neg (fun h => h hb), if_neg (by unfold spanFault; rw [if_neg (by omega)]; simp), if_pos hh] at hd
    simp at hd
  have h0 : liveFault v p frm to hs = 0 := by
    unfold liveFault
    rw [if_neg (fun h => h hb), if_neg (by omega), if_neg (fun h => h hh), if_neg (by omega)]
  have e : rAt v p frm to hs (dueT v p frm to).length = ((dueL v p frm to).map Prod.fst).foldl refT ⟨v.copies, hs, []⟩ := by unfold rAt; rw [List.take_length]; rfl
  unfold liveV liveO
  rw [if_pos h0, if_pos h0, e, k2, k3]
  exact ⟨h0, rfl, rfl⟩
theorem rLive_over {v : Vlt} {p : Pol} {frm to : Int} {hs : List Hrm} (hb : bothFault v p = 0) (h1 : 0 ≤ frm ∧ frm ≤ 200000) (h2 : frm ≤ to ∧ to ≤ 200001) (hh : harmsFault v frm to hs = 0) (hd : dueFault v p frm to ≠ 0) : liveFault v p frm to hs = dueFault v p frm to := by
  obtain ⟨vo, po⟩ := both_ok hb
  obtain ⟨k1, _, _⟩ := live_ref vo po h1 h2 (hsok_of hh)
  unfold dueFault at hd ⊢
  rw [if_neg (fun h => h hb), if_neg (by unfold spanFault; rw [if_neg (by omega)]; simp)] at hd ⊢
  unfold liveFault
  rw [if_neg (fun h => h hb), if_neg (by omega), if_neg (fun h => h hh), k1]
  by_cases h : 20000 < manyTo frm p.every to v.copies v.copies.length
  · rw [if_pos h, if_pos (by omega)]
  · rw [if_neg h, if_neg (by omega)]
theorem due_small {v : Vlt} {p : Pol} {frm to : Int} (hb : bothFault v p = 0) (h1 : 0 ≤ frm ∧ frm ≤ 200000) (h2 : frm ≤ to ∧ to ≤ 200001) (hd : dueFault v p frm to = 0) : (dueT v p frm to).length ≤ 20000 := by
  rw [dueT_len]
  refine Nat.le_of_not_lt fun hh => ?_
  unfold dueFault at hd
  rw [if_neg (fun h => h hb), if_neg (by unfold spanFault; rw [if_neg (by omega)]; simp), if_pos (by omega)] at hd
  simp at hd
theorem cl_triple {a b c id : Nat} {s s' s'' : S} {sl : List Nat} (ha : sl.contains a = true) (hb : sl.contains b = true) (hc : sl.contains c = true) : ∀ p ∈ [(a, s), (b, s'), (c, s'')], ∀ f ∈ [(⟨id, sl⟩ : Fc)], f.slots.contains p.1 = true ∨ p.2.kill f.id = p.2 := by
  intro p hp f hf
  obtain rfl := List.mem_singleton.1 hf
  rcases List.mem_cons.1 hp with rfl | hp
  · exact .inl ha
  · rcases List.mem_cons.1 hp with rfl | hp
    · exact .inl hb
    · obtain rfl := List.mem_singleton.1 hp
      exact .inl hc


end Go.Proofs.YtieccphckobhjaaGreatDoor


namespace Go.Proofs.YtieccphckobhjaaGreatDoor
open Go.RowKit
set_option linter.unusedVariables false

/-! Types. -/
namespace TyR7
theorem ag_106 : AggT Tryz.prog 106 3 := .of (by kernel_rfl)
theorem ag_26 : AggT Tryz.prog 26 3 := .of (by kernel_rfl)
theorem ag_28 : AggT Tryz.prog 28 6 := .of (by kernel_rfl)
theorem ag_97 : AggT Tryz.prog 97 4 := .of (by kernel_rfl)
theorem bu_26 : StructT Tryz.prog 26 (fun i => (#[(0, 1), (1, 1), (2, 1)] : Array (Nat × Nat))[i]?) [(.slice none 0 0), (.slice none 0 0), (.slice none 0 0)] := .of (by kernel_rfl) (by kernel_rfl) (by decide)
theorem et_102 : ElemTy Tryz.prog 102 106 3 40 (.agg #[(.int .i64 0), (.string ⟨#[]⟩), (.string ⟨#[]⟩)]) := ⟨by kernel_rfl, by kernel_rfl, by kernel_rfl, by decide⟩
theorem et_41 : ElemTy Tryz.prog 41 97 4 48 (.agg #[(.int .i64 0), (.string ⟨#[]⟩), (.string ⟨#[]⟩), (.int .i64 0)]) := ⟨by kernel_rfl, by kernel_rfl, by kernel_rfl, by decide⟩
theorem fo_106_0 : fieldOff Tryz.prog 106 0 = some 0 := by kernel_rfl
theorem fo_106_1 : fieldOff Tryz.prog 106 1 = some 1 := by kernel_rfl
theorem fo_106_2 : fieldOff Tryz.prog 106 2 = some 2 := by kernel_rfl
theorem fo_97_0 : fieldOff Tryz.prog 97 0 = some 0 := by kernel_rfl
theorem sc_3 : Scal Tryz.prog 3 := .of (by kernel_rfl)
theorem sc_9 : Scal Tryz.prog 9 := .of (by kernel_rfl)
theorem sz_106 : ∀ w, (sizeOf 106).run Tryz.prog w = .ok 3 w := SizeT.of (by kernel_rfl)
theorem sz_26 : ∀ w, (sizeOf 26).run Tryz.prog w = .ok 3 w := SizeT.of (by kernel_rfl)
theorem sz_47 : ∀ w, (sizeOf 47).run Tryz.prog w = .ok 5 w := SizeT.of (by kernel_rfl)
theorem sz_97 : ∀ w, (sizeOf 97).run Tryz.prog w = .ok 4 w := SizeT.of (by kernel_rfl)
theorem zt_106 : (Tryz.prog.info? 106).bind (·.zero) = some (.agg #[(.int .i64 0), (.string ⟨#[]⟩), (.string ⟨#[]⟩)]) := by kernel_rfl
theorem zt_26 : (Tryz.prog.info? 26).bind (·.zero) = some (.agg #[(.slice none 0 0), (.slice none 0 0), (.slice none 0 0)]) := by kernel_rfl
theorem zt_47 : (Tryz.prog.info? 47).bind (·.zero) = some (.agg #[(.int .i64 0), (.string ⟨#[]⟩), (.string ⟨#[]⟩), (.int .i64 0), (.int .i64 0)]) := by kernel_rfl
theorem zt_97 : (Tryz.prog.info? 97).bind (·.zero) = some (.agg #[(.int .i64 0), (.string ⟨#[]⟩), (.string ⟨#[]⟩), (.int .i64 0)]) := by kernel_rfl
end TyR7
open TyR7


theorem hag_vr : AggT Tryz.prog 26 3 := .of (by kernel_rfl)
theorem hag_dr : AggT Tryz.prog 47 5 := .of (by kernel_rfl)
theorem hsz_vr : ∀ w, (sizeOf 26).run Tryz.prog w = .ok 3 w := SizeT.of (by kernel_rfl)
theorem het_dr : ElemTy Tryz.prog 42 47 5 56 (.agg #[(.int .i64 0), (.string ⟨#[]⟩), (.string ⟨#[]⟩), (.int .i64 0), (.int .i64 0)]) := ⟨by kernel_rfl, by kernel_rfl, by kernel_rfl, by decide⟩


set_option maxRecDepth 100000 in
set_option maxHeartbeats 8000000 in
theorem c_rLive (v : Vlt) (p : Pol) (frm to : Int) (hs : List Hrm) (hsm : smallV v) : ACall Tryz.prog 14 [.agg v.ds, .agg p.ds, .v (.int .i64 frm), .v (.int .i64 to), .sl (hs.map Hrm.ds)] (.tup [.agg (liveV v p frm to hs).ds, .sl ((liveO v p frm to hs).map Dn.ds), .v (.int .i64 (liveFault v p frm to hs))]) := by
  refine acall_ofR (n := 122) (ds' := [.agg (liveV v p frm to hs).ds, .sl ((liveO v p frm to hs).map Dn.ds), .v (.int .i64 (liveFault v p frm to hs))]) Tryz.func14 rfl (by kernel_rfl) rfl [.cell 10 26, .tmp 11, .tmp 12] rfl rfl ?_
  intro B w0 F0 fr
  refine AWP.seq ?_
  refine AWP.region ?_
  refine AOps.boxOwn 201 rfl rfl rfl rfl rfl rfl rfl ?_
  refine AOps.step rfl rfl rfl (AOp.box rfl rfl rfl) ?_
  refine AOps.alloc 202 rfl rfl rfl rfl zt_26 rfl rfl rfl ?_
  refine AOps.step rfl rfl rfl (AOp.assignD rfl rfl) ?_
  refine AOps.step rfl rfl rfl (AOp.assignD rfl rfl) ?_
  refine AOps.nil ?_
  refine AWP.seq ?_
  refine AWP.seq ?_
  refine AWP.region ?_
  refine AOps.step rfl rfl rfl (AOp.loadPU rfl ag_26 rfl (.tail _ (.head _)) rfl rfl) ?_
  refine AOps.step rfl rfl rfl (AOp.call rfl (.cons (ArgOk.rfl' rfl) .nil) (c_rCheck v hsm)) ?_
  refine AOps.step rfl rfl rfl (AOp.assignD rfl rfl) ?_
  refine AOps.nil ?_
  refine AWP.seq ?_
  refine AWP.region ?_
  refine AOps.step rfl rfl rfl (AOp.moveD rfl rfl) ?_
  refine AOps.step rfl rfl rfl (AOp.neq rfl rfl rfl) ?_
  refine AOps.nil ?_
  refine AWP.cond rfl (fun h1 => ?_) (fun h1 => ?_)
  · replace h1 := of_decide_eq_true h1
    have HB := both_v (p := p) h1
    have HF : liveFault v p frm to hs = checkV v := by unfold liveFault; rw [HB, if_pos h1]
    obtain ⟨HV, HO⟩ := live_bad (v := v) (p := p) (frm := frm) (to := to) (hs := hs) (by rw [HF]; first | assumption | decide)
    rw [HV, HO, HF]
    refine AWP.seq ?_
    refine AWP.region ?_
    refine AOps.step rfl rfl rfl (AOp.build rfl bu_26 .nil rfl) ?_
    refine AOps.step rfl rfl rfl (AOp.moveD rfl rfl) ?_
    refine AOps.store rfl rfl rfl sz_26 rfl (.head _) rfl rfl rfl (Nat.le_of_ble_eq_true rfl) ?_
    refine AOps.step rfl rfl rfl (AOp.assignD rfl rfl) ?_
    refine AOps.step rfl rfl rfl (AOp.assignD rfl rfl) ?_
    refine AOps.nil ?_
    refine AWP.ret ?_
    refine ⟨RetR.agg rfl (.head _) ag_26 rfl (.cons (by first | exact CellD.nil | exact CellD.d | exact CellD.eq (by simp) | (refine CellD.own (by first | exact .head _ | exact .tail _ (.head _)) ?_; rfl)) (.cons (by first | exact CellD.nil | exact CellD.d | exact CellD.eq (by simp) | (refine CellD.own (by first | exact .head _ | exact .tail _ (.head _)) ?_; rfl)) (.cons (by first | exact CellD.nil | exact CellD.d | exact CellD.eq (by simp) | (refine CellD.own (by first | exact .head _ | exact .tail _ (.head _)) ?_; rfl)) .nil))), RetD.nil rfl, RetD.eq rfl ?_, trivial⟩
    all_goals (rfl)
  replace h1 := of_decide_eq_false h1
  have HB := both_p (p := p) (Decidable.not_not.1 h1)
  refine AWP.skip ?_
  refine AWP.seq ?_
  refine AWP.seq ?_
  refine AWP.region ?_
  refine AOps.step rfl rfl rfl (AOp.loadAgg rfl ag_28 rfl rfl) ?_
  refine AOps.step rfl rfl rfl (AOp.call rfl (.cons (ArgOk.rfl' rfl) .nil) (c_rPol p)) ?_
  refine AOps.step rfl rfl rfl (AOp.assignD rfl rfl) ?_
  refine AOps.nil ?_
  refine AWP.seq ?_
  refine AWP.region ?_
  refine AOps.step rfl rfl rfl (AOp.moveD rfl rfl) ?_
  refine AOps.step rfl rfl rfl (AOp.neq rfl rfl rfl) ?_
  refine AOps.nil ?_
  refine AWP.cond rfl (fun h2 => ?_) (fun h2 => ?_)
  · replace h2 := of_decide_eq_true h2
    have HF : liveFault v p frm to hs = polFault p := by unfold liveFault; rw [HB, if_pos h2]
    obtain ⟨HV, HO⟩ := live_bad (v := v) (p := p) (frm := frm) (to := to) (hs := hs) (by rw [HF]; first | assumption | decide)
    rw [HV, HO, HF]
    refine AWP.seq ?_
    refine AWP.region ?_
    refine AOps.step rfl rfl rfl (AOp.build rfl bu_26 .nil rfl) ?_
    refine AOps.step rfl rfl rfl (AOp.moveD rfl rfl) ?_
    refine AOps.store rfl rfl rfl sz_26 rfl (.head _) rfl rfl rfl (Nat.le_of_ble_eq_true rfl) ?_
    refine AOps.step rfl rfl rfl (AOp.assignD rfl rfl) ?_
    refine AOps.step rfl rfl rfl (AOp.assignD rfl rfl) ?_
    refine AOps.nil ?_
    refine AWP.ret ?_
    refine ⟨RetR.agg rfl (.head _) ag_26 rfl (.cons (by first | exact CellD.nil | exact CellD.d | exact CellD.eq (by simp) | (refine CellD.own (by first | exact .head _ | exact .tail _ (.head _)) ?_; rfl)) (.cons (by first | exact CellD.nil | exact CellD.d | exact CellD.eq (by simp) | (refine CellD.own (by first | exact .head _ | exact .tail _ (.head _)) ?_; rfl)) (.cons (by first | exact CellD.nil | exact CellD.d | exact CellD.eq (by simp) | (refine CellD.own (by first | exact .head _ | exact .tail _ (.head _)) ?_; rfl)) .nil))), RetD.nil rfl, RetD.eq rfl ?_, trivial⟩
    all_goals (rfl)
  replace h2 := of_decide_eq_false h2
  have hb0 : bothFault v p = 0 := HB.trans (Decidable.not_not.1 h2)
  obtain ⟨vo, po⟩ := both_ok hb0
  have hpe := po.every
  refine AWP.skip ?_
  refine AWP.seq ?_
  refine AWP.seq ?_
  refine AWP.region ?_
  refine AOps.step rfl rfl rfl (AOp.moveD rfl rfl) ?_
  refine AOps.step rfl rfl rfl (AOp.moveD rfl rfl) ?_
  refine AOps.step rfl rfl rfl (AOp.call rfl (.cons (ArgOk.rfl' rfl) (.cons (ArgOk.rfl' rfl) .nil)) (c_span _ _)) ?_
  refine AOps.step rfl rfl rfl (AOp.assignD rfl rfl) ?_
  refine AOps.nil ?_
  refine AWP.seq ?_
  refine AWP.region ?_
  refine AOps.step rfl rfl rfl (AOp.moveD rfl rfl) ?_
  refine AOps.step rfl rfl rfl (AOp.neq rfl rfl rfl) ?_
  refine AOps.nil ?_
  refine AWP.cond rfl (fun h3 => ?_) (fun h3 => ?_)
  · replace h3 := of_decide_eq_true h3
    have hor : ¬ (0 ≤ frm ∧ frm ≤ 200000) ∨ ¬ (frm ≤ to ∧ to ≤ 200001) := by
      unfold spanFault at h3
      split at h3
      · assumption
      simp at h3
    have HS : spanFault frm to = 1 := if_pos hor
    have HF : liveFault v p frm to hs = 1 := by unfold liveFault; rw [if_neg (fun hh => hh hb0), if_pos hor]
    obtain ⟨HV, HO⟩ := live_bad (v := v) (p := p) (frm := frm) (to := to) (hs := hs) (by rw [HF]; first | assumption | decide)
    rw [HV, HO, HF]
    rw [HS]
    refine AWP.seq ?_
    refine AWP.region ?_
    refine AOps.step rfl rfl rfl (AOp.build rfl bu_26 .nil rfl) ?_
    refine AOps.step rfl rfl rfl (AOp.moveD rfl rfl) ?_
    refine AOps.store rfl rfl rfl sz_26 rfl (.head _) rfl rfl rfl (Nat.le_of_ble_eq_true rfl) ?_
    refine AOps.step rfl rfl rfl (AOp.assignD rfl rfl) ?_
    refine AOps.step rfl rfl rfl (AOp.assignD rfl rfl) ?_
    refine AOps.nil ?_
    refine AWP.ret ?_
    refine ⟨RetR.agg rfl (.head _) ag_26 rfl (.cons (by first | exact CellD.nil | exact CellD.d | exact CellD.eq (by simp) | (refine CellD.own (by first | exact .head _ | exact .tail _ (.head _)) ?_; rfl)) (.cons (by first | exact CellD.nil | exact CellD.d | exact CellD.eq (by simp) | (refine CellD.own (by first | exact .head _ | exact .tail _ (.head _)) ?_; rfl)) (.cons (by first | exact CellD.nil | exact CellD.d | exact CellD.eq (by simp) | (refine CellD.own (by first | exact .head _ | exact .tail _ (.head _)) ?_; rfl)) .nil))), RetD.nil rfl, RetD.eq rfl ?_, trivial⟩
    all_goals (rfl)
  replace h3 := of_decide_eq_false h3
  have HS := Decidable.not_not.1 h3
  have hsp : (0 ≤ frm ∧ frm ≤ 200000) ∧ (frm ≤ to ∧ to ≤ 200001) := by
    unfold spanFault at HS
    split at HS
    · simp at HS
    omega
  refine AWP.skip ?_
  refine AWP.seq ?_
  refine AWP.seq ?_
  refine AWP.region ?_
  refine AOps.step rfl rfl rfl (AOp.loadPU rfl ag_26 rfl (.tail _ (.head _)) rfl rfl) ?_
  refine AOps.step rfl rfl rfl (AOp.moveD rfl rfl) ?_
  refine AOps.step rfl rfl rfl (AOp.moveD rfl rfl) ?_
  refine AOps.step rfl rfl rfl (AOp.moveD rfl rfl) ?_
  refine AOps.step rfl rfl rfl (AOp.call rfl (.cons (ArgOk.rfl' rfl) (.cons (ArgOk.rfl' rfl) (.cons (ArgOk.rfl' rfl) (.cons (ArgOk.rfl' rfl) .nil)))) (c_checkHarmsR v frm to hs (okItems_of vo.items) (by omega))) ?_
  refine AOps.step rfl rfl rfl (AOp.assignD rfl rfl) ?_
  refine AOps.nil ?_
  refine AWP.seq ?_
  refine AWP.region ?_
  refine AOps.step rfl rfl rfl (AOp.moveD rfl rfl) ?_
  refine AOps.step rfl rfl rfl (AOp.neq rfl rfl rfl) ?_
  refine AOps.nil ?_
  refine AWP.cond rfl (fun h4 => ?_) (fun h4 => ?_)
  · replace h4 := of_decide_eq_true h4
    have HF : liveFault v p frm to hs = harmsFault v frm to hs := by unfold liveFault; rw [if_neg (fun hh => hh hb0), if_neg (by omega), if_pos h4]
    obtain ⟨HV, HO⟩ := live_bad (v := v) (p := p) (frm := frm) (to := to) (hs := hs) (by rw [HF]; first | assumption | decide)
    rw [HV, HO, HF]
    refine AWP.seq ?_
    refine AWP.region ?_
    refine AOps.step rfl rfl rfl (AOp.build rfl bu_26 .nil rfl) ?_
    refine AOps.step rfl rfl rfl (AOp.moveD rfl rfl) ?_
    refine AOps.store rfl rfl rfl sz_26 rfl (.head _) rfl rfl rfl (Nat.le_of_ble_eq_true rfl) ?_
    refine AOps.step rfl rfl rfl (AOp.assignD rfl rfl) ?_
    refine AOps.step rfl rfl rfl (AOp.assignD rfl rfl) ?_
    refine AOps.nil ?_
    refine AWP.ret ?_
    refine ⟨RetR.agg rfl (.head _) ag_26 rfl (.cons (by first | exact CellD.nil | exact CellD.d | exact CellD.eq (by simp) | (refine CellD.own (by first | exact .head _ | exact .tail _ (.head _)) ?_; rfl)) (.cons (by first | exact CellD.nil | exact CellD.d | exact CellD.eq (by simp) | (refine CellD.own (by first | exact .head _ | exact .tail _ (.head _)) ?_; rfl)) (.cons (by first | exact CellD.nil | exact CellD.d | exact CellD.eq (by simp) | (refine CellD.own (by first | exact .head _ | exact .tail _ (.head _)) ?_; rfl)) .nil))), RetD.nil rfl, RetD.eq rfl ?_, trivial⟩
    all_goals (rfl)
  replace h4 := of_decide_eq_false h4
  have hh0 := Decidable.not_not.1 h4
  have hok := hsok_of hh0
  refine AWP.skip ?_
  refine AWP.seq ?_
  refine AWP.region ?_
  refine AOps.step rfl rfl rfl (AOp.loadPU rfl ag_26 rfl (.tail _ (.head _)) rfl rfl) ?_
  refine AOps.step rfl rfl rfl (AOp.loadAgg rfl ag_28 rfl rfl) ?_
  refine AOps.step rfl rfl rfl (AOp.moveD rfl rfl) ?_
  refine AOps.step rfl rfl rfl (AOp.moveD rfl rfl) ?_
  refine AOps.step rfl rfl rfl (AOp.call rfl (.cons (ArgOk.rfl' rfl) (.cons (ArgOk.rfl' rfl) (.cons (ArgOk.rfl' rfl) (.cons (ArgOk.rfl' rfl) .nil)))) (c_rDue v p frm to hsm)) ?_
  refine AOps.step rfl rfl rfl (AOp.moveD rfl rfl) ?_
  refine AOps.step rfl rfl rfl (AOp.extract rfl rfl rfl) ?_
  refine AOps.step rfl rfl rfl (AOp.extract rfl rfl rfl) ?_
  refine AOps.step rfl rfl rfl (AOp.assignD rfl rfl) ?_
  refine AOps.step rfl rfl rfl (AOp.assignD rfl rfl) ?_
  refine AOps.nil ?_
  refine AWP.seq ?_
  refine AWP.seq ?_
  refine AWP.region ?_
  refine AOps.step rfl rfl rfl (AOp.moveD rfl rfl) ?_
  refine AOps.step rfl rfl rfl (AOp.neq rfl rfl rfl) ?_
  refine AOps.nil ?_
  refine AWP.cond rfl (fun h5 => ?_) (fun h5 => ?_)
  · replace h5 := of_decide_eq_true h5
    have HF := rLive_over hb0 hsp.1 hsp.2 hh0 h5
    obtain ⟨HV, HO⟩ := live_bad (v := v) (p := p) (frm := frm) (to := to) (hs := hs) (by rw [HF]; first | assumption | decide)
    rw [HV, HO, HF]
    refine AWP.seq ?_
    refine AWP.region ?_
    refine AOps.step rfl rfl rfl (AOp.build rfl bu_26 .nil rfl) ?_
    refine AOps.step rfl rfl rfl (AOp.moveD rfl rfl) ?_
    refine AOps.store rfl rfl rfl sz_26 rfl (.head _) rfl rfl rfl (Nat.le_of_ble_eq_true rfl) ?_
    refine AOps.step rfl rfl rfl (AOp.assignD rfl rfl) ?_
    refine AOps.step rfl rfl rfl (AOp.assignD rfl rfl) ?_
    refine AOps.nil ?_
    refine AWP.ret ?_
    refine ⟨RetR.agg rfl (.head _) ag_26 rfl (.cons (by first | exact CellD.nil | exact CellD.d | exact CellD.eq (by simp) | (refine CellD.own (by first | exact .head _ | exact .tail _ (.head _)) ?_; rfl)) (.cons (by first | exact CellD.nil | exact CellD.d | exact CellD.eq (by simp) | (refine CellD.own (by first | exact .head _ | exact .tail _ (.head _)) ?_; rfl)) (.cons (by first | exact CellD.nil | exact CellD.d | exact CellD.eq (by simp) | (refine CellD.own (by first | exact .head _ | exact .tail _ (.head _)) ?_; rfl)) .nil))), RetD.nil rfl, RetD.eq rfl ?_, trivial⟩
    all_goals (rfl)
  replace h5 := of_decide_eq_false h5
  have hd0 := Decidable.not_not.1 h5
  obtain ⟨HF, HV, HO⟩ := rLive_end hb0 hsp.1 hsp.2 hh0 hd0
  have hmx := due_small hb0 hsp.1 hsp.2 hd0
  rw [HV, HO, HF, dueR_T hd0]
  refine AWP.skip ?_
  refine AWP.seq ?_
  refine AWP.region ?_
  refine AOps.step rfl rfl rfl (AOp.assignD rfl rfl) ?_
  refine AOps.nil ?_
  refine AWP.seq ?_
  refine AWP.seq ?_
  refine AWP.region ?_
  refine AOps.step rfl rfl rfl (AOp.moveD rfl rfl) ?_
  refine AOps.step rfl rfl rfl (AOp.lenSl rfl et_102.ht rfl) ?_
  refine AOps.step rfl rfl rfl (AOp.moveD rfl rfl) ?_
  refine AOps.nil ?_
  refine AWP.block ?_
  refine AWP.adopt 19 210 47 5 rfl rfl ?_
  refine AWP.loop (G := Nat) (fun n => Env.of [(68, .d (.v (.int .i64 (n : Int)))), (66, .d (.sl ((dueT v p frm to).map Tsk.ds))), (67, .d (.v (.int .i64 (((dueT v p frm to).map Tsk.ds).length : Int)))), (4, .d (.sl ((rAt v p frm to hs n).hs.map Hrm.ds))), (5, .ptr 201 0), (10, .ptr 202 0), (19, .own 210)]) (fun n => [(210, .row 47 5 (((rAt v p frm to hs n).o).map Dn.ds)), (202, .cells [.d (.v (.slice none 0 0)), .d (.v (.slice none 0 0)), .d (.v (.slice none 0 0))]), (201, .cells ((withC v (rAt v p frm to hs n).l).ds.map S.d))]) (fun n => n ≤ (dueT v p frm to).length) (fun n => (dueT v p frm to).length - n) 0 (Nat.zero_le _) (Sub.less ⟨(SLe.of_eq rfl), SLe.refl _, SLe.refl _, (SLe.of_eq rfl), SLe.refl _, SLe.refl _, SLe.refl _, trivial⟩ (mem_of_eq rfl)) ?_
  intro n hn
  refine AWP.seq ?_
  refine AWP.region ?_
  refine AOps.step rfl rfl rfl (AOp.lss rfl rfl rfl) ?_
  refine AOps.nil ?_
  refine AWP.seq ?_
  refine AWP.cond rfl (fun h6 => ?_) (fun h6 => ?_)
  · replace h6 := of_decide_eq_true h6
    rw [List.length_map] at h6
    have hlt : n < (dueT v p frm to).length := by omega
    obtain ⟨j0, hj0, e1, e2, e3, e4⟩ := due_task vo hpe.1 hsp.1.1 hsp.2.2 (List.getElem_mem hlt)
    have hri := rAt_ri vo hpe.1 hsp.1.1 hsp.2.2 hok.ok n (by omega)
    obtain ⟨hk, ec, el, eh, eo, _⟩ := ref_step hri hj0 e1 e2 e3 e4
    have hro := rAt_o (v := v) (p := p) (frm := frm) (to := to) (hs := hs) n (by omega)
    have hN := rAt_next (hs := hs) hlt
    have hvl := hR_vok hri (dueT v p frm to)[n].day (upTo (rAt v p frm to hs n).hs (dueT v p frm to)[n].day).length
    obtain ⟨c1, c2⟩ := chkR_eq hvl hk (dueT v p frm to)[n].day
    refine AWP.skip ?_
    refine AWP.seq ?_
    refine AWP.block ?_
    refine AWP.seq ?_
    refine AWP.region ?_
    refine AOps.step rfl rfl rfl (AOp.indexAddr rfl et_102 rfl rfl n rfl (at_list hlt) rfl) ?_
    refine AOps.step rfl rfl rfl (AOp.loadAgg rfl ag_106 rfl rfl) ?_
    refine AOps.alloc 203 rfl rfl rfl rfl zt_106 rfl rfl rfl ?_
    refine AOps.store rfl rfl rfl sz_106 rfl (.head _) rfl rfl rfl (Nat.le_of_ble_eq_true rfl) ?_
    refine AOps.freezeCells 21 (ds := (dueT v p frm to)[n].ds) rfl (.head _) ?_
    refine AOps.nil ?_
    refine AWP.seq ?_
    refine AWP.block ?_
    refine AWP.loop (G := Nat) (fun j => Env.of [(4, .d (.sl (((rAt v p frm to hs n).hs.drop j).map Hrm.ds))), (21, .d (.fp (dueT v p frm to)[n].ds)), (68, .d (.v (.int .i64 (n : Int)))), (66, .d (.sl ((dueT v p frm to).map Tsk.ds))), (67, .d (.v (.int .i64 (((dueT v p frm to).map Tsk.ds).length : Int)))), (5, .ptr 201 0), (10, .ptr 202 0), (19, .own 210)]) (fun j => [(210, .row 47 5 (((rAt v p frm to hs n).o).map Dn.ds)), (202, .cells [.d (.v (.slice none 0 0)), .d (.v (.slice none 0 0)), .d (.v (.slice none 0 0))]), (201, .cells ((withC v (hR (rAt v p frm to hs n) (dueT v p frm to)[n].day j)).ds.map S.d))]) (fun j => j ≤ (upTo (rAt v p frm to hs n).hs (dueT v p frm to)[n].day).length) (fun j => (upTo (rAt v p frm to hs n).hs (dueT v p frm to)[n].day).length - j) 0 (Nat.zero_le _) (Sub.less ⟨(SLe.of_eq rfl), SLe.refl _, SLe.refl _, SLe.refl _, SLe.refl _, SLe.refl _, SLe.refl _, SLe.refl _, trivial⟩ (mem_of_eq rfl)) ?_
    intro j hj
    refine AWP.seq ?_
    refine AWP.seq ?_
    refine AWP.draw (by kernel_rfl) (by kernel_rfl) ?_
    refine DRun.step rfl rfl rfl (AOp.moveD rfl rfl) ?_
    refine DRun.step rfl rfl rfl (AOp.lenSl rfl et_41.ht rfl) ?_
    refine DRun.step rfl rfl rfl (AOp.gtr rfl rfl rfl) ?_
    refine DRun.step rfl rfl rfl (AOp.moveD rfl rfl) ?_
    refine DRun.split 75 rfl (fun g7 => ?_) (fun g7 => ?_)
    · replace g7 := of_decide_eq_true g7
      rw [List.length_map, List.length_drop] at g7
      have hjl : j < (rAt v p frm to hs n).hs.length := by omega
      refine DRun.step ⟨75, rfl, .inl ⟨_, rfl, rfl⟩⟩ rfl rfl (AOp.moveD rfl rfl) ?_
      refine DRun.step ⟨75, rfl, .inl ⟨_, rfl, rfl⟩⟩ rfl rfl (AOp.indexAddr rfl et_41 rfl rfl 0 rfl (drop_at hjl) rfl) ?_
      refine DRun.step ⟨75, rfl, .inl ⟨_, rfl, rfl⟩⟩ rfl rfl (AOp.fieldAddr rfl fo_97_0 rfl) ?_
      refine DRun.step ⟨75, rfl, .inl ⟨_, rfl, rfl⟩⟩ rfl rfl (AOp.load rfl sc_3 rfl) ?_
      refine DRun.step ⟨75, rfl, .inl ⟨_, rfl, rfl⟩⟩ rfl rfl (AOp.fieldAddr rfl fo_106_0 rfl) ?_
      refine DRun.step ⟨75, rfl, .inl ⟨_, rfl, rfl⟩⟩ rfl rfl (AOp.load rfl sc_3 rfl) ?_
      refine DRun.step ⟨75, rfl, .inl ⟨_, rfl, rfl⟩⟩ rfl rfl (AOp.leq rfl rfl rfl) ?_
      refine DRun.step rfl rfl rfl (AOp.pickT rfl rfl rfl) ?_
      refine DRun.nil ?_
      refine AWP.cond rfl (fun h8 => ?_) (fun h8 => ?_)
      · replace h8 := of_decide_eq_true h8
        have hjn := upTo_in hjl hj h8
        have hvh := hR_vok hri (dueT v p frm to)[n].day j
        have HN := hR_next hjl hjn
        have HH := harmR_eq hvh (hri.hok _ (List.getElem_mem hjl))
        have HC := c_harmed (withC v (hR (rAt v p frm to hs n) (dueT v p frm to)[n].day j)) (rAt v p frm to hs n).hs[j] (by have h1 : (hR (rAt v p frm to hs n) (dueT v p frm to)[n].day j).length ≤ 200 := hvh.np; show (hR (rAt v p frm to hs n) (dueT v p frm to)[n].day j).length ≤ 100000; omega) (fun c hc => Nat.le_trans (vok_bad hvh c hc) (by decide))
        refine AWP.skip ?_
        refine AWP.block ?_
        refine AWP.drawG (fun k => (Nat.beq k 7) || (Nat.beq k 0)) (fun k => Nat.beq k 7) (fun k h => Bool.or_eq_true_iff.2 (.inl h)) (by kernel_rfl) (by kernel_rfl) (by kernel_rfl) ?_
        refine GRun.stepS rfl rfl rfl rfl (AOp.loadPU rfl ag_26 rfl (.tail _ (.tail _ (.head _))) rfl rfl) ?_
        refine GRun.step rfl rfl rfl (fun _ => AOp.moveD rfl rfl) ?_
        refine GRun.step rfl rfl rfl (fun _ => AOp.indexAddr rfl et_41 rfl rfl 0 rfl (drop_at hjl) rfl) ?_
        refine GRun.step rfl rfl rfl (fun _ => AOp.loadAgg rfl ag_97 rfl rfl) ?_
        refine GRun.step rfl rfl rfl (fun _ => AOp.call rfl (.cons (ArgOk.rfl' rfl) (.cons (ArgOk.rfl' rfl) .nil)) HC) ?_
        refine GRun.step rfl rfl rfl (fun _ => AOp.moveD rfl rfl) ?_
        refine GRun.step rfl rfl rfl (fun _ => AOp.sliceL rfl et_41 rfl rfl (by decide) (by rw [List.length_map, List.length_drop]; omega) (fun y hy => by obtain ⟨x, _, rfl⟩ := List.mem_map.1 hy; rfl)) ?_
        refine GRun.eff rfl rfl rfl (EOp.store rfl rfl sz_26 rfl (.tail _ (.tail _ (.head _))) rfl rfl rfl (Nat.le_of_ble_eq_true rfl)) ?_
        refine GRun.step rfl rfl rfl (fun _ => AOp.assignD rfl rfl) ?_
        refine GRun.nil ?_
        refine ⟨j + 1, (by dsimp only; omega), (by dsimp only; omega), Sub.less ⟨(SLe.of_eq (congrArg (fun x => S.d (D.sl x)) drop_next)), SLe.refl _, SLe.refl _, SLe.refl _, SLe.refl _, SLe.refl _, SLe.refl _, SLe.refl _, trivial⟩ (mem_of_eq (by dsimp only; rw [HN, ← HH]; rfl))⟩
      replace h8 := of_decide_eq_false h8
      have hje : j = (upTo (rAt v p frm to hs n).hs (dueT v p frm to)[n].day).length := upTo_end hj (fun _ => h8)
      refine AWP.exit ?_
      refine AWP.seq ?_
      subst hje
      refine AWP.drawFreshL 15 [12] [⟨22, 222, .ptr 222 0, .cells [.d (.v (.slice none 0 0)), .d (.v (.slice none 0 0)), .d (.v (.slice none 0 0))]⟩, ⟨23, 223, .ptr 223 0, .cells [.d (.v (.int .i64 0)), .d (.v (.string ⟨#[]⟩)), .d (.v (.string ⟨#[]⟩)), .d (.v (.int .i64 0)), .d (.v (.int .i64 0))]⟩] (FrOk.two rfl (by simp) rfl rfl rfl rfl (by simp) rfl rfl rfl (Nat.ne_of_beq_eq_false rfl) (Nat.ne_of_beq_eq_false rfl) rfl rfl rfl rfl) (by kernel_rfl) (by kernel_rfl) (by kernel_rfl) (by kernel_rfl) (by kernel_rfl) ?_
      refine XRun.step rfl rfl rfl (AOp.loadPU rfl ag_26 rfl (.tail _ (.tail _ (.head _))) rfl rfl) ?_
      refine XRun.step rfl rfl rfl (AOp.loadPU rfl ag_26 rfl (.tail _ (.tail _ (.head _))) rfl rfl) ?_
      refine XRun.step rfl rfl rfl (AOp.fieldAddr rfl fo_106_1 rfl) ?_
      refine XRun.step rfl rfl rfl (AOp.load rfl sc_9 rfl) ?_
      refine XRun.step rfl rfl rfl (AOp.fieldAddr rfl fo_106_2 rfl) ?_
      refine XRun.step rfl rfl rfl (AOp.load rfl sc_9 rfl) ?_
      refine XRun.step rfl rfl rfl (AOp.call rfl (.cons (ArgOk.rfl' rfl) (.cons (ArgOk.rfl' rfl) (.cons (ArgOk.rfl' rfl) .nil))) (c_copyOfR (withC v (hR (rAt v p frm to hs n) (dueT v p frm to)[n].day (upTo (rAt v p frm to hs n).hs (dueT v p frm to)[n].day).length)) (dueT v p frm to)[n].item (dueT v p frm to)[n].carrier (by have h1 : (hR (rAt v p frm to hs n) (dueT v p frm to)[n].day (upTo (rAt v p frm to hs n).hs (dueT v p frm to)[n].day).length).length ≤ 200 := hvl.np; show (hR (rAt v p frm to hs n) (dueT v p frm to)[n].day (upTo (rAt v p frm to hs n).hs (dueT v p frm to)[n].day).length).length ≤ 100000; omega))) ?_
      rw [ec]
      refine XRun.step rfl rfl rfl (AOp.fieldAddr rfl fo_106_0 rfl) ?_
      refine XRun.step rfl rfl rfl (AOp.load rfl sc_3 rfl) ?_
      refine XRun.step rfl rfl rfl (AOp.call rfl (.cons (ArgOk.rfl' rfl) (.cons (ArgOk.rfl' rfl) (.cons (ArgOk.rfl' rfl) .nil))) (c_checkedR (withC v (hR (rAt v p frm to hs n) (dueT v p frm to)[n].day (upTo (rAt v p frm to hs n).hs (dueT v p frm to)[n].day).length)) j0 (dueT v p frm to)[n].day hk (by have h1 : (hR (rAt v p frm to hs n) (dueT v p frm to)[n].day (upTo (rAt v p frm to hs n).hs (dueT v p frm to)[n].day).length).length ≤ 200 := hvl.np; show (hR (rAt v p frm to hs n) (dueT v p frm to)[n].day (upTo (rAt v p frm to hs n).hs (dueT v p frm to)[n].day).length).length ≤ 100000; omega) (Nat.le_trans (vok_bad hvl _ (List.getElem_mem hk)) (by decide)))) ?_
      refine XRun.step rfl rfl rfl (AOp.moveD rfl rfl) ?_
      refine XRun.step rfl rfl rfl (AOp.extract rfl rfl rfl) ?_
      refine XRun.step rfl rfl rfl (AOp.extract rfl rfl rfl) ?_
      refine XRun.alloc _ (.head _) rfl rfl rfl rfl rfl zt_26 rfl rfl rfl rfl ?_
      refine XRun.alloc _ (.tail _ (.head _)) rfl rfl rfl rfl rfl zt_47 rfl rfl rfl rfl ?_
      refine XRun.nil ⟨rfl, rfl, trivial⟩ ?_
      refine AOps.store rfl rfl rfl sz_26 rfl (.head _) rfl rfl rfl (Nat.le_of_ble_eq_true rfl) ?_
      refine AOps.freezeCells 22 (ds := (withC v (chkR (hR (rAt v p frm to hs n) (dueT v p frm to)[n].day (upTo (rAt v p frm to hs n).hs (dueT v p frm to)[n].day).length) j0 (dueT v p frm to)[n].day)).ds) rfl (.head _) ?_
      refine AOps.store rfl rfl rfl sz_47 rfl (.head _) rfl rfl rfl (Nat.le_of_ble_eq_true rfl) ?_
      refine AOps.freezeCells 23 (ds := (dnR (hR (rAt v p frm to hs n) (dueT v p frm to)[n].day (upTo (rAt v p frm to hs n).hs (dueT v p frm to)[n].day).length) j0 (dueT v p frm to)[n].day).ds) rfl (.head _) ?_
      refine AOps.nil ?_
      refine AWP.drawLTail 5 [⟨210, [19, 105, 108]⟩] [(4, [19, 105, 108])] (fun _ => True) (by kernel_rfl) (by kernel_rfl) (by kernel_rfl) (by kernel_rfl) ?_
      refine LRun.step rfl rfl rfl trivial (fun τ _ => AOp.loadAgg rfl hag_vr rfl rfl) ?_
      refine LRun.step rfl rfl rfl trivial (fun τ _ => AOp.moveO rfl rfl) ?_
      refine LRun.step rfl rfl rfl trivial (fun τ _ => AOp.loadAgg rfl hag_dr rfl rfl) ?_
      refine LRun.step rfl rfl rfl trivial (fun τ _ => AOp.buildSlice rfl het_dr (.cons rfl rfl rfl .nil) rfl (by decide)) ?_
      refine LRun.eff rfl rfl trivial trivial (GE.append3 210 105 19 (.head _) (fun t h1 h2 h3 => by simp [h1, h2, h3]) (by decide) (by decide) (by decide) rfl rfl rfl rfl het_dr rfl (.head _) rfl (fun y hy => by obtain rfl := List.mem_singleton.1 hy; rfl) (by simp; omega) (by simp; omega) rfl) ?_ (cl_triple rfl rfl rfl)
      refine LRun.nil ?_
      refine AOps.store rfl rfl rfl hsz_vr rfl (.tail _ (.tail _ (.head _))) rfl rfl rfl (Nat.le_of_ble_eq_true rfl) ?_
      refine AOps.step rfl rfl rfl (AOp.assignO rfl rfl) ?_
      refine AOps.nil ?_
      refine AWP.region ?_
      refine AOps.step rfl rfl rfl (AOp.add64 rfl rfl rfl (by omega) (by omega)) ?_
      refine AOps.step rfl rfl rfl (AOp.moveD rfl rfl) ?_
      refine AOps.nil ?_
      refine ⟨n + 1, (by dsimp only; omega), (by dsimp only; omega), Sub.less ⟨(SLe.of_eq rfl), SLe.refl _, SLe.refl _, (SLe.of_eq (by dsimp only; rw [hN, eh]; rfl)), SLe.refl _, SLe.refl _, SLe.refl _, trivial⟩ (mem_of_eq (by dsimp only; rw [hN, el, eo, ← c1, ← c2, List.map_append]; rfl))⟩
    replace g7 := of_decide_eq_false g7
    rw [List.length_map, List.length_drop] at g7
    have hje : j = (upTo (rAt v p frm to hs n).hs (dueT v p frm to)[n].day).length := upTo_end hj (fun hjl => by omega)
    refine DRun.pass ⟨75, rfl, .inl ⟨_, rfl, rfl⟩⟩ rfl rfl ?_
    refine DRun.pass ⟨75, rfl, .inl ⟨_, rfl, rfl⟩⟩ rfl rfl ?_
    refine DRun.pass ⟨75, rfl, .inl ⟨_, rfl, rfl⟩⟩ rfl rfl ?_
    refine DRun.pass ⟨75, rfl, .inl ⟨_, rfl, rfl⟩⟩ rfl rfl ?_
    refine DRun.pass ⟨75, rfl, .inl ⟨_, rfl, rfl⟩⟩ rfl rfl ?_
    refine DRun.pass ⟨75, rfl, .inl ⟨_, rfl, rfl⟩⟩ rfl rfl ?_
    refine DRun.pass ⟨75, rfl, .inl ⟨_, rfl, rfl⟩⟩ rfl rfl ?_
    refine DRun.step rfl rfl rfl (AOp.pickF rfl rfl rfl) ?_
    refine DRun.nil ?_
    refine AWP.cond rfl (fun h => nomatch h) (fun _ => ?_)
    refine AWP.exit ?_
    refine AWP.seq ?_
    subst hje
    refine AWP.drawFreshL 15 [12] [⟨22, 222, .ptr 222 0, .cells [.d (.v (.slice none 0 0)), .d (.v (.slice none 0 0)), .d (.v (.slice none 0 0))]⟩, ⟨23, 223, .ptr 223 0, .cells [.d (.v (.int .i64 0)), .d (.v (.string ⟨#[]⟩)), .d (.v (.string ⟨#[]⟩)), .d (.v (.int .i64 0)), .d (.v (.int .i64 0))]⟩] (FrOk.two rfl (by simp) rfl rfl rfl rfl (by simp) rfl rfl rfl (Nat.ne_of_beq_eq_false rfl) (Nat.ne_of_beq_eq_false rfl) rfl rfl rfl rfl) (by kernel_rfl) (by kernel_rfl) (by kernel_rfl) (by kernel_rfl) (by kernel_rfl) ?_
    refine XRun.step rfl rfl rfl (AOp.loadPU rfl ag_26 rfl (.tail _ (.tail _ (.head _))) rfl rfl) ?_
    refine XRun.step rfl rfl rfl (AOp.loadPU rfl ag_26 rfl (.tail _ (.tail _ (.head _))) rfl rfl) ?_
    refine XRun.step rfl rfl rfl (AOp.fieldAddr rfl fo_106_1 rfl) ?_
    refine XRun.step rfl rfl rfl (AOp.load rfl sc_9 rfl) ?_
    refine XRun.step rfl rfl rfl (AOp.fieldAddr rfl fo_106_2 rfl) ?_
    refine XRun.step rfl rfl rfl (AOp.load rfl sc_9 rfl) ?_
    refine XRun.step rfl rfl rfl (AOp.call rfl (.cons (ArgOk.rfl' rfl) (.cons (ArgOk.rfl' rfl) (.cons (ArgOk.rfl' rfl) .nil))) (c_copyOfR (withC v (hR (rAt v p frm to hs n) (dueT v p frm to)[n].day (upTo (rAt v p frm to hs n).hs (dueT v p frm to)[n].day).length)) (dueT v p frm to)[n].item (dueT v p frm to)[n].carrier (by have h1 : (hR (rAt v p frm to hs n) (dueT v p frm to)[n].day (upTo (rAt v p frm to hs n).hs (dueT v p frm to)[n].day).length).length ≤ 200 := hvl.np; show (hR (rAt v p frm to hs n) (dueT v p frm to)[n].day (upTo (rAt v p frm to hs n).hs (dueT v p frm to)[n].day).length).length ≤ 100000; omega))) ?_
    rw [ec]
    refine XRun.step rfl rfl rfl (AOp.fieldAddr rfl fo_106_0 rfl) ?_
    refine XRun.step rfl rfl rfl (AOp.load rfl sc_3 rfl) ?_
    refine XRun.step rfl rfl rfl (AOp.call rfl (.cons (ArgOk.rfl' rfl) (.cons (ArgOk.rfl' rfl) (.cons (ArgOk.rfl' rfl) .nil))) (c_checkedR (withC v (hR (rAt v p frm to hs n) (dueT v p frm to)[n].day (upTo (rAt v p frm to hs n).hs (dueT v p frm to)[n].day).length)) j0 (dueT v p frm to)[n].day hk (by have h1 : (hR (rAt v p frm to hs n) (dueT v p frm to)[n].day (upTo (rAt v p frm to hs n).hs (dueT v p frm to)[n].day).length).length ≤ 200 := hvl.np; show (hR (rAt v p frm to hs n) (dueT v p frm to)[n].day (upTo (rAt v p frm to hs n).hs (dueT v p frm to)[n].day).length).length ≤ 100000; omega) (Nat.le_trans (vok_bad hvl _ (List.getElem_mem hk)) (by decide)))) ?_
    refine XRun.step rfl rfl rfl (AOp.moveD rfl rfl) ?_
    refine XRun.step rfl rfl rfl (AOp.extract rfl rfl rfl) ?_
    refine XRun.step rfl rfl rfl (AOp.extract rfl rfl rfl) ?_
    refine XRun.alloc _ (.head _) rfl rfl rfl rfl rfl zt_26 rfl rfl rfl rfl ?_
    refine XRun.alloc _ (.tail _ (.head _)) rfl rfl rfl rfl rfl zt_47 rfl rfl rfl rfl ?_
    refine XRun.nil ⟨rfl, rfl, trivial⟩ ?_
    refine AOps.store rfl rfl rfl sz_26 rfl (.head _) rfl rfl rfl (Nat.le_of_ble_eq_true rfl) ?_
    refine AOps.freezeCells 22 (ds := (withC v (chkR (hR (rAt v p frm to hs n) (dueT v p frm to)[n].day (upTo (rAt v p frm to hs n).hs (dueT v p frm to)[n].day).length) j0 (dueT v p frm to)[n].day)).ds) rfl (.head _) ?_
    refine AOps.store rfl rfl rfl sz_47 rfl (.head _) rfl rfl rfl (Nat.le_of_ble_eq_true rfl) ?_
    refine AOps.freezeCells 23 (ds := (dnR (hR (rAt v p frm to hs n) (dueT v p frm to)[n].day (upTo (rAt v p frm to hs n).hs (dueT v p frm to)[n].day).length) j0 (dueT v p frm to)[n].day).ds) rfl (.head _) ?_
    refine AOps.nil ?_
    refine AWP.drawLTail 5 [⟨210, [19, 105, 108]⟩] [(4, [19, 105, 108])] (fun _ => True) (by kernel_rfl) (by kernel_rfl) (by kernel_rfl) (by kernel_rfl) ?_
    refine LRun.step rfl rfl rfl trivial (fun τ _ => AOp.loadAgg rfl hag_vr rfl rfl) ?_
    refine LRun.step rfl rfl rfl trivial (fun τ _ => AOp.moveO rfl rfl) ?_
    refine LRun.step rfl rfl rfl trivial (fun τ _ => AOp.loadAgg rfl hag_dr rfl rfl) ?_
    refine LRun.step rfl rfl rfl trivial (fun τ _ => AOp.buildSlice rfl het_dr (.cons rfl rfl rfl .nil) rfl (by decide)) ?_
    refine LRun.eff rfl rfl trivial trivial (GE.append3 210 105 19 (.head _) (fun t h1 h2 h3 => by simp [h1, h2, h3]) (by decide) (by decide) (by decide) rfl rfl rfl rfl het_dr rfl (.head _) rfl (fun y hy => by obtain rfl := List.mem_singleton.1 hy; rfl) (by simp; omega) (by simp; omega) rfl) ?_ (cl_triple rfl rfl rfl)
    refine LRun.nil ?_
    refine AOps.store rfl rfl rfl hsz_vr rfl (.tail _ (.tail _ (.head _))) rfl rfl rfl (Nat.le_of_ble_eq_true rfl) ?_
    refine AOps.step rfl rfl rfl (AOp.assignO rfl rfl) ?_
    refine AOps.nil ?_
    refine AWP.region ?_
    refine AOps.step rfl rfl rfl (AOp.add64 rfl rfl rfl (by omega) (by omega)) ?_
    refine AOps.step rfl rfl rfl (AOp.moveD rfl rfl) ?_
    refine AOps.nil ?_
    refine ⟨n + 1, (by dsimp only; omega), (by dsimp only; omega), Sub.less ⟨(SLe.of_eq rfl), SLe.refl _, SLe.refl _, (SLe.of_eq (by dsimp only; rw [hN, eh]; rfl)), SLe.refl _, SLe.refl _, SLe.refl _, trivial⟩ (mem_of_eq (by dsimp only; rw [hN, el, eo, ← c1, ← c2, List.map_append]; rfl))⟩
  replace h6 := of_decide_eq_false h6
  rw [List.length_map] at h6
  obtain rfl : n = (dueT v p frm to).length := by omega
  have hri := rAt_ri vo hpe.1 hsp.1.1 hsp.2.2 hok.ok (dueT v p frm to).length (Nat.le_refl _)
  have hhl := rAt_hs (v := v) (p := p) (frm := frm) (to := to) (hs := hs) (dueT v p frm to).length (Nat.le_refl _)
  have hol := hok.len
  refine AWP.exit ?_
  refine AWP.seq ?_
  refine AWP.seq ?_
  refine AWP.region ?_
  refine AOps.step rfl rfl rfl (AOp.moveD rfl rfl) ?_
  refine AOps.step rfl rfl rfl (AOp.lenSl rfl et_41.ht rfl) ?_
  refine AOps.step rfl rfl rfl (AOp.moveD rfl rfl) ?_
  refine AOps.nil ?_
  refine AWP.block ?_
  refine AWP.loop (G := Nat) (fun j => Env.of [(112, .d (.v (.int .i64 (j : Int)))), (110, .d (.sl ((rAt v p frm to hs (dueT v p frm to).length).hs.map Hrm.ds))), (111, .d (.v (.int .i64 (((rAt v p frm to hs (dueT v p frm to).length).hs.map Hrm.ds).length : Int)))), (5, .ptr 201 0), (10, .ptr 202 0), (19, .own 210)]) (fun j => [(210, .row 47 5 (((rAt v p frm to hs (dueT v p frm to).length).o).map Dn.ds)), (202, .cells [.d (.v (.slice none 0 0)), .d (.v (.slice none 0 0)), .d (.v (.slice none 0 0))]), (201, .cells ((withC v (((rAt v p frm to hs (dueT v p frm to).length).hs.take j).foldl harmC (rAt v p frm to hs (dueT v p frm to).length).l)).ds.map S.d))]) (fun j => j ≤ (rAt v p frm to hs (dueT v p frm to).length).hs.length) (fun j => (rAt v p frm to hs (dueT v p frm to).length).hs.length - j) 0 (Nat.zero_le _) (Sub.less ⟨(SLe.of_eq rfl), SLe.refl _, SLe.refl _, SLe.refl _, SLe.refl _, SLe.refl _, trivial⟩ (mem_of_eq rfl)) ?_
  intro j hj
  refine AWP.seq ?_
  refine AWP.region ?_
  refine AOps.step rfl rfl rfl (AOp.lss rfl rfl rfl) ?_
  refine AOps.nil ?_
  refine AWP.seq ?_
  refine AWP.cond rfl (fun h9 => ?_) (fun h9 => ?_)
  · replace h9 := of_decide_eq_true h9
    rw [List.length_map] at h9
    have hjl : j < (rAt v p frm to hs (dueT v p frm to).length).hs.length := by omega
    have hvh := harms_vok ((rAt v p frm to hs (dueT v p frm to).length).hs.take j) hri.vok (fun x hx => hri.hok x (List.mem_of_mem_take hx))
    have HH := harmR_eq hvh (hri.hok _ (List.getElem_mem hjl))
    have HN := fold_take (l := (rAt v p frm to hs (dueT v p frm to).length).l) hjl
    have HC := c_harmed (withC v (((rAt v p frm to hs (dueT v p frm to).length).hs.take j).foldl harmC (rAt v p frm to hs (dueT v p frm to).length).l)) (rAt v p frm to hs (dueT v p frm to).length).hs[j] (by have h1 : (((rAt v p frm to hs (dueT v p frm to).length).hs.take j).foldl harmC (rAt v p frm to hs (dueT v p frm to).length).l).length ≤ 200 := hvh.np; show (((rAt v p frm to hs (dueT v p frm to).length).hs.take j).foldl harmC (rAt v p frm to hs (dueT v p frm to).length).l).length ≤ 100000; omega) (fun c hc => Nat.le_trans (vok_bad hvh c hc) (by decide))
    refine AWP.skip ?_
    refine AWP.seq ?_
    refine AWP.block ?_
    refine AWP.seq ?_
    refine AWP.region ?_
    refine AOps.step rfl rfl rfl (AOp.indexAddr rfl et_41 rfl rfl j rfl (at_list hjl) rfl) ?_
    refine AOps.step rfl rfl rfl (AOp.loadAgg rfl ag_97 rfl rfl) ?_
    refine AOps.alloc 225 rfl rfl rfl rfl zt_97 rfl rfl rfl ?_
    refine AOps.store rfl rfl rfl sz_97 rfl (.head _) rfl rfl rfl (Nat.le_of_ble_eq_true rfl) ?_
    refine AOps.freezeCells 25 (ds := (rAt v p frm to hs (dueT v p frm to).length).hs[j].ds) rfl (.head _) ?_
    refine AOps.nil ?_
    refine AWP.region ?_
    refine AOps.step rfl rfl rfl (AOp.loadPU rfl ag_26 rfl (.tail _ (.tail _ (.head _))) rfl rfl) ?_
    refine AOps.step rfl rfl rfl (AOp.loadAgg rfl ag_97 rfl rfl) ?_
    refine AOps.step rfl rfl rfl (AOp.call rfl (.cons (ArgOk.rfl' rfl) (.cons (ArgOk.rfl' rfl) .nil)) HC) ?_
    refine AOps.store rfl rfl rfl sz_26 rfl (.tail _ (.tail _ (.head _))) rfl rfl rfl (Nat.le_of_ble_eq_true rfl) ?_
    refine AOps.nil ?_
    refine AWP.region ?_
    refine AOps.step rfl rfl rfl (AOp.add64 rfl rfl rfl (by omega) (by omega)) ?_
    refine AOps.step rfl rfl rfl (AOp.moveD rfl rfl) ?_
    refine AOps.nil ?_
    refine ⟨j + 1, (by dsimp only; omega), (by dsimp only; omega), Sub.less ⟨(SLe.of_eq rfl), SLe.refl _, SLe.refl _, SLe.refl _, SLe.refl _, SLe.refl _, trivial⟩ (mem_of_eq (by dsimp only; rw [HN, ← HH]; rfl))⟩
  replace h9 := of_decide_eq_false h9
  rw [List.length_map] at h9
  obtain rfl : j = (rAt v p frm to hs (dueT v p frm to).length).hs.length := by omega
  rw [List.take_length]
  refine AWP.exit ?_
  refine AWP.seq ?_
  refine AWP.region ?_
  refine AOps.step rfl rfl rfl (AOp.loadPU rfl ag_26 rfl (.tail _ (.tail _ (.head _))) rfl rfl) ?_
  refine AOps.step rfl rfl rfl (AOp.moveO rfl rfl) ?_
  refine AOps.store rfl rfl rfl sz_26 rfl (.tail _ (.head _)) rfl rfl rfl (Nat.le_of_ble_eq_true rfl) ?_
  refine AOps.step rfl rfl rfl (AOp.assignO rfl rfl) ?_
  refine AOps.step rfl rfl rfl (AOp.assignD rfl rfl) ?_
  refine AOps.nil ?_
  refine AWP.ret ?_
  refine ⟨RetR.agg rfl (.tail _ (.head _)) ag_26 rfl (.cons (by first | exact CellD.nil | exact CellD.d | exact CellD.eq (by simp) | (refine CellD.own (by first | exact .head _ | exact .tail _ (.head _)) ?_; rfl)) (.cons (by first | exact CellD.nil | exact CellD.d | exact CellD.eq (by simp) | (refine CellD.own (by first | exact .head _ | exact .tail _ (.head _)) ?_; rfl)) (.cons (by first | exact CellD.nil | exact CellD.d | exact CellD.eq (by simp) | (refine CellD.own (by first | exact .head _ | exact .tail _ (.head _)) ?_; rfl)) .nil))), RetD.own rfl (.head _) ?_, RetD.eq rfl ?_, trivial⟩
  all_goals (rfl)

end Go.Proofs.YtieccphckobhjaaGreatDoor
