/- Walks and laws over abstract values, merged by tools/merge.py. No statement of the seat. -/
import Derived.Test.YtcilhhkmgebkeaaGreatDoorXW4

namespace Go.Proofs.YtcilhhkmgebkeaaGreatDoor
open Go.RowKit
set_option linter.unusedVariables false

/-! Types. -/
namespace TyKD
theorem ag_25 : AggT Tryz.prog 25 2 := .of (by kernel_rfl)
theorem ag_67 : AggT Tryz.prog 67 7 := .of (by kernel_rfl)
theorem et_22 : ElemTy Tryz.prog 22 67 7 88 (.agg #[(.int .i64 0), (.int .i64 0), (.string ⟨#[]⟩), (.string ⟨#[]⟩), (.int .i64 0), (.int .i64 0), (.slice none 0 0)]) := ⟨by kernel_rfl, by kernel_rfl, by kernel_rfl, by decide⟩
theorem et_26 : ElemTy Tryz.prog 26 3 1 8 (.int .i64 0) := ⟨by kernel_rfl, by kernel_rfl, by kernel_rfl, by decide⟩
theorem fo_25_0 : fieldOff Tryz.prog 25 0 = some 0 := by kernel_rfl
theorem fo_67_0 : fieldOff Tryz.prog 67 0 = some 0 := by kernel_rfl
theorem fo_67_1 : fieldOff Tryz.prog 67 1 = some 1 := by kernel_rfl
theorem fo_67_3 : fieldOff Tryz.prog 67 3 = some 3 := by kernel_rfl
theorem fo_67_5 : fieldOff Tryz.prog 67 5 = some 5 := by kernel_rfl
theorem fo_67_6 : fieldOff Tryz.prog 67 6 = some 6 := by kernel_rfl
theorem fv_67_5 : fieldB Tryz.prog 67 5 5 = true := by kernel_rfl
theorem mt_81 : Tryz.prog.underlying 81 = some (.map 3 67) := by kernel_rfl
theorem sc_22 : Scal Tryz.prog 22 := .of (by kernel_rfl)
theorem sc_26 : Scal Tryz.prog 26 := .of (by kernel_rfl)
theorem sc_3 : Scal Tryz.prog 3 := .of (by kernel_rfl)
theorem sc_9 : Scal Tryz.prog 9 := .of (by kernel_rfl)
theorem sz_67 : ∀ w, (sizeOf 67).run Tryz.prog w = .ok 7 w := SizeT.of (by kernel_rfl)
theorem zt_67 : (Tryz.prog.info? 67).bind (·.zero) = some (.agg #[(.int .i64 0), (.int .i64 0), (.string ⟨#[]⟩), (.string ⟨#[]⟩), (.int .i64 0), (.int .i64 0), (.slice none 0 0)]) := by kernel_rfl
end TyKD
open TyKD


theorem upN_ok {l : List Thg} (h : ∀ x ∈ l, ThgOk x) {a : Int} (ha : i64 a) : ∀ k, i64 (upN l a k)
  | 0 => ha
  | k + 1 => (getT_ok h (upN l a k)).parent
def atN (l : List Thg) (t : Thg) : Nat → Thg
  | 0 => t
  | n + 1 => getT l (atN l t n).parent
theorem up_at (l : List Thg) (t : Thg) : ∀ k, upN l t.parent k = (atN l t k).parent
  | 0 => rfl
  | k + 1 => by rw [upN_next, up_at l t k]; rfl
theorem SLe.i64 {n m : Int} (h : n = m) : SLe (.d (.v (.int .i64 n))) (.d (.v (.int .i64 m))) := SLe.of_eq (by rw [h])
theorem cells_1 {i : Nat} {A A' : List S} {τ : Obs} (h : A = A') : ∀ p ∈ [(i, Ob.cells A')], p ∈ (i, Ob.cells A) :: τ := fun p hp => by
  subst h
  rw [List.mem_singleton] at hp
  subst hp; exact .head _
theorem lk_p {l : List Thg} {i : Nat} {n : Int} (hi : i < l.length) (h : linkF l l[i] = n) (hn : n ≠ 0) : lkF l i = n := by unfold lkF; rw [dif_pos hi, if_pos (by rw [h]; exact hn), h]
theorem lk_7 {l : List Thg} {i : Nat} (hi : i < l.length) (h : linkF l l[i] = 0) (hc : ¬ l[i].code = ⟨#[]⟩) (ht : twB l i l[i] = true) : lkF l i = 7 := by unfold lkF; rw [dif_pos hi, if_neg (by rw [h]; decide), if_pos ⟨hc, ht⟩]
theorem lk_0 {l : List Thg} {i : Nat} (hi : i < l.length) (h : linkF l l[i] = 0) (ht : ¬ (¬ l[i].code = ⟨#[]⟩ ∧ twB l i l[i] = true)) : lkF l i = 0 := by unfold lkF; rw [dif_pos hi, if_neg (by rw [h]; decide), if_neg ht]
def twP (t x : Thg) : Prop := x.kind = t.kind ∧ ¬ t.code = ⟨#[]⟩ ∧ x.code = t.code
theorem tw_yes {l : List Thg} {i j : Nat} {t : Thg} (hj : j < i) (hl : j < l.length) (h : twP t l[j]) : twB l i t = true :=
  List.any_eq_true.2 ⟨l[j], List.mem_take_iff_getElem.2 ⟨j, by omega, rfl⟩, by rw [decide_eq_true h.1, decide_eq_true h.2.2]; rfl⟩
theorem tw_no {l : List Thg} {i : Nat} {t : Thg} (h : ∀ x ∈ l.take i, ¬ twP t x) : ¬ (¬ t.code = ⟨#[]⟩ ∧ twB l i t = true) := fun ⟨h1, h2⟩ => by
  obtain ⟨x, hx, h3⟩ := List.any_eq_true.1 h2
  rw [Bool.and_eq_true] at h3
  exact h x hx ⟨of_decide_eq_true h3.1, h1, of_decide_eq_true h3.2⟩
theorem tw_next {l : List Thg} {k : Nat} {t : Thg} (hk : k < l.length) (h : ∀ x ∈ l.take k, ¬ twP t x) (h2 : ¬ twP t l[k]) : ∀ x ∈ l.take (k + 1), ¬ twP t x := fun x hx => by
  rw [List.take_add_one, List.getElem?_eq_getElem hk, Option.toList_some, List.mem_append, List.mem_singleton] at hx
  rcases hx with hx | hx
  · exact h x hx
  · rw [hx]; exact h2
theorem at_take {α : Type} {l : List α} {f : α → List D} {i k : Nat} (hi : i ≤ l.length) (hk : k < i) : ((l.map f).take i)[k]? = some (f (l[k]'(by omega))) := by
  rw [List.getElem?_take, if_pos hk]; exact at_lst (by omega)


set_option maxRecDepth 100000 in
set_option maxHeartbeats 1000000 in
theorem c_pLink (l : List Thg) (t : Thg) (hl : ∀ x ∈ l, ThgOk x) (hn : RisT l) (ht : ThgOk t) (hll : l.length ≤ 300) (hp : t.parts.length ≤ 50) : ACall Tryz.prog 53 [.fm (idxM l), .agg t.ds] (.v (.int .i64 (linkF l t))) := by
  refine acall_of (n := 66) (ds' := [.v (.int .i64 (linkF l t))]) Tryz.func53 rfl (by kernel_rfl) rfl [4] rfl rfl ?_
  intro B w0 F0 fr
  refine AWP.seq (AWP.region ?_)
  refine AOps.step rfl rfl rfl (AOp.box rfl rfl rfl) ?_
  refine AOps.aD rfl rfl rfl rfl rfl (.nil ?_)
  refine AWP.seq ?_
  refine AWP.seq (AWP.region ?_)
  refine AOps.step rfl rfl rfl (AOp.fieldAddr rfl fo_67_5 rfl) ?_
  refine AOps.step rfl rfl rfl (AOp.load rfl sc_3 rfl) ?_
  refine AOps.step rfl rfl rfl (AOp.neq rfl rfl rfl) (.nil ?_)
  refine AWP.cond rfl (fun h1 => ?_) (fun h1 => ?_)
  · replace h1 := of_decide_eq_true h1
    have hpn : ¬ t.parent = 0 := h1
    refine AWP.seq (AWP.region ?_)
    refine AOps.mD rfl rfl rfl rfl rfl ?_
    refine AOps.step rfl rfl rfl (AOp.fieldAddr rfl fo_67_5 rfl) ?_
    refine AOps.step rfl rfl rfl (AOp.load rfl sc_3 rfl) ?_
    refine AOps.step rfl rfl rfl (AOp.lookupOkF (key := kI t.parent) rfl mt_idx kd_int zt_thg zd_thg rfl rfl (DExact.v _) (kI_ok ht.parent) (idxM_keys hl) _ (getok_idx hn.nk _)) ?_
    refine AOps.mD rfl rfl rfl rfl rfl ?_
    refine AOps.step rfl rfl rfl (AOp.extract rfl rfl rfl) ?_
    refine AOps.step rfl rfl rfl (AOp.extract rfl rfl rfl) ?_
    refine AOps.alloc 101 rfl rfl rfl rfl zt_67 rfl rfl rfl ?_
    refine AOps.store rfl rfl rfl sz_67 rfl (.head _) rfl rfl rfl (Nat.le_of_ble_eq_true rfl) ?_
    refine AOps.freezeCells 5 (ds := (getT l t.parent).ds) rfl (.head _) ?_
    refine AOps.aD rfl rfl rfl rfl rfl (.nil ?_)
    refine AWP.seq (AWP.region ?_)
    refine AOps.aD rfl rfl rfl rfl rfl (.nil ?_)
    refine AWP.seq ?_
    refine AWP.seq (AWP.region ?_)
    refine AOps.step rfl rfl rfl (AOp.fieldAddr rfl fo_67_1 rfl) ?_
    refine AOps.step rfl rfl rfl (AOp.load rfl sc_3 rfl) ?_
    refine AOps.step rfl rfl rfl (AOp.eql rfl rfl rfl) (.nil ?_)
    refine AWP.cond rfl (fun h2 => ?_) (fun h2 => ?_)
    · replace h2 := of_decide_eq_true h2
      have hw : wantK t = 3 := if_pos h2
      refine AWP.region ?_
      refine AOps.aD rfl rfl rfl rfl rfl (.nil ?_)
      refine AWP.seq ?_
      refine AWP.seq (AWP.region ?_)
      refine AOps.mD rfl rfl rfl rfl rfl ?_
      refine AOps.step rfl rfl rfl (AOp.not rfl rfl) (.nil ?_)
      refine AWP.cond rfl (fun h3 => ?_) (fun h3 => ?_)
      · replace h3 := bnot_t h3
        have HR : linkF l t = 9 := link_p (par_9 hpn h3) (by decide)
        refine AWP.seq (AWP.region ?_)
        refine AOps.aD rfl rfl rfl rfl rfl (.nil ?_)
        refine AWP.ret ?_
        refine ⟨RetD.eq rfl ?_, trivial⟩
        all_goals (rw [HR])
      replace h3 := bnot_f h3
      have hth := h3
      refine AWP.skip ?_
      refine AWP.seq (AWP.region ?_)
      refine AOps.step rfl rfl rfl (AOp.fieldAddr rfl fo_67_1 rfl) ?_
      refine AOps.step rfl rfl rfl (AOp.load rfl sc_3 rfl) ?_
      refine AOps.mD rfl rfl rfl rfl rfl ?_
      refine AOps.step rfl rfl rfl (AOp.neq rfl rfl rfl) (.nil ?_)
      refine AWP.cond rfl (fun h4 => ?_) (fun h4 => ?_)
      · replace h4 := of_decide_eq_true h4
        have HR : linkF l t = 6 := link_p (par_6 hpn hth (by rw [hw]; exact h4)) (by decide)
        refine AWP.seq (AWP.region ?_)
        refine AOps.aD rfl rfl rfl rfl rfl (.nil ?_)
        refine AWP.ret ?_
        refine ⟨RetD.eq rfl ?_, trivial⟩
        all_goals (rw [HR])
      replace h4 := of_decide_eq_false h4
      have hP0 := par_ok hpn hth (by rw [hw]; omega)
      refine AWP.skip ?_
      refine AWP.seq ?_
      refine AWP.seq (AWP.region ?_)
      refine AOps.step rfl rfl rfl (AOp.fieldAddr rfl fo_67_6 rfl) ?_
      refine AOps.step rfl rfl rfl (AOp.load rfl sc_26 rfl) ?_
      refine AOps.step rfl rfl rfl (AOp.lenSl rfl et_26.ht rfl) ?_
      refine AOps.mD rfl rfl rfl rfl rfl (.nil ?_)
      refine AWP.block ?_
      refine AWP.loop (G := Nat) (fun k => Env.of [(35, .d (.v (.int .i64 (k : Int)))), (33, .d (.sl (t.parts.map intD))), (34, .d (.v (.int .i64 ((t.parts.map intD).length : Int)))), (0, .d (.fm (idxM l))), (3, .d (.fp t.ds))]) (fun k => []) (fun k => k ≤ t.parts.length ∧ ffst (ptF l t) k = 0) (fun k => t.parts.length - k) 0 ⟨Nat.zero_le _, rfl⟩ (Sub.less ⟨(SLe.of_eq rfl), SLe.refl _, SLe.refl _, SLe.refl _, SLe.refl _, trivial⟩ (fun _ h => h)) ?_
      intro k hk
      refine AWP.seq (AWP.region ?_)
      refine AOps.step rfl rfl rfl (AOp.lss rfl rfl rfl) (.nil ?_)
      refine AWP.seq ?_
      refine AWP.cond rfl (fun h5 => ?_) (fun h5 => ?_)
      · replace h5 := of_decide_eq_true h5
        rw [List.length_map] at h5
        have hlt : k < t.parts.length := by omega
        have hbk := ht.parts _ (List.getElem_mem hlt)
        refine AWP.skip ?_
        refine AWP.seq ?_
        refine AWP.block ?_
        refine AWP.seq (AWP.region ?_)
        refine AOps.step rfl rfl rfl (AOp.indexAddr rfl et_26 rfl rfl k rfl (at_lst hlt) rfl) ?_
        refine AOps.step rfl rfl rfl (AOp.load rfl sc_3 rfl) ?_
        refine AOps.aD rfl rfl rfl rfl rfl (.nil ?_)
        refine AWP.seq (AWP.region ?_)
        refine AOps.mD rfl rfl rfl rfl rfl ?_
        refine AOps.mD rfl rfl rfl rfl rfl ?_
        refine AOps.step rfl rfl rfl (AOp.lookupOkF (key := kI t.parts[k]) rfl mt_idx kd_int zt_thg zd_thg rfl rfl (DExact.v _) (kI_ok hbk) (idxM_keys hl) _ (getok_idx hn.nk _)) ?_
        refine AOps.mD rfl rfl rfl rfl rfl ?_
        refine AOps.step rfl rfl rfl (AOp.extract rfl rfl rfl) ?_
        refine AOps.step rfl rfl rfl (AOp.extract rfl rfl rfl) ?_
        refine AOps.alloc 102 rfl rfl rfl rfl zt_67 rfl rfl rfl ?_
        refine AOps.store rfl rfl rfl sz_67 rfl (.head _) rfl rfl rfl (Nat.le_of_ble_eq_true rfl) ?_
        refine AOps.freezeCells 10 (ds := (getT l t.parts[k]).ds) rfl (.head _) ?_
        refine AOps.aD rfl rfl rfl rfl rfl (.nil ?_)
        refine AWP.seq ?_
        refine AWP.seq (AWP.region ?_)
        refine AOps.mD rfl rfl rfl rfl rfl ?_
        refine AOps.step rfl rfl rfl (AOp.not rfl rfl) (.nil ?_)
        refine AWP.cond rfl (fun h6 => ?_) (fun h6 => ?_)
        · replace h6 := bnot_t h6
          have HR : linkF l t = 9 := link_q hP0 hlt hk.2 (pt_9 hlt h6) (by decide)
          refine AWP.seq (AWP.region ?_)
          refine AOps.aD rfl rfl rfl rfl rfl (.nil ?_)
          refine AWP.ret ?_
          refine ⟨RetD.eq rfl ?_, trivial⟩
          all_goals (rw [HR])
        replace h6 := bnot_f h6
        have hth2 := h6
        refine AWP.skip ?_
        refine AWP.seq (AWP.region ?_)
        refine AOps.step rfl rfl rfl (AOp.fieldAddr rfl fo_67_1 rfl) ?_
        refine AOps.step rfl rfl rfl (AOp.load rfl sc_3 rfl) ?_
        refine AOps.step rfl rfl rfl (AOp.neq rfl rfl rfl) (.nil ?_)
        refine AWP.cond rfl (fun h7 => ?_) (fun h7 => ?_)
        · replace h7 := of_decide_eq_true h7
          have HR : linkF l t = 6 := link_q hP0 hlt hk.2 (pt_6 hlt hth2 h7) (by decide)
          refine AWP.seq (AWP.region ?_)
          refine AOps.aD rfl rfl rfl rfl rfl (.nil ?_)
          refine AWP.ret ?_
          refine ⟨RetD.eq rfl ?_, trivial⟩
          all_goals (rw [HR])
        replace h7 := of_decide_eq_false h7
        have hPK := pt_ok hlt hth2 (by omega)
        refine AWP.skip ?_
        refine AWP.region ?_
        refine AOps.step rfl rfl rfl (AOp.add64 rfl rfl rfl (by omega) (by omega)) ?_
        refine AOps.mD rfl rfl rfl rfl rfl (.nil ?_)
        refine ⟨k + 1, ⟨by omega, ffst_next hk.2 hPK⟩, (by dsimp only; omega), Sub.less ⟨(SLe.of_eq rfl), SLe.refl _, SLe.refl _, SLe.refl _, SLe.refl _, trivial⟩ (fun _ h => h)⟩
      replace h5 := of_decide_eq_false h5
      rw [List.length_map] at h5
      obtain rfl : k = t.parts.length := by omega
      have HL := link_l hP0 hk.2
      refine AWP.exit ?_
      refine AWP.seq (AWP.region ?_)
      refine AOps.step rfl rfl rfl (AOp.fieldAddr rfl fo_67_5 rfl) ?_
      refine AOps.step rfl rfl rfl (AOp.load rfl sc_3 rfl) ?_
      refine AOps.aD rfl rfl rfl rfl rfl (.nil ?_)
      refine AWP.seq ?_
      refine AWP.seq (AWP.region ?_)
      refine AOps.mD rfl rfl rfl rfl rfl ?_
      refine AOps.step rfl rfl rfl (AOp.lenF rfl mt_81 rfl) ?_
      rw [idx_len]
      refine AOps.mD rfl rfl rfl rfl rfl (.nil ?_)
      refine AWP.block ?_
      refine AWP.loop (G := Nat) (fun j => Env.of [(55, .d (.v (.int .i64 (j : Int)))), (54, .d (.v (.int .i64 (l.length : Int)))), (12, .d (.v (.int .i64 (upN l t.parent j)))), (0, .d (.fm (idxM l))), (3, .d (.fp t.ds))]) (fun j => []) (fun j => j ≤ l.length ∧ ∀ i, i < j → upN l t.parent i ≠ t.id) (fun j => l.length - j) 0 ⟨Nat.zero_le _, fun i hi => by omega⟩ (Sub.less ⟨(SLe.of_eq rfl), SLe.refl _, (SLe.of_eq rfl), SLe.refl _, SLe.refl _, trivial⟩ (fun _ h => h)) ?_
      intro j hj
      refine AWP.seq (AWP.region ?_)
      refine AOps.step rfl rfl rfl (AOp.lss rfl rfl rfl) (.nil ?_)
      refine AWP.seq ?_
      refine AWP.cond rfl (fun h8 => ?_) (fun h8 => ?_)
      · replace h8 := of_decide_eq_true h8
        have hlt2 : j < l.length := by omega
        refine AWP.skip ?_
        refine AWP.seq ?_
        refine AWP.block ?_
        refine AWP.seq ?_
        refine AWP.seq (AWP.region ?_)
        refine AOps.mD rfl rfl rfl rfl rfl ?_
        refine AOps.step rfl rfl rfl (AOp.fieldAddr rfl fo_67_0 rfl) ?_
        refine AOps.step rfl rfl rfl (AOp.load rfl sc_3 rfl) ?_
        refine AOps.step rfl rfl rfl (AOp.eql rfl rfl rfl) (.nil ?_)
        refine AWP.cond rfl (fun h9 => ?_) (fun h9 => ?_)
        · replace h9 := of_decide_eq_true h9
          have HR : linkF l t = 14 := by rw [HL, if_pos (loop_yes hlt2 h9)]
          refine AWP.seq (AWP.region ?_)
          refine AOps.aD rfl rfl rfl rfl rfl (.nil ?_)
          refine AWP.ret ?_
          refine ⟨RetD.eq rfl ?_, trivial⟩
          all_goals (rw [HR])
        replace h9 := of_decide_eq_false h9
        have HN := up_next hj.2 h9
        refine AWP.skip ?_
        refine AWP.region ?_
        refine AOps.mD rfl rfl rfl rfl rfl ?_
        refine AOps.mD rfl rfl rfl rfl rfl ?_
        refine AOps.step rfl rfl rfl (AOp.lookupF (key := kI (upN l t.parent j)) rfl mt_idx kd_int zt_thg zd_thg rfl rfl (DExact.v _) (kI_ok (upN_ok hl ht.parent j)) (idxM_keys hl) (get_idx hn.nk _)) ?_
        refine AOps.step rfl rfl rfl (AOp.field rfl fv_67_5 rfl rfl) ?_
        refine AOps.aD rfl rfl rfl rfl rfl (.nil ?_)
        refine AWP.region ?_
        refine AOps.step rfl rfl rfl (AOp.add64 rfl rfl rfl (by omega) (by omega)) ?_
        refine AOps.mD rfl rfl rfl rfl rfl (.nil ?_)
        refine ⟨j + 1, ⟨by omega, HN⟩, (by dsimp only; omega), Sub.less ⟨(SLe.of_eq rfl), SLe.refl _, (SLe.of_eq rfl), SLe.refl _, SLe.refl _, trivial⟩ (fun _ h => h)⟩
      replace h8 := of_decide_eq_false h8
      have HR : linkF l t = 0 := by rw [HL, if_neg (by rw [loop_no (fun i hi => hj.2 i (by omega))]; decide)]
      refine AWP.exit ?_
      refine AWP.seq (AWP.region ?_)
      refine AOps.aD rfl rfl rfl rfl rfl (.nil ?_)
      refine AWP.ret ?_
      refine ⟨RetD.eq rfl ?_, trivial⟩
      all_goals (rw [HR])
    replace h2 := of_decide_eq_false h2
    have hw : wantK t = 1 := if_neg h2
    refine AWP.skip ?_
    refine AWP.seq ?_
    refine AWP.seq (AWP.region ?_)
    refine AOps.mD rfl rfl rfl rfl rfl ?_
    refine AOps.step rfl rfl rfl (AOp.not rfl rfl) (.nil ?_)
    refine AWP.cond rfl (fun h10 => ?_) (fun h10 => ?_)
    · replace h10 := bnot_t h10
      have HR : linkF l t = 9 := link_p (par_9 hpn h10) (by decide)
      refine AWP.seq (AWP.region ?_)
      refine AOps.aD rfl rfl rfl rfl rfl (.nil ?_)
      refine AWP.ret ?_
      refine ⟨RetD.eq rfl ?_, trivial⟩
      all_goals (rw [HR])
    replace h10 := bnot_f h10
    have hth := h10
    refine AWP.skip ?_
    refine AWP.seq (AWP.region ?_)
    refine AOps.step rfl rfl rfl (AOp.fieldAddr rfl fo_67_1 rfl) ?_
    refine AOps.step rfl rfl rfl (AOp.load rfl sc_3 rfl) ?_
    refine AOps.mD rfl rfl rfl rfl rfl ?_
    refine AOps.step rfl rfl rfl (AOp.neq rfl rfl rfl) (.nil ?_)
    refine AWP.cond rfl (fun h11 => ?_) (fun h11 => ?_)
    · replace h11 := of_decide_eq_true h11
      have HR : linkF l t = 6 := link_p (par_6 hpn hth (by rw [hw]; exact h11)) (by decide)
      refine AWP.seq (AWP.region ?_)
      refine AOps.aD rfl rfl rfl rfl rfl (.nil ?_)
      refine AWP.ret ?_
      refine ⟨RetD.eq rfl ?_, trivial⟩
      all_goals (rw [HR])
    replace h11 := of_decide_eq_false h11
    have hP0 := par_ok hpn hth (by rw [hw]; omega)
    refine AWP.skip ?_
    refine AWP.seq ?_
    refine AWP.seq (AWP.region ?_)
    refine AOps.step rfl rfl rfl (AOp.fieldAddr rfl fo_67_6 rfl) ?_
    refine AOps.step rfl rfl rfl (AOp.load rfl sc_26 rfl) ?_
    refine AOps.step rfl rfl rfl (AOp.lenSl rfl et_26.ht rfl) ?_
    refine AOps.mD rfl rfl rfl rfl rfl (.nil ?_)
    refine AWP.block ?_
    refine AWP.loop (G := Nat) (fun k => Env.of [(35, .d (.v (.int .i64 (k : Int)))), (33, .d (.sl (t.parts.map intD))), (34, .d (.v (.int .i64 ((t.parts.map intD).length : Int)))), (0, .d (.fm (idxM l))), (3, .d (.fp t.ds))]) (fun k => []) (fun k => k ≤ t.parts.length ∧ ffst (ptF l t) k = 0) (fun k => t.parts.length - k) 0 ⟨Nat.zero_le _, rfl⟩ (Sub.less ⟨(SLe.of_eq rfl), SLe.refl _, SLe.refl _, SLe.refl _, SLe.refl _, trivial⟩ (fun _ h => h)) ?_
    intro k hk
    refine AWP.seq (AWP.region ?_)
    refine AOps.step rfl rfl rfl (AOp.lss rfl rfl rfl) (.nil ?_)
    refine AWP.seq ?_
    refine AWP.cond rfl (fun h12 => ?_) (fun h12 => ?_)
    · replace h12 := of_decide_eq_true h12
      rw [List.length_map] at h12
      have hlt : k < t.parts.length := by omega
      have hbk := ht.parts _ (List.getElem_mem hlt)
      refine AWP.skip ?_
      refine AWP.seq ?_
      refine AWP.block ?_
      refine AWP.seq (AWP.region ?_)
      refine AOps.step rfl rfl rfl (AOp.indexAddr rfl et_26 rfl rfl k rfl (at_lst hlt) rfl) ?_
      refine AOps.step rfl rfl rfl (AOp.load rfl sc_3 rfl) ?_
      refine AOps.aD rfl rfl rfl rfl rfl (.nil ?_)
      refine AWP.seq (AWP.region ?_)
      refine AOps.mD rfl rfl rfl rfl rfl ?_
      refine AOps.mD rfl rfl rfl rfl rfl ?_
      refine AOps.step rfl rfl rfl (AOp.lookupOkF (key := kI t.parts[k]) rfl mt_idx kd_int zt_thg zd_thg rfl rfl (DExact.v _) (kI_ok hbk) (idxM_keys hl) _ (getok_idx hn.nk _)) ?_
      refine AOps.mD rfl rfl rfl rfl rfl ?_
      refine AOps.step rfl rfl rfl (AOp.extract rfl rfl rfl) ?_
      refine AOps.step rfl rfl rfl (AOp.extract rfl rfl rfl) ?_
      refine AOps.alloc 103 rfl rfl rfl rfl zt_67 rfl rfl rfl ?_
      refine AOps.store rfl rfl rfl sz_67 rfl (.head _) rfl rfl rfl (Nat.le_of_ble_eq_true rfl) ?_
      refine AOps.freezeCells 10 (ds := (getT l t.parts[k]).ds) rfl (.head _) ?_
      refine AOps.aD rfl rfl rfl rfl rfl (.nil ?_)
      refine AWP.seq ?_
      refine AWP.seq (AWP.region ?_)
      refine AOps.mD rfl rfl rfl rfl rfl ?_
      refine AOps.step rfl rfl rfl (AOp.not rfl rfl) (.nil ?_)
      refine AWP.cond rfl (fun h13 => ?_) (fun h13 => ?_)
      · replace h13 := bnot_t h13
        have HR : linkF l t = 9 := link_q hP0 hlt hk.2 (pt_9 hlt h13) (by decide)
        refine AWP.seq (AWP.region ?_)
        refine AOps.aD rfl rfl rfl rfl rfl (.nil ?_)
        refine AWP.ret ?_
        refine ⟨RetD.eq rfl ?_, trivial⟩
        all_goals (rw [HR])
      replace h13 := bnot_f h13
      have hth2 := h13
      refine AWP.skip ?_
      refine AWP.seq (AWP.region ?_)
      refine AOps.step rfl rfl rfl (AOp.fieldAddr rfl fo_67_1 rfl) ?_
      refine AOps.step rfl rfl rfl (AOp.load rfl sc_3 rfl) ?_
      refine AOps.step rfl rfl rfl (AOp.neq rfl rfl rfl) (.nil ?_)
      refine AWP.cond rfl (fun h14 => ?_) (fun h14 => ?_)
      · replace h14 := of_decide_eq_true h14
        have HR : linkF l t = 6 := link_q hP0 hlt hk.2 (pt_6 hlt hth2 h14) (by decide)
        refine AWP.seq (AWP.region ?_)
        refine AOps.aD rfl rfl rfl rfl rfl (.nil ?_)
        refine AWP.ret ?_
        refine ⟨RetD.eq rfl ?_, trivial⟩
        all_goals (rw [HR])
      replace h14 := of_decide_eq_false h14
      have hPK := pt_ok hlt hth2 (by omega)
      refine AWP.skip ?_
      refine AWP.region ?_
      refine AOps.step rfl rfl rfl (AOp.add64 rfl rfl rfl (by omega) (by omega)) ?_
      refine AOps.mD rfl rfl rfl rfl rfl (.nil ?_)
      refine ⟨k + 1, ⟨by omega, ffst_next hk.2 hPK⟩, (by dsimp only; omega), Sub.less ⟨(SLe.of_eq rfl), SLe.refl _, SLe.refl _, SLe.refl _, SLe.refl _, trivial⟩ (fun _ h => h)⟩
    replace h12 := of_decide_eq_false h12
    rw [List.length_map] at h12
    obtain rfl : k = t.parts.length := by omega
    have HL := link_l hP0 hk.2
    refine AWP.exit ?_
    refine AWP.seq (AWP.region ?_)
    refine AOps.step rfl rfl rfl (AOp.fieldAddr rfl fo_67_5 rfl) ?_
    refine AOps.step rfl rfl rfl (AOp.load rfl sc_3 rfl) ?_
    refine AOps.aD rfl rfl rfl rfl rfl (.nil ?_)
    refine AWP.seq ?_
    refine AWP.seq (AWP.region ?_)
    refine AOps.mD rfl rfl rfl rfl rfl ?_
    refine AOps.step rfl rfl rfl (AOp.lenF rfl mt_81 rfl) ?_
    rw [idx_len]
    refine AOps.mD rfl rfl rfl rfl rfl (.nil ?_)
    refine AWP.block ?_
    refine AWP.loop (G := Nat) (fun j => Env.of [(55, .d (.v (.int .i64 (j : Int)))), (54, .d (.v (.int .i64 (l.length : Int)))), (12, .d (.v (.int .i64 (upN l t.parent j)))), (0, .d (.fm (idxM l))), (3, .d (.fp t.ds))]) (fun j => []) (fun j => j ≤ l.length ∧ ∀ i, i < j → upN l t.parent i ≠ t.id) (fun j => l.length - j) 0 ⟨Nat.zero_le _, fun i hi => by omega⟩ (Sub.less ⟨(SLe.of_eq rfl), SLe.refl _, (SLe.of_eq rfl), SLe.refl _, SLe.refl _, trivial⟩ (fun _ h => h)) ?_
    intro j hj
    refine AWP.seq (AWP.region ?_)
    refine AOps.step rfl rfl rfl (AOp.lss rfl rfl rfl) (.nil ?_)
    refine AWP.seq ?_
    refine AWP.cond rfl (fun h15 => ?_) (fun h15 => ?_)
    · replace h15 := of_decide_eq_true h15
      have hlt2 : j < l.length := by omega
      refine AWP.skip ?_
      refine AWP.seq ?_
      refine AWP.block ?_
      refine AWP.seq ?_
      refine AWP.seq (AWP.region ?_)
      refine AOps.mD rfl rfl rfl rfl rfl ?_
      refine AOps.step rfl rfl rfl (AOp.fieldAddr rfl fo_67_0 rfl) ?_
      refine AOps.step rfl rfl rfl (AOp.load rfl sc_3 rfl) ?_
      refine AOps.step rfl rfl rfl (AOp.eql rfl rfl rfl) (.nil ?_)
      refine AWP.cond rfl (fun h16 => ?_) (fun h16 => ?_)
      · replace h16 := of_decide_eq_true h16
        have HR : linkF l t = 14 := by rw [HL, if_pos (loop_yes hlt2 h16)]
        refine AWP.seq (AWP.region ?_)
        refine AOps.aD rfl rfl rfl rfl rfl (.nil ?_)
        refine AWP.ret ?_
        refine ⟨RetD.eq rfl ?_, trivial⟩
        all_goals (rw [HR])
      replace h16 := of_decide_eq_false h16
      have HN := up_next hj.2 h16
      refine AWP.skip ?_
      refine AWP.region ?_
      refine AOps.mD rfl rfl rfl rfl rfl ?_
      refine AOps.mD rfl rfl rfl rfl rfl ?_
      refine AOps.step rfl rfl rfl (AOp.lookupF (key := kI (upN l t.parent j)) rfl mt_idx kd_int zt_thg zd_thg rfl rfl (DExact.v _) (kI_ok (upN_ok hl ht.parent j)) (idxM_keys hl) (get_idx hn.nk _)) ?_
      refine AOps.step rfl rfl rfl (AOp.field rfl fv_67_5 rfl rfl) ?_
      refine AOps.aD rfl rfl rfl rfl rfl (.nil ?_)
      refine AWP.region ?_
      refine AOps.step rfl rfl rfl (AOp.add64 rfl rfl rfl (by omega) (by omega)) ?_
      refine AOps.mD rfl rfl rfl rfl rfl (.nil ?_)
      refine ⟨j + 1, ⟨by omega, HN⟩, (by dsimp only; omega), Sub.less ⟨(SLe.of_eq rfl), SLe.refl _, (SLe.of_eq rfl), SLe.refl _, SLe.refl _, trivial⟩ (fun _ h => h)⟩
    replace h15 := of_decide_eq_false h15
    have HR : linkF l t = 0 := by rw [HL, if_neg (by rw [loop_no (fun i hi => hj.2 i (by omega))]; decide)]
    refine AWP.exit ?_
    refine AWP.seq (AWP.region ?_)
    refine AOps.aD rfl rfl rfl rfl rfl (.nil ?_)
    refine AWP.ret ?_
    refine ⟨RetD.eq rfl ?_, trivial⟩
    all_goals (rw [HR])
  replace h1 := of_decide_eq_false h1
  have hP0 : parF l t = 0 := par_0 (by omega)
  refine AWP.skip ?_
  refine AWP.seq ?_
  refine AWP.seq (AWP.region ?_)
  refine AOps.step rfl rfl rfl (AOp.fieldAddr rfl fo_67_6 rfl) ?_
  refine AOps.step rfl rfl rfl (AOp.load rfl sc_26 rfl) ?_
  refine AOps.step rfl rfl rfl (AOp.lenSl rfl et_26.ht rfl) ?_
  refine AOps.mD rfl rfl rfl rfl rfl (.nil ?_)
  refine AWP.block ?_
  refine AWP.loop (G := Nat) (fun k => Env.of [(35, .d (.v (.int .i64 (k : Int)))), (33, .d (.sl (t.parts.map intD))), (34, .d (.v (.int .i64 ((t.parts.map intD).length : Int)))), (0, .d (.fm (idxM l))), (3, .d (.fp t.ds))]) (fun k => []) (fun k => k ≤ t.parts.length ∧ ffst (ptF l t) k = 0) (fun k => t.parts.length - k) 0 ⟨Nat.zero_le _, rfl⟩ (Sub.less ⟨(SLe.of_eq rfl), SLe.refl _, SLe.refl _, SLe.refl _, SLe.refl _, trivial⟩ (fun _ h => h)) ?_
  intro k hk
  refine AWP.seq (AWP.region ?_)
  refine AOps.step rfl rfl rfl (AOp.lss rfl rfl rfl) (.nil ?_)
  refine AWP.seq ?_
  refine AWP.cond rfl (fun h17 => ?_) (fun h17 => ?_)
  · replace h17 := of_decide_eq_true h17
    rw [List.length_map] at h17
    have hlt : k < t.parts.length := by omega
    have hbk := ht.parts _ (List.getElem_mem hlt)
    refine AWP.skip ?_
    refine AWP.seq ?_
    refine AWP.block ?_
    refine AWP.seq (AWP.region ?_)
    refine AOps.step rfl rfl rfl (AOp.indexAddr rfl et_26 rfl rfl k rfl (at_lst hlt) rfl) ?_
    refine AOps.step rfl rfl rfl (AOp.load rfl sc_3 rfl) ?_
    refine AOps.aD rfl rfl rfl rfl rfl (.nil ?_)
    refine AWP.seq (AWP.region ?_)
    refine AOps.mD rfl rfl rfl rfl rfl ?_
    refine AOps.mD rfl rfl rfl rfl rfl ?_
    refine AOps.step rfl rfl rfl (AOp.lookupOkF (key := kI t.parts[k]) rfl mt_idx kd_int zt_thg zd_thg rfl rfl (DExact.v _) (kI_ok hbk) (idxM_keys hl) _ (getok_idx hn.nk _)) ?_
    refine AOps.mD rfl rfl rfl rfl rfl ?_
    refine AOps.step rfl rfl rfl (AOp.extract rfl rfl rfl) ?_
    refine AOps.step rfl rfl rfl (AOp.extract rfl rfl rfl) ?_
    refine AOps.alloc 104 rfl rfl rfl rfl zt_67 rfl rfl rfl ?_
    refine AOps.store rfl rfl rfl sz_67 rfl (.head _) rfl rfl rfl (Nat.le_of_ble_eq_true rfl) ?_
    refine AOps.freezeCells 10 (ds := (getT l t.parts[k]).ds) rfl (.head _) ?_
    refine AOps.aD rfl rfl rfl rfl rfl (.nil ?_)
    refine AWP.seq ?_
    refine AWP.seq (AWP.region ?_)
    refine AOps.mD rfl rfl rfl rfl rfl ?_
    refine AOps.step rfl rfl rfl (AOp.not rfl rfl) (.nil ?_)
    refine AWP.cond rfl (fun h18 => ?_) (fun h18 => ?_)
    · replace h18 := bnot_t h18
      have HR : linkF l t = 9 := link_q hP0 hlt hk.2 (pt_9 hlt h18) (by decide)
      refine AWP.seq (AWP.region ?_)
      refine AOps.aD rfl rfl rfl rfl rfl (.nil ?_)
      refine AWP.ret ?_
      refine ⟨RetD.eq rfl ?_, trivial⟩
      all_goals (rw [HR])
    replace h18 := bnot_f h18
    have hth2 := h18
    refine AWP.skip ?_
    refine AWP.seq (AWP.region ?_)
    refine AOps.step rfl rfl rfl (AOp.fieldAddr rfl fo_67_1 rfl) ?_
    refine AOps.step rfl rfl rfl (AOp.load rfl sc_3 rfl) ?_
    refine AOps.step rfl rfl rfl (AOp.neq rfl rfl rfl) (.nil ?_)
    refine AWP.cond rfl (fun h19 => ?_) (fun h19 => ?_)
    · replace h19 := of_decide_eq_true h19
      have HR : linkF l t = 6 := link_q hP0 hlt hk.2 (pt_6 hlt hth2 h19) (by decide)
      refine AWP.seq (AWP.region ?_)
      refine AOps.aD rfl rfl rfl rfl rfl (.nil ?_)
      refine AWP.ret ?_
      refine ⟨RetD.eq rfl ?_, trivial⟩
      all_goals (rw [HR])
    replace h19 := of_decide_eq_false h19
    have hPK := pt_ok hlt hth2 (by omega)
    refine AWP.skip ?_
    refine AWP.region ?_
    refine AOps.step rfl rfl rfl (AOp.add64 rfl rfl rfl (by omega) (by omega)) ?_
    refine AOps.mD rfl rfl rfl rfl rfl (.nil ?_)
    refine ⟨k + 1, ⟨by omega, ffst_next hk.2 hPK⟩, (by dsimp only; omega), Sub.less ⟨(SLe.of_eq rfl), SLe.refl _, SLe.refl _, SLe.refl _, SLe.refl _, trivial⟩ (fun _ h => h)⟩
  replace h17 := of_decide_eq_false h17
  rw [List.length_map] at h17
  obtain rfl : k = t.parts.length := by omega
  have HL := link_l hP0 hk.2
  refine AWP.exit ?_
  refine AWP.seq (AWP.region ?_)
  refine AOps.step rfl rfl rfl (AOp.fieldAddr rfl fo_67_5 rfl) ?_
  refine AOps.step rfl rfl rfl (AOp.load rfl sc_3 rfl) ?_
  refine AOps.aD rfl rfl rfl rfl rfl (.nil ?_)
  refine AWP.seq ?_
  refine AWP.seq (AWP.region ?_)
  refine AOps.mD rfl rfl rfl rfl rfl ?_
  refine AOps.step rfl rfl rfl (AOp.lenF rfl mt_81 rfl) ?_
  rw [idx_len]
  refine AOps.mD rfl rfl rfl rfl rfl (.nil ?_)
  refine AWP.block ?_
  refine AWP.loop (G := Nat) (fun j => Env.of [(55, .d (.v (.int .i64 (j : Int)))), (54, .d (.v (.int .i64 (l.length : Int)))), (12, .d (.v (.int .i64 (upN l t.parent j)))), (0, .d (.fm (idxM l))), (3, .d (.fp t.ds))]) (fun j => []) (fun j => j ≤ l.length ∧ ∀ i, i < j → upN l t.parent i ≠ t.id) (fun j => l.length - j) 0 ⟨Nat.zero_le _, fun i hi => by omega⟩ (Sub.less ⟨(SLe.of_eq rfl), SLe.refl _, (SLe.of_eq rfl), SLe.refl _, SLe.refl _, trivial⟩ (fun _ h => h)) ?_
  intro j hj
  refine AWP.seq (AWP.region ?_)
  refine AOps.step rfl rfl rfl (AOp.lss rfl rfl rfl) (.nil ?_)
  refine AWP.seq ?_
  refine AWP.cond rfl (fun h20 => ?_) (fun h20 => ?_)
  · replace h20 := of_decide_eq_true h20
    have hlt2 : j < l.length := by omega
    refine AWP.skip ?_
    refine AWP.seq ?_
    refine AWP.block ?_
    refine AWP.seq ?_
    refine AWP.seq (AWP.region ?_)
    refine AOps.mD rfl rfl rfl rfl rfl ?_
    refine AOps.step rfl rfl rfl (AOp.fieldAddr rfl fo_67_0 rfl) ?_
    refine AOps.step rfl rfl rfl (AOp.load rfl sc_3 rfl) ?_
    refine AOps.step rfl rfl rfl (AOp.eql rfl rfl rfl) (.nil ?_)
    refine AWP.cond rfl (fun h21 => ?_) (fun h21 => ?_)
    · replace h21 := of_decide_eq_true h21
      have HR : linkF l t = 14 := by rw [HL, if_pos (loop_yes hlt2 h21)]
      refine AWP.seq (AWP.region ?_)
      refine AOps.aD rfl rfl rfl rfl rfl (.nil ?_)
      refine AWP.ret ?_
      refine ⟨RetD.eq rfl ?_, trivial⟩
      all_goals (rw [HR])
    replace h21 := of_decide_eq_false h21
    have HN := up_next hj.2 h21
    refine AWP.skip ?_
    refine AWP.region ?_
    refine AOps.mD rfl rfl rfl rfl rfl ?_
    refine AOps.mD rfl rfl rfl rfl rfl ?_
    refine AOps.step rfl rfl rfl (AOp.lookupF (key := kI (upN l t.parent j)) rfl mt_idx kd_int zt_thg zd_thg rfl rfl (DExact.v _) (kI_ok (upN_ok hl ht.parent j)) (idxM_keys hl) (get_idx hn.nk _)) ?_
    refine AOps.step rfl rfl rfl (AOp.field rfl fv_67_5 rfl rfl) ?_
    refine AOps.aD rfl rfl rfl rfl rfl (.nil ?_)
    refine AWP.region ?_
    refine AOps.step rfl rfl rfl (AOp.add64 rfl rfl rfl (by omega) (by omega)) ?_
    refine AOps.mD rfl rfl rfl rfl rfl (.nil ?_)
    refine ⟨j + 1, ⟨by omega, HN⟩, (by dsimp only; omega), Sub.less ⟨(SLe.of_eq rfl), SLe.refl _, (SLe.of_eq rfl), SLe.refl _, SLe.refl _, trivial⟩ (fun _ h => h)⟩
  replace h20 := of_decide_eq_false h20
  have HR : linkF l t = 0 := by rw [HL, if_neg (by rw [loop_no (fun i hi => hj.2 i (by omega))]; decide)]
  refine AWP.exit ?_
  refine AWP.seq (AWP.region ?_)
  refine AOps.aD rfl rfl rfl rfl rfl (.nil ?_)
  refine AWP.ret ?_
  refine ⟨RetD.eq rfl ?_, trivial⟩
  all_goals (rw [HR])

set_option maxRecDepth 100000 in
set_option maxHeartbeats 1000000 in
theorem c_back (c : Ctl) (t : Thg) (hl : Lim c) (hr : RisT c.things) (ht : t ∈ c.things) : ACall Tryz.prog 94 [.agg c.ds, .agg t.ds] (.v (.bool (loopB c.things t))) := by
  refine acall_of (n := 30) (ds' := [.v (.bool (loopB c.things t))]) Tryz.func94 rfl (by kernel_rfl) rfl [4] rfl rfl ?_
  intro B w0 F0 fr
  have hl1 := hl.1
  refine AWP.seq (AWP.region ?_)
  refine AOps.step rfl rfl rfl (AOp.box rfl rfl rfl) ?_
  refine AOps.step rfl rfl rfl (AOp.box rfl rfl rfl) ?_
  refine AOps.aD rfl rfl rfl rfl rfl (.nil ?_)
  refine AWP.seq (AWP.region ?_)
  refine AOps.step rfl rfl rfl (AOp.loadAgg rfl ag_67 rfl rfl) ?_
  refine AOps.alloc 101 rfl rfl rfl rfl zt_67 rfl rfl rfl ?_
  refine AOps.store rfl rfl rfl sz_67 rfl (.head _) rfl rfl rfl (Nat.le_of_ble_eq_true rfl) (.nil ?_)
  refine AWP.seq ?_
  refine AWP.seq (AWP.region ?_)
  refine AOps.step rfl rfl rfl (AOp.fieldAddr rfl fo_25_0 rfl) ?_
  refine AOps.step rfl rfl rfl (AOp.load rfl sc_22 rfl) ?_
  refine AOps.step rfl rfl rfl (AOp.lenSl rfl et_22.ht rfl) ?_
  refine AOps.mD rfl rfl rfl rfl rfl (.nil ?_)
  refine AWP.block ?_
  refine AWP.loop (G := Nat) (fun j => Env.of [(12, .d (.v (.int .i64 (j : Int)))), (11, .d (.v (.int .i64 ((c.things.map Thg.ds).length : Int)))), (2, .d (.fp c.ds)), (3, .d (.fp t.ds)), (5, .ptr 101 0)]) (fun j => [(101, .cells ((atN c.things t j).ds.map S.d))]) (fun j => j ≤ c.things.length ∧ ∀ i, i < j → upN c.things t.parent i ≠ t.id) (fun j => c.things.length - j) 0 ⟨Nat.zero_le _, fun i hi => by omega⟩ (Sub.less ⟨(SLe.of_eq rfl), SLe.refl _, SLe.refl _, SLe.refl _, SLe.refl _, trivial⟩ (cells_1 rfl)) ?_
  intro j hj
  refine AWP.seq (AWP.region ?_)
  refine AOps.step rfl rfl rfl (AOp.lss rfl rfl rfl) (.nil ?_)
  refine AWP.seq ?_
  refine AWP.cond rfl (fun h1 => ?_) (fun h1 => ?_)
  · replace h1 := of_decide_eq_true h1
    rw [List.length_map] at h1
    have hlt : j < c.things.length := by omega
    refine AWP.skip ?_
    refine AWP.seq ?_
    refine AWP.block ?_
    refine AWP.seq (AWP.region ?_)
    refine AOps.step rfl rfl rfl (AOp.loadAgg rfl ag_25 rfl rfl) ?_
    refine AOps.step rfl rfl rfl (AOp.fieldAddrP rfl fo_67_5 rfl) ?_
    refine AOps.step rfl rfl rfl (AOp.loadP rfl sc_3 rfl (.head _) rfl) ?_
    refine AOps.step rfl rfl rfl (AOp.call rfl (.cons (ArgOk.rfl' rfl) (.cons (ArgOk.rfl' rfl) .nil)) (c_thing c _ hl)) ?_
    refine AOps.mD rfl rfl rfl rfl rfl ?_
    refine AOps.step rfl rfl rfl (AOp.extract rfl rfl rfl) ?_
    refine AOps.step rfl rfl rfl (AOp.extract rfl rfl rfl) ?_
    refine AOps.alloc 102 rfl rfl rfl rfl zt_67 rfl rfl rfl ?_
    refine AOps.store rfl rfl rfl sz_67 rfl (.head _) rfl rfl rfl (Nat.le_of_ble_eq_true rfl) ?_
    refine AOps.freezeCells 6 (ds := (getT c.things (atN c.things t j).parent).ds) rfl (.head _) ?_
    refine AOps.aD rfl rfl rfl rfl rfl (.nil ?_)
    refine AWP.seq ?_
    refine AWP.seq (AWP.region ?_)
    refine AOps.mD rfl rfl rfl rfl rfl ?_
    refine AOps.step rfl rfl rfl (AOp.not rfl rfl) (.nil ?_)
    refine AWP.cond rfl (fun h2 => ?_) (fun h2 => ?_)
    · replace h2 := bnot_t h2
      rw [loop_gone hr ht hj.2 (by rw [up_at]; exact h2)]
      refine AWP.seq (AWP.region ?_)
      refine AOps.aD rfl rfl rfl rfl rfl (.nil ?_)
      refine AWP.ret ?_
      refine ⟨RetD.eq rfl ?_, trivial⟩
      all_goals (rfl)
    replace h2 := bnot_f h2
    have hth := getT_id h2
    refine AWP.skip ?_
    refine AWP.seq ?_
    refine AWP.seq (AWP.region ?_)
    refine AOps.step rfl rfl rfl (AOp.fieldAddr rfl fo_67_0 rfl) ?_
    refine AOps.step rfl rfl rfl (AOp.load rfl sc_3 rfl) ?_
    refine AOps.step rfl rfl rfl (AOp.fieldAddr rfl fo_67_0 rfl) ?_
    refine AOps.step rfl rfl rfl (AOp.load rfl sc_3 rfl) ?_
    refine AOps.step rfl rfl rfl (AOp.eql rfl rfl rfl) (.nil ?_)
    refine AWP.cond rfl (fun h3 => ?_) (fun h3 => ?_)
    · replace h3 := of_decide_eq_true h3
      rw [loop_yes hlt (by rw [up_at, ← hth.1]; exact h3)]
      refine AWP.seq (AWP.region ?_)
      refine AOps.aD rfl rfl rfl rfl rfl (.nil ?_)
      refine AWP.ret ?_
      refine ⟨RetD.eq rfl ?_, trivial⟩
      all_goals (rfl)
    replace h3 := of_decide_eq_false h3
    have HN := up_next hj.2 (by rw [up_at, ← hth.1]; exact h3)
    refine AWP.skip ?_
    refine AWP.region ?_
    refine AOps.step rfl rfl rfl (AOp.loadAgg rfl ag_67 rfl rfl) ?_
    refine AOps.store rfl rfl rfl sz_67 rfl (.head _) rfl rfl rfl (Nat.le_of_ble_eq_true rfl) (.nil ?_)
    refine AWP.region ?_
    refine AOps.step rfl rfl rfl (AOp.add64 rfl rfl rfl (by omega) (by omega)) ?_
    refine AOps.mD rfl rfl rfl rfl rfl (.nil ?_)
    refine ⟨j + 1, ⟨by omega, HN⟩, (by dsimp only; omega), Sub.less ⟨(SLe.of_eq rfl), SLe.refl _, SLe.refl _, SLe.refl _, SLe.refl _, trivial⟩ (cells_1 rfl)⟩
  replace h1 := of_decide_eq_false h1
  rw [List.length_map] at h1
  rw [loop_no (fun i hi => hj.2 i (by omega))]
  refine AWP.exit ?_
  refine AWP.seq (AWP.region ?_)
  refine AOps.aD rfl rfl rfl rfl rfl (.nil ?_)
  refine AWP.ret ?_
  refine ⟨RetD.eq rfl ?_, trivial⟩
  all_goals (rfl)

set_option maxRecDepth 100000 in
set_option maxHeartbeats 1000000 in
theorem c_rLink (c : Ctl) (i : Nat) (hl : Lim c) (hr : RisT c.things) (hi : i < c.things.length) (hp : c.things[i].parts.length ≤ 50) : ACall Tryz.prog 68 [.agg c.ds, .v (.int .i64 (i : Int))] (.v (.int .i64 (lkF c.things i))) := by
  refine acall_of (n := 98) (ds' := [.v (.int .i64 (lkF c.things i))]) Tryz.func68 rfl (by kernel_rfl) rfl [4] rfl rfl ?_
  intro B w0 F0 fr
  have hl1 := hl.1
  refine AWP.seq (AWP.region ?_)
  refine AOps.step rfl rfl rfl (AOp.box rfl rfl rfl) ?_
  refine AOps.aD rfl rfl rfl rfl rfl (.nil ?_)
  refine AWP.seq (AWP.region ?_)
  refine AOps.step rfl rfl rfl (AOp.fieldAddr rfl fo_25_0 rfl) ?_
  refine AOps.step rfl rfl rfl (AOp.load rfl sc_22 rfl) ?_
  refine AOps.mD rfl rfl rfl rfl rfl ?_
  refine AOps.step rfl rfl rfl (AOp.indexAddr rfl et_22 rfl rfl i rfl (at_lst hi) rfl) ?_
  refine AOps.step rfl rfl rfl (AOp.loadAgg rfl ag_67 rfl rfl) ?_
  refine AOps.alloc 101 rfl rfl rfl rfl zt_67 rfl rfl rfl ?_
  refine AOps.store rfl rfl rfl sz_67 rfl (.head _) rfl rfl rfl (Nat.le_of_ble_eq_true rfl) ?_
  refine AOps.freezeCells 5 (ds := c.things[i].ds) rfl (.head _) (.nil ?_)
  refine AWP.seq ?_
  refine AWP.seq (AWP.region ?_)
  refine AOps.step rfl rfl rfl (AOp.fieldAddr rfl fo_67_5 rfl) ?_
  refine AOps.step rfl rfl rfl (AOp.load rfl sc_3 rfl) ?_
  refine AOps.step rfl rfl rfl (AOp.neq rfl rfl rfl) (.nil ?_)
  refine AWP.cond rfl (fun h1 => ?_) (fun h1 => ?_)
  · replace h1 := of_decide_eq_true h1
    have hpn : ¬ c.things[i].parent = 0 := h1
    refine AWP.seq (AWP.region ?_)
    refine AOps.step rfl rfl rfl (AOp.loadAgg rfl ag_25 rfl rfl) ?_
    refine AOps.step rfl rfl rfl (AOp.fieldAddr rfl fo_67_5 rfl) ?_
    refine AOps.step rfl rfl rfl (AOp.load rfl sc_3 rfl) ?_
    refine AOps.step rfl rfl rfl (AOp.call rfl (.cons (ArgOk.rfl' rfl) (.cons (ArgOk.rfl' rfl) .nil)) (c_thing c _ hl)) ?_
    refine AOps.mD rfl rfl rfl rfl rfl ?_
    refine AOps.step rfl rfl rfl (AOp.extract rfl rfl rfl) ?_
    refine AOps.step rfl rfl rfl (AOp.extract rfl rfl rfl) ?_
    refine AOps.alloc 102 rfl rfl rfl rfl zt_67 rfl rfl rfl ?_
    refine AOps.store rfl rfl rfl sz_67 rfl (.head _) rfl rfl rfl (Nat.le_of_ble_eq_true rfl) ?_
    refine AOps.freezeCells 6 (ds := (getT c.things c.things[i].parent).ds) rfl (.head _) ?_
    refine AOps.aD rfl rfl rfl rfl rfl (.nil ?_)
    refine AWP.seq ?_
    refine AWP.seq (AWP.region ?_)
    refine AOps.mD rfl rfl rfl rfl rfl ?_
    refine AOps.step rfl rfl rfl (AOp.not rfl rfl) (.nil ?_)
    refine AWP.cond rfl (fun h2 => ?_) (fun h2 => ?_)
    · replace h2 := bnot_t h2
      have HR : lkF c.things i = 9 := lk_p hi (link_p (par_9 hpn h2) (by decide)) (by decide)
      refine AWP.seq (AWP.region ?_)
      refine AOps.aD rfl rfl rfl rfl rfl (.nil ?_)
      refine AWP.ret ?_
      refine ⟨RetD.eq rfl ?_, trivial⟩
      all_goals (rw [HR])
    replace h2 := bnot_f h2
    have hth := h2
    refine AWP.skip ?_
    refine AWP.seq (AWP.region ?_)
    refine AOps.step rfl rfl rfl (AOp.fieldAddr rfl fo_67_1 rfl) ?_
    refine AOps.step rfl rfl rfl (AOp.load rfl sc_3 rfl) ?_
    refine AOps.step rfl rfl rfl (AOp.eql rfl rfl rfl) ?_
    refine AOps.mD rfl rfl rfl rfl rfl ?_
    refine AOps.split 34 rfl (fun g3 => ?_) (fun g3 => ?_)
    · replace g3 := of_decide_eq_true g3
      refine AOps.step ⟨34, rfl, .inl ⟨_, rfl, rfl⟩⟩ rfl rfl (AOp.fieldAddr rfl fo_67_1 rfl) ?_
      refine AOps.step ⟨34, rfl, .inl ⟨_, rfl, rfl⟩⟩ rfl rfl (AOp.load rfl sc_3 rfl) ?_
      refine AOps.step ⟨34, rfl, .inl ⟨_, rfl, rfl⟩⟩ rfl rfl (AOp.neq rfl rfl rfl) ?_
      refine AOps.step rfl rfl rfl (AOp.pickT rfl rfl rfl) ?_
      refine AOps.mD rfl rfl rfl rfl rfl ?_
      refine AOps.split 39 rfl (fun g4 => ?_) (fun g4 => ?_)
      · replace g4 := of_decide_eq_true g4
        refine AOps.pass ⟨39, rfl, .inl ⟨_, rfl, rfl⟩⟩ rfl rfl ?_
        refine AOps.pass ⟨39, rfl, .inl ⟨_, rfl, rfl⟩⟩ rfl rfl ?_
        refine AOps.pass ⟨39, rfl, .inl ⟨_, rfl, rfl⟩⟩ rfl rfl ?_
        refine AOps.pass ⟨39, rfl, .inl ⟨_, rfl, rfl⟩⟩ rfl rfl ?_
        refine AOps.pass ⟨43, rfl, .inr ⟨rfl, rfl⟩⟩ rfl rfl ?_
        refine AOps.pass ⟨43, rfl, .inr ⟨rfl, rfl⟩⟩ rfl rfl ?_
        refine AOps.pass ⟨43, rfl, .inr ⟨rfl, rfl⟩⟩ rfl rfl ?_
        refine AOps.pass ⟨39, rfl, .inl ⟨_, rfl, rfl⟩⟩ rfl rfl ?_
        refine AOps.step rfl rfl rfl (AOp.pickT rfl rfl rfl) (.nil ?_)
        refine AWP.cond rfl (fun _ => ?_) (fun h => nomatch h)
        refine AWP.seq ?_
        have HR : lkF c.things i = 6 := lk_p hi (link_p (par_6 hpn hth (by unfold wantK; split <;> omega)) (by decide)) (by decide)
        refine AWP.region ?_
        refine AOps.aD rfl rfl rfl rfl rfl (.nil ?_)
        refine AWP.ret ?_
        refine ⟨RetD.eq rfl ?_, trivial⟩
        all_goals (rw [HR])
      replace g4 := of_decide_eq_false g4
      refine AOps.step ⟨39, rfl, .inl ⟨_, rfl, rfl⟩⟩ rfl rfl (AOp.fieldAddr rfl fo_67_1 rfl) ?_
      refine AOps.step ⟨39, rfl, .inl ⟨_, rfl, rfl⟩⟩ rfl rfl (AOp.load rfl sc_3 rfl) ?_
      refine AOps.step ⟨39, rfl, .inl ⟨_, rfl, rfl⟩⟩ rfl rfl (AOp.neq rfl rfl rfl) ?_
      refine AOps.step ⟨39, rfl, .inl ⟨_, rfl, rfl⟩⟩ rfl rfl (AOp.moveD rfl rfl) ?_
      refine AOps.split 43 rfl (fun g5 => ?_) (fun g5 => ?_)
      · replace g5 := of_decide_eq_true g5
        refine AOps.step ⟨43, rfl, .inl ⟨_, rfl, rfl⟩⟩ rfl rfl (AOp.fieldAddr rfl fo_67_1 rfl) ?_
        refine AOps.step ⟨43, rfl, .inl ⟨_, rfl, rfl⟩⟩ rfl rfl (AOp.load rfl sc_3 rfl) ?_
        refine AOps.step ⟨43, rfl, .inl ⟨_, rfl, rfl⟩⟩ rfl rfl (AOp.neq rfl rfl rfl) ?_
        refine AOps.step ⟨39, rfl, .inl ⟨_, rfl, rfl⟩⟩ rfl rfl (AOp.pickT rfl rfl rfl) ?_
        refine AOps.step rfl rfl rfl (AOp.pickF rfl rfl rfl) (.nil ?_)
        refine AWP.cond rfl (fun h6 => ?_) (fun h6 => ?_)
        · replace h6 := of_decide_eq_true h6
          refine AWP.seq ?_
          have HR : lkF c.things i = 6 := lk_p hi (link_p (par_6 hpn hth (by unfold wantK; split <;> omega)) (by decide)) (by decide)
          refine AWP.region ?_
          refine AOps.aD rfl rfl rfl rfl rfl (.nil ?_)
          refine AWP.ret ?_
          refine ⟨RetD.eq rfl ?_, trivial⟩
          all_goals (rw [HR])
        replace h6 := of_decide_eq_false h6
        refine AWP.skip ?_
        refine AWP.seq ?_
        refine AWP.seq ?_
        have hP0 : parF c.things c.things[i] = 0 := by first | assumption | exact par_ok hpn hth (by unfold wantK; split <;> omega)
        refine AWP.region ?_
        refine AOps.step rfl rfl rfl (AOp.fieldAddr rfl fo_67_6 rfl) ?_
        refine AOps.step rfl rfl rfl (AOp.load rfl sc_26 rfl) ?_
        refine AOps.step rfl rfl rfl (AOp.lenSl rfl et_26.ht rfl) ?_
        refine AOps.mD rfl rfl rfl rfl rfl (.nil ?_)
        refine AWP.block ?_
        refine AWP.loop (G := Nat) (fun k => Env.of [(52, .d (.v (.int .i64 (k : Int)))), (50, .d (.sl (c.things[i].parts.map intD))), (51, .d (.v (.int .i64 ((c.things[i].parts.map intD).length : Int)))), (2, .d (.fp c.ds)), (5, .d (.fp c.things[i].ds)), (1, .d (.v (.int .i64 (i : Int))))]) (fun k => []) (fun k => k ≤ c.things[i].parts.length ∧ ffst (ptF c.things c.things[i]) k = 0) (fun k => c.things[i].parts.length - k) 0 ⟨Nat.zero_le _, rfl⟩ (Sub.less ⟨(SLe.of_eq rfl), SLe.refl _, SLe.refl _, SLe.refl _, SLe.refl _, SLe.refl _, trivial⟩ (fun _ h => h)) ?_
        intro k hk
        refine AWP.seq (AWP.region ?_)
        refine AOps.step rfl rfl rfl (AOp.lss rfl rfl rfl) (.nil ?_)
        refine AWP.seq ?_
        refine AWP.cond rfl (fun h7 => ?_) (fun h7 => ?_)
        · replace h7 := of_decide_eq_true h7
          rw [List.length_map] at h7
          have hlt : k < c.things[i].parts.length := by omega
          refine AWP.skip ?_
          refine AWP.seq ?_
          refine AWP.block ?_
          refine AWP.seq (AWP.region ?_)
          refine AOps.step rfl rfl rfl (AOp.indexAddr rfl et_26 rfl rfl k rfl (at_lst hlt) rfl) ?_
          refine AOps.step rfl rfl rfl (AOp.load rfl sc_3 rfl) ?_
          refine AOps.aD rfl rfl rfl rfl rfl (.nil ?_)
          refine AWP.seq (AWP.region ?_)
          refine AOps.step rfl rfl rfl (AOp.loadAgg rfl ag_25 rfl rfl) ?_
          refine AOps.mD rfl rfl rfl rfl rfl ?_
          refine AOps.step rfl rfl rfl (AOp.call rfl (.cons (ArgOk.rfl' rfl) (.cons (ArgOk.rfl' rfl) .nil)) (c_thing c _ hl)) ?_
          refine AOps.mD rfl rfl rfl rfl rfl ?_
          refine AOps.step rfl rfl rfl (AOp.extract rfl rfl rfl) ?_
          refine AOps.step rfl rfl rfl (AOp.extract rfl rfl rfl) ?_
          refine AOps.alloc 103 rfl rfl rfl rfl zt_67 rfl rfl rfl ?_
          refine AOps.store rfl rfl rfl sz_67 rfl (.head _) rfl rfl rfl (Nat.le_of_ble_eq_true rfl) ?_
          refine AOps.freezeCells 10 (ds := (getT c.things c.things[i].parts[k]).ds) rfl (.head _) ?_
          refine AOps.aD rfl rfl rfl rfl rfl (.nil ?_)
          refine AWP.seq ?_
          refine AWP.seq (AWP.region ?_)
          refine AOps.mD rfl rfl rfl rfl rfl ?_
          refine AOps.step rfl rfl rfl (AOp.not rfl rfl) (.nil ?_)
          refine AWP.cond rfl (fun h8 => ?_) (fun h8 => ?_)
          · replace h8 := bnot_t h8
            have HR : lkF c.things i = 9 := lk_p hi (link_q hP0 hlt hk.2 (pt_9 hlt h8) (by decide)) (by decide)
            refine AWP.seq (AWP.region ?_)
            refine AOps.aD rfl rfl rfl rfl rfl (.nil ?_)
            refine AWP.ret ?_
            refine ⟨RetD.eq rfl ?_, trivial⟩
            all_goals (rw [HR])
          replace h8 := bnot_f h8
          have hth2 := h8
          refine AWP.skip ?_
          refine AWP.seq (AWP.region ?_)
          refine AOps.step rfl rfl rfl (AOp.fieldAddr rfl fo_67_1 rfl) ?_
          refine AOps.step rfl rfl rfl (AOp.load rfl sc_3 rfl) ?_
          refine AOps.step rfl rfl rfl (AOp.neq rfl rfl rfl) (.nil ?_)
          refine AWP.cond rfl (fun h9 => ?_) (fun h9 => ?_)
          · replace h9 := of_decide_eq_true h9
            have HR : lkF c.things i = 6 := lk_p hi (link_q hP0 hlt hk.2 (pt_6 hlt hth2 h9) (by decide)) (by decide)
            refine AWP.seq (AWP.region ?_)
            refine AOps.aD rfl rfl rfl rfl rfl (.nil ?_)
            refine AWP.ret ?_
            refine ⟨RetD.eq rfl ?_, trivial⟩
            all_goals (rw [HR])
          replace h9 := of_decide_eq_false h9
          have hPK := pt_ok hlt hth2 (by omega)
          refine AWP.skip ?_
          refine AWP.region ?_
          refine AOps.step rfl rfl rfl (AOp.add64 rfl rfl rfl (by omega) (by omega)) ?_
          refine AOps.mD rfl rfl rfl rfl rfl (.nil ?_)
          refine ⟨k + 1, ⟨by omega, ffst_next hk.2 hPK⟩, (by dsimp only; omega), Sub.less ⟨(SLe.of_eq rfl), SLe.refl _, SLe.refl _, SLe.refl _, SLe.refl _, SLe.refl _, trivial⟩ (fun _ h => h)⟩
        replace h7 := of_decide_eq_false h7
        rw [List.length_map] at h7
        have hkl : k = c.things[i].parts.length := by omega
        have HL := link_l hP0 (by rw [← hkl]; exact hk.2)
        refine AWP.exit ?_
        refine AWP.seq ?_
        refine AWP.seq (AWP.region ?_)
        refine AOps.step rfl rfl rfl (AOp.loadAgg rfl ag_25 rfl rfl) ?_
        refine AOps.step rfl rfl rfl (AOp.loadAgg rfl ag_67 rfl rfl) ?_
        refine AOps.step rfl rfl rfl (AOp.call rfl (.cons (ArgOk.rfl' rfl) (.cons (ArgOk.rfl' rfl) .nil)) (c_back c _ hl hr (List.getElem_mem hi))) (.nil ?_)
        refine AWP.cond rfl (fun h10 => ?_) (fun h10 => ?_)
        · skip
          have HR : lkF c.things i = 14 := lk_p hi (HL.trans (if_pos h10)) (by decide)
          refine AWP.seq (AWP.region ?_)
          refine AOps.aD rfl rfl rfl rfl rfl (.nil ?_)
          refine AWP.ret ?_
          refine ⟨RetD.eq rfl ?_, trivial⟩
          all_goals (rw [HR])
        have HL0 : linkF c.things c.things[i] = 0 := HL.trans (if_neg (by rw [h10]; decide))
        refine AWP.skip ?_
        refine AWP.seq ?_
        refine AWP.seq (AWP.region ?_)
        refine AOps.step rfl rfl rfl (AOp.fieldAddr rfl fo_25_0 rfl) ?_
        refine AOps.step rfl rfl rfl (AOp.load rfl sc_22 rfl) ?_
        refine AOps.mD rfl rfl rfl rfl rfl ?_
        refine AOps.step rfl rfl rfl (AOp.sliceH rfl et_22 rfl rfl (by omega) (by rw [List.length_map]; omega) (fun y hy => by obtain ⟨z, _, rfl⟩ := List.mem_map.1 hy; rfl)) ?_
        refine AOps.step rfl rfl rfl (AOp.lenSl rfl et_22.ht rfl) ?_
        refine AOps.mD rfl rfl rfl rfl rfl (.nil ?_)
        refine AWP.block ?_
        refine AWP.loop (G := Nat) (fun j => Env.of [(76, .d (.v (.int .i64 (j : Int)))), (74, .d (.sl ((c.things.map Thg.ds).take i))), (75, .d (.v (.int .i64 (i : Int)))), (5, .d (.fp c.things[i].ds))]) (fun j => []) (fun j => j ≤ i ∧ ∀ x ∈ c.things.take j, ¬ twP c.things[i] x) (fun j => i - j) 0 ⟨Nat.zero_le _, fun x hx => by simp at hx⟩ (Sub.less ⟨(SLe.of_eq rfl), (SLe.of_eq rfl), (SLe.i64 (by rw [List.length_take, List.length_map]; omega)), SLe.refl _, trivial⟩ (fun _ h => h)) ?_
        intro j hj
        refine AWP.seq (AWP.region ?_)
        refine AOps.step rfl rfl rfl (AOp.lss rfl rfl rfl) (.nil ?_)
        refine AWP.seq ?_
        refine AWP.cond rfl (fun h11 => ?_) (fun h11 => ?_)
        · replace h11 := of_decide_eq_true h11
          have hlt3 : j < i := by omega
          refine AWP.skip ?_
          refine AWP.seq ?_
          refine AWP.block ?_
          refine AWP.seq (AWP.region ?_)
          refine AOps.step rfl rfl rfl (AOp.indexAddr rfl et_22 rfl rfl j rfl (at_take (by omega) hlt3) rfl) ?_
          refine AOps.step rfl rfl rfl (AOp.loadAgg rfl ag_67 rfl rfl) ?_
          refine AOps.alloc 104 rfl rfl rfl rfl zt_67 rfl rfl rfl ?_
          refine AOps.store rfl rfl rfl sz_67 rfl (.head _) rfl rfl rfl (Nat.le_of_ble_eq_true rfl) ?_
          refine AOps.freezeCells 13 (ds := (c.things[j]'(by omega)).ds) rfl (.head _) (.nil ?_)
          refine AWP.seq (AWP.region ?_)
          refine AOps.step rfl rfl rfl (AOp.fieldAddr rfl fo_67_1 rfl) ?_
          refine AOps.step rfl rfl rfl (AOp.load rfl sc_3 rfl) ?_
          refine AOps.step rfl rfl rfl (AOp.fieldAddr rfl fo_67_1 rfl) ?_
          refine AOps.step rfl rfl rfl (AOp.load rfl sc_3 rfl) ?_
          refine AOps.step rfl rfl rfl (AOp.eql rfl rfl rfl) ?_
          refine AOps.mD rfl rfl rfl rfl rfl ?_
          refine AOps.split 85 rfl (fun g12 => ?_) (fun g12 => ?_)
          · replace g12 := of_decide_eq_true g12
            have hke := g12
            refine AOps.step ⟨85, rfl, .inl ⟨_, rfl, rfl⟩⟩ rfl rfl (AOp.fieldAddr rfl fo_67_3 rfl) ?_
            refine AOps.step ⟨85, rfl, .inl ⟨_, rfl, rfl⟩⟩ rfl rfl (AOp.load rfl sc_9 rfl) ?_
            refine AOps.step ⟨85, rfl, .inl ⟨_, rfl, rfl⟩⟩ rfl rfl (AOp.sneq rfl rfl rfl) ?_
            refine AOps.step rfl rfl rfl (AOp.pickT rfl rfl rfl) ?_
            refine AOps.mD rfl rfl rfl rfl rfl ?_
            refine AOps.split 90 rfl (fun g13 => ?_) (fun g13 => ?_)
            · replace g13 := of_decide_eq_true g13
              have hcn := g13
              refine AOps.step ⟨90, rfl, .inl ⟨_, rfl, rfl⟩⟩ rfl rfl (AOp.fieldAddr rfl fo_67_3 rfl) ?_
              refine AOps.step ⟨90, rfl, .inl ⟨_, rfl, rfl⟩⟩ rfl rfl (AOp.load rfl sc_9 rfl) ?_
              refine AOps.step ⟨90, rfl, .inl ⟨_, rfl, rfl⟩⟩ rfl rfl (AOp.fieldAddr rfl fo_67_3 rfl) ?_
              refine AOps.step ⟨90, rfl, .inl ⟨_, rfl, rfl⟩⟩ rfl rfl (AOp.load rfl sc_9 rfl) ?_
              refine AOps.step ⟨90, rfl, .inl ⟨_, rfl, rfl⟩⟩ rfl rfl (AOp.seql rfl rfl rfl) ?_
              refine AOps.step rfl rfl rfl (AOp.pickT rfl rfl rfl) (.nil ?_)
              refine AWP.cond rfl (fun h14 => ?_) (fun h14 => ?_)
              · replace h14 := of_decide_eq_true h14
                have hce := h14
                refine AWP.seq ?_
                have HR := lk_7 hi HL0 hcn (tw_yes hlt3 (by omega) ⟨hke, hcn, hce⟩)
                refine AWP.region ?_
                refine AOps.aD rfl rfl rfl rfl rfl (.nil ?_)
                refine AWP.ret ?_
                refine ⟨RetD.eq rfl ?_, trivial⟩
                all_goals (rw [HR])
              replace h14 := of_decide_eq_false h14
              refine AWP.skip ?_
              refine AWP.region ?_
              refine AOps.step rfl rfl rfl (AOp.add64 rfl rfl rfl (by omega) (by omega)) ?_
              refine AOps.mD rfl rfl rfl rfl rfl (.nil ?_)
              refine ⟨j + 1, ⟨by omega, tw_next (by omega) hj.2 (fun ⟨q1, q2, q3⟩ => by first | contradiction | omega)⟩, (by dsimp only; omega), Sub.less ⟨(SLe.of_eq rfl), SLe.refl _, SLe.refl _, SLe.refl _, trivial⟩ (fun _ h => h)⟩
            replace g13 := of_decide_eq_false g13
            refine AOps.pass ⟨90, rfl, .inl ⟨_, rfl, rfl⟩⟩ rfl rfl ?_
            refine AOps.pass ⟨90, rfl, .inl ⟨_, rfl, rfl⟩⟩ rfl rfl ?_
            refine AOps.pass ⟨90, rfl, .inl ⟨_, rfl, rfl⟩⟩ rfl rfl ?_
            refine AOps.pass ⟨90, rfl, .inl ⟨_, rfl, rfl⟩⟩ rfl rfl ?_
            refine AOps.pass ⟨90, rfl, .inl ⟨_, rfl, rfl⟩⟩ rfl rfl ?_
            refine AOps.step rfl rfl rfl (AOp.pickF rfl rfl rfl) (.nil ?_)
            refine AWP.cond rfl (fun h => nomatch h) (fun _ => ?_)
            refine AWP.skip ?_
            refine AWP.region ?_
            refine AOps.step rfl rfl rfl (AOp.add64 rfl rfl rfl (by omega) (by omega)) ?_
            refine AOps.mD rfl rfl rfl rfl rfl (.nil ?_)
            refine ⟨j + 1, ⟨by omega, tw_next (by omega) hj.2 (fun ⟨q1, q2, q3⟩ => by first | contradiction | omega)⟩, (by dsimp only; omega), Sub.less ⟨(SLe.of_eq rfl), SLe.refl _, SLe.refl _, SLe.refl _, trivial⟩ (fun _ h => h)⟩
          replace g12 := of_decide_eq_false g12
          refine AOps.pass ⟨85, rfl, .inl ⟨_, rfl, rfl⟩⟩ rfl rfl ?_
          refine AOps.pass ⟨85, rfl, .inl ⟨_, rfl, rfl⟩⟩ rfl rfl ?_
          refine AOps.pass ⟨85, rfl, .inl ⟨_, rfl, rfl⟩⟩ rfl rfl ?_
          refine AOps.step rfl rfl rfl (AOp.pickF rfl rfl rfl) ?_
          refine AOps.mD rfl rfl rfl rfl rfl ?_
          refine AOps.pass ⟨90, rfl, .inl ⟨_, rfl, rfl⟩⟩ rfl rfl ?_
          refine AOps.pass ⟨90, rfl, .inl ⟨_, rfl, rfl⟩⟩ rfl rfl ?_
          refine AOps.pass ⟨90, rfl, .inl ⟨_, rfl, rfl⟩⟩ rfl rfl ?_
          refine AOps.pass ⟨90, rfl, .inl ⟨_, rfl, rfl⟩⟩ rfl rfl ?_
          refine AOps.pass ⟨90, rfl, .inl ⟨_, rfl, rfl⟩⟩ rfl rfl ?_
          refine AOps.step rfl rfl rfl (AOp.pickF rfl rfl rfl) (.nil ?_)
          refine AWP.cond rfl (fun h => nomatch h) (fun _ => ?_)
          refine AWP.skip ?_
          refine AWP.region ?_
          refine AOps.step rfl rfl rfl (AOp.add64 rfl rfl rfl (by omega) (by omega)) ?_
          refine AOps.mD rfl rfl rfl rfl rfl (.nil ?_)
          refine ⟨j + 1, ⟨by omega, tw_next (by omega) hj.2 (fun ⟨q1, q2, q3⟩ => by first | contradiction | omega)⟩, (by dsimp only; omega), Sub.less ⟨(SLe.of_eq rfl), SLe.refl _, SLe.refl _, SLe.refl _, trivial⟩ (fun _ h => h)⟩
        replace h11 := of_decide_eq_false h11
        obtain rfl : j = i := by omega
        have HR := lk_0 hi HL0 (tw_no hj.2)
        refine AWP.exit ?_
        refine AWP.seq (AWP.region ?_)
        refine AOps.aD rfl rfl rfl rfl rfl (.nil ?_)
        refine AWP.ret ?_
        refine ⟨RetD.eq rfl ?_, trivial⟩
        all_goals (rw [HR])
      replace g5 := of_decide_eq_false g5
      refine AOps.pass ⟨43, rfl, .inl ⟨_, rfl, rfl⟩⟩ rfl rfl ?_
      refine AOps.pass ⟨43, rfl, .inl ⟨_, rfl, rfl⟩⟩ rfl rfl ?_
      refine AOps.pass ⟨43, rfl, .inl ⟨_, rfl, rfl⟩⟩ rfl rfl ?_
      refine AOps.step ⟨39, rfl, .inl ⟨_, rfl, rfl⟩⟩ rfl rfl (AOp.pickF rfl rfl rfl) ?_
      refine AOps.step rfl rfl rfl (AOp.pickF rfl rfl rfl) (.nil ?_)
      refine AWP.cond rfl (fun h => nomatch h) (fun _ => ?_)
      refine AWP.skip ?_
      refine AWP.seq ?_
      refine AWP.seq ?_
      have hP0 : parF c.things c.things[i] = 0 := by first | assumption | exact par_ok hpn hth (by unfold wantK; split <;> omega)
      refine AWP.region ?_
      refine AOps.step rfl rfl rfl (AOp.fieldAddr rfl fo_67_6 rfl) ?_
      refine AOps.step rfl rfl rfl (AOp.load rfl sc_26 rfl) ?_
      refine AOps.step rfl rfl rfl (AOp.lenSl rfl et_26.ht rfl) ?_
      refine AOps.mD rfl rfl rfl rfl rfl (.nil ?_)
      refine AWP.block ?_
      refine AWP.loop (G := Nat) (fun k => Env.of [(52, .d (.v (.int .i64 (k : Int)))), (50, .d (.sl (c.things[i].parts.map intD))), (51, .d (.v (.int .i64 ((c.things[i].parts.map intD).length : Int)))), (2, .d (.fp c.ds)), (5, .d (.fp c.things[i].ds)), (1, .d (.v (.int .i64 (i : Int))))]) (fun k => []) (fun k => k ≤ c.things[i].parts.length ∧ ffst (ptF c.things c.things[i]) k = 0) (fun k => c.things[i].parts.length - k) 0 ⟨Nat.zero_le _, rfl⟩ (Sub.less ⟨(SLe.of_eq rfl), SLe.refl _, SLe.refl _, SLe.refl _, SLe.refl _, SLe.refl _, trivial⟩ (fun _ h => h)) ?_
      intro k hk
      refine AWP.seq (AWP.region ?_)
      refine AOps.step rfl rfl rfl (AOp.lss rfl rfl rfl) (.nil ?_)
      refine AWP.seq ?_
      refine AWP.cond rfl (fun h15 => ?_) (fun h15 => ?_)
      · replace h15 := of_decide_eq_true h15
        rw [List.length_map] at h15
        have hlt : k < c.things[i].parts.length := by omega
        refine AWP.skip ?_
        refine AWP.seq ?_
        refine AWP.block ?_
        refine AWP.seq (AWP.region ?_)
        refine AOps.step rfl rfl rfl (AOp.indexAddr rfl et_26 rfl rfl k rfl (at_lst hlt) rfl) ?_
        refine AOps.step rfl rfl rfl (AOp.load rfl sc_3 rfl) ?_
        refine AOps.aD rfl rfl rfl rfl rfl (.nil ?_)
        refine AWP.seq (AWP.region ?_)
        refine AOps.step rfl rfl rfl (AOp.loadAgg rfl ag_25 rfl rfl) ?_
        refine AOps.mD rfl rfl rfl rfl rfl ?_
        refine AOps.step rfl rfl rfl (AOp.call rfl (.cons (ArgOk.rfl' rfl) (.cons (ArgOk.rfl' rfl) .nil)) (c_thing c _ hl)) ?_
        refine AOps.mD rfl rfl rfl rfl rfl ?_
        refine AOps.step rfl rfl rfl (AOp.extract rfl rfl rfl) ?_
        refine AOps.step rfl rfl rfl (AOp.extract rfl rfl rfl) ?_
        refine AOps.alloc 105 rfl rfl rfl rfl zt_67 rfl rfl rfl ?_
        refine AOps.store rfl rfl rfl sz_67 rfl (.head _) rfl rfl rfl (Nat.le_of_ble_eq_true rfl) ?_
        refine AOps.freezeCells 10 (ds := (getT c.things c.things[i].parts[k]).ds) rfl (.head _) ?_
        refine AOps.aD rfl rfl rfl rfl rfl (.nil ?_)
        refine AWP.seq ?_
        refine AWP.seq (AWP.region ?_)
        refine AOps.mD rfl rfl rfl rfl rfl ?_
        refine AOps.step rfl rfl rfl (AOp.not rfl rfl) (.nil ?_)
        refine AWP.cond rfl (fun h16 => ?_) (fun h16 => ?_)
        · replace h16 := bnot_t h16
          have HR : lkF c.things i = 9 := lk_p hi (link_q hP0 hlt hk.2 (pt_9 hlt h16) (by decide)) (by decide)
          refine AWP.seq (AWP.region ?_)
          refine AOps.aD rfl rfl rfl rfl rfl (.nil ?_)
          refine AWP.ret ?_
          refine ⟨RetD.eq rfl ?_, trivial⟩
          all_goals (rw [HR])
        replace h16 := bnot_f h16
        have hth2 := h16
        refine AWP.skip ?_
        refine AWP.seq (AWP.region ?_)
        refine AOps.step rfl rfl rfl (AOp.fieldAddr rfl fo_67_1 rfl) ?_
        refine AOps.step rfl rfl rfl (AOp.load rfl sc_3 rfl) ?_
        refine AOps.step rfl rfl rfl (AOp.neq rfl rfl rfl) (.nil ?_)
        refine AWP.cond rfl (fun h17 => ?_) (fun h17 => ?_)
        · replace h17 := of_decide_eq_true h17
          have HR : lkF c.things i = 6 := lk_p hi (link_q hP0 hlt hk.2 (pt_6 hlt hth2 h17) (by decide)) (by decide)
          refine AWP.seq (AWP.region ?_)
          refine AOps.aD rfl rfl rfl rfl rfl (.nil ?_)
          refine AWP.ret ?_
          refine ⟨RetD.eq rfl ?_, trivial⟩
          all_goals (rw [HR])
        replace h17 := of_decide_eq_false h17
        have hPK := pt_ok hlt hth2 (by omega)
        refine AWP.skip ?_
        refine AWP.region ?_
        refine AOps.step rfl rfl rfl (AOp.add64 rfl rfl rfl (by omega) (by omega)) ?_
        refine AOps.mD rfl rfl rfl rfl rfl (.nil ?_)
        refine ⟨k + 1, ⟨by omega, ffst_next hk.2 hPK⟩, (by dsimp only; omega), Sub.less ⟨(SLe.of_eq rfl), SLe.refl _, SLe.refl _, SLe.refl _, SLe.refl _, SLe.refl _, trivial⟩ (fun _ h => h)⟩
      replace h15 := of_decide_eq_false h15
      rw [List.length_map] at h15
      have hkl : k = c.things[i].parts.length := by omega
      have HL := link_l hP0 (by rw [← hkl]; exact hk.2)
      refine AWP.exit ?_
      refine AWP.seq ?_
      refine AWP.seq (AWP.region ?_)
      refine AOps.step rfl rfl rfl (AOp.loadAgg rfl ag_25 rfl rfl) ?_
      refine AOps.step rfl rfl rfl (AOp.loadAgg rfl ag_67 rfl rfl) ?_
      refine AOps.step rfl rfl rfl (AOp.call rfl (.cons (ArgOk.rfl' rfl) (.cons (ArgOk.rfl' rfl) .nil)) (c_back c _ hl hr (List.getElem_mem hi))) (.nil ?_)
      refine AWP.cond rfl (fun h18 => ?_) (fun h18 => ?_)
      · skip
        have HR : lkF c.things i = 14 := lk_p hi (HL.trans (if_pos h18)) (by decide)
        refine AWP.seq (AWP.region ?_)
        refine AOps.aD rfl rfl rfl rfl rfl (.nil ?_)
        refine AWP.ret ?_
        refine ⟨RetD.eq rfl ?_, trivial⟩
        all_goals (rw [HR])
      have HL0 : linkF c.things c.things[i] = 0 := HL.trans (if_neg (by rw [h18]; decide))
      refine AWP.skip ?_
      refine AWP.seq ?_
      refine AWP.seq (AWP.region ?_)
      refine AOps.step rfl rfl rfl (AOp.fieldAddr rfl fo_25_0 rfl) ?_
      refine AOps.step rfl rfl rfl (AOp.load rfl sc_22 rfl) ?_
      refine AOps.mD rfl rfl rfl rfl rfl ?_
      refine AOps.step rfl rfl rfl (AOp.sliceH rfl et_22 rfl rfl (by omega) (by rw [List.length_map]; omega) (fun y hy => by obtain ⟨z, _, rfl⟩ := List.mem_map.1 hy; rfl)) ?_
      refine AOps.step rfl rfl rfl (AOp.lenSl rfl et_22.ht rfl) ?_
      refine AOps.mD rfl rfl rfl rfl rfl (.nil ?_)
      refine AWP.block ?_
      refine AWP.loop (G := Nat) (fun j => Env.of [(76, .d (.v (.int .i64 (j : Int)))), (74, .d (.sl ((c.things.map Thg.ds).take i))), (75, .d (.v (.int .i64 (i : Int)))), (5, .d (.fp c.things[i].ds))]) (fun j => []) (fun j => j ≤ i ∧ ∀ x ∈ c.things.take j, ¬ twP c.things[i] x) (fun j => i - j) 0 ⟨Nat.zero_le _, fun x hx => by simp at hx⟩ (Sub.less ⟨(SLe.of_eq rfl), (SLe.of_eq rfl), (SLe.i64 (by rw [List.length_take, List.length_map]; omega)), SLe.refl _, trivial⟩ (fun _ h => h)) ?_
      intro j hj
      refine AWP.seq (AWP.region ?_)
      refine AOps.step rfl rfl rfl (AOp.lss rfl rfl rfl) (.nil ?_)
      refine AWP.seq ?_
      refine AWP.cond rfl (fun h19 => ?_) (fun h19 => ?_)
      · replace h19 := of_decide_eq_true h19
        have hlt3 : j < i := by omega
        refine AWP.skip ?_
        refine AWP.seq ?_
        refine AWP.block ?_
        refine AWP.seq (AWP.region ?_)
        refine AOps.step rfl rfl rfl (AOp.indexAddr rfl et_22 rfl rfl j rfl (at_take (by omega) hlt3) rfl) ?_
        refine AOps.step rfl rfl rfl (AOp.loadAgg rfl ag_67 rfl rfl) ?_
        refine AOps.alloc 106 rfl rfl rfl rfl zt_67 rfl rfl rfl ?_
        refine AOps.store rfl rfl rfl sz_67 rfl (.head _) rfl rfl rfl (Nat.le_of_ble_eq_true rfl) ?_
        refine AOps.freezeCells 13 (ds := (c.things[j]'(by omega)).ds) rfl (.head _) (.nil ?_)
        refine AWP.seq (AWP.region ?_)
        refine AOps.step rfl rfl rfl (AOp.fieldAddr rfl fo_67_1 rfl) ?_
        refine AOps.step rfl rfl rfl (AOp.load rfl sc_3 rfl) ?_
        refine AOps.step rfl rfl rfl (AOp.fieldAddr rfl fo_67_1 rfl) ?_
        refine AOps.step rfl rfl rfl (AOp.load rfl sc_3 rfl) ?_
        refine AOps.step rfl rfl rfl (AOp.eql rfl rfl rfl) ?_
        refine AOps.mD rfl rfl rfl rfl rfl ?_
        refine AOps.split 85 rfl (fun g20 => ?_) (fun g20 => ?_)
        · replace g20 := of_decide_eq_true g20
          have hke := g20
          refine AOps.step ⟨85, rfl, .inl ⟨_, rfl, rfl⟩⟩ rfl rfl (AOp.fieldAddr rfl fo_67_3 rfl) ?_
          refine AOps.step ⟨85, rfl, .inl ⟨_, rfl, rfl⟩⟩ rfl rfl (AOp.load rfl sc_9 rfl) ?_
          refine AOps.step ⟨85, rfl, .inl ⟨_, rfl, rfl⟩⟩ rfl rfl (AOp.sneq rfl rfl rfl) ?_
          refine AOps.step rfl rfl rfl (AOp.pickT rfl rfl rfl) ?_
          refine AOps.mD rfl rfl rfl rfl rfl ?_
          refine AOps.split 90 rfl (fun g21 => ?_) (fun g21 => ?_)
          · replace g21 := of_decide_eq_true g21
            have hcn := g21
            refine AOps.step ⟨90, rfl, .inl ⟨_, rfl, rfl⟩⟩ rfl rfl (AOp.fieldAddr rfl fo_67_3 rfl) ?_
            refine AOps.step ⟨90, rfl, .inl ⟨_, rfl, rfl⟩⟩ rfl rfl (AOp.load rfl sc_9 rfl) ?_
            refine AOps.step ⟨90, rfl, .inl ⟨_, rfl, rfl⟩⟩ rfl rfl (AOp.fieldAddr rfl fo_67_3 rfl) ?_
            refine AOps.step ⟨90, rfl, .inl ⟨_, rfl, rfl⟩⟩ rfl rfl (AOp.load rfl sc_9 rfl) ?_
            refine AOps.step ⟨90, rfl, .inl ⟨_, rfl, rfl⟩⟩ rfl rfl (AOp.seql rfl rfl rfl) ?_
            refine AOps.step rfl rfl rfl (AOp.pickT rfl rfl rfl) (.nil ?_)
            refine AWP.cond rfl (fun h22 => ?_) (fun h22 => ?_)
            · replace h22 := of_decide_eq_true h22
              have hce := h22
              refine AWP.seq ?_
              have HR := lk_7 hi HL0 hcn (tw_yes hlt3 (by omega) ⟨hke, hcn, hce⟩)
              refine AWP.region ?_
              refine AOps.aD rfl rfl rfl rfl rfl (.nil ?_)
              refine AWP.ret ?_
              refine ⟨RetD.eq rfl ?_, trivial⟩
              all_goals (rw [HR])
            replace h22 := of_decide_eq_false h22
            refine AWP.skip ?_
            refine AWP.region ?_
            refine AOps.step rfl rfl rfl (AOp.add64 rfl rfl rfl (by omega) (by omega)) ?_
            refine AOps.mD rfl rfl rfl rfl rfl (.nil ?_)
            refine ⟨j + 1, ⟨by omega, tw_next (by omega) hj.2 (fun ⟨q1, q2, q3⟩ => by first | contradiction | omega)⟩, (by dsimp only; omega), Sub.less ⟨(SLe.of_eq rfl), SLe.refl _, SLe.refl _, SLe.refl _, trivial⟩ (fun _ h => h)⟩
          replace g21 := of_decide_eq_false g21
          refine AOps.pass ⟨90, rfl, .inl ⟨_, rfl, rfl⟩⟩ rfl rfl ?_
          refine AOps.pass ⟨90, rfl, .inl ⟨_, rfl, rfl⟩⟩ rfl rfl ?_
          refine AOps.pass ⟨90, rfl, .inl ⟨_, rfl, rfl⟩⟩ rfl rfl ?_
          refine AOps.pass ⟨90, rfl, .inl ⟨_, rfl, rfl⟩⟩ rfl rfl ?_
          refine AOps.pass ⟨90, rfl, .inl ⟨_, rfl, rfl⟩⟩ rfl rfl ?_
          refine AOps.step rfl rfl rfl (AOp.pickF rfl rfl rfl) (.nil ?_)
          refine AWP.cond rfl (fun h => nomatch h) (fun _ => ?_)
          refine AWP.skip ?_
          refine AWP.region ?_
          refine AOps.step rfl rfl rfl (AOp.add64 rfl rfl rfl (by omega) (by omega)) ?_
          refine AOps.mD rfl rfl rfl rfl rfl (.nil ?_)
          refine ⟨j + 1, ⟨by omega, tw_next (by omega) hj.2 (fun ⟨q1, q2, q3⟩ => by first | contradiction | omega)⟩, (by dsimp only; omega), Sub.less ⟨(SLe.of_eq rfl), SLe.refl _, SLe.refl _, SLe.refl _, trivial⟩ (fun _ h => h)⟩
        replace g20 := of_decide_eq_false g20
        refine AOps.pass ⟨85, rfl, .inl ⟨_, rfl, rfl⟩⟩ rfl rfl ?_
        refine AOps.pass ⟨85, rfl, .inl ⟨_, rfl, rfl⟩⟩ rfl rfl ?_
        refine AOps.pass ⟨85, rfl, .inl ⟨_, rfl, rfl⟩⟩ rfl rfl ?_
        refine AOps.step rfl rfl rfl (AOp.pickF rfl rfl rfl) ?_
        refine AOps.mD rfl rfl rfl rfl rfl ?_
        refine AOps.pass ⟨90, rfl, .inl ⟨_, rfl, rfl⟩⟩ rfl rfl ?_
        refine AOps.pass ⟨90, rfl, .inl ⟨_, rfl, rfl⟩⟩ rfl rfl ?_
        refine AOps.pass ⟨90, rfl, .inl ⟨_, rfl, rfl⟩⟩ rfl rfl ?_
        refine AOps.pass ⟨90, rfl, .inl ⟨_, rfl, rfl⟩⟩ rfl rfl ?_
        refine AOps.pass ⟨90, rfl, .inl ⟨_, rfl, rfl⟩⟩ rfl rfl ?_
        refine AOps.step rfl rfl rfl (AOp.pickF rfl rfl rfl) (.nil ?_)
        refine AWP.cond rfl (fun h => nomatch h) (fun _ => ?_)
        refine AWP.skip ?_
        refine AWP.region ?_
        refine AOps.step rfl rfl rfl (AOp.add64 rfl rfl rfl (by omega) (by omega)) ?_
        refine AOps.mD rfl rfl rfl rfl rfl (.nil ?_)
        refine ⟨j + 1, ⟨by omega, tw_next (by omega) hj.2 (fun ⟨q1, q2, q3⟩ => by first | contradiction | omega)⟩, (by dsimp only; omega), Sub.less ⟨(SLe.of_eq rfl), SLe.refl _, SLe.refl _, SLe.refl _, trivial⟩ (fun _ h => h)⟩
      replace h19 := of_decide_eq_false h19
      obtain rfl : j = i := by omega
      have HR := lk_0 hi HL0 (tw_no hj.2)
      refine AWP.exit ?_
      refine AWP.seq (AWP.region ?_)
      refine AOps.aD rfl rfl rfl rfl rfl (.nil ?_)
      refine AWP.ret ?_
      refine ⟨RetD.eq rfl ?_, trivial⟩
      all_goals (rw [HR])
    replace g3 := of_decide_eq_false g3
    refine AOps.pass ⟨34, rfl, .inl ⟨_, rfl, rfl⟩⟩ rfl rfl ?_
    refine AOps.pass ⟨34, rfl, .inl ⟨_, rfl, rfl⟩⟩ rfl rfl ?_
    refine AOps.pass ⟨34, rfl, .inl ⟨_, rfl, rfl⟩⟩ rfl rfl ?_
    refine AOps.step rfl rfl rfl (AOp.pickF rfl rfl rfl) ?_
    refine AOps.mD rfl rfl rfl rfl rfl ?_
    refine AOps.step ⟨39, rfl, .inl ⟨_, rfl, rfl⟩⟩ rfl rfl (AOp.fieldAddr rfl fo_67_1 rfl) ?_
    refine AOps.step ⟨39, rfl, .inl ⟨_, rfl, rfl⟩⟩ rfl rfl (AOp.load rfl sc_3 rfl) ?_
    refine AOps.step ⟨39, rfl, .inl ⟨_, rfl, rfl⟩⟩ rfl rfl (AOp.neq rfl rfl rfl) ?_
    refine AOps.step ⟨39, rfl, .inl ⟨_, rfl, rfl⟩⟩ rfl rfl (AOp.moveD rfl rfl) ?_
    refine AOps.split 43 rfl (fun g23 => ?_) (fun g23 => ?_)
    · replace g23 := of_decide_eq_true g23
      refine AOps.step ⟨43, rfl, .inl ⟨_, rfl, rfl⟩⟩ rfl rfl (AOp.fieldAddr rfl fo_67_1 rfl) ?_
      refine AOps.step ⟨43, rfl, .inl ⟨_, rfl, rfl⟩⟩ rfl rfl (AOp.load rfl sc_3 rfl) ?_
      refine AOps.step ⟨43, rfl, .inl ⟨_, rfl, rfl⟩⟩ rfl rfl (AOp.neq rfl rfl rfl) ?_
      refine AOps.step ⟨39, rfl, .inl ⟨_, rfl, rfl⟩⟩ rfl rfl (AOp.pickT rfl rfl rfl) ?_
      refine AOps.step rfl rfl rfl (AOp.pickF rfl rfl rfl) (.nil ?_)
      refine AWP.cond rfl (fun h24 => ?_) (fun h24 => ?_)
      · replace h24 := of_decide_eq_true h24
        refine AWP.seq ?_
        have HR : lkF c.things i = 6 := lk_p hi (link_p (par_6 hpn hth (by unfold wantK; split <;> omega)) (by decide)) (by decide)
        refine AWP.region ?_
        refine AOps.aD rfl rfl rfl rfl rfl (.nil ?_)
        refine AWP.ret ?_
        refine ⟨RetD.eq rfl ?_, trivial⟩
        all_goals (rw [HR])
      replace h24 := of_decide_eq_false h24
      refine AWP.skip ?_
      refine AWP.seq ?_
      refine AWP.seq ?_
      have hP0 : parF c.things c.things[i] = 0 := by first | assumption | exact par_ok hpn hth (by unfold wantK; split <;> omega)
      refine AWP.region ?_
      refine AOps.step rfl rfl rfl (AOp.fieldAddr rfl fo_67_6 rfl) ?_
      refine AOps.step rfl rfl rfl (AOp.load rfl sc_26 rfl) ?_
      refine AOps.step rfl rfl rfl (AOp.lenSl rfl et_26.ht rfl) ?_
      refine AOps.mD rfl rfl rfl rfl rfl (.nil ?_)
      refine AWP.block ?_
      refine AWP.loop (G := Nat) (fun k => Env.of [(52, .d (.v (.int .i64 (k : Int)))), (50, .d (.sl (c.things[i].parts.map intD))), (51, .d (.v (.int .i64 ((c.things[i].parts.map intD).length : Int)))), (2, .d (.fp c.ds)), (5, .d (.fp c.things[i].ds)), (1, .d (.v (.int .i64 (i : Int))))]) (fun k => []) (fun k => k ≤ c.things[i].parts.length ∧ ffst (ptF c.things c.things[i]) k = 0) (fun k => c.things[i].parts.length - k) 0 ⟨Nat.zero_le _, rfl⟩ (Sub.less ⟨(SLe.of_eq rfl), SLe.refl _, SLe.refl _, SLe.refl _, SLe.refl _, SLe.refl _, trivial⟩ (fun _ h => h)) ?_
      intro k hk
      refine AWP.seq (AWP.region ?_)
      refine AOps.step rfl rfl rfl (AOp.lss rfl rfl rfl) (.nil ?_)
      refine AWP.seq ?_
      refine AWP.cond rfl (fun h25 => ?_) (fun h25 => ?_)
      · replace h25 := of_decide_eq_true h25
        rw [List.length_map] at h25
        have hlt : k < c.things[i].parts.length := by omega
        refine AWP.skip ?_
        refine AWP.seq ?_
        refine AWP.block ?_
        refine AWP.seq (AWP.region ?_)
        refine AOps.step rfl rfl rfl (AOp.indexAddr rfl et_26 rfl rfl k rfl (at_lst hlt) rfl) ?_
        refine AOps.step rfl rfl rfl (AOp.load rfl sc_3 rfl) ?_
        refine AOps.aD rfl rfl rfl rfl rfl (.nil ?_)
        refine AWP.seq (AWP.region ?_)
        refine AOps.step rfl rfl rfl (AOp.loadAgg rfl ag_25 rfl rfl) ?_
        refine AOps.mD rfl rfl rfl rfl rfl ?_
        refine AOps.step rfl rfl rfl (AOp.call rfl (.cons (ArgOk.rfl' rfl) (.cons (ArgOk.rfl' rfl) .nil)) (c_thing c _ hl)) ?_
        refine AOps.mD rfl rfl rfl rfl rfl ?_
        refine AOps.step rfl rfl rfl (AOp.extract rfl rfl rfl) ?_
        refine AOps.step rfl rfl rfl (AOp.extract rfl rfl rfl) ?_
        refine AOps.alloc 107 rfl rfl rfl rfl zt_67 rfl rfl rfl ?_
        refine AOps.store rfl rfl rfl sz_67 rfl (.head _) rfl rfl rfl (Nat.le_of_ble_eq_true rfl) ?_
        refine AOps.freezeCells 10 (ds := (getT c.things c.things[i].parts[k]).ds) rfl (.head _) ?_
        refine AOps.aD rfl rfl rfl rfl rfl (.nil ?_)
        refine AWP.seq ?_
        refine AWP.seq (AWP.region ?_)
        refine AOps.mD rfl rfl rfl rfl rfl ?_
        refine AOps.step rfl rfl rfl (AOp.not rfl rfl) (.nil ?_)
        refine AWP.cond rfl (fun h26 => ?_) (fun h26 => ?_)
        · replace h26 := bnot_t h26
          have HR : lkF c.things i = 9 := lk_p hi (link_q hP0 hlt hk.2 (pt_9 hlt h26) (by decide)) (by decide)
          refine AWP.seq (AWP.region ?_)
          refine AOps.aD rfl rfl rfl rfl rfl (.nil ?_)
          refine AWP.ret ?_
          refine ⟨RetD.eq rfl ?_, trivial⟩
          all_goals (rw [HR])
        replace h26 := bnot_f h26
        have hth2 := h26
        refine AWP.skip ?_
        refine AWP.seq (AWP.region ?_)
        refine AOps.step rfl rfl rfl (AOp.fieldAddr rfl fo_67_1 rfl) ?_
        refine AOps.step rfl rfl rfl (AOp.load rfl sc_3 rfl) ?_
        refine AOps.step rfl rfl rfl (AOp.neq rfl rfl rfl) (.nil ?_)
        refine AWP.cond rfl (fun h27 => ?_) (fun h27 => ?_)
        · replace h27 := of_decide_eq_true h27
          have HR : lkF c.things i = 6 := lk_p hi (link_q hP0 hlt hk.2 (pt_6 hlt hth2 h27) (by decide)) (by decide)
          refine AWP.seq (AWP.region ?_)
          refine AOps.aD rfl rfl rfl rfl rfl (.nil ?_)
          refine AWP.ret ?_
          refine ⟨RetD.eq rfl ?_, trivial⟩
          all_goals (rw [HR])
        replace h27 := of_decide_eq_false h27
        have hPK := pt_ok hlt hth2 (by omega)
        refine AWP.skip ?_
        refine AWP.region ?_
        refine AOps.step rfl rfl rfl (AOp.add64 rfl rfl rfl (by omega) (by omega)) ?_
        refine AOps.mD rfl rfl rfl rfl rfl (.nil ?_)
        refine ⟨k + 1, ⟨by omega, ffst_next hk.2 hPK⟩, (by dsimp only; omega), Sub.less ⟨(SLe.of_eq rfl), SLe.refl _, SLe.refl _, SLe.refl _, SLe.refl _, SLe.refl _, trivial⟩ (fun _ h => h)⟩
      replace h25 := of_decide_eq_false h25
      rw [List.length_map] at h25
      have hkl : k = c.things[i].parts.length := by omega
      have HL := link_l hP0 (by rw [← hkl]; exact hk.2)
      refine AWP.exit ?_
      refine AWP.seq ?_
      refine AWP.seq (AWP.region ?_)
      refine AOps.step rfl rfl rfl (AOp.loadAgg rfl ag_25 rfl rfl) ?_
      refine AOps.step rfl rfl rfl (AOp.loadAgg rfl ag_67 rfl rfl) ?_
      refine AOps.step rfl rfl rfl (AOp.call rfl (.cons (ArgOk.rfl' rfl) (.cons (ArgOk.rfl' rfl) .nil)) (c_back c _ hl hr (List.getElem_mem hi))) (.nil ?_)
      refine AWP.cond rfl (fun h28 => ?_) (fun h28 => ?_)
      · skip
        have HR : lkF c.things i = 14 := lk_p hi (HL.trans (if_pos h28)) (by decide)
        refine AWP.seq (AWP.region ?_)
        refine AOps.aD rfl rfl rfl rfl rfl (.nil ?_)
        refine AWP.ret ?_
        refine ⟨RetD.eq rfl ?_, trivial⟩
        all_goals (rw [HR])
      have HL0 : linkF c.things c.things[i] = 0 := HL.trans (if_neg (by rw [h28]; decide))
      refine AWP.skip ?_
      refine AWP.seq ?_
      refine AWP.seq (AWP.region ?_)
      refine AOps.step rfl rfl rfl (AOp.fieldAddr rfl fo_25_0 rfl) ?_
      refine AOps.step rfl rfl rfl (AOp.load rfl sc_22 rfl) ?_
      refine AOps.mD rfl rfl rfl rfl rfl ?_
      refine AOps.step rfl rfl rfl (AOp.sliceH rfl et_22 rfl rfl (by omega) (by rw [List.length_map]; omega) (fun y hy => by obtain ⟨z, _, rfl⟩ := List.mem_map.1 hy; rfl)) ?_
      refine AOps.step rfl rfl rfl (AOp.lenSl rfl et_22.ht rfl) ?_
      refine AOps.mD rfl rfl rfl rfl rfl (.nil ?_)
      refine AWP.block ?_
      refine AWP.loop (G := Nat) (fun j => Env.of [(76, .d (.v (.int .i64 (j : Int)))), (74, .d (.sl ((c.things.map Thg.ds).take i))), (75, .d (.v (.int .i64 (i : Int)))), (5, .d (.fp c.things[i].ds))]) (fun j => []) (fun j => j ≤ i ∧ ∀ x ∈ c.things.take j, ¬ twP c.things[i] x) (fun j => i - j) 0 ⟨Nat.zero_le _, fun x hx => by simp at hx⟩ (Sub.less ⟨(SLe.of_eq rfl), (SLe.of_eq rfl), (SLe.i64 (by rw [List.length_take, List.length_map]; omega)), SLe.refl _, trivial⟩ (fun _ h => h)) ?_
      intro j hj
      refine AWP.seq (AWP.region ?_)
      refine AOps.step rfl rfl rfl (AOp.lss rfl rfl rfl) (.nil ?_)
      refine AWP.seq ?_
      refine AWP.cond rfl (fun h29 => ?_) (fun h29 => ?_)
      · replace h29 := of_decide_eq_true h29
        have hlt3 : j < i := by omega
        refine AWP.skip ?_
        refine AWP.seq ?_
        refine AWP.block ?_
        refine AWP.seq (AWP.region ?_)
        refine AOps.step rfl rfl rfl (AOp.indexAddr rfl et_22 rfl rfl j rfl (at_take (by omega) hlt3) rfl) ?_
        refine AOps.step rfl rfl rfl (AOp.loadAgg rfl ag_67 rfl rfl) ?_
        refine AOps.alloc 108 rfl rfl rfl rfl zt_67 rfl rfl rfl ?_
        refine AOps.store rfl rfl rfl sz_67 rfl (.head _) rfl rfl rfl (Nat.le_of_ble_eq_true rfl) ?_
        refine AOps.freezeCells 13 (ds := (c.things[j]'(by omega)).ds) rfl (.head _) (.nil ?_)
        refine AWP.seq (AWP.region ?_)
        refine AOps.step rfl rfl rfl (AOp.fieldAddr rfl fo_67_1 rfl) ?_
        refine AOps.step rfl rfl rfl (AOp.load rfl sc_3 rfl) ?_
        refine AOps.step rfl rfl rfl (AOp.fieldAddr rfl fo_67_1 rfl) ?_
        refine AOps.step rfl rfl rfl (AOp.load rfl sc_3 rfl) ?_
        refine AOps.step rfl rfl rfl (AOp.eql rfl rfl rfl) ?_
        refine AOps.mD rfl rfl rfl rfl rfl ?_
        refine AOps.split 85 rfl (fun g30 => ?_) (fun g30 => ?_)
        · replace g30 := of_decide_eq_true g30
          have hke := g30
          refine AOps.step ⟨85, rfl, .inl ⟨_, rfl, rfl⟩⟩ rfl rfl (AOp.fieldAddr rfl fo_67_3 rfl) ?_
          refine AOps.step ⟨85, rfl, .inl ⟨_, rfl, rfl⟩⟩ rfl rfl (AOp.load rfl sc_9 rfl) ?_
          refine AOps.step ⟨85, rfl, .inl ⟨_, rfl, rfl⟩⟩ rfl rfl (AOp.sneq rfl rfl rfl) ?_
          refine AOps.step rfl rfl rfl (AOp.pickT rfl rfl rfl) ?_
          refine AOps.mD rfl rfl rfl rfl rfl ?_
          refine AOps.split 90 rfl (fun g31 => ?_) (fun g31 => ?_)
          · replace g31 := of_decide_eq_true g31
            have hcn := g31
            refine AOps.step ⟨90, rfl, .inl ⟨_, rfl, rfl⟩⟩ rfl rfl (AOp.fieldAddr rfl fo_67_3 rfl) ?_
            refine AOps.step ⟨90, rfl, .inl ⟨_, rfl, rfl⟩⟩ rfl rfl (AOp.load rfl sc_9 rfl) ?_
            refine AOps.step ⟨90, rfl, .inl ⟨_, rfl, rfl⟩⟩ rfl rfl (AOp.fieldAddr rfl fo_67_3 rfl) ?_
            refine AOps.step ⟨90, rfl, .inl ⟨_, rfl, rfl⟩⟩ rfl rfl (AOp.load rfl sc_9 rfl) ?_
            refine AOps.step ⟨90, rfl, .inl ⟨_, rfl, rfl⟩⟩ rfl rfl (AOp.seql rfl rfl rfl) ?_
            refine AOps.step rfl rfl rfl (AOp.pickT rfl rfl rfl) (.nil ?_)
            refine AWP.cond rfl (fun h32 => ?_) (fun h32 => ?_)
            · replace h32 := of_decide_eq_true h32
              have hce := h32
              refine AWP.seq ?_
              have HR := lk_7 hi HL0 hcn (tw_yes hlt3 (by omega) ⟨hke, hcn, hce⟩)
              refine AWP.region ?_
              refine AOps.aD rfl rfl rfl rfl rfl (.nil ?_)
              refine AWP.ret ?_
              refine ⟨RetD.eq rfl ?_, trivial⟩
              all_goals (rw [HR])
            replace h32 := of_decide_eq_false h32
            refine AWP.skip ?_
            refine AWP.region ?_
            refine AOps.step rfl rfl rfl (AOp.add64 rfl rfl rfl (by omega) (by omega)) ?_
            refine AOps.mD rfl rfl rfl rfl rfl (.nil ?_)
            refine ⟨j + 1, ⟨by omega, tw_next (by omega) hj.2 (fun ⟨q1, q2, q3⟩ => by first | contradiction | omega)⟩, (by dsimp only; omega), Sub.less ⟨(SLe.of_eq rfl), SLe.refl _, SLe.refl _, SLe.refl _, trivial⟩ (fun _ h => h)⟩
          replace g31 := of_decide_eq_false g31
          refine AOps.pass ⟨90, rfl, .inl ⟨_, rfl, rfl⟩⟩ rfl rfl ?_
          refine AOps.pass ⟨90, rfl, .inl ⟨_, rfl, rfl⟩⟩ rfl rfl ?_
          refine AOps.pass ⟨90, rfl, .inl ⟨_, rfl, rfl⟩⟩ rfl rfl ?_
          refine AOps.pass ⟨90, rfl, .inl ⟨_, rfl, rfl⟩⟩ rfl rfl ?_
          refine AOps.pass ⟨90, rfl, .inl ⟨_, rfl, rfl⟩⟩ rfl rfl ?_
          refine AOps.step rfl rfl rfl (AOp.pickF rfl rfl rfl) (.nil ?_)
          refine AWP.cond rfl (fun h => nomatch h) (fun _ => ?_)
          refine AWP.skip ?_
          refine AWP.region ?_
          refine AOps.step rfl rfl rfl (AOp.add64 rfl rfl rfl (by omega) (by omega)) ?_
          refine AOps.mD rfl rfl rfl rfl rfl (.nil ?_)
          refine ⟨j + 1, ⟨by omega, tw_next (by omega) hj.2 (fun ⟨q1, q2, q3⟩ => by first | contradiction | omega)⟩, (by dsimp only; omega), Sub.less ⟨(SLe.of_eq rfl), SLe.refl _, SLe.refl _, SLe.refl _, trivial⟩ (fun _ h => h)⟩
        replace g30 := of_decide_eq_false g30
        refine AOps.pass ⟨85, rfl, .inl ⟨_, rfl, rfl⟩⟩ rfl rfl ?_
        refine AOps.pass ⟨85, rfl, .inl ⟨_, rfl, rfl⟩⟩ rfl rfl ?_
        refine AOps.pass ⟨85, rfl, .inl ⟨_, rfl, rfl⟩⟩ rfl rfl ?_
        refine AOps.step rfl rfl rfl (AOp.pickF rfl rfl rfl) ?_
        refine AOps.mD rfl rfl rfl rfl rfl ?_
        refine AOps.pass ⟨90, rfl, .inl ⟨_, rfl, rfl⟩⟩ rfl rfl ?_
        refine AOps.pass ⟨90, rfl, .inl ⟨_, rfl, rfl⟩⟩ rfl rfl ?_
        refine AOps.pass ⟨90, rfl, .inl ⟨_, rfl, rfl⟩⟩ rfl rfl ?_
        refine AOps.pass ⟨90, rfl, .inl ⟨_, rfl, rfl⟩⟩ rfl rfl ?_
        refine AOps.pass ⟨90, rfl, .inl ⟨_, rfl, rfl⟩⟩ rfl rfl ?_
        refine AOps.step rfl rfl rfl (AOp.pickF rfl rfl rfl) (.nil ?_)
        refine AWP.cond rfl (fun h => nomatch h) (fun _ => ?_)
        refine AWP.skip ?_
        refine AWP.region ?_
        refine AOps.step rfl rfl rfl (AOp.add64 rfl rfl rfl (by omega) (by omega)) ?_
        refine AOps.mD rfl rfl rfl rfl rfl (.nil ?_)
        refine ⟨j + 1, ⟨by omega, tw_next (by omega) hj.2 (fun ⟨q1, q2, q3⟩ => by first | contradiction | omega)⟩, (by dsimp only; omega), Sub.less ⟨(SLe.of_eq rfl), SLe.refl _, SLe.refl _, SLe.refl _, trivial⟩ (fun _ h => h)⟩
      replace h29 := of_decide_eq_false h29
      obtain rfl : j = i := by omega
      have HR := lk_0 hi HL0 (tw_no hj.2)
      refine AWP.exit ?_
      refine AWP.seq (AWP.region ?_)
      refine AOps.aD rfl rfl rfl rfl rfl (.nil ?_)
      refine AWP.ret ?_
      refine ⟨RetD.eq rfl ?_, trivial⟩
      all_goals (rw [HR])
    replace g23 := of_decide_eq_false g23
    refine AOps.pass ⟨43, rfl, .inl ⟨_, rfl, rfl⟩⟩ rfl rfl ?_
    refine AOps.pass ⟨43, rfl, .inl ⟨_, rfl, rfl⟩⟩ rfl rfl ?_
    refine AOps.pass ⟨43, rfl, .inl ⟨_, rfl, rfl⟩⟩ rfl rfl ?_
    refine AOps.step ⟨39, rfl, .inl ⟨_, rfl, rfl⟩⟩ rfl rfl (AOp.pickF rfl rfl rfl) ?_
    refine AOps.step rfl rfl rfl (AOp.pickF rfl rfl rfl) (.nil ?_)
    refine AWP.cond rfl (fun h => nomatch h) (fun _ => ?_)
    refine AWP.skip ?_
    refine AWP.seq ?_
    refine AWP.seq ?_
    have hP0 : parF c.things c.things[i] = 0 := by first | assumption | exact par_ok hpn hth (by unfold wantK; split <;> omega)
    refine AWP.region ?_
    refine AOps.step rfl rfl rfl (AOp.fieldAddr rfl fo_67_6 rfl) ?_
    refine AOps.step rfl rfl rfl (AOp.load rfl sc_26 rfl) ?_
    refine AOps.step rfl rfl rfl (AOp.lenSl rfl et_26.ht rfl) ?_
    refine AOps.mD rfl rfl rfl rfl rfl (.nil ?_)
    refine AWP.block ?_
    refine AWP.loop (G := Nat) (fun k => Env.of [(52, .d (.v (.int .i64 (k : Int)))), (50, .d (.sl (c.things[i].parts.map intD))), (51, .d (.v (.int .i64 ((c.things[i].parts.map intD).length : Int)))), (2, .d (.fp c.ds)), (5, .d (.fp c.things[i].ds)), (1, .d (.v (.int .i64 (i : Int))))]) (fun k => []) (fun k => k ≤ c.things[i].parts.length ∧ ffst (ptF c.things c.things[i]) k = 0) (fun k => c.things[i].parts.length - k) 0 ⟨Nat.zero_le _, rfl⟩ (Sub.less ⟨(SLe.of_eq rfl), SLe.refl _, SLe.refl _, SLe.refl _, SLe.refl _, SLe.refl _, trivial⟩ (fun _ h => h)) ?_
    intro k hk
    refine AWP.seq (AWP.region ?_)
    refine AOps.step rfl rfl rfl (AOp.lss rfl rfl rfl) (.nil ?_)
    refine AWP.seq ?_
    refine AWP.cond rfl (fun h33 => ?_) (fun h33 => ?_)
    · replace h33 := of_decide_eq_true h33
      rw [List.length_map] at h33
      have hlt : k < c.things[i].parts.length := by omega
      refine AWP.skip ?_
      refine AWP.seq ?_
      refine AWP.block ?_
      refine AWP.seq (AWP.region ?_)
      refine AOps.step rfl rfl rfl (AOp.indexAddr rfl et_26 rfl rfl k rfl (at_lst hlt) rfl) ?_
      refine AOps.step rfl rfl rfl (AOp.load rfl sc_3 rfl) ?_
      refine AOps.aD rfl rfl rfl rfl rfl (.nil ?_)
      refine AWP.seq (AWP.region ?_)
      refine AOps.step rfl rfl rfl (AOp.loadAgg rfl ag_25 rfl rfl) ?_
      refine AOps.mD rfl rfl rfl rfl rfl ?_
      refine AOps.step rfl rfl rfl (AOp.call rfl (.cons (ArgOk.rfl' rfl) (.cons (ArgOk.rfl' rfl) .nil)) (c_thing c _ hl)) ?_
      refine AOps.mD rfl rfl rfl rfl rfl ?_
      refine AOps.step rfl rfl rfl (AOp.extract rfl rfl rfl) ?_
      refine AOps.step rfl rfl rfl (AOp.extract rfl rfl rfl) ?_
      refine AOps.alloc 109 rfl rfl rfl rfl zt_67 rfl rfl rfl ?_
      refine AOps.store rfl rfl rfl sz_67 rfl (.head _) rfl rfl rfl (Nat.le_of_ble_eq_true rfl) ?_
      refine AOps.freezeCells 10 (ds := (getT c.things c.things[i].parts[k]).ds) rfl (.head _) ?_
      refine AOps.aD rfl rfl rfl rfl rfl (.nil ?_)
      refine AWP.seq ?_
      refine AWP.seq (AWP.region ?_)
      refine AOps.mD rfl rfl rfl rfl rfl ?_
      refine AOps.step rfl rfl rfl (AOp.not rfl rfl) (.nil ?_)
      refine AWP.cond rfl (fun h34 => ?_) (fun h34 => ?_)
      · replace h34 := bnot_t h34
        have HR : lkF c.things i = 9 := lk_p hi (link_q hP0 hlt hk.2 (pt_9 hlt h34) (by decide)) (by decide)
        refine AWP.seq (AWP.region ?_)
        refine AOps.aD rfl rfl rfl rfl rfl (.nil ?_)
        refine AWP.ret ?_
        refine ⟨RetD.eq rfl ?_, trivial⟩
        all_goals (rw [HR])
      replace h34 := bnot_f h34
      have hth2 := h34
      refine AWP.skip ?_
      refine AWP.seq (AWP.region ?_)
      refine AOps.step rfl rfl rfl (AOp.fieldAddr rfl fo_67_1 rfl) ?_
      refine AOps.step rfl rfl rfl (AOp.load rfl sc_3 rfl) ?_
      refine AOps.step rfl rfl rfl (AOp.neq rfl rfl rfl) (.nil ?_)
      refine AWP.cond rfl (fun h35 => ?_) (fun h35 => ?_)
      · replace h35 := of_decide_eq_true h35
        have HR : lkF c.things i = 6 := lk_p hi (link_q hP0 hlt hk.2 (pt_6 hlt hth2 h35) (by decide)) (by decide)
        refine AWP.seq (AWP.region ?_)
        refine AOps.aD rfl rfl rfl rfl rfl (.nil ?_)
        refine AWP.ret ?_
        refine ⟨RetD.eq rfl ?_, trivial⟩
        all_goals (rw [HR])
      replace h35 := of_decide_eq_false h35
      have hPK := pt_ok hlt hth2 (by omega)
      refine AWP.skip ?_
      refine AWP.region ?_
      refine AOps.step rfl rfl rfl (AOp.add64 rfl rfl rfl (by omega) (by omega)) ?_
      refine AOps.mD rfl rfl rfl rfl rfl (.nil ?_)
      refine ⟨k + 1, ⟨by omega, ffst_next hk.2 hPK⟩, (by dsimp only; omega), Sub.less ⟨(SLe.of_eq rfl), SLe.refl _, SLe.refl _, SLe.refl _, SLe.refl _, SLe.refl _, trivial⟩ (fun _ h => h)⟩
    replace h33 := of_decide_eq_false h33
    rw [List.length_map] at h33
    have hkl : k = c.things[i].parts.length := by omega
    have HL := link_l hP0 (by rw [← hkl]; exact hk.2)
    refine AWP.exit ?_
    refine AWP.seq ?_
    refine AWP.seq (AWP.region ?_)
    refine AOps.step rfl rfl rfl (AOp.loadAgg rfl ag_25 rfl rfl) ?_
    refine AOps.step rfl rfl rfl (AOp.loadAgg rfl ag_67 rfl rfl) ?_
    refine AOps.step rfl rfl rfl (AOp.call rfl (.cons (ArgOk.rfl' rfl) (.cons (ArgOk.rfl' rfl) .nil)) (c_back c _ hl hr (List.getElem_mem hi))) (.nil ?_)
    refine AWP.cond rfl (fun h36 => ?_) (fun h36 => ?_)
    · skip
      have HR : lkF c.things i = 14 := lk_p hi (HL.trans (if_pos h36)) (by decide)
      refine AWP.seq (AWP.region ?_)
      refine AOps.aD rfl rfl rfl rfl rfl (.nil ?_)
      refine AWP.ret ?_
      refine ⟨RetD.eq rfl ?_, trivial⟩
      all_goals (rw [HR])
    have HL0 : linkF c.things c.things[i] = 0 := HL.trans (if_neg (by rw [h36]; decide))
    refine AWP.skip ?_
    refine AWP.seq ?_
    refine AWP.seq (AWP.region ?_)
    refine AOps.step rfl rfl rfl (AOp.fieldAddr rfl fo_25_0 rfl) ?_
    refine AOps.step rfl rfl rfl (AOp.load rfl sc_22 rfl) ?_
    refine AOps.mD rfl rfl rfl rfl rfl ?_
    refine AOps.step rfl rfl rfl (AOp.sliceH rfl et_22 rfl rfl (by omega) (by rw [List.length_map]; omega) (fun y hy => by obtain ⟨z, _, rfl⟩ := List.mem_map.1 hy; rfl)) ?_
    refine AOps.step rfl rfl rfl (AOp.lenSl rfl et_22.ht rfl) ?_
    refine AOps.mD rfl rfl rfl rfl rfl (.nil ?_)
    refine AWP.block ?_
    refine AWP.loop (G := Nat) (fun j => Env.of [(76, .d (.v (.int .i64 (j : Int)))), (74, .d (.sl ((c.things.map Thg.ds).take i))), (75, .d (.v (.int .i64 (i : Int)))), (5, .d (.fp c.things[i].ds))]) (fun j => []) (fun j => j ≤ i ∧ ∀ x ∈ c.things.take j, ¬ twP c.things[i] x) (fun j => i - j) 0 ⟨Nat.zero_le _, fun x hx => by simp at hx⟩ (Sub.less ⟨(SLe.of_eq rfl), (SLe.of_eq rfl), (SLe.i64 (by rw [List.length_take, List.length_map]; omega)), SLe.refl _, trivial⟩ (fun _ h => h)) ?_
    intro j hj
    refine AWP.seq (AWP.region ?_)
    refine AOps.step rfl rfl rfl (AOp.lss rfl rfl rfl) (.nil ?_)
    refine AWP.seq ?_
    refine AWP.cond rfl (fun h37 => ?_) (fun h37 => ?_)
    · replace h37 := of_decide_eq_true h37
      have hlt3 : j < i := by omega
      refine AWP.skip ?_
      refine AWP.seq ?_
      refine AWP.block ?_
      refine AWP.seq (AWP.region ?_)
      refine AOps.step rfl rfl rfl (AOp.indexAddr rfl et_22 rfl rfl j rfl (at_take (by omega) hlt3) rfl) ?_
      refine AOps.step rfl rfl rfl (AOp.loadAgg rfl ag_67 rfl rfl) ?_
      refine AOps.alloc 110 rfl rfl rfl rfl zt_67 rfl rfl rfl ?_
      refine AOps.store rfl rfl rfl sz_67 rfl (.head _) rfl rfl rfl (Nat.le_of_ble_eq_true rfl) ?_
      refine AOps.freezeCells 13 (ds := (c.things[j]'(by omega)).ds) rfl (.head _) (.nil ?_)
      refine AWP.seq (AWP.region ?_)
      refine AOps.step rfl rfl rfl (AOp.fieldAddr rfl fo_67_1 rfl) ?_
      refine AOps.step rfl rfl rfl (AOp.load rfl sc_3 rfl) ?_
      refine AOps.step rfl rfl rfl (AOp.fieldAddr rfl fo_67_1 rfl) ?_
      refine AOps.step rfl rfl rfl (AOp.load rfl sc_3 rfl) ?_
      refine AOps.step rfl rfl rfl (AOp.eql rfl rfl rfl) ?_
      refine AOps.mD rfl rfl rfl rfl rfl ?_
      refine AOps.split 85 rfl (fun g38 => ?_) (fun g38 => ?_)
      · replace g38 := of_decide_eq_true g38
        have hke := g38
        refine AOps.step ⟨85, rfl, .inl ⟨_, rfl, rfl⟩⟩ rfl rfl (AOp.fieldAddr rfl fo_67_3 rfl) ?_
        refine AOps.step ⟨85, rfl, .inl ⟨_, rfl, rfl⟩⟩ rfl rfl (AOp.load rfl sc_9 rfl) ?_
        refine AOps.step ⟨85, rfl, .inl ⟨_, rfl, rfl⟩⟩ rfl rfl (AOp.sneq rfl rfl rfl) ?_
        refine AOps.step rfl rfl rfl (AOp.pickT rfl rfl rfl) ?_
        refine AOps.mD rfl rfl rfl rfl rfl ?_
        refine AOps.split 90 rfl (fun g39 => ?_) (fun g39 => ?_)
        · replace g39 := of_decide_eq_true g39
          have hcn := g39
          refine AOps.step ⟨90, rfl, .inl ⟨_, rfl, rfl⟩⟩ rfl rfl (AOp.fieldAddr rfl fo_67_3 rfl) ?_
          refine AOps.step ⟨90, rfl, .inl ⟨_, rfl, rfl⟩⟩ rfl rfl (AOp.load rfl sc_9 rfl) ?_
          refine AOps.step ⟨90, rfl, .inl ⟨_, rfl, rfl⟩⟩ rfl rfl (AOp.fieldAddr rfl fo_67_3 rfl) ?_
          refine AOps.step ⟨90, rfl, .inl ⟨_, rfl, rfl⟩⟩ rfl rfl (AOp.load rfl sc_9 rfl) ?_
          refine AOps.step ⟨90, rfl, .inl ⟨_, rfl, rfl⟩⟩ rfl rfl (AOp.seql rfl rfl rfl) ?_
          refine AOps.step rfl rfl rfl (AOp.pickT rfl rfl rfl) (.nil ?_)
          refine AWP.cond rfl (fun h40 => ?_) (fun h40 => ?_)
          · replace h40 := of_decide_eq_true h40
            have hce := h40
            refine AWP.seq ?_
            have HR := lk_7 hi HL0 hcn (tw_yes hlt3 (by omega) ⟨hke, hcn, hce⟩)
            refine AWP.region ?_
            refine AOps.aD rfl rfl rfl rfl rfl (.nil ?_)
            refine AWP.ret ?_
            refine ⟨RetD.eq rfl ?_, trivial⟩
            all_goals (rw [HR])
          replace h40 := of_decide_eq_false h40
          refine AWP.skip ?_
          refine AWP.region ?_
          refine AOps.step rfl rfl rfl (AOp.add64 rfl rfl rfl (by omega) (by omega)) ?_
          refine AOps.mD rfl rfl rfl rfl rfl (.nil ?_)
          refine ⟨j + 1, ⟨by omega, tw_next (by omega) hj.2 (fun ⟨q1, q2, q3⟩ => by first | contradiction | omega)⟩, (by dsimp only; omega), Sub.less ⟨(SLe.of_eq rfl), SLe.refl _, SLe.refl _, SLe.refl _, trivial⟩ (fun _ h => h)⟩
        replace g39 := of_decide_eq_false g39
        refine AOps.pass ⟨90, rfl, .inl ⟨_, rfl, rfl⟩⟩ rfl rfl ?_
        refine AOps.pass ⟨90, rfl, .inl ⟨_, rfl, rfl⟩⟩ rfl rfl ?_
        refine AOps.pass ⟨90, rfl, .inl ⟨_, rfl, rfl⟩⟩ rfl rfl ?_
        refine AOps.pass ⟨90, rfl, .inl ⟨_, rfl, rfl⟩⟩ rfl rfl ?_
        refine AOps.pass ⟨90, rfl, .inl ⟨_, rfl, rfl⟩⟩ rfl rfl ?_
        refine AOps.step rfl rfl rfl (AOp.pickF rfl rfl rfl) (.nil ?_)
        refine AWP.cond rfl (fun h => nomatch h) (fun _ => ?_)
        refine AWP.skip ?_
        refine AWP.region ?_
        refine AOps.step rfl rfl rfl (AOp.add64 rfl rfl rfl (by omega) (by omega)) ?_
        refine AOps.mD rfl rfl rfl rfl rfl (.nil ?_)
        refine ⟨j + 1, ⟨by omega, tw_next (by omega) hj.2 (fun ⟨q1, q2, q3⟩ => by first | contradiction | omega)⟩, (by dsimp only; omega), Sub.less ⟨(SLe.of_eq rfl), SLe.refl _, SLe.refl _, SLe.refl _, trivial⟩ (fun _ h => h)⟩
      replace g38 := of_decide_eq_false g38
      refine AOps.pass ⟨85, rfl, .inl ⟨_, rfl, rfl⟩⟩ rfl rfl ?_
      refine AOps.pass ⟨85, rfl, .inl ⟨_, rfl, rfl⟩⟩ rfl rfl ?_
      refine AOps.pass ⟨85, rfl, .inl ⟨_, rfl, rfl⟩⟩ rfl rfl ?_
      refine AOps.step rfl rfl rfl (AOp.pickF rfl rfl rfl) ?_
      refine AOps.mD rfl rfl rfl rfl rfl ?_
      refine AOps.pass ⟨90, rfl, .inl ⟨_, rfl, rfl⟩⟩ rfl rfl ?_
      refine AOps.pass ⟨90, rfl, .inl ⟨_, rfl, rfl⟩⟩ rfl rfl ?_
      refine AOps.pass ⟨90, rfl, .inl ⟨_, rfl, rfl⟩⟩ rfl rfl ?_
      refine AOps.pass ⟨90, rfl, .inl ⟨_, rfl, rfl⟩⟩ rfl rfl ?_
      refine AOps.pass ⟨90, rfl, .inl ⟨_, rfl, rfl⟩⟩ rfl rfl ?_
      refine AOps.step rfl rfl rfl (AOp.pickF rfl rfl rfl) (.nil ?_)
      refine AWP.cond rfl (fun h => nomatch h) (fun _ => ?_)
      refine AWP.skip ?_
      refine AWP.region ?_
      refine AOps.step rfl rfl rfl (AOp.add64 rfl rfl rfl (by omega) (by omega)) ?_
      refine AOps.mD rfl rfl rfl rfl rfl (.nil ?_)
      refine ⟨j + 1, ⟨by omega, tw_next (by omega) hj.2 (fun ⟨q1, q2, q3⟩ => by first | contradiction | omega)⟩, (by dsimp only; omega), Sub.less ⟨(SLe.of_eq rfl), SLe.refl _, SLe.refl _, SLe.refl _, trivial⟩ (fun _ h => h)⟩
    replace h37 := of_decide_eq_false h37
    obtain rfl : j = i := by omega
    have HR := lk_0 hi HL0 (tw_no hj.2)
    refine AWP.exit ?_
    refine AWP.seq (AWP.region ?_)
    refine AOps.aD rfl rfl rfl rfl rfl (.nil ?_)
    refine AWP.ret ?_
    refine ⟨RetD.eq rfl ?_, trivial⟩
    all_goals (rw [HR])
  replace h1 := of_decide_eq_false h1
  have hP0 : parF c.things c.things[i] = 0 := par_0 (by omega)
  refine AWP.skip ?_
  refine AWP.seq ?_
  refine AWP.seq ?_
  have hP0 : parF c.things c.things[i] = 0 := by first | assumption | exact par_ok hpn hth (by unfold wantK; split <;> omega)
  refine AWP.region ?_
  refine AOps.step rfl rfl rfl (AOp.fieldAddr rfl fo_67_6 rfl) ?_
  refine AOps.step rfl rfl rfl (AOp.load rfl sc_26 rfl) ?_
  refine AOps.step rfl rfl rfl (AOp.lenSl rfl et_26.ht rfl) ?_
  refine AOps.mD rfl rfl rfl rfl rfl (.nil ?_)
  refine AWP.block ?_
  refine AWP.loop (G := Nat) (fun k => Env.of [(52, .d (.v (.int .i64 (k : Int)))), (50, .d (.sl (c.things[i].parts.map intD))), (51, .d (.v (.int .i64 ((c.things[i].parts.map intD).length : Int)))), (2, .d (.fp c.ds)), (5, .d (.fp c.things[i].ds)), (1, .d (.v (.int .i64 (i : Int))))]) (fun k => []) (fun k => k ≤ c.things[i].parts.length ∧ ffst (ptF c.things c.things[i]) k = 0) (fun k => c.things[i].parts.length - k) 0 ⟨Nat.zero_le _, rfl⟩ (Sub.less ⟨(SLe.of_eq rfl), SLe.refl _, SLe.refl _, SLe.refl _, SLe.refl _, SLe.refl _, trivial⟩ (fun _ h => h)) ?_
  intro k hk
  refine AWP.seq (AWP.region ?_)
  refine AOps.step rfl rfl rfl (AOp.lss rfl rfl rfl) (.nil ?_)
  refine AWP.seq ?_
  refine AWP.cond rfl (fun h41 => ?_) (fun h41 => ?_)
  · replace h41 := of_decide_eq_true h41
    rw [List.length_map] at h41
    have hlt : k < c.things[i].parts.length := by omega
    refine AWP.skip ?_
    refine AWP.seq ?_
    refine AWP.block ?_
    refine AWP.seq (AWP.region ?_)
    refine AOps.step rfl rfl rfl (AOp.indexAddr rfl et_26 rfl rfl k rfl (at_lst hlt) rfl) ?_
    refine AOps.step rfl rfl rfl (AOp.load rfl sc_3 rfl) ?_
    refine AOps.aD rfl rfl rfl rfl rfl (.nil ?_)
    refine AWP.seq (AWP.region ?_)
    refine AOps.step rfl rfl rfl (AOp.loadAgg rfl ag_25 rfl rfl) ?_
    refine AOps.mD rfl rfl rfl rfl rfl ?_
    refine AOps.step rfl rfl rfl (AOp.call rfl (.cons (ArgOk.rfl' rfl) (.cons (ArgOk.rfl' rfl) .nil)) (c_thing c _ hl)) ?_
    refine AOps.mD rfl rfl rfl rfl rfl ?_
    refine AOps.step rfl rfl rfl (AOp.extract rfl rfl rfl) ?_
    refine AOps.step rfl rfl rfl (AOp.extract rfl rfl rfl) ?_
    refine AOps.alloc 111 rfl rfl rfl rfl zt_67 rfl rfl rfl ?_
    refine AOps.store rfl rfl rfl sz_67 rfl (.head _) rfl rfl rfl (Nat.le_of_ble_eq_true rfl) ?_
    refine AOps.freezeCells 10 (ds := (getT c.things c.things[i].parts[k]).ds) rfl (.head _) ?_
    refine AOps.aD rfl rfl rfl rfl rfl (.nil ?_)
    refine AWP.seq ?_
    refine AWP.seq (AWP.region ?_)
    refine AOps.mD rfl rfl rfl rfl rfl ?_
    refine AOps.step rfl rfl rfl (AOp.not rfl rfl) (.nil ?_)
    refine AWP.cond rfl (fun h42 => ?_) (fun h42 => ?_)
    · replace h42 := bnot_t h42
      have HR : lkF c.things i = 9 := lk_p hi (link_q hP0 hlt hk.2 (pt_9 hlt h42) (by decide)) (by decide)
      refine AWP.seq (AWP.region ?_)
      refine AOps.aD rfl rfl rfl rfl rfl (.nil ?_)
      refine AWP.ret ?_
      refine ⟨RetD.eq rfl ?_, trivial⟩
      all_goals (rw [HR])
    replace h42 := bnot_f h42
    have hth2 := h42
    refine AWP.skip ?_
    refine AWP.seq (AWP.region ?_)
    refine AOps.step rfl rfl rfl (AOp.fieldAddr rfl fo_67_1 rfl) ?_
    refine AOps.step rfl rfl rfl (AOp.load rfl sc_3 rfl) ?_
    refine AOps.step rfl rfl rfl (AOp.neq rfl rfl rfl) (.nil ?_)
    refine AWP.cond rfl (fun h43 => ?_) (fun h43 => ?_)
    · replace h43 := of_decide_eq_true h43
      have HR : lkF c.things i = 6 := lk_p hi (link_q hP0 hlt hk.2 (pt_6 hlt hth2 h43) (by decide)) (by decide)
      refine AWP.seq (AWP.region ?_)
      refine AOps.aD rfl rfl rfl rfl rfl (.nil ?_)
      refine AWP.ret ?_
      refine ⟨RetD.eq rfl ?_, trivial⟩
      all_goals (rw [HR])
    replace h43 := of_decide_eq_false h43
    have hPK := pt_ok hlt hth2 (by omega)
    refine AWP.skip ?_
    refine AWP.region ?_
    refine AOps.step rfl rfl rfl (AOp.add64 rfl rfl rfl (by omega) (by omega)) ?_
    refine AOps.mD rfl rfl rfl rfl rfl (.nil ?_)
    refine ⟨k + 1, ⟨by omega, ffst_next hk.2 hPK⟩, (by dsimp only; omega), Sub.less ⟨(SLe.of_eq rfl), SLe.refl _, SLe.refl _, SLe.refl _, SLe.refl _, SLe.refl _, trivial⟩ (fun _ h => h)⟩
  replace h41 := of_decide_eq_false h41
  rw [List.length_map] at h41
  have hkl : k = c.things[i].parts.length := by omega
  have HL := link_l hP0 (by rw [← hkl]; exact hk.2)
  refine AWP.exit ?_
  refine AWP.seq ?_
  refine AWP.seq (AWP.region ?_)
  refine AOps.step rfl rfl rfl (AOp.loadAgg rfl ag_25 rfl rfl) ?_
  refine AOps.step rfl rfl rfl (AOp.loadAgg rfl ag_67 rfl rfl) ?_
  refine AOps.step rfl rfl rfl (AOp.call rfl (.cons (ArgOk.rfl' rfl) (.cons (ArgOk.rfl' rfl) .nil)) (c_back c _ hl hr (List.getElem_mem hi))) (.nil ?_)
  refine AWP.cond rfl (fun h44 => ?_) (fun h44 => ?_)
  · skip
    have HR : lkF c.things i = 14 := lk_p hi (HL.trans (if_pos h44)) (by decide)
    refine AWP.seq (AWP.region ?_)
    refine AOps.aD rfl rfl rfl rfl rfl (.nil ?_)
    refine AWP.ret ?_
    refine ⟨RetD.eq rfl ?_, trivial⟩
    all_goals (rw [HR])
  have HL0 : linkF c.things c.things[i] = 0 := HL.trans (if_neg (by rw [h44]; decide))
  refine AWP.skip ?_
  refine AWP.seq ?_
  refine AWP.seq (AWP.region ?_)
  refine AOps.step rfl rfl rfl (AOp.fieldAddr rfl fo_25_0 rfl) ?_
  refine AOps.step rfl rfl rfl (AOp.load rfl sc_22 rfl) ?_
  refine AOps.mD rfl rfl rfl rfl rfl ?_
  refine AOps.step rfl rfl rfl (AOp.sliceH rfl et_22 rfl rfl (by omega) (by rw [List.length_map]; omega) (fun y hy => by obtain ⟨z, _, rfl⟩ := List.mem_map.1 hy; rfl)) ?_
  refine AOps.step rfl rfl rfl (AOp.lenSl rfl et_22.ht rfl) ?_
  refine AOps.mD rfl rfl rfl rfl rfl (.nil ?_)
  refine AWP.block ?_
  refine AWP.loop (G := Nat) (fun j => Env.of [(76, .d (.v (.int .i64 (j : Int)))), (74, .d (.sl ((c.things.map Thg.ds).take i))), (75, .d (.v (.int .i64 (i : Int)))), (5, .d (.fp c.things[i].ds))]) (fun j => []) (fun j => j ≤ i ∧ ∀ x ∈ c.things.take j, ¬ twP c.things[i] x) (fun j => i - j) 0 ⟨Nat.zero_le _, fun x hx => by simp at hx⟩ (Sub.less ⟨(SLe.of_eq rfl), (SLe.of_eq rfl), (SLe.i64 (by rw [List.length_take, List.length_map]; omega)), SLe.refl _, trivial⟩ (fun _ h => h)) ?_
  intro j hj
  refine AWP.seq (AWP.region ?_)
  refine AOps.step rfl rfl rfl (AOp.lss rfl rfl rfl) (.nil ?_)
  refine AWP.seq ?_
  refine AWP.cond rfl (fun h45 => ?_) (fun h45 => ?_)
  · replace h45 := of_decide_eq_true h45
    have hlt3 : j < i := by omega
    refine AWP.skip ?_
    refine AWP.seq ?_
    refine AWP.block ?_
    refine AWP.seq (AWP.region ?_)
    refine AOps.step rfl rfl rfl (AOp.indexAddr rfl et_22 rfl rfl j rfl (at_take (by omega) hlt3) rfl) ?_
    refine AOps.step rfl rfl rfl (AOp.loadAgg rfl ag_67 rfl rfl) ?_
    refine AOps.alloc 112 rfl rfl rfl rfl zt_67 rfl rfl rfl ?_
    refine AOps.store rfl rfl rfl sz_67 rfl (.head _) rfl rfl rfl (Nat.le_of_ble_eq_true rfl) ?_
    refine AOps.freezeCells 13 (ds := (c.things[j]'(by omega)).ds) rfl (.head _) (.nil ?_)
    refine AWP.seq (AWP.region ?_)
    refine AOps.step rfl rfl rfl (AOp.fieldAddr rfl fo_67_1 rfl) ?_
    refine AOps.step rfl rfl rfl (AOp.load rfl sc_3 rfl) ?_
    refine AOps.step rfl rfl rfl (AOp.fieldAddr rfl fo_67_1 rfl) ?_
    refine AOps.step rfl rfl rfl (AOp.load rfl sc_3 rfl) ?_
    refine AOps.step rfl rfl rfl (AOp.eql rfl rfl rfl) ?_
    refine AOps.mD rfl rfl rfl rfl rfl ?_
    refine AOps.split 85 rfl (fun g46 => ?_) (fun g46 => ?_)
    · replace g46 := of_decide_eq_true g46
      have hke := g46
      refine AOps.step ⟨85, rfl, .inl ⟨_, rfl, rfl⟩⟩ rfl rfl (AOp.fieldAddr rfl fo_67_3 rfl) ?_
      refine AOps.step ⟨85, rfl, .inl ⟨_, rfl, rfl⟩⟩ rfl rfl (AOp.load rfl sc_9 rfl) ?_
      refine AOps.step ⟨85, rfl, .inl ⟨_, rfl, rfl⟩⟩ rfl rfl (AOp.sneq rfl rfl rfl) ?_
      refine AOps.step rfl rfl rfl (AOp.pickT rfl rfl rfl) ?_
      refine AOps.mD rfl rfl rfl rfl rfl ?_
      refine AOps.split 90 rfl (fun g47 => ?_) (fun g47 => ?_)
      · replace g47 := of_decide_eq_true g47
        have hcn := g47
        refine AOps.step ⟨90, rfl, .inl ⟨_, rfl, rfl⟩⟩ rfl rfl (AOp.fieldAddr rfl fo_67_3 rfl) ?_
        refine AOps.step ⟨90, rfl, .inl ⟨_, rfl, rfl⟩⟩ rfl rfl (AOp.load rfl sc_9 rfl) ?_
        refine AOps.step ⟨90, rfl, .inl ⟨_, rfl, rfl⟩⟩ rfl rfl (AOp.fieldAddr rfl fo_67_3 rfl) ?_
        refine AOps.step ⟨90, rfl, .inl ⟨_, rfl, rfl⟩⟩ rfl rfl (AOp.load rfl sc_9 rfl) ?_
        refine AOps.step ⟨90, rfl, .inl ⟨_, rfl, rfl⟩⟩ rfl rfl (AOp.seql rfl rfl rfl) ?_
        refine AOps.step rfl rfl rfl (AOp.pickT rfl rfl rfl) (.nil ?_)
        refine AWP.cond rfl (fun h48 => ?_) (fun h48 => ?_)
        · replace h48 := of_decide_eq_true h48
          have hce := h48
          refine AWP.seq ?_
          have HR := lk_7 hi HL0 hcn (tw_yes hlt3 (by omega) ⟨hke, hcn, hce⟩)
          refine AWP.region ?_
          refine AOps.aD rfl rfl rfl rfl rfl (.nil ?_)
          refine AWP.ret ?_
          refine ⟨RetD.eq rfl ?_, trivial⟩
          all_goals (rw [HR])
        replace h48 := of_decide_eq_false h48
        refine AWP.skip ?_
        refine AWP.region ?_
        refine AOps.step rfl rfl rfl (AOp.add64 rfl rfl rfl (by omega) (by omega)) ?_
        refine AOps.mD rfl rfl rfl rfl rfl (.nil ?_)
        refine ⟨j + 1, ⟨by omega, tw_next (by omega) hj.2 (fun ⟨q1, q2, q3⟩ => by first | contradiction | omega)⟩, (by dsimp only; omega), Sub.less ⟨(SLe.of_eq rfl), SLe.refl _, SLe.refl _, SLe.refl _, trivial⟩ (fun _ h => h)⟩
      replace g47 := of_decide_eq_false g47
      refine AOps.pass ⟨90, rfl, .inl ⟨_, rfl, rfl⟩⟩ rfl rfl ?_
      refine AOps.pass ⟨90, rfl, .inl ⟨_, rfl, rfl⟩⟩ rfl rfl ?_
      refine AOps.pass ⟨90, rfl, .inl ⟨_, rfl, rfl⟩⟩ rfl rfl ?_
      refine AOps.pass ⟨90, rfl, .inl ⟨_, rfl, rfl⟩⟩ rfl rfl ?_
      refine AOps.pass ⟨90, rfl, .inl ⟨_, rfl, rfl⟩⟩ rfl rfl ?_
      refine AOps.step rfl rfl rfl (AOp.pickF rfl rfl rfl) (.nil ?_)
      refine AWP.cond rfl (fun h => nomatch h) (fun _ => ?_)
      refine AWP.skip ?_
      refine AWP.region ?_
      refine AOps.step rfl rfl rfl (AOp.add64 rfl rfl rfl (by omega) (by omega)) ?_
      refine AOps.mD rfl rfl rfl rfl rfl (.nil ?_)
      refine ⟨j + 1, ⟨by omega, tw_next (by omega) hj.2 (fun ⟨q1, q2, q3⟩ => by first | contradiction | omega)⟩, (by dsimp only; omega), Sub.less ⟨(SLe.of_eq rfl), SLe.refl _, SLe.refl _, SLe.refl _, trivial⟩ (fun _ h => h)⟩
    replace g46 := of_decide_eq_false g46
    refine AOps.pass ⟨85, rfl, .inl ⟨_, rfl, rfl⟩⟩ rfl rfl ?_
    refine AOps.pass ⟨85, rfl, .inl ⟨_, rfl, rfl⟩⟩ rfl rfl ?_
    refine AOps.pass ⟨85, rfl, .inl ⟨_, rfl, rfl⟩⟩ rfl rfl ?_
    refine AOps.step rfl rfl rfl (AOp.pickF rfl rfl rfl) ?_
    refine AOps.mD rfl rfl rfl rfl rfl ?_
    refine AOps.pass ⟨90, rfl, .inl ⟨_, rfl, rfl⟩⟩ rfl rfl ?_
    refine AOps.pass ⟨90, rfl, .inl ⟨_, rfl, rfl⟩⟩ rfl rfl ?_
    refine AOps.pass ⟨90, rfl, .inl ⟨_, rfl, rfl⟩⟩ rfl rfl ?_
    refine AOps.pass ⟨90, rfl, .inl ⟨_, rfl, rfl⟩⟩ rfl rfl ?_
    refine AOps.pass ⟨90, rfl, .inl ⟨_, rfl, rfl⟩⟩ rfl rfl ?_
    refine AOps.step rfl rfl rfl (AOp.pickF rfl rfl rfl) (.nil ?_)
    refine AWP.cond rfl (fun h => nomatch h) (fun _ => ?_)
    refine AWP.skip ?_
    refine AWP.region ?_
    refine AOps.step rfl rfl rfl (AOp.add64 rfl rfl rfl (by omega) (by omega)) ?_
    refine AOps.mD rfl rfl rfl rfl rfl (.nil ?_)
    refine ⟨j + 1, ⟨by omega, tw_next (by omega) hj.2 (fun ⟨q1, q2, q3⟩ => by first | contradiction | omega)⟩, (by dsimp only; omega), Sub.less ⟨(SLe.of_eq rfl), SLe.refl _, SLe.refl _, SLe.refl _, trivial⟩ (fun _ h => h)⟩
  replace h45 := of_decide_eq_false h45
  obtain rfl : j = i := by omega
  have HR := lk_0 hi HL0 (tw_no hj.2)
  refine AWP.exit ?_
  refine AWP.seq (AWP.region ?_)
  refine AOps.aD rfl rfl rfl rfl rfl (.nil ?_)
  refine AWP.ret ?_
  refine ⟨RetD.eq rfl ?_, trivial⟩
  all_goals (rw [HR])

end Go.Proofs.YtcilhhkmgebkeaaGreatDoor


namespace Go.Proofs.YtcilhhkmgebkeaaGreatDoor
open Go.RowKit
set_option linter.unusedVariables false

/-! Types. -/
namespace TyKE
theorem ag_25 : AggT Tryz.prog 25 2 := .of (by kernel_rfl)
theorem et_23 : ElemTy Tryz.prog 23 46 2 16 (.agg #[(.int .i64 0), (.int .i64 0)]) := ⟨by kernel_rfl, by kernel_rfl, by kernel_rfl, by decide⟩
theorem fo_25_1 : fieldOff Tryz.prog 25 1 = some 1 := by kernel_rfl
theorem mt_121 : Tryz.prog.underlying 121 = some (.map 3 3) := by kernel_rfl
theorem sc_23 : Scal Tryz.prog 23 := .of (by kernel_rfl)
theorem sz_67 : ∀ w, (sizeOf 67).run Tryz.prog w = .ok 7 w := SizeT.of (by kernel_rfl)
theorem zt_67 : (Tryz.prog.info? 67).bind (·.zero) = some (.agg #[(.int .i64 0), (.int .i64 0), (.string ⟨#[]⟩), (.string ⟨#[]⟩), (.int .i64 0), (.int .i64 0), (.slice none 0 0)]) := by kernel_rfl
end TyKE
open TyKE


/-- k steps by the map. -/
def idN (L : List (Int × Int)) (id : Int) : Nat → Int
  | 0 => id
  | k + 1 => (findG L (idN L id k)).getD 0
def ledP (l : List Thg) (L : List (Int × Int)) : Nat → Int → Option Int
  | 0, _ => none
  | n + 1, id => if thereB l id = true then some id else ledP l L n ((findG L id).getD 0)
theorem idN_shift (L : List (Int × Int)) (id : Int) : ∀ k, idN L ((findG L id).getD 0) k = idN L id (k + 1)
  | 0 => rfl
  | k + 1 => by show (findG L (idN L _ k)).getD 0 = _; rw [idN_shift L id k]; rfl
theorem ledP_hit {l : List Thg} {L : List (Int × Int)} : ∀ {n k : Nat} {id : Int}, k < n → (∀ j, j < k → thereB l (idN L id j) = false) → thereB l (idN L id k) = true → ledP l L n id = some (idN L id k)
  | 0, _, _, h, _, _ => by omega
  | n + 1, 0, id, _, _, h => if_pos h
  | n + 1, k + 1, id, hk, h, h2 => by
    have h0 := h 0 (by omega)
    show (if thereB l id = true then _ else _) = _
    rw [if_neg (by rw [show thereB l id = false from h0]; decide)]
    rw [ledP_hit (k := k) (by omega) (fun j hj => by rw [idN_shift]; exact h (j + 1) (by omega)) (by rw [idN_shift]; exact h2), idN_shift]
theorem ledP_no {l : List Thg} {L : List (Int × Int)} : ∀ {n : Nat} {id : Int}, (∀ j, j < n → thereB l (idN L id j) = false) → ledP l L n id = none
  | 0, _, _ => rfl
  | n + 1, id, h => by
    have h0 := h 0 (by omega)
    show (if thereB l id = true then _ else _) = _
    rw [if_neg (by rw [show thereB l id = false from h0]; decide)]
    exact ledP_no fun j hj => by rw [idN_shift]; exact h (j + 1) (by omega)
theorem led_hit {c : Ctl} : ∀ {n k : Nat} {id : Int}, k < n → (∀ j, j < k → thereB c.things (idN (mvL c.moved) id j) = false ∧ hasM c.moved (idN (mvL c.moved) id j) = true) → thereB c.things (idN (mvL c.moved) id k) = true → led c n id = some (idN (mvL c.moved) id k)
  | 0, _, _, h, _, _ => by omega
  | n + 1, 0, id, _, _, h => if_pos h
  | n + 1, k + 1, id, hk, h, h2 => by
    have h0 := h 0 (by omega)
    show (if thereB c.things id = true then _ else if hasM c.moved id = true then _ else _) = _
    rw [if_neg (by rw [show thereB c.things id = false from h0.1]; decide), if_pos (show hasM c.moved id = true from h0.2)]
    show led c n ((findG (mvL c.moved) id).getD 0) = _
    rw [led_hit (k := k) (by omega) (fun j hj => by rw [idN_shift]; exact h (j + 1) (by omega)) (by rw [idN_shift]; exact h2), idN_shift]
theorem led_gone {c : Ctl} : ∀ {n k : Nat} {id : Int}, k < n → (∀ j, j < k → thereB c.things (idN (mvL c.moved) id j) = false ∧ hasM c.moved (idN (mvL c.moved) id j) = true) → thereB c.things (idN (mvL c.moved) id k) = false → hasM c.moved (idN (mvL c.moved) id k) = false → led c n id = none
  | 0, _, _, h, _, _, _ => by omega
  | n + 1, 0, id, _, _, h, h2 => by
    show (if thereB c.things id = true then _ else if hasM c.moved id = true then _ else _) = _
    rw [if_neg (by rw [show thereB c.things id = false from h]; decide), if_neg (by rw [show hasM c.moved id = false from h2]; decide)]
  | n + 1, k + 1, id, hk, h, h2, h3 => by
    have h0 := h 0 (by omega)
    show (if thereB c.things id = true then _ else if hasM c.moved id = true then _ else _) = _
    rw [if_neg (by rw [show thereB c.things id = false from h0.1]; decide), if_pos (show hasM c.moved id = true from h0.2)]
    exact led_gone (k := k) (by omega) (fun j hj => by rw [show getM c.moved id = (findG (mvL c.moved) id).getD 0 from rfl, idN_shift]; exact h (j + 1) (by omega)) (by rw [show getM c.moved id = (findG (mvL c.moved) id).getD 0 from rfl, idN_shift]; exact h2) (by rw [show getM c.moved id = (findG (mvL c.moved) id).getD 0 from rfl, idN_shift]; exact h3)
theorem led_no {c : Ctl} : ∀ {n : Nat} {id : Int}, (∀ j, j < n → thereB c.things (idN (mvL c.moved) id j) = false ∧ hasM c.moved (idN (mvL c.moved) id j) = true) → led c n id = none
  | 0, _, _ => rfl
  | n + 1, id, h => by
    have h0 := h 0 (by omega)
    show (if thereB c.things id = true then _ else if hasM c.moved id = true then _ else _) = _
    rw [if_neg (by rw [show thereB c.things id = false from h0.1]; decide), if_pos (show hasM c.moved id = true from h0.2)]
    exact led_no fun j hj => by rw [show getM c.moved id = (findG (mvL c.moved) id).getD 0 from rfl, idN_shift]; exact h (j + 1) (by omega)
theorem ledP_zero {l : List Thg} {L : List (Int × Int)} (h0 : thereB l 0 = false) (hm : findG L 0 = none) : ∀ n, ledP l L n 0 = none
  | 0 => rfl
  | n + 1 => by
    show (if thereB l 0 = true then _ else _) = _
    rw [if_neg (by rw [h0]; decide), hm]
    exact ledP_zero h0 hm n
theorem ledP_same {c : Ctl} (h0 : thereB c.things 0 = false) (hm : hasM c.moved 0 = false) : ∀ n id, ledP c.things (mvL c.moved) n id = led c n id
  | 0, _ => rfl
  | n + 1, id => by
    have hm' : findG (mvL c.moved) 0 = none := by unfold hasM at hm; cases hq : findG (mvL c.moved) 0 with
      | none => rfl
      | some _ => rw [hq] at hm; cases hm
    show (if thereB c.things id = true then some id else ledP c.things (mvL c.moved) n ((findG (mvL c.moved) id).getD 0)) = (if thereB c.things id = true then _ else if hasM c.moved id = true then _ else _)
    by_cases h1 : thereB c.things id = true
    · rw [if_pos h1, if_pos h1]
    · rw [if_neg h1, if_neg h1]
      by_cases h2 : hasM c.moved id = true
      · rw [if_pos h2]; exact ledP_same h0 hm n _
      · rw [if_neg h2]
        unfold hasM at h2
        cases hq : findG (mvL c.moved) id with
        | some _ => rw [hq] at h2; exact absurd rfl h2
        | none => exact ledP_zero h0 hm' n
/-- The map of the numbers that moved. -/
def toL (m : List Mvd) : List (Int × Int) := m.foldl (fun L x => putG L x.src x.dst) []
theorem toL_next {m : List Mvd} {k : Nat} (hk : k < m.length) : toL (m.take (k + 1)) = putG (toL (m.take k)) m[k].src m[k].dst := by
  unfold toL
  rw [List.take_add_one, List.getElem?_eq_getElem hk, Option.toList_some, List.foldl_append]; rfl
theorem foldl_nk : ∀ (m : List Mvd) (L : List (Int × Int)), NkG L → NkG (m.foldl (fun L x => putG L x.src x.dst) L)
  | [], _, h => h
  | x :: m, L, h => foldl_nk m _ (putG_nk h _ _)
theorem toL_nk (m : List Mvd) : NkG (toL m) := foldl_nk m [] (by unfold NkG; exact List.Pairwise.nil)
theorem foldl_mem (P : Int × Int → Prop) : ∀ (m : List Mvd) (L : List (Int × Int)), (∀ x ∈ m, P (x.src, x.dst)) → (∀ p ∈ L, P p) → ∀ p ∈ m.foldl (fun L x => putG L x.src x.dst) L, P p
  | [], _, _, h => h
  | x :: m, L, h, h2 => foldl_mem P m _ (fun y hy => h y (List.mem_cons_of_mem _ hy)) fun p hp => by
    unfold putG at hp
    dsimp only at hp
    by_cases hh : hasG L x.src = true
    · rw [if_pos hh] at hp
      obtain ⟨q, hq, rfl⟩ := List.mem_map.1 hp
      by_cases h3 : q.1 = x.src
      · rw [if_pos h3]; exact h x List.mem_cons_self
      · rw [if_neg h3]; exact h2 q hq
    · rw [if_neg hh, List.mem_append, List.mem_singleton] at hp
      rcases hp with hp | hp
      · exact h2 p hp
      · rw [hp]; exact h x List.mem_cons_self
theorem toL_ok {m : List Mvd} (h : ∀ x ∈ m, i64 x.src ∧ i64 x.dst) : ∀ p ∈ toL m, i64 p.1 ∧ i64 p.2 := foldl_mem (fun p => i64 p.1 ∧ i64 p.2) m [] h fun p hp => by cases hp
theorem foldl_has : ∀ (m : List Mvd) (L : List (Int × Int)) (id : Int), hasG (m.foldl (fun L x => putG L x.src x.dst) L) id = (hasG L id || m.any fun x => decide (x.src = id))
  | [], L, id => by simp
  | x :: m, L, id => by
    rw [List.foldl_cons, foldl_has m _ id]
    have h1 : hasG (putG L x.src x.dst) id = (hasG L id || decide (x.src = id)) := by
      have e1 : hasG (putG L x.src x.dst) id = (findG (putG L x.src x.dst) id).isSome := by
        cases hq : findG (putG L x.src x.dst) id with
        | none => exact findG_none.1 hq
        | some v => cases hh : hasG (putG L x.src x.dst) id with
          | true => rfl
          | false => rw [findG_none.2 hh] at hq; cases hq
      have e2 : hasG L id = (findG L id).isSome := by
        cases hq : findG L id with
        | none => exact findG_none.1 hq
        | some v => cases hh : hasG L id with
          | true => rfl
          | false => rw [findG_none.2 hh] at hq; cases hq
      rw [e1, e2, findG_put]
      by_cases h : id = x.src
      · simp [h]
      · have : ¬ x.src = id := fun e => h e.symm
        simp [h, this]
    rw [h1]
    simp [Bool.or_assoc]
theorem isSome_has {κ β : Type} [DecidableEq κ] (L : List (κ × β)) (k : κ) : (findG L k).isSome = hasG L k := by
  cases hq : findG L k with
  | none => exact (findG_none.1 hq).symm
  | some v => cases hh : hasG L k with
    | true => rfl
    | false => rw [findG_none.2 hh] at hq; cases hq
theorem toL_has (m : List Mvd) (id : Int) : (findG (toL m) id).isSome = hasM m id := by
  rw [isSome_has]
  unfold toL
  rw [foldl_has]
  unfold hasM
  rw [isSome_has]
  simp [hasG, mvL]
  rfl
/-- Numbers that rise. -/
structure RisM (m : List Mvd) : Prop where
  rng : ∀ x ∈ m, 1 ≤ x.src ∧ x.src ≤ 1000000
  up : ∀ i j (hi : i < m.length) (hj : j < m.length), i < j → m[i].src < m[j].src
theorem mvF_0 {c : Ctl} {k : Nat} (hk : k < c.moved.length) (h : mvF c k = 0) : (1 ≤ c.moved[k].src ∧ c.moved[k].src ≤ 1000000) ∧ (∀ h0 : 0 < k, (c.moved[k-1]'(by omega)).src < c.moved[k].src) := by
  unfold mvF at h
  rw [dif_pos hk] at h
  by_cases h1 : c.moved[k].src < 1 ∨ 1000000 < c.moved[k].src
  · rw [if_pos h1] at h; omega
  · rw [if_neg h1] at h
    by_cases h2 : 0 < k ∧ c.moved[k].src ≤ (c.moved[k-1]'(by omega)).src
    · rw [if_pos h2] at h; omega
    · exact ⟨by omega, fun h0 => by
        have h3 : ¬ c.moved[k].src ≤ (c.moved[k-1]'(by omega)).src := fun h3 => h2 ⟨h0, h3⟩
        omega⟩
theorem risM_of {c : Ctl} (h : ffst (mvF c) c.moved.length = 0) : RisM c.moved := by
  have h0 := fun k (hk : k < c.moved.length) => mvF_0 hk (ffst_all _ h k hk)
  refine ⟨fun t ht => ?_, ?_⟩
  · obtain ⟨k, hk, rfl⟩ := List.mem_iff_getElem.1 ht
    exact (h0 k hk).1
  · intro i j hi hj hij
    induction j with
    | zero => omega
    | succ j ih =>
      have h1 := (h0 (j + 1) hj).2 (by omega)
      simp only [Nat.add_sub_cancel] at h1
      by_cases he : i = j
      · subst he; exact h1
      · have := ih (by omega) (by omega); omega
theorem toL_take {m : List Mvd} (h : RisM m) : ∀ k, k ≤ m.length → toL (m.take k) = mvL (m.take k)
  | 0, _ => by simp [toL, mvL]
  | k + 1, hk => by
    have hk' : k < m.length := by omega
    rw [toL_next hk', toL_take h k (by omega)]
    have hno : ¬ hasG (mvL (m.take k)) m[k].src = true := fun hh => by
      obtain ⟨p, hp, he⟩ := hasG_iff.1 hh
      unfold mvL at hp
      obtain ⟨t, ht, rfl⟩ := List.mem_map.1 hp
      obtain ⟨j, hj, rfl⟩ := List.mem_iff_getElem.1 ht
      rw [List.length_take] at hj
      rw [List.getElem_take] at he
      have := h.up j k (by omega) hk' (by omega)
      dsimp only at he
      omega
    unfold putG
    rw [if_neg hno]
    unfold mvL
    rw [List.take_add_one, List.getElem?_eq_getElem hk', Option.toList_some, List.map_append]
    rfl
theorem toL_ris {m : List Mvd} (h : RisM m) : toL m = mvL m := by
  have := toL_take h m.length (Nat.le_refl _)
  rwa [List.take_length] at this
theorem RisM.zero {m : List Mvd} (h : RisM m) : hasM m 0 = false := by
  unfold hasM
  rw [findM_none.2 fun x hx => by have := h.rng x hx; omega]
  rfl
theorem mvL_len (m : List Mvd) : (mvL m).length = m.length := List.length_map ..
theorem idN_ok {L : List (Int × Int)} (h : ∀ p ∈ L, i64 p.1 ∧ i64 p.2) {id : Int} (hi : i64 id) : ∀ k, i64 (idN L id k)
  | 0 => hi
  | k + 1 => by
    show i64 ((findG L (idN L id k)).getD 0)
    unfold findG
    cases hq : L.find? fun p => decide (p.1 = idN L id k) with
    | none => exact i64_0
    | some p => exact (h p (List.mem_of_find?_eq_some hq)).2
theorem get_to {L : List (Int × Int)} (h : NkG L) (id : Int) : MGet (toM L) (kI id) (.v (.int .i64 0)) (.v (.int .i64 ((findG L id).getD 0))) :=
  mgetG (kv := kI) (dv := dI) kI_inj h id _ _ (by cases findG L id <;> rfl)
theorem getok_to {L : List (Int × Int)} (h : NkG L) (id : Int) : MGetOk (toM L) (kI id) (.v (.int .i64 0)) (.v (.int .i64 ((findG L id).getD 0))) (findG L id).isSome :=
  mgetokG (kv := kI) (dv := dI) kI_inj h id _ _ (by cases findG L id <;> rfl)
theorem put_to {m : List Mvd} {k : Nat} (hk : k < m.length) : MPut (toM (toL (m.take k))) (kI m[k].src) (.v (.int .i64 m[k].dst)) (toM (toL (m.take (k + 1)))) := by
  rw [toL_next hk]
  exact mputG (kv := kI) (dv := dI) kI_inj (toL_nk _) m[k].src m[k].dst
theorem to_len (L : List (Int × Int)) : (toM L).length = L.length := by simp [toM, encG]
theorem th_next {l : List Thg} {L : List (Int × Int)} {id : Int} {k : Nat} (h : ∀ j, j < k → thereB l (idN L id j) = false) (h2 : thereB l (idN L id k) = false) : ∀ j, j < k + 1 → thereB l (idN L id j) = false := fun j hj => by
  by_cases he : j = k
  · subst he; exact h2
  · exact h j (by omega)
theorem thm_next {c : Ctl} {L : List (Int × Int)} {id : Int} {k : Nat} (h : ∀ j, j < k → thereB c.things (idN L id j) = false ∧ hasM c.moved (idN L id j) = true) (h2 : thereB c.things (idN L id k) = false) (h3 : hasM c.moved (idN L id k) = true) : ∀ j, j < k + 1 → thereB c.things (idN L id j) = false ∧ hasM c.moved (idN L id j) = true := fun j hj => by
  by_cases he : j = k
  · subst he; exact ⟨h2, h3⟩
  · exact h j (by omega)
theorem mvd_a {c : Ctl} {k : Nat} {n : Int} (hk : k < c.moved.length) (hf : ffst (mvF c) k = 0) (h2 : mvF c k = n) (hn : n ≠ 0) : mvdF c = n := by
  have h3 := ffst_hit hf (by rw [h2]; exact hn) _ hk
  unfold mvdF
  rw [h3, h2, if_pos hn]
theorem mvd_b {c : Ctl} (hf : ffst (mvF c) c.moved.length = 0) : mvdF c = ffst (lpF c) c.moved.length := if_neg (by rw [hf]; exact fun h => h rfl)
theorem lp_14 {c : Ctl} {k : Nat} (hk : k < c.moved.length) (h : (ledC c c.moved[k].src).isSome = false) : lpF c k = 14 := by unfold lpF; rw [dif_pos hk, if_pos h]
theorem lp_0 {c : Ctl} {k : Nat} (hk : k < c.moved.length) (h : (ledC c c.moved[k].src).isSome = true) : lpF c k = 0 := by unfold lpF; rw [dif_pos hk, if_neg (by rw [h]; decide)]
theorem mvd_c {c : Ctl} {k : Nat} (hf : ffst (mvF c) c.moved.length = 0) (hk : k < c.moved.length) (h : ffst (lpF c) k = 0) (h2 : (ledC c c.moved[k].src).isSome = false) : mvdF c = 14 := by
  rw [mvd_b hf, ffst_hit h (by rw [lp_14 hk h2]; decide) _ hk, lp_14 hk h2]


set_option maxRecDepth 100000 in
set_option maxHeartbeats 1000000 in
theorem c_found (l : List Thg) (L : List (Int × Int)) (id : Int) (hl : ∀ x ∈ l, ThgOk x) (hn : RisT l) (hL : ∀ p ∈ L, i64 p.1 ∧ i64 p.2) (hk0 : NkG L) (hi : i64 id) (hll : L.length ≤ 300) : ACall Tryz.prog 84 [.fm (idxM l), .fm (toM L), .v (.int .i64 id)] (.tup [.v (.int .i64 ((ledP l L (L.length + 1) id).getD 0)), .v (.bool (ledP l L (L.length + 1) id).isSome)]) := by
  refine acall_of (n := 27) (ds' := [.v (.int .i64 ((ledP l L (L.length + 1) id).getD 0)), .v (.bool (ledP l L (L.length + 1) id).isSome)]) Tryz.func84 rfl (by kernel_rfl) rfl [6, 7] rfl rfl ?_
  intro B w0 F0 fr
  refine AWP.seq (AWP.region ?_)
  refine AOps.aD rfl rfl rfl rfl rfl ?_
  refine AOps.aD rfl rfl rfl rfl rfl (.nil ?_)
  refine AWP.seq ?_
  refine AWP.seq (AWP.region ?_)
  refine AOps.mD rfl rfl rfl rfl rfl ?_
  refine AOps.step rfl rfl rfl (AOp.lenF rfl mt_121 rfl) ?_
  rw [to_len]
  refine AOps.step rfl rfl rfl (AOp.add64 rfl rfl rfl (by omega) (by omega)) ?_
  refine AOps.mD rfl rfl rfl rfl rfl (.nil ?_)
  refine AWP.block ?_
  refine AWP.loop (G := Nat) (fun k => Env.of [(13, .d (.v (.int .i64 (k : Int)))), (12, .d (.v (.int .i64 ((L.length : Int) + 1)))), (2, .d (.v (.int .i64 (idN L id k)))), (0, .d (.fm (idxM l))), (1, .d (.fm (toM L)))]) (fun k => []) (fun k => k ≤ L.length + 1 ∧ ∀ j, j < k → thereB l (idN L id j) = false) (fun k => L.length + 1 - k) 0 ⟨Nat.zero_le _, fun j hj => by omega⟩ (Sub.less ⟨(SLe.of_eq rfl), SLe.refl _, (SLe.of_eq rfl), SLe.refl _, SLe.refl _, trivial⟩ (fun _ h => h)) ?_
  intro k hk
  refine AWP.seq (AWP.region ?_)
  refine AOps.step rfl rfl rfl (AOp.lss rfl rfl rfl) (.nil ?_)
  refine AWP.seq ?_
  refine AWP.cond rfl (fun h1 => ?_) (fun h1 => ?_)
  · replace h1 := of_decide_eq_true h1
    have hlt : k < L.length + 1 := by omega
    refine AWP.skip ?_
    refine AWP.seq ?_
    refine AWP.block ?_
    refine AWP.seq ?_
    refine AWP.seq (AWP.region ?_)
    refine AOps.mD rfl rfl rfl rfl rfl ?_
    refine AOps.mD rfl rfl rfl rfl rfl ?_
    refine AOps.step rfl rfl rfl (AOp.lookupOkF (key := kI (idN L id k)) rfl mt_idx kd_int zt_thg zd_thg rfl rfl (DExact.v _) (kI_ok (idN_ok hL hi k)) (idxM_keys hl) _ (getok_idx hn.nk _)) ?_
    refine AOps.mD rfl rfl rfl rfl rfl ?_
    refine AOps.step rfl rfl rfl (AOp.extract rfl rfl rfl) ?_
    refine AOps.step rfl rfl rfl (AOp.extract rfl rfl rfl) ?_
    refine AOps.alloc 101 rfl rfl rfl rfl zt_67 rfl rfl rfl ?_
    refine AOps.store rfl rfl rfl sz_67 rfl (.head _) rfl rfl rfl (Nat.le_of_ble_eq_true rfl) ?_
    refine AOps.freezeCells 8 (ds := (getT l (idN L id k)).ds) rfl (.head _) ?_
    refine AOps.aD rfl rfl rfl rfl rfl (.nil ?_)
    refine AWP.seq (AWP.region ?_)
    refine AOps.mD rfl rfl rfl rfl rfl (.nil ?_)
    refine AWP.cond rfl (fun h2 => ?_) (fun h2 => ?_)
    · skip
      rw [ledP_hit hlt hk.2 h2]
      refine AWP.seq (AWP.region ?_)
      refine AOps.mD rfl rfl rfl rfl rfl ?_
      refine AOps.aD rfl rfl rfl rfl rfl ?_
      refine AOps.aD rfl rfl rfl rfl rfl (.nil ?_)
      refine AWP.ret ?_
      refine ⟨RetD.eq rfl ?_, RetD.eq rfl ?_, trivial⟩
      all_goals (rfl)
    have HN := th_next hk.2 h2
    refine AWP.skip ?_
    refine AWP.region ?_
    refine AOps.mD rfl rfl rfl rfl rfl ?_
    refine AOps.mD rfl rfl rfl rfl rfl ?_
    refine AOps.step rfl rfl rfl (AOp.lookupF (key := kI (idN L id k)) rfl mt_to kd_int zt_int zd_int rfl rfl (DExact.v _) (kI_ok (idN_ok hL hi k)) (toM_keys fun p hp => (hL p hp).1) (get_to hk0 _)) ?_
    refine AOps.aD rfl rfl rfl rfl rfl (.nil ?_)
    refine AWP.region ?_
    refine AOps.step rfl rfl rfl (AOp.add64 rfl rfl rfl (by omega) (by omega)) ?_
    refine AOps.mD rfl rfl rfl rfl rfl (.nil ?_)
    refine ⟨k + 1, ⟨by omega, HN⟩, (by dsimp only; omega), Sub.less ⟨(SLe.of_eq rfl), SLe.refl _, (SLe.of_eq rfl), SLe.refl _, SLe.refl _, trivial⟩ (fun _ h => h)⟩
  replace h1 := of_decide_eq_false h1
  rw [ledP_no (fun j hj => hk.2 j (by omega))]
  refine AWP.exit ?_
  refine AWP.seq (AWP.region ?_)
  refine AOps.aD rfl rfl rfl rfl rfl ?_
  refine AOps.aD rfl rfl rfl rfl rfl (.nil ?_)
  refine AWP.ret ?_
  refine ⟨RetD.eq rfl ?_, RetD.eq rfl ?_, trivial⟩
  all_goals (rfl)

set_option maxRecDepth 100000 in
set_option maxHeartbeats 1000000 in
theorem c_find (c : Ctl) (id : Int) (hl : Lim c) : ACall Tryz.prog 95 [.agg c.ds, .v (.int .i64 id)] (.tup [.v (.int .i64 ((ledC c id).getD 0)), .v (.bool (ledC c id).isSome)]) := by
  refine acall_of (n := 34) (ds' := [.v (.int .i64 ((ledC c id).getD 0)), .v (.bool (ledC c id).isSome)]) Tryz.func95 rfl (by kernel_rfl) rfl [4, 5] rfl rfl ?_
  intro B w0 F0 fr
  have hl2 := hl.2
  refine AWP.seq (AWP.region ?_)
  refine AOps.step rfl rfl rfl (AOp.box rfl rfl rfl) ?_
  refine AOps.aD rfl rfl rfl rfl rfl ?_
  refine AOps.aD rfl rfl rfl rfl rfl (.nil ?_)
  refine AWP.seq ?_
  refine AWP.seq (AWP.region ?_)
  refine AOps.step rfl rfl rfl (AOp.fieldAddr rfl fo_25_1 rfl) ?_
  refine AOps.step rfl rfl rfl (AOp.load rfl sc_23 rfl) ?_
  refine AOps.step rfl rfl rfl (AOp.lenSl rfl et_23.ht rfl) ?_
  rw [List.length_map]
  refine AOps.step rfl rfl rfl (AOp.add64 rfl rfl rfl (by omega) (by omega)) ?_
  refine AOps.mD rfl rfl rfl rfl rfl (.nil ?_)
  refine AWP.block ?_
  refine AWP.loop (G := Nat) (fun k => Env.of [(14, .d (.v (.int .i64 (k : Int)))), (13, .d (.v (.int .i64 ((c.moved.length : Int) + 1)))), (1, .d (.v (.int .i64 (idN (mvL c.moved) id k)))), (2, .d (.fp c.ds))]) (fun k => []) (fun k => k ≤ c.moved.length + 1 ∧ ∀ j, j < k → thereB c.things (idN (mvL c.moved) id j) = false ∧ hasM c.moved (idN (mvL c.moved) id j) = true) (fun k => c.moved.length + 1 - k) 0 ⟨Nat.zero_le _, fun j hj => by omega⟩ (Sub.less ⟨(SLe.of_eq rfl), SLe.refl _, (SLe.of_eq rfl), SLe.refl _, trivial⟩ (fun _ h => h)) ?_
  intro k hk
  refine AWP.seq (AWP.region ?_)
  refine AOps.step rfl rfl rfl (AOp.lss rfl rfl rfl) (.nil ?_)
  refine AWP.seq ?_
  refine AWP.cond rfl (fun h1 => ?_) (fun h1 => ?_)
  · replace h1 := of_decide_eq_true h1
    have hlt : k < c.moved.length + 1 := by omega
    refine AWP.skip ?_
    refine AWP.seq ?_
    refine AWP.block ?_
    refine AWP.seq ?_
    refine AWP.seq (AWP.region ?_)
    refine AOps.step rfl rfl rfl (AOp.loadAgg rfl ag_25 rfl rfl) ?_
    refine AOps.mD rfl rfl rfl rfl rfl ?_
    refine AOps.step rfl rfl rfl (AOp.call rfl (.cons (ArgOk.rfl' rfl) (.cons (ArgOk.rfl' rfl) .nil)) (c_thing c _ hl)) ?_
    refine AOps.mD rfl rfl rfl rfl rfl ?_
    refine AOps.step rfl rfl rfl (AOp.extract rfl rfl rfl) ?_
    refine AOps.step rfl rfl rfl (AOp.extract rfl rfl rfl) ?_
    refine AOps.alloc 101 rfl rfl rfl rfl zt_67 rfl rfl rfl ?_
    refine AOps.store rfl rfl rfl sz_67 rfl (.head _) rfl rfl rfl (Nat.le_of_ble_eq_true rfl) ?_
    refine AOps.freezeCells 6 (ds := (getT c.things (idN (mvL c.moved) id k)).ds) rfl (.head _) ?_
    refine AOps.aD rfl rfl rfl rfl rfl (.nil ?_)
    refine AWP.seq (AWP.region ?_)
    refine AOps.mD rfl rfl rfl rfl rfl (.nil ?_)
    refine AWP.cond rfl (fun h2 => ?_) (fun h2 => ?_)
    · skip
      rw [show ledC c id = _ from led_hit hlt hk.2 h2]
      refine AWP.seq (AWP.region ?_)
      refine AOps.mD rfl rfl rfl rfl rfl ?_
      refine AOps.aD rfl rfl rfl rfl rfl ?_
      refine AOps.aD rfl rfl rfl rfl rfl (.nil ?_)
      refine AWP.ret ?_
      refine ⟨RetD.eq rfl ?_, RetD.eq rfl ?_, trivial⟩
      all_goals (rfl)
    have hth := h2
    refine AWP.skip ?_
    refine AWP.seq (AWP.region ?_)
    refine AOps.step rfl rfl rfl (AOp.loadAgg rfl ag_25 rfl rfl) ?_
    refine AOps.mD rfl rfl rfl rfl rfl ?_
    refine AOps.step rfl rfl rfl (AOp.call rfl (.cons (ArgOk.rfl' rfl) (.cons (ArgOk.rfl' rfl) .nil)) (c_moved c _ hl)) ?_
    refine AOps.mD rfl rfl rfl rfl rfl ?_
    refine AOps.step rfl rfl rfl (AOp.extract rfl rfl rfl) ?_
    refine AOps.step rfl rfl rfl (AOp.extract rfl rfl rfl) ?_
    refine AOps.aD rfl rfl rfl rfl rfl ?_
    refine AOps.aD rfl rfl rfl rfl rfl (.nil ?_)
    refine AWP.seq ?_
    refine AWP.seq (AWP.region ?_)
    refine AOps.mD rfl rfl rfl rfl rfl ?_
    refine AOps.step rfl rfl rfl (AOp.not rfl rfl) (.nil ?_)
    refine AWP.cond rfl (fun h3 => ?_) (fun h3 => ?_)
    · replace h3 := bnot_t h3
      rw [show ledC c id = none from led_gone hlt hk.2 hth h3]
      refine AWP.seq (AWP.region ?_)
      refine AOps.aD rfl rfl rfl rfl rfl ?_
      refine AOps.aD rfl rfl rfl rfl rfl (.nil ?_)
      refine AWP.ret ?_
      refine ⟨RetD.eq rfl ?_, RetD.eq rfl ?_, trivial⟩
      all_goals (rfl)
    replace h3 := bnot_f h3
    have HN := thm_next hk.2 hth h3
    refine AWP.skip ?_
    refine AWP.region ?_
    refine AOps.mD rfl rfl rfl rfl rfl ?_
    refine AOps.aD rfl rfl rfl rfl rfl (.nil ?_)
    refine AWP.region ?_
    refine AOps.step rfl rfl rfl (AOp.add64 rfl rfl rfl (by omega) (by omega)) ?_
    refine AOps.mD rfl rfl rfl rfl rfl (.nil ?_)
    refine ⟨k + 1, ⟨by omega, HN⟩, (by dsimp only; omega), Sub.less ⟨(SLe.of_eq rfl), SLe.refl _, (SLe.of_eq rfl), SLe.refl _, trivial⟩ (fun _ h => h)⟩
  replace h1 := of_decide_eq_false h1
  rw [show ledC c id = none from led_no (fun j hj => hk.2 j (by omega))]
  refine AWP.exit ?_
  refine AWP.seq (AWP.region ?_)
  refine AOps.aD rfl rfl rfl rfl rfl ?_
  refine AOps.aD rfl rfl rfl rfl rfl (.nil ?_)
  refine AWP.ret ?_
  refine ⟨RetD.eq rfl ?_, RetD.eq rfl ?_, trivial⟩
  all_goals (rfl)

end Go.Proofs.YtcilhhkmgebkeaaGreatDoor


namespace Go.Proofs.YtcilhhkmgebkeaaGreatDoor
open Go.RowKit
set_option linter.unusedVariables false

/-! Types. -/
namespace TyKF
theorem ag_25 : AggT Tryz.prog 25 2 := .of (by kernel_rfl)
theorem ag_46 : AggT Tryz.prog 46 2 := .of (by kernel_rfl)
theorem et_23 : ElemTy Tryz.prog 23 46 2 16 (.agg #[(.int .i64 0), (.int .i64 0)]) := ⟨by kernel_rfl, by kernel_rfl, by kernel_rfl, by decide⟩
theorem fo_25_1 : fieldOff Tryz.prog 25 1 = some 1 := by kernel_rfl
theorem fo_46_0 : fieldOff Tryz.prog 46 0 = some 0 := by kernel_rfl
theorem fo_46_1 : fieldOff Tryz.prog 46 1 = some 1 := by kernel_rfl
theorem sc_23 : Scal Tryz.prog 23 := .of (by kernel_rfl)
theorem sc_3 : Scal Tryz.prog 3 := .of (by kernel_rfl)
theorem sz_46 : ∀ w, (sizeOf 46).run Tryz.prog w = .ok 2 w := SizeT.of (by kernel_rfl)
theorem sz_67 : ∀ w, (sizeOf 67).run Tryz.prog w = .ok 7 w := SizeT.of (by kernel_rfl)
theorem zt_46 : (Tryz.prog.info? 46).bind (·.zero) = some (.agg #[(.int .i64 0), (.int .i64 0)]) := by kernel_rfl
theorem zt_67 : (Tryz.prog.info? 67).bind (·.zero) = some (.agg #[(.int .i64 0), (.int .i64 0), (.string ⟨#[]⟩), (.string ⟨#[]⟩), (.int .i64 0), (.int .i64 0), (.slice none 0 0)]) := by kernel_rfl
end TyKF
open TyKF


theorem led_ris {c : Ctl} (hr : RisT c.things) (hm : RisM c.moved) (n : Nat) (id : Int) : ledP c.things (mvL c.moved) n id = led c n id := ledP_same hr.zero hm.zero n id
theorem led_def (c : Ctl) (id : Int) : led c ((mvL c.moved).length + 1) id = ledC c id := by rw [mvL_len]; rfl


set_option maxRecDepth 100000 in
set_option maxHeartbeats 1000000 in
theorem c_pMvd (c : Ctl) (hl : Lim c) (hc : CtlOk c) (hr : RisT c.things) : ACall Tryz.prog 54 [.agg c.ds, .fm (idxM c.things)] (.v (.int .i64 (mvdF c))) := by
  refine acall_of (n := 111) (ds' := [.v (.int .i64 (mvdF c))]) Tryz.func54 rfl (by kernel_rfl) rfl [4] rfl rfl ?_
  intro B w0 F0 fr
  have hl2 := hl.2
  refine AWP.seq (AWP.region ?_)
  refine AOps.step rfl rfl rfl (AOp.box rfl rfl rfl) ?_
  refine AOps.aD rfl rfl rfl rfl rfl (.nil ?_)
  refine AWP.seq (AWP.region ?_)
  refine AOps.makeMap 91 rfl rfl rfl rfl rfl ?_
  refine AOps.step rfl rfl rfl (AOp.assignO rfl rfl) (.nil ?_)
  refine AWP.seq ?_
  refine AWP.seq (AWP.region ?_)
  refine AOps.step rfl rfl rfl (AOp.fieldAddr rfl fo_25_1 rfl) ?_
  refine AOps.step rfl rfl rfl (AOp.load rfl sc_23 rfl) ?_
  refine AOps.step rfl rfl rfl (AOp.lenSl rfl et_23.ht rfl) ?_
  refine AOps.mD rfl rfl rfl rfl rfl (.nil ?_)
  refine AWP.block ?_
  refine AWP.loop (G := Nat) (fun k => Env.of [(24, .d (.v (.int .i64 (k : Int)))), (22, .d (.sl (c.moved.map Mvd.ds))), (23, .d (.v (.int .i64 ((c.moved.map Mvd.ds).length : Int)))), (5, .own 91), (2, .d (.fp c.ds)), (1, .d (.fm (idxM c.things)))]) (fun k => [(91, .map (toM (toL (c.moved.take k))))]) (fun k => k ≤ c.moved.length) (fun k => c.moved.length - k) 0 (Nat.zero_le _) (Sub.less ⟨(SLe.of_eq rfl), SLe.refl _, SLe.refl _, SLe.refl _, SLe.refl _, SLe.refl _, trivial⟩ (map_1 rfl)) ?_
  intro k hk
  refine AWP.seq (AWP.region ?_)
  refine AOps.step rfl rfl rfl (AOp.lss rfl rfl rfl) (.nil ?_)
  refine AWP.seq ?_
  refine AWP.cond rfl (fun h1 => ?_) (fun h1 => ?_)
  · replace h1 := of_decide_eq_true h1
    rw [List.length_map] at h1
    have hlt : k < c.moved.length := by omega
    have hbk := hc.moved _ (List.getElem_mem hlt)
    refine AWP.skip ?_
    refine AWP.seq ?_
    refine AWP.block ?_
    refine AWP.seq (AWP.region ?_)
    refine AOps.step rfl rfl rfl (AOp.indexAddr rfl et_23 rfl rfl k rfl (at_lst hlt) rfl) ?_
    refine AOps.step rfl rfl rfl (AOp.loadAgg rfl ag_46 rfl rfl) ?_
    refine AOps.alloc 102 rfl rfl rfl rfl zt_46 rfl rfl rfl ?_
    refine AOps.store rfl rfl rfl sz_46 rfl (.head _) rfl rfl rfl (Nat.le_of_ble_eq_true rfl) ?_
    refine AOps.freezeCells 7 (ds := c.moved[k].ds) rfl (.head _) (.nil ?_)
    refine AWP.region ?_
    refine AOps.step rfl rfl rfl (AOp.moveO rfl rfl) ?_
    refine AOps.step rfl rfl rfl (AOp.fieldAddr rfl fo_46_0 rfl) ?_
    refine AOps.step rfl rfl rfl (AOp.load rfl sc_3 rfl) ?_
    refine AOps.step rfl rfl rfl (AOp.fieldAddr rfl fo_46_1 rfl) ?_
    refine AOps.step rfl rfl rfl (AOp.load rfl sc_3 rfl) ?_
    refine AOps.eff rfl rfl (EOp.mapUpdateX (key := kI c.moved[k].src) rfl rfl mt_to kd_int rfl (.head _) rfl (DExact.v _) rfl (kI_ok hbk.1) (toM_keys fun p hp => (toL_ok (fun x hx => hc.moved x (List.mem_of_mem_take hx)) p hp).1) (put_to hlt)) (.nil ?_)
    refine AWP.region ?_
    refine AOps.step rfl rfl rfl (AOp.add64 rfl rfl rfl (by omega) (by omega)) ?_
    refine AOps.mD rfl rfl rfl rfl rfl (.nil ?_)
    refine ⟨k + 1, (by omega), (by dsimp only; omega), Sub.less ⟨(SLe.of_eq rfl), SLe.refl _, SLe.refl _, SLe.refl _, SLe.refl _, SLe.refl _, trivial⟩ (map_1 rfl)⟩
  replace h1 := of_decide_eq_false h1
  rw [List.length_map] at h1
  obtain rfl : k = c.moved.length := by omega
  rw [List.take_length]
  refine AWP.exit ?_
  refine AWP.seq ?_
  refine AWP.seq ?_
  refine AWP.freezeMap 5 rfl (.head _) ?_
  refine AWP.region ?_
  refine AOps.step rfl rfl rfl (AOp.fieldAddr rfl fo_25_1 rfl) ?_
  refine AOps.step rfl rfl rfl (AOp.load rfl sc_23 rfl) ?_
  refine AOps.step rfl rfl rfl (AOp.lenSl rfl et_23.ht rfl) ?_
  refine AOps.mD rfl rfl rfl rfl rfl (.nil ?_)
  refine AWP.block ?_
  refine AWP.loop (G := Nat) (fun k => Env.of [(37, .d (.v (.int .i64 (k : Int)))), (35, .d (.sl (c.moved.map Mvd.ds))), (36, .d (.v (.int .i64 ((c.moved.map Mvd.ds).length : Int)))), (5, .d (.fm (toM (toL c.moved)))), (2, .d (.fp c.ds)), (1, .d (.fm (idxM c.things)))]) (fun k => []) (fun k => k ≤ c.moved.length ∧ ffst (mvF c) k = 0) (fun k => c.moved.length - k) 0 ⟨Nat.zero_le _, rfl⟩ (Sub.less ⟨(SLe.of_eq rfl), SLe.refl _, SLe.refl _, SLe.refl _, SLe.refl _, SLe.refl _, trivial⟩ (fun _ h => h)) ?_
  intro k hk
  refine AWP.seq (AWP.region ?_)
  refine AOps.step rfl rfl rfl (AOp.lss rfl rfl rfl) (.nil ?_)
  refine AWP.seq ?_
  refine AWP.cond rfl (fun h2 => ?_) (fun h2 => ?_)
  · replace h2 := of_decide_eq_true h2
    rw [List.length_map] at h2
    have hlt : k < c.moved.length := by omega
    have hbk := hc.moved _ (List.getElem_mem hlt)
    refine AWP.skip ?_
    refine AWP.seq ?_
    refine AWP.block ?_
    refine AWP.seq (AWP.region ?_)
    refine AOps.mD rfl rfl rfl rfl rfl ?_
    refine AOps.step rfl rfl rfl (AOp.indexAddr rfl et_23 rfl rfl k rfl (at_lst hlt) rfl) ?_
    refine AOps.step rfl rfl rfl (AOp.loadAgg rfl ag_46 rfl rfl) ?_
    refine AOps.alloc 103 rfl rfl rfl rfl zt_46 rfl rfl rfl ?_
    refine AOps.aD rfl rfl rfl rfl rfl ?_
    refine AOps.store rfl rfl rfl sz_46 rfl (.head _) rfl rfl rfl (Nat.le_of_ble_eq_true rfl) ?_
    refine AOps.freezeCells 9 (ds := c.moved[k].ds) rfl (.head _) (.nil ?_)
    refine AWP.seq ?_
    refine AWP.seq (AWP.region ?_)
    refine AOps.step rfl rfl rfl (AOp.fieldAddr rfl fo_46_0 rfl) ?_
    refine AOps.step rfl rfl rfl (AOp.load rfl sc_3 rfl) ?_
    refine AOps.step rfl rfl rfl (AOp.lss rfl rfl rfl) ?_
    refine AOps.mD rfl rfl rfl rfl rfl ?_
    refine AOps.split 45 rfl (fun g3 => ?_) (fun g3 => ?_)
    · replace g3 := of_decide_eq_true g3
      refine AOps.pass ⟨45, rfl, .inl ⟨_, rfl, rfl⟩⟩ rfl rfl ?_
      refine AOps.pass ⟨45, rfl, .inl ⟨_, rfl, rfl⟩⟩ rfl rfl ?_
      refine AOps.pass ⟨45, rfl, .inl ⟨_, rfl, rfl⟩⟩ rfl rfl ?_
      refine AOps.step rfl rfl rfl (AOp.pickT rfl rfl rfl) (.nil ?_)
      refine AWP.cond rfl (fun _ => ?_) (fun h => nomatch h)
      refine AWP.seq (AWP.region ?_)
      refine AOps.aD rfl rfl rfl rfl rfl (.nil ?_)
      refine AWP.ret ?_
      refine ⟨RetD.eq rfl ?_, trivial⟩
      all_goals (first | rw [HR] | rw [mvd_a hlt hk.2 (show mvF c k = 1 from by unfold mvF; rw [dif_pos hlt]; (first | (exfalso; omega) | ((repeat (first | rw [if_pos (by first | assumption | omega)] | rw [if_neg (by first | assumption | omega)])); first | done | rfl | omega | decide))) (by decide)] | rw [mvd_a hlt hk.2 (show mvF c k = 8 from by unfold mvF; rw [dif_pos hlt]; (first | (exfalso; omega) | ((repeat (first | rw [if_pos (by first | assumption | omega)] | rw [if_neg (by first | assumption | omega)])); first | done | rfl | omega | decide))) (by decide)] | rw [mvd_a hlt hk.2 (show mvF c k = 7 from by unfold mvF; rw [dif_pos hlt]; (first | (exfalso; omega) | ((repeat (first | rw [if_pos (by first | assumption | omega)] | rw [if_neg (by first | assumption | omega)])); first | done | rfl | omega | decide))) (by decide)] | rw [mvd_a hlt hk.2 (show mvF c k = 9 from by unfold mvF; rw [dif_pos hlt]; (first | (exfalso; omega) | ((repeat (first | rw [if_pos (by first | assumption | omega)] | rw [if_neg (by first | assumption | omega)])); first | done | rfl | omega | decide))) (by decide)])
    replace g3 := of_decide_eq_false g3
    refine AOps.step ⟨45, rfl, .inl ⟨_, rfl, rfl⟩⟩ rfl rfl (AOp.fieldAddr rfl fo_46_0 rfl) ?_
    refine AOps.step ⟨45, rfl, .inl ⟨_, rfl, rfl⟩⟩ rfl rfl (AOp.load rfl sc_3 rfl) ?_
    refine AOps.step ⟨45, rfl, .inl ⟨_, rfl, rfl⟩⟩ rfl rfl (AOp.gtr rfl rfl rfl) ?_
    refine AOps.step rfl rfl rfl (AOp.pickF rfl rfl rfl) (.nil ?_)
    refine AWP.cond rfl (fun h4 => ?_) (fun h4 => ?_)
    · replace h4 := of_decide_eq_true h4
      refine AWP.seq (AWP.region ?_)
      refine AOps.aD rfl rfl rfl rfl rfl (.nil ?_)
      refine AWP.ret ?_
      refine ⟨RetD.eq rfl ?_, trivial⟩
      all_goals (first | rw [HR] | rw [mvd_a hlt hk.2 (show mvF c k = 1 from by unfold mvF; rw [dif_pos hlt]; (first | (exfalso; omega) | ((repeat (first | rw [if_pos (by first | assumption | omega)] | rw [if_neg (by first | assumption | omega)])); first | done | rfl | omega | decide))) (by decide)] | rw [mvd_a hlt hk.2 (show mvF c k = 8 from by unfold mvF; rw [dif_pos hlt]; (first | (exfalso; omega) | ((repeat (first | rw [if_pos (by first | assumption | omega)] | rw [if_neg (by first | assumption | omega)])); first | done | rfl | omega | decide))) (by decide)] | rw [mvd_a hlt hk.2 (show mvF c k = 7 from by unfold mvF; rw [dif_pos hlt]; (first | (exfalso; omega) | ((repeat (first | rw [if_pos (by first | assumption | omega)] | rw [if_neg (by first | assumption | omega)])); first | done | rfl | omega | decide))) (by decide)] | rw [mvd_a hlt hk.2 (show mvF c k = 9 from by unfold mvF; rw [dif_pos hlt]; (first | (exfalso; omega) | ((repeat (first | rw [if_pos (by first | assumption | omega)] | rw [if_neg (by first | assumption | omega)])); first | done | rfl | omega | decide))) (by decide)])
    replace h4 := of_decide_eq_false h4
    refine AWP.skip ?_
    refine AWP.seq ?_
    refine AWP.seq ?_
    refine AWP.draw (by kernel_rfl) (by kernel_rfl) ?_
    refine DRun.step rfl rfl rfl (AOp.moveD rfl rfl) ?_
    refine DRun.step rfl rfl rfl (AOp.gtr rfl rfl rfl) ?_
    refine DRun.step rfl rfl rfl (AOp.moveD rfl rfl) ?_
    refine DRun.split 52 rfl (fun g5 => ?_) (fun g5 => ?_)
    · replace g5 := of_decide_eq_true g5
      have hk0 : 0 < k := by omega
      refine DRun.step ⟨52, rfl, .inl ⟨_, rfl, rfl⟩⟩ rfl rfl (AOp.fieldAddr rfl fo_46_0 rfl) ?_
      refine DRun.step ⟨52, rfl, .inl ⟨_, rfl, rfl⟩⟩ rfl rfl (AOp.load rfl sc_3 rfl) ?_
      refine DRun.step ⟨52, rfl, .inl ⟨_, rfl, rfl⟩⟩ rfl rfl (AOp.fieldAddr rfl fo_25_1 rfl) ?_
      refine DRun.step ⟨52, rfl, .inl ⟨_, rfl, rfl⟩⟩ rfl rfl (AOp.load rfl sc_23 rfl) ?_
      refine DRun.step ⟨52, rfl, .inl ⟨_, rfl, rfl⟩⟩ rfl rfl (AOp.moveD rfl rfl) ?_
      refine DRun.step ⟨52, rfl, .inl ⟨_, rfl, rfl⟩⟩ rfl rfl (AOp.sub64 rfl rfl rfl (by omega) (by omega)) ?_
      refine DRun.step ⟨52, rfl, .inl ⟨_, rfl, rfl⟩⟩ rfl rfl (AOp.indexAddr rfl et_23 rfl rfl (k - 1) (by omega) (at_lst (by omega)) rfl) ?_
      refine DRun.step ⟨52, rfl, .inl ⟨_, rfl, rfl⟩⟩ rfl rfl (AOp.fieldAddr rfl fo_46_0 rfl) ?_
      refine DRun.step ⟨52, rfl, .inl ⟨_, rfl, rfl⟩⟩ rfl rfl (AOp.load rfl sc_3 rfl) ?_
      refine DRun.step ⟨52, rfl, .inl ⟨_, rfl, rfl⟩⟩ rfl rfl (AOp.leq rfl rfl rfl) ?_
      refine DRun.step rfl rfl rfl (AOp.pickT rfl rfl rfl) ?_
      refine DRun.nil ?_
      refine AWP.cond rfl (fun h6 => ?_) (fun h6 => ?_)
      · replace h6 := of_decide_eq_true h6
        refine AWP.seq (AWP.region ?_)
        refine AOps.aD rfl rfl rfl rfl rfl (.nil ?_)
        refine AWP.ret ?_
        refine ⟨RetD.eq rfl ?_, trivial⟩
        all_goals (first | rw [HR] | rw [mvd_a hlt hk.2 (show mvF c k = 1 from by unfold mvF; rw [dif_pos hlt]; (first | (exfalso; omega) | ((repeat (first | rw [if_pos (by first | assumption | omega)] | rw [if_neg (by first | assumption | omega)])); first | done | rfl | omega | decide))) (by decide)] | rw [mvd_a hlt hk.2 (show mvF c k = 8 from by unfold mvF; rw [dif_pos hlt]; (first | (exfalso; omega) | ((repeat (first | rw [if_pos (by first | assumption | omega)] | rw [if_neg (by first | assumption | omega)])); first | done | rfl | omega | decide))) (by decide)] | rw [mvd_a hlt hk.2 (show mvF c k = 7 from by unfold mvF; rw [dif_pos hlt]; (first | (exfalso; omega) | ((repeat (first | rw [if_pos (by first | assumption | omega)] | rw [if_neg (by first | assumption | omega)])); first | done | rfl | omega | decide))) (by decide)] | rw [mvd_a hlt hk.2 (show mvF c k = 9 from by unfold mvF; rw [dif_pos hlt]; (first | (exfalso; omega) | ((repeat (first | rw [if_pos (by first | assumption | omega)] | rw [if_neg (by first | assumption | omega)])); first | done | rfl | omega | decide))) (by decide)])
      replace h6 := of_decide_eq_false h6
      refine AWP.skip ?_
      refine AWP.seq ?_
      refine AWP.seq (AWP.region ?_)
      refine AOps.mD rfl rfl rfl rfl rfl ?_
      refine AOps.step rfl rfl rfl (AOp.fieldAddr rfl fo_46_0 rfl) ?_
      refine AOps.step rfl rfl rfl (AOp.load rfl sc_3 rfl) ?_
      refine AOps.step rfl rfl rfl (AOp.lookupOkF (key := kI c.moved[k].src) rfl mt_idx kd_int zt_thg zd_thg rfl rfl (DExact.v _) (kI_ok hbk.1) (idxM_keys hc.things) _ (getok_idx hr.nk _)) ?_
      refine AOps.mD rfl rfl rfl rfl rfl ?_
      refine AOps.step rfl rfl rfl (AOp.extract rfl rfl rfl) ?_
      refine AOps.step rfl rfl rfl (AOp.extract rfl rfl rfl) ?_
      refine AOps.alloc 104 rfl rfl rfl rfl zt_67 rfl rfl rfl ?_
      refine AOps.store rfl rfl rfl sz_67 rfl (.head _) rfl rfl rfl (Nat.le_of_ble_eq_true rfl) ?_
      refine AOps.freezeCells 10 (ds := (getT c.things c.moved[k].src).ds) rfl (.head _) ?_
      refine AOps.aD rfl rfl rfl rfl rfl (.nil ?_)
      refine AWP.seq (AWP.region ?_)
      refine AOps.mD rfl rfl rfl rfl rfl (.nil ?_)
      refine AWP.cond rfl (fun h7 => ?_) (fun h7 => ?_)
      · skip
        have n7 := h7
        refine AWP.seq (AWP.region ?_)
        refine AOps.aD rfl rfl rfl rfl rfl (.nil ?_)
        refine AWP.ret ?_
        refine ⟨RetD.eq rfl ?_, trivial⟩
        all_goals (first | rw [HR] | rw [mvd_a hlt hk.2 (show mvF c k = 1 from by unfold mvF; rw [dif_pos hlt]; (first | (exfalso; omega) | ((repeat (first | rw [if_pos (by first | assumption | omega)] | rw [if_neg (by first | assumption | omega)])); first | done | rfl | omega | decide))) (by decide)] | rw [mvd_a hlt hk.2 (show mvF c k = 8 from by unfold mvF; rw [dif_pos hlt]; (first | (exfalso; omega) | ((repeat (first | rw [if_pos (by first | assumption | omega)] | rw [if_neg (by first | assumption | omega)])); first | done | rfl | omega | decide))) (by decide)] | rw [mvd_a hlt hk.2 (show mvF c k = 7 from by unfold mvF; rw [dif_pos hlt]; (first | (exfalso; omega) | ((repeat (first | rw [if_pos (by first | assumption | omega)] | rw [if_neg (by first | assumption | omega)])); first | done | rfl | omega | decide))) (by decide)] | rw [mvd_a hlt hk.2 (show mvF c k = 9 from by unfold mvF; rw [dif_pos hlt]; (first | (exfalso; omega) | ((repeat (first | rw [if_pos (by first | assumption | omega)] | rw [if_neg (by first | assumption | omega)])); first | done | rfl | omega | decide))) (by decide)])
      have n7 : ¬ thereB c.things c.moved[k].src = true := by rw [h7]; decide
      refine AWP.skip ?_
      refine AWP.seq (AWP.region ?_)
      refine AOps.mD rfl rfl rfl rfl rfl ?_
      refine AOps.step rfl rfl rfl (AOp.fieldAddr rfl fo_46_1 rfl) ?_
      refine AOps.step rfl rfl rfl (AOp.load rfl sc_3 rfl) ?_
      refine AOps.step rfl rfl rfl (AOp.lookupOkF (key := kI c.moved[k].dst) rfl mt_idx kd_int zt_thg zd_thg rfl rfl (DExact.v _) (kI_ok hbk.2) (idxM_keys hc.things) _ (getok_idx hr.nk _)) ?_
      refine AOps.mD rfl rfl rfl rfl rfl ?_
      refine AOps.step rfl rfl rfl (AOp.extract rfl rfl rfl) ?_
      refine AOps.step rfl rfl rfl (AOp.extract rfl rfl rfl) ?_
      refine AOps.alloc 105 rfl rfl rfl rfl zt_67 rfl rfl rfl ?_
      refine AOps.store rfl rfl rfl sz_67 rfl (.head _) rfl rfl rfl (Nat.le_of_ble_eq_true rfl) ?_
      refine AOps.freezeCells 12 (ds := (getT c.things c.moved[k].dst).ds) rfl (.head _) ?_
      refine AOps.aD rfl rfl rfl rfl rfl (.nil ?_)
      refine AWP.seq (AWP.region ?_)
      refine AOps.mD rfl rfl rfl rfl rfl ?_
      refine AOps.step rfl rfl rfl (AOp.fieldAddr rfl fo_46_1 rfl) ?_
      refine AOps.step rfl rfl rfl (AOp.load rfl sc_3 rfl) ?_
      refine AOps.step rfl rfl rfl (AOp.lookupOkF (key := kI c.moved[k].dst) rfl mt_to kd_int zt_int zd_int rfl rfl (DExact.v _) (kI_ok hbk.2) (toM_keys fun p hp => (toL_ok hc.moved p hp).1) _ (getok_to (toL_nk _) _)) ?_
      rw [toL_has]
      refine AOps.mD rfl rfl rfl rfl rfl ?_
      refine AOps.step rfl rfl rfl (AOp.extract rfl rfl rfl) ?_
      refine AOps.step rfl rfl rfl (AOp.extract rfl rfl rfl) ?_
      refine AOps.aD rfl rfl rfl rfl rfl ?_
      refine AOps.aD rfl rfl rfl rfl rfl (.nil ?_)
      refine AWP.seq (AWP.region ?_)
      refine AOps.mD rfl rfl rfl rfl rfl ?_
      refine AOps.step rfl rfl rfl (AOp.not rfl rfl) ?_
      refine AOps.mD rfl rfl rfl rfl rfl ?_
      refine AOps.split 88 rfl (fun g8 => ?_) (fun g8 => ?_)
      · replace g8 := bnot_t g8
        have hnd := g8
        refine AOps.step ⟨88, rfl, .inl ⟨_, rfl, rfl⟩⟩ rfl rfl (AOp.moveD rfl rfl) ?_
        refine AOps.step ⟨88, rfl, .inl ⟨_, rfl, rfl⟩⟩ rfl rfl (AOp.not rfl rfl) ?_
        refine AOps.step rfl rfl rfl (AOp.pickT rfl rfl rfl) (.nil ?_)
        refine AWP.cond rfl (fun h9 => ?_) (fun h9 => ?_)
        · replace h9 := bnot_t h9
          have n9 := And.intro hnd h9
          refine AWP.seq (AWP.region ?_)
          refine AOps.aD rfl rfl rfl rfl rfl (.nil ?_)
          refine AWP.ret ?_
          refine ⟨RetD.eq rfl ?_, trivial⟩
          all_goals (first | rw [HR] | rw [mvd_a hlt hk.2 (show mvF c k = 1 from by unfold mvF; rw [dif_pos hlt]; (first | (exfalso; omega) | ((repeat (first | rw [if_pos (by first | assumption | omega)] | rw [if_neg (by first | assumption | omega)])); first | done | rfl | omega | decide))) (by decide)] | rw [mvd_a hlt hk.2 (show mvF c k = 8 from by unfold mvF; rw [dif_pos hlt]; (first | (exfalso; omega) | ((repeat (first | rw [if_pos (by first | assumption | omega)] | rw [if_neg (by first | assumption | omega)])); first | done | rfl | omega | decide))) (by decide)] | rw [mvd_a hlt hk.2 (show mvF c k = 7 from by unfold mvF; rw [dif_pos hlt]; (first | (exfalso; omega) | ((repeat (first | rw [if_pos (by first | assumption | omega)] | rw [if_neg (by first | assumption | omega)])); first | done | rfl | omega | decide))) (by decide)] | rw [mvd_a hlt hk.2 (show mvF c k = 9 from by unfold mvF; rw [dif_pos hlt]; (first | (exfalso; omega) | ((repeat (first | rw [if_pos (by first | assumption | omega)] | rw [if_neg (by first | assumption | omega)])); first | done | rfl | omega | decide))) (by decide)])
        replace h9 := bnot_f h9
        have n9 : ¬ (thereB c.things c.moved[k].dst = false ∧ hasM c.moved c.moved[k].dst = false) := fun hh => by have q9 := hh.2; rw [h9] at q9; cases q9
        refine AWP.skip ?_
        refine AWP.region ?_
        refine AOps.step rfl rfl rfl (AOp.add64 rfl rfl rfl (by omega) (by omega)) ?_
        refine AOps.mD rfl rfl rfl rfl rfl (.nil ?_)
        refine ⟨k + 1, ⟨by omega, ffst_next hk.2 (show mvF c k = 0 from by unfold mvF; rw [dif_pos hlt]; (first | (exfalso; omega) | ((repeat (first | rw [if_pos (by first | assumption | omega)] | rw [if_neg (by first | assumption | omega)])); first | done | rfl | omega | decide)))⟩, (by dsimp only; omega), Sub.less ⟨(SLe.of_eq rfl), SLe.refl _, SLe.refl _, SLe.refl _, SLe.refl _, SLe.refl _, trivial⟩ (fun _ h => h)⟩
      replace g8 := bnot_f g8
      have n9 : ¬ (thereB c.things c.moved[k].dst = false ∧ hasM c.moved c.moved[k].dst = false) := fun hh => by have q9 := hh.1; rw [g8] at q9; cases q9
      refine AOps.pass ⟨88, rfl, .inl ⟨_, rfl, rfl⟩⟩ rfl rfl ?_
      refine AOps.pass ⟨88, rfl, .inl ⟨_, rfl, rfl⟩⟩ rfl rfl ?_
      refine AOps.step rfl rfl rfl (AOp.pickF rfl rfl rfl) (.nil ?_)
      refine AWP.cond rfl (fun h => nomatch h) (fun _ => ?_)
      refine AWP.skip ?_
      refine AWP.region ?_
      refine AOps.step rfl rfl rfl (AOp.add64 rfl rfl rfl (by omega) (by omega)) ?_
      refine AOps.mD rfl rfl rfl rfl rfl (.nil ?_)
      refine ⟨k + 1, ⟨by omega, ffst_next hk.2 (show mvF c k = 0 from by unfold mvF; rw [dif_pos hlt]; (first | (exfalso; omega) | ((repeat (first | rw [if_pos (by first | assumption | omega)] | rw [if_neg (by first | assumption | omega)])); first | done | rfl | omega | decide)))⟩, (by dsimp only; omega), Sub.less ⟨(SLe.of_eq rfl), SLe.refl _, SLe.refl _, SLe.refl _, SLe.refl _, SLe.refl _, trivial⟩ (fun _ h => h)⟩
    replace g5 := of_decide_eq_false g5
    refine DRun.pass ⟨52, rfl, .inl ⟨_, rfl, rfl⟩⟩ rfl rfl ?_
    refine DRun.pass ⟨52, rfl, .inl ⟨_, rfl, rfl⟩⟩ rfl rfl ?_
    refine DRun.pass ⟨52, rfl, .inl ⟨_, rfl, rfl⟩⟩ rfl rfl ?_
    refine DRun.pass ⟨52, rfl, .inl ⟨_, rfl, rfl⟩⟩ rfl rfl ?_
    refine DRun.pass ⟨52, rfl, .inl ⟨_, rfl, rfl⟩⟩ rfl rfl ?_
    refine DRun.pass ⟨52, rfl, .inl ⟨_, rfl, rfl⟩⟩ rfl rfl ?_
    refine DRun.pass ⟨52, rfl, .inl ⟨_, rfl, rfl⟩⟩ rfl rfl ?_
    refine DRun.pass ⟨52, rfl, .inl ⟨_, rfl, rfl⟩⟩ rfl rfl ?_
    refine DRun.pass ⟨52, rfl, .inl ⟨_, rfl, rfl⟩⟩ rfl rfl ?_
    refine DRun.pass ⟨52, rfl, .inl ⟨_, rfl, rfl⟩⟩ rfl rfl ?_
    refine DRun.step rfl rfl rfl (AOp.pickF rfl rfl rfl) ?_
    refine DRun.nil ?_
    refine AWP.cond rfl (fun h => nomatch h) (fun _ => ?_)
    refine AWP.skip ?_
    refine AWP.seq ?_
    refine AWP.seq (AWP.region ?_)
    refine AOps.mD rfl rfl rfl rfl rfl ?_
    refine AOps.step rfl rfl rfl (AOp.fieldAddr rfl fo_46_0 rfl) ?_
    refine AOps.step rfl rfl rfl (AOp.load rfl sc_3 rfl) ?_
    refine AOps.step rfl rfl rfl (AOp.lookupOkF (key := kI c.moved[k].src) rfl mt_idx kd_int zt_thg zd_thg rfl rfl (DExact.v _) (kI_ok hbk.1) (idxM_keys hc.things) _ (getok_idx hr.nk _)) ?_
    refine AOps.mD rfl rfl rfl rfl rfl ?_
    refine AOps.step rfl rfl rfl (AOp.extract rfl rfl rfl) ?_
    refine AOps.step rfl rfl rfl (AOp.extract rfl rfl rfl) ?_
    refine AOps.alloc 106 rfl rfl rfl rfl zt_67 rfl rfl rfl ?_
    refine AOps.store rfl rfl rfl sz_67 rfl (.head _) rfl rfl rfl (Nat.le_of_ble_eq_true rfl) ?_
    refine AOps.freezeCells 10 (ds := (getT c.things c.moved[k].src).ds) rfl (.head _) ?_
    refine AOps.aD rfl rfl rfl rfl rfl (.nil ?_)
    refine AWP.seq (AWP.region ?_)
    refine AOps.mD rfl rfl rfl rfl rfl (.nil ?_)
    refine AWP.cond rfl (fun h10 => ?_) (fun h10 => ?_)
    · skip
      have n7 := h10
      refine AWP.seq (AWP.region ?_)
      refine AOps.aD rfl rfl rfl rfl rfl (.nil ?_)
      refine AWP.ret ?_
      refine ⟨RetD.eq rfl ?_, trivial⟩
      all_goals (first | rw [HR] | rw [mvd_a hlt hk.2 (show mvF c k = 1 from by unfold mvF; rw [dif_pos hlt]; (first | (exfalso; omega) | ((repeat (first | rw [if_pos (by first | assumption | omega)] | rw [if_neg (by first | assumption | omega)])); first | done | rfl | omega | decide))) (by decide)] | rw [mvd_a hlt hk.2 (show mvF c k = 8 from by unfold mvF; rw [dif_pos hlt]; (first | (exfalso; omega) | ((repeat (first | rw [if_pos (by first | assumption | omega)] | rw [if_neg (by first | assumption | omega)])); first | done | rfl | omega | decide))) (by decide)] | rw [mvd_a hlt hk.2 (show mvF c k = 7 from by unfold mvF; rw [dif_pos hlt]; (first | (exfalso; omega) | ((repeat (first | rw [if_pos (by first | assumption | omega)] | rw [if_neg (by first | assumption | omega)])); first | done | rfl | omega | decide))) (by decide)] | rw [mvd_a hlt hk.2 (show mvF c k = 9 from by unfold mvF; rw [dif_pos hlt]; (first | (exfalso; omega) | ((repeat (first | rw [if_pos (by first | assumption | omega)] | rw [if_neg (by first | assumption | omega)])); first | done | rfl | omega | decide))) (by decide)])
    have n7 : ¬ thereB c.things c.moved[k].src = true := by rw [h10]; decide
    refine AWP.skip ?_
    refine AWP.seq (AWP.region ?_)
    refine AOps.mD rfl rfl rfl rfl rfl ?_
    refine AOps.step rfl rfl rfl (AOp.fieldAddr rfl fo_46_1 rfl) ?_
    refine AOps.step rfl rfl rfl (AOp.load rfl sc_3 rfl) ?_
    refine AOps.step rfl rfl rfl (AOp.lookupOkF (key := kI c.moved[k].dst) rfl mt_idx kd_int zt_thg zd_thg rfl rfl (DExact.v _) (kI_ok hbk.2) (idxM_keys hc.things) _ (getok_idx hr.nk _)) ?_
    refine AOps.mD rfl rfl rfl rfl rfl ?_
    refine AOps.step rfl rfl rfl (AOp.extract rfl rfl rfl) ?_
    refine AOps.step rfl rfl rfl (AOp.extract rfl rfl rfl) ?_
    refine AOps.alloc 107 rfl rfl rfl rfl zt_67 rfl rfl rfl ?_
    refine AOps.store rfl rfl rfl sz_67 rfl (.head _) rfl rfl rfl (Nat.le_of_ble_eq_true rfl) ?_
    refine AOps.freezeCells 12 (ds := (getT c.things c.moved[k].dst).ds) rfl (.head _) ?_
    refine AOps.aD rfl rfl rfl rfl rfl (.nil ?_)
    refine AWP.seq (AWP.region ?_)
    refine AOps.mD rfl rfl rfl rfl rfl ?_
    refine AOps.step rfl rfl rfl (AOp.fieldAddr rfl fo_46_1 rfl) ?_
    refine AOps.step rfl rfl rfl (AOp.load rfl sc_3 rfl) ?_
    refine AOps.step rfl rfl rfl (AOp.lookupOkF (key := kI c.moved[k].dst) rfl mt_to kd_int zt_int zd_int rfl rfl (DExact.v _) (kI_ok hbk.2) (toM_keys fun p hp => (toL_ok hc.moved p hp).1) _ (getok_to (toL_nk _) _)) ?_
    rw [toL_has]
    refine AOps.mD rfl rfl rfl rfl rfl ?_
    refine AOps.step rfl rfl rfl (AOp.extract rfl rfl rfl) ?_
    refine AOps.step rfl rfl rfl (AOp.extract rfl rfl rfl) ?_
    refine AOps.aD rfl rfl rfl rfl rfl ?_
    refine AOps.aD rfl rfl rfl rfl rfl (.nil ?_)
    refine AWP.seq (AWP.region ?_)
    refine AOps.mD rfl rfl rfl rfl rfl ?_
    refine AOps.step rfl rfl rfl (AOp.not rfl rfl) ?_
    refine AOps.mD rfl rfl rfl rfl rfl ?_
    refine AOps.split 88 rfl (fun g11 => ?_) (fun g11 => ?_)
    · replace g11 := bnot_t g11
      have hnd := g11
      refine AOps.step ⟨88, rfl, .inl ⟨_, rfl, rfl⟩⟩ rfl rfl (AOp.moveD rfl rfl) ?_
      refine AOps.step ⟨88, rfl, .inl ⟨_, rfl, rfl⟩⟩ rfl rfl (AOp.not rfl rfl) ?_
      refine AOps.step rfl rfl rfl (AOp.pickT rfl rfl rfl) (.nil ?_)
      refine AWP.cond rfl (fun h12 => ?_) (fun h12 => ?_)
      · replace h12 := bnot_t h12
        have n9 := And.intro hnd h12
        refine AWP.seq (AWP.region ?_)
        refine AOps.aD rfl rfl rfl rfl rfl (.nil ?_)
        refine AWP.ret ?_
        refine ⟨RetD.eq rfl ?_, trivial⟩
        all_goals (first | rw [HR] | rw [mvd_a hlt hk.2 (show mvF c k = 1 from by unfold mvF; rw [dif_pos hlt]; (first | (exfalso; omega) | ((repeat (first | rw [if_pos (by first | assumption | omega)] | rw [if_neg (by first | assumption | omega)])); first | done | rfl | omega | decide))) (by decide)] | rw [mvd_a hlt hk.2 (show mvF c k = 8 from by unfold mvF; rw [dif_pos hlt]; (first | (exfalso; omega) | ((repeat (first | rw [if_pos (by first | assumption | omega)] | rw [if_neg (by first | assumption | omega)])); first | done | rfl | omega | decide))) (by decide)] | rw [mvd_a hlt hk.2 (show mvF c k = 7 from by unfold mvF; rw [dif_pos hlt]; (first | (exfalso; omega) | ((repeat (first | rw [if_pos (by first | assumption | omega)] | rw [if_neg (by first | assumption | omega)])); first | done | rfl | omega | decide))) (by decide)] | rw [mvd_a hlt hk.2 (show mvF c k = 9 from by unfold mvF; rw [dif_pos hlt]; (first | (exfalso; omega) | ((repeat (first | rw [if_pos (by first | assumption | omega)] | rw [if_neg (by first | assumption | omega)])); first | done | rfl | omega | decide))) (by decide)])
      replace h12 := bnot_f h12
      have n9 : ¬ (thereB c.things c.moved[k].dst = false ∧ hasM c.moved c.moved[k].dst = false) := fun hh => by have q9 := hh.2; rw [h12] at q9; cases q9
      refine AWP.skip ?_
      refine AWP.region ?_
      refine AOps.step rfl rfl rfl (AOp.add64 rfl rfl rfl (by omega) (by omega)) ?_
      refine AOps.mD rfl rfl rfl rfl rfl (.nil ?_)
      refine ⟨k + 1, ⟨by omega, ffst_next hk.2 (show mvF c k = 0 from by unfold mvF; rw [dif_pos hlt]; (first | (exfalso; omega) | ((repeat (first | rw [if_pos (by first | assumption | omega)] | rw [if_neg (by first | assumption | omega)])); first | done | rfl | omega | decide)))⟩, (by dsimp only; omega), Sub.less ⟨(SLe.of_eq rfl), SLe.refl _, SLe.refl _, SLe.refl _, SLe.refl _, SLe.refl _, trivial⟩ (fun _ h => h)⟩
    replace g11 := bnot_f g11
    have n9 : ¬ (thereB c.things c.moved[k].dst = false ∧ hasM c.moved c.moved[k].dst = false) := fun hh => by have q9 := hh.1; rw [g11] at q9; cases q9
    refine AOps.pass ⟨88, rfl, .inl ⟨_, rfl, rfl⟩⟩ rfl rfl ?_
    refine AOps.pass ⟨88, rfl, .inl ⟨_, rfl, rfl⟩⟩ rfl rfl ?_
    refine AOps.step rfl rfl rfl (AOp.pickF rfl rfl rfl) (.nil ?_)
    refine AWP.cond rfl (fun h => nomatch h) (fun _ => ?_)
    refine AWP.skip ?_
    refine AWP.region ?_
    refine AOps.step rfl rfl rfl (AOp.add64 rfl rfl rfl (by omega) (by omega)) ?_
    refine AOps.mD rfl rfl rfl rfl rfl (.nil ?_)
    refine ⟨k + 1, ⟨by omega, ffst_next hk.2 (show mvF c k = 0 from by unfold mvF; rw [dif_pos hlt]; (first | (exfalso; omega) | ((repeat (first | rw [if_pos (by first | assumption | omega)] | rw [if_neg (by first | assumption | omega)])); first | done | rfl | omega | decide)))⟩, (by dsimp only; omega), Sub.less ⟨(SLe.of_eq rfl), SLe.refl _, SLe.refl _, SLe.refl _, SLe.refl _, SLe.refl _, trivial⟩ (fun _ h => h)⟩
  replace h2 := of_decide_eq_false h2
  rw [List.length_map] at h2
  obtain rfl : k = c.moved.length := by omega
  have HF := hk.2
  have hm := risM_of HF
  rw [toL_ris hm]
  refine AWP.exit ?_
  refine AWP.seq ?_
  refine AWP.seq (AWP.region ?_)
  refine AOps.step rfl rfl rfl (AOp.fieldAddr rfl fo_25_1 rfl) ?_
  refine AOps.step rfl rfl rfl (AOp.load rfl sc_23 rfl) ?_
  refine AOps.step rfl rfl rfl (AOp.lenSl rfl et_23.ht rfl) ?_
  refine AOps.mD rfl rfl rfl rfl rfl (.nil ?_)
  refine AWP.block ?_
  refine AWP.loop (G := Nat) (fun k => Env.of [(96, .d (.v (.int .i64 (k : Int)))), (94, .d (.sl (c.moved.map Mvd.ds))), (95, .d (.v (.int .i64 ((c.moved.map Mvd.ds).length : Int)))), (5, .d (.fm (toM (mvL c.moved)))), (2, .d (.fp c.ds)), (1, .d (.fm (idxM c.things)))]) (fun k => []) (fun k => k ≤ c.moved.length ∧ ffst (lpF c) k = 0) (fun k => c.moved.length - k) 0 ⟨Nat.zero_le _, rfl⟩ (Sub.less ⟨(SLe.of_eq rfl), SLe.refl _, SLe.refl _, SLe.refl _, SLe.refl _, SLe.refl _, trivial⟩ (fun _ h => h)) ?_
  intro k hk
  refine AWP.seq (AWP.region ?_)
  refine AOps.step rfl rfl rfl (AOp.lss rfl rfl rfl) (.nil ?_)
  refine AWP.seq ?_
  refine AWP.cond rfl (fun h13 => ?_) (fun h13 => ?_)
  · replace h13 := of_decide_eq_true h13
    rw [List.length_map] at h13
    have hlt : k < c.moved.length := by omega
    have hbk := hc.moved _ (List.getElem_mem hlt)
    refine AWP.skip ?_
    refine AWP.seq ?_
    refine AWP.block ?_
    refine AWP.seq (AWP.region ?_)
    refine AOps.step rfl rfl rfl (AOp.indexAddr rfl et_23 rfl rfl k rfl (at_lst hlt) rfl) ?_
    refine AOps.step rfl rfl rfl (AOp.loadAgg rfl ag_46 rfl rfl) ?_
    refine AOps.alloc 108 rfl rfl rfl rfl zt_46 rfl rfl rfl ?_
    refine AOps.store rfl rfl rfl sz_46 rfl (.head _) rfl rfl rfl (Nat.le_of_ble_eq_true rfl) ?_
    refine AOps.freezeCells 17 (ds := c.moved[k].ds) rfl (.head _) (.nil ?_)
    refine AWP.seq (AWP.region ?_)
    refine AOps.mD rfl rfl rfl rfl rfl ?_
    refine AOps.mD rfl rfl rfl rfl rfl ?_
    refine AOps.step rfl rfl rfl (AOp.fieldAddr rfl fo_46_0 rfl) ?_
    refine AOps.step rfl rfl rfl (AOp.load rfl sc_3 rfl) ?_
    refine AOps.step rfl rfl rfl (AOp.call rfl (.cons (ArgOk.rfl' rfl) (.cons (ArgOk.rfl' rfl) (.cons (ArgOk.rfl' rfl) .nil))) (c_found _ _ _ hc.things hr (by rw [← toL_ris hm]; exact toL_ok hc.moved) (by rw [← toL_ris hm]; exact toL_nk _) hbk.1 (by rw [mvL_len]; exact hl2))) ?_
    refine AOps.mD rfl rfl rfl rfl rfl ?_
    refine AOps.step rfl rfl rfl (AOp.extract rfl rfl rfl) ?_
    refine AOps.step rfl rfl rfl (AOp.extract rfl rfl rfl) ?_
    refine AOps.aD rfl rfl rfl rfl rfl ?_
    refine AOps.aD rfl rfl rfl rfl rfl (.nil ?_)
    refine AWP.seq (AWP.region ?_)
    refine AOps.mD rfl rfl rfl rfl rfl ?_
    refine AOps.step rfl rfl rfl (AOp.not rfl rfl) (.nil ?_)
    refine AWP.cond rfl (fun h14 => ?_) (fun h14 => ?_)
    · replace h14 := bnot_t h14
      rw [led_ris hr hm, led_def] at h14
      have HR := mvd_c HF hlt hk.2 h14
      refine AWP.seq (AWP.region ?_)
      refine AOps.aD rfl rfl rfl rfl rfl (.nil ?_)
      refine AWP.ret ?_
      refine ⟨RetD.eq rfl ?_, trivial⟩
      all_goals (first | rw [HR] | rw [mvd_a hlt hk.2 (show mvF c k = 1 from by unfold mvF; rw [dif_pos hlt]; (first | (exfalso; omega) | ((repeat (first | rw [if_pos (by first | assumption | omega)] | rw [if_neg (by first | assumption | omega)])); first | done | rfl | omega | decide))) (by decide)] | rw [mvd_a hlt hk.2 (show mvF c k = 8 from by unfold mvF; rw [dif_pos hlt]; (first | (exfalso; omega) | ((repeat (first | rw [if_pos (by first | assumption | omega)] | rw [if_neg (by first | assumption | omega)])); first | done | rfl | omega | decide))) (by decide)] | rw [mvd_a hlt hk.2 (show mvF c k = 7 from by unfold mvF; rw [dif_pos hlt]; (first | (exfalso; omega) | ((repeat (first | rw [if_pos (by first | assumption | omega)] | rw [if_neg (by first | assumption | omega)])); first | done | rfl | omega | decide))) (by decide)] | rw [mvd_a hlt hk.2 (show mvF c k = 9 from by unfold mvF; rw [dif_pos hlt]; (first | (exfalso; omega) | ((repeat (first | rw [if_pos (by first | assumption | omega)] | rw [if_neg (by first | assumption | omega)])); first | done | rfl | omega | decide))) (by decide)])
    replace h14 := bnot_f h14
    rw [led_ris hr hm, led_def] at h14
    have HN := lp_0 hlt h14
    refine AWP.skip ?_
    refine AWP.region ?_
    refine AOps.step rfl rfl rfl (AOp.add64 rfl rfl rfl (by omega) (by omega)) ?_
    refine AOps.mD rfl rfl rfl rfl rfl (.nil ?_)
    refine ⟨k + 1, ⟨by omega, ffst_next hk.2 HN⟩, (by dsimp only; omega), Sub.less ⟨(SLe.of_eq rfl), SLe.refl _, SLe.refl _, SLe.refl _, SLe.refl _, SLe.refl _, trivial⟩ (fun _ h => h)⟩
  replace h13 := of_decide_eq_false h13
  rw [List.length_map] at h13
  obtain rfl : k = c.moved.length := by omega
  have HR : mvdF c = 0 := by rw [mvd_b HF]; exact hk.2
  refine AWP.exit ?_
  refine AWP.seq (AWP.region ?_)
  refine AOps.aD rfl rfl rfl rfl rfl (.nil ?_)
  refine AWP.ret ?_
  refine ⟨RetD.eq rfl ?_, trivial⟩
  all_goals (first | rw [HR] | rw [mvd_a hlt hk.2 (show mvF c k = 1 from by unfold mvF; rw [dif_pos hlt]; (first | (exfalso; omega) | ((repeat (first | rw [if_pos (by first | assumption | omega)] | rw [if_neg (by first | assumption | omega)])); first | done | rfl | omega | decide))) (by decide)] | rw [mvd_a hlt hk.2 (show mvF c k = 8 from by unfold mvF; rw [dif_pos hlt]; (first | (exfalso; omega) | ((repeat (first | rw [if_pos (by first | assumption | omega)] | rw [if_neg (by first | assumption | omega)])); first | done | rfl | omega | decide))) (by decide)] | rw [mvd_a hlt hk.2 (show mvF c k = 7 from by unfold mvF; rw [dif_pos hlt]; (first | (exfalso; omega) | ((repeat (first | rw [if_pos (by first | assumption | omega)] | rw [if_neg (by first | assumption | omega)])); first | done | rfl | omega | decide))) (by decide)] | rw [mvd_a hlt hk.2 (show mvF c k = 9 from by unfold mvF; rw [dif_pos hlt]; (first | (exfalso; omega) | ((repeat (first | rw [if_pos (by first | assumption | omega)] | rw [if_neg (by first | assumption | omega)])); first | done | rfl | omega | decide))) (by decide)])

set_option maxRecDepth 100000 in
set_option maxHeartbeats 1000000 in
theorem c_rMvd (c : Ctl) (hl : Lim c) (hc : CtlOk c) (hr : RisT c.things) : ACall Tryz.prog 69 [.agg c.ds] (.v (.int .i64 (mvdF c))) := by
  refine acall_of (n := 91) (ds' := [.v (.int .i64 (mvdF c))]) Tryz.func69 rfl (by kernel_rfl) rfl [2] rfl rfl ?_
  intro B w0 F0 fr
  have hl2 := hl.2
  refine AWP.seq (AWP.region ?_)
  refine AOps.step rfl rfl rfl (AOp.box rfl rfl rfl) ?_
  refine AOps.aD rfl rfl rfl rfl rfl (.nil ?_)
  refine AWP.seq ?_
  refine AWP.seq (AWP.region ?_)
  refine AOps.step rfl rfl rfl (AOp.fieldAddr rfl fo_25_1 rfl) ?_
  refine AOps.step rfl rfl rfl (AOp.load rfl sc_23 rfl) ?_
  refine AOps.step rfl rfl rfl (AOp.lenSl rfl et_23.ht rfl) ?_
  refine AOps.mD rfl rfl rfl rfl rfl (.nil ?_)
  refine AWP.block ?_
  refine AWP.loop (G := Nat) (fun k => Env.of [(18, .d (.v (.int .i64 (k : Int)))), (16, .d (.sl (c.moved.map Mvd.ds))), (17, .d (.v (.int .i64 ((c.moved.map Mvd.ds).length : Int)))), (1, .d (.fp c.ds))]) (fun k => []) (fun k => k ≤ c.moved.length ∧ ffst (mvF c) k = 0) (fun k => c.moved.length - k) 0 ⟨Nat.zero_le _, rfl⟩ (Sub.less ⟨(SLe.of_eq rfl), SLe.refl _, SLe.refl _, SLe.refl _, trivial⟩ (fun _ h => h)) ?_
  intro k hk
  refine AWP.seq (AWP.region ?_)
  refine AOps.step rfl rfl rfl (AOp.lss rfl rfl rfl) (.nil ?_)
  refine AWP.seq ?_
  refine AWP.cond rfl (fun h1 => ?_) (fun h1 => ?_)
  · replace h1 := of_decide_eq_true h1
    rw [List.length_map] at h1
    have hlt : k < c.moved.length := by omega
    have hbk := hc.moved _ (List.getElem_mem hlt)
    refine AWP.skip ?_
    refine AWP.seq ?_
    refine AWP.block ?_
    refine AWP.seq (AWP.region ?_)
    refine AOps.mD rfl rfl rfl rfl rfl ?_
    refine AOps.step rfl rfl rfl (AOp.indexAddr rfl et_23 rfl rfl k rfl (at_lst hlt) rfl) ?_
    refine AOps.step rfl rfl rfl (AOp.loadAgg rfl ag_46 rfl rfl) ?_
    refine AOps.alloc 101 rfl rfl rfl rfl zt_46 rfl rfl rfl ?_
    refine AOps.aD rfl rfl rfl rfl rfl ?_
    refine AOps.store rfl rfl rfl sz_46 rfl (.head _) rfl rfl rfl (Nat.le_of_ble_eq_true rfl) ?_
    refine AOps.freezeCells 4 (ds := c.moved[k].ds) rfl (.head _) (.nil ?_)
    refine AWP.seq (AWP.region ?_)
    refine AOps.step rfl rfl rfl (AOp.loadAgg rfl ag_25 rfl rfl) ?_
    refine AOps.step rfl rfl rfl (AOp.fieldAddr rfl fo_46_0 rfl) ?_
    refine AOps.step rfl rfl rfl (AOp.load rfl sc_3 rfl) ?_
    refine AOps.step rfl rfl rfl (AOp.call rfl (.cons (ArgOk.rfl' rfl) (.cons (ArgOk.rfl' rfl) .nil)) (c_thing c _ hl)) ?_
    refine AOps.mD rfl rfl rfl rfl rfl ?_
    refine AOps.step rfl rfl rfl (AOp.extract rfl rfl rfl) ?_
    refine AOps.step rfl rfl rfl (AOp.extract rfl rfl rfl) ?_
    refine AOps.alloc 102 rfl rfl rfl rfl zt_67 rfl rfl rfl ?_
    refine AOps.store rfl rfl rfl sz_67 rfl (.head _) rfl rfl rfl (Nat.le_of_ble_eq_true rfl) ?_
    refine AOps.freezeCells 5 (ds := (getT c.things c.moved[k].src).ds) rfl (.head _) ?_
    refine AOps.aD rfl rfl rfl rfl rfl (.nil ?_)
    refine AWP.seq (AWP.region ?_)
    refine AOps.step rfl rfl rfl (AOp.loadAgg rfl ag_25 rfl rfl) ?_
    refine AOps.step rfl rfl rfl (AOp.fieldAddr rfl fo_46_1 rfl) ?_
    refine AOps.step rfl rfl rfl (AOp.load rfl sc_3 rfl) ?_
    refine AOps.step rfl rfl rfl (AOp.call rfl (.cons (ArgOk.rfl' rfl) (.cons (ArgOk.rfl' rfl) .nil)) (c_thing c _ hl)) ?_
    refine AOps.mD rfl rfl rfl rfl rfl ?_
    refine AOps.step rfl rfl rfl (AOp.extract rfl rfl rfl) ?_
    refine AOps.step rfl rfl rfl (AOp.extract rfl rfl rfl) ?_
    refine AOps.alloc 103 rfl rfl rfl rfl zt_67 rfl rfl rfl ?_
    refine AOps.store rfl rfl rfl sz_67 rfl (.head _) rfl rfl rfl (Nat.le_of_ble_eq_true rfl) ?_
    refine AOps.freezeCells 7 (ds := (getT c.things c.moved[k].dst).ds) rfl (.head _) ?_
    refine AOps.aD rfl rfl rfl rfl rfl (.nil ?_)
    refine AWP.seq (AWP.region ?_)
    refine AOps.step rfl rfl rfl (AOp.loadAgg rfl ag_25 rfl rfl) ?_
    refine AOps.step rfl rfl rfl (AOp.fieldAddr rfl fo_46_1 rfl) ?_
    refine AOps.step rfl rfl rfl (AOp.load rfl sc_3 rfl) ?_
    refine AOps.step rfl rfl rfl (AOp.call rfl (.cons (ArgOk.rfl' rfl) (.cons (ArgOk.rfl' rfl) .nil)) (c_moved c _ hl)) ?_
    refine AOps.mD rfl rfl rfl rfl rfl ?_
    refine AOps.step rfl rfl rfl (AOp.extract rfl rfl rfl) ?_
    refine AOps.step rfl rfl rfl (AOp.extract rfl rfl rfl) ?_
    refine AOps.aD rfl rfl rfl rfl rfl ?_
    refine AOps.aD rfl rfl rfl rfl rfl (.nil ?_)
    refine AWP.block ?_
    refine AWP.seq (AWP.region ?_)
    refine AOps.step rfl rfl rfl (AOp.fieldAddr rfl fo_46_0 rfl) ?_
    refine AOps.step rfl rfl rfl (AOp.load rfl sc_3 rfl) ?_
    refine AOps.step rfl rfl rfl (AOp.call rfl (.cons (ArgOk.rfl' rfl) (.cons (ArgOk.rfl' rfl) (.cons (ArgOk.rfl' rfl) .nil))) (c_rIn _ _ _)) ?_
    refine AOps.step rfl rfl rfl (AOp.not rfl rfl) ?_
    refine AOps.aD rfl rfl rfl rfl rfl (.nil ?_)
    refine AWP.cond rfl (fun h2 => ?_) (fun h2 => ?_)
    · replace h2 := bnot_t h2; replace h2 := of_decide_eq_false h2
      refine AWP.seq (AWP.region ?_)
      refine AOps.aD rfl rfl rfl rfl rfl (.nil ?_)
      refine AWP.ret ?_
      refine ⟨RetD.eq rfl ?_, trivial⟩
      all_goals (first | rw [HR] | rw [mvd_a hlt hk.2 (show mvF c k = 1 from by unfold mvF; rw [dif_pos hlt]; (first | (exfalso; omega) | ((repeat (first | rw [if_pos (by first | assumption | omega)] | rw [if_neg (by first | assumption | omega)])); first | done | rfl | omega | decide))) (by decide)] | rw [mvd_a hlt hk.2 (show mvF c k = 8 from by unfold mvF; rw [dif_pos hlt]; (first | (exfalso; omega) | ((repeat (first | rw [if_pos (by first | assumption | omega)] | rw [if_neg (by first | assumption | omega)])); first | done | rfl | omega | decide))) (by decide)] | rw [mvd_a hlt hk.2 (show mvF c k = 7 from by unfold mvF; rw [dif_pos hlt]; (first | (exfalso; omega) | ((repeat (first | rw [if_pos (by first | assumption | omega)] | rw [if_neg (by first | assumption | omega)])); first | done | rfl | omega | decide))) (by decide)] | rw [mvd_a hlt hk.2 (show mvF c k = 9 from by unfold mvF; rw [dif_pos hlt]; (first | (exfalso; omega) | ((repeat (first | rw [if_pos (by first | assumption | omega)] | rw [if_neg (by first | assumption | omega)])); first | done | rfl | omega | decide))) (by decide)])
    replace h2 := bnot_f h2; replace h2 := of_decide_eq_true h2
    refine AWP.seq ?_
    refine AWP.draw (by kernel_rfl) (by kernel_rfl) ?_
    refine DRun.step rfl rfl rfl (AOp.moveD rfl rfl) ?_
    refine DRun.step rfl rfl rfl (AOp.gtr rfl rfl rfl) ?_
    refine DRun.step rfl rfl rfl (AOp.moveD rfl rfl) ?_
    refine DRun.split 52 rfl (fun g3 => ?_) (fun g3 => ?_)
    · replace g3 := of_decide_eq_true g3
      have hk0 : 0 < k := by omega
      refine DRun.step ⟨52, rfl, .inl ⟨_, rfl, rfl⟩⟩ rfl rfl (AOp.fieldAddr rfl fo_46_0 rfl) ?_
      refine DRun.step ⟨52, rfl, .inl ⟨_, rfl, rfl⟩⟩ rfl rfl (AOp.load rfl sc_3 rfl) ?_
      refine DRun.step ⟨52, rfl, .inl ⟨_, rfl, rfl⟩⟩ rfl rfl (AOp.fieldAddr rfl fo_25_1 rfl) ?_
      refine DRun.step ⟨52, rfl, .inl ⟨_, rfl, rfl⟩⟩ rfl rfl (AOp.load rfl sc_23 rfl) ?_
      refine DRun.step ⟨52, rfl, .inl ⟨_, rfl, rfl⟩⟩ rfl rfl (AOp.moveD rfl rfl) ?_
      refine DRun.step ⟨52, rfl, .inl ⟨_, rfl, rfl⟩⟩ rfl rfl (AOp.sub64 rfl rfl rfl (by omega) (by omega)) ?_
      refine DRun.step ⟨52, rfl, .inl ⟨_, rfl, rfl⟩⟩ rfl rfl (AOp.indexAddr rfl et_23 rfl rfl (k - 1) (by omega) (at_lst (by omega)) rfl) ?_
      refine DRun.step ⟨52, rfl, .inl ⟨_, rfl, rfl⟩⟩ rfl rfl (AOp.fieldAddr rfl fo_46_0 rfl) ?_
      refine DRun.step ⟨52, rfl, .inl ⟨_, rfl, rfl⟩⟩ rfl rfl (AOp.load rfl sc_3 rfl) ?_
      refine DRun.step ⟨52, rfl, .inl ⟨_, rfl, rfl⟩⟩ rfl rfl (AOp.leq rfl rfl rfl) ?_
      refine DRun.step rfl rfl rfl (AOp.pickT rfl rfl rfl) ?_
      refine DRun.step rfl rfl rfl (AOp.assignD rfl rfl) ?_
      refine DRun.nil ?_
      refine AWP.cond rfl (fun h4 => ?_) (fun h4 => ?_)
      · replace h4 := of_decide_eq_true h4
        refine AWP.seq (AWP.region ?_)
        refine AOps.aD rfl rfl rfl rfl rfl (.nil ?_)
        refine AWP.ret ?_
        refine ⟨RetD.eq rfl ?_, trivial⟩
        all_goals (first | rw [HR] | rw [mvd_a hlt hk.2 (show mvF c k = 1 from by unfold mvF; rw [dif_pos hlt]; (first | (exfalso; omega) | ((repeat (first | rw [if_pos (by first | assumption | omega)] | rw [if_neg (by first | assumption | omega)])); first | done | rfl | omega | decide))) (by decide)] | rw [mvd_a hlt hk.2 (show mvF c k = 8 from by unfold mvF; rw [dif_pos hlt]; (first | (exfalso; omega) | ((repeat (first | rw [if_pos (by first | assumption | omega)] | rw [if_neg (by first | assumption | omega)])); first | done | rfl | omega | decide))) (by decide)] | rw [mvd_a hlt hk.2 (show mvF c k = 7 from by unfold mvF; rw [dif_pos hlt]; (first | (exfalso; omega) | ((repeat (first | rw [if_pos (by first | assumption | omega)] | rw [if_neg (by first | assumption | omega)])); first | done | rfl | omega | decide))) (by decide)] | rw [mvd_a hlt hk.2 (show mvF c k = 9 from by unfold mvF; rw [dif_pos hlt]; (first | (exfalso; omega) | ((repeat (first | rw [if_pos (by first | assumption | omega)] | rw [if_neg (by first | assumption | omega)])); first | done | rfl | omega | decide))) (by decide)])
      replace h4 := of_decide_eq_false h4
      refine AWP.seq (AWP.region ?_)
      refine AOps.mD rfl rfl rfl rfl rfl ?_
      refine AOps.aD rfl rfl rfl rfl rfl (.nil ?_)
      refine AWP.cond rfl (fun h5 => ?_) (fun h5 => ?_)
      · skip
        have n7 := h5
        refine AWP.seq (AWP.region ?_)
        refine AOps.aD rfl rfl rfl rfl rfl (.nil ?_)
        refine AWP.ret ?_
        refine ⟨RetD.eq rfl ?_, trivial⟩
        all_goals (first | rw [HR] | rw [mvd_a hlt hk.2 (show mvF c k = 1 from by unfold mvF; rw [dif_pos hlt]; (first | (exfalso; omega) | ((repeat (first | rw [if_pos (by first | assumption | omega)] | rw [if_neg (by first | assumption | omega)])); first | done | rfl | omega | decide))) (by decide)] | rw [mvd_a hlt hk.2 (show mvF c k = 8 from by unfold mvF; rw [dif_pos hlt]; (first | (exfalso; omega) | ((repeat (first | rw [if_pos (by first | assumption | omega)] | rw [if_neg (by first | assumption | omega)])); first | done | rfl | omega | decide))) (by decide)] | rw [mvd_a hlt hk.2 (show mvF c k = 7 from by unfold mvF; rw [dif_pos hlt]; (first | (exfalso; omega) | ((repeat (first | rw [if_pos (by first | assumption | omega)] | rw [if_neg (by first | assumption | omega)])); first | done | rfl | omega | decide))) (by decide)] | rw [mvd_a hlt hk.2 (show mvF c k = 9 from by unfold mvF; rw [dif_pos hlt]; (first | (exfalso; omega) | ((repeat (first | rw [if_pos (by first | assumption | omega)] | rw [if_neg (by first | assumption | omega)])); first | done | rfl | omega | decide))) (by decide)])
      have n7 : ¬ thereB c.things c.moved[k].src = true := by rw [h5]; decide
      refine AWP.seq (AWP.region ?_)
      refine AOps.mD rfl rfl rfl rfl rfl ?_
      refine AOps.step rfl rfl rfl (AOp.not rfl rfl) ?_
      refine AOps.mD rfl rfl rfl rfl rfl ?_
      refine AOps.split 69 rfl (fun g6 => ?_) (fun g6 => ?_)
      · replace g6 := bnot_t g6
        have hnd := g6
        refine AOps.step ⟨69, rfl, .inl ⟨_, rfl, rfl⟩⟩ rfl rfl (AOp.moveD rfl rfl) ?_
        refine AOps.step ⟨69, rfl, .inl ⟨_, rfl, rfl⟩⟩ rfl rfl (AOp.not rfl rfl) ?_
        refine AOps.step rfl rfl rfl (AOp.pickT rfl rfl rfl) ?_
        refine AOps.aD rfl rfl rfl rfl rfl (.nil ?_)
        refine AWP.cond rfl (fun h7 => ?_) (fun h7 => ?_)
        · replace h7 := bnot_t h7
          have n9 := And.intro hnd h7
          refine AWP.seq (AWP.region ?_)
          refine AOps.aD rfl rfl rfl rfl rfl (.nil ?_)
          refine AWP.ret ?_
          refine ⟨RetD.eq rfl ?_, trivial⟩
          all_goals (first | rw [HR] | rw [mvd_a hlt hk.2 (show mvF c k = 1 from by unfold mvF; rw [dif_pos hlt]; (first | (exfalso; omega) | ((repeat (first | rw [if_pos (by first | assumption | omega)] | rw [if_neg (by first | assumption | omega)])); first | done | rfl | omega | decide))) (by decide)] | rw [mvd_a hlt hk.2 (show mvF c k = 8 from by unfold mvF; rw [dif_pos hlt]; (first | (exfalso; omega) | ((repeat (first | rw [if_pos (by first | assumption | omega)] | rw [if_neg (by first | assumption | omega)])); first | done | rfl | omega | decide))) (by decide)] | rw [mvd_a hlt hk.2 (show mvF c k = 7 from by unfold mvF; rw [dif_pos hlt]; (first | (exfalso; omega) | ((repeat (first | rw [if_pos (by first | assumption | omega)] | rw [if_neg (by first | assumption | omega)])); first | done | rfl | omega | decide))) (by decide)] | rw [mvd_a hlt hk.2 (show mvF c k = 9 from by unfold mvF; rw [dif_pos hlt]; (first | (exfalso; omega) | ((repeat (first | rw [if_pos (by first | assumption | omega)] | rw [if_neg (by first | assumption | omega)])); first | done | rfl | omega | decide))) (by decide)])
        replace h7 := bnot_f h7
        have n9 : ¬ (thereB c.things c.moved[k].dst = false ∧ hasM c.moved c.moved[k].dst = false) := fun hh => by have q9 := hh.2; rw [h7] at q9; cases q9
        refine AWP.skip ?_
        refine AWP.region ?_
        refine AOps.step rfl rfl rfl (AOp.add64 rfl rfl rfl (by omega) (by omega)) ?_
        refine AOps.mD rfl rfl rfl rfl rfl (.nil ?_)
        refine ⟨k + 1, ⟨by omega, ffst_next hk.2 (show mvF c k = 0 from by unfold mvF; rw [dif_pos hlt]; (first | (exfalso; omega) | ((repeat (first | rw [if_pos (by first | assumption | omega)] | rw [if_neg (by first | assumption | omega)])); first | done | rfl | omega | decide)))⟩, (by dsimp only; omega), Sub.less ⟨(SLe.of_eq rfl), SLe.refl _, SLe.refl _, SLe.refl _, trivial⟩ (fun _ h => h)⟩
      replace g6 := bnot_f g6
      have n9 : ¬ (thereB c.things c.moved[k].dst = false ∧ hasM c.moved c.moved[k].dst = false) := fun hh => by have q9 := hh.1; rw [g6] at q9; cases q9
      refine AOps.pass ⟨69, rfl, .inl ⟨_, rfl, rfl⟩⟩ rfl rfl ?_
      refine AOps.pass ⟨69, rfl, .inl ⟨_, rfl, rfl⟩⟩ rfl rfl ?_
      refine AOps.step rfl rfl rfl (AOp.pickF rfl rfl rfl) ?_
      refine AOps.aD rfl rfl rfl rfl rfl (.nil ?_)
      refine AWP.cond rfl (fun h => nomatch h) (fun _ => ?_)
      refine AWP.skip ?_
      refine AWP.region ?_
      refine AOps.step rfl rfl rfl (AOp.add64 rfl rfl rfl (by omega) (by omega)) ?_
      refine AOps.mD rfl rfl rfl rfl rfl (.nil ?_)
      refine ⟨k + 1, ⟨by omega, ffst_next hk.2 (show mvF c k = 0 from by unfold mvF; rw [dif_pos hlt]; (first | (exfalso; omega) | ((repeat (first | rw [if_pos (by first | assumption | omega)] | rw [if_neg (by first | assumption | omega)])); first | done | rfl | omega | decide)))⟩, (by dsimp only; omega), Sub.less ⟨(SLe.of_eq rfl), SLe.refl _, SLe.refl _, SLe.refl _, trivial⟩ (fun _ h => h)⟩
    replace g3 := of_decide_eq_false g3
    refine DRun.pass ⟨52, rfl, .inl ⟨_, rfl, rfl⟩⟩ rfl rfl ?_
    refine DRun.pass ⟨52, rfl, .inl ⟨_, rfl, rfl⟩⟩ rfl rfl ?_
    refine DRun.pass ⟨52, rfl, .inl ⟨_, rfl, rfl⟩⟩ rfl rfl ?_
    refine DRun.pass ⟨52, rfl, .inl ⟨_, rfl, rfl⟩⟩ rfl rfl ?_
    refine DRun.pass ⟨52, rfl, .inl ⟨_, rfl, rfl⟩⟩ rfl rfl ?_
    refine DRun.pass ⟨52, rfl, .inl ⟨_, rfl, rfl⟩⟩ rfl rfl ?_
    refine DRun.pass ⟨52, rfl, .inl ⟨_, rfl, rfl⟩⟩ rfl rfl ?_
    refine DRun.pass ⟨52, rfl, .inl ⟨_, rfl, rfl⟩⟩ rfl rfl ?_
    refine DRun.pass ⟨52, rfl, .inl ⟨_, rfl, rfl⟩⟩ rfl rfl ?_
    refine DRun.pass ⟨52, rfl, .inl ⟨_, rfl, rfl⟩⟩ rfl rfl ?_
    refine DRun.step rfl rfl rfl (AOp.pickF rfl rfl rfl) ?_
    refine DRun.step rfl rfl rfl (AOp.assignD rfl rfl) ?_
    refine DRun.nil ?_
    refine AWP.cond rfl (fun h => nomatch h) (fun _ => ?_)
    refine AWP.seq (AWP.region ?_)
    refine AOps.mD rfl rfl rfl rfl rfl ?_
    refine AOps.aD rfl rfl rfl rfl rfl (.nil ?_)
    refine AWP.cond rfl (fun h8 => ?_) (fun h8 => ?_)
    · skip
      have n7 := h8
      refine AWP.seq (AWP.region ?_)
      refine AOps.aD rfl rfl rfl rfl rfl (.nil ?_)
      refine AWP.ret ?_
      refine ⟨RetD.eq rfl ?_, trivial⟩
      all_goals (first | rw [HR] | rw [mvd_a hlt hk.2 (show mvF c k = 1 from by unfold mvF; rw [dif_pos hlt]; (first | (exfalso; omega) | ((repeat (first | rw [if_pos (by first | assumption | omega)] | rw [if_neg (by first | assumption | omega)])); first | done | rfl | omega | decide))) (by decide)] | rw [mvd_a hlt hk.2 (show mvF c k = 8 from by unfold mvF; rw [dif_pos hlt]; (first | (exfalso; omega) | ((repeat (first | rw [if_pos (by first | assumption | omega)] | rw [if_neg (by first | assumption | omega)])); first | done | rfl | omega | decide))) (by decide)] | rw [mvd_a hlt hk.2 (show mvF c k = 7 from by unfold mvF; rw [dif_pos hlt]; (first | (exfalso; omega) | ((repeat (first | rw [if_pos (by first | assumption | omega)] | rw [if_neg (by first | assumption | omega)])); first | done | rfl | omega | decide))) (by decide)] | rw [mvd_a hlt hk.2 (show mvF c k = 9 from by unfold mvF; rw [dif_pos hlt]; (first | (exfalso; omega) | ((repeat (first | rw [if_pos (by first | assumption | omega)] | rw [if_neg (by first | assumption | omega)])); first | done | rfl | omega | decide))) (by decide)])
    have n7 : ¬ thereB c.things c.moved[k].src = true := by rw [h8]; decide
    refine AWP.seq (AWP.region ?_)
    refine AOps.mD rfl rfl rfl rfl rfl ?_
    refine AOps.step rfl rfl rfl (AOp.not rfl rfl) ?_
    refine AOps.mD rfl rfl rfl rfl rfl ?_
    refine AOps.split 69 rfl (fun g9 => ?_) (fun g9 => ?_)
    · replace g9 := bnot_t g9
      have hnd := g9
      refine AOps.step ⟨69, rfl, .inl ⟨_, rfl, rfl⟩⟩ rfl rfl (AOp.moveD rfl rfl) ?_
      refine AOps.step ⟨69, rfl, .inl ⟨_, rfl, rfl⟩⟩ rfl rfl (AOp.not rfl rfl) ?_
      refine AOps.step rfl rfl rfl (AOp.pickT rfl rfl rfl) ?_
      refine AOps.aD rfl rfl rfl rfl rfl (.nil ?_)
      refine AWP.cond rfl (fun h10 => ?_) (fun h10 => ?_)
      · replace h10 := bnot_t h10
        have n9 := And.intro hnd h10
        refine AWP.seq (AWP.region ?_)
        refine AOps.aD rfl rfl rfl rfl rfl (.nil ?_)
        refine AWP.ret ?_
        refine ⟨RetD.eq rfl ?_, trivial⟩
        all_goals (first | rw [HR] | rw [mvd_a hlt hk.2 (show mvF c k = 1 from by unfold mvF; rw [dif_pos hlt]; (first | (exfalso; omega) | ((repeat (first | rw [if_pos (by first | assumption | omega)] | rw [if_neg (by first | assumption | omega)])); first | done | rfl | omega | decide))) (by decide)] | rw [mvd_a hlt hk.2 (show mvF c k = 8 from by unfold mvF; rw [dif_pos hlt]; (first | (exfalso; omega) | ((repeat (first | rw [if_pos (by first | assumption | omega)] | rw [if_neg (by first | assumption | omega)])); first | done | rfl | omega | decide))) (by decide)] | rw [mvd_a hlt hk.2 (show mvF c k = 7 from by unfold mvF; rw [dif_pos hlt]; (first | (exfalso; omega) | ((repeat (first | rw [if_pos (by first | assumption | omega)] | rw [if_neg (by first | assumption | omega)])); first | done | rfl | omega | decide))) (by decide)] | rw [mvd_a hlt hk.2 (show mvF c k = 9 from by unfold mvF; rw [dif_pos hlt]; (first | (exfalso; omega) | ((repeat (first | rw [if_pos (by first | assumption | omega)] | rw [if_neg (by first | assumption | omega)])); first | done | rfl | omega | decide))) (by decide)])
      replace h10 := bnot_f h10
      have n9 : ¬ (thereB c.things c.moved[k].dst = false ∧ hasM c.moved c.moved[k].dst = false) := fun hh => by have q9 := hh.2; rw [h10] at q9; cases q9
      refine AWP.skip ?_
      refine AWP.region ?_
      refine AOps.step rfl rfl rfl (AOp.add64 rfl rfl rfl (by omega) (by omega)) ?_
      refine AOps.mD rfl rfl rfl rfl rfl (.nil ?_)
      refine ⟨k + 1, ⟨by omega, ffst_next hk.2 (show mvF c k = 0 from by unfold mvF; rw [dif_pos hlt]; (first | (exfalso; omega) | ((repeat (first | rw [if_pos (by first | assumption | omega)] | rw [if_neg (by first | assumption | omega)])); first | done | rfl | omega | decide)))⟩, (by dsimp only; omega), Sub.less ⟨(SLe.of_eq rfl), SLe.refl _, SLe.refl _, SLe.refl _, trivial⟩ (fun _ h => h)⟩
    replace g9 := bnot_f g9
    have n9 : ¬ (thereB c.things c.moved[k].dst = false ∧ hasM c.moved c.moved[k].dst = false) := fun hh => by have q9 := hh.1; rw [g9] at q9; cases q9
    refine AOps.pass ⟨69, rfl, .inl ⟨_, rfl, rfl⟩⟩ rfl rfl ?_
    refine AOps.pass ⟨69, rfl, .inl ⟨_, rfl, rfl⟩⟩ rfl rfl ?_
    refine AOps.step rfl rfl rfl (AOp.pickF rfl rfl rfl) ?_
    refine AOps.aD rfl rfl rfl rfl rfl (.nil ?_)
    refine AWP.cond rfl (fun h => nomatch h) (fun _ => ?_)
    refine AWP.skip ?_
    refine AWP.region ?_
    refine AOps.step rfl rfl rfl (AOp.add64 rfl rfl rfl (by omega) (by omega)) ?_
    refine AOps.mD rfl rfl rfl rfl rfl (.nil ?_)
    refine ⟨k + 1, ⟨by omega, ffst_next hk.2 (show mvF c k = 0 from by unfold mvF; rw [dif_pos hlt]; (first | (exfalso; omega) | ((repeat (first | rw [if_pos (by first | assumption | omega)] | rw [if_neg (by first | assumption | omega)])); first | done | rfl | omega | decide)))⟩, (by dsimp only; omega), Sub.less ⟨(SLe.of_eq rfl), SLe.refl _, SLe.refl _, SLe.refl _, trivial⟩ (fun _ h => h)⟩
  replace h1 := of_decide_eq_false h1
  rw [List.length_map] at h1
  obtain rfl : k = c.moved.length := by omega
  have HF := hk.2
  refine AWP.exit ?_
  refine AWP.seq ?_
  refine AWP.seq (AWP.region ?_)
  refine AOps.step rfl rfl rfl (AOp.fieldAddr rfl fo_25_1 rfl) ?_
  refine AOps.step rfl rfl rfl (AOp.load rfl sc_23 rfl) ?_
  refine AOps.step rfl rfl rfl (AOp.lenSl rfl et_23.ht rfl) ?_
  refine AOps.mD rfl rfl rfl rfl rfl (.nil ?_)
  refine AWP.block ?_
  refine AWP.loop (G := Nat) (fun k => Env.of [(77, .d (.v (.int .i64 (k : Int)))), (75, .d (.sl (c.moved.map Mvd.ds))), (76, .d (.v (.int .i64 ((c.moved.map Mvd.ds).length : Int)))), (1, .d (.fp c.ds))]) (fun k => []) (fun k => k ≤ c.moved.length ∧ ffst (lpF c) k = 0) (fun k => c.moved.length - k) 0 ⟨Nat.zero_le _, rfl⟩ (Sub.less ⟨(SLe.of_eq rfl), SLe.refl _, SLe.refl _, SLe.refl _, trivial⟩ (fun _ h => h)) ?_
  intro k hk
  refine AWP.seq (AWP.region ?_)
  refine AOps.step rfl rfl rfl (AOp.lss rfl rfl rfl) (.nil ?_)
  refine AWP.seq ?_
  refine AWP.cond rfl (fun h11 => ?_) (fun h11 => ?_)
  · replace h11 := of_decide_eq_true h11
    rw [List.length_map] at h11
    have hlt : k < c.moved.length := by omega
    have hbk := hc.moved _ (List.getElem_mem hlt)
    refine AWP.skip ?_
    refine AWP.seq ?_
    refine AWP.block ?_
    refine AWP.seq (AWP.region ?_)
    refine AOps.step rfl rfl rfl (AOp.indexAddr rfl et_23 rfl rfl k rfl (at_lst hlt) rfl) ?_
    refine AOps.step rfl rfl rfl (AOp.loadAgg rfl ag_46 rfl rfl) ?_
    refine AOps.alloc 104 rfl rfl rfl rfl zt_46 rfl rfl rfl ?_
    refine AOps.store rfl rfl rfl sz_46 rfl (.head _) rfl rfl rfl (Nat.le_of_ble_eq_true rfl) ?_
    refine AOps.freezeCells 12 (ds := c.moved[k].ds) rfl (.head _) (.nil ?_)
    refine AWP.seq (AWP.region ?_)
    refine AOps.step rfl rfl rfl (AOp.loadAgg rfl ag_25 rfl rfl) ?_
    refine AOps.step rfl rfl rfl (AOp.fieldAddr rfl fo_46_0 rfl) ?_
    refine AOps.step rfl rfl rfl (AOp.load rfl sc_3 rfl) ?_
    refine AOps.step rfl rfl rfl (AOp.call rfl (.cons (ArgOk.rfl' rfl) (.cons (ArgOk.rfl' rfl) .nil)) (c_find c _ hl)) ?_
    refine AOps.mD rfl rfl rfl rfl rfl ?_
    refine AOps.step rfl rfl rfl (AOp.extract rfl rfl rfl) ?_
    refine AOps.step rfl rfl rfl (AOp.extract rfl rfl rfl) ?_
    refine AOps.aD rfl rfl rfl rfl rfl ?_
    refine AOps.aD rfl rfl rfl rfl rfl (.nil ?_)
    refine AWP.seq (AWP.region ?_)
    refine AOps.mD rfl rfl rfl rfl rfl ?_
    refine AOps.step rfl rfl rfl (AOp.not rfl rfl) (.nil ?_)
    refine AWP.cond rfl (fun h12 => ?_) (fun h12 => ?_)
    · replace h12 := bnot_t h12
      have HR := mvd_c HF hlt hk.2 h12
      refine AWP.seq (AWP.region ?_)
      refine AOps.aD rfl rfl rfl rfl rfl (.nil ?_)
      refine AWP.ret ?_
      refine ⟨RetD.eq rfl ?_, trivial⟩
      all_goals (first | rw [HR] | rw [mvd_a hlt hk.2 (show mvF c k = 1 from by unfold mvF; rw [dif_pos hlt]; (first | (exfalso; omega) | ((repeat (first | rw [if_pos (by first | assumption | omega)] | rw [if_neg (by first | assumption | omega)])); first | done | rfl | omega | decide))) (by decide)] | rw [mvd_a hlt hk.2 (show mvF c k = 8 from by unfold mvF; rw [dif_pos hlt]; (first | (exfalso; omega) | ((repeat (first | rw [if_pos (by first | assumption | omega)] | rw [if_neg (by first | assumption | omega)])); first | done | rfl | omega | decide))) (by decide)] | rw [mvd_a hlt hk.2 (show mvF c k = 7 from by unfold mvF; rw [dif_pos hlt]; (first | (exfalso; omega) | ((repeat (first | rw [if_pos (by first | assumption | omega)] | rw [if_neg (by first | assumption | omega)])); first | done | rfl | omega | decide))) (by decide)] | rw [mvd_a hlt hk.2 (show mvF c k = 9 from by unfold mvF; rw [dif_pos hlt]; (first | (exfalso; omega) | ((repeat (first | rw [if_pos (by first | assumption | omega)] | rw [if_neg (by first | assumption | omega)])); first | done | rfl | omega | decide))) (by decide)])
    replace h12 := bnot_f h12
    have HN := lp_0 hlt h12
    refine AWP.skip ?_
    refine AWP.region ?_
    refine AOps.step rfl rfl rfl (AOp.add64 rfl rfl rfl (by omega) (by omega)) ?_
    refine AOps.mD rfl rfl rfl rfl rfl (.nil ?_)
    refine ⟨k + 1, ⟨by omega, ffst_next hk.2 HN⟩, (by dsimp only; omega), Sub.less ⟨(SLe.of_eq rfl), SLe.refl _, SLe.refl _, SLe.refl _, trivial⟩ (fun _ h => h)⟩
  replace h11 := of_decide_eq_false h11
  rw [List.length_map] at h11
  obtain rfl : k = c.moved.length := by omega
  have HR : mvdF c = 0 := by rw [mvd_b HF]; exact hk.2
  refine AWP.exit ?_
  refine AWP.seq (AWP.region ?_)
  refine AOps.aD rfl rfl rfl rfl rfl (.nil ?_)
  refine AWP.ret ?_
  refine ⟨RetD.eq rfl ?_, trivial⟩
  all_goals (first | rw [HR] | rw [mvd_a hlt hk.2 (show mvF c k = 1 from by unfold mvF; rw [dif_pos hlt]; (first | (exfalso; omega) | ((repeat (first | rw [if_pos (by first | assumption | omega)] | rw [if_neg (by first | assumption | omega)])); first | done | rfl | omega | decide))) (by decide)] | rw [mvd_a hlt hk.2 (show mvF c k = 8 from by unfold mvF; rw [dif_pos hlt]; (first | (exfalso; omega) | ((repeat (first | rw [if_pos (by first | assumption | omega)] | rw [if_neg (by first | assumption | omega)])); first | done | rfl | omega | decide))) (by decide)] | rw [mvd_a hlt hk.2 (show mvF c k = 7 from by unfold mvF; rw [dif_pos hlt]; (first | (exfalso; omega) | ((repeat (first | rw [if_pos (by first | assumption | omega)] | rw [if_neg (by first | assumption | omega)])); first | done | rfl | omega | decide))) (by decide)] | rw [mvd_a hlt hk.2 (show mvF c k = 9 from by unfold mvF; rw [dif_pos hlt]; (first | (exfalso; omega) | ((repeat (first | rw [if_pos (by first | assumption | omega)] | rw [if_neg (by first | assumption | omega)])); first | done | rfl | omega | decide))) (by decide)])

end Go.Proofs.YtcilhhkmgebkeaaGreatDoor
