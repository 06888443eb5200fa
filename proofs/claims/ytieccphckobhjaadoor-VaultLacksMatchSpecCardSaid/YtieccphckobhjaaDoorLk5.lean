/- Walks and laws over abstract values, merged by tools/merge.py. No statement of the seat. -/
import Derived.ChangeKeysEq
import Derived.Laws.StructEq
import Derived.Test.YtieccphckobhjaaDoorLk4

namespace Go.Proofs.YtieccphckobhjaaDoor
open Go.RowKit
set_option linter.unusedVariables false

/-! Types. -/
namespace TyT10
theorem ag_46 : AggT Tryd.prog 46 3 := .of (by kernel_rfl)
theorem et_41 : ElemTy Tryd.prog 41 46 3 40 (.agg #[(.int .i64 0), (.string ⟨#[]⟩), (.string ⟨#[]⟩)]) := ⟨by kernel_rfl, by kernel_rfl, by kernel_rfl, by decide⟩
theorem sz_46 : ∀ w, (sizeOf 46).run Tryd.prog w = .ok 3 w := SizeT.of (by kernel_rfl)
end TyT10
open TyT10


theorem sorted_at {α : Type} {cmp : α → α → Int} {l : List (α × Nat)} {a b a' b' : Nat} (h : SortedOn cmp l a b) (ha : a = a') (hb : b = b') : SortedOn cmp l a' b' := ha ▸ hb ▸ h
theorem sortSeg_self {α : Type} {cmp : α → α → Int} (hc : Pre cmp) {l : List (α × Nat)} {a b : Nat} (hab : a ≤ b) (ht : TagsOk l) (hs : SortedOn cmp l a b) : sortSeg cmp l a b = l := (sortSeg_eq hc hab ht (List.Perm.refl _) (fun _ _ => rfl) hs).symm


set_option maxRecDepth 100000 in
set_option maxHeartbeats 1000000 in
theorem c_symStep (cmp : Tsk → Tsk → Int) (hc : Pre cmp) (f : Nat) (caps : List D) (hf : ∀ x y : Tsk, ACall Tryd.prog f (.agg x.ds :: .agg y.ds :: caps) (.v (.int .i64 (cmp x y)))) (N : Nat) (ih : ∀ (l : List (Tsk × Nat)) (a m b : Nat), b - a < N → a < m → m < b → b ≤ l.length → l.length ≤ 4611686018427387904 → TagsOk l → SortedOn cmp l a m → SortedOn cmp l m b → Cross l a m b → RCall Tryd.prog 113 46 3 (l.map tds) ((sortSeg cmp l a b).map tds) [.v (.int .i64 a), .v (.int .i64 m), .v (.int .i64 b), .clo (.func f) caps] (.tup [])) (l : List (Tsk × Nat)) (a m b : Nat) (hN : b - a ≤ N) (ham : a < m) (hmb : m < b) (hbl : b ≤ l.length) (hl : l.length ≤ 4611686018427387904) (ht : TagsOk l) (s1 : SortedOn cmp l a m) (s2 : SortedOn cmp l m b) (hx : Cross l a m b) : RCall Tryd.prog 113 46 3 (l.map tds) ((sortSeg cmp l a b).map tds) [.v (.int .i64 a), .v (.int .i64 m), .v (.int .i64 b), .clo (.func f) caps] (.tup []) := by
  refine RCall.of1 (chg := fun i => Nat.ble 1000 i) (xcall_of (n := 220) (ds' := []) Tryd.func113 rfl (by kernel_rfl) rfl [] rfl rfl ?_) rfl
  intro B w0 F0 fr ρ0
  have ha : a < l.length := by omega
  have hm : m < l.length := by omega
  refine AWP.seq ?_
  refine AWP.seq ?_
  refine AWP.region ?_
  refine AOps.step rfl rfl rfl (AOp.moveD rfl rfl) ?_
  refine AOps.step rfl rfl rfl (AOp.moveD rfl rfl) ?_
  refine AOps.step rfl rfl rfl (AOp.sub64 rfl rfl rfl (by omega) (by omega)) ?_
  refine AOps.step rfl rfl rfl (AOp.eql rfl rfl rfl) ?_
  refine AOps.nil ?_
  refine AWP.cond rfl (fun h1 => ?_) (fun h1 => ?_)
  · replace h1 := of_decide_eq_true h1
    have hma : m = a + 1 := by omega
    refine AWP.seq ?_
    refine AWP.region ?_
    refine AOps.step rfl rfl rfl (AOp.moveD rfl rfl) ?_
    refine AOps.step rfl rfl rfl (AOp.assignD rfl rfl) ?_
    refine AOps.nil ?_
    refine AWP.seq ?_
    refine AWP.region ?_
    refine AOps.step rfl rfl rfl (AOp.moveD rfl rfl) ?_
    refine AOps.step rfl rfl rfl (AOp.assignD rfl rfl) ?_
    refine AOps.nil ?_
    refine AWP.seq ?_
    refine AWP.block ?_
    refine AWP.loop (G := Nat × Nat) (fun g => Env.of [(10, .d (.v (.int .i64 (g.1 : Int)))), (11, .d (.v (.int .i64 (g.2 : Int)))), (0, .own 1), (1, .d (.v (.int .i64 a))), (2, .d (.v (.int .i64 m))), (3, .d (.v (.int .i64 b))), (4, .d (.clo (.func f) caps))]) (fun g => [(1, .row 46 3 (l.map tds))]) (fun g => Srch l (fun y => tlt cmp y (l[a]'ha)) (fun y => tlt cmp (l[a]'ha) y) m b g.1 g.2) (fun g => g.2 - g.1) (m, b) (Srch.start (by omega)) (Sub.less ⟨(SLe.i64 rfl), (SLe.i64 rfl), SLe.refl _, SLe.refl _, SLe.refl _, SLe.refl _, SLe.refl _, trivial⟩ (row_same rfl)) ?_
    rintro ⟨i, j⟩ hs
    dsimp only at hs ⊢
    have hs1 := hs.ai
    have hs2 := hs.ij
    have hs3 := hs.jb
    refine AWP.seq ?_
    refine AWP.seq ?_
    refine AWP.region ?_
    refine AOps.step rfl rfl rfl (AOp.moveD rfl rfl) ?_
    refine AOps.step rfl rfl rfl (AOp.moveD rfl rfl) ?_
    refine AOps.step rfl rfl rfl (AOp.lss rfl rfl rfl) ?_
    refine AOps.nil ?_
    refine AWP.cond rfl (fun h2 => ?_) (fun h2 => ?_)
    · replace h2 := of_decide_eq_true h2
      have hij : i < j := by omega
      have hhl : ((i + j) / 2) < l.length := by omega
      refine AWP.skip ?_
      refine AWP.block ?_
      refine AWP.seq ?_
      refine AWP.region ?_
      refine AOps.step rfl rfl rfl (AOp.moveD rfl rfl) ?_
      refine AOps.step rfl rfl rfl (AOp.moveD rfl rfl) ?_
      refine AOps.step rfl rfl rfl (AOp.add64 rfl rfl rfl (by omega) (by omega)) ?_
      refine AOps.step rfl rfl rfl (AOp.convSame rfl (by kernel_rfl) rfl (wrapU64 (by omega) (by omega))) ?_
      refine AOps.step rfl rfl rfl (AOp.half rfl rfl rfl) ?_
      refine AOps.step rfl rfl rfl (AOp.convSame rfl (by kernel_rfl) rfl (w64 (by omega) (by omega))) ?_
      refine AOps.step rfl rfl rfl (AOp.assignD rfl rfl) ?_
      refine AOps.nil ?_
      refine AWP.seq ?_
      refine AWP.draw (by kernel_rfl) (by kernel_rfl) ?_
      refine DRun.step rfl rfl rfl (AOp.moveD rfl rfl) ?_
      refine DRun.step rfl rfl rfl (AOp.moveO rfl rfl) ?_
      refine DRun.step rfl rfl rfl (AOp.moveD rfl rfl) ?_
      refine DRun.step rfl rfl rfl (AOp.indexOwn rfl et_41 rfl rfl (.head _) ((i + j) / 2) (by omega) (by rw [List.length_map]; omega)) ?_
      refine DRun.step rfl rfl rfl (AOp.loadRowAgg rfl ag_46 rfl (.head _) ((i + j) / 2) rfl (at_list hhl)) ?_
      refine DRun.step rfl rfl rfl (AOp.moveO rfl rfl) ?_
      refine DRun.step rfl rfl rfl (AOp.moveD rfl rfl) ?_
      refine DRun.step rfl rfl rfl (AOp.indexOwn rfl et_41 rfl rfl (.head _) a rfl (by rw [List.length_map]; omega)) ?_
      refine DRun.step rfl rfl rfl (AOp.loadRowAgg rfl ag_46 rfl (.head _) a rfl (at_list ha)) ?_
      refine DRun.step rfl rfl rfl (AOp.callClo rfl rfl (.cons (ArgOk.rfl' rfl) (.cons (ArgOk.rfl' rfl) .nil)) (hf (l[((i + j) / 2)]'hhl).1 (l[a]'ha).1)) ?_
      refine DRun.step rfl rfl rfl (AOp.lss rfl rfl rfl) ?_
      refine DRun.nil ?_
      refine AWP.cond rfl (fun h3 => ?_) (fun h3 => ?_)
      · replace h3 := of_decide_eq_true h3
        have HU := hs.up (h := ((i + j) / 2)) (by omega) (by omega) (mono_up hc s2 (by omega) (at_some l hhl) (.inl h3))
        refine AWP.region ?_
        refine AOps.step rfl rfl rfl (AOp.moveD rfl rfl) ?_
        refine AOps.step rfl rfl rfl (AOp.add64 rfl rfl rfl (by omega) (by omega)) ?_
        refine AOps.step rfl rfl rfl (AOp.assignD rfl rfl) ?_
        refine AOps.nil ?_
        refine ⟨(((i + j) / 2) + 1, j), HU, (by dsimp only; omega), Sub.less ⟨(SLe.i64 (by dsimp only; omega)), (SLe.refl _), SLe.refl _, SLe.refl _, SLe.refl _, SLe.refl _, SLe.refl _, trivial⟩ (row_same rfl)⟩
      · replace h3 := of_decide_eq_false h3
        have HD := hs.dn (h := ((i + j) / 2)) (by omega) (by omega) (mono_dn hc s2 (by omega) (at_some l hhl) (cross_ge (hx a _ _ _ (Nat.le_refl _) ham (by omega) (by omega) (at_some l ha) (at_some l hhl)) h3))
        refine AWP.region ?_
        refine AOps.step rfl rfl rfl (AOp.moveD rfl rfl) ?_
        refine AOps.step rfl rfl rfl (AOp.assignD rfl rfl) ?_
        refine AOps.nil ?_
        refine ⟨(i, ((i + j) / 2)), HD, (by dsimp only; omega), Sub.less ⟨(SLe.refl _), (SLe.i64 (by dsimp only; omega)), SLe.refl _, SLe.refl _, SLe.refl _, SLe.refl _, SLe.refl _, trivial⟩ (row_same rfl)⟩
    · replace h2 := of_decide_eq_false h2
      have hij : i = j := by omega
      refine AWP.exit ?_
      refine AWP.seq ?_
      refine AWP.seq ?_
      refine AWP.region ?_
      refine AOps.step rfl rfl rfl (AOp.moveD rfl rfl) ?_
      refine AOps.step rfl rfl rfl (AOp.assignD rfl rfl) ?_
      refine AOps.nil ?_
      refine AWP.block ?_
      refine AWP.loop (G := Nat) (fun k => Env.of [(13, .d (.v (.int .i64 (k : Int)))), (10, .d (.v (.int .i64 (i : Int)))), (0, .own 1), (1, .d (.v (.int .i64 a))), (2, .d (.v (.int .i64 m))), (3, .d (.v (.int .i64 b))), (4, .d (.clo (.func f) caps))]) (fun k => [(1, .row 46 3 ((rotl l a (a + 1) (k + 1)).map tds))]) (fun k => a ≤ k ∧ k + 1 ≤ i) (fun k => i - k) a ⟨Nat.le_refl _, by omega⟩ (Sub.less ⟨(SLe.i64 rfl), SLe.refl _, SLe.refl _, SLe.refl _, SLe.refl _, SLe.refl _, SLe.refl _, trivial⟩ (row_same (by rw [rotl_id2 (by omega)]))) ?_
      rintro k ⟨k1, k2⟩
      refine AWP.seq ?_
      refine AWP.seq ?_
      refine AWP.region ?_
      refine AOps.step rfl rfl rfl (AOp.moveD rfl rfl) ?_
      refine AOps.step rfl rfl rfl (AOp.moveD rfl rfl) ?_
      refine AOps.step rfl rfl rfl (AOp.sub64 rfl rfl rfl (by omega) (by omega)) ?_
      refine AOps.step rfl rfl rfl (AOp.lss rfl rfl rfl) ?_
      refine AOps.nil ?_
      refine AWP.cond rfl (fun h4 => ?_) (fun h4 => ?_)
      · replace h4 := of_decide_eq_true h4
        have hki : k + 1 < i := by omega
        have hrl : (rotl l a (a + 1) (k + 1)).length = l.length := rotl_len (by omega) (by omega) (by omega)
        refine AWP.skip ?_
        refine AWP.seq ?_
        refine AWP.block ?_
        refine AWP.drawG (fun k => (Nat.beq k 15 || Nat.beq k 17) || (Nat.beq k 8 || Nat.beq k 9 || Nat.beq k 12 || Nat.beq k 13 || Nat.beq k 14 || Nat.beq k 16)) (fun k => Nat.beq k 15 || Nat.beq k 17) (fun k h => Bool.or_eq_true_iff.2 (.inl h)) (by kernel_rfl) (by kernel_rfl) (by kernel_rfl) ?_
        refine GRun.step rfl rfl rfl (fun _ => AOp.moveO rfl rfl) ?_
        refine GRun.step rfl rfl rfl (fun _ => AOp.moveD rfl rfl) ?_
        refine GRun.step rfl rfl rfl (fun _ => AOp.moveO rfl rfl) ?_
        refine GRun.step rfl rfl rfl (fun _ => AOp.moveD rfl rfl) ?_
        refine GRun.step rfl rfl rfl (fun _ => AOp.add64 rfl rfl rfl (by omega) (by omega)) ?_
        refine GRun.step rfl rfl rfl (fun _ => AOp.moveO rfl rfl) ?_
        refine GRun.step rfl rfl rfl (fun _ => AOp.moveD rfl rfl) ?_
        refine GRun.step rfl rfl rfl (fun _ => AOp.add64 rfl rfl rfl (by omega) (by omega)) ?_
        refine GRun.stepS rfl rfl rfl rfl (AOp.indexOwn rfl et_41 rfl rfl (.head _) (k + 1) (by omega) (by rw [List.length_map, hrl]; omega)) ?_
        refine GRun.stepS rfl rfl rfl rfl (AOp.loadRowAgg rfl ag_46 rfl (.head _) (k + 1) rfl (at_list (by omega))) ?_
        refine GRun.step rfl rfl rfl (fun _ => AOp.moveO rfl rfl) ?_
        refine GRun.step rfl rfl rfl (fun _ => AOp.moveD rfl rfl) ?_
        refine GRun.stepS rfl rfl rfl rfl (AOp.indexOwn rfl et_41 rfl rfl (.head _) k rfl (by rw [List.length_map, hrl]; omega)) ?_
        refine GRun.stepS rfl rfl rfl rfl (AOp.loadRowAgg rfl ag_46 rfl (.head _) k rfl (at_list (by omega))) ?_
        refine GRun.stepS rfl rfl rfl rfl (AOp.indexOwn rfl et_41 rfl rfl (.head _) k rfl (by rw [List.length_map, hrl]; omega)) ?_
        refine GRun.eff rfl rfl rfl (EOp.storeRow rfl rfl sz_46 rfl (.head _) rfl rfl rfl k 0 rfl (at_list (by omega)) (Nat.le_of_ble_eq_true rfl)) ?_
        refine GRun.stepS rfl rfl rfl rfl (AOp.indexOwn rfl et_41 rfl rfl (.head _) (k + 1) (by omega) (by rw [List.length_set, List.length_map, hrl]; omega)) ?_
        refine GRun.eff rfl rfl rfl (EOp.storeRow rfl rfl sz_46 rfl (.head _) rfl rfl rfl (k + 1) 0 rfl (List.getElem?_eq_getElem (by rw [List.length_set, List.length_map, hrl]; omega)) (Nat.le_of_ble_eq_true rfl)) ?_
        refine GRun.nil ?_
        refine AWP.region ?_
        refine AOps.step rfl rfl rfl (AOp.moveD rfl rfl) ?_
        refine AOps.step rfl rfl rfl (AOp.add64 rfl rfl rfl (by omega) (by omega)) ?_
        refine AOps.step rfl rfl rfl (AOp.assignD rfl rfl) ?_
        refine AOps.nil ?_
        refine ⟨k + 1, ⟨by omega, by omega⟩, (by dsimp only; omega), Sub.less ⟨(SLe.i64 (by omega)), SLe.refl _, SLe.refl _, SLe.refl _, SLe.refl _, SLe.refl _, SLe.refl _, trivial⟩ (row_same ((row_swap (enc := tds) (size := 3) (cur := rotl l a (a + 1) (k + 1)) (i := k) (j := k + 1) (fun _ => rfl) (by omega) (by omega) rfl (List.getElem?_eq_getElem (by rw [List.length_set, List.length_map, hrl]; omega))).trans (by rw [rot_up k1 (by omega)])))⟩
      · replace h4 := of_decide_eq_false h4
        have hki : k + 1 = i := by omega
        subst hma
        have HF : rotl l a (a + 1) (k + 1) = sortSeg cmp l a b := one_up hc ht hbl s2 (by omega) (by omega) (fun h x y q1 q2 hy hx2 => by rw [at_some l ha] at hx2; cases hx2; exact hs.low h y q1 (by omega) hy) (fun h x y q1 q2 hy hx2 => by rw [at_some l ha] at hx2; cases hx2; exact hs.high h y (by omega) q2 hy)
        refine AWP.exit ?_
        refine AWP.ret ?_
        refine ⟨trivial, ⟨mem_row_eq (.head _) ?_, trivial⟩⟩
        all_goals (rw [HF])
  · replace h1 := of_decide_eq_false h1
    have hma : a + 1 < m := by omega
    refine AWP.skip ?_
    refine AWP.seq ?_
    refine AWP.seq ?_
    refine AWP.region ?_
    refine AOps.step rfl rfl rfl (AOp.moveD rfl rfl) ?_
    refine AOps.step rfl rfl rfl (AOp.moveD rfl rfl) ?_
    refine AOps.step rfl rfl rfl (AOp.sub64 rfl rfl rfl (by omega) (by omega)) ?_
    refine AOps.step rfl rfl rfl (AOp.eql rfl rfl rfl) ?_
    refine AOps.nil ?_
    refine AWP.cond rfl (fun h5 => ?_) (fun h5 => ?_)
    · replace h5 := of_decide_eq_true h5
      have hbm : b = m + 1 := by omega
      refine AWP.seq ?_
      refine AWP.region ?_
      refine AOps.step rfl rfl rfl (AOp.moveD rfl rfl) ?_
      refine AOps.step rfl rfl rfl (AOp.assignD rfl rfl) ?_
      refine AOps.nil ?_
      refine AWP.seq ?_
      refine AWP.region ?_
      refine AOps.step rfl rfl rfl (AOp.moveD rfl rfl) ?_
      refine AOps.step rfl rfl rfl (AOp.assignD rfl rfl) ?_
      refine AOps.nil ?_
      refine AWP.seq ?_
      refine AWP.block ?_
      refine AWP.loop (G := Nat × Nat) (fun g => Env.of [(14, .d (.v (.int .i64 (g.1 : Int)))), (15, .d (.v (.int .i64 (g.2 : Int)))), (0, .own 1), (1, .d (.v (.int .i64 a))), (2, .d (.v (.int .i64 m))), (3, .d (.v (.int .i64 b))), (4, .d (.clo (.func f) caps))]) (fun g => [(1, .row 46 3 (l.map tds))]) (fun g => Srch l (fun y => tlt cmp y (l[m]'hm)) (fun y => tlt cmp (l[m]'hm) y) a m g.1 g.2) (fun g => g.2 - g.1) (a, m) (Srch.start (by omega)) (Sub.less ⟨(SLe.i64 rfl), (SLe.i64 rfl), SLe.refl _, SLe.refl _, SLe.refl _, SLe.refl _, SLe.refl _, trivial⟩ (row_same rfl)) ?_
      rintro ⟨i, j⟩ hs
      dsimp only at hs ⊢
      have hs1 := hs.ai
      have hs2 := hs.ij
      have hs3 := hs.jb
      refine AWP.seq ?_
      refine AWP.seq ?_
      refine AWP.region ?_
      refine AOps.step rfl rfl rfl (AOp.moveD rfl rfl) ?_
      refine AOps.step rfl rfl rfl (AOp.moveD rfl rfl) ?_
      refine AOps.step rfl rfl rfl (AOp.lss rfl rfl rfl) ?_
      refine AOps.nil ?_
      refine AWP.cond rfl (fun h6 => ?_) (fun h6 => ?_)
      · replace h6 := of_decide_eq_true h6
        have hij : i < j := by omega
        have hhl : ((i + j) / 2) < l.length := by omega
        refine AWP.skip ?_
        refine AWP.block ?_
        refine AWP.seq ?_
        refine AWP.region ?_
        refine AOps.step rfl rfl rfl (AOp.moveD rfl rfl) ?_
        refine AOps.step rfl rfl rfl (AOp.moveD rfl rfl) ?_
        refine AOps.step rfl rfl rfl (AOp.add64 rfl rfl rfl (by omega) (by omega)) ?_
        refine AOps.step rfl rfl rfl (AOp.convSame rfl (by kernel_rfl) rfl (wrapU64 (by omega) (by omega))) ?_
        refine AOps.step rfl rfl rfl (AOp.half rfl rfl rfl) ?_
        refine AOps.step rfl rfl rfl (AOp.convSame rfl (by kernel_rfl) rfl (w64 (by omega) (by omega))) ?_
        refine AOps.step rfl rfl rfl (AOp.assignD rfl rfl) ?_
        refine AOps.nil ?_
        refine AWP.seq ?_
        refine AWP.draw (by kernel_rfl) (by kernel_rfl) ?_
        refine DRun.step rfl rfl rfl (AOp.moveD rfl rfl) ?_
        refine DRun.step rfl rfl rfl (AOp.moveO rfl rfl) ?_
        refine DRun.step rfl rfl rfl (AOp.moveD rfl rfl) ?_
        refine DRun.step rfl rfl rfl (AOp.indexOwn rfl et_41 rfl rfl (.head _) m rfl (by rw [List.length_map]; omega)) ?_
        refine DRun.step rfl rfl rfl (AOp.loadRowAgg rfl ag_46 rfl (.head _) m rfl (at_list hm)) ?_
        refine DRun.step rfl rfl rfl (AOp.moveO rfl rfl) ?_
        refine DRun.step rfl rfl rfl (AOp.moveD rfl rfl) ?_
        refine DRun.step rfl rfl rfl (AOp.indexOwn rfl et_41 rfl rfl (.head _) ((i + j) / 2) (by omega) (by rw [List.length_map]; omega)) ?_
        refine DRun.step rfl rfl rfl (AOp.loadRowAgg rfl ag_46 rfl (.head _) ((i + j) / 2) rfl (at_list hhl)) ?_
        refine DRun.step rfl rfl rfl (AOp.callClo rfl rfl (.cons (ArgOk.rfl' rfl) (.cons (ArgOk.rfl' rfl) .nil)) (hf (l[m]'hm).1 (l[((i + j) / 2)]'hhl).1)) ?_
        refine DRun.step rfl rfl rfl (AOp.lss rfl rfl rfl) ?_
        refine DRun.step rfl rfl rfl (AOp.not rfl rfl) ?_
        refine DRun.nil ?_
        refine AWP.cond rfl (fun h7 => ?_) (fun h7 => ?_)
        · replace h7 := bnot_t h7; replace h7 := of_decide_eq_false h7
          have HU := hs.up (h := ((i + j) / 2)) (by omega) (by omega) (mono_up hc s1 (by omega) (at_some l hhl) (cross_ge (hx _ m _ _ (by omega) (by omega) (Nat.le_refl _) hmb (at_some l hhl) (at_some l hm)) h7))
          refine AWP.region ?_
          refine AOps.step rfl rfl rfl (AOp.moveD rfl rfl) ?_
          refine AOps.step rfl rfl rfl (AOp.add64 rfl rfl rfl (by omega) (by omega)) ?_
          refine AOps.step rfl rfl rfl (AOp.assignD rfl rfl) ?_
          refine AOps.nil ?_
          refine ⟨(((i + j) / 2) + 1, j), HU, (by dsimp only; omega), Sub.less ⟨(SLe.i64 (by dsimp only; omega)), (SLe.refl _), SLe.refl _, SLe.refl _, SLe.refl _, SLe.refl _, SLe.refl _, trivial⟩ (row_same rfl)⟩
        · replace h7 := bnot_f h7; replace h7 := of_decide_eq_true h7
          have HD := hs.dn (h := ((i + j) / 2)) (by omega) (by omega) (mono_dn hc s1 (by omega) (at_some l hhl) (.inl (by omega)))
          refine AWP.region ?_
          refine AOps.step rfl rfl rfl (AOp.moveD rfl rfl) ?_
          refine AOps.step rfl rfl rfl (AOp.assignD rfl rfl) ?_
          refine AOps.nil ?_
          refine ⟨(i, ((i + j) / 2)), HD, (by dsimp only; omega), Sub.less ⟨(SLe.refl _), (SLe.i64 (by dsimp only; omega)), SLe.refl _, SLe.refl _, SLe.refl _, SLe.refl _, SLe.refl _, trivial⟩ (row_same rfl)⟩
      · replace h6 := of_decide_eq_false h6
        have hij : i = j := by omega
        refine AWP.exit ?_
        refine AWP.seq ?_
        refine AWP.seq ?_
        refine AWP.region ?_
        refine AOps.step rfl rfl rfl (AOp.moveD rfl rfl) ?_
        refine AOps.step rfl rfl rfl (AOp.assignD rfl rfl) ?_
        refine AOps.nil ?_
        refine AWP.block ?_
        refine AWP.loop (G := Nat) (fun k => Env.of [(17, .d (.v (.int .i64 (k : Int)))), (14, .d (.v (.int .i64 (i : Int)))), (0, .own 1), (1, .d (.v (.int .i64 a))), (2, .d (.v (.int .i64 m))), (3, .d (.v (.int .i64 b))), (4, .d (.clo (.func f) caps))]) (fun k => [(1, .row 46 3 ((rotl l k m (m + 1)).map tds))]) (fun k => i ≤ k ∧ k ≤ m) (fun k => k) m ⟨by omega, Nat.le_refl _⟩ (Sub.less ⟨(SLe.i64 rfl), SLe.refl _, SLe.refl _, SLe.refl _, SLe.refl _, SLe.refl _, SLe.refl _, trivial⟩ (row_same (by rw [rotl_id1 (by omega)]))) ?_
        rintro k ⟨k1, k2⟩
        refine AWP.seq ?_
        refine AWP.seq ?_
        refine AWP.region ?_
        refine AOps.step rfl rfl rfl (AOp.moveD rfl rfl) ?_
        refine AOps.step rfl rfl rfl (AOp.moveD rfl rfl) ?_
        refine AOps.step rfl rfl rfl (AOp.gtr rfl rfl rfl) ?_
        refine AOps.nil ?_
        refine AWP.cond rfl (fun h8 => ?_) (fun h8 => ?_)
        · replace h8 := of_decide_eq_true h8
          have hki : i < k := by omega
          have hrl : (rotl l k m (m + 1)).length = l.length := rotl_len (by omega) (by omega) (by omega)
          refine AWP.skip ?_
          refine AWP.seq ?_
          refine AWP.block ?_
          refine AWP.drawG (fun k => (Nat.beq k 15 || Nat.beq k 17) || (Nat.beq k 8 || Nat.beq k 9 || Nat.beq k 12 || Nat.beq k 13 || Nat.beq k 14 || Nat.beq k 16)) (fun k => Nat.beq k 15 || Nat.beq k 17) (fun k h => Bool.or_eq_true_iff.2 (.inl h)) (by kernel_rfl) (by kernel_rfl) (by kernel_rfl) ?_
          refine GRun.step rfl rfl rfl (fun _ => AOp.moveO rfl rfl) ?_
          refine GRun.step rfl rfl rfl (fun _ => AOp.moveD rfl rfl) ?_
          refine GRun.step rfl rfl rfl (fun _ => AOp.moveO rfl rfl) ?_
          refine GRun.step rfl rfl rfl (fun _ => AOp.moveD rfl rfl) ?_
          refine GRun.step rfl rfl rfl (fun _ => AOp.sub64 rfl rfl rfl (by omega) (by omega)) ?_
          refine GRun.step rfl rfl rfl (fun _ => AOp.moveO rfl rfl) ?_
          refine GRun.step rfl rfl rfl (fun _ => AOp.moveD rfl rfl) ?_
          refine GRun.step rfl rfl rfl (fun _ => AOp.sub64 rfl rfl rfl (by omega) (by omega)) ?_
          refine GRun.stepS rfl rfl rfl rfl (AOp.indexOwn rfl et_41 rfl rfl (.head _) (k - 1) (by omega) (by rw [List.length_map, hrl]; omega)) ?_
          refine GRun.stepS rfl rfl rfl rfl (AOp.loadRowAgg rfl ag_46 rfl (.head _) (k - 1) rfl (at_list (by omega))) ?_
          refine GRun.step rfl rfl rfl (fun _ => AOp.moveO rfl rfl) ?_
          refine GRun.step rfl rfl rfl (fun _ => AOp.moveD rfl rfl) ?_
          refine GRun.stepS rfl rfl rfl rfl (AOp.indexOwn rfl et_41 rfl rfl (.head _) k rfl (by rw [List.length_map, hrl]; omega)) ?_
          refine GRun.stepS rfl rfl rfl rfl (AOp.loadRowAgg rfl ag_46 rfl (.head _) k rfl (at_list (by omega))) ?_
          refine GRun.stepS rfl rfl rfl rfl (AOp.indexOwn rfl et_41 rfl rfl (.head _) k rfl (by rw [List.length_map, hrl]; omega)) ?_
          refine GRun.eff rfl rfl rfl (EOp.storeRow rfl rfl sz_46 rfl (.head _) rfl rfl rfl k 0 rfl (at_list (by omega)) (Nat.le_of_ble_eq_true rfl)) ?_
          refine GRun.stepS rfl rfl rfl rfl (AOp.indexOwn rfl et_41 rfl rfl (.head _) (k - 1) (by omega) (by rw [List.length_set, List.length_map, hrl]; omega)) ?_
          refine GRun.eff rfl rfl rfl (EOp.storeRow rfl rfl sz_46 rfl (.head _) rfl rfl rfl (k - 1) 0 rfl (List.getElem?_eq_getElem (by rw [List.length_set, List.length_map, hrl]; omega)) (Nat.le_of_ble_eq_true rfl)) ?_
          refine GRun.nil ?_
          refine AWP.region ?_
          refine AOps.step rfl rfl rfl (AOp.moveD rfl rfl) ?_
          refine AOps.step rfl rfl rfl (AOp.sub64 rfl rfl rfl (by omega) (by omega)) ?_
          refine AOps.step rfl rfl rfl (AOp.assignD rfl rfl) ?_
          refine AOps.nil ?_
          refine ⟨k - 1, ⟨by omega, by omega⟩, (by dsimp only; omega), Sub.less ⟨(SLe.i64 (by omega)), SLe.refl _, SLe.refl _, SLe.refl _, SLe.refl _, SLe.refl _, SLe.refl _, trivial⟩ (row_same ((row_swap (enc := tds) (size := 3) (cur := rotl l k m (m + 1)) (i := k) (j := k - 1) (fun _ => rfl) (by omega) (by omega) rfl (List.getElem?_eq_getElem (by rw [List.length_set, List.length_map, hrl]; omega))).trans (by rw [rot_down k2 (by omega) (by omega)])))⟩
        · replace h8 := of_decide_eq_false h8
          have hki : k = i := by omega
          subst hbm
          subst hki
          have HF : rotl l k m (m + 1) = sortSeg cmp l a (m + 1) := one_down hc ht hbl s1 (by omega) (by omega) (fun h x y q1 q2 hy hx2 => by rw [at_some l hm] at hx2; cases hx2; exact hs.low h y q1 (by omega) hy) (fun h x y q1 q2 hy hx2 => by rw [at_some l hm] at hx2; cases hx2; exact hs.high h y (by omega) q2 hy)
          refine AWP.exit ?_
          refine AWP.ret ?_
          refine ⟨trivial, ⟨mem_row_eq (.head _) ?_, trivial⟩⟩
          all_goals (rw [HF])
    · replace h5 := of_decide_eq_false h5
      have hbm : m + 1 < b := by omega
      obtain ⟨mid, hmid⟩ : ∃ mid, mid = (a + b) / 2 := ⟨_, rfl⟩
      refine AWP.skip ?_
      refine AWP.seq ?_
      refine AWP.region ?_
      refine AOps.step rfl rfl rfl (AOp.moveD rfl rfl) ?_
      refine AOps.step rfl rfl rfl (AOp.moveD rfl rfl) ?_
      refine AOps.step rfl rfl rfl (AOp.add64 rfl rfl rfl (by omega) (by omega)) ?_
      refine AOps.step rfl rfl rfl (AOp.convSame rfl (by kernel_rfl) rfl (wrapU64 (by omega) (by omega))) ?_
      refine AOps.step rfl rfl rfl (AOp.half rfl rfl rfl) ?_
      refine AOps.step rfl rfl rfl (AOp.convSame rfl (by kernel_rfl) rfl (w64 (by omega) (by omega))) ?_
      refine AOps.step rfl rfl rfl (AOp.assignD rfl rfl) ?_
      refine AOps.nil ?_
      refine AWP.seq ?_
      refine AWP.region ?_
      refine AOps.step rfl rfl rfl (AOp.moveD rfl rfl) ?_
      refine AOps.step rfl rfl rfl (AOp.moveD rfl rfl) ?_
      refine AOps.step rfl rfl rfl (AOp.add64 rfl rfl rfl (by omega) (by omega)) ?_
      refine AOps.step rfl rfl rfl (AOp.assignD rfl rfl) ?_
      refine AOps.nil ?_
      refine AWP.seq ?_
      refine AWP.region ?_
      refine AOps.step rfl rfl rfl (AOp.assignD rfl rfl) ?_
      refine AOps.step rfl rfl rfl (AOp.assignD rfl rfl) ?_
      refine AOps.nil ?_
      refine AWP.seq ?_
      refine AWP.seq ?_
      refine AWP.region ?_
      refine AOps.step rfl rfl rfl (AOp.moveD rfl rfl) ?_
      refine AOps.step rfl rfl rfl (AOp.moveD rfl rfl) ?_
      refine AOps.step rfl rfl rfl (AOp.gtr rfl rfl rfl) ?_
      refine AOps.nil ?_
      refine AWP.cond rfl (fun h9 => ?_) (fun h9 => ?_)
      · replace h9 := of_decide_eq_true h9
        have hmm : mid < m := by omega
        obtain ⟨lo0, hlo0⟩ : ∃ lo0, lo0 + b = mid + m := ⟨mid + m - b, by omega⟩
        obtain ⟨hi0, hhi0⟩ : ∃ hi0, hi0 = mid := ⟨_, rfl⟩
        have hg : (mid < m ∧ lo0 + b = mid + m ∧ hi0 = mid) ∨ (m ≤ mid ∧ lo0 = a ∧ hi0 = m) := .inl ⟨hmm, hlo0, hhi0⟩
        refine AWP.seq ?_
        refine AWP.region ?_
        refine AOps.step rfl rfl rfl (AOp.moveD rfl rfl) ?_
        refine AOps.step rfl rfl rfl (AOp.moveD rfl rfl) ?_
        refine AOps.step rfl rfl rfl (AOp.sub64 rfl rfl rfl (by omega) (by omega)) ?_
        refine AOps.step rfl rfl rfl (AOp.assignD rfl rfl) ?_
        refine AOps.nil ?_
        refine AWP.region ?_
        refine AOps.step rfl rfl rfl (AOp.moveD rfl rfl) ?_
        refine AOps.step rfl rfl rfl (AOp.assignD rfl rfl) ?_
        refine AOps.nil ?_
        refine AWP.seq ?_
        refine AWP.region ?_
        refine AOps.step rfl rfl rfl (AOp.moveD rfl rfl) ?_
        refine AOps.step rfl rfl rfl (AOp.sub64 rfl rfl rfl (by omega) (by omega)) ?_
        refine AOps.step rfl rfl rfl (AOp.assignD rfl rfl) ?_
        refine AOps.nil ?_
        refine AWP.seq ?_
        refine AWP.block ?_
        refine AWP.loop (G := Nat × Nat) (fun g => Env.of [(20, .d (.v (.int .i64 (g.1 : Int)))), (21, .d (.v (.int .i64 (g.2 : Int)))), (22, .d (.v (.int .i64 ((mid + m - 1 : Nat) : Int)))), (19, .d (.v (.int .i64 ((mid + m : Nat) : Int)))), (18, .d (.v (.int .i64 (mid : Int)))), (0, .own 1), (1, .d (.v (.int .i64 a))), (2, .d (.v (.int .i64 m))), (3, .d (.v (.int .i64 b))), (4, .d (.clo (.func f) caps))]) (fun g => [(1, .row 46 3 (l.map tds))]) (fun g => CutS cmp l (mid + m - 1) lo0 hi0 g.1 g.2) (fun g => g.2 - g.1) (lo0, hi0) ⟨Nat.le_refl _, by dsimp only; omega, Nat.le_refl _, fun h => absurd h (Nat.lt_irrefl _), fun h => absurd h (Nat.lt_irrefl _)⟩ (Sub.less ⟨(SLe.i64 (by first | omega | (dsimp only; omega))), (SLe.i64 (by first | omega | (dsimp only; omega))), (SLe.i64 (by first | omega | (dsimp only; omega))), (SLe.i64 (by first | omega | (dsimp only; omega))), (SLe.i64 (by first | omega | (dsimp only; omega))), SLe.refl _, SLe.refl _, SLe.refl _, SLe.refl _, SLe.refl _, trivial⟩ (row_same rfl)) ?_
        rintro ⟨i, j⟩ hs
        dsimp only at hs ⊢
        have hs1 := hs.ls
        have hs2 := hs.sr
        have hs3 := hs.rh
        refine AWP.seq ?_
        refine AWP.seq ?_
        refine AWP.region ?_
        refine AOps.step rfl rfl rfl (AOp.moveD rfl rfl) ?_
        refine AOps.step rfl rfl rfl (AOp.moveD rfl rfl) ?_
        refine AOps.step rfl rfl rfl (AOp.lss rfl rfl rfl) ?_
        refine AOps.nil ?_
        refine AWP.cond rfl (fun h10 => ?_) (fun h10 => ?_)
        · replace h10 := of_decide_eq_true h10
          have hij : i < j := by omega
          have hhl : ((i + j) / 2) < l.length := by omega
          have hpl : mid + m - 1 - ((i + j) / 2) < l.length := by omega
          have htg := hx _ _ _ _ (show a ≤ ((i + j) / 2) by omega) (by omega) (show m ≤ mid + m - 1 - ((i + j) / 2) by omega) (by omega) (at_some l hhl) (at_some l hpl)
          refine AWP.skip ?_
          refine AWP.block ?_
          refine AWP.seq ?_
          refine AWP.region ?_
          refine AOps.step rfl rfl rfl (AOp.moveD rfl rfl) ?_
          refine AOps.step rfl rfl rfl (AOp.moveD rfl rfl) ?_
          refine AOps.step rfl rfl rfl (AOp.add64 rfl rfl rfl (by omega) (by omega)) ?_
          refine AOps.step rfl rfl rfl (AOp.convSame rfl (by kernel_rfl) rfl (wrapU64 (by omega) (by omega))) ?_
          refine AOps.step rfl rfl rfl (AOp.half rfl rfl rfl) ?_
          refine AOps.step rfl rfl rfl (AOp.convSame rfl (by kernel_rfl) rfl (w64 (by omega) (by omega))) ?_
          refine AOps.step rfl rfl rfl (AOp.assignD rfl rfl) ?_
          refine AOps.nil ?_
          refine AWP.seq ?_
          refine AWP.draw (by kernel_rfl) (by kernel_rfl) ?_
          refine DRun.step rfl rfl rfl (AOp.moveD rfl rfl) ?_
          refine DRun.step rfl rfl rfl (AOp.moveO rfl rfl) ?_
          refine DRun.step rfl rfl rfl (AOp.moveD rfl rfl) ?_
          refine DRun.step rfl rfl rfl (AOp.moveD rfl rfl) ?_
          refine DRun.step rfl rfl rfl (AOp.sub64 rfl rfl rfl (by omega) (by omega)) ?_
          refine DRun.step rfl rfl rfl (AOp.indexOwn rfl et_41 rfl rfl (.head _) (mid + m - 1 - ((i + j) / 2)) (by omega) (by rw [List.length_map]; omega)) ?_
          refine DRun.step rfl rfl rfl (AOp.loadRowAgg rfl ag_46 rfl (.head _) (mid + m - 1 - ((i + j) / 2)) rfl (at_list hpl)) ?_
          refine DRun.step rfl rfl rfl (AOp.moveO rfl rfl) ?_
          refine DRun.step rfl rfl rfl (AOp.moveD rfl rfl) ?_
          refine DRun.step rfl rfl rfl (AOp.indexOwn rfl et_41 rfl rfl (.head _) ((i + j) / 2) (by omega) (by rw [List.length_map]; omega)) ?_
          refine DRun.step rfl rfl rfl (AOp.loadRowAgg rfl ag_46 rfl (.head _) ((i + j) / 2) rfl (at_list hhl)) ?_
          refine DRun.step rfl rfl rfl (AOp.callClo rfl rfl (.cons (ArgOk.rfl' rfl) (.cons (ArgOk.rfl' rfl) .nil)) (hf (l[mid + m - 1 - ((i + j) / 2)]'hpl).1 (l[((i + j) / 2)]'hhl).1)) ?_
          refine DRun.step rfl rfl rfl (AOp.lss rfl rfl rfl) ?_
          refine DRun.step rfl rfl rfl (AOp.not rfl rfl) ?_
          refine DRun.nil ?_
          refine AWP.cond rfl (fun h11 => ?_) (fun h11 => ?_)
          · replace h11 := bnot_t h11; replace h11 := of_decide_eq_false h11
            have HU : CutS cmp l (mid + m - 1) lo0 hi0 (((i + j) / 2) + 1) j := ⟨by omega, by omega, by omega, fun _ => ⟨_, _, at_some l hhl, at_some l hpl, cross_ge htg h11⟩, hs.high⟩
            refine AWP.region ?_
            refine AOps.step rfl rfl rfl (AOp.moveD rfl rfl) ?_
            refine AOps.step rfl rfl rfl (AOp.add64 rfl rfl rfl (by omega) (by omega)) ?_
            refine AOps.step rfl rfl rfl (AOp.assignD rfl rfl) ?_
            refine AOps.nil ?_
            refine ⟨(((i + j) / 2) + 1, j), HU, (by dsimp only; omega), Sub.less ⟨(SLe.i64 (by dsimp only; omega)), (SLe.refl _), SLe.refl _, SLe.refl _, SLe.refl _, SLe.refl _, SLe.refl _, SLe.refl _, SLe.refl _, SLe.refl _, trivial⟩ (row_same rfl)⟩
          · replace h11 := bnot_f h11; replace h11 := of_decide_eq_true h11
            have HD : CutS cmp l (mid + m - 1) lo0 hi0 i ((i + j) / 2) := ⟨by omega, by omega, by omega, hs.low, fun _ => ⟨_, _, at_some l hhl, at_some l hpl, .inl (by omega)⟩⟩
            refine AWP.region ?_
            refine AOps.step rfl rfl rfl (AOp.moveD rfl rfl) ?_
            refine AOps.step rfl rfl rfl (AOp.assignD rfl rfl) ?_
            refine AOps.nil ?_
            refine ⟨(i, ((i + j) / 2)), HD, (by dsimp only; omega), Sub.less ⟨(SLe.refl _), (SLe.i64 (by dsimp only; omega)), SLe.refl _, SLe.refl _, SLe.refl _, SLe.refl _, SLe.refl _, SLe.refl _, SLe.refl _, SLe.refl _, trivial⟩ (row_same rfl)⟩
        · replace h10 := of_decide_eq_false h10
          have hij : i = j := by omega
          subst hij
          have hcut := CutS.cut hc s1 s2 hmid ham hmb hg hs
          have hs4 := hcut.has
          have hs5 := hcut.sm
          have hs6 := hcut.me
          have hs7 := hcut.eb
          obtain ⟨k1, k2, k3, k4, k5, k6, k7⟩ := cut_merge hc ht hbl s1 s2 hx hcut
          rw [show i + (mid + m - i - m) = mid by omega] at k2 k3 k4 k5 k6 k7
          have hrl : (rotl l i m (mid + m - i)).length = l.length := rotl_len hs5 hs6 (by omega)
          have ht1 : TagsOk (rotl l i m (mid + m - i)) := ht.perm (rotl_perm hs5 hs6)
          have hl1 : (sortSeg cmp (rotl l i m (mid + m - i)) a mid).length = l.length := by rw [sortSeg_len cmp _ (by omega), hrl]
          have ht2 : TagsOk (sortSeg cmp (rotl l i m (mid + m - i)) a mid) := ht1.perm (sortSeg_perm cmp _ (by omega))
          have HF := k7
          refine AWP.exit ?_
          refine AWP.seq ?_
          refine AWP.region ?_
          refine AOps.step rfl rfl rfl (AOp.moveD rfl rfl) ?_
          refine AOps.step rfl rfl rfl (AOp.moveD rfl rfl) ?_
          refine AOps.step rfl rfl rfl (AOp.sub64 rfl rfl rfl (by omega) (by omega)) ?_
          refine AOps.step rfl rfl rfl (AOp.assignD rfl rfl) ?_
          refine AOps.nil ?_
          refine AWP.seq ?_
          refine AWP.seq ?_
          refine AWP.region ?_
          refine AOps.step rfl rfl rfl (AOp.moveD rfl rfl) ?_
          refine AOps.step rfl rfl rfl (AOp.moveD rfl rfl) ?_
          refine AOps.step rfl rfl rfl (AOp.lss rfl rfl rfl) ?_
          refine AOps.step rfl rfl rfl (AOp.moveD rfl rfl) ?_
          refine AOps.split 181 rfl (fun g12 => ?_) (fun g12 => ?_)
          · replace g12 := of_decide_eq_true g12
            refine AOps.step ⟨181, rfl, .inl ⟨_, rfl, rfl⟩⟩ rfl rfl (AOp.moveD rfl rfl) ?_
            refine AOps.step ⟨181, rfl, .inl ⟨_, rfl, rfl⟩⟩ rfl rfl (AOp.moveD rfl rfl) ?_
            refine AOps.step ⟨181, rfl, .inl ⟨_, rfl, rfl⟩⟩ rfl rfl (AOp.lss rfl rfl rfl) ?_
            refine AOps.step rfl rfl rfl (AOp.pickT rfl rfl rfl) ?_
            refine AOps.nil ?_
            refine AWP.cond rfl (fun h13 => ?_) (fun h13 => ?_)
            · replace h13 := of_decide_eq_true h13
              refine AWP.region ?_
              refine AOps.step rfl rfl rfl (AOp.moveO rfl rfl) ?_
              refine AOps.step rfl rfl rfl (AOp.moveD rfl rfl) ?_
              refine AOps.step rfl rfl rfl (AOp.moveD rfl rfl) ?_
              refine AOps.step rfl rfl rfl (AOp.moveD rfl rfl) ?_
              refine AOps.step rfl rfl rfl (AOp.moveD rfl rfl) ?_
              -- turns 1
              refine AOps.callX rfl rfl rfl (.cons (SLe.refl _) (.cons (SLe.refl _) (.cons (SLe.refl _) (.cons (SLe.i64 (by omega)) (.cons (SLe.refl _) .nil))))) ((c_rotate l i m (mid + m - i) _ (by omega) (by omega) (by omega) hl) 1) ⟨(.head _), trivial⟩ rfl rfl (fun _ h => nomatch h) ?_
              refine AOps.nil ?_
              refine AWP.seq ?_
              refine AWP.seq ?_
              refine AWP.region ?_
              refine AOps.step rfl rfl rfl (AOp.moveD rfl rfl) ?_
              refine AOps.step rfl rfl rfl (AOp.moveD rfl rfl) ?_
              refine AOps.step rfl rfl rfl (AOp.lss rfl rfl rfl) ?_
              refine AOps.step rfl rfl rfl (AOp.moveD rfl rfl) ?_
              refine AOps.split 195 rfl (fun g14 => ?_) (fun g14 => ?_)
              · replace g14 := of_decide_eq_true g14
                refine AOps.step ⟨195, rfl, .inl ⟨_, rfl, rfl⟩⟩ rfl rfl (AOp.moveD rfl rfl) ?_
                refine AOps.step ⟨195, rfl, .inl ⟨_, rfl, rfl⟩⟩ rfl rfl (AOp.moveD rfl rfl) ?_
                refine AOps.step ⟨195, rfl, .inl ⟨_, rfl, rfl⟩⟩ rfl rfl (AOp.lss rfl rfl rfl) ?_
                refine AOps.step rfl rfl rfl (AOp.pickT rfl rfl rfl) ?_
                refine AOps.nil ?_
                refine AWP.cond rfl (fun h15 => ?_) (fun h15 => ?_)
                · replace h15 := of_decide_eq_true h15
                  refine AWP.region ?_
                  refine AOps.step rfl rfl rfl (AOp.moveO rfl rfl) ?_
                  refine AOps.step rfl rfl rfl (AOp.moveD rfl rfl) ?_
                  refine AOps.step rfl rfl rfl (AOp.moveD rfl rfl) ?_
                  refine AOps.step rfl rfl rfl (AOp.moveD rfl rfl) ?_
                  refine AOps.step rfl rfl rfl (AOp.moveD rfl rfl) ?_
                  -- turns 1
                  refine AOps.callX rfl rfl rfl (.cons (SLe.refl _) (.cons (SLe.refl _) (.cons (SLe.refl _) (.cons (SLe.refl _) (.cons (SLe.refl _) .nil))))) ((ih _ a i mid (by omega) (by omega) (by omega) (by omega) (by omega) ht1 k1 k2 k3) 1) ⟨(.head _), trivial⟩ rfl rfl (fun _ h => nomatch h) ?_
                  refine AOps.nil ?_
                  refine AWP.seq ?_
                  refine AWP.region ?_
                  refine AOps.step rfl rfl rfl (AOp.moveD rfl rfl) ?_
                  refine AOps.step rfl rfl rfl (AOp.moveD rfl rfl) ?_
                  refine AOps.step rfl rfl rfl (AOp.lss rfl rfl rfl) ?_
                  refine AOps.step rfl rfl rfl (AOp.moveD rfl rfl) ?_
                  refine AOps.split 209 rfl (fun g16 => ?_) (fun g16 => ?_)
                  · replace g16 := of_decide_eq_true g16
                    refine AOps.step ⟨209, rfl, .inl ⟨_, rfl, rfl⟩⟩ rfl rfl (AOp.moveD rfl rfl) ?_
                    refine AOps.step ⟨209, rfl, .inl ⟨_, rfl, rfl⟩⟩ rfl rfl (AOp.moveD rfl rfl) ?_
                    refine AOps.step ⟨209, rfl, .inl ⟨_, rfl, rfl⟩⟩ rfl rfl (AOp.lss rfl rfl rfl) ?_
                    refine AOps.step rfl rfl rfl (AOp.pickT rfl rfl rfl) ?_
                    refine AOps.nil ?_
                    refine AWP.cond rfl (fun h17 => ?_) (fun h17 => ?_)
                    · replace h17 := of_decide_eq_true h17
                      refine AWP.region ?_
                      refine AOps.step rfl rfl rfl (AOp.moveO rfl rfl) ?_
                      refine AOps.step rfl rfl rfl (AOp.moveD rfl rfl) ?_
                      refine AOps.step rfl rfl rfl (AOp.moveD rfl rfl) ?_
                      refine AOps.step rfl rfl rfl (AOp.moveD rfl rfl) ?_
                      refine AOps.step rfl rfl rfl (AOp.moveD rfl rfl) ?_
                      -- turns 1
                      refine AOps.callX rfl rfl rfl (.cons (SLe.refl _) (.cons (SLe.refl _) (.cons (SLe.i64 (by omega)) (.cons (SLe.refl _) (.cons (SLe.refl _) .nil))))) ((ih _ mid (mid + m - i) b (by omega) (by omega) (by omega) (by omega) (by omega) ht2 k4 k5 k6) 1) ⟨(.head _), trivial⟩ rfl rfl (fun _ h => nomatch h) ?_
                      refine AOps.nil ?_
                      refine ⟨trivial, ⟨mem_row_eq (.head _) ?_, trivial⟩⟩
                      all_goals (rw [HF])
                    · replace h17 := of_decide_eq_false h17
                      have er3 : (sortSeg cmp (rotl l i m (mid + m - i)) a mid).map tds = (sortSeg cmp (sortSeg cmp (rotl l i m (mid + m - i)) a mid) mid b).map tds := by rw [sortSeg_self hc (by omega) ht2 (sorted_at k4 (by omega) (by omega))]
                      rw [er3]
                      refine AWP.skip ?_
                      refine ⟨trivial, ⟨mem_row_eq (.head _) ?_, trivial⟩⟩
                      all_goals (rw [HF])
                  · replace g16 := of_decide_eq_false g16
                    have er3 : (sortSeg cmp (rotl l i m (mid + m - i)) a mid).map tds = (sortSeg cmp (sortSeg cmp (rotl l i m (mid + m - i)) a mid) mid b).map tds := by rw [sortSeg_self hc (by omega) ht2 (sorted_at k5 (by omega) (by omega))]
                    rw [er3]
                    refine AOps.pass ⟨209, rfl, .inl ⟨_, rfl, rfl⟩⟩ rfl rfl ?_
                    refine AOps.pass ⟨209, rfl, .inl ⟨_, rfl, rfl⟩⟩ rfl rfl ?_
                    refine AOps.pass ⟨209, rfl, .inl ⟨_, rfl, rfl⟩⟩ rfl rfl ?_
                    refine AOps.step rfl rfl rfl (AOp.pickF rfl rfl rfl) ?_
                    refine AOps.nil ?_
                    refine AWP.cond rfl (fun h => nomatch h) (fun _ => ?_)
                    refine AWP.skip ?_
                    refine ⟨trivial, ⟨mem_row_eq (.head _) ?_, trivial⟩⟩
                    all_goals (rw [HF])
                · replace h15 := of_decide_eq_false h15
                  have er2 : (rotl l i m (mid + m - i)).map tds = (sortSeg cmp (rotl l i m (mid + m - i)) a mid).map tds := by rw [sortSeg_self hc (by omega) ht1 (sorted_at k1 (by omega) (by omega))]
                  rw [er2]
                  refine AWP.skip ?_
                  refine AWP.seq ?_
                  refine AWP.region ?_
                  refine AOps.step rfl rfl rfl (AOp.moveD rfl rfl) ?_
                  refine AOps.step rfl rfl rfl (AOp.moveD rfl rfl) ?_
                  refine AOps.step rfl rfl rfl (AOp.lss rfl rfl rfl) ?_
                  refine AOps.step rfl rfl rfl (AOp.moveD rfl rfl) ?_
                  refine AOps.split 209 rfl (fun g18 => ?_) (fun g18 => ?_)
                  · replace g18 := of_decide_eq_true g18
                    refine AOps.step ⟨209, rfl, .inl ⟨_, rfl, rfl⟩⟩ rfl rfl (AOp.moveD rfl rfl) ?_
                    refine AOps.step ⟨209, rfl, .inl ⟨_, rfl, rfl⟩⟩ rfl rfl (AOp.moveD rfl rfl) ?_
                    refine AOps.step ⟨209, rfl, .inl ⟨_, rfl, rfl⟩⟩ rfl rfl (AOp.lss rfl rfl rfl) ?_
                    refine AOps.step rfl rfl rfl (AOp.pickT rfl rfl rfl) ?_
                    refine AOps.nil ?_
                    refine AWP.cond rfl (fun h19 => ?_) (fun h19 => ?_)
                    · replace h19 := of_decide_eq_true h19
                      refine AWP.region ?_
                      refine AOps.step rfl rfl rfl (AOp.moveO rfl rfl) ?_
                      refine AOps.step rfl rfl rfl (AOp.moveD rfl rfl) ?_
                      refine AOps.step rfl rfl rfl (AOp.moveD rfl rfl) ?_
                      refine AOps.step rfl rfl rfl (AOp.moveD rfl rfl) ?_
                      refine AOps.step rfl rfl rfl (AOp.moveD rfl rfl) ?_
                      -- turns 1
                      refine AOps.callX rfl rfl rfl (.cons (SLe.refl _) (.cons (SLe.refl _) (.cons (SLe.i64 (by omega)) (.cons (SLe.refl _) (.cons (SLe.refl _) .nil))))) ((ih _ mid (mid + m - i) b (by omega) (by omega) (by omega) (by omega) (by omega) ht2 k4 k5 k6) 1) ⟨(.head _), trivial⟩ rfl rfl (fun _ h => nomatch h) ?_
                      refine AOps.nil ?_
                      refine ⟨trivial, ⟨mem_row_eq (.head _) ?_, trivial⟩⟩
                      all_goals (rw [HF])
                    · replace h19 := of_decide_eq_false h19
                      have er3 : (sortSeg cmp (rotl l i m (mid + m - i)) a mid).map tds = (sortSeg cmp (sortSeg cmp (rotl l i m (mid + m - i)) a mid) mid b).map tds := by rw [sortSeg_self hc (by omega) ht2 (sorted_at k4 (by omega) (by omega))]
                      rw [er3]
                      refine AWP.skip ?_
                      refine ⟨trivial, ⟨mem_row_eq (.head _) ?_, trivial⟩⟩
                      all_goals (rw [HF])
                  · replace g18 := of_decide_eq_false g18
                    have er3 : (sortSeg cmp (rotl l i m (mid + m - i)) a mid).map tds = (sortSeg cmp (sortSeg cmp (rotl l i m (mid + m - i)) a mid) mid b).map tds := by rw [sortSeg_self hc (by omega) ht2 (sorted_at k5 (by omega) (by omega))]
                    rw [er3]
                    refine AOps.pass ⟨209, rfl, .inl ⟨_, rfl, rfl⟩⟩ rfl rfl ?_
                    refine AOps.pass ⟨209, rfl, .inl ⟨_, rfl, rfl⟩⟩ rfl rfl ?_
                    refine AOps.pass ⟨209, rfl, .inl ⟨_, rfl, rfl⟩⟩ rfl rfl ?_
                    refine AOps.step rfl rfl rfl (AOp.pickF rfl rfl rfl) ?_
                    refine AOps.nil ?_
                    refine AWP.cond rfl (fun h => nomatch h) (fun _ => ?_)
                    refine AWP.skip ?_
                    refine ⟨trivial, ⟨mem_row_eq (.head _) ?_, trivial⟩⟩
                    all_goals (rw [HF])
              · replace g14 := of_decide_eq_false g14
                have er2 : (rotl l i m (mid + m - i)).map tds = (sortSeg cmp (rotl l i m (mid + m - i)) a mid).map tds := by rw [sortSeg_self hc (by omega) ht1 (sorted_at k2 (by omega) (by omega))]
                rw [er2]
                refine AOps.pass ⟨195, rfl, .inl ⟨_, rfl, rfl⟩⟩ rfl rfl ?_
                refine AOps.pass ⟨195, rfl, .inl ⟨_, rfl, rfl⟩⟩ rfl rfl ?_
                refine AOps.pass ⟨195, rfl, .inl ⟨_, rfl, rfl⟩⟩ rfl rfl ?_
                refine AOps.step rfl rfl rfl (AOp.pickF rfl rfl rfl) ?_
                refine AOps.nil ?_
                refine AWP.cond rfl (fun h => nomatch h) (fun _ => ?_)
                refine AWP.skip ?_
                refine AWP.seq ?_
                refine AWP.region ?_
                refine AOps.step rfl rfl rfl (AOp.moveD rfl rfl) ?_
                refine AOps.step rfl rfl rfl (AOp.moveD rfl rfl) ?_
                refine AOps.step rfl rfl rfl (AOp.lss rfl rfl rfl) ?_
                refine AOps.step rfl rfl rfl (AOp.moveD rfl rfl) ?_
                refine AOps.split 209 rfl (fun g20 => ?_) (fun g20 => ?_)
                · replace g20 := of_decide_eq_true g20
                  refine AOps.step ⟨209, rfl, .inl ⟨_, rfl, rfl⟩⟩ rfl rfl (AOp.moveD rfl rfl) ?_
                  refine AOps.step ⟨209, rfl, .inl ⟨_, rfl, rfl⟩⟩ rfl rfl (AOp.moveD rfl rfl) ?_
                  refine AOps.step ⟨209, rfl, .inl ⟨_, rfl, rfl⟩⟩ rfl rfl (AOp.lss rfl rfl rfl) ?_
                  refine AOps.step rfl rfl rfl (AOp.pickT rfl rfl rfl) ?_
                  refine AOps.nil ?_
                  refine AWP.cond rfl (fun h21 => ?_) (fun h21 => ?_)
                  · replace h21 := of_decide_eq_true h21
                    refine AWP.region ?_
                    refine AOps.step rfl rfl rfl (AOp.moveO rfl rfl) ?_
                    refine AOps.step rfl rfl rfl (AOp.moveD rfl rfl) ?_
                    refine AOps.step rfl rfl rfl (AOp.moveD rfl rfl) ?_
                    refine AOps.step rfl rfl rfl (AOp.moveD rfl rfl) ?_
                    refine AOps.step rfl rfl rfl (AOp.moveD rfl rfl) ?_
                    -- turns 1
                    refine AOps.callX rfl rfl rfl (.cons (SLe.refl _) (.cons (SLe.refl _) (.cons (SLe.i64 (by omega)) (.cons (SLe.refl _) (.cons (SLe.refl _) .nil))))) ((ih _ mid (mid + m - i) b (by omega) (by omega) (by omega) (by omega) (by omega) ht2 k4 k5 k6) 1) ⟨(.head _), trivial⟩ rfl rfl (fun _ h => nomatch h) ?_
                    refine AOps.nil ?_
                    refine ⟨trivial, ⟨mem_row_eq (.head _) ?_, trivial⟩⟩
                    all_goals (rw [HF])
                  · replace h21 := of_decide_eq_false h21
                    have er3 : (sortSeg cmp (rotl l i m (mid + m - i)) a mid).map tds = (sortSeg cmp (sortSeg cmp (rotl l i m (mid + m - i)) a mid) mid b).map tds := by rw [sortSeg_self hc (by omega) ht2 (sorted_at k4 (by omega) (by omega))]
                    rw [er3]
                    refine AWP.skip ?_
                    refine ⟨trivial, ⟨mem_row_eq (.head _) ?_, trivial⟩⟩
                    all_goals (rw [HF])
                · replace g20 := of_decide_eq_false g20
                  have er3 : (sortSeg cmp (rotl l i m (mid + m - i)) a mid).map tds = (sortSeg cmp (sortSeg cmp (rotl l i m (mid + m - i)) a mid) mid b).map tds := by rw [sortSeg_self hc (by omega) ht2 (sorted_at k5 (by omega) (by omega))]
                  rw [er3]
                  refine AOps.pass ⟨209, rfl, .inl ⟨_, rfl, rfl⟩⟩ rfl rfl ?_
                  refine AOps.pass ⟨209, rfl, .inl ⟨_, rfl, rfl⟩⟩ rfl rfl ?_
                  refine AOps.pass ⟨209, rfl, .inl ⟨_, rfl, rfl⟩⟩ rfl rfl ?_
                  refine AOps.step rfl rfl rfl (AOp.pickF rfl rfl rfl) ?_
                  refine AOps.nil ?_
                  refine AWP.cond rfl (fun h => nomatch h) (fun _ => ?_)
                  refine AWP.skip ?_
                  refine ⟨trivial, ⟨mem_row_eq (.head _) ?_, trivial⟩⟩
                  all_goals (rw [HF])
            · replace h13 := of_decide_eq_false h13
              have er : l.map tds = (rotl l i m (mid + m - i)).map tds := by rw [show mid + m - i = m by omega, rotl_id2 (by omega)]
              rw [er]
              refine AWP.skip ?_
              refine AWP.seq ?_
              refine AWP.seq ?_
              refine AWP.region ?_
              refine AOps.step rfl rfl rfl (AOp.moveD rfl rfl) ?_
              refine AOps.step rfl rfl rfl (AOp.moveD rfl rfl) ?_
              refine AOps.step rfl rfl rfl (AOp.lss rfl rfl rfl) ?_
              refine AOps.step rfl rfl rfl (AOp.moveD rfl rfl) ?_
              refine AOps.split 195 rfl (fun g22 => ?_) (fun g22 => ?_)
              · replace g22 := of_decide_eq_true g22
                refine AOps.step ⟨195, rfl, .inl ⟨_, rfl, rfl⟩⟩ rfl rfl (AOp.moveD rfl rfl) ?_
                refine AOps.step ⟨195, rfl, .inl ⟨_, rfl, rfl⟩⟩ rfl rfl (AOp.moveD rfl rfl) ?_
                refine AOps.step ⟨195, rfl, .inl ⟨_, rfl, rfl⟩⟩ rfl rfl (AOp.lss rfl rfl rfl) ?_
                refine AOps.step rfl rfl rfl (AOp.pickT rfl rfl rfl) ?_
                refine AOps.nil ?_
                refine AWP.cond rfl (fun h23 => ?_) (fun h23 => ?_)
                · replace h23 := of_decide_eq_true h23
                  refine AWP.region ?_
                  refine AOps.step rfl rfl rfl (AOp.moveO rfl rfl) ?_
                  refine AOps.step rfl rfl rfl (AOp.moveD rfl rfl) ?_
                  refine AOps.step rfl rfl rfl (AOp.moveD rfl rfl) ?_
                  refine AOps.step rfl rfl rfl (AOp.moveD rfl rfl) ?_
                  refine AOps.step rfl rfl rfl (AOp.moveD rfl rfl) ?_
                  -- turns 1
                  refine AOps.callX rfl rfl rfl (.cons (SLe.refl _) (.cons (SLe.refl _) (.cons (SLe.refl _) (.cons (SLe.refl _) (.cons (SLe.refl _) .nil))))) ((ih _ a i mid (by omega) (by omega) (by omega) (by omega) (by omega) ht1 k1 k2 k3) 1) ⟨(.head _), trivial⟩ rfl rfl (fun _ h => nomatch h) ?_
                  refine AOps.nil ?_
                  refine AWP.seq ?_
                  refine AWP.region ?_
                  refine AOps.step rfl rfl rfl (AOp.moveD rfl rfl) ?_
                  refine AOps.step rfl rfl rfl (AOp.moveD rfl rfl) ?_
                  refine AOps.step rfl rfl rfl (AOp.lss rfl rfl rfl) ?_
                  refine AOps.step rfl rfl rfl (AOp.moveD rfl rfl) ?_
                  refine AOps.split 209 rfl (fun g24 => ?_) (fun g24 => ?_)
                  · replace g24 := of_decide_eq_true g24
                    refine AOps.step ⟨209, rfl, .inl ⟨_, rfl, rfl⟩⟩ rfl rfl (AOp.moveD rfl rfl) ?_
                    refine AOps.step ⟨209, rfl, .inl ⟨_, rfl, rfl⟩⟩ rfl rfl (AOp.moveD rfl rfl) ?_
                    refine AOps.step ⟨209, rfl, .inl ⟨_, rfl, rfl⟩⟩ rfl rfl (AOp.lss rfl rfl rfl) ?_
                    refine AOps.step rfl rfl rfl (AOp.pickT rfl rfl rfl) ?_
                    refine AOps.nil ?_
                    refine AWP.cond rfl (fun h25 => ?_) (fun h25 => ?_)
                    · replace h25 := of_decide_eq_true h25
                      refine AWP.region ?_
                      refine AOps.step rfl rfl rfl (AOp.moveO rfl rfl) ?_
                      refine AOps.step rfl rfl rfl (AOp.moveD rfl rfl) ?_
                      refine AOps.step rfl rfl rfl (AOp.moveD rfl rfl) ?_
                      refine AOps.step rfl rfl rfl (AOp.moveD rfl rfl) ?_
                      refine AOps.step rfl rfl rfl (AOp.moveD rfl rfl) ?_
                      -- turns 1
                      refine AOps.callX rfl rfl rfl (.cons (SLe.refl _) (.cons (SLe.refl _) (.cons (SLe.i64 (by omega)) (.cons (SLe.refl _) (.cons (SLe.refl _) .nil))))) ((ih _ mid (mid + m - i) b (by omega) (by omega) (by omega) (by omega) (by omega) ht2 k4 k5 k6) 1) ⟨(.head _), trivial⟩ rfl rfl (fun _ h => nomatch h) ?_
                      refine AOps.nil ?_
                      refine ⟨trivial, ⟨mem_row_eq (.head _) ?_, trivial⟩⟩
                      all_goals (rw [HF])
                    · replace h25 := of_decide_eq_false h25
                      have er3 : (sortSeg cmp (rotl l i m (mid + m - i)) a mid).map tds = (sortSeg cmp (sortSeg cmp (rotl l i m (mid + m - i)) a mid) mid b).map tds := by rw [sortSeg_self hc (by omega) ht2 (sorted_at k4 (by omega) (by omega))]
                      rw [er3]
                      refine AWP.skip ?_
                      refine ⟨trivial, ⟨mem_row_eq (.head _) ?_, trivial⟩⟩
                      all_goals (rw [HF])
                  · replace g24 := of_decide_eq_false g24
                    have er3 : (sortSeg cmp (rotl l i m (mid + m - i)) a mid).map tds = (sortSeg cmp (sortSeg cmp (rotl l i m (mid + m - i)) a mid) mid b).map tds := by rw [sortSeg_self hc (by omega) ht2 (sorted_at k5 (by omega) (by omega))]
                    rw [er3]
                    refine AOps.pass ⟨209, rfl, .inl ⟨_, rfl, rfl⟩⟩ rfl rfl ?_
                    refine AOps.pass ⟨209, rfl, .inl ⟨_, rfl, rfl⟩⟩ rfl rfl ?_
                    refine AOps.pass ⟨209, rfl, .inl ⟨_, rfl, rfl⟩⟩ rfl rfl ?_
                    refine AOps.step rfl rfl rfl (AOp.pickF rfl rfl rfl) ?_
                    refine AOps.nil ?_
                    refine AWP.cond rfl (fun h => nomatch h) (fun _ => ?_)
                    refine AWP.skip ?_
                    refine ⟨trivial, ⟨mem_row_eq (.head _) ?_, trivial⟩⟩
                    all_goals (rw [HF])
                · replace h23 := of_decide_eq_false h23
                  have er2 : (rotl l i m (mid + m - i)).map tds = (sortSeg cmp (rotl l i m (mid + m - i)) a mid).map tds := by rw [sortSeg_self hc (by omega) ht1 (sorted_at k1 (by omega) (by omega))]
                  rw [er2]
                  refine AWP.skip ?_
                  refine AWP.seq ?_
                  refine AWP.region ?_
                  refine AOps.step rfl rfl rfl (AOp.moveD rfl rfl) ?_
                  refine AOps.step rfl rfl rfl (AOp.moveD rfl rfl) ?_
                  refine AOps.step rfl rfl rfl (AOp.lss rfl rfl rfl) ?_
                  refine AOps.step rfl rfl rfl (AOp.moveD rfl rfl) ?_
                  refine AOps.split 209 rfl (fun g26 => ?_) (fun g26 => ?_)
                  · replace g26 := of_decide_eq_true g26
                    refine AOps.step ⟨209, rfl, .inl ⟨_, rfl, rfl⟩⟩ rfl rfl (AOp.moveD rfl rfl) ?_
                    refine AOps.step ⟨209, rfl, .inl ⟨_, rfl, rfl⟩⟩ rfl rfl (AOp.moveD rfl rfl) ?_
                    refine AOps.step ⟨209, rfl, .inl ⟨_, rfl, rfl⟩⟩ rfl rfl (AOp.lss rfl rfl rfl) ?_
                    refine AOps.step rfl rfl rfl (AOp.pickT rfl rfl rfl) ?_
                    refine AOps.nil ?_
                    refine AWP.cond rfl (fun h27 => ?_) (fun h27 => ?_)
                    · replace h27 := of_decide_eq_true h27
                      refine AWP.region ?_
                      refine AOps.step rfl rfl rfl (AOp.moveO rfl rfl) ?_
                      refine AOps.step rfl rfl rfl (AOp.moveD rfl rfl) ?_
                      refine AOps.step rfl rfl rfl (AOp.moveD rfl rfl) ?_
                      refine AOps.step rfl rfl rfl (AOp.moveD rfl rfl) ?_
                      refine AOps.step rfl rfl rfl (AOp.moveD rfl rfl) ?_
                      -- turns 1
                      refine AOps.callX rfl rfl rfl (.cons (SLe.refl _) (.cons (SLe.refl _) (.cons (SLe.i64 (by omega)) (.cons (SLe.refl _) (.cons (SLe.refl _) .nil))))) ((ih _ mid (mid + m - i) b (by omega) (by omega) (by omega) (by omega) (by omega) ht2 k4 k5 k6) 1) ⟨(.head _), trivial⟩ rfl rfl (fun _ h => nomatch h) ?_
                      refine AOps.nil ?_
                      refine ⟨trivial, ⟨mem_row_eq (.head _) ?_, trivial⟩⟩
                      all_goals (rw [HF])
                    · replace h27 := of_decide_eq_false h27
                      have er3 : (sortSeg cmp (rotl l i m (mid + m - i)) a mid).map tds = (sortSeg cmp (sortSeg cmp (rotl l i m (mid + m - i)) a mid) mid b).map tds := by rw [sortSeg_self hc (by omega) ht2 (sorted_at k4 (by omega) (by omega))]
                      rw [er3]
                      refine AWP.skip ?_
                      refine ⟨trivial, ⟨mem_row_eq (.head _) ?_, trivial⟩⟩
                      all_goals (rw [HF])
                  · replace g26 := of_decide_eq_false g26
                    have er3 : (sortSeg cmp (rotl l i m (mid + m - i)) a mid).map tds = (sortSeg cmp (sortSeg cmp (rotl l i m (mid + m - i)) a mid) mid b).map tds := by rw [sortSeg_self hc (by omega) ht2 (sorted_at k5 (by omega) (by omega))]
                    rw [er3]
                    refine AOps.pass ⟨209, rfl, .inl ⟨_, rfl, rfl⟩⟩ rfl rfl ?_
                    refine AOps.pass ⟨209, rfl, .inl ⟨_, rfl, rfl⟩⟩ rfl rfl ?_
                    refine AOps.pass ⟨209, rfl, .inl ⟨_, rfl, rfl⟩⟩ rfl rfl ?_
                    refine AOps.step rfl rfl rfl (AOp.pickF rfl rfl rfl) ?_
                    refine AOps.nil ?_
                    refine AWP.cond rfl (fun h => nomatch h) (fun _ => ?_)
                    refine AWP.skip ?_
                    refine ⟨trivial, ⟨mem_row_eq (.head _) ?_, trivial⟩⟩
                    all_goals (rw [HF])
              · replace g22 := of_decide_eq_false g22
                have er2 : (rotl l i m (mid + m - i)).map tds = (sortSeg cmp (rotl l i m (mid + m - i)) a mid).map tds := by rw [sortSeg_self hc (by omega) ht1 (sorted_at k2 (by omega) (by omega))]
                rw [er2]
                refine AOps.pass ⟨195, rfl, .inl ⟨_, rfl, rfl⟩⟩ rfl rfl ?_
                refine AOps.pass ⟨195, rfl, .inl ⟨_, rfl, rfl⟩⟩ rfl rfl ?_
                refine AOps.pass ⟨195, rfl, .inl ⟨_, rfl, rfl⟩⟩ rfl rfl ?_
                refine AOps.step rfl rfl rfl (AOp.pickF rfl rfl rfl) ?_
                refine AOps.nil ?_
                refine AWP.cond rfl (fun h => nomatch h) (fun _ => ?_)
                refine AWP.skip ?_
                refine AWP.seq ?_
                refine AWP.region ?_
                refine AOps.step rfl rfl rfl (AOp.moveD rfl rfl) ?_
                refine AOps.step rfl rfl rfl (AOp.moveD rfl rfl) ?_
                refine AOps.step rfl rfl rfl (AOp.lss rfl rfl rfl) ?_
                refine AOps.step rfl rfl rfl (AOp.moveD rfl rfl) ?_
                refine AOps.split 209 rfl (fun g28 => ?_) (fun g28 => ?_)
                · replace g28 := of_decide_eq_true g28
                  refine AOps.step ⟨209, rfl, .inl ⟨_, rfl, rfl⟩⟩ rfl rfl (AOp.moveD rfl rfl) ?_
                  refine AOps.step ⟨209, rfl, .inl ⟨_, rfl, rfl⟩⟩ rfl rfl (AOp.moveD rfl rfl) ?_
                  refine AOps.step ⟨209, rfl, .inl ⟨_, rfl, rfl⟩⟩ rfl rfl (AOp.lss rfl rfl rfl) ?_
                  refine AOps.step rfl rfl rfl (AOp.pickT rfl rfl rfl) ?_
                  refine AOps.nil ?_
                  refine AWP.cond rfl (fun h29 => ?_) (fun h29 => ?_)
                  · replace h29 := of_decide_eq_true h29
                    refine AWP.region ?_
                    refine AOps.step rfl rfl rfl (AOp.moveO rfl rfl) ?_
                    refine AOps.step rfl rfl rfl (AOp.moveD rfl rfl) ?_
                    refine AOps.step rfl rfl rfl (AOp.moveD rfl rfl) ?_
                    refine AOps.step rfl rfl rfl (AOp.moveD rfl rfl) ?_
                    refine AOps.step rfl rfl rfl (AOp.moveD rfl rfl) ?_
                    -- turns 1
                    refine AOps.callX rfl rfl rfl (.cons (SLe.refl _) (.cons (SLe.refl _) (.cons (SLe.i64 (by omega)) (.cons (SLe.refl _) (.cons (SLe.refl _) .nil))))) ((ih _ mid (mid + m - i) b (by omega) (by omega) (by omega) (by omega) (by omega) ht2 k4 k5 k6) 1) ⟨(.head _), trivial⟩ rfl rfl (fun _ h => nomatch h) ?_
                    refine AOps.nil ?_
                    refine ⟨trivial, ⟨mem_row_eq (.head _) ?_, trivial⟩⟩
                    all_goals (rw [HF])
                  · replace h29 := of_decide_eq_false h29
                    have er3 : (sortSeg cmp (rotl l i m (mid + m - i)) a mid).map tds = (sortSeg cmp (sortSeg cmp (rotl l i m (mid + m - i)) a mid) mid b).map tds := by rw [sortSeg_self hc (by omega) ht2 (sorted_at k4 (by omega) (by omega))]
                    rw [er3]
                    refine AWP.skip ?_
                    refine ⟨trivial, ⟨mem_row_eq (.head _) ?_, trivial⟩⟩
                    all_goals (rw [HF])
                · replace g28 := of_decide_eq_false g28
                  have er3 : (sortSeg cmp (rotl l i m (mid + m - i)) a mid).map tds = (sortSeg cmp (sortSeg cmp (rotl l i m (mid + m - i)) a mid) mid b).map tds := by rw [sortSeg_self hc (by omega) ht2 (sorted_at k5 (by omega) (by omega))]
                  rw [er3]
                  refine AOps.pass ⟨209, rfl, .inl ⟨_, rfl, rfl⟩⟩ rfl rfl ?_
                  refine AOps.pass ⟨209, rfl, .inl ⟨_, rfl, rfl⟩⟩ rfl rfl ?_
                  refine AOps.pass ⟨209, rfl, .inl ⟨_, rfl, rfl⟩⟩ rfl rfl ?_
                  refine AOps.step rfl rfl rfl (AOp.pickF rfl rfl rfl) ?_
                  refine AOps.nil ?_
                  refine AWP.cond rfl (fun h => nomatch h) (fun _ => ?_)
                  refine AWP.skip ?_
                  refine ⟨trivial, ⟨mem_row_eq (.head _) ?_, trivial⟩⟩
                  all_goals (rw [HF])
          · replace g12 := of_decide_eq_false g12
            have er : l.map tds = (rotl l i m (mid + m - i)).map tds := by rw [show i = m by omega, rotl_id1 (by omega)]
            rw [er]
            refine AOps.pass ⟨181, rfl, .inl ⟨_, rfl, rfl⟩⟩ rfl rfl ?_
            refine AOps.pass ⟨181, rfl, .inl ⟨_, rfl, rfl⟩⟩ rfl rfl ?_
            refine AOps.pass ⟨181, rfl, .inl ⟨_, rfl, rfl⟩⟩ rfl rfl ?_
            refine AOps.step rfl rfl rfl (AOp.pickF rfl rfl rfl) ?_
            refine AOps.nil ?_
            refine AWP.cond rfl (fun h => nomatch h) (fun _ => ?_)
            refine AWP.skip ?_
            refine AWP.seq ?_
            refine AWP.seq ?_
            refine AWP.region ?_
            refine AOps.step rfl rfl rfl (AOp.moveD rfl rfl) ?_
            refine AOps.step rfl rfl rfl (AOp.moveD rfl rfl) ?_
            refine AOps.step rfl rfl rfl (AOp.lss rfl rfl rfl) ?_
            refine AOps.step rfl rfl rfl (AOp.moveD rfl rfl) ?_
            refine AOps.split 195 rfl (fun g30 => ?_) (fun g30 => ?_)
            · replace g30 := of_decide_eq_true g30
              refine AOps.step ⟨195, rfl, .inl ⟨_, rfl, rfl⟩⟩ rfl rfl (AOp.moveD rfl rfl) ?_
              refine AOps.step ⟨195, rfl, .inl ⟨_, rfl, rfl⟩⟩ rfl rfl (AOp.moveD rfl rfl) ?_
              refine AOps.step ⟨195, rfl, .inl ⟨_, rfl, rfl⟩⟩ rfl rfl (AOp.lss rfl rfl rfl) ?_
              refine AOps.step rfl rfl rfl (AOp.pickT rfl rfl rfl) ?_
              refine AOps.nil ?_
              refine AWP.cond rfl (fun h31 => ?_) (fun h31 => ?_)
              · replace h31 := of_decide_eq_true h31
                refine AWP.region ?_
                refine AOps.step rfl rfl rfl (AOp.moveO rfl rfl) ?_
                refine AOps.step rfl rfl rfl (AOp.moveD rfl rfl) ?_
                refine AOps.step rfl rfl rfl (AOp.moveD rfl rfl) ?_
                refine AOps.step rfl rfl rfl (AOp.moveD rfl rfl) ?_
                refine AOps.step rfl rfl rfl (AOp.moveD rfl rfl) ?_
                -- turns 1
                refine AOps.callX rfl rfl rfl (.cons (SLe.refl _) (.cons (SLe.refl _) (.cons (SLe.refl _) (.cons (SLe.refl _) (.cons (SLe.refl _) .nil))))) ((ih _ a i mid (by omega) (by omega) (by omega) (by omega) (by omega) ht1 k1 k2 k3) 1) ⟨(.head _), trivial⟩ rfl rfl (fun _ h => nomatch h) ?_
                refine AOps.nil ?_
                refine AWP.seq ?_
                refine AWP.region ?_
                refine AOps.step rfl rfl rfl (AOp.moveD rfl rfl) ?_
                refine AOps.step rfl rfl rfl (AOp.moveD rfl rfl) ?_
                refine AOps.step rfl rfl rfl (AOp.lss rfl rfl rfl) ?_
                refine AOps.step rfl rfl rfl (AOp.moveD rfl rfl) ?_
                refine AOps.split 209 rfl (fun g32 => ?_) (fun g32 => ?_)
                · replace g32 := of_decide_eq_true g32
                  refine AOps.step ⟨209, rfl, .inl ⟨_, rfl, rfl⟩⟩ rfl rfl (AOp.moveD rfl rfl) ?_
                  refine AOps.step ⟨209, rfl, .inl ⟨_, rfl, rfl⟩⟩ rfl rfl (AOp.moveD rfl rfl) ?_
                  refine AOps.step ⟨209, rfl, .inl ⟨_, rfl, rfl⟩⟩ rfl rfl (AOp.lss rfl rfl rfl) ?_
                  refine AOps.step rfl rfl rfl (AOp.pickT rfl rfl rfl) ?_
                  refine AOps.nil ?_
                  refine AWP.cond rfl (fun h33 => ?_) (fun h33 => ?_)
                  · replace h33 := of_decide_eq_true h33
                    refine AWP.region ?_
                    refine AOps.step rfl rfl rfl (AOp.moveO rfl rfl) ?_
                    refine AOps.step rfl rfl rfl (AOp.moveD rfl rfl) ?_
                    refine AOps.step rfl rfl rfl (AOp.moveD rfl rfl) ?_
                    refine AOps.step rfl rfl rfl (AOp.moveD rfl rfl) ?_
                    refine AOps.step rfl rfl rfl (AOp.moveD rfl rfl) ?_
                    -- turns 1
                    refine AOps.callX rfl rfl rfl (.cons (SLe.refl _) (.cons (SLe.refl _) (.cons (SLe.i64 (by omega)) (.cons (SLe.refl _) (.cons (SLe.refl _) .nil))))) ((ih _ mid (mid + m - i) b (by omega) (by omega) (by omega) (by omega) (by omega) ht2 k4 k5 k6) 1) ⟨(.head _), trivial⟩ rfl rfl (fun _ h => nomatch h) ?_
                    refine AOps.nil ?_
                    refine ⟨trivial, ⟨mem_row_eq (.head _) ?_, trivial⟩⟩
                    all_goals (rw [HF])
                  · replace h33 := of_decide_eq_false h33
                    have er3 : (sortSeg cmp (rotl l i m (mid + m - i)) a mid).map tds = (sortSeg cmp (sortSeg cmp (rotl l i m (mid + m - i)) a mid) mid b).map tds := by rw [sortSeg_self hc (by omega) ht2 (sorted_at k4 (by omega) (by omega))]
                    rw [er3]
                    refine AWP.skip ?_
                    refine ⟨trivial, ⟨mem_row_eq (.head _) ?_, trivial⟩⟩
                    all_goals (rw [HF])
                · replace g32 := of_decide_eq_false g32
                  have er3 : (sortSeg cmp (rotl l i m (mid + m - i)) a mid).map tds = (sortSeg cmp (sortSeg cmp (rotl l i m (mid + m - i)) a mid) mid b).map tds := by rw [sortSeg_self hc (by omega) ht2 (sorted_at k5 (by omega) (by omega))]
                  rw [er3]
                  refine AOps.pass ⟨209, rfl, .inl ⟨_, rfl, rfl⟩⟩ rfl rfl ?_
                  refine AOps.pass ⟨209, rfl, .inl ⟨_, rfl, rfl⟩⟩ rfl rfl ?_
                  refine AOps.pass ⟨209, rfl, .inl ⟨_, rfl, rfl⟩⟩ rfl rfl ?_
                  refine AOps.step rfl rfl rfl (AOp.pickF rfl rfl rfl) ?_
                  refine AOps.nil ?_
                  refine AWP.cond rfl (fun h => nomatch h) (fun _ => ?_)
                  refine AWP.skip ?_
                  refine ⟨trivial, ⟨mem_row_eq (.head _) ?_, trivial⟩⟩
                  all_goals (rw [HF])
              · replace h31 := of_decide_eq_false h31
                have er2 : (rotl l i m (mid + m - i)).map tds = (sortSeg cmp (rotl l i m (mid + m - i)) a mid).map tds := by rw [sortSeg_self hc (by omega) ht1 (sorted_at k1 (by omega) (by omega))]
                rw [er2]
                refine AWP.skip ?_
                refine AWP.seq ?_
                refine AWP.region ?_
                refine AOps.step rfl rfl rfl (AOp.moveD rfl rfl) ?_
                refine AOps.step rfl rfl rfl (AOp.moveD rfl rfl) ?_
                refine AOps.step rfl rfl rfl (AOp.lss rfl rfl rfl) ?_
                refine AOps.step rfl rfl rfl (AOp.moveD rfl rfl) ?_
                refine AOps.split 209 rfl (fun g34 => ?_) (fun g34 => ?_)
                · replace g34 := of_decide_eq_true g34
                  refine AOps.step ⟨209, rfl, .inl ⟨_, rfl, rfl⟩⟩ rfl rfl (AOp.moveD rfl rfl) ?_
                  refine AOps.step ⟨209, rfl, .inl ⟨_, rfl, rfl⟩⟩ rfl rfl (AOp.moveD rfl rfl) ?_
                  refine AOps.step ⟨209, rfl, .inl ⟨_, rfl, rfl⟩⟩ rfl rfl (AOp.lss rfl rfl rfl) ?_
                  refine AOps.step rfl rfl rfl (AOp.pickT rfl rfl rfl) ?_
                  refine AOps.nil ?_
                  refine AWP.cond rfl (fun h35 => ?_) (fun h35 => ?_)
                  · replace h35 := of_decide_eq_true h35
                    refine AWP.region ?_
                    refine AOps.step rfl rfl rfl (AOp.moveO rfl rfl) ?_
                    refine AOps.step rfl rfl rfl (AOp.moveD rfl rfl) ?_
                    refine AOps.step rfl rfl rfl (AOp.moveD rfl rfl) ?_
                    refine AOps.step rfl rfl rfl (AOp.moveD rfl rfl) ?_
                    refine AOps.step rfl rfl rfl (AOp.moveD rfl rfl) ?_
                    -- turns 1
                    refine AOps.callX rfl rfl rfl (.cons (SLe.refl _) (.cons (SLe.refl _) (.cons (SLe.i64 (by omega)) (.cons (SLe.refl _) (.cons (SLe.refl _) .nil))))) ((ih _ mid (mid + m - i) b (by omega) (by omega) (by omega) (by omega) (by omega) ht2 k4 k5 k6) 1) ⟨(.head _), trivial⟩ rfl rfl (fun _ h => nomatch h) ?_
                    refine AOps.nil ?_
                    refine ⟨trivial, ⟨mem_row_eq (.head _) ?_, trivial⟩⟩
                    all_goals (rw [HF])
                  · replace h35 := of_decide_eq_false h35
                    have er3 : (sortSeg cmp (rotl l i m (mid + m - i)) a mid).map tds = (sortSeg cmp (sortSeg cmp (rotl l i m (mid + m - i)) a mid) mid b).map tds := by rw [sortSeg_self hc (by omega) ht2 (sorted_at k4 (by omega) (by omega))]
                    rw [er3]
                    refine AWP.skip ?_
                    refine ⟨trivial, ⟨mem_row_eq (.head _) ?_, trivial⟩⟩
                    all_goals (rw [HF])
                · replace g34 := of_decide_eq_false g34
                  have er3 : (sortSeg cmp (rotl l i m (mid + m - i)) a mid).map tds = (sortSeg cmp (sortSeg cmp (rotl l i m (mid + m - i)) a mid) mid b).map tds := by rw [sortSeg_self hc (by omega) ht2 (sorted_at k5 (by omega) (by omega))]
                  rw [er3]
                  refine AOps.pass ⟨209, rfl, .inl ⟨_, rfl, rfl⟩⟩ rfl rfl ?_
                  refine AOps.pass ⟨209, rfl, .inl ⟨_, rfl, rfl⟩⟩ rfl rfl ?_
                  refine AOps.pass ⟨209, rfl, .inl ⟨_, rfl, rfl⟩⟩ rfl rfl ?_
                  refine AOps.step rfl rfl rfl (AOp.pickF rfl rfl rfl) ?_
                  refine AOps.nil ?_
                  refine AWP.cond rfl (fun h => nomatch h) (fun _ => ?_)
                  refine AWP.skip ?_
                  refine ⟨trivial, ⟨mem_row_eq (.head _) ?_, trivial⟩⟩
                  all_goals (rw [HF])
            · replace g30 := of_decide_eq_false g30
              have er2 : (rotl l i m (mid + m - i)).map tds = (sortSeg cmp (rotl l i m (mid + m - i)) a mid).map tds := by rw [sortSeg_self hc (by omega) ht1 (sorted_at k2 (by omega) (by omega))]
              rw [er2]
              refine AOps.pass ⟨195, rfl, .inl ⟨_, rfl, rfl⟩⟩ rfl rfl ?_
              refine AOps.pass ⟨195, rfl, .inl ⟨_, rfl, rfl⟩⟩ rfl rfl ?_
              refine AOps.pass ⟨195, rfl, .inl ⟨_, rfl, rfl⟩⟩ rfl rfl ?_
              refine AOps.step rfl rfl rfl (AOp.pickF rfl rfl rfl) ?_
              refine AOps.nil ?_
              refine AWP.cond rfl (fun h => nomatch h) (fun _ => ?_)
              refine AWP.skip ?_
              refine AWP.seq ?_
              refine AWP.region ?_
              refine AOps.step rfl rfl rfl (AOp.moveD rfl rfl) ?_
              refine AOps.step rfl rfl rfl (AOp.moveD rfl rfl) ?_
              refine AOps.step rfl rfl rfl (AOp.lss rfl rfl rfl) ?_
              refine AOps.step rfl rfl rfl (AOp.moveD rfl rfl) ?_
              refine AOps.split 209 rfl (fun g36 => ?_) (fun g36 => ?_)
              · replace g36 := of_decide_eq_true g36
                refine AOps.step ⟨209, rfl, .inl ⟨_, rfl, rfl⟩⟩ rfl rfl (AOp.moveD rfl rfl) ?_
                refine AOps.step ⟨209, rfl, .inl ⟨_, rfl, rfl⟩⟩ rfl rfl (AOp.moveD rfl rfl) ?_
                refine AOps.step ⟨209, rfl, .inl ⟨_, rfl, rfl⟩⟩ rfl rfl (AOp.lss rfl rfl rfl) ?_
                refine AOps.step rfl rfl rfl (AOp.pickT rfl rfl rfl) ?_
                refine AOps.nil ?_
                refine AWP.cond rfl (fun h37 => ?_) (fun h37 => ?_)
                · replace h37 := of_decide_eq_true h37
                  refine AWP.region ?_
                  refine AOps.step rfl rfl rfl (AOp.moveO rfl rfl) ?_
                  refine AOps.step rfl rfl rfl (AOp.moveD rfl rfl) ?_
                  refine AOps.step rfl rfl rfl (AOp.moveD rfl rfl) ?_
                  refine AOps.step rfl rfl rfl (AOp.moveD rfl rfl) ?_
                  refine AOps.step rfl rfl rfl (AOp.moveD rfl rfl) ?_
                  -- turns 1
                  refine AOps.callX rfl rfl rfl (.cons (SLe.refl _) (.cons (SLe.refl _) (.cons (SLe.i64 (by omega)) (.cons (SLe.refl _) (.cons (SLe.refl _) .nil))))) ((ih _ mid (mid + m - i) b (by omega) (by omega) (by omega) (by omega) (by omega) ht2 k4 k5 k6) 1) ⟨(.head _), trivial⟩ rfl rfl (fun _ h => nomatch h) ?_
                  refine AOps.nil ?_
                  refine ⟨trivial, ⟨mem_row_eq (.head _) ?_, trivial⟩⟩
                  all_goals (rw [HF])
                · replace h37 := of_decide_eq_false h37
                  have er3 : (sortSeg cmp (rotl l i m (mid + m - i)) a mid).map tds = (sortSeg cmp (sortSeg cmp (rotl l i m (mid + m - i)) a mid) mid b).map tds := by rw [sortSeg_self hc (by omega) ht2 (sorted_at k4 (by omega) (by omega))]
                  rw [er3]
                  refine AWP.skip ?_
                  refine ⟨trivial, ⟨mem_row_eq (.head _) ?_, trivial⟩⟩
                  all_goals (rw [HF])
              · replace g36 := of_decide_eq_false g36
                have er3 : (sortSeg cmp (rotl l i m (mid + m - i)) a mid).map tds = (sortSeg cmp (sortSeg cmp (rotl l i m (mid + m - i)) a mid) mid b).map tds := by rw [sortSeg_self hc (by omega) ht2 (sorted_at k5 (by omega) (by omega))]
                rw [er3]
                refine AOps.pass ⟨209, rfl, .inl ⟨_, rfl, rfl⟩⟩ rfl rfl ?_
                refine AOps.pass ⟨209, rfl, .inl ⟨_, rfl, rfl⟩⟩ rfl rfl ?_
                refine AOps.pass ⟨209, rfl, .inl ⟨_, rfl, rfl⟩⟩ rfl rfl ?_
                refine AOps.step rfl rfl rfl (AOp.pickF rfl rfl rfl) ?_
                refine AOps.nil ?_
                refine AWP.cond rfl (fun h => nomatch h) (fun _ => ?_)
                refine AWP.skip ?_
                refine ⟨trivial, ⟨mem_row_eq (.head _) ?_, trivial⟩⟩
                all_goals (rw [HF])
      · replace h9 := of_decide_eq_false h9
        have hmm : m ≤ mid := by omega
        obtain ⟨lo0, hlo0⟩ : ∃ lo0, lo0 = a := ⟨_, rfl⟩
        obtain ⟨hi0, hhi0⟩ : ∃ hi0, hi0 = m := ⟨_, rfl⟩
        have hg : (mid < m ∧ lo0 + b = mid + m ∧ hi0 = mid) ∨ (m ≤ mid ∧ lo0 = a ∧ hi0 = m) := .inr ⟨hmm, hlo0, hhi0⟩
        refine AWP.seq ?_
        refine AWP.region ?_
        refine AOps.step rfl rfl rfl (AOp.moveD rfl rfl) ?_
        refine AOps.step rfl rfl rfl (AOp.assignD rfl rfl) ?_
        refine AOps.nil ?_
        refine AWP.region ?_
        refine AOps.step rfl rfl rfl (AOp.moveD rfl rfl) ?_
        refine AOps.step rfl rfl rfl (AOp.assignD rfl rfl) ?_
        refine AOps.nil ?_
        refine AWP.seq ?_
        refine AWP.region ?_
        refine AOps.step rfl rfl rfl (AOp.moveD rfl rfl) ?_
        refine AOps.step rfl rfl rfl (AOp.sub64 rfl rfl rfl (by omega) (by omega)) ?_
        refine AOps.step rfl rfl rfl (AOp.assignD rfl rfl) ?_
        refine AOps.nil ?_
        refine AWP.seq ?_
        refine AWP.block ?_
        refine AWP.loop (G := Nat × Nat) (fun g => Env.of [(20, .d (.v (.int .i64 (g.1 : Int)))), (21, .d (.v (.int .i64 (g.2 : Int)))), (22, .d (.v (.int .i64 ((mid + m - 1 : Nat) : Int)))), (19, .d (.v (.int .i64 ((mid + m : Nat) : Int)))), (18, .d (.v (.int .i64 (mid : Int)))), (0, .own 1), (1, .d (.v (.int .i64 a))), (2, .d (.v (.int .i64 m))), (3, .d (.v (.int .i64 b))), (4, .d (.clo (.func f) caps))]) (fun g => [(1, .row 46 3 (l.map tds))]) (fun g => CutS cmp l (mid + m - 1) lo0 hi0 g.1 g.2) (fun g => g.2 - g.1) (lo0, hi0) ⟨Nat.le_refl _, by dsimp only; omega, Nat.le_refl _, fun h => absurd h (Nat.lt_irrefl _), fun h => absurd h (Nat.lt_irrefl _)⟩ (Sub.less ⟨(SLe.i64 (by first | omega | (dsimp only; omega))), (SLe.i64 (by first | omega | (dsimp only; omega))), (SLe.i64 (by first | omega | (dsimp only; omega))), (SLe.i64 (by first | omega | (dsimp only; omega))), (SLe.i64 (by first | omega | (dsimp only; omega))), SLe.refl _, SLe.refl _, SLe.refl _, SLe.refl _, SLe.refl _, trivial⟩ (row_same rfl)) ?_
        rintro ⟨i, j⟩ hs
        dsimp only at hs ⊢
        have hs1 := hs.ls
        have hs2 := hs.sr
        have hs3 := hs.rh
        refine AWP.seq ?_
        refine AWP.seq ?_
        refine AWP.region ?_
        refine AOps.step rfl rfl rfl (AOp.moveD rfl rfl) ?_
        refine AOps.step rfl rfl rfl (AOp.moveD rfl rfl) ?_
        refine AOps.step rfl rfl rfl (AOp.lss rfl rfl rfl) ?_
        refine AOps.nil ?_
        refine AWP.cond rfl (fun h38 => ?_) (fun h38 => ?_)
        · replace h38 := of_decide_eq_true h38
          have hij : i < j := by omega
          have hhl : ((i + j) / 2) < l.length := by omega
          have hpl : mid + m - 1 - ((i + j) / 2) < l.length := by omega
          have htg := hx _ _ _ _ (show a ≤ ((i + j) / 2) by omega) (by omega) (show m ≤ mid + m - 1 - ((i + j) / 2) by omega) (by omega) (at_some l hhl) (at_some l hpl)
          refine AWP.skip ?_
          refine AWP.block ?_
          refine AWP.seq ?_
          refine AWP.region ?_
          refine AOps.step rfl rfl rfl (AOp.moveD rfl rfl) ?_
          refine AOps.step rfl rfl rfl (AOp.moveD rfl rfl) ?_
          refine AOps.step rfl rfl rfl (AOp.add64 rfl rfl rfl (by omega) (by omega)) ?_
          refine AOps.step rfl rfl rfl (AOp.convSame rfl (by kernel_rfl) rfl (wrapU64 (by omega) (by omega))) ?_
          refine AOps.step rfl rfl rfl (AOp.half rfl rfl rfl) ?_
          refine AOps.step rfl rfl rfl (AOp.convSame rfl (by kernel_rfl) rfl (w64 (by omega) (by omega))) ?_
          refine AOps.step rfl rfl rfl (AOp.assignD rfl rfl) ?_
          refine AOps.nil ?_
          refine AWP.seq ?_
          refine AWP.draw (by kernel_rfl) (by kernel_rfl) ?_
          refine DRun.step rfl rfl rfl (AOp.moveD rfl rfl) ?_
          refine DRun.step rfl rfl rfl (AOp.moveO rfl rfl) ?_
          refine DRun.step rfl rfl rfl (AOp.moveD rfl rfl) ?_
          refine DRun.step rfl rfl rfl (AOp.moveD rfl rfl) ?_
          refine DRun.step rfl rfl rfl (AOp.sub64 rfl rfl rfl (by omega) (by omega)) ?_
          refine DRun.step rfl rfl rfl (AOp.indexOwn rfl et_41 rfl rfl (.head _) (mid + m - 1 - ((i + j) / 2)) (by omega) (by rw [List.length_map]; omega)) ?_
          refine DRun.step rfl rfl rfl (AOp.loadRowAgg rfl ag_46 rfl (.head _) (mid + m - 1 - ((i + j) / 2)) rfl (at_list hpl)) ?_
          refine DRun.step rfl rfl rfl (AOp.moveO rfl rfl) ?_
          refine DRun.step rfl rfl rfl (AOp.moveD rfl rfl) ?_
          refine DRun.step rfl rfl rfl (AOp.indexOwn rfl et_41 rfl rfl (.head _) ((i + j) / 2) (by omega) (by rw [List.length_map]; omega)) ?_
          refine DRun.step rfl rfl rfl (AOp.loadRowAgg rfl ag_46 rfl (.head _) ((i + j) / 2) rfl (at_list hhl)) ?_
          refine DRun.step rfl rfl rfl (AOp.callClo rfl rfl (.cons (ArgOk.rfl' rfl) (.cons (ArgOk.rfl' rfl) .nil)) (hf (l[mid + m - 1 - ((i + j) / 2)]'hpl).1 (l[((i + j) / 2)]'hhl).1)) ?_
          refine DRun.step rfl rfl rfl (AOp.lss rfl rfl rfl) ?_
          refine DRun.step rfl rfl rfl (AOp.not rfl rfl) ?_
          refine DRun.nil ?_
          refine AWP.cond rfl (fun h39 => ?_) (fun h39 => ?_)
          · replace h39 := bnot_t h39; replace h39 := of_decide_eq_false h39
            have HU : CutS cmp l (mid + m - 1) lo0 hi0 (((i + j) / 2) + 1) j := ⟨by omega, by omega, by omega, fun _ => ⟨_, _, at_some l hhl, at_some l hpl, cross_ge htg h39⟩, hs.high⟩
            refine AWP.region ?_
            refine AOps.step rfl rfl rfl (AOp.moveD rfl rfl) ?_
            refine AOps.step rfl rfl rfl (AOp.add64 rfl rfl rfl (by omega) (by omega)) ?_
            refine AOps.step rfl rfl rfl (AOp.assignD rfl rfl) ?_
            refine AOps.nil ?_
            refine ⟨(((i + j) / 2) + 1, j), HU, (by dsimp only; omega), Sub.less ⟨(SLe.i64 (by dsimp only; omega)), (SLe.refl _), SLe.refl _, SLe.refl _, SLe.refl _, SLe.refl _, SLe.refl _, SLe.refl _, SLe.refl _, SLe.refl _, trivial⟩ (row_same rfl)⟩
          · replace h39 := bnot_f h39; replace h39 := of_decide_eq_true h39
            have HD : CutS cmp l (mid + m - 1) lo0 hi0 i ((i + j) / 2) := ⟨by omega, by omega, by omega, hs.low, fun _ => ⟨_, _, at_some l hhl, at_some l hpl, .inl (by omega)⟩⟩
            refine AWP.region ?_
            refine AOps.step rfl rfl rfl (AOp.moveD rfl rfl) ?_
            refine AOps.step rfl rfl rfl (AOp.assignD rfl rfl) ?_
            refine AOps.nil ?_
            refine ⟨(i, ((i + j) / 2)), HD, (by dsimp only; omega), Sub.less ⟨(SLe.refl _), (SLe.i64 (by dsimp only; omega)), SLe.refl _, SLe.refl _, SLe.refl _, SLe.refl _, SLe.refl _, SLe.refl _, SLe.refl _, SLe.refl _, trivial⟩ (row_same rfl)⟩
        · replace h38 := of_decide_eq_false h38
          have hij : i = j := by omega
          subst hij
          have hcut := CutS.cut hc s1 s2 hmid ham hmb hg hs
          have hs4 := hcut.has
          have hs5 := hcut.sm
          have hs6 := hcut.me
          have hs7 := hcut.eb
          obtain ⟨k1, k2, k3, k4, k5, k6, k7⟩ := cut_merge hc ht hbl s1 s2 hx hcut
          rw [show i + (mid + m - i - m) = mid by omega] at k2 k3 k4 k5 k6 k7
          have hrl : (rotl l i m (mid + m - i)).length = l.length := rotl_len hs5 hs6 (by omega)
          have ht1 : TagsOk (rotl l i m (mid + m - i)) := ht.perm (rotl_perm hs5 hs6)
          have hl1 : (sortSeg cmp (rotl l i m (mid + m - i)) a mid).length = l.length := by rw [sortSeg_len cmp _ (by omega), hrl]
          have ht2 : TagsOk (sortSeg cmp (rotl l i m (mid + m - i)) a mid) := ht1.perm (sortSeg_perm cmp _ (by omega))
          have HF := k7
          refine AWP.exit ?_
          refine AWP.seq ?_
          refine AWP.region ?_
          refine AOps.step rfl rfl rfl (AOp.moveD rfl rfl) ?_
          refine AOps.step rfl rfl rfl (AOp.moveD rfl rfl) ?_
          refine AOps.step rfl rfl rfl (AOp.sub64 rfl rfl rfl (by omega) (by omega)) ?_
          refine AOps.step rfl rfl rfl (AOp.assignD rfl rfl) ?_
          refine AOps.nil ?_
          refine AWP.seq ?_
          refine AWP.seq ?_
          refine AWP.region ?_
          refine AOps.step rfl rfl rfl (AOp.moveD rfl rfl) ?_
          refine AOps.step rfl rfl rfl (AOp.moveD rfl rfl) ?_
          refine AOps.step rfl rfl rfl (AOp.lss rfl rfl rfl) ?_
          refine AOps.step rfl rfl rfl (AOp.moveD rfl rfl) ?_
          refine AOps.split 181 rfl (fun g40 => ?_) (fun g40 => ?_)
          · replace g40 := of_decide_eq_true g40
            refine AOps.step ⟨181, rfl, .inl ⟨_, rfl, rfl⟩⟩ rfl rfl (AOp.moveD rfl rfl) ?_
            refine AOps.step ⟨181, rfl, .inl ⟨_, rfl, rfl⟩⟩ rfl rfl (AOp.moveD rfl rfl) ?_
            refine AOps.step ⟨181, rfl, .inl ⟨_, rfl, rfl⟩⟩ rfl rfl (AOp.lss rfl rfl rfl) ?_
            refine AOps.step rfl rfl rfl (AOp.pickT rfl rfl rfl) ?_
            refine AOps.nil ?_
            refine AWP.cond rfl (fun h41 => ?_) (fun h41 => ?_)
            · replace h41 := of_decide_eq_true h41
              refine AWP.region ?_
              refine AOps.step rfl rfl rfl (AOp.moveO rfl rfl) ?_
              refine AOps.step rfl rfl rfl (AOp.moveD rfl rfl) ?_
              refine AOps.step rfl rfl rfl (AOp.moveD rfl rfl) ?_
              refine AOps.step rfl rfl rfl (AOp.moveD rfl rfl) ?_
              refine AOps.step rfl rfl rfl (AOp.moveD rfl rfl) ?_
              -- turns 1
              refine AOps.callX rfl rfl rfl (.cons (SLe.refl _) (.cons (SLe.refl _) (.cons (SLe.refl _) (.cons (SLe.i64 (by omega)) (.cons (SLe.refl _) .nil))))) ((c_rotate l i m (mid + m - i) _ (by omega) (by omega) (by omega) hl) 1) ⟨(.head _), trivial⟩ rfl rfl (fun _ h => nomatch h) ?_
              refine AOps.nil ?_
              refine AWP.seq ?_
              refine AWP.seq ?_
              refine AWP.region ?_
              refine AOps.step rfl rfl rfl (AOp.moveD rfl rfl) ?_
              refine AOps.step rfl rfl rfl (AOp.moveD rfl rfl) ?_
              refine AOps.step rfl rfl rfl (AOp.lss rfl rfl rfl) ?_
              refine AOps.step rfl rfl rfl (AOp.moveD rfl rfl) ?_
              refine AOps.split 195 rfl (fun g42 => ?_) (fun g42 => ?_)
              · replace g42 := of_decide_eq_true g42
                refine AOps.step ⟨195, rfl, .inl ⟨_, rfl, rfl⟩⟩ rfl rfl (AOp.moveD rfl rfl) ?_
                refine AOps.step ⟨195, rfl, .inl ⟨_, rfl, rfl⟩⟩ rfl rfl (AOp.moveD rfl rfl) ?_
                refine AOps.step ⟨195, rfl, .inl ⟨_, rfl, rfl⟩⟩ rfl rfl (AOp.lss rfl rfl rfl) ?_
                refine AOps.step rfl rfl rfl (AOp.pickT rfl rfl rfl) ?_
                refine AOps.nil ?_
                refine AWP.cond rfl (fun h43 => ?_) (fun h43 => ?_)
                · replace h43 := of_decide_eq_true h43
                  refine AWP.region ?_
                  refine AOps.step rfl rfl rfl (AOp.moveO rfl rfl) ?_
                  refine AOps.step rfl rfl rfl (AOp.moveD rfl rfl) ?_
                  refine AOps.step rfl rfl rfl (AOp.moveD rfl rfl) ?_
                  refine AOps.step rfl rfl rfl (AOp.moveD rfl rfl) ?_
                  refine AOps.step rfl rfl rfl (AOp.moveD rfl rfl) ?_
                  -- turns 1
                  refine AOps.callX rfl rfl rfl (.cons (SLe.refl _) (.cons (SLe.refl _) (.cons (SLe.refl _) (.cons (SLe.refl _) (.cons (SLe.refl _) .nil))))) ((ih _ a i mid (by omega) (by omega) (by omega) (by omega) (by omega) ht1 k1 k2 k3) 1) ⟨(.head _), trivial⟩ rfl rfl (fun _ h => nomatch h) ?_
                  refine AOps.nil ?_
                  refine AWP.seq ?_
                  refine AWP.region ?_
                  refine AOps.step rfl rfl rfl (AOp.moveD rfl rfl) ?_
                  refine AOps.step rfl rfl rfl (AOp.moveD rfl rfl) ?_
                  refine AOps.step rfl rfl rfl (AOp.lss rfl rfl rfl) ?_
                  refine AOps.step rfl rfl rfl (AOp.moveD rfl rfl) ?_
                  refine AOps.split 209 rfl (fun g44 => ?_) (fun g44 => ?_)
                  · replace g44 := of_decide_eq_true g44
                    refine AOps.step ⟨209, rfl, .inl ⟨_, rfl, rfl⟩⟩ rfl rfl (AOp.moveD rfl rfl) ?_
                    refine AOps.step ⟨209, rfl, .inl ⟨_, rfl, rfl⟩⟩ rfl rfl (AOp.moveD rfl rfl) ?_
                    refine AOps.step ⟨209, rfl, .inl ⟨_, rfl, rfl⟩⟩ rfl rfl (AOp.lss rfl rfl rfl) ?_
                    refine AOps.step rfl rfl rfl (AOp.pickT rfl rfl rfl) ?_
                    refine AOps.nil ?_
                    refine AWP.cond rfl (fun h45 => ?_) (fun h45 => ?_)
                    · replace h45 := of_decide_eq_true h45
                      refine AWP.region ?_
                      refine AOps.step rfl rfl rfl (AOp.moveO rfl rfl) ?_
                      refine AOps.step rfl rfl rfl (AOp.moveD rfl rfl) ?_
                      refine AOps.step rfl rfl rfl (AOp.moveD rfl rfl) ?_
                      refine AOps.step rfl rfl rfl (AOp.moveD rfl rfl) ?_
                      refine AOps.step rfl rfl rfl (AOp.moveD rfl rfl) ?_
                      -- turns 1
                      refine AOps.callX rfl rfl rfl (.cons (SLe.refl _) (.cons (SLe.refl _) (.cons (SLe.i64 (by omega)) (.cons (SLe.refl _) (.cons (SLe.refl _) .nil))))) ((ih _ mid (mid + m - i) b (by omega) (by omega) (by omega) (by omega) (by omega) ht2 k4 k5 k6) 1) ⟨(.head _), trivial⟩ rfl rfl (fun _ h => nomatch h) ?_
                      refine AOps.nil ?_
                      refine ⟨trivial, ⟨mem_row_eq (.head _) ?_, trivial⟩⟩
                      all_goals (rw [HF])
                    · replace h45 := of_decide_eq_false h45
                      have er3 : (sortSeg cmp (rotl l i m (mid + m - i)) a mid).map tds = (sortSeg cmp (sortSeg cmp (rotl l i m (mid + m - i)) a mid) mid b).map tds := by rw [sortSeg_self hc (by omega) ht2 (sorted_at k4 (by omega) (by omega))]
                      rw [er3]
                      refine AWP.skip ?_
                      refine ⟨trivial, ⟨mem_row_eq (.head _) ?_, trivial⟩⟩
                      all_goals (rw [HF])
                  · replace g44 := of_decide_eq_false g44
                    have er3 : (sortSeg cmp (rotl l i m (mid + m - i)) a mid).map tds = (sortSeg cmp (sortSeg cmp (rotl l i m (mid + m - i)) a mid) mid b).map tds := by rw [sortSeg_self hc (by omega) ht2 (sorted_at k5 (by omega) (by omega))]
                    rw [er3]
                    refine AOps.pass ⟨209, rfl, .inl ⟨_, rfl, rfl⟩⟩ rfl rfl ?_
                    refine AOps.pass ⟨209, rfl, .inl ⟨_, rfl, rfl⟩⟩ rfl rfl ?_
                    refine AOps.pass ⟨209, rfl, .inl ⟨_, rfl, rfl⟩⟩ rfl rfl ?_
                    refine AOps.step rfl rfl rfl (AOp.pickF rfl rfl rfl) ?_
                    refine AOps.nil ?_
                    refine AWP.cond rfl (fun h => nomatch h) (fun _ => ?_)
                    refine AWP.skip ?_
                    refine ⟨trivial, ⟨mem_row_eq (.head _) ?_, trivial⟩⟩
                    all_goals (rw [HF])
                · replace h43 := of_decide_eq_false h43
                  have er2 : (rotl l i m (mid + m - i)).map tds = (sortSeg cmp (rotl l i m (mid + m - i)) a mid).map tds := by rw [sortSeg_self hc (by omega) ht1 (sorted_at k1 (by omega) (by omega))]
                  rw [er2]
                  refine AWP.skip ?_
                  refine AWP.seq ?_
                  refine AWP.region ?_
                  refine AOps.step rfl rfl rfl (AOp.moveD rfl rfl) ?_
                  refine AOps.step rfl rfl rfl (AOp.moveD rfl rfl) ?_
                  refine AOps.step rfl rfl rfl (AOp.lss rfl rfl rfl) ?_
                  refine AOps.step rfl rfl rfl (AOp.moveD rfl rfl) ?_
                  refine AOps.split 209 rfl (fun g46 => ?_) (fun g46 => ?_)
                  · replace g46 := of_decide_eq_true g46
                    refine AOps.step ⟨209, rfl, .inl ⟨_, rfl, rfl⟩⟩ rfl rfl (AOp.moveD rfl rfl) ?_
                    refine AOps.step ⟨209, rfl, .inl ⟨_, rfl, rfl⟩⟩ rfl rfl (AOp.moveD rfl rfl) ?_
                    refine AOps.step ⟨209, rfl, .inl ⟨_, rfl, rfl⟩⟩ rfl rfl (AOp.lss rfl rfl rfl) ?_
                    refine AOps.step rfl rfl rfl (AOp.pickT rfl rfl rfl) ?_
                    refine AOps.nil ?_
                    refine AWP.cond rfl (fun h47 => ?_) (fun h47 => ?_)
                    · replace h47 := of_decide_eq_true h47
                      refine AWP.region ?_
                      refine AOps.step rfl rfl rfl (AOp.moveO rfl rfl) ?_
                      refine AOps.step rfl rfl rfl (AOp.moveD rfl rfl) ?_
                      refine AOps.step rfl rfl rfl (AOp.moveD rfl rfl) ?_
                      refine AOps.step rfl rfl rfl (AOp.moveD rfl rfl) ?_
                      refine AOps.step rfl rfl rfl (AOp.moveD rfl rfl) ?_
                      -- turns 1
                      refine AOps.callX rfl rfl rfl (.cons (SLe.refl _) (.cons (SLe.refl _) (.cons (SLe.i64 (by omega)) (.cons (SLe.refl _) (.cons (SLe.refl _) .nil))))) ((ih _ mid (mid + m - i) b (by omega) (by omega) (by omega) (by omega) (by omega) ht2 k4 k5 k6) 1) ⟨(.head _), trivial⟩ rfl rfl (fun _ h => nomatch h) ?_
                      refine AOps.nil ?_
                      refine ⟨trivial, ⟨mem_row_eq (.head _) ?_, trivial⟩⟩
                      all_goals (rw [HF])
                    · replace h47 := of_decide_eq_false h47
                      have er3 : (sortSeg cmp (rotl l i m (mid + m - i)) a mid).map tds = (sortSeg cmp (sortSeg cmp (rotl l i m (mid + m - i)) a mid) mid b).map tds := by rw [sortSeg_self hc (by omega) ht2 (sorted_at k4 (by omega) (by omega))]
                      rw [er3]
                      refine AWP.skip ?_
                      refine ⟨trivial, ⟨mem_row_eq (.head _) ?_, trivial⟩⟩
                      all_goals (rw [HF])
                  · replace g46 := of_decide_eq_false g46
                    have er3 : (sortSeg cmp (rotl l i m (mid + m - i)) a mid).map tds = (sortSeg cmp (sortSeg cmp (rotl l i m (mid + m - i)) a mid) mid b).map tds := by rw [sortSeg_self hc (by omega) ht2 (sorted_at k5 (by omega) (by omega))]
                    rw [er3]
                    refine AOps.pass ⟨209, rfl, .inl ⟨_, rfl, rfl⟩⟩ rfl rfl ?_
                    refine AOps.pass ⟨209, rfl, .inl ⟨_, rfl, rfl⟩⟩ rfl rfl ?_
                    refine AOps.pass ⟨209, rfl, .inl ⟨_, rfl, rfl⟩⟩ rfl rfl ?_
                    refine AOps.step rfl rfl rfl (AOp.pickF rfl rfl rfl) ?_
                    refine AOps.nil ?_
                    refine AWP.cond rfl (fun h => nomatch h) (fun _ => ?_)
                    refine AWP.skip ?_
                    refine ⟨trivial, ⟨mem_row_eq (.head _) ?_, trivial⟩⟩
                    all_goals (rw [HF])
              · replace g42 := of_decide_eq_false g42
                have er2 : (rotl l i m (mid + m - i)).map tds = (sortSeg cmp (rotl l i m (mid + m - i)) a mid).map tds := by rw [sortSeg_self hc (by omega) ht1 (sorted_at k2 (by omega) (by omega))]
                rw [er2]
                refine AOps.pass ⟨195, rfl, .inl ⟨_, rfl, rfl⟩⟩ rfl rfl ?_
                refine AOps.pass ⟨195, rfl, .inl ⟨_, rfl, rfl⟩⟩ rfl rfl ?_
                refine AOps.pass ⟨195, rfl, .inl ⟨_, rfl, rfl⟩⟩ rfl rfl ?_
                refine AOps.step rfl rfl rfl (AOp.pickF rfl rfl rfl) ?_
                refine AOps.nil ?_
                refine AWP.cond rfl (fun h => nomatch h) (fun _ => ?_)
                refine AWP.skip ?_
                refine AWP.seq ?_
                refine AWP.region ?_
                refine AOps.step rfl rfl rfl (AOp.moveD rfl rfl) ?_
                refine AOps.step rfl rfl rfl (AOp.moveD rfl rfl) ?_
                refine AOps.step rfl rfl rfl (AOp.lss rfl rfl rfl) ?_
                refine AOps.step rfl rfl rfl (AOp.moveD rfl rfl) ?_
                refine AOps.split 209 rfl (fun g48 => ?_) (fun g48 => ?_)
                · replace g48 := of_decide_eq_true g48
                  refine AOps.step ⟨209, rfl, .inl ⟨_, rfl, rfl⟩⟩ rfl rfl (AOp.moveD rfl rfl) ?_
                  refine AOps.step ⟨209, rfl, .inl ⟨_, rfl, rfl⟩⟩ rfl rfl (AOp.moveD rfl rfl) ?_
                  refine AOps.step ⟨209, rfl, .inl ⟨_, rfl, rfl⟩⟩ rfl rfl (AOp.lss rfl rfl rfl) ?_
                  refine AOps.step rfl rfl rfl (AOp.pickT rfl rfl rfl) ?_
                  refine AOps.nil ?_
                  refine AWP.cond rfl (fun h49 => ?_) (fun h49 => ?_)
                  · replace h49 := of_decide_eq_true h49
                    refine AWP.region ?_
                    refine AOps.step rfl rfl rfl (AOp.moveO rfl rfl) ?_
                    refine AOps.step rfl rfl rfl (AOp.moveD rfl rfl) ?_
                    refine AOps.step rfl rfl rfl (AOp.moveD rfl rfl) ?_
                    refine AOps.step rfl rfl rfl (AOp.moveD rfl rfl) ?_
                    refine AOps.step rfl rfl rfl (AOp.moveD rfl rfl) ?_
                    -- turns 1
                    refine AOps.callX rfl rfl rfl (.cons (SLe.refl _) (.cons (SLe.refl _) (.cons (SLe.i64 (by omega)) (.cons (SLe.refl _) (.cons (SLe.refl _) .nil))))) ((ih _ mid (mid + m - i) b (by omega) (by omega) (by omega) (by omega) (by omega) ht2 k4 k5 k6) 1) ⟨(.head _), trivial⟩ rfl rfl (fun _ h => nomatch h) ?_
                    refine AOps.nil ?_
                    refine ⟨trivial, ⟨mem_row_eq (.head _) ?_, trivial⟩⟩
                    all_goals (rw [HF])
                  · replace h49 := of_decide_eq_false h49
                    have er3 : (sortSeg cmp (rotl l i m (mid + m - i)) a mid).map tds = (sortSeg cmp (sortSeg cmp (rotl l i m (mid + m - i)) a mid) mid b).map tds := by rw [sortSeg_self hc (by omega) ht2 (sorted_at k4 (by omega) (by omega))]
                    rw [er3]
                    refine AWP.skip ?_
                    refine ⟨trivial, ⟨mem_row_eq (.head _) ?_, trivial⟩⟩
                    all_goals (rw [HF])
                · replace g48 := of_decide_eq_false g48
                  have er3 : (sortSeg cmp (rotl l i m (mid + m - i)) a mid).map tds = (sortSeg cmp (sortSeg cmp (rotl l i m (mid + m - i)) a mid) mid b).map tds := by rw [sortSeg_self hc (by omega) ht2 (sorted_at k5 (by omega) (by omega))]
                  rw [er3]
                  refine AOps.pass ⟨209, rfl, .inl ⟨_, rfl, rfl⟩⟩ rfl rfl ?_
                  refine AOps.pass ⟨209, rfl, .inl ⟨_, rfl, rfl⟩⟩ rfl rfl ?_
                  refine AOps.pass ⟨209, rfl, .inl ⟨_, rfl, rfl⟩⟩ rfl rfl ?_
                  refine AOps.step rfl rfl rfl (AOp.pickF rfl rfl rfl) ?_
                  refine AOps.nil ?_
                  refine AWP.cond rfl (fun h => nomatch h) (fun _ => ?_)
                  refine AWP.skip ?_
                  refine ⟨trivial, ⟨mem_row_eq (.head _) ?_, trivial⟩⟩
                  all_goals (rw [HF])
            · replace h41 := of_decide_eq_false h41
              have er : l.map tds = (rotl l i m (mid + m - i)).map tds := by rw [show mid + m - i = m by omega, rotl_id2 (by omega)]
              rw [er]
              refine AWP.skip ?_
              refine AWP.seq ?_
              refine AWP.seq ?_
              refine AWP.region ?_
              refine AOps.step rfl rfl rfl (AOp.moveD rfl rfl) ?_
              refine AOps.step rfl rfl rfl (AOp.moveD rfl rfl) ?_
              refine AOps.step rfl rfl rfl (AOp.lss rfl rfl rfl) ?_
              refine AOps.step rfl rfl rfl (AOp.moveD rfl rfl) ?_
              refine AOps.split 195 rfl (fun g50 => ?_) (fun g50 => ?_)
              · replace g50 := of_decide_eq_true g50
                refine AOps.step ⟨195, rfl, .inl ⟨_, rfl, rfl⟩⟩ rfl rfl (AOp.moveD rfl rfl) ?_
                refine AOps.step ⟨195, rfl, .inl ⟨_, rfl, rfl⟩⟩ rfl rfl (AOp.moveD rfl rfl) ?_
                refine AOps.step ⟨195, rfl, .inl ⟨_, rfl, rfl⟩⟩ rfl rfl (AOp.lss rfl rfl rfl) ?_
                refine AOps.step rfl rfl rfl (AOp.pickT rfl rfl rfl) ?_
                refine AOps.nil ?_
                refine AWP.cond rfl (fun h51 => ?_) (fun h51 => ?_)
                · replace h51 := of_decide_eq_true h51
                  refine AWP.region ?_
                  refine AOps.step rfl rfl rfl (AOp.moveO rfl rfl) ?_
                  refine AOps.step rfl rfl rfl (AOp.moveD rfl rfl) ?_
                  refine AOps.step rfl rfl rfl (AOp.moveD rfl rfl) ?_
                  refine AOps.step rfl rfl rfl (AOp.moveD rfl rfl) ?_
                  refine AOps.step rfl rfl rfl (AOp.moveD rfl rfl) ?_
                  -- turns 1
                  refine AOps.callX rfl rfl rfl (.cons (SLe.refl _) (.cons (SLe.refl _) (.cons (SLe.refl _) (.cons (SLe.refl _) (.cons (SLe.refl _) .nil))))) ((ih _ a i mid (by omega) (by omega) (by omega) (by omega) (by omega) ht1 k1 k2 k3) 1) ⟨(.head _), trivial⟩ rfl rfl (fun _ h => nomatch h) ?_
                  refine AOps.nil ?_
                  refine AWP.seq ?_
                  refine AWP.region ?_
                  refine AOps.step rfl rfl rfl (AOp.moveD rfl rfl) ?_
                  refine AOps.step rfl rfl rfl (AOp.moveD rfl rfl) ?_
                  refine AOps.step rfl rfl rfl (AOp.lss rfl rfl rfl) ?_
                  refine AOps.step rfl rfl rfl (AOp.moveD rfl rfl) ?_
                  refine AOps.split 209 rfl (fun g52 => ?_) (fun g52 => ?_)
                  · replace g52 := of_decide_eq_true g52
                    refine AOps.step ⟨209, rfl, .inl ⟨_, rfl, rfl⟩⟩ rfl rfl (AOp.moveD rfl rfl) ?_
                    refine AOps.step ⟨209, rfl, .inl ⟨_, rfl, rfl⟩⟩ rfl rfl (AOp.moveD rfl rfl) ?_
                    refine AOps.step ⟨209, rfl, .inl ⟨_, rfl, rfl⟩⟩ rfl rfl (AOp.lss rfl rfl rfl) ?_
                    refine AOps.step rfl rfl rfl (AOp.pickT rfl rfl rfl) ?_
                    refine AOps.nil ?_
                    refine AWP.cond rfl (fun h53 => ?_) (fun h53 => ?_)
                    · replace h53 := of_decide_eq_true h53
                      refine AWP.region ?_
                      refine AOps.step rfl rfl rfl (AOp.moveO rfl rfl) ?_
                      refine AOps.step rfl rfl rfl (AOp.moveD rfl rfl) ?_
                      refine AOps.step rfl rfl rfl (AOp.moveD rfl rfl) ?_
                      refine AOps.step rfl rfl rfl (AOp.moveD rfl rfl) ?_
                      refine AOps.step rfl rfl rfl (AOp.moveD rfl rfl) ?_
                      -- turns 1
                      refine AOps.callX rfl rfl rfl (.cons (SLe.refl _) (.cons (SLe.refl _) (.cons (SLe.i64 (by omega)) (.cons (SLe.refl _) (.cons (SLe.refl _) .nil))))) ((ih _ mid (mid + m - i) b (by omega) (by omega) (by omega) (by omega) (by omega) ht2 k4 k5 k6) 1) ⟨(.head _), trivial⟩ rfl rfl (fun _ h => nomatch h) ?_
                      refine AOps.nil ?_
                      refine ⟨trivial, ⟨mem_row_eq (.head _) ?_, trivial⟩⟩
                      all_goals (rw [HF])
                    · replace h53 := of_decide_eq_false h53
                      have er3 : (sortSeg cmp (rotl l i m (mid + m - i)) a mid).map tds = (sortSeg cmp (sortSeg cmp (rotl l i m (mid + m - i)) a mid) mid b).map tds := by rw [sortSeg_self hc (by omega) ht2 (sorted_at k4 (by omega) (by omega))]
                      rw [er3]
                      refine AWP.skip ?_
                      refine ⟨trivial, ⟨mem_row_eq (.head _) ?_, trivial⟩⟩
                      all_goals (rw [HF])
                  · replace g52 := of_decide_eq_false g52
                    have er3 : (sortSeg cmp (rotl l i m (mid + m - i)) a mid).map tds = (sortSeg cmp (sortSeg cmp (rotl l i m (mid + m - i)) a mid) mid b).map tds := by rw [sortSeg_self hc (by omega) ht2 (sorted_at k5 (by omega) (by omega))]
                    rw [er3]
                    refine AOps.pass ⟨209, rfl, .inl ⟨_, rfl, rfl⟩⟩ rfl rfl ?_
                    refine AOps.pass ⟨209, rfl, .inl ⟨_, rfl, rfl⟩⟩ rfl rfl ?_
                    refine AOps.pass ⟨209, rfl, .inl ⟨_, rfl, rfl⟩⟩ rfl rfl ?_
                    refine AOps.step rfl rfl rfl (AOp.pickF rfl rfl rfl) ?_
                    refine AOps.nil ?_
                    refine AWP.cond rfl (fun h => nomatch h) (fun _ => ?_)
                    refine AWP.skip ?_
                    refine ⟨trivial, ⟨mem_row_eq (.head _) ?_, trivial⟩⟩
                    all_goals (rw [HF])
                · replace h51 := of_decide_eq_false h51
                  have er2 : (rotl l i m (mid + m - i)).map tds = (sortSeg cmp (rotl l i m (mid + m - i)) a mid).map tds := by rw [sortSeg_self hc (by omega) ht1 (sorted_at k1 (by omega) (by omega))]
                  rw [er2]
                  refine AWP.skip ?_
                  refine AWP.seq ?_
                  refine AWP.region ?_
                  refine AOps.step rfl rfl rfl (AOp.moveD rfl rfl) ?_
                  refine AOps.step rfl rfl rfl (AOp.moveD rfl rfl) ?_
                  refine AOps.step rfl rfl rfl (AOp.lss rfl rfl rfl) ?_
                  refine AOps.step rfl rfl rfl (AOp.moveD rfl rfl) ?_
                  refine AOps.split 209 rfl (fun g54 => ?_) (fun g54 => ?_)
                  · replace g54 := of_decide_eq_true g54
                    refine AOps.step ⟨209, rfl, .inl ⟨_, rfl, rfl⟩⟩ rfl rfl (AOp.moveD rfl rfl) ?_
                    refine AOps.step ⟨209, rfl, .inl ⟨_, rfl, rfl⟩⟩ rfl rfl (AOp.moveD rfl rfl) ?_
                    refine AOps.step ⟨209, rfl, .inl ⟨_, rfl, rfl⟩⟩ rfl rfl (AOp.lss rfl rfl rfl) ?_
                    refine AOps.step rfl rfl rfl (AOp.pickT rfl rfl rfl) ?_
                    refine AOps.nil ?_
                    refine AWP.cond rfl (fun h55 => ?_) (fun h55 => ?_)
                    · replace h55 := of_decide_eq_true h55
                      refine AWP.region ?_
                      refine AOps.step rfl rfl rfl (AOp.moveO rfl rfl) ?_
                      refine AOps.step rfl rfl rfl (AOp.moveD rfl rfl) ?_
                      refine AOps.step rfl rfl rfl (AOp.moveD rfl rfl) ?_
                      refine AOps.step rfl rfl rfl (AOp.moveD rfl rfl) ?_
                      refine AOps.step rfl rfl rfl (AOp.moveD rfl rfl) ?_
                      -- turns 1
                      refine AOps.callX rfl rfl rfl (.cons (SLe.refl _) (.cons (SLe.refl _) (.cons (SLe.i64 (by omega)) (.cons (SLe.refl _) (.cons (SLe.refl _) .nil))))) ((ih _ mid (mid + m - i) b (by omega) (by omega) (by omega) (by omega) (by omega) ht2 k4 k5 k6) 1) ⟨(.head _), trivial⟩ rfl rfl (fun _ h => nomatch h) ?_
                      refine AOps.nil ?_
                      refine ⟨trivial, ⟨mem_row_eq (.head _) ?_, trivial⟩⟩
                      all_goals (rw [HF])
                    · replace h55 := of_decide_eq_false h55
                      have er3 : (sortSeg cmp (rotl l i m (mid + m - i)) a mid).map tds = (sortSeg cmp (sortSeg cmp (rotl l i m (mid + m - i)) a mid) mid b).map tds := by rw [sortSeg_self hc (by omega) ht2 (sorted_at k4 (by omega) (by omega))]
                      rw [er3]
                      refine AWP.skip ?_
                      refine ⟨trivial, ⟨mem_row_eq (.head _) ?_, trivial⟩⟩
                      all_goals (rw [HF])
                  · replace g54 := of_decide_eq_false g54
                    have er3 : (sortSeg cmp (rotl l i m (mid + m - i)) a mid).map tds = (sortSeg cmp (sortSeg cmp (rotl l i m (mid + m - i)) a mid) mid b).map tds := by rw [sortSeg_self hc (by omega) ht2 (sorted_at k5 (by omega) (by omega))]
                    rw [er3]
                    refine AOps.pass ⟨209, rfl, .inl ⟨_, rfl, rfl⟩⟩ rfl rfl ?_
                    refine AOps.pass ⟨209, rfl, .inl ⟨_, rfl, rfl⟩⟩ rfl rfl ?_
                    refine AOps.pass ⟨209, rfl, .inl ⟨_, rfl, rfl⟩⟩ rfl rfl ?_
                    refine AOps.step rfl rfl rfl (AOp.pickF rfl rfl rfl) ?_
                    refine AOps.nil ?_
                    refine AWP.cond rfl (fun h => nomatch h) (fun _ => ?_)
                    refine AWP.skip ?_
                    refine ⟨trivial, ⟨mem_row_eq (.head _) ?_, trivial⟩⟩
                    all_goals (rw [HF])
              · replace g50 := of_decide_eq_false g50
                have er2 : (rotl l i m (mid + m - i)).map tds = (sortSeg cmp (rotl l i m (mid + m - i)) a mid).map tds := by rw [sortSeg_self hc (by omega) ht1 (sorted_at k2 (by omega) (by omega))]
                rw [er2]
                refine AOps.pass ⟨195, rfl, .inl ⟨_, rfl, rfl⟩⟩ rfl rfl ?_
                refine AOps.pass ⟨195, rfl, .inl ⟨_, rfl, rfl⟩⟩ rfl rfl ?_
                refine AOps.pass ⟨195, rfl, .inl ⟨_, rfl, rfl⟩⟩ rfl rfl ?_
                refine AOps.step rfl rfl rfl (AOp.pickF rfl rfl rfl) ?_
                refine AOps.nil ?_
                refine AWP.cond rfl (fun h => nomatch h) (fun _ => ?_)
                refine AWP.skip ?_
                refine AWP.seq ?_
                refine AWP.region ?_
                refine AOps.step rfl rfl rfl (AOp.moveD rfl rfl) ?_
                refine AOps.step rfl rfl rfl (AOp.moveD rfl rfl) ?_
                refine AOps.step rfl rfl rfl (AOp.lss rfl rfl rfl) ?_
                refine AOps.step rfl rfl rfl (AOp.moveD rfl rfl) ?_
                refine AOps.split 209 rfl (fun g56 => ?_) (fun g56 => ?_)
                · replace g56 := of_decide_eq_true g56
                  refine AOps.step ⟨209, rfl, .inl ⟨_, rfl, rfl⟩⟩ rfl rfl (AOp.moveD rfl rfl) ?_
                  refine AOps.step ⟨209, rfl, .inl ⟨_, rfl, rfl⟩⟩ rfl rfl (AOp.moveD rfl rfl) ?_
                  refine AOps.step ⟨209, rfl, .inl ⟨_, rfl, rfl⟩⟩ rfl rfl (AOp.lss rfl rfl rfl) ?_
                  refine AOps.step rfl rfl rfl (AOp.pickT rfl rfl rfl) ?_
                  refine AOps.nil ?_
                  refine AWP.cond rfl (fun h57 => ?_) (fun h57 => ?_)
                  · replace h57 := of_decide_eq_true h57
                    refine AWP.region ?_
                    refine AOps.step rfl rfl rfl (AOp.moveO rfl rfl) ?_
                    refine AOps.step rfl rfl rfl (AOp.moveD rfl rfl) ?_
                    refine AOps.step rfl rfl rfl (AOp.moveD rfl rfl) ?_
                    refine AOps.step rfl rfl rfl (AOp.moveD rfl rfl) ?_
                    refine AOps.step rfl rfl rfl (AOp.moveD rfl rfl) ?_
                    -- turns 1
                    refine AOps.callX rfl rfl rfl (.cons (SLe.refl _) (.cons (SLe.refl _) (.cons (SLe.i64 (by omega)) (.cons (SLe.refl _) (.cons (SLe.refl _) .nil))))) ((ih _ mid (mid + m - i) b (by omega) (by omega) (by omega) (by omega) (by omega) ht2 k4 k5 k6) 1) ⟨(.head _), trivial⟩ rfl rfl (fun _ h => nomatch h) ?_
                    refine AOps.nil ?_
                    refine ⟨trivial, ⟨mem_row_eq (.head _) ?_, trivial⟩⟩
                    all_goals (rw [HF])
                  · replace h57 := of_decide_eq_false h57
                    have er3 : (sortSeg cmp (rotl l i m (mid + m - i)) a mid).map tds = (sortSeg cmp (sortSeg cmp (rotl l i m (mid + m - i)) a mid) mid b).map tds := by rw [sortSeg_self hc (by omega) ht2 (sorted_at k4 (by omega) (by omega))]
                    rw [er3]
                    refine AWP.skip ?_
                    refine ⟨trivial, ⟨mem_row_eq (.head _) ?_, trivial⟩⟩
                    all_goals (rw [HF])
                · replace g56 := of_decide_eq_false g56
                  have er3 : (sortSeg cmp (rotl l i m (mid + m - i)) a mid).map tds = (sortSeg cmp (sortSeg cmp (rotl l i m (mid + m - i)) a mid) mid b).map tds := by rw [sortSeg_self hc (by omega) ht2 (sorted_at k5 (by omega) (by omega))]
                  rw [er3]
                  refine AOps.pass ⟨209, rfl, .inl ⟨_, rfl, rfl⟩⟩ rfl rfl ?_
                  refine AOps.pass ⟨209, rfl, .inl ⟨_, rfl, rfl⟩⟩ rfl rfl ?_
                  refine AOps.pass ⟨209, rfl, .inl ⟨_, rfl, rfl⟩⟩ rfl rfl ?_
                  refine AOps.step rfl rfl rfl (AOp.pickF rfl rfl rfl) ?_
                  refine AOps.nil ?_
                  refine AWP.cond rfl (fun h => nomatch h) (fun _ => ?_)
                  refine AWP.skip ?_
                  refine ⟨trivial, ⟨mem_row_eq (.head _) ?_, trivial⟩⟩
                  all_goals (rw [HF])
          · replace g40 := of_decide_eq_false g40
            have er : l.map tds = (rotl l i m (mid + m - i)).map tds := by rw [show i = m by omega, rotl_id1 (by omega)]
            rw [er]
            refine AOps.pass ⟨181, rfl, .inl ⟨_, rfl, rfl⟩⟩ rfl rfl ?_
            refine AOps.pass ⟨181, rfl, .inl ⟨_, rfl, rfl⟩⟩ rfl rfl ?_
            refine AOps.pass ⟨181, rfl, .inl ⟨_, rfl, rfl⟩⟩ rfl rfl ?_
            refine AOps.step rfl rfl rfl (AOp.pickF rfl rfl rfl) ?_
            refine AOps.nil ?_
            refine AWP.cond rfl (fun h => nomatch h) (fun _ => ?_)
            refine AWP.skip ?_
            refine AWP.seq ?_
            refine AWP.seq ?_
            refine AWP.region ?_
            refine AOps.step rfl rfl rfl (AOp.moveD rfl rfl) ?_
            refine AOps.step rfl rfl rfl (AOp.moveD rfl rfl) ?_
            refine AOps.step rfl rfl rfl (AOp.lss rfl rfl rfl) ?_
            refine AOps.step rfl rfl rfl (AOp.moveD rfl rfl) ?_
            refine AOps.split 195 rfl (fun g58 => ?_) (fun g58 => ?_)
            · replace g58 := of_decide_eq_true g58
              refine AOps.step ⟨195, rfl, .inl ⟨_, rfl, rfl⟩⟩ rfl rfl (AOp.moveD rfl rfl) ?_
              refine AOps.step ⟨195, rfl, .inl ⟨_, rfl, rfl⟩⟩ rfl rfl (AOp.moveD rfl rfl) ?_
              refine AOps.step ⟨195, rfl, .inl ⟨_, rfl, rfl⟩⟩ rfl rfl (AOp.lss rfl rfl rfl) ?_
              refine AOps.step rfl rfl rfl (AOp.pickT rfl rfl rfl) ?_
              refine AOps.nil ?_
              refine AWP.cond rfl (fun h59 => ?_) (fun h59 => ?_)
              · replace h59 := of_decide_eq_true h59
                refine AWP.region ?_
                refine AOps.step rfl rfl rfl (AOp.moveO rfl rfl) ?_
                refine AOps.step rfl rfl rfl (AOp.moveD rfl rfl) ?_
                refine AOps.step rfl rfl rfl (AOp.moveD rfl rfl) ?_
                refine AOps.step rfl rfl rfl (AOp.moveD rfl rfl) ?_
                refine AOps.step rfl rfl rfl (AOp.moveD rfl rfl) ?_
                -- turns 1
                refine AOps.callX rfl rfl rfl (.cons (SLe.refl _) (.cons (SLe.refl _) (.cons (SLe.refl _) (.cons (SLe.refl _) (.cons (SLe.refl _) .nil))))) ((ih _ a i mid (by omega) (by omega) (by omega) (by omega) (by omega) ht1 k1 k2 k3) 1) ⟨(.head _), trivial⟩ rfl rfl (fun _ h => nomatch h) ?_
                refine AOps.nil ?_
                refine AWP.seq ?_
                refine AWP.region ?_
                refine AOps.step rfl rfl rfl (AOp.moveD rfl rfl) ?_
                refine AOps.step rfl rfl rfl (AOp.moveD rfl rfl) ?_
                refine AOps.step rfl rfl rfl (AOp.lss rfl rfl rfl) ?_
                refine AOps.step rfl rfl rfl (AOp.moveD rfl rfl) ?_
                refine AOps.split 209 rfl (fun g60 => ?_) (fun g60 => ?_)
                · replace g60 := of_decide_eq_true g60
                  refine AOps.step ⟨209, rfl, .inl ⟨_, rfl, rfl⟩⟩ rfl rfl (AOp.moveD rfl rfl) ?_
                  refine AOps.step ⟨209, rfl, .inl ⟨_, rfl, rfl⟩⟩ rfl rfl (AOp.moveD rfl rfl) ?_
                  refine AOps.step ⟨209, rfl, .inl ⟨_, rfl, rfl⟩⟩ rfl rfl (AOp.lss rfl rfl rfl) ?_
                  refine AOps.step rfl rfl rfl (AOp.pickT rfl rfl rfl) ?_
                  refine AOps.nil ?_
                  refine AWP.cond rfl (fun h61 => ?_) (fun h61 => ?_)
                  · replace h61 := of_decide_eq_true h61
                    refine AWP.region ?_
                    refine AOps.step rfl rfl rfl (AOp.moveO rfl rfl) ?_
                    refine AOps.step rfl rfl rfl (AOp.moveD rfl rfl) ?_
                    refine AOps.step rfl rfl rfl (AOp.moveD rfl rfl) ?_
                    refine AOps.step rfl rfl rfl (AOp.moveD rfl rfl) ?_
                    refine AOps.step rfl rfl rfl (AOp.moveD rfl rfl) ?_
                    -- turns 1
                    refine AOps.callX rfl rfl rfl (.cons (SLe.refl _) (.cons (SLe.refl _) (.cons (SLe.i64 (by omega)) (.cons (SLe.refl _) (.cons (SLe.refl _) .nil))))) ((ih _ mid (mid + m - i) b (by omega) (by omega) (by omega) (by omega) (by omega) ht2 k4 k5 k6) 1) ⟨(.head _), trivial⟩ rfl rfl (fun _ h => nomatch h) ?_
                    refine AOps.nil ?_
                    refine ⟨trivial, ⟨mem_row_eq (.head _) ?_, trivial⟩⟩
                    all_goals (rw [HF])
                  · replace h61 := of_decide_eq_false h61
                    have er3 : (sortSeg cmp (rotl l i m (mid + m - i)) a mid).map tds = (sortSeg cmp (sortSeg cmp (rotl l i m (mid + m - i)) a mid) mid b).map tds := by rw [sortSeg_self hc (by omega) ht2 (sorted_at k4 (by omega) (by omega))]
                    rw [er3]
                    refine AWP.skip ?_
                    refine ⟨trivial, ⟨mem_row_eq (.head _) ?_, trivial⟩⟩
                    all_goals (rw [HF])
                · replace g60 := of_decide_eq_false g60
                  have er3 : (sortSeg cmp (rotl l i m (mid + m - i)) a mid).map tds = (sortSeg cmp (sortSeg cmp (rotl l i m (mid + m - i)) a mid) mid b).map tds := by rw [sortSeg_self hc (by omega) ht2 (sorted_at k5 (by omega) (by omega))]
                  rw [er3]
                  refine AOps.pass ⟨209, rfl, .inl ⟨_, rfl, rfl⟩⟩ rfl rfl ?_
                  refine AOps.pass ⟨209, rfl, .inl ⟨_, rfl, rfl⟩⟩ rfl rfl ?_
                  refine AOps.pass ⟨209, rfl, .inl ⟨_, rfl, rfl⟩⟩ rfl rfl ?_
                  refine AOps.step rfl rfl rfl (AOp.pickF rfl rfl rfl) ?_
                  refine AOps.nil ?_
                  refine AWP.cond rfl (fun h => nomatch h) (fun _ => ?_)
                  refine AWP.skip ?_
                  refine ⟨trivial, ⟨mem_row_eq (.head _) ?_, trivial⟩⟩
                  all_goals (rw [HF])
              · replace h59 := of_decide_eq_false h59
                have er2 : (rotl l i m (mid + m - i)).map tds = (sortSeg cmp (rotl l i m (mid + m - i)) a mid).map tds := by rw [sortSeg_self hc (by omega) ht1 (sorted_at k1 (by omega) (by omega))]
                rw [er2]
                refine AWP.skip ?_
                refine AWP.seq ?_
                refine AWP.region ?_
                refine AOps.step rfl rfl rfl (AOp.moveD rfl rfl) ?_
                refine AOps.step rfl rfl rfl (AOp.moveD rfl rfl) ?_
                refine AOps.step rfl rfl rfl (AOp.lss rfl rfl rfl) ?_
                refine AOps.step rfl rfl rfl (AOp.moveD rfl rfl) ?_
                refine AOps.split 209 rfl (fun g62 => ?_) (fun g62 => ?_)
                · replace g62 := of_decide_eq_true g62
                  refine AOps.step ⟨209, rfl, .inl ⟨_, rfl, rfl⟩⟩ rfl rfl (AOp.moveD rfl rfl) ?_
                  refine AOps.step ⟨209, rfl, .inl ⟨_, rfl, rfl⟩⟩ rfl rfl (AOp.moveD rfl rfl) ?_
                  refine AOps.step ⟨209, rfl, .inl ⟨_, rfl, rfl⟩⟩ rfl rfl (AOp.lss rfl rfl rfl) ?_
                  refine AOps.step rfl rfl rfl (AOp.pickT rfl rfl rfl) ?_
                  refine AOps.nil ?_
                  refine AWP.cond rfl (fun h63 => ?_) (fun h63 => ?_)
                  · replace h63 := of_decide_eq_true h63
                    refine AWP.region ?_
                    refine AOps.step rfl rfl rfl (AOp.moveO rfl rfl) ?_
                    refine AOps.step rfl rfl rfl (AOp.moveD rfl rfl) ?_
                    refine AOps.step rfl rfl rfl (AOp.moveD rfl rfl) ?_
                    refine AOps.step rfl rfl rfl (AOp.moveD rfl rfl) ?_
                    refine AOps.step rfl rfl rfl (AOp.moveD rfl rfl) ?_
                    -- turns 1
                    refine AOps.callX rfl rfl rfl (.cons (SLe.refl _) (.cons (SLe.refl _) (.cons (SLe.i64 (by omega)) (.cons (SLe.refl _) (.cons (SLe.refl _) .nil))))) ((ih _ mid (mid + m - i) b (by omega) (by omega) (by omega) (by omega) (by omega) ht2 k4 k5 k6) 1) ⟨(.head _), trivial⟩ rfl rfl (fun _ h => nomatch h) ?_
                    refine AOps.nil ?_
                    refine ⟨trivial, ⟨mem_row_eq (.head _) ?_, trivial⟩⟩
                    all_goals (rw [HF])
                  · replace h63 := of_decide_eq_false h63
                    have er3 : (sortSeg cmp (rotl l i m (mid + m - i)) a mid).map tds = (sortSeg cmp (sortSeg cmp (rotl l i m (mid + m - i)) a mid) mid b).map tds := by rw [sortSeg_self hc (by omega) ht2 (sorted_at k4 (by omega) (by omega))]
                    rw [er3]
                    refine AWP.skip ?_
                    refine ⟨trivial, ⟨mem_row_eq (.head _) ?_, trivial⟩⟩
                    all_goals (rw [HF])
                · replace g62 := of_decide_eq_false g62
                  have er3 : (sortSeg cmp (rotl l i m (mid + m - i)) a mid).map tds = (sortSeg cmp (sortSeg cmp (rotl l i m (mid + m - i)) a mid) mid b).map tds := by rw [sortSeg_self hc (by omega) ht2 (sorted_at k5 (by omega) (by omega))]
                  rw [er3]
                  refine AOps.pass ⟨209, rfl, .inl ⟨_, rfl, rfl⟩⟩ rfl rfl ?_
                  refine AOps.pass ⟨209, rfl, .inl ⟨_, rfl, rfl⟩⟩ rfl rfl ?_
                  refine AOps.pass ⟨209, rfl, .inl ⟨_, rfl, rfl⟩⟩ rfl rfl ?_
                  refine AOps.step rfl rfl rfl (AOp.pickF rfl rfl rfl) ?_
                  refine AOps.nil ?_
                  refine AWP.cond rfl (fun h => nomatch h) (fun _ => ?_)
                  refine AWP.skip ?_
                  refine ⟨trivial, ⟨mem_row_eq (.head _) ?_, trivial⟩⟩
                  all_goals (rw [HF])
            · replace g58 := of_decide_eq_false g58
              have er2 : (rotl l i m (mid + m - i)).map tds = (sortSeg cmp (rotl l i m (mid + m - i)) a mid).map tds := by rw [sortSeg_self hc (by omega) ht1 (sorted_at k2 (by omega) (by omega))]
              rw [er2]
              refine AOps.pass ⟨195, rfl, .inl ⟨_, rfl, rfl⟩⟩ rfl rfl ?_
              refine AOps.pass ⟨195, rfl, .inl ⟨_, rfl, rfl⟩⟩ rfl rfl ?_
              refine AOps.pass ⟨195, rfl, .inl ⟨_, rfl, rfl⟩⟩ rfl rfl ?_
              refine AOps.step rfl rfl rfl (AOp.pickF rfl rfl rfl) ?_
              refine AOps.nil ?_
              refine AWP.cond rfl (fun h => nomatch h) (fun _ => ?_)
              refine AWP.skip ?_
              refine AWP.seq ?_
              refine AWP.region ?_
              refine AOps.step rfl rfl rfl (AOp.moveD rfl rfl) ?_
              refine AOps.step rfl rfl rfl (AOp.moveD rfl rfl) ?_
              refine AOps.step rfl rfl rfl (AOp.lss rfl rfl rfl) ?_
              refine AOps.step rfl rfl rfl (AOp.moveD rfl rfl) ?_
              refine AOps.split 209 rfl (fun g64 => ?_) (fun g64 => ?_)
              · replace g64 := of_decide_eq_true g64
                refine AOps.step ⟨209, rfl, .inl ⟨_, rfl, rfl⟩⟩ rfl rfl (AOp.moveD rfl rfl) ?_
                refine AOps.step ⟨209, rfl, .inl ⟨_, rfl, rfl⟩⟩ rfl rfl (AOp.moveD rfl rfl) ?_
                refine AOps.step ⟨209, rfl, .inl ⟨_, rfl, rfl⟩⟩ rfl rfl (AOp.lss rfl rfl rfl) ?_
                refine AOps.step rfl rfl rfl (AOp.pickT rfl rfl rfl) ?_
                refine AOps.nil ?_
                refine AWP.cond rfl (fun h65 => ?_) (fun h65 => ?_)
                · replace h65 := of_decide_eq_true h65
                  refine AWP.region ?_
                  refine AOps.step rfl rfl rfl (AOp.moveO rfl rfl) ?_
                  refine AOps.step rfl rfl rfl (AOp.moveD rfl rfl) ?_
                  refine AOps.step rfl rfl rfl (AOp.moveD rfl rfl) ?_
                  refine AOps.step rfl rfl rfl (AOp.moveD rfl rfl) ?_
                  refine AOps.step rfl rfl rfl (AOp.moveD rfl rfl) ?_
                  -- turns 1
                  refine AOps.callX rfl rfl rfl (.cons (SLe.refl _) (.cons (SLe.refl _) (.cons (SLe.i64 (by omega)) (.cons (SLe.refl _) (.cons (SLe.refl _) .nil))))) ((ih _ mid (mid + m - i) b (by omega) (by omega) (by omega) (by omega) (by omega) ht2 k4 k5 k6) 1) ⟨(.head _), trivial⟩ rfl rfl (fun _ h => nomatch h) ?_
                  refine AOps.nil ?_
                  refine ⟨trivial, ⟨mem_row_eq (.head _) ?_, trivial⟩⟩
                  all_goals (rw [HF])
                · replace h65 := of_decide_eq_false h65
                  have er3 : (sortSeg cmp (rotl l i m (mid + m - i)) a mid).map tds = (sortSeg cmp (sortSeg cmp (rotl l i m (mid + m - i)) a mid) mid b).map tds := by rw [sortSeg_self hc (by omega) ht2 (sorted_at k4 (by omega) (by omega))]
                  rw [er3]
                  refine AWP.skip ?_
                  refine ⟨trivial, ⟨mem_row_eq (.head _) ?_, trivial⟩⟩
                  all_goals (rw [HF])
              · replace g64 := of_decide_eq_false g64
                have er3 : (sortSeg cmp (rotl l i m (mid + m - i)) a mid).map tds = (sortSeg cmp (sortSeg cmp (rotl l i m (mid + m - i)) a mid) mid b).map tds := by rw [sortSeg_self hc (by omega) ht2 (sorted_at k5 (by omega) (by omega))]
                rw [er3]
                refine AOps.pass ⟨209, rfl, .inl ⟨_, rfl, rfl⟩⟩ rfl rfl ?_
                refine AOps.pass ⟨209, rfl, .inl ⟨_, rfl, rfl⟩⟩ rfl rfl ?_
                refine AOps.pass ⟨209, rfl, .inl ⟨_, rfl, rfl⟩⟩ rfl rfl ?_
                refine AOps.step rfl rfl rfl (AOp.pickF rfl rfl rfl) ?_
                refine AOps.nil ?_
                refine AWP.cond rfl (fun h => nomatch h) (fun _ => ?_)
                refine AWP.skip ?_
                refine ⟨trivial, ⟨mem_row_eq (.head _) ?_, trivial⟩⟩
                all_goals (rw [HF])

end Go.Proofs.YtieccphckobhjaaDoor


namespace Go.Proofs.YtieccphckobhjaaDoor
open Go.RowKit
set_option linter.unusedVariables false

/-! Types. -/
namespace TyT11
theorem et_41 : ElemTy Tryd.prog 41 46 3 40 (.agg #[(.int .i64 0), (.string ⟨#[]⟩), (.string ⟨#[]⟩)]) := ⟨by kernel_rfl, by kernel_rfl, by kernel_rfl, by decide⟩
end TyT11
open TyT11


theorem c_symMerge (cmp : Tsk → Tsk → Int) (hc : Pre cmp) (f : Nat) (caps : List D) (hf : ∀ x y : Tsk, ACall Tryd.prog f (.agg x.ds :: .agg y.ds :: caps) (.v (.int .i64 (cmp x y)))) : ∀ (N : Nat) (l : List (Tsk × Nat)) (a m b : Nat), b - a ≤ N → a < m → m < b → b ≤ l.length → l.length ≤ 4611686018427387904 → TagsOk l → SortedOn cmp l a m → SortedOn cmp l m b → Cross l a m b →
    RCall Tryd.prog 113 46 3 (l.map tds) ((sortSeg cmp l a b).map tds) [.v (.int .i64 a), .v (.int .i64 m), .v (.int .i64 b), .clo (.func f) caps] (.tup [])
  | 0, _, _, _, _, hN, h1, h2, _, _, _, _, _, _ => by omega
  | N + 1, l, a, m, b, hN, h1, h2, h3, hl, ht, s1, s2, hx => c_symStep cmp hc f caps hf (N + 1) (fun l a m b q1 q2 q3 q4 q5 q6 q7 q8 q9 => c_symMerge cmp hc f caps hf N l a m b (by omega) q2 q3 q4 q5 q6 q7 q8 q9) l a m b hN h1 h2 h3 hl ht s1 s2 hx
section
variable {α : Type} {cmp : α → α → Int}
theorem dvd_gap {s a m : Nat} (h1 : s ∣ a) (h2 : s ∣ m) (h : a < m) : a + s ≤ m := by
  obtain ⟨k, rfl⟩ := h1
  obtain ⟨j, rfl⟩ := h2
  have : k < j := Nat.lt_of_mul_lt_mul_left h
  have := Nat.mul_le_mul_left s this
  rw [Nat.mul_succ] at this
  exact this
/-- Pieces in order, cut at B; who lies before a cut came before. -/
def Runs (cmp : α → α → Int) (n : Nat) (B : Nat → Prop) (c : List (α × Nat)) : Prop := (∀ m, B m → Cross c 0 m n) ∧ ∀ i j x y, i < j → j < n → (∀ m, i < m → m ≤ j → ¬ B m) → c[i]? = some x → c[j]? = some y → tlt cmp x y
theorem Runs.congr {n : Nat} {B B' : Nat → Prop} {c : List (α × Nat)} (h : Runs cmp n B c) (hb : ∀ m, 0 < m → m < n → (B m ↔ B' m)) : Runs cmp n B' c := by
  refine ⟨fun m hm i j x y h1 h2 h3 h4 hx hy => ?_, fun i j x y h1 h2 h3 hx hy => h.2 i j x y h1 h2 (fun m q1 q2 q3 => h3 m q1 q2 ((hb m (by omega) (by omega)).1 q3)) hx hy⟩
  exact h.1 m ((hb m (by omega) (by omega)).2 hm) i j x y h1 h2 h3 h4 hx hy
theorem Runs.sorted {n : Nat} {B : Nat → Prop} {c : List (α × Nat)} (h : Runs cmp n B c) {a b : Nat} (hb : b ≤ n) (hn : ∀ m, a < m → m < b → ¬ B m) : SortedOn cmp c a b :=
  fun i j x y h1 h2 h3 hx hy => h.2 i j x y h2 (by omega) (fun m q1 q2 => hn m (by omega) (by omega)) hx hy
theorem Runs.cross {n : Nat} {B : Nat → Prop} {c : List (α × Nat)} (h : Runs cmp n B c) {a m b : Nat} (hm : B m) (hb : b ≤ n) : Cross c a m b := fun i j x y _ h2 h3 h4 hx hy => h.1 m hm i j x y (Nat.zero_le _) h2 h3 (by omega) hx hy
theorem seg_from {l : List (α × Nat)} {a b : Nat} (hab : a ≤ b) (hb : b ≤ l.length) {p : Nat} {x : α × Nat} (h : (sortSeg cmp l a b)[p]? = some x) : ∃ q, l[q]? = some x ∧ (p < a → q = p) ∧ (b ≤ p → q = p) ∧ (a ≤ p → p < b → a ≤ q ∧ q < b) := by
  by_cases h1 : p < a
  · exact ⟨p, by rw [← sortSeg_out cmp l hab hb p (.inl h1)]; exact h, fun _ => rfl, fun _ => rfl, fun _ _ => by omega⟩
  · by_cases h2 : b ≤ p
    · exact ⟨p, by rw [← sortSeg_out cmp l hab hb p (.inr h2)]; exact h, fun _ => rfl, fun _ => rfl, fun _ _ => by omega⟩
    · obtain ⟨q, q1, q2, q3⟩ := sortSeg_mem hab hb (by omega) (by omega) h
      exact ⟨q, q3, fun _ => by omega, fun _ => by omega, fun _ _ => ⟨q1, q2⟩⟩
theorem Runs.step (hc : Pre cmp) {n : Nat} {B : Nat → Prop} {c : List (α × Nat)} (h : Runs cmp n B c) (ht : TagsOk c) {a b : Nat} (hab : a ≤ b) (hbn : b ≤ n) (hn : n ≤ c.length) (hBa : B a) (hBb : B b ∨ b = n) : Runs cmp n (fun m => B m ∧ ¬ (a < m ∧ m < b)) (sortSeg cmp c a b) := by
  refine ⟨fun m hm i j x y h1 h2 h3 h4 hx hy => ?_, fun i j x y h1 h2 h3 hx hy => ?_⟩
  · obtain ⟨p, p1, p2, p3, p4⟩ := seg_from hab (by omega) hx
    obtain ⟨q, q1, q2, q3, q4⟩ := seg_from hab (by omega) hy
    refine h.1 m hm.1 p q x y (Nat.zero_le _) ?_ ?_ ?_ p1 q1 <;> have := hm.2 <;> by_cases c1 : i < a <;> by_cases c2 : b ≤ i <;> by_cases c3 : j < a <;> by_cases c4 : b ≤ j <;> omega
  · by_cases c1 : a ≤ i ∧ j < b
    · exact sortSeg_sorted hc hab (by omega) ht i j x y c1.1 h1 c1.2 hx hy
    · by_cases c2 : i < a ∧ a ≤ j
      · exact absurd ⟨hBa, by omega⟩ (h3 a c2.1 c2.2)
      · by_cases c3 : i < b ∧ b ≤ j
        · rcases hBb with hBb | hBb
          · exact absurd ⟨hBb, by omega⟩ (h3 b c3.1 c3.2)
          · omega
        · rw [sortSeg_out cmp c hab (by omega) i (by omega)] at hx
          rw [sortSeg_out cmp c hab (by omega) j (by omega)] at hy
          exact h.2 i j x y h1 h2 (fun m q1 q2 q3 => h3 m q1 q2 ⟨q3, by omega⟩) hx hy
def Bk (s a s2 m : Nat) : Prop := (s ∣ m ∧ m ≤ a) ∨ (s2 ∣ m ∧ a ≤ m)
theorem Bk.start {l : List (α × Nat)} {n s : Nat} (h : Incr l 0 n) : Runs cmp n (Bk s 0 1) l :=
  ⟨fun m hm i j x y h1 h2 h3 h4 hx hy => h i j x y h1 (by omega) h4 hx hy, fun i j x y h1 h2 h3 => absurd (.inr ⟨Nat.one_dvd _, Nat.zero_le _⟩) (h3 j h1 (Nat.le_refl _))⟩
theorem Bk.incr {c : List (α × Nat)} {n s a b : Nat} (h : Runs cmp n (Bk s a 1) c) (hb : b ≤ n) : Incr c a b := fun i j x y h1 h2 h3 hx hy => h.1 j (.inr ⟨Nat.one_dvd _, by omega⟩) i j x y (Nat.zero_le _) h2 (Nat.le_refl _) (by omega) hx hy
theorem Bk.at {s a s2 : Nat} (h : s ∣ a) : Bk s a s2 a := .inl ⟨h, Nat.le_refl _⟩
theorem Bk.next {s a s2 : Nat} (h : s2 ∣ s) (ha : s ∣ a) (hs : 0 < s) (m : Nat) : (Bk s a s2 m ∧ ¬ (a < m ∧ m < a + s)) ↔ Bk s (a + s) s2 m := by
  constructor
  · rintro ⟨⟨h1, h2⟩ | ⟨h1, h2⟩, h3⟩
    · exact .inl ⟨h1, by omega⟩
    · by_cases e : m = a
      · subst e; exact .inl ⟨ha, by omega⟩
      · exact .inr ⟨h1, by omega⟩
  · rintro (⟨h1, h2⟩ | ⟨h1, h2⟩)
    · by_cases e : m ≤ a
      · exact ⟨.inl ⟨h1, e⟩, by omega⟩
      · have := dvd_gap ha h1 (by omega)
        exact ⟨.inr ⟨Nat.dvd_trans h h1, by omega⟩, by omega⟩
    · exact ⟨.inr ⟨h1, by omega⟩, by omega⟩
theorem Bk.last {s a s2 n : Nat} (ha : s ∣ a) (hn : n ≤ a + s) (m : Nat) (hm : m < n) : (Bk s a s2 m ∧ ¬ (a < m ∧ m < n)) ↔ s ∣ m := by
  constructor
  · rintro ⟨⟨h1, h2⟩ | ⟨h1, h2⟩, h3⟩
    · exact h1
    · have : m = a := by omega
      subst this; exact ha
  · intro h1
    have h2 : m ≤ a := Nat.le_of_not_lt fun hh => by have := dvd_gap ha h1 hh; omega
    exact ⟨.inl ⟨h1, h2⟩, by omega⟩
theorem Bk.skip {s a s2 n : Nat} (ha : s ∣ a) (ha2 : s2 ∣ a) (h2 : s2 ≤ s) (hn : n ≤ a + s2) (m : Nat) (hm : m < n) : Bk s a s2 m ↔ s ∣ m := by
  constructor
  · rintro (⟨h1, h2⟩ | ⟨h1, h2⟩)
    · exact h1
    · have h3 : m ≤ a := Nat.le_of_not_lt fun hh => by have := dvd_gap ha2 h1 hh; omega
      have : m = a := by omega
      subst this; exact ha
  · intro h1
    exact .inl ⟨h1, Nat.le_of_not_lt fun hh => by have := dvd_gap ha h1 hh; omega⟩
theorem Bk.open {s : Nat} (m : Nat) : s ∣ m ↔ Bk (2 * s) 0 s m :=
  ⟨fun h => .inr ⟨h, Nat.zero_le _⟩, fun h => h.elim (fun h => Nat.dvd_trans ⟨2, Nat.mul_comm _ _⟩ h.1) (fun h => h.1)⟩
theorem Bk.run1 {c : List (α × Nat)} {n s a : Nat} (h : Runs cmp n (Bk (2 * s) a s) c) (ha : s ∣ a) (hb : a + s ≤ n) : SortedOn cmp c a (a + s) := h.sorted hb fun m h1 h2 h3 => by
  rcases h3 with ⟨_, h3⟩ | ⟨h3, _⟩
  · omega
  · have := dvd_gap ha h3 h1; omega
theorem Bk.run2 {c : List (α × Nat)} {n s a b : Nat} (h : Runs cmp n (Bk (2 * s) a s) c) (ha : s ∣ a) (hb : b ≤ n) (hb2 : b ≤ a + 2 * s) : SortedOn cmp c (a + s) b := h.sorted hb fun m h1 h2 h3 => by
  rcases h3 with ⟨_, h3⟩ | ⟨h3, _⟩
  · omega
  · have := dvd_gap (Nat.dvd_add ha (Nat.dvd_refl s)) h3 h1; omega
theorem Bk.mid {s a : Nat} (ha : s ∣ a) : Bk (2 * s) a s (a + s) := .inr ⟨Nat.dvd_add ha (Nat.dvd_refl s), by omega⟩
theorem runs_end (hc : Pre cmp) {l c : List (α × Nat)} {s : Nat} (ht : TagsOk l) (hp : c.Perm l) (h : Runs cmp l.length (fun m => s ∣ m) c) (hs : l.length ≤ s) : c = sortSeg cmp l 0 l.length :=
  sortSeg_eq hc (Nat.zero_le _) ht hp (fun p h1 => by rw [List.getElem?_eq_none (by rw [hp.length_eq]; omega), List.getElem?_eq_none (by omega)])
    (h.sorted (Nat.le_refl _) fun m h1 h2 h3 => by have := Nat.le_of_dvd h1 h3; omega)
end


set_option maxRecDepth 100000 in
set_option maxHeartbeats 1000000 in
theorem c_stable (cmp : Tsk → Tsk → Int) (hc : Pre cmp) (f : Nat) (caps : List D) (hf : ∀ x y : Tsk, ACall Tryd.prog f (.agg x.ds :: .agg y.ds :: caps) (.v (.int .i64 (cmp x y)))) (l : List (Tsk × Nat)) (hl : l.length ≤ 1152921504606846976) (ht : TagsOk l) (hin : Incr l 0 l.length) : RCall Tryd.prog 85 46 3 (l.map tds) ((sortSeg cmp l 0 l.length).map tds) [.v (.int .i64 l.length), .clo (.func f) caps] (.tup []) := by
  refine RCall.of1 (chg := fun i => Nat.ble 1000 i) (xcall_of (n := 63) (ds' := []) Tryd.func85 rfl (by kernel_rfl) rfl [] rfl rfl ?_) rfl
  intro B w0 F0 fr ρ0
  refine AWP.seq ?_
  refine AWP.region ?_
  refine AOps.step rfl rfl rfl (AOp.assignD rfl rfl) ?_
  refine AOps.nil ?_
  refine AWP.seq ?_
  refine AWP.region ?_
  refine AOps.step rfl rfl rfl (AOp.moveD rfl rfl) ?_
  refine AOps.step rfl rfl rfl (AOp.assignD rfl rfl) ?_
  refine AOps.step rfl rfl rfl (AOp.assignD rfl rfl) ?_
  refine AOps.nil ?_
  refine AWP.seq ?_
  refine AWP.block ?_
  refine AWP.loop (G := List (Tsk × Nat) × Nat) (fun g => Env.of [(6, .d (.v (.int .i64 20))), (7, .d (.v (.int .i64 (g.2 : Int)))), (8, .d (.v (.int .i64 ((g.2 + 20 : Nat) : Int)))), (0, .own 1), (1, .d (.v (.int .i64 (l.length : Int)))), (2, .d (.clo (.func f) caps))]) (fun g => [(1, .row 46 3 (g.1.map tds))]) (fun g => 20 ∣ g.2 ∧ g.2 ≤ l.length ∧ Runs cmp l.length (Bk 20 g.2 1) g.1 ∧ g.1.Perm l) (fun g => l.length - g.2) (l, 0) ⟨Nat.dvd_zero _, Nat.zero_le _, Bk.start hin, List.Perm.refl _⟩ (Sub.less ⟨SLe.refl _, (SLe.i64 rfl), (SLe.i64 rfl), SLe.refl _, SLe.refl _, SLe.refl _, trivial⟩ (row_same rfl)) ?_
  rintro ⟨c, a⟩ ⟨hg1, hg2, hg3, hg4⟩
  dsimp only at hg1 hg2 hg3 hg4 ⊢
  have hcl := hg4.length_eq
  have htc : TagsOk c := ht.perm hg4
  refine AWP.seq ?_
  refine AWP.seq ?_
  refine AWP.region ?_
  refine AOps.step rfl rfl rfl (AOp.moveD rfl rfl) ?_
  refine AOps.step rfl rfl rfl (AOp.moveD rfl rfl) ?_
  refine AOps.step rfl rfl rfl (AOp.leq rfl rfl rfl) ?_
  refine AOps.nil ?_
  refine AWP.cond rfl (fun h1 => ?_) (fun h1 => ?_)
  · replace h1 := of_decide_eq_true h1
    refine AWP.skip ?_
    refine AWP.block ?_
    refine AWP.seq ?_
    refine AWP.region ?_
    refine AOps.step rfl rfl rfl (AOp.moveO rfl rfl) ?_
    refine AOps.step rfl rfl rfl (AOp.moveD rfl rfl) ?_
    refine AOps.step rfl rfl rfl (AOp.moveD rfl rfl) ?_
    refine AOps.step rfl rfl rfl (AOp.moveD rfl rfl) ?_
    -- turns 1
    refine AOps.callX rfl rfl rfl (.cons (SLe.refl _) (.cons (SLe.refl _) (.cons (SLe.i64 (by omega)) (.cons (SLe.refl _) .nil)))) ((c_insSort c a (a + 20) cmp hc f caps hf htc (Bk.incr hg3 (by omega)) (by omega) (by omega) (by omega)) 1) ⟨(.head _), trivial⟩ rfl rfl (fun _ h => nomatch h) ?_
    refine AOps.nil ?_
    refine AWP.seq ?_
    refine AWP.region ?_
    refine AOps.step rfl rfl rfl (AOp.moveD rfl rfl) ?_
    refine AOps.step rfl rfl rfl (AOp.assignD rfl rfl) ?_
    refine AOps.nil ?_
    refine AWP.region ?_
    refine AOps.step rfl rfl rfl (AOp.moveD rfl rfl) ?_
    refine AOps.step rfl rfl rfl (AOp.moveD rfl rfl) ?_
    refine AOps.step rfl rfl rfl (AOp.add64 rfl rfl rfl (by omega) (by omega)) ?_
    refine AOps.step rfl rfl rfl (AOp.assignD rfl rfl) ?_
    refine AOps.nil ?_
    refine ⟨(sortSeg cmp c a (a + 20), a + 20), ⟨Nat.dvd_add hg1 (Nat.dvd_refl _), by dsimp only; omega, (hg3.step hc htc (a := a) (b := a + 20) (by omega) (by omega) (by omega) (Bk.at hg1) (.inl (.inr ⟨Nat.one_dvd _, by omega⟩))).congr (fun m _ _ => Bk.next (s := 20) (s2 := 1) (Nat.one_dvd _) hg1 (by decide) m), (sortSeg_perm cmp c (Nat.le_add_right _ _)).trans hg4⟩, (by dsimp only; omega), Sub.less ⟨SLe.refl _, (SLe.i64 (by first | rfl | omega | (dsimp only; omega))), (SLe.i64 (by first | rfl | omega | (dsimp only; omega))), SLe.refl _, SLe.refl _, SLe.refl _, trivial⟩ (row_same rfl)⟩
  · replace h1 := of_decide_eq_false h1
    have hr1 := hg3.step hc htc (a := a) (b := l.length) (by omega) (Nat.le_refl _) (by omega) (Bk.at hg1) (.inr rfl)
    have hr2 : Runs cmp l.length (fun m => 20 ∣ m) (sortSeg cmp c a l.length) := hr1.congr fun m _ q2 => Bk.last hg1 (by omega) m q2
    have hp2 : (sortSeg cmp c a l.length).Perm l := (sortSeg_perm cmp c hg2).trans hg4
    refine AWP.exit ?_
    refine AWP.seq ?_
    refine AWP.region ?_
    refine AOps.step rfl rfl rfl (AOp.moveO rfl rfl) ?_
    refine AOps.step rfl rfl rfl (AOp.moveD rfl rfl) ?_
    refine AOps.step rfl rfl rfl (AOp.moveD rfl rfl) ?_
    refine AOps.step rfl rfl rfl (AOp.moveD rfl rfl) ?_
    -- turns 1
    refine AOps.callX rfl rfl rfl (.cons (SLe.refl _) (.cons (SLe.refl _) (.cons (SLe.refl _) (.cons (SLe.refl _) .nil)))) ((c_insSort c a l.length cmp hc f caps hf htc (Bk.incr hg3 (Nat.le_refl _)) hg2 (by omega) (by omega)) 1) ⟨(.head _), trivial⟩ rfl rfl (fun _ h => nomatch h) ?_
    refine AOps.nil ?_
    refine AWP.block ?_
    refine AWP.loop (G := List (Tsk × Nat) × Nat) (fun g => Env.of [(6, .d (.v (.int .i64 (g.2 : Int)))), (0, .own 1), (1, .d (.v (.int .i64 (l.length : Int)))), (2, .d (.clo (.func f) caps))]) (fun g => [(1, .row 46 3 (g.1.map tds))]) (fun g => 20 ≤ g.2 ∧ g.2 ≤ 2305843009213693952 ∧ g.1.Perm l ∧ Runs cmp l.length (fun m => g.2 ∣ m) g.1) (fun g => l.length - g.2) (sortSeg cmp c a l.length, 20) ⟨Nat.le_refl _, by dsimp only; omega, hp2, hr2⟩ (Sub.less ⟨(SLe.i64 rfl), SLe.refl _, SLe.refl _, SLe.refl _, trivial⟩ (row_same rfl)) ?_
    rintro ⟨c0, s⟩ ⟨hs1, hs2, hq2, hq3⟩
    dsimp only at hs1 hs2 hq2 hq3 ⊢
    have hcl0 := hq2.length_eq
    refine AWP.seq ?_
    refine AWP.seq ?_
    refine AWP.region ?_
    refine AOps.step rfl rfl rfl (AOp.moveD rfl rfl) ?_
    refine AOps.step rfl rfl rfl (AOp.moveD rfl rfl) ?_
    refine AOps.step rfl rfl rfl (AOp.lss rfl rfl rfl) ?_
    refine AOps.nil ?_
    refine AWP.cond rfl (fun h2 => ?_) (fun h2 => ?_)
    · replace h2 := of_decide_eq_true h2
      have hsl : s < l.length := by omega
      refine AWP.skip ?_
      refine AWP.block ?_
      refine AWP.seq ?_
      refine AWP.region ?_
      refine AOps.step rfl rfl rfl (AOp.moveD rfl rfl) ?_
      refine AOps.step rfl rfl rfl (AOp.mul64 rfl rfl rfl (by omega) (by omega)) ?_
      refine AOps.step rfl rfl rfl (AOp.assignD rfl rfl) ?_
      refine AOps.step rfl rfl rfl (AOp.assignD rfl rfl) ?_
      refine AOps.nil ?_
      refine AWP.seq ?_
      refine AWP.block ?_
      refine AWP.loop (G := List (Tsk × Nat) × Nat) (fun g => Env.of [(6, .d (.v (.int .i64 (s : Int)))), (7, .d (.v (.int .i64 (g.2 : Int)))), (8, .d (.v (.int .i64 ((g.2 + 2 * s : Nat) : Int)))), (0, .own 1), (1, .d (.v (.int .i64 (l.length : Int)))), (2, .d (.clo (.func f) caps))]) (fun g => [(1, .row 46 3 (g.1.map tds))]) (fun g => 2 * s ∣ g.2 ∧ g.2 ≤ l.length ∧ Runs cmp l.length (Bk (2 * s) g.2 s) g.1 ∧ g.1.Perm l) (fun g => l.length - g.2) (c0, 0) ⟨Nat.dvd_zero _, Nat.zero_le _, hq3.congr (fun m _ _ => Bk.open m), hq2⟩ (Sub.less ⟨SLe.refl _, (SLe.i64 rfl), (SLe.i64 (by first | rfl | omega | (dsimp only; omega))), SLe.refl _, SLe.refl _, SLe.refl _, trivial⟩ (row_same rfl)) ?_
      rintro ⟨c, a⟩ ⟨hg1, hg2, hg3, hg4⟩
      dsimp only at hg1 hg2 hg3 hg4 ⊢
      have hcl := hg4.length_eq
      have htc : TagsOk c := ht.perm hg4
      refine AWP.seq ?_
      refine AWP.seq ?_
      refine AWP.region ?_
      refine AOps.step rfl rfl rfl (AOp.moveD rfl rfl) ?_
      refine AOps.step rfl rfl rfl (AOp.moveD rfl rfl) ?_
      refine AOps.step rfl rfl rfl (AOp.leq rfl rfl rfl) ?_
      refine AOps.nil ?_
      refine AWP.cond rfl (fun h3 => ?_) (fun h3 => ?_)
      · replace h3 := of_decide_eq_true h3
        have hb2 : a + 2 * s ≤ l.length := by omega
        have sa : s ∣ a := Nat.dvd_trans ⟨2, Nat.mul_comm _ _⟩ hg1
        refine AWP.skip ?_
        refine AWP.block ?_
        refine AWP.seq ?_
        refine AWP.region ?_
        refine AOps.step rfl rfl rfl (AOp.moveO rfl rfl) ?_
        refine AOps.step rfl rfl rfl (AOp.moveD rfl rfl) ?_
        refine AOps.step rfl rfl rfl (AOp.moveD rfl rfl) ?_
        refine AOps.step rfl rfl rfl (AOp.moveD rfl rfl) ?_
        refine AOps.step rfl rfl rfl (AOp.add64 rfl rfl rfl (by omega) (by omega)) ?_
        refine AOps.step rfl rfl rfl (AOp.moveD rfl rfl) ?_
        refine AOps.step rfl rfl rfl (AOp.moveD rfl rfl) ?_
        -- turns 1
        refine AOps.callX rfl rfl rfl (.cons (SLe.refl _) (.cons (SLe.refl _) (.cons (SLe.i64 (by omega)) (.cons (SLe.i64 (by omega)) (.cons (SLe.refl _) .nil))))) ((c_symMerge cmp hc f caps hf _ c a (a + s) (a + 2 * s) (Nat.le_refl _) (by omega) (by omega) (by omega) (by omega) htc (Bk.run1 hg3 sa (by omega)) (Bk.run2 hg3 sa hb2 (Nat.le_refl _)) (hg3.cross (Bk.mid sa) hb2)) 1) ⟨(.head _), trivial⟩ rfl rfl (fun _ h => nomatch h) ?_
        refine AOps.nil ?_
        refine AWP.seq ?_
        refine AWP.region ?_
        refine AOps.step rfl rfl rfl (AOp.moveD rfl rfl) ?_
        refine AOps.step rfl rfl rfl (AOp.assignD rfl rfl) ?_
        refine AOps.nil ?_
        refine AWP.region ?_
        refine AOps.step rfl rfl rfl (AOp.moveD rfl rfl) ?_
        refine AOps.step rfl rfl rfl (AOp.moveD rfl rfl) ?_
        refine AOps.step rfl rfl rfl (AOp.mul64 rfl rfl rfl (by omega) (by omega)) ?_
        refine AOps.step rfl rfl rfl (AOp.add64 rfl rfl rfl (by omega) (by omega)) ?_
        refine AOps.step rfl rfl rfl (AOp.assignD rfl rfl) ?_
        refine AOps.nil ?_
        refine ⟨(sortSeg cmp c a (a + 2 * s), a + 2 * s), ⟨Nat.dvd_add hg1 (Nat.dvd_refl _), by dsimp only; omega, (hg3.step hc htc (a := a) (b := a + 2 * s) (by omega) (by omega) (by omega) (Bk.at hg1) (.inl (.inr ⟨Nat.dvd_add sa ⟨2, Nat.mul_comm _ _⟩, by omega⟩))).congr (fun m _ _ => Bk.next (s := 2 * s) (s2 := s) ⟨2, Nat.mul_comm _ _⟩ hg1 (by omega) m), (sortSeg_perm cmp c (Nat.le_add_right _ _)).trans hg4⟩, (by dsimp only; omega), Sub.less ⟨SLe.refl _, (SLe.i64 (by first | rfl | omega | (dsimp only; omega))), (SLe.i64 (by first | rfl | omega | (dsimp only; omega))), SLe.refl _, SLe.refl _, SLe.refl _, trivial⟩ (row_same rfl)⟩
      · replace h3 := of_decide_eq_false h3
        have sa : s ∣ a := Nat.dvd_trans ⟨2, Nat.mul_comm _ _⟩ hg1
        refine AWP.exit ?_
        refine AWP.seq ?_
        refine AWP.seq ?_
        refine AWP.region ?_
        refine AOps.step rfl rfl rfl (AOp.moveD rfl rfl) ?_
        refine AOps.step rfl rfl rfl (AOp.moveD rfl rfl) ?_
        refine AOps.step rfl rfl rfl (AOp.add64 rfl rfl rfl (by omega) (by omega)) ?_
        refine AOps.step rfl rfl rfl (AOp.assignD rfl rfl) ?_
        refine AOps.nil ?_
        refine AWP.seq ?_
        refine AWP.region ?_
        refine AOps.step rfl rfl rfl (AOp.moveD rfl rfl) ?_
        refine AOps.step rfl rfl rfl (AOp.moveD rfl rfl) ?_
        refine AOps.step rfl rfl rfl (AOp.lss rfl rfl rfl) ?_
        refine AOps.nil ?_
        refine AWP.cond rfl (fun h4 => ?_) (fun h4 => ?_)
        · replace h4 := of_decide_eq_true h4
          have hr1 := hg3.step hc htc (a := a) (b := l.length) (by omega) (Nat.le_refl _) (by omega) (Bk.at hg1) (.inr rfl)
          have hr2 : Runs cmp l.length (fun m => 2 * s ∣ m) (sortSeg cmp c a l.length) := hr1.congr fun m _ q2 => Bk.last hg1 (by omega) m q2
          have hp2 : (sortSeg cmp c a l.length).Perm l := (sortSeg_perm cmp c hg2).trans hg4
          refine AWP.region ?_
          refine AOps.step rfl rfl rfl (AOp.moveO rfl rfl) ?_
          refine AOps.step rfl rfl rfl (AOp.moveD rfl rfl) ?_
          refine AOps.step rfl rfl rfl (AOp.moveD rfl rfl) ?_
          refine AOps.step rfl rfl rfl (AOp.moveD rfl rfl) ?_
          refine AOps.step rfl rfl rfl (AOp.moveD rfl rfl) ?_
          -- turns 1
          refine AOps.callX rfl rfl rfl (.cons (SLe.refl _) (.cons (SLe.refl _) (.cons (SLe.i64 (by omega)) (.cons (SLe.refl _) (.cons (SLe.refl _) .nil))))) ((c_symMerge cmp hc f caps hf _ c a (a + s) l.length (Nat.le_refl _) (by omega) (by omega) (by omega) (by omega) htc (Bk.run1 hg3 sa (by omega)) (Bk.run2 hg3 sa (Nat.le_refl _) (by omega)) (hg3.cross (Bk.mid sa) (Nat.le_refl _))) 1) ⟨(.head _), trivial⟩ rfl rfl (fun _ h => nomatch h) ?_
          refine AOps.nil ?_
          refine AWP.region ?_
          refine AOps.step rfl rfl rfl (AOp.moveD rfl rfl) ?_
          refine AOps.step rfl rfl rfl (AOp.mul64 rfl rfl rfl (by omega) (by omega)) ?_
          refine AOps.step rfl rfl rfl (AOp.assignD rfl rfl) ?_
          refine AOps.nil ?_
          refine ⟨(sortSeg cmp c a l.length, 2 * s), ⟨by dsimp only; omega, by dsimp only; omega, hp2, hr2⟩, (by dsimp only; omega), Sub.less ⟨(SLe.i64 (by first | rfl | omega | (dsimp only; omega))), SLe.refl _, SLe.refl _, SLe.refl _, trivial⟩ (row_same rfl)⟩
        · replace h4 := of_decide_eq_false h4
          have hr2 : Runs cmp l.length (fun m => 2 * s ∣ m) c := hg3.congr fun m _ q2 => Bk.skip hg1 sa (by omega) (by omega) m q2
          refine AWP.skip ?_
          refine AWP.region ?_
          refine AOps.step rfl rfl rfl (AOp.moveD rfl rfl) ?_
          refine AOps.step rfl rfl rfl (AOp.mul64 rfl rfl rfl (by omega) (by omega)) ?_
          refine AOps.step rfl rfl rfl (AOp.assignD rfl rfl) ?_
          refine AOps.nil ?_
          refine ⟨(c, 2 * s), ⟨by dsimp only; omega, by dsimp only; omega, hg4, hr2⟩, (by dsimp only; omega), Sub.less ⟨(SLe.i64 (by first | rfl | omega | (dsimp only; omega))), SLe.refl _, SLe.refl _, SLe.refl _, trivial⟩ (row_same rfl)⟩
    · replace h2 := of_decide_eq_false h2
      have HF := runs_end hc ht hq2 hq3 (by omega)
      refine AWP.exit ?_
      refine ⟨trivial, ⟨mem_row_eq (.head _) ?_, trivial⟩⟩
      all_goals (rw [HF])

set_option maxRecDepth 100000 in
set_option maxHeartbeats 1000000 in
theorem c_sortStable (cmp : Tsk → Tsk → Int) (hc : Pre cmp) (f : Nat) (caps : List D) (hf : ∀ x y : Tsk, ACall Tryd.prog f (.agg x.ds :: .agg y.ds :: caps) (.v (.int .i64 (cmp x y)))) (l : List (Tsk × Nat)) (hl : l.length ≤ 1152921504606846976) (ht : TagsOk l) (hin : Incr l 0 l.length) : RCall Tryd.prog 55 46 3 (l.map tds) ((sortSeg cmp l 0 l.length).map tds) [.clo (.func f) caps] (.tup []) := by
  refine RCall.of1 (chg := fun i => Nat.ble 1000 i) (xcall_of (n := 9) (ds' := []) Tryd.func55 rfl (by kernel_rfl) rfl [] rfl rfl ?_) rfl
  intro B w0 F0 fr ρ0
  refine AWP.region ?_
  refine AOps.step rfl rfl rfl (AOp.moveO rfl rfl) ?_
  refine AOps.step rfl rfl rfl (AOp.moveO rfl rfl) ?_
  refine AOps.step rfl rfl rfl (AOp.lenOwn rfl et_41.ht rfl (.head _)) ?_
  refine AOps.step rfl rfl rfl (AOp.moveD rfl rfl) ?_
  -- turns 1
  refine AOps.callX rfl rfl rfl (.cons (SLe.refl _) (.cons (SLe.i64 (by rw [List.length_map])) (.cons (SLe.refl _) .nil))) ((c_stable cmp hc f caps hf l hl ht hin) 1) ⟨(.head _), trivial⟩ rfl rfl (fun _ h => nomatch h) ?_
  refine AOps.nil ?_
  refine ⟨trivial, ⟨mem_row_eq (.head _) ?_, trivial⟩⟩
  all_goals (rfl)

end Go.Proofs.YtieccphckobhjaaDoor


namespace Go.Proofs.YtieccphckobhjaaDoor
open Go.RowKit
/-- A plain field's kind. -/
inductive Kd where
  | int (k : IntKind)
  | str
  | bool
def Kd.fits : Kd → Value → Bool
  | .int k, .int k' _ => decide (k' = k)
  | .str, .string _ => true
  | .bool, .bool _ => true
  | _, _ => false
def Kd.ofType (P : Program) (t : TypeId) : Kd → Bool
  | .int k => match P.underlying t with | some (.int k') => decide (k' = k) | _ => false
  | .str => match P.underlying t with | some .string => true | _ => false
  | .bool => match P.underlying t with | some .bool => true | _ => false
def kindsB : List Kd → List Value → Bool
  | [], [] => true
  | k :: ks, v :: vs => k.fits v && kindsB ks vs
  | _, _ => false
def fieldsB (P : Program) : Nat → List Kd → List Field → Bool
  | _, [], [] => true
  | i, k :: ks, f :: fs => (f.name != "_") && (f.offset == i) && k.ofType P f.type && fieldsB P (i + 1) ks fs
  | _, _, _ => false
def sameV : Value → Value → Bool
  | .int _ a, .int _ b => decide (a = b)
  | .string a, .string b => decide (a = b)
  | .bool a, .bool b => decide (a = b)
  | _, _ => false
def sameL : List Value → List Value → Bool
  | [], [] => true
  | a :: l, b :: r => sameV a b && sameL l r
  | _, _ => false
theorem run_eqCell {P : Program} (w : World) {k : Kd} {t : TypeId} (hk : k.ofType P t = true) {a b : Value} (ha : k.fits a = true) (hb : k.fits b = true) (d : Nat) : (Op.equalIn (d + 1) t a b).run P w = .ok (sameV a b) w := by
  cases k with
  | int q =>
    simp only [Kd.ofType] at hk
    split at hk
    · rename_i q' hu
      have hq := of_decide_eq_true hk
      subst hq
      cases a <;> simp only [Kd.fits, Bool.false_eq_true] at ha
      cases b <;> simp only [Kd.fits, Bool.false_eq_true] at hb
      have h1 := of_decide_eq_true ha
      have h2 := of_decide_eq_true hb
      subst h1
      rename_i x _ y
      subst h2
      rw [run_equalIn_int w d t _ _ x y hu]
      rw [show (x == y) = decide (x = y) by by_cases hxy : x = y <;> simp [hxy]]; rfl
    · cases hk
  | str =>
    simp only [Kd.ofType] at hk
    split at hk
    · rename_i hu
      cases a <;> simp only [Kd.fits, Bool.false_eq_true] at ha
      cases b <;> simp only [Kd.fits, Bool.false_eq_true] at hb
      rename_i x y
      rw [run_equalIn_string w d t x y hu, toList_eq]
      rfl
    · cases hk
  | bool =>
    simp only [Kd.ofType] at hk
    split at hk
    · rename_i hu
      cases a <;> simp only [Kd.fits, Bool.false_eq_true] at ha
      cases b <;> simp only [Kd.fits, Bool.false_eq_true] at hb
      rename_i x y
      rw [run_equalIn_bool w d t x y hu]
      cases x <;> cases y <;> rfl
    · cases hk
theorem ofType_plain {P : Program} {t : TypeId} {k : Kd} (h : k.ofType P t = true) : P.plainKey t = true := by
  unfold Program.plainKey
  cases k <;> simp only [Kd.ofType] at h <;> split at h <;> first | cases h; done | simp_all
theorem run_eqFields_same {P : Program} (w : World) (d : Nat) : ∀ (ks : List Kd) (fs : List Field) (pre pre' us vs : List Value), pre.length = pre'.length → fieldsB P pre.length ks fs = true → kindsB ks us = true → kindsB ks vs = true →
    (Op.eqFields (d + 1) (pre ++ us).toArray (pre' ++ vs).toArray fs).run P w = .ok (sameL us vs) w
  | [], [], _, _, [], [], _, _, _, _ => by simp [Op.eqFields, sameL]
  | k :: ks, f :: fs, pre, pre', u :: us, v :: vs, hl, hf, hu, hv => by
    simp only [fieldsB, kindsB, Bool.and_eq_true, bne_iff_ne, beq_iff_eq] at hf hu hv
    obtain ⟨⟨⟨hn, ho⟩, hk⟩, hf⟩ := hf
    have ih := run_eqFields_same w d ks fs (pre ++ [u]) (pre' ++ [v]) us vs (by simp [hl]) (by simpa using hf) hu.2 hv.2
    have p1 : (part f.type (pre ++ u :: us).toArray f.offset).run P w = .ok u w := run_part_plain w (ofType_plain hk) (by rw [ho]; simp)
    have p2 : (part f.type (pre' ++ v :: vs).toArray f.offset).run P w = .ok v w := run_part_plain w (ofType_plain hk) (by rw [ho, hl]; simp)
    rw [List.append_assoc, List.append_assoc] at ih
    simp only [List.cons_append, List.nil_append] at ih
    simp only [Op.eqFields, hn, ne_eq, not_false_eq_true, if_true, Sem.run_bind, p1, p2, run_eqCell w hk hu.1 hv.1, Result.andThen_ok, sameL]
    cases sameV u v
    · simp
    · simpa using ih
  | [], _ :: _, _, _, _, _, _, h, _, _ => by simp [fieldsB] at h
  | _ :: _, [], _, _, _, _, _, h, _, _ => by simp [fieldsB] at h
  | [], [], _, _, _ :: _, _, _, _, h, _ => by simp [kindsB] at h
  | [], [], _, _, [], _ :: _, _, _, _, h => by simp [kindsB] at h
  | _ :: _, _ :: _, _, _, [], _, _, _, h, _ => by simp [kindsB] at h
  | _ :: _, _ :: _, _, _, _ :: _, [], _, _, _, h => by simp [kindsB] at h
def eqStructB (P : Program) (t : TypeId) (ks : List Kd) : Bool :=
  (match P.underlying t with | some (.struct fs) => fieldsB P 0 ks fs.toList | _ => false) && !P.stoodInHeld t && !P.eqGuardType P.depth t
/-- Structs of plain fields compare field by field. -/
structure EqT (P : Program) (t : TypeId) (ks : List Kd) : Prop where
  guard : ∀ (op : BinOp) (x y : Operand) (us vs : Array Value) (w : World), (eqGuard op t x y (.agg us) (.agg vs)).run P w = .ok () w
  run : ∀ (us vs : List Value) (w : World), kindsB ks us = true → kindsB ks vs = true → (Op.equal t (.agg us.toArray) (.agg vs.toArray)).run P w = .ok (sameL us vs) w
theorem EqT.of {P : Program} {t : TypeId} {ks : List Kd} (h : eqStructB P t ks = true) : EqT P t ks := by
  unfold eqStructB at h
  simp only [Bool.and_eq_true, Bool.not_eq_true'] at h
  obtain ⟨⟨h1, h2⟩, h3⟩ := h
  split at h1
  · rename_i fs hu
    have hfs : P.fieldsOf t = fs := by simp [Program.fieldsOf, hu]
    refine ⟨fun op x y us vs w => ?_, fun us vs w hk1 hk2 => ?_⟩
    · unfold eqGuard
      cases op <;> first | rfl | (simp [run_program, h3])
    · have h4 := run_eqFields_same w 9998 ks fs.toList [] [] us vs rfl (by simpa using h1) hk1 hk2
      unfold Op.equal
      rw [show Op.maxDepth = 9999 + 1 from rfl, run_equalIn_struct w 9999 t us.toArray vs.toArray (by rw [hfs]; exact hu) h2, hfs]
      simpa using h4
  · cases h1
/-- Two cell lists whose values compare as b. -/
def EqD (P : Program) (t : TypeId) (ds1 ds2 : List D) (b : Bool) : Prop := ∃ us vs : List Value, ds1 = us.map D.v ∧ ds2 = vs.map D.v ∧ (∀ (op : BinOp) (x y : Operand) (w : World), (eqGuard op t x y (.agg us.toArray) (.agg vs.toArray)).run P w = .ok () w) ∧
  ∀ w, (Op.equal t (.agg us.toArray) (.agg vs.toArray)).run P w = .ok b w
theorem EqD.of {P : Program} {t : TypeId} {ks : List Kd} {ds1 ds2 : List D} {b : Bool} (T : EqT P t ks) (us vs : List Value) (h1 : ds1 = us.map D.v) (h2 : ds2 = vs.map D.v) (k1 : kindsB ks us = true) (k2 : kindsB ks vs = true) (hb : sameL us vs = b) : EqD P t ds1 ds2 b :=
  ⟨us, vs, h1, h2, fun op x y w => T.guard op x y _ _ w, fun w => by rw [T.run us vs w k1 k2, hb]⟩
theorem rep_vs {F : Nat → Prop} {w : World} {x : Value} {us : List Value} (h : Rep F w x (.agg (us.map D.v))) : x = .agg us.toArray := by
  cases h with
  | agg cs ds hl hone h =>
    congr 2
    rw [List.length_map] at hl
    refine List.ext_getElem hl fun i h1 h2 => ?_
    have := h i h1 (by rw [List.length_map]; exact h2)
    rw [List.getElem_map] at this
    exact rep_v this
section
variable {P : Program} {B : Nat} {ops : Array Oper} {o : Oper} {e : Env} {σ : Obs}
theorem AOp.aggEql {t ty : TypeId} {x y : Operand} {ds1 ds2 : List D} {b : Bool} (ho : o.op = .binOp .eql t x y ty) (hx : e.ev x = .d (.agg ds1)) (hy : e.ev y = .d (.agg ds2)) (E : EqD P t ds1 ds2 b) : AOp P B ops o e σ (.d (.v (.bool b))) := .value fun F ρ w a hF hr _ => by
  obtain ⟨us, vs, rfl, rfl, hg, hq⟩ := E
  have h1 := hr x (by rw [ho]; simp [Op.operands])
  have h2 := hr y (by rw [ho]; simp [Op.operands])
  rw [hx] at h1
  rw [hy] at h2
  refine ⟨.bool b, F, w, ?_, .d (.v _), Ext.refl hF⟩
  unfold execOp
  simp only [ho, rep_vs (repS_d h1), rep_vs (repS_d h2)]
  rw [Sem.run_bind, Sem.run_bind, hg]
  simp only [Result.andThen_ok, binOp, Sem.run_bind, hq, Sem.run_pure]
theorem AOp.aggNeq {t ty : TypeId} {x y : Operand} {ds1 ds2 : List D} {b : Bool} (ho : o.op = .binOp .neq t x y ty) (hx : e.ev x = .d (.agg ds1)) (hy : e.ev y = .d (.agg ds2)) (E : EqD P t ds1 ds2 b) : AOp P B ops o e σ (.d (.v (.bool (!b)))) := .value fun F ρ w a hF hr _ => by
  obtain ⟨us, vs, rfl, rfl, hg, hq⟩ := E
  have h1 := hr x (by rw [ho]; simp [Op.operands])
  have h2 := hr y (by rw [ho]; simp [Op.operands])
  rw [hx] at h1
  rw [hy] at h2
  refine ⟨.bool (!b), F, w, ?_, .d (.v _), Ext.refl hF⟩
  unfold execOp
  simp only [ho, rep_vs (repS_d h1), rep_vs (repS_d h2)]
  rw [Sem.run_bind, Sem.run_bind, hg]
  simp only [Result.andThen_ok, binOp, Sem.run_bind, hq, Sem.run_pure]
end
end Go.Proofs.YtieccphckobhjaaDoor


namespace Go.Proofs.YtieccphckobhjaaDoor
open Go.RowKit
set_option linter.unusedVariables false

/-! Types. -/
namespace TyE1

end TyE1
open TyE1


structure CpyOk (v : Vlt) (c : Cpy) : Prop where
  item : 0 ≤ itemIdx v c.item
  carr : 0 ≤ carrIdx v c.carrier
  frm : c.frm = ⟨#[]⟩ ∨ 0 ≤ carrIdx v c.frm
  ne : c.frm ≠ c.carrier
  day : 0 ≤ c.day ∧ c.day ≤ 200000
  last : c.day ≤ c.last ∧ c.last ≤ 200000
  gen : 1 ≤ c.gen ∧ c.gen ≤ 100
  form : decide (c.gen = 1) = decide (c.frm = ⟨#[]⟩)
  bad : ffst (badFault (itemBlocks v c.item) c.bad) c.bad.length = 0
theorem cpyOk_of {v : Vlt} {c : Cpy} {b : Option Cpy} (h : cpyFault v c b = 0) : CpyOk v c ∧ ∀ d, b = some d → cpyCmp d c < 0 := by
  unfold cpyFault at h
  by_cases h1 : itemIdx v c.item < 0 ∨ carrIdx v c.carrier < 0
  · rw [if_pos h1] at h; simp at h
  rw [if_neg h1] at h
  by_cases h2 : ∃ d, b = some d ∧ 0 ≤ cpyCmp d c
  · rw [if_pos h2] at h; simp at h
  rw [if_neg h2] at h
  by_cases h3 : c.frm ≠ ⟨#[]⟩ ∧ carrIdx v c.frm < 0
  · rw [if_pos h3] at h; simp at h
  rw [if_neg h3] at h
  by_cases h4 : c.frm = c.carrier
  · rw [if_pos h4] at h; simp at h
  rw [if_neg h4] at h
  by_cases h5 : ¬ (0 ≤ c.day ∧ c.day ≤ 200000) ∨ ¬ (c.day ≤ c.last ∧ c.last ≤ 200000) ∨ ¬ (1 ≤ c.gen ∧ c.gen ≤ 100)
  · rw [if_pos h5] at h; simp at h
  rw [if_neg h5] at h
  by_cases h6 : decide (c.gen = 1) ≠ decide (c.frm = ⟨#[]⟩)
  · rw [if_pos h6] at h; simp at h
  rw [if_neg h6] at h
  refine ⟨⟨by omega, by omega, ?_, h4, by omega, by omega, by omega, Decidable.not_not.1 h6, h⟩, fun d hd => by
    by_cases hh : cpyCmp d c < 0
    · exact hh
    · exact absurd ⟨d, hd, by omega⟩ h2⟩
  by_cases h7 : c.frm = ⟨#[]⟩
  · exact .inl h7
  · right
    by_cases h8 : carrIdx v c.frm < 0
    · exact absurd ⟨h7, h8⟩ h3
    · omega
structure VOk (v : Vlt) : Prop where
  ni : v.items.length ≤ 30
  nc : v.carrs.length ≤ 16
  np : v.copies.length ≤ 200
  items : ffst (itemFault v.items) v.items.length = 0
  carrs : ffst (carrFault v.carrs) v.carrs.length = 0
  cps : ffst (cpyFaultAt v) v.copies.length = 0
  cpy : ∀ c ∈ v.copies, CpyOk v c
  order : ∀ k (h : k + 1 < v.copies.length), cpyCmp v.copies[k] v.copies[k + 1] < 0
  room : ∀ x ∈ v.carrs, usedOn v x.name ≤ x.room
theorem vok_of {v : Vlt} (h : checkV v = 0) : VOk v := by
  unfold checkV at h
  by_cases h1 : largeV v
  · rw [if_pos h1] at h; simp at h
  rw [if_neg h1] at h
  by_cases h2 : ffst (itemFault v.items) v.items.length ≠ 0
  · rw [if_pos h2] at h; exact absurd h h2
  rw [if_neg h2] at h
  by_cases h3 : ffst (carrFault v.carrs) v.carrs.length ≠ 0
  · rw [if_pos h3] at h; exact absurd h h3
  rw [if_neg h3] at h
  by_cases h4 : ffst (cpyFaultAt v) v.copies.length ≠ 0
  · rw [if_pos h4] at h; exact absurd h h4
  rw [if_neg h4] at h
  by_cases h5 : overFull v = true
  · rw [if_pos h5] at h; simp at h
  have h4' := Decidable.not_not.1 h4
  unfold largeV at h1
  refine ⟨by omega, by omega, by omega, Decidable.not_not.1 h2, Decidable.not_not.1 h3, h4', fun c hc => ?_, fun k hk => ?_, fun x hx => ?_⟩
  · obtain ⟨k, hk, rfl⟩ := List.mem_iff_getElem.1 hc
    have h6 := ffst_all _ h4' k hk
    by_cases h0 : 0 < k
    · rw [cpyFaultAt_some hk h0] at h6; exact (cpyOk_of h6).1
    · rw [cpyFaultAt_none hk h0] at h6; exact (cpyOk_of h6).1
  · have h6 := ffst_all _ h4' (k + 1) hk
    rw [cpyFaultAt_some hk (Nat.succ_pos k)] at h6
    exact (cpyOk_of h6).2 _ rfl
  · refine Int.not_lt.1 fun hh => h5 ?_
    unfold overFull
    exact List.any_eq_true.2 ⟨x, hx, decide_eq_true hh⟩
structure POk (p : Pol) : Prop where
  copies : 1 ≤ p.copies ∧ p.copies ≤ 16
  places : 1 ≤ p.places ∧ p.places ≤ p.copies
  kinds : 1 ≤ p.kinds ∧ p.kinds ≤ p.copies
  every : 1 ≤ p.every ∧ p.every ≤ 200000
  old : 1 ≤ p.old ∧ p.old ≤ 200000
  gens : 1 ≤ p.gens ∧ p.gens ≤ 100
theorem pok_of {p : Pol} (h : polFault p = 0) : POk p := by
  unfold polFault at h
  split at h
  · simp at h
  · exact ⟨by omega, by omega, by omega, by omega, by omega, by omega⟩
/-- The error of a vault and a policy. -/
def bothFault (v : Vlt) (p : Pol) : Int := if checkV v ≠ 0 then checkV v else polFault p
theorem both_v {v : Vlt} {p : Pol} (h : checkV v ≠ 0) : bothFault v p = checkV v := if_pos h
theorem both_p {v : Vlt} {p : Pol} (h : checkV v = 0) : bothFault v p = polFault p := if_neg (fun hh => hh h)
theorem both_ok {v : Vlt} {p : Pol} (h : bothFault v p = 0) : VOk v ∧ POk p := by
  unfold bothFault at h
  by_cases h1 : checkV v ≠ 0
  · rw [if_pos h1] at h; exact absurd h h1
  · rw [if_neg h1] at h; exact ⟨vok_of (Decidable.not_not.1 h1), pok_of h⟩
def dayFault (v : Vlt) (p : Pol) (day : Int) : Int := if bothFault v p ≠ 0 then bothFault v p else if 0 ≤ day ∧ day ≤ 200000 then 0 else 1
deriving instance DecidableEq for Tsk



/-! What is due. -/
section
variable (frm every to : Int)
def fstD (c : Cpy) : Int := max frm (c.last + every)
def cntD (c : Cpy) : Nat := if fstD frm every c < to then ((to - 1 - fstD frm every c) / every + 1).toNat else 0
def dayD (c : Cpy) (k : Nat) : Int := fstD frm every c + k * every
def elD (c : Cpy) (i k : Nat) : Tsk × Nat := (⟨dayD frm every c k, c.item, c.carrier⟩, i * 1000000 + (dayD frm every c k).toNat)
def tagC (c : Cpy) (i : Nat) : List (Tsk × Nat) := (List.range (cntD frm every to c)).map (elD frm every c i)
def tagTo (l : List Cpy) (n : Nat) : List (Tsk × Nat) := (List.range n).flatMap fun i => match l[i]? with | none => [] | some c => tagC frm every to c i
def manyTo (l : List Cpy) (n : Nat) : Nat := ((l.take n).map (cntD frm every to)).sum
end
def cmpT (a b : Tsk) : Int := if a.day < b.day then -1 else if b.day < a.day then 1 else 0
theorem pre_cmpT : Pre cmpT := by
  constructor
  · intro x y h
    unfold cmpT at *
    split at h
    · rw [if_neg (by omega), if_pos (by assumption)]; decide
    · split at h <;> simp at h
  · intro x y z h1 h2
    unfold cmpT at *
    by_cases h3 : y.day < x.day
    · rw [if_pos h3] at h1; simp at h1
    · by_cases h4 : z.day < y.day
      · rw [if_pos h4] at h2; simp at h2
      · rw [if_neg (by omega)]; split <;> decide
def dueAll (v : Vlt) (p : Pol) (frm to : Int) : List (Tsk × Nat) := tagTo frm p.every to v.copies v.copies.length
def dueL (v : Vlt) (p : Pol) (frm to : Int) : List (Tsk × Nat) := sortSeg cmpT (dueAll v p frm to) 0 (dueAll v p frm to).length
def spanFault (frm to : Int) : Int := if ¬ (0 ≤ frm ∧ frm ≤ 200000) ∨ ¬ (frm ≤ to ∧ to ≤ 200001) then 1 else 0
def dueFault (v : Vlt) (p : Pol) (frm to : Int) : Int :=
  if bothFault v p ≠ 0 then bothFault v p else if spanFault frm to ≠ 0 then 1 else if 20000 < (manyTo frm p.every to v.copies v.copies.length : Int) then 2 else 0
def dueR (v : Vlt) (p : Pol) (frm to : Int) : List Tsk := if dueFault v p frm to = 0 then (dueL v p frm to).map Prod.fst else []
theorem dueR_tds (v : Vlt) (p : Pol) (frm to : Int) (h : dueFault v p frm to = 0) : (dueR v p frm to).map Tsk.ds = (dueL v p frm to).map tds := by
  unfold dueR; rw [if_pos h, List.map_map]; rfl
section
variable {frm every to : Int}
theorem cnt_iff (he : 1 ≤ every) (c : Cpy) (j : Nat) : dayD frm every c j < to ↔ j < cntD frm every to c := by
  unfold cntD dayD
  generalize fstD frm every c = f
  have hj : 0 ≤ (j : Int) * every := Int.mul_nonneg (by omega) (by omega)
  by_cases h : f < to
  · rw [if_pos h]
    have h1 : (j : Int) ≤ (to - 1 - f) / every ↔ (j : Int) * every ≤ to - 1 - f := Int.le_ediv_iff_mul_le (by omega)
    have h2 : 0 ≤ (to - 1 - f) / every := Int.ediv_nonneg (by omega) (by omega)
    omega
  · rw [if_neg h]; omega
theorem cnt_alt (he : 1 ≤ every) (c : Cpy) (h : fstD frm every c < to) : (to - fstD frm every c + every - 1) / every = (cntD frm every to c : Int) ∧ (to - 1 - fstD frm every c) / every + 1 = (cntD frm every to c : Int) := by
  unfold cntD
  rw [if_pos h]
  generalize fstD frm every c = f at *
  have h2 : 0 ≤ (to - 1 - f) / every := Int.ediv_nonneg (by omega) (by omega)
  have h3 : to - f + every - 1 = (to - 1 - f) + 1 * every := by omega
  rw [h3, Int.add_mul_ediv_right _ _ (by omega)]
  omega
theorem cnt_none (c : Cpy) (h : ¬ fstD frm every c < to) : cntD frm every to c = 0 := by unfold cntD; rw [if_neg h]
theorem manyTo_succ {l : List Cpy} {k : Nat} (hk : k < l.length) : manyTo frm every to l (k + 1) = manyTo frm every to l k + cntD frm every to l[k] := by
  unfold manyTo
  rw [List.take_add_one, List.getElem?_eq_getElem hk, Option.toList_some, List.map_append, List.sum_append]
  simp
theorem manyTo_le {l : List Cpy} : ∀ {k n : Nat}, k ≤ n → n ≤ l.length → manyTo frm every to l k ≤ manyTo frm every to l n
  | k, 0, h, _ => by rw [show k = 0 by omega]; exact Nat.le_refl _
  | k, n + 1, h, hn => by
    by_cases e : k = n + 1
    · rw [e]; exact Nat.le_refl _
    · rw [manyTo_succ (show n < l.length by omega)]
      have := manyTo_le (l := l) (k := k) (n := n) (by omega) (by omega)
      omega
theorem tagTo_succ {l : List Cpy} {k : Nat} (hk : k < l.length) : tagTo frm every to l (k + 1) = tagTo frm every to l k ++ tagC frm every to l[k] k := by
  unfold tagTo
  rw [List.range_succ, List.flatMap_append, List.flatMap_cons, List.flatMap_nil, List.append_nil, List.getElem?_eq_getElem hk]
theorem tagC_len (c : Cpy) (i : Nat) : (tagC frm every to c i).length = cntD frm every to c := by unfold tagC; simp
theorem tagTo_len {l : List Cpy} : ∀ {k : Nat}, k ≤ l.length → (tagTo frm every to l k).length = manyTo frm every to l k
  | 0, _ => by simp [tagTo, manyTo]
  | k + 1, h => by rw [tagTo_succ (by omega), List.length_append, tagTo_len (by omega), tagC_len, manyTo_succ (by omega)]
theorem tagC_next (c : Cpy) (i : Nat) {j : Nat} (hj : j < cntD frm every to c) : (tagC frm every to c i).take (j + 1) = (tagC frm every to c i).take j ++ [elD frm every c i j] := by
  rw [List.take_add_one, List.getElem?_eq_getElem (by rw [tagC_len]; exact hj), Option.toList_some]
  unfold tagC
  rw [List.getElem_map, List.getElem_range]
theorem mem_tagTo {l : List Cpy} {n : Nat} {x : Tsk × Nat} : x ∈ tagTo frm every to l n ↔ ∃ i c k, i < n ∧ l[i]? = some c ∧ k < cntD frm every to c ∧ x = elD frm every c i k := by
  unfold tagTo
  rw [List.mem_flatMap]
  constructor
  · rintro ⟨i, hi, hx⟩
    cases hc : l[i]? with
    | none => rw [hc] at hx; simp at hx
    | some c =>
      rw [hc] at hx
      unfold tagC at hx
      obtain ⟨k, hk, rfl⟩ := List.mem_map.1 hx
      exact ⟨i, c, k, List.mem_range.1 hi, hc, List.mem_range.1 hk, rfl⟩
  · rintro ⟨i, c, k, hi, hc, hk, rfl⟩
    refine ⟨i, List.mem_range.2 hi, ?_⟩
    rw [hc]
    exact List.mem_map.2 ⟨k, List.mem_range.2 hk, rfl⟩
theorem day_bound (he : 1 ≤ every) (hf : 0 ≤ frm) (ht : to ≤ 200001) {c : Cpy} {k : Nat} (hk : k < cntD frm every to c) : 0 ≤ dayD frm every c k ∧ dayD frm every c k ≤ 200000 := by
  have h1 := (cnt_iff he c k).2 hk
  have h2 : 0 ≤ (k : Int) * every := Int.mul_nonneg (by omega) (by omega)
  unfold dayD fstD at *
  omega
theorem day_lt (he : 1 ≤ every) {c : Cpy} {k j : Nat} (h : k < j) : dayD frm every c k < dayD frm every c j := by
  unfold dayD
  have : ((k : Int) + 1) * every ≤ (j : Int) * every := Int.mul_le_mul_of_nonneg_right (by omega) (by omega)
  rw [Int.add_mul, Int.one_mul] at this
  omega
theorem tag_incr (he : 1 ≤ every) (hf : 0 ≤ frm) (ht : to ≤ 200001) {l : List Cpy} : ∀ n, (tagTo frm every to l n).Pairwise (fun x y => x.2 < y.2)
  | 0 => by simp [tagTo]
  | n + 1 => by
    have ih := tag_incr he hf ht (l := l) n
    have hs : tagTo frm every to l (n + 1) = tagTo frm every to l n ++ (match l[n]? with | none => [] | some c => tagC frm every to c n) := by
      unfold tagTo
      rw [List.range_succ, List.flatMap_append, List.flatMap_cons, List.flatMap_nil, List.append_nil]
    rw [hs, List.pairwise_append]
    refine ⟨ih, ?_, fun x hx y hy => ?_⟩
    · cases l[n]? with
      | none => exact .nil
      | some c =>
        unfold tagC
        rw [List.pairwise_map]
        refine List.Pairwise.imp_of_mem (fun {a b} ha hb hab => ?_) List.pairwise_lt_range
        have h1 := day_bound he hf ht (List.mem_range.1 ha)
        have h2 := day_lt (frm := frm) (c := c) he hab
        unfold elD
        omega
    · obtain ⟨i, c, k, hi, hc, hk, rfl⟩ := mem_tagTo.1 hx
      cases hn : l[n]? with
      | none => rw [hn] at hy; simp at hy
      | some c2 =>
        rw [hn] at hy
        unfold tagC at hy
        obtain ⟨j, hj, rfl⟩ := List.mem_map.1 hy
        have h1 := day_bound he hf ht hk
        have h2 := day_bound he hf ht (List.mem_range.1 hj)
        unfold elD
        dsimp only
        omega
theorem incr_of {α : Type} {l : List (α × Nat)} (h : l.Pairwise (fun x y => x.2 < y.2)) (b : Nat) : Incr l 0 b := fun i j x y _ hij _ hx hy => by
  obtain ⟨h1, e1⟩ := List.getElem?_eq_some_iff.1 hx
  obtain ⟨h2, e2⟩ := List.getElem?_eq_some_iff.1 hy
  rw [← e1, ← e2]
  exact List.pairwise_iff_getElem.1 h i j h1 h2 hij
theorem tags_of {α : Type} {l : List (α × Nat)} (h : l.Pairwise (fun x y => x.2 < y.2)) : TagsOk l := by
  unfold TagsOk
  rw [List.Nodup, List.pairwise_map]
  exact h.imp fun h => by omega
end


end Go.Proofs.YtieccphckobhjaaDoor


namespace Go.Proofs.YtieccphckobhjaaDoor
open Go.RowKit
set_option linter.unusedVariables false

/-! Types. -/
namespace TyE2
theorem ag_26 : AggT Tryd.prog 26 3 := .of (by kernel_rfl)
theorem ag_28 : AggT Tryd.prog 28 6 := .of (by kernel_rfl)
theorem ag_77 : AggT Tryd.prog 77 7 := .of (by kernel_rfl)
theorem bu_46 : StructT Tryd.prog 46 (fun i => (#[(0, 1), (1, 1), (2, 1)] : Array (Nat × Nat))[i]?) [(.int .i64 0), (.string ⟨#[]⟩), (.string ⟨#[]⟩)] := .of (by kernel_rfl) (by kernel_rfl) (by decide)
theorem et_24 : ElemTy Tryd.prog 24 77 7 96 (.agg #[(.string ⟨#[]⟩), (.string ⟨#[]⟩), (.string ⟨#[]⟩), (.int .i64 0), (.int .i64 0), (.int .i64 0), (.slice none 0 0)]) := ⟨by kernel_rfl, by kernel_rfl, by kernel_rfl, by decide⟩
theorem et_41 : ElemTy Tryd.prog 41 46 3 40 (.agg #[(.int .i64 0), (.string ⟨#[]⟩), (.string ⟨#[]⟩)]) := ⟨by kernel_rfl, by kernel_rfl, by kernel_rfl, by decide⟩
theorem fo_26_2 : fieldOff Tryd.prog 26 2 = some 2 := by kernel_rfl
theorem fo_28_3 : fieldOff Tryd.prog 28 3 = some 3 := by kernel_rfl
theorem fo_46_0 : fieldOff Tryd.prog 46 0 = some 0 := by kernel_rfl
theorem fo_77_0 : fieldOff Tryd.prog 77 0 = some 0 := by kernel_rfl
theorem fo_77_1 : fieldOff Tryd.prog 77 1 = some 1 := by kernel_rfl
theorem fo_77_4 : fieldOff Tryd.prog 77 4 = some 4 := by kernel_rfl
theorem sc_24 : Scal Tryd.prog 24 := .of (by kernel_rfl)
theorem sc_3 : Scal Tryd.prog 3 := .of (by kernel_rfl)
theorem sc_9 : Scal Tryd.prog 9 := .of (by kernel_rfl)
theorem sz_77 : ∀ w, (sizeOf 77).run Tryd.prog w = .ok 7 w := SizeT.of (by kernel_rfl)
theorem zt_77 : (Tryd.prog.info? 77).bind (·.zero) = some (.agg #[(.string ⟨#[]⟩), (.string ⟨#[]⟩), (.string ⟨#[]⟩), (.int .i64 0), (.int .i64 0), (.int .i64 0), (.slice none 0 0)]) := by kernel_rfl
end TyE2
open TyE2


theorem SLe.fn (f : Nat) : SLe (.d (.v (.func (.func f) #[] #[]))) (.d (.clo (.func f) [])) := fun F ρ w x h => by
  cases repS_v h
  exact .d (.clo _ [] [] rfl (fun i h => absurd h (Nat.not_lt_zero i)))
theorem row_same2 {c id e size : Nat} {o : Ob} {els els' : List (List D)} {τ : Obs} (h : els = els') : ∀ p ∈ [(id, Ob.row e size els')], p ∈ (c, o) :: (id, Ob.row e size els) :: τ := fun p hp => by
  rw [List.mem_singleton] at hp; subst hp; subst h; exact .tail _ (.head _)
theorem row_both {c id e size : Nat} {o : Ob} {els els' : List (List D)} {τ : Obs} (h : els = els') : ∀ p ∈ [(c, o), (id, Ob.row e size els')], p ∈ (c, o) :: (id, Ob.row e size els) :: τ := fun p hp => by
  subst h
  rcases List.mem_cons.1 hp with rfl | hp
  · exact .head _
  · rw [List.mem_singleton] at hp; subst hp; exact .tail _ (.head _)
theorem max_fst (frm every : Int) (c : Cpy) : max frm (c.last + every) = fstD frm every c := rfl
theorem manyTo_bound {frm every to : Int} (he : 1 ≤ every) (hf : 0 ≤ frm) (ht : to ≤ 200001) {l : List Cpy} : ∀ {k : Nat}, k ≤ l.length → manyTo frm every to l k ≤ k * 200001
  | 0, _ => by simp [manyTo]
  | k + 1, h => by
    rw [manyTo_succ (by omega)]
    have := manyTo_bound he hf ht (l := l) (k := k) (by omega)
    have hc : cntD frm every to (l[k]'(by omega)) ≤ 200001 := by
      generalize l[k]'(by omega) = c
      refine Nat.le_of_not_lt fun hh => ?_
      have h1 := (cnt_iff he c 200001).2 hh
      have h2 : (200001 : Int) ≤ ((200001 : Nat) : Int) * every := by
        have := Int.mul_le_mul_of_nonneg_left he (show (0 : Int) ≤ 200001 by decide)
        simpa using this
      unfold dayD fstD at h1
      omega
    omega


set_option maxRecDepth 100000 in
set_option maxHeartbeats 1000000 in
theorem c_isNaN (n : Int) : ACall Tryd.prog 86 [.v (.int .i64 n)] (.v (.bool false)) := by
  refine acall_of (n := 6) (ds' := [.v (.bool false)]) Tryd.func86 rfl (by kernel_rfl) rfl [2] rfl rfl ?_
  intro B w0 F0 fr
  refine AWP.seq ?_
  refine AWP.region ?_
  refine AOps.step rfl rfl rfl (AOp.assignD rfl rfl) ?_
  refine AOps.nil ?_
  refine AWP.seq ?_
  refine AWP.region ?_
  refine AOps.step rfl rfl rfl (AOp.moveD rfl rfl) ?_
  refine AOps.step rfl rfl rfl (AOp.moveD rfl rfl) ?_
  refine AOps.step rfl rfl rfl (AOp.neq rfl rfl rfl) ?_
  refine AOps.step rfl rfl rfl (AOp.assignD rfl rfl) ?_
  refine AOps.nil ?_
  refine AWP.ret ?_
  refine ⟨RetD.eq rfl ?_, trivial⟩
  all_goals (simp)

set_option maxRecDepth 100000 in
set_option maxHeartbeats 1000000 in
theorem c_cmpInt (a b : Int) : ACall Tryd.prog 57 [.v (.int .i64 a), .v (.int .i64 b)] (.v (.int .i64 (if a < b then -1 else if b < a then 1 else 0))) := by
  refine acall_of (n := 20) (ds' := [.v (.int .i64 (if a < b then -1 else if b < a then 1 else 0))]) Tryd.func57 rfl (by kernel_rfl) rfl [4] rfl rfl ?_
  intro B w0 F0 fr
  refine AWP.seq ?_
  refine AWP.region ?_
  refine AOps.step rfl rfl rfl (AOp.assignD rfl rfl) ?_
  refine AOps.nil ?_
  refine AWP.seq ?_
  refine AWP.region ?_
  refine AOps.step rfl rfl rfl (AOp.moveD rfl rfl) ?_
  refine AOps.step rfl rfl rfl (AOp.call rfl (.cons (ArgOk.rfl' rfl) .nil) (c_isNaN _)) ?_
  refine AOps.step rfl rfl rfl (AOp.assignD rfl rfl) ?_
  refine AOps.nil ?_
  refine AWP.seq ?_
  refine AWP.region ?_
  refine AOps.step rfl rfl rfl (AOp.moveD rfl rfl) ?_
  refine AOps.step rfl rfl rfl (AOp.call rfl (.cons (ArgOk.rfl' rfl) .nil) (c_isNaN _)) ?_
  refine AOps.step rfl rfl rfl (AOp.assignD rfl rfl) ?_
  refine AOps.nil ?_
  refine AWP.seq ?_
  refine AWP.seq ?_
  refine AWP.region ?_
  refine AOps.step rfl rfl rfl (AOp.moveD rfl rfl) ?_
  refine AOps.nil ?_
  refine AWP.cond rfl (fun h => nomatch h) (fun _ => ?_)
  refine AWP.skip ?_
  refine AWP.seq ?_
  refine AWP.seq ?_
  refine AWP.region ?_
  refine AOps.step rfl rfl rfl (AOp.moveD rfl rfl) ?_
  refine AOps.nil ?_
  refine AWP.cond rfl (fun h => nomatch h) (fun _ => ?_)
  refine AWP.skip ?_
  refine AWP.seq ?_
  refine AWP.seq ?_
  refine AWP.region ?_
  refine AOps.step rfl rfl rfl (AOp.moveD rfl rfl) ?_
  refine AOps.step rfl rfl rfl (AOp.moveD rfl rfl) ?_
  refine AOps.step rfl rfl rfl (AOp.lss rfl rfl rfl) ?_
  refine AOps.nil ?_
  refine AWP.cond rfl (fun h1 => ?_) (fun h1 => ?_)
  · replace h1 := of_decide_eq_true h1
    rw [if_pos h1]
    refine AWP.seq ?_
    refine AWP.region ?_
    refine AOps.step rfl rfl rfl (AOp.assignD rfl rfl) ?_
    refine AOps.nil ?_
    refine AWP.ret ?_
    refine ⟨RetD.eq rfl ?_, trivial⟩
    all_goals (rfl)
  · replace h1 := of_decide_eq_false h1
    rw [if_neg h1]
    refine AWP.skip ?_
    refine AWP.seq ?_
    refine AWP.seq ?_
    refine AWP.region ?_
    refine AOps.step rfl rfl rfl (AOp.moveD rfl rfl) ?_
    refine AOps.step rfl rfl rfl (AOp.moveD rfl rfl) ?_
    refine AOps.step rfl rfl rfl (AOp.gtr rfl rfl rfl) ?_
    refine AOps.nil ?_
    refine AWP.cond rfl (fun h2 => ?_) (fun h2 => ?_)
    · replace h2 := of_decide_eq_true h2
      rw [if_pos h2]
      refine AWP.seq ?_
      refine AWP.region ?_
      refine AOps.step rfl rfl rfl (AOp.assignD rfl rfl) ?_
      refine AOps.nil ?_
      refine AWP.ret ?_
      refine ⟨RetD.eq rfl ?_, trivial⟩
      all_goals (rfl)
    · replace h2 := of_decide_eq_false h2
      rw [if_neg h2]
      refine AWP.skip ?_
      refine AWP.seq ?_
      refine AWP.region ?_
      refine AOps.step rfl rfl rfl (AOp.assignD rfl rfl) ?_
      refine AOps.nil ?_
      refine AWP.ret ?_
      refine ⟨RetD.eq rfl ?_, trivial⟩
      all_goals (rfl)

set_option maxRecDepth 100000 in
set_option maxHeartbeats 1000000 in
theorem c_dueCmp (a b : Tsk) : ACall Tryd.prog 56 [.agg a.ds, .agg b.ds] (.v (.int .i64 (cmpT a b))) := by
  refine acall_of (n := 10) (ds' := [.v (.int .i64 (cmpT a b))]) Tryd.func56 rfl (by kernel_rfl) rfl [4] rfl rfl ?_
  intro B w0 F0 fr
  refine AWP.seq ?_
  refine AWP.region ?_
  refine AOps.step rfl rfl rfl (AOp.box rfl rfl rfl) ?_
  refine AOps.step rfl rfl rfl (AOp.box rfl rfl rfl) ?_
  refine AOps.step rfl rfl rfl (AOp.assignD rfl rfl) ?_
  refine AOps.nil ?_
  refine AWP.seq ?_
  refine AWP.region ?_
  refine AOps.step rfl rfl rfl (AOp.fieldAddr rfl fo_46_0 rfl) ?_
  refine AOps.step rfl rfl rfl (AOp.load rfl sc_3 rfl) ?_
  refine AOps.step rfl rfl rfl (AOp.fieldAddr rfl fo_46_0 rfl) ?_
  refine AOps.step rfl rfl rfl (AOp.load rfl sc_3 rfl) ?_
  refine AOps.step rfl rfl rfl (AOp.call rfl (.cons (ArgOk.rfl' rfl) (.cons (ArgOk.rfl' rfl) .nil)) (c_cmpInt _ _)) ?_
  refine AOps.step rfl rfl rfl (AOp.assignD rfl rfl) ?_
  refine AOps.nil ?_
  refine AWP.ret ?_
  refine ⟨RetD.eq rfl ?_, trivial⟩
  all_goals (rfl)

set_option maxRecDepth 100000 in
set_option maxHeartbeats 1000000 in
theorem c_pBoth (v : Vlt) (p : Pol) (hs : smallV v) : ACall Tryd.prog 54 [.agg v.ds, .agg p.ds] (.v (.int .i64 (bothFault v p))) := by
  refine acall_of (n := 13) (ds' := [.v (.int .i64 (bothFault v p))]) Tryd.func54 rfl (by kernel_rfl) rfl [4] rfl rfl ?_
  intro B w0 F0 fr
  refine AWP.seq ?_
  refine AWP.region ?_
  refine AOps.step rfl rfl rfl (AOp.box rfl rfl rfl) ?_
  refine AOps.step rfl rfl rfl (AOp.box rfl rfl rfl) ?_
  refine AOps.step rfl rfl rfl (AOp.assignD rfl rfl) ?_
  refine AOps.nil ?_
  refine AWP.seq ?_
  refine AWP.seq ?_
  refine AWP.region ?_
  refine AOps.step rfl rfl rfl (AOp.loadAgg rfl ag_26 rfl rfl) ?_
  refine AOps.step rfl rfl rfl (AOp.call rfl (.cons (ArgOk.rfl' rfl) .nil) (c_pCheck v hs)) ?_
  refine AOps.step rfl rfl rfl (AOp.assignD rfl rfl) ?_
  refine AOps.nil ?_
  refine AWP.seq ?_
  refine AWP.region ?_
  refine AOps.step rfl rfl rfl (AOp.moveD rfl rfl) ?_
  refine AOps.step rfl rfl rfl (AOp.neq rfl rfl rfl) ?_
  refine AOps.nil ?_
  refine AWP.cond rfl (fun h1 => ?_) (fun h1 => ?_)
  · replace h1 := of_decide_eq_true h1
    rw [both_v h1]
    refine AWP.seq ?_
    refine AWP.region ?_
    refine AOps.step rfl rfl rfl (AOp.moveD rfl rfl) ?_
    refine AOps.step rfl rfl rfl (AOp.assignD rfl rfl) ?_
    refine AOps.nil ?_
    refine AWP.ret ?_
    refine ⟨RetD.eq rfl ?_, trivial⟩
    all_goals (rfl)
  · replace h1 := of_decide_eq_false h1
    rw [both_p (Decidable.not_not.1 h1)]
    refine AWP.skip ?_
    refine AWP.seq ?_
    refine AWP.region ?_
    refine AOps.step rfl rfl rfl (AOp.loadAgg rfl ag_28 rfl rfl) ?_
    refine AOps.step rfl rfl rfl (AOp.call rfl (.cons (ArgOk.rfl' rfl) .nil) (c_pPol p)) ?_
    refine AOps.step rfl rfl rfl (AOp.assignD rfl rfl) ?_
    refine AOps.nil ?_
    refine AWP.ret ?_
    refine ⟨RetD.eq rfl ?_, trivial⟩
    all_goals (rfl)

set_option maxRecDepth 100000 in
set_option maxHeartbeats 1000000 in
theorem c_span (a b : Int) : ACall Tryd.prog 58 [.v (.int .i64 a), .v (.int .i64 b)] (.v (.int .i64 (spanFault a b))) := by
  refine acall_of (n := 14) (ds' := [.v (.int .i64 (spanFault a b))]) Tryd.func58 rfl (by kernel_rfl) rfl [4] rfl rfl ?_
  intro B w0 F0 fr
  refine AWP.seq ?_
  refine AWP.region ?_
  refine AOps.step rfl rfl rfl (AOp.assignD rfl rfl) ?_
  refine AOps.nil ?_
  refine AWP.seq ?_
  refine AWP.seq ?_
  refine AWP.region ?_
  refine AOps.step rfl rfl rfl (AOp.moveD rfl rfl) ?_
  refine AOps.step rfl rfl rfl (AOp.call rfl (.cons (ArgOk.rfl' rfl) .nil) (c_rDay _)) ?_
  refine AOps.step rfl rfl rfl (AOp.not rfl rfl) ?_
  refine AOps.step rfl rfl rfl (AOp.moveD rfl rfl) ?_
  refine AOps.split 8 rfl (fun g1 => ?_) (fun g1 => ?_)
  · replace g1 := bnot_t g1; replace g1 := of_decide_eq_false g1
    have HR : spanFault a b = 1 := if_pos (.inl g1)
    rw [HR]
    refine AOps.pass ⟨8, rfl, .inl ⟨_, rfl, rfl⟩⟩ rfl rfl ?_
    refine AOps.pass ⟨8, rfl, .inl ⟨_, rfl, rfl⟩⟩ rfl rfl ?_
    refine AOps.pass ⟨8, rfl, .inl ⟨_, rfl, rfl⟩⟩ rfl rfl ?_
    refine AOps.pass ⟨8, rfl, .inl ⟨_, rfl, rfl⟩⟩ rfl rfl ?_
    refine AOps.step rfl rfl rfl (AOp.pickT rfl rfl rfl) ?_
    refine AOps.nil ?_
    refine AWP.cond rfl (fun _ => ?_) (fun h => nomatch h)
    refine AWP.seq ?_
    refine AWP.region ?_
    refine AOps.step rfl rfl rfl (AOp.assignD rfl rfl) ?_
    refine AOps.nil ?_
    refine AWP.ret ?_
    refine ⟨RetD.eq rfl ?_, trivial⟩
    all_goals (rfl)
  · replace g1 := bnot_f g1; replace g1 := of_decide_eq_true g1
    have hg := g1
    refine AOps.step ⟨8, rfl, .inl ⟨_, rfl, rfl⟩⟩ rfl rfl (AOp.moveD rfl rfl) ?_
    refine AOps.step ⟨8, rfl, .inl ⟨_, rfl, rfl⟩⟩ rfl rfl (AOp.moveD rfl rfl) ?_
    refine AOps.step ⟨8, rfl, .inl ⟨_, rfl, rfl⟩⟩ rfl rfl (AOp.call rfl (.cons (ArgOk.rfl' rfl) (.cons (ArgOk.rfl' rfl) (.cons (ArgOk.rfl' rfl) .nil))) (c_rWithin _ _ _)) ?_
    refine AOps.step ⟨8, rfl, .inl ⟨_, rfl, rfl⟩⟩ rfl rfl (AOp.not rfl rfl) ?_
    refine AOps.step rfl rfl rfl (AOp.pickF rfl rfl rfl) ?_
    refine AOps.nil ?_
    refine AWP.cond rfl (fun h2 => ?_) (fun h2 => ?_)
    · replace h2 := bnot_t h2; replace h2 := of_decide_eq_false h2
      have HR : spanFault a b = 1 := if_pos (.inr h2)
      rw [HR]
      refine AWP.seq ?_
      refine AWP.region ?_
      refine AOps.step rfl rfl rfl (AOp.assignD rfl rfl) ?_
      refine AOps.nil ?_
      refine AWP.ret ?_
      refine ⟨RetD.eq rfl ?_, trivial⟩
      all_goals (rfl)
    · replace h2 := bnot_f h2; replace h2 := of_decide_eq_true h2
      have HR : spanFault a b = 0 := if_neg (by omega)
      rw [HR]
      refine AWP.skip ?_
      refine AWP.seq ?_
      refine AWP.region ?_
      refine AOps.step rfl rfl rfl (AOp.assignD rfl rfl) ?_
      refine AOps.nil ?_
      refine AWP.ret ?_
      refine ⟨RetD.eq rfl ?_, trivial⟩
      all_goals (rfl)

set_option maxRecDepth 100000 in
set_option maxHeartbeats 1000000 in
theorem c_pDue (v : Vlt) (p : Pol) (frm to : Int) (hs : smallV v) : ACall Tryd.prog 17 [.agg v.ds, .agg p.ds, .v (.int .i64 frm), .v (.int .i64 to)] (.tup [.sl ((dueR v p frm to).map Tsk.ds), .v (.int .i64 (dueFault v p frm to))]) := by
  refine acall_of (n := 98) (ds' := [.sl ((dueR v p frm to).map Tsk.ds), .v (.int .i64 (dueFault v p frm to))]) Tryd.func17 rfl (by kernel_rfl) rfl [8, 9] rfl rfl ?_
  intro B w0 F0 fr
  refine AWP.seq ?_
  refine AWP.region ?_
  refine AOps.step rfl rfl rfl (AOp.box rfl rfl rfl) ?_
  refine AOps.step rfl rfl rfl (AOp.box rfl rfl rfl) ?_
  refine AOps.step rfl rfl rfl (AOp.assignD rfl rfl) ?_
  refine AOps.step rfl rfl rfl (AOp.assignD rfl rfl) ?_
  refine AOps.nil ?_
  refine AWP.seq ?_
  refine AWP.seq ?_
  refine AWP.region ?_
  refine AOps.step rfl rfl rfl (AOp.loadAgg rfl ag_26 rfl rfl) ?_
  refine AOps.step rfl rfl rfl (AOp.loadAgg rfl ag_28 rfl rfl) ?_
  refine AOps.step rfl rfl rfl (AOp.call rfl (.cons (ArgOk.rfl' rfl) (.cons (ArgOk.rfl' rfl) .nil)) (c_pBoth v p hs)) ?_
  refine AOps.step rfl rfl rfl (AOp.assignD rfl rfl) ?_
  refine AOps.nil ?_
  refine AWP.seq ?_
  refine AWP.region ?_
  refine AOps.step rfl rfl rfl (AOp.moveD rfl rfl) ?_
  refine AOps.step rfl rfl rfl (AOp.neq rfl rfl rfl) ?_
  refine AOps.nil ?_
  refine AWP.cond rfl (fun h1 => ?_) (fun h1 => ?_)
  · replace h1 := of_decide_eq_true h1
    have HF : dueFault v p frm to = bothFault v p := if_pos h1
    have HR : dueR v p frm to = [] := by unfold dueR; rw [HF, if_neg h1]
    rw [HR, HF]
    refine AWP.seq ?_
    refine AWP.region ?_
    refine AOps.step rfl rfl rfl (AOp.moveD rfl rfl) ?_
    refine AOps.step rfl rfl rfl (AOp.assignD rfl rfl) ?_
    refine AOps.step rfl rfl rfl (AOp.assignD rfl rfl) ?_
    refine AOps.nil ?_
    refine AWP.ret ?_
    refine ⟨RetD.nil rfl, RetD.eq rfl ?_, trivial⟩
    all_goals (rfl)
  · replace h1 := of_decide_eq_false h1
    obtain ⟨vo, po⟩ := both_ok (Decidable.not_not.1 h1)
    have hb0 := Decidable.not_not.1 h1
    have he := po.every
    have hnp := vo.np
    refine AWP.skip ?_
    refine AWP.seq ?_
    refine AWP.seq ?_
    refine AWP.region ?_
    refine AOps.step rfl rfl rfl (AOp.moveD rfl rfl) ?_
    refine AOps.step rfl rfl rfl (AOp.call rfl (.cons (ArgOk.rfl' rfl) .nil) (c_pDay _)) ?_
    refine AOps.step rfl rfl rfl (AOp.not rfl rfl) ?_
    refine AOps.step rfl rfl rfl (AOp.moveD rfl rfl) ?_
    refine AOps.split 28 rfl (fun g2 => ?_) (fun g2 => ?_)
    · replace g2 := bnot_t g2; replace g2 := of_decide_eq_false g2
      have HS : spanFault frm to = 1 := if_pos (.inl g2)
      have HF : dueFault v p frm to = 1 := by unfold dueFault; rw [if_neg (by rw [hb0]; decide), HS]; rfl
      have HR : dueR v p frm to = [] := by unfold dueR; rw [HF]; rfl
      rw [HR, HF]
      refine AOps.pass ⟨28, rfl, .inl ⟨_, rfl, rfl⟩⟩ rfl rfl ?_
      refine AOps.pass ⟨28, rfl, .inl ⟨_, rfl, rfl⟩⟩ rfl rfl ?_
      refine AOps.pass ⟨28, rfl, .inl ⟨_, rfl, rfl⟩⟩ rfl rfl ?_
      refine AOps.pass ⟨28, rfl, .inl ⟨_, rfl, rfl⟩⟩ rfl rfl ?_
      refine AOps.step rfl rfl rfl (AOp.pickT rfl rfl rfl) ?_
      refine AOps.nil ?_
      refine AWP.cond rfl (fun _ => ?_) (fun h => nomatch h)
      refine AWP.seq ?_
      refine AWP.region ?_
      refine AOps.step rfl rfl rfl (AOp.assignD rfl rfl) ?_
      refine AOps.step rfl rfl rfl (AOp.assignD rfl rfl) ?_
      refine AOps.nil ?_
      refine AWP.ret ?_
      refine ⟨RetD.nil rfl, RetD.eq rfl ?_, trivial⟩
      all_goals (rfl)
    · replace g2 := bnot_f g2; replace g2 := of_decide_eq_true g2
      refine AOps.step ⟨28, rfl, .inl ⟨_, rfl, rfl⟩⟩ rfl rfl (AOp.moveD rfl rfl) ?_
      refine AOps.step ⟨28, rfl, .inl ⟨_, rfl, rfl⟩⟩ rfl rfl (AOp.moveD rfl rfl) ?_
      refine AOps.step ⟨28, rfl, .inl ⟨_, rfl, rfl⟩⟩ rfl rfl (AOp.call rfl (.cons (ArgOk.rfl' rfl) (.cons (ArgOk.rfl' rfl) (.cons (ArgOk.rfl' rfl) .nil))) (c_pWithin _ _ _)) ?_
      refine AOps.step ⟨28, rfl, .inl ⟨_, rfl, rfl⟩⟩ rfl rfl (AOp.not rfl rfl) ?_
      refine AOps.step rfl rfl rfl (AOp.pickF rfl rfl rfl) ?_
      refine AOps.nil ?_
      refine AWP.cond rfl (fun h3 => ?_) (fun h3 => ?_)
      · replace h3 := bnot_t h3; replace h3 := of_decide_eq_false h3
        have HS : spanFault frm to = 1 := if_pos (.inr h3)
        have HF : dueFault v p frm to = 1 := by unfold dueFault; rw [if_neg (by rw [hb0]; decide), HS]; rfl
        have HR : dueR v p frm to = [] := by unfold dueR; rw [HF]; rfl
        rw [HR, HF]
        refine AWP.seq ?_
        refine AWP.region ?_
        refine AOps.step rfl rfl rfl (AOp.assignD rfl rfl) ?_
        refine AOps.step rfl rfl rfl (AOp.assignD rfl rfl) ?_
        refine AOps.nil ?_
        refine AWP.ret ?_
        refine ⟨RetD.nil rfl, RetD.eq rfl ?_, trivial⟩
        all_goals (rfl)
      · replace h3 := bnot_f h3; replace h3 := of_decide_eq_true h3
        have hsp : (0 ≤ frm ∧ frm ≤ 200000) ∧ (frm ≤ to ∧ to ≤ 200001) := by omega
        have HS : spanFault frm to = 0 := if_neg (by omega)
        have hMB := fun {k : Nat} => manyTo_bound he.1 hsp.1.1 hsp.2.2 (l := v.copies) (k := k)
        refine AWP.skip ?_
        refine AWP.seq ?_
        refine AWP.region ?_
        refine AOps.step rfl rfl rfl (AOp.assignD rfl rfl) ?_
        refine AOps.nil ?_
        refine AWP.seq ?_
        refine AWP.seq ?_
        refine AWP.region ?_
        refine AOps.step rfl rfl rfl (AOp.fieldAddr rfl fo_26_2 rfl) ?_
        refine AOps.step rfl rfl rfl (AOp.load rfl sc_24 rfl) ?_
        refine AOps.step rfl rfl rfl (AOp.lenSl rfl et_24.ht rfl) ?_
        refine AOps.step rfl rfl rfl (AOp.moveD rfl rfl) ?_
        refine AOps.nil ?_
        refine AWP.block ?_
        refine AWP.loop (G := Nat) (fun k => Env.of [(37, .d (.v (.int .i64 (k : Int)))), (35, .d (.sl (v.copies.map Cpy.ds))), (36, .d (.v (.int .i64 ((v.copies.map Cpy.ds).length : Int)))), (11, .d (.v (.int .i64 ((manyTo frm p.every to v.copies k : Nat) : Int)))), (2, .d (.v (.int .i64 frm))), (3, .d (.v (.int .i64 to))), (4, .d (.fp v.ds)), (5, .d (.fp p.ds))]) (fun k => []) (fun k => k ≤ v.copies.length) (fun k => v.copies.length - k) 0 (Nat.zero_le _) (Sub.less ⟨(SLe.of_eq rfl), SLe.refl _, SLe.refl _, (SLe.i64 rfl), SLe.refl _, SLe.refl _, SLe.refl _, SLe.refl _, trivial⟩ (fun _ h => h)) ?_
        intro k hk
        refine AWP.seq ?_
        refine AWP.region ?_
        refine AOps.step rfl rfl rfl (AOp.lss rfl rfl rfl) ?_
        refine AOps.nil ?_
        refine AWP.seq ?_
        refine AWP.cond rfl (fun h4 => ?_) (fun h4 => ?_)
        · replace h4 := of_decide_eq_true h4
          rw [List.length_map] at h4
          have hlt : k < v.copies.length := by omega
          have hco := (vo.cpy _ (List.getElem_mem hlt))
          have hla := hco.last
          have hda := hco.day
          have hMk := hMB (k := k) (by omega)
          have hMs := manyTo_succ (frm := frm) (every := p.every) (to := to) hlt
          have hM1 := hMB (k := k + 1) (by omega)
          have hfd : fstD frm p.every v.copies[k] = max frm (v.copies[k].last + p.every) := rfl
          refine AWP.skip ?_
          refine AWP.seq ?_
          refine AWP.block ?_
          refine AWP.seq ?_
          refine AWP.region ?_
          refine AOps.step rfl rfl rfl (AOp.indexAddr rfl et_24 rfl rfl k rfl (at_list hlt) rfl) ?_
          refine AOps.step rfl rfl rfl (AOp.loadAgg rfl ag_77 rfl rfl) ?_
          refine AOps.alloc 101 rfl rfl rfl rfl zt_77 rfl rfl rfl ?_
          refine AOps.store rfl rfl rfl sz_77 rfl (.head _) rfl rfl rfl (Nat.le_of_ble_eq_true rfl) ?_
          refine AOps.nil ?_
          refine AWP.seq ?_
          refine AWP.region ?_
          refine AOps.step rfl rfl rfl (AOp.moveD rfl rfl) ?_
          refine AOps.step rfl rfl rfl (AOp.fieldAddrP rfl fo_77_4 rfl) ?_
          refine AOps.step rfl rfl rfl (AOp.loadP rfl sc_3 rfl (.head _) rfl) ?_
          refine AOps.step rfl rfl rfl (AOp.fieldAddr rfl fo_28_3 rfl) ?_
          refine AOps.step rfl rfl rfl (AOp.load rfl sc_3 rfl) ?_
          refine AOps.step rfl rfl rfl (AOp.add64 rfl rfl rfl (by omega) (by omega)) ?_
          refine AOps.step rfl rfl rfl (AOp.max rfl rfl rfl) ?_
          refine AOps.step rfl rfl rfl (AOp.assignD rfl rfl) ?_
          refine AOps.nil ?_
          refine AWP.seq ?_
          refine AWP.region ?_
          refine AOps.step rfl rfl rfl (AOp.moveD rfl rfl) ?_
          refine AOps.step rfl rfl rfl (AOp.moveD rfl rfl) ?_
          refine AOps.step rfl rfl rfl (AOp.lss rfl rfl rfl) ?_
          refine AOps.nil ?_
          refine AWP.cond rfl (fun h5 => ?_) (fun h5 => ?_)
          · replace h5 := of_decide_eq_true h5
            rw [max_fst] at h5
            have hca := cnt_alt he.1 v.copies[k] h5
            rw [max_fst]
            refine AWP.region ?_
            refine AOps.step rfl rfl rfl (AOp.moveD rfl rfl) ?_
            refine AOps.step rfl rfl rfl (AOp.moveD rfl rfl) ?_
            refine AOps.step rfl rfl rfl (AOp.sub64 rfl rfl rfl (by omega) (by omega)) ?_
            refine AOps.step rfl rfl rfl (AOp.moveD rfl rfl) ?_
            refine AOps.step rfl rfl rfl (AOp.sub64 rfl rfl rfl (by omega) (by omega)) ?_
            refine AOps.step rfl rfl rfl (AOp.fieldAddr rfl fo_28_3 rfl) ?_
            refine AOps.step rfl rfl rfl (AOp.load rfl sc_3 rfl) ?_
            refine AOps.step rfl rfl rfl (AOp.quo64 rfl rfl rfl (by omega) (by omega) (by omega)) ?_
            refine AOps.step rfl rfl rfl (AOp.add64 rfl rfl rfl (by omega) (by omega)) ?_
            refine AOps.step rfl rfl rfl (AOp.add64 rfl rfl rfl (by omega) (by omega)) ?_
            refine AOps.step rfl rfl rfl (AOp.assignD rfl rfl) ?_
            refine AOps.nil ?_
            refine AWP.region ?_
            refine AOps.step rfl rfl rfl (AOp.add64 rfl rfl rfl (by omega) (by omega)) ?_
            refine AOps.step rfl rfl rfl (AOp.moveD rfl rfl) ?_
            refine AOps.nil ?_
            refine ⟨k + 1, (by omega), (by dsimp only; omega), Sub.less ⟨(SLe.of_eq rfl), SLe.refl _, SLe.refl _, (SLe.i64 (by rw [hMs]; omega)), SLe.refl _, SLe.refl _, SLe.refl _, SLe.refl _, trivial⟩ (fun _ h => by cases h)⟩
          · replace h5 := of_decide_eq_false h5
            rw [max_fst] at h5
            have hcn := cnt_none (every := p.every) v.copies[k] h5
            refine AWP.skip ?_
            refine AWP.region ?_
            refine AOps.step rfl rfl rfl (AOp.add64 rfl rfl rfl (by omega) (by omega)) ?_
            refine AOps.step rfl rfl rfl (AOp.moveD rfl rfl) ?_
            refine AOps.nil ?_
            refine ⟨k + 1, (by omega), (by dsimp only; omega), Sub.less ⟨(SLe.of_eq rfl), SLe.refl _, SLe.refl _, (SLe.i64 (by rw [hMs, hcn]; rfl)), SLe.refl _, SLe.refl _, SLe.refl _, SLe.refl _, trivial⟩ (fun _ h => by cases h)⟩
        · replace h4 := of_decide_eq_false h4
          rw [List.length_map] at h4
          obtain rfl : k = v.copies.length := by omega
          refine AWP.exit ?_
          refine AWP.seq ?_
          refine AWP.seq ?_
          refine AWP.region ?_
          refine AOps.step rfl rfl rfl (AOp.moveD rfl rfl) ?_
          refine AOps.step rfl rfl rfl (AOp.gtr rfl rfl rfl) ?_
          refine AOps.nil ?_
          refine AWP.cond rfl (fun h6 => ?_) (fun h6 => ?_)
          · replace h6 := of_decide_eq_true h6
            have HF : dueFault v p frm to = 2 := by unfold dueFault; rw [if_neg (by rw [hb0]; decide), HS, if_neg (by decide), if_pos h6]
            have HR : dueR v p frm to = [] := by unfold dueR; rw [HF]; rfl
            rw [HR, HF]
            refine AWP.seq ?_
            refine AWP.region ?_
            refine AOps.step rfl rfl rfl (AOp.assignD rfl rfl) ?_
            refine AOps.step rfl rfl rfl (AOp.assignD rfl rfl) ?_
            refine AOps.nil ?_
            refine AWP.ret ?_
            refine ⟨RetD.nil rfl, RetD.eq rfl ?_, trivial⟩
            all_goals (rfl)
          · replace h6 := of_decide_eq_false h6
            have HF : dueFault v p frm to = 0 := by unfold dueFault; rw [if_neg (by rw [hb0]; decide), HS, if_neg (by decide), if_neg h6]
            have hmx : manyTo frm p.every to v.copies v.copies.length ≤ 20000 := by omega
            rw [HF, dueR_tds _ _ _ _ HF]
            refine AWP.skip ?_
            refine AWP.seq ?_
            refine AWP.region ?_
            refine AOps.step rfl rfl rfl (AOp.assignD rfl rfl) ?_
            refine AOps.nil ?_
            refine AWP.seq ?_
            refine AWP.seq ?_
            refine AWP.region ?_
            refine AOps.step rfl rfl rfl (AOp.fieldAddr rfl fo_26_2 rfl) ?_
            refine AOps.step rfl rfl rfl (AOp.load rfl sc_24 rfl) ?_
            refine AOps.step rfl rfl rfl (AOp.lenSl rfl et_24.ht rfl) ?_
            refine AOps.step rfl rfl rfl (AOp.moveD rfl rfl) ?_
            refine AOps.nil ?_
            refine AWP.block ?_
            refine AWP.adopt 15 1 46 3 rfl rfl ?_
            refine AWP.loop (G := Nat) (fun i => Env.of [(67, .d (.v (.int .i64 (i : Int)))), (65, .d (.sl (v.copies.map Cpy.ds))), (66, .d (.v (.int .i64 ((v.copies.map Cpy.ds).length : Int)))), (15, .own 1), (2, .d (.v (.int .i64 frm))), (3, .d (.v (.int .i64 to))), (5, .d (.fp p.ds))]) (fun i => [(1, .row 46 3 ((tagTo frm p.every to v.copies i).map tds))]) (fun i => i ≤ v.copies.length) (fun i => v.copies.length - i) 0 (Nat.zero_le _) (Sub.less ⟨(SLe.of_eq rfl), SLe.refl _, SLe.refl _, SLe.refl _, SLe.refl _, SLe.refl _, SLe.refl _, trivial⟩ (row_same rfl)) ?_
            intro i hi
            refine AWP.seq ?_
            refine AWP.region ?_
            refine AOps.step rfl rfl rfl (AOp.lss rfl rfl rfl) ?_
            refine AOps.nil ?_
            refine AWP.seq ?_
            refine AWP.cond rfl (fun h7 => ?_) (fun h7 => ?_)
            · replace h7 := of_decide_eq_true h7
              rw [List.length_map] at h7
              have hlt : i < v.copies.length := by omega
              have hco := (vo.cpy _ (List.getElem_mem hlt))
              have hla := hco.last
              have hda := hco.day
              have hMs := manyTo_succ (frm := frm) (every := p.every) (to := to) hlt
              have hM1 := manyTo_le (frm := frm) (every := p.every) (to := to) (l := v.copies) (k := i + 1) (n := v.copies.length) (by omega) (Nat.le_refl _)
              have hTs := tagTo_succ (frm := frm) (every := p.every) (to := to) hlt
              have hTl := tagTo_len (frm := frm) (every := p.every) (to := to) (l := v.copies) (k := i) (by omega)
              refine AWP.skip ?_
              refine AWP.seq ?_
              refine AWP.block ?_
              refine AWP.seq ?_
              refine AWP.region ?_
              refine AOps.step rfl rfl rfl (AOp.indexAddr rfl et_24 rfl rfl i rfl (at_list hlt) rfl) ?_
              refine AOps.step rfl rfl rfl (AOp.loadAgg rfl ag_77 rfl rfl) ?_
              refine AOps.alloc 102 rfl rfl rfl rfl zt_77 rfl rfl rfl ?_
              refine AOps.store rfl rfl rfl sz_77 rfl (.head _) rfl rfl rfl (Nat.le_of_ble_eq_true rfl) ?_
              refine AOps.nil ?_
              refine AWP.seq ?_
              refine AWP.region ?_
              refine AOps.step rfl rfl rfl (AOp.moveD rfl rfl) ?_
              refine AOps.step rfl rfl rfl (AOp.fieldAddrP rfl fo_77_4 rfl) ?_
              refine AOps.step rfl rfl rfl (AOp.loadP rfl sc_3 rfl (.head _) rfl) ?_
              refine AOps.step rfl rfl rfl (AOp.fieldAddr rfl fo_28_3 rfl) ?_
              refine AOps.step rfl rfl rfl (AOp.load rfl sc_3 rfl) ?_
              refine AOps.step rfl rfl rfl (AOp.add64 rfl rfl rfl (by omega) (by omega)) ?_
              refine AOps.step rfl rfl rfl (AOp.max rfl rfl rfl) ?_
              refine AOps.step rfl rfl rfl (AOp.assignD rfl rfl) ?_
              refine AOps.nil ?_
              refine AWP.block ?_
              refine AWP.loop (G := Nat) (fun j => Env.of [(18, .d (.v (.int .i64 (dayD frm p.every v.copies[i] j)))), (17, .ptr 102 0), (67, .d (.v (.int .i64 (i : Int)))), (65, .d (.sl (v.copies.map Cpy.ds))), (66, .d (.v (.int .i64 ((v.copies.map Cpy.ds).length : Int)))), (15, .own 1), (2, .d (.v (.int .i64 frm))), (3, .d (.v (.int .i64 to))), (5, .d (.fp p.ds))]) (fun j => [(102, .cells ((v.copies[i]).ds.map S.d)), (1, .row 46 3 (((tagTo frm p.every to v.copies i) ++ (tagC frm p.every to v.copies[i] i).take j).map tds))]) (fun j => j ≤ cntD frm p.every to v.copies[i]) (fun j => cntD frm p.every to v.copies[i] - j) 0 (Nat.zero_le _) (Sub.less ⟨(SLe.i64 (by unfold dayD; rw [max_fst]; simp)), SLe.refl _, SLe.refl _, SLe.refl _, SLe.refl _, SLe.refl _, SLe.refl _, SLe.refl _, SLe.refl _, trivial⟩ (row_both (by rw [List.take_zero, List.append_nil]))) ?_
              intro j hj
              refine AWP.seq ?_
              refine AWP.seq ?_
              refine AWP.region ?_
              refine AOps.step rfl rfl rfl (AOp.moveD rfl rfl) ?_
              refine AOps.step rfl rfl rfl (AOp.moveD rfl rfl) ?_
              refine AOps.step rfl rfl rfl (AOp.lss rfl rfl rfl) ?_
              refine AOps.nil ?_
              refine AWP.cond rfl (fun h8 => ?_) (fun h8 => ?_)
              · replace h8 := of_decide_eq_true h8
                have hjl : j < cntD frm p.every to v.copies[i] := (cnt_iff he.1 _ _).1 h8
                have hdb := day_bound he.1 hsp.1.1 hsp.2.2 hjl
                have hTn := tagC_next (frm := frm) (every := p.every) (to := to) v.copies[i] i hjl
                have hdn : dayD frm p.every v.copies[i] (j + 1) = dayD frm p.every v.copies[i] j + p.every := by unfold dayD; rw [show ((j + 1 : Nat) : Int) = (j : Int) + 1 from rfl, Int.add_mul, Int.one_mul]; omega
                refine AWP.skip ?_
                refine AWP.seq ?_
                refine AWP.block ?_
                refine AWP.region ?_
                refine AOps.step rfl rfl rfl (AOp.moveO rfl rfl) ?_
                refine AOps.step rfl rfl rfl (AOp.moveD rfl rfl) ?_
                refine AOps.step rfl rfl rfl (AOp.fieldAddrP rfl fo_77_0 rfl) ?_
                refine AOps.step rfl rfl rfl (AOp.loadP rfl sc_9 rfl (.head _) rfl) ?_
                refine AOps.step rfl rfl rfl (AOp.fieldAddrP rfl fo_77_1 rfl) ?_
                refine AOps.step rfl rfl rfl (AOp.loadP rfl sc_9 rfl (.head _) rfl) ?_
                refine AOps.step rfl rfl rfl (AOp.build rfl bu_46 (.cons rfl rfl (.cons rfl rfl (.cons rfl rfl .nil))) rfl) ?_
                refine AOps.step rfl rfl rfl (AOp.buildSlice rfl et_41 (.cons rfl rfl rfl .nil) rfl (by decide)) ?_
                -- append 93
                refine AOps.append rfl rfl rfl rfl et_41 rfl (.tail _ (.head _)) rfl (by simp [D.parts]) (by simp [tagC_len]; omega) (by simp [tagC_len]; omega) ?_
                refine AOps.step rfl rfl rfl (AOp.assignO rfl rfl) ?_
                refine AOps.nil ?_
                refine AWP.region ?_
                refine AOps.step rfl rfl rfl (AOp.moveD rfl rfl) ?_
                refine AOps.step rfl rfl rfl (AOp.fieldAddr rfl fo_28_3 rfl) ?_
                refine AOps.step rfl rfl rfl (AOp.load rfl sc_3 rfl) ?_
                refine AOps.step rfl rfl rfl (AOp.add64 rfl rfl rfl (by omega) (by omega)) ?_
                refine AOps.step rfl rfl rfl (AOp.assignD rfl rfl) ?_
                refine AOps.nil ?_
                refine ⟨j + 1, hjl, (by dsimp only; omega), Sub.less ⟨(SLe.i64 hdn.symm), SLe.refl _, SLe.refl _, SLe.refl _, SLe.refl _, SLe.refl _, SLe.refl _, SLe.refl _, SLe.refl _, trivial⟩ (row_both (by rw [hTn, ← List.append_assoc]; simp only [List.map_append]; rfl))⟩
              · replace h8 := of_decide_eq_false h8
                have hjl : ¬ j < cntD frm p.every to v.copies[i] := fun hh => h8 ((cnt_iff he.1 _ _).2 hh)
                obtain rfl : j = cntD frm p.every to v.copies[i] := by omega
                rw [show cntD frm p.every to v.copies[i] = (tagC frm p.every to v.copies[i] i).length from (tagC_len _ _).symm, List.take_length, ← hTs]
                refine AWP.exit ?_
                refine AWP.region ?_
                refine AOps.step rfl rfl rfl (AOp.add64 rfl rfl rfl (by omega) (by omega)) ?_
                refine AOps.step rfl rfl rfl (AOp.moveD rfl rfl) ?_
                refine AOps.nil ?_
                refine ⟨i + 1, (by omega), (by dsimp only; omega), Sub.less ⟨(SLe.of_eq rfl), SLe.refl _, SLe.refl _, SLe.refl _, SLe.refl _, SLe.refl _, SLe.refl _, trivial⟩ (row_same2 rfl)⟩
            · replace h7 := of_decide_eq_false h7
              rw [List.length_map] at h7
              obtain rfl : i = v.copies.length := by omega
              have hinc := tag_incr he.1 hsp.1.1 hsp.2.2 (l := v.copies) v.copies.length
              have hTl := tagTo_len (frm := frm) (every := p.every) (to := to) (l := v.copies) (Nat.le_refl _)
              refine AWP.exit ?_
              refine AWP.seq ?_
              refine AWP.region ?_
              refine AOps.step rfl rfl rfl (AOp.moveO rfl rfl) ?_
              -- turns 1
              refine AOps.callX rfl rfl rfl (.cons (SLe.refl _) (.cons (SLe.fn _) .nil)) ((c_sortStable cmpT pre_cmpT _ [] (fun x y => c_dueCmp x y) (dueAll v p frm to) (by show (tagTo _ _ _ _ _).length ≤ _; omega) (tags_of hinc) (incr_of hinc _)) 1) ⟨(.head _), trivial⟩ rfl rfl (fun _ h => nomatch h) ?_
              refine AOps.nil ?_
              refine AWP.seq ?_
              refine AWP.region ?_
              refine AOps.step rfl rfl rfl (AOp.moveO rfl rfl) ?_
              refine AOps.step rfl rfl rfl (AOp.assignO rfl rfl) ?_
              refine AOps.step rfl rfl rfl (AOp.assignD rfl rfl) ?_
              refine AOps.nil ?_
              refine AWP.ret ?_
              refine ⟨RetD.own rfl (.head _) ?_, RetD.eq rfl ?_, trivial⟩
              all_goals (rfl)

end Go.Proofs.YtieccphckobhjaaDoor


namespace Go.Proofs.YtieccphckobhjaaDoor
open Go.RowKit
set_option linter.unusedVariables false

theorem wp_to2 {P : Program} {o : Oper} {a : Act} {w : World} {K K' : Act → World → Prop} {Q Q' : Exit → Act → World → Prop} (h : ∀ a w, K a w → K' a w) (hq : ∀ e a w, e ≠ .normal → Q e a w → Q' e a w)
    (hh : o.wp P a w K Q) : o.wp P a w K' Q' := by
  unfold Oper.wp at *
  generalize (execOp a.eval o).run P w = r at *
  cases r with
  | ok n w' =>
    cases n <;> simp only [Oper.upon] at hh ⊢ <;>
      first
        | exact h _ _ hh
        | exact Calls.mono hh (fun e w'' he => by cases e <;> first | exact h _ _ he | exact hq _ _ _ (by simp) he | exact he.imp fun _ => Exists.imp fun _ => hq _ _ _ (by simp))
        | exact Rows.mono hh (fun _ _ he => h _ _ he)
  | halt x w' => cases x <;> simp only [Oper.upon] at hh ⊢ <;> first | exact hq _ _ _ (by simp) hh | exact hh

def Region.edge (ops : Array Oper) (m j : Nat) : Bool := ((ops[m]?).map fun o => o.after.any fun e => Region.binds .any e && Nat.beq e.on j).getD false
/-- Who must come before lies before. -/
def Region.downB (ops : Array Oper) : Bool := (List.range ops.size).all fun i =>
  ((ops[i]?).map fun o => (o.after.all fun e => !Region.binds .any e || Nat.blt e.on i) && (match o.guard with | none => true | some p => Nat.blt p.1 i)).getD true
/-- From k on each one waits for all before it. -/
def Region.chainB (ops : Array Oper) (k : Nat) : Bool := Region.downB ops && Nat.ble k ops.size && (List.range (ops.size - 1)).all fun j =>
  (List.range ops.size).any fun m => Nat.blt j m && (Nat.ble m k || Nat.ble m (j + 1)) && Region.edge ops m j
theorem Region.edge_spec {ops : Array Oper} {m j : Nat} (h : Region.edge ops m j = true) : ∃ o, ops[m]? = some o ∧ ∃ e ∈ o.after, Region.binds .any e = true ∧ e.on = j := by
  unfold Region.edge at h
  cases ho : ops[m]? with
  | none => rw [ho] at h; simp at h
  | some o =>
    rw [ho] at h
    simp only [Option.map_some, Option.getD_some, Array.any_eq_true'] at h
    obtain ⟨e, he, hb⟩ := h
    simp only [Bool.and_eq_true] at hb
    exact ⟨o, rfl, e, he, hb.1, Nat.eq_of_beq_eq_true hb.2⟩
theorem Region.down_spec {ops : Array Oper} (h : Region.downB ops = true) {i : Nat} {o : Oper} (ho : ops[i]? = some o) : (∀ e ∈ o.after, Region.binds .any e = true → e.on < i) ∧ ∀ p, o.guard = some p → p.1 < i := by
  have h1 := List.all_eq_true.1 h i (List.mem_range.2 (Array.getElem?_eq_some_iff.1 ho).1)
  rw [ho] at h1
  simp only [Option.map_some, Option.getD_some, Bool.and_eq_true] at h1
  refine ⟨fun e he hb => ?_, fun p hp => ?_⟩
  · have := Array.all_eq_true_iff_forall_mem.1 h1.1 e he
    rw [hb] at this
    simpa [Nat.blt_eq] using this
  · have h2 := h1.2
    rw [hp] at h2
    simpa [Nat.blt_eq] using h2
structure Chain (ops : Array Oper) (k : Nat) : Prop where
  down : Region.downB ops = true
  le : k ≤ ops.size
  next : ∀ j, j < ops.size - 1 → ∃ m, j < m ∧ (m ≤ k ∨ m ≤ j + 1) ∧ Region.edge ops m j = true
theorem Chain.of {ops : Array Oper} {k : Nat} (h : Region.chainB ops k = true) : Chain ops k := by
  unfold Region.chainB at h
  simp only [Bool.and_eq_true] at h
  obtain ⟨⟨h1, h2⟩, h3⟩ := h
  refine ⟨h1, Nat.le_of_ble_eq_true h2, fun j hj => ?_⟩
  have h4 := List.all_eq_true.1 h3 j (List.mem_range.2 hj)
  obtain ⟨m, _, hm⟩ := List.any_eq_true.1 h4
  simp only [Bool.and_eq_true, Bool.or_eq_true, Nat.blt_eq] at hm
  exact ⟨m, hm.1.1, hm.1.2.imp Nat.le_of_ble_eq_true Nat.le_of_ble_eq_true, hm.2⟩

def Closed (ops : Array Oper) (listed : Array Bool) : Prop := ∀ i o, ops[i]? = some o → listed.getD i false = true → ∀ e ∈ o.after, Region.binds .any e = true → listed.getD e.on false = true
theorem getD_tf {listed : Array Bool} {j : Nat} (h : j < listed.size) (a b : Bool) : listed.getD j a = listed.getD j b := by simp [Array.getD_eq_getD_getElem?, h]
theorem Closed.set {ops : Array Oper} {listed : Array Bool} (h : Closed ops listed) {i : Nat} (hi : i ∈ Region.ready .any ops listed) : Closed ops (listed.setIfInBounds i true) := by
  intro m o ho hm e he hb
  by_cases hmi : i = m
  · subst hmi
    obtain ⟨_, o', ho', hall⟩ := mem_ready.1 hi
    rw [ho] at ho'; cases ho'
    exact getD_set_true (hall e he hb)
  · rw [getD_set_ne false hmi] at hm
    exact getD_set_true (h m o ho hm e he hb)
theorem Chain.before {ops : Array Oper} {k : Nat} (hC : Chain ops k) {listed : Array Bool} (hc : Closed ops listed) {i : Nat} (hi : i ∈ Region.ready .any ops listed) (hk : k ≤ i) : ∀ d j, j + d = i → 0 < d → listed.getD j false = true := by
  obtain ⟨_, oi, hoi, hall⟩ := mem_ready.1 hi
  have hlt : i < ops.size := (Array.getElem?_eq_some_iff.1 hoi).1
  intro d
  induction d using Nat.strongRecOn with
  | ind d ih =>
    intro j hj hd
    obtain ⟨m, h1, h2, h3⟩ := hC.next j (by omega)
    obtain ⟨o, ho, e, he, hb, heq⟩ := Region.edge_spec h3
    by_cases hmi : m = i
    · subst hmi
      rw [hoi] at ho; cases ho
      rw [← heq]; exact hall e he hb
    · have := ih (i - m) (by omega) m (by omega) (by omega)
      rw [← heq]; exact hc m o ho this e he hb
theorem ready_least {ops : Array Oper} (hd : Region.downB ops = true) {listed : Array Bool} (hs : listed.size = ops.size) : ∀ j, j < ops.size → listed.getD j true = false → ∃ m, m ≤ j ∧ m ∈ Region.ready .any ops listed := by
  intro j
  induction j using Nat.strongRecOn with
  | ind j ih =>
    intro hj hu
    by_cases hr : j ∈ Region.ready .any ops listed
    · exact ⟨j, Nat.le_refl _, hr⟩
    · have ho : ops[j]? = some ops[j] := Array.getElem?_eq_getElem hj
      have : ¬ ∀ e ∈ ops[j].after, Region.binds .any e = true → listed.getD e.on false = true := fun hh => hr (mem_ready.2 ⟨hu, _, ho, hh⟩)
      simp only [Classical.not_forall] at this
      obtain ⟨e, he, hb, hn⟩ := this
      have hlt := (Region.down_spec hd ho).1 e he hb
      obtain ⟨m, h1, h2⟩ := ih e.on hlt (by omega) (by
        rw [getD_tf (by omega) true false]
        simpa using hn)
      exact ⟨m, by omega, h2⟩
section
variable {P : Program} {ops : Array Oper} {Q Q0 : Exit → Act → World → Prop} {k : Nat}
theorem wpAny_chain (hC : Chain ops k) : ∀ (l : List Oper) (i : Nat) (listed : Array Bool) (fuel : Nat) (a : Act) (w : World), (∀ j, l[j]? = ops[i + j]?) → i + l.length = ops.size → k ≤ i → listed.size = ops.size →
    (∀ j, j < i → listed.getD j false = true) → (∀ j, i ≤ j → j < ops.size → listed.getD j true = false) → Closed ops listed → l.length ≤ fuel → wpList P ops Q l a w → wpAny P .any ops Q fuel listed a w
  | [], i, listed, fuel, a, w, hl, hsz, hk, hls, h1, h2, hc, hf, h => by
    have hr : Region.ready .any ops listed = [] := by
      refine List.eq_nil_iff_forall_not_mem.2 fun m hm => ?_
      obtain ⟨hu, o, ho, _⟩ := mem_ready.1 hm
      have hlt : m < ops.size := (Array.getElem?_eq_some_iff.1 ho).1
      have := h1 m (by simp at hsz; omega)
      rw [getD_tf (by omega) false true, hu] at this
      simp at this
    cases fuel with
    | zero => exact ⟨hr, h⟩
    | succ f => exact ⟨fun _ => h, fun m hm => by rw [hr] at hm; cases hm⟩
  | o :: l, i, listed, fuel, a, w, hl, hsz, hk, hls, h1, h2, hc, hf, h => by
    have h0 : ops[i]? = some o := by simpa using (hl 0).symm
    have hlt : i < ops.size := (Array.getElem?_eq_some_iff.1 h0).1
    have hl' : ∀ j, l[j]? = ops[i + 1 + j]? := fun j => by have := hl (j + 1); simpa [Nat.add_assoc, Nat.add_comm 1 j] using this
    have hui := h2 i (Nat.le_refl _) hlt
    have hir : i ∈ Region.ready .any ops listed := mem_ready.2 ⟨hui, o, h0, fun e he hb => h1 _ ((Region.down_spec hC.down h0).1 e he hb)⟩
    have hnext : ∀ (a' : Act) (w' : World), wpList P ops Q l a' w' → wpAny P .any ops Q (fuel - 1) (listed.setIfInBounds i true) a' w' := fun a' w' h' =>
      wpAny_chain hC l (i + 1) _ _ a' w' hl' (by simp at hsz; omega) (by omega) (by simp [hls]) (fun j hj => by
        by_cases hji : i = j
        · subst hji
          simp [Array.getD_eq_getD_getElem?, hls, hlt]
        · rw [getD_set_ne false hji]; exact h1 j (by omega)) (fun j hj hj2 => by rw [getD_set_ne true (by omega)]; exact h2 j (by omega) hj2) (hc.set hir) (by simp at hf; omega) h'
    obtain ⟨f, rfl⟩ : ∃ f, fuel = f + 1 := ⟨fuel - 1, by simp at hf; omega⟩
    refine ⟨fun hr => (by rw [hr] at hir; cases hir), fun m hm => ?_⟩
    obtain ⟨hu, o', ho', _⟩ := mem_ready.1 hm
    have hm2 : m = i := by
      have hmlt : m < ops.size := (Array.getElem?_eq_some_iff.1 ho').1
      rcases Nat.lt_trichotomy m i with hh | hh | hh
      · have := h1 m hh
        rw [getD_tf (by omega) false true, hu] at this
        simp at this
      · exact hh
      · have := hC.before hc hm (by omega) (m - i) i (by omega) (by omega)
        rw [getD_tf (by omega) false true, hui] at this
        simp at this
    subst hm2
    unfold wpOp
    simp only [h0]
    unfold wpList at h
    by_cases hw : Region.wanted o (yielded ops a.tmps) = true
    · rw [if_pos hw] at h ⊢
      exact h.imp (Oper.wp_mono hnext) id
    · rw [if_neg hw] at h ⊢
      exact hnext _ _ h
theorem wanted_same {ops0 : Array Oper} {o : Oper} {tmps : Array Value} (h : ∀ p, o.guard = some p → ops0[p.1]? = ops[p.1]?) : Region.wanted o (yielded ops0 tmps) = Region.wanted o (yielded ops tmps) := by
  unfold Region.wanted
  cases hg : o.guard with
  | none => rfl
  | some p =>
    obtain ⟨j, want⟩ := p
    have := h (j, want) hg
    dsimp only at this ⊢
    unfold yielded
    rw [this]
theorem wpAny_split (hC : Chain ops k) {ops0 : Array Oper} (h0 : ops0.size = k) (hpre : ∀ j, j < k → ops0[j]? = ops[j]?) (hN : ∀ a w, Q0 .normal a w → wpList P ops Q (ops.toList.drop k) a w) (hE : ∀ e a w, e ≠ .normal → Q0 e a w → Q e a w) :
    ∀ (fuel0 : Nat) (listed0 listed : Array Bool) (fuel : Nat) (a : Act) (w : World), listed0.size = k → listed.size = ops.size → (∀ j, j < k → ∀ d, listed0.getD j d = listed.getD j d) → (∀ j, k ≤ j → j < ops.size → listed.getD j true = false) →
      Closed ops listed → fuel0 + (ops.size - k) ≤ fuel → wpAny P .any ops0 Q0 fuel0 listed0 a w → wpAny P .any ops Q fuel listed a w := by
  have hle := hC.le
  have hd0 : Region.downB ops0 = true := by
    unfold Region.downB
    refine List.all_eq_true.2 fun i hi => ?_
    have hik := List.mem_range.1 hi
    have h1 := List.all_eq_true.1 hC.down i (List.mem_range.2 (by omega))
    rw [hpre i (by omega)]
    exact h1
  have all : ∀ (fuel0 : Nat) (listed0 listed : Array Bool) (fuel : Nat) (a : Act) (w : World), listed0.size = k → listed.size = ops.size → (∀ j, j < k → ∀ d, listed0.getD j d = listed.getD j d) → (∀ j, k ≤ j → j < ops.size → listed.getD j true = false) →
      Closed ops listed → fuel0 + (ops.size - k) ≤ fuel → wpAny P .any ops0 Q0 fuel0 listed0 a w → (∀ j, j < k → listed.getD j false = true) → wpAny P .any ops Q fuel listed a w := by
    intro fuel0 listed0 listed fuel a w hs0 hs hag hun hc hf H hall
    have hr0 : Region.ready .any ops0 listed0 = [] := by
      refine List.eq_nil_iff_forall_not_mem.2 fun m hm => ?_
      obtain ⟨hu, o, ho, _⟩ := mem_ready.1 hm
      have hlt : m < ops0.size := (Array.getElem?_eq_some_iff.1 ho).1
      have h1 := hall m (by omega)
      rw [← hag m (by omega), getD_tf (by omega) false true, hu] at h1
      simp at h1
    have hQ : Q0 .normal a w := by
      cases fuel0 with
      | zero => exact H.2
      | succ f => exact H.1 hr0
    exact wpAny_chain hC (ops.toList.drop k) k listed fuel a w (fun j => by rw [List.getElem?_drop, Array.getElem?_toList]) (by rw [List.length_drop, Array.length_toList]; omega) (Nat.le_refl _) hs hall hun hc (by rw [List.length_drop, Array.length_toList]; omega) (hN a w hQ)
  intro fuel0
  induction fuel0 with
  | zero =>
    intro listed0 listed fuel a w hs0 hs hag hun hc hf H
    refine all 0 listed0 listed fuel a w hs0 hs hag hun hc hf H fun j hj => ?_
    cases hh : listed.getD j false with
    | true => rfl
    | false =>
      rw [← hag j hj, getD_tf (by omega) false true] at hh
      obtain ⟨m, _, hm⟩ := ready_least hd0 (by omega) j (by omega) hh
      rw [H.1] at hm; cases hm
  | succ fuel0 ih =>
    intro listed0 listed fuel a w hs0 hs hag hun hc hf H
    by_cases hall : ∀ j, j < k → listed.getD j false = true
    · exact all _ listed0 listed fuel a w hs0 hs hag hun hc hf H hall
    · simp only [Classical.not_forall] at hall
      obtain ⟨j, hj, hjn⟩ := hall
      have hju : listed.getD j true = false := by rw [getD_tf (by omega) true false]; simpa using hjn
      obtain ⟨f, rfl⟩ : ∃ f, fuel = f + 1 := ⟨fuel - 1, by omega⟩
      refine ⟨fun hr => ?_, fun m hm => ?_⟩
      · obtain ⟨m, _, hm⟩ := ready_least hC.down hs j (by omega) hju
        rw [hr] at hm; cases hm
      · obtain ⟨hu, o, ho, hdep⟩ := mem_ready.1 hm
        have hmlt : m < ops.size := (Array.getElem?_eq_some_iff.1 ho).1
        have hmk : m < k := by
          refine Nat.lt_of_not_le fun hkm => hjn ?_
          exact hC.before hc hm hkm (m - j) j (by omega) (by omega)
        have ho0 : ops0[m]? = some o := by rw [hpre m hmk]; exact ho
        have hm0 : m ∈ Region.ready .any ops0 listed0 := mem_ready.2 ⟨by rw [hag m hmk]; exact hu, o, ho0, fun e he hb => by
          have := (Region.down_spec hC.down ho).1 e he hb
          rw [hag _ (by omega)]; exact hdep e he hb⟩
        have h1 := H.2 m hm0
        unfold wpOp at h1 ⊢
        simp only [ho, ho0] at h1 ⊢
        rw [wanted_same (ops := ops) fun p hp => hpre _ (by have := (Region.down_spec hC.down ho).2 p hp; omega)] at h1
        have hnext : ∀ (a' : Act) (w' : World), wpAny P .any ops0 Q0 fuel0 (listed0.setIfInBounds m true) a' w' → wpAny P .any ops Q f (listed.setIfInBounds m true) a' w' := fun a' w' h' =>
          ih _ _ f a' w' (by simp [hs0]) (by simp [hs]) (fun j hj d => by
            by_cases hmj : m = j
            · subst hmj
              simp [Array.getD_eq_getD_getElem?, hs0, hs, hmk, hmlt]
            · rw [getD_set_ne d hmj, getD_set_ne d hmj]; exact hag j hj d) (fun j hj hj2 => by rw [getD_set_ne true (by omega)]; exact hun j hj hj2) (hc.set hm) (by omega) h'
        by_cases hw : Region.wanted o (yielded ops a.tmps) = true
        · rw [if_pos hw] at h1 ⊢
          exact h1.imp (wp_to2 hnext hE) fun h => ⟨h.1, h.2.imp fun _ => Exists.imp fun _ => hE _ _ _ (by simp)⟩
        · rw [if_neg hw] at h1 ⊢
          exact hnext _ _ h1
end
/-- A region that draws its order, whose operations from k on wait for all before them: in the order of the text. -/
theorem AWP.drawTail {cx : Cx} {id : Nat} {l : List Oper} {e : Env} {σ : Obs} {Q : Post} (k : Nat) (hm : cx.P.follows .mixedOrders = true) (hB : Region.lexB .any (l.take k).toArray = true) (hC : Region.chainB l.toArray k = true)
    (h : DRun cx (l.take k).toArray σ (l.take k) e (fun e => AOps cx l.toArray (l.drop k) e σ Q)) : AWP cx (.region id l.toArray true) e σ Q := by
  intro a w ⟨F, ρ, hr⟩
  simp only [Region.lexB, Bool.and_eq_true] at hB
  have hch := Chain.of hC
  have hkl : k ≤ l.length := by simpa using hch.le
  have h1 := anyD_lex (l.take k) 0 (Array.replicate (l.take k).toArray.size false) e (by simp) (by simpa using hB.2) h
  have h2 := wpAny_of_D (cx := cx) (ops := (l.take k).toArray) (Q := fun ex e σ => match ex with | .normal => AOps cx l.toArray (l.drop k) e σ Q | _ => False) (by simpa using DRun.dsts _ e h) _ _ e a _ ⟨F, ρ, hr.drew⟩ h1
  refine wp_region_any hm (wpAny_split hch (ops0 := (l.take k).toArray) (by simp; omega) (fun j hj => by simp [hj]) ?_ ?_ (l.take k).length _ _ _ _ _ (by simp; omega) (by simp) ?_ ?_ ?_ (by simp; omega) h2)
  · rintro a w ⟨e, σ, h3, h4⟩
    have := h3 a w h4
    simpa using this
  · rintro ex a w hne ⟨e, σ, h3, _⟩
    cases ex <;> first | exact absurd rfl hne | exact h3.elim
  · intro j hj d
    have h5 : j < l.length := by omega
    have h6 : j < min k l.length := by omega
    simp [Array.getD_eq_getD_getElem?, h5, h6]
  · intro j hj hj2
    have : j < l.length := by simpa using hj2
    simp [Array.getD_eq_getD_getElem?, this]
  · intro i o ho hi
    have : i < l.length := by simpa using (Array.getElem?_eq_some_iff.1 ho).1
    simp [Array.getD_eq_getD_getElem?, this] at hi
end Go.Proofs.YtieccphckobhjaaDoor


namespace Go.Proofs.YtieccphckobhjaaDoor
open Go.RowKit
set_option linter.unusedVariables false

/-! Types. -/
namespace TyE3
theorem ag_26 : AggT Tryd.prog 26 3 := .of (by kernel_rfl)
theorem ag_28 : AggT Tryd.prog 28 6 := .of (by kernel_rfl)
theorem ag_77 : AggT Tryd.prog 77 7 := .of (by kernel_rfl)
theorem bu_46 : StructT Tryd.prog 46 (fun i => (#[(0, 1), (1, 1), (2, 1)] : Array (Nat × Nat))[i]?) [(.int .i64 0), (.string ⟨#[]⟩), (.string ⟨#[]⟩)] := .of (by kernel_rfl) (by kernel_rfl) (by decide)
theorem et_24 : ElemTy Tryd.prog 24 77 7 96 (.agg #[(.string ⟨#[]⟩), (.string ⟨#[]⟩), (.string ⟨#[]⟩), (.int .i64 0), (.int .i64 0), (.int .i64 0), (.slice none 0 0)]) := ⟨by kernel_rfl, by kernel_rfl, by kernel_rfl, by decide⟩
theorem et_41 : ElemTy Tryd.prog 41 46 3 40 (.agg #[(.int .i64 0), (.string ⟨#[]⟩), (.string ⟨#[]⟩)]) := ⟨by kernel_rfl, by kernel_rfl, by kernel_rfl, by decide⟩
theorem et_75 : ElemTy Tryd.prog 75 3 1 8 (.int .i64 0) := ⟨by kernel_rfl, by kernel_rfl, by kernel_rfl, by decide⟩
theorem fo_26_2 : fieldOff Tryd.prog 26 2 = some 2 := by kernel_rfl
theorem fo_28_3 : fieldOff Tryd.prog 28 3 = some 3 := by kernel_rfl
theorem fo_77_0 : fieldOff Tryd.prog 77 0 = some 0 := by kernel_rfl
theorem fo_77_1 : fieldOff Tryd.prog 77 1 = some 1 := by kernel_rfl
theorem fo_77_4 : fieldOff Tryd.prog 77 4 = some 4 := by kernel_rfl
theorem sc_24 : Scal Tryd.prog 24 := .of (by kernel_rfl)
theorem sc_3 : Scal Tryd.prog 3 := .of (by kernel_rfl)
theorem sc_9 : Scal Tryd.prog 9 := .of (by kernel_rfl)
theorem sz_3 : ∀ w, (sizeOf 3).run Tryd.prog w = .ok 1 w := SizeT.of (by kernel_rfl)
theorem sz_77 : ∀ w, (sizeOf 77).run Tryd.prog w = .ok 7 w := SizeT.of (by kernel_rfl)
theorem zt_77 : (Tryd.prog.info? 77).bind (·.zero) = some (.agg #[(.string ⟨#[]⟩), (.string ⟨#[]⟩), (.string ⟨#[]⟩), (.int .i64 0), (.int .i64 0), (.int .i64 0), (.slice none 0 0)]) := by kernel_rfl
end TyE3
open TyE3


theorem take_snoc_map {α β : Type} (f : α → β) {l : List α} {k : Nat} (hk : k < l.length) : (l.take (k + 1)).map f = (l.take k).map f ++ [f l[k]] := by rw [List.take_add_one, List.getElem?_eq_getElem hk, Option.toList_some, List.map_append]; rfl
theorem at_opt {α : Type} {l : List α} {f : α → List D} {k : Nat} {x : α} (h : l[k]? = some x) : (l.map f)[k]? = some (f x) := by simp [h]
theorem rows_both {i1 e1 s1 i2 e2 s2 : Nat} {a1 b1 a2 b2 : List (List D)} {τ : Obs} (h1 : a1 = b1) (h2 : a2 = b2) : ∀ p ∈ [(i1, Ob.row e1 s1 b1), (i2, Ob.row e2 s2 b2)], p ∈ (i1, Ob.row e1 s1 a1) :: (i2, Ob.row e2 s2 a2) :: τ := fun p hp => by
  subst h1; subst h2
  rcases List.mem_cons.1 hp with rfl | hp
  · exact .head _
  · rw [List.mem_singleton] at hp; subst hp; exact .tail _ (.head _)
section
variable (frm every to : Int)
def nextOf (l : List Cpy) (ns : List Nat) : List Int := List.zipWith (fun c n => dayD frm every c n) l ns
structure Sel (l : List Cpy) (ns : List Nat) (o : List (Tsk × Nat)) : Prop where
  len : ns.length = l.length
  le : ∀ (i : Nat) (c : Cpy) (n : Nat), l[i]? = some c → ns[i]? = some n → n ≤ cntD frm every to c
  mem : ∀ x, x ∈ o ↔ ∃ (i : Nat) (c : Cpy) (n k : Nat), l[i]? = some c ∧ ns[i]? = some n ∧ k < n ∧ x = elD frm every c i k
  sorted : o.Pairwise (tlt cmpT)
  below : ∀ x, x ∈ o → ∀ (i : Nat) (c : Cpy) (n k : Nat), l[i]? = some c → ns[i]? = some n → n ≤ k → k < cntD frm every to c → tlt cmpT x (elD frm every c i k)
  count : o.length = ns.sum
/-- The best one so far. -/
def BestR (L : List Int) (i : Nat) (b : Int) : Prop := (b = -1 ∧ ∀ j y, j < i → L[j]? = some y → ¬ y < to) ∨ ∃ n x, b = ((n : Nat) : Int) ∧ n < i ∧ L[n]? = some x ∧ x < to ∧ ∀ j y, j < i → L[j]? = some y → y < to → x < y ∨ (x = y ∧ n ≤ j)
end
variable {frm every to : Int}
theorem BestR.start (L : List Int) : BestR to L 0 (-1) := .inl ⟨rfl, fun _ _ h => by omega⟩
theorem BestR.skip {L : List Int} {i : Nat} {b x : Int} (h : BestR to L i b) (hx : L[i]? = some x) (hn : ¬ x < to) : BestR to L (i + 1) b := by
  rcases h with ⟨h1, h2⟩ | ⟨n, z, h1, h2, h3, h4, h5⟩
  · refine .inl ⟨h1, fun j y hj hy => ?_⟩
    by_cases e : j = i
    · subst e; rw [hx] at hy; cases hy; exact hn
    · exact h2 j y (by omega) hy
  · refine .inr ⟨n, z, h1, by omega, h3, h4, fun j y hj hy hyt => ?_⟩
    by_cases e : j = i
    · subst e; rw [hx] at hy; cases hy; exact absurd hyt hn
    · exact h5 j y (by omega) hy hyt
theorem BestR.first {L : List Int} {i : Nat} {b x : Int} (h : BestR to L i b) (hx : L[i]? = some x) (ht : x < to) (hb : b < 0) : BestR to L (i + 1) i := by
  rcases h with ⟨h1, h2⟩ | ⟨n, z, h1, h2, h3, h4, h5⟩
  · refine .inr ⟨i, x, rfl, by omega, hx, ht, fun j y hj hy hyt => ?_⟩
    by_cases e : j = i
    · subst e; rw [hx] at hy; cases hy; exact .inr ⟨rfl, Nat.le_refl _⟩
    · exact absurd hyt (h2 j y (by omega) hy)
  · omega
theorem BestR.better {L : List Int} {i n : Nat} {b x z : Int} (h : BestR to L i b) (hx : L[i]? = some x) (ht : x < to) (hb : b = (n : Int)) (hz : L[n]? = some z) (hlt : x < z) : BestR to L (i + 1) i := by
  rcases h with ⟨h1, h2⟩ | ⟨n', z', h1, h2, h3, h4, h5⟩
  · omega
  · have : n' = n := by omega
    subst this
    rw [hz] at h3; cases h3
    refine .inr ⟨i, x, rfl, by omega, hx, ht, fun j y hj hy hyt => ?_⟩
    by_cases e : j = i
    · subst e; rw [hx] at hy; cases hy; exact .inr ⟨rfl, Nat.le_refl _⟩
    · rcases h5 j y (by omega) hy hyt with h6 | h6 <;> exact .inl (by omega)
theorem BestR.worse {L : List Int} {i n : Nat} {b x z : Int} (h : BestR to L i b) (hx : L[i]? = some x) (hb : b = (n : Int)) (hz : L[n]? = some z) (hlt : ¬ x < z) : BestR to L (i + 1) b := by
  rcases h with ⟨h1, h2⟩ | ⟨n', z', h1, h2, h3, h4, h5⟩
  · omega
  · have : n' = n := by omega
    subst this
    rw [hz] at h3; cases h3
    refine .inr ⟨n', z, h1, by omega, hz, h4, fun j y hj hy hyt => ?_⟩
    by_cases e : j = i
    · subst e; rw [hx] at hy; cases hy
      by_cases e2 : z = x
      · exact .inr ⟨e2, by omega⟩
      · exact .inl (by omega)
    · exact h5 j y (by omega) hy hyt
theorem BestR.idx {L : List Int} {i : Nat} {b : Int} (h : BestR to L i b) (hb : ¬ b < 0) : ∃ n z, b = ((n : Nat) : Int) ∧ n < i ∧ L[n]? = some z ∧ n < L.length := by
  rcases h with ⟨h1, h2⟩ | ⟨n, z, h1, h2, h3, h4, h5⟩
  · omega
  · exact ⟨n, z, h1, h2, h3, (List.getElem?_eq_some_iff.1 h3).1⟩
theorem nextOf_at {l : List Cpy} {ns : List Nat} {i : Nat} {c : Cpy} {n : Nat} (h1 : l[i]? = some c) (h2 : ns[i]? = some n) : (nextOf frm every l ns)[i]? = some (dayD frm every c n) := by
  unfold nextOf; rw [List.getElem?_zipWith, h1, h2]
theorem nextOf_inv {l : List Cpy} {ns : List Nat} {i : Nat} {x : Int} (h : (nextOf frm every l ns)[i]? = some x) : ∃ c n, l[i]? = some c ∧ ns[i]? = some n ∧ x = dayD frm every c n := by
  unfold nextOf at h
  rw [List.getElem?_zipWith] at h
  cases h1 : l[i]? with
  | none => rw [h1] at h; simp at h
  | some c =>
    cases h2 : ns[i]? with
    | none => rw [h1, h2] at h; simp at h
    | some n => rw [h1, h2] at h; exact ⟨c, n, rfl, rfl, (Option.some.inj h).symm⟩
theorem nextOf_len {l : List Cpy} {ns : List Nat} (h : ns.length = l.length) : (nextOf frm every l ns).length = l.length := by unfold nextOf; rw [List.length_zipWith]; omega
theorem nextOf_set {l : List Cpy} {ns : List Nat} {b : Nat} {c : Cpy} (hb : l[b]? = some c) (hl : ns.length = l.length) (m : Nat) : nextOf frm every l (ns.set b m) = (nextOf frm every l ns).set b (dayD frm every c m) := by
  apply List.ext_getElem?
  intro i
  have hbl : b < l.length := (List.getElem?_eq_some_iff.1 hb).1
  rw [List.getElem?_set, nextOf_len hl]
  unfold nextOf
  rw [List.getElem?_zipWith, List.getElem?_zipWith, List.getElem?_set]
  by_cases e : b = i
  · subst e; rw [if_pos rfl, if_pos (by omega), hb, if_pos rfl, if_pos hbl]
  · rw [if_neg e, if_neg e]
theorem nextOf_zero (l : List Cpy) : nextOf frm every l (List.replicate l.length 0) = l.map (fstD frm every) := by
  apply List.ext_getElem?
  intro i
  unfold nextOf
  rw [List.getElem?_zipWith, List.getElem?_replicate, List.getElem?_map]
  cases h : l[i]? with
  | none => rfl
  | some c =>
    rw [if_pos (List.getElem?_eq_some_iff.1 h).1]
    simp [dayD]
theorem Sel.start (l : List Cpy) : Sel frm every to l (List.replicate l.length 0) [] := by
  refine ⟨by simp, fun i c n _ hn => ?_, fun x => ⟨fun h => (nomatch h), ?_⟩, .nil, fun x h => (nomatch h), by simp⟩
  · rw [List.getElem?_replicate] at hn
    split at hn
    · cases hn; exact Nat.zero_le _
    · cases hn
  · rintro ⟨i, c, n, k, _, hn, hk, _⟩
    rw [List.getElem?_replicate] at hn
    split at hn
    · cases hn; omega
    · cases hn
theorem sum_set_one : ∀ {l : List Nat} {b n : Nat}, l[b]? = some n → (l.set b (n + 1)).sum = l.sum + 1
  | [], _, _, h => by simp at h
  | x :: l, 0, n, h => by simp at h; subst h; simp; omega
  | x :: l, b + 1, n, h => by
    have := sum_set_one (l := l) (b := b) (n := n) (by simpa using h)
    simp only [List.set_cons_succ, List.sum_cons, this]
    omega
theorem sums_lt : ∀ {l : List Cpy} {ns : List Nat}, ns.length = l.length → (∀ (i : Nat) (c : Cpy) (n : Nat), l[i]? = some c → ns[i]? = some n → n ≤ cntD frm every to c) →
    ns.sum ≤ (l.map (cntD frm every to)).sum ∧ (ns.sum = (l.map (cntD frm every to)).sum → ∀ (i : Nat) (c : Cpy) (n : Nat), l[i]? = some c → ns[i]? = some n → n = cntD frm every to c)
  | [], [], _, _ => ⟨by simp, fun _ i c n h => by simp at h⟩
  | c :: l, n :: ns, hl, h => by
    have h0 := h 0 c n rfl rfl
    obtain ⟨h1, h2⟩ := sums_lt (l := l) (ns := ns) (by simpa using hl) (fun i => h (i + 1))
    simp only [List.map_cons, List.sum_cons]
    refine ⟨by omega, fun he i c' n' hc hn => ?_⟩
    cases i with
    | zero => simp at hc hn; subst hc; subst hn; omega
    | succ i => exact h2 (by omega) i c' n' (by simpa using hc) (by simpa using hn)
  | [], _ :: _, hl, _ => by simp at hl
  | _ :: _, [], hl, _ => by simp at hl
theorem many_sum (l : List Cpy) : manyTo frm every to l l.length = (l.map (cntD frm every to)).sum := by unfold manyTo; rw [List.take_length]
/-- As long as not all were taken, one is found. -/
theorem Sel.found (he : 1 ≤ every) {l : List Cpy} {ns : List Nat} {o : List (Tsk × Nat)} {b : Int} (h : Sel frm every to l ns o) (ho : o.length < manyTo frm every to l l.length) (hb : BestR to (nextOf frm every l ns) l.length b) :
    ∃ i c n, b = ((i : Nat) : Int) ∧ l[i]? = some c ∧ ns[i]? = some n ∧ n < cntD frm every to c ∧ ∀ (j : Nat) (c' : Cpy) (n' : Nat), l[j]? = some c' → ns[j]? = some n' → n' < cntD frm every to c' → dayD frm every c n < dayD frm every c' n' ∨ (dayD frm every c n = dayD frm every c' n' ∧ i ≤ j) := by
  rcases hb with ⟨_, h2⟩ | ⟨i, x, h1, h2, h3, h4, h5⟩
  · exfalso
    obtain ⟨h3, h4⟩ := sums_lt h.len h.le
    have h5 : ns.sum = (l.map (cntD frm every to)).sum := by
      refine Nat.le_antisymm h3 ?_
      clear h4 h3 ho
      have hle : ∀ (i : Nat) (c : Cpy) (n : Nat), l[i]? = some c → ns[i]? = some n → cntD frm every to c ≤ n := fun i c n hc hn => by
        refine Nat.le_of_not_lt fun hh => ?_
        exact h2 i _ (List.getElem?_eq_some_iff.1 hc).1 (nextOf_at hc hn) ((cnt_iff he c n).2 hh)
      have hl := h.len
      clear h h2
      induction l generalizing ns with
      | nil => simp
      | cons c l ih =>
        cases ns with
        | nil => simp at hl
        | cons n ns =>
          have h0 := hle 0 c n rfl rfl
          have := ih (ns := ns) (fun i => hle (i + 1)) (by simpa using hl)
          simp only [List.map_cons, List.sum_cons]
          omega
    rw [many_sum, ← h5, h.count] at ho
    omega
  · obtain ⟨c, n, hc, hn, rfl⟩ := nextOf_inv h3
    refine ⟨i, c, n, h1, hc, hn, (cnt_iff he c n).1 h4, fun j c' n' hc' hn' hlt => ?_⟩
    exact h5 j _ (List.getElem?_eq_some_iff.1 hc').1 (nextOf_at hc' hn') ((cnt_iff he c' n').2 hlt)
theorem tlt_day {p q : Tsk × Nat} (h : p.1.day < q.1.day) : tlt cmpT p q := .inl (by unfold cmpT; rw [if_pos h]; decide)
theorem tlt_tag {p q : Tsk × Nat} (h : p.1.day = q.1.day) (h2 : p.2 < q.2) : tlt cmpT p q := .inr ⟨by unfold cmpT; rw [if_neg (by omega), if_neg (by omega)]; decide, h2⟩
theorem Sel.step (he : 1 ≤ every) {l : List Cpy} {ns : List Nat} {o : List (Tsk × Nat)} {b n : Nat} {c : Cpy} (h : Sel frm every to l ns o) (hc : l[b]? = some c) (hn : ns[b]? = some n) (hlt : n < cntD frm every to c)
    (hmin : ∀ (j : Nat) (c' : Cpy) (n' : Nat), l[j]? = some c' → ns[j]? = some n' → n' < cntD frm every to c' → dayD frm every c n < dayD frm every c' n' ∨ (dayD frm every c n = dayD frm every c' n' ∧ b ≤ j)) : Sel frm every to l (ns.set b (n + 1)) (o ++ [elD frm every c b n]) := by
  have hbl : b < ns.length := (List.getElem?_eq_some_iff.1 hn).1
  have hset : ∀ {i m : Nat}, (ns.set b (n + 1))[i]? = some m → (i = b ∧ m = n + 1) ∨ (i ≠ b ∧ ns[i]? = some m) := fun {i m} hh => by
    rw [List.getElem?_set] at hh
    by_cases e : b = i
    · rw [if_pos e, if_pos (by omega)] at hh
      exact .inl ⟨e.symm, (Option.some.inj hh).symm⟩
    · rw [if_neg e] at hh
      exact .inr ⟨Ne.symm e, hh⟩
  have hset2 : (ns.set b (n + 1))[b]? = some (n + 1) := by rw [List.getElem?_set, if_pos rfl, if_pos hbl]
  have hset3 : ∀ {i m : Nat}, i ≠ b → ns[i]? = some m → (ns.set b (n + 1))[i]? = some m := fun {i m} hne hh => by rw [List.getElem?_set, if_neg (Ne.symm hne)]; exact hh
  refine ⟨by rw [List.length_set]; exact h.len, fun i c' m hc' hm => ?_, fun x => ?_, ?_, fun x hx i c' m k hc' hm hmk hk => ?_, by rw [List.length_append, sum_set_one hn, h.count]; rfl⟩
  · rcases hset hm with ⟨rfl, rfl⟩ | ⟨hne, hm⟩
    · rw [hc] at hc'; cases hc'; exact hlt
    · exact h.le i c' m hc' hm
  · rw [List.mem_append, List.mem_singleton]
    constructor
    · rintro (hx | rfl)
      · obtain ⟨i, c', m, k, h1, h2, h3, h4⟩ := (h.mem x).1 hx
        by_cases e : i = b
        · subst e
          rw [hn] at h2; cases h2
          exact ⟨i, c', n + 1, k, h1, hset2, by omega, h4⟩
        · exact ⟨i, c', m, k, h1, hset3 e h2, h3, h4⟩
      · exact ⟨b, c, n + 1, n, hc, hset2, by omega, rfl⟩
    · rintro ⟨i, c', m, k, h1, h2, h3, rfl⟩
      rcases hset h2 with ⟨rfl, rfl⟩ | ⟨hne, h2⟩
      · rw [hc] at h1; cases h1
        by_cases e : k = n
        · subst e; exact .inr rfl
        · exact .inl ((h.mem _).2 ⟨i, c, n, k, hc, hn, by omega, rfl⟩)
      · exact .inl ((h.mem _).2 ⟨i, c', m, k, h1, h2, h3, rfl⟩)
  · rw [List.pairwise_append]
    refine ⟨h.sorted, List.pairwise_singleton _ _, fun x hx y hy => ?_⟩
    rw [List.mem_singleton] at hy
    subst hy
    exact h.below x hx b c n n hc hn (Nat.le_refl _) hlt
  · rw [List.mem_append, List.mem_singleton] at hx
    rcases hset hm with ⟨rfl, rfl⟩ | ⟨hne, hm⟩
    · rw [hc] at hc'; cases hc'
      rcases hx with hx | rfl
      · exact h.below x hx i c n k hc hn (by omega) hk
      · exact tlt_day (day_lt he (by omega))
    · rcases hx with hx | rfl
      · exact h.below x hx i c' m k hc' hm hmk hk
      · have h1 := hmin i c' m hc' hm (by omega)
        by_cases e : m = k
        · subst e
          rcases h1 with h1 | ⟨h1, h2⟩
          · exact tlt_day h1
          · refine tlt_tag h1 ?_
            unfold elD
            dsimp only
            omega
        · have h2 := day_lt (frm := frm) (c := c') he (show m < k by omega)
          refine tlt_day ?_
          unfold elD
          dsimp only
          rcases h1 with h1 | ⟨h1, _⟩ <;> omega
theorem Sel.done {v : Vlt} {p : Pol} {ns : List Nat} {o : List (Tsk × Nat)} (he : 1 ≤ p.every) (hf : 0 ≤ frm) (ht : to ≤ 200001) (h : Sel frm p.every to v.copies ns o) (ho : o.length = manyTo frm p.every to v.copies v.copies.length) : o = dueL v p frm to := by
  have hinc := tag_incr he hf ht (l := v.copies) v.copies.length
  have hfull : ∀ (i : Nat) (c : Cpy) (n : Nat), v.copies[i]? = some c → ns[i]? = some n → n = cntD frm p.every to c := (sums_lt h.len h.le).2 (by rw [← many_sum, ← ho, h.count])
  have hnd1 : o.Nodup := h.sorted.imp fun {a b} hab he => by subst he; exact tlt_irrefl pre_cmpT a hab
  have hnd2 : (dueAll v p frm to).Nodup := hinc.imp fun {a b} hab he => by subst he; omega
  have hperm : o.Perm (dueAll v p frm to) := (List.perm_ext_iff_of_nodup hnd1 hnd2).2 fun x => by
    rw [h.mem]
    unfold dueAll
    rw [mem_tagTo]
    constructor
    · rintro ⟨i, c, n, k, h1, h2, h3, h4⟩
      exact ⟨i, c, k, (List.getElem?_eq_some_iff.1 h1).1, h1, by have := h.le i c n h1 h2; omega, h4⟩
    · rintro ⟨i, c, k, hi, h1, h2, h3⟩
      have hl := h.len
      have hni : ns[i]? = some (ns[i]'(by omega)) := List.getElem?_eq_getElem (by omega)
      exact ⟨i, c, _, k, h1, hni, by rw [hfull i c _ h1 hni]; exact h2, h3⟩
  refine sortSeg_eq pre_cmpT (Nat.zero_le _) (tags_of hinc) hperm (fun q hq => ?_) (fun i j x y _ hij _ hx hy => ?_)
  · rw [List.getElem?_eq_none (by rw [hperm.length_eq]; omega), List.getElem?_eq_none (by omega)]
  · obtain ⟨h1, e1⟩ := List.getElem?_eq_some_iff.1 hx
    obtain ⟨h2, e2⟩ := List.getElem?_eq_some_iff.1 hy
    rw [← e1, ← e2]
    exact List.pairwise_iff_getElem.1 h.sorted i j h1 h2 hij


set_option maxRecDepth 100000 in
set_option maxHeartbeats 1000000 in
theorem c_rDue (v : Vlt) (p : Pol) (frm to : Int) (hs : smallV v) : ACall Tryd.prog 18 [.agg v.ds, .agg p.ds, .v (.int .i64 frm), .v (.int .i64 to)] (.tup [.sl ((dueR v p frm to).map Tsk.ds), .v (.int .i64 (dueFault v p frm to))]) := by
  refine acall_of (n := 131) (ds' := [.sl ((dueR v p frm to).map Tsk.ds), .v (.int .i64 (dueFault v p frm to))]) Tryd.func18 rfl (by kernel_rfl) rfl [8, 9] rfl rfl ?_
  intro B w0 F0 fr
  refine AWP.seq ?_
  refine AWP.region ?_
  refine AOps.step rfl rfl rfl (AOp.box rfl rfl rfl) ?_
  refine AOps.step rfl rfl rfl (AOp.box rfl rfl rfl) ?_
  refine AOps.step rfl rfl rfl (AOp.assignD rfl rfl) ?_
  refine AOps.step rfl rfl rfl (AOp.assignD rfl rfl) ?_
  refine AOps.nil ?_
  refine AWP.seq ?_
  refine AWP.seq ?_
  refine AWP.region ?_
  refine AOps.step rfl rfl rfl (AOp.loadAgg rfl ag_26 rfl rfl) ?_
  refine AOps.step rfl rfl rfl (AOp.call rfl (.cons (ArgOk.rfl' rfl) .nil) (c_rCheck v hs)) ?_
  refine AOps.step rfl rfl rfl (AOp.assignD rfl rfl) ?_
  refine AOps.nil ?_
  refine AWP.seq ?_
  refine AWP.region ?_
  refine AOps.step rfl rfl rfl (AOp.moveD rfl rfl) ?_
  refine AOps.step rfl rfl rfl (AOp.neq rfl rfl rfl) ?_
  refine AOps.nil ?_
  refine AWP.cond rfl (fun h1 => ?_) (fun h1 => ?_)
  · replace h1 := of_decide_eq_true h1
    have HB := both_v (p := p) h1
    have HF : dueFault v p frm to = checkV v := by unfold dueFault; rw [HB, if_pos h1]
    have HR : dueR v p frm to = [] := by unfold dueR; rw [HF, if_neg h1]
    rw [HR, HF]
    refine AWP.seq ?_
    refine AWP.region ?_
    refine AOps.step rfl rfl rfl (AOp.moveD rfl rfl) ?_
    refine AOps.step rfl rfl rfl (AOp.assignD rfl rfl) ?_
    refine AOps.step rfl rfl rfl (AOp.assignD rfl rfl) ?_
    refine AOps.nil ?_
    refine AWP.ret ?_
    refine ⟨RetD.nil rfl, RetD.eq rfl ?_, trivial⟩
    all_goals (rfl)
  · replace h1 := of_decide_eq_false h1
    have HB := both_p (p := p) (Decidable.not_not.1 h1)
    refine AWP.skip ?_
    refine AWP.seq ?_
    refine AWP.seq ?_
    refine AWP.region ?_
    refine AOps.step rfl rfl rfl (AOp.loadAgg rfl ag_28 rfl rfl) ?_
    refine AOps.step rfl rfl rfl (AOp.call rfl (.cons (ArgOk.rfl' rfl) .nil) (c_rPol p)) ?_
    refine AOps.step rfl rfl rfl (AOp.assignD rfl rfl) ?_
    refine AOps.nil ?_
    refine AWP.seq ?_
    refine AWP.region ?_
    refine AOps.step rfl rfl rfl (AOp.moveD rfl rfl) ?_
    refine AOps.step rfl rfl rfl (AOp.neq rfl rfl rfl) ?_
    refine AOps.nil ?_
    refine AWP.cond rfl (fun h2 => ?_) (fun h2 => ?_)
    · replace h2 := of_decide_eq_true h2
      have HF : dueFault v p frm to = polFault p := by unfold dueFault; rw [HB, if_pos h2]
      have HR : dueR v p frm to = [] := by unfold dueR; rw [HF, if_neg h2]
      rw [HR, HF]
      refine AWP.seq ?_
      refine AWP.region ?_
      refine AOps.step rfl rfl rfl (AOp.moveD rfl rfl) ?_
      refine AOps.step rfl rfl rfl (AOp.assignD rfl rfl) ?_
      refine AOps.step rfl rfl rfl (AOp.assignD rfl rfl) ?_
      refine AOps.nil ?_
      refine AWP.ret ?_
      refine ⟨RetD.nil rfl, RetD.eq rfl ?_, trivial⟩
      all_goals (rfl)
    · replace h2 := of_decide_eq_false h2
      have hb0 : bothFault v p = 0 := HB.trans (Decidable.not_not.1 h2)
      obtain ⟨vo, po⟩ := both_ok hb0
      have he := po.every
      have hnp := vo.np
      refine AWP.skip ?_
      refine AWP.seq ?_
      refine AWP.seq ?_
      refine AWP.region ?_
      refine AOps.step rfl rfl rfl (AOp.moveD rfl rfl) ?_
      refine AOps.step rfl rfl rfl (AOp.moveD rfl rfl) ?_
      refine AOps.step rfl rfl rfl (AOp.call rfl (.cons (ArgOk.rfl' rfl) (.cons (ArgOk.rfl' rfl) .nil)) (c_span _ _)) ?_
      refine AOps.step rfl rfl rfl (AOp.assignD rfl rfl) ?_
      refine AOps.nil ?_
      refine AWP.seq ?_
      refine AWP.region ?_
      refine AOps.step rfl rfl rfl (AOp.moveD rfl rfl) ?_
      refine AOps.step rfl rfl rfl (AOp.neq rfl rfl rfl) ?_
      refine AOps.nil ?_
      refine AWP.cond rfl (fun h3 => ?_) (fun h3 => ?_)
      · replace h3 := of_decide_eq_true h3
        have HS : spanFault frm to = 1 := by unfold spanFault at h3 ⊢; split at h3 <;> simp_all
        have HF : dueFault v p frm to = 1 := by unfold dueFault; rw [if_neg (by rw [hb0]; decide), HS]; rfl
        have HR : dueR v p frm to = [] := by unfold dueR; rw [HF]; rfl
        rw [HR, HF, HS]
        refine AWP.seq ?_
        refine AWP.region ?_
        refine AOps.step rfl rfl rfl (AOp.moveD rfl rfl) ?_
        refine AOps.step rfl rfl rfl (AOp.assignD rfl rfl) ?_
        refine AOps.step rfl rfl rfl (AOp.assignD rfl rfl) ?_
        refine AOps.nil ?_
        refine AWP.ret ?_
        refine ⟨RetD.nil rfl, RetD.eq rfl ?_, trivial⟩
        all_goals (rfl)
      · replace h3 := of_decide_eq_false h3
        have HS := Decidable.not_not.1 h3
        have hsp : (0 ≤ frm ∧ frm ≤ 200000) ∧ (frm ≤ to ∧ to ≤ 200001) := by unfold spanFault at HS; split at HS; cases HS; omega
        have hMB := fun {k : Nat} => manyTo_bound he.1 hsp.1.1 hsp.2.2 (l := v.copies) (k := k)
        refine AWP.skip ?_
        refine AWP.seq ?_
        refine AWP.region ?_
        refine AOps.step rfl rfl rfl (AOp.assignD rfl rfl) ?_
        refine AOps.nil ?_
        refine AWP.seq ?_
        refine AWP.region ?_
        refine AOps.step rfl rfl rfl (AOp.assignD rfl rfl) ?_
        refine AOps.nil ?_
        refine AWP.seq ?_
        refine AWP.seq ?_
        refine AWP.region ?_
        refine AOps.step rfl rfl rfl (AOp.fieldAddr rfl fo_26_2 rfl) ?_
        refine AOps.step rfl rfl rfl (AOp.load rfl sc_24 rfl) ?_
        refine AOps.step rfl rfl rfl (AOp.lenSl rfl et_24.ht rfl) ?_
        refine AOps.step rfl rfl rfl (AOp.moveD rfl rfl) ?_
        refine AOps.nil ?_
        refine AWP.block ?_
        refine AWP.adopt 13 1 3 1 rfl rfl ?_
        refine AWP.loop (G := Nat) (fun k => Env.of [(41, .d (.v (.int .i64 (k : Int)))), (39, .d (.sl (v.copies.map Cpy.ds))), (40, .d (.v (.int .i64 ((v.copies.map Cpy.ds).length : Int)))), (14, .d (.v (.int .i64 ((manyTo frm p.every to v.copies k : Nat) : Int)))), (13, .own 1), (2, .d (.v (.int .i64 frm))), (3, .d (.v (.int .i64 to))), (4, .d (.fp v.ds)), (5, .d (.fp p.ds))]) (fun k => [(1, .row 3 1 (((v.copies.take k).map (fstD frm p.every)).map intD))]) (fun k => k ≤ v.copies.length) (fun k => v.copies.length - k) 0 (Nat.zero_le _) (Sub.less ⟨(SLe.of_eq rfl), SLe.refl _, SLe.refl _, (SLe.i64 rfl), SLe.refl _, SLe.refl _, SLe.refl _, SLe.refl _, SLe.refl _, trivial⟩ (row_same rfl)) ?_
        intro k hk
        refine AWP.seq ?_
        refine AWP.region ?_
        refine AOps.step rfl rfl rfl (AOp.lss rfl rfl rfl) ?_
        refine AOps.nil ?_
        refine AWP.seq ?_
        refine AWP.cond rfl (fun h4 => ?_) (fun h4 => ?_)
        · replace h4 := of_decide_eq_true h4
          rw [List.length_map] at h4
          have hlt : k < v.copies.length := by omega
          have hco := (vo.cpy _ (List.getElem_mem hlt))
          have hla := hco.last
          have hda := hco.day
          have hMk := hMB (k := k) (by omega)
          have hMs := manyTo_succ (frm := frm) (every := p.every) (to := to) hlt
          have hM1 := hMB (k := k + 1) (by omega)
          have hfd : fstD frm p.every v.copies[k] = max frm (v.copies[k].last + p.every) := rfl
          have hts : ((v.copies.take (k + 1)).map (fstD frm p.every)).map intD = ((v.copies.take k).map (fstD frm p.every)).map intD ++ [intD (fstD frm p.every v.copies[k])] := by rw [take_snoc_map _ hlt, List.map_append]; rfl
          refine AWP.skip ?_
          refine AWP.seq ?_
          refine AWP.block ?_
          refine AWP.seq ?_
          refine AWP.region ?_
          refine AOps.step rfl rfl rfl (AOp.indexAddr rfl et_24 rfl rfl k rfl (at_list hlt) rfl) ?_
          refine AOps.step rfl rfl rfl (AOp.loadAgg rfl ag_77 rfl rfl) ?_
          refine AOps.alloc 101 rfl rfl rfl rfl zt_77 rfl rfl rfl ?_
          refine AOps.store rfl rfl rfl sz_77 rfl (.head _) rfl rfl rfl (Nat.le_of_ble_eq_true rfl) ?_
          refine AOps.nil ?_
          refine AWP.seq ?_
          refine AWP.region ?_
          refine AOps.step rfl rfl rfl (AOp.moveD rfl rfl) ?_
          refine AOps.step rfl rfl rfl (AOp.fieldAddrP rfl fo_77_4 rfl) ?_
          refine AOps.step rfl rfl rfl (AOp.loadP rfl sc_3 rfl (.head _) rfl) ?_
          refine AOps.step rfl rfl rfl (AOp.fieldAddr rfl fo_28_3 rfl) ?_
          refine AOps.step rfl rfl rfl (AOp.load rfl sc_3 rfl) ?_
          refine AOps.step rfl rfl rfl (AOp.add64 rfl rfl rfl (by omega) (by omega)) ?_
          refine AOps.step rfl rfl rfl (AOp.max rfl rfl rfl) ?_
          refine AOps.step rfl rfl rfl (AOp.assignD rfl rfl) ?_
          refine AOps.nil ?_
          refine AWP.seq ?_
          refine AWP.region ?_
          refine AOps.step rfl rfl rfl (AOp.moveO rfl rfl) ?_
          refine AOps.step rfl rfl rfl (AOp.moveD rfl rfl) ?_
          refine AOps.step rfl rfl rfl (AOp.buildSlice rfl et_75 (.cons rfl rfl rfl .nil) rfl (by decide)) ?_
          -- append 55
          refine AOps.append rfl rfl rfl rfl et_75 rfl (.tail _ (.head _)) rfl (by simp [D.parts]) (by simp; omega) (by simp; omega) ?_
          refine AOps.step rfl rfl rfl (AOp.assignO rfl rfl) ?_
          refine AOps.nil ?_
          refine AWP.seq ?_
          refine AWP.region ?_
          refine AOps.step rfl rfl rfl (AOp.moveD rfl rfl) ?_
          refine AOps.step rfl rfl rfl (AOp.moveD rfl rfl) ?_
          refine AOps.step rfl rfl rfl (AOp.lss rfl rfl rfl) ?_
          refine AOps.nil ?_
          refine AWP.cond rfl (fun h5 => ?_) (fun h5 => ?_)
          · replace h5 := of_decide_eq_true h5
            rw [max_fst] at h5
            have hca := cnt_alt he.1 v.copies[k] h5
            rw [max_fst]
            refine AWP.region ?_
            refine AOps.step rfl rfl rfl (AOp.moveD rfl rfl) ?_
            refine AOps.step rfl rfl rfl (AOp.moveD rfl rfl) ?_
            refine AOps.step rfl rfl rfl (AOp.moveD rfl rfl) ?_
            refine AOps.step rfl rfl rfl (AOp.sub64 rfl rfl rfl (by omega) (by omega)) ?_
            refine AOps.step rfl rfl rfl (AOp.fieldAddr rfl fo_28_3 rfl) ?_
            refine AOps.step rfl rfl rfl (AOp.load rfl sc_3 rfl) ?_
            refine AOps.step rfl rfl rfl (AOp.add64 rfl rfl rfl (by omega) (by omega)) ?_
            refine AOps.step rfl rfl rfl (AOp.sub64 rfl rfl rfl (by omega) (by omega)) ?_
            refine AOps.step rfl rfl rfl (AOp.fieldAddr rfl fo_28_3 rfl) ?_
            refine AOps.step rfl rfl rfl (AOp.load rfl sc_3 rfl) ?_
            refine AOps.step rfl rfl rfl (AOp.quo64 rfl rfl rfl (by omega) (by omega) (by omega)) ?_
            refine AOps.step rfl rfl rfl (AOp.add64 rfl rfl rfl (by omega) (by omega)) ?_
            refine AOps.step rfl rfl rfl (AOp.assignD rfl rfl) ?_
            refine AOps.nil ?_
            refine AWP.region ?_
            refine AOps.step rfl rfl rfl (AOp.add64 rfl rfl rfl (by omega) (by omega)) ?_
            refine AOps.step rfl rfl rfl (AOp.moveD rfl rfl) ?_
            refine AOps.nil ?_
            refine ⟨k + 1, (by omega), (by dsimp only; omega), Sub.less ⟨(SLe.of_eq rfl), SLe.refl _, SLe.refl _, (SLe.i64 (by rw [hMs]; omega)), SLe.refl _, SLe.refl _, SLe.refl _, SLe.refl _, SLe.refl _, trivial⟩ (row_same2 (by rw [hts]; rfl))⟩
          · replace h5 := of_decide_eq_false h5
            rw [max_fst] at h5
            have hcn := cnt_none (every := p.every) v.copies[k] h5
            refine AWP.skip ?_
            refine AWP.region ?_
            refine AOps.step rfl rfl rfl (AOp.add64 rfl rfl rfl (by omega) (by omega)) ?_
            refine AOps.step rfl rfl rfl (AOp.moveD rfl rfl) ?_
            refine AOps.nil ?_
            refine ⟨k + 1, (by omega), (by dsimp only; omega), Sub.less ⟨(SLe.of_eq rfl), SLe.refl _, SLe.refl _, (SLe.i64 (by rw [hMs, hcn]; rfl)), SLe.refl _, SLe.refl _, SLe.refl _, SLe.refl _, SLe.refl _, trivial⟩ (row_same2 (by rw [hts]; rfl))⟩
        · replace h4 := of_decide_eq_false h4
          rw [List.length_map] at h4
          obtain rfl : k = v.copies.length := by omega
          refine AWP.exit ?_
          refine AWP.seq ?_
          refine AWP.seq ?_
          refine AWP.region ?_
          refine AOps.step rfl rfl rfl (AOp.moveD rfl rfl) ?_
          refine AOps.step rfl rfl rfl (AOp.gtr rfl rfl rfl) ?_
          refine AOps.nil ?_
          refine AWP.cond rfl (fun h6 => ?_) (fun h6 => ?_)
          · replace h6 := of_decide_eq_true h6
            have HF : dueFault v p frm to = 2 := by unfold dueFault; rw [if_neg (by rw [hb0]; decide), HS, if_neg (by decide), if_pos h6]
            have HR : dueR v p frm to = [] := by unfold dueR; rw [HF]; rfl
            rw [HR, HF]
            refine AWP.seq ?_
            refine AWP.region ?_
            refine AOps.step rfl rfl rfl (AOp.assignD rfl rfl) ?_
            refine AOps.step rfl rfl rfl (AOp.assignD rfl rfl) ?_
            refine AOps.nil ?_
            refine AWP.ret ?_
            refine ⟨RetD.nil rfl, RetD.eq rfl ?_, trivial⟩
            all_goals (rfl)
          · replace h6 := of_decide_eq_false h6
            have HF : dueFault v p frm to = 0 := by unfold dueFault; rw [if_neg (by rw [hb0]; decide), HS, if_neg (by decide), if_neg h6]
            have hmx : manyTo frm p.every to v.copies v.copies.length ≤ 20000 := by omega
            rw [HF, dueR_tds _ _ _ _ HF]
            refine AWP.skip ?_
            refine AWP.seq ?_
            refine AWP.region ?_
            refine AOps.step rfl rfl rfl (AOp.assignD rfl rfl) ?_
            refine AOps.nil ?_
            refine AWP.seq ?_
            refine AWP.seq ?_
            refine AWP.region ?_
            refine AOps.step rfl rfl rfl (AOp.moveD rfl rfl) ?_
            refine AOps.step rfl rfl rfl (AOp.moveD rfl rfl) ?_
            refine AOps.nil ?_
            refine AWP.block ?_
            refine AWP.adopt 18 2 46 3 rfl rfl ?_
            refine AWP.loop (G := Nat × List Nat × List (Tsk × Nat)) (fun g => Env.of [(75, .d (.v (.int .i64 (g.1 : Int)))), (74, .d (.v (.int .i64 ((manyTo frm p.every to v.copies v.copies.length : Nat) : Int)))), (13, .own 1), (18, .own 2), (2, .d (.v (.int .i64 frm))), (3, .d (.v (.int .i64 to))), (4, .d (.fp v.ds)), (5, .d (.fp p.ds))]) (fun g => [(2, .row 46 3 ((g.2.2).map tds)), (1, .row 3 1 ((nextOf frm p.every v.copies g.2.1).map intD))]) (fun g => g.1 ≤ manyTo frm p.every to v.copies v.copies.length ∧ Sel frm p.every to v.copies g.2.1 g.2.2 ∧ g.2.2.length = g.1) (fun g => manyTo frm p.every to v.copies v.copies.length - g.1) (0, List.replicate v.copies.length 0, []) ⟨Nat.zero_le _, Sel.start _, rfl⟩ (Sub.less ⟨(SLe.i64 rfl), SLe.refl _, SLe.refl _, SLe.refl _, SLe.refl _, SLe.refl _, SLe.refl _, SLe.refl _, trivial⟩ (rows_both rfl (by rw [nextOf_zero, List.take_length]))) ?_
            rintro ⟨k, ns, o⟩ ⟨hk, hsel, hol⟩
            dsimp only at hk hsel hol ⊢
            refine AWP.seq ?_
            refine AWP.region ?_
            refine AOps.step rfl rfl rfl (AOp.lss rfl rfl rfl) ?_
            refine AOps.nil ?_
            refine AWP.seq ?_
            refine AWP.cond rfl (fun h7 => ?_) (fun h7 => ?_)
            · replace h7 := of_decide_eq_true h7
              have hkt : k < manyTo frm p.every to v.copies v.copies.length := by omega
              refine AWP.skip ?_
              refine AWP.seq ?_
              refine AWP.block ?_
              refine AWP.seq ?_
              refine AWP.region ?_
              refine AOps.step rfl rfl rfl (AOp.assignD rfl rfl) ?_
              refine AOps.nil ?_
              refine AWP.seq ?_
              refine AWP.seq ?_
              refine AWP.region ?_
              refine AOps.step rfl rfl rfl (AOp.moveO rfl rfl) ?_
              refine AOps.step rfl rfl rfl (AOp.lenOwn rfl et_75.ht rfl (.tail _ (.head _))) ?_
              refine AOps.step rfl rfl rfl (AOp.moveD rfl rfl) ?_
              refine AOps.nil ?_
              refine AWP.block ?_
              refine AWP.loop (G := Nat × Int) (fun g => Env.of [(79, .d (.v (.int .i64 (g.1 : Int)))), (19, .d (.v (.int .i64 g.2))), (77, .own 1), (78, .d (.v (.int .i64 ((((nextOf frm p.every v.copies ns).map intD).length : Nat) : Int)))), (75, .d (.v (.int .i64 (k : Int)))), (74, .d (.v (.int .i64 ((manyTo frm p.every to v.copies v.copies.length : Nat) : Int)))), (13, .own 1), (18, .own 2), (2, .d (.v (.int .i64 frm))), (3, .d (.v (.int .i64 to))), (4, .d (.fp v.ds)), (5, .d (.fp p.ds))]) (fun g => [(2, .row 46 3 ((o).map tds)), (1, .row 3 1 ((nextOf frm p.every v.copies ns).map intD))]) (fun g => g.1 ≤ v.copies.length ∧ BestR to (nextOf frm p.every v.copies ns) g.1 g.2) (fun g => v.copies.length - g.1) (0, -1) ⟨Nat.zero_le _, BestR.start _⟩ (Sub.less ⟨(SLe.i64 rfl), SLe.refl _, SLe.refl _, SLe.refl _, SLe.refl _, SLe.refl _, SLe.refl _, SLe.refl _, SLe.refl _, SLe.refl _, SLe.refl _, SLe.refl _, trivial⟩ (rows_both rfl rfl)) ?_
              rintro ⟨j, best⟩ ⟨hj, hbest⟩
              dsimp only at hj hbest ⊢
              refine AWP.seq ?_
              refine AWP.region ?_
              refine AOps.step rfl rfl rfl (AOp.lss rfl rfl rfl) ?_
              refine AOps.nil ?_
              refine AWP.seq ?_
              refine AWP.cond rfl (fun h8 => ?_) (fun h8 => ?_)
              · replace h8 := of_decide_eq_true h8
                rw [List.length_map, nextOf_len hsel.len] at h8
                have hjl : j < v.copies.length := by omega
                obtain ⟨x, hx⟩ : ∃ x, (nextOf frm p.every v.copies ns)[j]? = some x := ⟨_, List.getElem?_eq_getElem (by rw [nextOf_len hsel.len]; exact hjl)⟩
                refine AWP.skip ?_
                refine AWP.seq ?_
                refine AWP.block ?_
                refine AWP.seq ?_
                refine AWP.region ?_
                refine AOps.step rfl rfl rfl (AOp.moveD rfl rfl) ?_
                refine AOps.step rfl rfl rfl (AOp.indexOwn rfl et_75 rfl rfl (.tail _ (.head _)) j rfl (by rw [List.length_map, nextOf_len hsel.len]; omega)) ?_
                refine AOps.step rfl rfl rfl (AOp.loadRow rfl sc_3 rfl (.tail _ (.head _)) j 0 rfl (at_opt hx) rfl) ?_
                refine AOps.step rfl rfl rfl (AOp.assignD rfl rfl) ?_
                refine AOps.step rfl rfl rfl (AOp.assignD rfl rfl) ?_
                refine AOps.nil ?_
                refine AWP.seq ?_
                refine AWP.region ?_
                refine AOps.step rfl rfl rfl (AOp.moveD rfl rfl) ?_
                refine AOps.step rfl rfl rfl (AOp.moveD rfl rfl) ?_
                refine AOps.step rfl rfl rfl (AOp.lss rfl rfl rfl) ?_
                refine AOps.step rfl rfl rfl (AOp.moveD rfl rfl) ?_
                refine AOps.split 87 rfl (fun g9 => ?_) (fun g9 => ?_)
                · replace g9 := of_decide_eq_true g9
                  have hxt := g9
                  refine AOps.step ⟨87, rfl, .inl ⟨_, rfl, rfl⟩⟩ rfl rfl (AOp.moveD rfl rfl) ?_
                  refine AOps.step ⟨87, rfl, .inl ⟨_, rfl, rfl⟩⟩ rfl rfl (AOp.lss rfl rfl rfl) ?_
                  refine AOps.step ⟨87, rfl, .inl ⟨_, rfl, rfl⟩⟩ rfl rfl (AOp.moveD rfl rfl) ?_
                  refine AOps.split 90 rfl (fun g10 => ?_) (fun g10 => ?_)
                  · replace g10 := of_decide_eq_true g10
                    have HN := hbest.first hx hxt g10
                    refine AOps.pass ⟨90, rfl, .inl ⟨_, rfl, rfl⟩⟩ rfl rfl ?_
                    refine AOps.pass ⟨90, rfl, .inl ⟨_, rfl, rfl⟩⟩ rfl rfl ?_
                    refine AOps.pass ⟨90, rfl, .inl ⟨_, rfl, rfl⟩⟩ rfl rfl ?_
                    refine AOps.pass ⟨90, rfl, .inl ⟨_, rfl, rfl⟩⟩ rfl rfl ?_
                    refine AOps.pass ⟨90, rfl, .inl ⟨_, rfl, rfl⟩⟩ rfl rfl ?_
                    refine AOps.pass ⟨90, rfl, .inl ⟨_, rfl, rfl⟩⟩ rfl rfl ?_
                    refine AOps.step ⟨87, rfl, .inl ⟨_, rfl, rfl⟩⟩ rfl rfl (AOp.pickT rfl rfl rfl) ?_
                    refine AOps.step rfl rfl rfl (AOp.pickT rfl rfl rfl) ?_
                    refine AOps.nil ?_
                    refine AWP.cond rfl (fun _ => ?_) (fun h => nomatch h)
                    refine AWP.region ?_
                    refine AOps.step rfl rfl rfl (AOp.moveD rfl rfl) ?_
                    refine AOps.step rfl rfl rfl (AOp.assignD rfl rfl) ?_
                    refine AOps.nil ?_
                    refine AWP.region ?_
                    refine AOps.step rfl rfl rfl (AOp.add64 rfl rfl rfl (by omega) (by omega)) ?_
                    refine AOps.step rfl rfl rfl (AOp.moveD rfl rfl) ?_
                    refine AOps.nil ?_
                    refine ⟨(j + 1, (j : Int)), ⟨by dsimp only; omega, HN⟩, (by dsimp only; omega), Sub.less ⟨(SLe.i64 rfl), SLe.refl _, SLe.refl _, SLe.refl _, SLe.refl _, SLe.refl _, SLe.refl _, SLe.refl _, SLe.refl _, SLe.refl _, SLe.refl _, SLe.refl _, trivial⟩ (rows_both rfl rfl)⟩
                  · replace g10 := of_decide_eq_false g10
                    obtain ⟨n, z, hbn, hnj, hz, hnl⟩ := hbest.idx g10
                    refine AOps.step ⟨90, rfl, .inl ⟨_, rfl, rfl⟩⟩ rfl rfl (AOp.moveD rfl rfl) ?_
                    refine AOps.step ⟨90, rfl, .inl ⟨_, rfl, rfl⟩⟩ rfl rfl (AOp.moveO rfl rfl) ?_
                    refine AOps.step ⟨90, rfl, .inl ⟨_, rfl, rfl⟩⟩ rfl rfl (AOp.moveD rfl rfl) ?_
                    refine AOps.step ⟨90, rfl, .inl ⟨_, rfl, rfl⟩⟩ rfl rfl (AOp.indexOwn rfl et_75 rfl rfl (.tail _ (.head _)) n hbn (by rw [List.length_map]; exact hnl)) ?_
                    refine AOps.step ⟨90, rfl, .inl ⟨_, rfl, rfl⟩⟩ rfl rfl (AOp.loadRow rfl sc_3 rfl (.tail _ (.head _)) n 0 rfl (at_opt hz) rfl) ?_
                    refine AOps.step ⟨90, rfl, .inl ⟨_, rfl, rfl⟩⟩ rfl rfl (AOp.lss rfl rfl rfl) ?_
                    refine AOps.step ⟨87, rfl, .inl ⟨_, rfl, rfl⟩⟩ rfl rfl (AOp.pickF rfl rfl rfl) ?_
                    refine AOps.step rfl rfl rfl (AOp.pickT rfl rfl rfl) ?_
                    refine AOps.nil ?_
                    refine AWP.cond rfl (fun h11 => ?_) (fun h11 => ?_)
                    · replace h11 := of_decide_eq_true h11
                      have HN := hbest.better hx hxt hbn hz h11
                      refine AWP.region ?_
                      refine AOps.step rfl rfl rfl (AOp.moveD rfl rfl) ?_
                      refine AOps.step rfl rfl rfl (AOp.assignD rfl rfl) ?_
                      refine AOps.nil ?_
                      refine AWP.region ?_
                      refine AOps.step rfl rfl rfl (AOp.add64 rfl rfl rfl (by omega) (by omega)) ?_
                      refine AOps.step rfl rfl rfl (AOp.moveD rfl rfl) ?_
                      refine AOps.nil ?_
                      refine ⟨(j + 1, (j : Int)), ⟨by dsimp only; omega, HN⟩, (by dsimp only; omega), Sub.less ⟨(SLe.i64 rfl), SLe.refl _, SLe.refl _, SLe.refl _, SLe.refl _, SLe.refl _, SLe.refl _, SLe.refl _, SLe.refl _, SLe.refl _, SLe.refl _, SLe.refl _, trivial⟩ (rows_both rfl rfl)⟩
                    · replace h11 := of_decide_eq_false h11
                      have HN := hbest.worse hx hbn hz h11
                      refine AWP.skip ?_
                      refine AWP.region ?_
                      refine AOps.step rfl rfl rfl (AOp.add64 rfl rfl rfl (by omega) (by omega)) ?_
                      refine AOps.step rfl rfl rfl (AOp.moveD rfl rfl) ?_
                      refine AOps.nil ?_
                      refine ⟨(j + 1, best), ⟨by dsimp only; omega, HN⟩, (by dsimp only; omega), Sub.less ⟨(SLe.i64 rfl), SLe.refl _, SLe.refl _, SLe.refl _, SLe.refl _, SLe.refl _, SLe.refl _, SLe.refl _, SLe.refl _, SLe.refl _, SLe.refl _, SLe.refl _, trivial⟩ (rows_both rfl rfl)⟩
                · replace g9 := of_decide_eq_false g9
                  have HN := hbest.skip hx g9
                  refine AOps.pass ⟨87, rfl, .inl ⟨_, rfl, rfl⟩⟩ rfl rfl ?_
                  refine AOps.pass ⟨87, rfl, .inl ⟨_, rfl, rfl⟩⟩ rfl rfl ?_
                  refine AOps.pass ⟨87, rfl, .inl ⟨_, rfl, rfl⟩⟩ rfl rfl ?_
                  refine AOps.pass ⟨90, rfl, .inr ⟨rfl, rfl⟩⟩ rfl rfl ?_
                  refine AOps.pass ⟨90, rfl, .inr ⟨rfl, rfl⟩⟩ rfl rfl ?_
                  refine AOps.pass ⟨90, rfl, .inr ⟨rfl, rfl⟩⟩ rfl rfl ?_
                  refine AOps.pass ⟨90, rfl, .inr ⟨rfl, rfl⟩⟩ rfl rfl ?_
                  refine AOps.pass ⟨90, rfl, .inr ⟨rfl, rfl⟩⟩ rfl rfl ?_
                  refine AOps.pass ⟨90, rfl, .inr ⟨rfl, rfl⟩⟩ rfl rfl ?_
                  refine AOps.pass ⟨87, rfl, .inl ⟨_, rfl, rfl⟩⟩ rfl rfl ?_
                  refine AOps.step rfl rfl rfl (AOp.pickF rfl rfl rfl) ?_
                  refine AOps.nil ?_
                  refine AWP.cond rfl (fun h => nomatch h) (fun _ => ?_)
                  refine AWP.skip ?_
                  refine AWP.region ?_
                  refine AOps.step rfl rfl rfl (AOp.add64 rfl rfl rfl (by omega) (by omega)) ?_
                  refine AOps.step rfl rfl rfl (AOp.moveD rfl rfl) ?_
                  refine AOps.nil ?_
                  refine ⟨(j + 1, best), ⟨by dsimp only; omega, HN⟩, (by dsimp only; omega), Sub.less ⟨(SLe.i64 rfl), SLe.refl _, SLe.refl _, SLe.refl _, SLe.refl _, SLe.refl _, SLe.refl _, SLe.refl _, SLe.refl _, SLe.refl _, SLe.refl _, SLe.refl _, trivial⟩ (rows_both rfl rfl)⟩
              · replace h8 := of_decide_eq_false h8
                rw [List.length_map, nextOf_len hsel.len] at h8
                obtain rfl : j = v.copies.length := by omega
                obtain ⟨b, c, n, rfl, hc, hn, hnc, hmin⟩ := hsel.found he.1 (by omega) hbest
                have hST := hsel.step he.1 hc hn hnc hmin
                have hNS := nextOf_set (frm := frm) (every := p.every) hc hsel.len (n + 1)
                have hdn : dayD frm p.every c (n + 1) = dayD frm p.every c n + p.every := by unfold dayD; rw [show ((n + 1 : Nat) : Int) = (n : Int) + 1 from rfl, Int.add_mul, Int.one_mul]; omega
                have hdb := day_bound he.1 hsp.1.1 hsp.2.2 hnc
                have hbl : b < v.copies.length := (List.getElem?_eq_some_iff.1 hc).1
                have hcc : v.copies.map Cpy.ds = v.copies.map Cpy.ds := rfl
                refine AWP.exit ?_
                refine AWP.seq ?_
                refine AWP.drawTail 19 (by kernel_rfl) (by kernel_rfl) (by kernel_rfl) ?_
                refine DRun.step rfl rfl rfl (AOp.moveO rfl rfl) ?_
                refine DRun.step rfl rfl rfl (AOp.moveO rfl rfl) ?_
                refine DRun.step rfl rfl rfl (AOp.moveD rfl rfl) ?_
                refine DRun.step rfl rfl rfl (AOp.indexOwn rfl et_75 rfl rfl (.tail _ (.head _)) b rfl (by rw [List.length_map, nextOf_len hsel.len]; omega)) ?_
                refine DRun.step rfl rfl rfl (AOp.loadRow rfl sc_3 rfl (.tail _ (.head _)) b 0 rfl (at_opt (nextOf_at hc hn)) rfl) ?_
                refine DRun.step rfl rfl rfl (AOp.fieldAddr rfl fo_26_2 rfl) ?_
                refine DRun.step rfl rfl rfl (AOp.load rfl sc_24 rfl) ?_
                refine DRun.step rfl rfl rfl (AOp.moveD rfl rfl) ?_
                refine DRun.step rfl rfl rfl (AOp.indexAddr rfl et_24 rfl rfl b rfl (at_opt hc) rfl) ?_
                refine DRun.step rfl rfl rfl (AOp.fieldAddr rfl fo_77_0 rfl) ?_
                refine DRun.step rfl rfl rfl (AOp.load rfl sc_9 rfl) ?_
                refine DRun.step rfl rfl rfl (AOp.fieldAddr rfl fo_26_2 rfl) ?_
                refine DRun.step rfl rfl rfl (AOp.load rfl sc_24 rfl) ?_
                refine DRun.step rfl rfl rfl (AOp.moveD rfl rfl) ?_
                refine DRun.step rfl rfl rfl (AOp.indexAddr rfl et_24 rfl rfl b rfl (at_opt hc) rfl) ?_
                refine DRun.step rfl rfl rfl (AOp.fieldAddr rfl fo_77_1 rfl) ?_
                refine DRun.step rfl rfl rfl (AOp.load rfl sc_9 rfl) ?_
                refine DRun.step rfl rfl rfl (AOp.build rfl bu_46 (.cons rfl rfl (.cons rfl rfl (.cons rfl rfl .nil))) rfl) ?_
                refine DRun.step rfl rfl rfl (AOp.buildSlice rfl et_41 (.cons rfl rfl rfl .nil) rfl (by decide)) ?_
                refine DRun.nil ?_
                -- append 120
                refine AOps.append rfl rfl rfl rfl et_41 rfl (.head _) rfl (by simp [D.parts]) (by simp; omega) (by simp; omega) ?_
                refine AOps.step rfl rfl rfl (AOp.assignO rfl rfl) ?_
                refine AOps.nil ?_
                refine AWP.drawG (fun k => (Nat.beq k 8) || (Nat.beq k 2 || Nat.beq k 3 || Nat.beq k 7)) (fun k => Nat.beq k 8) (fun k h => Bool.or_eq_true_iff.2 (.inl h)) (by kernel_rfl) (by kernel_rfl) (by kernel_rfl) ?_
                refine GRun.step rfl rfl rfl (fun _ => AOp.moveO rfl rfl) ?_
                refine GRun.step rfl rfl rfl (fun _ => AOp.moveD rfl rfl) ?_
                refine GRun.stepS rfl rfl rfl rfl (AOp.indexOwn rfl et_75 rfl rfl (.tail _ (.head _)) b rfl (by rw [List.length_map, nextOf_len hsel.len]; omega)) ?_
                refine GRun.stepS rfl rfl rfl rfl (AOp.loadRow rfl sc_3 rfl (.tail _ (.head _)) b 0 rfl (at_opt (nextOf_at hc hn)) rfl) ?_
                refine GRun.step rfl rfl rfl (fun _ => AOp.fieldAddr rfl fo_28_3 rfl) ?_
                refine GRun.step rfl rfl rfl (fun _ => AOp.load rfl sc_3 rfl) ?_
                refine GRun.step rfl rfl rfl (fun _ => AOp.add64 rfl rfl rfl (by omega) (by omega)) ?_
                refine GRun.stepS rfl rfl rfl rfl (AOp.indexOwn rfl et_75 rfl rfl (.tail _ (.head _)) b rfl (by rw [List.length_map, nextOf_len hsel.len]; omega)) ?_
                refine GRun.eff rfl rfl rfl (EOp.storeRow rfl rfl sz_3 rfl (.tail _ (.head _)) rfl rfl rfl b 0 rfl (at_opt (nextOf_at hc hn)) (Nat.le_of_ble_eq_true rfl)) ?_
                refine GRun.nil ?_
                refine AWP.region ?_
                refine AOps.step rfl rfl rfl (AOp.add64 rfl rfl rfl (by omega) (by omega)) ?_
                refine AOps.step rfl rfl rfl (AOp.moveD rfl rfl) ?_
                refine AOps.nil ?_
                refine ⟨(k + 1, ns.set b (n + 1), o ++ [elD frm p.every c b n]), ⟨by dsimp only; omega, hST, by dsimp only; rw [List.length_append, hol]; rfl⟩, (by dsimp only; omega), Sub.less ⟨(SLe.i64 rfl), SLe.refl _, SLe.refl _, SLe.refl _, SLe.refl _, SLe.refl _, SLe.refl _, SLe.refl _, trivial⟩ (rows_both (by rw [List.map_append]; rfl) (by rw [hNS, List.map_set, hdn]; rfl))⟩
            · replace h7 := of_decide_eq_false h7
              have HD := hsel.done he.1 hsp.1.1 hsp.2.2 (by omega)
              rw [← HD]
              refine AWP.exit ?_
              refine AWP.seq ?_
              refine AWP.region ?_
              refine AOps.step rfl rfl rfl (AOp.moveO rfl rfl) ?_
              refine AOps.step rfl rfl rfl (AOp.assignO rfl rfl) ?_
              refine AOps.step rfl rfl rfl (AOp.assignD rfl rfl) ?_
              refine AOps.nil ?_
              refine AWP.ret ?_
              refine ⟨RetD.own rfl (.head _) ?_, RetD.eq rfl ?_, trivial⟩
              all_goals (rfl)

end Go.Proofs.YtieccphckobhjaaDoor


namespace Go.Proofs.YtieccphckobhjaaDoor
open Go.RowKit
set_option linter.unusedVariables false

/-! Types. -/
namespace TyE4
theorem ag_26 : AggT Tryd.prog 26 3 := .of (by kernel_rfl)
theorem ag_28 : AggT Tryd.prog 28 6 := .of (by kernel_rfl)
theorem ag_46 : AggT Tryd.prog 46 3 := .of (by kernel_rfl)
theorem et_41 : ElemTy Tryd.prog 41 46 3 40 (.agg #[(.int .i64 0), (.string ⟨#[]⟩), (.string ⟨#[]⟩)]) := ⟨by kernel_rfl, by kernel_rfl, by kernel_rfl, by decide⟩
end TyE4
open TyE4


theorem eqT_tsk : EqT Tryd.prog 46 [.int .i64, .str, .str] := .of (by kernel_rfl)
theorem eq_tsk (x y : Tsk) : EqD Tryd.prog 46 x.ds y.ds (decide (x = y)) := .of eqT_tsk [.int .i64 x.day, .string x.item, .string x.carrier] [.int .i64 y.day, .string y.item, .string y.carrier] rfl rfl rfl rfl (by
  obtain ⟨a, b, c⟩ := x
  obtain ⟨d, e, f⟩ := y
  simp [sameL, sameV])


set_option maxRecDepth 100000 in
set_option maxHeartbeats 1000000 in
theorem c_eqTsk (l : List Tsk) : ACall Tryd.prog 19 [.sl (l.map Tsk.ds), .sl (l.map Tsk.ds)] (.v (.bool true)) := by
  refine acall_of (n := 26) (ds' := [.v (.bool true)]) Tryd.func19 rfl (by kernel_rfl) rfl [4] rfl rfl ?_
  intro B w0 F0 fr
  refine AWP.bound 0 rfl (fun hbd0 => ?_)
  rw [List.length_map] at hbd0
  refine AWP.seq ?_
  refine AWP.region ?_
  refine AOps.step rfl rfl rfl (AOp.assignD rfl rfl) ?_
  refine AOps.nil ?_
  refine AWP.seq ?_
  refine AWP.seq ?_
  refine AWP.region ?_
  refine AOps.step rfl rfl rfl (AOp.moveD rfl rfl) ?_
  refine AOps.step rfl rfl rfl (AOp.lenSl rfl et_41.ht rfl) ?_
  refine AOps.step rfl rfl rfl (AOp.moveD rfl rfl) ?_
  refine AOps.step rfl rfl rfl (AOp.lenSl rfl et_41.ht rfl) ?_
  refine AOps.step rfl rfl rfl (AOp.neq rfl rfl rfl) ?_
  refine AOps.nil ?_
  refine AWP.cond rfl (fun h1 => ?_) (fun h1 => ?_)
  · replace h1 := of_decide_eq_true h1
    exact absurd rfl h1
  · replace h1 := of_decide_eq_false h1
    refine AWP.skip ?_
    refine AWP.seq ?_
    refine AWP.seq ?_
    refine AWP.region ?_
    refine AOps.step rfl rfl rfl (AOp.moveD rfl rfl) ?_
    refine AOps.step rfl rfl rfl (AOp.lenSl rfl et_41.ht rfl) ?_
    refine AOps.step rfl rfl rfl (AOp.moveD rfl rfl) ?_
    refine AOps.nil ?_
    refine AWP.block ?_
    refine AWP.loop (G := Nat) (fun k => Env.of [(13, .d (.v (.int .i64 (k : Int)))), (0, .d (.sl (l.map Tsk.ds))), (1, .d (.sl (l.map Tsk.ds))), (12, .d (.v (.int .i64 ((l.map Tsk.ds).length : Int))))]) (fun k => []) (fun k => k ≤ l.length) (fun k => l.length - k) 0 (Nat.zero_le _) (Sub.less ⟨(SLe.of_eq rfl), SLe.refl _, SLe.refl _, SLe.refl _, trivial⟩ (fun _ h => h)) ?_
    intro k hk
    refine AWP.seq ?_
    refine AWP.region ?_
    refine AOps.step rfl rfl rfl (AOp.lss rfl rfl rfl) ?_
    refine AOps.nil ?_
    refine AWP.seq ?_
    refine AWP.cond rfl (fun h2 => ?_) (fun h2 => ?_)
    · replace h2 := of_decide_eq_true h2
      rw [List.length_map] at h2
      have hlt : k < l.length := by omega
      refine AWP.skip ?_
      refine AWP.seq ?_
      refine AWP.block ?_
      refine AWP.seq ?_
      refine AWP.region ?_
      refine AOps.step rfl rfl rfl (AOp.moveD rfl rfl) ?_
      refine AOps.step rfl rfl rfl (AOp.assignD rfl rfl) ?_
      refine AOps.nil ?_
      refine AWP.seq ?_
      refine AWP.draw (by kernel_rfl) (by kernel_rfl) ?_
      refine DRun.step rfl rfl rfl (AOp.moveD rfl rfl) ?_
      refine DRun.step rfl rfl rfl (AOp.moveD rfl rfl) ?_
      refine DRun.step rfl rfl rfl (AOp.indexAddr rfl et_41 rfl rfl k rfl (at_list hlt) rfl) ?_
      refine DRun.step rfl rfl rfl (AOp.loadAgg rfl ag_46 rfl rfl) ?_
      refine DRun.step rfl rfl rfl (AOp.moveD rfl rfl) ?_
      refine DRun.step rfl rfl rfl (AOp.moveD rfl rfl) ?_
      refine DRun.step rfl rfl rfl (AOp.indexAddr rfl et_41 rfl rfl k rfl (at_list hlt) rfl) ?_
      refine DRun.step rfl rfl rfl (AOp.loadAgg rfl ag_46 rfl rfl) ?_
      refine DRun.step rfl rfl rfl (AOp.aggNeq rfl rfl rfl (eq_tsk _ _)) ?_
      refine DRun.nil ?_
      refine AWP.cond rfl (fun h3 => ?_) (fun h3 => ?_)
      · replace h3 := bnot_t h3; replace h3 := of_decide_eq_false h3
        exact absurd rfl h3
      · replace h3 := bnot_f h3; replace h3 := of_decide_eq_true h3
        refine AWP.skip ?_
        refine AWP.region ?_
        refine AOps.step rfl rfl rfl (AOp.add64 rfl rfl rfl (by omega) (by omega)) ?_
        refine AOps.step rfl rfl rfl (AOp.moveD rfl rfl) ?_
        refine AOps.nil ?_
        refine ⟨k + 1, (by omega), (by dsimp only; omega), Sub.less ⟨(SLe.of_eq rfl), SLe.refl _, SLe.refl _, SLe.refl _, trivial⟩ (fun _ h => h)⟩
    · replace h2 := of_decide_eq_false h2
      refine AWP.exit ?_
      refine AWP.seq ?_
      refine AWP.region ?_
      refine AOps.step rfl rfl rfl (AOp.assignD rfl rfl) ?_
      refine AOps.nil ?_
      refine AWP.ret ?_
      refine ⟨RetD.eq rfl ?_, trivial⟩
      all_goals (rfl)

set_option maxRecDepth 100000 in
set_option maxHeartbeats 1000000 in
theorem lawDue (v : Vlt) (p : Pol) (frm to : Int) (hs : smallV v) : ACall Tryd.prog 5 [.agg v.ds, .agg p.ds, .v (.int .i64 frm), .v (.int .i64 to)] (.v (.bool true)) := by
  refine acall_of (n := 40) (ds' := [.v (.bool true)]) Tryd.func5 rfl (by kernel_rfl) rfl [8] rfl rfl ?_
  intro B w0 F0 fr
  refine AWP.seq ?_
  refine AWP.region ?_
  refine AOps.step rfl rfl rfl (AOp.box rfl rfl rfl) ?_
  refine AOps.step rfl rfl rfl (AOp.box rfl rfl rfl) ?_
  refine AOps.step rfl rfl rfl (AOp.assignD rfl rfl) ?_
  refine AOps.nil ?_
  refine AWP.seq ?_
  refine AWP.region ?_
  refine AOps.step rfl rfl rfl (AOp.loadAgg rfl ag_26 rfl rfl) ?_
  refine AOps.step rfl rfl rfl (AOp.loadAgg rfl ag_28 rfl rfl) ?_
  refine AOps.step rfl rfl rfl (AOp.moveD rfl rfl) ?_
  refine AOps.step rfl rfl rfl (AOp.moveD rfl rfl) ?_
  refine AOps.step rfl rfl rfl (AOp.call rfl (.cons (ArgOk.rfl' rfl) (.cons (ArgOk.rfl' rfl) (.cons (ArgOk.rfl' rfl) (.cons (ArgOk.rfl' rfl) .nil)))) (c_pDue v p frm to hs)) ?_
  refine AOps.step rfl rfl rfl (AOp.moveD rfl rfl) ?_
  refine AOps.step rfl rfl rfl (AOp.extract rfl rfl rfl) ?_
  refine AOps.step rfl rfl rfl (AOp.extract rfl rfl rfl) ?_
  refine AOps.step rfl rfl rfl (AOp.assignD rfl rfl) ?_
  refine AOps.step rfl rfl rfl (AOp.assignD rfl rfl) ?_
  refine AOps.nil ?_
  refine AWP.seq ?_
  refine AWP.region ?_
  refine AOps.step rfl rfl rfl (AOp.loadAgg rfl ag_26 rfl rfl) ?_
  refine AOps.step rfl rfl rfl (AOp.loadAgg rfl ag_28 rfl rfl) ?_
  refine AOps.step rfl rfl rfl (AOp.moveD rfl rfl) ?_
  refine AOps.step rfl rfl rfl (AOp.moveD rfl rfl) ?_
  refine AOps.step rfl rfl rfl (AOp.call rfl (.cons (ArgOk.rfl' rfl) (.cons (ArgOk.rfl' rfl) (.cons (ArgOk.rfl' rfl) (.cons (ArgOk.rfl' rfl) .nil)))) (c_rDue v p frm to hs)) ?_
  refine AOps.step rfl rfl rfl (AOp.moveD rfl rfl) ?_
  refine AOps.step rfl rfl rfl (AOp.extract rfl rfl rfl) ?_
  refine AOps.step rfl rfl rfl (AOp.extract rfl rfl rfl) ?_
  refine AOps.step rfl rfl rfl (AOp.assignD rfl rfl) ?_
  refine AOps.step rfl rfl rfl (AOp.assignD rfl rfl) ?_
  refine AOps.nil ?_
  refine AWP.seq ?_
  refine AWP.region ?_
  refine AOps.step rfl rfl rfl (AOp.moveD rfl rfl) ?_
  refine AOps.step rfl rfl rfl (AOp.moveD rfl rfl) ?_
  refine AOps.step rfl rfl rfl (AOp.eql rfl rfl rfl) ?_
  refine AOps.step rfl rfl rfl (AOp.moveD rfl rfl) ?_
  refine AOps.split 32 rfl (fun g1 => ?_) (fun g1 => ?_)
  · replace g1 := of_decide_eq_true g1
    refine AOps.step ⟨32, rfl, .inl ⟨_, rfl, rfl⟩⟩ rfl rfl (AOp.moveD rfl rfl) ?_
    refine AOps.step ⟨32, rfl, .inl ⟨_, rfl, rfl⟩⟩ rfl rfl (AOp.moveD rfl rfl) ?_
    refine AOps.step ⟨32, rfl, .inl ⟨_, rfl, rfl⟩⟩ rfl rfl (AOp.call rfl (.cons (ArgOk.rfl' rfl) (.cons (ArgOk.rfl' rfl) .nil)) (c_eqTsk _)) ?_
    refine AOps.step rfl rfl rfl (AOp.pickT rfl rfl rfl) ?_
    refine AOps.step rfl rfl rfl (AOp.moveD rfl rfl) ?_
    refine AOps.step ⟨37, rfl, .inl ⟨_, rfl, rfl⟩⟩ rfl rfl (AOp.call rfl .nil c_awake) ?_
    refine AOps.step rfl rfl rfl (AOp.pickT rfl rfl rfl) ?_
    refine AOps.step rfl rfl rfl (AOp.assignD rfl rfl) ?_
    refine AOps.nil ?_
    refine AWP.ret ?_
    refine ⟨RetD.eq rfl ?_, trivial⟩
    all_goals (simp)
  · replace g1 := of_decide_eq_false g1
    exact absurd rfl g1

end Go.Proofs.YtieccphckobhjaaDoor
