/- Walks over abstract values. Printed by tools/gen.py. No statement of the seat. -/
import Derived.Test.YtpihcfpdaoflbaaF9
namespace Go.Proofs.Ytpihcfpdaoflbaa
open Go.RowKit
set_option linter.unusedVariables false

/-! Types. -/
namespace TyF10
theorem et_22 : ElemTy Try.prog 22 3 1 8 (.int .i64 0) := ⟨by kernel_rfl, by kernel_rfl, by kernel_rfl, by decide⟩
theorem sc_3 : Scal Try.prog 3 := .of (by kernel_rfl)
theorem sz_3 : ∀ w, (sizeOf 3).run Try.prog w = .ok 1 w := SizeT.of (by kernel_rfl)
end TyF10
open TyF10


theorem sorted_at {α : Type} {cmp : α → α → Int} {l : List (α × Nat)} {a b a' b' : Nat} (h : SortedOn cmp l a b) (ha : a = a') (hb : b = b') : SortedOn cmp l a' b' := ha ▸ hb ▸ h
theorem sortSeg_self {α : Type} {cmp : α → α → Int} (hc : Pre cmp) {l : List (α × Nat)} {a b : Nat} (hab : a ≤ b) (ht : TagsOk l) (hs : SortedOn cmp l a b) : sortSeg cmp l a b = l := (sortSeg_eq hc hab ht (List.Perm.refl _) (fun _ _ => rfl) hs).symm


set_option maxRecDepth 100000 in
set_option maxHeartbeats 1000000 in
theorem c_symStep {N0 : Nat} (cmp : Fin N0 → Fin N0 → Int) (hc : Pre cmp) (f : Nat) (caps : List D) (hf : ∀ x y : Fin N0, ACall Try.prog f (.v (.int .i64 (x.val : Int)) :: .v (.int .i64 (y.val : Int)) :: caps) (.v (.int .i64 (cmp x y)))) (N : Nat) (ih : ∀ (l : List (Fin N0 × Nat)) (a m b : Nat), b - a < N → a < m → m < b → b ≤ l.length → l.length ≤ 4611686018427387904 → TagsOk l → SortedOn cmp l a m → SortedOn cmp l m b → Cross l a m b → RCall Try.prog 26 3 1 (l.map fds) ((sortSeg cmp l a b).map fds) [.v (.int .i64 a), .v (.int .i64 m), .v (.int .i64 b), .clo (.func f) caps] (.tup [])) (l : List (Fin N0 × Nat)) (a m b : Nat) (hN : b - a ≤ N) (ham : a < m) (hmb : m < b) (hbl : b ≤ l.length) (hl : l.length ≤ 4611686018427387904) (ht : TagsOk l) (s1 : SortedOn cmp l a m) (s2 : SortedOn cmp l m b) (hx : Cross l a m b) : RCall Try.prog 26 3 1 (l.map fds) ((sortSeg cmp l a b).map fds) [.v (.int .i64 a), .v (.int .i64 m), .v (.int .i64 b), .clo (.func f) caps] (.tup []) := by
  refine RCall.of1 (chg := fun i => Nat.ble 1000 i) (xcall_of (n := 220) (ds' := []) Try.func26 rfl (by kernel_rfl) rfl [] rfl rfl ?_) rfl
  intro B w0 F0 fr ρ0
  have ha : a < l.length := by omega
  have hm : m < l.length := by omega
  refine AWP.seq ?_
  refine AWP.seq ?_
  refine AWP.region ?_
  refine AOps.step rfl rfl rfl (AOp.moveD rfl rfl) ?_
  refine AOps.step rfl rfl rfl (AOp.moveD rfl rfl) ?_
  refine AOps.step rfl rfl rfl (AOp.sub64 rfl rfl rfl (by omega) (by omega)) ?_
  refine AOps.step rfl rfl rfl (AOp.eql rfl rfl rfl) ?_
  refine AOps.nil ?_
  refine AWP.cond rfl (fun h1 => ?_) (fun h1 => ?_)
  · replace h1 := of_decide_eq_true h1
    have hma : m = a + 1 := by omega
    refine AWP.seq ?_
    refine AWP.region ?_
    refine AOps.step rfl rfl rfl (AOp.moveD rfl rfl) ?_
    refine AOps.step rfl rfl rfl (AOp.assignD rfl rfl) ?_
    refine AOps.nil ?_
    refine AWP.seq ?_
    refine AWP.region ?_
    refine AOps.step rfl rfl rfl (AOp.moveD rfl rfl) ?_
    refine AOps.step rfl rfl rfl (AOp.assignD rfl rfl) ?_
    refine AOps.nil ?_
    refine AWP.seq ?_
    refine AWP.block ?_
    refine AWP.loop (G := Nat × Nat) (fun g => Env.of [(10, .d (.v (.int .i64 (g.1 : Int)))), (11, .d (.v (.int .i64 (g.2 : Int)))), (0, .own 1), (1, .d (.v (.int .i64 a))), (2, .d (.v (.int .i64 m))), (3, .d (.v (.int .i64 b))), (4, .d (.clo (.func f) caps))]) (fun g => [(1, .row 3 1 (l.map fds))]) (fun g => Srch l (fun y => tlt cmp y (l[a]'ha)) (fun y => tlt cmp (l[a]'ha) y) m b g.1 g.2) (fun g => g.2 - g.1) (m, b) (Srch.start (by omega)) (Sub.less ⟨(SLe.i64 rfl), (SLe.i64 rfl), SLe.refl _, SLe.refl _, SLe.refl _, SLe.refl _, SLe.refl _, trivial⟩ (row_same rfl)) ?_
    rintro ⟨i, j⟩ hs
    dsimp only at hs ⊢
    have hs1 := hs.ai
    have hs2 := hs.ij
    have hs3 := hs.jb
    refine AWP.seq ?_
    refine AWP.seq ?_
    refine AWP.region ?_
    refine AOps.step rfl rfl rfl (AOp.moveD rfl rfl) ?_
    refine AOps.step rfl rfl rfl (AOp.moveD rfl rfl) ?_
    refine AOps.step rfl rfl rfl (AOp.lss rfl rfl rfl) ?_
    refine AOps.nil ?_
    refine AWP.cond rfl (fun h2 => ?_) (fun h2 => ?_)
    · replace h2 := of_decide_eq_true h2
      have hij : i < j := by omega
      have hhl : ((i + j) / 2) < l.length := by omega
      refine AWP.skip ?_
      refine AWP.block ?_
      refine AWP.seq ?_
      refine AWP.region ?_
      refine AOps.step rfl rfl rfl (AOp.moveD rfl rfl) ?_
      refine AOps.step rfl rfl rfl (AOp.moveD rfl rfl) ?_
      refine AOps.step rfl rfl rfl (AOp.add64 rfl rfl rfl (by omega) (by omega)) ?_
      refine AOps.step rfl rfl rfl (AOp.convSame rfl (by kernel_rfl) rfl (wrapU64 (by omega) (by omega))) ?_
      refine AOps.step rfl rfl rfl (AOp.half rfl rfl rfl) ?_
      refine AOps.step rfl rfl rfl (AOp.convSame rfl (by kernel_rfl) rfl (w64 (by omega) (by omega))) ?_
      refine AOps.step rfl rfl rfl (AOp.assignD rfl rfl) ?_
      refine AOps.nil ?_
      refine AWP.seq ?_
      refine AWP.draw (by kernel_rfl) (by kernel_rfl) ?_
      refine DRun.step rfl rfl rfl (AOp.moveD rfl rfl) ?_
      refine DRun.step rfl rfl rfl (AOp.moveO rfl rfl) ?_
      refine DRun.step rfl rfl rfl (AOp.moveD rfl rfl) ?_
      refine DRun.step rfl rfl rfl (AOp.indexOwn rfl et_22 rfl rfl (.head _) ((i + j) / 2) (by omega) (by rw [List.length_map]; omega)) ?_
      refine DRun.step rfl rfl rfl (AOp.loadRow rfl sc_3 rfl (.head _) ((i + j) / 2) 0 rfl (at_list hhl) rfl) ?_
      refine DRun.step rfl rfl rfl (AOp.moveO rfl rfl) ?_
      refine DRun.step rfl rfl rfl (AOp.moveD rfl rfl) ?_
      refine DRun.step rfl rfl rfl (AOp.indexOwn rfl et_22 rfl rfl (.head _) a rfl (by rw [List.length_map]; omega)) ?_
      refine DRun.step rfl rfl rfl (AOp.loadRow rfl sc_3 rfl (.head _) a 0 rfl (at_list ha) rfl) ?_
      refine DRun.step rfl rfl rfl (AOp.callClo rfl rfl (.cons (ArgOk.rfl' rfl) (.cons (ArgOk.rfl' rfl) .nil)) (hf (l[((i + j) / 2)]'hhl).1 (l[a]'ha).1)) ?_
      refine DRun.step rfl rfl rfl (AOp.lss rfl rfl rfl) ?_
      refine DRun.nil ?_
      refine AWP.cond rfl (fun h3 => ?_) (fun h3 => ?_)
      · replace h3 := of_decide_eq_true h3
        have HU := hs.up (h := ((i + j) / 2)) (by omega) (by omega) (mono_up hc s2 (by omega) (at_some l hhl) (.inl h3))
        refine AWP.region ?_
        refine AOps.step rfl rfl rfl (AOp.moveD rfl rfl) ?_
        refine AOps.step rfl rfl rfl (AOp.add64 rfl rfl rfl (by omega) (by omega)) ?_
        refine AOps.step rfl rfl rfl (AOp.assignD rfl rfl) ?_
        refine AOps.nil ?_
        refine ⟨(((i + j) / 2) + 1, j), HU, (by dsimp only; omega), Sub.less ⟨(SLe.i64 (by dsimp only; omega)), (SLe.refl _), SLe.refl _, SLe.refl _, SLe.refl _, SLe.refl _, SLe.refl _, trivial⟩ (row_same rfl)⟩
      · replace h3 := of_decide_eq_false h3
        have HD := hs.dn (h := ((i + j) / 2)) (by omega) (by omega) (mono_dn hc s2 (by omega) (at_some l hhl) (cross_ge (hx a _ _ _ (Nat.le_refl _) ham (by omega) (by omega) (at_some l ha) (at_some l hhl)) h3))
        refine AWP.region ?_
        refine AOps.step rfl rfl rfl (AOp.moveD rfl rfl) ?_
        refine AOps.step rfl rfl rfl (AOp.assignD rfl rfl) ?_
        refine AOps.nil ?_
        refine ⟨(i, ((i + j) / 2)), HD, (by dsimp only; omega), Sub.less ⟨(SLe.refl _), (SLe.i64 (by dsimp only; omega)), SLe.refl _, SLe.refl _, SLe.refl _, SLe.refl _, SLe.refl _, trivial⟩ (row_same rfl)⟩
    · replace h2 := of_decide_eq_false h2
      have hij : i = j := by omega
      refine AWP.exit ?_
      refine AWP.seq ?_
      refine AWP.seq ?_
      refine AWP.region ?_
      refine AOps.step rfl rfl rfl (AOp.moveD rfl rfl) ?_
      refine AOps.step rfl rfl rfl (AOp.assignD rfl rfl) ?_
      refine AOps.nil ?_
      refine AWP.block ?_
      refine AWP.loop (G := Nat) (fun k => Env.of [(13, .d (.v (.int .i64 (k : Int)))), (10, .d (.v (.int .i64 (i : Int)))), (0, .own 1), (1, .d (.v (.int .i64 a))), (2, .d (.v (.int .i64 m))), (3, .d (.v (.int .i64 b))), (4, .d (.clo (.func f) caps))]) (fun k => [(1, .row 3 1 ((rotl l a (a + 1) (k + 1)).map fds))]) (fun k => a ≤ k ∧ k + 1 ≤ i) (fun k => i - k) a ⟨Nat.le_refl _, by omega⟩ (Sub.less ⟨(SLe.i64 rfl), SLe.refl _, SLe.refl _, SLe.refl _, SLe.refl _, SLe.refl _, SLe.refl _, trivial⟩ (row_same (by rw [rotl_id2 (by omega)]))) ?_
      rintro k ⟨k1, k2⟩
      refine AWP.seq ?_
      refine AWP.seq ?_
      refine AWP.region ?_
      refine AOps.step rfl rfl rfl (AOp.moveD rfl rfl) ?_
      refine AOps.step rfl rfl rfl (AOp.moveD rfl rfl) ?_
      refine AOps.step rfl rfl rfl (AOp.sub64 rfl rfl rfl (by omega) (by omega)) ?_
      refine AOps.step rfl rfl rfl (AOp.lss rfl rfl rfl) ?_
      refine AOps.nil ?_
      refine AWP.cond rfl (fun h4 => ?_) (fun h4 => ?_)
      · replace h4 := of_decide_eq_true h4
        have hki : k + 1 < i := by omega
        have hrl : (rotl l a (a + 1) (k + 1)).length = l.length := rotl_len (by omega) (by omega) (by omega)
        refine AWP.skip ?_
        refine AWP.seq ?_
        refine AWP.block ?_
        refine AWP.drawG (fun k => (Nat.beq k 15 || Nat.beq k 17) || (Nat.beq k 8 || Nat.beq k 9 || Nat.beq k 12 || Nat.beq k 13 || Nat.beq k 14 || Nat.beq k 16)) (fun k => Nat.beq k 15 || Nat.beq k 17) (fun k h => Bool.or_eq_true_iff.2 (.inl h)) (by kernel_rfl) (by kernel_rfl) (by kernel_rfl) ?_
        refine GRun.step rfl rfl rfl (fun _ => AOp.moveO rfl rfl) ?_
        refine GRun.step rfl rfl rfl (fun _ => AOp.moveD rfl rfl) ?_
        refine GRun.step rfl rfl rfl (fun _ => AOp.moveO rfl rfl) ?_
        refine GRun.step rfl rfl rfl (fun _ => AOp.moveD rfl rfl) ?_
        refine GRun.step rfl rfl rfl (fun _ => AOp.add64 rfl rfl rfl (by omega) (by omega)) ?_
        refine GRun.step rfl rfl rfl (fun _ => AOp.moveO rfl rfl) ?_
        refine GRun.step rfl rfl rfl (fun _ => AOp.moveD rfl rfl) ?_
        refine GRun.step rfl rfl rfl (fun _ => AOp.add64 rfl rfl rfl (by omega) (by omega)) ?_
        refine GRun.stepS rfl rfl rfl rfl (AOp.indexOwn rfl et_22 rfl rfl (.head _) (k + 1) (by omega) (by rw [List.length_map, hrl]; omega)) ?_
        refine GRun.stepS rfl rfl rfl rfl (AOp.loadRow rfl sc_3 rfl (.head _) (k + 1) 0 rfl (at_list (by omega)) rfl) ?_
        refine GRun.step rfl rfl rfl (fun _ => AOp.moveO rfl rfl) ?_
        refine GRun.step rfl rfl rfl (fun _ => AOp.moveD rfl rfl) ?_
        refine GRun.stepS rfl rfl rfl rfl (AOp.indexOwn rfl et_22 rfl rfl (.head _) k rfl (by rw [List.length_map, hrl]; omega)) ?_
        refine GRun.stepS rfl rfl rfl rfl (AOp.loadRow rfl sc_3 rfl (.head _) k 0 rfl (at_list (by omega)) rfl) ?_
        refine GRun.stepS rfl rfl rfl rfl (AOp.indexOwn rfl et_22 rfl rfl (.head _) k rfl (by rw [List.length_map, hrl]; omega)) ?_
        refine GRun.eff rfl rfl rfl (EOp.storeRow rfl rfl sz_3 rfl (.head _) rfl rfl rfl k 0 rfl (at_list (by omega)) (Nat.le_of_ble_eq_true rfl)) ?_
        refine GRun.stepS rfl rfl rfl rfl (AOp.indexOwn rfl et_22 rfl rfl (.head _) (k + 1) (by omega) (by rw [List.length_set, List.length_map, hrl]; omega)) ?_
        refine GRun.eff rfl rfl rfl (EOp.storeRow rfl rfl sz_3 rfl (.head _) rfl rfl rfl (k + 1) 0 rfl (List.getElem?_eq_getElem (by rw [List.length_set, List.length_map, hrl]; omega)) (Nat.le_of_ble_eq_true rfl)) ?_
        refine GRun.nil ?_
        refine AWP.region ?_
        refine AOps.step rfl rfl rfl (AOp.moveD rfl rfl) ?_
        refine AOps.step rfl rfl rfl (AOp.add64 rfl rfl rfl (by omega) (by omega)) ?_
        refine AOps.step rfl rfl rfl (AOp.assignD rfl rfl) ?_
        refine AOps.nil ?_
        refine ⟨k + 1, ⟨by omega, by omega⟩, (by dsimp only; omega), Sub.less ⟨(SLe.i64 (by omega)), SLe.refl _, SLe.refl _, SLe.refl _, SLe.refl _, SLe.refl _, SLe.refl _, trivial⟩ (row_same ((row_swap (enc := fds) (size := 1) (cur := rotl l a (a + 1) (k + 1)) (i := k) (j := k + 1) (fun _ => rfl) (by omega) (by omega) rfl (List.getElem?_eq_getElem (by rw [List.length_set, List.length_map, hrl]; omega))).trans (by rw [rot_up k1 (by omega)])))⟩
      · replace h4 := of_decide_eq_false h4
        have hki : k + 1 = i := by omega
        subst hma
        have HF : rotl l a (a + 1) (k + 1) = sortSeg cmp l a b := one_up hc ht hbl s2 (by omega) (by omega) (fun h x y q1 q2 hy hx2 => by rw [at_some l ha] at hx2; cases hx2; exact hs.low h y q1 (by omega) hy) (fun h x y q1 q2 hy hx2 => by rw [at_some l ha] at hx2; cases hx2; exact hs.high h y (by omega) q2 hy)
        refine AWP.exit ?_
        refine AWP.ret ?_
        refine ⟨trivial, ⟨mem_row_eq (.head _) ?_, trivial⟩⟩
        all_goals (rw [HF])
  · replace h1 := of_decide_eq_false h1
    have hma : a + 1 < m := by omega
    refine AWP.skip ?_
    refine AWP.seq ?_
    refine AWP.seq ?_
    refine AWP.region ?_
    refine AOps.step rfl rfl rfl (AOp.moveD rfl rfl) ?_
    refine AOps.step rfl rfl rfl (AOp.moveD rfl rfl) ?_
    refine AOps.step rfl rfl rfl (AOp.sub64 rfl rfl rfl (by omega) (by omega)) ?_
    refine AOps.step rfl rfl rfl (AOp.eql rfl rfl rfl) ?_
    refine AOps.nil ?_
    refine AWP.cond rfl (fun h5 => ?_) (fun h5 => ?_)
    · replace h5 := of_decide_eq_true h5
      have hbm : b = m + 1 := by omega
      refine AWP.seq ?_
      refine AWP.region ?_
      refine AOps.step rfl rfl rfl (AOp.moveD rfl rfl) ?_
      refine AOps.step rfl rfl rfl (AOp.assignD rfl rfl) ?_
      refine AOps.nil ?_
      refine AWP.seq ?_
      refine AWP.region ?_
      refine AOps.step rfl rfl rfl (AOp.moveD rfl rfl) ?_
      refine AOps.step rfl rfl rfl (AOp.assignD rfl rfl) ?_
      refine AOps.nil ?_
      refine AWP.seq ?_
      refine AWP.block ?_
      refine AWP.loop (G := Nat × Nat) (fun g => Env.of [(14, .d (.v (.int .i64 (g.1 : Int)))), (15, .d (.v (.int .i64 (g.2 : Int)))), (0, .own 1), (1, .d (.v (.int .i64 a))), (2, .d (.v (.int .i64 m))), (3, .d (.v (.int .i64 b))), (4, .d (.clo (.func f) caps))]) (fun g => [(1, .row 3 1 (l.map fds))]) (fun g => Srch l (fun y => tlt cmp y (l[m]'hm)) (fun y => tlt cmp (l[m]'hm) y) a m g.1 g.2) (fun g => g.2 - g.1) (a, m) (Srch.start (by omega)) (Sub.less ⟨(SLe.i64 rfl), (SLe.i64 rfl), SLe.refl _, SLe.refl _, SLe.refl _, SLe.refl _, SLe.refl _, trivial⟩ (row_same rfl)) ?_
      rintro ⟨i, j⟩ hs
      dsimp only at hs ⊢
      have hs1 := hs.ai
      have hs2 := hs.ij
      have hs3 := hs.jb
      refine AWP.seq ?_
      refine AWP.seq ?_
      refine AWP.region ?_
      refine AOps.step rfl rfl rfl (AOp.moveD rfl rfl) ?_
      refine AOps.step rfl rfl rfl (AOp.moveD rfl rfl) ?_
      refine AOps.step rfl rfl rfl (AOp.lss rfl rfl rfl) ?_
      refine AOps.nil ?_
      refine AWP.cond rfl (fun h6 => ?_) (fun h6 => ?_)
      · replace h6 := of_decide_eq_true h6
        have hij : i < j := by omega
        have hhl : ((i + j) / 2) < l.length := by omega
        refine AWP.skip ?_
        refine AWP.block ?_
        refine AWP.seq ?_
        refine AWP.region ?_
        refine AOps.step rfl rfl rfl (AOp.moveD rfl rfl) ?_
        refine AOps.step rfl rfl rfl (AOp.moveD rfl rfl) ?_
        refine AOps.step rfl rfl rfl (AOp.add64 rfl rfl rfl (by omega) (by omega)) ?_
        refine AOps.step rfl rfl rfl (AOp.convSame rfl (by kernel_rfl) rfl (wrapU64 (by omega) (by omega))) ?_
        refine AOps.step rfl rfl rfl (AOp.half rfl rfl rfl) ?_
        refine AOps.step rfl rfl rfl (AOp.convSame rfl (by kernel_rfl) rfl (w64 (by omega) (by omega))) ?_
        refine AOps.step rfl rfl rfl (AOp.assignD rfl rfl) ?_
        refine AOps.nil ?_
        refine AWP.seq ?_
        refine AWP.draw (by kernel_rfl) (by kernel_rfl) ?_
        refine DRun.step rfl rfl rfl (AOp.moveD rfl rfl) ?_
        refine DRun.step rfl rfl rfl (AOp.moveO rfl rfl) ?_
        refine DRun.step rfl rfl rfl (AOp.moveD rfl rfl) ?_
        refine DRun.step rfl rfl rfl (AOp.indexOwn rfl et_22 rfl rfl (.head _) m rfl (by rw [List.length_map]; omega)) ?_
        refine DRun.step rfl rfl rfl (AOp.loadRow rfl sc_3 rfl (.head _) m 0 rfl (at_list hm) rfl) ?_
        refine DRun.step rfl rfl rfl (AOp.moveO rfl rfl) ?_
        refine DRun.step rfl rfl rfl (AOp.moveD rfl rfl) ?_
        refine DRun.step rfl rfl rfl (AOp.indexOwn rfl et_22 rfl rfl (.head _) ((i + j) / 2) (by omega) (by rw [List.length_map]; omega)) ?_
        refine DRun.step rfl rfl rfl (AOp.loadRow rfl sc_3 rfl (.head _) ((i + j) / 2) 0 rfl (at_list hhl) rfl) ?_
        refine DRun.step rfl rfl rfl (AOp.callClo rfl rfl (.cons (ArgOk.rfl' rfl) (.cons (ArgOk.rfl' rfl) .nil)) (hf (l[m]'hm).1 (l[((i + j) / 2)]'hhl).1)) ?_
        refine DRun.step rfl rfl rfl (AOp.lss rfl rfl rfl) ?_
        refine DRun.step rfl rfl rfl (AOp.not rfl rfl) ?_
        refine DRun.nil ?_
        refine AWP.cond rfl (fun h7 => ?_) (fun h7 => ?_)
        · replace h7 := bnot_t h7; replace h7 := of_decide_eq_false h7
          have HU := hs.up (h := ((i + j) / 2)) (by omega) (by omega) (mono_up hc s1 (by omega) (at_some l hhl) (cross_ge (hx _ m _ _ (by omega) (by omega) (Nat.le_refl _) hmb (at_some l hhl) (at_some l hm)) h7))
          refine AWP.region ?_
          refine AOps.step rfl rfl rfl (AOp.moveD rfl rfl) ?_
          refine AOps.step rfl rfl rfl (AOp.add64 rfl rfl rfl (by omega) (by omega)) ?_
          refine AOps.step rfl rfl rfl (AOp.assignD rfl rfl) ?_
          refine AOps.nil ?_
          refine ⟨(((i + j) / 2) + 1, j), HU, (by dsimp only; omega), Sub.less ⟨(SLe.i64 (by dsimp only; omega)), (SLe.refl _), SLe.refl _, SLe.refl _, SLe.refl _, SLe.refl _, SLe.refl _, trivial⟩ (row_same rfl)⟩
        · replace h7 := bnot_f h7; replace h7 := of_decide_eq_true h7
          have HD := hs.dn (h := ((i + j) / 2)) (by omega) (by omega) (mono_dn hc s1 (by omega) (at_some l hhl) (.inl (by omega)))
          refine AWP.region ?_
          refine AOps.step rfl rfl rfl (AOp.moveD rfl rfl) ?_
          refine AOps.step rfl rfl rfl (AOp.assignD rfl rfl) ?_
          refine AOps.nil ?_
          refine ⟨(i, ((i + j) / 2)), HD, (by dsimp only; omega), Sub.less ⟨(SLe.refl _), (SLe.i64 (by dsimp only; omega)), SLe.refl _, SLe.refl _, SLe.refl _, SLe.refl _, SLe.refl _, trivial⟩ (row_same rfl)⟩
      · replace h6 := of_decide_eq_false h6
        have hij : i = j := by omega
        refine AWP.exit ?_
        refine AWP.seq ?_
        refine AWP.seq ?_
        refine AWP.region ?_
        refine AOps.step rfl rfl rfl (AOp.moveD rfl rfl) ?_
        refine AOps.step rfl rfl rfl (AOp.assignD rfl rfl) ?_
        refine AOps.nil ?_
        refine AWP.block ?_
        refine AWP.loop (G := Nat) (fun k => Env.of [(17, .d (.v (.int .i64 (k : Int)))), (14, .d (.v (.int .i64 (i : Int)))), (0, .own 1), (1, .d (.v (.int .i64 a))), (2, .d (.v (.int .i64 m))), (3, .d (.v (.int .i64 b))), (4, .d (.clo (.func f) caps))]) (fun k => [(1, .row 3 1 ((rotl l k m (m + 1)).map fds))]) (fun k => i ≤ k ∧ k ≤ m) (fun k => k) m ⟨by omega, Nat.le_refl _⟩ (Sub.less ⟨(SLe.i64 rfl), SLe.refl _, SLe.refl _, SLe.refl _, SLe.refl _, SLe.refl _, SLe.refl _, trivial⟩ (row_same (by rw [rotl_id1 (by omega)]))) ?_
        rintro k ⟨k1, k2⟩
        refine AWP.seq ?_
        refine AWP.seq ?_
        refine AWP.region ?_
        refine AOps.step rfl rfl rfl (AOp.moveD rfl rfl) ?_
        refine AOps.step rfl rfl rfl (AOp.moveD rfl rfl) ?_
        refine AOps.step rfl rfl rfl (AOp.gtr rfl rfl rfl) ?_
        refine AOps.nil ?_
        refine AWP.cond rfl (fun h8 => ?_) (fun h8 => ?_)
        · replace h8 := of_decide_eq_true h8
          have hki : i < k := by omega
          have hrl : (rotl l k m (m + 1)).length = l.length := rotl_len (by omega) (by omega) (by omega)
          refine AWP.skip ?_
          refine AWP.seq ?_
          refine AWP.block ?_
          refine AWP.drawG (fun k => (Nat.beq k 15 || Nat.beq k 17) || (Nat.beq k 8 || Nat.beq k 9 || Nat.beq k 12 || Nat.beq k 13 || Nat.beq k 14 || Nat.beq k 16)) (fun k => Nat.beq k 15 || Nat.beq k 17) (fun k h => Bool.or_eq_true_iff.2 (.inl h)) (by kernel_rfl) (by kernel_rfl) (by kernel_rfl) ?_
          refine GRun.step rfl rfl rfl (fun _ => AOp.moveO rfl rfl) ?_
          refine GRun.step rfl rfl rfl (fun _ => AOp.moveD rfl rfl) ?_
          refine GRun.step rfl rfl rfl (fun _ => AOp.moveO rfl rfl) ?_
          refine GRun.step rfl rfl rfl (fun _ => AOp.moveD rfl rfl) ?_
          refine GRun.step rfl rfl rfl (fun _ => AOp.sub64 rfl rfl rfl (by omega) (by omega)) ?_
          refine GRun.step rfl rfl rfl (fun _ => AOp.moveO rfl rfl) ?_
          refine GRun.step rfl rfl rfl (fun _ => AOp.moveD rfl rfl) ?_
          refine GRun.step rfl rfl rfl (fun _ => AOp.sub64 rfl rfl rfl (by omega) (by omega)) ?_
          refine GRun.stepS rfl rfl rfl rfl (AOp.indexOwn rfl et_22 rfl rfl (.head _) (k - 1) (by omega) (by rw [List.length_map, hrl]; omega)) ?_
          refine GRun.stepS rfl rfl rfl rfl (AOp.loadRow rfl sc_3 rfl (.head _) (k - 1) 0 rfl (at_list (by omega)) rfl) ?_
          refine GRun.step rfl rfl rfl (fun _ => AOp.moveO rfl rfl) ?_
          refine GRun.step rfl rfl rfl (fun _ => AOp.moveD rfl rfl) ?_
          refine GRun.stepS rfl rfl rfl rfl (AOp.indexOwn rfl et_22 rfl rfl (.head _) k rfl (by rw [List.length_map, hrl]; omega)) ?_
          refine GRun.stepS rfl rfl rfl rfl (AOp.loadRow rfl sc_3 rfl (.head _) k 0 rfl (at_list (by omega)) rfl) ?_
          refine GRun.stepS rfl rfl rfl rfl (AOp.indexOwn rfl et_22 rfl rfl (.head _) k rfl (by rw [List.length_map, hrl]; omega)) ?_
          refine GRun.eff rfl rfl rfl (EOp.storeRow rfl rfl sz_3 rfl (.head _) rfl rfl rfl k 0 rfl (at_list (by omega)) (Nat.le_of_ble_eq_true rfl)) ?_
          refine GRun.stepS rfl rfl rfl rfl (AOp.indexOwn rfl et_22 rfl rfl (.head _) (k - 1) (by omega) (by rw [List.length_set, List.length_map, hrl]; omega)) ?_
          refine GRun.eff rfl rfl rfl (EOp.storeRow rfl rfl sz_3 rfl (.head _) rfl rfl rfl (k - 1) 0 rfl (List.getElem?_eq_getElem (by rw [List.length_set, List.length_map, hrl]; omega)) (Nat.le_of_ble_eq_true rfl)) ?_
          refine GRun.nil ?_
          refine AWP.region ?_
          refine AOps.step rfl rfl rfl (AOp.moveD rfl rfl) ?_
          refine AOps.step rfl rfl rfl (AOp.sub64 rfl rfl rfl (by omega) (by omega)) ?_
          refine AOps.step rfl rfl rfl (AOp.assignD rfl rfl) ?_
          refine AOps.nil ?_
          refine ⟨k - 1, ⟨by omega, by omega⟩, (by dsimp only; omega), Sub.less ⟨(SLe.i64 (by omega)), SLe.refl _, SLe.refl _, SLe.refl _, SLe.refl _, SLe.refl _, SLe.refl _, trivial⟩ (row_same ((row_swap (enc := fds) (size := 1) (cur := rotl l k m (m + 1)) (i := k) (j := k - 1) (fun _ => rfl) (by omega) (by omega) rfl (List.getElem?_eq_getElem (by rw [List.length_set, List.length_map, hrl]; omega))).trans (by rw [rot_down k2 (by omega) (by omega)])))⟩
        · replace h8 := of_decide_eq_false h8
          have hki : k = i := by omega
          subst hbm
          subst hki
          have HF : rotl l k m (m + 1) = sortSeg cmp l a (m + 1) := one_down hc ht hbl s1 (by omega) (by omega) (fun h x y q1 q2 hy hx2 => by rw [at_some l hm] at hx2; cases hx2; exact hs.low h y q1 (by omega) hy) (fun h x y q1 q2 hy hx2 => by rw [at_some l hm] at hx2; cases hx2; exact hs.high h y (by omega) q2 hy)
          refine AWP.exit ?_
          refine AWP.ret ?_
          refine ⟨trivial, ⟨mem_row_eq (.head _) ?_, trivial⟩⟩
          all_goals (rw [HF])
    · replace h5 := of_decide_eq_false h5
      have hbm : m + 1 < b := by omega
      obtain ⟨mid, hmid⟩ : ∃ mid, mid = (a + b) / 2 := ⟨_, rfl⟩
      refine AWP.skip ?_
      refine AWP.seq ?_
      refine AWP.region ?_
      refine AOps.step rfl rfl rfl (AOp.moveD rfl rfl) ?_
      refine AOps.step rfl rfl rfl (AOp.moveD rfl rfl) ?_
      refine AOps.step rfl rfl rfl (AOp.add64 rfl rfl rfl (by omega) (by omega)) ?_
      refine AOps.step rfl rfl rfl (AOp.convSame rfl (by kernel_rfl) rfl (wrapU64 (by omega) (by omega))) ?_
      refine AOps.step rfl rfl rfl (AOp.half rfl rfl rfl) ?_
      refine AOps.step rfl rfl rfl (AOp.convSame rfl (by kernel_rfl) rfl (w64 (by omega) (by omega))) ?_
      refine AOps.step rfl rfl rfl (AOp.assignD rfl rfl) ?_
      refine AOps.nil ?_
      refine AWP.seq ?_
      refine AWP.region ?_
      refine AOps.step rfl rfl rfl (AOp.moveD rfl rfl) ?_
      refine AOps.step rfl rfl rfl (AOp.moveD rfl rfl) ?_
      refine AOps.step rfl rfl rfl (AOp.add64 rfl rfl rfl (by omega) (by omega)) ?_
      refine AOps.step rfl rfl rfl (AOp.assignD rfl rfl) ?_
      refine AOps.nil ?_
      refine AWP.seq ?_
      refine AWP.region ?_
      refine AOps.step rfl rfl rfl (AOp.assignD rfl rfl) ?_
      refine AOps.step rfl rfl rfl (AOp.assignD rfl rfl) ?_
      refine AOps.nil ?_
      refine AWP.seq ?_
      refine AWP.seq ?_
      refine AWP.region ?_
      refine AOps.step rfl rfl rfl (AOp.moveD rfl rfl) ?_
      refine AOps.step rfl rfl rfl (AOp.moveD rfl rfl) ?_
      refine AOps.step rfl rfl rfl (AOp.gtr rfl rfl rfl) ?_
      refine AOps.nil ?_
      refine AWP.cond rfl (fun h9 => ?_) (fun h9 => ?_)
      · replace h9 := of_decide_eq_true h9
        have hmm : mid < m := by omega
        obtain ⟨lo0, hlo0⟩ : ∃ lo0, lo0 + b = mid + m := ⟨mid + m - b, by omega⟩
        obtain ⟨hi0, hhi0⟩ : ∃ hi0, hi0 = mid := ⟨_, rfl⟩
        have hg : (mid < m ∧ lo0 + b = mid + m ∧ hi0 = mid) ∨ (m ≤ mid ∧ lo0 = a ∧ hi0 = m) := .inl ⟨hmm, hlo0, hhi0⟩
        refine AWP.seq ?_
        refine AWP.region ?_
        refine AOps.step rfl rfl rfl (AOp.moveD rfl rfl) ?_
        refine AOps.step rfl rfl rfl (AOp.moveD rfl rfl) ?_
        refine AOps.step rfl rfl rfl (AOp.sub64 rfl rfl rfl (by omega) (by omega)) ?_
        refine AOps.step rfl rfl rfl (AOp.assignD rfl rfl) ?_
        refine AOps.nil ?_
        refine AWP.region ?_
        refine AOps.step rfl rfl rfl (AOp.moveD rfl rfl) ?_
        refine AOps.step rfl rfl rfl (AOp.assignD rfl rfl) ?_
        refine AOps.nil ?_
        refine AWP.seq ?_
        refine AWP.region ?_
        refine AOps.step rfl rfl rfl (AOp.moveD rfl rfl) ?_
        refine AOps.step rfl rfl rfl (AOp.sub64 rfl rfl rfl (by omega) (by omega)) ?_
        refine AOps.step rfl rfl rfl (AOp.assignD rfl rfl) ?_
        refine AOps.nil ?_
        refine AWP.seq ?_
        refine AWP.block ?_
        refine AWP.loop (G := Nat × Nat) (fun g => Env.of [(20, .d (.v (.int .i64 (g.1 : Int)))), (21, .d (.v (.int .i64 (g.2 : Int)))), (22, .d (.v (.int .i64 ((mid + m - 1 : Nat) : Int)))), (19, .d (.v (.int .i64 ((mid + m : Nat) : Int)))), (18, .d (.v (.int .i64 (mid : Int)))), (0, .own 1), (1, .d (.v (.int .i64 a))), (2, .d (.v (.int .i64 m))), (3, .d (.v (.int .i64 b))), (4, .d (.clo (.func f) caps))]) (fun g => [(1, .row 3 1 (l.map fds))]) (fun g => CutS cmp l (mid + m - 1) lo0 hi0 g.1 g.2) (fun g => g.2 - g.1) (lo0, hi0) ⟨Nat.le_refl _, by dsimp only; omega, Nat.le_refl _, fun h => absurd h (Nat.lt_irrefl _), fun h => absurd h (Nat.lt_irrefl _)⟩ (Sub.less ⟨(SLe.i64 (by first | omega | (dsimp only; omega))), (SLe.i64 (by first | omega | (dsimp only; omega))), (SLe.i64 (by first | omega | (dsimp only; omega))), (SLe.i64 (by first | omega | (dsimp only; omega))), (SLe.i64 (by first | omega | (dsimp only; omega))), SLe.refl _, SLe.refl _, SLe.refl _, SLe.refl _, SLe.refl _, trivial⟩ (row_same rfl)) ?_
        rintro ⟨i, j⟩ hs
        dsimp only at hs ⊢
        have hs1 := hs.ls
        have hs2 := hs.sr
        have hs3 := hs.rh
        refine AWP.seq ?_
        refine AWP.seq ?_
        refine AWP.region ?_
        refine AOps.step rfl rfl rfl (AOp.moveD rfl rfl) ?_
        refine AOps.step rfl rfl rfl (AOp.moveD rfl rfl) ?_
        refine AOps.step rfl rfl rfl (AOp.lss rfl rfl rfl) ?_
        refine AOps.nil ?_
        refine AWP.cond rfl (fun h10 => ?_) (fun h10 => ?_)
        · replace h10 := of_decide_eq_true h10
          have hij : i < j := by omega
          have hhl : ((i + j) / 2) < l.length := by omega
          have hpl : mid + m - 1 - ((i + j) / 2) < l.length := by omega
          have htg := hx _ _ _ _ (show a ≤ ((i + j) / 2) by omega) (by omega) (show m ≤ mid + m - 1 - ((i + j) / 2) by omega) (by omega) (at_some l hhl) (at_some l hpl)
          refine AWP.skip ?_
          refine AWP.block ?_
          refine AWP.seq ?_
          refine AWP.region ?_
          refine AOps.step rfl rfl rfl (AOp.moveD rfl rfl) ?_
          refine AOps.step rfl rfl rfl (AOp.moveD rfl rfl) ?_
          refine AOps.step rfl rfl rfl (AOp.add64 rfl rfl rfl (by omega) (by omega)) ?_
          refine AOps.step rfl rfl rfl (AOp.convSame rfl (by kernel_rfl) rfl (wrapU64 (by omega) (by omega))) ?_
          refine AOps.step rfl rfl rfl (AOp.half rfl rfl rfl) ?_
          refine AOps.step rfl rfl rfl (AOp.convSame rfl (by kernel_rfl) rfl (w64 (by omega) (by omega))) ?_
          refine AOps.step rfl rfl rfl (AOp.assignD rfl rfl) ?_
          refine AOps.nil ?_
          refine AWP.seq ?_
          refine AWP.draw (by kernel_rfl) (by kernel_rfl) ?_
          refine DRun.step rfl rfl rfl (AOp.moveD rfl rfl) ?_
          refine DRun.step rfl rfl rfl (AOp.moveO rfl rfl) ?_
          refine DRun.step rfl rfl rfl (AOp.moveD rfl rfl) ?_
          refine DRun.step rfl rfl rfl (AOp.moveD rfl rfl) ?_
          refine DRun.step rfl rfl rfl (AOp.sub64 rfl rfl rfl (by omega) (by omega)) ?_
          refine DRun.step rfl rfl rfl (AOp.indexOwn rfl et_22 rfl rfl (.head _) (mid + m - 1 - ((i + j) / 2)) (by omega) (by rw [List.length_map]; omega)) ?_
          refine DRun.step rfl rfl rfl (AOp.loadRow rfl sc_3 rfl (.head _) (mid + m - 1 - ((i + j) / 2)) 0 rfl (at_list hpl) rfl) ?_
          refine DRun.step rfl rfl rfl (AOp.moveO rfl rfl) ?_
          refine DRun.step rfl rfl rfl (AOp.moveD rfl rfl) ?_
          refine DRun.step rfl rfl rfl (AOp.indexOwn rfl et_22 rfl rfl (.head _) ((i + j) / 2) (by omega) (by rw [List.length_map]; omega)) ?_
          refine DRun.step rfl rfl rfl (AOp.loadRow rfl sc_3 rfl (.head _) ((i + j) / 2) 0 rfl (at_list hhl) rfl) ?_
          refine DRun.step rfl rfl rfl (AOp.callClo rfl rfl (.cons (ArgOk.rfl' rfl) (.cons (ArgOk.rfl' rfl) .nil)) (hf (l[mid + m - 1 - ((i + j) / 2)]'hpl).1 (l[((i + j) / 2)]'hhl).1)) ?_
          refine DRun.step rfl rfl rfl (AOp.lss rfl rfl rfl) ?_
          refine DRun.step rfl rfl rfl (AOp.not rfl rfl) ?_
          refine DRun.nil ?_
          refine AWP.cond rfl (fun h11 => ?_) (fun h11 => ?_)
          · replace h11 := bnot_t h11; replace h11 := of_decide_eq_false h11
            have HU : CutS cmp l (mid + m - 1) lo0 hi0 (((i + j) / 2) + 1) j := ⟨by omega, by omega, by omega, fun _ => ⟨_, _, at_some l hhl, at_some l hpl, cross_ge htg h11⟩, hs.high⟩
            refine AWP.region ?_
            refine AOps.step rfl rfl rfl (AOp.moveD rfl rfl) ?_
            refine AOps.step rfl rfl rfl (AOp.add64 rfl rfl rfl (by omega) (by omega)) ?_
            refine AOps.step rfl rfl rfl (AOp.assignD rfl rfl) ?_
            refine AOps.nil ?_
            refine ⟨(((i + j) / 2) + 1, j), HU, (by dsimp only; omega), Sub.less ⟨(SLe.i64 (by dsimp only; omega)), (SLe.refl _), SLe.refl _, SLe.refl _, SLe.refl _, SLe.refl _, SLe.refl _, SLe.refl _, SLe.refl _, SLe.refl _, trivial⟩ (row_same rfl)⟩
          · replace h11 := bnot_f h11; replace h11 := of_decide_eq_true h11
            have HD : CutS cmp l (mid + m - 1) lo0 hi0 i ((i + j) / 2) := ⟨by omega, by omega, by omega, hs.low, fun _ => ⟨_, _, at_some l hhl, at_some l hpl, .inl (by omega)⟩⟩
            refine AWP.region ?_
            refine AOps.step rfl rfl rfl (AOp.moveD rfl rfl) ?_
            refine AOps.step rfl rfl rfl (AOp.assignD rfl rfl) ?_
            refine AOps.nil ?_
            refine ⟨(i, ((i + j) / 2)), HD, (by dsimp only; omega), Sub.less ⟨(SLe.refl _), (SLe.i64 (by dsimp only; omega)), SLe.refl _, SLe.refl _, SLe.refl _, SLe.refl _, SLe.refl _, SLe.refl _, SLe.refl _, SLe.refl _, trivial⟩ (row_same rfl)⟩
        · replace h10 := of_decide_eq_false h10
          have hij : i = j := by omega
          subst hij
          have hcut := CutS.cut hc s1 s2 hmid ham hmb hg hs
          have hs4 := hcut.has
          have hs5 := hcut.sm
          have hs6 := hcut.me
          have hs7 := hcut.eb
          obtain ⟨k1, k2, k3, k4, k5, k6, k7⟩ := cut_merge hc ht hbl s1 s2 hx hcut
          rw [show i + (mid + m - i - m) = mid by omega] at k2 k3 k4 k5 k6 k7
          have hrl : (rotl l i m (mid + m - i)).length = l.length := rotl_len hs5 hs6 (by omega)
          have ht1 : TagsOk (rotl l i m (mid + m - i)) := ht.perm (rotl_perm hs5 hs6)
          have hl1 : (sortSeg cmp (rotl l i m (mid + m - i)) a mid).length = l.length := by rw [sortSeg_len cmp _ (by omega), hrl]
          have ht2 : TagsOk (sortSeg cmp (rotl l i m (mid + m - i)) a mid) := ht1.perm (sortSeg_perm cmp _ (by omega))
          have HF := k7
          refine AWP.exit ?_
          refine AWP.seq ?_
          refine AWP.region ?_
          refine AOps.step rfl rfl rfl (AOp.moveD rfl rfl) ?_
          refine AOps.step rfl rfl rfl (AOp.moveD rfl rfl) ?_
          refine AOps.step rfl rfl rfl (AOp.sub64 rfl rfl rfl (by omega) (by omega)) ?_
          refine AOps.step rfl rfl rfl (AOp.assignD rfl rfl) ?_
          refine AOps.nil ?_
          refine AWP.seq ?_
          refine AWP.seq ?_
          refine AWP.region ?_
          refine AOps.step rfl rfl rfl (AOp.moveD rfl rfl) ?_
          refine AOps.step rfl rfl rfl (AOp.moveD rfl rfl) ?_
          refine AOps.step rfl rfl rfl (AOp.lss rfl rfl rfl) ?_
          refine AOps.step rfl rfl rfl (AOp.moveD rfl rfl) ?_
          refine AOps.split 181 rfl (fun g12 => ?_) (fun g12 => ?_)
          · replace g12 := of_decide_eq_true g12
            refine AOps.step ⟨181, rfl, .inl ⟨_, rfl, rfl⟩⟩ rfl rfl (AOp.moveD rfl rfl) ?_
            refine AOps.step ⟨181, rfl, .inl ⟨_, rfl, rfl⟩⟩ rfl rfl (AOp.moveD rfl rfl) ?_
            refine AOps.step ⟨181, rfl, .inl ⟨_, rfl, rfl⟩⟩ rfl rfl (AOp.lss rfl rfl rfl) ?_
            refine AOps.step rfl rfl rfl (AOp.pickT rfl rfl rfl) ?_
            refine AOps.nil ?_
            refine AWP.cond rfl (fun h13 => ?_) (fun h13 => ?_)
            · replace h13 := of_decide_eq_true h13
              refine AWP.region ?_
              refine AOps.step rfl rfl rfl (AOp.moveO rfl rfl) ?_
              refine AOps.step rfl rfl rfl (AOp.moveD rfl rfl) ?_
              refine AOps.step rfl rfl rfl (AOp.moveD rfl rfl) ?_
              refine AOps.step rfl rfl rfl (AOp.moveD rfl rfl) ?_
              refine AOps.step rfl rfl rfl (AOp.moveD rfl rfl) ?_
              -- turns 1
              refine AOps.callX rfl rfl rfl (.cons (SLe.refl _) (.cons (SLe.refl _) (.cons (SLe.refl _) (.cons (SLe.i64 (by omega)) (.cons (SLe.refl _) .nil))))) ((c_rotate l i m (mid + m - i) _ (by omega) (by omega) (by omega) hl) 1) ⟨(.head _), trivial⟩ rfl rfl (fun _ h => nomatch h) ?_
              refine AOps.nil ?_
              refine AWP.seq ?_
              refine AWP.seq ?_
              refine AWP.region ?_
              refine AOps.step rfl rfl rfl (AOp.moveD rfl rfl) ?_
              refine AOps.step rfl rfl rfl (AOp.moveD rfl rfl) ?_
              refine AOps.step rfl rfl rfl (AOp.lss rfl rfl rfl) ?_
              refine AOps.step rfl rfl rfl (AOp.moveD rfl rfl) ?_
              refine AOps.split 195 rfl (fun g14 => ?_) (fun g14 => ?_)
              · replace g14 := of_decide_eq_true g14
                refine AOps.step ⟨195, rfl, .inl ⟨_, rfl, rfl⟩⟩ rfl rfl (AOp.moveD rfl rfl) ?_
                refine AOps.step ⟨195, rfl, .inl ⟨_, rfl, rfl⟩⟩ rfl rfl (AOp.moveD rfl rfl) ?_
                refine AOps.step ⟨195, rfl, .inl ⟨_, rfl, rfl⟩⟩ rfl rfl (AOp.lss rfl rfl rfl) ?_
                refine AOps.step rfl rfl rfl (AOp.pickT rfl rfl rfl) ?_
                refine AOps.nil ?_
                refine AWP.cond rfl (fun h15 => ?_) (fun h15 => ?_)
                · replace h15 := of_decide_eq_true h15
                  refine AWP.region ?_
                  refine AOps.step rfl rfl rfl (AOp.moveO rfl rfl) ?_
                  refine AOps.step rfl rfl rfl (AOp.moveD rfl rfl) ?_
                  refine AOps.step rfl rfl rfl (AOp.moveD rfl rfl) ?_
                  refine AOps.step rfl rfl rfl (AOp.moveD rfl rfl) ?_
                  refine AOps.step rfl rfl rfl (AOp.moveD rfl rfl) ?_
                  -- turns 1
                  refine AOps.callX rfl rfl rfl (.cons (SLe.refl _) (.cons (SLe.refl _) (.cons (SLe.refl _) (.cons (SLe.refl _) (.cons (SLe.refl _) .nil))))) ((ih _ a i mid (by omega) (by omega) (by omega) (by omega) (by omega) ht1 k1 k2 k3) 1) ⟨(.head _), trivial⟩ rfl rfl (fun _ h => nomatch h) ?_
                  refine AOps.nil ?_
                  refine AWP.seq ?_
                  refine AWP.region ?_
                  refine AOps.step rfl rfl rfl (AOp.moveD rfl rfl) ?_
                  refine AOps.step rfl rfl rfl (AOp.moveD rfl rfl) ?_
                  refine AOps.step rfl rfl rfl (AOp.lss rfl rfl rfl) ?_
                  refine AOps.step rfl rfl rfl (AOp.moveD rfl rfl) ?_
                  refine AOps.split 209 rfl (fun g16 => ?_) (fun g16 => ?_)
                  · replace g16 := of_decide_eq_true g16
                    refine AOps.step ⟨209, rfl, .inl ⟨_, rfl, rfl⟩⟩ rfl rfl (AOp.moveD rfl rfl) ?_
                    refine AOps.step ⟨209, rfl, .inl ⟨_, rfl, rfl⟩⟩ rfl rfl (AOp.moveD rfl rfl) ?_
                    refine AOps.step ⟨209, rfl, .inl ⟨_, rfl, rfl⟩⟩ rfl rfl (AOp.lss rfl rfl rfl) ?_
                    refine AOps.step rfl rfl rfl (AOp.pickT rfl rfl rfl) ?_
                    refine AOps.nil ?_
                    refine AWP.cond rfl (fun h17 => ?_) (fun h17 => ?_)
                    · replace h17 := of_decide_eq_true h17
                      refine AWP.region ?_
                      refine AOps.step rfl rfl rfl (AOp.moveO rfl rfl) ?_
                      refine AOps.step rfl rfl rfl (AOp.moveD rfl rfl) ?_
                      refine AOps.step rfl rfl rfl (AOp.moveD rfl rfl) ?_
                      refine AOps.step rfl rfl rfl (AOp.moveD rfl rfl) ?_
                      refine AOps.step rfl rfl rfl (AOp.moveD rfl rfl) ?_
                      -- turns 1
                      refine AOps.callX rfl rfl rfl (.cons (SLe.refl _) (.cons (SLe.refl _) (.cons (SLe.i64 (by omega)) (.cons (SLe.refl _) (.cons (SLe.refl _) .nil))))) ((ih _ mid (mid + m - i) b (by omega) (by omega) (by omega) (by omega) (by omega) ht2 k4 k5 k6) 1) ⟨(.head _), trivial⟩ rfl rfl (fun _ h => nomatch h) ?_
                      refine AOps.nil ?_
                      refine ⟨trivial, ⟨mem_row_eq (.head _) ?_, trivial⟩⟩
                      all_goals (rw [HF])
                    · replace h17 := of_decide_eq_false h17
                      have er3 : (sortSeg cmp (rotl l i m (mid + m - i)) a mid).map fds = (sortSeg cmp (sortSeg cmp (rotl l i m (mid + m - i)) a mid) mid b).map fds := by rw [sortSeg_self hc (by omega) ht2 (sorted_at k4 (by omega) (by omega))]
                      rw [er3]
                      refine AWP.skip ?_
                      refine ⟨trivial, ⟨mem_row_eq (.head _) ?_, trivial⟩⟩
                      all_goals (rw [HF])
                  · replace g16 := of_decide_eq_false g16
                    have er3 : (sortSeg cmp (rotl l i m (mid + m - i)) a mid).map fds = (sortSeg cmp (sortSeg cmp (rotl l i m (mid + m - i)) a mid) mid b).map fds := by rw [sortSeg_self hc (by omega) ht2 (sorted_at k5 (by omega) (by omega))]
                    rw [er3]
                    refine AOps.pass ⟨209, rfl, .inl ⟨_, rfl, rfl⟩⟩ rfl rfl ?_
                    refine AOps.pass ⟨209, rfl, .inl ⟨_, rfl, rfl⟩⟩ rfl rfl ?_
                    refine AOps.pass ⟨209, rfl, .inl ⟨_, rfl, rfl⟩⟩ rfl rfl ?_
                    refine AOps.step rfl rfl rfl (AOp.pickF rfl rfl rfl) ?_
                    refine AOps.nil ?_
                    refine AWP.cond rfl (fun h => nomatch h) (fun _ => ?_)
                    refine AWP.skip ?_
                    refine ⟨trivial, ⟨mem_row_eq (.head _) ?_, trivial⟩⟩
                    all_goals (rw [HF])
                · replace h15 := of_decide_eq_false h15
                  have er2 : (rotl l i m (mid + m - i)).map fds = (sortSeg cmp (rotl l i m (mid + m - i)) a mid).map fds := by rw [sortSeg_self hc (by omega) ht1 (sorted_at k1 (by omega) (by omega))]
                  rw [er2]
                  refine AWP.skip ?_
                  refine AWP.seq ?_
                  refine AWP.region ?_
                  refine AOps.step rfl rfl rfl (AOp.moveD rfl rfl) ?_
                  refine AOps.step rfl rfl rfl (AOp.moveD rfl rfl) ?_
                  refine AOps.step rfl rfl rfl (AOp.lss rfl rfl rfl) ?_
                  refine AOps.step rfl rfl rfl (AOp.moveD rfl rfl) ?_
                  refine AOps.split 209 rfl (fun g18 => ?_) (fun g18 => ?_)
                  · replace g18 := of_decide_eq_true g18
                    refine AOps.step ⟨209, rfl, .inl ⟨_, rfl, rfl⟩⟩ rfl rfl (AOp.moveD rfl rfl) ?_
                    refine AOps.step ⟨209, rfl, .inl ⟨_, rfl, rfl⟩⟩ rfl rfl (AOp.moveD rfl rfl) ?_
                    refine AOps.step ⟨209, rfl, .inl ⟨_, rfl, rfl⟩⟩ rfl rfl (AOp.lss rfl rfl rfl) ?_
                    refine AOps.step rfl rfl rfl (AOp.pickT rfl rfl rfl) ?_
                    refine AOps.nil ?_
                    refine AWP.cond rfl (fun h19 => ?_) (fun h19 => ?_)
                    · replace h19 := of_decide_eq_true h19
                      refine AWP.region ?_
                      refine AOps.step rfl rfl rfl (AOp.moveO rfl rfl) ?_
                      refine AOps.step rfl rfl rfl (AOp.moveD rfl rfl) ?_
                      refine AOps.step rfl rfl rfl (AOp.moveD rfl rfl) ?_
                      refine AOps.step rfl rfl rfl (AOp.moveD rfl rfl) ?_
                      refine AOps.step rfl rfl rfl (AOp.moveD rfl rfl) ?_
                      -- turns 1
                      refine AOps.callX rfl rfl rfl (.cons (SLe.refl _) (.cons (SLe.refl _) (.cons (SLe.i64 (by omega)) (.cons (SLe.refl _) (.cons (SLe.refl _) .nil))))) ((ih _ mid (mid + m - i) b (by omega) (by omega) (by omega) (by omega) (by omega) ht2 k4 k5 k6) 1) ⟨(.head _), trivial⟩ rfl rfl (fun _ h => nomatch h) ?_
                      refine AOps.nil ?_
                      refine ⟨trivial, ⟨mem_row_eq (.head _) ?_, trivial⟩⟩
                      all_goals (rw [HF])
                    · replace h19 := of_decide_eq_false h19
                      have er3 : (sortSeg cmp (rotl l i m (mid + m - i)) a mid).map fds = (sortSeg cmp (sortSeg cmp (rotl l i m (mid + m - i)) a mid) mid b).map fds := by rw [sortSeg_self hc (by omega) ht2 (sorted_at k4 (by omega) (by omega))]
                      rw [er3]
                      refine AWP.skip ?_
                      refine ⟨trivial, ⟨mem_row_eq (.head _) ?_, trivial⟩⟩
                      all_goals (rw [HF])
                  · replace g18 := of_decide_eq_false g18
                    have er3 : (sortSeg cmp (rotl l i m (mid + m - i)) a mid).map fds = (sortSeg cmp (sortSeg cmp (rotl l i m (mid + m - i)) a mid) mid b).map fds := by rw [sortSeg_self hc (by omega) ht2 (sorted_at k5 (by omega) (by omega))]
                    rw [er3]
                    refine AOps.pass ⟨209, rfl, .inl ⟨_, rfl, rfl⟩⟩ rfl rfl ?_
                    refine AOps.pass ⟨209, rfl, .inl ⟨_, rfl, rfl⟩⟩ rfl rfl ?_
                    refine AOps.pass ⟨209, rfl, .inl ⟨_, rfl, rfl⟩⟩ rfl rfl ?_
                    refine AOps.step rfl rfl rfl (AOp.pickF rfl rfl rfl) ?_
                    refine AOps.nil ?_
                    refine AWP.cond rfl (fun h => nomatch h) (fun _ => ?_)
                    refine AWP.skip ?_
                    refine ⟨trivial, ⟨mem_row_eq (.head _) ?_, trivial⟩⟩
                    all_goals (rw [HF])
              · replace g14 := of_decide_eq_false g14
                have er2 : (rotl l i m (mid + m - i)).map fds = (sortSeg cmp (rotl l i m (mid + m - i)) a mid).map fds := by rw [sortSeg_self hc (by omega) ht1 (sorted_at k2 (by omega) (by omega))]
                rw [er2]
                refine AOps.pass ⟨195, rfl, .inl ⟨_, rfl, rfl⟩⟩ rfl rfl ?_
                refine AOps.pass ⟨195, rfl, .inl ⟨_, rfl, rfl⟩⟩ rfl rfl ?_
                refine AOps.pass ⟨195, rfl, .inl ⟨_, rfl, rfl⟩⟩ rfl rfl ?_
                refine AOps.step rfl rfl rfl (AOp.pickF rfl rfl rfl) ?_
                refine AOps.nil ?_
                refine AWP.cond rfl (fun h => nomatch h) (fun _ => ?_)
                refine AWP.skip ?_
                refine AWP.seq ?_
                refine AWP.region ?_
                refine AOps.step rfl rfl rfl (AOp.moveD rfl rfl) ?_
                refine AOps.step rfl rfl rfl (AOp.moveD rfl rfl) ?_
                refine AOps.step rfl rfl rfl (AOp.lss rfl rfl rfl) ?_
                refine AOps.step rfl rfl rfl (AOp.moveD rfl rfl) ?_
                refine AOps.split 209 rfl (fun g20 => ?_) (fun g20 => ?_)
                · replace g20 := of_decide_eq_true g20
                  refine AOps.step ⟨209, rfl, .inl ⟨_, rfl, rfl⟩⟩ rfl rfl (AOp.moveD rfl rfl) ?_
                  refine AOps.step ⟨209, rfl, .inl ⟨_, rfl, rfl⟩⟩ rfl rfl (AOp.moveD rfl rfl) ?_
                  refine AOps.step ⟨209, rfl, .inl ⟨_, rfl, rfl⟩⟩ rfl rfl (AOp.lss rfl rfl rfl) ?_
                  refine AOps.step rfl rfl rfl (AOp.pickT rfl rfl rfl) ?_
                  refine AOps.nil ?_
                  refine AWP.cond rfl (fun h21 => ?_) (fun h21 => ?_)
                  · replace h21 := of_decide_eq_true h21
                    refine AWP.region ?_
                    refine AOps.step rfl rfl rfl (AOp.moveO rfl rfl) ?_
                    refine AOps.step rfl rfl rfl (AOp.moveD rfl rfl) ?_
                    refine AOps.step rfl rfl rfl (AOp.moveD rfl rfl) ?_
                    refine AOps.step rfl rfl rfl (AOp.moveD rfl rfl) ?_
                    refine AOps.step rfl rfl rfl (AOp.moveD rfl rfl) ?_
                    -- turns 1
                    refine AOps.callX rfl rfl rfl (.cons (SLe.refl _) (.cons (SLe.refl _) (.cons (SLe.i64 (by omega)) (.cons (SLe.refl _) (.cons (SLe.refl _) .nil))))) ((ih _ mid (mid + m - i) b (by omega) (by omega) (by omega) (by omega) (by omega) ht2 k4 k5 k6) 1) ⟨(.head _), trivial⟩ rfl rfl (fun _ h => nomatch h) ?_
                    refine AOps.nil ?_
                    refine ⟨trivial, ⟨mem_row_eq (.head _) ?_, trivial⟩⟩
                    all_goals (rw [HF])
                  · replace h21 := of_decide_eq_false h21
                    have er3 : (sortSeg cmp (rotl l i m (mid + m - i)) a mid).map fds = (sortSeg cmp (sortSeg cmp (rotl l i m (mid + m - i)) a mid) mid b).map fds := by rw [sortSeg_self hc (by omega) ht2 (sorted_at k4 (by omega) (by omega))]
                    rw [er3]
                    refine AWP.skip ?_
                    refine ⟨trivial, ⟨mem_row_eq (.head _) ?_, trivial⟩⟩
                    all_goals (rw [HF])
                · replace g20 := of_decide_eq_false g20
                  have er3 : (sortSeg cmp (rotl l i m (mid + m - i)) a mid).map fds = (sortSeg cmp (sortSeg cmp (rotl l i m (mid + m - i)) a mid) mid b).map fds := by rw [sortSeg_self hc (by omega) ht2 (sorted_at k5 (by omega) (by omega))]
                  rw [er3]
                  refine AOps.pass ⟨209, rfl, .inl ⟨_, rfl, rfl⟩⟩ rfl rfl ?_
                  refine AOps.pass ⟨209, rfl, .inl ⟨_, rfl, rfl⟩⟩ rfl rfl ?_
                  refine AOps.pass ⟨209, rfl, .inl ⟨_, rfl, rfl⟩⟩ rfl rfl ?_
                  refine AOps.step rfl rfl rfl (AOp.pickF rfl rfl rfl) ?_
                  refine AOps.nil ?_
                  refine AWP.cond rfl (fun h => nomatch h) (fun _ => ?_)
                  refine AWP.skip ?_
                  refine ⟨trivial, ⟨mem_row_eq (.head _) ?_, trivial⟩⟩
                  all_goals (rw [HF])
            · replace h13 := of_decide_eq_false h13
              have er : l.map fds = (rotl l i m (mid + m - i)).map fds := by rw [show mid + m - i = m by omega, rotl_id2 (by omega)]
              rw [er]
              refine AWP.skip ?_
              refine AWP.seq ?_
              refine AWP.seq ?_
              refine AWP.region ?_
              refine AOps.step rfl rfl rfl (AOp.moveD rfl rfl) ?_
              refine AOps.step rfl rfl rfl (AOp.moveD rfl rfl) ?_
              refine AOps.step rfl rfl rfl (AOp.lss rfl rfl rfl) ?_
              refine AOps.step rfl rfl rfl (AOp.moveD rfl rfl) ?_
              refine AOps.split 195 rfl (fun g22 => ?_) (fun g22 => ?_)
              · replace g22 := of_decide_eq_true g22
                refine AOps.step ⟨195, rfl, .inl ⟨_, rfl, rfl⟩⟩ rfl rfl (AOp.moveD rfl rfl) ?_
                refine AOps.step ⟨195, rfl, .inl ⟨_, rfl, rfl⟩⟩ rfl rfl (AOp.moveD rfl rfl) ?_
                refine AOps.step ⟨195, rfl, .inl ⟨_, rfl, rfl⟩⟩ rfl rfl (AOp.lss rfl rfl rfl) ?_
                refine AOps.step rfl rfl rfl (AOp.pickT rfl rfl rfl) ?_
                refine AOps.nil ?_
                refine AWP.cond rfl (fun h23 => ?_) (fun h23 => ?_)
                · replace h23 := of_decide_eq_true h23
                  refine AWP.region ?_
                  refine AOps.step rfl rfl rfl (AOp.moveO rfl rfl) ?_
                  refine AOps.step rfl rfl rfl (AOp.moveD rfl rfl) ?_
                  refine AOps.step rfl rfl rfl (AOp.moveD rfl rfl) ?_
                  refine AOps.step rfl rfl rfl (AOp.moveD rfl rfl) ?_
                  refine AOps.step rfl rfl rfl (AOp.moveD rfl rfl) ?_
                  -- turns 1
                  refine AOps.callX rfl rfl rfl (.cons (SLe.refl _) (.cons (SLe.refl _) (.cons (SLe.refl _) (.cons (SLe.refl _) (.cons (SLe.refl _) .nil))))) ((ih _ a i mid (by omega) (by omega) (by omega) (by omega) (by omega) ht1 k1 k2 k3) 1) ⟨(.head _), trivial⟩ rfl rfl (fun _ h => nomatch h) ?_
                  refine AOps.nil ?_
                  refine AWP.seq ?_
                  refine AWP.region ?_
                  refine AOps.step rfl rfl rfl (AOp.moveD rfl rfl) ?_
                  refine AOps.step rfl rfl rfl (AOp.moveD rfl rfl) ?_
                  refine AOps.step rfl rfl rfl (AOp.lss rfl rfl rfl) ?_
                  refine AOps.step rfl rfl rfl (AOp.moveD rfl rfl) ?_
                  refine AOps.split 209 rfl (fun g24 => ?_) (fun g24 => ?_)
                  · replace g24 := of_decide_eq_true g24
                    refine AOps.step ⟨209, rfl, .inl ⟨_, rfl, rfl⟩⟩ rfl rfl (AOp.moveD rfl rfl) ?_
                    refine AOps.step ⟨209, rfl, .inl ⟨_, rfl, rfl⟩⟩ rfl rfl (AOp.moveD rfl rfl) ?_
                    refine AOps.step ⟨209, rfl, .inl ⟨_, rfl, rfl⟩⟩ rfl rfl (AOp.lss rfl rfl rfl) ?_
                    refine AOps.step rfl rfl rfl (AOp.pickT rfl rfl rfl) ?_
                    refine AOps.nil ?_
                    refine AWP.cond rfl (fun h25 => ?_) (fun h25 => ?_)
                    · replace h25 := of_decide_eq_true h25
                      refine AWP.region ?_
                      refine AOps.step rfl rfl rfl (AOp.moveO rfl rfl) ?_
                      refine AOps.step rfl rfl rfl (AOp.moveD rfl rfl) ?_
                      refine AOps.step rfl rfl rfl (AOp.moveD rfl rfl) ?_
                      refine AOps.step rfl rfl rfl (AOp.moveD rfl rfl) ?_
                      refine AOps.step rfl rfl rfl (AOp.moveD rfl rfl) ?_
                      -- turns 1
                      refine AOps.callX rfl rfl rfl (.cons (SLe.refl _) (.cons (SLe.refl _) (.cons (SLe.i64 (by omega)) (.cons (SLe.refl _) (.cons (SLe.refl _) .nil))))) ((ih _ mid (mid + m - i) b (by omega) (by omega) (by omega) (by omega) (by omega) ht2 k4 k5 k6) 1) ⟨(.head _), trivial⟩ rfl rfl (fun _ h => nomatch h) ?_
                      refine AOps.nil ?_
                      refine ⟨trivial, ⟨mem_row_eq (.head _) ?_, trivial⟩⟩
                      all_goals (rw [HF])
                    · replace h25 := of_decide_eq_false h25
                      have er3 : (sortSeg cmp (rotl l i m (mid + m - i)) a mid).map fds = (sortSeg cmp (sortSeg cmp (rotl l i m (mid + m - i)) a mid) mid b).map fds := by rw [sortSeg_self hc (by omega) ht2 (sorted_at k4 (by omega) (by omega))]
                      rw [er3]
                      refine AWP.skip ?_
                      refine ⟨trivial, ⟨mem_row_eq (.head _) ?_, trivial⟩⟩
                      all_goals (rw [HF])
                  · replace g24 := of_decide_eq_false g24
                    have er3 : (sortSeg cmp (rotl l i m (mid + m - i)) a mid).map fds = (sortSeg cmp (sortSeg cmp (rotl l i m (mid + m - i)) a mid) mid b).map fds := by rw [sortSeg_self hc (by omega) ht2 (sorted_at k5 (by omega) (by omega))]
                    rw [er3]
                    refine AOps.pass ⟨209, rfl, .inl ⟨_, rfl, rfl⟩⟩ rfl rfl ?_
                    refine AOps.pass ⟨209, rfl, .inl ⟨_, rfl, rfl⟩⟩ rfl rfl ?_
                    refine AOps.pass ⟨209, rfl, .inl ⟨_, rfl, rfl⟩⟩ rfl rfl ?_
                    refine AOps.step rfl rfl rfl (AOp.pickF rfl rfl rfl) ?_
                    refine AOps.nil ?_
                    refine AWP.cond rfl (fun h => nomatch h) (fun _ => ?_)
                    refine AWP.skip ?_
                    refine ⟨trivial, ⟨mem_row_eq (.head _) ?_, trivial⟩⟩
                    all_goals (rw [HF])
                · replace h23 := of_decide_eq_false h23
                  have er2 : (rotl l i m (mid + m - i)).map fds = (sortSeg cmp (rotl l i m (mid + m - i)) a mid).map fds := by rw [sortSeg_self hc (by omega) ht1 (sorted_at k1 (by omega) (by omega))]
                  rw [er2]
                  refine AWP.skip ?_
                  refine AWP.seq ?_
                  refine AWP.region ?_
                  refine AOps.step rfl rfl rfl (AOp.moveD rfl rfl) ?_
                  refine AOps.step rfl rfl rfl (AOp.moveD rfl rfl) ?_
                  refine AOps.step rfl rfl rfl (AOp.lss rfl rfl rfl) ?_
                  refine AOps.step rfl rfl rfl (AOp.moveD rfl rfl) ?_
                  refine AOps.split 209 rfl (fun g26 => ?_) (fun g26 => ?_)
                  · replace g26 := of_decide_eq_true g26
                    refine AOps.step ⟨209, rfl, .inl ⟨_, rfl, rfl⟩⟩ rfl rfl (AOp.moveD rfl rfl) ?_
                    refine AOps.step ⟨209, rfl, .inl ⟨_, rfl, rfl⟩⟩ rfl rfl (AOp.moveD rfl rfl) ?_
                    refine AOps.step ⟨209, rfl, .inl ⟨_, rfl, rfl⟩⟩ rfl rfl (AOp.lss rfl rfl rfl) ?_
                    refine AOps.step rfl rfl rfl (AOp.pickT rfl rfl rfl) ?_
                    refine AOps.nil ?_
                    refine AWP.cond rfl (fun h27 => ?_) (fun h27 => ?_)
                    · replace h27 := of_decide_eq_true h27
                      refine AWP.region ?_
                      refine AOps.step rfl rfl rfl (AOp.moveO rfl rfl) ?_
                      refine AOps.step rfl rfl rfl (AOp.moveD rfl rfl) ?_
                      refine AOps.step rfl rfl rfl (AOp.moveD rfl rfl) ?_
                      refine AOps.step rfl rfl rfl (AOp.moveD rfl rfl) ?_
                      refine AOps.step rfl rfl rfl (AOp.moveD rfl rfl) ?_
                      -- turns 1
                      refine AOps.callX rfl rfl rfl (.cons (SLe.refl _) (.cons (SLe.refl _) (.cons (SLe.i64 (by omega)) (.cons (SLe.refl _) (.cons (SLe.refl _) .nil))))) ((ih _ mid (mid + m - i) b (by omega) (by omega) (by omega) (by omega) (by omega) ht2 k4 k5 k6) 1) ⟨(.head _), trivial⟩ rfl rfl (fun _ h => nomatch h) ?_
                      refine AOps.nil ?_
                      refine ⟨trivial, ⟨mem_row_eq (.head _) ?_, trivial⟩⟩
                      all_goals (rw [HF])
                    · replace h27 := of_decide_eq_false h27
                      have er3 : (sortSeg cmp (rotl l i m (mid + m - i)) a mid).map fds = (sortSeg cmp (sortSeg cmp (rotl l i m (mid + m - i)) a mid) mid b).map fds := by rw [sortSeg_self hc (by omega) ht2 (sorted_at k4 (by omega) (by omega))]
                      rw [er3]
                      refine AWP.skip ?_
                      refine ⟨trivial, ⟨mem_row_eq (.head _) ?_, trivial⟩⟩
                      all_goals (rw [HF])
                  · replace g26 := of_decide_eq_false g26
                    have er3 : (sortSeg cmp (rotl l i m (mid + m - i)) a mid).map fds = (sortSeg cmp (sortSeg cmp (rotl l i m (mid + m - i)) a mid) mid b).map fds := by rw [sortSeg_self hc (by omega) ht2 (sorted_at k5 (by omega) (by omega))]
                    rw [er3]
                    refine AOps.pass ⟨209, rfl, .inl ⟨_, rfl, rfl⟩⟩ rfl rfl ?_
                    refine AOps.pass ⟨209, rfl, .inl ⟨_, rfl, rfl⟩⟩ rfl rfl ?_
                    refine AOps.pass ⟨209, rfl, .inl ⟨_, rfl, rfl⟩⟩ rfl rfl ?_
                    refine AOps.step rfl rfl rfl (AOp.pickF rfl rfl rfl) ?_
                    refine AOps.nil ?_
                    refine AWP.cond rfl (fun h => nomatch h) (fun _ => ?_)
                    refine AWP.skip ?_
                    refine ⟨trivial, ⟨mem_row_eq (.head _) ?_, trivial⟩⟩
                    all_goals (rw [HF])
              · replace g22 := of_decide_eq_false g22
                have er2 : (rotl l i m (mid + m - i)).map fds = (sortSeg cmp (rotl l i m (mid + m - i)) a mid).map fds := by rw [sortSeg_self hc (by omega) ht1 (sorted_at k2 (by omega) (by omega))]
                rw [er2]
                refine AOps.pass ⟨195, rfl, .inl ⟨_, rfl, rfl⟩⟩ rfl rfl ?_
                refine AOps.pass ⟨195, rfl, .inl ⟨_, rfl, rfl⟩⟩ rfl rfl ?_
                refine AOps.pass ⟨195, rfl, .inl ⟨_, rfl, rfl⟩⟩ rfl rfl ?_
                refine AOps.step rfl rfl rfl (AOp.pickF rfl rfl rfl) ?_
                refine AOps.nil ?_
                refine AWP.cond rfl (fun h => nomatch h) (fun _ => ?_)
                refine AWP.skip ?_
                refine AWP.seq ?_
                refine AWP.region ?_
                refine AOps.step rfl rfl rfl (AOp.moveD rfl rfl) ?_
                refine AOps.step rfl rfl rfl (AOp.moveD rfl rfl) ?_
                refine AOps.step rfl rfl rfl (AOp.lss rfl rfl rfl) ?_
                refine AOps.step rfl rfl rfl (AOp.moveD rfl rfl) ?_
                refine AOps.split 209 rfl (fun g28 => ?_) (fun g28 => ?_)
                · replace g28 := of_decide_eq_true g28
                  refine AOps.step ⟨209, rfl, .inl ⟨_, rfl, rfl⟩⟩ rfl rfl (AOp.moveD rfl rfl) ?_
                  refine AOps.step ⟨209, rfl, .inl ⟨_, rfl, rfl⟩⟩ rfl rfl (AOp.moveD rfl rfl) ?_
                  refine AOps.step ⟨209, rfl, .inl ⟨_, rfl, rfl⟩⟩ rfl rfl (AOp.lss rfl rfl rfl) ?_
                  refine AOps.step rfl rfl rfl (AOp.pickT rfl rfl rfl) ?_
                  refine AOps.nil ?_
                  refine AWP.cond rfl (fun h29 => ?_) (fun h29 => ?_)
                  · replace h29 := of_decide_eq_true h29
                    refine AWP.region ?_
                    refine AOps.step rfl rfl rfl (AOp.moveO rfl rfl) ?_
                    refine AOps.step rfl rfl rfl (AOp.moveD rfl rfl) ?_
                    refine AOps.step rfl rfl rfl (AOp.moveD rfl rfl) ?_
                    refine AOps.step rfl rfl rfl (AOp.moveD rfl rfl) ?_
                    refine AOps.step rfl rfl rfl (AOp.moveD rfl rfl) ?_
                    -- turns 1
                    refine AOps.callX rfl rfl rfl (.cons (SLe.refl _) (.cons (SLe.refl _) (.cons (SLe.i64 (by omega)) (.cons (SLe.refl _) (.cons (SLe.refl _) .nil))))) ((ih _ mid (mid + m - i) b (by omega) (by omega) (by omega) (by omega) (by omega) ht2 k4 k5 k6) 1) ⟨(.head _), trivial⟩ rfl rfl (fun _ h => nomatch h) ?_
                    refine AOps.nil ?_
                    refine ⟨trivial, ⟨mem_row_eq (.head _) ?_, trivial⟩⟩
                    all_goals (rw [HF])
                  · replace h29 := of_decide_eq_false h29
                    have er3 : (sortSeg cmp (rotl l i m (mid + m - i)) a mid).map fds = (sortSeg cmp (sortSeg cmp (rotl l i m (mid + m - i)) a mid) mid b).map fds := by rw [sortSeg_self hc (by omega) ht2 (sorted_at k4 (by omega) (by omega))]
                    rw [er3]
                    refine AWP.skip ?_
                    refine ⟨trivial, ⟨mem_row_eq (.head _) ?_, trivial⟩⟩
                    all_goals (rw [HF])
                · replace g28 := of_decide_eq_false g28
                  have er3 : (sortSeg cmp (rotl l i m (mid + m - i)) a mid).map fds = (sortSeg cmp (sortSeg cmp (rotl l i m (mid + m - i)) a mid) mid b).map fds := by rw [sortSeg_self hc (by omega) ht2 (sorted_at k5 (by omega) (by omega))]
                  rw [er3]
                  refine AOps.pass ⟨209, rfl, .inl ⟨_, rfl, rfl⟩⟩ rfl rfl ?_
                  refine AOps.pass ⟨209, rfl, .inl ⟨_, rfl, rfl⟩⟩ rfl rfl ?_
                  refine AOps.pass ⟨209, rfl, .inl ⟨_, rfl, rfl⟩⟩ rfl rfl ?_
                  refine AOps.step rfl rfl rfl (AOp.pickF rfl rfl rfl) ?_
                  refine AOps.nil ?_
                  refine AWP.cond rfl (fun h => nomatch h) (fun _ => ?_)
                  refine AWP.skip ?_
                  refine ⟨trivial, ⟨mem_row_eq (.head _) ?_, trivial⟩⟩
                  all_goals (rw [HF])
          · replace g12 := of_decide_eq_false g12
            have er : l.map fds = (rotl l i m (mid + m - i)).map fds := by rw [show i = m by omega, rotl_id1 (by omega)]
            rw [er]
            refine AOps.pass ⟨181, rfl, .inl ⟨_, rfl, rfl⟩⟩ rfl rfl ?_
            refine AOps.pass ⟨181, rfl, .inl ⟨_, rfl, rfl⟩⟩ rfl rfl ?_
            refine AOps.pass ⟨181, rfl, .inl ⟨_, rfl, rfl⟩⟩ rfl rfl ?_
            refine AOps.step rfl rfl rfl (AOp.pickF rfl rfl rfl) ?_
            refine AOps.nil ?_
            refine AWP.cond rfl (fun h => nomatch h) (fun _ => ?_)
            refine AWP.skip ?_
            refine AWP.seq ?_
            refine AWP.seq ?_
            refine AWP.region ?_
            refine AOps.step rfl rfl rfl (AOp.moveD rfl rfl) ?_
            refine AOps.step rfl rfl rfl (AOp.moveD rfl rfl) ?_
            refine AOps.step rfl rfl rfl (AOp.lss rfl rfl rfl) ?_
            refine AOps.step rfl rfl rfl (AOp.moveD rfl rfl) ?_
            refine AOps.split 195 rfl (fun g30 => ?_) (fun g30 => ?_)
            · replace g30 := of_decide_eq_true g30
              refine AOps.step ⟨195, rfl, .inl ⟨_, rfl, rfl⟩⟩ rfl rfl (AOp.moveD rfl rfl) ?_
              refine AOps.step ⟨195, rfl, .inl ⟨_, rfl, rfl⟩⟩ rfl rfl (AOp.moveD rfl rfl) ?_
              refine AOps.step ⟨195, rfl, .inl ⟨_, rfl, rfl⟩⟩ rfl rfl (AOp.lss rfl rfl rfl) ?_
              refine AOps.step rfl rfl rfl (AOp.pickT rfl rfl rfl) ?_
              refine AOps.nil ?_
              refine AWP.cond rfl (fun h31 => ?_) (fun h31 => ?_)
              · replace h31 := of_decide_eq_true h31
                refine AWP.region ?_
                refine AOps.step rfl rfl rfl (AOp.moveO rfl rfl) ?_
                refine AOps.step rfl rfl rfl (AOp.moveD rfl rfl) ?_
                refine AOps.step rfl rfl rfl (AOp.moveD rfl rfl) ?_
                refine AOps.step rfl rfl rfl (AOp.moveD rfl rfl) ?_
                refine AOps.step rfl rfl rfl (AOp.moveD rfl rfl) ?_
                -- turns 1
                refine AOps.callX rfl rfl rfl (.cons (SLe.refl _) (.cons (SLe.refl _) (.cons (SLe.refl _) (.cons (SLe.refl _) (.cons (SLe.refl _) .nil))))) ((ih _ a i mid (by omega) (by omega) (by omega) (by omega) (by omega) ht1 k1 k2 k3) 1) ⟨(.head _), trivial⟩ rfl rfl (fun _ h => nomatch h) ?_
                refine AOps.nil ?_
                refine AWP.seq ?_
                refine AWP.region ?_
                refine AOps.step rfl rfl rfl (AOp.moveD rfl rfl) ?_
                refine AOps.step rfl rfl rfl (AOp.moveD rfl rfl) ?_
                refine AOps.step rfl rfl rfl (AOp.lss rfl rfl rfl) ?_
                refine AOps.step rfl rfl rfl (AOp.moveD rfl rfl) ?_
                refine AOps.split 209 rfl (fun g32 => ?_) (fun g32 => ?_)
                · replace g32 := of_decide_eq_true g32
                  refine AOps.step ⟨209, rfl, .inl ⟨_, rfl, rfl⟩⟩ rfl rfl (AOp.moveD rfl rfl) ?_
                  refine AOps.step ⟨209, rfl, .inl ⟨_, rfl, rfl⟩⟩ rfl rfl (AOp.moveD rfl rfl) ?_
                  refine AOps.step ⟨209, rfl, .inl ⟨_, rfl, rfl⟩⟩ rfl rfl (AOp.lss rfl rfl rfl) ?_
                  refine AOps.step rfl rfl rfl (AOp.pickT rfl rfl rfl) ?_
                  refine AOps.nil ?_
                  refine AWP.cond rfl (fun h33 => ?_) (fun h33 => ?_)
                  · replace h33 := of_decide_eq_true h33
                    refine AWP.region ?_
                    refine AOps.step rfl rfl rfl (AOp.moveO rfl rfl) ?_
                    refine AOps.step rfl rfl rfl (AOp.moveD rfl rfl) ?_
                    refine AOps.step rfl rfl rfl (AOp.moveD rfl rfl) ?_
                    refine AOps.step rfl rfl rfl (AOp.moveD rfl rfl) ?_
                    refine AOps.step rfl rfl rfl (AOp.moveD rfl rfl) ?_
                    -- turns 1
                    refine AOps.callX rfl rfl rfl (.cons (SLe.refl _) (.cons (SLe.refl _) (.cons (SLe.i64 (by omega)) (.cons (SLe.refl _) (.cons (SLe.refl _) .nil))))) ((ih _ mid (mid + m - i) b (by omega) (by omega) (by omega) (by omega) (by omega) ht2 k4 k5 k6) 1) ⟨(.head _), trivial⟩ rfl rfl (fun _ h => nomatch h) ?_
                    refine AOps.nil ?_
                    refine ⟨trivial, ⟨mem_row_eq (.head _) ?_, trivial⟩⟩
                    all_goals (rw [HF])
                  · replace h33 := of_decide_eq_false h33
                    have er3 : (sortSeg cmp (rotl l i m (mid + m - i)) a mid).map fds = (sortSeg cmp (sortSeg cmp (rotl l i m (mid + m - i)) a mid) mid b).map fds := by rw [sortSeg_self hc (by omega) ht2 (sorted_at k4 (by omega) (by omega))]
                    rw [er3]
                    refine AWP.skip ?_
                    refine ⟨trivial, ⟨mem_row_eq (.head _) ?_, trivial⟩⟩
                    all_goals (rw [HF])
                · replace g32 := of_decide_eq_false g32
                  have er3 : (sortSeg cmp (rotl l i m (mid + m - i)) a mid).map fds = (sortSeg cmp (sortSeg cmp (rotl l i m (mid + m - i)) a mid) mid b).map fds := by rw [sortSeg_self hc (by omega) ht2 (sorted_at k5 (by omega) (by omega))]
                  rw [er3]
                  refine AOps.pass ⟨209, rfl, .inl ⟨_, rfl, rfl⟩⟩ rfl rfl ?_
                  refine AOps.pass ⟨209, rfl, .inl ⟨_, rfl, rfl⟩⟩ rfl rfl ?_
                  refine AOps.pass ⟨209, rfl, .inl ⟨_, rfl, rfl⟩⟩ rfl rfl ?_
                  refine AOps.step rfl rfl rfl (AOp.pickF rfl rfl rfl) ?_
                  refine AOps.nil ?_
                  refine AWP.cond rfl (fun h => nomatch h) (fun _ => ?_)
                  refine AWP.skip ?_
                  refine ⟨trivial, ⟨mem_row_eq (.head _) ?_, trivial⟩⟩
                  all_goals (rw [HF])
              · replace h31 := of_decide_eq_false h31
                have er2 : (rotl l i m (mid + m - i)).map fds = (sortSeg cmp (rotl l i m (mid + m - i)) a mid).map fds := by rw [sortSeg_self hc (by omega) ht1 (sorted_at k1 (by omega) (by omega))]
                rw [er2]
                refine AWP.skip ?_
                refine AWP.seq ?_
                refine AWP.region ?_
                refine AOps.step rfl rfl rfl (AOp.moveD rfl rfl) ?_
                refine AOps.step rfl rfl rfl (AOp.moveD rfl rfl) ?_
                refine AOps.step rfl rfl rfl (AOp.lss rfl rfl rfl) ?_
                refine AOps.step rfl rfl rfl (AOp.moveD rfl rfl) ?_
                refine AOps.split 209 rfl (fun g34 => ?_) (fun g34 => ?_)
                · replace g34 := of_decide_eq_true g34
                  refine AOps.step ⟨209, rfl, .inl ⟨_, rfl, rfl⟩⟩ rfl rfl (AOp.moveD rfl rfl) ?_
                  refine AOps.step ⟨209, rfl, .inl ⟨_, rfl, rfl⟩⟩ rfl rfl (AOp.moveD rfl rfl) ?_
                  refine AOps.step ⟨209, rfl, .inl ⟨_, rfl, rfl⟩⟩ rfl rfl (AOp.lss rfl rfl rfl) ?_
                  refine AOps.step rfl rfl rfl (AOp.pickT rfl rfl rfl) ?_
                  refine AOps.nil ?_
                  refine AWP.cond rfl (fun h35 => ?_) (fun h35 => ?_)
                  · replace h35 := of_decide_eq_true h35
                    refine AWP.region ?_
                    refine AOps.step rfl rfl rfl (AOp.moveO rfl rfl) ?_
                    refine AOps.step rfl rfl rfl (AOp.moveD rfl rfl) ?_
                    refine AOps.step rfl rfl rfl (AOp.moveD rfl rfl) ?_
                    refine AOps.step rfl rfl rfl (AOp.moveD rfl rfl) ?_
                    refine AOps.step rfl rfl rfl (AOp.moveD rfl rfl) ?_
                    -- turns 1
                    refine AOps.callX rfl rfl rfl (.cons (SLe.refl _) (.cons (SLe.refl _) (.cons (SLe.i64 (by omega)) (.cons (SLe.refl _) (.cons (SLe.refl _) .nil))))) ((ih _ mid (mid + m - i) b (by omega) (by omega) (by omega) (by omega) (by omega) ht2 k4 k5 k6) 1) ⟨(.head _), trivial⟩ rfl rfl (fun _ h => nomatch h) ?_
                    refine AOps.nil ?_
                    refine ⟨trivial, ⟨mem_row_eq (.head _) ?_, trivial⟩⟩
                    all_goals (rw [HF])
                  · replace h35 := of_decide_eq_false h35
                    have er3 : (sortSeg cmp (rotl l i m (mid + m - i)) a mid).map fds = (sortSeg cmp (sortSeg cmp (rotl l i m (mid + m - i)) a mid) mid b).map fds := by rw [sortSeg_self hc (by omega) ht2 (sorted_at k4 (by omega) (by omega))]
                    rw [er3]
                    refine AWP.skip ?_
                    refine ⟨trivial, ⟨mem_row_eq (.head _) ?_, trivial⟩⟩
                    all_goals (rw [HF])
                · replace g34 := of_decide_eq_false g34
                  have er3 : (sortSeg cmp (rotl l i m (mid + m - i)) a mid).map fds = (sortSeg cmp (sortSeg cmp (rotl l i m (mid + m - i)) a mid) mid b).map fds := by rw [sortSeg_self hc (by omega) ht2 (sorted_at k5 (by omega) (by omega))]
                  rw [er3]
                  refine AOps.pass ⟨209, rfl, .inl ⟨_, rfl, rfl⟩⟩ rfl rfl ?_
                  refine AOps.pass ⟨209, rfl, .inl ⟨_, rfl, rfl⟩⟩ rfl rfl ?_
                  refine AOps.pass ⟨209, rfl, .inl ⟨_, rfl, rfl⟩⟩ rfl rfl ?_
                  refine AOps.step rfl rfl rfl (AOp.pickF rfl rfl rfl) ?_
                  refine AOps.nil ?_
                  refine AWP.cond rfl (fun h => nomatch h) (fun _ => ?_)
                  refine AWP.skip ?_
                  refine ⟨trivial, ⟨mem_row_eq (.head _) ?_, trivial⟩⟩
                  all_goals (rw [HF])
            · replace g30 := of_decide_eq_false g30
              have er2 : (rotl l i m (mid + m - i)).map fds = (sortSeg cmp (rotl l i m (mid + m - i)) a mid).map fds := by rw [sortSeg_self hc (by omega) ht1 (sorted_at k2 (by omega) (by omega))]
              rw [er2]
              refine AOps.pass ⟨195, rfl, .inl ⟨_, rfl, rfl⟩⟩ rfl rfl ?_
              refine AOps.pass ⟨195, rfl, .inl ⟨_, rfl, rfl⟩⟩ rfl rfl ?_
              refine AOps.pass ⟨195, rfl, .inl ⟨_, rfl, rfl⟩⟩ rfl rfl ?_
              refine AOps.step rfl rfl rfl (AOp.pickF rfl rfl rfl) ?_
              refine AOps.nil ?_
              refine AWP.cond rfl (fun h => nomatch h) (fun _ => ?_)
              refine AWP.skip ?_
              refine AWP.seq ?_
              refine AWP.region ?_
              refine AOps.step rfl rfl rfl (AOp.moveD rfl rfl) ?_
              refine AOps.step rfl rfl rfl (AOp.moveD rfl rfl) ?_
              refine AOps.step rfl rfl rfl (AOp.lss rfl rfl rfl) ?_
              refine AOps.step rfl rfl rfl (AOp.moveD rfl rfl) ?_
              refine AOps.split 209 rfl (fun g36 => ?_) (fun g36 => ?_)
              · replace g36 := of_decide_eq_true g36
                refine AOps.step ⟨209, rfl, .inl ⟨_, rfl, rfl⟩⟩ rfl rfl (AOp.moveD rfl rfl) ?_
                refine AOps.step ⟨209, rfl, .inl ⟨_, rfl, rfl⟩⟩ rfl rfl (AOp.moveD rfl rfl) ?_
                refine AOps.step ⟨209, rfl, .inl ⟨_, rfl, rfl⟩⟩ rfl rfl (AOp.lss rfl rfl rfl) ?_
                refine AOps.step rfl rfl rfl (AOp.pickT rfl rfl rfl) ?_
                refine AOps.nil ?_
                refine AWP.cond rfl (fun h37 => ?_) (fun h37 => ?_)
                · replace h37 := of_decide_eq_true h37
                  refine AWP.region ?_
                  refine AOps.step rfl rfl rfl (AOp.moveO rfl rfl) ?_
                  refine AOps.step rfl rfl rfl (AOp.moveD rfl rfl) ?_
                  refine AOps.step rfl rfl rfl (AOp.moveD rfl rfl) ?_
                  refine AOps.step rfl rfl rfl (AOp.moveD rfl rfl) ?_
                  refine AOps.step rfl rfl rfl (AOp.moveD rfl rfl) ?_
                  -- turns 1
                  refine AOps.callX rfl rfl rfl (.cons (SLe.refl _) (.cons (SLe.refl _) (.cons (SLe.i64 (by omega)) (.cons (SLe.refl _) (.cons (SLe.refl _) .nil))))) ((ih _ mid (mid + m - i) b (by omega) (by omega) (by omega) (by omega) (by omega) ht2 k4 k5 k6) 1) ⟨(.head _), trivial⟩ rfl rfl (fun _ h => nomatch h) ?_
                  refine AOps.nil ?_
                  refine ⟨trivial, ⟨mem_row_eq (.head _) ?_, trivial⟩⟩
                  all_goals (rw [HF])
                · replace h37 := of_decide_eq_false h37
                  have er3 : (sortSeg cmp (rotl l i m (mid + m - i)) a mid).map fds = (sortSeg cmp (sortSeg cmp (rotl l i m (mid + m - i)) a mid) mid b).map fds := by rw [sortSeg_self hc (by omega) ht2 (sorted_at k4 (by omega) (by omega))]
                  rw [er3]
                  refine AWP.skip ?_
                  refine ⟨trivial, ⟨mem_row_eq (.head _) ?_, trivial⟩⟩
                  all_goals (rw [HF])
              · replace g36 := of_decide_eq_false g36
                have er3 : (sortSeg cmp (rotl l i m (mid + m - i)) a mid).map fds = (sortSeg cmp (sortSeg cmp (rotl l i m (mid + m - i)) a mid) mid b).map fds := by rw [sortSeg_self hc (by omega) ht2 (sorted_at k5 (by omega) (by omega))]
                rw [er3]
                refine AOps.pass ⟨209, rfl, .inl ⟨_, rfl, rfl⟩⟩ rfl rfl ?_
                refine AOps.pass ⟨209, rfl, .inl ⟨_, rfl, rfl⟩⟩ rfl rfl ?_
                refine AOps.pass ⟨209, rfl, .inl ⟨_, rfl, rfl⟩⟩ rfl rfl ?_
                refine AOps.step rfl rfl rfl (AOp.pickF rfl rfl rfl) ?_
                refine AOps.nil ?_
                refine AWP.cond rfl (fun h => nomatch h) (fun _ => ?_)
                refine AWP.skip ?_
                refine ⟨trivial, ⟨mem_row_eq (.head _) ?_, trivial⟩⟩
                all_goals (rw [HF])
      · replace h9 := of_decide_eq_false h9
        have hmm : m ≤ mid := by omega
        obtain ⟨lo0, hlo0⟩ : ∃ lo0, lo0 = a := ⟨_, rfl⟩
        obtain ⟨hi0, hhi0⟩ : ∃ hi0, hi0 = m := ⟨_, rfl⟩
        have hg : (mid < m ∧ lo0 + b = mid + m ∧ hi0 = mid) ∨ (m ≤ mid ∧ lo0 = a ∧ hi0 = m) := .inr ⟨hmm, hlo0, hhi0⟩
        refine AWP.seq ?_
        refine AWP.region ?_
        refine AOps.step rfl rfl rfl (AOp.moveD rfl rfl) ?_
        refine AOps.step rfl rfl rfl (AOp.assignD rfl rfl) ?_
        refine AOps.nil ?_
        refine AWP.region ?_
        refine AOps.step rfl rfl rfl (AOp.moveD rfl rfl) ?_
        refine AOps.step rfl rfl rfl (AOp.assignD rfl rfl) ?_
        refine AOps.nil ?_
        refine AWP.seq ?_
        refine AWP.region ?_
        refine AOps.step rfl rfl rfl (AOp.moveD rfl rfl) ?_
        refine AOps.step rfl rfl rfl (AOp.sub64 rfl rfl rfl (by omega) (by omega)) ?_
        refine AOps.step rfl rfl rfl (AOp.assignD rfl rfl) ?_
        refine AOps.nil ?_
        refine AWP.seq ?_
        refine AWP.block ?_
        refine AWP.loop (G := Nat × Nat) (fun g => Env.of [(20, .d (.v (.int .i64 (g.1 : Int)))), (21, .d (.v (.int .i64 (g.2 : Int)))), (22, .d (.v (.int .i64 ((mid + m - 1 : Nat) : Int)))), (19, .d (.v (.int .i64 ((mid + m : Nat) : Int)))), (18, .d (.v (.int .i64 (mid : Int)))), (0, .own 1), (1, .d (.v (.int .i64 a))), (2, .d (.v (.int .i64 m))), (3, .d (.v (.int .i64 b))), (4, .d (.clo (.func f) caps))]) (fun g => [(1, .row 3 1 (l.map fds))]) (fun g => CutS cmp l (mid + m - 1) lo0 hi0 g.1 g.2) (fun g => g.2 - g.1) (lo0, hi0) ⟨Nat.le_refl _, by dsimp only; omega, Nat.le_refl _, fun h => absurd h (Nat.lt_irrefl _), fun h => absurd h (Nat.lt_irrefl _)⟩ (Sub.less ⟨(SLe.i64 (by first | omega | (dsimp only; omega))), (SLe.i64 (by first | omega | (dsimp only; omega))), (SLe.i64 (by first | omega | (dsimp only; omega))), (SLe.i64 (by first | omega | (dsimp only; omega))), (SLe.i64 (by first | omega | (dsimp only; omega))), SLe.refl _, SLe.refl _, SLe.refl _, SLe.refl _, SLe.refl _, trivial⟩ (row_same rfl)) ?_
        rintro ⟨i, j⟩ hs
        dsimp only at hs ⊢
        have hs1 := hs.ls
        have hs2 := hs.sr
        have hs3 := hs.rh
        refine AWP.seq ?_
        refine AWP.seq ?_
        refine AWP.region ?_
        refine AOps.step rfl rfl rfl (AOp.moveD rfl rfl) ?_
        refine AOps.step rfl rfl rfl (AOp.moveD rfl rfl) ?_
        refine AOps.step rfl rfl rfl (AOp.lss rfl rfl rfl) ?_
        refine AOps.nil ?_
        refine AWP.cond rfl (fun h38 => ?_) (fun h38 => ?_)
        · replace h38 := of_decide_eq_true h38
          have hij : i < j := by omega
          have hhl : ((i + j) / 2) < l.length := by omega
          have hpl : mid + m - 1 - ((i + j) / 2) < l.length := by omega
          have htg := hx _ _ _ _ (show a ≤ ((i + j) / 2) by omega) (by omega) (show m ≤ mid + m - 1 - ((i + j) / 2) by omega) (by omega) (at_some l hhl) (at_some l hpl)
          refine AWP.skip ?_
          refine AWP.block ?_
          refine AWP.seq ?_
          refine AWP.region ?_
          refine AOps.step rfl rfl rfl (AOp.moveD rfl rfl) ?_
          refine AOps.step rfl rfl rfl (AOp.moveD rfl rfl) ?_
          refine AOps.step rfl rfl rfl (AOp.add64 rfl rfl rfl (by omega) (by omega)) ?_
          refine AOps.step rfl rfl rfl (AOp.convSame rfl (by kernel_rfl) rfl (wrapU64 (by omega) (by omega))) ?_
          refine AOps.step rfl rfl rfl (AOp.half rfl rfl rfl) ?_
          refine AOps.step rfl rfl rfl (AOp.convSame rfl (by kernel_rfl) rfl (w64 (by omega) (by omega))) ?_
          refine AOps.step rfl rfl rfl (AOp.assignD rfl rfl) ?_
          refine AOps.nil ?_
          refine AWP.seq ?_
          refine AWP.draw (by kernel_rfl) (by kernel_rfl) ?_
          refine DRun.step rfl rfl rfl (AOp.moveD rfl rfl) ?_
          refine DRun.step rfl rfl rfl (AOp.moveO rfl rfl) ?_
          refine DRun.step rfl rfl rfl (AOp.moveD rfl rfl) ?_
          refine DRun.step rfl rfl rfl (AOp.moveD rfl rfl) ?_
          refine DRun.step rfl rfl rfl (AOp.sub64 rfl rfl rfl (by omega) (by omega)) ?_
          refine DRun.step rfl rfl rfl (AOp.indexOwn rfl et_22 rfl rfl (.head _) (mid + m - 1 - ((i + j) / 2)) (by omega) (by rw [List.length_map]; omega)) ?_
          refine DRun.step rfl rfl rfl (AOp.loadRow rfl sc_3 rfl (.head _) (mid + m - 1 - ((i + j) / 2)) 0 rfl (at_list hpl) rfl) ?_
          refine DRun.step rfl rfl rfl (AOp.moveO rfl rfl) ?_
          refine DRun.step rfl rfl rfl (AOp.moveD rfl rfl) ?_
          refine DRun.step rfl rfl rfl (AOp.indexOwn rfl et_22 rfl rfl (.head _) ((i + j) / 2) (by omega) (by rw [List.length_map]; omega)) ?_
          refine DRun.step rfl rfl rfl (AOp.loadRow rfl sc_3 rfl (.head _) ((i + j) / 2) 0 rfl (at_list hhl) rfl) ?_
          refine DRun.step rfl rfl rfl (AOp.callClo rfl rfl (.cons (ArgOk.rfl' rfl) (.cons (ArgOk.rfl' rfl) .nil)) (hf (l[mid + m - 1 - ((i + j) / 2)]'hpl).1 (l[((i + j) / 2)]'hhl).1)) ?_
          refine DRun.step rfl rfl rfl (AOp.lss rfl rfl rfl) ?_
          refine DRun.step rfl rfl rfl (AOp.not rfl rfl) ?_
          refine DRun.nil ?_
          refine AWP.cond rfl (fun h39 => ?_) (fun h39 => ?_)
          · replace h39 := bnot_t h39; replace h39 := of_decide_eq_false h39
            have HU : CutS cmp l (mid + m - 1) lo0 hi0 (((i + j) / 2) + 1) j := ⟨by omega, by omega, by omega, fun _ => ⟨_, _, at_some l hhl, at_some l hpl, cross_ge htg h39⟩, hs.high⟩
            refine AWP.region ?_
            refine AOps.step rfl rfl rfl (AOp.moveD rfl rfl) ?_
            refine AOps.step rfl rfl rfl (AOp.add64 rfl rfl rfl (by omega) (by omega)) ?_
            refine AOps.step rfl rfl rfl (AOp.assignD rfl rfl) ?_
            refine AOps.nil ?_
            refine ⟨(((i + j) / 2) + 1, j), HU, (by dsimp only; omega), Sub.less ⟨(SLe.i64 (by dsimp only; omega)), (SLe.refl _), SLe.refl _, SLe.refl _, SLe.refl _, SLe.refl _, SLe.refl _, SLe.refl _, SLe.refl _, SLe.refl _, trivial⟩ (row_same rfl)⟩
          · replace h39 := bnot_f h39; replace h39 := of_decide_eq_true h39
            have HD : CutS cmp l (mid + m - 1) lo0 hi0 i ((i + j) / 2) := ⟨by omega, by omega, by omega, hs.low, fun _ => ⟨_, _, at_some l hhl, at_some l hpl, .inl (by omega)⟩⟩
            refine AWP.region ?_
            refine AOps.step rfl rfl rfl (AOp.moveD rfl rfl) ?_
            refine AOps.step rfl rfl rfl (AOp.assignD rfl rfl) ?_
            refine AOps.nil ?_
            refine ⟨(i, ((i + j) / 2)), HD, (by dsimp only; omega), Sub.less ⟨(SLe.refl _), (SLe.i64 (by dsimp only; omega)), SLe.refl _, SLe.refl _, SLe.refl _, SLe.refl _, SLe.refl _, SLe.refl _, SLe.refl _, SLe.refl _, trivial⟩ (row_same rfl)⟩
        · replace h38 := of_decide_eq_false h38
          have hij : i = j := by omega
          subst hij
          have hcut := CutS.cut hc s1 s2 hmid ham hmb hg hs
          have hs4 := hcut.has
          have hs5 := hcut.sm
          have hs6 := hcut.me
          have hs7 := hcut.eb
          obtain ⟨k1, k2, k3, k4, k5, k6, k7⟩ := cut_merge hc ht hbl s1 s2 hx hcut
          rw [show i + (mid + m - i - m) = mid by omega] at k2 k3 k4 k5 k6 k7
          have hrl : (rotl l i m (mid + m - i)).length = l.length := rotl_len hs5 hs6 (by omega)
          have ht1 : TagsOk (rotl l i m (mid + m - i)) := ht.perm (rotl_perm hs5 hs6)
          have hl1 : (sortSeg cmp (rotl l i m (mid + m - i)) a mid).length = l.length := by rw [sortSeg_len cmp _ (by omega), hrl]
          have ht2 : TagsOk (sortSeg cmp (rotl l i m (mid + m - i)) a mid) := ht1.perm (sortSeg_perm cmp _ (by omega))
          have HF := k7
          refine AWP.exit ?_
          refine AWP.seq ?_
          refine AWP.region ?_
          refine AOps.step rfl rfl rfl (AOp.moveD rfl rfl) ?_
          refine AOps.step rfl rfl rfl (AOp.moveD rfl rfl) ?_
          refine AOps.step rfl rfl rfl (AOp.sub64 rfl rfl rfl (by omega) (by omega)) ?_
          refine AOps.step rfl rfl rfl (AOp.assignD rfl rfl) ?_
          refine AOps.nil ?_
          refine AWP.seq ?_
          refine AWP.seq ?_
          refine AWP.region ?_
          refine AOps.step rfl rfl rfl (AOp.moveD rfl rfl) ?_
          refine AOps.step rfl rfl rfl (AOp.moveD rfl rfl) ?_
          refine AOps.step rfl rfl rfl (AOp.lss rfl rfl rfl) ?_
          refine AOps.step rfl rfl rfl (AOp.moveD rfl rfl) ?_
          refine AOps.split 181 rfl (fun g40 => ?_) (fun g40 => ?_)
          · replace g40 := of_decide_eq_true g40
            refine AOps.step ⟨181, rfl, .inl ⟨_, rfl, rfl⟩⟩ rfl rfl (AOp.moveD rfl rfl) ?_
            refine AOps.step ⟨181, rfl, .inl ⟨_, rfl, rfl⟩⟩ rfl rfl (AOp.moveD rfl rfl) ?_
            refine AOps.step ⟨181, rfl, .inl ⟨_, rfl, rfl⟩⟩ rfl rfl (AOp.lss rfl rfl rfl) ?_
            refine AOps.step rfl rfl rfl (AOp.pickT rfl rfl rfl) ?_
            refine AOps.nil ?_
            refine AWP.cond rfl (fun h41 => ?_) (fun h41 => ?_)
            · replace h41 := of_decide_eq_true h41
              refine AWP.region ?_
              refine AOps.step rfl rfl rfl (AOp.moveO rfl rfl) ?_
              refine AOps.step rfl rfl rfl (AOp.moveD rfl rfl) ?_
              refine AOps.step rfl rfl rfl (AOp.moveD rfl rfl) ?_
              refine AOps.step rfl rfl rfl (AOp.moveD rfl rfl) ?_
              refine AOps.step rfl rfl rfl (AOp.moveD rfl rfl) ?_
              -- turns 1
              refine AOps.callX rfl rfl rfl (.cons (SLe.refl _) (.cons (SLe.refl _) (.cons (SLe.refl _) (.cons (SLe.i64 (by omega)) (.cons (SLe.refl _) .nil))))) ((c_rotate l i m (mid + m - i) _ (by omega) (by omega) (by omega) hl) 1) ⟨(.head _), trivial⟩ rfl rfl (fun _ h => nomatch h) ?_
              refine AOps.nil ?_
              refine AWP.seq ?_
              refine AWP.seq ?_
              refine AWP.region ?_
              refine AOps.step rfl rfl rfl (AOp.moveD rfl rfl) ?_
              refine AOps.step rfl rfl rfl (AOp.moveD rfl rfl) ?_
              refine AOps.step rfl rfl rfl (AOp.lss rfl rfl rfl) ?_
              refine AOps.step rfl rfl rfl (AOp.moveD rfl rfl) ?_
              refine AOps.split 195 rfl (fun g42 => ?_) (fun g42 => ?_)
              · replace g42 := of_decide_eq_true g42
                refine AOps.step ⟨195, rfl, .inl ⟨_, rfl, rfl⟩⟩ rfl rfl (AOp.moveD rfl rfl) ?_
                refine AOps.step ⟨195, rfl, .inl ⟨_, rfl, rfl⟩⟩ rfl rfl (AOp.moveD rfl rfl) ?_
                refine AOps.step ⟨195, rfl, .inl ⟨_, rfl, rfl⟩⟩ rfl rfl (AOp.lss rfl rfl rfl) ?_
                refine AOps.step rfl rfl rfl (AOp.pickT rfl rfl rfl) ?_
                refine AOps.nil ?_
                refine AWP.cond rfl (fun h43 => ?_) (fun h43 => ?_)
                · replace h43 := of_decide_eq_true h43
                  refine AWP.region ?_
                  refine AOps.step rfl rfl rfl (AOp.moveO rfl rfl) ?_
                  refine AOps.step rfl rfl rfl (AOp.moveD rfl rfl) ?_
                  refine AOps.step rfl rfl rfl (AOp.moveD rfl rfl) ?_
                  refine AOps.step rfl rfl rfl (AOp.moveD rfl rfl) ?_
                  refine AOps.step rfl rfl rfl (AOp.moveD rfl rfl) ?_
                  -- turns 1
                  refine AOps.callX rfl rfl rfl (.cons (SLe.refl _) (.cons (SLe.refl _) (.cons (SLe.refl _) (.cons (SLe.refl _) (.cons (SLe.refl _) .nil))))) ((ih _ a i mid (by omega) (by omega) (by omega) (by omega) (by omega) ht1 k1 k2 k3) 1) ⟨(.head _), trivial⟩ rfl rfl (fun _ h => nomatch h) ?_
                  refine AOps.nil ?_
                  refine AWP.seq ?_
                  refine AWP.region ?_
                  refine AOps.step rfl rfl rfl (AOp.moveD rfl rfl) ?_
                  refine AOps.step rfl rfl rfl (AOp.moveD rfl rfl) ?_
                  refine AOps.step rfl rfl rfl (AOp.lss rfl rfl rfl) ?_
                  refine AOps.step rfl rfl rfl (AOp.moveD rfl rfl) ?_
                  refine AOps.split 209 rfl (fun g44 => ?_) (fun g44 => ?_)
                  · replace g44 := of_decide_eq_true g44
                    refine AOps.step ⟨209, rfl, .inl ⟨_, rfl, rfl⟩⟩ rfl rfl (AOp.moveD rfl rfl) ?_
                    refine AOps.step ⟨209, rfl, .inl ⟨_, rfl, rfl⟩⟩ rfl rfl (AOp.moveD rfl rfl) ?_
                    refine AOps.step ⟨209, rfl, .inl ⟨_, rfl, rfl⟩⟩ rfl rfl (AOp.lss rfl rfl rfl) ?_
                    refine AOps.step rfl rfl rfl (AOp.pickT rfl rfl rfl) ?_
                    refine AOps.nil ?_
                    refine AWP.cond rfl (fun h45 => ?_) (fun h45 => ?_)
                    · replace h45 := of_decide_eq_true h45
                      refine AWP.region ?_
                      refine AOps.step rfl rfl rfl (AOp.moveO rfl rfl) ?_
                      refine AOps.step rfl rfl rfl (AOp.moveD rfl rfl) ?_
                      refine AOps.step rfl rfl rfl (AOp.moveD rfl rfl) ?_
                      refine AOps.step rfl rfl rfl (AOp.moveD rfl rfl) ?_
                      refine AOps.step rfl rfl rfl (AOp.moveD rfl rfl) ?_
                      -- turns 1
                      refine AOps.callX rfl rfl rfl (.cons (SLe.refl _) (.cons (SLe.refl _) (.cons (SLe.i64 (by omega)) (.cons (SLe.refl _) (.cons (SLe.refl _) .nil))))) ((ih _ mid (mid + m - i) b (by omega) (by omega) (by omega) (by omega) (by omega) ht2 k4 k5 k6) 1) ⟨(.head _), trivial⟩ rfl rfl (fun _ h => nomatch h) ?_
                      refine AOps.nil ?_
                      refine ⟨trivial, ⟨mem_row_eq (.head _) ?_, trivial⟩⟩
                      all_goals (rw [HF])
                    · replace h45 := of_decide_eq_false h45
                      have er3 : (sortSeg cmp (rotl l i m (mid + m - i)) a mid).map fds = (sortSeg cmp (sortSeg cmp (rotl l i m (mid + m - i)) a mid) mid b).map fds := by rw [sortSeg_self hc (by omega) ht2 (sorted_at k4 (by omega) (by omega))]
                      rw [er3]
                      refine AWP.skip ?_
                      refine ⟨trivial, ⟨mem_row_eq (.head _) ?_, trivial⟩⟩
                      all_goals (rw [HF])
                  · replace g44 := of_decide_eq_false g44
                    have er3 : (sortSeg cmp (rotl l i m (mid + m - i)) a mid).map fds = (sortSeg cmp (sortSeg cmp (rotl l i m (mid + m - i)) a mid) mid b).map fds := by rw [sortSeg_self hc (by omega) ht2 (sorted_at k5 (by omega) (by omega))]
                    rw [er3]
                    refine AOps.pass ⟨209, rfl, .inl ⟨_, rfl, rfl⟩⟩ rfl rfl ?_
                    refine AOps.pass ⟨209, rfl, .inl ⟨_, rfl, rfl⟩⟩ rfl rfl ?_
                    refine AOps.pass ⟨209, rfl, .inl ⟨_, rfl, rfl⟩⟩ rfl rfl ?_
                    refine AOps.step rfl rfl rfl (AOp.pickF rfl rfl rfl) ?_
                    refine AOps.nil ?_
                    refine AWP.cond rfl (fun h => nomatch h) (fun _ => ?_)
                    refine AWP.skip ?_
                    refine ⟨trivial, ⟨mem_row_eq (.head _) ?_, trivial⟩⟩
                    all_goals (rw [HF])
                · replace h43 := of_decide_eq_false h43
                  have er2 : (rotl l i m (mid + m - i)).map fds = (sortSeg cmp (rotl l i m (mid + m - i)) a mid).map fds := by rw [sortSeg_self hc (by omega) ht1 (sorted_at k1 (by omega) (by omega))]
                  rw [er2]
                  refine AWP.skip ?_
                  refine AWP.seq ?_
                  refine AWP.region ?_
                  refine AOps.step rfl rfl rfl (AOp.moveD rfl rfl) ?_
                  refine AOps.step rfl rfl rfl (AOp.moveD rfl rfl) ?_
                  refine AOps.step rfl rfl rfl (AOp.lss rfl rfl rfl) ?_
                  refine AOps.step rfl rfl rfl (AOp.moveD rfl rfl) ?_
                  refine AOps.split 209 rfl (fun g46 => ?_) (fun g46 => ?_)
                  · replace g46 := of_decide_eq_true g46
                    refine AOps.step ⟨209, rfl, .inl ⟨_, rfl, rfl⟩⟩ rfl rfl (AOp.moveD rfl rfl) ?_
                    refine AOps.step ⟨209, rfl, .inl ⟨_, rfl, rfl⟩⟩ rfl rfl (AOp.moveD rfl rfl) ?_
                    refine AOps.step ⟨209, rfl, .inl ⟨_, rfl, rfl⟩⟩ rfl rfl (AOp.lss rfl rfl rfl) ?_
                    refine AOps.step rfl rfl rfl (AOp.pickT rfl rfl rfl) ?_
                    refine AOps.nil ?_
                    refine AWP.cond rfl (fun h47 => ?_) (fun h47 => ?_)
                    · replace h47 := of_decide_eq_true h47
                      refine AWP.region ?_
                      refine AOps.step rfl rfl rfl (AOp.moveO rfl rfl) ?_
                      refine AOps.step rfl rfl rfl (AOp.moveD rfl rfl) ?_
                      refine AOps.step rfl rfl rfl (AOp.moveD rfl rfl) ?_
                      refine AOps.step rfl rfl rfl (AOp.moveD rfl rfl) ?_
                      refine AOps.step rfl rfl rfl (AOp.moveD rfl rfl) ?_
                      -- turns 1
                      refine AOps.callX rfl rfl rfl (.cons (SLe.refl _) (.cons (SLe.refl _) (.cons (SLe.i64 (by omega)) (.cons (SLe.refl _) (.cons (SLe.refl _) .nil))))) ((ih _ mid (mid + m - i) b (by omega) (by omega) (by omega) (by omega) (by omega) ht2 k4 k5 k6) 1) ⟨(.head _), trivial⟩ rfl rfl (fun _ h => nomatch h) ?_
                      refine AOps.nil ?_
                      refine ⟨trivial, ⟨mem_row_eq (.head _) ?_, trivial⟩⟩
                      all_goals (rw [HF])
                    · replace h47 := of_decide_eq_false h47
                      have er3 : (sortSeg cmp (rotl l i m (mid + m - i)) a mid).map fds = (sortSeg cmp (sortSeg cmp (rotl l i m (mid + m - i)) a mid) mid b).map fds := by rw [sortSeg_self hc (by omega) ht2 (sorted_at k4 (by omega) (by omega))]
                      rw [er3]
                      refine AWP.skip ?_
                      refine ⟨trivial, ⟨mem_row_eq (.head _) ?_, trivial⟩⟩
                      all_goals (rw [HF])
                  · replace g46 := of_decide_eq_false g46
                    have er3 : (sortSeg cmp (rotl l i m (mid + m - i)) a mid).map fds = (sortSeg cmp (sortSeg cmp (rotl l i m (mid + m - i)) a mid) mid b).map fds := by rw [sortSeg_self hc (by omega) ht2 (sorted_at k5 (by omega) (by omega))]
                    rw [er3]
                    refine AOps.pass ⟨209, rfl, .inl ⟨_, rfl, rfl⟩⟩ rfl rfl ?_
                    refine AOps.pass ⟨209, rfl, .inl ⟨_, rfl, rfl⟩⟩ rfl rfl ?_
                    refine AOps.pass ⟨209, rfl, .inl ⟨_, rfl, rfl⟩⟩ rfl rfl ?_
                    refine AOps.step rfl rfl rfl (AOp.pickF rfl rfl rfl) ?_
                    refine AOps.nil ?_
                    refine AWP.cond rfl (fun h => nomatch h) (fun _ => ?_)
                    refine AWP.skip ?_
                    refine ⟨trivial, ⟨mem_row_eq (.head _) ?_, trivial⟩⟩
                    all_goals (rw [HF])
              · replace g42 := of_decide_eq_false g42
                have er2 : (rotl l i m (mid + m - i)).map fds = (sortSeg cmp (rotl l i m (mid + m - i)) a mid).map fds := by rw [sortSeg_self hc (by omega) ht1 (sorted_at k2 (by omega) (by omega))]
                rw [er2]
                refine AOps.pass ⟨195, rfl, .inl ⟨_, rfl, rfl⟩⟩ rfl rfl ?_
                refine AOps.pass ⟨195, rfl, .inl ⟨_, rfl, rfl⟩⟩ rfl rfl ?_
                refine AOps.pass ⟨195, rfl, .inl ⟨_, rfl, rfl⟩⟩ rfl rfl ?_
                refine AOps.step rfl rfl rfl (AOp.pickF rfl rfl rfl) ?_
                refine AOps.nil ?_
                refine AWP.cond rfl (fun h => nomatch h) (fun _ => ?_)
                refine AWP.skip ?_
                refine AWP.seq ?_
                refine AWP.region ?_
                refine AOps.step rfl rfl rfl (AOp.moveD rfl rfl) ?_
                refine AOps.step rfl rfl rfl (AOp.moveD rfl rfl) ?_
                refine AOps.step rfl rfl rfl (AOp.lss rfl rfl rfl) ?_
                refine AOps.step rfl rfl rfl (AOp.moveD rfl rfl) ?_
                refine AOps.split 209 rfl (fun g48 => ?_) (fun g48 => ?_)
                · replace g48 := of_decide_eq_true g48
                  refine AOps.step ⟨209, rfl, .inl ⟨_, rfl, rfl⟩⟩ rfl rfl (AOp.moveD rfl rfl) ?_
                  refine AOps.step ⟨209, rfl, .inl ⟨_, rfl, rfl⟩⟩ rfl rfl (AOp.moveD rfl rfl) ?_
                  refine AOps.step ⟨209, rfl, .inl ⟨_, rfl, rfl⟩⟩ rfl rfl (AOp.lss rfl rfl rfl) ?_
                  refine AOps.step rfl rfl rfl (AOp.pickT rfl rfl rfl) ?_
                  refine AOps.nil ?_
                  refine AWP.cond rfl (fun h49 => ?_) (fun h49 => ?_)
                  · replace h49 := of_decide_eq_true h49
                    refine AWP.region ?_
                    refine AOps.step rfl rfl rfl (AOp.moveO rfl rfl) ?_
                    refine AOps.step rfl rfl rfl (AOp.moveD rfl rfl) ?_
                    refine AOps.step rfl rfl rfl (AOp.moveD rfl rfl) ?_
                    refine AOps.step rfl rfl rfl (AOp.moveD rfl rfl) ?_
                    refine AOps.step rfl rfl rfl (AOp.moveD rfl rfl) ?_
                    -- turns 1
                    refine AOps.callX rfl rfl rfl (.cons (SLe.refl _) (.cons (SLe.refl _) (.cons (SLe.i64 (by omega)) (.cons (SLe.refl _) (.cons (SLe.refl _) .nil))))) ((ih _ mid (mid + m - i) b (by omega) (by omega) (by omega) (by omega) (by omega) ht2 k4 k5 k6) 1) ⟨(.head _), trivial⟩ rfl rfl (fun _ h => nomatch h) ?_
                    refine AOps.nil ?_
                    refine ⟨trivial, ⟨mem_row_eq (.head _) ?_, trivial⟩⟩
                    all_goals (rw [HF])
                  · replace h49 := of_decide_eq_false h49
                    have er3 : (sortSeg cmp (rotl l i m (mid + m - i)) a mid).map fds = (sortSeg cmp (sortSeg cmp (rotl l i m (mid + m - i)) a mid) mid b).map fds := by rw [sortSeg_self hc (by omega) ht2 (sorted_at k4 (by omega) (by omega))]
                    rw [er3]
                    refine AWP.skip ?_
                    refine ⟨trivial, ⟨mem_row_eq (.head _) ?_, trivial⟩⟩
                    all_goals (rw [HF])
                · replace g48 := of_decide_eq_false g48
                  have er3 : (sortSeg cmp (rotl l i m (mid + m - i)) a mid).map fds = (sortSeg cmp (sortSeg cmp (rotl l i m (mid + m - i)) a mid) mid b).map fds := by rw [sortSeg_self hc (by omega) ht2 (sorted_at k5 (by omega) (by omega))]
                  rw [er3]
                  refine AOps.pass ⟨209, rfl, .inl ⟨_, rfl, rfl⟩⟩ rfl rfl ?_
                  refine AOps.pass ⟨209, rfl, .inl ⟨_, rfl, rfl⟩⟩ rfl rfl ?_
                  refine AOps.pass ⟨209, rfl, .inl ⟨_, rfl, rfl⟩⟩ rfl rfl ?_
                  refine AOps.step rfl rfl rfl (AOp.pickF rfl rfl rfl) ?_
                  refine AOps.nil ?_
                  refine AWP.cond rfl (fun h => nomatch h) (fun _ => ?_)
                  refine AWP.skip ?_
                  refine ⟨trivial, ⟨mem_row_eq (.head _) ?_, trivial⟩⟩
                  all_goals (rw [HF])
            · replace h41 := of_decide_eq_false h41
              have er : l.map fds = (rotl l i m (mid + m - i)).map fds := by rw [show mid + m - i = m by omega, rotl_id2 (by omega)]
              rw [er]
              refine AWP.skip ?_
              refine AWP.seq ?_
              refine AWP.seq ?_
              refine AWP.region ?_
              refine AOps.step rfl rfl rfl (AOp.moveD rfl rfl) ?_
              refine AOps.step rfl rfl rfl (AOp.moveD rfl rfl) ?_
              refine AOps.step rfl rfl rfl (AOp.lss rfl rfl rfl) ?_
              refine AOps.step rfl rfl rfl (AOp.moveD rfl rfl) ?_
              refine AOps.split 195 rfl (fun g50 => ?_) (fun g50 => ?_)
              · replace g50 := of_decide_eq_true g50
                refine AOps.step ⟨195, rfl, .inl ⟨_, rfl, rfl⟩⟩ rfl rfl (AOp.moveD rfl rfl) ?_
                refine AOps.step ⟨195, rfl, .inl ⟨_, rfl, rfl⟩⟩ rfl rfl (AOp.moveD rfl rfl) ?_
                refine AOps.step ⟨195, rfl, .inl ⟨_, rfl, rfl⟩⟩ rfl rfl (AOp.lss rfl rfl rfl) ?_
                refine AOps.step rfl rfl rfl (AOp.pickT rfl rfl rfl) ?_
                refine AOps.nil ?_
                refine AWP.cond rfl (fun h51 => ?_) (fun h51 => ?_)
                · replace h51 := of_decide_eq_true h51
                  refine AWP.region ?_
                  refine AOps.step rfl rfl rfl (AOp.moveO rfl rfl) ?_
                  refine AOps.step rfl rfl rfl (AOp.moveD rfl rfl) ?_
                  refine AOps.step rfl rfl rfl (AOp.moveD rfl rfl) ?_
                  refine AOps.step rfl rfl rfl (AOp.moveD rfl rfl) ?_
                  refine AOps.step rfl rfl rfl (AOp.moveD rfl rfl) ?_
                  -- turns 1
                  refine AOps.callX rfl rfl rfl (.cons (SLe.refl _) (.cons (SLe.refl _) (.cons (SLe.refl _) (.cons (SLe.refl _) (.cons (SLe.refl _) .nil))))) ((ih _ a i mid (by omega) (by omega) (by omega) (by omega) (by omega) ht1 k1 k2 k3) 1) ⟨(.head _), trivial⟩ rfl rfl (fun _ h => nomatch h) ?_
                  refine AOps.nil ?_
                  refine AWP.seq ?_
                  refine AWP.region ?_
                  refine AOps.step rfl rfl rfl (AOp.moveD rfl rfl) ?_
                  refine AOps.step rfl rfl rfl (AOp.moveD rfl rfl) ?_
                  refine AOps.step rfl rfl rfl (AOp.lss rfl rfl rfl) ?_
                  refine AOps.step rfl rfl rfl (AOp.moveD rfl rfl) ?_
                  refine AOps.split 209 rfl (fun g52 => ?_) (fun g52 => ?_)
                  · replace g52 := of_decide_eq_true g52
                    refine AOps.step ⟨209, rfl, .inl ⟨_, rfl, rfl⟩⟩ rfl rfl (AOp.moveD rfl rfl) ?_
                    refine AOps.step ⟨209, rfl, .inl ⟨_, rfl, rfl⟩⟩ rfl rfl (AOp.moveD rfl rfl) ?_
                    refine AOps.step ⟨209, rfl, .inl ⟨_, rfl, rfl⟩⟩ rfl rfl (AOp.lss rfl rfl rfl) ?_
                    refine AOps.step rfl rfl rfl (AOp.pickT rfl rfl rfl) ?_
                    refine AOps.nil ?_
                    refine AWP.cond rfl (fun h53 => ?_) (fun h53 => ?_)
                    · replace h53 := of_decide_eq_true h53
                      refine AWP.region ?_
                      refine AOps.step rfl rfl rfl (AOp.moveO rfl rfl) ?_
                      refine AOps.step rfl rfl rfl (AOp.moveD rfl rfl) ?_
                      refine AOps.step rfl rfl rfl (AOp.moveD rfl rfl) ?_
                      refine AOps.step rfl rfl rfl (AOp.moveD rfl rfl) ?_
                      refine AOps.step rfl rfl rfl (AOp.moveD rfl rfl) ?_
                      -- turns 1
                      refine AOps.callX rfl rfl rfl (.cons (SLe.refl _) (.cons (SLe.refl _) (.cons (SLe.i64 (by omega)) (.cons (SLe.refl _) (.cons (SLe.refl _) .nil))))) ((ih _ mid (mid + m - i) b (by omega) (by omega) (by omega) (by omega) (by omega) ht2 k4 k5 k6) 1) ⟨(.head _), trivial⟩ rfl rfl (fun _ h => nomatch h) ?_
                      refine AOps.nil ?_
                      refine ⟨trivial, ⟨mem_row_eq (.head _) ?_, trivial⟩⟩
                      all_goals (rw [HF])
                    · replace h53 := of_decide_eq_false h53
                      have er3 : (sortSeg cmp (rotl l i m (mid + m - i)) a mid).map fds = (sortSeg cmp (sortSeg cmp (rotl l i m (mid + m - i)) a mid) mid b).map fds := by rw [sortSeg_self hc (by omega) ht2 (sorted_at k4 (by omega) (by omega))]
                      rw [er3]
                      refine AWP.skip ?_
                      refine ⟨trivial, ⟨mem_row_eq (.head _) ?_, trivial⟩⟩
                      all_goals (rw [HF])
                  · replace g52 := of_decide_eq_false g52
                    have er3 : (sortSeg cmp (rotl l i m (mid + m - i)) a mid).map fds = (sortSeg cmp (sortSeg cmp (rotl l i m (mid + m - i)) a mid) mid b).map fds := by rw [sortSeg_self hc (by omega) ht2 (sorted_at k5 (by omega) (by omega))]
                    rw [er3]
                    refine AOps.pass ⟨209, rfl, .inl ⟨_, rfl, rfl⟩⟩ rfl rfl ?_
                    refine AOps.pass ⟨209, rfl, .inl ⟨_, rfl, rfl⟩⟩ rfl rfl ?_
                    refine AOps.pass ⟨209, rfl, .inl ⟨_, rfl, rfl⟩⟩ rfl rfl ?_
                    refine AOps.step rfl rfl rfl (AOp.pickF rfl rfl rfl) ?_
                    refine AOps.nil ?_
                    refine AWP.cond rfl (fun h => nomatch h) (fun _ => ?_)
                    refine AWP.skip ?_
                    refine ⟨trivial, ⟨mem_row_eq (.head _) ?_, trivial⟩⟩
                    all_goals (rw [HF])
                · replace h51 := of_decide_eq_false h51
                  have er2 : (rotl l i m (mid + m - i)).map fds = (sortSeg cmp (rotl l i m (mid + m - i)) a mid).map fds := by rw [sortSeg_self hc (by omega) ht1 (sorted_at k1 (by omega) (by omega))]
                  rw [er2]
                  refine AWP.skip ?_
                  refine AWP.seq ?_
                  refine AWP.region ?_
                  refine AOps.step rfl rfl rfl (AOp.moveD rfl rfl) ?_
                  refine AOps.step rfl rfl rfl (AOp.moveD rfl rfl) ?_
                  refine AOps.step rfl rfl rfl (AOp.lss rfl rfl rfl) ?_
                  refine AOps.step rfl rfl rfl (AOp.moveD rfl rfl) ?_
                  refine AOps.split 209 rfl (fun g54 => ?_) (fun g54 => ?_)
                  · replace g54 := of_decide_eq_true g54
                    refine AOps.step ⟨209, rfl, .inl ⟨_, rfl, rfl⟩⟩ rfl rfl (AOp.moveD rfl rfl) ?_
                    refine AOps.step ⟨209, rfl, .inl ⟨_, rfl, rfl⟩⟩ rfl rfl (AOp.moveD rfl rfl) ?_
                    refine AOps.step ⟨209, rfl, .inl ⟨_, rfl, rfl⟩⟩ rfl rfl (AOp.lss rfl rfl rfl) ?_
                    refine AOps.step rfl rfl rfl (AOp.pickT rfl rfl rfl) ?_
                    refine AOps.nil ?_
                    refine AWP.cond rfl (fun h55 => ?_) (fun h55 => ?_)
                    · replace h55 := of_decide_eq_true h55
                      refine AWP.region ?_
                      refine AOps.step rfl rfl rfl (AOp.moveO rfl rfl) ?_
                      refine AOps.step rfl rfl rfl (AOp.moveD rfl rfl) ?_
                      refine AOps.step rfl rfl rfl (AOp.moveD rfl rfl) ?_
                      refine AOps.step rfl rfl rfl (AOp.moveD rfl rfl) ?_
                      refine AOps.step rfl rfl rfl (AOp.moveD rfl rfl) ?_
                      -- turns 1
                      refine AOps.callX rfl rfl rfl (.cons (SLe.refl _) (.cons (SLe.refl _) (.cons (SLe.i64 (by omega)) (.cons (SLe.refl _) (.cons (SLe.refl _) .nil))))) ((ih _ mid (mid + m - i) b (by omega) (by omega) (by omega) (by omega) (by omega) ht2 k4 k5 k6) 1) ⟨(.head _), trivial⟩ rfl rfl (fun _ h => nomatch h) ?_
                      refine AOps.nil ?_
                      refine ⟨trivial, ⟨mem_row_eq (.head _) ?_, trivial⟩⟩
                      all_goals (rw [HF])
                    · replace h55 := of_decide_eq_false h55
                      have er3 : (sortSeg cmp (rotl l i m (mid + m - i)) a mid).map fds = (sortSeg cmp (sortSeg cmp (rotl l i m (mid + m - i)) a mid) mid b).map fds := by rw [sortSeg_self hc (by omega) ht2 (sorted_at k4 (by omega) (by omega))]
                      rw [er3]
                      refine AWP.skip ?_
                      refine ⟨trivial, ⟨mem_row_eq (.head _) ?_, trivial⟩⟩
                      all_goals (rw [HF])
                  · replace g54 := of_decide_eq_false g54
                    have er3 : (sortSeg cmp (rotl l i m (mid + m - i)) a mid).map fds = (sortSeg cmp (sortSeg cmp (rotl l i m (mid + m - i)) a mid) mid b).map fds := by rw [sortSeg_self hc (by omega) ht2 (sorted_at k5 (by omega) (by omega))]
                    rw [er3]
                    refine AOps.pass ⟨209, rfl, .inl ⟨_, rfl, rfl⟩⟩ rfl rfl ?_
                    refine AOps.pass ⟨209, rfl, .inl ⟨_, rfl, rfl⟩⟩ rfl rfl ?_
                    refine AOps.pass ⟨209, rfl, .inl ⟨_, rfl, rfl⟩⟩ rfl rfl ?_
                    refine AOps.step rfl rfl rfl (AOp.pickF rfl rfl rfl) ?_
                    refine AOps.nil ?_
                    refine AWP.cond rfl (fun h => nomatch h) (fun _ => ?_)
                    refine AWP.skip ?_
                    refine ⟨trivial, ⟨mem_row_eq (.head _) ?_, trivial⟩⟩
                    all_goals (rw [HF])
              · replace g50 := of_decide_eq_false g50
                have er2 : (rotl l i m (mid + m - i)).map fds = (sortSeg cmp (rotl l i m (mid + m - i)) a mid).map fds := by rw [sortSeg_self hc (by omega) ht1 (sorted_at k2 (by omega) (by omega))]
                rw [er2]
                refine AOps.pass ⟨195, rfl, .inl ⟨_, rfl, rfl⟩⟩ rfl rfl ?_
                refine AOps.pass ⟨195, rfl, .inl ⟨_, rfl, rfl⟩⟩ rfl rfl ?_
                refine AOps.pass ⟨195, rfl, .inl ⟨_, rfl, rfl⟩⟩ rfl rfl ?_
                refine AOps.step rfl rfl rfl (AOp.pickF rfl rfl rfl) ?_
                refine AOps.nil ?_
                refine AWP.cond rfl (fun h => nomatch h) (fun _ => ?_)
                refine AWP.skip ?_
                refine AWP.seq ?_
                refine AWP.region ?_
                refine AOps.step rfl rfl rfl (AOp.moveD rfl rfl) ?_
                refine AOps.step rfl rfl rfl (AOp.moveD rfl rfl) ?_
                refine AOps.step rfl rfl rfl (AOp.lss rfl rfl rfl) ?_
                refine AOps.step rfl rfl rfl (AOp.moveD rfl rfl) ?_
                refine AOps.split 209 rfl (fun g56 => ?_) (fun g56 => ?_)
                · replace g56 := of_decide_eq_true g56
                  refine AOps.step ⟨209, rfl, .inl ⟨_, rfl, rfl⟩⟩ rfl rfl (AOp.moveD rfl rfl) ?_
                  refine AOps.step ⟨209, rfl, .inl ⟨_, rfl, rfl⟩⟩ rfl rfl (AOp.moveD rfl rfl) ?_
                  refine AOps.step ⟨209, rfl, .inl ⟨_, rfl, rfl⟩⟩ rfl rfl (AOp.lss rfl rfl rfl) ?_
                  refine AOps.step rfl rfl rfl (AOp.pickT rfl rfl rfl) ?_
                  refine AOps.nil ?_
                  refine AWP.cond rfl (fun h57 => ?_) (fun h57 => ?_)
                  · replace h57 := of_decide_eq_true h57
                    refine AWP.region ?_
                    refine AOps.step rfl rfl rfl (AOp.moveO rfl rfl) ?_
                    refine AOps.step rfl rfl rfl (AOp.moveD rfl rfl) ?_
                    refine AOps.step rfl rfl rfl (AOp.moveD rfl rfl) ?_
                    refine AOps.step rfl rfl rfl (AOp.moveD rfl rfl) ?_
                    refine AOps.step rfl rfl rfl (AOp.moveD rfl rfl) ?_
                    -- turns 1
                    refine AOps.callX rfl rfl rfl (.cons (SLe.refl _) (.cons (SLe.refl _) (.cons (SLe.i64 (by omega)) (.cons (SLe.refl _) (.cons (SLe.refl _) .nil))))) ((ih _ mid (mid + m - i) b (by omega) (by omega) (by omega) (by omega) (by omega) ht2 k4 k5 k6) 1) ⟨(.head _), trivial⟩ rfl rfl (fun _ h => nomatch h) ?_
                    refine AOps.nil ?_
                    refine ⟨trivial, ⟨mem_row_eq (.head _) ?_, trivial⟩⟩
                    all_goals (rw [HF])
                  · replace h57 := of_decide_eq_false h57
                    have er3 : (sortSeg cmp (rotl l i m (mid + m - i)) a mid).map fds = (sortSeg cmp (sortSeg cmp (rotl l i m (mid + m - i)) a mid) mid b).map fds := by rw [sortSeg_self hc (by omega) ht2 (sorted_at k4 (by omega) (by omega))]
                    rw [er3]
                    refine AWP.skip ?_
                    refine ⟨trivial, ⟨mem_row_eq (.head _) ?_, trivial⟩⟩
                    all_goals (rw [HF])
                · replace g56 := of_decide_eq_false g56
                  have er3 : (sortSeg cmp (rotl l i m (mid + m - i)) a mid).map fds = (sortSeg cmp (sortSeg cmp (rotl l i m (mid + m - i)) a mid) mid b).map fds := by rw [sortSeg_self hc (by omega) ht2 (sorted_at k5 (by omega) (by omega))]
                  rw [er3]
                  refine AOps.pass ⟨209, rfl, .inl ⟨_, rfl, rfl⟩⟩ rfl rfl ?_
                  refine AOps.pass ⟨209, rfl, .inl ⟨_, rfl, rfl⟩⟩ rfl rfl ?_
                  refine AOps.pass ⟨209, rfl, .inl ⟨_, rfl, rfl⟩⟩ rfl rfl ?_
                  refine AOps.step rfl rfl rfl (AOp.pickF rfl rfl rfl) ?_
                  refine AOps.nil ?_
                  refine AWP.cond rfl (fun h => nomatch h) (fun _ => ?_)
                  refine AWP.skip ?_
                  refine ⟨trivial, ⟨mem_row_eq (.head _) ?_, trivial⟩⟩
                  all_goals (rw [HF])
          · replace g40 := of_decide_eq_false g40
            have er : l.map fds = (rotl l i m (mid + m - i)).map fds := by rw [show i = m by omega, rotl_id1 (by omega)]
            rw [er]
            refine AOps.pass ⟨181, rfl, .inl ⟨_, rfl, rfl⟩⟩ rfl rfl ?_
            refine AOps.pass ⟨181, rfl, .inl ⟨_, rfl, rfl⟩⟩ rfl rfl ?_
            refine AOps.pass ⟨181, rfl, .inl ⟨_, rfl, rfl⟩⟩ rfl rfl ?_
            refine AOps.step rfl rfl rfl (AOp.pickF rfl rfl rfl) ?_
            refine AOps.nil ?_
            refine AWP.cond rfl (fun h => nomatch h) (fun _ => ?_)
            refine AWP.skip ?_
            refine AWP.seq ?_
            refine AWP.seq ?_
            refine AWP.region ?_
            refine AOps.step rfl rfl rfl (AOp.moveD rfl rfl) ?_
            refine AOps.step rfl rfl rfl (AOp.moveD rfl rfl) ?_
            refine AOps.step rfl rfl rfl (AOp.lss rfl rfl rfl) ?_
            refine AOps.step rfl rfl rfl (AOp.moveD rfl rfl) ?_
            refine AOps.split 195 rfl (fun g58 => ?_) (fun g58 => ?_)
            · replace g58 := of_decide_eq_true g58
              refine AOps.step ⟨195, rfl, .inl ⟨_, rfl, rfl⟩⟩ rfl rfl (AOp.moveD rfl rfl) ?_
              refine AOps.step ⟨195, rfl, .inl ⟨_, rfl, rfl⟩⟩ rfl rfl (AOp.moveD rfl rfl) ?_
              refine AOps.step ⟨195, rfl, .inl ⟨_, rfl, rfl⟩⟩ rfl rfl (AOp.lss rfl rfl rfl) ?_
              refine AOps.step rfl rfl rfl (AOp.pickT rfl rfl rfl) ?_
              refine AOps.nil ?_
              refine AWP.cond rfl (fun h59 => ?_) (fun h59 => ?_)
              · replace h59 := of_decide_eq_true h59
                refine AWP.region ?_
                refine AOps.step rfl rfl rfl (AOp.moveO rfl rfl) ?_
                refine AOps.step rfl rfl rfl (AOp.moveD rfl rfl) ?_
                refine AOps.step rfl rfl rfl (AOp.moveD rfl rfl) ?_
                refine AOps.step rfl rfl rfl (AOp.moveD rfl rfl) ?_
                refine AOps.step rfl rfl rfl (AOp.moveD rfl rfl) ?_
                -- turns 1
                refine AOps.callX rfl rfl rfl (.cons (SLe.refl _) (.cons (SLe.refl _) (.cons (SLe.refl _) (.cons (SLe.refl _) (.cons (SLe.refl _) .nil))))) ((ih _ a i mid (by omega) (by omega) (by omega) (by omega) (by omega) ht1 k1 k2 k3) 1) ⟨(.head _), trivial⟩ rfl rfl (fun _ h => nomatch h) ?_
                refine AOps.nil ?_
                refine AWP.seq ?_
                refine AWP.region ?_
                refine AOps.step rfl rfl rfl (AOp.moveD rfl rfl) ?_
                refine AOps.step rfl rfl rfl (AOp.moveD rfl rfl) ?_
                refine AOps.step rfl rfl rfl (AOp.lss rfl rfl rfl) ?_
                refine AOps.step rfl rfl rfl (AOp.moveD rfl rfl) ?_
                refine AOps.split 209 rfl (fun g60 => ?_) (fun g60 => ?_)
                · replace g60 := of_decide_eq_true g60
                  refine AOps.step ⟨209, rfl, .inl ⟨_, rfl, rfl⟩⟩ rfl rfl (AOp.moveD rfl rfl) ?_
                  refine AOps.step ⟨209, rfl, .inl ⟨_, rfl, rfl⟩⟩ rfl rfl (AOp.moveD rfl rfl) ?_
                  refine AOps.step ⟨209, rfl, .inl ⟨_, rfl, rfl⟩⟩ rfl rfl (AOp.lss rfl rfl rfl) ?_
                  refine AOps.step rfl rfl rfl (AOp.pickT rfl rfl rfl) ?_
                  refine AOps.nil ?_
                  refine AWP.cond rfl (fun h61 => ?_) (fun h61 => ?_)
                  · replace h61 := of_decide_eq_true h61
                    refine AWP.region ?_
                    refine AOps.step rfl rfl rfl (AOp.moveO rfl rfl) ?_
                    refine AOps.step rfl rfl rfl (AOp.moveD rfl rfl) ?_
                    refine AOps.step rfl rfl rfl (AOp.moveD rfl rfl) ?_
                    refine AOps.step rfl rfl rfl (AOp.moveD rfl rfl) ?_
                    refine AOps.step rfl rfl rfl (AOp.moveD rfl rfl) ?_
                    -- turns 1
                    refine AOps.callX rfl rfl rfl (.cons (SLe.refl _) (.cons (SLe.refl _) (.cons (SLe.i64 (by omega)) (.cons (SLe.refl _) (.cons (SLe.refl _) .nil))))) ((ih _ mid (mid + m - i) b (by omega) (by omega) (by omega) (by omega) (by omega) ht2 k4 k5 k6) 1) ⟨(.head _), trivial⟩ rfl rfl (fun _ h => nomatch h) ?_
                    refine AOps.nil ?_
                    refine ⟨trivial, ⟨mem_row_eq (.head _) ?_, trivial⟩⟩
                    all_goals (rw [HF])
                  · replace h61 := of_decide_eq_false h61
                    have er3 : (sortSeg cmp (rotl l i m (mid + m - i)) a mid).map fds = (sortSeg cmp (sortSeg cmp (rotl l i m (mid + m - i)) a mid) mid b).map fds := by rw [sortSeg_self hc (by omega) ht2 (sorted_at k4 (by omega) (by omega))]
                    rw [er3]
                    refine AWP.skip ?_
                    refine ⟨trivial, ⟨mem_row_eq (.head _) ?_, trivial⟩⟩
                    all_goals (rw [HF])
                · replace g60 := of_decide_eq_false g60
                  have er3 : (sortSeg cmp (rotl l i m (mid + m - i)) a mid).map fds = (sortSeg cmp (sortSeg cmp (rotl l i m (mid + m - i)) a mid) mid b).map fds := by rw [sortSeg_self hc (by omega) ht2 (sorted_at k5 (by omega) (by omega))]
                  rw [er3]
                  refine AOps.pass ⟨209, rfl, .inl ⟨_, rfl, rfl⟩⟩ rfl rfl ?_
                  refine AOps.pass ⟨209, rfl, .inl ⟨_, rfl, rfl⟩⟩ rfl rfl ?_
                  refine AOps.pass ⟨209, rfl, .inl ⟨_, rfl, rfl⟩⟩ rfl rfl ?_
                  refine AOps.step rfl rfl rfl (AOp.pickF rfl rfl rfl) ?_
                  refine AOps.nil ?_
                  refine AWP.cond rfl (fun h => nomatch h) (fun _ => ?_)
                  refine AWP.skip ?_
                  refine ⟨trivial, ⟨mem_row_eq (.head _) ?_, trivial⟩⟩
                  all_goals (rw [HF])
              · replace h59 := of_decide_eq_false h59
                have er2 : (rotl l i m (mid + m - i)).map fds = (sortSeg cmp (rotl l i m (mid + m - i)) a mid).map fds := by rw [sortSeg_self hc (by omega) ht1 (sorted_at k1 (by omega) (by omega))]
                rw [er2]
                refine AWP.skip ?_
                refine AWP.seq ?_
                refine AWP.region ?_
                refine AOps.step rfl rfl rfl (AOp.moveD rfl rfl) ?_
                refine AOps.step rfl rfl rfl (AOp.moveD rfl rfl) ?_
                refine AOps.step rfl rfl rfl (AOp.lss rfl rfl rfl) ?_
                refine AOps.step rfl rfl rfl (AOp.moveD rfl rfl) ?_
                refine AOps.split 209 rfl (fun g62 => ?_) (fun g62 => ?_)
                · replace g62 := of_decide_eq_true g62
                  refine AOps.step ⟨209, rfl, .inl ⟨_, rfl, rfl⟩⟩ rfl rfl (AOp.moveD rfl rfl) ?_
                  refine AOps.step ⟨209, rfl, .inl ⟨_, rfl, rfl⟩⟩ rfl rfl (AOp.moveD rfl rfl) ?_
                  refine AOps.step ⟨209, rfl, .inl ⟨_, rfl, rfl⟩⟩ rfl rfl (AOp.lss rfl rfl rfl) ?_
                  refine AOps.step rfl rfl rfl (AOp.pickT rfl rfl rfl) ?_
                  refine AOps.nil ?_
                  refine AWP.cond rfl (fun h63 => ?_) (fun h63 => ?_)
                  · replace h63 := of_decide_eq_true h63
                    refine AWP.region ?_
                    refine AOps.step rfl rfl rfl (AOp.moveO rfl rfl) ?_
                    refine AOps.step rfl rfl rfl (AOp.moveD rfl rfl) ?_
                    refine AOps.step rfl rfl rfl (AOp.moveD rfl rfl) ?_
                    refine AOps.step rfl rfl rfl (AOp.moveD rfl rfl) ?_
                    refine AOps.step rfl rfl rfl (AOp.moveD rfl rfl) ?_
                    -- turns 1
                    refine AOps.callX rfl rfl rfl (.cons (SLe.refl _) (.cons (SLe.refl _) (.cons (SLe.i64 (by omega)) (.cons (SLe.refl _) (.cons (SLe.refl _) .nil))))) ((ih _ mid (mid + m - i) b (by omega) (by omega) (by omega) (by omega) (by omega) ht2 k4 k5 k6) 1) ⟨(.head _), trivial⟩ rfl rfl (fun _ h => nomatch h) ?_
                    refine AOps.nil ?_
                    refine ⟨trivial, ⟨mem_row_eq (.head _) ?_, trivial⟩⟩
                    all_goals (rw [HF])
                  · replace h63 := of_decide_eq_false h63
                    have er3 : (sortSeg cmp (rotl l i m (mid + m - i)) a mid).map fds = (sortSeg cmp (sortSeg cmp (rotl l i m (mid + m - i)) a mid) mid b).map fds := by rw [sortSeg_self hc (by omega) ht2 (sorted_at k4 (by omega) (by omega))]
                    rw [er3]
                    refine AWP.skip ?_
                    refine ⟨trivial, ⟨mem_row_eq (.head _) ?_, trivial⟩⟩
                    all_goals (rw [HF])
                · replace g62 := of_decide_eq_false g62
                  have er3 : (sortSeg cmp (rotl l i m (mid + m - i)) a mid).map fds = (sortSeg cmp (sortSeg cmp (rotl l i m (mid + m - i)) a mid) mid b).map fds := by rw [sortSeg_self hc (by omega) ht2 (sorted_at k5 (by omega) (by omega))]
                  rw [er3]
                  refine AOps.pass ⟨209, rfl, .inl ⟨_, rfl, rfl⟩⟩ rfl rfl ?_
                  refine AOps.pass ⟨209, rfl, .inl ⟨_, rfl, rfl⟩⟩ rfl rfl ?_
                  refine AOps.pass ⟨209, rfl, .inl ⟨_, rfl, rfl⟩⟩ rfl rfl ?_
                  refine AOps.step rfl rfl rfl (AOp.pickF rfl rfl rfl) ?_
                  refine AOps.nil ?_
                  refine AWP.cond rfl (fun h => nomatch h) (fun _ => ?_)
                  refine AWP.skip ?_
                  refine ⟨trivial, ⟨mem_row_eq (.head _) ?_, trivial⟩⟩
                  all_goals (rw [HF])
            · replace g58 := of_decide_eq_false g58
              have er2 : (rotl l i m (mid + m - i)).map fds = (sortSeg cmp (rotl l i m (mid + m - i)) a mid).map fds := by rw [sortSeg_self hc (by omega) ht1 (sorted_at k2 (by omega) (by omega))]
              rw [er2]
              refine AOps.pass ⟨195, rfl, .inl ⟨_, rfl, rfl⟩⟩ rfl rfl ?_
              refine AOps.pass ⟨195, rfl, .inl ⟨_, rfl, rfl⟩⟩ rfl rfl ?_
              refine AOps.pass ⟨195, rfl, .inl ⟨_, rfl, rfl⟩⟩ rfl rfl ?_
              refine AOps.step rfl rfl rfl (AOp.pickF rfl rfl rfl) ?_
              refine AOps.nil ?_
              refine AWP.cond rfl (fun h => nomatch h) (fun _ => ?_)
              refine AWP.skip ?_
              refine AWP.seq ?_
              refine AWP.region ?_
              refine AOps.step rfl rfl rfl (AOp.moveD rfl rfl) ?_
              refine AOps.step rfl rfl rfl (AOp.moveD rfl rfl) ?_
              refine AOps.step rfl rfl rfl (AOp.lss rfl rfl rfl) ?_
              refine AOps.step rfl rfl rfl (AOp.moveD rfl rfl) ?_
              refine AOps.split 209 rfl (fun g64 => ?_) (fun g64 => ?_)
              · replace g64 := of_decide_eq_true g64
                refine AOps.step ⟨209, rfl, .inl ⟨_, rfl, rfl⟩⟩ rfl rfl (AOp.moveD rfl rfl) ?_
                refine AOps.step ⟨209, rfl, .inl ⟨_, rfl, rfl⟩⟩ rfl rfl (AOp.moveD rfl rfl) ?_
                refine AOps.step ⟨209, rfl, .inl ⟨_, rfl, rfl⟩⟩ rfl rfl (AOp.lss rfl rfl rfl) ?_
                refine AOps.step rfl rfl rfl (AOp.pickT rfl rfl rfl) ?_
                refine AOps.nil ?_
                refine AWP.cond rfl (fun h65 => ?_) (fun h65 => ?_)
                · replace h65 := of_decide_eq_true h65
                  refine AWP.region ?_
                  refine AOps.step rfl rfl rfl (AOp.moveO rfl rfl) ?_
                  refine AOps.step rfl rfl rfl (AOp.moveD rfl rfl) ?_
                  refine AOps.step rfl rfl rfl (AOp.moveD rfl rfl) ?_
                  refine AOps.step rfl rfl rfl (AOp.moveD rfl rfl) ?_
                  refine AOps.step rfl rfl rfl (AOp.moveD rfl rfl) ?_
                  -- turns 1
                  refine AOps.callX rfl rfl rfl (.cons (SLe.refl _) (.cons (SLe.refl _) (.cons (SLe.i64 (by omega)) (.cons (SLe.refl _) (.cons (SLe.refl _) .nil))))) ((ih _ mid (mid + m - i) b (by omega) (by omega) (by omega) (by omega) (by omega) ht2 k4 k5 k6) 1) ⟨(.head _), trivial⟩ rfl rfl (fun _ h => nomatch h) ?_
                  refine AOps.nil ?_
                  refine ⟨trivial, ⟨mem_row_eq (.head _) ?_, trivial⟩⟩
                  all_goals (rw [HF])
                · replace h65 := of_decide_eq_false h65
                  have er3 : (sortSeg cmp (rotl l i m (mid + m - i)) a mid).map fds = (sortSeg cmp (sortSeg cmp (rotl l i m (mid + m - i)) a mid) mid b).map fds := by rw [sortSeg_self hc (by omega) ht2 (sorted_at k4 (by omega) (by omega))]
                  rw [er3]
                  refine AWP.skip ?_
                  refine ⟨trivial, ⟨mem_row_eq (.head _) ?_, trivial⟩⟩
                  all_goals (rw [HF])
              · replace g64 := of_decide_eq_false g64
                have er3 : (sortSeg cmp (rotl l i m (mid + m - i)) a mid).map fds = (sortSeg cmp (sortSeg cmp (rotl l i m (mid + m - i)) a mid) mid b).map fds := by rw [sortSeg_self hc (by omega) ht2 (sorted_at k5 (by omega) (by omega))]
                rw [er3]
                refine AOps.pass ⟨209, rfl, .inl ⟨_, rfl, rfl⟩⟩ rfl rfl ?_
                refine AOps.pass ⟨209, rfl, .inl ⟨_, rfl, rfl⟩⟩ rfl rfl ?_
                refine AOps.pass ⟨209, rfl, .inl ⟨_, rfl, rfl⟩⟩ rfl rfl ?_
                refine AOps.step rfl rfl rfl (AOp.pickF rfl rfl rfl) ?_
                refine AOps.nil ?_
                refine AWP.cond rfl (fun h => nomatch h) (fun _ => ?_)
                refine AWP.skip ?_
                refine ⟨trivial, ⟨mem_row_eq (.head _) ?_, trivial⟩⟩
                all_goals (rw [HF])

end Go.Proofs.Ytpihcfpdaoflbaa
