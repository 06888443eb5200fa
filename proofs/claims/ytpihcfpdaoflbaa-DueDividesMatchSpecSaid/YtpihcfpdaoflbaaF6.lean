/- Walks over abstract values. Printed by tools/gen.py. No statement of the seat. -/
import Derived.Test.YtpihcfpdaoflbaaF5
namespace Go.Proofs.Ytpihcfpdaoflbaa
open Go.RowKit
set_option linter.unusedVariables false

/-! Types. -/
namespace TyF6
theorem et_22 : ElemTy Try.prog 22 3 1 8 (.int .i64 0) := ⟨by kernel_rfl, by kernel_rfl, by kernel_rfl, by decide⟩
theorem sc_3 : Scal Try.prog 3 := .of (by kernel_rfl)
theorem sz_3 : ∀ w, (sizeOf 3).run Try.prog w = .ok 1 w := SizeT.of (by kernel_rfl)
end TyF6
open TyF6


theorem ins_end {α : Type} {cmp : α → α → Int} (hc : Pre cmp) {l c : List (α × Nat)} {a b i : Nat} (ht : TagsOk l) (hab : a ≤ b) (h : Ins cmp l a b c i) (hi : b ≤ i) (h2 : i ≤ b ∨ (c = l ∧ b ≤ a)) : c = sortSeg cmp l a b := by
  by_cases h3 : i ≤ b
  · have : i = b := by omega
    subst this
    exact sortSeg_eq hc hab ht h.perm h.out h.sorted
  · obtain ⟨h4, h5⟩ := h2.resolve_left h3
    exact sortSeg_eq hc hab ht h.perm (fun p _ => by rw [h4]) (fun p q x y h6 h7 h8 => by omega)


set_option maxRecDepth 100000 in
set_option maxHeartbeats 1000000 in
theorem c_insSort {N0 : Nat} (l : List (Fin N0 × Nat)) (a b : Nat) (cmp : Fin N0 → Fin N0 → Int) (hc : Pre cmp) (f : Nat) (caps : List D) (hf : ∀ x y : Fin N0, ACall Try.prog f (.v (.int .i64 (x.val : Int)) :: .v (.int .i64 (y.val : Int)) :: caps) (.v (.int .i64 (cmp x y)))) (ht : TagsOk l) (hinc : Incr l a b) (hab : a ≤ b) (hb : b ≤ l.length) (hl : l.length ≤ 4611686018427387904) : RCall Try.prog 25 3 1 (l.map fds) ((sortSeg cmp l a b).map fds) [.v (.int .i64 a), .v (.int .i64 b), .clo (.func f) caps] (.tup []) := by
  refine RCall.of1 (chg := fun i => Nat.ble 1000 i) (xcall_of (n := 53) (ds' := []) Try.func25 rfl (by kernel_rfl) rfl [] rfl rfl ?_) rfl
  intro B w0 F0 fr ρ0
  refine AWP.seq ?_
  refine AWP.region ?_
  refine AOps.step rfl rfl rfl (AOp.moveD rfl rfl) ?_
  refine AOps.step rfl rfl rfl (AOp.add64 rfl rfl rfl (by omega) (by omega)) ?_
  refine AOps.step rfl rfl rfl (AOp.assignD rfl rfl) ?_
  refine AOps.nil ?_
  refine AWP.block ?_
  refine AWP.loop (G := List (Fin N0 × Nat) × Nat) (fun g => Env.of [(8, .d (.v (.int .i64 (g.2 : Int)))), (0, .own 1), (1, .d (.v (.int .i64 a))), (2, .d (.v (.int .i64 b))), (3, .d (.clo (.func f) caps))]) (fun g => [(1, .row 3 1 (g.1.map fds))]) (fun g => Ins cmp l a b g.1 g.2 ∧ a < g.2 ∧ (g.2 ≤ b ∨ (g.1 = l ∧ b ≤ a))) (fun g => b - g.2) (l, a + 1) ⟨Ins.start hinc, by dsimp only; omega, by dsimp only; by_cases h : a + 1 ≤ b; exact .inl h; exact .inr ⟨rfl, by omega⟩⟩ (Sub.less ⟨(SLe.i64 (by dsimp only; omega)), SLe.refl _, SLe.refl _, SLe.refl _, SLe.refl _, trivial⟩ (row_same rfl)) ?_
  rintro ⟨c0, i⟩ ⟨hI, hai, hie⟩
  dsimp only at hI hai hie ⊢
  refine AWP.seq ?_
  refine AWP.seq ?_
  refine AWP.region ?_
  refine AOps.step rfl rfl rfl (AOp.moveD rfl rfl) ?_
  refine AOps.step rfl rfl rfl (AOp.moveD rfl rfl) ?_
  refine AOps.step rfl rfl rfl (AOp.lss rfl rfl rfl) ?_
  refine AOps.nil ?_
  refine AWP.cond rfl (fun h1 => ?_) (fun h1 => ?_)
  · replace h1 := of_decide_eq_true h1
    have hib : i < b := by omega
    refine AWP.skip ?_
    refine AWP.seq ?_
    refine AWP.block ?_
    refine AWP.seq ?_
    refine AWP.region ?_
    refine AOps.step rfl rfl rfl (AOp.moveD rfl rfl) ?_
    refine AOps.step rfl rfl rfl (AOp.assignD rfl rfl) ?_
    refine AOps.nil ?_
    refine AWP.block ?_
    refine AWP.loop (G := List (Fin N0 × Nat) × Nat) (fun g => Env.of [(9, .d (.v (.int .i64 (g.2 : Int)))), (8, .d (.v (.int .i64 (i : Int)))), (0, .own 1), (1, .d (.v (.int .i64 a))), (2, .d (.v (.int .i64 b))), (3, .d (.clo (.func f) caps))]) (fun g => [(1, .row 3 1 (g.1.map fds))]) (fun g => InsJ cmp l a b g.1 i g.2) (fun g => g.2) (c0, i) (hI.down hai) (Sub.less ⟨(SLe.i64 rfl), SLe.refl _, SLe.refl _, SLe.refl _, SLe.refl _, SLe.refl _, trivial⟩ (row_same rfl)) ?_
    rintro ⟨c, j⟩ hj
    dsimp only at hj ⊢
    have hcl := hj.perm.length_eq
    have hji := hj.ji
    have haj := hj.aj
    refine AWP.seq ?_
    refine AWP.seq ?_
    refine AWP.draw (by kernel_rfl) (by kernel_rfl) ?_
    refine DRun.step rfl rfl rfl (AOp.moveD rfl rfl) ?_
    refine DRun.step rfl rfl rfl (AOp.moveD rfl rfl) ?_
    refine DRun.step rfl rfl rfl (AOp.gtr rfl rfl rfl) ?_
    refine DRun.step rfl rfl rfl (AOp.moveD rfl rfl) ?_
    refine DRun.split 21 rfl (fun g2 => ?_) (fun g2 => ?_)
    · replace g2 := of_decide_eq_true g2
      have hja : a < j := by omega
      have hjc : j < c.length := by omega
      refine DRun.step ⟨21, rfl, .inl ⟨_, rfl, rfl⟩⟩ rfl rfl (AOp.moveD rfl rfl) ?_
      refine DRun.step ⟨21, rfl, .inl ⟨_, rfl, rfl⟩⟩ rfl rfl (AOp.moveO rfl rfl) ?_
      refine DRun.step ⟨21, rfl, .inl ⟨_, rfl, rfl⟩⟩ rfl rfl (AOp.moveD rfl rfl) ?_
      refine DRun.step ⟨21, rfl, .inl ⟨_, rfl, rfl⟩⟩ rfl rfl (AOp.indexOwn rfl et_22 rfl rfl (.head _) j rfl (by rw [List.length_map]; omega)) ?_
      refine DRun.step ⟨21, rfl, .inl ⟨_, rfl, rfl⟩⟩ rfl rfl (AOp.loadRow rfl sc_3 rfl (.head _) j 0 rfl (at_list hjc) rfl) ?_
      refine DRun.step ⟨21, rfl, .inl ⟨_, rfl, rfl⟩⟩ rfl rfl (AOp.moveO rfl rfl) ?_
      refine DRun.step ⟨21, rfl, .inl ⟨_, rfl, rfl⟩⟩ rfl rfl (AOp.moveD rfl rfl) ?_
      refine DRun.step ⟨21, rfl, .inl ⟨_, rfl, rfl⟩⟩ rfl rfl (AOp.sub64 rfl rfl rfl (by omega) (by omega)) ?_
      refine DRun.step ⟨21, rfl, .inl ⟨_, rfl, rfl⟩⟩ rfl rfl (AOp.indexOwn rfl et_22 rfl rfl (.head _) (j - 1) (by omega) (by rw [List.length_map]; omega)) ?_
      refine DRun.step ⟨21, rfl, .inl ⟨_, rfl, rfl⟩⟩ rfl rfl (AOp.loadRow rfl sc_3 rfl (.head _) (j - 1) 0 rfl (at_list (by omega)) rfl) ?_
      refine DRun.step ⟨21, rfl, .inl ⟨_, rfl, rfl⟩⟩ rfl rfl (AOp.callClo rfl rfl (.cons (ArgOk.rfl' rfl) (.cons (ArgOk.rfl' rfl) .nil)) (hf (c[j]'hjc).1 (c[j-1]'(by omega)).1)) ?_
      refine DRun.step ⟨21, rfl, .inl ⟨_, rfl, rfl⟩⟩ rfl rfl (AOp.lss rfl rfl rfl) ?_
      refine DRun.step rfl rfl rfl (AOp.pickT rfl rfl rfl) ?_
      refine DRun.nil ?_
      refine AWP.cond rfl (fun h3 => ?_) (fun h3 => ?_)
      · replace h3 := of_decide_eq_true h3
        have HS := hj.step hja (by omega) (List.getElem?_eq_getElem hjc) (List.getElem?_eq_getElem (by omega)) (.inl h3)
        refine AWP.skip ?_
        refine AWP.seq ?_
        refine AWP.block ?_
        refine AWP.drawG (fun k => (Nat.beq k 15 || Nat.beq k 17) || (Nat.beq k 8 || Nat.beq k 9 || Nat.beq k 12 || Nat.beq k 13 || Nat.beq k 14 || Nat.beq k 16)) (fun k => Nat.beq k 15 || Nat.beq k 17) (fun k h => Bool.or_eq_true_iff.2 (.inl h)) (by kernel_rfl) (by kernel_rfl) (by kernel_rfl) ?_
        refine GRun.step rfl rfl rfl (fun _ => AOp.moveO rfl rfl) ?_
        refine GRun.step rfl rfl rfl (fun _ => AOp.moveD rfl rfl) ?_
        refine GRun.step rfl rfl rfl (fun _ => AOp.moveO rfl rfl) ?_
        refine GRun.step rfl rfl rfl (fun _ => AOp.moveD rfl rfl) ?_
        refine GRun.step rfl rfl rfl (fun _ => AOp.sub64 rfl rfl rfl (by omega) (by omega)) ?_
        refine GRun.step rfl rfl rfl (fun _ => AOp.moveO rfl rfl) ?_
        refine GRun.step rfl rfl rfl (fun _ => AOp.moveD rfl rfl) ?_
        refine GRun.step rfl rfl rfl (fun _ => AOp.sub64 rfl rfl rfl (by omega) (by omega)) ?_
        refine GRun.stepS rfl rfl rfl rfl (AOp.indexOwn rfl et_22 rfl rfl (.head _) (j - 1) (by omega) (by rw [List.length_map]; omega)) ?_
        refine GRun.stepS rfl rfl rfl rfl (AOp.loadRow rfl sc_3 rfl (.head _) (j - 1) 0 rfl (at_list (by omega)) rfl) ?_
        refine GRun.step rfl rfl rfl (fun _ => AOp.moveO rfl rfl) ?_
        refine GRun.step rfl rfl rfl (fun _ => AOp.moveD rfl rfl) ?_
        refine GRun.stepS rfl rfl rfl rfl (AOp.indexOwn rfl et_22 rfl rfl (.head _) j rfl (by rw [List.length_map]; omega)) ?_
        refine GRun.stepS rfl rfl rfl rfl (AOp.loadRow rfl sc_3 rfl (.head _) j 0 rfl (at_list hjc) rfl) ?_
        refine GRun.stepS rfl rfl rfl rfl (AOp.indexOwn rfl et_22 rfl rfl (.head _) j rfl (by rw [List.length_map]; omega)) ?_
        refine GRun.eff rfl rfl rfl (EOp.storeRow rfl rfl sz_3 rfl (.head _) rfl rfl rfl j 0 rfl (at_list hjc) (Nat.le_of_ble_eq_true rfl)) ?_
        refine GRun.stepS rfl rfl rfl rfl (AOp.indexOwn rfl et_22 rfl rfl (.head _) (j - 1) (by omega) (by rw [List.length_set, List.length_map]; omega)) ?_
        refine GRun.eff rfl rfl rfl (EOp.storeRow rfl rfl sz_3 rfl (.head _) rfl rfl rfl (j - 1) 0 rfl (List.getElem?_eq_getElem (by rw [List.length_set, List.length_map]; omega)) (Nat.le_of_ble_eq_true rfl)) ?_
        refine GRun.nil ?_
        refine AWP.region ?_
        refine AOps.step rfl rfl rfl (AOp.moveD rfl rfl) ?_
        refine AOps.step rfl rfl rfl (AOp.sub64 rfl rfl rfl (by omega) (by omega)) ?_
        refine AOps.step rfl rfl rfl (AOp.assignD rfl rfl) ?_
        refine AOps.nil ?_
        refine ⟨(sw c j (j - 1), j - 1), HS, (by dsimp only; omega), Sub.less ⟨(SLe.i64 (by dsimp only; omega)), SLe.refl _, SLe.refl _, SLe.refl _, SLe.refl _, SLe.refl _, trivial⟩ (row_same (row_swap (enc := fds) (size := 1) (cur := c) (i := j) (j := j - 1) (fun _ => rfl) hjc (by omega) rfl (List.getElem?_eq_getElem (by rw [List.length_set, List.length_map]; omega))))⟩
      · replace h3 := of_decide_eq_false h3
        have HD := hj.done hc hinc hib hb (.inr ⟨_, _, List.getElem?_eq_getElem hjc, List.getElem?_eq_getElem (by omega), h3⟩)
        refine AWP.exit ?_
        refine AWP.region ?_
        refine AOps.step rfl rfl rfl (AOp.moveD rfl rfl) ?_
        refine AOps.step rfl rfl rfl (AOp.add64 rfl rfl rfl (by omega) (by omega)) ?_
        refine AOps.step rfl rfl rfl (AOp.assignD rfl rfl) ?_
        refine AOps.nil ?_
        refine ⟨(c, i + 1), ⟨HD, by dsimp only; omega, .inl hib⟩, (by dsimp only; omega), Sub.less ⟨(SLe.i64 (by dsimp only; omega)), SLe.refl _, SLe.refl _, SLe.refl _, SLe.refl _, trivial⟩ (row_same rfl)⟩
    · replace g2 := of_decide_eq_false g2
      have HD := hj.done hc hinc hib hb (.inl (by omega))
      refine DRun.pass ⟨21, rfl, .inl ⟨_, rfl, rfl⟩⟩ rfl rfl ?_
      refine DRun.pass ⟨21, rfl, .inl ⟨_, rfl, rfl⟩⟩ rfl rfl ?_
      refine DRun.pass ⟨21, rfl, .inl ⟨_, rfl, rfl⟩⟩ rfl rfl ?_
      refine DRun.pass ⟨21, rfl, .inl ⟨_, rfl, rfl⟩⟩ rfl rfl ?_
      refine DRun.pass ⟨21, rfl, .inl ⟨_, rfl, rfl⟩⟩ rfl rfl ?_
      refine DRun.pass ⟨21, rfl, .inl ⟨_, rfl, rfl⟩⟩ rfl rfl ?_
      refine DRun.pass ⟨21, rfl, .inl ⟨_, rfl, rfl⟩⟩ rfl rfl ?_
      refine DRun.pass ⟨21, rfl, .inl ⟨_, rfl, rfl⟩⟩ rfl rfl ?_
      refine DRun.pass ⟨21, rfl, .inl ⟨_, rfl, rfl⟩⟩ rfl rfl ?_
      refine DRun.pass ⟨21, rfl, .inl ⟨_, rfl, rfl⟩⟩ rfl rfl ?_
      refine DRun.pass ⟨21, rfl, .inl ⟨_, rfl, rfl⟩⟩ rfl rfl ?_
      refine DRun.pass ⟨21, rfl, .inl ⟨_, rfl, rfl⟩⟩ rfl rfl ?_
      refine DRun.step rfl rfl rfl (AOp.pickF rfl rfl rfl) ?_
      refine DRun.nil ?_
      refine AWP.cond rfl (fun h => nomatch h) (fun _ => ?_)
      refine AWP.exit ?_
      refine AWP.region ?_
      refine AOps.step rfl rfl rfl (AOp.moveD rfl rfl) ?_
      refine AOps.step rfl rfl rfl (AOp.add64 rfl rfl rfl (by omega) (by omega)) ?_
      refine AOps.step rfl rfl rfl (AOp.assignD rfl rfl) ?_
      refine AOps.nil ?_
      refine ⟨(c, i + 1), ⟨HD, by dsimp only; omega, .inl hib⟩, (by dsimp only; omega), Sub.less ⟨(SLe.i64 (by dsimp only; omega)), SLe.refl _, SLe.refl _, SLe.refl _, SLe.refl _, trivial⟩ (row_same rfl)⟩
  · replace h1 := of_decide_eq_false h1
    have HF := ins_end hc ht hab hI (by omega) hie
    refine AWP.exit ?_
    refine ⟨trivial, ⟨mem_row_eq (.head _) ?_, trivial⟩⟩
    all_goals (rw [HF])

end Go.Proofs.Ytpihcfpdaoflbaa
