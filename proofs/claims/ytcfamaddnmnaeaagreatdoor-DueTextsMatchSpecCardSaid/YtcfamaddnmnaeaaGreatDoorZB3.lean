/- Walks and laws over abstract values, merged by tools/merge.py. No statement of the seat. -/
import Derived.WalkKit
import Derived.Ground.NamesProg
import Derived.Shelf.Strings.SlTrimAscii
import Derived.Shelf.Small.Strs
import Derived.Shelf.Small.Wraps
import Derived.Shelf.Strings.Search3
import Derived.Shelf.LaysM
import Derived.Test.YtcfamaddnmnaeaaGreatDoorProg
import Derived.Lib.Bytealg
import Derived.Lib.IndexLaws
import Derived.Lib.SlTrimSet
import Derived.Lib.SlicesCompact
import Derived.Lib.RowBridge
import Derived.Lib.Strings
import Derived.Test.YtcfamaddnmnaeaaGreatDoorZB2

namespace Go.Proofs.YtcfamaddnmnaeaaGreatDoor
open Go.RowKit
set_option linter.unusedVariables false

/-! Types. -/
namespace TyF9
end TyF9
open TyF0 TyF1 TyF2 TyF3 TyF4 TyF5 TyF6 TyF7 TyF8 TyF9

/-- The binary search among run 2 for an element x of run 1, or the other way round: who lies before i is said by lo, who lies from j on by hi. -/
structure Srch {β : Type} (l : List β) (lo hi : β → Prop) (a b i j : Nat) : Prop where
  ai : a ≤ i
  ij : i ≤ j
  jb : j ≤ b
  low : ∀ h y, a ≤ h → h < i → l[h]? = some y → lo y
  high : ∀ h y, j ≤ h → h < b → l[h]? = some y → hi y
theorem Srch.start {β : Type} {l : List β} {lo hi : β → Prop} {a b : Nat} (h : a ≤ b) : Srch l lo hi a b a b := ⟨Nat.le_refl _, h, Nat.le_refl _, fun _ _ _ _ => by omega, fun _ _ _ _ => by omega⟩
theorem Srch.up {β : Type} {l : List β} {lo hi : β → Prop} {a b i j h : Nat} (s : Srch l lo hi a b i j) (h1 : i ≤ h) (h2 : h < j) (hl : ∀ k y, a ≤ k → k ≤ h → l[k]? = some y → lo y) : Srch l lo hi a b (h + 1) j :=
  ⟨by have := s.ai; omega, by omega, s.jb, fun k y q1 q2 => hl k y q1 (by omega), s.high⟩
theorem Srch.dn {β : Type} {l : List β} {lo hi : β → Prop} {a b i j h : Nat} (s : Srch l lo hi a b i j) (h1 : i ≤ h) (h2 : h < j) (hh : ∀ k y, h ≤ k → k < b → l[k]? = some y → hi y) : Srch l lo hi a b i h :=
  ⟨s.ai, h1, by have := s.jb; omega, s.low, hh⟩
theorem mono_up {α : Type} {cmp : α → α → Int} (hc : PreC cmp) {l : List (α × Nat)} {a b h : Nat} {x y0 : α × Nat} (hs : SortedOn cmp l a b) (hb : h < b) (hy : l[h]? = some y0) (ht : tlt cmp y0 x) : ∀ k y, a ≤ k → k ≤ h → l[k]? = some y → tlt cmp y x := fun k y h1 h2 h3 => by
  by_cases e : k = h
  · subst e; rw [hy] at h3; cases h3; exact ht
  · exact tlt_trans hc (hs k h y y0 h1 (by omega) hb h3 hy) ht
theorem mono_dn {α : Type} {cmp : α → α → Int} (hc : PreC cmp) {l : List (α × Nat)} {a b h : Nat} {x y0 : α × Nat} (hs : SortedOn cmp l a b) (ha : a ≤ h) (hy : l[h]? = some y0) (ht : tlt cmp x y0) : ∀ k y, h ≤ k → k < b → l[k]? = some y → tlt cmp x y := fun k y h1 h2 h3 => by
  by_cases e : h = k
  · subst e; rw [hy] at h3; cases h3; exact ht
  · exact tlt_trans hc ht (hs h k y0 y ha (by omega) h2 hy h3)
/-- The search for the cut: c from s on has its partner p - c below it, c before s has not. -/
structure CutS {N0 : Nat} (cmp : Fin N0 → Fin N0 → Int) (l : List (Fin N0 × Nat)) (p lo0 hi0 s r : Nat) : Prop where
  ls : lo0 ≤ s
  sr : s ≤ r
  rh : r ≤ hi0
  low : lo0 < s → ∃ x y, l[s - 1]? = some x ∧ l[p - (s - 1)]? = some y ∧ tlt cmp x y
  high : r < hi0 → ∃ x y, l[r]? = some x ∧ l[p - r]? = some y ∧ tlt cmp y x
theorem CutS.cut {N0 : Nat} {cmp : Fin N0 → Fin N0 → Int} (hc : PreC cmp) {l : List (Fin N0 × Nat)} {a m b mid lo0 hi0 s : Nat} (h1 : SortedOn cmp l a m) (h2 : SortedOn cmp l m b) (hmid : mid = (a + b) / 2) (ham : a < m) (hmb : m < b)
    (hl : (mid < m ∧ lo0 + b = mid + m ∧ hi0 = mid) ∨ (m ≤ mid ∧ lo0 = a ∧ hi0 = m)) (h : CutS cmp l (mid + m - 1) lo0 hi0 s s) : Cut cmp l a m b s (mid + m - s) := by
  have ls := h.ls
  have rh := h.rh
  refine ⟨by omega, by omega, by omega, by omega, fun i j x y q1 q2 q3 q4 hx hy => ?_, fun i j x y q1 q2 q3 q4 hx hy => ?_⟩
  · obtain ⟨u, v, hu, hv, ht⟩ := h.low (by omega)
    have hv2 : l[mid + m - s]? = some v := by rw [← hv]; congr 1; omega
    have e1 : tlt cmp x v := mono_up hc h1 (by omega) hu ht i x q1 (by omega) hx
    exact mono_dn hc h2 (by omega) hv2 e1 j y q3 q4 hy
  · obtain ⟨u, v, hu, hv, ht⟩ := h.high (by omega)
    have hv2 : l[mid + m - s - 1]? = some v := by rw [← hv]; congr 1; omega
    have e1 : tlt cmp y u := mono_up hc h2 (by omega) hv2 ht j y q3 (by omega) hy
    exact mono_dn hc h1 (by omega) hu e1 i x q1 q2 hx

end Go.Proofs.YtcfamaddnmnaeaaGreatDoor

namespace Go.Proofs.YtcfamaddnmnaeaaGreatDoor
open Go.RowKit
set_option linter.unusedVariables false

/-! Types. -/
namespace TyF10
end TyF10
open TyF0 TyF1 TyF2 TyF3 TyF4 TyF5 TyF6 TyF7 TyF8 TyF9 TyF10

theorem sorted_at {α : Type} {cmp : α → α → Int} {l : List (α × Nat)} {a b a' b' : Nat} (h : SortedOn cmp l a b) (ha : a = a') (hb : b = b') : SortedOn cmp l a' b' := ha ▸ hb ▸ h
theorem sortSeg_self {α : Type} {cmp : α → α → Int} (hc : PreC cmp) {l : List (α × Nat)} {a b : Nat} (hab : a ≤ b) (ht : TagsOk l) (hs : SortedOn cmp l a b) : sortSeg cmp l a b = l := (sortSeg_eq hc hab ht (List.Perm.refl _) (fun _ _ => rfl) hs).symm

set_option maxRecDepth 100000 in
set_option maxHeartbeats 1000000 in
theorem c_symStep {N0 : Nat} (cmp : Fin N0 → Fin N0 → Int) (hc : PreC cmp) (f : Nat) (caps : List D) (hf : ∀ x y : Fin N0, ACall Tryz.prog f (.v (.int .i64 (x.val : Int)) :: .v (.int .i64 (y.val : Int)) :: caps) (.v (.int .i64 (cmp x y)))) (N : Nat) (ih : ∀ (l : List (Fin N0 × Nat)) (a m b : Nat), b - a < N → a < m → m < b → b ≤ l.length → l.length ≤ 4611686018427387904 → TagsOk l → SortedOn cmp l a m → SortedOn cmp l m b → Cross l a m b → RCall Tryz.prog 175 3 1 (l.map fds) ((sortSeg cmp l a b).map fds) [.v (.int .i64 a), .v (.int .i64 m), .v (.int .i64 b), .clo (.func f) caps] (.tup [])) (l : List (Fin N0 × Nat)) (a m b : Nat) (hN : b - a ≤ N) (ham : a < m) (hmb : m < b) (hbl : b ≤ l.length) (hl : l.length ≤ 4611686018427387904) (ht : TagsOk l) (s1 : SortedOn cmp l a m) (s2 : SortedOn cmp l m b) (hx : Cross l a m b) : RCall Tryz.prog 175 3 1 (l.map fds) ((sortSeg cmp l a b).map fds) [.v (.int .i64 a), .v (.int .i64 m), .v (.int .i64 b), .clo (.func f) caps] (.tup []) := by
 refine RCall.of1 (chg := fun i => Nat.ble 1000 i) (xcall_of (n := 220) (ds' := []) Tryz.func175 rfl (by kernel_rfl) rfl [] rfl rfl ?_) rfl
 intro B w0 F0 fr ρ0
 have ha : a < l.length := by omega
 have hm : m < l.length := by omega
 refine .seq ?_
 refine .sr ?_
 refine .mA ?_
 refine .mA ?_
 refine .sA (.sub64 rfl rfl rfl (by omega) (by omega)) ?_
 refine .sA (.eql rfl rfl rfl) (.nil ?_)
 refine .cond rfl (fun h1 => ?_) (fun h1 => ?_)
 ·replace h1 := of_decide_eq_true h1
  have hma : m = a + 1 := by omega
  refine .sr ?_
  refine .mA ?_
  refine .aA (.nil ?_)
  refine .sr ?_
  refine .mA ?_
  refine .aA (.nil ?_)
  refine .seq ?_
  refine .block ?_
  refine .loop (G := Nat × Nat) (fun g => Env.of [(10, .d (.v (.int .i64 (g.1 : Int)))), (11, .d (.v (.int .i64 (g.2 : Int)))), (0, .own 1), (1, .d (.v (.int .i64 a))), (2, .d (.v (.int .i64 m))), (3, .d (.v (.int .i64 b))), (4, .d (.clo (.func f) caps))]) (fun g => [(1, .row 3 1 (l.map fds))]) (fun g => Srch l (fun y => tlt cmp y (l[a]'ha)) (fun y => tlt cmp (l[a]'ha) y) m b g.1 g.2) (fun g => g.2 - g.1) (m, b) (Srch.start (by omega)) (Sub.less ⟨(SLe.i64 rfl), (SLe.i64 rfl), SLe.refl _, SLe.refl _, SLe.refl _, SLe.refl _, SLe.refl _, trivial⟩ (row_same rfl)) ?_
  rintro ⟨i, j⟩ hs
  dsimp only at hs ⊢
  have hs1 := hs.ai
  have hs2 := hs.ij
  have hs3 := hs.jb
  refine .seq ?_
  refine .sr ?_
  refine .mA ?_
  refine .mA ?_
  refine .sA (.lss rfl rfl rfl) (.nil ?_)
  refine .cond rfl (fun h2 => ?_) (fun h2 => ?_)
  ·replace h2 := of_decide_eq_true h2
   have hij : i < j := by omega
   have hhl : ((i + j) / 2) < l.length := by omega
   refine .skip ?_
   refine .block ?_
   refine .sr ?_
   refine .mA ?_
   refine .mA ?_
   refine .sA (.add64 rfl rfl rfl (by omega) (by omega)) ?_
   refine .sA (.convSame rfl (by kernel_rfl) rfl (wrapU64 (by omega) (by omega))) ?_
   refine .sA (.half rfl rfl rfl) ?_
   refine .sA (.convSame rfl (by kernel_rfl) rfl (w64 (by omega) (by omega))) ?_
   refine .aA (.nil ?_)
   refine .seq ?_
   refine .draw (by kernel_rfl) (by kernel_rfl) ?_
   refine .sA (.moveD rfl rfl) ?_
   refine .sA (.moveO rfl rfl) ?_
   refine .sA (.moveD rfl rfl) ?_
   refine .sA (.indexOwn rfl et_37 rfl rfl (.head _) ((i + j) / 2) (by omega) (by rw [List.length_map]; omega)) ?_
   refine .sA (.loadRow rfl sc_3 rfl (.head _) ((i + j) / 2) 0 rfl (at_list hhl) rfl) ?_
   refine .sA (.moveO rfl rfl) ?_
   refine .sA (.moveD rfl rfl) ?_
   refine .sA (.indexOwn rfl et_37 rfl rfl (.head _) a rfl (by rw [List.length_map]; omega)) ?_
   refine .sA (.loadRow rfl sc_3 rfl (.head _) a 0 rfl (at_list ha) rfl) ?_
   refine .sA (.callClo rfl rfl (.cons (.rfl' rfl) (.cons (.rfl' rfl) .nil)) (hf (l[((i + j) / 2)]'hhl).1 (l[a]'ha).1)) ?_
   refine .sA (.lss rfl rfl rfl) ?_
   refine .nil ?_
   refine .cond rfl (fun h3 => ?_) (fun h3 => ?_)
   ·replace h3 := of_decide_eq_true h3
    have HU := hs.up (h := ((i + j) / 2)) (by omega) (by omega) (mono_up hc s2 (by omega) (at_some l hhl) (.inl h3))
    refine .region ?_
    refine .mA ?_
    refine .sA (.add64 rfl rfl rfl (by omega) (by omega)) ?_
    refine .aA (.nil ?_)
    refine ⟨(((i + j) / 2) + 1, j), HU, (by dsimp only; omega), Sub.less ⟨(SLe.i64 (by dsimp only; omega)), (SLe.refl _), SLe.refl _, SLe.refl _, SLe.refl _, SLe.refl _, SLe.refl _, trivial⟩ (row_same rfl)⟩
   replace h3 := of_decide_eq_false h3
   have HD := hs.dn (h := ((i + j) / 2)) (by omega) (by omega) (mono_dn hc s2 (by omega) (at_some l hhl) (cross_ge (hx a _ _ _ (Nat.le_refl _) ham (by omega) (by omega) (at_some l ha) (at_some l hhl)) h3))
   refine .region ?_
   refine .mA ?_
   refine .aA (.nil ?_)
   refine ⟨(i, ((i + j) / 2)), HD, (by dsimp only; omega), Sub.less ⟨(SLe.refl _), (SLe.i64 (by dsimp only; omega)), SLe.refl _, SLe.refl _, SLe.refl _, SLe.refl _, SLe.refl _, trivial⟩ (row_same rfl)⟩
  replace h2 := of_decide_eq_false h2
  have hij : i = j := by omega
  refine .exit ?_
  refine .seq ?_
  refine .sr ?_
  refine .mA ?_
  refine .aA (.nil ?_)
  refine .block ?_
  refine .loop (G := Nat) (fun k => Env.of [(13, .d (.v (.int .i64 (k : Int)))), (10, .d (.v (.int .i64 (i : Int)))), (0, .own 1), (1, .d (.v (.int .i64 a))), (2, .d (.v (.int .i64 m))), (3, .d (.v (.int .i64 b))), (4, .d (.clo (.func f) caps))]) (fun k => [(1, .row 3 1 ((rotl l a (a + 1) (k + 1)).map fds))]) (fun k => a ≤ k ∧ k + 1 ≤ i) (fun k => i - k) a ⟨Nat.le_refl _, by omega⟩ (Sub.less ⟨(SLe.i64 rfl), SLe.refl _, SLe.refl _, SLe.refl _, SLe.refl _, SLe.refl _, SLe.refl _, trivial⟩ (row_same (by rw [rotl_id2 (by omega)]))) ?_
  rintro k ⟨k1, k2⟩
  refine .seq ?_
  refine .sr ?_
  refine .mA ?_
  refine .mA ?_
  refine .sA (.sub64 rfl rfl rfl (by omega) (by omega)) ?_
  refine .sA (.lss rfl rfl rfl) (.nil ?_)
  refine .cond rfl (fun h4 => ?_) (fun h4 => ?_)
  ·replace h4 := of_decide_eq_true h4
   have hki : k + 1 < i := by omega
   have hrl : (rotl l a (a + 1) (k + 1)).length = l.length := rotl_len (by omega) (by omega) (by omega)
   refine .skip ?_
   refine .seq ?_
   refine .block ?_
   refine .drawG (fun k => (Nat.beq k 15 || Nat.beq k 17) || (Nat.beq k 8 || Nat.beq k 9 || Nat.beq k 12 || Nat.beq k 13 || Nat.beq k 14 || Nat.beq k 16)) (fun k => Nat.beq k 15 || Nat.beq k 17) (fun k h => Bool.or_eq_true_iff.2 (.inl h)) (by kernel_rfl) (by kernel_rfl) (by kernel_rfl) ?_
   refine .step rfl rfl rfl (fun _ => AOp.moveO rfl rfl) ?_
   refine .step rfl rfl rfl (fun _ => AOp.moveD rfl rfl) ?_
   refine .step rfl rfl rfl (fun _ => AOp.moveO rfl rfl) ?_
   refine .step rfl rfl rfl (fun _ => AOp.moveD rfl rfl) ?_
   refine .step rfl rfl rfl (fun _ => AOp.add64 rfl rfl rfl (by omega) (by omega)) ?_
   refine .step rfl rfl rfl (fun _ => AOp.moveO rfl rfl) ?_
   refine .step rfl rfl rfl (fun _ => AOp.moveD rfl rfl) ?_
   refine .step rfl rfl rfl (fun _ => AOp.add64 rfl rfl rfl (by omega) (by omega)) ?_
   refine .stepS rfl rfl rfl rfl (.indexOwn rfl et_37 rfl rfl (.head _) (k + 1) (by omega) (by rw [List.length_map, hrl]; omega)) ?_
   refine .stepS rfl rfl rfl rfl (.loadRow rfl sc_3 rfl (.head _) (k + 1) 0 rfl (at_list (by omega)) rfl) ?_
   refine .step rfl rfl rfl (fun _ => AOp.moveO rfl rfl) ?_
   refine .step rfl rfl rfl (fun _ => AOp.moveD rfl rfl) ?_
   refine .stepS rfl rfl rfl rfl (.indexOwn rfl et_37 rfl rfl (.head _) k rfl (by rw [List.length_map, hrl]; omega)) ?_
   refine .stepS rfl rfl rfl rfl (.loadRow rfl sc_3 rfl (.head _) k 0 rfl (at_list (by omega)) rfl) ?_
   refine .stepS rfl rfl rfl rfl (.indexOwn rfl et_37 rfl rfl (.head _) k rfl (by rw [List.length_map, hrl]; omega)) ?_
   refine .eff rfl rfl rfl (.storeRow rfl rfl sz_3 rfl (.head _) rfl rfl rfl k 0 rfl (at_list (by omega)) (Nat.le_of_ble_eq_true rfl)) ?_
   refine .stepS rfl rfl rfl rfl (.indexOwn rfl et_37 rfl rfl (.head _) (k + 1) (by omega) (by rw [List.length_set, List.length_map, hrl]; omega)) ?_
   refine .eff rfl rfl rfl (.storeRow rfl rfl sz_3 rfl (.head _) rfl rfl rfl (k + 1) 0 rfl (List.getElem?_eq_getElem (by rw [List.length_set, List.length_map, hrl]; omega)) (Nat.le_of_ble_eq_true rfl)) ?_
   refine .nil ?_
   refine .region ?_
   refine .mA ?_
   refine .sA (.add64 rfl rfl rfl (by omega) (by omega)) ?_
   refine .aA (.nil ?_)
   refine ⟨k + 1, ⟨by omega, by omega⟩, (by dsimp only; omega), Sub.less ⟨(SLe.i64 (by omega)), SLe.refl _, SLe.refl _, SLe.refl _, SLe.refl _, SLe.refl _, SLe.refl _, trivial⟩ (row_same ((row_swap (enc := fds) (size := 1) (cur := rotl l a (a + 1) (k + 1)) (i := k) (j := k + 1) (fun _ => rfl) (by omega) (by omega) rfl (List.getElem?_eq_getElem (by rw [List.length_set, List.length_map, hrl]; omega))).trans (by rw [rot_up k1 (by omega)])))⟩
  replace h4 := of_decide_eq_false h4
  have hki : k + 1 = i := by omega
  subst hma
  have HF : rotl l a (a + 1) (k + 1) = sortSeg cmp l a b := one_up hc ht hbl s2 (by omega) (by omega) (fun h x y q1 q2 hy hx2 => by rw [at_some l ha] at hx2; cases hx2; exact hs.low h y q1 (by omega) hy) (fun h x y q1 q2 hy hx2 => by rw [at_some l ha] at hx2; cases hx2; exact hs.high h y (by omega) q2 hy)
  refine .exit ?_
  refine .ret ?_
  refine ⟨trivial, ⟨mem_row_eq (.head _) ?_, trivial⟩⟩
  all_goals (rw [HF])
 replace h1 := of_decide_eq_false h1
 have hma : a + 1 < m := by omega
 refine .skip ?_
 refine .seq ?_
 refine .sr ?_
 refine .mA ?_
 refine .mA ?_
 refine .sA (.sub64 rfl rfl rfl (by omega) (by omega)) ?_
 refine .sA (.eql rfl rfl rfl) (.nil ?_)
 refine .cond rfl (fun h5 => ?_) (fun h5 => ?_)
 ·replace h5 := of_decide_eq_true h5
  have hbm : b = m + 1 := by omega
  refine .sr ?_
  refine .mA ?_
  refine .aA (.nil ?_)
  refine .sr ?_
  refine .mA ?_
  refine .aA (.nil ?_)
  refine .seq ?_
  refine .block ?_
  refine .loop (G := Nat × Nat) (fun g => Env.of [(14, .d (.v (.int .i64 (g.1 : Int)))), (15, .d (.v (.int .i64 (g.2 : Int)))), (0, .own 1), (1, .d (.v (.int .i64 a))), (2, .d (.v (.int .i64 m))), (3, .d (.v (.int .i64 b))), (4, .d (.clo (.func f) caps))]) (fun g => [(1, .row 3 1 (l.map fds))]) (fun g => Srch l (fun y => tlt cmp y (l[m]'hm)) (fun y => tlt cmp (l[m]'hm) y) a m g.1 g.2) (fun g => g.2 - g.1) (a, m) (Srch.start (by omega)) (Sub.less ⟨(SLe.i64 rfl), (SLe.i64 rfl), SLe.refl _, SLe.refl _, SLe.refl _, SLe.refl _, SLe.refl _, trivial⟩ (row_same rfl)) ?_
  rintro ⟨i, j⟩ hs
  dsimp only at hs ⊢
  have hs1 := hs.ai
  have hs2 := hs.ij
  have hs3 := hs.jb
  refine .seq ?_
  refine .sr ?_
  refine .mA ?_
  refine .mA ?_
  refine .sA (.lss rfl rfl rfl) (.nil ?_)
  refine .cond rfl (fun h6 => ?_) (fun h6 => ?_)
  ·replace h6 := of_decide_eq_true h6
   have hij : i < j := by omega
   have hhl : ((i + j) / 2) < l.length := by omega
   refine .skip ?_
   refine .block ?_
   refine .sr ?_
   refine .mA ?_
   refine .mA ?_
   refine .sA (.add64 rfl rfl rfl (by omega) (by omega)) ?_
   refine .sA (.convSame rfl (by kernel_rfl) rfl (wrapU64 (by omega) (by omega))) ?_
   refine .sA (.half rfl rfl rfl) ?_
   refine .sA (.convSame rfl (by kernel_rfl) rfl (w64 (by omega) (by omega))) ?_
   refine .aA (.nil ?_)
   refine .seq ?_
   refine .draw (by kernel_rfl) (by kernel_rfl) ?_
   refine .sA (.moveD rfl rfl) ?_
   refine .sA (.moveO rfl rfl) ?_
   refine .sA (.moveD rfl rfl) ?_
   refine .sA (.indexOwn rfl et_37 rfl rfl (.head _) m rfl (by rw [List.length_map]; omega)) ?_
   refine .sA (.loadRow rfl sc_3 rfl (.head _) m 0 rfl (at_list hm) rfl) ?_
   refine .sA (.moveO rfl rfl) ?_
   refine .sA (.moveD rfl rfl) ?_
   refine .sA (.indexOwn rfl et_37 rfl rfl (.head _) ((i + j) / 2) (by omega) (by rw [List.length_map]; omega)) ?_
   refine .sA (.loadRow rfl sc_3 rfl (.head _) ((i + j) / 2) 0 rfl (at_list hhl) rfl) ?_
   refine .sA (.callClo rfl rfl (.cons (.rfl' rfl) (.cons (.rfl' rfl) .nil)) (hf (l[m]'hm).1 (l[((i + j) / 2)]'hhl).1)) ?_
   refine .sA (.lss rfl rfl rfl) ?_
   refine .sA (.not rfl rfl) ?_
   refine .nil ?_
   refine .cond rfl (fun h7 => ?_) (fun h7 => ?_)
   ·replace h7 := bnot_t h7; replace h7 := of_decide_eq_false h7
    have HU := hs.up (h := ((i + j) / 2)) (by omega) (by omega) (mono_up hc s1 (by omega) (at_some l hhl) (cross_ge (hx _ m _ _ (by omega) (by omega) (Nat.le_refl _) hmb (at_some l hhl) (at_some l hm)) h7))
    refine .region ?_
    refine .mA ?_
    refine .sA (.add64 rfl rfl rfl (by omega) (by omega)) ?_
    refine .aA (.nil ?_)
    refine ⟨(((i + j) / 2) + 1, j), HU, (by dsimp only; omega), Sub.less ⟨(SLe.i64 (by dsimp only; omega)), (SLe.refl _), SLe.refl _, SLe.refl _, SLe.refl _, SLe.refl _, SLe.refl _, trivial⟩ (row_same rfl)⟩
   replace h7 := bnot_f h7; replace h7 := of_decide_eq_true h7
   have HD := hs.dn (h := ((i + j) / 2)) (by omega) (by omega) (mono_dn hc s1 (by omega) (at_some l hhl) (.inl (by omega)))
   refine .region ?_
   refine .mA ?_
   refine .aA (.nil ?_)
   refine ⟨(i, ((i + j) / 2)), HD, (by dsimp only; omega), Sub.less ⟨(SLe.refl _), (SLe.i64 (by dsimp only; omega)), SLe.refl _, SLe.refl _, SLe.refl _, SLe.refl _, SLe.refl _, trivial⟩ (row_same rfl)⟩
  replace h6 := of_decide_eq_false h6
  have hij : i = j := by omega
  refine .exit ?_
  refine .seq ?_
  refine .sr ?_
  refine .mA ?_
  refine .aA (.nil ?_)
  refine .block ?_
  refine .loop (G := Nat) (fun k => Env.of [(17, .d (.v (.int .i64 (k : Int)))), (14, .d (.v (.int .i64 (i : Int)))), (0, .own 1), (1, .d (.v (.int .i64 a))), (2, .d (.v (.int .i64 m))), (3, .d (.v (.int .i64 b))), (4, .d (.clo (.func f) caps))]) (fun k => [(1, .row 3 1 ((rotl l k m (m + 1)).map fds))]) (fun k => i ≤ k ∧ k ≤ m) (fun k => k) m ⟨by omega, Nat.le_refl _⟩ (Sub.less ⟨(SLe.i64 rfl), SLe.refl _, SLe.refl _, SLe.refl _, SLe.refl _, SLe.refl _, SLe.refl _, trivial⟩ (row_same (by rw [rotl_id1 (by omega)]))) ?_
  rintro k ⟨k1, k2⟩
  refine .seq ?_
  refine .sr ?_
  refine .mA ?_
  refine .mA ?_
  refine .sA (.gtr rfl rfl rfl) (.nil ?_)
  refine .cond rfl (fun h8 => ?_) (fun h8 => ?_)
  ·replace h8 := of_decide_eq_true h8
   have hki : i < k := by omega
   have hrl : (rotl l k m (m + 1)).length = l.length := rotl_len (by omega) (by omega) (by omega)
   refine .skip ?_
   refine .seq ?_
   refine .block ?_
   refine .drawG (fun k => (Nat.beq k 15 || Nat.beq k 17) || (Nat.beq k 8 || Nat.beq k 9 || Nat.beq k 12 || Nat.beq k 13 || Nat.beq k 14 || Nat.beq k 16)) (fun k => Nat.beq k 15 || Nat.beq k 17) (fun k h => Bool.or_eq_true_iff.2 (.inl h)) (by kernel_rfl) (by kernel_rfl) (by kernel_rfl) ?_
   refine .step rfl rfl rfl (fun _ => AOp.moveO rfl rfl) ?_
   refine .step rfl rfl rfl (fun _ => AOp.moveD rfl rfl) ?_
   refine .step rfl rfl rfl (fun _ => AOp.moveO rfl rfl) ?_
   refine .step rfl rfl rfl (fun _ => AOp.moveD rfl rfl) ?_
   refine .step rfl rfl rfl (fun _ => AOp.sub64 rfl rfl rfl (by omega) (by omega)) ?_
   refine .step rfl rfl rfl (fun _ => AOp.moveO rfl rfl) ?_
   refine .step rfl rfl rfl (fun _ => AOp.moveD rfl rfl) ?_
   refine .step rfl rfl rfl (fun _ => AOp.sub64 rfl rfl rfl (by omega) (by omega)) ?_
   refine .stepS rfl rfl rfl rfl (.indexOwn rfl et_37 rfl rfl (.head _) (k - 1) (by omega) (by rw [List.length_map, hrl]; omega)) ?_
   refine .stepS rfl rfl rfl rfl (.loadRow rfl sc_3 rfl (.head _) (k - 1) 0 rfl (at_list (by omega)) rfl) ?_
   refine .step rfl rfl rfl (fun _ => AOp.moveO rfl rfl) ?_
   refine .step rfl rfl rfl (fun _ => AOp.moveD rfl rfl) ?_
   refine .stepS rfl rfl rfl rfl (.indexOwn rfl et_37 rfl rfl (.head _) k rfl (by rw [List.length_map, hrl]; omega)) ?_
   refine .stepS rfl rfl rfl rfl (.loadRow rfl sc_3 rfl (.head _) k 0 rfl (at_list (by omega)) rfl) ?_
   refine .stepS rfl rfl rfl rfl (.indexOwn rfl et_37 rfl rfl (.head _) k rfl (by rw [List.length_map, hrl]; omega)) ?_
   refine .eff rfl rfl rfl (.storeRow rfl rfl sz_3 rfl (.head _) rfl rfl rfl k 0 rfl (at_list (by omega)) (Nat.le_of_ble_eq_true rfl)) ?_
   refine .stepS rfl rfl rfl rfl (.indexOwn rfl et_37 rfl rfl (.head _) (k - 1) (by omega) (by rw [List.length_set, List.length_map, hrl]; omega)) ?_
   refine .eff rfl rfl rfl (.storeRow rfl rfl sz_3 rfl (.head _) rfl rfl rfl (k - 1) 0 rfl (List.getElem?_eq_getElem (by rw [List.length_set, List.length_map, hrl]; omega)) (Nat.le_of_ble_eq_true rfl)) ?_
   refine .nil ?_
   refine .region ?_
   refine .mA ?_
   refine .sA (.sub64 rfl rfl rfl (by omega) (by omega)) ?_
   refine .aA (.nil ?_)
   refine ⟨k - 1, ⟨by omega, by omega⟩, (by dsimp only; omega), Sub.less ⟨(SLe.i64 (by omega)), SLe.refl _, SLe.refl _, SLe.refl _, SLe.refl _, SLe.refl _, SLe.refl _, trivial⟩ (row_same ((row_swap (enc := fds) (size := 1) (cur := rotl l k m (m + 1)) (i := k) (j := k - 1) (fun _ => rfl) (by omega) (by omega) rfl (List.getElem?_eq_getElem (by rw [List.length_set, List.length_map, hrl]; omega))).trans (by rw [rot_down k2 (by omega) (by omega)])))⟩
  replace h8 := of_decide_eq_false h8
  have hki : k = i := by omega
  subst hbm
  subst hki
  have HF : rotl l k m (m + 1) = sortSeg cmp l a (m + 1) := one_down hc ht hbl s1 (by omega) (by omega) (fun h x y q1 q2 hy hx2 => by rw [at_some l hm] at hx2; cases hx2; exact hs.low h y q1 (by omega) hy) (fun h x y q1 q2 hy hx2 => by rw [at_some l hm] at hx2; cases hx2; exact hs.high h y (by omega) q2 hy)
  refine .exit ?_
  refine .ret ?_
  refine ⟨trivial, ⟨mem_row_eq (.head _) ?_, trivial⟩⟩
  all_goals (rw [HF])
 replace h5 := of_decide_eq_false h5
 have hbm : m + 1 < b := by omega
 obtain ⟨mid, hmid⟩ : ∃ mid, mid = (a + b) / 2 := ⟨_, rfl⟩
 refine .skip ?_
 refine .sr ?_
 refine .mA ?_
 refine .mA ?_
 refine .sA (.add64 rfl rfl rfl (by omega) (by omega)) ?_
 refine .sA (.convSame rfl (by kernel_rfl) rfl (wrapU64 (by omega) (by omega))) ?_
 refine .sA (.half rfl rfl rfl) ?_
 refine .sA (.convSame rfl (by kernel_rfl) rfl (w64 (by omega) (by omega))) ?_
 refine .aA (.nil ?_)
 refine .sr ?_
 refine .mA ?_
 refine .mA ?_
 refine .sA (.add64 rfl rfl rfl (by omega) (by omega)) ?_
 refine .aA (.nil ?_)
 refine .sr ?_
 refine .aA ?_
 refine .aA (.nil ?_)
 refine .seq ?_
 refine .sr ?_
 refine .mA ?_
 refine .mA ?_
 refine .sA (.gtr rfl rfl rfl) (.nil ?_)
 refine .cond rfl (fun h9 => ?_) (fun h9 => ?_)
 ·replace h9 := of_decide_eq_true h9
  have hmm : mid < m := by omega
  obtain ⟨lo0, hlo0⟩ : ∃ lo0, lo0 + b = mid + m := ⟨mid + m - b, by omega⟩
  obtain ⟨hi0, hhi0⟩ : ∃ hi0, hi0 = mid := ⟨_, rfl⟩
  have hg : (mid < m ∧ lo0 + b = mid + m ∧ hi0 = mid) ∨ (m ≤ mid ∧ lo0 = a ∧ hi0 = m) := .inl ⟨hmm, hlo0, hhi0⟩
  refine .sr ?_
  refine .mA ?_
  refine .mA ?_
  refine .sA (.sub64 rfl rfl rfl (by omega) (by omega)) ?_
  refine .aA (.nil ?_)
  refine .region ?_
  refine .mA ?_
  refine .aA (.nil ?_)
  refine .sr ?_
  refine .mA ?_
  refine .sA (.sub64 rfl rfl rfl (by omega) (by omega)) ?_
  refine .aA (.nil ?_)
  refine .seq ?_
  refine .block ?_
  refine .loop (G := Nat × Nat) (fun g => Env.of [(20, .d (.v (.int .i64 (g.1 : Int)))), (21, .d (.v (.int .i64 (g.2 : Int)))), (22, .d (.v (.int .i64 ((mid + m - 1 : Nat) : Int)))), (19, .d (.v (.int .i64 ((mid + m : Nat) : Int)))), (18, .d (.v (.int .i64 (mid : Int)))), (0, .own 1), (1, .d (.v (.int .i64 a))), (2, .d (.v (.int .i64 m))), (3, .d (.v (.int .i64 b))), (4, .d (.clo (.func f) caps))]) (fun g => [(1, .row 3 1 (l.map fds))]) (fun g => CutS cmp l (mid + m - 1) lo0 hi0 g.1 g.2) (fun g => g.2 - g.1) (lo0, hi0) ⟨Nat.le_refl _, by dsimp only; omega, Nat.le_refl _, fun h => absurd h (Nat.lt_irrefl _), fun h => absurd h (Nat.lt_irrefl _)⟩ (Sub.less ⟨(SLe.i64 (by first | omega | (dsimp only; omega))), (SLe.i64 (by first | omega | (dsimp only; omega))), (SLe.i64 (by first | omega | (dsimp only; omega))), (SLe.i64 (by first | omega | (dsimp only; omega))), (SLe.i64 (by first | omega | (dsimp only; omega))), SLe.refl _, SLe.refl _, SLe.refl _, SLe.refl _, SLe.refl _, trivial⟩ (row_same rfl)) ?_
  rintro ⟨i, j⟩ hs
  dsimp only at hs ⊢
  have hs1 := hs.ls
  have hs2 := hs.sr
  have hs3 := hs.rh
  refine .seq ?_
  refine .sr ?_
  refine .mA ?_
  refine .mA ?_
  refine .sA (.lss rfl rfl rfl) (.nil ?_)
  refine .cond rfl (fun h10 => ?_) (fun h10 => ?_)
  ·replace h10 := of_decide_eq_true h10
   have hij : i < j := by omega
   have hhl : ((i + j) / 2) < l.length := by omega
   have hpl : mid + m - 1 - ((i + j) / 2) < l.length := by omega
   have htg := hx _ _ _ _ (show a ≤ ((i + j) / 2) by omega) (by omega) (show m ≤ mid + m - 1 - ((i + j) / 2) by omega) (by omega) (at_some l hhl) (at_some l hpl)
   refine .skip ?_
   refine .block ?_
   refine .sr ?_
   refine .mA ?_
   refine .mA ?_
   refine .sA (.add64 rfl rfl rfl (by omega) (by omega)) ?_
   refine .sA (.convSame rfl (by kernel_rfl) rfl (wrapU64 (by omega) (by omega))) ?_
   refine .sA (.half rfl rfl rfl) ?_
   refine .sA (.convSame rfl (by kernel_rfl) rfl (w64 (by omega) (by omega))) ?_
   refine .aA (.nil ?_)
   refine .seq ?_
   refine .draw (by kernel_rfl) (by kernel_rfl) ?_
   refine .sA (.moveD rfl rfl) ?_
   refine .sA (.moveO rfl rfl) ?_
   refine .sA (.moveD rfl rfl) ?_
   refine .sA (.moveD rfl rfl) ?_
   refine .sA (.sub64 rfl rfl rfl (by omega) (by omega)) ?_
   refine .sA (.indexOwn rfl et_37 rfl rfl (.head _) (mid + m - 1 - ((i + j) / 2)) (by omega) (by rw [List.length_map]; omega)) ?_
   refine .sA (.loadRow rfl sc_3 rfl (.head _) (mid + m - 1 - ((i + j) / 2)) 0 rfl (at_list hpl) rfl) ?_
   refine .sA (.moveO rfl rfl) ?_
   refine .sA (.moveD rfl rfl) ?_
   refine .sA (.indexOwn rfl et_37 rfl rfl (.head _) ((i + j) / 2) (by omega) (by rw [List.length_map]; omega)) ?_
   refine .sA (.loadRow rfl sc_3 rfl (.head _) ((i + j) / 2) 0 rfl (at_list hhl) rfl) ?_
   refine .sA (.callClo rfl rfl (.cons (.rfl' rfl) (.cons (.rfl' rfl) .nil)) (hf (l[mid + m - 1 - ((i + j) / 2)]'hpl).1 (l[((i + j) / 2)]'hhl).1)) ?_
   refine .sA (.lss rfl rfl rfl) ?_
   refine .sA (.not rfl rfl) ?_
   refine .nil ?_
   refine .cond rfl (fun h11 => ?_) (fun h11 => ?_)
   ·replace h11 := bnot_t h11; replace h11 := of_decide_eq_false h11
    have HU : CutS cmp l (mid + m - 1) lo0 hi0 (((i + j) / 2) + 1) j := ⟨by omega, by omega, by omega, fun _ => ⟨_, _, at_some l hhl, at_some l hpl, cross_ge htg h11⟩, hs.high⟩
    refine .region ?_
    refine .mA ?_
    refine .sA (.add64 rfl rfl rfl (by omega) (by omega)) ?_
    refine .aA (.nil ?_)
    refine ⟨(((i + j) / 2) + 1, j), HU, (by dsimp only; omega), Sub.less ⟨(SLe.i64 (by dsimp only; omega)), (SLe.refl _), SLe.refl _, SLe.refl _, SLe.refl _, SLe.refl _, SLe.refl _, SLe.refl _, SLe.refl _, SLe.refl _, trivial⟩ (row_same rfl)⟩
   replace h11 := bnot_f h11; replace h11 := of_decide_eq_true h11
   have HD : CutS cmp l (mid + m - 1) lo0 hi0 i ((i + j) / 2) := ⟨by omega, by omega, by omega, hs.low, fun _ => ⟨_, _, at_some l hhl, at_some l hpl, .inl (by omega)⟩⟩
   refine .region ?_
   refine .mA ?_
   refine .aA (.nil ?_)
   refine ⟨(i, ((i + j) / 2)), HD, (by dsimp only; omega), Sub.less ⟨(SLe.refl _), (SLe.i64 (by dsimp only; omega)), SLe.refl _, SLe.refl _, SLe.refl _, SLe.refl _, SLe.refl _, SLe.refl _, SLe.refl _, SLe.refl _, trivial⟩ (row_same rfl)⟩
  replace h10 := of_decide_eq_false h10
  have hij : i = j := by omega
  subst hij
  have hcut := CutS.cut hc s1 s2 hmid ham hmb hg hs
  have hs4 := hcut.has
  have hs5 := hcut.sm
  have hs6 := hcut.me
  have hs7 := hcut.eb
  obtain ⟨k1, k2, k3, k4, k5, k6, k7⟩ := cut_merge hc ht hbl s1 s2 hx hcut
  rw [show i + (mid + m - i - m) = mid by omega] at k2 k3 k4 k5 k6 k7
  have hrl : (rotl l i m (mid + m - i)).length = l.length := rotl_len hs5 hs6 (by omega)
  have ht1 : TagsOk (rotl l i m (mid + m - i)) := ht.perm (rotl_perm hs5 hs6)
  have hl1 : (sortSeg cmp (rotl l i m (mid + m - i)) a mid).length = l.length := by rw [sortSeg_len cmp _ (by omega), hrl]
  have ht2 : TagsOk (sortSeg cmp (rotl l i m (mid + m - i)) a mid) := ht1.perm (sortSeg_perm cmp _ (by omega))
  have HF := k7
  refine .exit ?_
  refine .sr ?_
  refine .mA ?_
  refine .mA ?_
  refine .sA (.sub64 rfl rfl rfl (by omega) (by omega)) ?_
  refine .aA (.nil ?_)
  refine .seq ?_
  refine .sr ?_
  refine .mA ?_
  refine .mA ?_
  refine .sA (.lss rfl rfl rfl) ?_
  refine .mA ?_
  refine .split 181 rfl (fun g12 => ?_) (fun g12 => ?_)
  ·replace g12 := of_decide_eq_true g12
   refine .sG (.moveD rfl rfl) ?_
   refine .sG (.moveD rfl rfl) ?_
   refine .sG (.lss rfl rfl rfl) ?_
   refine .sA (.pickT rfl rfl rfl) (.nil ?_)
   refine .cond rfl (fun h13 => ?_) (fun h13 => ?_)
   ·replace h13 := of_decide_eq_true h13
    refine .region ?_
    refine .sA (.moveO rfl rfl) ?_
    refine .mA ?_
    refine .mA ?_
    refine .mA ?_
    refine .mA ?_
    -- turns 1
    refine .callX rfl rfl rfl (.cons (SLe.refl _) (.cons (SLe.refl _) (.cons (SLe.refl _) (.cons (SLe.i64 (by omega)) (.cons (SLe.refl _) .nil))))) ((c_rotate l i m (mid + m - i) _ (by omega) (by omega) (by omega) hl) 1) ⟨(.head _), trivial⟩ rfl rfl (fun _ h => nomatch h) ?_
    refine .nil ?_
    refine .seq ?_
    refine .sr ?_
    refine .mA ?_
    refine .mA ?_
    refine .sA (.lss rfl rfl rfl) ?_
    refine .mA ?_
    refine .split 195 rfl (fun g14 => ?_) (fun g14 => ?_)
    ·replace g14 := of_decide_eq_true g14
     refine .sG (.moveD rfl rfl) ?_
     refine .sG (.moveD rfl rfl) ?_
     refine .sG (.lss rfl rfl rfl) ?_
     refine .sA (.pickT rfl rfl rfl) (.nil ?_)
     refine .cond rfl (fun h15 => ?_) (fun h15 => ?_)
     ·replace h15 := of_decide_eq_true h15
      refine .region ?_
      refine .sA (.moveO rfl rfl) ?_
      refine .mA ?_
      refine .mA ?_
      refine .mA ?_
      refine .mA ?_
      -- turns 1
      refine .callX rfl rfl rfl (.cons (SLe.refl _) (.cons (SLe.refl _) (.cons (SLe.refl _) (.cons (SLe.refl _) (.cons (SLe.refl _) .nil))))) ((ih _ a i mid (by omega) (by omega) (by omega) (by omega) (by omega) ht1 k1 k2 k3) 1) ⟨(.head _), trivial⟩ rfl rfl (fun _ h => nomatch h) ?_
      refine .nil ?_
      refine .sr ?_
      refine .mA ?_
      refine .mA ?_
      refine .sA (.lss rfl rfl rfl) ?_
      refine .mA ?_
      refine .split 209 rfl (fun g16 => ?_) (fun g16 => ?_)
      ·replace g16 := of_decide_eq_true g16
       refine .sG (.moveD rfl rfl) ?_
       refine .sG (.moveD rfl rfl) ?_
       refine .sG (.lss rfl rfl rfl) ?_
       refine .sA (.pickT rfl rfl rfl) (.nil ?_)
       refine .cond rfl (fun h17 => ?_) (fun h17 => ?_)
       ·replace h17 := of_decide_eq_true h17
        refine .region ?_
        refine .sA (.moveO rfl rfl) ?_
        refine .mA ?_
        refine .mA ?_
        refine .mA ?_
        refine .mA ?_
        -- turns 1
        refine .callX rfl rfl rfl (.cons (SLe.refl _) (.cons (SLe.refl _) (.cons (SLe.i64 (by omega)) (.cons (SLe.refl _) (.cons (SLe.refl _) .nil))))) ((ih _ mid (mid + m - i) b (by omega) (by omega) (by omega) (by omega) (by omega) ht2 k4 k5 k6) 1) ⟨(.head _), trivial⟩ rfl rfl (fun _ h => nomatch h) ?_
        refine .nil ?_
        refine ⟨trivial, ⟨mem_row_eq (.head _) ?_, trivial⟩⟩
        all_goals (rw [HF])
       replace h17 := of_decide_eq_false h17
       have er3 : (sortSeg cmp (rotl l i m (mid + m - i)) a mid).map fds = (sortSeg cmp (sortSeg cmp (rotl l i m (mid + m - i)) a mid) mid b).map fds := by rw [sortSeg_self hc (by omega) ht2 (sorted_at k4 (by omega) (by omega))]
       rw [er3]
       refine .skip ?_
       refine ⟨trivial, ⟨mem_row_eq (.head _) ?_, trivial⟩⟩
       all_goals (rw [HF])
      replace g16 := of_decide_eq_false g16
      have er3 : (sortSeg cmp (rotl l i m (mid + m - i)) a mid).map fds = (sortSeg cmp (sortSeg cmp (rotl l i m (mid + m - i)) a mid) mid b).map fds := by rw [sortSeg_self hc (by omega) ht2 (sorted_at k5 (by omega) (by omega))]
      rw [er3]
      refine .pA ?_
      refine .pA ?_
      refine .pA ?_
      refine .sA (.pickF rfl rfl rfl) (.nil ?_)
      refine .cond rfl (fun h => nomatch h) (fun _ => ?_)
      refine .skip ?_
      refine ⟨trivial, ⟨mem_row_eq (.head _) ?_, trivial⟩⟩
      all_goals (rw [HF])
     replace h15 := of_decide_eq_false h15
     have er2 : (rotl l i m (mid + m - i)).map fds = (sortSeg cmp (rotl l i m (mid + m - i)) a mid).map fds := by rw [sortSeg_self hc (by omega) ht1 (sorted_at k1 (by omega) (by omega))]
     rw [er2]
     refine .skip ?_
     refine .sr ?_
     refine .mA ?_
     refine .mA ?_
     refine .sA (.lss rfl rfl rfl) ?_
     refine .mA ?_
     refine .split 209 rfl (fun g18 => ?_) (fun g18 => ?_)
     ·replace g18 := of_decide_eq_true g18
      refine .sG (.moveD rfl rfl) ?_
      refine .sG (.moveD rfl rfl) ?_
      refine .sG (.lss rfl rfl rfl) ?_
      refine .sA (.pickT rfl rfl rfl) (.nil ?_)
      refine .cond rfl (fun h19 => ?_) (fun h19 => ?_)
      ·replace h19 := of_decide_eq_true h19
       refine .region ?_
       refine .sA (.moveO rfl rfl) ?_
       refine .mA ?_
       refine .mA ?_
       refine .mA ?_
       refine .mA ?_
       -- turns 1
       refine .callX rfl rfl rfl (.cons (SLe.refl _) (.cons (SLe.refl _) (.cons (SLe.i64 (by omega)) (.cons (SLe.refl _) (.cons (SLe.refl _) .nil))))) ((ih _ mid (mid + m - i) b (by omega) (by omega) (by omega) (by omega) (by omega) ht2 k4 k5 k6) 1) ⟨(.head _), trivial⟩ rfl rfl (fun _ h => nomatch h) ?_
       refine .nil ?_
       refine ⟨trivial, ⟨mem_row_eq (.head _) ?_, trivial⟩⟩
       all_goals (rw [HF])
      replace h19 := of_decide_eq_false h19
      have er3 : (sortSeg cmp (rotl l i m (mid + m - i)) a mid).map fds = (sortSeg cmp (sortSeg cmp (rotl l i m (mid + m - i)) a mid) mid b).map fds := by rw [sortSeg_self hc (by omega) ht2 (sorted_at k4 (by omega) (by omega))]
      rw [er3]
      refine .skip ?_
      refine ⟨trivial, ⟨mem_row_eq (.head _) ?_, trivial⟩⟩
      all_goals (rw [HF])
     replace g18 := of_decide_eq_false g18
     have er3 : (sortSeg cmp (rotl l i m (mid + m - i)) a mid).map fds = (sortSeg cmp (sortSeg cmp (rotl l i m (mid + m - i)) a mid) mid b).map fds := by rw [sortSeg_self hc (by omega) ht2 (sorted_at k5 (by omega) (by omega))]
     rw [er3]
     refine .pA ?_
     refine .pA ?_
     refine .pA ?_
     refine .sA (.pickF rfl rfl rfl) (.nil ?_)
     refine .cond rfl (fun h => nomatch h) (fun _ => ?_)
     refine .skip ?_
     refine ⟨trivial, ⟨mem_row_eq (.head _) ?_, trivial⟩⟩
     all_goals (rw [HF])
    replace g14 := of_decide_eq_false g14
    have er2 : (rotl l i m (mid + m - i)).map fds = (sortSeg cmp (rotl l i m (mid + m - i)) a mid).map fds := by rw [sortSeg_self hc (by omega) ht1 (sorted_at k2 (by omega) (by omega))]
    rw [er2]
    refine .pA ?_
    refine .pA ?_
    refine .pA ?_
    refine .sA (.pickF rfl rfl rfl) (.nil ?_)
    refine .cond rfl (fun h => nomatch h) (fun _ => ?_)
    refine .skip ?_
    refine .sr ?_
    refine .mA ?_
    refine .mA ?_
    refine .sA (.lss rfl rfl rfl) ?_
    refine .mA ?_
    refine .split 209 rfl (fun g20 => ?_) (fun g20 => ?_)
    ·replace g20 := of_decide_eq_true g20
     refine .sG (.moveD rfl rfl) ?_
     refine .sG (.moveD rfl rfl) ?_
     refine .sG (.lss rfl rfl rfl) ?_
     refine .sA (.pickT rfl rfl rfl) (.nil ?_)
     refine .cond rfl (fun h21 => ?_) (fun h21 => ?_)
     ·replace h21 := of_decide_eq_true h21
      refine .region ?_
      refine .sA (.moveO rfl rfl) ?_
      refine .mA ?_
      refine .mA ?_
      refine .mA ?_
      refine .mA ?_
      -- turns 1
      refine .callX rfl rfl rfl (.cons (SLe.refl _) (.cons (SLe.refl _) (.cons (SLe.i64 (by omega)) (.cons (SLe.refl _) (.cons (SLe.refl _) .nil))))) ((ih _ mid (mid + m - i) b (by omega) (by omega) (by omega) (by omega) (by omega) ht2 k4 k5 k6) 1) ⟨(.head _), trivial⟩ rfl rfl (fun _ h => nomatch h) ?_
      refine .nil ?_
      refine ⟨trivial, ⟨mem_row_eq (.head _) ?_, trivial⟩⟩
      all_goals (rw [HF])
     replace h21 := of_decide_eq_false h21
     have er3 : (sortSeg cmp (rotl l i m (mid + m - i)) a mid).map fds = (sortSeg cmp (sortSeg cmp (rotl l i m (mid + m - i)) a mid) mid b).map fds := by rw [sortSeg_self hc (by omega) ht2 (sorted_at k4 (by omega) (by omega))]
     rw [er3]
     refine .skip ?_
     refine ⟨trivial, ⟨mem_row_eq (.head _) ?_, trivial⟩⟩
     all_goals (rw [HF])
    replace g20 := of_decide_eq_false g20
    have er3 : (sortSeg cmp (rotl l i m (mid + m - i)) a mid).map fds = (sortSeg cmp (sortSeg cmp (rotl l i m (mid + m - i)) a mid) mid b).map fds := by rw [sortSeg_self hc (by omega) ht2 (sorted_at k5 (by omega) (by omega))]
    rw [er3]
    refine .pA ?_
    refine .pA ?_
    refine .pA ?_
    refine .sA (.pickF rfl rfl rfl) (.nil ?_)
    refine .cond rfl (fun h => nomatch h) (fun _ => ?_)
    refine .skip ?_
    refine ⟨trivial, ⟨mem_row_eq (.head _) ?_, trivial⟩⟩
    all_goals (rw [HF])
   replace h13 := of_decide_eq_false h13
   have er : l.map fds = (rotl l i m (mid + m - i)).map fds := by rw [show mid + m - i = m by omega, rotl_id2 (by omega)]
   rw [er]
   refine .skip ?_
   refine .seq ?_
   refine .sr ?_
   refine .mA ?_
   refine .mA ?_
   refine .sA (.lss rfl rfl rfl) ?_
   refine .mA ?_
   refine .split 195 rfl (fun g22 => ?_) (fun g22 => ?_)
   ·replace g22 := of_decide_eq_true g22
    refine .sG (.moveD rfl rfl) ?_
    refine .sG (.moveD rfl rfl) ?_
    refine .sG (.lss rfl rfl rfl) ?_
    refine .sA (.pickT rfl rfl rfl) (.nil ?_)
    refine .cond rfl (fun h23 => ?_) (fun h23 => ?_)
    ·replace h23 := of_decide_eq_true h23
     refine .region ?_
     refine .sA (.moveO rfl rfl) ?_
     refine .mA ?_
     refine .mA ?_
     refine .mA ?_
     refine .mA ?_
     -- turns 1
     refine .callX rfl rfl rfl (.cons (SLe.refl _) (.cons (SLe.refl _) (.cons (SLe.refl _) (.cons (SLe.refl _) (.cons (SLe.refl _) .nil))))) ((ih _ a i mid (by omega) (by omega) (by omega) (by omega) (by omega) ht1 k1 k2 k3) 1) ⟨(.head _), trivial⟩ rfl rfl (fun _ h => nomatch h) ?_
     refine .nil ?_
     refine .sr ?_
     refine .mA ?_
     refine .mA ?_
     refine .sA (.lss rfl rfl rfl) ?_
     refine .mA ?_
     refine .split 209 rfl (fun g24 => ?_) (fun g24 => ?_)
     ·replace g24 := of_decide_eq_true g24
      refine .sG (.moveD rfl rfl) ?_
      refine .sG (.moveD rfl rfl) ?_
      refine .sG (.lss rfl rfl rfl) ?_
      refine .sA (.pickT rfl rfl rfl) (.nil ?_)
      refine .cond rfl (fun h25 => ?_) (fun h25 => ?_)
      ·replace h25 := of_decide_eq_true h25
       refine .region ?_
       refine .sA (.moveO rfl rfl) ?_
       refine .mA ?_
       refine .mA ?_
       refine .mA ?_
       refine .mA ?_
       -- turns 1
       refine .callX rfl rfl rfl (.cons (SLe.refl _) (.cons (SLe.refl _) (.cons (SLe.i64 (by omega)) (.cons (SLe.refl _) (.cons (SLe.refl _) .nil))))) ((ih _ mid (mid + m - i) b (by omega) (by omega) (by omega) (by omega) (by omega) ht2 k4 k5 k6) 1) ⟨(.head _), trivial⟩ rfl rfl (fun _ h => nomatch h) ?_
       refine .nil ?_
       refine ⟨trivial, ⟨mem_row_eq (.head _) ?_, trivial⟩⟩
       all_goals (rw [HF])
      replace h25 := of_decide_eq_false h25
      have er3 : (sortSeg cmp (rotl l i m (mid + m - i)) a mid).map fds = (sortSeg cmp (sortSeg cmp (rotl l i m (mid + m - i)) a mid) mid b).map fds := by rw [sortSeg_self hc (by omega) ht2 (sorted_at k4 (by omega) (by omega))]
      rw [er3]
      refine .skip ?_
      refine ⟨trivial, ⟨mem_row_eq (.head _) ?_, trivial⟩⟩
      all_goals (rw [HF])
     replace g24 := of_decide_eq_false g24
     have er3 : (sortSeg cmp (rotl l i m (mid + m - i)) a mid).map fds = (sortSeg cmp (sortSeg cmp (rotl l i m (mid + m - i)) a mid) mid b).map fds := by rw [sortSeg_self hc (by omega) ht2 (sorted_at k5 (by omega) (by omega))]
     rw [er3]
     refine .pA ?_
     refine .pA ?_
     refine .pA ?_
     refine .sA (.pickF rfl rfl rfl) (.nil ?_)
     refine .cond rfl (fun h => nomatch h) (fun _ => ?_)
     refine .skip ?_
     refine ⟨trivial, ⟨mem_row_eq (.head _) ?_, trivial⟩⟩
     all_goals (rw [HF])
    replace h23 := of_decide_eq_false h23
    have er2 : (rotl l i m (mid + m - i)).map fds = (sortSeg cmp (rotl l i m (mid + m - i)) a mid).map fds := by rw [sortSeg_self hc (by omega) ht1 (sorted_at k1 (by omega) (by omega))]
    rw [er2]
    refine .skip ?_
    refine .sr ?_
    refine .mA ?_
    refine .mA ?_
    refine .sA (.lss rfl rfl rfl) ?_
    refine .mA ?_
    refine .split 209 rfl (fun g26 => ?_) (fun g26 => ?_)
    ·replace g26 := of_decide_eq_true g26
     refine .sG (.moveD rfl rfl) ?_
     refine .sG (.moveD rfl rfl) ?_
     refine .sG (.lss rfl rfl rfl) ?_
     refine .sA (.pickT rfl rfl rfl) (.nil ?_)
     refine .cond rfl (fun h27 => ?_) (fun h27 => ?_)
     ·replace h27 := of_decide_eq_true h27
      refine .region ?_
      refine .sA (.moveO rfl rfl) ?_
      refine .mA ?_
      refine .mA ?_
      refine .mA ?_
      refine .mA ?_
      -- turns 1
      refine .callX rfl rfl rfl (.cons (SLe.refl _) (.cons (SLe.refl _) (.cons (SLe.i64 (by omega)) (.cons (SLe.refl _) (.cons (SLe.refl _) .nil))))) ((ih _ mid (mid + m - i) b (by omega) (by omega) (by omega) (by omega) (by omega) ht2 k4 k5 k6) 1) ⟨(.head _), trivial⟩ rfl rfl (fun _ h => nomatch h) ?_
      refine .nil ?_
      refine ⟨trivial, ⟨mem_row_eq (.head _) ?_, trivial⟩⟩
      all_goals (rw [HF])
     replace h27 := of_decide_eq_false h27
     have er3 : (sortSeg cmp (rotl l i m (mid + m - i)) a mid).map fds = (sortSeg cmp (sortSeg cmp (rotl l i m (mid + m - i)) a mid) mid b).map fds := by rw [sortSeg_self hc (by omega) ht2 (sorted_at k4 (by omega) (by omega))]
     rw [er3]
     refine .skip ?_
     refine ⟨trivial, ⟨mem_row_eq (.head _) ?_, trivial⟩⟩
     all_goals (rw [HF])
    replace g26 := of_decide_eq_false g26
    have er3 : (sortSeg cmp (rotl l i m (mid + m - i)) a mid).map fds = (sortSeg cmp (sortSeg cmp (rotl l i m (mid + m - i)) a mid) mid b).map fds := by rw [sortSeg_self hc (by omega) ht2 (sorted_at k5 (by omega) (by omega))]
    rw [er3]
    refine .pA ?_
    refine .pA ?_
    refine .pA ?_
    refine .sA (.pickF rfl rfl rfl) (.nil ?_)
    refine .cond rfl (fun h => nomatch h) (fun _ => ?_)
    refine .skip ?_
    refine ⟨trivial, ⟨mem_row_eq (.head _) ?_, trivial⟩⟩
    all_goals (rw [HF])
   replace g22 := of_decide_eq_false g22
   have er2 : (rotl l i m (mid + m - i)).map fds = (sortSeg cmp (rotl l i m (mid + m - i)) a mid).map fds := by rw [sortSeg_self hc (by omega) ht1 (sorted_at k2 (by omega) (by omega))]
   rw [er2]
   refine .pA ?_
   refine .pA ?_
   refine .pA ?_
   refine .sA (.pickF rfl rfl rfl) (.nil ?_)
   refine .cond rfl (fun h => nomatch h) (fun _ => ?_)
   refine .skip ?_
   refine .sr ?_
   refine .mA ?_
   refine .mA ?_
   refine .sA (.lss rfl rfl rfl) ?_
   refine .mA ?_
   refine .split 209 rfl (fun g28 => ?_) (fun g28 => ?_)
   ·replace g28 := of_decide_eq_true g28
    refine .sG (.moveD rfl rfl) ?_
    refine .sG (.moveD rfl rfl) ?_
    refine .sG (.lss rfl rfl rfl) ?_
    refine .sA (.pickT rfl rfl rfl) (.nil ?_)
    refine .cond rfl (fun h29 => ?_) (fun h29 => ?_)
    ·replace h29 := of_decide_eq_true h29
     refine .region ?_
     refine .sA (.moveO rfl rfl) ?_
     refine .mA ?_
     refine .mA ?_
     refine .mA ?_
     refine .mA ?_
     -- turns 1
     refine .callX rfl rfl rfl (.cons (SLe.refl _) (.cons (SLe.refl _) (.cons (SLe.i64 (by omega)) (.cons (SLe.refl _) (.cons (SLe.refl _) .nil))))) ((ih _ mid (mid + m - i) b (by omega) (by omega) (by omega) (by omega) (by omega) ht2 k4 k5 k6) 1) ⟨(.head _), trivial⟩ rfl rfl (fun _ h => nomatch h) ?_
     refine .nil ?_
     refine ⟨trivial, ⟨mem_row_eq (.head _) ?_, trivial⟩⟩
     all_goals (rw [HF])
    replace h29 := of_decide_eq_false h29
    have er3 : (sortSeg cmp (rotl l i m (mid + m - i)) a mid).map fds = (sortSeg cmp (sortSeg cmp (rotl l i m (mid + m - i)) a mid) mid b).map fds := by rw [sortSeg_self hc (by omega) ht2 (sorted_at k4 (by omega) (by omega))]
    rw [er3]
    refine .skip ?_
    refine ⟨trivial, ⟨mem_row_eq (.head _) ?_, trivial⟩⟩
    all_goals (rw [HF])
   replace g28 := of_decide_eq_false g28
   have er3 : (sortSeg cmp (rotl l i m (mid + m - i)) a mid).map fds = (sortSeg cmp (sortSeg cmp (rotl l i m (mid + m - i)) a mid) mid b).map fds := by rw [sortSeg_self hc (by omega) ht2 (sorted_at k5 (by omega) (by omega))]
   rw [er3]
   refine .pA ?_
   refine .pA ?_
   refine .pA ?_
   refine .sA (.pickF rfl rfl rfl) (.nil ?_)
   refine .cond rfl (fun h => nomatch h) (fun _ => ?_)
   refine .skip ?_
   refine ⟨trivial, ⟨mem_row_eq (.head _) ?_, trivial⟩⟩
   all_goals (rw [HF])
  replace g12 := of_decide_eq_false g12
  have er : l.map fds = (rotl l i m (mid + m - i)).map fds := by rw [show i = m by omega, rotl_id1 (by omega)]
  rw [er]
  refine .pA ?_
  refine .pA ?_
  refine .pA ?_
  refine .sA (.pickF rfl rfl rfl) (.nil ?_)
  refine .cond rfl (fun h => nomatch h) (fun _ => ?_)
  refine .skip ?_
  refine .seq ?_
  refine .sr ?_
  refine .mA ?_
  refine .mA ?_
  refine .sA (.lss rfl rfl rfl) ?_
  refine .mA ?_
  refine .split 195 rfl (fun g30 => ?_) (fun g30 => ?_)
  ·replace g30 := of_decide_eq_true g30
   refine .sG (.moveD rfl rfl) ?_
   refine .sG (.moveD rfl rfl) ?_
   refine .sG (.lss rfl rfl rfl) ?_
   refine .sA (.pickT rfl rfl rfl) (.nil ?_)
   refine .cond rfl (fun h31 => ?_) (fun h31 => ?_)
   ·replace h31 := of_decide_eq_true h31
    refine .region ?_
    refine .sA (.moveO rfl rfl) ?_
    refine .mA ?_
    refine .mA ?_
    refine .mA ?_
    refine .mA ?_
    -- turns 1
    refine .callX rfl rfl rfl (.cons (SLe.refl _) (.cons (SLe.refl _) (.cons (SLe.refl _) (.cons (SLe.refl _) (.cons (SLe.refl _) .nil))))) ((ih _ a i mid (by omega) (by omega) (by omega) (by omega) (by omega) ht1 k1 k2 k3) 1) ⟨(.head _), trivial⟩ rfl rfl (fun _ h => nomatch h) ?_
    refine .nil ?_
    refine .sr ?_
    refine .mA ?_
    refine .mA ?_
    refine .sA (.lss rfl rfl rfl) ?_
    refine .mA ?_
    refine .split 209 rfl (fun g32 => ?_) (fun g32 => ?_)
    ·replace g32 := of_decide_eq_true g32
     refine .sG (.moveD rfl rfl) ?_
     refine .sG (.moveD rfl rfl) ?_
     refine .sG (.lss rfl rfl rfl) ?_
     refine .sA (.pickT rfl rfl rfl) (.nil ?_)
     refine .cond rfl (fun h33 => ?_) (fun h33 => ?_)
     ·replace h33 := of_decide_eq_true h33
      refine .region ?_
      refine .sA (.moveO rfl rfl) ?_
      refine .mA ?_
      refine .mA ?_
      refine .mA ?_
      refine .mA ?_
      -- turns 1
      refine .callX rfl rfl rfl (.cons (SLe.refl _) (.cons (SLe.refl _) (.cons (SLe.i64 (by omega)) (.cons (SLe.refl _) (.cons (SLe.refl _) .nil))))) ((ih _ mid (mid + m - i) b (by omega) (by omega) (by omega) (by omega) (by omega) ht2 k4 k5 k6) 1) ⟨(.head _), trivial⟩ rfl rfl (fun _ h => nomatch h) ?_
      refine .nil ?_
      refine ⟨trivial, ⟨mem_row_eq (.head _) ?_, trivial⟩⟩
      all_goals (rw [HF])
     replace h33 := of_decide_eq_false h33
     have er3 : (sortSeg cmp (rotl l i m (mid + m - i)) a mid).map fds = (sortSeg cmp (sortSeg cmp (rotl l i m (mid + m - i)) a mid) mid b).map fds := by rw [sortSeg_self hc (by omega) ht2 (sorted_at k4 (by omega) (by omega))]
     rw [er3]
     refine .skip ?_
     refine ⟨trivial, ⟨mem_row_eq (.head _) ?_, trivial⟩⟩
     all_goals (rw [HF])
    replace g32 := of_decide_eq_false g32
    have er3 : (sortSeg cmp (rotl l i m (mid + m - i)) a mid).map fds = (sortSeg cmp (sortSeg cmp (rotl l i m (mid + m - i)) a mid) mid b).map fds := by rw [sortSeg_self hc (by omega) ht2 (sorted_at k5 (by omega) (by omega))]
    rw [er3]
    refine .pA ?_
    refine .pA ?_
    refine .pA ?_
    refine .sA (.pickF rfl rfl rfl) (.nil ?_)
    refine .cond rfl (fun h => nomatch h) (fun _ => ?_)
    refine .skip ?_
    refine ⟨trivial, ⟨mem_row_eq (.head _) ?_, trivial⟩⟩
    all_goals (rw [HF])
   replace h31 := of_decide_eq_false h31
   have er2 : (rotl l i m (mid + m - i)).map fds = (sortSeg cmp (rotl l i m (mid + m - i)) a mid).map fds := by rw [sortSeg_self hc (by omega) ht1 (sorted_at k1 (by omega) (by omega))]
   rw [er2]
   refine .skip ?_
   refine .sr ?_
   refine .mA ?_
   refine .mA ?_
   refine .sA (.lss rfl rfl rfl) ?_
   refine .mA ?_
   refine .split 209 rfl (fun g34 => ?_) (fun g34 => ?_)
   ·replace g34 := of_decide_eq_true g34
    refine .sG (.moveD rfl rfl) ?_
    refine .sG (.moveD rfl rfl) ?_
    refine .sG (.lss rfl rfl rfl) ?_
    refine .sA (.pickT rfl rfl rfl) (.nil ?_)
    refine .cond rfl (fun h35 => ?_) (fun h35 => ?_)
    ·replace h35 := of_decide_eq_true h35
     refine .region ?_
     refine .sA (.moveO rfl rfl) ?_
     refine .mA ?_
     refine .mA ?_
     refine .mA ?_
     refine .mA ?_
     -- turns 1
     refine .callX rfl rfl rfl (.cons (SLe.refl _) (.cons (SLe.refl _) (.cons (SLe.i64 (by omega)) (.cons (SLe.refl _) (.cons (SLe.refl _) .nil))))) ((ih _ mid (mid + m - i) b (by omega) (by omega) (by omega) (by omega) (by omega) ht2 k4 k5 k6) 1) ⟨(.head _), trivial⟩ rfl rfl (fun _ h => nomatch h) ?_
     refine .nil ?_
     refine ⟨trivial, ⟨mem_row_eq (.head _) ?_, trivial⟩⟩
     all_goals (rw [HF])
    replace h35 := of_decide_eq_false h35
    have er3 : (sortSeg cmp (rotl l i m (mid + m - i)) a mid).map fds = (sortSeg cmp (sortSeg cmp (rotl l i m (mid + m - i)) a mid) mid b).map fds := by rw [sortSeg_self hc (by omega) ht2 (sorted_at k4 (by omega) (by omega))]
    rw [er3]
    refine .skip ?_
    refine ⟨trivial, ⟨mem_row_eq (.head _) ?_, trivial⟩⟩
    all_goals (rw [HF])
   replace g34 := of_decide_eq_false g34
   have er3 : (sortSeg cmp (rotl l i m (mid + m - i)) a mid).map fds = (sortSeg cmp (sortSeg cmp (rotl l i m (mid + m - i)) a mid) mid b).map fds := by rw [sortSeg_self hc (by omega) ht2 (sorted_at k5 (by omega) (by omega))]
   rw [er3]
   refine .pA ?_
   refine .pA ?_
   refine .pA ?_
   refine .sA (.pickF rfl rfl rfl) (.nil ?_)
   refine .cond rfl (fun h => nomatch h) (fun _ => ?_)
   refine .skip ?_
   refine ⟨trivial, ⟨mem_row_eq (.head _) ?_, trivial⟩⟩
   all_goals (rw [HF])
  replace g30 := of_decide_eq_false g30
  have er2 : (rotl l i m (mid + m - i)).map fds = (sortSeg cmp (rotl l i m (mid + m - i)) a mid).map fds := by rw [sortSeg_self hc (by omega) ht1 (sorted_at k2 (by omega) (by omega))]
  rw [er2]
  refine .pA ?_
  refine .pA ?_
  refine .pA ?_
  refine .sA (.pickF rfl rfl rfl) (.nil ?_)
  refine .cond rfl (fun h => nomatch h) (fun _ => ?_)
  refine .skip ?_
  refine .sr ?_
  refine .mA ?_
  refine .mA ?_
  refine .sA (.lss rfl rfl rfl) ?_
  refine .mA ?_
  refine .split 209 rfl (fun g36 => ?_) (fun g36 => ?_)
  ·replace g36 := of_decide_eq_true g36
   refine .sG (.moveD rfl rfl) ?_
   refine .sG (.moveD rfl rfl) ?_
   refine .sG (.lss rfl rfl rfl) ?_
   refine .sA (.pickT rfl rfl rfl) (.nil ?_)
   refine .cond rfl (fun h37 => ?_) (fun h37 => ?_)
   ·replace h37 := of_decide_eq_true h37
    refine .region ?_
    refine .sA (.moveO rfl rfl) ?_
    refine .mA ?_
    refine .mA ?_
    refine .mA ?_
    refine .mA ?_
    -- turns 1
    refine .callX rfl rfl rfl (.cons (SLe.refl _) (.cons (SLe.refl _) (.cons (SLe.i64 (by omega)) (.cons (SLe.refl _) (.cons (SLe.refl _) .nil))))) ((ih _ mid (mid + m - i) b (by omega) (by omega) (by omega) (by omega) (by omega) ht2 k4 k5 k6) 1) ⟨(.head _), trivial⟩ rfl rfl (fun _ h => nomatch h) ?_
    refine .nil ?_
    refine ⟨trivial, ⟨mem_row_eq (.head _) ?_, trivial⟩⟩
    all_goals (rw [HF])
   replace h37 := of_decide_eq_false h37
   have er3 : (sortSeg cmp (rotl l i m (mid + m - i)) a mid).map fds = (sortSeg cmp (sortSeg cmp (rotl l i m (mid + m - i)) a mid) mid b).map fds := by rw [sortSeg_self hc (by omega) ht2 (sorted_at k4 (by omega) (by omega))]
   rw [er3]
   refine .skip ?_
   refine ⟨trivial, ⟨mem_row_eq (.head _) ?_, trivial⟩⟩
   all_goals (rw [HF])
  replace g36 := of_decide_eq_false g36
  have er3 : (sortSeg cmp (rotl l i m (mid + m - i)) a mid).map fds = (sortSeg cmp (sortSeg cmp (rotl l i m (mid + m - i)) a mid) mid b).map fds := by rw [sortSeg_self hc (by omega) ht2 (sorted_at k5 (by omega) (by omega))]
  rw [er3]
  refine .pA ?_
  refine .pA ?_
  refine .pA ?_
  refine .sA (.pickF rfl rfl rfl) (.nil ?_)
  refine .cond rfl (fun h => nomatch h) (fun _ => ?_)
  refine .skip ?_
  refine ⟨trivial, ⟨mem_row_eq (.head _) ?_, trivial⟩⟩
  all_goals (rw [HF])
 replace h9 := of_decide_eq_false h9
 have hmm : m ≤ mid := by omega
 obtain ⟨lo0, hlo0⟩ : ∃ lo0, lo0 = a := ⟨_, rfl⟩
 obtain ⟨hi0, hhi0⟩ : ∃ hi0, hi0 = m := ⟨_, rfl⟩
 have hg : (mid < m ∧ lo0 + b = mid + m ∧ hi0 = mid) ∨ (m ≤ mid ∧ lo0 = a ∧ hi0 = m) := .inr ⟨hmm, hlo0, hhi0⟩
 refine .sr ?_
 refine .mA ?_
 refine .aA (.nil ?_)
 refine .region ?_
 refine .mA ?_
 refine .aA (.nil ?_)
 refine .sr ?_
 refine .mA ?_
 refine .sA (.sub64 rfl rfl rfl (by omega) (by omega)) ?_
 refine .aA (.nil ?_)
 refine .seq ?_
 refine .block ?_
 refine .loop (G := Nat × Nat) (fun g => Env.of [(20, .d (.v (.int .i64 (g.1 : Int)))), (21, .d (.v (.int .i64 (g.2 : Int)))), (22, .d (.v (.int .i64 ((mid + m - 1 : Nat) : Int)))), (19, .d (.v (.int .i64 ((mid + m : Nat) : Int)))), (18, .d (.v (.int .i64 (mid : Int)))), (0, .own 1), (1, .d (.v (.int .i64 a))), (2, .d (.v (.int .i64 m))), (3, .d (.v (.int .i64 b))), (4, .d (.clo (.func f) caps))]) (fun g => [(1, .row 3 1 (l.map fds))]) (fun g => CutS cmp l (mid + m - 1) lo0 hi0 g.1 g.2) (fun g => g.2 - g.1) (lo0, hi0) ⟨Nat.le_refl _, by dsimp only; omega, Nat.le_refl _, fun h => absurd h (Nat.lt_irrefl _), fun h => absurd h (Nat.lt_irrefl _)⟩ (Sub.less ⟨(SLe.i64 (by first | omega | (dsimp only; omega))), (SLe.i64 (by first | omega | (dsimp only; omega))), (SLe.i64 (by first | omega | (dsimp only; omega))), (SLe.i64 (by first | omega | (dsimp only; omega))), (SLe.i64 (by first | omega | (dsimp only; omega))), SLe.refl _, SLe.refl _, SLe.refl _, SLe.refl _, SLe.refl _, trivial⟩ (row_same rfl)) ?_
 rintro ⟨i, j⟩ hs
 dsimp only at hs ⊢
 have hs1 := hs.ls
 have hs2 := hs.sr
 have hs3 := hs.rh
 refine .seq ?_
 refine .sr ?_
 refine .mA ?_
 refine .mA ?_
 refine .sA (.lss rfl rfl rfl) (.nil ?_)
 refine .cond rfl (fun h38 => ?_) (fun h38 => ?_)
 ·replace h38 := of_decide_eq_true h38
  have hij : i < j := by omega
  have hhl : ((i + j) / 2) < l.length := by omega
  have hpl : mid + m - 1 - ((i + j) / 2) < l.length := by omega
  have htg := hx _ _ _ _ (show a ≤ ((i + j) / 2) by omega) (by omega) (show m ≤ mid + m - 1 - ((i + j) / 2) by omega) (by omega) (at_some l hhl) (at_some l hpl)
  refine .skip ?_
  refine .block ?_
  refine .sr ?_
  refine .mA ?_
  refine .mA ?_
  refine .sA (.add64 rfl rfl rfl (by omega) (by omega)) ?_
  refine .sA (.convSame rfl (by kernel_rfl) rfl (wrapU64 (by omega) (by omega))) ?_
  refine .sA (.half rfl rfl rfl) ?_
  refine .sA (.convSame rfl (by kernel_rfl) rfl (w64 (by omega) (by omega))) ?_
  refine .aA (.nil ?_)
  refine .seq ?_
  refine .draw (by kernel_rfl) (by kernel_rfl) ?_
  refine .sA (.moveD rfl rfl) ?_
  refine .sA (.moveO rfl rfl) ?_
  refine .sA (.moveD rfl rfl) ?_
  refine .sA (.moveD rfl rfl) ?_
  refine .sA (.sub64 rfl rfl rfl (by omega) (by omega)) ?_
  refine .sA (.indexOwn rfl et_37 rfl rfl (.head _) (mid + m - 1 - ((i + j) / 2)) (by omega) (by rw [List.length_map]; omega)) ?_
  refine .sA (.loadRow rfl sc_3 rfl (.head _) (mid + m - 1 - ((i + j) / 2)) 0 rfl (at_list hpl) rfl) ?_
  refine .sA (.moveO rfl rfl) ?_
  refine .sA (.moveD rfl rfl) ?_
  refine .sA (.indexOwn rfl et_37 rfl rfl (.head _) ((i + j) / 2) (by omega) (by rw [List.length_map]; omega)) ?_
  refine .sA (.loadRow rfl sc_3 rfl (.head _) ((i + j) / 2) 0 rfl (at_list hhl) rfl) ?_
  refine .sA (.callClo rfl rfl (.cons (.rfl' rfl) (.cons (.rfl' rfl) .nil)) (hf (l[mid + m - 1 - ((i + j) / 2)]'hpl).1 (l[((i + j) / 2)]'hhl).1)) ?_
  refine .sA (.lss rfl rfl rfl) ?_
  refine .sA (.not rfl rfl) ?_
  refine .nil ?_
  refine .cond rfl (fun h39 => ?_) (fun h39 => ?_)
  ·replace h39 := bnot_t h39; replace h39 := of_decide_eq_false h39
   have HU : CutS cmp l (mid + m - 1) lo0 hi0 (((i + j) / 2) + 1) j := ⟨by omega, by omega, by omega, fun _ => ⟨_, _, at_some l hhl, at_some l hpl, cross_ge htg h39⟩, hs.high⟩
   refine .region ?_
   refine .mA ?_
   refine .sA (.add64 rfl rfl rfl (by omega) (by omega)) ?_
   refine .aA (.nil ?_)
   refine ⟨(((i + j) / 2) + 1, j), HU, (by dsimp only; omega), Sub.less ⟨(SLe.i64 (by dsimp only; omega)), (SLe.refl _), SLe.refl _, SLe.refl _, SLe.refl _, SLe.refl _, SLe.refl _, SLe.refl _, SLe.refl _, SLe.refl _, trivial⟩ (row_same rfl)⟩
  replace h39 := bnot_f h39; replace h39 := of_decide_eq_true h39
  have HD : CutS cmp l (mid + m - 1) lo0 hi0 i ((i + j) / 2) := ⟨by omega, by omega, by omega, hs.low, fun _ => ⟨_, _, at_some l hhl, at_some l hpl, .inl (by omega)⟩⟩
  refine .region ?_
  refine .mA ?_
  refine .aA (.nil ?_)
  refine ⟨(i, ((i + j) / 2)), HD, (by dsimp only; omega), Sub.less ⟨(SLe.refl _), (SLe.i64 (by dsimp only; omega)), SLe.refl _, SLe.refl _, SLe.refl _, SLe.refl _, SLe.refl _, SLe.refl _, SLe.refl _, SLe.refl _, trivial⟩ (row_same rfl)⟩
 replace h38 := of_decide_eq_false h38
 have hij : i = j := by omega
 subst hij
 have hcut := CutS.cut hc s1 s2 hmid ham hmb hg hs
 have hs4 := hcut.has
 have hs5 := hcut.sm
 have hs6 := hcut.me
 have hs7 := hcut.eb
 obtain ⟨k1, k2, k3, k4, k5, k6, k7⟩ := cut_merge hc ht hbl s1 s2 hx hcut
 rw [show i + (mid + m - i - m) = mid by omega] at k2 k3 k4 k5 k6 k7
 have hrl : (rotl l i m (mid + m - i)).length = l.length := rotl_len hs5 hs6 (by omega)
 have ht1 : TagsOk (rotl l i m (mid + m - i)) := ht.perm (rotl_perm hs5 hs6)
 have hl1 : (sortSeg cmp (rotl l i m (mid + m - i)) a mid).length = l.length := by rw [sortSeg_len cmp _ (by omega), hrl]
 have ht2 : TagsOk (sortSeg cmp (rotl l i m (mid + m - i)) a mid) := ht1.perm (sortSeg_perm cmp _ (by omega))
 have HF := k7
 refine .exit ?_
 refine .sr ?_
 refine .mA ?_
 refine .mA ?_
 refine .sA (.sub64 rfl rfl rfl (by omega) (by omega)) ?_
 refine .aA (.nil ?_)
 refine .seq ?_
 refine .sr ?_
 refine .mA ?_
 refine .mA ?_
 refine .sA (.lss rfl rfl rfl) ?_
 refine .mA ?_
 refine .split 181 rfl (fun g40 => ?_) (fun g40 => ?_)
 ·replace g40 := of_decide_eq_true g40
  refine .sG (.moveD rfl rfl) ?_
  refine .sG (.moveD rfl rfl) ?_
  refine .sG (.lss rfl rfl rfl) ?_
  refine .sA (.pickT rfl rfl rfl) (.nil ?_)
  refine .cond rfl (fun h41 => ?_) (fun h41 => ?_)
  ·replace h41 := of_decide_eq_true h41
   refine .region ?_
   refine .sA (.moveO rfl rfl) ?_
   refine .mA ?_
   refine .mA ?_
   refine .mA ?_
   refine .mA ?_
   -- turns 1
   refine .callX rfl rfl rfl (.cons (SLe.refl _) (.cons (SLe.refl _) (.cons (SLe.refl _) (.cons (SLe.i64 (by omega)) (.cons (SLe.refl _) .nil))))) ((c_rotate l i m (mid + m - i) _ (by omega) (by omega) (by omega) hl) 1) ⟨(.head _), trivial⟩ rfl rfl (fun _ h => nomatch h) ?_
   refine .nil ?_
   refine .seq ?_
   refine .sr ?_
   refine .mA ?_
   refine .mA ?_
   refine .sA (.lss rfl rfl rfl) ?_
   refine .mA ?_
   refine .split 195 rfl (fun g42 => ?_) (fun g42 => ?_)
   ·replace g42 := of_decide_eq_true g42
    refine .sG (.moveD rfl rfl) ?_
    refine .sG (.moveD rfl rfl) ?_
    refine .sG (.lss rfl rfl rfl) ?_
    refine .sA (.pickT rfl rfl rfl) (.nil ?_)
    refine .cond rfl (fun h43 => ?_) (fun h43 => ?_)
    ·replace h43 := of_decide_eq_true h43
     refine .region ?_
     refine .sA (.moveO rfl rfl) ?_
     refine .mA ?_
     refine .mA ?_
     refine .mA ?_
     refine .mA ?_
     -- turns 1
     refine .callX rfl rfl rfl (.cons (SLe.refl _) (.cons (SLe.refl _) (.cons (SLe.refl _) (.cons (SLe.refl _) (.cons (SLe.refl _) .nil))))) ((ih _ a i mid (by omega) (by omega) (by omega) (by omega) (by omega) ht1 k1 k2 k3) 1) ⟨(.head _), trivial⟩ rfl rfl (fun _ h => nomatch h) ?_
     refine .nil ?_
     refine .sr ?_
     refine .mA ?_
     refine .mA ?_
     refine .sA (.lss rfl rfl rfl) ?_
     refine .mA ?_
     refine .split 209 rfl (fun g44 => ?_) (fun g44 => ?_)
     ·replace g44 := of_decide_eq_true g44
      refine .sG (.moveD rfl rfl) ?_
      refine .sG (.moveD rfl rfl) ?_
      refine .sG (.lss rfl rfl rfl) ?_
      refine .sA (.pickT rfl rfl rfl) (.nil ?_)
      refine .cond rfl (fun h45 => ?_) (fun h45 => ?_)
      ·replace h45 := of_decide_eq_true h45
       refine .region ?_
       refine .sA (.moveO rfl rfl) ?_
       refine .mA ?_
       refine .mA ?_
       refine .mA ?_
       refine .mA ?_
       -- turns 1
       refine .callX rfl rfl rfl (.cons (SLe.refl _) (.cons (SLe.refl _) (.cons (SLe.i64 (by omega)) (.cons (SLe.refl _) (.cons (SLe.refl _) .nil))))) ((ih _ mid (mid + m - i) b (by omega) (by omega) (by omega) (by omega) (by omega) ht2 k4 k5 k6) 1) ⟨(.head _), trivial⟩ rfl rfl (fun _ h => nomatch h) ?_
       refine .nil ?_
       refine ⟨trivial, ⟨mem_row_eq (.head _) ?_, trivial⟩⟩
       all_goals (rw [HF])
      replace h45 := of_decide_eq_false h45
      have er3 : (sortSeg cmp (rotl l i m (mid + m - i)) a mid).map fds = (sortSeg cmp (sortSeg cmp (rotl l i m (mid + m - i)) a mid) mid b).map fds := by rw [sortSeg_self hc (by omega) ht2 (sorted_at k4 (by omega) (by omega))]
      rw [er3]
      refine .skip ?_
      refine ⟨trivial, ⟨mem_row_eq (.head _) ?_, trivial⟩⟩
      all_goals (rw [HF])
     replace g44 := of_decide_eq_false g44
     have er3 : (sortSeg cmp (rotl l i m (mid + m - i)) a mid).map fds = (sortSeg cmp (sortSeg cmp (rotl l i m (mid + m - i)) a mid) mid b).map fds := by rw [sortSeg_self hc (by omega) ht2 (sorted_at k5 (by omega) (by omega))]
     rw [er3]
     refine .pA ?_
     refine .pA ?_
     refine .pA ?_
     refine .sA (.pickF rfl rfl rfl) (.nil ?_)
     refine .cond rfl (fun h => nomatch h) (fun _ => ?_)
     refine .skip ?_
     refine ⟨trivial, ⟨mem_row_eq (.head _) ?_, trivial⟩⟩
     all_goals (rw [HF])
    replace h43 := of_decide_eq_false h43
    have er2 : (rotl l i m (mid + m - i)).map fds = (sortSeg cmp (rotl l i m (mid + m - i)) a mid).map fds := by rw [sortSeg_self hc (by omega) ht1 (sorted_at k1 (by omega) (by omega))]
    rw [er2]
    refine .skip ?_
    refine .sr ?_
    refine .mA ?_
    refine .mA ?_
    refine .sA (.lss rfl rfl rfl) ?_
    refine .mA ?_
    refine .split 209 rfl (fun g46 => ?_) (fun g46 => ?_)
    ·replace g46 := of_decide_eq_true g46
     refine .sG (.moveD rfl rfl) ?_
     refine .sG (.moveD rfl rfl) ?_
     refine .sG (.lss rfl rfl rfl) ?_
     refine .sA (.pickT rfl rfl rfl) (.nil ?_)
     refine .cond rfl (fun h47 => ?_) (fun h47 => ?_)
     ·replace h47 := of_decide_eq_true h47
      refine .region ?_
      refine .sA (.moveO rfl rfl) ?_
      refine .mA ?_
      refine .mA ?_
      refine .mA ?_
      refine .mA ?_
      -- turns 1
      refine .callX rfl rfl rfl (.cons (SLe.refl _) (.cons (SLe.refl _) (.cons (SLe.i64 (by omega)) (.cons (SLe.refl _) (.cons (SLe.refl _) .nil))))) ((ih _ mid (mid + m - i) b (by omega) (by omega) (by omega) (by omega) (by omega) ht2 k4 k5 k6) 1) ⟨(.head _), trivial⟩ rfl rfl (fun _ h => nomatch h) ?_
      refine .nil ?_
      refine ⟨trivial, ⟨mem_row_eq (.head _) ?_, trivial⟩⟩
      all_goals (rw [HF])
     replace h47 := of_decide_eq_false h47
     have er3 : (sortSeg cmp (rotl l i m (mid + m - i)) a mid).map fds = (sortSeg cmp (sortSeg cmp (rotl l i m (mid + m - i)) a mid) mid b).map fds := by rw [sortSeg_self hc (by omega) ht2 (sorted_at k4 (by omega) (by omega))]
     rw [er3]
     refine .skip ?_
     refine ⟨trivial, ⟨mem_row_eq (.head _) ?_, trivial⟩⟩
     all_goals (rw [HF])
    replace g46 := of_decide_eq_false g46
    have er3 : (sortSeg cmp (rotl l i m (mid + m - i)) a mid).map fds = (sortSeg cmp (sortSeg cmp (rotl l i m (mid + m - i)) a mid) mid b).map fds := by rw [sortSeg_self hc (by omega) ht2 (sorted_at k5 (by omega) (by omega))]
    rw [er3]
    refine .pA ?_
    refine .pA ?_
    refine .pA ?_
    refine .sA (.pickF rfl rfl rfl) (.nil ?_)
    refine .cond rfl (fun h => nomatch h) (fun _ => ?_)
    refine .skip ?_
    refine ⟨trivial, ⟨mem_row_eq (.head _) ?_, trivial⟩⟩
    all_goals (rw [HF])
   replace g42 := of_decide_eq_false g42
   have er2 : (rotl l i m (mid + m - i)).map fds = (sortSeg cmp (rotl l i m (mid + m - i)) a mid).map fds := by rw [sortSeg_self hc (by omega) ht1 (sorted_at k2 (by omega) (by omega))]
   rw [er2]
   refine .pA ?_
   refine .pA ?_
   refine .pA ?_
   refine .sA (.pickF rfl rfl rfl) (.nil ?_)
   refine .cond rfl (fun h => nomatch h) (fun _ => ?_)
   refine .skip ?_
   refine .sr ?_
   refine .mA ?_
   refine .mA ?_
   refine .sA (.lss rfl rfl rfl) ?_
   refine .mA ?_
   refine .split 209 rfl (fun g48 => ?_) (fun g48 => ?_)
   ·replace g48 := of_decide_eq_true g48
    refine .sG (.moveD rfl rfl) ?_
    refine .sG (.moveD rfl rfl) ?_
    refine .sG (.lss rfl rfl rfl) ?_
    refine .sA (.pickT rfl rfl rfl) (.nil ?_)
    refine .cond rfl (fun h49 => ?_) (fun h49 => ?_)
    ·replace h49 := of_decide_eq_true h49
     refine .region ?_
     refine .sA (.moveO rfl rfl) ?_
     refine .mA ?_
     refine .mA ?_
     refine .mA ?_
     refine .mA ?_
     -- turns 1
     refine .callX rfl rfl rfl (.cons (SLe.refl _) (.cons (SLe.refl _) (.cons (SLe.i64 (by omega)) (.cons (SLe.refl _) (.cons (SLe.refl _) .nil))))) ((ih _ mid (mid + m - i) b (by omega) (by omega) (by omega) (by omega) (by omega) ht2 k4 k5 k6) 1) ⟨(.head _), trivial⟩ rfl rfl (fun _ h => nomatch h) ?_
     refine .nil ?_
     refine ⟨trivial, ⟨mem_row_eq (.head _) ?_, trivial⟩⟩
     all_goals (rw [HF])
    replace h49 := of_decide_eq_false h49
    have er3 : (sortSeg cmp (rotl l i m (mid + m - i)) a mid).map fds = (sortSeg cmp (sortSeg cmp (rotl l i m (mid + m - i)) a mid) mid b).map fds := by rw [sortSeg_self hc (by omega) ht2 (sorted_at k4 (by omega) (by omega))]
    rw [er3]
    refine .skip ?_
    refine ⟨trivial, ⟨mem_row_eq (.head _) ?_, trivial⟩⟩
    all_goals (rw [HF])
   replace g48 := of_decide_eq_false g48
   have er3 : (sortSeg cmp (rotl l i m (mid + m - i)) a mid).map fds = (sortSeg cmp (sortSeg cmp (rotl l i m (mid + m - i)) a mid) mid b).map fds := by rw [sortSeg_self hc (by omega) ht2 (sorted_at k5 (by omega) (by omega))]
   rw [er3]
   refine .pA ?_
   refine .pA ?_
   refine .pA ?_
   refine .sA (.pickF rfl rfl rfl) (.nil ?_)
   refine .cond rfl (fun h => nomatch h) (fun _ => ?_)
   refine .skip ?_
   refine ⟨trivial, ⟨mem_row_eq (.head _) ?_, trivial⟩⟩
   all_goals (rw [HF])
  replace h41 := of_decide_eq_false h41
  have er : l.map fds = (rotl l i m (mid + m - i)).map fds := by rw [show mid + m - i = m by omega, rotl_id2 (by omega)]
  rw [er]
  refine .skip ?_
  refine .seq ?_
  refine .sr ?_
  refine .mA ?_
  refine .mA ?_
  refine .sA (.lss rfl rfl rfl) ?_
  refine .mA ?_
  refine .split 195 rfl (fun g50 => ?_) (fun g50 => ?_)
  ·replace g50 := of_decide_eq_true g50
   refine .sG (.moveD rfl rfl) ?_
   refine .sG (.moveD rfl rfl) ?_
   refine .sG (.lss rfl rfl rfl) ?_
   refine .sA (.pickT rfl rfl rfl) (.nil ?_)
   refine .cond rfl (fun h51 => ?_) (fun h51 => ?_)
   ·replace h51 := of_decide_eq_true h51
    refine .region ?_
    refine .sA (.moveO rfl rfl) ?_
    refine .mA ?_
    refine .mA ?_
    refine .mA ?_
    refine .mA ?_
    -- turns 1
    refine .callX rfl rfl rfl (.cons (SLe.refl _) (.cons (SLe.refl _) (.cons (SLe.refl _) (.cons (SLe.refl _) (.cons (SLe.refl _) .nil))))) ((ih _ a i mid (by omega) (by omega) (by omega) (by omega) (by omega) ht1 k1 k2 k3) 1) ⟨(.head _), trivial⟩ rfl rfl (fun _ h => nomatch h) ?_
    refine .nil ?_
    refine .sr ?_
    refine .mA ?_
    refine .mA ?_
    refine .sA (.lss rfl rfl rfl) ?_
    refine .mA ?_
    refine .split 209 rfl (fun g52 => ?_) (fun g52 => ?_)
    ·replace g52 := of_decide_eq_true g52
     refine .sG (.moveD rfl rfl) ?_
     refine .sG (.moveD rfl rfl) ?_
     refine .sG (.lss rfl rfl rfl) ?_
     refine .sA (.pickT rfl rfl rfl) (.nil ?_)
     refine .cond rfl (fun h53 => ?_) (fun h53 => ?_)
     ·replace h53 := of_decide_eq_true h53
      refine .region ?_
      refine .sA (.moveO rfl rfl) ?_
      refine .mA ?_
      refine .mA ?_
      refine .mA ?_
      refine .mA ?_
      -- turns 1
      refine .callX rfl rfl rfl (.cons (SLe.refl _) (.cons (SLe.refl _) (.cons (SLe.i64 (by omega)) (.cons (SLe.refl _) (.cons (SLe.refl _) .nil))))) ((ih _ mid (mid + m - i) b (by omega) (by omega) (by omega) (by omega) (by omega) ht2 k4 k5 k6) 1) ⟨(.head _), trivial⟩ rfl rfl (fun _ h => nomatch h) ?_
      refine .nil ?_
      refine ⟨trivial, ⟨mem_row_eq (.head _) ?_, trivial⟩⟩
      all_goals (rw [HF])
     replace h53 := of_decide_eq_false h53
     have er3 : (sortSeg cmp (rotl l i m (mid + m - i)) a mid).map fds = (sortSeg cmp (sortSeg cmp (rotl l i m (mid + m - i)) a mid) mid b).map fds := by rw [sortSeg_self hc (by omega) ht2 (sorted_at k4 (by omega) (by omega))]
     rw [er3]
     refine .skip ?_
     refine ⟨trivial, ⟨mem_row_eq (.head _) ?_, trivial⟩⟩
     all_goals (rw [HF])
    replace g52 := of_decide_eq_false g52
    have er3 : (sortSeg cmp (rotl l i m (mid + m - i)) a mid).map fds = (sortSeg cmp (sortSeg cmp (rotl l i m (mid + m - i)) a mid) mid b).map fds := by rw [sortSeg_self hc (by omega) ht2 (sorted_at k5 (by omega) (by omega))]
    rw [er3]
    refine .pA ?_
    refine .pA ?_
    refine .pA ?_
    refine .sA (.pickF rfl rfl rfl) (.nil ?_)
    refine .cond rfl (fun h => nomatch h) (fun _ => ?_)
    refine .skip ?_
    refine ⟨trivial, ⟨mem_row_eq (.head _) ?_, trivial⟩⟩
    all_goals (rw [HF])
   replace h51 := of_decide_eq_false h51
   have er2 : (rotl l i m (mid + m - i)).map fds = (sortSeg cmp (rotl l i m (mid + m - i)) a mid).map fds := by rw [sortSeg_self hc (by omega) ht1 (sorted_at k1 (by omega) (by omega))]
   rw [er2]
   refine .skip ?_
   refine .sr ?_
   refine .mA ?_
   refine .mA ?_
   refine .sA (.lss rfl rfl rfl) ?_
   refine .mA ?_
   refine .split 209 rfl (fun g54 => ?_) (fun g54 => ?_)
   ·replace g54 := of_decide_eq_true g54
    refine .sG (.moveD rfl rfl) ?_
    refine .sG (.moveD rfl rfl) ?_
    refine .sG (.lss rfl rfl rfl) ?_
    refine .sA (.pickT rfl rfl rfl) (.nil ?_)
    refine .cond rfl (fun h55 => ?_) (fun h55 => ?_)
    ·replace h55 := of_decide_eq_true h55
     refine .region ?_
     refine .sA (.moveO rfl rfl) ?_
     refine .mA ?_
     refine .mA ?_
     refine .mA ?_
     refine .mA ?_
     -- turns 1
     refine .callX rfl rfl rfl (.cons (SLe.refl _) (.cons (SLe.refl _) (.cons (SLe.i64 (by omega)) (.cons (SLe.refl _) (.cons (SLe.refl _) .nil))))) ((ih _ mid (mid + m - i) b (by omega) (by omega) (by omega) (by omega) (by omega) ht2 k4 k5 k6) 1) ⟨(.head _), trivial⟩ rfl rfl (fun _ h => nomatch h) ?_
     refine .nil ?_
     refine ⟨trivial, ⟨mem_row_eq (.head _) ?_, trivial⟩⟩
     all_goals (rw [HF])
    replace h55 := of_decide_eq_false h55
    have er3 : (sortSeg cmp (rotl l i m (mid + m - i)) a mid).map fds = (sortSeg cmp (sortSeg cmp (rotl l i m (mid + m - i)) a mid) mid b).map fds := by rw [sortSeg_self hc (by omega) ht2 (sorted_at k4 (by omega) (by omega))]
    rw [er3]
    refine .skip ?_
    refine ⟨trivial, ⟨mem_row_eq (.head _) ?_, trivial⟩⟩
    all_goals (rw [HF])
   replace g54 := of_decide_eq_false g54
   have er3 : (sortSeg cmp (rotl l i m (mid + m - i)) a mid).map fds = (sortSeg cmp (sortSeg cmp (rotl l i m (mid + m - i)) a mid) mid b).map fds := by rw [sortSeg_self hc (by omega) ht2 (sorted_at k5 (by omega) (by omega))]
   rw [er3]
   refine .pA ?_
   refine .pA ?_
   refine .pA ?_
   refine .sA (.pickF rfl rfl rfl) (.nil ?_)
   refine .cond rfl (fun h => nomatch h) (fun _ => ?_)
   refine .skip ?_
   refine ⟨trivial, ⟨mem_row_eq (.head _) ?_, trivial⟩⟩
   all_goals (rw [HF])
  replace g50 := of_decide_eq_false g50
  have er2 : (rotl l i m (mid + m - i)).map fds = (sortSeg cmp (rotl l i m (mid + m - i)) a mid).map fds := by rw [sortSeg_self hc (by omega) ht1 (sorted_at k2 (by omega) (by omega))]
  rw [er2]
  refine .pA ?_
  refine .pA ?_
  refine .pA ?_
  refine .sA (.pickF rfl rfl rfl) (.nil ?_)
  refine .cond rfl (fun h => nomatch h) (fun _ => ?_)
  refine .skip ?_
  refine .sr ?_
  refine .mA ?_
  refine .mA ?_
  refine .sA (.lss rfl rfl rfl) ?_
  refine .mA ?_
  refine .split 209 rfl (fun g56 => ?_) (fun g56 => ?_)
  ·replace g56 := of_decide_eq_true g56
   refine .sG (.moveD rfl rfl) ?_
   refine .sG (.moveD rfl rfl) ?_
   refine .sG (.lss rfl rfl rfl) ?_
   refine .sA (.pickT rfl rfl rfl) (.nil ?_)
   refine .cond rfl (fun h57 => ?_) (fun h57 => ?_)
   ·replace h57 := of_decide_eq_true h57
    refine .region ?_
    refine .sA (.moveO rfl rfl) ?_
    refine .mA ?_
    refine .mA ?_
    refine .mA ?_
    refine .mA ?_
    -- turns 1
    refine .callX rfl rfl rfl (.cons (SLe.refl _) (.cons (SLe.refl _) (.cons (SLe.i64 (by omega)) (.cons (SLe.refl _) (.cons (SLe.refl _) .nil))))) ((ih _ mid (mid + m - i) b (by omega) (by omega) (by omega) (by omega) (by omega) ht2 k4 k5 k6) 1) ⟨(.head _), trivial⟩ rfl rfl (fun _ h => nomatch h) ?_
    refine .nil ?_
    refine ⟨trivial, ⟨mem_row_eq (.head _) ?_, trivial⟩⟩
    all_goals (rw [HF])
   replace h57 := of_decide_eq_false h57
   have er3 : (sortSeg cmp (rotl l i m (mid + m - i)) a mid).map fds = (sortSeg cmp (sortSeg cmp (rotl l i m (mid + m - i)) a mid) mid b).map fds := by rw [sortSeg_self hc (by omega) ht2 (sorted_at k4 (by omega) (by omega))]
   rw [er3]
   refine .skip ?_
   refine ⟨trivial, ⟨mem_row_eq (.head _) ?_, trivial⟩⟩
   all_goals (rw [HF])
  replace g56 := of_decide_eq_false g56
  have er3 : (sortSeg cmp (rotl l i m (mid + m - i)) a mid).map fds = (sortSeg cmp (sortSeg cmp (rotl l i m (mid + m - i)) a mid) mid b).map fds := by rw [sortSeg_self hc (by omega) ht2 (sorted_at k5 (by omega) (by omega))]
  rw [er3]
  refine .pA ?_
  refine .pA ?_
  refine .pA ?_
  refine .sA (.pickF rfl rfl rfl) (.nil ?_)
  refine .cond rfl (fun h => nomatch h) (fun _ => ?_)
  refine .skip ?_
  refine ⟨trivial, ⟨mem_row_eq (.head _) ?_, trivial⟩⟩
  all_goals (rw [HF])
 replace g40 := of_decide_eq_false g40
 have er : l.map fds = (rotl l i m (mid + m - i)).map fds := by rw [show i = m by omega, rotl_id1 (by omega)]
 rw [er]
 refine .pA ?_
 refine .pA ?_
 refine .pA ?_
 refine .sA (.pickF rfl rfl rfl) (.nil ?_)
 refine .cond rfl (fun h => nomatch h) (fun _ => ?_)
 refine .skip ?_
 refine .seq ?_
 refine .sr ?_
 refine .mA ?_
 refine .mA ?_
 refine .sA (.lss rfl rfl rfl) ?_
 refine .mA ?_
 refine .split 195 rfl (fun g58 => ?_) (fun g58 => ?_)
 ·replace g58 := of_decide_eq_true g58
  refine .sG (.moveD rfl rfl) ?_
  refine .sG (.moveD rfl rfl) ?_
  refine .sG (.lss rfl rfl rfl) ?_
  refine .sA (.pickT rfl rfl rfl) (.nil ?_)
  refine .cond rfl (fun h59 => ?_) (fun h59 => ?_)
  ·replace h59 := of_decide_eq_true h59
   refine .region ?_
   refine .sA (.moveO rfl rfl) ?_
   refine .mA ?_
   refine .mA ?_
   refine .mA ?_
   refine .mA ?_
   -- turns 1
   refine .callX rfl rfl rfl (.cons (SLe.refl _) (.cons (SLe.refl _) (.cons (SLe.refl _) (.cons (SLe.refl _) (.cons (SLe.refl _) .nil))))) ((ih _ a i mid (by omega) (by omega) (by omega) (by omega) (by omega) ht1 k1 k2 k3) 1) ⟨(.head _), trivial⟩ rfl rfl (fun _ h => nomatch h) ?_
   refine .nil ?_
   refine .sr ?_
   refine .mA ?_
   refine .mA ?_
   refine .sA (.lss rfl rfl rfl) ?_
   refine .mA ?_
   refine .split 209 rfl (fun g60 => ?_) (fun g60 => ?_)
   ·replace g60 := of_decide_eq_true g60
    refine .sG (.moveD rfl rfl) ?_
    refine .sG (.moveD rfl rfl) ?_
    refine .sG (.lss rfl rfl rfl) ?_
    refine .sA (.pickT rfl rfl rfl) (.nil ?_)
    refine .cond rfl (fun h61 => ?_) (fun h61 => ?_)
    ·replace h61 := of_decide_eq_true h61
     refine .region ?_
     refine .sA (.moveO rfl rfl) ?_
     refine .mA ?_
     refine .mA ?_
     refine .mA ?_
     refine .mA ?_
     -- turns 1
     refine .callX rfl rfl rfl (.cons (SLe.refl _) (.cons (SLe.refl _) (.cons (SLe.i64 (by omega)) (.cons (SLe.refl _) (.cons (SLe.refl _) .nil))))) ((ih _ mid (mid + m - i) b (by omega) (by omega) (by omega) (by omega) (by omega) ht2 k4 k5 k6) 1) ⟨(.head _), trivial⟩ rfl rfl (fun _ h => nomatch h) ?_
     refine .nil ?_
     refine ⟨trivial, ⟨mem_row_eq (.head _) ?_, trivial⟩⟩
     all_goals (rw [HF])
    replace h61 := of_decide_eq_false h61
    have er3 : (sortSeg cmp (rotl l i m (mid + m - i)) a mid).map fds = (sortSeg cmp (sortSeg cmp (rotl l i m (mid + m - i)) a mid) mid b).map fds := by rw [sortSeg_self hc (by omega) ht2 (sorted_at k4 (by omega) (by omega))]
    rw [er3]
    refine .skip ?_
    refine ⟨trivial, ⟨mem_row_eq (.head _) ?_, trivial⟩⟩
    all_goals (rw [HF])
   replace g60 := of_decide_eq_false g60
   have er3 : (sortSeg cmp (rotl l i m (mid + m - i)) a mid).map fds = (sortSeg cmp (sortSeg cmp (rotl l i m (mid + m - i)) a mid) mid b).map fds := by rw [sortSeg_self hc (by omega) ht2 (sorted_at k5 (by omega) (by omega))]
   rw [er3]
   refine .pA ?_
   refine .pA ?_
   refine .pA ?_
   refine .sA (.pickF rfl rfl rfl) (.nil ?_)
   refine .cond rfl (fun h => nomatch h) (fun _ => ?_)
   refine .skip ?_
   refine ⟨trivial, ⟨mem_row_eq (.head _) ?_, trivial⟩⟩
   all_goals (rw [HF])
  replace h59 := of_decide_eq_false h59
  have er2 : (rotl l i m (mid + m - i)).map fds = (sortSeg cmp (rotl l i m (mid + m - i)) a mid).map fds := by rw [sortSeg_self hc (by omega) ht1 (sorted_at k1 (by omega) (by omega))]
  rw [er2]
  refine .skip ?_
  refine .sr ?_
  refine .mA ?_
  refine .mA ?_
  refine .sA (.lss rfl rfl rfl) ?_
  refine .mA ?_
  refine .split 209 rfl (fun g62 => ?_) (fun g62 => ?_)
  ·replace g62 := of_decide_eq_true g62
   refine .sG (.moveD rfl rfl) ?_
   refine .sG (.moveD rfl rfl) ?_
   refine .sG (.lss rfl rfl rfl) ?_
   refine .sA (.pickT rfl rfl rfl) (.nil ?_)
   refine .cond rfl (fun h63 => ?_) (fun h63 => ?_)
   ·replace h63 := of_decide_eq_true h63
    refine .region ?_
    refine .sA (.moveO rfl rfl) ?_
    refine .mA ?_
    refine .mA ?_
    refine .mA ?_
    refine .mA ?_
    -- turns 1
    refine .callX rfl rfl rfl (.cons (SLe.refl _) (.cons (SLe.refl _) (.cons (SLe.i64 (by omega)) (.cons (SLe.refl _) (.cons (SLe.refl _) .nil))))) ((ih _ mid (mid + m - i) b (by omega) (by omega) (by omega) (by omega) (by omega) ht2 k4 k5 k6) 1) ⟨(.head _), trivial⟩ rfl rfl (fun _ h => nomatch h) ?_
    refine .nil ?_
    refine ⟨trivial, ⟨mem_row_eq (.head _) ?_, trivial⟩⟩
    all_goals (rw [HF])
   replace h63 := of_decide_eq_false h63
   have er3 : (sortSeg cmp (rotl l i m (mid + m - i)) a mid).map fds = (sortSeg cmp (sortSeg cmp (rotl l i m (mid + m - i)) a mid) mid b).map fds := by rw [sortSeg_self hc (by omega) ht2 (sorted_at k4 (by omega) (by omega))]
   rw [er3]
   refine .skip ?_
   refine ⟨trivial, ⟨mem_row_eq (.head _) ?_, trivial⟩⟩
   all_goals (rw [HF])
  replace g62 := of_decide_eq_false g62
  have er3 : (sortSeg cmp (rotl l i m (mid + m - i)) a mid).map fds = (sortSeg cmp (sortSeg cmp (rotl l i m (mid + m - i)) a mid) mid b).map fds := by rw [sortSeg_self hc (by omega) ht2 (sorted_at k5 (by omega) (by omega))]
  rw [er3]
  refine .pA ?_
  refine .pA ?_
  refine .pA ?_
  refine .sA (.pickF rfl rfl rfl) (.nil ?_)
  refine .cond rfl (fun h => nomatch h) (fun _ => ?_)
  refine .skip ?_
  refine ⟨trivial, ⟨mem_row_eq (.head _) ?_, trivial⟩⟩
  all_goals (rw [HF])
 replace g58 := of_decide_eq_false g58
 have er2 : (rotl l i m (mid + m - i)).map fds = (sortSeg cmp (rotl l i m (mid + m - i)) a mid).map fds := by rw [sortSeg_self hc (by omega) ht1 (sorted_at k2 (by omega) (by omega))]
 rw [er2]
 refine .pA ?_
 refine .pA ?_
 refine .pA ?_
 refine .sA (.pickF rfl rfl rfl) (.nil ?_)
 refine .cond rfl (fun h => nomatch h) (fun _ => ?_)
 refine .skip ?_
 refine .sr ?_
 refine .mA ?_
 refine .mA ?_
 refine .sA (.lss rfl rfl rfl) ?_
 refine .mA ?_
 refine .split 209 rfl (fun g64 => ?_) (fun g64 => ?_)
 ·replace g64 := of_decide_eq_true g64
  refine .sG (.moveD rfl rfl) ?_
  refine .sG (.moveD rfl rfl) ?_
  refine .sG (.lss rfl rfl rfl) ?_
  refine .sA (.pickT rfl rfl rfl) (.nil ?_)
  refine .cond rfl (fun h65 => ?_) (fun h65 => ?_)
  ·replace h65 := of_decide_eq_true h65
   refine .region ?_
   refine .sA (.moveO rfl rfl) ?_
   refine .mA ?_
   refine .mA ?_
   refine .mA ?_
   refine .mA ?_
   -- turns 1
   refine .callX rfl rfl rfl (.cons (SLe.refl _) (.cons (SLe.refl _) (.cons (SLe.i64 (by omega)) (.cons (SLe.refl _) (.cons (SLe.refl _) .nil))))) ((ih _ mid (mid + m - i) b (by omega) (by omega) (by omega) (by omega) (by omega) ht2 k4 k5 k6) 1) ⟨(.head _), trivial⟩ rfl rfl (fun _ h => nomatch h) ?_
   refine .nil ?_
   refine ⟨trivial, ⟨mem_row_eq (.head _) ?_, trivial⟩⟩
   all_goals (rw [HF])
  replace h65 := of_decide_eq_false h65
  have er3 : (sortSeg cmp (rotl l i m (mid + m - i)) a mid).map fds = (sortSeg cmp (sortSeg cmp (rotl l i m (mid + m - i)) a mid) mid b).map fds := by rw [sortSeg_self hc (by omega) ht2 (sorted_at k4 (by omega) (by omega))]
  rw [er3]
  refine .skip ?_
  refine ⟨trivial, ⟨mem_row_eq (.head _) ?_, trivial⟩⟩
  all_goals (rw [HF])
 replace g64 := of_decide_eq_false g64
 have er3 : (sortSeg cmp (rotl l i m (mid + m - i)) a mid).map fds = (sortSeg cmp (sortSeg cmp (rotl l i m (mid + m - i)) a mid) mid b).map fds := by rw [sortSeg_self hc (by omega) ht2 (sorted_at k5 (by omega) (by omega))]
 rw [er3]
 refine .pA ?_
 refine .pA ?_
 refine .pA ?_
 refine .sA (.pickF rfl rfl rfl) (.nil ?_)
 refine .cond rfl (fun h => nomatch h) (fun _ => ?_)
 refine .skip ?_
 refine ⟨trivial, ⟨mem_row_eq (.head _) ?_, trivial⟩⟩
 all_goals (rw [HF])

end Go.Proofs.YtcfamaddnmnaeaaGreatDoor

namespace Go.Proofs.YtcfamaddnmnaeaaGreatDoor
open Go.RowKit
set_option linter.unusedVariables false

/-! Types. -/
namespace TyF11
end TyF11
open TyF0 TyF1 TyF2 TyF3 TyF4 TyF5 TyF6 TyF7 TyF8 TyF9 TyF10 TyF11

theorem c_symMerge {N0 : Nat} (cmp : Fin N0 → Fin N0 → Int) (hc : PreC cmp) (f : Nat) (caps : List D) (hf : ∀ x y : Fin N0, ACall Tryz.prog f (.v (.int .i64 (x.val : Int)) :: .v (.int .i64 (y.val : Int)) :: caps) (.v (.int .i64 (cmp x y)))) : ∀ (N : Nat) (l : List (Fin N0 × Nat)) (a m b : Nat), b - a ≤ N → a < m → m < b → b ≤ l.length → l.length ≤ 4611686018427387904 → TagsOk l → SortedOn cmp l a m → SortedOn cmp l m b → Cross l a m b →
  RCall Tryz.prog 175 3 1 (l.map fds) ((sortSeg cmp l a b).map fds) [.v (.int .i64 a), .v (.int .i64 m), .v (.int .i64 b), .clo (.func f) caps] (.tup [])
 | 0, _, _, _, _, hN, h1, h2, _, _, _, _, _, _ => by omega
 | N + 1, l, a, m, b, hN, h1, h2, h3, hl, ht, s1, s2, hx => c_symStep cmp hc f caps hf (N + 1) (fun l a m b q1 q2 q3 q4 q5 q6 q7 q8 q9 => c_symMerge cmp hc f caps hf N l a m b (by omega) q2 q3 q4 q5 q6 q7 q8 q9) l a m b hN h1 h2 h3 hl ht s1 s2 hx
section
variable {α : Type} {cmp : α → α → Int}
theorem dvd_gap {s a m : Nat} (h1 : s ∣ a) (h2 : s ∣ m) (h : a < m) : a + s ≤ m := by
  obtain ⟨k, rfl⟩ := h1
  obtain ⟨j, rfl⟩ := h2
  have : k < j := Nat.lt_of_mul_lt_mul_left h
  have := Nat.mul_le_mul_left s this
  rw [Nat.mul_succ] at this
  exact this
/-- Pieces in order, cut at B; who lies before a cut came before. -/
def Runs (cmp : α → α → Int) (n : Nat) (B : Nat → Prop) (c : List (α × Nat)) : Prop := (∀ m, B m → Cross c 0 m n) ∧ ∀ i j x y, i < j → j < n → (∀ m, i < m → m ≤ j → ¬ B m) → c[i]? = some x → c[j]? = some y → tlt cmp x y
theorem Runs.congr {n : Nat} {B B' : Nat → Prop} {c : List (α × Nat)} (h : Runs cmp n B c) (hb : ∀ m, 0 < m → m < n → (B m ↔ B' m)) : Runs cmp n B' c := by
  refine ⟨fun m hm i j x y h1 h2 h3 h4 hx hy => ?_, fun i j x y h1 h2 h3 hx hy => h.2 i j x y h1 h2 (fun m q1 q2 q3 => h3 m q1 q2 ((hb m (by omega) (by omega)).1 q3)) hx hy⟩
  exact h.1 m ((hb m (by omega) (by omega)).2 hm) i j x y h1 h2 h3 h4 hx hy
theorem Runs.sorted {n : Nat} {B : Nat → Prop} {c : List (α × Nat)} (h : Runs cmp n B c) {a b : Nat} (hb : b ≤ n) (hn : ∀ m, a < m → m < b → ¬ B m) : SortedOn cmp c a b :=
  fun i j x y h1 h2 h3 hx hy => h.2 i j x y h2 (by omega) (fun m q1 q2 => hn m (by omega) (by omega)) hx hy
theorem Runs.cross {n : Nat} {B : Nat → Prop} {c : List (α × Nat)} (h : Runs cmp n B c) {a m b : Nat} (hm : B m) (hb : b ≤ n) : Cross c a m b := fun i j x y _ h2 h3 h4 hx hy => h.1 m hm i j x y (Nat.zero_le _) h2 h3 (by omega) hx hy
theorem seg_from {l : List (α × Nat)} {a b : Nat} (hab : a ≤ b) (hb : b ≤ l.length) {p : Nat} {x : α × Nat} (h : (sortSeg cmp l a b)[p]? = some x) : ∃ q, l[q]? = some x ∧ (p < a → q = p) ∧ (b ≤ p → q = p) ∧ (a ≤ p → p < b → a ≤ q ∧ q < b) := by
  by_cases h1 : p < a
  · exact ⟨p, by rw [← sortSeg_out cmp l hab hb p (.inl h1)]; exact h, fun _ => rfl, fun _ => rfl, fun _ _ => by omega⟩
  · by_cases h2 : b ≤ p
    · exact ⟨p, by rw [← sortSeg_out cmp l hab hb p (.inr h2)]; exact h, fun _ => rfl, fun _ => rfl, fun _ _ => by omega⟩
    · obtain ⟨q, q1, q2, q3⟩ := sortSeg_mem hab hb (by omega) (by omega) h
      exact ⟨q, q3, fun _ => by omega, fun _ => by omega, fun _ _ => ⟨q1, q2⟩⟩
theorem Runs.step (hc : PreC cmp) {n : Nat} {B : Nat → Prop} {c : List (α × Nat)} (h : Runs cmp n B c) (ht : TagsOk c) {a b : Nat} (hab : a ≤ b) (hbn : b ≤ n) (hn : n ≤ c.length) (hBa : B a) (hBb : B b ∨ b = n) : Runs cmp n (fun m => B m ∧ ¬ (a < m ∧ m < b)) (sortSeg cmp c a b) := by
  refine ⟨fun m hm i j x y h1 h2 h3 h4 hx hy => ?_, fun i j x y h1 h2 h3 hx hy => ?_⟩
  · obtain ⟨p, p1, p2, p3, p4⟩ := seg_from hab (by omega) hx
    obtain ⟨q, q1, q2, q3, q4⟩ := seg_from hab (by omega) hy
    refine h.1 m hm.1 p q x y (Nat.zero_le _) ?_ ?_ ?_ p1 q1 <;> have := hm.2 <;> by_cases c1 : i < a <;> by_cases c2 : b ≤ i <;> by_cases c3 : j < a <;> by_cases c4 : b ≤ j <;> omega
  · by_cases c1 : a ≤ i ∧ j < b
    · exact sortSeg_sorted hc hab (by omega) ht i j x y c1.1 h1 c1.2 hx hy
    · by_cases c2 : i < a ∧ a ≤ j
      · exact absurd ⟨hBa, by omega⟩ (h3 a c2.1 c2.2)
      · by_cases c3 : i < b ∧ b ≤ j
        · rcases hBb with hBb | hBb
          · exact absurd ⟨hBb, by omega⟩ (h3 b c3.1 c3.2)
          · omega
        · rw [sortSeg_out cmp c hab (by omega) i (by omega)] at hx
          rw [sortSeg_out cmp c hab (by omega) j (by omega)] at hy
          exact h.2 i j x y h1 h2 (fun m q1 q2 q3 => h3 m q1 q2 ⟨q3, by omega⟩) hx hy
def Bk (s a s2 m : Nat) : Prop := (s ∣ m ∧ m ≤ a) ∨ (s2 ∣ m ∧ a ≤ m)
theorem Bk.start {l : List (α × Nat)} {n s : Nat} (h : Incr l 0 n) : Runs cmp n (Bk s 0 1) l :=
  ⟨fun m hm i j x y h1 h2 h3 h4 hx hy => h i j x y h1 (by omega) h4 hx hy, fun i j x y h1 h2 h3 => absurd (.inr ⟨Nat.one_dvd _, Nat.zero_le _⟩) (h3 j h1 (Nat.le_refl _))⟩
theorem Bk.incr {c : List (α × Nat)} {n s a b : Nat} (h : Runs cmp n (Bk s a 1) c) (hb : b ≤ n) : Incr c a b := fun i j x y h1 h2 h3 hx hy => h.1 j (.inr ⟨Nat.one_dvd _, by omega⟩) i j x y (Nat.zero_le _) h2 (Nat.le_refl _) (by omega) hx hy
theorem Bk.at {s a s2 : Nat} (h : s ∣ a) : Bk s a s2 a := .inl ⟨h, Nat.le_refl _⟩
theorem Bk.next {s a s2 : Nat} (h : s2 ∣ s) (ha : s ∣ a) (hs : 0 < s) (m : Nat) : (Bk s a s2 m ∧ ¬ (a < m ∧ m < a + s)) ↔ Bk s (a + s) s2 m := by
  constructor
  · rintro ⟨⟨h1, h2⟩ | ⟨h1, h2⟩, h3⟩
    · exact .inl ⟨h1, by omega⟩
    · by_cases e : m = a
      · subst e; exact .inl ⟨ha, by omega⟩
      · exact .inr ⟨h1, by omega⟩
  · rintro (⟨h1, h2⟩ | ⟨h1, h2⟩)
    · by_cases e : m ≤ a
      · exact ⟨.inl ⟨h1, e⟩, by omega⟩
      · have := dvd_gap ha h1 (by omega)
        exact ⟨.inr ⟨Nat.dvd_trans h h1, by omega⟩, by omega⟩
    · exact ⟨.inr ⟨h1, by omega⟩, by omega⟩
theorem Bk.last {s a s2 n : Nat} (ha : s ∣ a) (hn : n ≤ a + s) (m : Nat) (hm : m < n) : (Bk s a s2 m ∧ ¬ (a < m ∧ m < n)) ↔ s ∣ m := by
  constructor
  · rintro ⟨⟨h1, h2⟩ | ⟨h1, h2⟩, h3⟩
    · exact h1
    · have : m = a := by omega
      subst this; exact ha
  · intro h1
    have h2 : m ≤ a := Nat.le_of_not_lt fun hh => by have := dvd_gap ha h1 hh; omega
    exact ⟨.inl ⟨h1, h2⟩, by omega⟩
theorem Bk.skip {s a s2 n : Nat} (ha : s ∣ a) (ha2 : s2 ∣ a) (h2 : s2 ≤ s) (hn : n ≤ a + s2) (m : Nat) (hm : m < n) : Bk s a s2 m ↔ s ∣ m := by
  constructor
  · rintro (⟨h1, h2⟩ | ⟨h1, h2⟩)
    · exact h1
    · have h3 : m ≤ a := Nat.le_of_not_lt fun hh => by have := dvd_gap ha2 h1 hh; omega
      have : m = a := by omega
      subst this; exact ha
  · intro h1
    exact .inl ⟨h1, Nat.le_of_not_lt fun hh => by have := dvd_gap ha h1 hh; omega⟩
theorem Bk.open {s : Nat} (m : Nat) : s ∣ m ↔ Bk (2 * s) 0 s m :=
  ⟨fun h => .inr ⟨h, Nat.zero_le _⟩, fun h => h.elim (fun h => Nat.dvd_trans ⟨2, Nat.mul_comm _ _⟩ h.1) (fun h => h.1)⟩
theorem Bk.run1 {c : List (α × Nat)} {n s a : Nat} (h : Runs cmp n (Bk (2 * s) a s) c) (ha : s ∣ a) (hb : a + s ≤ n) : SortedOn cmp c a (a + s) := h.sorted hb fun m h1 h2 h3 => by
  rcases h3 with ⟨_, h3⟩ | ⟨h3, _⟩
  · omega
  · have := dvd_gap ha h3 h1; omega
theorem Bk.run2 {c : List (α × Nat)} {n s a b : Nat} (h : Runs cmp n (Bk (2 * s) a s) c) (ha : s ∣ a) (hb : b ≤ n) (hb2 : b ≤ a + 2 * s) : SortedOn cmp c (a + s) b := h.sorted hb fun m h1 h2 h3 => by
  rcases h3 with ⟨_, h3⟩ | ⟨h3, _⟩
  · omega
  · have := dvd_gap (Nat.dvd_add ha (Nat.dvd_refl s)) h3 h1; omega
theorem Bk.mid {s a : Nat} (ha : s ∣ a) : Bk (2 * s) a s (a + s) := .inr ⟨Nat.dvd_add ha (Nat.dvd_refl s), by omega⟩
theorem runs_end (hc : PreC cmp) {l c : List (α × Nat)} {s : Nat} (ht : TagsOk l) (hp : c.Perm l) (h : Runs cmp l.length (fun m => s ∣ m) c) (hs : l.length ≤ s) : c = sortSeg cmp l 0 l.length :=
  sortSeg_eq hc (Nat.zero_le _) ht hp (fun p h1 => by rw [List.getElem?_eq_none (by rw [hp.length_eq]; omega), List.getElem?_eq_none (by omega)])
    (h.sorted (Nat.le_refl _) fun m h1 h2 h3 => by have := Nat.le_of_dvd h1 h3; omega)
end

set_option maxRecDepth 100000 in
set_option maxHeartbeats 1000000 in
theorem c_stable {N0 : Nat} (cmp : Fin N0 → Fin N0 → Int) (hc : PreC cmp) (f : Nat) (caps : List D) (hf : ∀ x y : Fin N0, ACall Tryz.prog f (.v (.int .i64 (x.val : Int)) :: .v (.int .i64 (y.val : Int)) :: caps) (.v (.int .i64 (cmp x y)))) (l : List (Fin N0 × Nat)) (hl : l.length ≤ 1152921504606846976) (ht : TagsOk l) (hin : Incr l 0 l.length) : RCall Tryz.prog 125 3 1 (l.map fds) ((sortSeg cmp l 0 l.length).map fds) [.v (.int .i64 l.length), .clo (.func f) caps] (.tup []) := by
 refine RCall.of1 (chg := fun i => Nat.ble 1000 i) (xcall_of (n := 63) (ds' := []) Tryz.func125 rfl (by kernel_rfl) rfl [] rfl rfl ?_) rfl
 intro B w0 F0 fr ρ0
 refine .sr ?_
 refine .aA (.nil ?_)
 refine .sr ?_
 refine .mA ?_
 refine .aA ?_
 refine .aA (.nil ?_)
 refine .seq ?_
 refine .block ?_
 refine .loop (G := List (Fin N0 × Nat) × Nat) (fun g => Env.of [(6, .d (.v (.int .i64 20))), (7, .d (.v (.int .i64 (g.2 : Int)))), (8, .d (.v (.int .i64 ((g.2 + 20 : Nat) : Int)))), (0, .own 1), (1, .d (.v (.int .i64 (l.length : Int)))), (2, .d (.clo (.func f) caps))]) (fun g => [(1, .row 3 1 (g.1.map fds))]) (fun g => 20 ∣ g.2 ∧ g.2 ≤ l.length ∧ Runs cmp l.length (Bk 20 g.2 1) g.1 ∧ g.1.Perm l) (fun g => l.length - g.2) (l, 0) ⟨Nat.dvd_zero _, Nat.zero_le _, Bk.start hin, List.Perm.refl _⟩ (Sub.less ⟨SLe.refl _, (SLe.i64 rfl), (SLe.i64 rfl), SLe.refl _, SLe.refl _, SLe.refl _, trivial⟩ (row_same rfl)) ?_
 rintro ⟨c, a⟩ ⟨hg1, hg2, hg3, hg4⟩
 dsimp only at hg1 hg2 hg3 hg4 ⊢
 have hcl := hg4.length_eq
 have htc : TagsOk c := ht.perm hg4
 refine .seq ?_
 refine .sr ?_
 refine .mA ?_
 refine .mA ?_
 refine .sA (.leq rfl rfl rfl) (.nil ?_)
 refine .cond rfl (fun h1 => ?_) (fun h1 => ?_)
 ·replace h1 := of_decide_eq_true h1
  refine .skip ?_
  refine .block ?_
  refine .sr ?_
  refine .sA (.moveO rfl rfl) ?_
  refine .mA ?_
  refine .mA ?_
  refine .mA ?_
  -- turns 1
  refine .callX rfl rfl rfl (.cons (SLe.refl _) (.cons (SLe.refl _) (.cons (SLe.i64 (by omega)) (.cons (SLe.refl _) .nil)))) ((c_insSort c a (a + 20) cmp hc f caps hf htc (Bk.incr hg3 (by omega)) (by omega) (by omega) (by omega)) 1) ⟨(.head _), trivial⟩ rfl rfl (fun _ h => nomatch h) ?_
  refine .nil ?_
  refine .sr ?_
  refine .mA ?_
  refine .aA (.nil ?_)
  refine .region ?_
  refine .mA ?_
  refine .mA ?_
  refine .sA (.add64 rfl rfl rfl (by omega) (by omega)) ?_
  refine .aA (.nil ?_)
  refine ⟨(sortSeg cmp c a (a + 20), a + 20), ⟨Nat.dvd_add hg1 (Nat.dvd_refl _), by dsimp only; omega, (hg3.step hc htc (a := a) (b := a + 20) (by omega) (by omega) (by omega) (Bk.at hg1) (.inl (.inr ⟨Nat.one_dvd _, by omega⟩))).congr (fun m _ _ => Bk.next (s := 20) (s2 := 1) (Nat.one_dvd _) hg1 (by decide) m), (sortSeg_perm cmp c (Nat.le_add_right _ _)).trans hg4⟩, (by dsimp only; omega), Sub.less ⟨SLe.refl _, (SLe.i64 (by first | rfl | omega | (dsimp only; omega))), (SLe.i64 (by first | rfl | omega | (dsimp only; omega))), SLe.refl _, SLe.refl _, SLe.refl _, trivial⟩ (row_same rfl)⟩
 replace h1 := of_decide_eq_false h1
 have hr1 := hg3.step hc htc (a := a) (b := l.length) (by omega) (Nat.le_refl _) (by omega) (Bk.at hg1) (.inr rfl)
 have hr2 : Runs cmp l.length (fun m => 20 ∣ m) (sortSeg cmp c a l.length) := hr1.congr fun m _ q2 => Bk.last hg1 (by omega) m q2
 have hp2 : (sortSeg cmp c a l.length).Perm l := (sortSeg_perm cmp c hg2).trans hg4
 refine .exit ?_
 refine .sr ?_
 refine .sA (.moveO rfl rfl) ?_
 refine .mA ?_
 refine .mA ?_
 refine .mA ?_
 -- turns 1
 refine .callX rfl rfl rfl (.cons (SLe.refl _) (.cons (SLe.refl _) (.cons (SLe.refl _) (.cons (SLe.refl _) .nil)))) ((c_insSort c a l.length cmp hc f caps hf htc (Bk.incr hg3 (Nat.le_refl _)) hg2 (by omega) (by omega)) 1) ⟨(.head _), trivial⟩ rfl rfl (fun _ h => nomatch h) ?_
 refine .nil ?_
 refine .block ?_
 refine .loop (G := List (Fin N0 × Nat) × Nat) (fun g => Env.of [(6, .d (.v (.int .i64 (g.2 : Int)))), (0, .own 1), (1, .d (.v (.int .i64 (l.length : Int)))), (2, .d (.clo (.func f) caps))]) (fun g => [(1, .row 3 1 (g.1.map fds))]) (fun g => 20 ≤ g.2 ∧ g.2 ≤ 2305843009213693952 ∧ g.1.Perm l ∧ Runs cmp l.length (fun m => g.2 ∣ m) g.1) (fun g => l.length - g.2) (sortSeg cmp c a l.length, 20) ⟨Nat.le_refl _, by dsimp only; omega, hp2, hr2⟩ (Sub.less ⟨(SLe.i64 rfl), SLe.refl _, SLe.refl _, SLe.refl _, trivial⟩ (row_same rfl)) ?_
 rintro ⟨c0, s⟩ ⟨hs1, hs2, hq2, hq3⟩
 dsimp only at hs1 hs2 hq2 hq3 ⊢
 have hcl0 := hq2.length_eq
 refine .seq ?_
 refine .sr ?_
 refine .mA ?_
 refine .mA ?_
 refine .sA (.lss rfl rfl rfl) (.nil ?_)
 refine .cond rfl (fun h2 => ?_) (fun h2 => ?_)
 ·replace h2 := of_decide_eq_true h2
  have hsl : s < l.length := by omega
  refine .skip ?_
  refine .block ?_
  refine .sr ?_
  refine .mA ?_
  refine .sA (.mul64 rfl rfl rfl (by omega) (by omega)) ?_
  refine .aA ?_
  refine .aA (.nil ?_)
  refine .seq ?_
  refine .block ?_
  refine .loop (G := List (Fin N0 × Nat) × Nat) (fun g => Env.of [(6, .d (.v (.int .i64 (s : Int)))), (7, .d (.v (.int .i64 (g.2 : Int)))), (8, .d (.v (.int .i64 ((g.2 + 2 * s : Nat) : Int)))), (0, .own 1), (1, .d (.v (.int .i64 (l.length : Int)))), (2, .d (.clo (.func f) caps))]) (fun g => [(1, .row 3 1 (g.1.map fds))]) (fun g => 2 * s ∣ g.2 ∧ g.2 ≤ l.length ∧ Runs cmp l.length (Bk (2 * s) g.2 s) g.1 ∧ g.1.Perm l) (fun g => l.length - g.2) (c0, 0) ⟨Nat.dvd_zero _, Nat.zero_le _, hq3.congr (fun m _ _ => Bk.open m), hq2⟩ (Sub.less ⟨SLe.refl _, (SLe.i64 rfl), (SLe.i64 (by first | rfl | omega | (dsimp only; omega))), SLe.refl _, SLe.refl _, SLe.refl _, trivial⟩ (row_same rfl)) ?_
  rintro ⟨c, a⟩ ⟨hg1, hg2, hg3, hg4⟩
  dsimp only at hg1 hg2 hg3 hg4 ⊢
  have hcl := hg4.length_eq
  have htc : TagsOk c := ht.perm hg4
  refine .seq ?_
  refine .sr ?_
  refine .mA ?_
  refine .mA ?_
  refine .sA (.leq rfl rfl rfl) (.nil ?_)
  refine .cond rfl (fun h3 => ?_) (fun h3 => ?_)
  ·replace h3 := of_decide_eq_true h3
   have hb2 : a + 2 * s ≤ l.length := by omega
   have sa : s ∣ a := Nat.dvd_trans ⟨2, Nat.mul_comm _ _⟩ hg1
   refine .skip ?_
   refine .block ?_
   refine .sr ?_
   refine .sA (.moveO rfl rfl) ?_
   refine .mA ?_
   refine .mA ?_
   refine .mA ?_
   refine .sA (.add64 rfl rfl rfl (by omega) (by omega)) ?_
   refine .mA ?_
   refine .mA ?_
   -- turns 1
   refine .callX rfl rfl rfl (.cons (SLe.refl _) (.cons (SLe.refl _) (.cons (SLe.i64 (by omega)) (.cons (SLe.i64 (by omega)) (.cons (SLe.refl _) .nil))))) ((c_symMerge cmp hc f caps hf _ c a (a + s) (a + 2 * s) (Nat.le_refl _) (by omega) (by omega) (by omega) (by omega) htc (Bk.run1 hg3 sa (by omega)) (Bk.run2 hg3 sa hb2 (Nat.le_refl _)) (hg3.cross (Bk.mid sa) hb2)) 1) ⟨(.head _), trivial⟩ rfl rfl (fun _ h => nomatch h) ?_
   refine .nil ?_
   refine .sr ?_
   refine .mA ?_
   refine .aA (.nil ?_)
   refine .region ?_
   refine .mA ?_
   refine .mA ?_
   refine .sA (.mul64 rfl rfl rfl (by omega) (by omega)) ?_
   refine .sA (.add64 rfl rfl rfl (by omega) (by omega)) ?_
   refine .aA (.nil ?_)
   refine ⟨(sortSeg cmp c a (a + 2 * s), a + 2 * s), ⟨Nat.dvd_add hg1 (Nat.dvd_refl _), by dsimp only; omega, (hg3.step hc htc (a := a) (b := a + 2 * s) (by omega) (by omega) (by omega) (Bk.at hg1) (.inl (.inr ⟨Nat.dvd_add sa ⟨2, Nat.mul_comm _ _⟩, by omega⟩))).congr (fun m _ _ => Bk.next (s := 2 * s) (s2 := s) ⟨2, Nat.mul_comm _ _⟩ hg1 (by omega) m), (sortSeg_perm cmp c (Nat.le_add_right _ _)).trans hg4⟩, (by dsimp only; omega), Sub.less ⟨SLe.refl _, (SLe.i64 (by first | rfl | omega | (dsimp only; omega))), (SLe.i64 (by first | rfl | omega | (dsimp only; omega))), SLe.refl _, SLe.refl _, SLe.refl _, trivial⟩ (row_same rfl)⟩
  replace h3 := of_decide_eq_false h3
  have sa : s ∣ a := Nat.dvd_trans ⟨2, Nat.mul_comm _ _⟩ hg1
  refine .exit ?_
  refine .seq ?_
  refine .sr ?_
  refine .mA ?_
  refine .mA ?_
  refine .sA (.add64 rfl rfl rfl (by omega) (by omega)) ?_
  refine .aA (.nil ?_)
  refine .sr ?_
  refine .mA ?_
  refine .mA ?_
  refine .sA (.lss rfl rfl rfl) (.nil ?_)
  refine .cond rfl (fun h4 => ?_) (fun h4 => ?_)
  ·replace h4 := of_decide_eq_true h4
   have hr1 := hg3.step hc htc (a := a) (b := l.length) (by omega) (Nat.le_refl _) (by omega) (Bk.at hg1) (.inr rfl)
   have hr2 : Runs cmp l.length (fun m => 2 * s ∣ m) (sortSeg cmp c a l.length) := hr1.congr fun m _ q2 => Bk.last hg1 (by omega) m q2
   have hp2 : (sortSeg cmp c a l.length).Perm l := (sortSeg_perm cmp c hg2).trans hg4
   refine .region ?_
   refine .sA (.moveO rfl rfl) ?_
   refine .mA ?_
   refine .mA ?_
   refine .mA ?_
   refine .mA ?_
   -- turns 1
   refine .callX rfl rfl rfl (.cons (SLe.refl _) (.cons (SLe.refl _) (.cons (SLe.i64 (by omega)) (.cons (SLe.refl _) (.cons (SLe.refl _) .nil))))) ((c_symMerge cmp hc f caps hf _ c a (a + s) l.length (Nat.le_refl _) (by omega) (by omega) (by omega) (by omega) htc (Bk.run1 hg3 sa (by omega)) (Bk.run2 hg3 sa (Nat.le_refl _) (by omega)) (hg3.cross (Bk.mid sa) (Nat.le_refl _))) 1) ⟨(.head _), trivial⟩ rfl rfl (fun _ h => nomatch h) ?_
   refine .nil ?_
   refine .region ?_
   refine .mA ?_
   refine .sA (.mul64 rfl rfl rfl (by omega) (by omega)) ?_
   refine .aA (.nil ?_)
   refine ⟨(sortSeg cmp c a l.length, 2 * s), ⟨by dsimp only; omega, by dsimp only; omega, hp2, hr2⟩, (by dsimp only; omega), Sub.less ⟨(SLe.i64 (by first | rfl | omega | (dsimp only; omega))), SLe.refl _, SLe.refl _, SLe.refl _, trivial⟩ (row_same rfl)⟩
  replace h4 := of_decide_eq_false h4
  have hr2 : Runs cmp l.length (fun m => 2 * s ∣ m) c := hg3.congr fun m _ q2 => Bk.skip hg1 sa (by omega) (by omega) m q2
  refine .skip ?_
  refine .region ?_
  refine .mA ?_
  refine .sA (.mul64 rfl rfl rfl (by omega) (by omega)) ?_
  refine .aA (.nil ?_)
  refine ⟨(c, 2 * s), ⟨by dsimp only; omega, by dsimp only; omega, hg4, hr2⟩, (by dsimp only; omega), Sub.less ⟨(SLe.i64 (by first | rfl | omega | (dsimp only; omega))), SLe.refl _, SLe.refl _, SLe.refl _, trivial⟩ (row_same rfl)⟩
 replace h2 := of_decide_eq_false h2
 have HF := runs_end hc ht hq2 hq3 (by omega)
 refine .exit ?_
 refine ⟨trivial, ⟨mem_row_eq (.head _) ?_, trivial⟩⟩
 all_goals (rw [HF])

set_option maxRecDepth 100000 in
set_option maxHeartbeats 1000000 in
theorem c_sortStable {N0 : Nat} (cmp : Fin N0 → Fin N0 → Int) (hc : PreC cmp) (f : Nat) (caps : List D) (hf : ∀ x y : Fin N0, ACall Tryz.prog f (.v (.int .i64 (x.val : Int)) :: .v (.int .i64 (y.val : Int)) :: caps) (.v (.int .i64 (cmp x y)))) (l : List (Fin N0 × Nat)) (hl : l.length ≤ 1152921504606846976) (ht : TagsOk l) (hin : Incr l 0 l.length) : RCall Tryz.prog 78 3 1 (l.map fds) ((sortSeg cmp l 0 l.length).map fds) [.clo (.func f) caps] (.tup []) := by
 refine RCall.of1 (chg := fun i => Nat.ble 1000 i) (xcall_of (n := 9) (ds' := []) Tryz.func78 rfl (by kernel_rfl) rfl [] rfl rfl ?_) rfl
 intro B w0 F0 fr ρ0
 refine .region ?_
 refine .sA (.moveO rfl rfl) ?_
 refine .sA (.moveO rfl rfl) ?_
 refine .sA (.lenOwn rfl et_37.ht rfl (.head _)) ?_
 refine .mA ?_
 -- turns 1
 refine .callX rfl rfl rfl (.cons (SLe.refl _) (.cons (SLe.i64 (by rw [List.length_map])) (.cons (SLe.refl _) .nil))) ((c_stable cmp hc f caps hf l hl ht hin) 1) ⟨(.head _), trivial⟩ rfl rfl (fun _ h => nomatch h) ?_
 refine .nil ?_
 refine ⟨trivial, ⟨mem_row_eq (.head _) ?_, trivial⟩⟩
 all_goals (rfl)

end Go.Proofs.YtcfamaddnmnaeaaGreatDoor

namespace Go.Proofs.YtcfamaddnmnaeaaGreatDoor
open Go.RowKit
set_option linter.unusedVariables false

/-! Types. -/
namespace TyG1
end TyG1
open TyF0 TyF1 TyF2 TyF3 TyF4 TyF5 TyF6 TyF7 TyF8 TyF9 TyF10 TyF11 TyG1

/-! What Divide comes to. -/
def rowF (f : Nat → Int) (n : Nat) : List (List D) := (List.range n).map fun i => intD (f i)
theorem rowF_len (f : Nat → Int) (n : Nat) : (rowF f n).length = n := by unfold rowF; simp
theorem rowF_at {f : Nat → Int} {n k : Nat} (h : k < n) : (rowF f n)[k]? = some (intD (f k)) := by unfold rowF; simp [h]
theorem rowF_congr {f g : Nat → Int} {n : Nat} (h : ∀ i, i < n → f i = g i) : rowF f n = rowF g n := by
  unfold rowF
  exact List.map_congr_left fun i hi => by rw [h i (List.mem_range.1 hi)]
theorem rowF_set {f g : Nat → Int} {n k : Nat} {v : Int} (hk : k < n) (h : ∀ i, i < n → g i = if i = k then v else f i) : (rowF f n).set k (intD v) = rowF g n := by
  apply List.ext_getElem?
  intro i
  rw [List.getElem?_set, rowF_len]
  by_cases e : k = i
  · subst e
    rw [if_pos rfl, if_pos hk, rowF_at hk, h k hk, if_pos rfl]
  · rw [if_neg e]
    by_cases hi : i < n
    · rw [rowF_at hi, rowF_at hi, h i hi, if_neg (Ne.symm e)]
    · rw [List.getElem?_eq_none (by rw [rowF_len]; omega), List.getElem?_eq_none (by rw [rowF_len]; omega)]
theorem rowF_zero (n : Nat) : List.replicate n (intD 0) = rowF (fun _ => 0) n := by
  unfold rowF
  rw [List.map_const', List.length_range]
def inR (lo hi x : Int) : Bool := decide (lo ≤ x ∧ x ≤ hi)
def divFault (t : Int) (ws : List Int) : Int :=
  if (ws.length : Int) = 0 then 9 else if 500 < (ws.length : Int) then 2 else if ¬ (0 ≤ t ∧ t ≤ 1000000000) then 1 else if ∃ w ∈ ws, ¬ (0 ≤ w ∧ w ≤ 1000000000) then 1 else if ws.sum = 0 then 13 else 0
def wAt (ws : List Int) (i : Nat) : Int := ws.getD i 0
def qAt (t : Int) (ws : List Int) (i : Nat) : Int := t * wAt ws i / ws.sum
def rAt (t : Int) (ws : List Int) (i : Nat) : Int := t * wAt ws i % ws.sum
def leftTo (t : Int) (ws : List Int) (k : Nat) : Int := t - ((List.range k).map (qAt t ws)).sum
def cmpF (t : Int) (ws : List Int) {n : Nat} (i k : Fin n) : Int := if rAt t ws k < rAt t ws i then -1 else if rAt t ws i < rAt t ws k then 1 else 0
theorem pre_cmpF (t : Int) (ws : List Int) (n : Nat) : PreC (cmpF t ws (n := n)) := by
  constructor
  · intro x y h
    unfold cmpF at *
    split at h
    · rw [if_neg (by omega), if_pos (by assumption)]; decide
    · split at h <;> simp at h
  · intro x y z h1 h2
    unfold cmpF at *
    by_cases h3 : rAt t ws x < rAt t ws y
    · rw [if_pos h3] at h1; simp at h1
    · by_cases h4 : rAt t ws y < rAt t ws z
      · rw [if_pos h4] at h2; simp at h2
      · rw [if_neg (by omega)]; split <;> decide
def idL (n : Nat) : List (Fin n × Nat) := (List.finRange n).map fun i => (i, i.val)
theorem idL_len (n : Nat) : (idL n).length = n := by unfold idL; simp
theorem idL_incr (n : Nat) : (idL n).Pairwise (fun x y => x.2 < y.2) := by
  unfold idL
  rw [List.pairwise_map]
  refine List.pairwise_iff_getElem.2 fun i j hi hj hij => ?_
  simpa using hij
theorem idL_incr' (n b : Nat) : Incr (idL n) 0 b := fun i j x y _ hij _ hx hy => by
  obtain ⟨h1, e1⟩ := List.getElem?_eq_some_iff.1 hx
  obtain ⟨h2, e2⟩ := List.getElem?_eq_some_iff.1 hy
  rw [← e1, ← e2]
  exact List.pairwise_iff_getElem.1 (idL_incr n) i j h1 h2 hij
theorem idL_tags (n : Nat) : TagsOk (idL n) := by
  unfold TagsOk
  rw [List.Nodup, List.pairwise_map]
  exact (idL_incr n).imp fun h => by omega
theorem idL_row (n : Nat) : (idL n).map fds = rowF (fun i => (i : Int)) n := by
  apply List.ext_getElem?
  intro i
  by_cases hi : i < n
  · rw [rowF_at hi]
    unfold idL
    simp [hi, fds, intD]
  · rw [List.getElem?_eq_none (by rw [List.length_map, idL_len]; omega), List.getElem?_eq_none (by rw [rowF_len]; omega)]
/-- The order in which what is left is given. -/
def ordL (t : Int) (ws : List Int) : List (Fin ws.length × Nat) := sortSeg (cmpF t ws) (idL ws.length) 0 (idL ws.length).length
def pick (t : Int) (ws : List Int) (j : Nat) : List Nat := ((ordL t ws).take j).map fun p => p.1.val
theorem ordL_perm (t : Int) (ws : List Int) : (ordL t ws).Perm (idL ws.length) := sortSeg_perm _ _ (Nat.zero_le _)
theorem ordL_len (t : Int) (ws : List Int) : (ordL t ws).length = ws.length := by rw [(ordL_perm t ws).length_eq, idL_len]
theorem ordL_tag {t : Int} {ws : List Int} {p : Fin ws.length × Nat} (h : p ∈ ordL t ws) : p.2 = p.1.val := by
  have := (ordL_perm t ws).subset h
  unfold idL at this
  obtain ⟨i, _, rfl⟩ := List.mem_map.1 this
  rfl
theorem ordL_inj {t : Int} {ws : List Int} {m k : Nat} (hm : m < (ordL t ws).length) (hk : k < (ordL t ws).length) (h : (ordL t ws)[m].1.val = (ordL t ws)[k].1.val) : m = k := by
  have ht : TagsOk (ordL t ws) := (idL_tags ws.length).perm (ordL_perm t ws)
  unfold TagsOk at ht
  have h1 : ((ordL t ws).map Prod.snd)[m]'(by simpa using hm) = ((ordL t ws).map Prod.snd)[k]'(by simpa using hk) := by
    rw [List.getElem_map, List.getElem_map, ordL_tag (List.getElem_mem hm), ordL_tag (List.getElem_mem hk), h]
  exact (List.getElem_inj ht).1 h1
theorem ordL_sorted {t : Int} {ws : List Int} {m k : Nat} (hmk : m < k) (hk : k < (ordL t ws).length) : rAt t ws (ordL t ws)[k].1.val < rAt t ws ((ordL t ws)[m]'(by omega)).1.val ∨ (rAt t ws (ordL t ws)[k].1.val ≤ rAt t ws ((ordL t ws)[m]'(by omega)).1.val ∧ ((ordL t ws)[m]'(by omega)).1.val < (ordL t ws)[k].1.val) := by
  have hs : SortedOn (cmpF t ws) (ordL t ws) 0 (idL ws.length).length := sortSeg_sorted (pre_cmpF t ws ws.length) (Nat.zero_le _) (Nat.le_refl _) (idL_tags _)
  have hl := ordL_len t ws
  have h := hs m k _ _ (Nat.zero_le _) hmk (by rw [idL_len]; omega) (List.getElem?_eq_getElem (by omega)) (List.getElem?_eq_getElem hk)
  unfold tlt cmpF at h
  rw [ordL_tag (List.getElem_mem _), ordL_tag (List.getElem_mem hk)] at h
  rcases h with h | ⟨h1, h2⟩
  · left
    split at h
    · assumption
    · split at h <;> simp at h
  · right
    refine ⟨?_, h2⟩
    by_cases h3 : rAt t ws ((ordL t ws)[m]'(by omega)).1.val < rAt t ws (ordL t ws)[k].1.val
    · rw [if_pos h3] at h1; simp at h1
    · omega
theorem pick_succ {t : Int} {ws : List Int} {j : Nat} (hj : j < (ordL t ws).length) : pick t ws (j + 1) = pick t ws j ++ [(ordL t ws)[j].1.val] := by
  unfold pick; rw [List.take_add_one, List.getElem?_eq_getElem hj, Option.toList_some, List.map_append]; rfl
theorem mem_pick {t : Int} {ws : List Int} {j i : Nat} : i ∈ pick t ws j ↔ ∃ m, ∃ hm : m < (ordL t ws).length, m < j ∧ (ordL t ws)[m].1.val = i := by
  unfold pick
  rw [List.mem_map]
  constructor
  · rintro ⟨p, hp, rfl⟩
    obtain ⟨m, hm, e⟩ := List.mem_take_iff_getElem.1 hp
    exact ⟨m, by omega, by omega, by rw [e]⟩
  · rintro ⟨m, hm, hmj, rfl⟩
    exact ⟨_, List.mem_take_iff_getElem.2 ⟨m, by omega, rfl⟩, rfl⟩
theorem pick_new {t : Int} {ws : List Int} {j : Nat} (hj : j < (ordL t ws).length) : ¬ (ordL t ws)[j].1.val ∈ pick t ws j := fun h => by
  obtain ⟨m, hm, hmj, e⟩ := mem_pick.1 h
  have := ordL_inj hm hj e
  omega
def outF (t : Int) (ws : List Int) (j i : Nat) : Int := qAt t ws i + if i ∈ pick t ws j then 1 else 0
def restF (t : Int) (ws : List Int) (j i : Nat) : Int := if i ∈ pick t ws j then -1 else rAt t ws i
theorem pick_mem_succ {t : Int} {ws : List Int} {j i : Nat} (hj : j < (ordL t ws).length) : i ∈ pick t ws (j + 1) ↔ i ∈ pick t ws j ∨ i = (ordL t ws)[j].1.val := by rw [pick_succ hj, List.mem_append, List.mem_singleton]
theorem outF_succ {t : Int} {ws : List Int} {j : Nat} (hj : j < (ordL t ws).length) (i : Nat) : outF t ws (j + 1) i = if i = (ordL t ws)[j].1.val then outF t ws j (ordL t ws)[j].1.val + 1 else outF t ws j i := by
  unfold outF
  by_cases h : i = (ordL t ws)[j].1.val
  · subst h
    rw [if_pos rfl, if_pos ((pick_mem_succ hj).2 (.inr rfl)), if_neg (pick_new hj)]
    omega
  · rw [if_neg h]
    by_cases h2 : i ∈ pick t ws j
    · rw [if_pos h2, if_pos ((pick_mem_succ hj).2 (.inl h2))]
    · rw [if_neg h2, if_neg (fun h3 => ((pick_mem_succ hj).1 h3).elim h2 h)]
/-- The first of the greatest. -/
def FstMax (f : Nat → Int) (n b : Nat) : Prop := ∀ i, i < n → f i < f b ∨ (f i ≤ f b ∧ b ≤ i)
end Go.Proofs.YtcfamaddnmnaeaaGreatDoor

namespace Go.Proofs.YtcfamaddnmnaeaaGreatDoor
open Go.RowKit
set_option linter.unusedVariables false

/-! Types. -/
namespace TyG2
theorem sc_37 : Scal Tryz.prog 37 := .of (by kernel_rfl)
theorem zt_3 : (Tryz.prog.info? 3).bind (·.zero) = some (.int .i64 0) := by kernel_rfl
end TyG2
open TyF0 TyF1 TyF2 TyF3 TyF4 TyF5 TyF6 TyF7 TyF8 TyF9 TyF10 TyF11 TyG1 TyG2

structure DivOk (t : Int) (ws : List Int) : Prop where
  n0 : 0 < ws.length
  n1 : ws.length ≤ 500
  t0 : 0 ≤ t ∧ t ≤ 1000000000
  w0 : ∀ w ∈ ws, 0 ≤ w ∧ w ≤ 1000000000
  s0 : 0 < ws.sum
theorem sum_bnd : ∀ {l : List Int}, (∀ w ∈ l, 0 ≤ w ∧ w ≤ 1000000000) → 0 ≤ l.sum ∧ l.sum ≤ 1000000000 * (l.length : Int)
  | [], _ => by simp
  | w :: l, h => by
    have h1 := sum_bnd (l := l) fun x hx => h x (List.mem_cons_of_mem _ hx)
    have h2 := h w List.mem_cons_self
    simp only [List.sum_cons, List.length_cons, Int.natCast_add, Int.natCast_one, Int.mul_add]
    omega
theorem take_sum {l : List Int} {k : Nat} (hk : k < l.length) : (l.take (k + 1)).sum = (l.take k).sum + l[k] := by
  rw [List.take_add_one, List.getElem?_eq_getElem hk, Option.toList_some, List.sum_append]; simp
theorem wAt_eq {ws : List Int} {k : Nat} (hk : k < ws.length) : wAt ws k = ws[k] := by unfold wAt; rw [List.getD_eq_getElem?_getD, List.getElem?_eq_getElem hk]; rfl
theorem DivOk.w {t : Int} {ws : List Int} (h : DivOk t ws) (i : Nat) : 0 ≤ wAt ws i ∧ wAt ws i ≤ 1000000000 := by
  by_cases hi : i < ws.length
  · rw [wAt_eq hi]; exact h.w0 _ (List.getElem_mem hi)
  · unfold wAt; rw [List.getD_eq_getElem?_getD, List.getElem?_eq_none (by omega)]; simp
theorem mul_bnd {t w : Int} (ht : 0 ≤ t ∧ t ≤ 1000000000) (hw : 0 ≤ w ∧ w ≤ 1000000000) : 0 ≤ t * w ∧ t * w ≤ 1000000000000000000 := by
  refine ⟨Int.mul_nonneg ht.1 hw.1, ?_⟩
  have h1 : t * w ≤ t * 1000000000 := Int.mul_le_mul_of_nonneg_left hw.2 ht.1
  omega
theorem DivOk.q {t : Int} {ws : List Int} (h : DivOk t ws) (i : Nat) : ws.sum * qAt t ws i + rAt t ws i = t * wAt ws i ∧ 0 ≤ qAt t ws i ∧ 0 ≤ rAt t ws i ∧ rAt t ws i ≤ ws.sum - 1 := by
  have hm := mul_bnd h.t0 (h.w i)
  have hs := h.s0
  refine ⟨?_, Int.ediv_nonneg hm.1 (by omega), Int.emod_nonneg _ (by omega), by have := Int.emod_lt_of_pos (t * wAt ws i) hs; unfold rAt; omega⟩
  unfold qAt rAt
  exact Int.mul_ediv_add_emod _ _
theorem leftTo_succ (t : Int) (ws : List Int) (k : Nat) : leftTo t ws (k + 1) = leftTo t ws k - qAt t ws k := by
  unfold leftTo
  rw [List.range_succ, List.map_append, List.sum_append]
  simp
  omega
/-- S * what is left = the remainders, so far. -/
theorem DivOk.left {t : Int} {ws : List Int} (h : DivOk t ws) : ∀ k, k ≤ ws.length → ws.sum * (t - leftTo t ws k) ≤ t * (ws.take k).sum ∧ t * (ws.take k).sum ≤ ws.sum * (t - leftTo t ws k) + k * (ws.sum - 1) ∧ leftTo t ws k ≤ t
  | 0, _ => by simp [leftTo]
  | k + 1, hk => by
    obtain ⟨h1, h2, h3⟩ := h.left k (by omega)
    obtain ⟨q1, q2, q3, q4⟩ := h.q k
    have hw : wAt ws k = ws[k] := wAt_eq (by omega)
    rw [take_sum (by omega), ← hw, Int.mul_add, leftTo_succ, show t - (leftTo t ws k - qAt t ws k) = (t - leftTo t ws k) + qAt t ws k by omega, Int.mul_add, show ((k + 1 : Nat) : Int) = (k : Int) + 1 from rfl, Int.add_mul, Int.one_mul]
    omega
theorem DivOk.sumTo {t : Int} {ws : List Int} (h : DivOk t ws) (k : Nat) : 0 ≤ (ws.take k).sum ∧ (ws.take k).sum ≤ ws.sum := by
  have h1 := sum_bnd (l := ws.take k) fun w hw => h.w0 w (List.mem_of_mem_take hw)
  have h2 := sum_bnd (l := ws.drop k) fun w hw => h.w0 w (List.mem_of_mem_drop hw)
  have h3 : ws.sum = (ws.take k).sum + (ws.drop k).sum := by rw [← List.sum_append, List.take_append_drop]
  omega
theorem DivOk.leftB {t : Int} {ws : List Int} (h : DivOk t ws) {k : Nat} (hk : k ≤ ws.length) : 0 ≤ leftTo t ws k ∧ leftTo t ws k ≤ t := by
  obtain ⟨h1, _, h3⟩ := h.left k hk
  refine ⟨?_, h3⟩
  have h4 : t * (ws.take k).sum ≤ t * ws.sum := Int.mul_le_mul_of_nonneg_left (h.sumTo k).2 h.t0.1
  have h5 : ws.sum * (t - leftTo t ws k) ≤ ws.sum * t := by rw [Int.mul_comm ws.sum t]; omega
  have := Int.le_of_mul_le_mul_left h5 h.s0
  omega
theorem DivOk.leftN {t : Int} {ws : List Int} (h : DivOk t ws) : leftTo t ws ws.length < (ws.length : Int) := by
  obtain ⟨_, h2, _⟩ := h.left ws.length (Nat.le_refl _)
  rw [List.take_length] at h2
  have hn := h.n0
  have h3 : ws.sum * leftTo t ws ws.length < ws.sum * (ws.length : Int) := by
    rw [Int.mul_sub] at h2
    have h4 : (ws.length : Int) * (ws.sum - 1) = ws.sum * (ws.length : Int) - ws.length := by rw [Int.mul_sub, Int.mul_comm (ws.length : Int) ws.sum, Int.mul_one]
    rw [h4, Int.mul_comm t ws.sum] at h2
    omega
  exact Int.lt_of_mul_lt_mul_left h3 (by have := h.s0; omega)
theorem DivOk.qB {t : Int} {ws : List Int} (h : DivOk t ws) {k : Nat} (hk : k < ws.length) : 0 ≤ qAt t ws k ∧ qAt t ws k ≤ 1000000000 := by
  have h1 := h.leftB (k := k) (by omega)
  have h2 := h.leftB (k := k + 1) (by omega)
  rw [leftTo_succ] at h2
  have := (h.q k).2.1
  have := h.t0
  omega
theorem DivOk.outB {t : Int} {ws : List Int} (h : DivOk t ws) (j : Nat) {k : Nat} (hk : k < ws.length) : 0 ≤ outF t ws j k ∧ outF t ws j k ≤ 1000000001 := by
  have := h.qB hk
  unfold outF
  split <;> omega
def divR (t : Int) (ws : List Int) : List (List D) := if divFault t ws = 0 then rowF (outF t ws (leftTo t ws ws.length).toNat) ws.length else []
theorem divR_bad {t : Int} {ws : List Int} (h : divFault t ws ≠ 0) : divR t ws = [] := if_neg h
theorem div_9 {t : Int} {ws : List Int} (h : (ws.length : Int) = 0) : divFault t ws = 9 := if_pos h
theorem div_2 {t : Int} {ws : List Int} (h : ¬ (ws.length : Int) = 0) (h2 : 500 < (ws.length : Int)) : divFault t ws = 2 := (if_neg h).trans (if_pos h2)
theorem div_1 {t : Int} {ws : List Int} (h : ¬ (ws.length : Int) = 0) (h2 : ¬ 500 < (ws.length : Int)) (h3 : ¬ (0 ≤ t ∧ t ≤ 1000000000)) : divFault t ws = 1 := (if_neg h).trans ((if_neg h2).trans (if_pos h3))
theorem div_1w {t : Int} {ws : List Int} (h : ¬ (ws.length : Int) = 0) (h2 : ¬ 500 < (ws.length : Int)) (h3 : 0 ≤ t ∧ t ≤ 1000000000) (h4 : ∃ w ∈ ws, ¬ (0 ≤ w ∧ w ≤ 1000000000)) : divFault t ws = 1 := (if_neg h).trans ((if_neg h2).trans ((if_neg fun hh => hh h3).trans (if_pos h4)))
theorem div_in {t : Int} {ws : List Int} (h : ¬ (ws.length : Int) = 0) (h2 : ¬ 500 < (ws.length : Int)) (h3 : 0 ≤ t ∧ t ≤ 1000000000) (h4 : ∀ w ∈ ws, 0 ≤ w ∧ w ≤ 1000000000) : divFault t ws = if ws.sum = 0 then 13 else 0 :=
  (if_neg h).trans ((if_neg h2).trans ((if_neg fun hh => hh h3).trans (if_neg fun ⟨w, hw, hn⟩ => hn (h4 w hw))))
theorem all_take {P : Int → Prop} {ws : List Int} (h : ∀ w ∈ ws.take ws.length, P w) : ∀ w ∈ ws, P w := by rwa [List.take_length] at h
theorem take_next {P : Int → Prop} {ws : List Int} {k : Nat} (hk : k < ws.length) (h : ∀ w ∈ ws.take k, P w) (h2 : P ws[k]) : ∀ w ∈ ws.take (k + 1), P w := by
  intro w hw
  rw [List.take_add_one, List.getElem?_eq_getElem hk] at hw
  simp only [Option.toList_some, List.mem_append, List.mem_singleton] at hw
  rcases hw with h1 | h1
  · exact h w h1
  · rw [h1]; exact h2
theorem step_if (g : Nat → Int) (k i : Nat) : (if i < k + 1 then g i else 0) = if i = k then g k else if i < k then g i else 0 := by
  by_cases h : i = k
  · subst h; rw [if_pos (by omega), if_pos rfl]
  · rw [if_neg h]
    by_cases h2 : i < k
    · rw [if_pos (by omega), if_pos h2]
    · rw [if_neg (by omega), if_neg h2]
theorem rows_2c {i1 e1 s1 i2 e2 s2 : Nat} {q : Nat × Ob} {a1 b1 a2 b2 : List (List D)} {τ : Obs} (h1 : a1 = b1) (h2 : a2 = b2) : ∀ p ∈ [(i1, Ob.row e1 s1 b1), (i2, Ob.row e2 s2 b2), q], p ∈ (i1, Ob.row e1 s1 a1) :: (i2, Ob.row e2 s2 a2) :: q :: τ := fun p hp => by
  subst h1; subst h2
  rcases List.mem_cons.1 hp with rfl | hp
  · exact .head _
  · rcases List.mem_cons.1 hp with rfl | hp
    · exact .tail _ (.head _)
    · rw [List.mem_singleton] at hp; subst hp; exact .tail _ (.tail _ (.head _))
set_option maxRecDepth 100000 in
set_option maxHeartbeats 1000000 in
theorem c_pWithin (n a b : Int) : ACall Tryz.prog 77 [.v (.int .i64 n), .v (.int .i64 a), .v (.int .i64 b)] (.v (.bool (decide (a ≤ n ∧ n ≤ b)))) := by
 refine acall_of (n := 15) (ds' := [.v (.bool (decide (a ≤ n ∧ n ≤ b)))]) Tryz.func77 rfl (by kernel_rfl) rfl [6] rfl rfl ?_
 intro B w0 F0 fr
 refine .sr ?_
 refine .aA (.nil ?_)
 refine .sr ?_
 refine .mA ?_
 refine .mA ?_
 refine .sA (.geq rfl rfl rfl) ?_
 refine .mA ?_
 refine .split 10 rfl (fun g1 => ?_) (fun g1 => ?_)
 ·replace g1 := of_decide_eq_true g1
  refine .sG (.moveD rfl rfl) ?_
  refine .sG (.moveD rfl rfl) ?_
  refine .sG (.leq rfl rfl rfl) ?_
  refine .sA (.pickT rfl rfl rfl) ?_
  refine .aA (.nil ?_)
  refine .ret ?_
  refine ⟨RetD.eq rfl ?_, trivial⟩
  all_goals (simp; omega)
 replace g1 := of_decide_eq_false g1
 refine .pA ?_
 refine .pA ?_
 refine .pA ?_
 refine .sA (.pickF rfl rfl rfl) ?_
 refine .aA (.nil ?_)
 refine .ret ?_
 refine ⟨RetD.eq rfl ?_, trivial⟩
 all_goals (simp; omega)

set_option maxRecDepth 100000 in
set_option maxHeartbeats 1000000 in
theorem c_isNaN (n : Int) : ACall Tryz.prog 126 [.v (.int .i64 n)] (.v (.bool false)) := by
 refine acall_of (n := 6) (ds' := [.v (.bool false)]) Tryz.func126 rfl (by kernel_rfl) rfl [2] rfl rfl ?_
 intro B w0 F0 fr
 refine .sr ?_
 refine .aA (.nil ?_)
 refine .sr ?_
 refine .mA ?_
 refine .mA ?_
 refine .sA (.neq rfl rfl rfl) ?_
 refine .aA (.nil ?_)
 refine .ret ?_
 refine ⟨RetD.eq rfl ?_, trivial⟩
 all_goals (simp)

set_option maxRecDepth 100000 in
set_option maxHeartbeats 1000000 in
theorem c_cmpInt (a b : Int) : ACall Tryz.prog 80 [.v (.int .i64 a), .v (.int .i64 b)] (.v (.int .i64 (if a < b then -1 else if b < a then 1 else 0))) := by
 refine acall_of (n := 20) (ds' := [.v (.int .i64 (if a < b then -1 else if b < a then 1 else 0))]) Tryz.func80 rfl (by kernel_rfl) rfl [4] rfl rfl ?_
 intro B w0 F0 fr
 refine .sr ?_
 refine .aA (.nil ?_)
 refine .sr ?_
 refine .mA ?_
 refine .sA (.call rfl (.cons (.rfl' rfl) .nil) (c_isNaN _)) ?_
 refine .aA (.nil ?_)
 refine .sr ?_
 refine .mA ?_
 refine .sA (.call rfl (.cons (.rfl' rfl) .nil) (c_isNaN _)) ?_
 refine .aA (.nil ?_)
 refine .seq ?_
 refine .sr ?_
 refine .mA (.nil ?_)
 refine .cond rfl (fun h => nomatch h) (fun _ => ?_)
 refine .skip ?_
 refine .seq ?_
 refine .sr ?_
 refine .mA (.nil ?_)
 refine .cond rfl (fun h => nomatch h) (fun _ => ?_)
 refine .skip ?_
 refine .seq ?_
 refine .sr ?_
 refine .mA ?_
 refine .mA ?_
 refine .sA (.lss rfl rfl rfl) (.nil ?_)
 refine .cond rfl (fun h1 => ?_) (fun h1 => ?_)
 ·replace h1 := of_decide_eq_true h1
  rw [if_pos h1]
  refine .sr ?_
  refine .aA (.nil ?_)
  refine .ret ?_
  refine ⟨RetD.eq rfl ?_, trivial⟩
  all_goals (rfl)
 replace h1 := of_decide_eq_false h1
 rw [if_neg h1]
 refine .skip ?_
 refine .seq ?_
 refine .sr ?_
 refine .mA ?_
 refine .mA ?_
 refine .sA (.gtr rfl rfl rfl) (.nil ?_)
 refine .cond rfl (fun h2 => ?_) (fun h2 => ?_)
 ·replace h2 := of_decide_eq_true h2
  rw [if_pos h2]
  refine .sr ?_
  refine .aA (.nil ?_)
  refine .ret ?_
  refine ⟨RetD.eq rfl ?_, trivial⟩
  all_goals (rfl)
 replace h2 := of_decide_eq_false h2
 rw [if_neg h2]
 refine .skip ?_
 refine .sr ?_
 refine .aA (.nil ?_)
 refine .ret ?_
 refine ⟨RetD.eq rfl ?_, trivial⟩
 all_goals (rfl)

set_option maxRecDepth 100000 in
set_option maxHeartbeats 1000000 in
theorem c_divCmp (t : Int) (ws : List Int) (h : DivOk t ws) (i k : Fin ws.length) : ACall Tryz.prog 79 [.v (.int .i64 (i.val : Int)), .v (.int .i64 (k.val : Int)), .fp [.v (.int .i64 t)], .fp [.sl (ws.map intD)], .fp [.v (.int .i64 ws.sum)]] (.v (.int .i64 (cmpF t ws i k))) := by
 refine acall_of (n := 25) (ds' := [.v (.int .i64 (cmpF t ws i k))]) Tryz.func79 rfl (by kernel_rfl) rfl [7] rfl rfl ?_
 intro B w0 F0 fr
 have hs := h.s0
 have m1 := mul_bnd h.t0 (h.w0 _ (List.getElem_mem i.isLt))
 have m2 := mul_bnd h.t0 (h.w0 _ (List.getElem_mem k.isLt))
 have hSB := sum_bnd h.w0
 have hn := h.n1
 have HR : cmpF t ws i k = if t * ws[k.val] % ws.sum < t * ws[i.val] % ws.sum then -1 else if t * ws[i.val] % ws.sum < t * ws[k.val] % ws.sum then 1 else 0 := by unfold cmpF rAt; rw [wAt_eq i.isLt, wAt_eq k.isLt]
 refine .sr ?_
 refine .aA (.nil ?_)
 refine .seq ?_
 refine .draw (by kernel_rfl) (by kernel_rfl) ?_
 refine .sA (.load rfl sc_3 rfl) ?_
 refine .sA (.load rfl sc_37 rfl) ?_
 refine .sA (.moveD rfl rfl) ?_
 refine .sA (.indexAddr rfl et_37 rfl rfl k.val rfl (at_list k.isLt) rfl) ?_
 refine .sA (.load rfl sc_3 rfl) ?_
 refine .sA (.mul64 rfl rfl rfl (by omega) (by omega)) ?_
 refine .sA (.load rfl sc_3 rfl) ?_
 refine .sA (.rem64 rfl rfl rfl (by omega) (by omega)) ?_
 refine .sA (.load rfl sc_3 rfl) ?_
 refine .sA (.load rfl sc_37 rfl) ?_
 refine .sA (.moveD rfl rfl) ?_
 refine .sA (.indexAddr rfl et_37 rfl rfl i.val rfl (at_list i.isLt) rfl) ?_
 refine .sA (.load rfl sc_3 rfl) ?_
 refine .sA (.mul64 rfl rfl rfl (by omega) (by omega)) ?_
 refine .sA (.load rfl sc_3 rfl) ?_
 refine .sA (.rem64 rfl rfl rfl (by omega) (by omega)) ?_
 refine .sA (.call rfl (.cons (.rfl' rfl) (.cons (.rfl' rfl) .nil)) (c_cmpInt _ _)) ?_
 refine .sA (.assignD rfl rfl) ?_
 refine .nil ?_
 refine .ret ?_
 refine ⟨RetD.eq rfl ?_, trivial⟩
 all_goals (rw [HR])

set_option maxRecDepth 100000 in
set_option maxHeartbeats 1000000 in
theorem c_pDiv (t : Int) (ws : List Int) : ACall Tryz.prog 35 [.v (.int .i64 t), .sl (ws.map intD)] (.tup [.sl (divR t ws), .v (.int .i64 (divFault t ws))]) := by
 refine acall_of (n := 92) (ds' := [.sl (divR t ws), .v (.int .i64 (divFault t ws))]) Tryz.func35 rfl (by kernel_rfl) rfl [4, 5] rfl rfl ?_
 intro B w0 F0 fr
 refine .sr ?_
 refine .sA (.box rfl rfl rfl) ?_
 refine .sA (.box rfl rfl rfl) ?_
 refine .aA ?_
 refine .aA (.nil ?_)
 refine .seq ?_
 refine .sr ?_
 refine .sA (.load rfl sc_37 rfl) ?_
 refine .sA (.lenSl rfl et_37.ht rfl) ?_
 refine .sA (.eql rfl rfl rfl) (.nil ?_)
 refine .cond rfl (fun h1 => ?_) (fun h1 => ?_)
 ·replace h1 := of_decide_eq_true h1
  rw [List.length_map] at h1
  have HF := div_9 (t := t) h1
  have HR := divR_bad (t := t) (ws := ws) (by rw [HF]; decide)
  rw [HR, HF]
  refine .sr ?_
  refine .aA ?_
  refine .aA (.nil ?_)
  refine .ret ?_
  refine ⟨RetD.nil rfl, RetD.eq rfl ?_, trivial⟩
  all_goals (first | rfl | (rw [Int.toNat_natCast]))
 replace h1 := of_decide_eq_false h1
 rw [List.length_map] at h1
 have g0 := h1
 refine .skip ?_
 refine .seq ?_
 refine .sr ?_
 refine .sA (.load rfl sc_37 rfl) ?_
 refine .sA (.lenSl rfl et_37.ht rfl) ?_
 refine .sA (.gtr rfl rfl rfl) (.nil ?_)
 refine .cond rfl (fun h2 => ?_) (fun h2 => ?_)
 ·replace h2 := of_decide_eq_true h2
  rw [List.length_map] at h2
  have HF := div_2 (t := t) g0 h2
  have HR := divR_bad (t := t) (ws := ws) (by rw [HF]; decide)
  rw [HR, HF]
  refine .sr ?_
  refine .aA ?_
  refine .aA (.nil ?_)
  refine .ret ?_
  refine ⟨RetD.nil rfl, RetD.eq rfl ?_, trivial⟩
  all_goals (first | rfl | (rw [Int.toNat_natCast]))
 replace h2 := of_decide_eq_false h2
 rw [List.length_map] at h2
 have g1 := h2
 refine .skip ?_
 refine .seq ?_
 refine .sr ?_
 refine .sA (.load rfl sc_3 rfl) ?_
 refine .sA (.call rfl (.cons (.rfl' rfl) (.cons (.rfl' rfl) (.cons (.rfl' rfl) .nil))) (c_pWithin _ _ _)) ?_
 refine .sA (.not rfl rfl) (.nil ?_)
 refine .cond rfl (fun h3 => ?_) (fun h3 => ?_)
 ·replace h3 := bnot_t h3; replace h3 := of_decide_eq_false h3
  have HF := div_1 g0 g1 h3
  have HR := divR_bad (t := t) (ws := ws) (by rw [HF]; decide)
  rw [HR, HF]
  refine .sr ?_
  refine .aA ?_
  refine .aA (.nil ?_)
  refine .ret ?_
  refine ⟨RetD.nil rfl, RetD.eq rfl ?_, trivial⟩
  all_goals (first | rfl | (rw [Int.toNat_natCast]))
 replace h3 := bnot_f h3; replace h3 := of_decide_eq_true h3
 have g2 := h3
 refine .skip ?_
 refine .sr ?_
 refine .alloc 101 rfl rfl rfl rfl zt_3 rfl rfl rfl ?_
 refine .store rfl rfl rfl sz_3 rfl (.head _) rfl rfl rfl (Nat.le_of_ble_eq_true rfl) (.nil ?_)
 refine .seq ?_
 refine .sr ?_
 refine .sA (.load rfl sc_37 rfl) ?_
 refine .sA (.lenSl rfl et_37.ht rfl) ?_
 refine .mA (.nil ?_)
 refine .block ?_
 refine .loop (G := Nat) (fun k => Env.of [(27, .d (.v (.int .i64 (k : Int)))), (25, .d (.sl (ws.map intD))), (26, .d (.v (.int .i64 ((ws.map intD).length : Int)))), (6, .ptr 101 0), (2, .d (.fp [.v (.int .i64 t)])), (3, .d (.fp [.sl (ws.map intD)]))]) (fun k => [(101, .cells [.d (.v (.int .i64 (ws.take k).sum))])]) (fun k => k ≤ ws.length ∧ ∀ w ∈ ws.take k, 0 ≤ w ∧ w ≤ 1000000000) (fun k => ws.length - k) 0 ⟨Nat.zero_le _, fun w hw => by simp at hw⟩ (Sub.less ⟨(SLe.of_eq rfl), SLe.refl _, SLe.refl _, SLe.refl _, SLe.refl _, SLe.refl _, trivial⟩ (fun _ h => h)) ?_
 intro k hk
 refine .sr ?_
 refine .sA (.lss rfl rfl rfl) (.nil ?_)
 refine .seq ?_
 refine .cond rfl (fun h4 => ?_) (fun h4 => ?_)
 ·replace h4 := of_decide_eq_true h4
  rw [List.length_map] at h4
  have hlt : k < ws.length := by omega
  have hsb := sum_bnd (l := ws.take k) hk.2
  have htl : ((ws.take k).length : Int) ≤ 500 := by rw [List.length_take]; omega
  have hts := take_sum hlt
  refine .skip ?_
  refine .seq ?_
  refine .block ?_
  refine .sr ?_
  refine .sA (.indexAddr rfl et_37 rfl rfl k rfl (at_list hlt) rfl) ?_
  refine .sA (.load rfl sc_3 rfl) ?_
  refine .aA (.nil ?_)
  refine .seq ?_
  refine .sr ?_
  refine .mA ?_
  refine .sA (.call rfl (.cons (.rfl' rfl) (.cons (.rfl' rfl) (.cons (.rfl' rfl) .nil))) (c_pWithin _ _ _)) ?_
  refine .sA (.not rfl rfl) (.nil ?_)
  refine .cond rfl (fun h5 => ?_) (fun h5 => ?_)
  ·replace h5 := bnot_t h5; replace h5 := of_decide_eq_false h5
   have HF := div_1w (t := t) g0 g1 g2 ⟨_, List.getElem_mem hlt, h5⟩
   have HR := divR_bad (t := t) (ws := ws) (by rw [HF]; decide)
   rw [HR, HF]
   refine .sr ?_
   refine .aA ?_
   refine .aA (.nil ?_)
   refine .ret ?_
   refine ⟨RetD.nil rfl, RetD.eq rfl ?_, trivial⟩
   all_goals (first | rfl | (rw [Int.toNat_natCast]))
  replace h5 := bnot_f h5; replace h5 := of_decide_eq_true h5
  have hN := take_next hlt hk.2 h5
  refine .skip ?_
  refine .region ?_
  refine .sA (.loadP rfl sc_3 rfl (.head _) rfl) ?_
  refine .mA ?_
  refine .sA (.add64 rfl rfl rfl (by omega) (by omega)) ?_
  refine .store rfl rfl rfl sz_3 rfl (.head _) rfl rfl rfl (Nat.le_of_ble_eq_true rfl) (.nil ?_)
  refine .region ?_
  refine .sA (.add64 rfl rfl rfl (by omega) (by omega)) ?_
  refine .mA (.nil ?_)
  refine ⟨k + 1, ⟨by omega, hN⟩, (by dsimp only; omega), Sub.less ⟨(SLe.of_eq rfl), SLe.refl _, SLe.refl _, SLe.refl _, SLe.refl _, SLe.refl _, trivial⟩ (by dsimp only; rw [hts]; exact fun _ h => h)⟩
 replace h4 := of_decide_eq_false h4
 rw [List.length_map] at h4
 obtain rfl : k = ws.length := by omega
 rw [List.take_length]
 have hall := all_take hk.2
 have HD := div_in (t := t) g0 g1 g2 hall
 have hsb := sum_bnd hall
 refine .exit ?_
 refine .seq ?_
 refine .sr ?_
 refine .sA (.loadP rfl sc_3 rfl (.head _) rfl) ?_
 refine .sA (.eql rfl rfl rfl) (.nil ?_)
 refine .cond rfl (fun h6 => ?_) (fun h6 => ?_)
 ·replace h6 := of_decide_eq_true h6
  have HF : divFault t ws = 13 := HD.trans (if_pos h6)
  have HR := divR_bad (t := t) (ws := ws) (by rw [HF]; decide)
  rw [HR, HF]
  refine .sr ?_
  refine .aA ?_
  refine .aA (.nil ?_)
  refine .ret ?_
  refine ⟨RetD.nil rfl, RetD.eq rfl ?_, trivial⟩
  all_goals (first | rfl | (rw [Int.toNat_natCast]))
 replace h6 := of_decide_eq_false h6
 have HF : divFault t ws = 0 := HD.trans (if_neg h6)
 have ok : DivOk t ws := ⟨by omega, by omega, g2, hall, by omega⟩
 have hs := ok.s0
 have hn0 := ok.n0
 have hn1 := ok.n1
 have HR : divR t ws = rowF (outF t ws (leftTo t ws ws.length).toNat) ws.length := if_pos HF
 rw [HR, HF]
 refine .skip ?_
 refine .sr ?_
 refine .sA (.load rfl sc_37 rfl) ?_
 refine .sA (.lenSl rfl et_37.ht rfl) ?_
 refine .makeI 102 ws.length rfl rfl rfl rfl et_37 rfl rfl (by rw [List.length_map]) (by omega) (by omega) rfl rfl ?_
 refine .sA (.assignO rfl rfl) (.nil ?_)
 refine .sr ?_
 refine .sA (.load rfl sc_37 rfl) ?_
 refine .sA (.lenSl rfl et_37.ht rfl) ?_
 refine .makeI 103 ws.length rfl rfl rfl rfl et_37 rfl rfl (by rw [List.length_map]) (by omega) (by omega) rfl rfl ?_
 refine .sA (.assignO rfl rfl) (.nil ?_)
 refine .sr ?_
 refine .sA (.load rfl sc_3 rfl) ?_
 refine .aA (.nil ?_)
 refine .seq ?_
 refine .sr ?_
 refine .sA (.load rfl sc_37 rfl) ?_
 refine .sA (.lenSl rfl et_37.ht rfl) ?_
 refine .mA (.nil ?_)
 refine .block ?_
 refine .loop (G := Nat) (fun k => Env.of [(49, .d (.v (.int .i64 (k : Int)))), (47, .d (.sl (ws.map intD))), (48, .d (.v (.int .i64 ((ws.map intD).length : Int)))), (6, .ptr 101 0), (9, .own 102), (10, .own 103), (11, .d (.v (.int .i64 (leftTo t ws k)))), (2, .d (.fp [.v (.int .i64 t)])), (3, .d (.fp [.sl (ws.map intD)]))]) (fun k => [(103, .row 3 1 (rowF (fun i => if i < k then (i : Int) else 0) ws.length)), (102, .row 3 1 (rowF (fun i => if i < k then qAt t ws i else 0) ws.length)), (101, .cells [.d (.v (.int .i64 ws.sum))])]) (fun k => k ≤ ws.length) (fun k => ws.length - k) 0 (Nat.zero_le _) (Sub.less ⟨(SLe.of_eq rfl), SLe.refl _, SLe.refl _, SLe.refl _, SLe.refl _, SLe.refl _, (SLe.i64 (by simp [leftTo])), SLe.refl _, SLe.refl _, trivial⟩ (rows_2c ((rowF_zero _).trans (rowF_congr fun i _ => by simp)) ((rowF_zero _).trans (rowF_congr fun i _ => by simp)))) ?_
 intro k hk
 refine .sr ?_
 refine .sA (.lss rfl rfl rfl) (.nil ?_)
 refine .seq ?_
 refine .cond rfl (fun h7 => ?_) (fun h7 => ?_)
 ·replace h7 := of_decide_eq_true h7
  rw [List.length_map] at h7
  have hlt : k < ws.length := by omega
  have m1 := mul_bnd g2 (hall _ (List.getElem_mem hlt))
  have hq : qAt t ws k = t * ws[k] / ws.sum := by unfold qAt; rw [wAt_eq hlt]
  have hqb := ok.qB hlt
  have hl1 := ok.leftB (k := k) (by omega)
  have hl2 := leftTo_succ t ws k
  rw [hq] at hqb hl2
  refine .skip ?_
  refine .seq ?_
  refine .block ?_
  refine .sr ?_
  refine .mA ?_
  refine .sA (.indexAddr rfl et_37 rfl rfl k rfl (at_list hlt) rfl) ?_
  refine .sA (.load rfl sc_3 rfl) ?_
  refine .aA ?_
  refine .aA (.nil ?_)
  refine .sr ?_
  refine .sA (.moveO rfl rfl) ?_
  refine .mA ?_
  refine .sA (.moveO rfl rfl) ?_
  refine .mA ?_
  refine .sA (.load rfl sc_3 rfl) ?_
  refine .mA ?_
  refine .sA (.mul64 rfl rfl rfl (by omega) (by omega)) ?_
  refine .sA (.loadP rfl sc_3 rfl (.tail _ (.tail _ (.head _))) rfl) ?_
  refine .sA (.quo64 rfl rfl rfl (by omega) (by omega) (by omega)) ?_
  refine .mA ?_
  refine .sA (.indexOwn rfl et_37 rfl rfl (.tail _ (.head _)) k rfl (by rw [rowF_len]; exact hlt)) ?_
  refine .storeRow rfl rfl rfl sz_3 rfl (.tail _ (.head _)) rfl rfl rfl k 0 rfl (rowF_at hlt) (Nat.le_of_ble_eq_true rfl) ?_
  refine .sA (.indexOwn rfl et_37 rfl rfl (.head _) k rfl (by rw [rowF_len]; exact hlt)) ?_
  refine .storeRow rfl rfl rfl sz_3 rfl (.head _) rfl rfl rfl k 0 rfl (rowF_at hlt) (Nat.le_of_ble_eq_true rfl) (.nil ?_)
  refine .region ?_
  refine .mA ?_
  refine .sA (.moveO rfl rfl) ?_
  refine .mA ?_
  refine .sA (.indexOwn rfl et_37 rfl rfl (.tail _ (.head _)) k rfl (by rw [List.length_set, rowF_len]; exact hlt)) ?_
  refine .sA (.loadRow rfl sc_3 rfl (.tail _ (.head _)) k 0 rfl (List.getElem?_set_self (by rw [rowF_len]; exact hlt)) rfl) ?_
  refine .sA (.sub64 rfl rfl rfl (by omega) (by omega)) ?_
  refine .aA (.nil ?_)
  refine .region ?_
  refine .sA (.add64 rfl rfl rfl (by omega) (by omega)) ?_
  refine .mA (.nil ?_)
  refine ⟨k + 1, (by omega), (by dsimp only; omega), Sub.less ⟨(SLe.of_eq rfl), SLe.refl _, SLe.refl _, SLe.refl _, SLe.refl _, SLe.refl _, (SLe.i64 (by rw [hl2])), SLe.refl _, SLe.refl _, trivial⟩ (rows_2c (rowF_set hlt fun i _ => step_if (fun i => (i : Int)) k i) (rowF_set hlt fun i _ => by rw [← hq]; exact step_if (qAt t ws) k i))⟩
 replace h7 := of_decide_eq_false h7
 rw [List.length_map] at h7
 obtain rfl : k = ws.length := by omega
 have hl1 := ok.leftB (k := ws.length) (Nat.le_refl _)
 have hlN := ok.leftN
 obtain ⟨L, hL⟩ : ∃ L : Nat, leftTo t ws ws.length = (L : Int) := ⟨(leftTo t ws ws.length).toNat, by omega⟩
 rw [hL] at hlN
 have hol := ordL_len t ws
 rw [hL]
 have HO : rowF (fun i => if i < ws.length then (i : Int) else 0) ws.length = (idL ws.length).map fds := (rowF_congr fun i hi => if_pos hi).trans (idL_row _).symm
 have HQ : rowF (fun i => if i < ws.length then qAt t ws i else 0) ws.length = rowF (outF t ws 0) ws.length := rowF_congr fun i hi => by rw [if_pos hi]; unfold outF pick; simp
 rw [HO, HQ]
 have hio := idL_len ws.length
 refine .exit ?_
 refine .seq ?_
 refine .freezeCells 6 (ds := [.v (.int .i64 ws.sum)]) rfl (.tail _ (.tail _ (.head _))) ?_
 refine .region ?_
 refine .sA (.moveO rfl rfl) ?_
 refine .sA (.makeFunc rfl (.cons (.rfl' rfl) (.cons (.rfl' rfl) (.cons (.rfl' rfl) .nil)))) ?_
 -- turns 103
 refine .callX rfl rfl rfl (.cons (SLe.refl _) (.cons (SLe.refl _) .nil)) ((c_sortStable (cmpF t ws) (pre_cmpF t ws _) _ [.fp [.v (.int .i64 t)], .fp [.sl (ws.map intD)], .fp [.v (.int .i64 ws.sum)]] (fun x y => c_divCmp t ws ok x y) (idL ws.length) (by rw [idL_len]; omega) (idL_tags _) (idL_incr' _ _)) 103) ⟨(.head _), trivial⟩ rfl rfl (fun _ h => nomatch h) ?_
 refine .nil ?_
 refine .seq ?_
 refine .sr ?_
 refine .sA (.moveO rfl rfl) ?_
 refine .freeze 76 rfl (.head _) ?_
 refine .mA ?_
 refine .sA (.sliceH rfl et_37 rfl rfl (by omega) (by rw [List.length_map]; show (L : Int) ≤ ((ordL t ws).length : Int); omega) (fun y hy => by obtain ⟨z, _, rfl⟩ := List.mem_map.1 hy; rfl)) ?_
 refine .sA (.lenSl rfl et_37.ht rfl) ?_
 refine .mA (.nil ?_)
 refine .block ?_
 refine .loop (G := Nat) (fun j => Env.of [(80, .d (.v (.int .i64 (j : Int)))), (78, .d (.sl (((ordL t ws).map fds).take L))), (79, .d (.v (.int .i64 (L : Int)))), (9, .own 102)]) (fun j => [(102, .row 3 1 (rowF (outF t ws j) ws.length))]) (fun j => j ≤ L) (fun j => L - j) 0 (Nat.zero_le _) (Sub.less ⟨(SLe.i64 rfl), (SLe.of_eq rfl), (SLe.i64 (by show ((((ordL t ws).map fds).take L).length : Int) = L; rw [List.length_take, List.length_map]; omega)), SLe.refl _, trivial⟩ (row_same rfl)) ?_
 intro j hj
 refine .sr ?_
 refine .sA (.lss rfl rfl rfl) (.nil ?_)
 refine .seq ?_
 refine .cond rfl (fun h8 => ?_) (fun h8 => ?_)
 ·replace h8 := of_decide_eq_true h8
  have hjL : j < L := by omega
  have hjo : j < (ordL t ws).length := by omega
  have hget : (((ordL t ws).map fds).take L)[j]? = some (fds (ordL t ws)[j]) := by rw [List.getElem?_take, if_pos hjL]; exact at_list hjo
  have hob := ok.outB j (ordL t ws)[j].1.isLt
  refine .skip ?_
  refine .seq ?_
  refine .block ?_
  refine .sr ?_
  refine .sA (.indexAddr rfl et_37 rfl rfl j rfl hget rfl) ?_
  refine .sA (.load rfl sc_3 rfl) ?_
  refine .aA (.nil ?_)
  refine .region ?_
  refine .sA (.moveO rfl rfl) ?_
  refine .mA ?_
  refine .sA (.indexOwn rfl et_37 rfl rfl (.head _) (ordL t ws)[j].1.val rfl (by rw [rowF_len]; exact (ordL t ws)[j].1.isLt)) ?_
  refine .sA (.loadRow rfl sc_3 rfl (.head _) (ordL t ws)[j].1.val 0 rfl (rowF_at (ordL t ws)[j].1.isLt) rfl) ?_
  refine .sA (.add64 rfl rfl rfl (by omega) (by omega)) ?_
  refine .sA (.indexOwn rfl et_37 rfl rfl (.head _) (ordL t ws)[j].1.val rfl (by rw [rowF_len]; exact (ordL t ws)[j].1.isLt)) ?_
  refine .storeRow rfl rfl rfl sz_3 rfl (.head _) rfl rfl rfl (ordL t ws)[j].1.val 0 rfl (rowF_at (ordL t ws)[j].1.isLt) (Nat.le_of_ble_eq_true rfl) (.nil ?_)
  refine .region ?_
  refine .sA (.add64 rfl rfl rfl (by omega) (by omega)) ?_
  refine .mA (.nil ?_)
  refine ⟨j + 1, (by omega), (by dsimp only; omega), Sub.less ⟨(SLe.i64 rfl), SLe.refl _, SLe.refl _, SLe.refl _, trivial⟩ (row_same (rowF_set (ordL t ws)[j].1.isLt fun i _ => outF_succ hjo i))⟩
 replace h8 := of_decide_eq_false h8
 obtain rfl : j = L := by omega
 refine .exit ?_
 refine .sr ?_
 refine .sA (.moveO rfl rfl) ?_
 refine .sA (.assignO rfl rfl) ?_
 refine .aA (.nil ?_)
 refine .ret ?_
 refine ⟨RetD.own rfl (.head _) ?_, RetD.eq rfl ?_, trivial⟩
 all_goals (first | rfl | (rw [Int.toNat_natCast]))

end Go.Proofs.YtcfamaddnmnaeaaGreatDoor

namespace Go.Proofs.YtcfamaddnmnaeaaGreatDoor
open Go.RowKit
set_option linter.unusedVariables false

/-! Types. -/
namespace TyG5
end TyG5
open TyF0 TyF1 TyF2 TyF3 TyF4 TyF5 TyF6 TyF7 TyF8 TyF9 TyF10 TyF11 TyG1 TyG2 TyG5

theorem get_mem {α : Type} {l : List α} {k : Nat} (h : k < l.length) : l[k]? = some l[k] := List.getElem?_eq_getElem h
theorem fault31 : divFault 3 [1, 1] = 0 := by decide
theorem left31 : leftTo 3 [1, 1] 2 = 1 := by decide
theorem pick31 : pick 3 [1, 1] 1 = [0] := by
  have hl : (ordL 3 [1, 1]).length = 2 := ordL_len _ _
  have h := ordL_sorted (t := 3) (ws := [1, 1]) (m := 0) (k := 1) (by omega) (by omega)
  have hr : ∀ i, i < 2 → rAt 3 [1, 1] i = 1 := by decide
  have b0 : (ordL 3 [1, 1])[0].1.val < 2 := (ordL 3 [1, 1])[0].1.isLt
  have b1 : (ordL 3 [1, 1])[1].1.val < 2 := (ordL 3 [1, 1])[1].1.isLt
  rw [hr _ b0, hr _ b1] at h
  have h0 : (ordL 3 [1, 1])[0].1.val = 0 := by omega
  rw [pick_succ (by omega), h0]
  rfl
theorem divR31 : divR 3 [1, 1] = [[D.v (.int .i64 2)], [D.v (.int .i64 1)]] := by
  have hr : ∀ i, i < 2 → qAt 3 [1, 1] i = 1 := by decide
  have h1 : outF 3 [1, 1] 1 0 = 2 := by unfold outF; rw [pick31, hr 0 (by decide)]; rfl
  have h2 : outF 3 [1, 1] 1 1 = 1 := by unfold outF; rw [pick31, hr 1 (by decide)]; rfl
  unfold divR
  rw [if_pos fault31]
  show rowF (outF 3 [1, 1] (leftTo 3 [1, 1] 2).toNat) 2 = _
  rw [left31]
  show [intD (outF 3 [1, 1] 1 0), intD (outF 3 [1, 1] 1 1)] = _
  rw [h1, h2]
  rfl
theorem c_pDiv31 : ACall Tryz.prog 35 [.v (.int .i64 3), .sl [[.v (.int .i64 1)], [.v (.int .i64 1)]]] (.tup [.sl [[.v (.int .i64 2)], [.v (.int .i64 1)]], .v (.int .i64 0)]) := by
 have h := c_pDiv 3 [1, 1]
 rw [fault31, divR31] at h
 exact h
def sumO (t : Int) (ws : List Int) (L k : Nat) : Int := ((List.range k).map (outF t ws L)).sum
set_option maxRecDepth 100000 in
set_option maxHeartbeats 1000000 in
theorem c_eqInt (l : List (List D)) (hl : ∀ x ∈ l, ∃ z : Int, x = [D.v (.int .i64 z)]) : ACall Tryz.prog 21 [.sl l, .sl l] (.v (.bool true)) := by
 refine acall_of (n := 26) (ds' := [.v (.bool true)]) Tryz.func21 rfl (by kernel_rfl) rfl [4] rfl rfl ?_
 intro B w0 F0 fr
 refine .bound 0 rfl (fun hbd => ?_)
 refine .sr ?_
 refine .aA (.nil ?_)
 refine .seq ?_
 refine .sr ?_
 refine .mA ?_
 refine .sA (.lenSl rfl et_37.ht rfl) ?_
 refine .mA ?_
 refine .sA (.lenSl rfl et_37.ht rfl) ?_
 refine .sA (.neq rfl rfl rfl) (.nil ?_)
 refine .cond rfl (fun h1 => ?_) (fun h1 => ?_)
 ·replace h1 := of_decide_eq_true h1
  exact absurd rfl h1
 replace h1 := of_decide_eq_false h1
 refine .skip ?_
 refine .seq ?_
 refine .sr ?_
 refine .mA ?_
 refine .sA (.lenSl rfl et_37.ht rfl) ?_
 refine .mA (.nil ?_)
 refine .block ?_
 refine .loop (G := Nat) (fun k => Env.of [(13, .d (.v (.int .i64 (k : Int)))), (0, .d (.sl l)), (1, .d (.sl l)), (12, .d (.v (.int .i64 (l.length : Int))))]) (fun k => []) (fun k => k ≤ l.length) (fun k => l.length - k) 0 (Nat.zero_le _) (Sub.less ⟨(SLe.of_eq rfl), SLe.refl _, SLe.refl _, SLe.refl _, trivial⟩ (fun _ h => h)) ?_
 intro k hk
 refine .sr ?_
 refine .sA (.lss rfl rfl rfl) (.nil ?_)
 refine .seq ?_
 refine .cond rfl (fun h2 => ?_) (fun h2 => ?_)
 ·replace h2 := of_decide_eq_true h2
  have hlt : k < l.length := by omega
  obtain ⟨z, hz⟩ := hl _ (List.getElem_mem hlt)
  have hg := get_mem hlt
  rw [hz] at hg
  refine .skip ?_
  refine .seq ?_
  refine .block ?_
  refine .sr ?_
  refine .mA ?_
  refine .aA (.nil ?_)
  refine .seq ?_
  refine .draw (by kernel_rfl) (by kernel_rfl) ?_
  refine .sA (.moveD rfl rfl) ?_
  refine .sA (.moveD rfl rfl) ?_
  refine .sA (.indexAddr rfl et_37 rfl rfl k rfl hg rfl) ?_
  refine .sA (.load rfl sc_3 rfl) ?_
  refine .sA (.moveD rfl rfl) ?_
  refine .sA (.moveD rfl rfl) ?_
  refine .sA (.indexAddr rfl et_37 rfl rfl k rfl hg rfl) ?_
  refine .sA (.load rfl sc_3 rfl) ?_
  refine .sA (.neq rfl rfl rfl) ?_
  refine .nil ?_
  refine .cond rfl (fun h3 => ?_) (fun h3 => ?_)
  ·replace h3 := of_decide_eq_true h3
   exact absurd rfl h3
  replace h3 := of_decide_eq_false h3
  refine .skip ?_
  refine .region ?_
  refine .sA (.add64 rfl rfl rfl (by omega) (by omega)) ?_
  refine .mA (.nil ?_)
  refine ⟨k + 1, (by omega), (by dsimp only; omega), Sub.less ⟨(SLe.of_eq rfl), SLe.refl _, SLe.refl _, SLe.refl _, trivial⟩ (fun _ h => h)⟩
 replace h2 := of_decide_eq_false h2
 refine .exit ?_
 refine .sr ?_
 refine .aA (.nil ?_)
 refine .ret ?_
 refine ⟨RetD.eq rfl ?_, trivial⟩
 all_goals (rfl)

theorem c_eq31 : ACall Tryz.prog 21 [.sl [[.v (.int .i64 2)], [.v (.int .i64 1)]], .sl [[.v (.int .i64 2)], [.v (.int .i64 1)]]] (.v (.bool true)) := c_eqInt _ (fun x hx => by
 rcases List.mem_cons.1 hx with rfl | hx
 ·exact ⟨_, rfl⟩
 rw [List.mem_singleton] at hx; subst hx; exact ⟨_, rfl⟩)

set_option maxRecDepth 100000 in
set_option maxHeartbeats 1000000 in
theorem c_awake  : ACall Tryz.prog 11 [] (.v (.bool true)) := by
 refine acall_of (n := 15) (ds' := [.v (.bool true)]) Tryz.func11 rfl (by kernel_rfl) rfl [0] rfl rfl ?_
 intro B w0 F0 fr
 refine .sr ?_
 refine .aA (.nil ?_)
 refine .sr ?_
 refine .sA (.buildSlice rfl et_37 (.cons rfl rfl rfl (.cons rfl rfl rfl .nil)) rfl (by decide)) ?_
 refine .sA (.call rfl (.cons (.rfl' rfl) (.cons (.rfl' rfl) .nil)) c_pDiv31) ?_
 refine .mA ?_
 refine .sA (.extract rfl rfl rfl) ?_
 refine .sA (.extract rfl rfl rfl) ?_
 refine .aA ?_
 refine .aA (.nil ?_)
 refine .sr ?_
 refine .mA ?_
 refine .sA (.eql rfl rfl rfl) ?_
 refine .mA ?_
 refine .split 10 rfl (fun g1 => ?_) (fun g1 => ?_)
 ·replace g1 := of_decide_eq_true g1
  refine .sG (.moveD rfl rfl) ?_
  refine .sG (.buildSlice rfl et_37 (.cons rfl rfl rfl (.cons rfl rfl rfl .nil)) rfl (by decide)) ?_
  refine .sG (.call rfl (.cons (.rfl' rfl) (.cons (.rfl' rfl) .nil)) c_eq31) ?_
  refine .sA (.pickT rfl rfl rfl) ?_
  refine .aA (.nil ?_)
  refine .ret ?_
  refine ⟨RetD.eq rfl ?_, trivial⟩
  all_goals (simp)
 replace g1 := of_decide_eq_false g1
 exact absurd rfl g1

end Go.Proofs.YtcfamaddnmnaeaaGreatDoor

namespace Go.Proofs
open Go.Shelf
def Tryz.l160_ren : Go.Shelf.Ren := ⟨fun | 160 => 118 | 232 => 165 | 231 => 164 | 227 => 166 | 234 => 168 | 233 => 167 | 236 => 170 | 235 => 169 | 228 => 215 | 271 => 217 | 151 => 216 | 197 => 213 | 120 => 241 | 152 => 240 | 260 => 239 | 137 => 250 | 119 => 251 | 224 => 159 | 225 => 158 | 217 => 157 | 266 => 210 | n => n, fun | 9 => 9 | 4 => 4 | 3 => 3 | 5 => 5 | 117 => 241 | 116 => 240 | 0 => 0 | 124 => 244 | 21 => 21 | 105 => 275 | 46 => 196 | 119 => 306 | 139 => 309 | 138 => 308 | n => n, fun | 3 => 4 | 4 => 5 | n => n⟩
theorem Tryz.l160 : Go.Proofs.Lays.n160 Tryz.prog Tryz.l160_ren := {
  mixed := by kernel_rfl
  f119 := Tryz.func251.trans (congrArg some (by kernel_rfl))
  f120 := Tryz.func241.trans (congrArg some (by kernel_rfl))
  f137 := Tryz.func250.trans (congrArg some (by kernel_rfl))
  f151 := Tryz.func216.trans (congrArg some (by kernel_rfl))
  f152 := Tryz.func240.trans (congrArg some (by kernel_rfl))
  f160 := Tryz.func118.trans (congrArg some (by kernel_rfl))
  f197 := Tryz.func213.trans (congrArg some (by kernel_rfl))
  f217 := Tryz.func157.trans (congrArg some (by kernel_rfl))
  f224 := Tryz.func159.trans (congrArg some (by kernel_rfl))
  f225 := Tryz.func158.trans (congrArg some (by kernel_rfl))
  f227 := Tryz.func166.trans (congrArg some (by kernel_rfl))
  f228 := Tryz.func215.trans (congrArg some (by kernel_rfl))
  f231 := Tryz.func164.trans (congrArg some (by kernel_rfl))
  f232 := Tryz.func165.trans (congrArg some (by kernel_rfl))
  f233 := Tryz.func167.trans (congrArg some (by kernel_rfl))
  f234 := Tryz.func168.trans (congrArg some (by kernel_rfl))
  f235 := Tryz.func169.trans (congrArg some (by kernel_rfl))
  f236 := Tryz.func170.trans (congrArg some (by kernel_rfl))
  f260 := Tryz.func239.trans (congrArg some (by kernel_rfl))
  f266 := Tryz.func210.trans (congrArg some (by kernel_rfl))
  f271 := Tryz.func217.trans (congrArg some (by kernel_rfl))
  t0 := Tryz.underlying0
  a0 := Tryz.isAgg0
  z0 := Tryz.sizeOf0
  v0 := Tryz.zeroValue0
  t3 := Tryz.underlying3
  a3 := Tryz.isAgg3
  z3 := Tryz.sizeOf3
  v3 := Tryz.zeroValue3
  t4 := Tryz.underlying4
  a4 := Tryz.isAgg4
  z4 := Tryz.sizeOf4
  v4 := Tryz.zeroValue4
  t5 := Tryz.underlying5
  a5 := Tryz.isAgg5
  z5 := Tryz.sizeOf5
  v5 := Tryz.zeroValue5
  t9 := Tryz.underlying9
  a9 := Tryz.isAgg9
  z9 := Tryz.sizeOf9
  v9 := Tryz.zeroValue9
  t21 := Tryz.underlying21
  a21 := Tryz.isAgg21
  z21 := Tryz.sizeOf21
  v21 := Tryz.zeroValue21
  t46 := Tryz.underlying196
  a46 := Tryz.isAgg196
  z46 := Tryz.sizeOf196
  v46 := Tryz.zeroValue196
  t105 := Tryz.underlying275
  a105 := Tryz.isAgg275
  z105 := Tryz.sizeOf275
  v105 := Tryz.zeroValue275
  t116 := Tryz.underlying240
  a116 := Tryz.isAgg240
  z116 := Tryz.sizeOf240
  t117 := Tryz.underlying241
  a117 := Tryz.isAgg241
  z117 := Tryz.sizeOf241
  v117 := Tryz.zeroValue241
  t119 := Tryz.underlying306
  a119 := Tryz.isAgg306
  z119 := Tryz.sizeOf306
  t124 := Tryz.underlying244
  a124 := Tryz.isAgg244
  z124 := Tryz.sizeOf244
  v124 := Tryz.zeroValue244
  t138 := Tryz.underlying308
  a138 := Tryz.isAgg308
  z138 := Tryz.sizeOf308
  v138 := Tryz.zeroValue308
  t139 := Tryz.underlying309
  a139 := Tryz.isAgg309
  z139 := Tryz.sizeOf309
  v139 := Tryz.zeroValue309
  g3 := by kernel_rfl
  g4 := by kernel_rfl }
def Tryz.l103_ren : Go.Shelf.Ren := ⟨fun | 103 => 30 | 210 => 73 | 206 => 122 | n => n, fun | 9 => 9 | 4 => 4 | 24 => 72 | 3 => 3 | n => n, fun | n => n⟩
theorem Tryz.l103 : Go.Proofs.Lays.n103 Tryz.prog Tryz.l103_ren := {
  mixed := by kernel_rfl
  f103 := Tryz.func30.trans (congrArg some (by kernel_rfl))
  f206 := Tryz.func122.trans (congrArg some (by kernel_rfl))
  f210 := Tryz.func73.trans (congrArg some (by kernel_rfl))
  t3 := Tryz.underlying3
  a3 := Tryz.isAgg3
  z3 := Tryz.sizeOf3
  v3 := Tryz.zeroValue3
  t4 := Tryz.underlying4
  a4 := Tryz.isAgg4
  z4 := Tryz.sizeOf4
  v4 := Tryz.zeroValue4
  t9 := Tryz.underlying9
  a9 := Tryz.isAgg9
  z9 := Tryz.sizeOf9
  v9 := Tryz.zeroValue9
  t24 := Tryz.underlying72
  a24 := Tryz.isAgg72
  z24 := Tryz.sizeOf72
  v24 := Tryz.zeroValue72 }
def Tryz.l106_ren : Go.Shelf.Ren := ⟨fun | 106 => 92 | 213 => 134 | 265 => 197 | n => n, fun | 9 => 9 | 3 => 3 | n => n, fun | n => n⟩
theorem Tryz.l106 : Go.Proofs.Lays.n106 Tryz.prog Tryz.l106_ren := {
  mixed := by kernel_rfl
  f106 := Tryz.func92.trans (congrArg some (by kernel_rfl))
  f213 := Tryz.func134.trans (congrArg some (by kernel_rfl))
  f265 := Tryz.func197.trans (congrArg some (by kernel_rfl))
  t3 := Tryz.underlying3
  a3 := Tryz.isAgg3
  z3 := Tryz.sizeOf3
  v3 := Tryz.zeroValue3
  t9 := Tryz.underlying9
  a9 := Tryz.isAgg9
  z9 := Tryz.sizeOf9
  v9 := Tryz.zeroValue9 }
def Tryz.l137_ren : Go.Shelf.Ren := ⟨fun | 137 => 250 | 217 => 157 | 266 => 210 | n => n, fun | 9 => 9 | 5 => 5 | 3 => 3 | n => n, fun | n => n⟩
def Tryz.l144_ren : Go.Shelf.Ren := ⟨fun | 144 => 173 | 143 => 163 | 219 => 116 | 217 => 157 | 225 => 158 | 224 => 159 | 267 => 160 | 266 => 210 | 314 => 211 | n => n, fun | 9 => 9 | 4 => 4 | 3 => 3 | 5 => 5 | 46 => 196 | 146 => 273 | 51 => 232 | n => n, fun | 1 => 0 | n => n⟩
theorem Tryz.l144 : Go.Proofs.LaysM.n144 Tryz.prog Tryz.l144_ren := {
  mixed := by kernel_rfl
  f143 := Tryz.func163.trans (congrArg some (by kernel_rfl))
  f144 := Tryz.func173.trans (congrArg some (by kernel_rfl))
  f217 := Tryz.func157.trans (congrArg some (by kernel_rfl))
  f219 := Tryz.func116.trans (congrArg some (by kernel_rfl))
  f224 := Tryz.func159.trans (congrArg some (by kernel_rfl))
  f225 := Tryz.func158.trans (congrArg some (by kernel_rfl))
  f266 := Tryz.func210.trans (congrArg some (by kernel_rfl))
  f267 := Tryz.func160.trans (congrArg some (by kernel_rfl))
  f314 := Tryz.func211.trans (congrArg some (by kernel_rfl))
  t3 := Tryz.underlying3
  a3 := Tryz.isAgg3
  z3 := Tryz.sizeOf3
  v3 := Tryz.zeroValue3
  t4 := Tryz.underlying4
  a4 := Tryz.isAgg4
  z4 := Tryz.sizeOf4
  v4 := Tryz.zeroValue4
  t5 := Tryz.underlying5
  a5 := Tryz.isAgg5
  z5 := Tryz.sizeOf5
  v5 := Tryz.zeroValue5
  t9 := Tryz.underlying9
  a9 := Tryz.isAgg9
  z9 := Tryz.sizeOf9
  v9 := Tryz.zeroValue9
  t46 := Tryz.underlying196
  a46 := Tryz.isAgg196
  z46 := Tryz.sizeOf196
  v46 := Tryz.zeroValue196
  t51 := Tryz.underlying232
  a51 := Tryz.isAgg232
  z51 := Tryz.sizeOf232
  v51 := Tryz.zeroValue232
  t146 := Tryz.underlying273
  a146 := Tryz.isAgg273
  z146 := Tryz.sizeOf273
  v146 := Tryz.zeroValue273
  g1 := by kernel_rfl
  i3 := by kernel_rfl
  i4 := by kernel_rfl
  i5 := by kernel_rfl
  i9 := by kernel_rfl
  i46 := by kernel_rfl
  i51 := by kernel_rfl
  i146 := by kernel_rfl
  m1 := by kernel_rfl
  s1_3 := fun w h => Go.Proofs.cell_of_shapedOpen_int (zero := #[.int .i64 0]) (t := 3) h (of_decide_eq_true (by kernel_rfl)) (by kernel_rfl) rfl (by kernel_rfl) (by kernel_rfl) Tryz.underlying3 }
end Go.Proofs

namespace Go.Proofs.YtcfamaddnmnaeaaGreatDoor
open Go.RowKit
attribute [local go_sem ↓] run_min_kept run_max_kept

/-- Bytes as values. -/
def u8s (l : List UInt8) : List Value := l.map fun c => .int .u8 (c.toNat : Int)
/-- Sums as values. -/
def u32s (l : List Nat) : List Value := l.map fun (c : Nat) => .int .u32 (c : Int)

def fstep (x : Nat) (c : UInt8) : Nat := ((x ^^^ c.toNat) * 16777619) % 4294967296
def fseed : Nat := 2166136261
def fnv (l : List UInt8) : Nat := l.foldl fstep fseed

end Go.Proofs.YtcfamaddnmnaeaaGreatDoor

namespace Go.Proofs.YtcfamaddnmnaeaaGreatDoor
open Go.RowKit Go.Shelf Go.Lib
attribute [local go_sem ↓] run_min_kept run_max_kept

/-- a to z, 0 to 9, the hyphen. -/
def nameB (b : UInt8) : Bool := (decide (97 ≤ b.toNat) && decide (b.toNat ≤ 122)) || (decide (48 ≤ b.toNat) && decide (b.toNat ≤ 57)) || decide (b.toNat = 45)
def headB (b : UInt8) : Bool := decide (97 ≤ b.toNat) && decide (b.toNat ≤ 122)
/-- What a name is. -/
def isName (l : List UInt8) : Bool := decide (1 ≤ l.length) && decide (l.length ≤ 40) && headB (l.headD 0) && l.all nameB

def letters : List UInt8 := [97, 98, 99, 100, 101, 102, 103, 104, 105, 106, 107, 108, 109, 110, 111, 112, 113, 114, 115, 116, 117, 118, 119, 120, 121, 122, 48, 49, 50, 51, 52, 53, 54, 55, 56, 57, 45]
theorem letters_nat : ∀ n : Fin 256, letters.contains (UInt8.ofNat n.val) = nameB (UInt8.ofNat n.val) := by decide +kernel
theorem letters_eq (b : UInt8) : letters.contains b = nameB b := by
  have := letters_nat ⟨b.toNat, b.toNat_lt⟩
  simpa using this

theorem dropWhile_nil {α : Type} (p : α → Bool) : ∀ l : List α, l.dropWhile p = [] ↔ l.all p = true
  | [] => by simp
  | x :: l => by
    cases h : p x
    · simp [h]
    · simp [h, dropWhile_nil p l]
theorem trim_nil (l : List UInt8) : (Lib.trimS l letters = []) ↔ l.all nameB = true := by
  have hf : (fun b => letters.contains b) = nameB := funext letters_eq
  unfold Lib.trimS Lib.trimLeftS Lib.trimRightS
  rw [dropWhile_nil, hf]
  constructor
  · intro h
    rw [List.all_reverse] at h
    have h2 : (l.reverse.dropWhile nameB) = [] := by
      cases hd : l.reverse.dropWhile nameB with
      | nil => rfl
      | cons x r =>
        have h3 := List.head?_dropWhile_not nameB l.reverse
        rw [hd] at h h3
        simp at h h3
        rw [h.1] at h3
        cases h3
    rw [dropWhile_nil, List.all_reverse] at h2
    exact h2
  · intro h
    have : l.reverse.dropWhile nameB = [] := by rw [dropWhile_nil, List.all_reverse]; exact h
    rw [this]; rfl

set_option maxHeartbeats 800000 in
theorem pName_any (s : ByteArray) (w : World) (hs : s.size ≤ 9223372036854775807) :
    Calls Tryz.prog 120 #[.string s] w fun e w' => e = .returned (.bool (isName s.data.toList)) ∧ Below w.heap.size w w' := by
  have hl : s.data.toList.length = s.size := by rw [Array.length_toList]; rfl
  by_cases h0 : s.size < 1
  · have HR := Lib.hid (show isName s.data.toList = false by unfold isName; rw [hl]; simp; omega)
    clear hl
    go_enter Tryz.func120, Tryz.ntmps120
    go_wp2_with fail
    go_ret
    exact ⟨by rw [HR.out]; rfl, Below.refl _ _⟩
  by_cases h1 : 40 < s.size
  · have HR := Lib.hid (show isName s.data.toList = false by unfold isName; rw [hl]; simp; omega)
    clear hl
    go_enter Tryz.func120, Tryz.ntmps120
    go_wp2_with fail
    go_ret
    exact ⟨by rw [HR.out]; rfl, Below.refl _ _⟩
  have hp : 0 < s.size := by omega
  have hh : s.data.toList.headD 0 = s[0] := by
    obtain ⟨⟨l⟩⟩ := s
    cases l with
    | nil => simp [ByteArray.size] at hp
    | cons x r => rfl
  have hlen : (decide (1 ≤ s.data.toList.length) && decide (s.data.toList.length ≤ 40)) = true := by rw [hl]; simp; omega
  have hname : isName s.data.toList = (headB s[0] && s.data.toList.all nameB) := by unfold isName; rw [hlen, hh, Bool.true_and]
  clear hl hlen hh
  by_cases ha : s[0].toNat < 97
  · have HR := Lib.hid (show isName s.data.toList = false by rw [hname]; unfold headB; simp; omega)
    clear hname
    go_enter Tryz.func120, Tryz.ntmps120
    go_wp2_with fail
    go_ret
    exact ⟨by rw [HR.out]; rfl, Below.refl _ _⟩
  by_cases hb : 122 < s[0].toNat
  · have HR := Lib.hid (show isName s.data.toList = false by rw [hname]; unfold headB; simp; omega)
    clear hname
    go_enter Tryz.func120, Tryz.ntmps120
    go_wp2_with fail
    go_ret
    exact ⟨by rw [HR.out]; rfl, Below.refl _ _⟩
  have hhd : headB s[0] = true := by unfold headB; simp; omega
  rw [hhd, Bool.true_and] at hname
  have hlet : (⟨letters.toArray⟩ : ByteArray).size < 4294967281 := by decide
  have hcon := Any.strings_Trim_laid Tryz.l160 (by kernel_rfl) s ⟨letters.toArray⟩ w hs hlet (ascii_of_all (by decide))
  change Calls Tryz.prog 118 #[.string s, .string ⟨#[97, 98, 99, 100, 101, 102, 103, 104, 105, 106, 107, 108, 109, 110, 111, 112, 113, 114, 115, 116, 117, 118, 119, 120, 121, 122, 48, 49, 50, 51, 52, 53, 54, 55, 56, 57, 45]⟩] w (fun e w' => e = .returned (.string ⟨(Lib.trimS s.data.toList letters).toArray⟩) ∧ Below w.heap.size w w') at hcon
  have ha' : 97 ≤ s[0].toNat := by omega
  have hb' : s[0].toNat ≤ 122 := by omega
  by_cases hall : s.data.toList.all nameB = true
  · have HR := Lib.hid (hname.trans hall)
    rw [(trim_nil s.data.toList).2 hall] at hcon
    have HC := Lib.hid hcon
    clear hname hall hcon hhd
    go_enter Tryz.func120, Tryz.ntmps120
    go_wp2_with fail
    refine HC.out.mono ?_
    rintro e w' ⟨rfl, hbel⟩
    go_wp2_with fail
    go_ret
    exact ⟨by rw [HR.out]; rfl, hbel⟩
  · have hne : (⟨(Lib.trimS s.data.toList letters).toArray⟩ : ByteArray) ≠ ⟨#[]⟩ := by
      intro h
      apply hall
      rw [← trim_nil]
      injection h with h
      simpa using h
    have HR := Lib.hid (hname.trans (by simpa using hall))
    have hneb : (⟨(Lib.trimS s.data.toList letters).toArray⟩ : ByteArray).toList.isEmpty = false := by
      rw [ByteArray.toList_eq]
      cases hl : (⟨(Lib.trimS s.data.toList letters).toArray⟩ : ByteArray).data.toList with
      | nil => exact absurd (by simp at hl; rw [hl]) hne
      | cons _ _ => rfl
    generalize (⟨(Lib.trimS s.data.toList letters).toArray⟩ : ByteArray) = r at *
    have HC := Lib.hid hcon
    clear hname hall hcon hhd
    go_enter Tryz.func120, Tryz.ntmps120
    go_wp2_with fail
    refine HC.out.mono ?_
    rintro e w' ⟨rfl, hbel⟩
    go_wp2_with fail
    go_ret
    exact ⟨by rw [HR.out]; rfl, hbel⟩
end Go.Proofs.YtcfamaddnmnaeaaGreatDoor

namespace Go.Proofs.YtcfamaddnmnaeaaGreatDoor
open Go.Lib
set_option linter.unusedVariables false

def digL : List UInt8 := [48, 49, 50, 51, 52, 53, 54, 55, 56, 57]
def sgnL : List UInt8 := [48, 49, 50, 51, 52, 53, 54, 55, 56, 57, 65, 66, 67, 68, 69, 70, 71, 72, 73, 74, 75, 76, 77, 78, 79, 80, 81, 82, 83, 84, 85, 86, 87, 88, 89, 90]
def isDig (c : UInt8) : Bool := decide (48 ≤ c.toNat) && decide (c.toNat ≤ 57)
def isSgn (c : UInt8) : Bool := isDig c || (decide (65 ≤ c.toNat) && decide (c.toNat ≤ 90))
/-- The signs that a body has. -/
def among (two : Bool) (c : UInt8) : Bool := match two with | true => isSgn c | false => isDig c
def signsOf (two : Bool) : List UInt8 := match two with | true => sgnL | false => digL
/-! ## Check digits -/
def sumTo (f : Nat → Int) : Nat → Int
  | 0 => 0
  | n + 1 => sumTo f n + f n
/-- A digit's number. -/
def dv (c : UInt8) : Int := (c.toNat : Int) - 48
def at0 (l : List UInt8) (i : Nat) : UInt8 := l.getD i 0
theorem at0_eq {l : List UInt8} {i : Nat} (h : i < l.length) : at0 l i = l[i] := by unfold at0; rw [List.getD_eq_getElem?_getD, List.getElem?_eq_getElem h]; rfl
def wTerm (l : List UInt8) (i : Nat) : Int := ((i : Int) + 1) * dv (at0 l (i + 1))
def eTerm (l : List UInt8) (i : Nat) : Int := (1 + (i : Int) % 2 * 2) * dv (at0 l i)
def rStep (p : Int) (c : UInt8) : Int := let r := (p + indexByte sgnL c) % 36; 2 * (if r = 0 then 36 else r) % 37
def qTo (l : List UInt8) (k : Nat) : Int := (l.take k).foldl rStep 36
/-- What the sign's number must be. -/
def chk (kind : Int) (l : List UInt8) : Int :=
  if kind = 1 then (10 - (1 + sumTo (wTerm l) 9) % 10) % 10 else if kind = 2 then (1 - qTo l 10 % 36 + 36) % 36 else (10 - sumTo (eTerm l) 12 % 10) % 10
def two (kind : Int) : Bool := decide (kind = 2)
def kindB (kind : Int) : Bool := decide (1 ≤ kind) && decide (kind ≤ 4)
def bodyB (kind : Int) (l : List UInt8) : Bool :=
  if kind = 1 then decide (l.length = 10) && decide (at0 l 0 = 84) && (l.drop 1).all isDig
  else if kind = 2 then decide (l.length = 10) && l.all isSgn else decide (l.length = 12) && l.all isDig
/-- The check digit. -/
def chkS (kind : Int) (l : List UInt8) : UInt8 := at0 sgnL (chk kind l).toNat
/-- Does the sign fit? -/
def fitsB (kind : Int) (l : List UInt8) (c : UInt8) : Bool := decide (c = chkS kind l)
/-! ## Codes -/
def cBody (l : List UInt8) : List UInt8 := l.take (l.length - 1)
def cSign (l : List UInt8) : UInt8 := at0 l (l.length - 1)
def codeF (kind : Int) (l : List UInt8) : Int :=
  if kindB kind = false then 4 else if l.length = 0 then 3 else if bodyB kind (cBody l) = false then 3 else if among (two kind) (cSign l) = false then 3 else if fitsB kind (cBody l) (cSign l) = false then 16 else 0
def digF (kind : Int) (l : List UInt8) : Int := if kindB kind = false then 4 else if bodyB kind l = false then 3 else 0
def digS (kind : Int) (l : List UInt8) : List UInt8 := if digF kind l = 0 then [chkS kind l] else []

/-! ## Codes that are near -/
def swapL (l : List UInt8) (j : Nat) : List UInt8 := (l.set j (at0 l (j + 1))).set (j + 1) (at0 l j)
def setsL (l : List UInt8) (i : Nat) : List (List UInt8) := sgnL.map fun c => l.set i c
def tailP (l : List UInt8) (i : Nat) : List (List UInt8) := if 0 < i then [swapL l (i - 1)] else []
def tailR (l : List UInt8) (i : Nat) : List (List UInt8) := if i + 1 < l.length then [swapL l i] else []
def okN (kind : Int) (code s : List UInt8) : Bool := decide (s ≠ code) && decide (codeF kind s = 0)
def toP (l : List UInt8) (k : Nat) : List (List UInt8) := (List.range k).flatMap fun i => setsL l i ++ tailP l i
def toR (l : List UInt8) (k : Nat) : List (List UInt8) := (List.range k).flatMap fun i => setsL l i ++ tailR l i
def sortS (l : List (List UInt8)) : List (List UInt8) := l.mergeSort fun x y => decide (x ≤ y)
def nearL (kind : Int) (l : List UInt8) : List (List UInt8) := compact (sortS ((toP l l.length).filter (okN kind l)))
end Go.Proofs.YtcfamaddnmnaeaaGreatDoor
