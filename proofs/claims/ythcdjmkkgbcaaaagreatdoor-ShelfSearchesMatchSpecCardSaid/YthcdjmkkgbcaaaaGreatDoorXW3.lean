/- Walks and laws over abstract values, merged by tools/merge.py. No statement of the seat. -/
import Derived.Lib.Bytealg
import Derived.Lib.IndexLaws
import Derived.Lib.SlTrimSet
import Derived.Lib.SlicesCompact
import Derived.Lib.RowBridge
import Derived.Lib.Strings
import Derived.Lib.ConvBytes
import Derived.Laws.Cover3
import Derived.DeepKeys4
import Derived.Maps.Keyed
import Derived.Test.YthcdjmkkgbcaaaaGreatDoorXW2

namespace Go.Proofs.YthcdjmkkgbcaaaaGreatDoor
open Go.RowKit
set_option linter.unusedVariables false

/-- The table lies where it was laid. -/
def TabT (w : World) : Prop := Lib.TabIs Tryz.prog w "strings.asciiSpace" .u8 Lib.asciiSpaceTab
theorem tabT_stays : Stays TabT := fun w w' k h => by
  unfold TabT Lib.TabIs World.var? at h ⊢
  rw [Option.bind_eq_some_iff] at h ⊢
  obtain ⟨g, hg, h2⟩ := h
  refine ⟨g, hg, ?_⟩
  have hlt : g < w.heap.size := by
    rcases Nat.lt_or_ge g w.heap.size with hl | hl
    · exact hl
    · rw [Array.getElem?_eq_none hl] at h2; cases h2
  rw [k.block g hlt (by omega)]
  exact h2
theorem c_fields (s : ByteArray) (hs : s.size < 4294967281) (ha : ∀ (j : Nat) b, s.data.toList[j]? = some b → b.toNat < 128) : ACallT Tryz.prog TabT 39 [.v (.string s)] (.sl ((Lib.fields s.data.toList).map fldD)) :=
 ⟨.of Tryz.func39 (by kernel_rfl) rfl, fun F w vs hT hF hv => by
  rw [repL_v (us := [.string s]) hv]
  have h := Any.strings_Fields Tryz.l157 (by kernel_rfl) (by kernel_rfl) s w hs ha hT
  change Calls Tryz.prog 39 #[.string s] w _ at h
  refine h.mono fun e w' ⟨h1, h2⟩ => ?_
  subst h2
  have hl : ((Lib.fields s.data.toList).map fun l => Value.string ⟨l.toArray⟩).length = (Lib.fields s.data.toList).length := List.length_map ..
  have hN : (Lib.fields s.data.toList).length ≤ s.size := by
   rw [Lib.fields_length, Lib.size_eq]
   have key : ∀ (l : List UInt8) (ws : Bool), Lib.cntF ws l ≤ l.length := by
    intro l
    induction l with
    | nil => intro ws; exact Nat.le_refl _
    | cons b l ih => intro ws; have := ih (Lib.isSp b); unfold Lib.cntF; simp only [List.length_cons]; split <;> omega
   exact key _ _
  obtain ⟨F', hr, hE⟩ := rep_newRow (w := w) (w' := w.alloc (.cells ((Lib.fields s.data.toList).map fun l => Value.string ⟨l.toArray⟩).toArray (Tryz.l157_ren.t 9))) (F := F) (A := w.heap.size) (c := (Lib.fields s.data.toList).length) (vals := (Lib.fields s.data.toList).map fun l => Value.string ⟨l.toArray⟩) hF (Nat.le_refl _) (by show w.heap.size < (w.heap.push _).size; rw [Array.size_push]; omega) ((Below.refl _ w).alloc (Nat.le_refl _) _) (by rw [hl]; exact Nat.le_refl _) (by omega)
   (fun i hi => by
    have hg : (w.alloc (.cells ((Lib.fields s.data.toList).map fun l => Value.string ⟨l.toArray⟩).toArray (Tryz.l157_ren.t 9))).heap[w.heap.size]? = some (.cells ((Lib.fields s.data.toList).map fun l => Value.string ⟨l.toArray⟩).toArray (Tryz.l157_ren.t 9)) := Array.getElem?_push_size
    unfold World.cell?
    rw [hg]
    simp) (fun v hv => by obtain ⟨l, _, rfl⟩ := List.mem_map.1 hv; rfl)
  rw [hl, List.map_map] at hr
  exact ⟨_, F', h1, hr, hE⟩⟩
theorem c_join (xs : List (List UInt8)) (sep : ByteArray) (hN : xs.length ≤ 140737488355328) (hlen : (Lib.join xs sep.data.toList).length ≤ 140737488355328) :
  ACall Tryz.prog 28 [.sl (xs.map fldD), .v (.string sep)] (.v (.string ⟨(Lib.join xs sep.data.toList).toArray⟩)) :=
 ⟨.of Tryz.func28 (by kernel_rfl) rfl, fun F w vs hF hv => by
  obtain ⟨v0, v1, rfl⟩ : ∃ v0 v1, vs = [v0, v1] := by
   match vs, hv.1 with
   | [v0, v1], _ => exact ⟨v0, v1, rfl⟩
  have r0 := hv.2 0 (by simp) (by simp)
  have r1 := hv.2 1 (by simp) (by simp)
  simp only [List.getElem_cons_zero, List.getElem_cons_succ] at r0 r1
  obtain rfl := rep_v r1
  have hx : Builder.Extra Tryz.prog Tryz.l156_ren := by
   exact { sizeBuilder := by kernel_rfl, liesBuilder := by kernel_rfl, t5 := Tryz.l157.t5, a5 := Tryz.l157.a5, z5 := Tryz.l157.z5, v5 := Tryz.l157.v5, infoByte := by kernel_rfl, cellsByte := by kernel_rfl, sizeByte := by kernel_rfl, neB5 := of_decide_eq_true (by kernel_rfl) }
  have h0 := sl_of_rep (xs.map fun l => (⟨l.toArray⟩ : ByteArray)) (fun b => .string b) (by rw [List.map_map]; exact r0)
  have he : (xs.map fun l => (⟨l.toArray⟩ : ByteArray)).map (·.data.toList) = xs := by rw [List.map_map]; simp [Function.comp_def]
  have hl : (xs.map fun l => (⟨l.toArray⟩ : ByteArray)).length = xs.length := List.length_map ..
  rcases h0.2 with ⟨rfl, h2⟩ | ⟨ad, cap, rfl, h2, h3, h4⟩
  ·have hx0 : xs = [] := List.eq_nil_of_length_eq_zero (by rw [← hl]; exact h2)
   subst hx0
   have h := Any.strings_Join_none Tryz.l156 hx none 0 sep w
   change Calls Tryz.prog 28 #[.slice none 0 0, .string sep] w _ at h
   exact h.mono fun e w' ⟨h5, h6⟩ => by subst h6; exact ⟨_, F, h5, .v _, Ext.refl hF⟩
  by_cases hz : xs = []
  ·subst hz
   have h := Any.strings_Join_none Tryz.l156 hx (some ad) cap sep w
   change Calls Tryz.prog 28 #[.slice (some ad) 0 cap, .string sep] w _ at h
   exact h.mono fun e w' ⟨h5, h6⟩ => by subst h6; exact ⟨_, F, h5, .v _, Ext.refl hF⟩
  have hp : 0 < xs.length := List.length_pos_iff.2 hz
  have c0 := h4 0 (by rw [List.length_map, hl]; exact hp)
  obtain ⟨bk, o, sp⟩ := ad
  have hsp : sp = none := by
   cases sp with
   | none => rfl
   | some q =>
    rw [show (Addr.add ⟨bk, o, some q⟩ 0) = ⟨bk, o, some q⟩ from rfl] at c0
    unfold World.cell? at c0
    split at c0
    ·simp at c0
    cases c0
  subst hsp
  have hcells : ∀ (j : Nat) x, (xs.map fun l => (⟨l.toArray⟩ : ByteArray))[j]? = some x → w.cell? ⟨bk, o + j, none⟩ = some (.string x) := fun j x hj => by
   obtain ⟨hj1, hj2⟩ := List.getElem?_eq_some_iff.1 hj
   have := h4 j (by rw [List.length_map]; exact hj1)
   rw [List.getElem_map, hj2] at this
   have e : (Addr.add ⟨bk, o, none⟩ j) = ⟨bk, o + j, none⟩ := by unfold Addr.add; by_cases h0 : j = 0 <;> simp [h0]
   rw [e] at this
   exact this
  have hbk : bk < w.heap.size := by
   have := hcells 0 _ (List.getElem?_eq_getElem (by rw [hl]; exact hp))
   exact World.block_lt_of_cell? _ _ this
  have h := Any.strings_Join Tryz.l156 hx bk o cap (xs.map fun l => (⟨l.toArray⟩ : ByteArray)) sep w hcells hbk (by rw [hl]; exact hN) h2 (by rw [he]; exact hlen)
  rw [he, show Tryz.l156_ren.f 156 = 28 from rfl] at h
  exact h.mono fun e w' ⟨h5, h6⟩ => ⟨_, F, h5, .v _, Ext.of_below hF h6⟩⟩
end Go.Proofs.YthcdjmkkgbcaaaaGreatDoor

namespace Go.Proofs.YthcdjmkkgbcaaaaGreatDoor
open Go.RowKit
set_option linter.unusedVariables false

/-! Types. -/
namespace TyH4
end TyH4
open TyH3 TyH4

theorem c_fieldsL (l : List UInt8) (hs : l.length < 4294967281) (ha : ∀ b ∈ l, b.toNat < 128) : ACallT Tryz.prog TabT 39 [.v (.string ⟨l.toArray⟩)] (.sl ((Lib.fields l).map fldD)) := c_fields (bStr l) (by rw [bStr_size]; exact hs) (fun j b hj => ha b (List.mem_of_getElem? hj))
theorem c_joinL (xs : List (List UInt8)) (hN : xs.length ≤ 140737488355328) (hlen : (Lib.join xs [32]).length ≤ 140737488355328) : ACall Tryz.prog 28 [.sl (xs.map fldD), .v (.string ⟨#[32]⟩)] (.v (.string (bStr (Lib.join xs [32])))) := c_join xs ⟨#[32]⟩ hN hlen
def rTo (s : ByteArray) (k : Nat) : List UInt8 := (s.data.toList.take k).map rMap
theorem rTo_next {s : ByteArray} {k : Nat} (h : k < s.data.toList.length) : rTo s (k + 1) = rTo s k ++ [rMap s.data.toList[k]] := by
  unfold rTo
  rw [List.take_add_one, List.getElem?_eq_getElem h, Option.toList_some, List.map_append]; rfl
theorem rTo_len (s : ByteArray) (k : Nat) : (rTo s k).length ≤ k := by unfold rTo; rw [List.length_map, List.length_take]; omega
theorem rTo_all (s : ByteArray) : rTo s s.size = s.data.toList.map rMap := by unfold rTo; rw [Lib.size_eq, List.take_length]
theorem r_aln {c : UInt8} (h : alnB (lowB c) = true) : rMap c = lowB c := if_pos h
theorem r_sp {c : UInt8} (h : ¬ alnB (lowB c) = true) : rMap c = 32 := if_neg h
theorem low_up_nat : ∀ n : Fin 256, 65 ≤ n.val ∧ n.val ≤ 90 → (lowB (UInt8.ofNat n.val)).toNat = n.val + 32 := by decide +kernel
theorem low_up {c : UInt8} (h : 65 ≤ c.toNat ∧ c.toNat ≤ 90) : (lowB c).toNat = c.toNat + 32 := by
  have := low_up_nat ⟨c.toNat, c.toNat_lt⟩ h
  simp only [UInt8.ofNat_toNat] at this
  exact this
theorem rMap_ascii (c : UInt8) : (rMap c).toNat < 128 := by
  unfold rMap
  split
  · rename_i h
    have := aln_iff.1 h
    omega
  · decide
theorem ascii_all (l : List UInt8) : ∀ b ∈ l.map rMap, b.toNat < 128 := fun b hb => by
  obtain ⟨c, _, rfl⟩ := List.mem_map.1 hb
  exact rMap_ascii c
theorem cnt_le : ∀ (l : List UInt8) (ws : Bool), Lib.cntF ws l ≤ l.length
  | [], _ => Nat.le_refl _
  | b :: l, ws => by have := cnt_le l (Lib.isSp b); unfold Lib.cntF; simp only [List.length_cons]; split <;> omega
theorem fields_le (l : List UInt8) : (Lib.fields l).length ≤ l.length := by rw [Lib.fields_length]; exact cnt_le _ _
theorem trim_le (l p : List UInt8) : (Lib.trimSuffix l p).length ≤ l.length := by
  unfold Lib.trimSuffix
  split
  · rw [List.length_take]; omega
  · exact Nat.le_refl _
theorem joinF_le (s : ByteArray) : (Lib.join (Lib.fields (s.data.toList.map rMap)) [32]).length ≤ s.size := by
  rw [← fold_eq]
  have h1 := trim_le (s.data.toList.foldl pStep []) [32]
  have h2 := pTo_len s s.size
  rw [pTo_all] at h2
  omega
theorem pre_len {l p : List UInt8} (h : Lib.hasPrefix l p = true) : p.length ≤ l.length := by
  unfold Lib.hasPrefix at h
  exact (List.isPrefixOf_iff_prefix.1 h).length_le
theorem slice_hit (l p : List UInt8) : (bStr l).extract (((bStr p).size : Nat) : Int).toNat (bStr l).size = bStr (l.drop p.length) := by rw [Int.toNat_natCast, bStr_size p, bStr_drop]

set_option maxRecDepth 100000 in
set_option maxHeartbeats 1000000 in
theorem c_rFold (s : ByteArray) (hs : s.size ≤ 1048576) : ACallT Tryz.prog TabT 47 [.v (.string s)] (.v (.string (bStr (foldS s.data.toList)))) := by
 refine acall_ofT (n := 72) (ds' := [.v (.string (bStr (foldS s.data.toList)))]) Tryz.func47 rfl (by kernel_rfl) rfl [2] rfl rfl ?_
 intro B w0 F0 hT
 have hsz := Lib.size_eq s
 refine .sr ?_
 refine .aA (.nil ?_)
 refine .sr ?_
 refine .aA (.nil ?_)
 refine .seq ?_
 refine .sr ?_
 refine .mA ?_
 refine .sA (.lenStr rfl st_9 rfl) ?_
 refine .mA (.nil ?_)
 refine .block ?_
 refine .adopt 3 1 5 1 rfl rfl ?_
 refine .loop (G := Nat) (fun k => Env.of [(11, .d (.v (.int .i64 (k : Int)))), (9, .d (.v (.string s))), (10, .d (.v (.int .i64 (s.size : Int)))), (0, .d (.v (.string s))), (3, .own 1)]) (fun k => [(1, .row 5 1 ((rTo s k).map u8D))]) (fun k => k ≤ s.size) (fun k => s.size - k) 0 (Nat.zero_le _) (Sub.less ⟨(SLe.of_eq rfl), SLe.refl _, SLe.refl _, SLe.refl _, SLe.refl _, trivial⟩ (row_same rfl)) ?_
 intro k hk
 refine .sr ?_
 refine .sA (.lss rfl rfl rfl) (.nil ?_)
 refine .seq ?_
 refine .cond rfl (fun h1 => ?_) (fun h1 => ?_)
 ·replace h1 := of_decide_eq_true h1
  have hlt : k < s.data.toList.length := by omega
  have hc := List.getElem?_eq_getElem hlt
  have hpl := rTo_len s k
  have hpn := rTo_next hlt
  generalize s.data.toList[k] = c at hc hpn
  refine .skip ?_
  refine .seq ?_
  refine .block ?_
  refine .sr ?_
  refine .mA ?_
  refine .aA (.nil ?_)
  refine .sr ?_
  refine .mA ?_
  refine .mA ?_
  refine .sA (.indexStr rfl st_9 rfl rfl k rfl hc) ?_
  refine .aA (.nil ?_)
  refine .block ?_
  refine .sr ?_
  refine .mA ?_
  refine .sA (.geq rfl rfl rfl) ?_
  refine .mA ?_
  refine .split 23 rfl (fun g2 => ?_) (fun g2 => ?_)
  ·replace g2 := of_decide_eq_true g2
   refine .sG (.moveD rfl rfl) ?_
   refine .sG (.leq rfl rfl rfl) ?_
   refine .sA (.pickT rfl rfl rfl) ?_
   refine .aA (.nil ?_)
   refine .cond rfl (fun h3 => ?_) (fun h3 => ?_)
   ·replace h3 := of_decide_eq_true h3
    refine .region ?_
    refine .sA (.moveO rfl rfl) ?_
    refine .mA ?_
    refine .sA (.sub rfl rfl rfl) ?_
    refine .sA (.add rfl rfl rfl) ?_
    rw [low_wrap2 (by omega)]
    have hup := low_up (c := c) (by omega)
    refine .sA (.buildSlice rfl et_57 (.cons rfl rfl rfl .nil) rfl (by decide)) ?_
    -- append 32
    refine .append rfl rfl rfl rfl et_57 rfl (.head _) rfl (by simp [D.parts]) (by simp; omega) (by simp; omega) ?_
    refine .sA (.assignO rfl rfl) (.nil ?_)
    refine .region ?_
    refine .sA (.add64 rfl rfl rfl (by omega) (by omega)) ?_
    refine .mA (.nil ?_)
    refine ⟨k + 1, (by omega), (by dsimp only; omega), Sub.less ⟨(SLe.of_eq rfl), SLe.refl _, SLe.refl _, SLe.refl _, SLe.refl _, trivial⟩ (row_same (by first | (rw [hpn, r_aln (aln_iff.2 (by omega)), List.map_append]; rfl) | (rw [hpn, r_sp (fun h => by have := aln_iff.1 h; omega), List.map_append]; rfl)))⟩
   replace h3 := of_decide_eq_false h3
   refine .seq ?_
   have hlc : lowB c = c := low_same (by omega)
   rw [← hlc]
   refine .region ?_
   refine .mA ?_
   refine .sA (.geq rfl rfl rfl) ?_
   refine .mA ?_
   refine .split 36 rfl (fun g4 => ?_) (fun g4 => ?_)
   ·replace g4 := of_decide_eq_true g4
    refine .sG (.moveD rfl rfl) ?_
    refine .sG (.leq rfl rfl rfl) ?_
    refine .sA (.pickT rfl rfl rfl) ?_
    refine .mA ?_
    refine .split 40 rfl (fun g5 => ?_) (fun g5 => ?_)
    ·replace g5 := of_decide_eq_true g5
     refine .pA ?_
     refine .pA ?_
     refine .pA ?_
     refine .pass ⟨43, rfl, .inr ⟨rfl, rfl⟩⟩ rfl rfl ?_
     refine .pass ⟨43, rfl, .inr ⟨rfl, rfl⟩⟩ rfl rfl ?_
     refine .pA ?_
     refine .sA (.pickT rfl rfl rfl) ?_
     refine .aA (.nil ?_)
     refine .cond rfl (fun _ => ?_) (fun h => nomatch h)
     refine .region ?_
     refine .sA (.moveO rfl rfl) ?_
     refine .mA ?_
     refine .sA (.buildSlice rfl et_57 (.cons rfl rfl rfl .nil) rfl (by decide)) ?_
     -- append 51
     refine .append rfl rfl rfl rfl et_57 rfl (.head _) rfl (by simp [D.parts]) (by simp; omega) (by simp; omega) ?_
     refine .sA (.assignO rfl rfl) (.nil ?_)
     refine .region ?_
     refine .sA (.add64 rfl rfl rfl (by omega) (by omega)) ?_
     refine .mA (.nil ?_)
     refine ⟨k + 1, (by omega), (by dsimp only; omega), Sub.less ⟨(SLe.of_eq rfl), SLe.refl _, SLe.refl _, SLe.refl _, SLe.refl _, trivial⟩ (row_same (by first | (rw [hpn, r_aln (aln_iff.2 (by omega)), List.map_append]; rfl) | (rw [hpn, r_sp (fun h => by have := aln_iff.1 h; omega), List.map_append]; rfl)))⟩
    replace g5 := of_decide_eq_false g5
    refine .sG (.moveD rfl rfl) ?_
    refine .sG (.geq rfl rfl rfl) ?_
    refine .sG (.moveD rfl rfl) ?_
    refine .split 43 rfl (fun g6 => ?_) (fun g6 => ?_)
    ·replace g6 := of_decide_eq_true g6
     refine .sG (.moveD rfl rfl) ?_
     refine .sG (.leq rfl rfl rfl) ?_
     refine .sG (.pickT rfl rfl rfl) ?_
     refine .sA (.pickF rfl rfl rfl) ?_
     refine .aA (.nil ?_)
     refine .cond rfl (fun h7 => ?_) (fun h7 => ?_)
     ·replace h7 := of_decide_eq_true h7
      refine .region ?_
      refine .sA (.moveO rfl rfl) ?_
      refine .mA ?_
      refine .sA (.buildSlice rfl et_57 (.cons rfl rfl rfl .nil) rfl (by decide)) ?_
      -- append 51
      refine .append rfl rfl rfl rfl et_57 rfl (.head _) rfl (by simp [D.parts]) (by simp; omega) (by simp; omega) ?_
      refine .sA (.assignO rfl rfl) (.nil ?_)
      refine .region ?_
      refine .sA (.add64 rfl rfl rfl (by omega) (by omega)) ?_
      refine .mA (.nil ?_)
      refine ⟨k + 1, (by omega), (by dsimp only; omega), Sub.less ⟨(SLe.of_eq rfl), SLe.refl _, SLe.refl _, SLe.refl _, SLe.refl _, trivial⟩ (row_same (by first | (rw [hpn, r_aln (aln_iff.2 (by omega)), List.map_append]; rfl) | (rw [hpn, r_sp (fun h => by have := aln_iff.1 h; omega), List.map_append]; rfl)))⟩
     replace h7 := of_decide_eq_false h7
     refine .region ?_
     refine .sA (.moveO rfl rfl) ?_
     refine .sA (.buildSlice rfl et_57 (.cons rfl rfl rfl .nil) rfl (by decide)) ?_
     -- append 19
     refine .append rfl rfl rfl rfl et_57 rfl (.head _) rfl (by simp [D.parts]) (by simp; omega) (by simp; omega) ?_
     refine .sA (.assignO rfl rfl) (.nil ?_)
     refine .region ?_
     refine .sA (.add64 rfl rfl rfl (by omega) (by omega)) ?_
     refine .mA (.nil ?_)
     refine ⟨k + 1, (by omega), (by dsimp only; omega), Sub.less ⟨(SLe.of_eq rfl), SLe.refl _, SLe.refl _, SLe.refl _, SLe.refl _, trivial⟩ (row_same (by first | (rw [hpn, r_aln (aln_iff.2 (by omega)), List.map_append]; rfl) | (rw [hpn, r_sp (fun h => by have := aln_iff.1 h; omega), List.map_append]; rfl)))⟩
    replace g6 := of_decide_eq_false g6
    refine .pA ?_
    refine .pA ?_
    refine .sG (.pickF rfl rfl rfl) ?_
    refine .sA (.pickF rfl rfl rfl) ?_
    refine .aA (.nil ?_)
    refine .cond rfl (fun h => nomatch h) (fun _ => ?_)
    refine .region ?_
    refine .sA (.moveO rfl rfl) ?_
    refine .sA (.buildSlice rfl et_57 (.cons rfl rfl rfl .nil) rfl (by decide)) ?_
    -- append 19
    refine .append rfl rfl rfl rfl et_57 rfl (.head _) rfl (by simp [D.parts]) (by simp; omega) (by simp; omega) ?_
    refine .sA (.assignO rfl rfl) (.nil ?_)
    refine .region ?_
    refine .sA (.add64 rfl rfl rfl (by omega) (by omega)) ?_
    refine .mA (.nil ?_)
    refine ⟨k + 1, (by omega), (by dsimp only; omega), Sub.less ⟨(SLe.of_eq rfl), SLe.refl _, SLe.refl _, SLe.refl _, SLe.refl _, trivial⟩ (row_same (by first | (rw [hpn, r_aln (aln_iff.2 (by omega)), List.map_append]; rfl) | (rw [hpn, r_sp (fun h => by have := aln_iff.1 h; omega), List.map_append]; rfl)))⟩
   replace g4 := of_decide_eq_false g4
   refine .pA ?_
   refine .pA ?_
   refine .sA (.pickF rfl rfl rfl) ?_
   refine .mA ?_
   refine .sG (.moveD rfl rfl) ?_
   refine .sG (.geq rfl rfl rfl) ?_
   refine .sG (.moveD rfl rfl) ?_
   refine .split 43 rfl (fun g8 => ?_) (fun g8 => ?_)
   ·replace g8 := of_decide_eq_true g8
    refine .sG (.moveD rfl rfl) ?_
    refine .sG (.leq rfl rfl rfl) ?_
    refine .sG (.pickT rfl rfl rfl) ?_
    refine .sA (.pickF rfl rfl rfl) ?_
    refine .aA (.nil ?_)
    refine .cond rfl (fun h9 => ?_) (fun h9 => ?_)
    ·replace h9 := of_decide_eq_true h9
     refine .region ?_
     refine .sA (.moveO rfl rfl) ?_
     refine .mA ?_
     refine .sA (.buildSlice rfl et_57 (.cons rfl rfl rfl .nil) rfl (by decide)) ?_
     -- append 51
     refine .append rfl rfl rfl rfl et_57 rfl (.head _) rfl (by simp [D.parts]) (by simp; omega) (by simp; omega) ?_
     refine .sA (.assignO rfl rfl) (.nil ?_)
     refine .region ?_
     refine .sA (.add64 rfl rfl rfl (by omega) (by omega)) ?_
     refine .mA (.nil ?_)
     refine ⟨k + 1, (by omega), (by dsimp only; omega), Sub.less ⟨(SLe.of_eq rfl), SLe.refl _, SLe.refl _, SLe.refl _, SLe.refl _, trivial⟩ (row_same (by first | (rw [hpn, r_aln (aln_iff.2 (by omega)), List.map_append]; rfl) | (rw [hpn, r_sp (fun h => by have := aln_iff.1 h; omega), List.map_append]; rfl)))⟩
    replace h9 := of_decide_eq_false h9
    refine .region ?_
    refine .sA (.moveO rfl rfl) ?_
    refine .sA (.buildSlice rfl et_57 (.cons rfl rfl rfl .nil) rfl (by decide)) ?_
    -- append 19
    refine .append rfl rfl rfl rfl et_57 rfl (.head _) rfl (by simp [D.parts]) (by simp; omega) (by simp; omega) ?_
    refine .sA (.assignO rfl rfl) (.nil ?_)
    refine .region ?_
    refine .sA (.add64 rfl rfl rfl (by omega) (by omega)) ?_
    refine .mA (.nil ?_)
    refine ⟨k + 1, (by omega), (by dsimp only; omega), Sub.less ⟨(SLe.of_eq rfl), SLe.refl _, SLe.refl _, SLe.refl _, SLe.refl _, trivial⟩ (row_same (by first | (rw [hpn, r_aln (aln_iff.2 (by omega)), List.map_append]; rfl) | (rw [hpn, r_sp (fun h => by have := aln_iff.1 h; omega), List.map_append]; rfl)))⟩
   replace g8 := of_decide_eq_false g8
   refine .pA ?_
   refine .pA ?_
   refine .sG (.pickF rfl rfl rfl) ?_
   refine .sA (.pickF rfl rfl rfl) ?_
   refine .aA (.nil ?_)
   refine .cond rfl (fun h => nomatch h) (fun _ => ?_)
   refine .region ?_
   refine .sA (.moveO rfl rfl) ?_
   refine .sA (.buildSlice rfl et_57 (.cons rfl rfl rfl .nil) rfl (by decide)) ?_
   -- append 19
   refine .append rfl rfl rfl rfl et_57 rfl (.head _) rfl (by simp [D.parts]) (by simp; omega) (by simp; omega) ?_
   refine .sA (.assignO rfl rfl) (.nil ?_)
   refine .region ?_
   refine .sA (.add64 rfl rfl rfl (by omega) (by omega)) ?_
   refine .mA (.nil ?_)
   refine ⟨k + 1, (by omega), (by dsimp only; omega), Sub.less ⟨(SLe.of_eq rfl), SLe.refl _, SLe.refl _, SLe.refl _, SLe.refl _, trivial⟩ (row_same (by first | (rw [hpn, r_aln (aln_iff.2 (by omega)), List.map_append]; rfl) | (rw [hpn, r_sp (fun h => by have := aln_iff.1 h; omega), List.map_append]; rfl)))⟩
  replace g2 := of_decide_eq_false g2
  refine .pA ?_
  refine .pA ?_
  refine .sA (.pickF rfl rfl rfl) ?_
  refine .aA (.nil ?_)
  refine .cond rfl (fun h => nomatch h) (fun _ => ?_)
  refine .seq ?_
  have hlc : lowB c = c := low_same (by omega)
  rw [← hlc]
  refine .region ?_
  refine .mA ?_
  refine .sA (.geq rfl rfl rfl) ?_
  refine .mA ?_
  refine .split 36 rfl (fun g10 => ?_) (fun g10 => ?_)
  ·replace g10 := of_decide_eq_true g10
   refine .sG (.moveD rfl rfl) ?_
   refine .sG (.leq rfl rfl rfl) ?_
   refine .sA (.pickT rfl rfl rfl) ?_
   refine .mA ?_
   refine .split 40 rfl (fun g11 => ?_) (fun g11 => ?_)
   ·replace g11 := of_decide_eq_true g11
    refine .pA ?_
    refine .pA ?_
    refine .pA ?_
    refine .pass ⟨43, rfl, .inr ⟨rfl, rfl⟩⟩ rfl rfl ?_
    refine .pass ⟨43, rfl, .inr ⟨rfl, rfl⟩⟩ rfl rfl ?_
    refine .pA ?_
    refine .sA (.pickT rfl rfl rfl) ?_
    refine .aA (.nil ?_)
    refine .cond rfl (fun _ => ?_) (fun h => nomatch h)
    refine .region ?_
    refine .sA (.moveO rfl rfl) ?_
    refine .mA ?_
    refine .sA (.buildSlice rfl et_57 (.cons rfl rfl rfl .nil) rfl (by decide)) ?_
    -- append 51
    refine .append rfl rfl rfl rfl et_57 rfl (.head _) rfl (by simp [D.parts]) (by simp; omega) (by simp; omega) ?_
    refine .sA (.assignO rfl rfl) (.nil ?_)
    refine .region ?_
    refine .sA (.add64 rfl rfl rfl (by omega) (by omega)) ?_
    refine .mA (.nil ?_)
    refine ⟨k + 1, (by omega), (by dsimp only; omega), Sub.less ⟨(SLe.of_eq rfl), SLe.refl _, SLe.refl _, SLe.refl _, SLe.refl _, trivial⟩ (row_same (by first | (rw [hpn, r_aln (aln_iff.2 (by omega)), List.map_append]; rfl) | (rw [hpn, r_sp (fun h => by have := aln_iff.1 h; omega), List.map_append]; rfl)))⟩
   replace g11 := of_decide_eq_false g11
   refine .sG (.moveD rfl rfl) ?_
   refine .sG (.geq rfl rfl rfl) ?_
   refine .sG (.moveD rfl rfl) ?_
   refine .split 43 rfl (fun g12 => ?_) (fun g12 => ?_)
   ·replace g12 := of_decide_eq_true g12
    refine .sG (.moveD rfl rfl) ?_
    refine .sG (.leq rfl rfl rfl) ?_
    refine .sG (.pickT rfl rfl rfl) ?_
    refine .sA (.pickF rfl rfl rfl) ?_
    refine .aA (.nil ?_)
    refine .cond rfl (fun h13 => ?_) (fun h13 => ?_)
    ·replace h13 := of_decide_eq_true h13
     refine .region ?_
     refine .sA (.moveO rfl rfl) ?_
     refine .mA ?_
     refine .sA (.buildSlice rfl et_57 (.cons rfl rfl rfl .nil) rfl (by decide)) ?_
     -- append 51
     refine .append rfl rfl rfl rfl et_57 rfl (.head _) rfl (by simp [D.parts]) (by simp; omega) (by simp; omega) ?_
     refine .sA (.assignO rfl rfl) (.nil ?_)
     refine .region ?_
     refine .sA (.add64 rfl rfl rfl (by omega) (by omega)) ?_
     refine .mA (.nil ?_)
     refine ⟨k + 1, (by omega), (by dsimp only; omega), Sub.less ⟨(SLe.of_eq rfl), SLe.refl _, SLe.refl _, SLe.refl _, SLe.refl _, trivial⟩ (row_same (by first | (rw [hpn, r_aln (aln_iff.2 (by omega)), List.map_append]; rfl) | (rw [hpn, r_sp (fun h => by have := aln_iff.1 h; omega), List.map_append]; rfl)))⟩
    replace h13 := of_decide_eq_false h13
    refine .region ?_
    refine .sA (.moveO rfl rfl) ?_
    refine .sA (.buildSlice rfl et_57 (.cons rfl rfl rfl .nil) rfl (by decide)) ?_
    -- append 19
    refine .append rfl rfl rfl rfl et_57 rfl (.head _) rfl (by simp [D.parts]) (by simp; omega) (by simp; omega) ?_
    refine .sA (.assignO rfl rfl) (.nil ?_)
    refine .region ?_
    refine .sA (.add64 rfl rfl rfl (by omega) (by omega)) ?_
    refine .mA (.nil ?_)
    refine ⟨k + 1, (by omega), (by dsimp only; omega), Sub.less ⟨(SLe.of_eq rfl), SLe.refl _, SLe.refl _, SLe.refl _, SLe.refl _, trivial⟩ (row_same (by first | (rw [hpn, r_aln (aln_iff.2 (by omega)), List.map_append]; rfl) | (rw [hpn, r_sp (fun h => by have := aln_iff.1 h; omega), List.map_append]; rfl)))⟩
   replace g12 := of_decide_eq_false g12
   refine .pA ?_
   refine .pA ?_
   refine .sG (.pickF rfl rfl rfl) ?_
   refine .sA (.pickF rfl rfl rfl) ?_
   refine .aA (.nil ?_)
   refine .cond rfl (fun h => nomatch h) (fun _ => ?_)
   refine .region ?_
   refine .sA (.moveO rfl rfl) ?_
   refine .sA (.buildSlice rfl et_57 (.cons rfl rfl rfl .nil) rfl (by decide)) ?_
   -- append 19
   refine .append rfl rfl rfl rfl et_57 rfl (.head _) rfl (by simp [D.parts]) (by simp; omega) (by simp; omega) ?_
   refine .sA (.assignO rfl rfl) (.nil ?_)
   refine .region ?_
   refine .sA (.add64 rfl rfl rfl (by omega) (by omega)) ?_
   refine .mA (.nil ?_)
   refine ⟨k + 1, (by omega), (by dsimp only; omega), Sub.less ⟨(SLe.of_eq rfl), SLe.refl _, SLe.refl _, SLe.refl _, SLe.refl _, trivial⟩ (row_same (by first | (rw [hpn, r_aln (aln_iff.2 (by omega)), List.map_append]; rfl) | (rw [hpn, r_sp (fun h => by have := aln_iff.1 h; omega), List.map_append]; rfl)))⟩
  replace g10 := of_decide_eq_false g10
  refine .pA ?_
  refine .pA ?_
  refine .sA (.pickF rfl rfl rfl) ?_
  refine .mA ?_
  refine .sG (.moveD rfl rfl) ?_
  refine .sG (.geq rfl rfl rfl) ?_
  refine .sG (.moveD rfl rfl) ?_
  refine .split 43 rfl (fun g14 => ?_) (fun g14 => ?_)
  ·replace g14 := of_decide_eq_true g14
   refine .sG (.moveD rfl rfl) ?_
   refine .sG (.leq rfl rfl rfl) ?_
   refine .sG (.pickT rfl rfl rfl) ?_
   refine .sA (.pickF rfl rfl rfl) ?_
   refine .aA (.nil ?_)
   refine .cond rfl (fun h15 => ?_) (fun h15 => ?_)
   ·replace h15 := of_decide_eq_true h15
    refine .region ?_
    refine .sA (.moveO rfl rfl) ?_
    refine .mA ?_
    refine .sA (.buildSlice rfl et_57 (.cons rfl rfl rfl .nil) rfl (by decide)) ?_
    -- append 51
    refine .append rfl rfl rfl rfl et_57 rfl (.head _) rfl (by simp [D.parts]) (by simp; omega) (by simp; omega) ?_
    refine .sA (.assignO rfl rfl) (.nil ?_)
    refine .region ?_
    refine .sA (.add64 rfl rfl rfl (by omega) (by omega)) ?_
    refine .mA (.nil ?_)
    refine ⟨k + 1, (by omega), (by dsimp only; omega), Sub.less ⟨(SLe.of_eq rfl), SLe.refl _, SLe.refl _, SLe.refl _, SLe.refl _, trivial⟩ (row_same (by first | (rw [hpn, r_aln (aln_iff.2 (by omega)), List.map_append]; rfl) | (rw [hpn, r_sp (fun h => by have := aln_iff.1 h; omega), List.map_append]; rfl)))⟩
   replace h15 := of_decide_eq_false h15
   refine .region ?_
   refine .sA (.moveO rfl rfl) ?_
   refine .sA (.buildSlice rfl et_57 (.cons rfl rfl rfl .nil) rfl (by decide)) ?_
   -- append 19
   refine .append rfl rfl rfl rfl et_57 rfl (.head _) rfl (by simp [D.parts]) (by simp; omega) (by simp; omega) ?_
   refine .sA (.assignO rfl rfl) (.nil ?_)
   refine .region ?_
   refine .sA (.add64 rfl rfl rfl (by omega) (by omega)) ?_
   refine .mA (.nil ?_)
   refine ⟨k + 1, (by omega), (by dsimp only; omega), Sub.less ⟨(SLe.of_eq rfl), SLe.refl _, SLe.refl _, SLe.refl _, SLe.refl _, trivial⟩ (row_same (by first | (rw [hpn, r_aln (aln_iff.2 (by omega)), List.map_append]; rfl) | (rw [hpn, r_sp (fun h => by have := aln_iff.1 h; omega), List.map_append]; rfl)))⟩
  replace g14 := of_decide_eq_false g14
  refine .pA ?_
  refine .pA ?_
  refine .sG (.pickF rfl rfl rfl) ?_
  refine .sA (.pickF rfl rfl rfl) ?_
  refine .aA (.nil ?_)
  refine .cond rfl (fun h => nomatch h) (fun _ => ?_)
  refine .region ?_
  refine .sA (.moveO rfl rfl) ?_
  refine .sA (.buildSlice rfl et_57 (.cons rfl rfl rfl .nil) rfl (by decide)) ?_
  -- append 19
  refine .append rfl rfl rfl rfl et_57 rfl (.head _) rfl (by simp [D.parts]) (by simp; omega) (by simp; omega) ?_
  refine .sA (.assignO rfl rfl) (.nil ?_)
  refine .region ?_
  refine .sA (.add64 rfl rfl rfl (by omega) (by omega)) ?_
  refine .mA (.nil ?_)
  refine ⟨k + 1, (by omega), (by dsimp only; omega), Sub.less ⟨(SLe.of_eq rfl), SLe.refl _, SLe.refl _, SLe.refl _, SLe.refl _, trivial⟩ (row_same (by first | (rw [hpn, r_aln (aln_iff.2 (by omega)), List.map_append]; rfl) | (rw [hpn, r_sp (fun h => by have := aln_iff.1 h; omega), List.map_append]; rfl)))⟩
 replace h1 := of_decide_eq_false h1
 obtain rfl : k = s.size := by omega
 rw [rTo_all]
 have hjl := joinF_le s
 have hfl := fields_le (s.data.toList.map rMap)
 rw [List.length_map] at hfl
 refine .exit ?_
 refine .sr ?_
 refine .sA (.moveO rfl rfl) ?_
 refine .freeze 53 rfl (.head _) ?_
 refine .sA (.bytesStr rfl et_57.ht Tryz.underlying5 st_9 rfl) ?_
 -- wants the world
 refine .callT rfl rfl rfl hT tabT_stays rfl (.cons (.rfl' rfl) .nil) (c_fieldsL _ (by rw [List.length_map]; omega) (ascii_all _)) ?_
 refine .sA (.call rfl (.cons (.rfl' rfl) (.cons (.rfl' rfl) .nil)) (c_joinL _ (by omega) (by omega))) ?_
 rw [← fold_eq]
 refine .aA (.nil ?_)
 refine .seq ?_
 refine .sr ?_
 refine .sA (.buildSlice rfl et_68 (.cons rfl rfl rfl (.cons rfl rfl rfl (.cons rfl rfl rfl .nil))) rfl (by decide)) ?_
 refine .sA (.lenSl rfl et_68.ht rfl) ?_
 refine .mA (.nil ?_)
 refine .block ?_
 refine .loop (G := Nat) (fun i => Env.of [(59, .d (.v (.int .i64 (i : Int)))), (57, .d (.sl (arts.map artD))), (58, .d (.v (.int .i64 3))), (6, .d (.v (.string (bStr (Lib.trimSuffix (s.data.toList.foldl pStep []) [32])))))]) (fun i => []) (fun i => i ≤ 3 ∧ ∀ p ∈ arts.take i, Lib.hasPrefix (Lib.trimSuffix (s.data.toList.foldl pStep []) [32]) p = false) (fun i => 3 - i) 0 ⟨Nat.zero_le _, fun p hp => by simp at hp⟩ (Sub.less ⟨(SLe.of_eq rfl), (SLe.of_eq rfl), (SLe.of_eq rfl), SLe.refl _, trivial⟩ (fun _ h => h)) ?_
 rintro i ⟨hi, h0⟩
 refine .sr ?_
 refine .sA (.lss rfl rfl rfl) (.nil ?_)
 refine .seq ?_
 refine .cond rfl (fun h16 => ?_) (fun h16 => ?_)
 ·replace h16 := of_decide_eq_true h16
  have hlt : i < arts.length := by show i < 3; omega
  refine .skip ?_
  refine .seq ?_
  refine .block ?_
  refine .sr ?_
  refine .sA (.indexAddr rfl et_68 rfl rfl i rfl (at_list hlt) rfl) ?_
  refine .sA (.load rfl sc_9 rfl) ?_
  refine .aA (.nil ?_)
  refine .sr ?_
  refine .mA ?_
  refine .mA ?_
  refine .sA (.call rfl (.cons (.rfl' rfl) (.cons (.rfl' rfl) .nil)) (c_hasP _ _)) (.nil ?_)
  refine .cond rfl (fun h17 => ?_) (fun h17 => ?_)
  ·skip
   have HR : foldS s.data.toList = (Lib.trimSuffix (s.data.toList.foldl pStep []) [32]).drop arts[i].length := strip_hit hlt h0 h17
   rw [HR]
   have hpre := pre_len h17
   refine .sr ?_
   refine .mA ?_
   refine .mA ?_
   refine .sA (.lenStr rfl st_9 rfl) ?_
   refine .sA (.sliceStrL rfl Tryz.underlying9 rfl rfl (Int.natCast_nonneg _) (by rw [bStr_size, bStr_size]; omega)) ?_
   rw [slice_hit]
   refine .aA (.nil ?_)
   refine .ret ?_
   refine ⟨RetD.eq rfl ?_, trivial⟩
   all_goals (rfl)
  have HN := art_next hlt h0 h17
  refine .skip ?_
  refine .region ?_
  refine .sA (.add64 rfl rfl rfl (by omega) (by omega)) ?_
  refine .mA (.nil ?_)
  refine ⟨i + 1, ⟨by omega, HN⟩, (by dsimp only; omega), Sub.less ⟨(SLe.of_eq rfl), SLe.refl _, SLe.refl _, SLe.refl _, trivial⟩ (fun _ h => h)⟩
 replace h16 := of_decide_eq_false h16
 obtain rfl : i = 3 := by omega
 have HR : foldS s.data.toList = Lib.trimSuffix (s.data.toList.foldl pStep []) [32] := strip_none h0
 rw [HR]
 refine .exit ?_
 refine .sr ?_
 refine .mA ?_
 refine .aA (.nil ?_)
 refine .ret ?_
 refine ⟨RetD.eq rfl ?_, trivial⟩
 all_goals (rfl)

end Go.Proofs.YthcdjmkkgbcaaaaGreatDoor

namespace Go.Proofs.YthcdjmkkgbcaaaaGreatDoor
open Go.RowKit
set_option linter.unusedVariables false

/-! Types. -/
namespace TyH5
end TyH5
open TyH3 TyH4 TyH5

theorem rain_fold : foldS [84, 104, 101, 32, 82, 97, 105, 110, 44, 32, 80, 97, 114, 116, 32, 50] = [114, 97, 105, 110, 32, 112, 97, 114, 116, 32, 50] := by decide +kernel
theorem c_rain : ACall Tryz.prog 25 [.v (.string ⟨#[84, 104, 101, 32, 82, 97, 105, 110, 44, 32, 80, 97, 114, 116, 32, 50]⟩)] (.v (.string ⟨#[114, 97, 105, 110, 32, 112, 97, 114, 116, 32, 50]⟩)) := by
 have h := c_pFold ⟨#[84, 104, 101, 32, 82, 97, 105, 110, 44, 32, 80, 97, 114, 116, 32, 50]⟩ (by decide)
 have e : bStr (foldS (⟨#[84, 104, 101, 32, 82, 97, 105, 110, 44, 32, 80, 97, 114, 116, 32, 50]⟩ : ByteArray).data.toList) = ⟨#[114, 97, 105, 110, 32, 112, 97, 114, 116, 32, 50]⟩ := by
  show bStr (foldS [84, 104, 101, 32, 82, 97, 105, 110, 44, 32, 80, 97, 114, 116, 32, 50]) = _
  rw [rain_fold]
  rfl
 rw [e] at h
 exact h

set_option maxRecDepth 100000 in
set_option maxHeartbeats 1000000 in
theorem c_awake  : ACall Tryz.prog 9 [] (.v (.bool true)) := by
 refine acall_of (n := 3) (ds' := [.v (.bool true)]) Tryz.func9 rfl (by kernel_rfl) rfl [0] rfl rfl ?_
 intro B w0 F0 fr
 refine .sr ?_
 refine .aA (.nil ?_)
 refine .sr ?_
 refine .sA (.call rfl (.cons (.rfl' rfl) .nil) c_rain) ?_
 refine .sA (.seql rfl rfl rfl) ?_
 refine .aA (.nil ?_)
 refine .ret ?_
 refine ⟨RetD.eq rfl ?_, trivial⟩
 all_goals (simp)

end Go.Proofs.YthcdjmkkgbcaaaaGreatDoor

namespace Go.Proofs.YthcdjmkkgbcaaaaGreatDoor
open Go.Lib
set_option linter.unusedVariables false

def digL : List UInt8 := [48, 49, 50, 51, 52, 53, 54, 55, 56, 57]
def sgnL : List UInt8 := [48, 49, 50, 51, 52, 53, 54, 55, 56, 57, 65, 66, 67, 68, 69, 70, 71, 72, 73, 74, 75, 76, 77, 78, 79, 80, 81, 82, 83, 84, 85, 86, 87, 88, 89, 90]
def isDig (c : UInt8) : Bool := decide (48 ≤ c.toNat) && decide (c.toNat ≤ 57)
def isSgn (c : UInt8) : Bool := isDig c || (decide (65 ≤ c.toNat) && decide (c.toNat ≤ 90))
/-- The signs that a body has. -/
def among (two : Bool) (c : UInt8) : Bool := match two with | true => isSgn c | false => isDig c
def signsOf (two : Bool) : List UInt8 := match two with | true => sgnL | false => digL
theorem sg_nat : ∀ n : Fin 256, (decide (0 ≤ indexByte sgnL (UInt8.ofNat n.val)) = isSgn (UInt8.ofNat n.val)) ∧ (decide (0 ≤ indexByte digL (UInt8.ofNat n.val)) = isDig (UInt8.ofNat n.val)) ∧ indexByte sgnL (UInt8.ofNat n.val) < 36 ∧ digL.contains (UInt8.ofNat n.val) = isDig (UInt8.ofNat n.val) ∧ sgnL.contains (UInt8.ofNat n.val) = isSgn (UInt8.ofNat n.val) ∧ (isDig (UInt8.ofNat n.val) = true → indexByte sgnL (UInt8.ofNat n.val) < 10 ∧ 0 ≤ indexByte sgnL (UInt8.ofNat n.val)) := by decide +kernel
theorem sg_all (c : UInt8) : (decide (0 ≤ indexByte sgnL c) = isSgn c) ∧ (decide (0 ≤ indexByte digL c) = isDig c) ∧ indexByte sgnL c < 36 ∧ digL.contains c = isDig c ∧ sgnL.contains c = isSgn c ∧ (isDig c = true → indexByte sgnL c < 10 ∧ 0 ≤ indexByte sgnL c) := by
  have := sg_nat ⟨c.toNat, c.toNat_lt⟩
  simp only [UInt8.ofNat_toNat] at this
  exact this
theorem sg_pos {c : UInt8} : 0 ≤ indexByte sgnL c ↔ isSgn c = true := by rw [← (sg_all c).1]; simp
theorem dg_pos {c : UInt8} : 0 ≤ indexByte digL c ↔ isDig c = true := by rw [← (sg_all c).2.1]; simp
theorem sg_of {b : Bool} {c : UInt8} : 0 ≤ indexByte (signsOf b) c ↔ among b c = true := by cases b <;> first | exact dg_pos | exact sg_pos
theorem contains_of (b : Bool) (c : UInt8) : (signsOf b).contains c = among b c := by cases b <;> first | exact (sg_all c).2.2.2.1 | exact (sg_all c).2.2.2.2.1
theorem at_nat : ∀ k : Fin 36, indexByte sgnL (sgnL[k.val]'k.isLt) = k.val ∧ isSgn (sgnL[k.val]'k.isLt) = true ∧ (k.val < 10 → isDig (sgnL[k.val]'k.isLt) = true ∧ digL[k.val]? = sgnL[k.val]?) := by decide +kernel
theorem among_sgn {b : Bool} {c : UInt8} (h : among b c = true) : isSgn c = true := by
  cases b
  · show (isDig c || _) = true
    rw [show isDig c = true from h]; rfl
  · exact h

theorem drop_all {α : Type} (p : α → Bool) : ∀ l : List α, l.dropWhile p = [] ↔ l.all p = true
  | [] => by simp
  | x :: l => by
    cases h : p x
    · simp [h]
    · simp [h, drop_all p l]
theorem trim_all (b : Bool) (l : List UInt8) : (trimS l (signsOf b) = []) ↔ l.all (among b) = true := by
  have hf : (fun c => (signsOf b).contains c) = among b := funext (contains_of b)
  unfold trimS trimLeftS trimRightS
  rw [drop_all, hf]
  constructor
  · intro h
    rw [List.all_reverse] at h
    have h2 : (l.reverse.dropWhile (among b)) = [] := by
      cases hd : l.reverse.dropWhile (among b) with
      | nil => rfl
      | cons x r =>
        have h3 := List.head?_dropWhile_not (among b) l.reverse
        rw [hd] at h h3
        simp at h h3
        rw [h.1] at h3
        cases h3
    rw [drop_all, List.all_reverse] at h2
    exact h2
  · intro h
    have : l.reverse.dropWhile (among b) = [] := by rw [drop_all, List.all_reverse]; exact h
    rw [this]; rfl

/-! ## Check digits -/
def sumTo (f : Nat → Int) : Nat → Int
  | 0 => 0
  | n + 1 => sumTo f n + f n
theorem sumTo_bound {f : Nat → Int} {M : Int} : ∀ (n : Nat), (∀ i, i < n → 0 ≤ f i ∧ f i ≤ M) → 0 ≤ sumTo f n ∧ sumTo f n ≤ n * M
  | 0, _ => by unfold sumTo; simp
  | n + 1, h => by
    have h1 := sumTo_bound n (fun i hi => h i (by omega))
    have h2 := h n (by omega)
    show 0 ≤ sumTo f n + f n ∧ sumTo f n + f n ≤ ((n + 1 : Nat) : Int) * M
    rw [show ((n + 1 : Nat) : Int) * M = n * M + M by rw [Int.natCast_add, Int.add_mul]; simp]
    omega
/-- A digit's number. -/
def dv (c : UInt8) : Int := (c.toNat : Int) - 48
def at0 (l : List UInt8) (i : Nat) : UInt8 := l.getD i 0
theorem at0_eq {l : List UInt8} {i : Nat} (h : i < l.length) : at0 l i = l[i] := by unfold at0; rw [List.getD_eq_getElem?_getD, List.getElem?_eq_getElem h]; rfl
def wTerm (l : List UInt8) (i : Nat) : Int := ((i : Int) + 1) * dv (at0 l (i + 1))
def eTerm (l : List UInt8) (i : Nat) : Int := (1 + (i : Int) % 2 * 2) * dv (at0 l i)
def rStep (p : Int) (c : UInt8) : Int := let r := (p + indexByte sgnL c) % 36; 2 * (if r = 0 then 36 else r) % 37
def qTo (l : List UInt8) (k : Nat) : Int := (l.take k).foldl rStep 36
theorem qTo_next {l : List UInt8} {k : Nat} (h : k < l.length) : qTo l (k + 1) = rStep (qTo l k) l[k] := by
  unfold qTo
  rw [List.take_add_one, List.getElem?_eq_getElem h, Option.toList_some, List.foldl_append]; rfl
theorem qTo_bound (l : List UInt8) : ∀ k, 0 ≤ qTo l k ∧ qTo l k ≤ 36
  | 0 => by unfold qTo; simp
  | k + 1 => by
    by_cases h : k < l.length
    · rw [qTo_next h]; unfold rStep; dsimp only; omega
    · have e : l.take (k + 1) = l.take k := by rw [List.take_of_length_le (by omega), List.take_of_length_le (by omega)]
      have h2 := qTo_bound l k
      unfold qTo at h2 ⊢
      rw [e]; exact h2
/-- What the sign's number must be. -/
def chk (kind : Int) (l : List UInt8) : Int :=
  if kind = 1 then (10 - (1 + sumTo (wTerm l) 9) % 10) % 10 else if kind = 2 then (1 - qTo l 10 % 36 + 36) % 36 else (10 - sumTo (eTerm l) 12 % 10) % 10
def two (kind : Int) : Bool := decide (kind = 2)
def kindB (kind : Int) : Bool := decide (1 ≤ kind) && decide (kind ≤ 4)
def bodyB (kind : Int) (l : List UInt8) : Bool :=
  if kind = 1 then decide (l.length = 10) && decide (at0 l 0 = 84) && (l.drop 1).all isDig
  else if kind = 2 then decide (l.length = 10) && l.all isSgn else decide (l.length = 12) && l.all isDig
theorem body1 {l : List UInt8} (h : bodyB 1 l = true) : l.length = 10 ∧ at0 l 0 = 84 ∧ ∀ i, 1 ≤ i → i < 10 → isDig (at0 l i) = true := by
  unfold bodyB at h
  simp only [if_true, Bool.and_eq_true, decide_eq_true_eq] at h
  obtain ⟨⟨h1, h2⟩, h3⟩ := h
  refine ⟨h1, h2, fun i hi hj => ?_⟩
  rw [at0_eq (by omega)]
  rw [List.all_eq_true] at h3
  apply h3
  have : l[i] = (l.drop 1)[i - 1]'(by rw [List.length_drop]; omega) := by rw [List.getElem_drop]; congr 1; omega
  rw [this]
  exact List.getElem_mem _
theorem body2 {l : List UInt8} (h : bodyB 2 l = true) : l.length = 10 ∧ ∀ c ∈ l, isSgn c = true := by
  unfold bodyB at h
  simp only [show ¬ ((2 : Int) = 1) by decide, if_false, if_true, Bool.and_eq_true, decide_eq_true_eq, List.all_eq_true] at h
  exact h
theorem body3 {kind : Int} {l : List UInt8} (h1 : kind ≠ 1) (h2 : kind ≠ 2) (h : bodyB kind l = true) : l.length = 12 ∧ ∀ c ∈ l, isDig c = true := by
  unfold bodyB at h
  rw [if_neg h1, if_neg h2] at h
  simp only [Bool.and_eq_true, decide_eq_true_eq, List.all_eq_true] at h
  exact h
theorem dig_iff {c : UInt8} : isDig c = true ↔ 48 ≤ c.toNat ∧ c.toNat ≤ 57 := by unfold isDig; simp
theorem dv_bound {c : UInt8} (h : isDig c = true) : 0 ≤ dv c ∧ dv c ≤ 9 := by have := dig_iff.1 h; unfold dv; omega
theorem wTerm_bound {l : List UInt8} (h : bodyB 1 l = true) {i : Nat} (hi : i < 9) : 0 ≤ wTerm l i ∧ wTerm l i ≤ 81 := by
  have h2 := dv_bound ((body1 h).2.2 (i + 1) (by omega) (by omega))
  unfold wTerm
  have : ((i : Int) + 1) * dv (at0 l (i + 1)) ≤ 9 * 9 := Int.mul_le_mul (by omega) h2.2 h2.1 (by decide)
  exact ⟨Int.mul_nonneg (by omega) h2.1, this⟩
theorem eTerm_bound {kind : Int} {l : List UInt8} (h1 : kind ≠ 1) (h2 : kind ≠ 2) (h : bodyB kind l = true) {i : Nat} (hi : i < 12) : 0 ≤ eTerm l i ∧ eTerm l i ≤ 27 := by
  have h3 := body3 h1 h2 h
  have h4 := dv_bound (h3.2 (at0 l i) (by rw [at0_eq (by omega)]; exact List.getElem_mem _))
  unfold eTerm
  have : (1 + (i : Int) % 2 * 2) * dv (at0 l i) ≤ 3 * 9 := Int.mul_le_mul (by omega) h4.2 h4.1 (by decide)
  exact ⟨Int.mul_nonneg (by omega) h4.1, this⟩
theorem wSum_bound {l : List UInt8} (h : bodyB 1 l = true) (k : Nat) (hk : k ≤ 9) : 0 ≤ sumTo (wTerm l) k ∧ sumTo (wTerm l) k ≤ 729 := by
  have := sumTo_bound (f := wTerm l) (M := 81) k (fun i hi => wTerm_bound h (by omega))
  omega
theorem eSum_bound {kind : Int} {l : List UInt8} (h1 : kind ≠ 1) (h2 : kind ≠ 2) (h : bodyB kind l = true) (k : Nat) (hk : k ≤ 12) : 0 ≤ sumTo (eTerm l) k ∧ sumTo (eTerm l) k ≤ 324 := by
  have := sumTo_bound (f := eTerm l) (M := 27) k (fun i hi => eTerm_bound h1 h2 h (by omega))
  omega
theorem chk_bound (kind : Int) (l : List UInt8) : 0 ≤ chk kind l ∧ chk kind l < 36 ∧ (kind ≠ 2 → chk kind l < 10) := by
  unfold chk
  split
  · omega
  · split
    · omega
    · omega
/-- The check digit. -/
def chkS (kind : Int) (l : List UInt8) : UInt8 := at0 sgnL (chk kind l).toNat
theorem sgn_at {v : Nat} (h : v < 36) : indexByte sgnL (at0 sgnL v) = v ∧ isSgn (at0 sgnL v) = true := by
  have := at_nat ⟨v, h⟩
  rw [at0_eq (show v < sgnL.length from h)]
  exact ⟨this.1, this.2.1⟩
theorem dig_at {v : Nat} (h : v < 10) : isDig (at0 sgnL v) = true ∧ at0 digL v = at0 sgnL v := by
  have := (at_nat ⟨v, by omega⟩).2.2 h
  refine ⟨?_, ?_⟩
  · rw [at0_eq (show v < sgnL.length from by show v < 36; omega)]; exact this.1
  · unfold at0
    rw [List.getD_eq_getElem?_getD, List.getD_eq_getElem?_getD, this.2]
theorem chkS_idx (kind : Int) (l : List UInt8) : indexByte sgnL (chkS kind l) = chk kind l := by
  have h := chk_bound kind l
  unfold chkS
  rw [(sgn_at (by omega)).1]
  omega
theorem chkS_among (kind : Int) (l : List UInt8) : among (two kind) (chkS kind l) = true := by
  have h := chk_bound kind l
  unfold two
  by_cases h2 : kind = 2
  · rw [decide_eq_true h2]; exact (sgn_at (by omega)).2
  · rw [decide_eq_false h2]; exact (dig_at (by have := h.2.2 h2; omega)).1
theorem idx_inj {a b : UInt8} (ha : isSgn a = true) (h : indexByte sgnL a = indexByte sgnL b) : a = b := by
  have h1 := sg_pos.2 ha
  obtain ⟨n, hn⟩ := Int.eq_ofNat_of_zero_le h1
  have h2 := (indexByte_some hn).1
  have h3 := (indexByte_some (h ▸ hn : indexByte sgnL b = n)).1
  rw [h2] at h3
  exact Option.some.inj h3
/-- Does the sign fit? -/
def fitsB (kind : Int) (l : List UInt8) (c : UInt8) : Bool := decide (c = chkS kind l)
theorem fits_idx {kind : Int} {l : List UInt8} {c : UInt8} : fitsB kind l c = true ↔ indexByte sgnL c = chk kind l := by
  unfold fitsB
  rw [decide_eq_true_eq]
  constructor
  · intro h; rw [h, chkS_idx]
  · intro h
    have h2 := chkS_idx kind l
    exact (idx_inj (among_sgn (chkS_among kind l)) (h2.trans h.symm)).symm
theorem fits_dec (kind : Int) (l : List UInt8) (c : UInt8) : fitsB kind l c = decide (indexByte sgnL c = chk kind l) := by
  rw [Bool.eq_iff_iff, fits_idx, decide_eq_true_eq]
theorem fits_w {l : List UInt8} {c : UInt8} (h : among (two 1) c = true) (hb : bodyB 1 l = true) : decide ((1 + indexByte sgnL c + sumTo (wTerm l) 9) % 10 = 0) = fitsB 1 l c := by
  have h1 := (sg_all c).2.2.2.2.2 h
  have h2 := wSum_bound hb 9 (by omega)
  rw [fits_dec]
  unfold chk
  rw [if_pos rfl]
  apply decide_eq_decide.2
  omega
theorem fits_r {l : List UInt8} {c : UInt8} (h : among (two 2) c = true) : decide ((qTo l 10 + indexByte sgnL c) % 36 = 1) = fitsB 2 l c := by
  have h0 := sg_pos.2 (show isSgn c = true from h)
  have h1 := (sg_all c).2.2.1
  have h2 := qTo_bound l 10
  rw [fits_dec]
  unfold chk
  rw [if_neg (by decide), if_pos rfl]
  apply decide_eq_decide.2
  omega
theorem fits_e {kind : Int} {l : List UInt8} {c : UInt8} (k1 : kind ≠ 1) (k2 : kind ≠ 2) (h : among (two kind) c = true) (hb : bodyB kind l = true) : decide ((indexByte sgnL c + sumTo (eTerm l) 12) % 10 = 0) = fitsB kind l c := by
  have h0 : isDig c = true := by unfold two at h; rw [decide_eq_false k2] at h; exact h
  have h1 := (sg_all c).2.2.2.2.2 h0
  have h2 := eSum_bound k1 k2 hb 12 (by omega)
  rw [fits_dec]
  unfold chk
  rw [if_neg k1, if_neg k2]
  apply decide_eq_decide.2
  omega

/-! ## Codes -/
def cBody (l : List UInt8) : List UInt8 := l.take (l.length - 1)
def cSign (l : List UInt8) : UInt8 := at0 l (l.length - 1)
def codeF (kind : Int) (l : List UInt8) : Int :=
  if kindB kind = false then 4 else if l.length = 0 then 3 else if bodyB kind (cBody l) = false then 3 else if among (two kind) (cSign l) = false then 3 else if fitsB kind (cBody l) (cSign l) = false then 16 else 0
def digF (kind : Int) (l : List UInt8) : Int := if kindB kind = false then 4 else if bodyB kind l = false then 3 else 0
def digS (kind : Int) (l : List UInt8) : List UInt8 := if digF kind l = 0 then [chkS kind l] else []

/-! ## Codes that are near -/
def swapL (l : List UInt8) (j : Nat) : List UInt8 := (l.set j (at0 l (j + 1))).set (j + 1) (at0 l j)
def setsL (l : List UInt8) (i : Nat) : List (List UInt8) := sgnL.map fun c => l.set i c
def tailP (l : List UInt8) (i : Nat) : List (List UInt8) := if 0 < i then [swapL l (i - 1)] else []
def tailR (l : List UInt8) (i : Nat) : List (List UInt8) := if i + 1 < l.length then [swapL l i] else []
def okN (kind : Int) (code s : List UInt8) : Bool := decide (s ≠ code) && decide (codeF kind s = 0)
def toP (l : List UInt8) (k : Nat) : List (List UInt8) := (List.range k).flatMap fun i => setsL l i ++ tailP l i
def toR (l : List UInt8) (k : Nat) : List (List UInt8) := (List.range k).flatMap fun i => setsL l i ++ tailR l i
def sortS (l : List (List UInt8)) : List (List UInt8) := l.mergeSort fun x y => decide (x ≤ y)
def nearL (kind : Int) (l : List UInt8) : List (List UInt8) := compact (sortS ((toP l l.length).filter (okN kind l)))
end Go.Proofs.YthcdjmkkgbcaaaaGreatDoor

namespace Go.Proofs.YthcdjmkkgbcaaaaGreatDoor
open Go.RowKit
set_option linter.unusedVariables false

/-- The type of bytes. -/
structure U8T (P : Program) (t : TypeId) : Prop where
  hu : P.underlying t = some (.int .u8)
def at0' (l : List UInt8) (i : Nat) : UInt8 := l.getD i 0
section
variable {cx : Cx} {ops : Array Oper} {o : Oper} {rest : List Oper} {e : Env} {σ : Obs} {Q : Post}
end

section
variable {P : Program} {B : Nat} {ops : Array Oper} {o : Oper} {e : Env} {σ : Obs}
end

section
variable {P : Program} {B : Nat} {ops : Array Oper} {o : Oper} {e : Env} {σ : Obs}
end
end Go.Proofs.YthcdjmkkgbcaaaaGreatDoor

namespace Go.Proofs.YthcdjmkkgbcaaaaGreatDoor
open Go.RowKit Go.Lib
set_option linter.unusedVariables false

theorem bStr_inj {a b : List UInt8} (h : bStr a = bStr b) : a = b := by
  have := congrArg (fun x : ByteArray => x.data.toList) h
  exact this
theorem bStr_ne {a b : List UInt8} : bStr a ≠ bStr b ↔ a ≠ b := ⟨fun h e => h (by rw [e]), fun h e => h (bStr_inj e)⟩
theorem bStr_cut (l : List UInt8) (i j : Nat) : (bStr l).extract i j = bStr ((l.drop i).take (j - i)) := ByteArray.extract_mk l i j

theorem c_idx (l : List UInt8) (c : UInt8) : ACall Tryz.prog 140 [.v (.string (bStr l)), .v (.int .u8 (c.toNat : Int))] (.v (.int .i64 (indexByte l c))) :=
 acall_exact (us := [_, _]) (.of Tryz.func140 (by kernel_rfl) rfl) fun w => by
  have h := Any.strings_IndexByte Tryz.l137 (bStr l) (c.toNat : Int) w
  change Calls Tryz.prog 140 #[.string (bStr l), .int .u8 (c.toNat : Int)] w _ at h
  refine h.mono fun _ _ ⟨h1, h2⟩ => ⟨?_, h2 ▸ Below.refl _ _⟩
  rw [h1, bStr_list]
  simp
theorem c_trimAll (b : Bool) (l : List UInt8) (hl : l.length ≤ 9223372036854775807) : ACall Tryz.prog 133 [.v (.string (bStr l)), .v (.string (bStr (signsOf b)))] (.v (.string (bStr (trimS l (signsOf b))))) :=
 acall_exact (us := [_, _]) (.of Tryz.func133 (by kernel_rfl) rfl) fun w => by
  have h := Any.strings_Trim_laid Tryz.l160 (by kernel_rfl) (bStr l) (bStr (signsOf b)) w (by rw [bStr_size]; exact hl) (by rw [bStr_size]; cases b <;> decide) (ascii_of_all (by rw [bStr_list]; cases b <;> decide))
  change Calls Tryz.prog 133 #[.string (bStr l), .string (bStr (signsOf b))] w _ at h
  exact h

section
variable {P : Program} {B : Nat} {ops : Array Oper} {o : Oper} {e : Env} {σ : Obs}
/-- s[:h]. -/
theorem AOp.sliceTo {t : TypeId} {x hi : Operand} {l : List UInt8} {n : Int} (ho : o.op = .slice t x none (some hi) none) (ht : P.underlying t = some .string) (hx : e.ev x = .d (.v (.string (bStr l))))
    (hh : e.ev hi = .d (.v (.int .i64 n))) (k : Nat) (hn : n = k) (h1 : k ≤ l.length) : AOp P B ops o e σ (.d (.v (.string (bStr (l.take k))))) := .value fun F ρ w a hF hr _ => by
  have r1 := hr x (by rw [ho]; simp [Op.operands])
  have r2 := hr hi (by rw [ho]; simp [Op.operands])
  rw [hx] at r1; rw [hh, hn] at r2
  refine ⟨_, F, w, ?_, .d (.v _), Ext.refl hF⟩
  unfold execOp
  simp only [ho, repS_v r1, repS_v r2, Option.map_some, Option.map_none]
  rw [Sem.run_bind, run_sliceAt_string w t _ _ _ _ ht, run_slice_string_h w t (bStr l) ht .i64 k (by omega) (by rw [bStr_size]; omega), bStr_cut]
  simp
/-- s[i:]. -/
theorem AOp.sliceFrom {t : TypeId} {x lo : Operand} {l : List UInt8} {n : Int} (ho : o.op = .slice t x (some lo) none none) (ht : P.underlying t = some .string) (hx : e.ev x = .d (.v (.string (bStr l))))
    (hh : e.ev lo = .d (.v (.int .i64 n))) (k : Nat) (hn : n = k) (h1 : k ≤ l.length) : AOp P B ops o e σ (.d (.v (.string (bStr (l.drop k))))) := .value fun F ρ w a hF hr _ => by
  have r1 := hr x (by rw [ho]; simp [Op.operands])
  have r2 := hr lo (by rw [ho]; simp [Op.operands])
  rw [hx] at r1; rw [hh, hn] at r2
  refine ⟨_, F, w, ?_, .d (.v _), Ext.refl hF⟩
  unfold execOp
  simp only [ho, repS_v r1, repS_v r2, Option.map_some, Option.map_none]
  rw [Sem.run_bind, run_sliceAt_string w t _ _ _ _ ht, run_slice_string_l w t (bStr l) ht .i64 k (by omega) (by rw [bStr_size]; omega), Int.toNat_natCast, bStr_drop]
  rfl
end
end Go.Proofs.YthcdjmkkgbcaaaaGreatDoor

namespace Go.Proofs.YthcdjmkkgbcaaaaGreatDoor
open Go.RowKit
set_option linter.unusedVariables false

/-! Types. -/
namespace TyJ3
end TyJ3
open TyH3 TyH4 TyH5 TyJ3

open Go.Lib
theorem kindB_t {kind : Int} (h : kind ≥ 1) : kindB kind = decide (kind ≤ 4) := by unfold kindB; rw [decide_eq_true (show 1 ≤ kind by omega), Bool.true_and]
theorem kindB_f {kind : Int} (h : ¬ kind ≥ 1) : kindB kind = false := by unfold kindB; rw [decide_eq_false (show ¬ 1 ≤ kind by omega), Bool.false_and]
theorem bStr_dec (a b : List UInt8) : decide (bStr a = bStr b) = decide (a = b) := decide_eq_decide.2 ⟨bStr_inj, fun h => by rw [h]⟩
def bEmp : ByteArray := ⟨#[]⟩
theorem trim_dec (b : Bool) (l : List UInt8) : decide (bStr (trimS l (signsOf b)) = bEmp) = l.all (among b) := by
  rw [show bEmp = bStr [] from rfl, bStr_dec, Bool.eq_iff_iff, decide_eq_true_eq, trim_all]
theorem pre_T {l : List UInt8} : hasPrefix l [84] = (decide (1 ≤ l.length) && decide (at0 l 0 = 84)) := by
  unfold hasPrefix at0
  cases l with
  | nil => rfl
  | cons x r =>
    show ((84 == x) && List.isPrefixOf [] r) = (decide (1 ≤ r.length + 1) && decide (x = 84))
    rw [decide_eq_true (show 1 ≤ r.length + 1 by omega), Bool.true_and, show List.isPrefixOf [] r = true by cases r <;> rfl, Bool.and_true]
    by_cases hx : x = 84
    · subst hx; rfl
    · rw [decide_eq_false hx]; exact beq_false_of_ne (Ne.symm hx)
theorem body_pT {l : List UInt8} (h : hasPrefix l [84] = true) : (decide (((l.drop 1).length : Int) = 9) && (l.drop 1).all (among false)) = bodyB 1 l := by
  rw [pre_T, Bool.and_eq_true, decide_eq_true_eq, decide_eq_true_eq] at h
  unfold bodyB
  rw [if_pos rfl, decide_eq_true h.2, Bool.and_true, List.length_drop]
  congr 1
  exact decide_eq_decide.2 (by omega)
theorem body_pF {l : List UInt8} (h : hasPrefix l [84] = false) : bodyB 1 l = false := by
  rw [pre_T] at h
  unfold bodyB
  rw [if_pos rfl]
  by_cases h1 : l.length = 10
  · rw [decide_eq_true (show 1 ≤ l.length by omega), Bool.true_and] at h
    rw [h, Bool.and_false, Bool.false_and]
  · rw [decide_eq_false h1, Bool.false_and, Bool.false_and]
theorem body_p2 (l : List UInt8) : (decide ((l.length : Int) = 10) && l.all (among true)) = bodyB 2 l := by
  unfold bodyB
  rw [if_neg (by decide), if_pos rfl]
  congr 1
  exact decide_eq_decide.2 (by omega)
theorem body_p3 {kind : Int} (h1 : ¬ kind = 1) (h2 : ¬ kind = 2) (l : List UInt8) : (decide ((l.length : Int) = 12) && l.all (among false)) = bodyB kind l := by
  unfold bodyB
  rw [if_neg h1, if_neg h2]
  congr 1
  exact decide_eq_decide.2 (by omega)
theorem pre1 {l : List UInt8} (h : hasPrefix l [84] = true) : 1 ≤ l.length := by
  rw [pre_T, Bool.and_eq_true, decide_eq_true_eq] at h
  exact h.1
theorem at0_some {l : List UInt8} {i : Nat} (h : i < l.length) : l[i]? = some (at0 l i) := by rw [at0_eq h, List.getElem?_eq_getElem h]
theorem dv_nat : ∀ n : Fin 256, isDig (UInt8.ofNat n.val) = true → IntKind.i64.wrap (IntKind.u8.wrap ((n.val : Int) - 48)) = dv (UInt8.ofNat n.val) := by decide +kernel
theorem dv_wrap {c : UInt8} (h : isDig c = true) : IntKind.i64.wrap (IntKind.u8.wrap ((c.toNat : Int) - 48)) = dv c := by
  have := dv_nat ⟨c.toNat, c.toNat_lt⟩
  simp only [UInt8.ofNat_toNat] at this
  exact this h
theorem w_next (l : List UInt8) (k : Nat) (a : Int) : a + sumTo (wTerm l) k + ((k : Int) + 1) * dv (at0 l (k + 1)) = a + sumTo (wTerm l) (k + 1) := by rw [Int.add_assoc]; rfl
theorem e_next (l : List UInt8) (k : Nat) (a : Int) : a + sumTo (eTerm l) k + (1 + (k : Int) % 2 * 2) * dv (at0 l k) = a + sumTo (eTerm l) (k + 1) := by rw [Int.add_assoc]; rfl
theorem e_next2 (l : List UInt8) (k : Nat) (a : Int) : a + sumTo (eTerm l) k + dv (at0 l k) * (1 + (k : Int) % 2 * 2) = a + sumTo (eTerm l) (k + 1) := by rw [Int.mul_comm, e_next]
theorem chk_1 (l : List UInt8) : (10 - (1 + sumTo (wTerm l) 9) % 10) % 10 = (((chk 1 l).toNat : Nat) : Int) := by
  have := chk_bound 1 l
  rw [Int.toNat_of_nonneg this.1]
  rfl
theorem chk_2 (l : List UInt8) : (1 - qTo l 10 % 36 + 36) % 36 = (((chk 2 l).toNat : Nat) : Int) := by
  have := chk_bound 2 l
  rw [Int.toNat_of_nonneg this.1]
  rfl
theorem chk_3 {kind : Int} (h1 : ¬ kind = 1) (h2 : ¬ kind = 2) (l : List UInt8) : (10 - sumTo (eTerm l) 12 % 10) % 10 = (((chk kind l).toNat : Nat) : Int) := by
  have := chk_bound kind l
  rw [Int.toNat_of_nonneg this.1]
  unfold chk
  rw [if_neg h1, if_neg h2]
theorem q_next {l : List UInt8} {k : Nat} (h : k < l.length) : qTo l (k + 1) = 2 * (if (qTo l k + indexByte sgnL (at0 l k)) % 36 = 0 then 36 else (qTo l k + indexByte sgnL (at0 l k)) % 36) % 37 := by rw [qTo_next h, at0_eq h]; rfl
theorem q_next0 {l : List UInt8} {k : Nat} (h : k < l.length) (h0 : (qTo l k + indexByte sgnL (at0 l k)) % 36 = 0) : qTo l (k + 1) = 2 * 36 % 37 := by rw [q_next h, if_pos h0]
theorem q_next1 {l : List UInt8} {k : Nat} (h : k < l.length) (h0 : ¬ (qTo l k + indexByte sgnL (at0 l k)) % 36 = 0) : qTo l (k + 1) = 2 * ((qTo l k + indexByte sgnL (at0 l k)) % 36) % 37 := by rw [q_next h, if_neg h0]
theorem dig_get {kind : Int} {l : List UInt8} (h2 : ¬ kind = 2) : digL[(chk kind l).toNat]? = some (chkS kind l) := by
  have h := chk_bound kind l
  have h3 := h.2.2 h2
  have h4 := (dig_at (v := (chk kind l).toNat) (by omega)).2
  rw [at0_some (show (chk kind l).toNat < digL.length by show _ < 10; omega), h4]
  rfl
theorem sgn_get (kind : Int) (l : List UInt8) : sgnL[(chk kind l).toNat]? = some (chkS kind l) := at0_some (by have := chk_bound kind l; show _ < 36; omega)

set_option maxRecDepth 100000 in
set_option maxHeartbeats 1000000 in
theorem c_pKind (kind : Int) : ACall Tryz.prog 89 [.v (.int .i64 kind)] (.v (.bool (kindB kind))) := by
 refine acall_of (n := 9) (ds' := [.v (.bool (kindB kind))]) Tryz.func89 rfl (by kernel_rfl) rfl [2] rfl rfl ?_
 intro B w0 F0 fr
 refine .sr ?_
 refine .aA (.nil ?_)
 refine .sr ?_
 refine .mA ?_
 refine .sA (.geq rfl rfl rfl) ?_
 refine .mA ?_
 refine .split 5 rfl (fun g1 => ?_) (fun g1 => ?_)
 ·replace g1 := of_decide_eq_true g1
  rw [kindB_t g1]
  refine .sG (.moveD rfl rfl) ?_
  refine .sG (.leq rfl rfl rfl) ?_
  refine .sA (.pickT rfl rfl rfl) ?_
  refine .aA (.nil ?_)
  refine .ret ?_
  refine ⟨RetD.eq rfl ?_, trivial⟩
  all_goals (rfl)
 replace g1 := of_decide_eq_false g1
 rw [kindB_f g1]
 refine .pA ?_
 refine .pA ?_
 refine .sA (.pickF rfl rfl rfl) ?_
 refine .aA (.nil ?_)
 refine .ret ?_
 refine ⟨RetD.eq rfl ?_, trivial⟩
 all_goals (rfl)

set_option maxRecDepth 100000 in
set_option maxHeartbeats 1000000 in
theorem c_rKind (kind : Int) : ACall Tryz.prog 95 [.v (.int .i64 kind)] (.v (.bool (kindB kind))) := by
 refine acall_of (n := 9) (ds' := [.v (.bool (kindB kind))]) Tryz.func95 rfl (by kernel_rfl) rfl [2] rfl rfl ?_
 intro B w0 F0 fr
 refine .sr ?_
 refine .aA (.nil ?_)
 refine .sr ?_
 refine .mA ?_
 refine .sA (.geq rfl rfl rfl) ?_
 refine .mA ?_
 refine .split 5 rfl (fun g1 => ?_) (fun g1 => ?_)
 ·replace g1 := of_decide_eq_true g1
  rw [kindB_t g1]
  refine .sG (.moveD rfl rfl) ?_
  refine .sG (.leq rfl rfl rfl) ?_
  refine .sA (.pickT rfl rfl rfl) ?_
  refine .aA (.nil ?_)
  refine .ret ?_
  refine ⟨RetD.eq rfl ?_, trivial⟩
  all_goals (rfl)
 replace g1 := of_decide_eq_false g1
 rw [kindB_f g1]
 refine .pA ?_
 refine .pA ?_
 refine .sA (.pickF rfl rfl rfl) ?_
 refine .aA (.nil ?_)
 refine .ret ?_
 refine ⟨RetD.eq rfl ?_, trivial⟩
 all_goals (rfl)

set_option maxRecDepth 100000 in
set_option maxHeartbeats 1000000 in
theorem c_all (b : Bool) (l : List UInt8) (n : Int) (hl : l.length ≤ 9223372036854775807) : ACall Tryz.prog 178 [.v (.string (bStr l)), .v (.int .i64 n), .v (.string (bStr (signsOf b)))] (.v (.bool (decide ((l.length : Int) = n) && l.all (among b)))) := by
 refine acall_of (n := 17) (ds' := [.v (.bool (decide ((l.length : Int) = n) && l.all (among b)))]) Tryz.func178 rfl (by kernel_rfl) rfl [6] rfl rfl ?_
 intro B w0 F0 fr
 refine .sr ?_
 refine .aA (.nil ?_)
 refine .sr ?_
 refine .mA ?_
 refine .sA (.lenStr rfl st_9 rfl) ?_
 rw [bStr_size]
 refine .mA ?_
 refine .sA (.eql rfl rfl rfl) ?_
 refine .mA ?_
 refine .split 11 rfl (fun g1 => ?_) (fun g1 => ?_)
 ·replace g1 := of_decide_eq_true g1
  rw [decide_eq_true g1, Bool.true_and]
  refine .sG (.moveD rfl rfl) ?_
  refine .sG (.moveD rfl rfl) ?_
  refine .sG (.call rfl (.cons (.rfl' rfl) (.cons (.rfl' rfl) .nil)) (c_trimAll b l hl)) ?_
  refine .sG (.seql rfl rfl rfl) ?_
  refine .sA (.pickT rfl rfl rfl) ?_
  refine .aA (.nil ?_)
  refine .ret ?_
  refine ⟨RetD.eq rfl ?_, trivial⟩
  all_goals (first | rfl | (rw [← trim_dec]; rfl))
 replace g1 := of_decide_eq_false g1
 rw [decide_eq_false g1, Bool.false_and]
 refine .pA ?_
 refine .pA ?_
 refine .pA ?_
 refine .pA ?_
 refine .sA (.pickF rfl rfl rfl) ?_
 refine .aA (.nil ?_)
 refine .ret ?_
 refine ⟨RetD.eq rfl ?_, trivial⟩
 all_goals (first | rfl | (rw [← trim_dec]; rfl))

set_option maxRecDepth 100000 in
set_option maxHeartbeats 1000000 in
theorem c_pBody (kind : Int) (l : List UInt8) (hl : l.length ≤ 9223372036854775807) : ACall Tryz.prog 139 [.v (.int .i64 kind), .v (.string (bStr l))] (.v (.bool (bodyB kind l))) := by
 refine acall_of (n := 21) (ds' := [.v (.bool (bodyB kind l))]) Tryz.func139 rfl (by kernel_rfl) rfl [4] rfl rfl ?_
 intro B w0 F0 fr
 refine .sr ?_
 refine .aA (.nil ?_)
 refine .seq ?_
 refine .sr ?_
 refine .mA (.nil ?_)
 refine .block ?_
 refine .sr ?_
 refine .sA (.eql rfl rfl rfl) ?_
 refine .aA (.nil ?_)
 refine .cond rfl (fun h1 => ?_) (fun h1 => ?_)
 ·replace h1 := of_decide_eq_true h1
  subst h1
  refine .sr ?_
  refine .mA ?_
  refine .sA (.call rfl (.cons (.rfl' rfl) (.cons (.rfl' rfl) .nil)) (c_hasP l [84])) ?_
  refine .mA ?_
  refine .split 10 rfl (fun g2 => ?_) (fun g2 => ?_)
  ·skip
   rw [← body_pT g2]
   have hp1 := pre1 g2
   refine .sG (.moveD rfl rfl) ?_
   refine .sG (.sliceFrom rfl Tryz.underlying9 rfl rfl 1 rfl hp1) ?_
   refine .sG (.call rfl (.cons (.rfl' rfl) (.cons (.rfl' rfl) (.cons (.rfl' rfl) .nil))) (c_all false (l.drop 1) 9 (by rw [List.length_drop]; omega))) ?_
   refine .sA (.pickT rfl rfl rfl) ?_
   refine .aA (.nil ?_)
   refine .ret ?_
   refine ⟨RetD.eq rfl ?_, trivial⟩
   all_goals (rfl)
  rw [body_pF g2]
  refine .pA ?_
  refine .pA ?_
  refine .pA ?_
  refine .sA (.pickF rfl rfl rfl) ?_
  refine .aA (.nil ?_)
  refine .ret ?_
  refine ⟨RetD.eq rfl ?_, trivial⟩
  all_goals (rfl)
 replace h1 := of_decide_eq_false h1
 refine .sr ?_
 refine .sA (.eql rfl rfl rfl) ?_
 refine .aA (.nil ?_)
 refine .cond rfl (fun h3 => ?_) (fun h3 => ?_)
 ·replace h3 := of_decide_eq_true h3
  subst h3
  rw [← body_p2]
  refine .sr ?_
  refine .mA ?_
  refine .sA (.call rfl (.cons (.rfl' rfl) (.cons (.rfl' rfl) (.cons (.rfl' rfl) .nil))) (c_all true l 10 hl)) ?_
  refine .aA (.nil ?_)
  refine .ret ?_
  refine ⟨RetD.eq rfl ?_, trivial⟩
  all_goals (rfl)
 replace h3 := of_decide_eq_false h3
 rw [← body_p3 h1 h3]
 refine .skip ?_
 refine .sr ?_
 refine .mA ?_
 refine .sA (.call rfl (.cons (.rfl' rfl) (.cons (.rfl' rfl) (.cons (.rfl' rfl) .nil))) (c_all false l 12 hl)) ?_
 refine .aA (.nil ?_)
 refine .ret ?_
 refine ⟨RetD.eq rfl ?_, trivial⟩
 all_goals (rfl)

end Go.Proofs.YthcdjmkkgbcaaaaGreatDoor

namespace Go.Proofs.YthcdjmkkgbcaaaaGreatDoor
open Go.RowKit
set_option linter.unusedVariables false

/-! Types. -/
namespace TyJ4
theorem cv_5_3 : convB Tryz.prog 5 3 .i64 = true := by kernel_rfl
end TyJ4
open TyH3 TyH4 TyH5 TyJ3 TyJ4

open Go.Lib
theorem at0_s {l : List UInt8} {i : Nat} (h : i < l.length) : (bStr l).data.toList[i]? = some (at0 l i) := at0_some h
theorem codeF_k {kind : Int} (l : List UInt8) (h : kindB kind = false) : codeF kind l = 4 := if_pos h
theorem codeF_0 {kind : Int} {l : List UInt8} (h : kindB kind = true) (h0 : l.length = 0) : codeF kind l = 3 := by unfold codeF; rw [if_neg (by rw [h]; decide), if_pos h0]
theorem codeF_b {kind : Int} {l : List UInt8} (h : kindB kind = true) (hb : bodyB kind (cBody l) = false) : codeF kind l = 3 := by unfold codeF; rw [if_neg (by rw [h]; decide), if_pos hb]; split <;> rfl
theorem codeF_s {kind : Int} {l : List UInt8} (h : kindB kind = true) (hs : among (two kind) (cSign l) = false) : codeF kind l = 3 := by unfold codeF; rw [if_neg (by rw [h]; decide), if_pos hs]; split <;> (try split) <;> rfl
theorem codeF_f {kind : Int} {l : List UInt8} (h : kindB kind = true) (h0 : ¬ l.length = 0) (hb : bodyB kind (cBody l) = true) (hs : among (two kind) (cSign l) = true) : codeF kind l = if fitsB kind (cBody l) (cSign l) = false then 16 else 0 := by
  unfold codeF
  rw [if_neg (by rw [h]; decide), if_neg h0, if_neg (by rw [hb]; decide), if_neg (by rw [hs]; decide)]
theorem fits_no {kind : Int} {l : List UInt8} {c : UInt8} (h : ((chkS kind l).toNat : Int) ≠ (c.toNat : Int)) : fitsB kind l c = false := decide_eq_false fun e => h (by rw [e])
theorem fits_yes {kind : Int} {l : List UInt8} {c : UInt8} (h : ((chkS kind l).toNat : Int) = (c.toNat : Int)) : fitsB kind l c = true := decide_eq_true (UInt8.toNat_inj.1 (by omega))
theorem among_no {b : Bool} {c : UInt8} (h : indexByte (signsOf b) c < 0) : among b c = false := by
  cases ha : among b c with
  | false => rfl
  | true => have := sg_of.2 ha; omega
theorem among_yes {b : Bool} {c : UInt8} (h : ¬ indexByte (signsOf b) c < 0) : among b c = true := sg_of.1 (by omega)
set_option maxRecDepth 100000 in
set_option maxHeartbeats 1000000 in
theorem c_digit (kind : Int) (l : List UInt8) (hb : bodyB kind l = true) : ACall Tryz.prog 142 [.v (.int .i64 kind), .v (.string (bStr l))] (.v (.int .u8 ((chkS kind l).toNat : Int))) := by
 refine acall_of (n := 82) (ds' := [.v (.int .u8 ((chkS kind l).toNat : Int))]) Tryz.func142 rfl (by kernel_rfl) rfl [4] rfl rfl ?_
 intro B w0 F0 fr
 refine .sr ?_
 refine .aA (.nil ?_)
 refine .seq ?_
 refine .sr ?_
 refine .mA (.nil ?_)
 refine .block ?_
 refine .sr ?_
 refine .sA (.eql rfl rfl rfl) ?_
 refine .aA (.nil ?_)
 refine .cond rfl (fun h1 => ?_) (fun h1 => ?_)
 ·replace h1 := of_decide_eq_true h1
  subst h1
  have hlen := (body1 hb).1
  refine .sr ?_
  refine .aA (.nil ?_)
  refine .seq ?_
  refine .sr ?_
  refine .aA (.nil ?_)
  refine .block ?_
  refine .loop (G := Nat) (fun k => Env.of [(6, .d (.v (.int .i64 ((k : Int) + 1)))), (5, .d (.v (.int .i64 (1 + sumTo (wTerm l) k)))), (1, .d (.v (.string (bStr l))))]) (fun k => []) (fun k => k ≤ 9) (fun k => 9 - k) 0 (Nat.zero_le _) (Sub.less ⟨(SLe.of_eq rfl), (SLe.of_eq rfl), SLe.refl _, trivial⟩ (fun _ h => h)) ?_
  intro k hk
  refine .seq ?_
  refine .sr ?_
  refine .mA ?_
  refine .sA (.leq rfl rfl rfl) (.nil ?_)
  refine .cond rfl (fun h2 => ?_) (fun h2 => ?_)
  ·replace h2 := of_decide_eq_true h2
   have hlt : k < 9 := by omega
   have hdg := (body1 hb).2.2 (k + 1) (by omega) (by omega)
   have hwt := wTerm_bound hb hlt
   have hws := wSum_bound hb k (by omega)
   unfold wTerm at hwt
   refine .skip ?_
   refine .seq ?_
   refine .block ?_
   refine .region ?_
   refine .mA ?_
   refine .mA ?_
   refine .mA ?_
   refine .mA ?_
   refine .sA (.indexStr rfl st_9 rfl rfl (k + 1) rfl (at0_s (by omega))) ?_
   refine .sA (.sub rfl rfl rfl) ?_
   refine .sA (.convInt rfl cv_5_3 rfl) ?_
   rw [dv_wrap hdg]
   refine .sA (.mul64 rfl rfl rfl (by omega) (by omega)) ?_
   refine .sA (.add64 rfl rfl rfl (by omega) (by omega)) ?_
   refine .aA (.nil ?_)
   refine .region ?_
   refine .mA ?_
   refine .sA (.add64 rfl rfl rfl (by omega) (by omega)) ?_
   refine .aA (.nil ?_)
   refine ⟨k + 1, (by omega), (by dsimp only; omega), Sub.less ⟨(SLe.of_eq rfl), (SLe.of_eq (by rw [w_next]; rfl)), SLe.refl _, trivial⟩ (fun _ h => h)⟩
  replace h2 := of_decide_eq_false h2
  obtain rfl : k = 9 := by omega
  have hws := wSum_bound hb 9 (by omega)
  refine .exit ?_
  refine .sr ?_
  refine .mA ?_
  refine .sA (.rem64 rfl rfl rfl (by omega) (by omega)) ?_
  refine .sA (.sub64 rfl rfl rfl (by omega) (by omega)) ?_
  refine .sA (.rem64 rfl rfl rfl (by omega) (by omega)) ?_
  rw [chk_1]
  refine .sA (.indexStr rfl st_9 rfl rfl (chk 1 l).toNat rfl (dig_get (by decide))) ?_
  refine .aA (.nil ?_)
  refine .ret ?_
  refine ⟨RetD.eq rfl ?_, trivial⟩
  all_goals (rfl)
 replace h1 := of_decide_eq_false h1
 have k1 : ¬ kind = 1 := h1
 refine .sr ?_
 refine .sA (.eql rfl rfl rfl) ?_
 refine .aA (.nil ?_)
 refine .cond rfl (fun h3 => ?_) (fun h3 => ?_)
 ·replace h3 := of_decide_eq_true h3
  subst h3
  have hlen := (body2 hb).1
  refine .sr ?_
  refine .aA (.nil ?_)
  refine .seq ?_
  refine .sr ?_
  refine .mA ?_
  refine .sA (.lenStr rfl st_9 rfl) ?_
  rw [bStr_size]
  refine .mA (.nil ?_)
  refine .block ?_
  refine .loop (G := Nat) (fun k => Env.of [(37, .d (.v (.int .i64 (k : Int)))), (36, .d (.v (.int .i64 (l.length : Int)))), (7, .d (.v (.int .i64 (qTo l k)))), (1, .d (.v (.string (bStr l))))]) (fun k => []) (fun k => k ≤ l.length) (fun k => l.length - k) 0 (Nat.zero_le _) (Sub.less ⟨(SLe.of_eq rfl), SLe.refl _, (SLe.of_eq rfl), SLe.refl _, trivial⟩ (fun _ h => h)) ?_
  intro k hk
  refine .sr ?_
  refine .sA (.lss rfl rfl rfl) (.nil ?_)
  refine .seq ?_
  refine .cond rfl (fun h4 => ?_) (fun h4 => ?_)
  ·replace h4 := of_decide_eq_true h4
   have hlt : k < l.length := by omega
   have hqb := qTo_bound l k
   have hsg := sg_pos.2 ((body2 hb).2 (at0 l k) (by rw [at0_eq hlt]; exact List.getElem_mem _))
   have hsu := (sg_all (at0 l k)).2.2.1
   refine .skip ?_
   refine .seq ?_
   refine .block ?_
   refine .sr ?_
   refine .mA ?_
   refine .aA (.nil ?_)
   refine .sr ?_
   refine .mA ?_
   refine .mA ?_
   refine .mA ?_
   refine .sA (.indexStr rfl st_9 rfl rfl k rfl (at0_s hlt)) ?_
   refine .sA (.call rfl (.cons (.rfl' rfl) (.cons (.rfl' rfl) .nil)) (c_idx sgnL (at0 l k))) ?_
   refine .sA (.add64 rfl rfl rfl (by omega) (by omega)) ?_
   refine .sA (.rem64 rfl rfl rfl (by omega) (by omega)) ?_
   refine .aA (.nil ?_)
   refine .seq ?_
   refine .sr ?_
   refine .mA ?_
   refine .sA (.eql rfl rfl rfl) (.nil ?_)
   refine .cond rfl (fun h5 => ?_) (fun h5 => ?_)
   ·replace h5 := of_decide_eq_true h5
    have HN := q_next0 hlt h5
    refine .region ?_
    refine .aA (.nil ?_)
    refine .region ?_
    refine .mA ?_
    refine .sA (.mul64 rfl rfl rfl (by omega) (by omega)) ?_
    refine .sA (.rem64 rfl rfl rfl (by omega) (by omega)) ?_
    refine .aA (.nil ?_)
    refine .region ?_
    refine .sA (.add64 rfl rfl rfl (by omega) (by omega)) ?_
    refine .mA (.nil ?_)
    refine ⟨k + 1, (by omega), (by dsimp only; omega), Sub.less ⟨(SLe.of_eq rfl), SLe.refl _, (SLe.of_eq (by rw [HN]; rfl)), SLe.refl _, trivial⟩ (fun _ h => h)⟩
   replace h5 := of_decide_eq_false h5
   have HN := q_next1 hlt h5
   refine .skip ?_
   refine .region ?_
   refine .mA ?_
   refine .sA (.mul64 rfl rfl rfl (by omega) (by omega)) ?_
   refine .sA (.rem64 rfl rfl rfl (by omega) (by omega)) ?_
   refine .aA (.nil ?_)
   refine .region ?_
   refine .sA (.add64 rfl rfl rfl (by omega) (by omega)) ?_
   refine .mA (.nil ?_)
   refine ⟨k + 1, (by omega), (by dsimp only; omega), Sub.less ⟨(SLe.of_eq rfl), SLe.refl _, (SLe.of_eq (by rw [HN]; rfl)), SLe.refl _, trivial⟩ (fun _ h => h)⟩
  replace h4 := of_decide_eq_false h4
  obtain rfl : k = 10 := by omega
  have hqb := qTo_bound l 10
  refine .exit ?_
  refine .sr ?_
  refine .mA ?_
  refine .sA (.rem64 rfl rfl rfl (by omega) (by omega)) ?_
  refine .sA (.sub64 rfl rfl rfl (by omega) (by omega)) ?_
  refine .sA (.add64 rfl rfl rfl (by omega) (by omega)) ?_
  refine .sA (.rem64 rfl rfl rfl (by omega) (by omega)) ?_
  rw [chk_2]
  refine .sA (.indexStr rfl st_9 rfl rfl (chk 2 l).toNat rfl (sgn_get 2 l)) ?_
  refine .aA (.nil ?_)
  refine .ret ?_
  refine ⟨RetD.eq rfl ?_, trivial⟩
  all_goals (rfl)
 replace h3 := of_decide_eq_false h3
 have k2 : ¬ kind = 2 := h3
 have hlen := (body3 k1 k2 hb).1
 refine .skip ?_
 refine .sr ?_
 refine .aA (.nil ?_)
 refine .seq ?_
 refine .sr ?_
 refine .mA ?_
 refine .sA (.lenStr rfl st_9 rfl) ?_
 rw [bStr_size]
 refine .mA (.nil ?_)
 refine .block ?_
 refine .loop (G := Nat) (fun k => Env.of [(61, .d (.v (.int .i64 (k : Int)))), (60, .d (.v (.int .i64 (l.length : Int)))), (10, .d (.v (.int .i64 (0 + sumTo (eTerm l) k)))), (1, .d (.v (.string (bStr l))))]) (fun k => []) (fun k => k ≤ l.length) (fun k => l.length - k) 0 (Nat.zero_le _) (Sub.less ⟨(SLe.of_eq rfl), SLe.refl _, (SLe.of_eq rfl), SLe.refl _, trivial⟩ (fun _ h => h)) ?_
 intro k hk
 refine .sr ?_
 refine .sA (.lss rfl rfl rfl) (.nil ?_)
 refine .seq ?_
 refine .cond rfl (fun h6 => ?_) (fun h6 => ?_)
 ·replace h6 := of_decide_eq_true h6
  have hlt : k < l.length := by omega
  have hdg := (body3 k1 k2 hb).2 (at0 l k) (by rw [at0_eq hlt]; exact List.getElem_mem _)
  have het := eTerm_bound k1 k2 hb (i := k) (by omega)
  have hes := eSum_bound k1 k2 hb k (by omega)
  unfold eTerm at het
  refine .skip ?_
  refine .seq ?_
  refine .block ?_
  refine .sr ?_
  refine .mA ?_
  refine .aA (.nil ?_)
  refine .region ?_
  refine .mA ?_
  refine .mA ?_
  refine .sA (.rem64 rfl rfl rfl (by omega) (by omega)) ?_
  refine .sA (.mul64 rfl rfl rfl (by omega) (by omega)) ?_
  refine .sA (.add64 rfl rfl rfl (by omega) (by omega)) ?_
  refine .mA ?_
  refine .mA ?_
  refine .sA (.indexStr rfl st_9 rfl rfl k rfl (at0_s hlt)) ?_
  refine .sA (.sub rfl rfl rfl) ?_
  refine .sA (.convInt rfl cv_5_3 rfl) ?_
  rw [dv_wrap hdg]
  refine .sA (.mul64 rfl rfl rfl (by omega) (by omega)) ?_
  refine .sA (.add64 rfl rfl rfl (by omega) (by omega)) ?_
  refine .aA (.nil ?_)
  refine .region ?_
  refine .sA (.add64 rfl rfl rfl (by omega) (by omega)) ?_
  refine .mA (.nil ?_)
  refine ⟨k + 1, (by omega), (by dsimp only; omega), Sub.less ⟨(SLe.of_eq rfl), SLe.refl _, (SLe.of_eq (by rw [e_next]; rfl)), SLe.refl _, trivial⟩ (fun _ h => h)⟩
 replace h6 := of_decide_eq_false h6
 obtain rfl : k = 12 := by omega
 have hes := eSum_bound k1 k2 hb 12 (by omega)
 refine .exit ?_
 refine .sr ?_
 refine .mA ?_
 rw [Int.zero_add]
 refine .sA (.rem64 rfl rfl rfl (by omega) (by omega)) ?_
 refine .sA (.sub64 rfl rfl rfl (by omega) (by omega)) ?_
 refine .sA (.rem64 rfl rfl rfl (by omega) (by omega)) ?_
 rw [chk_3 k1 k2]
 refine .sA (.indexStr rfl st_9 rfl rfl (chk kind l).toNat rfl (dig_get k2)) ?_
 refine .aA (.nil ?_)
 refine .ret ?_
 refine ⟨RetD.eq rfl ?_, trivial⟩
 all_goals (rfl)

set_option maxRecDepth 100000 in
set_option maxHeartbeats 1000000 in
theorem c_digitsOf (kind : Int) : ACall Tryz.prog 141 [.v (.int .i64 kind)] (.v (.string (bStr (signsOf (two kind))))) := by
 refine acall_of (n := 5) (ds' := [.v (.string (bStr (signsOf (two kind))))]) Tryz.func141 rfl (by kernel_rfl) rfl [2] rfl rfl ?_
 intro B w0 F0 fr
 refine .sr ?_
 refine .aA (.nil ?_)
 refine .seq ?_
 refine .sr ?_
 refine .mA ?_
 refine .sA (.eql rfl rfl rfl) (.nil ?_)
 refine .cond rfl (fun h1 => ?_) (fun h1 => ?_)
 ·replace h1 := of_decide_eq_true h1
  subst h1
  refine .sr ?_
  refine .aA (.nil ?_)
  refine .ret ?_
  refine ⟨RetD.eq rfl ?_, trivial⟩
  all_goals (rfl)
 replace h1 := of_decide_eq_false h1
 rw [show two kind = false from decide_eq_false h1]
 refine .skip ?_
 refine .sr ?_
 refine .aA (.nil ?_)
 refine .ret ?_
 refine ⟨RetD.eq rfl ?_, trivial⟩
 all_goals (rfl)

set_option maxRecDepth 100000 in
set_option maxHeartbeats 1000000 in
theorem c_checks (kind : Int) : ACall Tryz.prog 145 [.v (.int .i64 kind)] (.v (.string (bStr (signsOf (two kind))))) := by
 refine acall_of (n := 5) (ds' := [.v (.string (bStr (signsOf (two kind))))]) Tryz.func145 rfl (by kernel_rfl) rfl [2] rfl rfl ?_
 intro B w0 F0 fr
 refine .sr ?_
 refine .aA (.nil ?_)
 refine .seq ?_
 refine .sr ?_
 refine .mA ?_
 refine .sA (.eql rfl rfl rfl) (.nil ?_)
 refine .cond rfl (fun h1 => ?_) (fun h1 => ?_)
 ·replace h1 := of_decide_eq_true h1
  subst h1
  refine .sr ?_
  refine .aA (.nil ?_)
  refine .ret ?_
  refine ⟨RetD.eq rfl ?_, trivial⟩
  all_goals (rfl)
 replace h1 := of_decide_eq_false h1
 rw [show two kind = false from decide_eq_false h1]
 refine .skip ?_
 refine .sr ?_
 refine .aA (.nil ?_)
 refine .ret ?_
 refine ⟨RetD.eq rfl ?_, trivial⟩
 all_goals (rfl)

set_option maxRecDepth 100000 in
set_option maxHeartbeats 1000000 in
theorem c_pCode (kind : Int) (l : List UInt8) (hl : l.length ≤ 9223372036854775807) : ACall Tryz.prog 91 [.v (.int .i64 kind), .v (.string (bStr l))] (.v (.int .i64 (codeF kind l))) := by
 refine acall_of (n := 40) (ds' := [.v (.int .i64 (codeF kind l))]) Tryz.func91 rfl (by kernel_rfl) rfl [4] rfl rfl ?_
 intro B w0 F0 fr
 refine .sr ?_
 refine .aA (.nil ?_)
 refine .seq ?_
 refine .sr ?_
 refine .mA ?_
 refine .sA (.call rfl (.cons (.rfl' rfl) .nil) (c_pKind kind)) ?_
 refine .sA (.not rfl rfl) (.nil ?_)
 refine .cond rfl (fun h1 => ?_) (fun h1 => ?_)
 ·replace h1 := bnot_t h1
  have HR := codeF_k l h1
  refine .sr ?_
  refine .aA (.nil ?_)
  refine .ret ?_
  refine ⟨RetD.eq rfl ?_, trivial⟩
  all_goals (rw [HR])
 replace h1 := bnot_f h1
 have hk := h1
 refine .skip ?_
 refine .sr ?_
 refine .mA ?_
 refine .sA (.lenStr rfl st_9 rfl) ?_
 rw [bStr_size]
 refine .sA (.sub64 rfl rfl rfl (by omega) (by omega)) ?_
 refine .aA (.nil ?_)
 refine .seq ?_
 refine .seq ?_
 refine .draw (by kernel_rfl) (by kernel_rfl) ?_
 refine .sA (.moveD rfl rfl) ?_
 refine .sA (.lss rfl rfl rfl) ?_
 refine .sA (.moveD rfl rfl) ?_
 refine .split 14 rfl (fun g2 => ?_) (fun g2 => ?_)
 ·replace g2 := of_decide_eq_true g2
  have HR := codeF_0 (l := l) hk (by omega)
  refine .pA ?_
  refine .pA ?_
  refine .pA ?_
  refine .pA ?_
  refine .pA ?_
  refine .pA ?_
  refine .sA (.pickT rfl rfl rfl) ?_
  refine .sA (.moveD rfl rfl) ?_
  refine .pA ?_
  refine .pA ?_
  refine .pA ?_
  refine .pA ?_
  refine .pA ?_
  refine .pA ?_
  refine .pA ?_
  refine .sA (.pickT rfl rfl rfl) ?_
  refine .nil ?_
  refine .cond rfl (fun _ => ?_) (fun h => nomatch h)
  refine .sr ?_
  refine .aA (.nil ?_)
  refine .ret ?_
  refine ⟨RetD.eq rfl ?_, trivial⟩
  all_goals (rw [HR])
 replace g2 := of_decide_eq_false g2
 have h0 : ¬ l.length = 0 := by omega
 refine .sG (.moveD rfl rfl) ?_
 refine .sG (.moveD rfl rfl) ?_
 refine .sG (.moveD rfl rfl) ?_
 refine .sG (.sliceTo rfl Tryz.underlying9 rfl rfl (l.length - 1) (by omega) (by omega)) ?_
 refine .sG (.call rfl (.cons (.rfl' rfl) (.cons (.rfl' rfl) .nil)) (c_pBody kind (cBody l) (by unfold cBody; rw [List.length_take]; omega))) ?_
 refine .sG (.not rfl rfl) ?_
 refine .sA (.pickF rfl rfl rfl) ?_
 refine .sA (.moveD rfl rfl) ?_
 refine .split 22 rfl (fun g3 => ?_) (fun g3 => ?_)
 ·replace g3 := bnot_t g3
  have HR := codeF_b hk g3
  refine .pA ?_
  refine .pA ?_
  refine .pA ?_
  refine .pA ?_
  refine .pA ?_
  refine .pA ?_
  refine .pA ?_
  refine .sA (.pickT rfl rfl rfl) ?_
  refine .nil ?_
  refine .cond rfl (fun _ => ?_) (fun h => nomatch h)
  refine .sr ?_
  refine .aA (.nil ?_)
  refine .ret ?_
  refine ⟨RetD.eq rfl ?_, trivial⟩
  all_goals (rw [HR])
 replace g3 := bnot_f g3
 have hb := g3
 refine .sG (.moveD rfl rfl) ?_
 refine .sG (.call rfl (.cons (.rfl' rfl) .nil) (c_digitsOf kind)) ?_
 refine .sG (.moveD rfl rfl) ?_
 refine .sG (.moveD rfl rfl) ?_
 refine .sG (.indexStr rfl st_9 rfl rfl (l.length - 1) (by omega) (at0_s (by omega))) ?_
 refine .sG (.call rfl (.cons (.rfl' rfl) (.cons (.rfl' rfl) .nil)) (c_idx (signsOf (two kind)) (cSign l))) ?_
 refine .sG (.lss rfl rfl rfl) ?_
 refine .sA (.pickF rfl rfl rfl) ?_
 refine .nil ?_
 refine .cond rfl (fun h4 => ?_) (fun h4 => ?_)
 ·replace h4 := of_decide_eq_true h4
  have HR := codeF_s hk (among_no h4)
  refine .sr ?_
  refine .aA (.nil ?_)
  refine .ret ?_
  refine ⟨RetD.eq rfl ?_, trivial⟩
  all_goals (rw [HR])
 replace h4 := of_decide_eq_false h4
 have hs := among_yes h4
 have HF := codeF_f hk h0 hb hs
 refine .skip ?_
 refine .seq ?_
 refine .seq ?_
 refine .draw (by kernel_rfl) (by kernel_rfl) ?_
 refine .sA (.moveD rfl rfl) ?_
 refine .sA (.moveD rfl rfl) ?_
 refine .sA (.moveD rfl rfl) ?_
 refine .sA (.sliceTo rfl Tryz.underlying9 rfl rfl (l.length - 1) (by omega) (by omega)) ?_
 refine .sA (.call rfl (.cons (.rfl' rfl) (.cons (.rfl' rfl) .nil)) (c_digit kind (cBody l) hb)) ?_
 refine .sA (.moveD rfl rfl) ?_
 refine .sA (.moveD rfl rfl) ?_
 refine .sA (.indexStr rfl st_9 rfl rfl (l.length - 1) (by omega) (at0_s (by omega))) ?_
 refine .sA (.neq rfl rfl rfl) ?_
 refine .nil ?_
 refine .cond rfl (fun h5 => ?_) (fun h5 => ?_)
 ·replace h5 := of_decide_eq_true h5
  have HR := HF.trans (if_pos (fits_no (c := cSign l) h5))
  refine .sr ?_
  refine .aA (.nil ?_)
  refine .ret ?_
  refine ⟨RetD.eq rfl ?_, trivial⟩
  all_goals (rw [HR])
 replace h5 := of_decide_eq_false h5
 have HR := HF.trans (if_neg (by rw [fits_yes (c := cSign l) (Decidable.not_not.1 h5)]; decide))
 refine .skip ?_
 refine .sr ?_
 refine .aA (.nil ?_)
 refine .ret ?_
 refine ⟨RetD.eq rfl ?_, trivial⟩
 all_goals (rw [HR])

end Go.Proofs.YthcdjmkkgbcaaaaGreatDoor

namespace Go.Proofs.YthcdjmkkgbcaaaaGreatDoor
open Go.RowKit
set_option linter.unusedVariables false

/-! Types. -/
namespace TyJ5
end TyJ5
open TyH3 TyH4 TyH5 TyJ3 TyJ4 TyJ5

open Go.Lib
theorem take_true {α : Type} {p : α → Bool} {l : List α} {k : Nat} (hk : k < l.length) (h : ∀ c ∈ l.take k, p c = true) (h2 : p l[k] = true) : ∀ c ∈ l.take (k + 1), p c = true := fun c hc => by
  rw [List.take_add_one, List.getElem?_eq_getElem hk, Option.toList_some, List.mem_append, List.mem_singleton] at hc
  rcases hc with hc | hc
  · exact h c hc
  · rw [hc]; exact h2
theorem all_of {α : Type} {p : α → Bool} {l : List α} {k : Nat} (hk : l.length ≤ k) (h : ∀ c ∈ l.take k, p c = true) : l.all p = true := by
  rw [List.take_of_length_le hk] at h
  rw [List.all_eq_true]; exact h
theorem all_not {α : Type} {p : α → Bool} {l : List α} {k : Nat} (hk : k < l.length) (h : p l[k] = false) : l.all p = false := by
  cases ha : l.all p with
  | false => rfl
  | true => rw [List.all_eq_true.1 ha _ (List.getElem_mem hk)] at h; cases h
theorem body_r1 {l : List UInt8} (h1 : (l.length : Int) = 10) (h2 : ((at0 l 0).toNat : Int) = 84) : (l.drop 1).all (among false) = bodyB 1 l := by
  unfold bodyB
  rw [if_pos rfl, decide_eq_true (show l.length = 10 by omega), decide_eq_true (show at0 l 0 = 84 from UInt8.toNat_inj.1 (by show (at0 l 0).toNat = 84; omega)), Bool.true_and, Bool.true_and]
  rfl
theorem body_r1a {l : List UInt8} (h1 : ¬ (l.length : Int) = 10) : bodyB 1 l = false := by
  unfold bodyB
  rw [if_pos rfl, decide_eq_false (show ¬ l.length = 10 by omega), Bool.false_and, Bool.false_and]
theorem body_r1b {l : List UInt8} (h2 : ¬ ((at0 l 0).toNat : Int) = 84) : bodyB 1 l = false := by
  unfold bodyB
  rw [if_pos rfl, decide_eq_false (show ¬ at0 l 0 = 84 from fun e => h2 (by rw [e]; rfl)), Bool.and_false, Bool.false_and]
theorem start_z (f : Nat → Int) (a : Int) : a = a + sumTo f 0 := by rw [show sumTo f 0 = 0 from rfl, Int.add_zero]

set_option maxRecDepth 100000 in
set_option maxHeartbeats 1000000 in
theorem c_of (b : Bool) (l : List UInt8) (hl : l.length ≤ 9223372036854775807) : ACall Tryz.prog 143 [.v (.string (bStr l)), .v (.string (bStr (signsOf b)))] (.v (.bool (l.all (among b)))) := by
 refine acall_of (n := 18) (ds' := [.v (.bool (l.all (among b)))]) Tryz.func143 rfl (by kernel_rfl) rfl [4] rfl rfl ?_
 intro B w0 F0 fr
 refine .sr ?_
 refine .aA (.nil ?_)
 refine .seq ?_
 refine .sr ?_
 refine .mA ?_
 refine .sA (.lenStr rfl st_9 rfl) ?_
 rw [bStr_size]
 refine .mA (.nil ?_)
 refine .block ?_
 refine .loop (G := Nat) (fun k => Env.of [(8, .d (.v (.int .i64 (k : Int)))), (7, .d (.v (.int .i64 (l.length : Int)))), (0, .d (.v (.string (bStr l)))), (1, .d (.v (.string (bStr (signsOf b)))))]) (fun k => []) (fun k => k ≤ l.length ∧ ∀ c ∈ l.take k, among b c = true) (fun k => l.length - k) 0 ⟨Nat.zero_le _, fun c h => by simp at h⟩ (Sub.less ⟨(SLe.of_eq rfl), SLe.refl _, SLe.refl _, SLe.refl _, trivial⟩ (fun _ h => h)) ?_
 intro k hk
 refine .sr ?_
 refine .sA (.lss rfl rfl rfl) (.nil ?_)
 refine .seq ?_
 refine .cond rfl (fun h1 => ?_) (fun h1 => ?_)
 ·replace h1 := of_decide_eq_true h1
  have hlt : k < l.length := by omega
  refine .skip ?_
  refine .seq ?_
  refine .block ?_
  refine .sr ?_
  refine .mA ?_
  refine .aA (.nil ?_)
  refine .sr ?_
  refine .mA ?_
  refine .mA ?_
  refine .mA ?_
  refine .sA (.indexStr rfl st_9 rfl rfl k rfl (at0_s hlt)) ?_
  refine .sA (.call rfl (.cons (.rfl' rfl) (.cons (.rfl' rfl) .nil)) (c_idx (signsOf b) (at0 l k))) ?_
  refine .sA (.lss rfl rfl rfl) (.nil ?_)
  refine .cond rfl (fun h2 => ?_) (fun h2 => ?_)
  ·replace h2 := of_decide_eq_true h2
   rw [all_not hlt (by rw [← at0_eq hlt]; exact among_no h2)]
   refine .sr ?_
   refine .aA (.nil ?_)
   refine .ret ?_
   refine ⟨RetD.eq rfl ?_, trivial⟩
   all_goals (rfl)
  replace h2 := of_decide_eq_false h2
  have HT := take_true hlt hk.2 (by rw [← at0_eq hlt]; exact among_yes h2)
  refine .skip ?_
  refine .region ?_
  refine .sA (.add64 rfl rfl rfl (by omega) (by omega)) ?_
  refine .mA (.nil ?_)
  refine ⟨k + 1, ⟨by omega, HT⟩, (by dsimp only; omega), Sub.less ⟨(SLe.of_eq rfl), SLe.refl _, SLe.refl _, SLe.refl _, trivial⟩ (fun _ h => h)⟩
 replace h1 := of_decide_eq_false h1
 rw [all_of (by omega) hk.2]
 refine .exit ?_
 refine .sr ?_
 refine .aA (.nil ?_)
 refine .ret ?_
 refine ⟨RetD.eq rfl ?_, trivial⟩
 all_goals (rfl)

theorem c_ofS (b : Bool) (l : List UInt8) (h : ¬ l.length = 0) : ACall Tryz.prog 143 [.v (.string (bStr (l.drop (l.length - 1)))), .v (.string (bStr (signsOf b)))] (.v (.bool (among b (cSign l)))) := by
 have h1 := c_of b (l.drop (l.length - 1)) (by rw [List.length_drop]; omega)
 have h2 : l.drop (l.length - 1) = [cSign l] := by
  rw [List.drop_eq_getElem_cons (by omega), List.drop_of_length_le (by omega)]
  unfold cSign
  rw [at0_eq (by omega)]
 rw [h2] at h1 ⊢
 rw [show [cSign l].all (among b) = among b (cSign l) by simp] at h1
 exact h1

set_option maxRecDepth 100000 in
set_option maxHeartbeats 1000000 in
theorem c_rBody (kind : Int) (l : List UInt8) (hl : l.length ≤ 9223372036854775807) : ACall Tryz.prog 144 [.v (.int .i64 kind), .v (.string (bStr l))] (.v (.bool (bodyB kind l))) := by
 refine acall_of (n := 37) (ds' := [.v (.bool (bodyB kind l))]) Tryz.func144 rfl (by kernel_rfl) rfl [4] rfl rfl ?_
 intro B w0 F0 fr
 refine .sr ?_
 refine .aA (.nil ?_)
 refine .seq ?_
 refine .sr ?_
 refine .mA (.nil ?_)
 refine .block ?_
 refine .sr ?_
 refine .sA (.eql rfl rfl rfl) ?_
 refine .aA (.nil ?_)
 refine .cond rfl (fun h1 => ?_) (fun h1 => ?_)
 ·replace h1 := of_decide_eq_true h1
  subst h1
  refine .sr ?_
  refine .mA ?_
  refine .sA (.lenStr rfl st_9 rfl) ?_
  rw [bStr_size]
  refine .sA (.eql rfl rfl rfl) ?_
  refine .mA ?_
  refine .split 11 rfl (fun g2 => ?_) (fun g2 => ?_)
  ·replace g2 := of_decide_eq_true g2
   have hl0 := g2
   refine .sG (.moveD rfl rfl) ?_
   refine .sG (.indexStr rfl st_9 rfl rfl 0 rfl (at0_s (by omega))) ?_
   refine .sG (.eql rfl rfl rfl) ?_
   refine .sA (.pickT rfl rfl rfl) ?_
   refine .mA ?_
   refine .split 16 rfl (fun g3 => ?_) (fun g3 => ?_)
   ·replace g3 := of_decide_eq_true g3
    rw [← body_r1 hl0 g3]
    refine .sG (.moveD rfl rfl) ?_
    refine .sG (.sliceFrom rfl Tryz.underlying9 rfl rfl 1 rfl (by omega)) ?_
    refine .sG (.call rfl (.cons (.rfl' rfl) (.cons (.rfl' rfl) .nil)) (c_of false (l.drop 1) (by rw [List.length_drop]; omega))) ?_
    refine .sA (.pickT rfl rfl rfl) ?_
    refine .aA (.nil ?_)
    refine .ret ?_
    refine ⟨RetD.eq rfl ?_, trivial⟩
    all_goals (rfl)
   replace g3 := of_decide_eq_false g3
   rw [body_r1b g3]
   refine .pA ?_
   refine .pA ?_
   refine .pA ?_
   refine .sA (.pickF rfl rfl rfl) ?_
   refine .aA (.nil ?_)
   refine .ret ?_
   refine ⟨RetD.eq rfl ?_, trivial⟩
   all_goals (rfl)
  replace g2 := of_decide_eq_false g2
  have HR := body_r1a g2
  rw [HR]
  refine .pA ?_
  refine .pA ?_
  refine .pA ?_
  refine .sA (.pickF rfl rfl rfl) ?_
  refine .mA ?_
  refine .pA ?_
  refine .pA ?_
  refine .pA ?_
  refine .sA (.pickF rfl rfl rfl) ?_
  refine .aA (.nil ?_)
  refine .ret ?_
  refine ⟨RetD.eq rfl ?_, trivial⟩
  all_goals (rfl)
 replace h1 := of_decide_eq_false h1
 refine .sr ?_
 refine .sA (.eql rfl rfl rfl) ?_
 refine .aA (.nil ?_)
 refine .cond rfl (fun h4 => ?_) (fun h4 => ?_)
 ·replace h4 := of_decide_eq_true h4
  subst h4
  rw [← body_p2]
  refine .sr ?_
  refine .mA ?_
  refine .sA (.lenStr rfl st_9 rfl) ?_
  rw [bStr_size]
  refine .sA (.eql rfl rfl rfl) ?_
  refine .mA ?_
  refine .split 26 rfl (fun g5 => ?_) (fun g5 => ?_)
  ·replace g5 := of_decide_eq_true g5
   rw [decide_eq_true g5, Bool.true_and]
   refine .sG (.moveD rfl rfl) ?_
   refine .sG (.call rfl (.cons (.rfl' rfl) (.cons (.rfl' rfl) .nil)) (c_of true l hl)) ?_
   refine .sA (.pickT rfl rfl rfl) ?_
   refine .aA (.nil ?_)
   refine .ret ?_
   refine ⟨RetD.eq rfl ?_, trivial⟩
   all_goals (rfl)
  replace g5 := of_decide_eq_false g5
  rw [decide_eq_false g5, Bool.false_and]
  refine .pA ?_
  refine .pA ?_
  refine .sA (.pickF rfl rfl rfl) ?_
  refine .aA (.nil ?_)
  refine .ret ?_
  refine ⟨RetD.eq rfl ?_, trivial⟩
  all_goals (rfl)
 replace h4 := of_decide_eq_false h4
 rw [← body_p3 h1 h4]
 refine .skip ?_
 refine .sr ?_
 refine .mA ?_
 refine .sA (.lenStr rfl st_9 rfl) ?_
 rw [bStr_size]
 refine .sA (.eql rfl rfl rfl) ?_
 refine .mA ?_
 refine .split 33 rfl (fun g6 => ?_) (fun g6 => ?_)
 ·replace g6 := of_decide_eq_true g6
  rw [decide_eq_true g6, Bool.true_and]
  refine .sG (.moveD rfl rfl) ?_
  refine .sG (.call rfl (.cons (.rfl' rfl) (.cons (.rfl' rfl) .nil)) (c_of false l hl)) ?_
  refine .sA (.pickT rfl rfl rfl) ?_
  refine .aA (.nil ?_)
  refine .ret ?_
  refine ⟨RetD.eq rfl ?_, trivial⟩
  all_goals (rfl)
 replace g6 := of_decide_eq_false g6
 rw [decide_eq_false g6, Bool.false_and]
 refine .pA ?_
 refine .pA ?_
 refine .sA (.pickF rfl rfl rfl) ?_
 refine .aA (.nil ?_)
 refine .ret ?_
 refine ⟨RetD.eq rfl ?_, trivial⟩
 all_goals (rfl)

set_option maxRecDepth 100000 in
set_option maxHeartbeats 1000000 in
theorem c_fits (kind : Int) (l : List UInt8) (c : UInt8) (hb : bodyB kind l = true) (hc : among (two kind) c = true) : ACall Tryz.prog 146 [.v (.int .i64 kind), .v (.string (bStr l)), .v (.int .u8 (c.toNat : Int))] (.v (.bool (fitsB kind l c))) := by
 refine acall_of (n := 86) (ds' := [.v (.bool (fitsB kind l c))]) Tryz.func146 rfl (by kernel_rfl) rfl [6] rfl rfl ?_
 intro B w0 F0 fr
 have hv0 := sg_pos.2 (among_sgn hc)
 have hv1 := (sg_all c).2.2.1
 refine .sr ?_
 refine .aA (.nil ?_)
 refine .sr ?_
 refine .mA ?_
 refine .sA (.call rfl (.cons (.rfl' rfl) (.cons (.rfl' rfl) .nil)) (c_idx sgnL c)) ?_
 refine .aA (.nil ?_)
 refine .seq ?_
 refine .sr ?_
 refine .mA (.nil ?_)
 refine .block ?_
 refine .sr ?_
 refine .sA (.eql rfl rfl rfl) ?_
 refine .aA (.nil ?_)
 refine .cond rfl (fun h1 => ?_) (fun h1 => ?_)
 ·replace h1 := of_decide_eq_true h1
  subst h1
  have hlen := (body1 hb).1
  rw [← fits_w hc hb]
  refine .sr ?_
  refine .mA ?_
  refine .sA (.add64 rfl rfl rfl (by omega) (by omega)) ?_
  refine .aA (.nil ?_)
  refine .seq ?_
  refine .sr ?_
  refine .aA (.nil ?_)
  refine .block ?_
  refine .loop (G := Nat) (fun k => Env.of [(9, .d (.v (.int .i64 ((k : Int) + 1)))), (8, .d (.v (.int .i64 (1 + indexByte sgnL c + sumTo (wTerm l) k)))), (1, .d (.v (.string (bStr l))))]) (fun k => []) (fun k => k ≤ 9) (fun k => 9 - k) 0 (Nat.zero_le _) (Sub.less ⟨(SLe.of_eq rfl), (SLe.of_eq (by rw [← start_z]; rfl)), SLe.refl _, trivial⟩ (fun _ h => h)) ?_
  intro k hk
  refine .seq ?_
  refine .sr ?_
  refine .mA ?_
  refine .mA ?_
  refine .sA (.lenStr rfl st_9 rfl) ?_
  rw [bStr_size]
  refine .sA (.lss rfl rfl rfl) (.nil ?_)
  refine .cond rfl (fun h2 => ?_) (fun h2 => ?_)
  ·replace h2 := of_decide_eq_true h2
   have hlt : k < 9 := by omega
   have hdg := (body1 hb).2.2 (k + 1) (by omega) (by omega)
   have hwt := wTerm_bound hb hlt
   have hws := wSum_bound hb k (by omega)
   unfold wTerm at hwt
   refine .skip ?_
   refine .seq ?_
   refine .block ?_
   refine .region ?_
   refine .mA ?_
   refine .mA ?_
   refine .mA ?_
   refine .mA ?_
   refine .sA (.indexStr rfl st_9 rfl rfl (k + 1) rfl (at0_s (by omega))) ?_
   refine .sA (.sub rfl rfl rfl) ?_
   refine .sA (.convInt rfl cv_5_3 rfl) ?_
   rw [dv_wrap hdg]
   refine .sA (.mul64 rfl rfl rfl (by omega) (by omega)) ?_
   refine .sA (.add64 rfl rfl rfl (by omega) (by omega)) ?_
   refine .aA (.nil ?_)
   refine .region ?_
   refine .mA ?_
   refine .sA (.add64 rfl rfl rfl (by omega) (by omega)) ?_
   refine .aA (.nil ?_)
   refine ⟨k + 1, (by omega), (by dsimp only; omega), Sub.less ⟨(SLe.of_eq rfl), (SLe.of_eq (by rw [w_next]; rfl)), SLe.refl _, trivial⟩ (fun _ h => h)⟩
  replace h2 := of_decide_eq_false h2
  obtain rfl : k = 9 := by omega
  have hws := wSum_bound hb 9 (by omega)
  refine .exit ?_
  refine .sr ?_
  refine .mA ?_
  refine .sA (.rem64 rfl rfl rfl (by omega) (by omega)) ?_
  refine .sA (.eql rfl rfl rfl) ?_
  refine .aA (.nil ?_)
  refine .ret ?_
  refine ⟨RetD.eq rfl ?_, trivial⟩
  all_goals (rfl)
 replace h1 := of_decide_eq_false h1
 have k1 : ¬ kind = 1 := h1
 refine .sr ?_
 refine .sA (.eql rfl rfl rfl) ?_
 refine .aA (.nil ?_)
 refine .cond rfl (fun h3 => ?_) (fun h3 => ?_)
 ·replace h3 := of_decide_eq_true h3
  subst h3
  have hlen := (body2 hb).1
  rw [← fits_r hc]
  refine .sr ?_
  refine .aA (.nil ?_)
  refine .seq ?_
  refine .sr ?_
  refine .mA ?_
  refine .sA (.lenStr rfl st_9 rfl) ?_
  rw [bStr_size]
  refine .mA (.nil ?_)
  refine .block ?_
  refine .loop (G := Nat) (fun k => Env.of [(43, .d (.v (.int .i64 (k : Int)))), (42, .d (.v (.int .i64 (l.length : Int)))), (10, .d (.v (.int .i64 (qTo l k)))), (1, .d (.v (.string (bStr l)))), (7, .d (.v (.int .i64 (indexByte sgnL c))))]) (fun k => []) (fun k => k ≤ l.length) (fun k => l.length - k) 0 (Nat.zero_le _) (Sub.less ⟨(SLe.of_eq rfl), SLe.refl _, (SLe.of_eq rfl), SLe.refl _, SLe.refl _, trivial⟩ (fun _ h => h)) ?_
  intro k hk
  refine .sr ?_
  refine .sA (.lss rfl rfl rfl) (.nil ?_)
  refine .seq ?_
  refine .cond rfl (fun h4 => ?_) (fun h4 => ?_)
  ·replace h4 := of_decide_eq_true h4
   have hlt : k < l.length := by omega
   have hqb := qTo_bound l k
   have hsg := sg_pos.2 ((body2 hb).2 (at0 l k) (by rw [at0_eq hlt]; exact List.getElem_mem _))
   have hsu := (sg_all (at0 l k)).2.2.1
   refine .skip ?_
   refine .seq ?_
   refine .block ?_
   refine .sr ?_
   refine .mA ?_
   refine .aA (.nil ?_)
   refine .sr ?_
   refine .mA ?_
   refine .mA ?_
   refine .mA ?_
   refine .sA (.indexStr rfl st_9 rfl rfl k rfl (at0_s hlt)) ?_
   refine .sA (.call rfl (.cons (.rfl' rfl) (.cons (.rfl' rfl) .nil)) (c_idx sgnL (at0 l k))) ?_
   refine .sA (.add64 rfl rfl rfl (by omega) (by omega)) ?_
   refine .sA (.rem64 rfl rfl rfl (by omega) (by omega)) ?_
   refine .aA (.nil ?_)
   refine .seq ?_
   refine .sr ?_
   refine .mA ?_
   refine .sA (.eql rfl rfl rfl) (.nil ?_)
   refine .cond rfl (fun h5 => ?_) (fun h5 => ?_)
   ·replace h5 := of_decide_eq_true h5
    have HN := q_next0 hlt h5
    refine .region ?_
    refine .aA (.nil ?_)
    refine .region ?_
    refine .mA ?_
    refine .sA (.mul64 rfl rfl rfl (by omega) (by omega)) ?_
    refine .sA (.rem64 rfl rfl rfl (by omega) (by omega)) ?_
    refine .aA (.nil ?_)
    refine .region ?_
    refine .sA (.add64 rfl rfl rfl (by omega) (by omega)) ?_
    refine .mA (.nil ?_)
    refine ⟨k + 1, (by omega), (by dsimp only; omega), Sub.less ⟨(SLe.of_eq rfl), SLe.refl _, (SLe.of_eq (by rw [HN]; rfl)), SLe.refl _, SLe.refl _, trivial⟩ (fun _ h => h)⟩
   replace h5 := of_decide_eq_false h5
   have HN := q_next1 hlt h5
   refine .skip ?_
   refine .region ?_
   refine .mA ?_
   refine .sA (.mul64 rfl rfl rfl (by omega) (by omega)) ?_
   refine .sA (.rem64 rfl rfl rfl (by omega) (by omega)) ?_
   refine .aA (.nil ?_)
   refine .region ?_
   refine .sA (.add64 rfl rfl rfl (by omega) (by omega)) ?_
   refine .mA (.nil ?_)
   refine ⟨k + 1, (by omega), (by dsimp only; omega), Sub.less ⟨(SLe.of_eq rfl), SLe.refl _, (SLe.of_eq (by rw [HN]; rfl)), SLe.refl _, SLe.refl _, trivial⟩ (fun _ h => h)⟩
  replace h4 := of_decide_eq_false h4
  obtain rfl : k = 10 := by omega
  have hqb := qTo_bound l 10
  refine .exit ?_
  refine .sr ?_
  refine .mA ?_
  refine .mA ?_
  refine .sA (.add64 rfl rfl rfl (by omega) (by omega)) ?_
  refine .sA (.rem64 rfl rfl rfl (by omega) (by omega)) ?_
  refine .sA (.eql rfl rfl rfl) ?_
  refine .aA (.nil ?_)
  refine .ret ?_
  refine ⟨RetD.eq rfl ?_, trivial⟩
  all_goals (rfl)
 replace h3 := of_decide_eq_false h3
 have k2 : ¬ kind = 2 := h3
 have hlen := (body3 k1 k2 hb).1
 rw [← fits_e k1 k2 hc hb]
 refine .skip ?_
 refine .sr ?_
 refine .mA ?_
 refine .aA (.nil ?_)
 refine .seq ?_
 refine .sr ?_
 refine .mA ?_
 refine .sA (.lenStr rfl st_9 rfl) ?_
 rw [bStr_size]
 refine .mA (.nil ?_)
 refine .block ?_
 refine .loop (G := Nat) (fun k => Env.of [(67, .d (.v (.int .i64 (k : Int)))), (66, .d (.v (.int .i64 (l.length : Int)))), (12, .d (.v (.int .i64 (indexByte sgnL c + sumTo (eTerm l) k)))), (1, .d (.v (.string (bStr l))))]) (fun k => []) (fun k => k ≤ l.length) (fun k => l.length - k) 0 (Nat.zero_le _) (Sub.less ⟨(SLe.of_eq rfl), SLe.refl _, (SLe.of_eq (by rw [← start_z]; rfl)), SLe.refl _, trivial⟩ (fun _ h => h)) ?_
 intro k hk
 refine .sr ?_
 refine .sA (.lss rfl rfl rfl) (.nil ?_)
 refine .seq ?_
 refine .cond rfl (fun h6 => ?_) (fun h6 => ?_)
 ·replace h6 := of_decide_eq_true h6
  have hlt : k < l.length := by omega
  have hdg := (body3 k1 k2 hb).2 (at0 l k) (by rw [at0_eq hlt]; exact List.getElem_mem _)
  have het : 0 ≤ dv (at0 l k) * (1 + (k : Int) % 2 * 2) ∧ dv (at0 l k) * (1 + (k : Int) % 2 * 2) ≤ 27 := by rw [Int.mul_comm (dv _)]; exact eTerm_bound k1 k2 hb (i := k) (by omega)
  have hes := eSum_bound k1 k2 hb k (by omega)
  refine .skip ?_
  refine .seq ?_
  refine .block ?_
  refine .sr ?_
  refine .mA ?_
  refine .aA (.nil ?_)
  refine .region ?_
  refine .mA ?_
  refine .mA ?_
  refine .mA ?_
  refine .sA (.indexStr rfl st_9 rfl rfl k rfl (at0_s hlt)) ?_
  refine .sA (.sub rfl rfl rfl) ?_
  refine .sA (.convInt rfl cv_5_3 rfl) ?_
  rw [dv_wrap hdg]
  refine .mA ?_
  refine .sA (.rem64 rfl rfl rfl (by omega) (by omega)) ?_
  refine .sA (.mul64 rfl rfl rfl (by omega) (by omega)) ?_
  refine .sA (.add64 rfl rfl rfl (by omega) (by omega)) ?_
  refine .sA (.mul64 rfl rfl rfl (by omega) (by omega)) ?_
  refine .sA (.add64 rfl rfl rfl (by omega) (by omega)) ?_
  refine .aA (.nil ?_)
  refine .region ?_
  refine .sA (.add64 rfl rfl rfl (by omega) (by omega)) ?_
  refine .mA (.nil ?_)
  refine ⟨k + 1, (by omega), (by dsimp only; omega), Sub.less ⟨(SLe.of_eq rfl), SLe.refl _, (SLe.of_eq (by rw [e_next2]; rfl)), SLe.refl _, trivial⟩ (fun _ h => h)⟩
 replace h6 := of_decide_eq_false h6
 obtain rfl : k = 12 := by omega
 have hes := eSum_bound k1 k2 hb 12 (by omega)
 refine .exit ?_
 refine .sr ?_
 refine .mA ?_
 refine .sA (.rem64 rfl rfl rfl (by omega) (by omega)) ?_
 refine .sA (.eql rfl rfl rfl) ?_
 refine .aA (.nil ?_)
 refine .ret ?_
 refine ⟨RetD.eq rfl ?_, trivial⟩
 all_goals (rfl)

set_option maxRecDepth 100000 in
set_option maxHeartbeats 1000000 in
theorem c_rCode (kind : Int) (l : List UInt8) (hl : l.length ≤ 9223372036854775807) : ACall Tryz.prog 97 [.v (.int .i64 kind), .v (.string (bStr l))] (.v (.int .i64 (codeF kind l))) := by
 refine acall_of (n := 40) (ds' := [.v (.int .i64 (codeF kind l))]) Tryz.func97 rfl (by kernel_rfl) rfl [4] rfl rfl ?_
 intro B w0 F0 fr
 refine .sr ?_
 refine .aA (.nil ?_)
 refine .seq ?_
 refine .sr ?_
 refine .mA ?_
 refine .sA (.call rfl (.cons (.rfl' rfl) .nil) (c_rKind kind)) ?_
 refine .sA (.not rfl rfl) (.nil ?_)
 refine .cond rfl (fun h1 => ?_) (fun h1 => ?_)
 ·replace h1 := bnot_t h1
  have HR := codeF_k l h1
  refine .sr ?_
  refine .aA (.nil ?_)
  refine .ret ?_
  refine ⟨RetD.eq rfl ?_, trivial⟩
  all_goals (rw [HR])
 replace h1 := bnot_f h1
 have hk := h1
 refine .skip ?_
 refine .sr ?_
 refine .mA ?_
 refine .sA (.lenStr rfl st_9 rfl) ?_
 rw [bStr_size]
 refine .sA (.sub64 rfl rfl rfl (by omega) (by omega)) ?_
 refine .aA (.nil ?_)
 refine .seq ?_
 refine .seq ?_
 refine .draw (by kernel_rfl) (by kernel_rfl) ?_
 refine .sA (.moveD rfl rfl) ?_
 refine .sA (.lss rfl rfl rfl) ?_
 refine .sA (.moveD rfl rfl) ?_
 refine .split 14 rfl (fun g2 => ?_) (fun g2 => ?_)
 ·replace g2 := of_decide_eq_true g2
  have HR := codeF_0 (l := l) hk (by omega)
  refine .pA ?_
  refine .pA ?_
  refine .pA ?_
  refine .pA ?_
  refine .pA ?_
  refine .pA ?_
  refine .sA (.pickT rfl rfl rfl) ?_
  refine .sA (.moveD rfl rfl) ?_
  refine .pA ?_
  refine .pA ?_
  refine .pA ?_
  refine .pA ?_
  refine .pA ?_
  refine .pA ?_
  refine .pA ?_
  refine .sA (.pickT rfl rfl rfl) ?_
  refine .nil ?_
  refine .cond rfl (fun _ => ?_) (fun h => nomatch h)
  refine .sr ?_
  refine .aA (.nil ?_)
  refine .ret ?_
  refine ⟨RetD.eq rfl ?_, trivial⟩
  all_goals (rw [HR])
 replace g2 := of_decide_eq_false g2
 have h0 : ¬ l.length = 0 := by omega
 refine .sG (.moveD rfl rfl) ?_
 refine .sG (.moveD rfl rfl) ?_
 refine .sG (.moveD rfl rfl) ?_
 refine .sG (.sliceTo rfl Tryz.underlying9 rfl rfl (l.length - 1) (by omega) (by omega)) ?_
 refine .sG (.call rfl (.cons (.rfl' rfl) (.cons (.rfl' rfl) .nil)) (c_rBody kind (cBody l) (by unfold cBody; rw [List.length_take]; omega))) ?_
 refine .sG (.not rfl rfl) ?_
 refine .sA (.pickF rfl rfl rfl) ?_
 refine .sA (.moveD rfl rfl) ?_
 refine .split 22 rfl (fun g3 => ?_) (fun g3 => ?_)
 ·replace g3 := bnot_t g3
  have HR := codeF_b hk g3
  refine .pA ?_
  refine .pA ?_
  refine .pA ?_
  refine .pA ?_
  refine .pA ?_
  refine .pA ?_
  refine .pA ?_
  refine .sA (.pickT rfl rfl rfl) ?_
  refine .nil ?_
  refine .cond rfl (fun _ => ?_) (fun h => nomatch h)
  refine .sr ?_
  refine .aA (.nil ?_)
  refine .ret ?_
  refine ⟨RetD.eq rfl ?_, trivial⟩
  all_goals (rw [HR])
 replace g3 := bnot_f g3
 have hb := g3
 refine .sG (.moveD rfl rfl) ?_
 refine .sG (.moveD rfl rfl) ?_
 refine .sG (.sliceFrom rfl Tryz.underlying9 rfl rfl (l.length - 1) (by omega) (by omega)) ?_
 refine .sG (.moveD rfl rfl) ?_
 refine .sG (.call rfl (.cons (.rfl' rfl) .nil) (c_checks kind)) ?_
 refine .sG (.call rfl (.cons (.rfl' rfl) (.cons (.rfl' rfl) .nil)) (c_ofS (two kind) l h0)) ?_
 refine .sG (.not rfl rfl) ?_
 refine .sA (.pickF rfl rfl rfl) ?_
 refine .nil ?_
 refine .cond rfl (fun h4 => ?_) (fun h4 => ?_)
 ·replace h4 := bnot_t h4
  have HR := codeF_s hk h4
  refine .sr ?_
  refine .aA (.nil ?_)
  refine .ret ?_
  refine ⟨RetD.eq rfl ?_, trivial⟩
  all_goals (rw [HR])
 replace h4 := bnot_f h4
 have hs := h4
 have HF := codeF_f hk h0 hb hs
 refine .skip ?_
 refine .seq ?_
 refine .seq ?_
 refine .draw (by kernel_rfl) (by kernel_rfl) ?_
 refine .sA (.moveD rfl rfl) ?_
 refine .sA (.moveD rfl rfl) ?_
 refine .sA (.moveD rfl rfl) ?_
 refine .sA (.sliceTo rfl Tryz.underlying9 rfl rfl (l.length - 1) (by omega) (by omega)) ?_
 refine .sA (.moveD rfl rfl) ?_
 refine .sA (.moveD rfl rfl) ?_
 refine .sA (.indexStr rfl st_9 rfl rfl (l.length - 1) (by omega) (at0_s (by omega))) ?_
 refine .sA (.call rfl (.cons (.rfl' rfl) (.cons (.rfl' rfl) (.cons (.rfl' rfl) .nil))) (c_fits kind (cBody l) (cSign l) hb hs)) ?_
 refine .sA (.not rfl rfl) ?_
 refine .nil ?_
 refine .cond rfl (fun h5 => ?_) (fun h5 => ?_)
 ·replace h5 := bnot_t h5
  have HR := HF.trans (if_pos h5)
  refine .sr ?_
  refine .aA (.nil ?_)
  refine .ret ?_
  refine ⟨RetD.eq rfl ?_, trivial⟩
  all_goals (rw [HR])
 replace h5 := bnot_f h5
 have HR := HF.trans (if_neg (by rw [h5]; decide))
 refine .skip ?_
 refine .sr ?_
 refine .aA (.nil ?_)
 refine .ret ?_
 refine ⟨RetD.eq rfl ?_, trivial⟩
 all_goals (rw [HR])

end Go.Proofs.YthcdjmkkgbcaaaaGreatDoor

namespace Go.Proofs.YthcdjmkkgbcaaaaGreatDoor
open Go.RowKit
set_option linter.unusedVariables false

/-- f, called with what reads as ds, returns a new row whose elements read as els, and that nobody else has. -/
def OCall (P : Program) (f : FuncId) (ds : List D) (ee size : Nat) (els : List (List D)) : Prop := Enters P f ∧
  ∀ (F : Nat → Prop) (w : World) (vs : List Value), (∀ b, F b → b < w.heap.size) → RepL F w vs ds →
    Calls P f vs.toArray w fun r w' => ∃ v F', r = .returned v ∧ Ext F w F' w' ∧ ObOk w.heap.size F' (fun _ => v) w' 0 (.row ee size els)

theorem OCall.eq {P : Program} {f : FuncId} {ds : List D} {ee size : Nat} {els els' : List (List D)} (h : OCall P f ds ee size els) (he : els = els') : OCall P f ds ee size els' := he ▸ h
theorem obOk_base {B B' : Nat} {F : Nat → Prop} {ρ ρ' : Nat → Value} {w : World} {id id' ee size : Nat} {els : List (List D)} (h : ObOk B F ρ w id (.row ee size els)) (hB : B' ≤ B) (he : ρ id = ρ' id') : ObOk B' F ρ' w id' (.row ee size els) := by
  obtain ⟨xs, h1, h2, h3, h4⟩ := h
  rw [he] at h1 h4
  refine ⟨xs, ⟨h1.1, ?_⟩, h2, h3, h4⟩
  rcases h1.2 with h5 | ⟨g, cap, cur, h5, h6, h7⟩
  · exact .inl h5
  · exact .inr ⟨g, cap, cur, h5, Nat.le_trans hB h6, h7⟩

/-- A new own object, where more is data now. -/
theorem R0.newObF {cx : Cx} {F F' : Nat → Prop} {ρ : Nat → Value} {e : Env} {σ : Obs} {a : Act} {w w' : World} (hr : R0 cx F ρ e σ a w) {id dst : Nat} {ob : Ob} {v : Value} (hid : ∀ p ∈ σ, p.1 ≠ id) (hd : dst < cx.N) (hE : Ext F w F' w')
    (hob : ObOk cx.B F' (fun j => if j = id then v else ρ j) w' id ob) (hnew : ∀ g, blk v = some g → w.heap.size ≤ g) (hfx : cx.free id = true) :
    ∃ ρ', R0 cx F' ρ' ((e.kill id).put (some dst) (.own id)) ((id, ob) :: Obs.kill id σ) (a.put (some dst) v) w' := by
  refine ⟨fun j => if j = id then v else ρ j, ?_⟩
  have h2 := hr.turn (ρ' := fun j => if j = id then v else ρ j) (id := id) (ob := ob) (row := none) (w' := w') (F' := F') (fun j hj => by simp [hj])
    ⟨hE.below.os, hE.below.tape, hE.below.output, hE.below.size, fun k hk _ => hE.below.block k hk⟩ hfx (fun g hg => by simp at hg) hE.up hE.new hE.lt hob
    (fun g hg => by rw [if_pos rfl] at hg; exact .inr (hnew g hg)) ((id, ob) :: Obs.kill id σ) (fun p hp => by
      cases hp with
      | head => exact .inl rfl
      | tail _ hp => obtain ⟨q, hq, rfl⟩ := Obs.mem_kill hp; exact .inr ⟨q, hq, hid q hq, rfl⟩)
  exact h2.put (o := ⟨some dst, .ready 0, 0, "", #[], none⟩) (v := v) (s := .own id) (Ext.refl h2.lt) (by
      have := RepS.own (F := F') (ρ := fun j => if j = id then v else ρ j) (w := w') id
      simpa using this) (by simpa [DstOk, Nat.blt_eq] using hd)

section
variable {cx : Cx} {ops : Array Oper} {o : Oper} {rest : List Oper} {e : Env} {σ : Obs} {Q : Post}
end

section
variable {P : Program} {B : Nat} {ops : Array Oper} {o : Oper} {e : Env} {σ : Obs}
end

/-! ## Contracts -/
def RetO (t ee size : Nat) (els : List (List D)) : Post := fun ex e σ => match ex with
  | .ret => ∃ id, e t = .own id ∧ (id, Ob.row ee size els) ∈ σ
  | .normal => ∃ id, e t = .own id ∧ (id, Ob.row ee size els) ∈ σ
  | _ => False
end Go.Proofs.YthcdjmkkgbcaaaaGreatDoor

namespace Go.Proofs.YthcdjmkkgbcaaaaGreatDoor
open Go.RowKit
set_option linter.unusedVariables false

/-- One operation, from worlds that keep what was there at the beginning. -/
def AOpK (cx : Cx) (ops : Array Oper) (o : Oper) (e : Env) (σ : Obs) (s : S) : Prop :=
  ∀ (F : Nat → Prop) (ρ : Nat → Value) (w : World) (a : Act), Kept cx.fr cx.w0 w → (∀ b, F b → b < w.heap.size) → (∀ t, t ∈ o.looksAt ops → RepS F ρ w (a.tmps.getD t undef) (e t)) → ObsOk cx.B F ρ w σ →
    o.wp cx.P a w (fun a' w' => ∃ v F', a' = a.put o.dst v ∧ RepS F' ρ w' v s ∧ Ext F w F' w') (fun _ _ _ => False)
theorem AOp.toK {cx : Cx} {ops : Array Oper} {o : Oper} {e : Env} {σ : Obs} {s : S} (h : AOp cx.P cx.B ops o e σ s) : AOpK cx ops o e σ s := fun F ρ w a _ => h F ρ w a
theorem AOpK.callT {cx : Cx} {ops : Array Oper} {o : Oper} {e : Env} {σ : Obs} {T : World → Prop} {f : FuncId} {xs : List Operand} {ts : Array TypeId} {ds : List D} {d : D} (hst : Stays T) (hfr : cx.fr = fun b => cx.w0.heap.size ≤ b) (hT : T cx.w0)
    (ho : o.op = .call { callee := .value (.func f), args := xs.toArray, argTypes := ts }) (ha : ArgsOk e xs ds) (h : ACallT cx.P T f ds d) : AOpK cx ops o e σ (.d d) := by
  intro F ρ w a hK hF hr _
  have h1 : RepL F w (xs.map a.eval) ds := ha.rep (ρ := ρ) fun t ht => hr t (looks_op (by rw [ho]; simp [Op.operands, Call.operands, ht]))
  rw [hfr] at hK
  have h2 := h.2 F w _ (hst _ _ hK hT) hF h1
  have h3 := h.1 (xs.map a.eval).toArray w
  have hx : (execOp a.eval o).run cx.P w = .ok (.enter f (xs.map a.eval).toArray) w := by
    unfold execOp
    simp only [ho, resolve, Deferred.ofValue, Act.eval, invoke, Sem.run_bind, Sem.run_pure, Result.andThen_ok]
    simpa using h3
  unfold Oper.wp
  rw [hx]
  exact h2.mono fun _ w' ⟨v, F', he, hv, hE⟩ => by subst he; exact ⟨v, F', rfl, .d hv, hE⟩

def KRun (cx : Cx) (ops : Array Oper) (σ : Obs) : List Oper → Env → (Env → Prop) → Prop
  | [], e, Qe => Qe e
  | o :: l, e, Qe => DstOk cx.N o ∧ ((∃ s, GW ops o e true ∧ AOpK cx ops o e σ s ∧ KRun cx ops σ l (e.put o.dst s) Qe) ∨ (GW ops o e false ∧ KRun cx ops σ l (e.put o.dst (.d (.v undef))) Qe))

theorem KRun.nil {cx : Cx} {ops : Array Oper} {σ : Obs} {e : Env} {Qe : Env → Prop} (h : Qe e) : KRun cx ops σ [] e Qe := h
theorem KRun.cons {cx : Cx} {ops : Array Oper} {σ : Obs} {e : Env} {Qe : Env → Prop} {o : Oper} {l : List Oper} {s : S} (hg : GW ops o e true) (hd : DstOk cx.N o) (h : AOpK cx ops o e σ s)
    (k : KRun cx ops σ l (e.put o.dst s) Qe) : KRun cx ops σ (o :: l) e Qe := ⟨hd, .inl ⟨s, hg, h, k⟩⟩
theorem KRun.skip {cx : Cx} {ops : Array Oper} {σ : Obs} {e : Env} {Qe : Env → Prop} {o : Oper} {l : List Oper} (hg : GW ops o e false) (hd : DstOk cx.N o)
    (k : KRun cx ops σ l (e.put o.dst (.d (.v undef))) Qe) : KRun cx ops σ (o :: l) e Qe := ⟨hd, .inr ⟨hg, k⟩⟩

theorem KRun.step {cx : Cx} {ops : Array Oper} {σ : Obs} {e : Env} {Qe : Env → Prop} {o : Oper} {l : List Oper} {s : S} {t : Nat} (hg : GW ops o e true) (ht : o.dst = some t) (hd : Nat.blt t cx.N = true) (h : AOpK cx ops o e σ s)
    (k : KRun cx ops σ l (e.put (some t) s) Qe) : KRun cx ops σ (o :: l) e Qe := .cons hg (by unfold DstOk; rw [ht]; exact hd) h (by rw [ht]; exact k)
theorem KRun.pass {cx : Cx} {ops : Array Oper} {σ : Obs} {e : Env} {Qe : Env → Prop} {o : Oper} {l : List Oper} {t : Nat} (hg : GW ops o e false) (ht : o.dst = some t) (hd : Nat.blt t cx.N = true)
    (k : KRun cx ops σ l (e.put (some t) (.d (.v undef))) Qe) : KRun cx ops σ (o :: l) e Qe := .skip hg (by unfold DstOk; rw [ht]; exact hd) (by rw [ht]; exact k)

def KStep (cx : Cx) (ops : Array Oper) (σ : Obs) (o : Oper) (e : Env) (s : S) : Prop :=
  (GW ops o e true ∧ AOpK cx ops o e σ s) ∨ (GW ops o e false ∧ s = .d (.v undef))

theorem KStep.same {cx : Cx} {ops : Array Oper} {σ : Obs} {o : Oper} {e e' : Env} {s : S} (h : KStep cx ops σ o e s) (he : ∀ t, t ∈ o.looksAt ops → e' t = e t) : KStep cx ops σ o e' s := by
  rcases h with ⟨h1, h2⟩ | ⟨h1, h2⟩
  · exact .inl ⟨h1.same he, fun F ρ w a hK hF ha hσ => h2 F ρ w a hK hF (fun t ht => by rw [← he t ht]; exact ha t ht) hσ⟩
  · exact .inr ⟨h1.same he, h2⟩

def anyK (cx : Cx) (ops : Array Oper) (σ : Obs) (Qe : Env → Prop) : Nat → Array Bool → Env → Prop
  | 0, listed, e => Region.ready .any ops listed = [] ∧ Qe e
  | fuel + 1, listed, e => (Region.ready .any ops listed = [] → Qe e) ∧
      ∀ i ∈ Region.ready .any ops listed, ∀ o, ops[i]? = some o → ∃ s, KStep cx ops σ o e s ∧ anyK cx ops σ Qe fuel (listed.setIfInBounds i true) (e.put o.dst s)

theorem anyK_first {cx : Cx} {ops : Array Oper} {σ : Obs} {Qe : Env → Prop} {i : Nat} {oi : Oper} {s : S} (hi : ops[i]? = some oi) :
    ∀ (fuel : Nat) (listed : Array Bool) (e : Env),
      (∀ j oj, ops[j]? = some oj → j ≠ i → listed.getD j true = false → (∀ e ∈ oj.after, Region.binds .any e = true → e.on ≠ i) → oi.apart ops oj = true) →
      i ∈ Region.ready .any ops listed → KStep cx ops σ oi e s → anyK cx ops σ Qe fuel (listed.setIfInBounds i true) (e.put oi.dst s) → anyK cx ops σ Qe (fuel + 1) listed e := by
  intro fuel
  induction fuel with
  | zero =>
    intro listed e _ hr hy H
    refine ⟨fun h => (by rw [h] at hr; cases hr), fun j hj o ho => ?_⟩
    by_cases hji : j = i
    · subst hji
      rw [hi] at ho; cases ho
      exact ⟨s, hy, H⟩
    · have := ready_mono hj hji
      rw [H.1] at this
      cases this
  | succ fuel ih =>
    intro listed e hfree hr hy H
    refine ⟨fun h => (by rw [h] at hr; cases hr), fun j hj oj hoj => ?_⟩
    by_cases hji : j = i
    · subst hji
      rw [hi] at hoj; cases hoj
      exact ⟨s, hy, H⟩
    · obtain ⟨sj, h1, h2⟩ := H.2 j (ready_mono hj hji) oj hoj
      obtain ⟨hjun, oj', hoj', hall⟩ := mem_ready.1 hj
      rw [hoj] at hoj'; cases hoj'
      have hnot : ∀ e ∈ oj.after, Region.binds .any e = true → e.on ≠ i := fun e he hb heq => by
        have h1 := hall e he hb
        have h0 := (mem_ready.1 hr).1
        rw [heq] at h1
        rcases Nat.lt_or_ge i listed.size with h' | h'
        · simp [h'] at h0 h1; rw [h0] at h1; cases h1
        · simp [Array.getElem?_eq_none h'] at h1
      obtain ⟨a1, a2, a3⟩ := Oper.apart_spec (hfree j oj hoj hji hjun hnot)
      refine ⟨sj, h1.same (fun t ht => (put_looks a1 t ht).symm), ?_⟩
      refine ih (listed.setIfInBounds j true) (e.put oj.dst sj) (fun k ok hk hki hun hno => ?_) (ready_mono hr (Ne.symm hji)) (hy.same (put_looks a3)) ?_
      · refine hfree k ok hk hki ?_ hno
        by_cases hjk : j = k
        · subst hjk; exact hjun
        · rw [getD_set_ne true hjk] at hun; exact hun
      · rw [Array.setIfInBounds_comm _ _ hji, ← Env.put_comm e oi.dst oj.dst s sj a2]
        exact h2

theorem anyK_lex {cx : Cx} {ops : Array Oper} {σ : Obs} {Qe : Env → Prop} : ∀ (l : List Oper) (k : Nat) (listed : Array Bool) (e : Env), (∀ j, l[j]? = ops[k + j]?) →
    Region.lexFrom .any ops l.length k listed = true → KRun cx ops σ l e Qe → anyK cx ops σ Qe l.length listed e
  | [], _, _, _, _, hB, h => ⟨by simpa [Region.lexFrom] using hB, h⟩
  | o :: l, k, listed, e, hl, hB, h => by
    have h0 : ops[k]? = some o := by simpa using (hl 0).symm
    simp only [List.length_cons, Region.lexFrom, Bool.and_eq_true] at hB
    obtain ⟨⟨hr, hf⟩, hB'⟩ := hB
    have hl' : ∀ j, l[j]? = ops[k + 1 + j]? := fun j => by have := hl (j + 1); simpa [Nat.add_assoc, Nat.add_comm 1 j] using this
    obtain ⟨_, ⟨s, hg, ho, hK⟩ | ⟨hg, hK⟩⟩ := h
    · exact anyK_first h0 l.length listed e (Region.free_spec h0 hf) (by simpa using hr) (.inl ⟨hg, ho⟩) (anyK_lex l (k + 1) _ _ hl' hB' hK)
    · exact anyK_first h0 l.length listed e (Region.free_spec h0 hf) (by simpa using hr) (.inr ⟨hg, rfl⟩) (anyK_lex l (k + 1) _ _ hl' hB' hK)

theorem KRun.dsts {cx : Cx} {ops : Array Oper} {σ : Obs} {Qe : Env → Prop} : ∀ (l : List Oper) (e : Env), KRun cx ops σ l e Qe → ∀ o ∈ l, DstOk cx.N o
  | [], _, _, o, ho => by cases ho
  | x :: l, e, h, o, ho => by
    obtain ⟨h1, ⟨_, _, _, h2⟩ | ⟨_, h2⟩⟩ := h <;> (cases ho with
      | head => exact h1
      | tail _ ho => exact KRun.dsts l _ h2 o ho)

theorem wpAny_of_K {cx : Cx} {ops : Array Oper} {σ : Obs} {Q : Post} (hd : ∀ o ∈ ops.toList, DstOk cx.N o) : ∀ (fuel : Nat) (listed : Array Bool) (e : Env) (a : Act) (w : World), R cx e σ a w →
    anyK cx ops σ (fun e => Q .normal e σ) fuel listed e → wpAny cx.P .any ops (lift cx Q) fuel listed a w
  | 0, _, e, _, _, hr, h => ⟨h.1, e, σ, h.2, hr⟩
  | fuel + 1, listed, e, a, w, hr, h => by
    refine ⟨fun h0 => ⟨e, σ, h.1 h0, hr⟩, fun i hi => ?_⟩
    obtain ⟨_, o, ho, _⟩ := mem_ready.1 hi
    obtain ⟨s, hs, hk⟩ := h.2 i hi o ho
    have hdo : DstOk cx.N o := hd o (Array.mem_toList_iff.2 (Array.mem_of_getElem? ho))
    unfold wpOp
    simp only [ho]
    obtain ⟨F, ρ, hr⟩ := hr
    rcases hs with ⟨hg, hop⟩ | ⟨hg, rfl⟩
    · rw [if_pos (hg.wanted (fun t _ => hr.env t))]
      refine .inl (wp_to ?_ (fun _ _ _ => False.elim) (hop F ρ w a hr.below hr.lt (fun t _ => hr.env t) hr.obs))
      rintro a' w' ⟨v, F', rfl, hv, he⟩
      exact wpAny_of_K hd fuel _ _ _ _ ⟨F', ρ, hr.put he hv hdo⟩ hk
    · rw [if_neg (by rw [hg.wanted (fun t _ => hr.env t)]; simp)]
      exact wpAny_of_K hd fuel _ _ _ _ ⟨F, ρ, hr.put (Ext.refl hr.lt) repS_undef hdo⟩ hk

/-- A region that draws its order, walked once, in the order of the text. -/
theorem AWP.drawK {cx : Cx} {id : Nat} {l : List Oper} {e : Env} {σ : Obs} {Q : Post} (hm : cx.P.follows .mixedOrders = true) (hB : Region.lexB .any l.toArray = true)
    (h : KRun cx l.toArray σ l e (fun e => Q .normal e σ)) : AWP cx (.region id l.toArray true) e σ Q := by
  intro a w ⟨F, ρ, hr⟩
  simp only [Region.lexB, Bool.and_eq_true] at hB
  have h1 := anyK_lex l 0 (Array.replicate l.toArray.size false) e (by simp) (by simpa using hB.2) h
  exact wp_region_any hm (wpAny_of_K (by simpa using KRun.dsts l e h) _ _ e a _ ⟨F, ρ, hr.drew⟩ (by simpa using h1))

theorem KRun.split {cx : Cx} {ops : Array Oper} {rest : List Oper} {e : Env} {σ : Obs} {Q : Env → Prop} (t : Nat) {b : Bool} (ht : e t = .d (.v (.bool b))) (h1 : b = true → KRun cx ops σ rest (e.put (some t) (.d (.v (.bool true)))) Q)
    (h0 : b = false → KRun cx ops σ rest (e.put (some t) (.d (.v (.bool false)))) Q) : KRun cx ops σ rest e Q := by
  cases b with
  | true => have := h1 rfl; rwa [Env.put_id ht] at this
  | false => have := h0 rfl; rwa [Env.put_id ht] at this

end Go.Proofs.YthcdjmkkgbcaaaaGreatDoor

namespace Go.Proofs.YthcdjmkkgbcaaaaGreatDoor
open Go.RowKit
set_option linter.unusedVariables false

/-- What it is as data, while the own objects rest. -/
inductive Snap (σ : Obs) : S → D → Prop where
  | d (x : D) : Snap σ (.d x) x
  | any (s : S) : Snap σ s .any
  | le {s : S} {d d' : D} (h : Snap σ s d) (k : Le d d') : Snap σ s d'
  | row {id e size : Nat} {els : List (List D)} (h : (id, Ob.row e size els) ∈ σ) : Snap σ (.own id) (.sl els)
  | rowS {id e size : Nat} {els : List (List S)} {ds : List (List D)} (h : (id, Ob.rowS e size els) ∈ σ) (hl : els.length = ds.length) (hs : ∀ i (h1 : i < els.length) (h2 : i < ds.length), els[i].length = ds[i].length)
      (hr : ∀ i (h1 : i < els.length) (h2 : i < ds.length) j (h3 : j < els[i].length) (h4 : j < ds[i].length), Snap σ els[i][j] ds[i][j]) : Snap σ (.own id) (.sl ds)
  | val {id : Nat} {ss : List S} {ds : List D} (h : (id, Ob.val ss) ∈ σ) (hl : ss.length = ds.length) (hr : ∀ i (h1 : i < ss.length) (h2 : i < ds.length), Snap σ ss[i] ds[i]) : Snap σ (.own id) (.agg ds)
  | ptr {id off : Nat} {ss : List S} {ds : List D} (h : (id, Ob.cells ss) ∈ σ) (hl : off + ds.length ≤ ss.length) (hr : ∀ i (h1 : off + i < ss.length) (h2 : i < ds.length), Snap σ ss[off + i] ds[i]) : Snap σ (.ptr id off) (.fp ds)
  | ptrS {id e size k : Nat} {els : List (List S)} {ds : List D} (h : (id, Ob.rowS e size els) ∈ σ) (hk : k < els.length) (hl : els[k].length = ds.length) (hr : ∀ j (h1 : j < els[k].length) (h2 : j < ds.length), Snap σ els[k][j] ds[j]) : Snap σ (.ptr id (k * size)) (.fp ds)
  | clo {f : FuncId} {caps : List Cap} {ds : List D} (hl : caps.length = ds.length) (hr : ∀ i (h1 : i < caps.length) (h2 : i < ds.length), Snap σ caps[i].toS ds[i]) : Snap σ (.clo f caps) (.clo (.func f) ds)

theorem obS_row {B : Nat} {F : Nat → Prop} {ρ : Nat → Value} {w : World} {σ : Obs} (h : ObsOk B F ρ w σ) {id ee size : Nat} {els : List (List S)} (hm : (id, Ob.rowS ee size els) ∈ σ) (hne : 0 < els.length) :
    ∃ g cap, ∃ vs : Nat → Nat → Value, ρ id = .slice (some ⟨g, 0, none⟩) els.length cap ∧ blk (ρ id) = some g ∧ els.length ≤ cap ∧ cap ≤ 9223372036854775807 ∧ (∀ k j, k < els.length → j < size → w.cell? ⟨g, k * size + j, none⟩ = some (vs k j)) ∧
      (∀ k (hk : k < els.length), els[k].length = size) ∧ (∀ k (hk : k < els.length) j (hj : j < els[k].length), (vs k j).oneCell' = true ∧ RepS F ρ w (vs k j) els[k][j]) := by
  obtain ⟨xs, h1, h2, h3, _⟩ := h.ok _ hm
  dsimp only at h1
  rcases h1.2 with ⟨_, h4⟩ | ⟨g, cap, cur, h4, h5, h6, h7, h8, _⟩
  · omega
  · exact ⟨g, cap, xs, h4, by rw [h4]; rfl, h7, by unfold maxLen at h8; omega, fun k j hk hj => row_cell h1 h4 h6 hk hj, h2, h3⟩

theorem Snap.rep {B : Nat} {F : Nat → Prop} {ρ : Nat → Value} {w : World} {σ : Obs} (hσ : ObsOk B F ρ w σ) {s : S} {d : D} (h : Snap σ s d) : ∀ x, RepS F ρ w x s → Rep (endF F ρ σ) w x d := by
  induction h with
  | d y => exact fun x hx => (repS_d hx).mono (fun b hb => .inl hb) fun _ _ => rfl
  | any s => exact fun x _ => .any x
  | le h k ih => exact fun x hx => k _ _ _ (ih x hx)
  | row hm =>
    intro x hx
    cases hx
    exact ob_rep hσ hm
  | @rowS id e size els ds hm hl hs hr ih =>
    intro x hx
    cases hx
    by_cases hne : 0 < els.length
    · obtain ⟨g, cap, vs, h1, h2, h3, h4, h5, h6, h7⟩ := obS_row hσ hm hne
      rw [h1, hl]
      refine .sl ⟨g, 0, none⟩ cap size ds vs (by omega) h4 (fun _ => .inr ⟨_, hm, h2⟩) (fun i hi => by rw [← hs i (by omega) hi]; exact h6 i (by omega)) (fun i j hi hj => ?_) (fun i j hi hj => ?_) (fun i hi j hj => ?_)
      · rw [addr_add, Nat.zero_add]; exact h5 i j (by omega) hj
      · exact (h7 i (by omega) j (by rw [h6 i (by omega)]; exact hj)).1
      · exact ih i (by omega) hi j (by rw [hs i (by omega) hi]; exact hj) hj _ (h7 i (by omega) j (by rw [hs i (by omega) hi]; exact hj)).2
    · obtain ⟨xs, h1, _⟩ := hσ.ok _ hm
      dsimp only at h1
      have h0 : els.length = 0 := by omega
      have hds : ds = [] := List.eq_nil_of_length_eq_zero (by omega)
      subst hds
      rcases h1.2 with ⟨h4, _⟩ | ⟨g, cap, cur, h4, h5, h6, h7, h8, _⟩
      · rw [h4]; exact .nil
      · rw [h4, h0]
        exact .sl ⟨g, 0, none⟩ cap size [] (fun _ _ => undef) (by simp) (by unfold maxLen at h8; omega) (fun h => absurd h (by simp)) (fun i hi => absurd hi (by simp)) (fun i j hi => absurd hi (by simp)) (fun i j hi => absurd hi (by simp)) (fun i hi => absurd hi (by simp))
  | @val id ss ds hm hl hr ih =>
    intro x hx
    cases hx
    obtain ⟨cs, h1, h2, h3⟩ := hσ.ok _ hm
    dsimp only at h1
    rw [h1]
    exact .agg cs ds (by omega) (fun i hi => (h3 i hi (by omega)).1) (fun i hi hi2 => ih i (by omega) hi2 _ (h3 i hi (by omega)).2)
  | @ptr id off ss ds hm hl hr ih =>
    intro x hx
    obtain ⟨g, ty, cs, h1, h2, h3, h4, h5, h6⟩ := hσ.ok _ hm
    dsimp only at h1
    have hv := ptr_at hx (g := g) (by rw [h1]; rfl)
    rw [hv]
    refine .fp ⟨g, off, none⟩ ds (fun j => cs.getD (off + j) undef) (.inr ⟨_, hm, by rw [h1]; rfl⟩) (fun j hj => ?_) (fun j hj => ?_) (fun j hj => ?_)
    · have hjc : off + j < cs.length := by omega
      rw [addr_add, cell_of_row w g (off + j) cs.toArray ty (0, 0) h4]
      simp [hjc]
    · have hjc : off + j < cs.length := by omega
      have := (h6 (off + j) hjc (by omega)).1
      simpa [hjc] using this
    · have hjc : off + j < cs.length := by omega
      have := ih j (by omega) hj _ (h6 (off + j) hjc (by omega)).2
      simpa [hjc] using this
  | @ptrS id e size k els ds hm hk hl hr ih =>
    intro x hx
    obtain ⟨g, cap, vs, h1, h2, h3, h4, h5, h6, h7⟩ := obS_row hσ hm (by omega)
    have hv := ptr_at hx (g := g) h2
    rw [hv]
    refine .fp ⟨g, k * size, none⟩ ds (fun j => vs k j) (.inr ⟨_, hm, h2⟩) (fun j hj => ?_) (fun j hj => ?_) (fun j hj => ?_)
    · rw [addr_add]
      exact h5 k j hk (by rw [← h6 k hk]; omega)
    · exact (h7 k hk j (by omega)).1
    · exact ih j (by omega) hj _ (h7 k hk j (by omega)).2
  | @clo f caps ds hl hr ih =>
    intro x hx
    cases hx with
    | clo _ cs _ hcs =>
      have h1 := hcs.toS
      have h2 : cs.length = caps.length := by simpa using h1.1
      refine .clo (.func f) cs ds (by omega) fun i hi hi2 => ih i (by omega) hi2 _ ?_
      have h3 := h1.2 i hi (by simp; omega)
      rw [List.getElem_map] at h3
      exact h3

/-- Data that holds no memory. -/
inductive Plain : D → Prop where
  | v (x : Value) : Plain (.v x)
  | any : Plain .any
  | agg (ds : List D) (h : ∀ d ∈ ds, Plain d) : Plain (.agg ds)
  | tup (ds : List D) (h : ∀ d ∈ ds, Plain d) : Plain (.tup ds)
theorem Plain.rep {d : D} (h : Plain d) {F F' : Nat → Prop} {w w' : World} : ∀ x, Rep F w x d → Rep F' w' x d := by
  induction h with
  | v y => intro x hx; cases hx; exact .v _
  | any => exact fun x _ => .any x
  | agg ds h ih =>
    intro x hx
    cases hx with
    | agg cs _ hl hone hr => exact .agg cs ds hl hone fun i h1 h2 => ih _ (List.getElem_mem h2) _ (hr i h1 h2)
  | tup ds h ih =>
    intro x hx
    cases hx with
    | tup cs _ hl hr => exact .tup cs ds hl fun i h1 h2 => ih _ (List.getElem_mem h2) _ (hr i h1 h2)

def SnapArgs (e : Env) (σ : Obs) : List Operand → List D → Prop
  | [], [] => True
  | x :: xs, d :: ds => Snap σ (e.ev x) d ∧ SnapArgs e σ xs ds
  | _, _ => False
theorem SnapArgs.nil {e : Env} {σ : Obs} : SnapArgs e σ [] [] := trivial
theorem SnapArgs.cons {e : Env} {σ : Obs} {x : Operand} {d : D} {xs : List Operand} {ds : List D} {s : S} (hx : e.ev x = s) (h : Snap σ s d) (k : SnapArgs e σ xs ds) : SnapArgs e σ (x :: xs) (d :: ds) := ⟨hx ▸ h, k⟩
theorem SnapArgs.rep {B : Nat} {e : Env} {σ : Obs} {F : Nat → Prop} {ρ : Nat → Value} {w : World} {a : Act} (h : ObsOk B F ρ w σ) : ∀ {xs : List Operand} {ds : List D}, SnapArgs e σ xs ds → (∀ x ∈ xs, RepS F ρ w (a.eval x) (e.ev x)) → RepL (endF F ρ σ) w (xs.map a.eval) ds
  | [], [], _, _ => RepL.nil
  | x :: xs, d :: ds, hd, ha => RepL.cons (hd.1.rep h _ (ha x (by simp))) (SnapArgs.rep h hd.2 fun y hy => ha y (List.mem_cons_of_mem _ hy))
  | [], _ :: _, h, _ => h.elim
  | _ :: _, [], h, _ => h.elim
section
variable {P : Program} {B : Nat} {ops : Array Oper} {o : Oper} {e : Env} {σ : Obs}
/-- What of it is data. -/
def S.weak : S → D
  | .d x => x
  | _ => .any
def Ob.weak : Ob → Ob
  | .rowS e size els => .row e size (els.map fun ss => ss.map S.weak)
  | o => o
def Obs.weak : Obs → Obs
  | [] => []
  | p :: l => (p.1, p.2.weak) :: Obs.weak l
end
section
variable {cx : Cx} {ops : Array Oper} {o : Oper} {rest : List Oper} {e : Env} {σ : Obs} {Q : Post}
theorem AllIn.of {σ : Obs} : ∀ {l : Obs}, (∀ p ∈ l, p ∈ σ) → AllIn σ l
  | [], _ => trivial
  | x :: l, h => ⟨h x (by simp), AllIn.of fun p hp => h p (List.mem_cons_of_mem _ hp)⟩
end
end Go.Proofs.YthcdjmkkgbcaaaaGreatDoor

namespace Go.Proofs.YthcdjmkkgbcaaaaGreatDoor
open Go.RowKit
set_option linter.unusedVariables false

/-- One cell's worth. -/
def OneS (σ : Obs) (s : S) : Prop := (∃ x : D, s = .d x ∧ x.one = true ∧ x.parts = [x]) ∨ ∃ i ee size els, s = .own i ∧ (i, Ob.row ee size els) ∈ σ
theorem OneS.d {σ : Obs} {x : D} (h1 : x.one = true) (h2 : x.parts = [x]) : OneS σ (.d x) := .inl ⟨x, rfl, h1, h2⟩
theorem OneS.own {σ : Obs} {i ee size : Nat} {els : List (List D)} (h : (i, Ob.row ee size els) ∈ σ) : OneS σ (.own i) := .inr ⟨i, ee, size, els, rfl, h⟩
section
variable {cx : Cx} {ops : Array Oper} {o : Oper} {rest : List Oper} {e : Env} {σ : Obs} {Q : Post}
end
/-! A family of own rows: the numbers b + k, b + k + 1, .. -/
def fam (e size : Nat) : Nat → List (List (List D)) → Obs
  | _, [] => []
  | b, x :: l => (b, .row e size x) :: fam e size (b + 1) l
end Go.Proofs.YthcdjmkkgbcaaaaGreatDoor

namespace Go.Proofs.YthcdjmkkgbcaaaaGreatDoor
open Go.RowKit Go.MapKept
set_option linter.unusedVariables false
set_option linter.unusedSimpArgs false

/-- v, ok := m[key]. -/
def MGetOk (M : List (Value × D)) (key : Value) (z d : D) (ok : Bool) : Prop := (ok = true ∧ ∃ i, M[i]? = some (key, d) ∧ ∀ (j : Nat) (p : Value × D), M[j]? = some p → p.1 = key → j = i) ∨ (ok = false ∧ (∀ p ∈ M, p.1 ≠ key) ∧ d = z)
theorem rep_agg2 {F : Nat → Prop} {w : World} {v k1 k2 : Value} (h : Rep F w v (.agg [.v k1, .v k2])) : v = .agg #[k1, k2] := by
  cases h with
  | agg cs _ hl hone h =>
    obtain ⟨a, b, rfl⟩ : ∃ a b, cs = [a, b] := by
      match cs, hl with
      | [a, b], _ => exact ⟨a, b, rfl⟩
    have h1 := h 0 (by simp) (by simp)
    have h2 := h 1 (by simp) (by simp)
    simp only [List.getElem_cons_zero, List.getElem_cons_succ] at h1 h2
    rw [rep_v h1, rep_v h2]
section
variable {cx : Cx} {ops : Array Oper} {o : Oper} {rest : List Oper} {e : Env} {σ σ' : Obs} {Q : Post} {P : Program} {B : Nat}
end
end Go.Proofs.YthcdjmkkgbcaaaaGreatDoor
