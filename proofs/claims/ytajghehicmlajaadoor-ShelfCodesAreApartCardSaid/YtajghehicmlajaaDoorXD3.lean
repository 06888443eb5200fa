/- Walks and laws over abstract values, merged by tools/merge.py. No statement of the seat. -/
import Derived.Lib.Bytealg
import Derived.Lib.IndexLaws
import Derived.Lib.SlTrimSet
import Derived.Lib.SlicesCompact
import Derived.Lib.RowBridge
import Derived.Lib.Strings
import Derived.Lib.ConvBytes
import Derived.Test.YtajghehicmlajaaDoorXD2

namespace Go.Proofs.YtajghehicmlajaaDoor
open Go.RowKit
set_option linter.unusedVariables false

/-! Types. -/
namespace TyH3
theorem et_28 : ElemTy Tryd.prog 28 9 1 16 (.string ⟨#[]⟩) := ⟨by kernel_rfl, by kernel_rfl, by kernel_rfl, by decide⟩
theorem et_36 : ElemTy Tryd.prog 36 5 1 1 (.int .u8 0) := ⟨by kernel_rfl, by kernel_rfl, by kernel_rfl, by decide⟩
theorem sc_5 : Scal Tryd.prog 5 := .of (by kernel_rfl)
theorem sc_9 : Scal Tryd.prog 9 := .of (by kernel_rfl)
theorem st_9 : Tryd.prog.underlying 9 = some .string := by kernel_rfl
end TyH3
open TyH3


theorem at_list {α : Type} {l : List α} {f : α → List D} {k : Nat} (h : k < l.length) : (l.map f)[k]? = some (f l[k]) := by simp [h]
def bStr (l : List UInt8) : ByteArray := ⟨l.toArray⟩
theorem bStr_list (l : List UInt8) : (bStr l).data.toList = l := rfl
theorem bStr_size (l : List UInt8) : (bStr l).size = l.length := by rw [Lib.size_eq]; rfl
theorem bStr_drop (l : List UInt8) (k : Nat) : (bStr l).extract k (bStr l).size = bStr (l.drop k) := by
  have h2 : ((bStr l).extract k (bStr l).size).data = (l.drop k).toArray := by
    rw [ByteArray.data_extract, bStr_size]
    show l.toArray.extract k l.length = _
    simp only [List.extract_toArray, List.extract_eq_take_drop]
    rw [List.take_of_length_le (by simp)]
  exact congrArg ByteArray.mk h2
theorem c_trim (l : List UInt8) (hl : l.length ≤ 9223372036854775807) : ACall Tryd.prog 17 [.v (.string ⟨l.toArray⟩), .v (.string ⟨#[32]⟩)] (.v (.string (bStr (Lib.trimSuffix l [32])))) := c_trimSuffix (bStr l) ⟨#[32]⟩ (by rw [bStr_size]; exact hl)
theorem c_cut (l p : List UInt8) : ACall Tryd.prog 18 [.v (.string (bStr l)), .v (.string (bStr p))] (.tup [.v (.string (bStr (Lib.trimPrefix l p))), .v (.bool (Lib.hasPrefix l p))]) := c_cutPrefix (bStr l) (bStr p)
theorem c_hasP (l p : List UInt8) : ACall Tryd.prog 21 [.v (.string (bStr l)), .v (.string (bStr p))] (.v (.bool (Lib.hasPrefix l p))) := c_hasPrefix (bStr l) (bStr p)
theorem c_fieldsL (l : List UInt8) (hs : l.length < 4294967281) (ha : ∀ b ∈ l, b.toNat < 128) : ACallT Tryd.prog TabT 20 [.v (.string ⟨l.toArray⟩)] (.sl ((Lib.fields l).map fldD)) := c_fields (bStr l) (by rw [bStr_size]; exact hs) (fun j b hj => ha b (List.mem_of_getElem? hj))
theorem c_joinL (xs : List (List UInt8)) (hN : xs.length ≤ 140737488355328) (hlen : (Lib.join xs [32]).length ≤ 140737488355328) : ACall Tryd.prog 19 [.sl (xs.map fldD), .v (.string ⟨#[32]⟩)] (.v (.string (bStr (Lib.join xs [32])))) := c_join xs ⟨#[32]⟩ hN hlen
def arts : List (List UInt8) := [[116, 104, 101, 32], [97, 110, 32], [97, 32]]
def artD (l : List UInt8) : List D := [.v (.string (bStr l))]
theorem strip_hit {S : List UInt8} {i : Nat} (hi : i < arts.length) (h0 : ∀ p ∈ arts.take i, Lib.hasPrefix S p = false) (h : Lib.hasPrefix S arts[i] = true) : strip S = S.drop arts[i].length := by
  unfold strip
  match i, hi with
  | 0, _ => rw [if_pos (show Lib.hasPrefix S [116, 104, 101, 32] = true from h)]; rfl
  | 1, _ =>
    have e0 := h0 [116, 104, 101, 32] (by decide)
    rw [if_neg (by rw [e0]; decide), if_pos (show Lib.hasPrefix S [97, 110, 32] = true from h)]; rfl
  | 2, _ =>
    have e0 := h0 [116, 104, 101, 32] (by decide)
    have e1 := h0 [97, 110, 32] (by decide)
    rw [if_neg (by rw [e0]; decide), if_neg (by rw [e1]; decide), if_pos (show Lib.hasPrefix S [97, 32] = true from h)]; rfl
theorem strip_none {S : List UInt8} (h0 : ∀ p ∈ arts.take 3, Lib.hasPrefix S p = false) : strip S = S := by
  unfold strip
  have e0 := h0 [116, 104, 101, 32] (by decide)
  have e1 := h0 [97, 110, 32] (by decide)
  have e2 := h0 [97, 32] (by decide)
  rw [if_neg (by rw [e0]; decide), if_neg (by rw [e1]; decide), if_neg (by rw [e2]; decide)]
theorem art_next {P : List UInt8 → Prop} {i : Nat} (hi : i < arts.length) (h : ∀ p ∈ arts.take i, P p) (h2 : P arts[i]) : ∀ p ∈ arts.take (i + 1), P p := by
  intro w hw
  rw [List.take_add_one, List.getElem?_eq_getElem hi] at hw
  simp only [Option.toList_some, List.mem_append, List.mem_singleton] at hw
  rcases hw with h1 | h1
  · exact h w h1
  · rw [h1]; exact h2
/-- The program's loop, so far. -/
def pTo (s : ByteArray) (k : Nat) : List UInt8 := (s.data.toList.take k).foldl pStep []
theorem pTo_next {s : ByteArray} {k : Nat} (h : k < s.data.toList.length) : pTo s (k + 1) = pStep (pTo s k) s.data.toList[k] := by
  unfold pTo
  rw [List.take_add_one, List.getElem?_eq_getElem h, Option.toList_some, List.foldl_append]; rfl
theorem pTo_len (s : ByteArray) (k : Nat) : (pTo s k).length ≤ k := fold_len _ k
theorem pTo_all (s : ByteArray) : pTo s s.size = s.data.toList.foldl pStep [] := by unfold pTo; rw [Lib.size_eq, List.take_length]
theorem low_nat : ∀ n : Fin 256, 65 ≤ n.val ∧ n.val ≤ 90 → IntKind.u8.wrap ((n.val : Int) + 32) = ((lowB (UInt8.ofNat n.val)).toNat : Int) := by decide +kernel
theorem low_wrap {c : UInt8} (h : 65 ≤ c.toNat ∧ c.toNat ≤ 90) : IntKind.u8.wrap ((c.toNat : Int) + 32) = ((lowB c).toNat : Int) := by
  have := low_nat ⟨c.toNat, c.toNat_lt⟩ h
  simp only [UInt8.ofNat_toNat] at this
  exact this
theorem low_wrap2_nat : ∀ n : Fin 256, 65 ≤ n.val ∧ n.val ≤ 90 → IntKind.u8.wrap (IntKind.u8.wrap ((n.val : Int) - 65) + 97) = ((lowB (UInt8.ofNat n.val)).toNat : Int) := by decide +kernel
theorem low_wrap2 {c : UInt8} (h : 65 ≤ c.toNat ∧ c.toNat ≤ 90) : IntKind.u8.wrap (IntKind.u8.wrap ((c.toNat : Int) - 65) + 97) = ((lowB c).toNat : Int) := by
  have := low_wrap2_nat ⟨c.toNat, c.toNat_lt⟩ h
  simp only [UInt8.ofNat_toNat] at this
  exact this
theorem low_same {c : UInt8} (h : ¬ (65 ≤ c.toNat ∧ c.toNat ≤ 90)) : lowB c = c := if_neg h
theorem aln_iff {x : UInt8} : alnB x = true ↔ (97 ≤ x.toNat ∧ x.toNat ≤ 122) ∨ (48 ≤ x.toNat ∧ x.toNat ≤ 57) := by unfold alnB; simp
theorem step_aln {b : List UInt8} {c : UInt8} (h : alnB (lowB c) = true) : pStep b c = b ++ [lowB c] := if_pos h
theorem step_sp {b : List UInt8} {c : UInt8} (h : ¬ alnB (lowB c) = true) (h2 : 0 < b.length) (h3 : b[b.length - 1]'(by omega) ≠ 32) : pStep b c = b ++ [32] := by
  have h4 : b ≠ [] ∧ b.getLast? ≠ some 32 := ⟨fun e => (by rw [e] at h2; exact absurd h2 (by simp)), fun e => by
    rw [List.getLast?_eq_getElem?, List.getElem?_eq_getElem (by omega)] at e
    exact h3 (Option.some.inj e)⟩
  unfold pStep
  rw [if_neg h, if_pos h4]
theorem u8_32 {x : UInt8} (h : (x.toNat : Int) = 32) : x = 32 := UInt8.toNat_inj.1 (by show x.toNat = 32; omega)
theorem u8_n32 {x : UInt8} (h : (x.toNat : Int) ≠ 32) : x ≠ 32 := fun e => h (by rw [e]; rfl)
theorem last_32 {b : List UInt8} (h2 : 0 < b.length) (h3 : b[b.length - 1]'(by omega) = 32) : b.getLast? = some 32 := by rw [List.getLast?_eq_getElem?, List.getElem?_eq_getElem (by omega), h3]
theorem step_no {b : List UInt8} {c : UInt8} (h : ¬ alnB (lowB c) = true) (h2 : b = [] ∨ b.getLast? = some 32) : pStep b c = b := by
  unfold pStep
  rw [if_neg h, if_neg]
  rintro ⟨h3, h4⟩
  exact h2.elim h3 h4


set_option maxRecDepth 100000 in
set_option maxHeartbeats 1000000 in
theorem c_pFold (s : ByteArray) (hs : s.size ≤ 1048576) : ACall Tryd.prog 6 [.v (.string s)] (.v (.string (bStr (foldS s.data.toList)))) := by
  refine acall_of (n := 82) (ds' := [.v (.string (bStr (foldS s.data.toList)))]) Tryd.func6 rfl (by kernel_rfl) rfl [2] rfl rfl ?_
  intro B w0 F0 fr
  have hsz := Lib.size_eq s
  refine AWP.seq ?_
  refine AWP.region ?_
  refine AOps.step rfl rfl rfl (AOp.assignD rfl rfl) ?_
  refine AOps.nil ?_
  refine AWP.seq ?_
  refine AWP.region ?_
  refine AOps.step rfl rfl rfl (AOp.assignD rfl rfl) ?_
  refine AOps.nil ?_
  refine AWP.seq ?_
  refine AWP.seq ?_
  refine AWP.region ?_
  refine AOps.step rfl rfl rfl (AOp.moveD rfl rfl) ?_
  refine AOps.step rfl rfl rfl (AOp.lenStr rfl st_9 rfl) ?_
  refine AOps.step rfl rfl rfl (AOp.moveD rfl rfl) ?_
  refine AOps.nil ?_
  refine AWP.block ?_
  refine AWP.adopt 3 1 5 1 rfl rfl ?_
  refine AWP.loop (G := Nat) (fun k => Env.of [(13, .d (.v (.int .i64 (k : Int)))), (11, .d (.v (.string s))), (12, .d (.v (.int .i64 (s.size : Int)))), (0, .d (.v (.string s))), (3, .own 1)]) (fun k => [(1, .row 5 1 ((pTo s k).map u8D))]) (fun k => k ≤ s.size) (fun k => s.size - k) 0 (Nat.zero_le _) (Sub.less ⟨(SLe.of_eq rfl), SLe.refl _, SLe.refl _, SLe.refl _, SLe.refl _, trivial⟩ (row_same rfl)) ?_
  intro k hk
  refine AWP.seq ?_
  refine AWP.region ?_
  refine AOps.step rfl rfl rfl (AOp.lss rfl rfl rfl) ?_
  refine AOps.nil ?_
  refine AWP.seq ?_
  refine AWP.cond rfl (fun h1 => ?_) (fun h1 => ?_)
  · replace h1 := of_decide_eq_true h1
    have hlt : k < s.data.toList.length := by omega
    have hc := List.getElem?_eq_getElem hlt
    have hpl := pTo_len s k
    have hpn := pTo_next hlt
    generalize s.data.toList[k] = c at hc hpn
    refine AWP.skip ?_
    refine AWP.seq ?_
    refine AWP.block ?_
    refine AWP.seq ?_
    refine AWP.region ?_
    refine AOps.step rfl rfl rfl (AOp.moveD rfl rfl) ?_
    refine AOps.step rfl rfl rfl (AOp.assignD rfl rfl) ?_
    refine AOps.nil ?_
    refine AWP.seq ?_
    refine AWP.region ?_
    refine AOps.step rfl rfl rfl (AOp.moveD rfl rfl) ?_
    refine AOps.step rfl rfl rfl (AOp.moveD rfl rfl) ?_
    refine AOps.step rfl rfl rfl (AOp.indexStr rfl st_9 rfl rfl k rfl hc) ?_
    refine AOps.step rfl rfl rfl (AOp.assignD rfl rfl) ?_
    refine AOps.nil ?_
    refine AWP.seq ?_
    refine AWP.seq ?_
    refine AWP.region ?_
    refine AOps.step rfl rfl rfl (AOp.moveD rfl rfl) ?_
    refine AOps.step rfl rfl rfl (AOp.geq rfl rfl rfl) ?_
    refine AOps.step rfl rfl rfl (AOp.moveD rfl rfl) ?_
    refine AOps.split 21 rfl (fun g2 => ?_) (fun g2 => ?_)
    · replace g2 := of_decide_eq_true g2
      refine AOps.step ⟨21, rfl, .inl ⟨_, rfl, rfl⟩⟩ rfl rfl (AOp.moveD rfl rfl) ?_
      refine AOps.step ⟨21, rfl, .inl ⟨_, rfl, rfl⟩⟩ rfl rfl (AOp.leq rfl rfl rfl) ?_
      refine AOps.step rfl rfl rfl (AOp.pickT rfl rfl rfl) ?_
      refine AOps.nil ?_
      refine AWP.cond rfl (fun h3 => ?_) (fun h3 => ?_)
      · replace h3 := of_decide_eq_true h3
        refine AWP.region ?_
        refine AOps.step rfl rfl rfl (AOp.moveD rfl rfl) ?_
        refine AOps.step rfl rfl rfl (AOp.add rfl rfl rfl) ?_
        rw [low_wrap (by omega)]
        refine AOps.step rfl rfl rfl (AOp.assignD rfl rfl) ?_
        refine AOps.nil ?_
        refine AWP.block ?_
        refine AWP.seq ?_
        first | (have hlc : lowB c = c := low_same (by omega); rw [← hlc]) | skip
        refine AWP.region ?_
        refine AOps.step rfl rfl rfl (AOp.moveD rfl rfl) ?_
        refine AOps.step rfl rfl rfl (AOp.geq rfl rfl rfl) ?_
        refine AOps.step rfl rfl rfl (AOp.moveD rfl rfl) ?_
        refine AOps.split 30 rfl (fun g4 => ?_) (fun g4 => ?_)
        · replace g4 := of_decide_eq_true g4
          refine AOps.step ⟨30, rfl, .inl ⟨_, rfl, rfl⟩⟩ rfl rfl (AOp.moveD rfl rfl) ?_
          refine AOps.step ⟨30, rfl, .inl ⟨_, rfl, rfl⟩⟩ rfl rfl (AOp.leq rfl rfl rfl) ?_
          refine AOps.step rfl rfl rfl (AOp.pickT rfl rfl rfl) ?_
          refine AOps.step rfl rfl rfl (AOp.moveD rfl rfl) ?_
          refine AOps.split 34 rfl (fun g5 => ?_) (fun g5 => ?_)
          · replace g5 := of_decide_eq_true g5
            refine AOps.pass ⟨34, rfl, .inl ⟨_, rfl, rfl⟩⟩ rfl rfl ?_
            refine AOps.pass ⟨34, rfl, .inl ⟨_, rfl, rfl⟩⟩ rfl rfl ?_
            refine AOps.pass ⟨34, rfl, .inl ⟨_, rfl, rfl⟩⟩ rfl rfl ?_
            refine AOps.pass ⟨37, rfl, .inr ⟨rfl, rfl⟩⟩ rfl rfl ?_
            refine AOps.pass ⟨37, rfl, .inr ⟨rfl, rfl⟩⟩ rfl rfl ?_
            refine AOps.pass ⟨34, rfl, .inl ⟨_, rfl, rfl⟩⟩ rfl rfl ?_
            refine AOps.step rfl rfl rfl (AOp.pickT rfl rfl rfl) ?_
            refine AOps.step rfl rfl rfl (AOp.assignD rfl rfl) ?_
            refine AOps.nil ?_
            refine AWP.cond rfl (fun _ => ?_) (fun h => nomatch h)
            refine AWP.region ?_
            refine AOps.step rfl rfl rfl (AOp.moveO rfl rfl) ?_
            refine AOps.step rfl rfl rfl (AOp.moveD rfl rfl) ?_
            refine AOps.step rfl rfl rfl (AOp.buildSlice rfl et_36 (.cons rfl rfl rfl .nil) rfl (by decide)) ?_
            -- append 45
            refine AOps.append rfl rfl rfl rfl et_36 rfl (.head _) rfl (by simp [D.parts]) (by simp; omega) (by simp; omega) ?_
            refine AOps.step rfl rfl rfl (AOp.assignO rfl rfl) ?_
            refine AOps.nil ?_
            refine AWP.region ?_
            refine AOps.step rfl rfl rfl (AOp.add64 rfl rfl rfl (by omega) (by omega)) ?_
            refine AOps.step rfl rfl rfl (AOp.moveD rfl rfl) ?_
            refine AOps.nil ?_
            refine ⟨k + 1, (by omega), (by dsimp only; omega), Sub.less ⟨(SLe.of_eq rfl), SLe.refl _, SLe.refl _, SLe.refl _, SLe.refl _, trivial⟩ (row_same (by first | (rw [hpn, step_aln (aln_iff.2 (by omega)), List.map_append]; rfl) | (rw [hpn, step_no (fun h => by have := aln_iff.1 h; omega) HNO]) | (rw [hpn, step_sp (fun h => by have := aln_iff.1 h; omega) hlp (u8_n32 HSP), List.map_append]; rfl)))⟩
          · replace g5 := of_decide_eq_false g5
            refine AOps.step ⟨34, rfl, .inl ⟨_, rfl, rfl⟩⟩ rfl rfl (AOp.moveD rfl rfl) ?_
            refine AOps.step ⟨34, rfl, .inl ⟨_, rfl, rfl⟩⟩ rfl rfl (AOp.geq rfl rfl rfl) ?_
            refine AOps.step ⟨34, rfl, .inl ⟨_, rfl, rfl⟩⟩ rfl rfl (AOp.moveD rfl rfl) ?_
            refine AOps.split 37 rfl (fun g6 => ?_) (fun g6 => ?_)
            · replace g6 := of_decide_eq_true g6
              refine AOps.step ⟨37, rfl, .inl ⟨_, rfl, rfl⟩⟩ rfl rfl (AOp.moveD rfl rfl) ?_
              refine AOps.step ⟨37, rfl, .inl ⟨_, rfl, rfl⟩⟩ rfl rfl (AOp.leq rfl rfl rfl) ?_
              refine AOps.step ⟨34, rfl, .inl ⟨_, rfl, rfl⟩⟩ rfl rfl (AOp.pickT rfl rfl rfl) ?_
              refine AOps.step rfl rfl rfl (AOp.pickF rfl rfl rfl) ?_
              refine AOps.step rfl rfl rfl (AOp.assignD rfl rfl) ?_
              refine AOps.nil ?_
              refine AWP.cond rfl (fun h7 => ?_) (fun h7 => ?_)
              · replace h7 := of_decide_eq_true h7
                refine AWP.region ?_
                refine AOps.step rfl rfl rfl (AOp.moveO rfl rfl) ?_
                refine AOps.step rfl rfl rfl (AOp.moveD rfl rfl) ?_
                refine AOps.step rfl rfl rfl (AOp.buildSlice rfl et_36 (.cons rfl rfl rfl .nil) rfl (by decide)) ?_
                -- append 45
                refine AOps.append rfl rfl rfl rfl et_36 rfl (.head _) rfl (by simp [D.parts]) (by simp; omega) (by simp; omega) ?_
                refine AOps.step rfl rfl rfl (AOp.assignO rfl rfl) ?_
                refine AOps.nil ?_
                refine AWP.region ?_
                refine AOps.step rfl rfl rfl (AOp.add64 rfl rfl rfl (by omega) (by omega)) ?_
                refine AOps.step rfl rfl rfl (AOp.moveD rfl rfl) ?_
                refine AOps.nil ?_
                refine ⟨k + 1, (by omega), (by dsimp only; omega), Sub.less ⟨(SLe.of_eq rfl), SLe.refl _, SLe.refl _, SLe.refl _, SLe.refl _, trivial⟩ (row_same (by first | (rw [hpn, step_aln (aln_iff.2 (by omega)), List.map_append]; rfl) | (rw [hpn, step_no (fun h => by have := aln_iff.1 h; omega) HNO]) | (rw [hpn, step_sp (fun h => by have := aln_iff.1 h; omega) hlp (u8_n32 HSP), List.map_append]; rfl)))⟩
              · replace h7 := of_decide_eq_false h7
                refine AWP.seq ?_
                refine AWP.region ?_
                refine AOps.step rfl rfl rfl (AOp.moveO rfl rfl) ?_
                refine AOps.step rfl rfl rfl (AOp.lenOwn rfl et_36.ht rfl (.head _)) ?_
                refine AOps.step rfl rfl rfl (AOp.gtr rfl rfl rfl) ?_
                refine AOps.step rfl rfl rfl (AOp.moveD rfl rfl) ?_
                refine AOps.split 50 rfl (fun g8 => ?_) (fun g8 => ?_)
                · replace g8 := of_decide_eq_true g8
                  rw [List.length_map] at g8
                  have hlp : 0 < (pTo s k).length := by omega
                  refine AOps.step ⟨50, rfl, .inl ⟨_, rfl, rfl⟩⟩ rfl rfl (AOp.moveO rfl rfl) ?_
                  refine AOps.step ⟨50, rfl, .inl ⟨_, rfl, rfl⟩⟩ rfl rfl (AOp.moveO rfl rfl) ?_
                  refine AOps.step ⟨50, rfl, .inl ⟨_, rfl, rfl⟩⟩ rfl rfl (AOp.lenOwn rfl et_36.ht rfl (.head _)) ?_
                  refine AOps.step ⟨50, rfl, .inl ⟨_, rfl, rfl⟩⟩ rfl rfl (AOp.sub64 rfl rfl rfl (by rw [List.length_map]; omega) (by rw [List.length_map]; omega)) ?_
                  refine AOps.step ⟨50, rfl, .inl ⟨_, rfl, rfl⟩⟩ rfl rfl (AOp.indexOwn rfl et_36 rfl rfl (.head _) ((pTo s k).length - 1) (by rw [List.length_map]; omega) (by rw [List.length_map]; omega)) ?_
                  refine AOps.step ⟨50, rfl, .inl ⟨_, rfl, rfl⟩⟩ rfl rfl (AOp.loadRow rfl sc_5 rfl (.head _) ((pTo s k).length - 1) 0 rfl (at_list (by omega)) rfl) ?_
                  refine AOps.step ⟨50, rfl, .inl ⟨_, rfl, rfl⟩⟩ rfl rfl (AOp.neq rfl rfl rfl) ?_
                  refine AOps.step rfl rfl rfl (AOp.pickT rfl rfl rfl) ?_
                  refine AOps.step rfl rfl rfl (AOp.assignD rfl rfl) ?_
                  refine AOps.nil ?_
                  refine AWP.cond rfl (fun h9 => ?_) (fun h9 => ?_)
                  · replace h9 := of_decide_eq_true h9
                    have HSP := h9
                    refine AWP.region ?_
                    refine AOps.step rfl rfl rfl (AOp.moveO rfl rfl) ?_
                    refine AOps.step rfl rfl rfl (AOp.buildSlice rfl et_36 (.cons rfl rfl rfl .nil) rfl (by decide)) ?_
                    -- append 61
                    refine AOps.append rfl rfl rfl rfl et_36 rfl (.head _) rfl (by simp [D.parts]) (by simp; omega) (by simp; omega) ?_
                    refine AOps.step rfl rfl rfl (AOp.assignO rfl rfl) ?_
                    refine AOps.nil ?_
                    refine AWP.region ?_
                    refine AOps.step rfl rfl rfl (AOp.add64 rfl rfl rfl (by omega) (by omega)) ?_
                    refine AOps.step rfl rfl rfl (AOp.moveD rfl rfl) ?_
                    refine AOps.nil ?_
                    refine ⟨k + 1, (by omega), (by dsimp only; omega), Sub.less ⟨(SLe.of_eq rfl), SLe.refl _, SLe.refl _, SLe.refl _, SLe.refl _, trivial⟩ (row_same (by first | (rw [hpn, step_aln (aln_iff.2 (by omega)), List.map_append]; rfl) | (rw [hpn, step_no (fun h => by have := aln_iff.1 h; omega) HNO]) | (rw [hpn, step_sp (fun h => by have := aln_iff.1 h; omega) hlp (u8_n32 HSP), List.map_append]; rfl)))⟩
                  · replace h9 := of_decide_eq_false h9
                    have HNO : pTo s k = [] ∨ (pTo s k).getLast? = some 32 := .inr (last_32 hlp (u8_32 (Decidable.not_not.1 h9)))
                    refine AWP.skip ?_
                    refine AWP.region ?_
                    refine AOps.step rfl rfl rfl (AOp.add64 rfl rfl rfl (by omega) (by omega)) ?_
                    refine AOps.step rfl rfl rfl (AOp.moveD rfl rfl) ?_
                    refine AOps.nil ?_
                    refine ⟨k + 1, (by omega), (by dsimp only; omega), Sub.less ⟨(SLe.of_eq rfl), SLe.refl _, SLe.refl _, SLe.refl _, SLe.refl _, trivial⟩ (row_same (by first | (rw [hpn, step_aln (aln_iff.2 (by omega)), List.map_append]; rfl) | (rw [hpn, step_no (fun h => by have := aln_iff.1 h; omega) HNO]) | (rw [hpn, step_sp (fun h => by have := aln_iff.1 h; omega) hlp (u8_n32 HSP), List.map_append]; rfl)))⟩
                · replace g8 := of_decide_eq_false g8
                  rw [List.length_map] at g8
                  have HNO : pTo s k = [] ∨ (pTo s k).getLast? = some 32 := .inl (List.eq_nil_of_length_eq_zero (by omega))
                  refine AOps.pass ⟨50, rfl, .inl ⟨_, rfl, rfl⟩⟩ rfl rfl ?_
                  refine AOps.pass ⟨50, rfl, .inl ⟨_, rfl, rfl⟩⟩ rfl rfl ?_
                  refine AOps.pass ⟨50, rfl, .inl ⟨_, rfl, rfl⟩⟩ rfl rfl ?_
                  refine AOps.pass ⟨50, rfl, .inl ⟨_, rfl, rfl⟩⟩ rfl rfl ?_
                  refine AOps.pass ⟨50, rfl, .inl ⟨_, rfl, rfl⟩⟩ rfl rfl ?_
                  refine AOps.pass ⟨50, rfl, .inl ⟨_, rfl, rfl⟩⟩ rfl rfl ?_
                  refine AOps.pass ⟨50, rfl, .inl ⟨_, rfl, rfl⟩⟩ rfl rfl ?_
                  refine AOps.step rfl rfl rfl (AOp.pickF rfl rfl rfl) ?_
                  refine AOps.step rfl rfl rfl (AOp.assignD rfl rfl) ?_
                  refine AOps.nil ?_
                  refine AWP.cond rfl (fun h => nomatch h) (fun _ => ?_)
                  refine AWP.skip ?_
                  refine AWP.region ?_
                  refine AOps.step rfl rfl rfl (AOp.add64 rfl rfl rfl (by omega) (by omega)) ?_
                  refine AOps.step rfl rfl rfl (AOp.moveD rfl rfl) ?_
                  refine AOps.nil ?_
                  refine ⟨k + 1, (by omega), (by dsimp only; omega), Sub.less ⟨(SLe.of_eq rfl), SLe.refl _, SLe.refl _, SLe.refl _, SLe.refl _, trivial⟩ (row_same (by first | (rw [hpn, step_aln (aln_iff.2 (by omega)), List.map_append]; rfl) | (rw [hpn, step_no (fun h => by have := aln_iff.1 h; omega) HNO]) | (rw [hpn, step_sp (fun h => by have := aln_iff.1 h; omega) hlp (u8_n32 HSP), List.map_append]; rfl)))⟩
            · replace g6 := of_decide_eq_false g6
              refine AOps.pass ⟨37, rfl, .inl ⟨_, rfl, rfl⟩⟩ rfl rfl ?_
              refine AOps.pass ⟨37, rfl, .inl ⟨_, rfl, rfl⟩⟩ rfl rfl ?_
              refine AOps.step ⟨34, rfl, .inl ⟨_, rfl, rfl⟩⟩ rfl rfl (AOp.pickF rfl rfl rfl) ?_
              refine AOps.step rfl rfl rfl (AOp.pickF rfl rfl rfl) ?_
              refine AOps.step rfl rfl rfl (AOp.assignD rfl rfl) ?_
              refine AOps.nil ?_
              refine AWP.cond rfl (fun h => nomatch h) (fun _ => ?_)
              refine AWP.seq ?_
              refine AWP.region ?_
              refine AOps.step rfl rfl rfl (AOp.moveO rfl rfl) ?_
              refine AOps.step rfl rfl rfl (AOp.lenOwn rfl et_36.ht rfl (.head _)) ?_
              refine AOps.step rfl rfl rfl (AOp.gtr rfl rfl rfl) ?_
              refine AOps.step rfl rfl rfl (AOp.moveD rfl rfl) ?_
              refine AOps.split 50 rfl (fun g10 => ?_) (fun g10 => ?_)
              · replace g10 := of_decide_eq_true g10
                rw [List.length_map] at g10
                have hlp : 0 < (pTo s k).length := by omega
                refine AOps.step ⟨50, rfl, .inl ⟨_, rfl, rfl⟩⟩ rfl rfl (AOp.moveO rfl rfl) ?_
                refine AOps.step ⟨50, rfl, .inl ⟨_, rfl, rfl⟩⟩ rfl rfl (AOp.moveO rfl rfl) ?_
                refine AOps.step ⟨50, rfl, .inl ⟨_, rfl, rfl⟩⟩ rfl rfl (AOp.lenOwn rfl et_36.ht rfl (.head _)) ?_
                refine AOps.step ⟨50, rfl, .inl ⟨_, rfl, rfl⟩⟩ rfl rfl (AOp.sub64 rfl rfl rfl (by rw [List.length_map]; omega) (by rw [List.length_map]; omega)) ?_
                refine AOps.step ⟨50, rfl, .inl ⟨_, rfl, rfl⟩⟩ rfl rfl (AOp.indexOwn rfl et_36 rfl rfl (.head _) ((pTo s k).length - 1) (by rw [List.length_map]; omega) (by rw [List.length_map]; omega)) ?_
                refine AOps.step ⟨50, rfl, .inl ⟨_, rfl, rfl⟩⟩ rfl rfl (AOp.loadRow rfl sc_5 rfl (.head _) ((pTo s k).length - 1) 0 rfl (at_list (by omega)) rfl) ?_
                refine AOps.step ⟨50, rfl, .inl ⟨_, rfl, rfl⟩⟩ rfl rfl (AOp.neq rfl rfl rfl) ?_
                refine AOps.step rfl rfl rfl (AOp.pickT rfl rfl rfl) ?_
                refine AOps.step rfl rfl rfl (AOp.assignD rfl rfl) ?_
                refine AOps.nil ?_
                refine AWP.cond rfl (fun h11 => ?_) (fun h11 => ?_)
                · replace h11 := of_decide_eq_true h11
                  have HSP := h11
                  refine AWP.region ?_
                  refine AOps.step rfl rfl rfl (AOp.moveO rfl rfl) ?_
                  refine AOps.step rfl rfl rfl (AOp.buildSlice rfl et_36 (.cons rfl rfl rfl .nil) rfl (by decide)) ?_
                  -- append 61
                  refine AOps.append rfl rfl rfl rfl et_36 rfl (.head _) rfl (by simp [D.parts]) (by simp; omega) (by simp; omega) ?_
                  refine AOps.step rfl rfl rfl (AOp.assignO rfl rfl) ?_
                  refine AOps.nil ?_
                  refine AWP.region ?_
                  refine AOps.step rfl rfl rfl (AOp.add64 rfl rfl rfl (by omega) (by omega)) ?_
                  refine AOps.step rfl rfl rfl (AOp.moveD rfl rfl) ?_
                  refine AOps.nil ?_
                  refine ⟨k + 1, (by omega), (by dsimp only; omega), Sub.less ⟨(SLe.of_eq rfl), SLe.refl _, SLe.refl _, SLe.refl _, SLe.refl _, trivial⟩ (row_same (by first | (rw [hpn, step_aln (aln_iff.2 (by omega)), List.map_append]; rfl) | (rw [hpn, step_no (fun h => by have := aln_iff.1 h; omega) HNO]) | (rw [hpn, step_sp (fun h => by have := aln_iff.1 h; omega) hlp (u8_n32 HSP), List.map_append]; rfl)))⟩
                · replace h11 := of_decide_eq_false h11
                  have HNO : pTo s k = [] ∨ (pTo s k).getLast? = some 32 := .inr (last_32 hlp (u8_32 (Decidable.not_not.1 h11)))
                  refine AWP.skip ?_
                  refine AWP.region ?_
                  refine AOps.step rfl rfl rfl (AOp.add64 rfl rfl rfl (by omega) (by omega)) ?_
                  refine AOps.step rfl rfl rfl (AOp.moveD rfl rfl) ?_
                  refine AOps.nil ?_
                  refine ⟨k + 1, (by omega), (by dsimp only; omega), Sub.less ⟨(SLe.of_eq rfl), SLe.refl _, SLe.refl _, SLe.refl _, SLe.refl _, trivial⟩ (row_same (by first | (rw [hpn, step_aln (aln_iff.2 (by omega)), List.map_append]; rfl) | (rw [hpn, step_no (fun h => by have := aln_iff.1 h; omega) HNO]) | (rw [hpn, step_sp (fun h => by have := aln_iff.1 h; omega) hlp (u8_n32 HSP), List.map_append]; rfl)))⟩
              · replace g10 := of_decide_eq_false g10
                rw [List.length_map] at g10
                have HNO : pTo s k = [] ∨ (pTo s k).getLast? = some 32 := .inl (List.eq_nil_of_length_eq_zero (by omega))
                refine AOps.pass ⟨50, rfl, .inl ⟨_, rfl, rfl⟩⟩ rfl rfl ?_
                refine AOps.pass ⟨50, rfl, .inl ⟨_, rfl, rfl⟩⟩ rfl rfl ?_
                refine AOps.pass ⟨50, rfl, .inl ⟨_, rfl, rfl⟩⟩ rfl rfl ?_
                refine AOps.pass ⟨50, rfl, .inl ⟨_, rfl, rfl⟩⟩ rfl rfl ?_
                refine AOps.pass ⟨50, rfl, .inl ⟨_, rfl, rfl⟩⟩ rfl rfl ?_
                refine AOps.pass ⟨50, rfl, .inl ⟨_, rfl, rfl⟩⟩ rfl rfl ?_
                refine AOps.pass ⟨50, rfl, .inl ⟨_, rfl, rfl⟩⟩ rfl rfl ?_
                refine AOps.step rfl rfl rfl (AOp.pickF rfl rfl rfl) ?_
                refine AOps.step rfl rfl rfl (AOp.assignD rfl rfl) ?_
                refine AOps.nil ?_
                refine AWP.cond rfl (fun h => nomatch h) (fun _ => ?_)
                refine AWP.skip ?_
                refine AWP.region ?_
                refine AOps.step rfl rfl rfl (AOp.add64 rfl rfl rfl (by omega) (by omega)) ?_
                refine AOps.step rfl rfl rfl (AOp.moveD rfl rfl) ?_
                refine AOps.nil ?_
                refine ⟨k + 1, (by omega), (by dsimp only; omega), Sub.less ⟨(SLe.of_eq rfl), SLe.refl _, SLe.refl _, SLe.refl _, SLe.refl _, trivial⟩ (row_same (by first | (rw [hpn, step_aln (aln_iff.2 (by omega)), List.map_append]; rfl) | (rw [hpn, step_no (fun h => by have := aln_iff.1 h; omega) HNO]) | (rw [hpn, step_sp (fun h => by have := aln_iff.1 h; omega) hlp (u8_n32 HSP), List.map_append]; rfl)))⟩
        · replace g4 := of_decide_eq_false g4
          refine AOps.pass ⟨30, rfl, .inl ⟨_, rfl, rfl⟩⟩ rfl rfl ?_
          refine AOps.pass ⟨30, rfl, .inl ⟨_, rfl, rfl⟩⟩ rfl rfl ?_
          refine AOps.step rfl rfl rfl (AOp.pickF rfl rfl rfl) ?_
          refine AOps.step rfl rfl rfl (AOp.moveD rfl rfl) ?_
          refine AOps.step ⟨34, rfl, .inl ⟨_, rfl, rfl⟩⟩ rfl rfl (AOp.moveD rfl rfl) ?_
          refine AOps.step ⟨34, rfl, .inl ⟨_, rfl, rfl⟩⟩ rfl rfl (AOp.geq rfl rfl rfl) ?_
          refine AOps.step ⟨34, rfl, .inl ⟨_, rfl, rfl⟩⟩ rfl rfl (AOp.moveD rfl rfl) ?_
          refine AOps.split 37 rfl (fun g12 => ?_) (fun g12 => ?_)
          · replace g12 := of_decide_eq_true g12
            refine AOps.step ⟨37, rfl, .inl ⟨_, rfl, rfl⟩⟩ rfl rfl (AOp.moveD rfl rfl) ?_
            refine AOps.step ⟨37, rfl, .inl ⟨_, rfl, rfl⟩⟩ rfl rfl (AOp.leq rfl rfl rfl) ?_
            refine AOps.step ⟨34, rfl, .inl ⟨_, rfl, rfl⟩⟩ rfl rfl (AOp.pickT rfl rfl rfl) ?_
            refine AOps.step rfl rfl rfl (AOp.pickF rfl rfl rfl) ?_
            refine AOps.step rfl rfl rfl (AOp.assignD rfl rfl) ?_
            refine AOps.nil ?_
            refine AWP.cond rfl (fun h13 => ?_) (fun h13 => ?_)
            · replace h13 := of_decide_eq_true h13
              refine AWP.region ?_
              refine AOps.step rfl rfl rfl (AOp.moveO rfl rfl) ?_
              refine AOps.step rfl rfl rfl (AOp.moveD rfl rfl) ?_
              refine AOps.step rfl rfl rfl (AOp.buildSlice rfl et_36 (.cons rfl rfl rfl .nil) rfl (by decide)) ?_
              -- append 45
              refine AOps.append rfl rfl rfl rfl et_36 rfl (.head _) rfl (by simp [D.parts]) (by simp; omega) (by simp; omega) ?_
              refine AOps.step rfl rfl rfl (AOp.assignO rfl rfl) ?_
              refine AOps.nil ?_
              refine AWP.region ?_
              refine AOps.step rfl rfl rfl (AOp.add64 rfl rfl rfl (by omega) (by omega)) ?_
              refine AOps.step rfl rfl rfl (AOp.moveD rfl rfl) ?_
              refine AOps.nil ?_
              refine ⟨k + 1, (by omega), (by dsimp only; omega), Sub.less ⟨(SLe.of_eq rfl), SLe.refl _, SLe.refl _, SLe.refl _, SLe.refl _, trivial⟩ (row_same (by first | (rw [hpn, step_aln (aln_iff.2 (by omega)), List.map_append]; rfl) | (rw [hpn, step_no (fun h => by have := aln_iff.1 h; omega) HNO]) | (rw [hpn, step_sp (fun h => by have := aln_iff.1 h; omega) hlp (u8_n32 HSP), List.map_append]; rfl)))⟩
            · replace h13 := of_decide_eq_false h13
              refine AWP.seq ?_
              refine AWP.region ?_
              refine AOps.step rfl rfl rfl (AOp.moveO rfl rfl) ?_
              refine AOps.step rfl rfl rfl (AOp.lenOwn rfl et_36.ht rfl (.head _)) ?_
              refine AOps.step rfl rfl rfl (AOp.gtr rfl rfl rfl) ?_
              refine AOps.step rfl rfl rfl (AOp.moveD rfl rfl) ?_
              refine AOps.split 50 rfl (fun g14 => ?_) (fun g14 => ?_)
              · replace g14 := of_decide_eq_true g14
                rw [List.length_map] at g14
                have hlp : 0 < (pTo s k).length := by omega
                refine AOps.step ⟨50, rfl, .inl ⟨_, rfl, rfl⟩⟩ rfl rfl (AOp.moveO rfl rfl) ?_
                refine AOps.step ⟨50, rfl, .inl ⟨_, rfl, rfl⟩⟩ rfl rfl (AOp.moveO rfl rfl) ?_
                refine AOps.step ⟨50, rfl, .inl ⟨_, rfl, rfl⟩⟩ rfl rfl (AOp.lenOwn rfl et_36.ht rfl (.head _)) ?_
                refine AOps.step ⟨50, rfl, .inl ⟨_, rfl, rfl⟩⟩ rfl rfl (AOp.sub64 rfl rfl rfl (by rw [List.length_map]; omega) (by rw [List.length_map]; omega)) ?_
                refine AOps.step ⟨50, rfl, .inl ⟨_, rfl, rfl⟩⟩ rfl rfl (AOp.indexOwn rfl et_36 rfl rfl (.head _) ((pTo s k).length - 1) (by rw [List.length_map]; omega) (by rw [List.length_map]; omega)) ?_
                refine AOps.step ⟨50, rfl, .inl ⟨_, rfl, rfl⟩⟩ rfl rfl (AOp.loadRow rfl sc_5 rfl (.head _) ((pTo s k).length - 1) 0 rfl (at_list (by omega)) rfl) ?_
                refine AOps.step ⟨50, rfl, .inl ⟨_, rfl, rfl⟩⟩ rfl rfl (AOp.neq rfl rfl rfl) ?_
                refine AOps.step rfl rfl rfl (AOp.pickT rfl rfl rfl) ?_
                refine AOps.step rfl rfl rfl (AOp.assignD rfl rfl) ?_
                refine AOps.nil ?_
                refine AWP.cond rfl (fun h15 => ?_) (fun h15 => ?_)
                · replace h15 := of_decide_eq_true h15
                  have HSP := h15
                  refine AWP.region ?_
                  refine AOps.step rfl rfl rfl (AOp.moveO rfl rfl) ?_
                  refine AOps.step rfl rfl rfl (AOp.buildSlice rfl et_36 (.cons rfl rfl rfl .nil) rfl (by decide)) ?_
                  -- append 61
                  refine AOps.append rfl rfl rfl rfl et_36 rfl (.head _) rfl (by simp [D.parts]) (by simp; omega) (by simp; omega) ?_
                  refine AOps.step rfl rfl rfl (AOp.assignO rfl rfl) ?_
                  refine AOps.nil ?_
                  refine AWP.region ?_
                  refine AOps.step rfl rfl rfl (AOp.add64 rfl rfl rfl (by omega) (by omega)) ?_
                  refine AOps.step rfl rfl rfl (AOp.moveD rfl rfl) ?_
                  refine AOps.nil ?_
                  refine ⟨k + 1, (by omega), (by dsimp only; omega), Sub.less ⟨(SLe.of_eq rfl), SLe.refl _, SLe.refl _, SLe.refl _, SLe.refl _, trivial⟩ (row_same (by first | (rw [hpn, step_aln (aln_iff.2 (by omega)), List.map_append]; rfl) | (rw [hpn, step_no (fun h => by have := aln_iff.1 h; omega) HNO]) | (rw [hpn, step_sp (fun h => by have := aln_iff.1 h; omega) hlp (u8_n32 HSP), List.map_append]; rfl)))⟩
                · replace h15 := of_decide_eq_false h15
                  have HNO : pTo s k = [] ∨ (pTo s k).getLast? = some 32 := .inr (last_32 hlp (u8_32 (Decidable.not_not.1 h15)))
                  refine AWP.skip ?_
                  refine AWP.region ?_
                  refine AOps.step rfl rfl rfl (AOp.add64 rfl rfl rfl (by omega) (by omega)) ?_
                  refine AOps.step rfl rfl rfl (AOp.moveD rfl rfl) ?_
                  refine AOps.nil ?_
                  refine ⟨k + 1, (by omega), (by dsimp only; omega), Sub.less ⟨(SLe.of_eq rfl), SLe.refl _, SLe.refl _, SLe.refl _, SLe.refl _, trivial⟩ (row_same (by first | (rw [hpn, step_aln (aln_iff.2 (by omega)), List.map_append]; rfl) | (rw [hpn, step_no (fun h => by have := aln_iff.1 h; omega) HNO]) | (rw [hpn, step_sp (fun h => by have := aln_iff.1 h; omega) hlp (u8_n32 HSP), List.map_append]; rfl)))⟩
              · replace g14 := of_decide_eq_false g14
                rw [List.length_map] at g14
                have HNO : pTo s k = [] ∨ (pTo s k).getLast? = some 32 := .inl (List.eq_nil_of_length_eq_zero (by omega))
                refine AOps.pass ⟨50, rfl, .inl ⟨_, rfl, rfl⟩⟩ rfl rfl ?_
                refine AOps.pass ⟨50, rfl, .inl ⟨_, rfl, rfl⟩⟩ rfl rfl ?_
                refine AOps.pass ⟨50, rfl, .inl ⟨_, rfl, rfl⟩⟩ rfl rfl ?_
                refine AOps.pass ⟨50, rfl, .inl ⟨_, rfl, rfl⟩⟩ rfl rfl ?_
                refine AOps.pass ⟨50, rfl, .inl ⟨_, rfl, rfl⟩⟩ rfl rfl ?_
                refine AOps.pass ⟨50, rfl, .inl ⟨_, rfl, rfl⟩⟩ rfl rfl ?_
                refine AOps.pass ⟨50, rfl, .inl ⟨_, rfl, rfl⟩⟩ rfl rfl ?_
                refine AOps.step rfl rfl rfl (AOp.pickF rfl rfl rfl) ?_
                refine AOps.step rfl rfl rfl (AOp.assignD rfl rfl) ?_
                refine AOps.nil ?_
                refine AWP.cond rfl (fun h => nomatch h) (fun _ => ?_)
                refine AWP.skip ?_
                refine AWP.region ?_
                refine AOps.step rfl rfl rfl (AOp.add64 rfl rfl rfl (by omega) (by omega)) ?_
                refine AOps.step rfl rfl rfl (AOp.moveD rfl rfl) ?_
                refine AOps.nil ?_
                refine ⟨k + 1, (by omega), (by dsimp only; omega), Sub.less ⟨(SLe.of_eq rfl), SLe.refl _, SLe.refl _, SLe.refl _, SLe.refl _, trivial⟩ (row_same (by first | (rw [hpn, step_aln (aln_iff.2 (by omega)), List.map_append]; rfl) | (rw [hpn, step_no (fun h => by have := aln_iff.1 h; omega) HNO]) | (rw [hpn, step_sp (fun h => by have := aln_iff.1 h; omega) hlp (u8_n32 HSP), List.map_append]; rfl)))⟩
          · replace g12 := of_decide_eq_false g12
            refine AOps.pass ⟨37, rfl, .inl ⟨_, rfl, rfl⟩⟩ rfl rfl ?_
            refine AOps.pass ⟨37, rfl, .inl ⟨_, rfl, rfl⟩⟩ rfl rfl ?_
            refine AOps.step ⟨34, rfl, .inl ⟨_, rfl, rfl⟩⟩ rfl rfl (AOp.pickF rfl rfl rfl) ?_
            refine AOps.step rfl rfl rfl (AOp.pickF rfl rfl rfl) ?_
            refine AOps.step rfl rfl rfl (AOp.assignD rfl rfl) ?_
            refine AOps.nil ?_
            refine AWP.cond rfl (fun h => nomatch h) (fun _ => ?_)
            refine AWP.seq ?_
            refine AWP.region ?_
            refine AOps.step rfl rfl rfl (AOp.moveO rfl rfl) ?_
            refine AOps.step rfl rfl rfl (AOp.lenOwn rfl et_36.ht rfl (.head _)) ?_
            refine AOps.step rfl rfl rfl (AOp.gtr rfl rfl rfl) ?_
            refine AOps.step rfl rfl rfl (AOp.moveD rfl rfl) ?_
            refine AOps.split 50 rfl (fun g16 => ?_) (fun g16 => ?_)
            · replace g16 := of_decide_eq_true g16
              rw [List.length_map] at g16
              have hlp : 0 < (pTo s k).length := by omega
              refine AOps.step ⟨50, rfl, .inl ⟨_, rfl, rfl⟩⟩ rfl rfl (AOp.moveO rfl rfl) ?_
              refine AOps.step ⟨50, rfl, .inl ⟨_, rfl, rfl⟩⟩ rfl rfl (AOp.moveO rfl rfl) ?_
              refine AOps.step ⟨50, rfl, .inl ⟨_, rfl, rfl⟩⟩ rfl rfl (AOp.lenOwn rfl et_36.ht rfl (.head _)) ?_
              refine AOps.step ⟨50, rfl, .inl ⟨_, rfl, rfl⟩⟩ rfl rfl (AOp.sub64 rfl rfl rfl (by rw [List.length_map]; omega) (by rw [List.length_map]; omega)) ?_
              refine AOps.step ⟨50, rfl, .inl ⟨_, rfl, rfl⟩⟩ rfl rfl (AOp.indexOwn rfl et_36 rfl rfl (.head _) ((pTo s k).length - 1) (by rw [List.length_map]; omega) (by rw [List.length_map]; omega)) ?_
              refine AOps.step ⟨50, rfl, .inl ⟨_, rfl, rfl⟩⟩ rfl rfl (AOp.loadRow rfl sc_5 rfl (.head _) ((pTo s k).length - 1) 0 rfl (at_list (by omega)) rfl) ?_
              refine AOps.step ⟨50, rfl, .inl ⟨_, rfl, rfl⟩⟩ rfl rfl (AOp.neq rfl rfl rfl) ?_
              refine AOps.step rfl rfl rfl (AOp.pickT rfl rfl rfl) ?_
              refine AOps.step rfl rfl rfl (AOp.assignD rfl rfl) ?_
              refine AOps.nil ?_
              refine AWP.cond rfl (fun h17 => ?_) (fun h17 => ?_)
              · replace h17 := of_decide_eq_true h17
                have HSP := h17
                refine AWP.region ?_
                refine AOps.step rfl rfl rfl (AOp.moveO rfl rfl) ?_
                refine AOps.step rfl rfl rfl (AOp.buildSlice rfl et_36 (.cons rfl rfl rfl .nil) rfl (by decide)) ?_
                -- append 61
                refine AOps.append rfl rfl rfl rfl et_36 rfl (.head _) rfl (by simp [D.parts]) (by simp; omega) (by simp; omega) ?_
                refine AOps.step rfl rfl rfl (AOp.assignO rfl rfl) ?_
                refine AOps.nil ?_
                refine AWP.region ?_
                refine AOps.step rfl rfl rfl (AOp.add64 rfl rfl rfl (by omega) (by omega)) ?_
                refine AOps.step rfl rfl rfl (AOp.moveD rfl rfl) ?_
                refine AOps.nil ?_
                refine ⟨k + 1, (by omega), (by dsimp only; omega), Sub.less ⟨(SLe.of_eq rfl), SLe.refl _, SLe.refl _, SLe.refl _, SLe.refl _, trivial⟩ (row_same (by first | (rw [hpn, step_aln (aln_iff.2 (by omega)), List.map_append]; rfl) | (rw [hpn, step_no (fun h => by have := aln_iff.1 h; omega) HNO]) | (rw [hpn, step_sp (fun h => by have := aln_iff.1 h; omega) hlp (u8_n32 HSP), List.map_append]; rfl)))⟩
              · replace h17 := of_decide_eq_false h17
                have HNO : pTo s k = [] ∨ (pTo s k).getLast? = some 32 := .inr (last_32 hlp (u8_32 (Decidable.not_not.1 h17)))
                refine AWP.skip ?_
                refine AWP.region ?_
                refine AOps.step rfl rfl rfl (AOp.add64 rfl rfl rfl (by omega) (by omega)) ?_
                refine AOps.step rfl rfl rfl (AOp.moveD rfl rfl) ?_
                refine AOps.nil ?_
                refine ⟨k + 1, (by omega), (by dsimp only; omega), Sub.less ⟨(SLe.of_eq rfl), SLe.refl _, SLe.refl _, SLe.refl _, SLe.refl _, trivial⟩ (row_same (by first | (rw [hpn, step_aln (aln_iff.2 (by omega)), List.map_append]; rfl) | (rw [hpn, step_no (fun h => by have := aln_iff.1 h; omega) HNO]) | (rw [hpn, step_sp (fun h => by have := aln_iff.1 h; omega) hlp (u8_n32 HSP), List.map_append]; rfl)))⟩
            · replace g16 := of_decide_eq_false g16
              rw [List.length_map] at g16
              have HNO : pTo s k = [] ∨ (pTo s k).getLast? = some 32 := .inl (List.eq_nil_of_length_eq_zero (by omega))
              refine AOps.pass ⟨50, rfl, .inl ⟨_, rfl, rfl⟩⟩ rfl rfl ?_
              refine AOps.pass ⟨50, rfl, .inl ⟨_, rfl, rfl⟩⟩ rfl rfl ?_
              refine AOps.pass ⟨50, rfl, .inl ⟨_, rfl, rfl⟩⟩ rfl rfl ?_
              refine AOps.pass ⟨50, rfl, .inl ⟨_, rfl, rfl⟩⟩ rfl rfl ?_
              refine AOps.pass ⟨50, rfl, .inl ⟨_, rfl, rfl⟩⟩ rfl rfl ?_
              refine AOps.pass ⟨50, rfl, .inl ⟨_, rfl, rfl⟩⟩ rfl rfl ?_
              refine AOps.pass ⟨50, rfl, .inl ⟨_, rfl, rfl⟩⟩ rfl rfl ?_
              refine AOps.step rfl rfl rfl (AOp.pickF rfl rfl rfl) ?_
              refine AOps.step rfl rfl rfl (AOp.assignD rfl rfl) ?_
              refine AOps.nil ?_
              refine AWP.cond rfl (fun h => nomatch h) (fun _ => ?_)
              refine AWP.skip ?_
              refine AWP.region ?_
              refine AOps.step rfl rfl rfl (AOp.add64 rfl rfl rfl (by omega) (by omega)) ?_
              refine AOps.step rfl rfl rfl (AOp.moveD rfl rfl) ?_
              refine AOps.nil ?_
              refine ⟨k + 1, (by omega), (by dsimp only; omega), Sub.less ⟨(SLe.of_eq rfl), SLe.refl _, SLe.refl _, SLe.refl _, SLe.refl _, trivial⟩ (row_same (by first | (rw [hpn, step_aln (aln_iff.2 (by omega)), List.map_append]; rfl) | (rw [hpn, step_no (fun h => by have := aln_iff.1 h; omega) HNO]) | (rw [hpn, step_sp (fun h => by have := aln_iff.1 h; omega) hlp (u8_n32 HSP), List.map_append]; rfl)))⟩
      · replace h3 := of_decide_eq_false h3
        refine AWP.skip ?_
        refine AWP.block ?_
        refine AWP.seq ?_
        first | (have hlc : lowB c = c := low_same (by omega); rw [← hlc]) | skip
        refine AWP.region ?_
        refine AOps.step rfl rfl rfl (AOp.moveD rfl rfl) ?_
        refine AOps.step rfl rfl rfl (AOp.geq rfl rfl rfl) ?_
        refine AOps.step rfl rfl rfl (AOp.moveD rfl rfl) ?_
        refine AOps.split 30 rfl (fun g18 => ?_) (fun g18 => ?_)
        · replace g18 := of_decide_eq_true g18
          refine AOps.step ⟨30, rfl, .inl ⟨_, rfl, rfl⟩⟩ rfl rfl (AOp.moveD rfl rfl) ?_
          refine AOps.step ⟨30, rfl, .inl ⟨_, rfl, rfl⟩⟩ rfl rfl (AOp.leq rfl rfl rfl) ?_
          refine AOps.step rfl rfl rfl (AOp.pickT rfl rfl rfl) ?_
          refine AOps.step rfl rfl rfl (AOp.moveD rfl rfl) ?_
          refine AOps.split 34 rfl (fun g19 => ?_) (fun g19 => ?_)
          · replace g19 := of_decide_eq_true g19
            refine AOps.pass ⟨34, rfl, .inl ⟨_, rfl, rfl⟩⟩ rfl rfl ?_
            refine AOps.pass ⟨34, rfl, .inl ⟨_, rfl, rfl⟩⟩ rfl rfl ?_
            refine AOps.pass ⟨34, rfl, .inl ⟨_, rfl, rfl⟩⟩ rfl rfl ?_
            refine AOps.pass ⟨37, rfl, .inr ⟨rfl, rfl⟩⟩ rfl rfl ?_
            refine AOps.pass ⟨37, rfl, .inr ⟨rfl, rfl⟩⟩ rfl rfl ?_
            refine AOps.pass ⟨34, rfl, .inl ⟨_, rfl, rfl⟩⟩ rfl rfl ?_
            refine AOps.step rfl rfl rfl (AOp.pickT rfl rfl rfl) ?_
            refine AOps.step rfl rfl rfl (AOp.assignD rfl rfl) ?_
            refine AOps.nil ?_
            refine AWP.cond rfl (fun _ => ?_) (fun h => nomatch h)
            refine AWP.region ?_
            refine AOps.step rfl rfl rfl (AOp.moveO rfl rfl) ?_
            refine AOps.step rfl rfl rfl (AOp.moveD rfl rfl) ?_
            refine AOps.step rfl rfl rfl (AOp.buildSlice rfl et_36 (.cons rfl rfl rfl .nil) rfl (by decide)) ?_
            -- append 45
            refine AOps.append rfl rfl rfl rfl et_36 rfl (.head _) rfl (by simp [D.parts]) (by simp; omega) (by simp; omega) ?_
            refine AOps.step rfl rfl rfl (AOp.assignO rfl rfl) ?_
            refine AOps.nil ?_
            refine AWP.region ?_
            refine AOps.step rfl rfl rfl (AOp.add64 rfl rfl rfl (by omega) (by omega)) ?_
            refine AOps.step rfl rfl rfl (AOp.moveD rfl rfl) ?_
            refine AOps.nil ?_
            refine ⟨k + 1, (by omega), (by dsimp only; omega), Sub.less ⟨(SLe.of_eq rfl), SLe.refl _, SLe.refl _, SLe.refl _, SLe.refl _, trivial⟩ (row_same (by first | (rw [hpn, step_aln (aln_iff.2 (by omega)), List.map_append]; rfl) | (rw [hpn, step_no (fun h => by have := aln_iff.1 h; omega) HNO]) | (rw [hpn, step_sp (fun h => by have := aln_iff.1 h; omega) hlp (u8_n32 HSP), List.map_append]; rfl)))⟩
          · replace g19 := of_decide_eq_false g19
            refine AOps.step ⟨34, rfl, .inl ⟨_, rfl, rfl⟩⟩ rfl rfl (AOp.moveD rfl rfl) ?_
            refine AOps.step ⟨34, rfl, .inl ⟨_, rfl, rfl⟩⟩ rfl rfl (AOp.geq rfl rfl rfl) ?_
            refine AOps.step ⟨34, rfl, .inl ⟨_, rfl, rfl⟩⟩ rfl rfl (AOp.moveD rfl rfl) ?_
            refine AOps.split 37 rfl (fun g20 => ?_) (fun g20 => ?_)
            · replace g20 := of_decide_eq_true g20
              refine AOps.step ⟨37, rfl, .inl ⟨_, rfl, rfl⟩⟩ rfl rfl (AOp.moveD rfl rfl) ?_
              refine AOps.step ⟨37, rfl, .inl ⟨_, rfl, rfl⟩⟩ rfl rfl (AOp.leq rfl rfl rfl) ?_
              refine AOps.step ⟨34, rfl, .inl ⟨_, rfl, rfl⟩⟩ rfl rfl (AOp.pickT rfl rfl rfl) ?_
              refine AOps.step rfl rfl rfl (AOp.pickF rfl rfl rfl) ?_
              refine AOps.step rfl rfl rfl (AOp.assignD rfl rfl) ?_
              refine AOps.nil ?_
              refine AWP.cond rfl (fun h21 => ?_) (fun h21 => ?_)
              · replace h21 := of_decide_eq_true h21
                refine AWP.region ?_
                refine AOps.step rfl rfl rfl (AOp.moveO rfl rfl) ?_
                refine AOps.step rfl rfl rfl (AOp.moveD rfl rfl) ?_
                refine AOps.step rfl rfl rfl (AOp.buildSlice rfl et_36 (.cons rfl rfl rfl .nil) rfl (by decide)) ?_
                -- append 45
                refine AOps.append rfl rfl rfl rfl et_36 rfl (.head _) rfl (by simp [D.parts]) (by simp; omega) (by simp; omega) ?_
                refine AOps.step rfl rfl rfl (AOp.assignO rfl rfl) ?_
                refine AOps.nil ?_
                refine AWP.region ?_
                refine AOps.step rfl rfl rfl (AOp.add64 rfl rfl rfl (by omega) (by omega)) ?_
                refine AOps.step rfl rfl rfl (AOp.moveD rfl rfl) ?_
                refine AOps.nil ?_
                refine ⟨k + 1, (by omega), (by dsimp only; omega), Sub.less ⟨(SLe.of_eq rfl), SLe.refl _, SLe.refl _, SLe.refl _, SLe.refl _, trivial⟩ (row_same (by first | (rw [hpn, step_aln (aln_iff.2 (by omega)), List.map_append]; rfl) | (rw [hpn, step_no (fun h => by have := aln_iff.1 h; omega) HNO]) | (rw [hpn, step_sp (fun h => by have := aln_iff.1 h; omega) hlp (u8_n32 HSP), List.map_append]; rfl)))⟩
              · replace h21 := of_decide_eq_false h21
                refine AWP.seq ?_
                refine AWP.region ?_
                refine AOps.step rfl rfl rfl (AOp.moveO rfl rfl) ?_
                refine AOps.step rfl rfl rfl (AOp.lenOwn rfl et_36.ht rfl (.head _)) ?_
                refine AOps.step rfl rfl rfl (AOp.gtr rfl rfl rfl) ?_
                refine AOps.step rfl rfl rfl (AOp.moveD rfl rfl) ?_
                refine AOps.split 50 rfl (fun g22 => ?_) (fun g22 => ?_)
                · replace g22 := of_decide_eq_true g22
                  rw [List.length_map] at g22
                  have hlp : 0 < (pTo s k).length := by omega
                  refine AOps.step ⟨50, rfl, .inl ⟨_, rfl, rfl⟩⟩ rfl rfl (AOp.moveO rfl rfl) ?_
                  refine AOps.step ⟨50, rfl, .inl ⟨_, rfl, rfl⟩⟩ rfl rfl (AOp.moveO rfl rfl) ?_
                  refine AOps.step ⟨50, rfl, .inl ⟨_, rfl, rfl⟩⟩ rfl rfl (AOp.lenOwn rfl et_36.ht rfl (.head _)) ?_
                  refine AOps.step ⟨50, rfl, .inl ⟨_, rfl, rfl⟩⟩ rfl rfl (AOp.sub64 rfl rfl rfl (by rw [List.length_map]; omega) (by rw [List.length_map]; omega)) ?_
                  refine AOps.step ⟨50, rfl, .inl ⟨_, rfl, rfl⟩⟩ rfl rfl (AOp.indexOwn rfl et_36 rfl rfl (.head _) ((pTo s k).length - 1) (by rw [List.length_map]; omega) (by rw [List.length_map]; omega)) ?_
                  refine AOps.step ⟨50, rfl, .inl ⟨_, rfl, rfl⟩⟩ rfl rfl (AOp.loadRow rfl sc_5 rfl (.head _) ((pTo s k).length - 1) 0 rfl (at_list (by omega)) rfl) ?_
                  refine AOps.step ⟨50, rfl, .inl ⟨_, rfl, rfl⟩⟩ rfl rfl (AOp.neq rfl rfl rfl) ?_
                  refine AOps.step rfl rfl rfl (AOp.pickT rfl rfl rfl) ?_
                  refine AOps.step rfl rfl rfl (AOp.assignD rfl rfl) ?_
                  refine AOps.nil ?_
                  refine AWP.cond rfl (fun h23 => ?_) (fun h23 => ?_)
                  · replace h23 := of_decide_eq_true h23
                    have HSP := h23
                    refine AWP.region ?_
                    refine AOps.step rfl rfl rfl (AOp.moveO rfl rfl) ?_
                    refine AOps.step rfl rfl rfl (AOp.buildSlice rfl et_36 (.cons rfl rfl rfl .nil) rfl (by decide)) ?_
                    -- append 61
                    refine AOps.append rfl rfl rfl rfl et_36 rfl (.head _) rfl (by simp [D.parts]) (by simp; omega) (by simp; omega) ?_
                    refine AOps.step rfl rfl rfl (AOp.assignO rfl rfl) ?_
                    refine AOps.nil ?_
                    refine AWP.region ?_
                    refine AOps.step rfl rfl rfl (AOp.add64 rfl rfl rfl (by omega) (by omega)) ?_
                    refine AOps.step rfl rfl rfl (AOp.moveD rfl rfl) ?_
                    refine AOps.nil ?_
                    refine ⟨k + 1, (by omega), (by dsimp only; omega), Sub.less ⟨(SLe.of_eq rfl), SLe.refl _, SLe.refl _, SLe.refl _, SLe.refl _, trivial⟩ (row_same (by first | (rw [hpn, step_aln (aln_iff.2 (by omega)), List.map_append]; rfl) | (rw [hpn, step_no (fun h => by have := aln_iff.1 h; omega) HNO]) | (rw [hpn, step_sp (fun h => by have := aln_iff.1 h; omega) hlp (u8_n32 HSP), List.map_append]; rfl)))⟩
                  · replace h23 := of_decide_eq_false h23
                    have HNO : pTo s k = [] ∨ (pTo s k).getLast? = some 32 := .inr (last_32 hlp (u8_32 (Decidable.not_not.1 h23)))
                    refine AWP.skip ?_
                    refine AWP.region ?_
                    refine AOps.step rfl rfl rfl (AOp.add64 rfl rfl rfl (by omega) (by omega)) ?_
                    refine AOps.step rfl rfl rfl (AOp.moveD rfl rfl) ?_
                    refine AOps.nil ?_
                    refine ⟨k + 1, (by omega), (by dsimp only; omega), Sub.less ⟨(SLe.of_eq rfl), SLe.refl _, SLe.refl _, SLe.refl _, SLe.refl _, trivial⟩ (row_same (by first | (rw [hpn, step_aln (aln_iff.2 (by omega)), List.map_append]; rfl) | (rw [hpn, step_no (fun h => by have := aln_iff.1 h; omega) HNO]) | (rw [hpn, step_sp (fun h => by have := aln_iff.1 h; omega) hlp (u8_n32 HSP), List.map_append]; rfl)))⟩
                · replace g22 := of_decide_eq_false g22
                  rw [List.length_map] at g22
                  have HNO : pTo s k = [] ∨ (pTo s k).getLast? = some 32 := .inl (List.eq_nil_of_length_eq_zero (by omega))
                  refine AOps.pass ⟨50, rfl, .inl ⟨_, rfl, rfl⟩⟩ rfl rfl ?_
                  refine AOps.pass ⟨50, rfl, .inl ⟨_, rfl, rfl⟩⟩ rfl rfl ?_
                  refine AOps.pass ⟨50, rfl, .inl ⟨_, rfl, rfl⟩⟩ rfl rfl ?_
                  refine AOps.pass ⟨50, rfl, .inl ⟨_, rfl, rfl⟩⟩ rfl rfl ?_
                  refine AOps.pass ⟨50, rfl, .inl ⟨_, rfl, rfl⟩⟩ rfl rfl ?_
                  refine AOps.pass ⟨50, rfl, .inl ⟨_, rfl, rfl⟩⟩ rfl rfl ?_
                  refine AOps.pass ⟨50, rfl, .inl ⟨_, rfl, rfl⟩⟩ rfl rfl ?_
                  refine AOps.step rfl rfl rfl (AOp.pickF rfl rfl rfl) ?_
                  refine AOps.step rfl rfl rfl (AOp.assignD rfl rfl) ?_
                  refine AOps.nil ?_
                  refine AWP.cond rfl (fun h => nomatch h) (fun _ => ?_)
                  refine AWP.skip ?_
                  refine AWP.region ?_
                  refine AOps.step rfl rfl rfl (AOp.add64 rfl rfl rfl (by omega) (by omega)) ?_
                  refine AOps.step rfl rfl rfl (AOp.moveD rfl rfl) ?_
                  refine AOps.nil ?_
                  refine ⟨k + 1, (by omega), (by dsimp only; omega), Sub.less ⟨(SLe.of_eq rfl), SLe.refl _, SLe.refl _, SLe.refl _, SLe.refl _, trivial⟩ (row_same (by first | (rw [hpn, step_aln (aln_iff.2 (by omega)), List.map_append]; rfl) | (rw [hpn, step_no (fun h => by have := aln_iff.1 h; omega) HNO]) | (rw [hpn, step_sp (fun h => by have := aln_iff.1 h; omega) hlp (u8_n32 HSP), List.map_append]; rfl)))⟩
            · replace g20 := of_decide_eq_false g20
              refine AOps.pass ⟨37, rfl, .inl ⟨_, rfl, rfl⟩⟩ rfl rfl ?_
              refine AOps.pass ⟨37, rfl, .inl ⟨_, rfl, rfl⟩⟩ rfl rfl ?_
              refine AOps.step ⟨34, rfl, .inl ⟨_, rfl, rfl⟩⟩ rfl rfl (AOp.pickF rfl rfl rfl) ?_
              refine AOps.step rfl rfl rfl (AOp.pickF rfl rfl rfl) ?_
              refine AOps.step rfl rfl rfl (AOp.assignD rfl rfl) ?_
              refine AOps.nil ?_
              refine AWP.cond rfl (fun h => nomatch h) (fun _ => ?_)
              refine AWP.seq ?_
              refine AWP.region ?_
              refine AOps.step rfl rfl rfl (AOp.moveO rfl rfl) ?_
              refine AOps.step rfl rfl rfl (AOp.lenOwn rfl et_36.ht rfl (.head _)) ?_
              refine AOps.step rfl rfl rfl (AOp.gtr rfl rfl rfl) ?_
              refine AOps.step rfl rfl rfl (AOp.moveD rfl rfl) ?_
              refine AOps.split 50 rfl (fun g24 => ?_) (fun g24 => ?_)
              · replace g24 := of_decide_eq_true g24
                rw [List.length_map] at g24
                have hlp : 0 < (pTo s k).length := by omega
                refine AOps.step ⟨50, rfl, .inl ⟨_, rfl, rfl⟩⟩ rfl rfl (AOp.moveO rfl rfl) ?_
                refine AOps.step ⟨50, rfl, .inl ⟨_, rfl, rfl⟩⟩ rfl rfl (AOp.moveO rfl rfl) ?_
                refine AOps.step ⟨50, rfl, .inl ⟨_, rfl, rfl⟩⟩ rfl rfl (AOp.lenOwn rfl et_36.ht rfl (.head _)) ?_
                refine AOps.step ⟨50, rfl, .inl ⟨_, rfl, rfl⟩⟩ rfl rfl (AOp.sub64 rfl rfl rfl (by rw [List.length_map]; omega) (by rw [List.length_map]; omega)) ?_
                refine AOps.step ⟨50, rfl, .inl ⟨_, rfl, rfl⟩⟩ rfl rfl (AOp.indexOwn rfl et_36 rfl rfl (.head _) ((pTo s k).length - 1) (by rw [List.length_map]; omega) (by rw [List.length_map]; omega)) ?_
                refine AOps.step ⟨50, rfl, .inl ⟨_, rfl, rfl⟩⟩ rfl rfl (AOp.loadRow rfl sc_5 rfl (.head _) ((pTo s k).length - 1) 0 rfl (at_list (by omega)) rfl) ?_
                refine AOps.step ⟨50, rfl, .inl ⟨_, rfl, rfl⟩⟩ rfl rfl (AOp.neq rfl rfl rfl) ?_
                refine AOps.step rfl rfl rfl (AOp.pickT rfl rfl rfl) ?_
                refine AOps.step rfl rfl rfl (AOp.assignD rfl rfl) ?_
                refine AOps.nil ?_
                refine AWP.cond rfl (fun h25 => ?_) (fun h25 => ?_)
                · replace h25 := of_decide_eq_true h25
                  have HSP := h25
                  refine AWP.region ?_
                  refine AOps.step rfl rfl rfl (AOp.moveO rfl rfl) ?_
                  refine AOps.step rfl rfl rfl (AOp.buildSlice rfl et_36 (.cons rfl rfl rfl .nil) rfl (by decide)) ?_
                  -- append 61
                  refine AOps.append rfl rfl rfl rfl et_36 rfl (.head _) rfl (by simp [D.parts]) (by simp; omega) (by simp; omega) ?_
                  refine AOps.step rfl rfl rfl (AOp.assignO rfl rfl) ?_
                  refine AOps.nil ?_
                  refine AWP.region ?_
                  refine AOps.step rfl rfl rfl (AOp.add64 rfl rfl rfl (by omega) (by omega)) ?_
                  refine AOps.step rfl rfl rfl (AOp.moveD rfl rfl) ?_
                  refine AOps.nil ?_
                  refine ⟨k + 1, (by omega), (by dsimp only; omega), Sub.less ⟨(SLe.of_eq rfl), SLe.refl _, SLe.refl _, SLe.refl _, SLe.refl _, trivial⟩ (row_same (by first | (rw [hpn, step_aln (aln_iff.2 (by omega)), List.map_append]; rfl) | (rw [hpn, step_no (fun h => by have := aln_iff.1 h; omega) HNO]) | (rw [hpn, step_sp (fun h => by have := aln_iff.1 h; omega) hlp (u8_n32 HSP), List.map_append]; rfl)))⟩
                · replace h25 := of_decide_eq_false h25
                  have HNO : pTo s k = [] ∨ (pTo s k).getLast? = some 32 := .inr (last_32 hlp (u8_32 (Decidable.not_not.1 h25)))
                  refine AWP.skip ?_
                  refine AWP.region ?_
                  refine AOps.step rfl rfl rfl (AOp.add64 rfl rfl rfl (by omega) (by omega)) ?_
                  refine AOps.step rfl rfl rfl (AOp.moveD rfl rfl) ?_
                  refine AOps.nil ?_
                  refine ⟨k + 1, (by omega), (by dsimp only; omega), Sub.less ⟨(SLe.of_eq rfl), SLe.refl _, SLe.refl _, SLe.refl _, SLe.refl _, trivial⟩ (row_same (by first | (rw [hpn, step_aln (aln_iff.2 (by omega)), List.map_append]; rfl) | (rw [hpn, step_no (fun h => by have := aln_iff.1 h; omega) HNO]) | (rw [hpn, step_sp (fun h => by have := aln_iff.1 h; omega) hlp (u8_n32 HSP), List.map_append]; rfl)))⟩
              · replace g24 := of_decide_eq_false g24
                rw [List.length_map] at g24
                have HNO : pTo s k = [] ∨ (pTo s k).getLast? = some 32 := .inl (List.eq_nil_of_length_eq_zero (by omega))
                refine AOps.pass ⟨50, rfl, .inl ⟨_, rfl, rfl⟩⟩ rfl rfl ?_
                refine AOps.pass ⟨50, rfl, .inl ⟨_, rfl, rfl⟩⟩ rfl rfl ?_
                refine AOps.pass ⟨50, rfl, .inl ⟨_, rfl, rfl⟩⟩ rfl rfl ?_
                refine AOps.pass ⟨50, rfl, .inl ⟨_, rfl, rfl⟩⟩ rfl rfl ?_
                refine AOps.pass ⟨50, rfl, .inl ⟨_, rfl, rfl⟩⟩ rfl rfl ?_
                refine AOps.pass ⟨50, rfl, .inl ⟨_, rfl, rfl⟩⟩ rfl rfl ?_
                refine AOps.pass ⟨50, rfl, .inl ⟨_, rfl, rfl⟩⟩ rfl rfl ?_
                refine AOps.step rfl rfl rfl (AOp.pickF rfl rfl rfl) ?_
                refine AOps.step rfl rfl rfl (AOp.assignD rfl rfl) ?_
                refine AOps.nil ?_
                refine AWP.cond rfl (fun h => nomatch h) (fun _ => ?_)
                refine AWP.skip ?_
                refine AWP.region ?_
                refine AOps.step rfl rfl rfl (AOp.add64 rfl rfl rfl (by omega) (by omega)) ?_
                refine AOps.step rfl rfl rfl (AOp.moveD rfl rfl) ?_
                refine AOps.nil ?_
                refine ⟨k + 1, (by omega), (by dsimp only; omega), Sub.less ⟨(SLe.of_eq rfl), SLe.refl _, SLe.refl _, SLe.refl _, SLe.refl _, trivial⟩ (row_same (by first | (rw [hpn, step_aln (aln_iff.2 (by omega)), List.map_append]; rfl) | (rw [hpn, step_no (fun h => by have := aln_iff.1 h; omega) HNO]) | (rw [hpn, step_sp (fun h => by have := aln_iff.1 h; omega) hlp (u8_n32 HSP), List.map_append]; rfl)))⟩
        · replace g18 := of_decide_eq_false g18
          refine AOps.pass ⟨30, rfl, .inl ⟨_, rfl, rfl⟩⟩ rfl rfl ?_
          refine AOps.pass ⟨30, rfl, .inl ⟨_, rfl, rfl⟩⟩ rfl rfl ?_
          refine AOps.step rfl rfl rfl (AOp.pickF rfl rfl rfl) ?_
          refine AOps.step rfl rfl rfl (AOp.moveD rfl rfl) ?_
          refine AOps.step ⟨34, rfl, .inl ⟨_, rfl, rfl⟩⟩ rfl rfl (AOp.moveD rfl rfl) ?_
          refine AOps.step ⟨34, rfl, .inl ⟨_, rfl, rfl⟩⟩ rfl rfl (AOp.geq rfl rfl rfl) ?_
          refine AOps.step ⟨34, rfl, .inl ⟨_, rfl, rfl⟩⟩ rfl rfl (AOp.moveD rfl rfl) ?_
          refine AOps.split 37 rfl (fun g26 => ?_) (fun g26 => ?_)
          · replace g26 := of_decide_eq_true g26
            refine AOps.step ⟨37, rfl, .inl ⟨_, rfl, rfl⟩⟩ rfl rfl (AOp.moveD rfl rfl) ?_
            refine AOps.step ⟨37, rfl, .inl ⟨_, rfl, rfl⟩⟩ rfl rfl (AOp.leq rfl rfl rfl) ?_
            refine AOps.step ⟨34, rfl, .inl ⟨_, rfl, rfl⟩⟩ rfl rfl (AOp.pickT rfl rfl rfl) ?_
            refine AOps.step rfl rfl rfl (AOp.pickF rfl rfl rfl) ?_
            refine AOps.step rfl rfl rfl (AOp.assignD rfl rfl) ?_
            refine AOps.nil ?_
            refine AWP.cond rfl (fun h27 => ?_) (fun h27 => ?_)
            · replace h27 := of_decide_eq_true h27
              refine AWP.region ?_
              refine AOps.step rfl rfl rfl (AOp.moveO rfl rfl) ?_
              refine AOps.step rfl rfl rfl (AOp.moveD rfl rfl) ?_
              refine AOps.step rfl rfl rfl (AOp.buildSlice rfl et_36 (.cons rfl rfl rfl .nil) rfl (by decide)) ?_
              -- append 45
              refine AOps.append rfl rfl rfl rfl et_36 rfl (.head _) rfl (by simp [D.parts]) (by simp; omega) (by simp; omega) ?_
              refine AOps.step rfl rfl rfl (AOp.assignO rfl rfl) ?_
              refine AOps.nil ?_
              refine AWP.region ?_
              refine AOps.step rfl rfl rfl (AOp.add64 rfl rfl rfl (by omega) (by omega)) ?_
              refine AOps.step rfl rfl rfl (AOp.moveD rfl rfl) ?_
              refine AOps.nil ?_
              refine ⟨k + 1, (by omega), (by dsimp only; omega), Sub.less ⟨(SLe.of_eq rfl), SLe.refl _, SLe.refl _, SLe.refl _, SLe.refl _, trivial⟩ (row_same (by first | (rw [hpn, step_aln (aln_iff.2 (by omega)), List.map_append]; rfl) | (rw [hpn, step_no (fun h => by have := aln_iff.1 h; omega) HNO]) | (rw [hpn, step_sp (fun h => by have := aln_iff.1 h; omega) hlp (u8_n32 HSP), List.map_append]; rfl)))⟩
            · replace h27 := of_decide_eq_false h27
              refine AWP.seq ?_
              refine AWP.region ?_
              refine AOps.step rfl rfl rfl (AOp.moveO rfl rfl) ?_
              refine AOps.step rfl rfl rfl (AOp.lenOwn rfl et_36.ht rfl (.head _)) ?_
              refine AOps.step rfl rfl rfl (AOp.gtr rfl rfl rfl) ?_
              refine AOps.step rfl rfl rfl (AOp.moveD rfl rfl) ?_
              refine AOps.split 50 rfl (fun g28 => ?_) (fun g28 => ?_)
              · replace g28 := of_decide_eq_true g28
                rw [List.length_map] at g28
                have hlp : 0 < (pTo s k).length := by omega
                refine AOps.step ⟨50, rfl, .inl ⟨_, rfl, rfl⟩⟩ rfl rfl (AOp.moveO rfl rfl) ?_
                refine AOps.step ⟨50, rfl, .inl ⟨_, rfl, rfl⟩⟩ rfl rfl (AOp.moveO rfl rfl) ?_
                refine AOps.step ⟨50, rfl, .inl ⟨_, rfl, rfl⟩⟩ rfl rfl (AOp.lenOwn rfl et_36.ht rfl (.head _)) ?_
                refine AOps.step ⟨50, rfl, .inl ⟨_, rfl, rfl⟩⟩ rfl rfl (AOp.sub64 rfl rfl rfl (by rw [List.length_map]; omega) (by rw [List.length_map]; omega)) ?_
                refine AOps.step ⟨50, rfl, .inl ⟨_, rfl, rfl⟩⟩ rfl rfl (AOp.indexOwn rfl et_36 rfl rfl (.head _) ((pTo s k).length - 1) (by rw [List.length_map]; omega) (by rw [List.length_map]; omega)) ?_
                refine AOps.step ⟨50, rfl, .inl ⟨_, rfl, rfl⟩⟩ rfl rfl (AOp.loadRow rfl sc_5 rfl (.head _) ((pTo s k).length - 1) 0 rfl (at_list (by omega)) rfl) ?_
                refine AOps.step ⟨50, rfl, .inl ⟨_, rfl, rfl⟩⟩ rfl rfl (AOp.neq rfl rfl rfl) ?_
                refine AOps.step rfl rfl rfl (AOp.pickT rfl rfl rfl) ?_
                refine AOps.step rfl rfl rfl (AOp.assignD rfl rfl) ?_
                refine AOps.nil ?_
                refine AWP.cond rfl (fun h29 => ?_) (fun h29 => ?_)
                · replace h29 := of_decide_eq_true h29
                  have HSP := h29
                  refine AWP.region ?_
                  refine AOps.step rfl rfl rfl (AOp.moveO rfl rfl) ?_
                  refine AOps.step rfl rfl rfl (AOp.buildSlice rfl et_36 (.cons rfl rfl rfl .nil) rfl (by decide)) ?_
                  -- append 61
                  refine AOps.append rfl rfl rfl rfl et_36 rfl (.head _) rfl (by simp [D.parts]) (by simp; omega) (by simp; omega) ?_
                  refine AOps.step rfl rfl rfl (AOp.assignO rfl rfl) ?_
                  refine AOps.nil ?_
                  refine AWP.region ?_
                  refine AOps.step rfl rfl rfl (AOp.add64 rfl rfl rfl (by omega) (by omega)) ?_
                  refine AOps.step rfl rfl rfl (AOp.moveD rfl rfl) ?_
                  refine AOps.nil ?_
                  refine ⟨k + 1, (by omega), (by dsimp only; omega), Sub.less ⟨(SLe.of_eq rfl), SLe.refl _, SLe.refl _, SLe.refl _, SLe.refl _, trivial⟩ (row_same (by first | (rw [hpn, step_aln (aln_iff.2 (by omega)), List.map_append]; rfl) | (rw [hpn, step_no (fun h => by have := aln_iff.1 h; omega) HNO]) | (rw [hpn, step_sp (fun h => by have := aln_iff.1 h; omega) hlp (u8_n32 HSP), List.map_append]; rfl)))⟩
                · replace h29 := of_decide_eq_false h29
                  have HNO : pTo s k = [] ∨ (pTo s k).getLast? = some 32 := .inr (last_32 hlp (u8_32 (Decidable.not_not.1 h29)))
                  refine AWP.skip ?_
                  refine AWP.region ?_
                  refine AOps.step rfl rfl rfl (AOp.add64 rfl rfl rfl (by omega) (by omega)) ?_
                  refine AOps.step rfl rfl rfl (AOp.moveD rfl rfl) ?_
                  refine AOps.nil ?_
                  refine ⟨k + 1, (by omega), (by dsimp only; omega), Sub.less ⟨(SLe.of_eq rfl), SLe.refl _, SLe.refl _, SLe.refl _, SLe.refl _, trivial⟩ (row_same (by first | (rw [hpn, step_aln (aln_iff.2 (by omega)), List.map_append]; rfl) | (rw [hpn, step_no (fun h => by have := aln_iff.1 h; omega) HNO]) | (rw [hpn, step_sp (fun h => by have := aln_iff.1 h; omega) hlp (u8_n32 HSP), List.map_append]; rfl)))⟩
              · replace g28 := of_decide_eq_false g28
                rw [List.length_map] at g28
                have HNO : pTo s k = [] ∨ (pTo s k).getLast? = some 32 := .inl (List.eq_nil_of_length_eq_zero (by omega))
                refine AOps.pass ⟨50, rfl, .inl ⟨_, rfl, rfl⟩⟩ rfl rfl ?_
                refine AOps.pass ⟨50, rfl, .inl ⟨_, rfl, rfl⟩⟩ rfl rfl ?_
                refine AOps.pass ⟨50, rfl, .inl ⟨_, rfl, rfl⟩⟩ rfl rfl ?_
                refine AOps.pass ⟨50, rfl, .inl ⟨_, rfl, rfl⟩⟩ rfl rfl ?_
                refine AOps.pass ⟨50, rfl, .inl ⟨_, rfl, rfl⟩⟩ rfl rfl ?_
                refine AOps.pass ⟨50, rfl, .inl ⟨_, rfl, rfl⟩⟩ rfl rfl ?_
                refine AOps.pass ⟨50, rfl, .inl ⟨_, rfl, rfl⟩⟩ rfl rfl ?_
                refine AOps.step rfl rfl rfl (AOp.pickF rfl rfl rfl) ?_
                refine AOps.step rfl rfl rfl (AOp.assignD rfl rfl) ?_
                refine AOps.nil ?_
                refine AWP.cond rfl (fun h => nomatch h) (fun _ => ?_)
                refine AWP.skip ?_
                refine AWP.region ?_
                refine AOps.step rfl rfl rfl (AOp.add64 rfl rfl rfl (by omega) (by omega)) ?_
                refine AOps.step rfl rfl rfl (AOp.moveD rfl rfl) ?_
                refine AOps.nil ?_
                refine ⟨k + 1, (by omega), (by dsimp only; omega), Sub.less ⟨(SLe.of_eq rfl), SLe.refl _, SLe.refl _, SLe.refl _, SLe.refl _, trivial⟩ (row_same (by first | (rw [hpn, step_aln (aln_iff.2 (by omega)), List.map_append]; rfl) | (rw [hpn, step_no (fun h => by have := aln_iff.1 h; omega) HNO]) | (rw [hpn, step_sp (fun h => by have := aln_iff.1 h; omega) hlp (u8_n32 HSP), List.map_append]; rfl)))⟩
          · replace g26 := of_decide_eq_false g26
            refine AOps.pass ⟨37, rfl, .inl ⟨_, rfl, rfl⟩⟩ rfl rfl ?_
            refine AOps.pass ⟨37, rfl, .inl ⟨_, rfl, rfl⟩⟩ rfl rfl ?_
            refine AOps.step ⟨34, rfl, .inl ⟨_, rfl, rfl⟩⟩ rfl rfl (AOp.pickF rfl rfl rfl) ?_
            refine AOps.step rfl rfl rfl (AOp.pickF rfl rfl rfl) ?_
            refine AOps.step rfl rfl rfl (AOp.assignD rfl rfl) ?_
            refine AOps.nil ?_
            refine AWP.cond rfl (fun h => nomatch h) (fun _ => ?_)
            refine AWP.seq ?_
            refine AWP.region ?_
            refine AOps.step rfl rfl rfl (AOp.moveO rfl rfl) ?_
            refine AOps.step rfl rfl rfl (AOp.lenOwn rfl et_36.ht rfl (.head _)) ?_
            refine AOps.step rfl rfl rfl (AOp.gtr rfl rfl rfl) ?_
            refine AOps.step rfl rfl rfl (AOp.moveD rfl rfl) ?_
            refine AOps.split 50 rfl (fun g30 => ?_) (fun g30 => ?_)
            · replace g30 := of_decide_eq_true g30
              rw [List.length_map] at g30
              have hlp : 0 < (pTo s k).length := by omega
              refine AOps.step ⟨50, rfl, .inl ⟨_, rfl, rfl⟩⟩ rfl rfl (AOp.moveO rfl rfl) ?_
              refine AOps.step ⟨50, rfl, .inl ⟨_, rfl, rfl⟩⟩ rfl rfl (AOp.moveO rfl rfl) ?_
              refine AOps.step ⟨50, rfl, .inl ⟨_, rfl, rfl⟩⟩ rfl rfl (AOp.lenOwn rfl et_36.ht rfl (.head _)) ?_
              refine AOps.step ⟨50, rfl, .inl ⟨_, rfl, rfl⟩⟩ rfl rfl (AOp.sub64 rfl rfl rfl (by rw [List.length_map]; omega) (by rw [List.length_map]; omega)) ?_
              refine AOps.step ⟨50, rfl, .inl ⟨_, rfl, rfl⟩⟩ rfl rfl (AOp.indexOwn rfl et_36 rfl rfl (.head _) ((pTo s k).length - 1) (by rw [List.length_map]; omega) (by rw [List.length_map]; omega)) ?_
              refine AOps.step ⟨50, rfl, .inl ⟨_, rfl, rfl⟩⟩ rfl rfl (AOp.loadRow rfl sc_5 rfl (.head _) ((pTo s k).length - 1) 0 rfl (at_list (by omega)) rfl) ?_
              refine AOps.step ⟨50, rfl, .inl ⟨_, rfl, rfl⟩⟩ rfl rfl (AOp.neq rfl rfl rfl) ?_
              refine AOps.step rfl rfl rfl (AOp.pickT rfl rfl rfl) ?_
              refine AOps.step rfl rfl rfl (AOp.assignD rfl rfl) ?_
              refine AOps.nil ?_
              refine AWP.cond rfl (fun h31 => ?_) (fun h31 => ?_)
              · replace h31 := of_decide_eq_true h31
                have HSP := h31
                refine AWP.region ?_
                refine AOps.step rfl rfl rfl (AOp.moveO rfl rfl) ?_
                refine AOps.step rfl rfl rfl (AOp.buildSlice rfl et_36 (.cons rfl rfl rfl .nil) rfl (by decide)) ?_
                -- append 61
                refine AOps.append rfl rfl rfl rfl et_36 rfl (.head _) rfl (by simp [D.parts]) (by simp; omega) (by simp; omega) ?_
                refine AOps.step rfl rfl rfl (AOp.assignO rfl rfl) ?_
                refine AOps.nil ?_
                refine AWP.region ?_
                refine AOps.step rfl rfl rfl (AOp.add64 rfl rfl rfl (by omega) (by omega)) ?_
                refine AOps.step rfl rfl rfl (AOp.moveD rfl rfl) ?_
                refine AOps.nil ?_
                refine ⟨k + 1, (by omega), (by dsimp only; omega), Sub.less ⟨(SLe.of_eq rfl), SLe.refl _, SLe.refl _, SLe.refl _, SLe.refl _, trivial⟩ (row_same (by first | (rw [hpn, step_aln (aln_iff.2 (by omega)), List.map_append]; rfl) | (rw [hpn, step_no (fun h => by have := aln_iff.1 h; omega) HNO]) | (rw [hpn, step_sp (fun h => by have := aln_iff.1 h; omega) hlp (u8_n32 HSP), List.map_append]; rfl)))⟩
              · replace h31 := of_decide_eq_false h31
                have HNO : pTo s k = [] ∨ (pTo s k).getLast? = some 32 := .inr (last_32 hlp (u8_32 (Decidable.not_not.1 h31)))
                refine AWP.skip ?_
                refine AWP.region ?_
                refine AOps.step rfl rfl rfl (AOp.add64 rfl rfl rfl (by omega) (by omega)) ?_
                refine AOps.step rfl rfl rfl (AOp.moveD rfl rfl) ?_
                refine AOps.nil ?_
                refine ⟨k + 1, (by omega), (by dsimp only; omega), Sub.less ⟨(SLe.of_eq rfl), SLe.refl _, SLe.refl _, SLe.refl _, SLe.refl _, trivial⟩ (row_same (by first | (rw [hpn, step_aln (aln_iff.2 (by omega)), List.map_append]; rfl) | (rw [hpn, step_no (fun h => by have := aln_iff.1 h; omega) HNO]) | (rw [hpn, step_sp (fun h => by have := aln_iff.1 h; omega) hlp (u8_n32 HSP), List.map_append]; rfl)))⟩
            · replace g30 := of_decide_eq_false g30
              rw [List.length_map] at g30
              have HNO : pTo s k = [] ∨ (pTo s k).getLast? = some 32 := .inl (List.eq_nil_of_length_eq_zero (by omega))
              refine AOps.pass ⟨50, rfl, .inl ⟨_, rfl, rfl⟩⟩ rfl rfl ?_
              refine AOps.pass ⟨50, rfl, .inl ⟨_, rfl, rfl⟩⟩ rfl rfl ?_
              refine AOps.pass ⟨50, rfl, .inl ⟨_, rfl, rfl⟩⟩ rfl rfl ?_
              refine AOps.pass ⟨50, rfl, .inl ⟨_, rfl, rfl⟩⟩ rfl rfl ?_
              refine AOps.pass ⟨50, rfl, .inl ⟨_, rfl, rfl⟩⟩ rfl rfl ?_
              refine AOps.pass ⟨50, rfl, .inl ⟨_, rfl, rfl⟩⟩ rfl rfl ?_
              refine AOps.pass ⟨50, rfl, .inl ⟨_, rfl, rfl⟩⟩ rfl rfl ?_
              refine AOps.step rfl rfl rfl (AOp.pickF rfl rfl rfl) ?_
              refine AOps.step rfl rfl rfl (AOp.assignD rfl rfl) ?_
              refine AOps.nil ?_
              refine AWP.cond rfl (fun h => nomatch h) (fun _ => ?_)
              refine AWP.skip ?_
              refine AWP.region ?_
              refine AOps.step rfl rfl rfl (AOp.add64 rfl rfl rfl (by omega) (by omega)) ?_
              refine AOps.step rfl rfl rfl (AOp.moveD rfl rfl) ?_
              refine AOps.nil ?_
              refine ⟨k + 1, (by omega), (by dsimp only; omega), Sub.less ⟨(SLe.of_eq rfl), SLe.refl _, SLe.refl _, SLe.refl _, SLe.refl _, trivial⟩ (row_same (by first | (rw [hpn, step_aln (aln_iff.2 (by omega)), List.map_append]; rfl) | (rw [hpn, step_no (fun h => by have := aln_iff.1 h; omega) HNO]) | (rw [hpn, step_sp (fun h => by have := aln_iff.1 h; omega) hlp (u8_n32 HSP), List.map_append]; rfl)))⟩
    · replace g2 := of_decide_eq_false g2
      refine AOps.pass ⟨21, rfl, .inl ⟨_, rfl, rfl⟩⟩ rfl rfl ?_
      refine AOps.pass ⟨21, rfl, .inl ⟨_, rfl, rfl⟩⟩ rfl rfl ?_
      refine AOps.step rfl rfl rfl (AOp.pickF rfl rfl rfl) ?_
      refine AOps.nil ?_
      refine AWP.cond rfl (fun h => nomatch h) (fun _ => ?_)
      refine AWP.skip ?_
      refine AWP.block ?_
      refine AWP.seq ?_
      first | (have hlc : lowB c = c := low_same (by omega); rw [← hlc]) | skip
      refine AWP.region ?_
      refine AOps.step rfl rfl rfl (AOp.moveD rfl rfl) ?_
      refine AOps.step rfl rfl rfl (AOp.geq rfl rfl rfl) ?_
      refine AOps.step rfl rfl rfl (AOp.moveD rfl rfl) ?_
      refine AOps.split 30 rfl (fun g32 => ?_) (fun g32 => ?_)
      · replace g32 := of_decide_eq_true g32
        refine AOps.step ⟨30, rfl, .inl ⟨_, rfl, rfl⟩⟩ rfl rfl (AOp.moveD rfl rfl) ?_
        refine AOps.step ⟨30, rfl, .inl ⟨_, rfl, rfl⟩⟩ rfl rfl (AOp.leq rfl rfl rfl) ?_
        refine AOps.step rfl rfl rfl (AOp.pickT rfl rfl rfl) ?_
        refine AOps.step rfl rfl rfl (AOp.moveD rfl rfl) ?_
        refine AOps.split 34 rfl (fun g33 => ?_) (fun g33 => ?_)
        · replace g33 := of_decide_eq_true g33
          refine AOps.pass ⟨34, rfl, .inl ⟨_, rfl, rfl⟩⟩ rfl rfl ?_
          refine AOps.pass ⟨34, rfl, .inl ⟨_, rfl, rfl⟩⟩ rfl rfl ?_
          refine AOps.pass ⟨34, rfl, .inl ⟨_, rfl, rfl⟩⟩ rfl rfl ?_
          refine AOps.pass ⟨37, rfl, .inr ⟨rfl, rfl⟩⟩ rfl rfl ?_
          refine AOps.pass ⟨37, rfl, .inr ⟨rfl, rfl⟩⟩ rfl rfl ?_
          refine AOps.pass ⟨34, rfl, .inl ⟨_, rfl, rfl⟩⟩ rfl rfl ?_
          refine AOps.step rfl rfl rfl (AOp.pickT rfl rfl rfl) ?_
          refine AOps.step rfl rfl rfl (AOp.assignD rfl rfl) ?_
          refine AOps.nil ?_
          refine AWP.cond rfl (fun _ => ?_) (fun h => nomatch h)
          refine AWP.region ?_
          refine AOps.step rfl rfl rfl (AOp.moveO rfl rfl) ?_
          refine AOps.step rfl rfl rfl (AOp.moveD rfl rfl) ?_
          refine AOps.step rfl rfl rfl (AOp.buildSlice rfl et_36 (.cons rfl rfl rfl .nil) rfl (by decide)) ?_
          -- append 45
          refine AOps.append rfl rfl rfl rfl et_36 rfl (.head _) rfl (by simp [D.parts]) (by simp; omega) (by simp; omega) ?_
          refine AOps.step rfl rfl rfl (AOp.assignO rfl rfl) ?_
          refine AOps.nil ?_
          refine AWP.region ?_
          refine AOps.step rfl rfl rfl (AOp.add64 rfl rfl rfl (by omega) (by omega)) ?_
          refine AOps.step rfl rfl rfl (AOp.moveD rfl rfl) ?_
          refine AOps.nil ?_
          refine ⟨k + 1, (by omega), (by dsimp only; omega), Sub.less ⟨(SLe.of_eq rfl), SLe.refl _, SLe.refl _, SLe.refl _, SLe.refl _, trivial⟩ (row_same (by first | (rw [hpn, step_aln (aln_iff.2 (by omega)), List.map_append]; rfl) | (rw [hpn, step_no (fun h => by have := aln_iff.1 h; omega) HNO]) | (rw [hpn, step_sp (fun h => by have := aln_iff.1 h; omega) hlp (u8_n32 HSP), List.map_append]; rfl)))⟩
        · replace g33 := of_decide_eq_false g33
          refine AOps.step ⟨34, rfl, .inl ⟨_, rfl, rfl⟩⟩ rfl rfl (AOp.moveD rfl rfl) ?_
          refine AOps.step ⟨34, rfl, .inl ⟨_, rfl, rfl⟩⟩ rfl rfl (AOp.geq rfl rfl rfl) ?_
          refine AOps.step ⟨34, rfl, .inl ⟨_, rfl, rfl⟩⟩ rfl rfl (AOp.moveD rfl rfl) ?_
          refine AOps.split 37 rfl (fun g34 => ?_) (fun g34 => ?_)
          · replace g34 := of_decide_eq_true g34
            refine AOps.step ⟨37, rfl, .inl ⟨_, rfl, rfl⟩⟩ rfl rfl (AOp.moveD rfl rfl) ?_
            refine AOps.step ⟨37, rfl, .inl ⟨_, rfl, rfl⟩⟩ rfl rfl (AOp.leq rfl rfl rfl) ?_
            refine AOps.step ⟨34, rfl, .inl ⟨_, rfl, rfl⟩⟩ rfl rfl (AOp.pickT rfl rfl rfl) ?_
            refine AOps.step rfl rfl rfl (AOp.pickF rfl rfl rfl) ?_
            refine AOps.step rfl rfl rfl (AOp.assignD rfl rfl) ?_
            refine AOps.nil ?_
            refine AWP.cond rfl (fun h35 => ?_) (fun h35 => ?_)
            · replace h35 := of_decide_eq_true h35
              refine AWP.region ?_
              refine AOps.step rfl rfl rfl (AOp.moveO rfl rfl) ?_
              refine AOps.step rfl rfl rfl (AOp.moveD rfl rfl) ?_
              refine AOps.step rfl rfl rfl (AOp.buildSlice rfl et_36 (.cons rfl rfl rfl .nil) rfl (by decide)) ?_
              -- append 45
              refine AOps.append rfl rfl rfl rfl et_36 rfl (.head _) rfl (by simp [D.parts]) (by simp; omega) (by simp; omega) ?_
              refine AOps.step rfl rfl rfl (AOp.assignO rfl rfl) ?_
              refine AOps.nil ?_
              refine AWP.region ?_
              refine AOps.step rfl rfl rfl (AOp.add64 rfl rfl rfl (by omega) (by omega)) ?_
              refine AOps.step rfl rfl rfl (AOp.moveD rfl rfl) ?_
              refine AOps.nil ?_
              refine ⟨k + 1, (by omega), (by dsimp only; omega), Sub.less ⟨(SLe.of_eq rfl), SLe.refl _, SLe.refl _, SLe.refl _, SLe.refl _, trivial⟩ (row_same (by first | (rw [hpn, step_aln (aln_iff.2 (by omega)), List.map_append]; rfl) | (rw [hpn, step_no (fun h => by have := aln_iff.1 h; omega) HNO]) | (rw [hpn, step_sp (fun h => by have := aln_iff.1 h; omega) hlp (u8_n32 HSP), List.map_append]; rfl)))⟩
            · replace h35 := of_decide_eq_false h35
              refine AWP.seq ?_
              refine AWP.region ?_
              refine AOps.step rfl rfl rfl (AOp.moveO rfl rfl) ?_
              refine AOps.step rfl rfl rfl (AOp.lenOwn rfl et_36.ht rfl (.head _)) ?_
              refine AOps.step rfl rfl rfl (AOp.gtr rfl rfl rfl) ?_
              refine AOps.step rfl rfl rfl (AOp.moveD rfl rfl) ?_
              refine AOps.split 50 rfl (fun g36 => ?_) (fun g36 => ?_)
              · replace g36 := of_decide_eq_true g36
                rw [List.length_map] at g36
                have hlp : 0 < (pTo s k).length := by omega
                refine AOps.step ⟨50, rfl, .inl ⟨_, rfl, rfl⟩⟩ rfl rfl (AOp.moveO rfl rfl) ?_
                refine AOps.step ⟨50, rfl, .inl ⟨_, rfl, rfl⟩⟩ rfl rfl (AOp.moveO rfl rfl) ?_
                refine AOps.step ⟨50, rfl, .inl ⟨_, rfl, rfl⟩⟩ rfl rfl (AOp.lenOwn rfl et_36.ht rfl (.head _)) ?_
                refine AOps.step ⟨50, rfl, .inl ⟨_, rfl, rfl⟩⟩ rfl rfl (AOp.sub64 rfl rfl rfl (by rw [List.length_map]; omega) (by rw [List.length_map]; omega)) ?_
                refine AOps.step ⟨50, rfl, .inl ⟨_, rfl, rfl⟩⟩ rfl rfl (AOp.indexOwn rfl et_36 rfl rfl (.head _) ((pTo s k).length - 1) (by rw [List.length_map]; omega) (by rw [List.length_map]; omega)) ?_
                refine AOps.step ⟨50, rfl, .inl ⟨_, rfl, rfl⟩⟩ rfl rfl (AOp.loadRow rfl sc_5 rfl (.head _) ((pTo s k).length - 1) 0 rfl (at_list (by omega)) rfl) ?_
                refine AOps.step ⟨50, rfl, .inl ⟨_, rfl, rfl⟩⟩ rfl rfl (AOp.neq rfl rfl rfl) ?_
                refine AOps.step rfl rfl rfl (AOp.pickT rfl rfl rfl) ?_
                refine AOps.step rfl rfl rfl (AOp.assignD rfl rfl) ?_
                refine AOps.nil ?_
                refine AWP.cond rfl (fun h37 => ?_) (fun h37 => ?_)
                · replace h37 := of_decide_eq_true h37
                  have HSP := h37
                  refine AWP.region ?_
                  refine AOps.step rfl rfl rfl (AOp.moveO rfl rfl) ?_
                  refine AOps.step rfl rfl rfl (AOp.buildSlice rfl et_36 (.cons rfl rfl rfl .nil) rfl (by decide)) ?_
                  -- append 61
                  refine AOps.append rfl rfl rfl rfl et_36 rfl (.head _) rfl (by simp [D.parts]) (by simp; omega) (by simp; omega) ?_
                  refine AOps.step rfl rfl rfl (AOp.assignO rfl rfl) ?_
                  refine AOps.nil ?_
                  refine AWP.region ?_
                  refine AOps.step rfl rfl rfl (AOp.add64 rfl rfl rfl (by omega) (by omega)) ?_
                  refine AOps.step rfl rfl rfl (AOp.moveD rfl rfl) ?_
                  refine AOps.nil ?_
                  refine ⟨k + 1, (by omega), (by dsimp only; omega), Sub.less ⟨(SLe.of_eq rfl), SLe.refl _, SLe.refl _, SLe.refl _, SLe.refl _, trivial⟩ (row_same (by first | (rw [hpn, step_aln (aln_iff.2 (by omega)), List.map_append]; rfl) | (rw [hpn, step_no (fun h => by have := aln_iff.1 h; omega) HNO]) | (rw [hpn, step_sp (fun h => by have := aln_iff.1 h; omega) hlp (u8_n32 HSP), List.map_append]; rfl)))⟩
                · replace h37 := of_decide_eq_false h37
                  have HNO : pTo s k = [] ∨ (pTo s k).getLast? = some 32 := .inr (last_32 hlp (u8_32 (Decidable.not_not.1 h37)))
                  refine AWP.skip ?_
                  refine AWP.region ?_
                  refine AOps.step rfl rfl rfl (AOp.add64 rfl rfl rfl (by omega) (by omega)) ?_
                  refine AOps.step rfl rfl rfl (AOp.moveD rfl rfl) ?_
                  refine AOps.nil ?_
                  refine ⟨k + 1, (by omega), (by dsimp only; omega), Sub.less ⟨(SLe.of_eq rfl), SLe.refl _, SLe.refl _, SLe.refl _, SLe.refl _, trivial⟩ (row_same (by first | (rw [hpn, step_aln (aln_iff.2 (by omega)), List.map_append]; rfl) | (rw [hpn, step_no (fun h => by have := aln_iff.1 h; omega) HNO]) | (rw [hpn, step_sp (fun h => by have := aln_iff.1 h; omega) hlp (u8_n32 HSP), List.map_append]; rfl)))⟩
              · replace g36 := of_decide_eq_false g36
                rw [List.length_map] at g36
                have HNO : pTo s k = [] ∨ (pTo s k).getLast? = some 32 := .inl (List.eq_nil_of_length_eq_zero (by omega))
                refine AOps.pass ⟨50, rfl, .inl ⟨_, rfl, rfl⟩⟩ rfl rfl ?_
                refine AOps.pass ⟨50, rfl, .inl ⟨_, rfl, rfl⟩⟩ rfl rfl ?_
                refine AOps.pass ⟨50, rfl, .inl ⟨_, rfl, rfl⟩⟩ rfl rfl ?_
                refine AOps.pass ⟨50, rfl, .inl ⟨_, rfl, rfl⟩⟩ rfl rfl ?_
                refine AOps.pass ⟨50, rfl, .inl ⟨_, rfl, rfl⟩⟩ rfl rfl ?_
                refine AOps.pass ⟨50, rfl, .inl ⟨_, rfl, rfl⟩⟩ rfl rfl ?_
                refine AOps.pass ⟨50, rfl, .inl ⟨_, rfl, rfl⟩⟩ rfl rfl ?_
                refine AOps.step rfl rfl rfl (AOp.pickF rfl rfl rfl) ?_
                refine AOps.step rfl rfl rfl (AOp.assignD rfl rfl) ?_
                refine AOps.nil ?_
                refine AWP.cond rfl (fun h => nomatch h) (fun _ => ?_)
                refine AWP.skip ?_
                refine AWP.region ?_
                refine AOps.step rfl rfl rfl (AOp.add64 rfl rfl rfl (by omega) (by omega)) ?_
                refine AOps.step rfl rfl rfl (AOp.moveD rfl rfl) ?_
                refine AOps.nil ?_
                refine ⟨k + 1, (by omega), (by dsimp only; omega), Sub.less ⟨(SLe.of_eq rfl), SLe.refl _, SLe.refl _, SLe.refl _, SLe.refl _, trivial⟩ (row_same (by first | (rw [hpn, step_aln (aln_iff.2 (by omega)), List.map_append]; rfl) | (rw [hpn, step_no (fun h => by have := aln_iff.1 h; omega) HNO]) | (rw [hpn, step_sp (fun h => by have := aln_iff.1 h; omega) hlp (u8_n32 HSP), List.map_append]; rfl)))⟩
          · replace g34 := of_decide_eq_false g34
            refine AOps.pass ⟨37, rfl, .inl ⟨_, rfl, rfl⟩⟩ rfl rfl ?_
            refine AOps.pass ⟨37, rfl, .inl ⟨_, rfl, rfl⟩⟩ rfl rfl ?_
            refine AOps.step ⟨34, rfl, .inl ⟨_, rfl, rfl⟩⟩ rfl rfl (AOp.pickF rfl rfl rfl) ?_
            refine AOps.step rfl rfl rfl (AOp.pickF rfl rfl rfl) ?_
            refine AOps.step rfl rfl rfl (AOp.assignD rfl rfl) ?_
            refine AOps.nil ?_
            refine AWP.cond rfl (fun h => nomatch h) (fun _ => ?_)
            refine AWP.seq ?_
            refine AWP.region ?_
            refine AOps.step rfl rfl rfl (AOp.moveO rfl rfl) ?_
            refine AOps.step rfl rfl rfl (AOp.lenOwn rfl et_36.ht rfl (.head _)) ?_
            refine AOps.step rfl rfl rfl (AOp.gtr rfl rfl rfl) ?_
            refine AOps.step rfl rfl rfl (AOp.moveD rfl rfl) ?_
            refine AOps.split 50 rfl (fun g38 => ?_) (fun g38 => ?_)
            · replace g38 := of_decide_eq_true g38
              rw [List.length_map] at g38
              have hlp : 0 < (pTo s k).length := by omega
              refine AOps.step ⟨50, rfl, .inl ⟨_, rfl, rfl⟩⟩ rfl rfl (AOp.moveO rfl rfl) ?_
              refine AOps.step ⟨50, rfl, .inl ⟨_, rfl, rfl⟩⟩ rfl rfl (AOp.moveO rfl rfl) ?_
              refine AOps.step ⟨50, rfl, .inl ⟨_, rfl, rfl⟩⟩ rfl rfl (AOp.lenOwn rfl et_36.ht rfl (.head _)) ?_
              refine AOps.step ⟨50, rfl, .inl ⟨_, rfl, rfl⟩⟩ rfl rfl (AOp.sub64 rfl rfl rfl (by rw [List.length_map]; omega) (by rw [List.length_map]; omega)) ?_
              refine AOps.step ⟨50, rfl, .inl ⟨_, rfl, rfl⟩⟩ rfl rfl (AOp.indexOwn rfl et_36 rfl rfl (.head _) ((pTo s k).length - 1) (by rw [List.length_map]; omega) (by rw [List.length_map]; omega)) ?_
              refine AOps.step ⟨50, rfl, .inl ⟨_, rfl, rfl⟩⟩ rfl rfl (AOp.loadRow rfl sc_5 rfl (.head _) ((pTo s k).length - 1) 0 rfl (at_list (by omega)) rfl) ?_
              refine AOps.step ⟨50, rfl, .inl ⟨_, rfl, rfl⟩⟩ rfl rfl (AOp.neq rfl rfl rfl) ?_
              refine AOps.step rfl rfl rfl (AOp.pickT rfl rfl rfl) ?_
              refine AOps.step rfl rfl rfl (AOp.assignD rfl rfl) ?_
              refine AOps.nil ?_
              refine AWP.cond rfl (fun h39 => ?_) (fun h39 => ?_)
              · replace h39 := of_decide_eq_true h39
                have HSP := h39
                refine AWP.region ?_
                refine AOps.step rfl rfl rfl (AOp.moveO rfl rfl) ?_
                refine AOps.step rfl rfl rfl (AOp.buildSlice rfl et_36 (.cons rfl rfl rfl .nil) rfl (by decide)) ?_
                -- append 61
                refine AOps.append rfl rfl rfl rfl et_36 rfl (.head _) rfl (by simp [D.parts]) (by simp; omega) (by simp; omega) ?_
                refine AOps.step rfl rfl rfl (AOp.assignO rfl rfl) ?_
                refine AOps.nil ?_
                refine AWP.region ?_
                refine AOps.step rfl rfl rfl (AOp.add64 rfl rfl rfl (by omega) (by omega)) ?_
                refine AOps.step rfl rfl rfl (AOp.moveD rfl rfl) ?_
                refine AOps.nil ?_
                refine ⟨k + 1, (by omega), (by dsimp only; omega), Sub.less ⟨(SLe.of_eq rfl), SLe.refl _, SLe.refl _, SLe.refl _, SLe.refl _, trivial⟩ (row_same (by first | (rw [hpn, step_aln (aln_iff.2 (by omega)), List.map_append]; rfl) | (rw [hpn, step_no (fun h => by have := aln_iff.1 h; omega) HNO]) | (rw [hpn, step_sp (fun h => by have := aln_iff.1 h; omega) hlp (u8_n32 HSP), List.map_append]; rfl)))⟩
              · replace h39 := of_decide_eq_false h39
                have HNO : pTo s k = [] ∨ (pTo s k).getLast? = some 32 := .inr (last_32 hlp (u8_32 (Decidable.not_not.1 h39)))
                refine AWP.skip ?_
                refine AWP.region ?_
                refine AOps.step rfl rfl rfl (AOp.add64 rfl rfl rfl (by omega) (by omega)) ?_
                refine AOps.step rfl rfl rfl (AOp.moveD rfl rfl) ?_
                refine AOps.nil ?_
                refine ⟨k + 1, (by omega), (by dsimp only; omega), Sub.less ⟨(SLe.of_eq rfl), SLe.refl _, SLe.refl _, SLe.refl _, SLe.refl _, trivial⟩ (row_same (by first | (rw [hpn, step_aln (aln_iff.2 (by omega)), List.map_append]; rfl) | (rw [hpn, step_no (fun h => by have := aln_iff.1 h; omega) HNO]) | (rw [hpn, step_sp (fun h => by have := aln_iff.1 h; omega) hlp (u8_n32 HSP), List.map_append]; rfl)))⟩
            · replace g38 := of_decide_eq_false g38
              rw [List.length_map] at g38
              have HNO : pTo s k = [] ∨ (pTo s k).getLast? = some 32 := .inl (List.eq_nil_of_length_eq_zero (by omega))
              refine AOps.pass ⟨50, rfl, .inl ⟨_, rfl, rfl⟩⟩ rfl rfl ?_
              refine AOps.pass ⟨50, rfl, .inl ⟨_, rfl, rfl⟩⟩ rfl rfl ?_
              refine AOps.pass ⟨50, rfl, .inl ⟨_, rfl, rfl⟩⟩ rfl rfl ?_
              refine AOps.pass ⟨50, rfl, .inl ⟨_, rfl, rfl⟩⟩ rfl rfl ?_
              refine AOps.pass ⟨50, rfl, .inl ⟨_, rfl, rfl⟩⟩ rfl rfl ?_
              refine AOps.pass ⟨50, rfl, .inl ⟨_, rfl, rfl⟩⟩ rfl rfl ?_
              refine AOps.pass ⟨50, rfl, .inl ⟨_, rfl, rfl⟩⟩ rfl rfl ?_
              refine AOps.step rfl rfl rfl (AOp.pickF rfl rfl rfl) ?_
              refine AOps.step rfl rfl rfl (AOp.assignD rfl rfl) ?_
              refine AOps.nil ?_
              refine AWP.cond rfl (fun h => nomatch h) (fun _ => ?_)
              refine AWP.skip ?_
              refine AWP.region ?_
              refine AOps.step rfl rfl rfl (AOp.add64 rfl rfl rfl (by omega) (by omega)) ?_
              refine AOps.step rfl rfl rfl (AOp.moveD rfl rfl) ?_
              refine AOps.nil ?_
              refine ⟨k + 1, (by omega), (by dsimp only; omega), Sub.less ⟨(SLe.of_eq rfl), SLe.refl _, SLe.refl _, SLe.refl _, SLe.refl _, trivial⟩ (row_same (by first | (rw [hpn, step_aln (aln_iff.2 (by omega)), List.map_append]; rfl) | (rw [hpn, step_no (fun h => by have := aln_iff.1 h; omega) HNO]) | (rw [hpn, step_sp (fun h => by have := aln_iff.1 h; omega) hlp (u8_n32 HSP), List.map_append]; rfl)))⟩
      · replace g32 := of_decide_eq_false g32
        refine AOps.pass ⟨30, rfl, .inl ⟨_, rfl, rfl⟩⟩ rfl rfl ?_
        refine AOps.pass ⟨30, rfl, .inl ⟨_, rfl, rfl⟩⟩ rfl rfl ?_
        refine AOps.step rfl rfl rfl (AOp.pickF rfl rfl rfl) ?_
        refine AOps.step rfl rfl rfl (AOp.moveD rfl rfl) ?_
        refine AOps.step ⟨34, rfl, .inl ⟨_, rfl, rfl⟩⟩ rfl rfl (AOp.moveD rfl rfl) ?_
        refine AOps.step ⟨34, rfl, .inl ⟨_, rfl, rfl⟩⟩ rfl rfl (AOp.geq rfl rfl rfl) ?_
        refine AOps.step ⟨34, rfl, .inl ⟨_, rfl, rfl⟩⟩ rfl rfl (AOp.moveD rfl rfl) ?_
        refine AOps.split 37 rfl (fun g40 => ?_) (fun g40 => ?_)
        · replace g40 := of_decide_eq_true g40
          refine AOps.step ⟨37, rfl, .inl ⟨_, rfl, rfl⟩⟩ rfl rfl (AOp.moveD rfl rfl) ?_
          refine AOps.step ⟨37, rfl, .inl ⟨_, rfl, rfl⟩⟩ rfl rfl (AOp.leq rfl rfl rfl) ?_
          refine AOps.step ⟨34, rfl, .inl ⟨_, rfl, rfl⟩⟩ rfl rfl (AOp.pickT rfl rfl rfl) ?_
          refine AOps.step rfl rfl rfl (AOp.pickF rfl rfl rfl) ?_
          refine AOps.step rfl rfl rfl (AOp.assignD rfl rfl) ?_
          refine AOps.nil ?_
          refine AWP.cond rfl (fun h41 => ?_) (fun h41 => ?_)
          · replace h41 := of_decide_eq_true h41
            refine AWP.region ?_
            refine AOps.step rfl rfl rfl (AOp.moveO rfl rfl) ?_
            refine AOps.step rfl rfl rfl (AOp.moveD rfl rfl) ?_
            refine AOps.step rfl rfl rfl (AOp.buildSlice rfl et_36 (.cons rfl rfl rfl .nil) rfl (by decide)) ?_
            -- append 45
            refine AOps.append rfl rfl rfl rfl et_36 rfl (.head _) rfl (by simp [D.parts]) (by simp; omega) (by simp; omega) ?_
            refine AOps.step rfl rfl rfl (AOp.assignO rfl rfl) ?_
            refine AOps.nil ?_
            refine AWP.region ?_
            refine AOps.step rfl rfl rfl (AOp.add64 rfl rfl rfl (by omega) (by omega)) ?_
            refine AOps.step rfl rfl rfl (AOp.moveD rfl rfl) ?_
            refine AOps.nil ?_
            refine ⟨k + 1, (by omega), (by dsimp only; omega), Sub.less ⟨(SLe.of_eq rfl), SLe.refl _, SLe.refl _, SLe.refl _, SLe.refl _, trivial⟩ (row_same (by first | (rw [hpn, step_aln (aln_iff.2 (by omega)), List.map_append]; rfl) | (rw [hpn, step_no (fun h => by have := aln_iff.1 h; omega) HNO]) | (rw [hpn, step_sp (fun h => by have := aln_iff.1 h; omega) hlp (u8_n32 HSP), List.map_append]; rfl)))⟩
          · replace h41 := of_decide_eq_false h41
            refine AWP.seq ?_
            refine AWP.region ?_
            refine AOps.step rfl rfl rfl (AOp.moveO rfl rfl) ?_
            refine AOps.step rfl rfl rfl (AOp.lenOwn rfl et_36.ht rfl (.head _)) ?_
            refine AOps.step rfl rfl rfl (AOp.gtr rfl rfl rfl) ?_
            refine AOps.step rfl rfl rfl (AOp.moveD rfl rfl) ?_
            refine AOps.split 50 rfl (fun g42 => ?_) (fun g42 => ?_)
            · replace g42 := of_decide_eq_true g42
              rw [List.length_map] at g42
              have hlp : 0 < (pTo s k).length := by omega
              refine AOps.step ⟨50, rfl, .inl ⟨_, rfl, rfl⟩⟩ rfl rfl (AOp.moveO rfl rfl) ?_
              refine AOps.step ⟨50, rfl, .inl ⟨_, rfl, rfl⟩⟩ rfl rfl (AOp.moveO rfl rfl) ?_
              refine AOps.step ⟨50, rfl, .inl ⟨_, rfl, rfl⟩⟩ rfl rfl (AOp.lenOwn rfl et_36.ht rfl (.head _)) ?_
              refine AOps.step ⟨50, rfl, .inl ⟨_, rfl, rfl⟩⟩ rfl rfl (AOp.sub64 rfl rfl rfl (by rw [List.length_map]; omega) (by rw [List.length_map]; omega)) ?_
              refine AOps.step ⟨50, rfl, .inl ⟨_, rfl, rfl⟩⟩ rfl rfl (AOp.indexOwn rfl et_36 rfl rfl (.head _) ((pTo s k).length - 1) (by rw [List.length_map]; omega) (by rw [List.length_map]; omega)) ?_
              refine AOps.step ⟨50, rfl, .inl ⟨_, rfl, rfl⟩⟩ rfl rfl (AOp.loadRow rfl sc_5 rfl (.head _) ((pTo s k).length - 1) 0 rfl (at_list (by omega)) rfl) ?_
              refine AOps.step ⟨50, rfl, .inl ⟨_, rfl, rfl⟩⟩ rfl rfl (AOp.neq rfl rfl rfl) ?_
              refine AOps.step rfl rfl rfl (AOp.pickT rfl rfl rfl) ?_
              refine AOps.step rfl rfl rfl (AOp.assignD rfl rfl) ?_
              refine AOps.nil ?_
              refine AWP.cond rfl (fun h43 => ?_) (fun h43 => ?_)
              · replace h43 := of_decide_eq_true h43
                have HSP := h43
                refine AWP.region ?_
                refine AOps.step rfl rfl rfl (AOp.moveO rfl rfl) ?_
                refine AOps.step rfl rfl rfl (AOp.buildSlice rfl et_36 (.cons rfl rfl rfl .nil) rfl (by decide)) ?_
                -- append 61
                refine AOps.append rfl rfl rfl rfl et_36 rfl (.head _) rfl (by simp [D.parts]) (by simp; omega) (by simp; omega) ?_
                refine AOps.step rfl rfl rfl (AOp.assignO rfl rfl) ?_
                refine AOps.nil ?_
                refine AWP.region ?_
                refine AOps.step rfl rfl rfl (AOp.add64 rfl rfl rfl (by omega) (by omega)) ?_
                refine AOps.step rfl rfl rfl (AOp.moveD rfl rfl) ?_
                refine AOps.nil ?_
                refine ⟨k + 1, (by omega), (by dsimp only; omega), Sub.less ⟨(SLe.of_eq rfl), SLe.refl _, SLe.refl _, SLe.refl _, SLe.refl _, trivial⟩ (row_same (by first | (rw [hpn, step_aln (aln_iff.2 (by omega)), List.map_append]; rfl) | (rw [hpn, step_no (fun h => by have := aln_iff.1 h; omega) HNO]) | (rw [hpn, step_sp (fun h => by have := aln_iff.1 h; omega) hlp (u8_n32 HSP), List.map_append]; rfl)))⟩
              · replace h43 := of_decide_eq_false h43
                have HNO : pTo s k = [] ∨ (pTo s k).getLast? = some 32 := .inr (last_32 hlp (u8_32 (Decidable.not_not.1 h43)))
                refine AWP.skip ?_
                refine AWP.region ?_
                refine AOps.step rfl rfl rfl (AOp.add64 rfl rfl rfl (by omega) (by omega)) ?_
                refine AOps.step rfl rfl rfl (AOp.moveD rfl rfl) ?_
                refine AOps.nil ?_
                refine ⟨k + 1, (by omega), (by dsimp only; omega), Sub.less ⟨(SLe.of_eq rfl), SLe.refl _, SLe.refl _, SLe.refl _, SLe.refl _, trivial⟩ (row_same (by first | (rw [hpn, step_aln (aln_iff.2 (by omega)), List.map_append]; rfl) | (rw [hpn, step_no (fun h => by have := aln_iff.1 h; omega) HNO]) | (rw [hpn, step_sp (fun h => by have := aln_iff.1 h; omega) hlp (u8_n32 HSP), List.map_append]; rfl)))⟩
            · replace g42 := of_decide_eq_false g42
              rw [List.length_map] at g42
              have HNO : pTo s k = [] ∨ (pTo s k).getLast? = some 32 := .inl (List.eq_nil_of_length_eq_zero (by omega))
              refine AOps.pass ⟨50, rfl, .inl ⟨_, rfl, rfl⟩⟩ rfl rfl ?_
              refine AOps.pass ⟨50, rfl, .inl ⟨_, rfl, rfl⟩⟩ rfl rfl ?_
              refine AOps.pass ⟨50, rfl, .inl ⟨_, rfl, rfl⟩⟩ rfl rfl ?_
              refine AOps.pass ⟨50, rfl, .inl ⟨_, rfl, rfl⟩⟩ rfl rfl ?_
              refine AOps.pass ⟨50, rfl, .inl ⟨_, rfl, rfl⟩⟩ rfl rfl ?_
              refine AOps.pass ⟨50, rfl, .inl ⟨_, rfl, rfl⟩⟩ rfl rfl ?_
              refine AOps.pass ⟨50, rfl, .inl ⟨_, rfl, rfl⟩⟩ rfl rfl ?_
              refine AOps.step rfl rfl rfl (AOp.pickF rfl rfl rfl) ?_
              refine AOps.step rfl rfl rfl (AOp.assignD rfl rfl) ?_
              refine AOps.nil ?_
              refine AWP.cond rfl (fun h => nomatch h) (fun _ => ?_)
              refine AWP.skip ?_
              refine AWP.region ?_
              refine AOps.step rfl rfl rfl (AOp.add64 rfl rfl rfl (by omega) (by omega)) ?_
              refine AOps.step rfl rfl rfl (AOp.moveD rfl rfl) ?_
              refine AOps.nil ?_
              refine ⟨k + 1, (by omega), (by dsimp only; omega), Sub.less ⟨(SLe.of_eq rfl), SLe.refl _, SLe.refl _, SLe.refl _, SLe.refl _, trivial⟩ (row_same (by first | (rw [hpn, step_aln (aln_iff.2 (by omega)), List.map_append]; rfl) | (rw [hpn, step_no (fun h => by have := aln_iff.1 h; omega) HNO]) | (rw [hpn, step_sp (fun h => by have := aln_iff.1 h; omega) hlp (u8_n32 HSP), List.map_append]; rfl)))⟩
        · replace g40 := of_decide_eq_false g40
          refine AOps.pass ⟨37, rfl, .inl ⟨_, rfl, rfl⟩⟩ rfl rfl ?_
          refine AOps.pass ⟨37, rfl, .inl ⟨_, rfl, rfl⟩⟩ rfl rfl ?_
          refine AOps.step ⟨34, rfl, .inl ⟨_, rfl, rfl⟩⟩ rfl rfl (AOp.pickF rfl rfl rfl) ?_
          refine AOps.step rfl rfl rfl (AOp.pickF rfl rfl rfl) ?_
          refine AOps.step rfl rfl rfl (AOp.assignD rfl rfl) ?_
          refine AOps.nil ?_
          refine AWP.cond rfl (fun h => nomatch h) (fun _ => ?_)
          refine AWP.seq ?_
          refine AWP.region ?_
          refine AOps.step rfl rfl rfl (AOp.moveO rfl rfl) ?_
          refine AOps.step rfl rfl rfl (AOp.lenOwn rfl et_36.ht rfl (.head _)) ?_
          refine AOps.step rfl rfl rfl (AOp.gtr rfl rfl rfl) ?_
          refine AOps.step rfl rfl rfl (AOp.moveD rfl rfl) ?_
          refine AOps.split 50 rfl (fun g44 => ?_) (fun g44 => ?_)
          · replace g44 := of_decide_eq_true g44
            rw [List.length_map] at g44
            have hlp : 0 < (pTo s k).length := by omega
            refine AOps.step ⟨50, rfl, .inl ⟨_, rfl, rfl⟩⟩ rfl rfl (AOp.moveO rfl rfl) ?_
            refine AOps.step ⟨50, rfl, .inl ⟨_, rfl, rfl⟩⟩ rfl rfl (AOp.moveO rfl rfl) ?_
            refine AOps.step ⟨50, rfl, .inl ⟨_, rfl, rfl⟩⟩ rfl rfl (AOp.lenOwn rfl et_36.ht rfl (.head _)) ?_
            refine AOps.step ⟨50, rfl, .inl ⟨_, rfl, rfl⟩⟩ rfl rfl (AOp.sub64 rfl rfl rfl (by rw [List.length_map]; omega) (by rw [List.length_map]; omega)) ?_
            refine AOps.step ⟨50, rfl, .inl ⟨_, rfl, rfl⟩⟩ rfl rfl (AOp.indexOwn rfl et_36 rfl rfl (.head _) ((pTo s k).length - 1) (by rw [List.length_map]; omega) (by rw [List.length_map]; omega)) ?_
            refine AOps.step ⟨50, rfl, .inl ⟨_, rfl, rfl⟩⟩ rfl rfl (AOp.loadRow rfl sc_5 rfl (.head _) ((pTo s k).length - 1) 0 rfl (at_list (by omega)) rfl) ?_
            refine AOps.step ⟨50, rfl, .inl ⟨_, rfl, rfl⟩⟩ rfl rfl (AOp.neq rfl rfl rfl) ?_
            refine AOps.step rfl rfl rfl (AOp.pickT rfl rfl rfl) ?_
            refine AOps.step rfl rfl rfl (AOp.assignD rfl rfl) ?_
            refine AOps.nil ?_
            refine AWP.cond rfl (fun h45 => ?_) (fun h45 => ?_)
            · replace h45 := of_decide_eq_true h45
              have HSP := h45
              refine AWP.region ?_
              refine AOps.step rfl rfl rfl (AOp.moveO rfl rfl) ?_
              refine AOps.step rfl rfl rfl (AOp.buildSlice rfl et_36 (.cons rfl rfl rfl .nil) rfl (by decide)) ?_
              -- append 61
              refine AOps.append rfl rfl rfl rfl et_36 rfl (.head _) rfl (by simp [D.parts]) (by simp; omega) (by simp; omega) ?_
              refine AOps.step rfl rfl rfl (AOp.assignO rfl rfl) ?_
              refine AOps.nil ?_
              refine AWP.region ?_
              refine AOps.step rfl rfl rfl (AOp.add64 rfl rfl rfl (by omega) (by omega)) ?_
              refine AOps.step rfl rfl rfl (AOp.moveD rfl rfl) ?_
              refine AOps.nil ?_
              refine ⟨k + 1, (by omega), (by dsimp only; omega), Sub.less ⟨(SLe.of_eq rfl), SLe.refl _, SLe.refl _, SLe.refl _, SLe.refl _, trivial⟩ (row_same (by first | (rw [hpn, step_aln (aln_iff.2 (by omega)), List.map_append]; rfl) | (rw [hpn, step_no (fun h => by have := aln_iff.1 h; omega) HNO]) | (rw [hpn, step_sp (fun h => by have := aln_iff.1 h; omega) hlp (u8_n32 HSP), List.map_append]; rfl)))⟩
            · replace h45 := of_decide_eq_false h45
              have HNO : pTo s k = [] ∨ (pTo s k).getLast? = some 32 := .inr (last_32 hlp (u8_32 (Decidable.not_not.1 h45)))
              refine AWP.skip ?_
              refine AWP.region ?_
              refine AOps.step rfl rfl rfl (AOp.add64 rfl rfl rfl (by omega) (by omega)) ?_
              refine AOps.step rfl rfl rfl (AOp.moveD rfl rfl) ?_
              refine AOps.nil ?_
              refine ⟨k + 1, (by omega), (by dsimp only; omega), Sub.less ⟨(SLe.of_eq rfl), SLe.refl _, SLe.refl _, SLe.refl _, SLe.refl _, trivial⟩ (row_same (by first | (rw [hpn, step_aln (aln_iff.2 (by omega)), List.map_append]; rfl) | (rw [hpn, step_no (fun h => by have := aln_iff.1 h; omega) HNO]) | (rw [hpn, step_sp (fun h => by have := aln_iff.1 h; omega) hlp (u8_n32 HSP), List.map_append]; rfl)))⟩
          · replace g44 := of_decide_eq_false g44
            rw [List.length_map] at g44
            have HNO : pTo s k = [] ∨ (pTo s k).getLast? = some 32 := .inl (List.eq_nil_of_length_eq_zero (by omega))
            refine AOps.pass ⟨50, rfl, .inl ⟨_, rfl, rfl⟩⟩ rfl rfl ?_
            refine AOps.pass ⟨50, rfl, .inl ⟨_, rfl, rfl⟩⟩ rfl rfl ?_
            refine AOps.pass ⟨50, rfl, .inl ⟨_, rfl, rfl⟩⟩ rfl rfl ?_
            refine AOps.pass ⟨50, rfl, .inl ⟨_, rfl, rfl⟩⟩ rfl rfl ?_
            refine AOps.pass ⟨50, rfl, .inl ⟨_, rfl, rfl⟩⟩ rfl rfl ?_
            refine AOps.pass ⟨50, rfl, .inl ⟨_, rfl, rfl⟩⟩ rfl rfl ?_
            refine AOps.pass ⟨50, rfl, .inl ⟨_, rfl, rfl⟩⟩ rfl rfl ?_
            refine AOps.step rfl rfl rfl (AOp.pickF rfl rfl rfl) ?_
            refine AOps.step rfl rfl rfl (AOp.assignD rfl rfl) ?_
            refine AOps.nil ?_
            refine AWP.cond rfl (fun h => nomatch h) (fun _ => ?_)
            refine AWP.skip ?_
            refine AWP.region ?_
            refine AOps.step rfl rfl rfl (AOp.add64 rfl rfl rfl (by omega) (by omega)) ?_
            refine AOps.step rfl rfl rfl (AOp.moveD rfl rfl) ?_
            refine AOps.nil ?_
            refine ⟨k + 1, (by omega), (by dsimp only; omega), Sub.less ⟨(SLe.of_eq rfl), SLe.refl _, SLe.refl _, SLe.refl _, SLe.refl _, trivial⟩ (row_same (by first | (rw [hpn, step_aln (aln_iff.2 (by omega)), List.map_append]; rfl) | (rw [hpn, step_no (fun h => by have := aln_iff.1 h; omega) HNO]) | (rw [hpn, step_sp (fun h => by have := aln_iff.1 h; omega) hlp (u8_n32 HSP), List.map_append]; rfl)))⟩
  · replace h1 := of_decide_eq_false h1
    obtain rfl : k = s.size := by omega
    rw [pTo_all]
    have hpl := pTo_len s s.size
    rw [pTo_all] at hpl
    refine AWP.exit ?_
    refine AWP.seq ?_
    refine AWP.region ?_
    refine AOps.step rfl rfl rfl (AOp.moveO rfl rfl) ?_
    refine AOps.freeze 63 rfl (.head _) ?_
    refine AOps.step rfl rfl rfl (AOp.bytesStr rfl et_36.ht Tryd.underlying5 st_9 rfl) ?_
    refine AOps.step rfl rfl rfl (AOp.call rfl (.cons (ArgOk.rfl' rfl) (.cons (ArgOk.rfl' rfl) .nil)) (c_trim _ (by omega))) ?_
    refine AOps.step rfl rfl rfl (AOp.assignD rfl rfl) ?_
    refine AOps.nil ?_
    refine AWP.seq ?_
    refine AWP.seq ?_
    refine AWP.region ?_
    refine AOps.step rfl rfl rfl (AOp.buildSlice rfl et_28 (.cons rfl rfl rfl (.cons rfl rfl rfl (.cons rfl rfl rfl .nil))) rfl (by decide)) ?_
    refine AOps.step rfl rfl rfl (AOp.lenSl rfl et_28.ht rfl) ?_
    refine AOps.step rfl rfl rfl (AOp.moveD rfl rfl) ?_
    refine AOps.nil ?_
    refine AWP.block ?_
    refine AWP.loop (G := Nat) (fun i => Env.of [(68, .d (.v (.int .i64 (i : Int)))), (66, .d (.sl (arts.map artD))), (67, .d (.v (.int .i64 3))), (6, .d (.v (.string (bStr (Lib.trimSuffix (s.data.toList.foldl pStep []) [32])))))]) (fun i => []) (fun i => i ≤ 3 ∧ ∀ p ∈ arts.take i, Lib.hasPrefix (Lib.trimSuffix (s.data.toList.foldl pStep []) [32]) p = false) (fun i => 3 - i) 0 ⟨Nat.zero_le _, fun p hp => by simp at hp⟩ (Sub.less ⟨(SLe.of_eq rfl), (SLe.of_eq rfl), (SLe.of_eq rfl), SLe.refl _, trivial⟩ (fun _ h => h)) ?_
    rintro i ⟨hi, h0⟩
    refine AWP.seq ?_
    refine AWP.region ?_
    refine AOps.step rfl rfl rfl (AOp.lss rfl rfl rfl) ?_
    refine AOps.nil ?_
    refine AWP.seq ?_
    refine AWP.cond rfl (fun h46 => ?_) (fun h46 => ?_)
    · replace h46 := of_decide_eq_true h46
      have hlt : i < arts.length := by show i < 3; omega
      refine AWP.skip ?_
      refine AWP.seq ?_
      refine AWP.block ?_
      refine AWP.seq ?_
      refine AWP.region ?_
      refine AOps.step rfl rfl rfl (AOp.indexAddr rfl et_28 rfl rfl i rfl (at_list hlt) rfl) ?_
      refine AOps.step rfl rfl rfl (AOp.load rfl sc_9 rfl) ?_
      refine AOps.step rfl rfl rfl (AOp.assignD rfl rfl) ?_
      refine AOps.nil ?_
      refine AWP.seq ?_
      refine AWP.region ?_
      refine AOps.step rfl rfl rfl (AOp.moveD rfl rfl) ?_
      refine AOps.step rfl rfl rfl (AOp.moveD rfl rfl) ?_
      refine AOps.step rfl rfl rfl (AOp.call rfl (.cons (ArgOk.rfl' rfl) (.cons (ArgOk.rfl' rfl) .nil)) (c_cut _ _)) ?_
      refine AOps.step rfl rfl rfl (AOp.moveD rfl rfl) ?_
      refine AOps.step rfl rfl rfl (AOp.extract rfl rfl rfl) ?_
      refine AOps.step rfl rfl rfl (AOp.extract rfl rfl rfl) ?_
      refine AOps.step rfl rfl rfl (AOp.assignD rfl rfl) ?_
      refine AOps.step rfl rfl rfl (AOp.assignD rfl rfl) ?_
      refine AOps.nil ?_
      refine AWP.seq ?_
      refine AWP.region ?_
      refine AOps.step rfl rfl rfl (AOp.moveD rfl rfl) ?_
      refine AOps.nil ?_
      refine AWP.cond rfl (fun h47 => ?_) (fun h47 => ?_)
      · skip
        have HR : foldS s.data.toList = Lib.trimPrefix (Lib.trimSuffix (s.data.toList.foldl pStep []) [32]) arts[i] := by unfold Lib.trimPrefix; rw [if_pos h47]; exact strip_hit hlt h0 h47
        rw [HR]
        refine AWP.seq ?_
        refine AWP.region ?_
        refine AOps.step rfl rfl rfl (AOp.moveD rfl rfl) ?_
        refine AOps.step rfl rfl rfl (AOp.assignD rfl rfl) ?_
        refine AOps.nil ?_
        refine AWP.ret ?_
        refine ⟨RetD.eq rfl ?_, trivial⟩
        all_goals (rfl)
      · skip
        have HN := art_next hlt h0 h47
        refine AWP.skip ?_
        refine AWP.region ?_
        refine AOps.step rfl rfl rfl (AOp.add64 rfl rfl rfl (by omega) (by omega)) ?_
        refine AOps.step rfl rfl rfl (AOp.moveD rfl rfl) ?_
        refine AOps.nil ?_
        refine ⟨i + 1, ⟨by omega, HN⟩, (by dsimp only; omega), Sub.less ⟨(SLe.of_eq rfl), SLe.refl _, SLe.refl _, SLe.refl _, trivial⟩ (fun _ h => h)⟩
    · replace h46 := of_decide_eq_false h46
      obtain rfl : i = 3 := by omega
      have HR : foldS s.data.toList = Lib.trimSuffix (s.data.toList.foldl pStep []) [32] := strip_none h0
      rw [HR]
      refine AWP.exit ?_
      refine AWP.seq ?_
      refine AWP.region ?_
      refine AOps.step rfl rfl rfl (AOp.moveD rfl rfl) ?_
      refine AOps.step rfl rfl rfl (AOp.assignD rfl rfl) ?_
      refine AOps.nil ?_
      refine AWP.ret ?_
      refine ⟨RetD.eq rfl ?_, trivial⟩
      all_goals (rfl)

end Go.Proofs.YtajghehicmlajaaDoor


namespace Go.Proofs.YtajghehicmlajaaDoor
open Go.RowKit
set_option linter.unusedVariables false

/-! Types. -/
namespace TyH4
theorem et_28 : ElemTy Tryd.prog 28 9 1 16 (.string ⟨#[]⟩) := ⟨by kernel_rfl, by kernel_rfl, by kernel_rfl, by decide⟩
theorem et_36 : ElemTy Tryd.prog 36 5 1 1 (.int .u8 0) := ⟨by kernel_rfl, by kernel_rfl, by kernel_rfl, by decide⟩
theorem sc_9 : Scal Tryd.prog 9 := .of (by kernel_rfl)
theorem st_9 : Tryd.prog.underlying 9 = some .string := by kernel_rfl
end TyH4
open TyH4


def rTo (s : ByteArray) (k : Nat) : List UInt8 := (s.data.toList.take k).map rMap
theorem rTo_next {s : ByteArray} {k : Nat} (h : k < s.data.toList.length) : rTo s (k + 1) = rTo s k ++ [rMap s.data.toList[k]] := by
  unfold rTo
  rw [List.take_add_one, List.getElem?_eq_getElem h, Option.toList_some, List.map_append]; rfl
theorem rTo_len (s : ByteArray) (k : Nat) : (rTo s k).length ≤ k := by unfold rTo; rw [List.length_map, List.length_take]; omega
theorem rTo_all (s : ByteArray) : rTo s s.size = s.data.toList.map rMap := by unfold rTo; rw [Lib.size_eq, List.take_length]
theorem r_aln {c : UInt8} (h : alnB (lowB c) = true) : rMap c = lowB c := if_pos h
theorem r_sp {c : UInt8} (h : ¬ alnB (lowB c) = true) : rMap c = 32 := if_neg h
theorem low_up_nat : ∀ n : Fin 256, 65 ≤ n.val ∧ n.val ≤ 90 → (lowB (UInt8.ofNat n.val)).toNat = n.val + 32 := by decide +kernel
theorem low_up {c : UInt8} (h : 65 ≤ c.toNat ∧ c.toNat ≤ 90) : (lowB c).toNat = c.toNat + 32 := by
  have := low_up_nat ⟨c.toNat, c.toNat_lt⟩ h
  simp only [UInt8.ofNat_toNat] at this
  exact this
theorem rMap_ascii (c : UInt8) : (rMap c).toNat < 128 := by
  unfold rMap
  split
  · rename_i h
    have := aln_iff.1 h
    omega
  · decide
theorem ascii_all (l : List UInt8) : ∀ b ∈ l.map rMap, b.toNat < 128 := fun b hb => by
  obtain ⟨c, _, rfl⟩ := List.mem_map.1 hb
  exact rMap_ascii c
theorem cnt_le : ∀ (l : List UInt8) (ws : Bool), Lib.cntF ws l ≤ l.length
  | [], _ => Nat.le_refl _
  | b :: l, ws => by have := cnt_le l (Lib.isSp b); unfold Lib.cntF; simp only [List.length_cons]; split <;> omega
theorem fields_le (l : List UInt8) : (Lib.fields l).length ≤ l.length := by rw [Lib.fields_length]; exact cnt_le _ _
theorem trim_le (l p : List UInt8) : (Lib.trimSuffix l p).length ≤ l.length := by
  unfold Lib.trimSuffix
  split
  · rw [List.length_take]; omega
  · exact Nat.le_refl _
theorem joinF_le (s : ByteArray) : (Lib.join (Lib.fields (s.data.toList.map rMap)) [32]).length ≤ s.size := by
  rw [← fold_eq]
  have h1 := trim_le (s.data.toList.foldl pStep []) [32]
  have h2 := pTo_len s s.size
  rw [pTo_all] at h2
  omega
theorem pre_len {l p : List UInt8} (h : Lib.hasPrefix l p = true) : p.length ≤ l.length := by
  unfold Lib.hasPrefix at h
  exact (List.isPrefixOf_iff_prefix.1 h).length_le
theorem slice_hit (l p : List UInt8) : (bStr l).extract (((bStr p).size : Nat) : Int).toNat (bStr l).size = bStr (l.drop p.length) := by rw [Int.toNat_natCast, bStr_size p, bStr_drop]


set_option maxRecDepth 100000 in
set_option maxHeartbeats 1000000 in
theorem c_rFold (s : ByteArray) (hs : s.size ≤ 1048576) : ACallT Tryd.prog TabT 7 [.v (.string s)] (.v (.string (bStr (foldS s.data.toList)))) := by
  refine acall_ofT (n := 72) (ds' := [.v (.string (bStr (foldS s.data.toList)))]) Tryd.func7 rfl (by kernel_rfl) rfl [2] rfl rfl ?_
  intro B w0 F0 hT
  have hsz := Lib.size_eq s
  refine AWP.seq ?_
  refine AWP.region ?_
  refine AOps.step rfl rfl rfl (AOp.assignD rfl rfl) ?_
  refine AOps.nil ?_
  refine AWP.seq ?_
  refine AWP.region ?_
  refine AOps.step rfl rfl rfl (AOp.assignD rfl rfl) ?_
  refine AOps.nil ?_
  refine AWP.seq ?_
  refine AWP.seq ?_
  refine AWP.region ?_
  refine AOps.step rfl rfl rfl (AOp.moveD rfl rfl) ?_
  refine AOps.step rfl rfl rfl (AOp.lenStr rfl st_9 rfl) ?_
  refine AOps.step rfl rfl rfl (AOp.moveD rfl rfl) ?_
  refine AOps.nil ?_
  refine AWP.block ?_
  refine AWP.adopt 3 1 5 1 rfl rfl ?_
  refine AWP.loop (G := Nat) (fun k => Env.of [(11, .d (.v (.int .i64 (k : Int)))), (9, .d (.v (.string s))), (10, .d (.v (.int .i64 (s.size : Int)))), (0, .d (.v (.string s))), (3, .own 1)]) (fun k => [(1, .row 5 1 ((rTo s k).map u8D))]) (fun k => k ≤ s.size) (fun k => s.size - k) 0 (Nat.zero_le _) (Sub.less ⟨(SLe.of_eq rfl), SLe.refl _, SLe.refl _, SLe.refl _, SLe.refl _, trivial⟩ (row_same rfl)) ?_
  intro k hk
  refine AWP.seq ?_
  refine AWP.region ?_
  refine AOps.step rfl rfl rfl (AOp.lss rfl rfl rfl) ?_
  refine AOps.nil ?_
  refine AWP.seq ?_
  refine AWP.cond rfl (fun h1 => ?_) (fun h1 => ?_)
  · replace h1 := of_decide_eq_true h1
    have hlt : k < s.data.toList.length := by omega
    have hc := List.getElem?_eq_getElem hlt
    have hpl := rTo_len s k
    have hpn := rTo_next hlt
    generalize s.data.toList[k] = c at hc hpn
    refine AWP.skip ?_
    refine AWP.seq ?_
    refine AWP.block ?_
    refine AWP.seq ?_
    refine AWP.region ?_
    refine AOps.step rfl rfl rfl (AOp.moveD rfl rfl) ?_
    refine AOps.step rfl rfl rfl (AOp.assignD rfl rfl) ?_
    refine AOps.nil ?_
    refine AWP.seq ?_
    refine AWP.region ?_
    refine AOps.step rfl rfl rfl (AOp.moveD rfl rfl) ?_
    refine AOps.step rfl rfl rfl (AOp.moveD rfl rfl) ?_
    refine AOps.step rfl rfl rfl (AOp.indexStr rfl st_9 rfl rfl k rfl hc) ?_
    refine AOps.step rfl rfl rfl (AOp.assignD rfl rfl) ?_
    refine AOps.nil ?_
    refine AWP.block ?_
    refine AWP.seq ?_
    refine AWP.region ?_
    refine AOps.step rfl rfl rfl (AOp.moveD rfl rfl) ?_
    refine AOps.step rfl rfl rfl (AOp.geq rfl rfl rfl) ?_
    refine AOps.step rfl rfl rfl (AOp.moveD rfl rfl) ?_
    refine AOps.split 23 rfl (fun g2 => ?_) (fun g2 => ?_)
    · replace g2 := of_decide_eq_true g2
      refine AOps.step ⟨23, rfl, .inl ⟨_, rfl, rfl⟩⟩ rfl rfl (AOp.moveD rfl rfl) ?_
      refine AOps.step ⟨23, rfl, .inl ⟨_, rfl, rfl⟩⟩ rfl rfl (AOp.leq rfl rfl rfl) ?_
      refine AOps.step rfl rfl rfl (AOp.pickT rfl rfl rfl) ?_
      refine AOps.step rfl rfl rfl (AOp.assignD rfl rfl) ?_
      refine AOps.nil ?_
      refine AWP.cond rfl (fun h3 => ?_) (fun h3 => ?_)
      · replace h3 := of_decide_eq_true h3
        refine AWP.region ?_
        refine AOps.step rfl rfl rfl (AOp.moveO rfl rfl) ?_
        refine AOps.step rfl rfl rfl (AOp.moveD rfl rfl) ?_
        refine AOps.step rfl rfl rfl (AOp.sub rfl rfl rfl) ?_
        refine AOps.step rfl rfl rfl (AOp.add rfl rfl rfl) ?_
        rw [low_wrap2 (by omega)]
        have hup := low_up (c := c) (by omega)
        refine AOps.step rfl rfl rfl (AOp.buildSlice rfl et_36 (.cons rfl rfl rfl .nil) rfl (by decide)) ?_
        -- append 32
        refine AOps.append rfl rfl rfl rfl et_36 rfl (.head _) rfl (by simp [D.parts]) (by simp; omega) (by simp; omega) ?_
        refine AOps.step rfl rfl rfl (AOp.assignO rfl rfl) ?_
        refine AOps.nil ?_
        refine AWP.region ?_
        refine AOps.step rfl rfl rfl (AOp.add64 rfl rfl rfl (by omega) (by omega)) ?_
        refine AOps.step rfl rfl rfl (AOp.moveD rfl rfl) ?_
        refine AOps.nil ?_
        refine ⟨k + 1, (by omega), (by dsimp only; omega), Sub.less ⟨(SLe.of_eq rfl), SLe.refl _, SLe.refl _, SLe.refl _, SLe.refl _, trivial⟩ (row_same (by first | (rw [hpn, r_aln (aln_iff.2 (by omega)), List.map_append]; rfl) | (rw [hpn, r_sp (fun h => by have := aln_iff.1 h; omega), List.map_append]; rfl)))⟩
      · replace h3 := of_decide_eq_false h3
        refine AWP.seq ?_
        have hlc : lowB c = c := low_same (by omega)
        rw [← hlc]
        refine AWP.region ?_
        refine AOps.step rfl rfl rfl (AOp.moveD rfl rfl) ?_
        refine AOps.step rfl rfl rfl (AOp.geq rfl rfl rfl) ?_
        refine AOps.step rfl rfl rfl (AOp.moveD rfl rfl) ?_
        refine AOps.split 36 rfl (fun g4 => ?_) (fun g4 => ?_)
        · replace g4 := of_decide_eq_true g4
          refine AOps.step ⟨36, rfl, .inl ⟨_, rfl, rfl⟩⟩ rfl rfl (AOp.moveD rfl rfl) ?_
          refine AOps.step ⟨36, rfl, .inl ⟨_, rfl, rfl⟩⟩ rfl rfl (AOp.leq rfl rfl rfl) ?_
          refine AOps.step rfl rfl rfl (AOp.pickT rfl rfl rfl) ?_
          refine AOps.step rfl rfl rfl (AOp.moveD rfl rfl) ?_
          refine AOps.split 40 rfl (fun g5 => ?_) (fun g5 => ?_)
          · replace g5 := of_decide_eq_true g5
            refine AOps.pass ⟨40, rfl, .inl ⟨_, rfl, rfl⟩⟩ rfl rfl ?_
            refine AOps.pass ⟨40, rfl, .inl ⟨_, rfl, rfl⟩⟩ rfl rfl ?_
            refine AOps.pass ⟨40, rfl, .inl ⟨_, rfl, rfl⟩⟩ rfl rfl ?_
            refine AOps.pass ⟨43, rfl, .inr ⟨rfl, rfl⟩⟩ rfl rfl ?_
            refine AOps.pass ⟨43, rfl, .inr ⟨rfl, rfl⟩⟩ rfl rfl ?_
            refine AOps.pass ⟨40, rfl, .inl ⟨_, rfl, rfl⟩⟩ rfl rfl ?_
            refine AOps.step rfl rfl rfl (AOp.pickT rfl rfl rfl) ?_
            refine AOps.step rfl rfl rfl (AOp.assignD rfl rfl) ?_
            refine AOps.nil ?_
            refine AWP.cond rfl (fun _ => ?_) (fun h => nomatch h)
            refine AWP.region ?_
            refine AOps.step rfl rfl rfl (AOp.moveO rfl rfl) ?_
            refine AOps.step rfl rfl rfl (AOp.moveD rfl rfl) ?_
            refine AOps.step rfl rfl rfl (AOp.buildSlice rfl et_36 (.cons rfl rfl rfl .nil) rfl (by decide)) ?_
            -- append 51
            refine AOps.append rfl rfl rfl rfl et_36 rfl (.head _) rfl (by simp [D.parts]) (by simp; omega) (by simp; omega) ?_
            refine AOps.step rfl rfl rfl (AOp.assignO rfl rfl) ?_
            refine AOps.nil ?_
            refine AWP.region ?_
            refine AOps.step rfl rfl rfl (AOp.add64 rfl rfl rfl (by omega) (by omega)) ?_
            refine AOps.step rfl rfl rfl (AOp.moveD rfl rfl) ?_
            refine AOps.nil ?_
            refine ⟨k + 1, (by omega), (by dsimp only; omega), Sub.less ⟨(SLe.of_eq rfl), SLe.refl _, SLe.refl _, SLe.refl _, SLe.refl _, trivial⟩ (row_same (by first | (rw [hpn, r_aln (aln_iff.2 (by omega)), List.map_append]; rfl) | (rw [hpn, r_sp (fun h => by have := aln_iff.1 h; omega), List.map_append]; rfl)))⟩
          · replace g5 := of_decide_eq_false g5
            refine AOps.step ⟨40, rfl, .inl ⟨_, rfl, rfl⟩⟩ rfl rfl (AOp.moveD rfl rfl) ?_
            refine AOps.step ⟨40, rfl, .inl ⟨_, rfl, rfl⟩⟩ rfl rfl (AOp.geq rfl rfl rfl) ?_
            refine AOps.step ⟨40, rfl, .inl ⟨_, rfl, rfl⟩⟩ rfl rfl (AOp.moveD rfl rfl) ?_
            refine AOps.split 43 rfl (fun g6 => ?_) (fun g6 => ?_)
            · replace g6 := of_decide_eq_true g6
              refine AOps.step ⟨43, rfl, .inl ⟨_, rfl, rfl⟩⟩ rfl rfl (AOp.moveD rfl rfl) ?_
              refine AOps.step ⟨43, rfl, .inl ⟨_, rfl, rfl⟩⟩ rfl rfl (AOp.leq rfl rfl rfl) ?_
              refine AOps.step ⟨40, rfl, .inl ⟨_, rfl, rfl⟩⟩ rfl rfl (AOp.pickT rfl rfl rfl) ?_
              refine AOps.step rfl rfl rfl (AOp.pickF rfl rfl rfl) ?_
              refine AOps.step rfl rfl rfl (AOp.assignD rfl rfl) ?_
              refine AOps.nil ?_
              refine AWP.cond rfl (fun h7 => ?_) (fun h7 => ?_)
              · replace h7 := of_decide_eq_true h7
                refine AWP.region ?_
                refine AOps.step rfl rfl rfl (AOp.moveO rfl rfl) ?_
                refine AOps.step rfl rfl rfl (AOp.moveD rfl rfl) ?_
                refine AOps.step rfl rfl rfl (AOp.buildSlice rfl et_36 (.cons rfl rfl rfl .nil) rfl (by decide)) ?_
                -- append 51
                refine AOps.append rfl rfl rfl rfl et_36 rfl (.head _) rfl (by simp [D.parts]) (by simp; omega) (by simp; omega) ?_
                refine AOps.step rfl rfl rfl (AOp.assignO rfl rfl) ?_
                refine AOps.nil ?_
                refine AWP.region ?_
                refine AOps.step rfl rfl rfl (AOp.add64 rfl rfl rfl (by omega) (by omega)) ?_
                refine AOps.step rfl rfl rfl (AOp.moveD rfl rfl) ?_
                refine AOps.nil ?_
                refine ⟨k + 1, (by omega), (by dsimp only; omega), Sub.less ⟨(SLe.of_eq rfl), SLe.refl _, SLe.refl _, SLe.refl _, SLe.refl _, trivial⟩ (row_same (by first | (rw [hpn, r_aln (aln_iff.2 (by omega)), List.map_append]; rfl) | (rw [hpn, r_sp (fun h => by have := aln_iff.1 h; omega), List.map_append]; rfl)))⟩
              · replace h7 := of_decide_eq_false h7
                refine AWP.region ?_
                refine AOps.step rfl rfl rfl (AOp.moveO rfl rfl) ?_
                refine AOps.step rfl rfl rfl (AOp.buildSlice rfl et_36 (.cons rfl rfl rfl .nil) rfl (by decide)) ?_
                -- append 19
                refine AOps.append rfl rfl rfl rfl et_36 rfl (.head _) rfl (by simp [D.parts]) (by simp; omega) (by simp; omega) ?_
                refine AOps.step rfl rfl rfl (AOp.assignO rfl rfl) ?_
                refine AOps.nil ?_
                refine AWP.region ?_
                refine AOps.step rfl rfl rfl (AOp.add64 rfl rfl rfl (by omega) (by omega)) ?_
                refine AOps.step rfl rfl rfl (AOp.moveD rfl rfl) ?_
                refine AOps.nil ?_
                refine ⟨k + 1, (by omega), (by dsimp only; omega), Sub.less ⟨(SLe.of_eq rfl), SLe.refl _, SLe.refl _, SLe.refl _, SLe.refl _, trivial⟩ (row_same (by first | (rw [hpn, r_aln (aln_iff.2 (by omega)), List.map_append]; rfl) | (rw [hpn, r_sp (fun h => by have := aln_iff.1 h; omega), List.map_append]; rfl)))⟩
            · replace g6 := of_decide_eq_false g6
              refine AOps.pass ⟨43, rfl, .inl ⟨_, rfl, rfl⟩⟩ rfl rfl ?_
              refine AOps.pass ⟨43, rfl, .inl ⟨_, rfl, rfl⟩⟩ rfl rfl ?_
              refine AOps.step ⟨40, rfl, .inl ⟨_, rfl, rfl⟩⟩ rfl rfl (AOp.pickF rfl rfl rfl) ?_
              refine AOps.step rfl rfl rfl (AOp.pickF rfl rfl rfl) ?_
              refine AOps.step rfl rfl rfl (AOp.assignD rfl rfl) ?_
              refine AOps.nil ?_
              refine AWP.cond rfl (fun h => nomatch h) (fun _ => ?_)
              refine AWP.region ?_
              refine AOps.step rfl rfl rfl (AOp.moveO rfl rfl) ?_
              refine AOps.step rfl rfl rfl (AOp.buildSlice rfl et_36 (.cons rfl rfl rfl .nil) rfl (by decide)) ?_
              -- append 19
              refine AOps.append rfl rfl rfl rfl et_36 rfl (.head _) rfl (by simp [D.parts]) (by simp; omega) (by simp; omega) ?_
              refine AOps.step rfl rfl rfl (AOp.assignO rfl rfl) ?_
              refine AOps.nil ?_
              refine AWP.region ?_
              refine AOps.step rfl rfl rfl (AOp.add64 rfl rfl rfl (by omega) (by omega)) ?_
              refine AOps.step rfl rfl rfl (AOp.moveD rfl rfl) ?_
              refine AOps.nil ?_
              refine ⟨k + 1, (by omega), (by dsimp only; omega), Sub.less ⟨(SLe.of_eq rfl), SLe.refl _, SLe.refl _, SLe.refl _, SLe.refl _, trivial⟩ (row_same (by first | (rw [hpn, r_aln (aln_iff.2 (by omega)), List.map_append]; rfl) | (rw [hpn, r_sp (fun h => by have := aln_iff.1 h; omega), List.map_append]; rfl)))⟩
        · replace g4 := of_decide_eq_false g4
          refine AOps.pass ⟨36, rfl, .inl ⟨_, rfl, rfl⟩⟩ rfl rfl ?_
          refine AOps.pass ⟨36, rfl, .inl ⟨_, rfl, rfl⟩⟩ rfl rfl ?_
          refine AOps.step rfl rfl rfl (AOp.pickF rfl rfl rfl) ?_
          refine AOps.step rfl rfl rfl (AOp.moveD rfl rfl) ?_
          refine AOps.step ⟨40, rfl, .inl ⟨_, rfl, rfl⟩⟩ rfl rfl (AOp.moveD rfl rfl) ?_
          refine AOps.step ⟨40, rfl, .inl ⟨_, rfl, rfl⟩⟩ rfl rfl (AOp.geq rfl rfl rfl) ?_
          refine AOps.step ⟨40, rfl, .inl ⟨_, rfl, rfl⟩⟩ rfl rfl (AOp.moveD rfl rfl) ?_
          refine AOps.split 43 rfl (fun g8 => ?_) (fun g8 => ?_)
          · replace g8 := of_decide_eq_true g8
            refine AOps.step ⟨43, rfl, .inl ⟨_, rfl, rfl⟩⟩ rfl rfl (AOp.moveD rfl rfl) ?_
            refine AOps.step ⟨43, rfl, .inl ⟨_, rfl, rfl⟩⟩ rfl rfl (AOp.leq rfl rfl rfl) ?_
            refine AOps.step ⟨40, rfl, .inl ⟨_, rfl, rfl⟩⟩ rfl rfl (AOp.pickT rfl rfl rfl) ?_
            refine AOps.step rfl rfl rfl (AOp.pickF rfl rfl rfl) ?_
            refine AOps.step rfl rfl rfl (AOp.assignD rfl rfl) ?_
            refine AOps.nil ?_
            refine AWP.cond rfl (fun h9 => ?_) (fun h9 => ?_)
            · replace h9 := of_decide_eq_true h9
              refine AWP.region ?_
              refine AOps.step rfl rfl rfl (AOp.moveO rfl rfl) ?_
              refine AOps.step rfl rfl rfl (AOp.moveD rfl rfl) ?_
              refine AOps.step rfl rfl rfl (AOp.buildSlice rfl et_36 (.cons rfl rfl rfl .nil) rfl (by decide)) ?_
              -- append 51
              refine AOps.append rfl rfl rfl rfl et_36 rfl (.head _) rfl (by simp [D.parts]) (by simp; omega) (by simp; omega) ?_
              refine AOps.step rfl rfl rfl (AOp.assignO rfl rfl) ?_
              refine AOps.nil ?_
              refine AWP.region ?_
              refine AOps.step rfl rfl rfl (AOp.add64 rfl rfl rfl (by omega) (by omega)) ?_
              refine AOps.step rfl rfl rfl (AOp.moveD rfl rfl) ?_
              refine AOps.nil ?_
              refine ⟨k + 1, (by omega), (by dsimp only; omega), Sub.less ⟨(SLe.of_eq rfl), SLe.refl _, SLe.refl _, SLe.refl _, SLe.refl _, trivial⟩ (row_same (by first | (rw [hpn, r_aln (aln_iff.2 (by omega)), List.map_append]; rfl) | (rw [hpn, r_sp (fun h => by have := aln_iff.1 h; omega), List.map_append]; rfl)))⟩
            · replace h9 := of_decide_eq_false h9
              refine AWP.region ?_
              refine AOps.step rfl rfl rfl (AOp.moveO rfl rfl) ?_
              refine AOps.step rfl rfl rfl (AOp.buildSlice rfl et_36 (.cons rfl rfl rfl .nil) rfl (by decide)) ?_
              -- append 19
              refine AOps.append rfl rfl rfl rfl et_36 rfl (.head _) rfl (by simp [D.parts]) (by simp; omega) (by simp; omega) ?_
              refine AOps.step rfl rfl rfl (AOp.assignO rfl rfl) ?_
              refine AOps.nil ?_
              refine AWP.region ?_
              refine AOps.step rfl rfl rfl (AOp.add64 rfl rfl rfl (by omega) (by omega)) ?_
              refine AOps.step rfl rfl rfl (AOp.moveD rfl rfl) ?_
              refine AOps.nil ?_
              refine ⟨k + 1, (by omega), (by dsimp only; omega), Sub.less ⟨(SLe.of_eq rfl), SLe.refl _, SLe.refl _, SLe.refl _, SLe.refl _, trivial⟩ (row_same (by first | (rw [hpn, r_aln (aln_iff.2 (by omega)), List.map_append]; rfl) | (rw [hpn, r_sp (fun h => by have := aln_iff.1 h; omega), List.map_append]; rfl)))⟩
          · replace g8 := of_decide_eq_false g8
            refine AOps.pass ⟨43, rfl, .inl ⟨_, rfl, rfl⟩⟩ rfl rfl ?_
            refine AOps.pass ⟨43, rfl, .inl ⟨_, rfl, rfl⟩⟩ rfl rfl ?_
            refine AOps.step ⟨40, rfl, .inl ⟨_, rfl, rfl⟩⟩ rfl rfl (AOp.pickF rfl rfl rfl) ?_
            refine AOps.step rfl rfl rfl (AOp.pickF rfl rfl rfl) ?_
            refine AOps.step rfl rfl rfl (AOp.assignD rfl rfl) ?_
            refine AOps.nil ?_
            refine AWP.cond rfl (fun h => nomatch h) (fun _ => ?_)
            refine AWP.region ?_
            refine AOps.step rfl rfl rfl (AOp.moveO rfl rfl) ?_
            refine AOps.step rfl rfl rfl (AOp.buildSlice rfl et_36 (.cons rfl rfl rfl .nil) rfl (by decide)) ?_
            -- append 19
            refine AOps.append rfl rfl rfl rfl et_36 rfl (.head _) rfl (by simp [D.parts]) (by simp; omega) (by simp; omega) ?_
            refine AOps.step rfl rfl rfl (AOp.assignO rfl rfl) ?_
            refine AOps.nil ?_
            refine AWP.region ?_
            refine AOps.step rfl rfl rfl (AOp.add64 rfl rfl rfl (by omega) (by omega)) ?_
            refine AOps.step rfl rfl rfl (AOp.moveD rfl rfl) ?_
            refine AOps.nil ?_
            refine ⟨k + 1, (by omega), (by dsimp only; omega), Sub.less ⟨(SLe.of_eq rfl), SLe.refl _, SLe.refl _, SLe.refl _, SLe.refl _, trivial⟩ (row_same (by first | (rw [hpn, r_aln (aln_iff.2 (by omega)), List.map_append]; rfl) | (rw [hpn, r_sp (fun h => by have := aln_iff.1 h; omega), List.map_append]; rfl)))⟩
    · replace g2 := of_decide_eq_false g2
      refine AOps.pass ⟨23, rfl, .inl ⟨_, rfl, rfl⟩⟩ rfl rfl ?_
      refine AOps.pass ⟨23, rfl, .inl ⟨_, rfl, rfl⟩⟩ rfl rfl ?_
      refine AOps.step rfl rfl rfl (AOp.pickF rfl rfl rfl) ?_
      refine AOps.step rfl rfl rfl (AOp.assignD rfl rfl) ?_
      refine AOps.nil ?_
      refine AWP.cond rfl (fun h => nomatch h) (fun _ => ?_)
      refine AWP.seq ?_
      have hlc : lowB c = c := low_same (by omega)
      rw [← hlc]
      refine AWP.region ?_
      refine AOps.step rfl rfl rfl (AOp.moveD rfl rfl) ?_
      refine AOps.step rfl rfl rfl (AOp.geq rfl rfl rfl) ?_
      refine AOps.step rfl rfl rfl (AOp.moveD rfl rfl) ?_
      refine AOps.split 36 rfl (fun g10 => ?_) (fun g10 => ?_)
      · replace g10 := of_decide_eq_true g10
        refine AOps.step ⟨36, rfl, .inl ⟨_, rfl, rfl⟩⟩ rfl rfl (AOp.moveD rfl rfl) ?_
        refine AOps.step ⟨36, rfl, .inl ⟨_, rfl, rfl⟩⟩ rfl rfl (AOp.leq rfl rfl rfl) ?_
        refine AOps.step rfl rfl rfl (AOp.pickT rfl rfl rfl) ?_
        refine AOps.step rfl rfl rfl (AOp.moveD rfl rfl) ?_
        refine AOps.split 40 rfl (fun g11 => ?_) (fun g11 => ?_)
        · replace g11 := of_decide_eq_true g11
          refine AOps.pass ⟨40, rfl, .inl ⟨_, rfl, rfl⟩⟩ rfl rfl ?_
          refine AOps.pass ⟨40, rfl, .inl ⟨_, rfl, rfl⟩⟩ rfl rfl ?_
          refine AOps.pass ⟨40, rfl, .inl ⟨_, rfl, rfl⟩⟩ rfl rfl ?_
          refine AOps.pass ⟨43, rfl, .inr ⟨rfl, rfl⟩⟩ rfl rfl ?_
          refine AOps.pass ⟨43, rfl, .inr ⟨rfl, rfl⟩⟩ rfl rfl ?_
          refine AOps.pass ⟨40, rfl, .inl ⟨_, rfl, rfl⟩⟩ rfl rfl ?_
          refine AOps.step rfl rfl rfl (AOp.pickT rfl rfl rfl) ?_
          refine AOps.step rfl rfl rfl (AOp.assignD rfl rfl) ?_
          refine AOps.nil ?_
          refine AWP.cond rfl (fun _ => ?_) (fun h => nomatch h)
          refine AWP.region ?_
          refine AOps.step rfl rfl rfl (AOp.moveO rfl rfl) ?_
          refine AOps.step rfl rfl rfl (AOp.moveD rfl rfl) ?_
          refine AOps.step rfl rfl rfl (AOp.buildSlice rfl et_36 (.cons rfl rfl rfl .nil) rfl (by decide)) ?_
          -- append 51
          refine AOps.append rfl rfl rfl rfl et_36 rfl (.head _) rfl (by simp [D.parts]) (by simp; omega) (by simp; omega) ?_
          refine AOps.step rfl rfl rfl (AOp.assignO rfl rfl) ?_
          refine AOps.nil ?_
          refine AWP.region ?_
          refine AOps.step rfl rfl rfl (AOp.add64 rfl rfl rfl (by omega) (by omega)) ?_
          refine AOps.step rfl rfl rfl (AOp.moveD rfl rfl) ?_
          refine AOps.nil ?_
          refine ⟨k + 1, (by omega), (by dsimp only; omega), Sub.less ⟨(SLe.of_eq rfl), SLe.refl _, SLe.refl _, SLe.refl _, SLe.refl _, trivial⟩ (row_same (by first | (rw [hpn, r_aln (aln_iff.2 (by omega)), List.map_append]; rfl) | (rw [hpn, r_sp (fun h => by have := aln_iff.1 h; omega), List.map_append]; rfl)))⟩
        · replace g11 := of_decide_eq_false g11
          refine AOps.step ⟨40, rfl, .inl ⟨_, rfl, rfl⟩⟩ rfl rfl (AOp.moveD rfl rfl) ?_
          refine AOps.step ⟨40, rfl, .inl ⟨_, rfl, rfl⟩⟩ rfl rfl (AOp.geq rfl rfl rfl) ?_
          refine AOps.step ⟨40, rfl, .inl ⟨_, rfl, rfl⟩⟩ rfl rfl (AOp.moveD rfl rfl) ?_
          refine AOps.split 43 rfl (fun g12 => ?_) (fun g12 => ?_)
          · replace g12 := of_decide_eq_true g12
            refine AOps.step ⟨43, rfl, .inl ⟨_, rfl, rfl⟩⟩ rfl rfl (AOp.moveD rfl rfl) ?_
            refine AOps.step ⟨43, rfl, .inl ⟨_, rfl, rfl⟩⟩ rfl rfl (AOp.leq rfl rfl rfl) ?_
            refine AOps.step ⟨40, rfl, .inl ⟨_, rfl, rfl⟩⟩ rfl rfl (AOp.pickT rfl rfl rfl) ?_
            refine AOps.step rfl rfl rfl (AOp.pickF rfl rfl rfl) ?_
            refine AOps.step rfl rfl rfl (AOp.assignD rfl rfl) ?_
            refine AOps.nil ?_
            refine AWP.cond rfl (fun h13 => ?_) (fun h13 => ?_)
            · replace h13 := of_decide_eq_true h13
              refine AWP.region ?_
              refine AOps.step rfl rfl rfl (AOp.moveO rfl rfl) ?_
              refine AOps.step rfl rfl rfl (AOp.moveD rfl rfl) ?_
              refine AOps.step rfl rfl rfl (AOp.buildSlice rfl et_36 (.cons rfl rfl rfl .nil) rfl (by decide)) ?_
              -- append 51
              refine AOps.append rfl rfl rfl rfl et_36 rfl (.head _) rfl (by simp [D.parts]) (by simp; omega) (by simp; omega) ?_
              refine AOps.step rfl rfl rfl (AOp.assignO rfl rfl) ?_
              refine AOps.nil ?_
              refine AWP.region ?_
              refine AOps.step rfl rfl rfl (AOp.add64 rfl rfl rfl (by omega) (by omega)) ?_
              refine AOps.step rfl rfl rfl (AOp.moveD rfl rfl) ?_
              refine AOps.nil ?_
              refine ⟨k + 1, (by omega), (by dsimp only; omega), Sub.less ⟨(SLe.of_eq rfl), SLe.refl _, SLe.refl _, SLe.refl _, SLe.refl _, trivial⟩ (row_same (by first | (rw [hpn, r_aln (aln_iff.2 (by omega)), List.map_append]; rfl) | (rw [hpn, r_sp (fun h => by have := aln_iff.1 h; omega), List.map_append]; rfl)))⟩
            · replace h13 := of_decide_eq_false h13
              refine AWP.region ?_
              refine AOps.step rfl rfl rfl (AOp.moveO rfl rfl) ?_
              refine AOps.step rfl rfl rfl (AOp.buildSlice rfl et_36 (.cons rfl rfl rfl .nil) rfl (by decide)) ?_
              -- append 19
              refine AOps.append rfl rfl rfl rfl et_36 rfl (.head _) rfl (by simp [D.parts]) (by simp; omega) (by simp; omega) ?_
              refine AOps.step rfl rfl rfl (AOp.assignO rfl rfl) ?_
              refine AOps.nil ?_
              refine AWP.region ?_
              refine AOps.step rfl rfl rfl (AOp.add64 rfl rfl rfl (by omega) (by omega)) ?_
              refine AOps.step rfl rfl rfl (AOp.moveD rfl rfl) ?_
              refine AOps.nil ?_
              refine ⟨k + 1, (by omega), (by dsimp only; omega), Sub.less ⟨(SLe.of_eq rfl), SLe.refl _, SLe.refl _, SLe.refl _, SLe.refl _, trivial⟩ (row_same (by first | (rw [hpn, r_aln (aln_iff.2 (by omega)), List.map_append]; rfl) | (rw [hpn, r_sp (fun h => by have := aln_iff.1 h; omega), List.map_append]; rfl)))⟩
          · replace g12 := of_decide_eq_false g12
            refine AOps.pass ⟨43, rfl, .inl ⟨_, rfl, rfl⟩⟩ rfl rfl ?_
            refine AOps.pass ⟨43, rfl, .inl ⟨_, rfl, rfl⟩⟩ rfl rfl ?_
            refine AOps.step ⟨40, rfl, .inl ⟨_, rfl, rfl⟩⟩ rfl rfl (AOp.pickF rfl rfl rfl) ?_
            refine AOps.step rfl rfl rfl (AOp.pickF rfl rfl rfl) ?_
            refine AOps.step rfl rfl rfl (AOp.assignD rfl rfl) ?_
            refine AOps.nil ?_
            refine AWP.cond rfl (fun h => nomatch h) (fun _ => ?_)
            refine AWP.region ?_
            refine AOps.step rfl rfl rfl (AOp.moveO rfl rfl) ?_
            refine AOps.step rfl rfl rfl (AOp.buildSlice rfl et_36 (.cons rfl rfl rfl .nil) rfl (by decide)) ?_
            -- append 19
            refine AOps.append rfl rfl rfl rfl et_36 rfl (.head _) rfl (by simp [D.parts]) (by simp; omega) (by simp; omega) ?_
            refine AOps.step rfl rfl rfl (AOp.assignO rfl rfl) ?_
            refine AOps.nil ?_
            refine AWP.region ?_
            refine AOps.step rfl rfl rfl (AOp.add64 rfl rfl rfl (by omega) (by omega)) ?_
            refine AOps.step rfl rfl rfl (AOp.moveD rfl rfl) ?_
            refine AOps.nil ?_
            refine ⟨k + 1, (by omega), (by dsimp only; omega), Sub.less ⟨(SLe.of_eq rfl), SLe.refl _, SLe.refl _, SLe.refl _, SLe.refl _, trivial⟩ (row_same (by first | (rw [hpn, r_aln (aln_iff.2 (by omega)), List.map_append]; rfl) | (rw [hpn, r_sp (fun h => by have := aln_iff.1 h; omega), List.map_append]; rfl)))⟩
      · replace g10 := of_decide_eq_false g10
        refine AOps.pass ⟨36, rfl, .inl ⟨_, rfl, rfl⟩⟩ rfl rfl ?_
        refine AOps.pass ⟨36, rfl, .inl ⟨_, rfl, rfl⟩⟩ rfl rfl ?_
        refine AOps.step rfl rfl rfl (AOp.pickF rfl rfl rfl) ?_
        refine AOps.step rfl rfl rfl (AOp.moveD rfl rfl) ?_
        refine AOps.step ⟨40, rfl, .inl ⟨_, rfl, rfl⟩⟩ rfl rfl (AOp.moveD rfl rfl) ?_
        refine AOps.step ⟨40, rfl, .inl ⟨_, rfl, rfl⟩⟩ rfl rfl (AOp.geq rfl rfl rfl) ?_
        refine AOps.step ⟨40, rfl, .inl ⟨_, rfl, rfl⟩⟩ rfl rfl (AOp.moveD rfl rfl) ?_
        refine AOps.split 43 rfl (fun g14 => ?_) (fun g14 => ?_)
        · replace g14 := of_decide_eq_true g14
          refine AOps.step ⟨43, rfl, .inl ⟨_, rfl, rfl⟩⟩ rfl rfl (AOp.moveD rfl rfl) ?_
          refine AOps.step ⟨43, rfl, .inl ⟨_, rfl, rfl⟩⟩ rfl rfl (AOp.leq rfl rfl rfl) ?_
          refine AOps.step ⟨40, rfl, .inl ⟨_, rfl, rfl⟩⟩ rfl rfl (AOp.pickT rfl rfl rfl) ?_
          refine AOps.step rfl rfl rfl (AOp.pickF rfl rfl rfl) ?_
          refine AOps.step rfl rfl rfl (AOp.assignD rfl rfl) ?_
          refine AOps.nil ?_
          refine AWP.cond rfl (fun h15 => ?_) (fun h15 => ?_)
          · replace h15 := of_decide_eq_true h15
            refine AWP.region ?_
            refine AOps.step rfl rfl rfl (AOp.moveO rfl rfl) ?_
            refine AOps.step rfl rfl rfl (AOp.moveD rfl rfl) ?_
            refine AOps.step rfl rfl rfl (AOp.buildSlice rfl et_36 (.cons rfl rfl rfl .nil) rfl (by decide)) ?_
            -- append 51
            refine AOps.append rfl rfl rfl rfl et_36 rfl (.head _) rfl (by simp [D.parts]) (by simp; omega) (by simp; omega) ?_
            refine AOps.step rfl rfl rfl (AOp.assignO rfl rfl) ?_
            refine AOps.nil ?_
            refine AWP.region ?_
            refine AOps.step rfl rfl rfl (AOp.add64 rfl rfl rfl (by omega) (by omega)) ?_
            refine AOps.step rfl rfl rfl (AOp.moveD rfl rfl) ?_
            refine AOps.nil ?_
            refine ⟨k + 1, (by omega), (by dsimp only; omega), Sub.less ⟨(SLe.of_eq rfl), SLe.refl _, SLe.refl _, SLe.refl _, SLe.refl _, trivial⟩ (row_same (by first | (rw [hpn, r_aln (aln_iff.2 (by omega)), List.map_append]; rfl) | (rw [hpn, r_sp (fun h => by have := aln_iff.1 h; omega), List.map_append]; rfl)))⟩
          · replace h15 := of_decide_eq_false h15
            refine AWP.region ?_
            refine AOps.step rfl rfl rfl (AOp.moveO rfl rfl) ?_
            refine AOps.step rfl rfl rfl (AOp.buildSlice rfl et_36 (.cons rfl rfl rfl .nil) rfl (by decide)) ?_
            -- append 19
            refine AOps.append rfl rfl rfl rfl et_36 rfl (.head _) rfl (by simp [D.parts]) (by simp; omega) (by simp; omega) ?_
            refine AOps.step rfl rfl rfl (AOp.assignO rfl rfl) ?_
            refine AOps.nil ?_
            refine AWP.region ?_
            refine AOps.step rfl rfl rfl (AOp.add64 rfl rfl rfl (by omega) (by omega)) ?_
            refine AOps.step rfl rfl rfl (AOp.moveD rfl rfl) ?_
            refine AOps.nil ?_
            refine ⟨k + 1, (by omega), (by dsimp only; omega), Sub.less ⟨(SLe.of_eq rfl), SLe.refl _, SLe.refl _, SLe.refl _, SLe.refl _, trivial⟩ (row_same (by first | (rw [hpn, r_aln (aln_iff.2 (by omega)), List.map_append]; rfl) | (rw [hpn, r_sp (fun h => by have := aln_iff.1 h; omega), List.map_append]; rfl)))⟩
        · replace g14 := of_decide_eq_false g14
          refine AOps.pass ⟨43, rfl, .inl ⟨_, rfl, rfl⟩⟩ rfl rfl ?_
          refine AOps.pass ⟨43, rfl, .inl ⟨_, rfl, rfl⟩⟩ rfl rfl ?_
          refine AOps.step ⟨40, rfl, .inl ⟨_, rfl, rfl⟩⟩ rfl rfl (AOp.pickF rfl rfl rfl) ?_
          refine AOps.step rfl rfl rfl (AOp.pickF rfl rfl rfl) ?_
          refine AOps.step rfl rfl rfl (AOp.assignD rfl rfl) ?_
          refine AOps.nil ?_
          refine AWP.cond rfl (fun h => nomatch h) (fun _ => ?_)
          refine AWP.region ?_
          refine AOps.step rfl rfl rfl (AOp.moveO rfl rfl) ?_
          refine AOps.step rfl rfl rfl (AOp.buildSlice rfl et_36 (.cons rfl rfl rfl .nil) rfl (by decide)) ?_
          -- append 19
          refine AOps.append rfl rfl rfl rfl et_36 rfl (.head _) rfl (by simp [D.parts]) (by simp; omega) (by simp; omega) ?_
          refine AOps.step rfl rfl rfl (AOp.assignO rfl rfl) ?_
          refine AOps.nil ?_
          refine AWP.region ?_
          refine AOps.step rfl rfl rfl (AOp.add64 rfl rfl rfl (by omega) (by omega)) ?_
          refine AOps.step rfl rfl rfl (AOp.moveD rfl rfl) ?_
          refine AOps.nil ?_
          refine ⟨k + 1, (by omega), (by dsimp only; omega), Sub.less ⟨(SLe.of_eq rfl), SLe.refl _, SLe.refl _, SLe.refl _, SLe.refl _, trivial⟩ (row_same (by first | (rw [hpn, r_aln (aln_iff.2 (by omega)), List.map_append]; rfl) | (rw [hpn, r_sp (fun h => by have := aln_iff.1 h; omega), List.map_append]; rfl)))⟩
  · replace h1 := of_decide_eq_false h1
    obtain rfl : k = s.size := by omega
    rw [rTo_all]
    have hjl := joinF_le s
    have hfl := fields_le (s.data.toList.map rMap)
    rw [List.length_map] at hfl
    refine AWP.exit ?_
    refine AWP.seq ?_
    refine AWP.region ?_
    refine AOps.step rfl rfl rfl (AOp.moveO rfl rfl) ?_
    refine AOps.freeze 53 rfl (.head _) ?_
    refine AOps.step rfl rfl rfl (AOp.bytesStr rfl et_36.ht Tryd.underlying5 st_9 rfl) ?_
    -- wants the world
    refine AOps.callT rfl rfl rfl hT tabT_stays rfl (.cons (ArgOk.rfl' rfl) .nil) (c_fieldsL _ (by rw [List.length_map]; omega) (ascii_all _)) ?_
    refine AOps.step rfl rfl rfl (AOp.call rfl (.cons (ArgOk.rfl' rfl) (.cons (ArgOk.rfl' rfl) .nil)) (c_joinL _ (by omega) (by omega))) ?_
    rw [← fold_eq]
    refine AOps.step rfl rfl rfl (AOp.assignD rfl rfl) ?_
    refine AOps.nil ?_
    refine AWP.seq ?_
    refine AWP.seq ?_
    refine AWP.region ?_
    refine AOps.step rfl rfl rfl (AOp.buildSlice rfl et_28 (.cons rfl rfl rfl (.cons rfl rfl rfl (.cons rfl rfl rfl .nil))) rfl (by decide)) ?_
    refine AOps.step rfl rfl rfl (AOp.lenSl rfl et_28.ht rfl) ?_
    refine AOps.step rfl rfl rfl (AOp.moveD rfl rfl) ?_
    refine AOps.nil ?_
    refine AWP.block ?_
    refine AWP.loop (G := Nat) (fun i => Env.of [(59, .d (.v (.int .i64 (i : Int)))), (57, .d (.sl (arts.map artD))), (58, .d (.v (.int .i64 3))), (6, .d (.v (.string (bStr (Lib.trimSuffix (s.data.toList.foldl pStep []) [32])))))]) (fun i => []) (fun i => i ≤ 3 ∧ ∀ p ∈ arts.take i, Lib.hasPrefix (Lib.trimSuffix (s.data.toList.foldl pStep []) [32]) p = false) (fun i => 3 - i) 0 ⟨Nat.zero_le _, fun p hp => by simp at hp⟩ (Sub.less ⟨(SLe.of_eq rfl), (SLe.of_eq rfl), (SLe.of_eq rfl), SLe.refl _, trivial⟩ (fun _ h => h)) ?_
    rintro i ⟨hi, h0⟩
    refine AWP.seq ?_
    refine AWP.region ?_
    refine AOps.step rfl rfl rfl (AOp.lss rfl rfl rfl) ?_
    refine AOps.nil ?_
    refine AWP.seq ?_
    refine AWP.cond rfl (fun h16 => ?_) (fun h16 => ?_)
    · replace h16 := of_decide_eq_true h16
      have hlt : i < arts.length := by show i < 3; omega
      refine AWP.skip ?_
      refine AWP.seq ?_
      refine AWP.block ?_
      refine AWP.seq ?_
      refine AWP.region ?_
      refine AOps.step rfl rfl rfl (AOp.indexAddr rfl et_28 rfl rfl i rfl (at_list hlt) rfl) ?_
      refine AOps.step rfl rfl rfl (AOp.load rfl sc_9 rfl) ?_
      refine AOps.step rfl rfl rfl (AOp.assignD rfl rfl) ?_
      refine AOps.nil ?_
      refine AWP.seq ?_
      refine AWP.region ?_
      refine AOps.step rfl rfl rfl (AOp.moveD rfl rfl) ?_
      refine AOps.step rfl rfl rfl (AOp.moveD rfl rfl) ?_
      refine AOps.step rfl rfl rfl (AOp.call rfl (.cons (ArgOk.rfl' rfl) (.cons (ArgOk.rfl' rfl) .nil)) (c_hasP _ _)) ?_
      refine AOps.nil ?_
      refine AWP.cond rfl (fun h17 => ?_) (fun h17 => ?_)
      · skip
        have HR : foldS s.data.toList = (Lib.trimSuffix (s.data.toList.foldl pStep []) [32]).drop arts[i].length := strip_hit hlt h0 h17
        rw [HR]
        have hpre := pre_len h17
        refine AWP.seq ?_
        refine AWP.region ?_
        refine AOps.step rfl rfl rfl (AOp.moveD rfl rfl) ?_
        refine AOps.step rfl rfl rfl (AOp.moveD rfl rfl) ?_
        refine AOps.step rfl rfl rfl (AOp.lenStr rfl st_9 rfl) ?_
        refine AOps.step rfl rfl rfl (AOp.sliceStrL rfl Tryd.underlying9 rfl rfl (Int.natCast_nonneg _) (by rw [bStr_size, bStr_size]; omega)) ?_
        rw [slice_hit]
        refine AOps.step rfl rfl rfl (AOp.assignD rfl rfl) ?_
        refine AOps.nil ?_
        refine AWP.ret ?_
        refine ⟨RetD.eq rfl ?_, trivial⟩
        all_goals (rfl)
      · skip
        have HN := art_next hlt h0 h17
        refine AWP.skip ?_
        refine AWP.region ?_
        refine AOps.step rfl rfl rfl (AOp.add64 rfl rfl rfl (by omega) (by omega)) ?_
        refine AOps.step rfl rfl rfl (AOp.moveD rfl rfl) ?_
        refine AOps.nil ?_
        refine ⟨i + 1, ⟨by omega, HN⟩, (by dsimp only; omega), Sub.less ⟨(SLe.of_eq rfl), SLe.refl _, SLe.refl _, SLe.refl _, trivial⟩ (fun _ h => h)⟩
    · replace h16 := of_decide_eq_false h16
      obtain rfl : i = 3 := by omega
      have HR : foldS s.data.toList = Lib.trimSuffix (s.data.toList.foldl pStep []) [32] := strip_none h0
      rw [HR]
      refine AWP.exit ?_
      refine AWP.seq ?_
      refine AWP.region ?_
      refine AOps.step rfl rfl rfl (AOp.moveD rfl rfl) ?_
      refine AOps.step rfl rfl rfl (AOp.assignD rfl rfl) ?_
      refine AOps.nil ?_
      refine AWP.ret ?_
      refine ⟨RetD.eq rfl ?_, trivial⟩
      all_goals (rfl)

end Go.Proofs.YtajghehicmlajaaDoor


namespace Go.Proofs.YtajghehicmlajaaDoor
open Go.RowKit
set_option linter.unusedVariables false

/-! Types. -/
namespace TyH5

end TyH5
open TyH5


theorem rain_fold : foldS [84, 104, 101, 32, 82, 97, 105, 110, 44, 32, 80, 97, 114, 116, 32, 50] = [114, 97, 105, 110, 32, 112, 97, 114, 116, 32, 50] := by decide +kernel
theorem c_rain : ACall Tryd.prog 6 [.v (.string ⟨#[84, 104, 101, 32, 82, 97, 105, 110, 44, 32, 80, 97, 114, 116, 32, 50]⟩)] (.v (.string ⟨#[114, 97, 105, 110, 32, 112, 97, 114, 116, 32, 50]⟩)) := by
  have h := c_pFold ⟨#[84, 104, 101, 32, 82, 97, 105, 110, 44, 32, 80, 97, 114, 116, 32, 50]⟩ (by decide)
  have e : bStr (foldS (⟨#[84, 104, 101, 32, 82, 97, 105, 110, 44, 32, 80, 97, 114, 116, 32, 50]⟩ : ByteArray).data.toList) = ⟨#[114, 97, 105, 110, 32, 112, 97, 114, 116, 32, 50]⟩ := by
    show bStr (foldS [84, 104, 101, 32, 82, 97, 105, 110, 44, 32, 80, 97, 114, 116, 32, 50]) = _
    rw [rain_fold]
    rfl
  rw [e] at h
  exact h


set_option maxRecDepth 100000 in
set_option maxHeartbeats 1000000 in
theorem c_awake  : ACall Tryd.prog 8 [] (.v (.bool true)) := by
  refine acall_of (n := 3) (ds' := [.v (.bool true)]) Tryd.func8 rfl (by kernel_rfl) rfl [0] rfl rfl ?_
  intro B w0 F0 fr
  refine AWP.seq ?_
  refine AWP.region ?_
  refine AOps.step rfl rfl rfl (AOp.assignD rfl rfl) ?_
  refine AOps.nil ?_
  refine AWP.seq ?_
  refine AWP.region ?_
  refine AOps.step rfl rfl rfl (AOp.call rfl (.cons (ArgOk.rfl' rfl) .nil) c_rain) ?_
  refine AOps.step rfl rfl rfl (AOp.seql rfl rfl rfl) ?_
  refine AOps.step rfl rfl rfl (AOp.assignD rfl rfl) ?_
  refine AOps.nil ?_
  refine AWP.ret ?_
  refine ⟨RetD.eq rfl ?_, trivial⟩
  all_goals (simp)

set_option maxRecDepth 100000 in
set_option maxHeartbeats 1000000 in
theorem lawFold (s : ByteArray) (hs : s.size ≤ 1048576) : ACallT Tryd.prog TabT 3 [.v (.string s)] (.v (.bool true)) := by
  refine acall_ofT (n := 13) (ds' := [.v (.bool true)]) Tryd.func3 rfl (by kernel_rfl) rfl [2] rfl rfl ?_
  intro B w0 F0 hT
  refine AWP.seq ?_
  refine AWP.region ?_
  refine AOps.step rfl rfl rfl (AOp.assignD rfl rfl) ?_
  refine AOps.nil ?_
  refine AWP.seq ?_
  refine AWP.region ?_
  refine AOps.step rfl rfl rfl (AOp.moveD rfl rfl) ?_
  refine AOps.step rfl rfl rfl (AOp.call rfl (.cons (ArgOk.rfl' rfl) .nil) (c_pFold s hs)) ?_
  refine AOps.step rfl rfl rfl (AOp.assignD rfl rfl) ?_
  refine AOps.nil ?_
  refine AWP.seq ?_
  refine AWP.region ?_
  refine AOps.step rfl rfl rfl (AOp.moveD rfl rfl) ?_
  refine AOps.step rfl rfl rfl (AOp.moveD rfl rfl) ?_
  -- wants the world
  refine AOps.callT rfl rfl rfl hT tabT_stays rfl (.cons (ArgOk.rfl' rfl) .nil) (c_rFold s hs) ?_
  refine AOps.step rfl rfl rfl (AOp.seql rfl rfl rfl) ?_
  refine AOps.step rfl rfl rfl (AOp.moveD rfl rfl) ?_
  refine AOps.split 10 rfl (fun g1 => ?_) (fun g1 => ?_)
  · replace g1 := of_decide_eq_true g1
    refine AOps.step ⟨10, rfl, .inl ⟨_, rfl, rfl⟩⟩ rfl rfl (AOp.call rfl .nil c_awake) ?_
    refine AOps.step rfl rfl rfl (AOp.pickT rfl rfl rfl) ?_
    refine AOps.step rfl rfl rfl (AOp.assignD rfl rfl) ?_
    refine AOps.nil ?_
    refine AWP.ret ?_
    refine ⟨RetD.eq rfl ?_, trivial⟩
    all_goals (simp)
  · replace g1 := of_decide_eq_false g1
    exact absurd rfl g1

end Go.Proofs.YtajghehicmlajaaDoor


namespace Go.Proofs.YtajghehicmlajaaDoor
open Go.Lib
set_option linter.unusedVariables false

def digL : List UInt8 := [48, 49, 50, 51, 52, 53, 54, 55, 56, 57]
def sgnL : List UInt8 := [48, 49, 50, 51, 52, 53, 54, 55, 56, 57, 65, 66, 67, 68, 69, 70, 71, 72, 73, 74, 75, 76, 77, 78, 79, 80, 81, 82, 83, 84, 85, 86, 87, 88, 89, 90]
def isDig (c : UInt8) : Bool := decide (48 ≤ c.toNat) && decide (c.toNat ≤ 57)
def isSgn (c : UInt8) : Bool := isDig c || (decide (65 ≤ c.toNat) && decide (c.toNat ≤ 90))
/-- The signs that a body has. -/
def among (two : Bool) (c : UInt8) : Bool := match two with | true => isSgn c | false => isDig c
def signsOf (two : Bool) : List UInt8 := match two with | true => sgnL | false => digL
theorem sg_nat : ∀ n : Fin 256, (decide (0 ≤ indexByte sgnL (UInt8.ofNat n.val)) = isSgn (UInt8.ofNat n.val)) ∧ (decide (0 ≤ indexByte digL (UInt8.ofNat n.val)) = isDig (UInt8.ofNat n.val)) ∧ indexByte sgnL (UInt8.ofNat n.val) < 36 ∧ digL.contains (UInt8.ofNat n.val) = isDig (UInt8.ofNat n.val) ∧ sgnL.contains (UInt8.ofNat n.val) = isSgn (UInt8.ofNat n.val) ∧ (isDig (UInt8.ofNat n.val) = true → indexByte sgnL (UInt8.ofNat n.val) < 10 ∧ 0 ≤ indexByte sgnL (UInt8.ofNat n.val)) := by decide +kernel
theorem sg_all (c : UInt8) : (decide (0 ≤ indexByte sgnL c) = isSgn c) ∧ (decide (0 ≤ indexByte digL c) = isDig c) ∧ indexByte sgnL c < 36 ∧ digL.contains c = isDig c ∧ sgnL.contains c = isSgn c ∧ (isDig c = true → indexByte sgnL c < 10 ∧ 0 ≤ indexByte sgnL c) := by
  have := sg_nat ⟨c.toNat, c.toNat_lt⟩
  simp only [UInt8.ofNat_toNat] at this
  exact this
theorem sg_pos {c : UInt8} : 0 ≤ indexByte sgnL c ↔ isSgn c = true := by rw [← (sg_all c).1]; simp
theorem dg_pos {c : UInt8} : 0 ≤ indexByte digL c ↔ isDig c = true := by rw [← (sg_all c).2.1]; simp
theorem sg_of {b : Bool} {c : UInt8} : 0 ≤ indexByte (signsOf b) c ↔ among b c = true := by cases b <;> first | exact dg_pos | exact sg_pos
theorem contains_of (b : Bool) (c : UInt8) : (signsOf b).contains c = among b c := by cases b <;> first | exact (sg_all c).2.2.2.1 | exact (sg_all c).2.2.2.2.1
theorem at_nat : ∀ k : Fin 36, indexByte sgnL (sgnL[k.val]'k.isLt) = k.val ∧ isSgn (sgnL[k.val]'k.isLt) = true ∧ (k.val < 10 → isDig (sgnL[k.val]'k.isLt) = true ∧ digL[k.val]? = sgnL[k.val]?) := by decide +kernel
theorem among_sgn {b : Bool} {c : UInt8} (h : among b c = true) : isSgn c = true := by
  cases b
  · show (isDig c || _) = true
    rw [show isDig c = true from h]; rfl
  · exact h

theorem drop_all {α : Type} (p : α → Bool) : ∀ l : List α, l.dropWhile p = [] ↔ l.all p = true
  | [] => by simp
  | x :: l => by
    cases h : p x
    · simp [h]
    · simp [h, drop_all p l]
theorem trim_all (b : Bool) (l : List UInt8) : (trimS l (signsOf b) = []) ↔ l.all (among b) = true := by
  have hf : (fun c => (signsOf b).contains c) = among b := funext (contains_of b)
  unfold trimS trimLeftS trimRightS
  rw [drop_all, hf]
  constructor
  · intro h
    rw [List.all_reverse] at h
    have h2 : (l.reverse.dropWhile (among b)) = [] := by
      cases hd : l.reverse.dropWhile (among b) with
      | nil => rfl
      | cons x r =>
        have h3 := List.head?_dropWhile_not (among b) l.reverse
        rw [hd] at h h3
        simp at h h3
        rw [h.1] at h3
        cases h3
    rw [drop_all, List.all_reverse] at h2
    exact h2
  · intro h
    have : l.reverse.dropWhile (among b) = [] := by rw [drop_all, List.all_reverse]; exact h
    rw [this]; rfl

/-! ## Check digits -/
def sumTo (f : Nat → Int) : Nat → Int
  | 0 => 0
  | n + 1 => sumTo f n + f n
theorem sumTo_bound {f : Nat → Int} {M : Int} : ∀ (n : Nat), (∀ i, i < n → 0 ≤ f i ∧ f i ≤ M) → 0 ≤ sumTo f n ∧ sumTo f n ≤ n * M
  | 0, _ => by unfold sumTo; simp
  | n + 1, h => by
    have h1 := sumTo_bound n (fun i hi => h i (by omega))
    have h2 := h n (by omega)
    show 0 ≤ sumTo f n + f n ∧ sumTo f n + f n ≤ ((n + 1 : Nat) : Int) * M
    rw [show ((n + 1 : Nat) : Int) * M = n * M + M by rw [Int.natCast_add, Int.add_mul]; simp]
    omega
/-- A digit's number. -/
def dv (c : UInt8) : Int := (c.toNat : Int) - 48
def at0 (l : List UInt8) (i : Nat) : UInt8 := l.getD i 0
theorem at0_eq {l : List UInt8} {i : Nat} (h : i < l.length) : at0 l i = l[i] := by unfold at0; rw [List.getD_eq_getElem?_getD, List.getElem?_eq_getElem h]; rfl
def wTerm (l : List UInt8) (i : Nat) : Int := ((i : Int) + 1) * dv (at0 l (i + 1))
def eTerm (l : List UInt8) (i : Nat) : Int := (1 + (i : Int) % 2 * 2) * dv (at0 l i)
def rStep (p : Int) (c : UInt8) : Int := let r := (p + indexByte sgnL c) % 36; 2 * (if r = 0 then 36 else r) % 37
def qTo (l : List UInt8) (k : Nat) : Int := (l.take k).foldl rStep 36
theorem qTo_next {l : List UInt8} {k : Nat} (h : k < l.length) : qTo l (k + 1) = rStep (qTo l k) l[k] := by
  unfold qTo
  rw [List.take_add_one, List.getElem?_eq_getElem h, Option.toList_some, List.foldl_append]; rfl
theorem qTo_bound (l : List UInt8) : ∀ k, 0 ≤ qTo l k ∧ qTo l k ≤ 36
  | 0 => by unfold qTo; simp
  | k + 1 => by
    by_cases h : k < l.length
    · rw [qTo_next h]; unfold rStep; dsimp only; omega
    · have e : l.take (k + 1) = l.take k := by rw [List.take_of_length_le (by omega), List.take_of_length_le (by omega)]
      have h2 := qTo_bound l k
      unfold qTo at h2 ⊢
      rw [e]; exact h2
/-- What the sign's number must be. -/
def chk (kind : Int) (l : List UInt8) : Int :=
  if kind = 1 then (10 - (1 + sumTo (wTerm l) 9) % 10) % 10 else if kind = 2 then (1 - qTo l 10 % 36 + 36) % 36 else (10 - sumTo (eTerm l) 12 % 10) % 10
def two (kind : Int) : Bool := decide (kind = 2)
def kindB (kind : Int) : Bool := decide (1 ≤ kind) && decide (kind ≤ 4)
def bodyB (kind : Int) (l : List UInt8) : Bool :=
  if kind = 1 then decide (l.length = 10) && decide (at0 l 0 = 84) && (l.drop 1).all isDig
  else if kind = 2 then decide (l.length = 10) && l.all isSgn else decide (l.length = 12) && l.all isDig
theorem body1 {l : List UInt8} (h : bodyB 1 l = true) : l.length = 10 ∧ at0 l 0 = 84 ∧ ∀ i, 1 ≤ i → i < 10 → isDig (at0 l i) = true := by
  unfold bodyB at h
  simp only [if_true, Bool.and_eq_true, decide_eq_true_eq] at h
  obtain ⟨⟨h1, h2⟩, h3⟩ := h
  refine ⟨h1, h2, fun i hi hj => ?_⟩
  rw [at0_eq (by omega)]
  rw [List.all_eq_true] at h3
  apply h3
  have : l[i] = (l.drop 1)[i - 1]'(by rw [List.length_drop]; omega) := by rw [List.getElem_drop]; congr 1; omega
  rw [this]
  exact List.getElem_mem _
theorem body2 {l : List UInt8} (h : bodyB 2 l = true) : l.length = 10 ∧ ∀ c ∈ l, isSgn c = true := by
  unfold bodyB at h
  simp only [show ¬ ((2 : Int) = 1) by decide, if_false, if_true, Bool.and_eq_true, decide_eq_true_eq, List.all_eq_true] at h
  exact h
theorem body3 {kind : Int} {l : List UInt8} (h1 : kind ≠ 1) (h2 : kind ≠ 2) (h : bodyB kind l = true) : l.length = 12 ∧ ∀ c ∈ l, isDig c = true := by
  unfold bodyB at h
  rw [if_neg h1, if_neg h2] at h
  simp only [Bool.and_eq_true, decide_eq_true_eq, List.all_eq_true] at h
  exact h
theorem body_len {kind : Int} {l : List UInt8} (h : bodyB kind l = true) : l.length ≤ 12 := by
  by_cases h1 : kind = 1
  · subst h1; have := body1 h; omega
  · by_cases h2 : kind = 2
    · subst h2; have := body2 h; omega
    · have := body3 h1 h2 h; omega
theorem dig_iff {c : UInt8} : isDig c = true ↔ 48 ≤ c.toNat ∧ c.toNat ≤ 57 := by unfold isDig; simp
theorem dv_bound {c : UInt8} (h : isDig c = true) : 0 ≤ dv c ∧ dv c ≤ 9 := by have := dig_iff.1 h; unfold dv; omega
theorem wTerm_bound {l : List UInt8} (h : bodyB 1 l = true) {i : Nat} (hi : i < 9) : 0 ≤ wTerm l i ∧ wTerm l i ≤ 81 := by
  have h2 := dv_bound ((body1 h).2.2 (i + 1) (by omega) (by omega))
  unfold wTerm
  have : ((i : Int) + 1) * dv (at0 l (i + 1)) ≤ 9 * 9 := Int.mul_le_mul (by omega) h2.2 h2.1 (by decide)
  exact ⟨Int.mul_nonneg (by omega) h2.1, this⟩
theorem eTerm_bound {kind : Int} {l : List UInt8} (h1 : kind ≠ 1) (h2 : kind ≠ 2) (h : bodyB kind l = true) {i : Nat} (hi : i < 12) : 0 ≤ eTerm l i ∧ eTerm l i ≤ 27 := by
  have h3 := body3 h1 h2 h
  have h4 := dv_bound (h3.2 (at0 l i) (by rw [at0_eq (by omega)]; exact List.getElem_mem _))
  unfold eTerm
  have : (1 + (i : Int) % 2 * 2) * dv (at0 l i) ≤ 3 * 9 := Int.mul_le_mul (by omega) h4.2 h4.1 (by decide)
  exact ⟨Int.mul_nonneg (by omega) h4.1, this⟩
theorem wSum_bound {l : List UInt8} (h : bodyB 1 l = true) (k : Nat) (hk : k ≤ 9) : 0 ≤ sumTo (wTerm l) k ∧ sumTo (wTerm l) k ≤ 729 := by
  have := sumTo_bound (f := wTerm l) (M := 81) k (fun i hi => wTerm_bound h (by omega))
  omega
theorem eSum_bound {kind : Int} {l : List UInt8} (h1 : kind ≠ 1) (h2 : kind ≠ 2) (h : bodyB kind l = true) (k : Nat) (hk : k ≤ 12) : 0 ≤ sumTo (eTerm l) k ∧ sumTo (eTerm l) k ≤ 324 := by
  have := sumTo_bound (f := eTerm l) (M := 27) k (fun i hi => eTerm_bound h1 h2 h (by omega))
  omega
theorem chk_bound (kind : Int) (l : List UInt8) : 0 ≤ chk kind l ∧ chk kind l < 36 ∧ (kind ≠ 2 → chk kind l < 10) := by
  unfold chk
  split
  · omega
  · split
    · omega
    · omega
/-- The check digit. -/
def chkS (kind : Int) (l : List UInt8) : UInt8 := at0 sgnL (chk kind l).toNat
theorem sgn_at {v : Nat} (h : v < 36) : indexByte sgnL (at0 sgnL v) = v ∧ isSgn (at0 sgnL v) = true := by
  have := at_nat ⟨v, h⟩
  rw [at0_eq (show v < sgnL.length from h)]
  exact ⟨this.1, this.2.1⟩
theorem dig_at {v : Nat} (h : v < 10) : isDig (at0 sgnL v) = true ∧ at0 digL v = at0 sgnL v := by
  have := (at_nat ⟨v, by omega⟩).2.2 h
  refine ⟨?_, ?_⟩
  · rw [at0_eq (show v < sgnL.length from by show v < 36; omega)]; exact this.1
  · unfold at0
    rw [List.getD_eq_getElem?_getD, List.getD_eq_getElem?_getD, this.2]
theorem chkS_idx (kind : Int) (l : List UInt8) : indexByte sgnL (chkS kind l) = chk kind l := by
  have h := chk_bound kind l
  unfold chkS
  rw [(sgn_at (by omega)).1]
  omega
theorem chkS_among (kind : Int) (l : List UInt8) : among (two kind) (chkS kind l) = true := by
  have h := chk_bound kind l
  unfold two
  by_cases h2 : kind = 2
  · rw [decide_eq_true h2]; exact (sgn_at (by omega)).2
  · rw [decide_eq_false h2]; exact (dig_at (by have := h.2.2 h2; omega)).1
theorem idx_inj {a b : UInt8} (ha : isSgn a = true) (h : indexByte sgnL a = indexByte sgnL b) : a = b := by
  have h1 := sg_pos.2 ha
  obtain ⟨n, hn⟩ := Int.eq_ofNat_of_zero_le h1
  have h2 := (indexByte_some hn).1
  have h3 := (indexByte_some (h ▸ hn : indexByte sgnL b = n)).1
  rw [h2] at h3
  exact Option.some.inj h3
/-- Does the sign fit? -/
def fitsB (kind : Int) (l : List UInt8) (c : UInt8) : Bool := decide (c = chkS kind l)
theorem fits_idx {kind : Int} {l : List UInt8} {c : UInt8} : fitsB kind l c = true ↔ indexByte sgnL c = chk kind l := by
  unfold fitsB
  rw [decide_eq_true_eq]
  constructor
  · intro h; rw [h, chkS_idx]
  · intro h
    have h2 := chkS_idx kind l
    exact (idx_inj (among_sgn (chkS_among kind l)) (h2.trans h.symm)).symm
theorem fits_dec (kind : Int) (l : List UInt8) (c : UInt8) : fitsB kind l c = decide (indexByte sgnL c = chk kind l) := by
  rw [Bool.eq_iff_iff, fits_idx, decide_eq_true_eq]
theorem fits_w {l : List UInt8} {c : UInt8} (h : among (two 1) c = true) (hb : bodyB 1 l = true) : decide ((1 + indexByte sgnL c + sumTo (wTerm l) 9) % 10 = 0) = fitsB 1 l c := by
  have h1 := (sg_all c).2.2.2.2.2 h
  have h2 := wSum_bound hb 9 (by omega)
  rw [fits_dec]
  unfold chk
  rw [if_pos rfl]
  apply decide_eq_decide.2
  omega
theorem fits_r {l : List UInt8} {c : UInt8} (h : among (two 2) c = true) : decide ((qTo l 10 + indexByte sgnL c) % 36 = 1) = fitsB 2 l c := by
  have h0 := sg_pos.2 (show isSgn c = true from h)
  have h1 := (sg_all c).2.2.1
  have h2 := qTo_bound l 10
  rw [fits_dec]
  unfold chk
  rw [if_neg (by decide), if_pos rfl]
  apply decide_eq_decide.2
  omega
theorem fits_e {kind : Int} {l : List UInt8} {c : UInt8} (k1 : kind ≠ 1) (k2 : kind ≠ 2) (h : among (two kind) c = true) (hb : bodyB kind l = true) : decide ((indexByte sgnL c + sumTo (eTerm l) 12) % 10 = 0) = fitsB kind l c := by
  have h0 : isDig c = true := by unfold two at h; rw [decide_eq_false k2] at h; exact h
  have h1 := (sg_all c).2.2.2.2.2 h0
  have h2 := eSum_bound k1 k2 hb 12 (by omega)
  rw [fits_dec]
  unfold chk
  rw [if_neg k1, if_neg k2]
  apply decide_eq_decide.2
  omega

/-! ## Codes -/
def cBody (l : List UInt8) : List UInt8 := l.take (l.length - 1)
def cSign (l : List UInt8) : UInt8 := at0 l (l.length - 1)
def codeF (kind : Int) (l : List UInt8) : Int :=
  if kindB kind = false then 4 else if l.length = 0 then 3 else if bodyB kind (cBody l) = false then 3 else if among (two kind) (cSign l) = false then 3 else if fitsB kind (cBody l) (cSign l) = false then 16 else 0
theorem codeF_len {kind : Int} {l : List UInt8} (h : codeF kind l = 0 ∨ codeF kind l = 16) : l.length ≤ 13 := by
  unfold codeF at h
  split at h
  · omega
  · split at h
    · omega
    · split at h
      · omega
      · rename_i h3
        have := body_len (show bodyB kind (cBody l) = true by simpa using h3)
        unfold cBody at this
        rw [List.length_take] at this
        omega
def digF (kind : Int) (l : List UInt8) : Int := if kindB kind = false then 4 else if bodyB kind l = false then 3 else 0
def digS (kind : Int) (l : List UInt8) : List UInt8 := if digF kind l = 0 then [chkS kind l] else []

/-! ## Codes that are near -/
def swapL (l : List UInt8) (j : Nat) : List UInt8 := (l.set j (at0 l (j + 1))).set (j + 1) (at0 l j)
def setsL (l : List UInt8) (i : Nat) : List (List UInt8) := sgnL.map fun c => l.set i c
def tailP (l : List UInt8) (i : Nat) : List (List UInt8) := if 0 < i then [swapL l (i - 1)] else []
def tailR (l : List UInt8) (i : Nat) : List (List UInt8) := if i + 1 < l.length then [swapL l i] else []
def okN (kind : Int) (code s : List UInt8) : Bool := decide (s ≠ code) && decide (codeF kind s = 0)
def toP (l : List UInt8) (k : Nat) : List (List UInt8) := (List.range k).flatMap fun i => setsL l i ++ tailP l i
def toR (l : List UInt8) (k : Nat) : List (List UInt8) := (List.range k).flatMap fun i => setsL l i ++ tailR l i
theorem flat_perm {α β : Type} (f g : α → List β) : ∀ l : List α, (l.flatMap fun x => f x ++ g x).Perm (l.flatMap f ++ l.flatMap g)
  | [] => .refl _
  | x :: l => by
    simp only [List.flatMap_cons]
    have h := flat_perm f g l
    refine (List.Perm.append_left _ h).trans ?_
    rw [List.append_assoc, List.append_assoc]
    refine List.Perm.append_left _ ?_
    rw [← List.append_assoc, ← List.append_assoc]
    exact List.Perm.append_right _ List.perm_append_comm
theorem tails_p (l : List UInt8) : ∀ m, (List.range (m + 1)).flatMap (tailP l) = (List.range m).map (swapL l)
  | 0 => rfl
  | m + 1 => by
    rw [List.range_succ, List.flatMap_append, tails_p l m, List.range_succ, List.map_append]
    congr 1
theorem tails_r (l : List UInt8) : ∀ m, m + 1 ≤ l.length → (List.range m).flatMap (tailR l) = (List.range m).map (swapL l)
  | 0, _ => rfl
  | m + 1, h => by
    rw [List.range_succ, List.flatMap_append, tails_r l m (by omega), List.map_append]
    congr 1
    show tailR l m ++ [] = _
    unfold tailR
    rw [if_pos (by omega)]
    rfl
theorem tails_eq (l : List UInt8) : (List.range l.length).flatMap (tailP l) = (List.range l.length).flatMap (tailR l) := by
  cases h : l.length with
  | zero => rfl
  | succ m =>
    rw [tails_p, List.range_succ, List.flatMap_append, tails_r l m (by omega)]
    have : tailR l m = [] := by unfold tailR; rw [if_neg (by omega)]
    simp [this]
theorem near_perm (l : List UInt8) : (toP l l.length).Perm (toR l l.length) := by
  refine (flat_perm (setsL l) (tailP l) _).trans ?_
  rw [tails_eq]
  exact (flat_perm (setsL l) (tailR l) _).symm
def sortS (l : List (List UInt8)) : List (List UInt8) := l.mergeSort fun x y => decide (x ≤ y)
theorem sortS_perm {l l' : List (List UInt8)} (h : l.Perm l') : sortS l = sortS l' := by
  have tr : ∀ a b c : List UInt8, decide (a ≤ b) = true → decide (b ≤ c) = true → decide (a ≤ c) = true := fun a b c h1 h2 => by
    simp only [decide_eq_true_eq] at h1 h2 ⊢
    exact List.le_trans h1 h2
  have tot : ∀ a b : List UInt8, (decide (a ≤ b) || decide (b ≤ a)) = true := fun a b => by
    rw [Bool.or_eq_true, decide_eq_true_eq, decide_eq_true_eq]
    exact List.le_total a b
  refine List.Perm.eq_of_pairwise (le := fun a b => decide (a ≤ b) = true) (fun a b _ _ h1 h2 => ?_) (List.pairwise_mergeSort tr tot l) (List.pairwise_mergeSort tr tot l') (((List.mergeSort_perm l _).trans h).trans (List.mergeSort_perm l' _).symm)
  simp only [decide_eq_true_eq] at h1 h2
  exact List.le_antisymm h1 h2
def nearL (kind : Int) (l : List UInt8) : List (List UInt8) := compact (sortS ((toP l l.length).filter (okN kind l)))
theorem nearL_r (kind : Int) (l : List UInt8) : nearL kind l = compact (sortS ((toR l l.length).filter (okN kind l))) := by
  unfold nearL
  rw [sortS_perm ((near_perm l).filter _)]
theorem sets_len (l : List UInt8) (i : Nat) : (setsL l i).length = 36 := by unfold setsL; rw [List.length_map]; rfl
theorem toP_len (l : List UInt8) : ∀ k, (toP l k).length ≤ 37 * k
  | 0 => by simp [toP]
  | k + 1 => by
    have h := toP_len l k
    unfold toP at h ⊢
    rw [List.range_succ, List.flatMap_append, List.length_append]
    have : (tailP l k).length ≤ 1 := by unfold tailP; split <;> simp
    simp only [List.flatMap_cons, List.flatMap_nil, List.append_nil, List.length_append, sets_len]
    omega
theorem toR_len (l : List UInt8) : ∀ k, (toR l k).length ≤ 37 * k
  | 0 => by simp [toR]
  | k + 1 => by
    have h := toR_len l k
    unfold toR at h ⊢
    rw [List.range_succ, List.flatMap_append, List.length_append]
    have : (tailR l k).length ≤ 1 := by unfold tailR; split <;> simp
    simp only [List.flatMap_cons, List.flatMap_nil, List.append_nil, List.length_append, sets_len]
    omega
end Go.Proofs.YtajghehicmlajaaDoor


namespace Go.Proofs.YtajghehicmlajaaDoor
open Go.RowKit
set_option linter.unusedVariables false

/-- A new own object that is told by a value. -/
theorem R0.newOb {cx : Cx} {F : Nat → Prop} {ρ : Nat → Value} {e : Env} {σ : Obs} {a : Act} {w w' : World} (hr : R0 cx F ρ e σ a w) {id dst : Nat} {ob : Ob} {v : Value} (hid : ∀ p ∈ σ, p.1 ≠ id) (hd : dst < cx.N) (hbel : Below w.heap.size w w')
    (hob : ObOk cx.B F (fun j => if j = id then v else ρ j) w' id ob) (hnew : ∀ g, blk v = some g → w.heap.size ≤ g) (hfx : cx.free id = true) :
    ∃ ρ', R0 cx F ρ' ((e.kill id).put (some dst) (.own id)) ((id, ob) :: Obs.kill id σ) (a.put (some dst) v) w' := by
  refine ⟨fun j => if j = id then v else ρ j, ?_⟩
  have hE : Ext F w F w' := Ext.of_below hr.lt hbel
  have h2 := hr.turn (ρ' := fun j => if j = id then v else ρ j) (id := id) (ob := ob) (row := none) (w' := w') (F' := F) (fun j hj => by simp [hj])
    ⟨hE.below.os, hE.below.tape, hE.below.output, hE.below.size, fun k hk _ => hE.below.block k hk⟩ hfx (fun g hg => by simp at hg) (fun b hb => hb) (fun b hb => .inl hb) hE.lt hob
    (fun g hg => by rw [if_pos rfl] at hg; exact .inr (hnew g hg)) ((id, ob) :: Obs.kill id σ) (fun p hp => by
      cases hp with
      | head => exact .inl rfl
      | tail _ hp => obtain ⟨q, hq, rfl⟩ := Obs.mem_kill hp; exact .inr ⟨q, hq, hid q hq, rfl⟩)
  exact h2.put (o := ⟨some dst, .ready 0, 0, "", #[], none⟩) (v := v) (s := .own id) (Ext.refl h2.lt) (by
      have := RepS.own (F := F) (ρ := fun j => if j = id then v else ρ j) (w := w') id
      simpa using this) (by simpa [DstOk, Nat.blt_eq] using hd)

/-- The type of bytes. -/
structure U8T (P : Program) (t : TypeId) : Prop where
  hu : P.underlying t = some (.int .u8)
def at0' (l : List UInt8) (i : Nat) : UInt8 := l.getD i 0
section
variable {cx : Cx} {ops : Array Oper} {o : Oper} {rest : List Oper} {e : Env} {σ : Obs} {Q : Post}
/-- []byte(s). -/
theorem AOps.bytesOf {s t el dst : Nat} {x : Operand} {b : ByteArray} (id : Nat) (hg : o.guard = none) (ht : o.dst = some dst) (hdn : Nat.blt dst cx.N = true) (ho : o.op = .convert s t x) (hs : cx.P.underlying s = some .string) (hd : cx.P.underlying t = some (.slice el)) (he : cx.P.underlying el = some (.int .u8))
    (hx : e.ev x = .d (.v (.string b))) (hlen : b.size ≤ 281474976710656) (hid : Obs.fresh id σ = true)
    (k : AOps cx ops rest ((e.kill id).put (some dst) (.own id)) ((id, .bts b.data.toList) :: Obs.kill id σ) Q) (hfx : cx.free id = true := by rfl) : AOps cx ops (o :: rest) e σ Q := by
  intro a w ⟨F, ρ, hr⟩
  have hdn' : dst < cx.N := by simpa [Nat.blt_eq] using hdn
  have r1 := ev_rep (e := e) (x := x) (a := a) (fun t _ => hr.env t)
  rw [hx] at r1
  have hrun := Lib.run_convert_string_bytes w s t el b hs hd he
  have hsz : b.data.toList.length = b.size := (Lib.size_eq b).symm
  have hbel : Below w.heap.size w (Lib.bytesWorld w el b) := ⟨rfl, rfl, rfl, by rw [Lib.bytesWorld_size]; omega, fun j hj => Lib.bytesWorld_at_old w el b j hj⟩
  have hC : BtsC b.data.toList (grownCap w b.size 0 el) (Lib.bytesCells w el b) ((Lib.bytesCells w el b).size, (Lib.bytesCells w el b).size + 1) := by
    refine ⟨?_, by rw [hsz]; exact grownCap_ge _ _ _ _, grownCap_le_maxLen _ _ _ _ (by unfold maxLen; omega), fun j hj => ?_⟩
    · show _ ≤ (Lib.bytesCells w el b).size
      unfold Lib.bytesCells
      rw [Array.size_append, Array.size_map, hsz]
      exact Nat.le_add_right _ _
    · unfold Lib.bytesCells
      rw [Array.getElem?_append_left (by rw [Array.size_map]; simpa using hj)]
      have hj' : j < b.data.size := by simpa using hj
      rw [Array.getElem?_map, Array.getElem?_eq_getElem hj']
      simp
  obtain ⟨ρ', h5⟩ := hr.newOb (ob := .bts b.data.toList) (v := .slice (some ⟨w.heap.size, 0, none⟩) b.size (grownCap w b.size 0 el)) (Obs.fresh_spec hid) hdn' hbel
    ⟨w.heap.size, el, _, _, _, by dsimp only; rw [if_pos rfl, hsz], hr.hB, fun hf => (by have := hr.lt _ hf; omega), Lib.bytesWorld_at_new w el b, hC⟩ (fun g hg => by simp [blk] at hg; omega) hfx
  refine wpList_plain hg fun K hK => ?_
  unfold Oper.wp execOp
  simp only [ho, repS_v r1, Sem.run_bind, hrun, Result.andThen_ok, Sem.run_pure]
  have := k _ _ ⟨F, ρ', h5⟩
  rw [← ht] at this
  exact hK _ _ this

/-- b[k] = c. -/
theorem EOp.storeBts {t id k : Nat} {x y : Operand} {l : List UInt8} {c : UInt8} (ht : o.dst = none) (ho : o.op = .store t x y) (hs : ∀ w, (sizeOf t).run cx.P w = .ok 1 w) (hx : e.ev x = .ptr id k) (hm : (id, Ob.bts l) ∈ σ)
    (hy : e.ev y = .d (.v (.int .u8 (c.toNat : Int)))) (hk : k < l.length) : EOp cx ops o e σ (Obs.upd id (.bts (l.set k c)) σ) := by
  intro F ρ a w e0 hr ha
  have hop : ∀ y ∈ o.op.operands.toList, RepS F ρ w (a.eval y) (e.ev y) := fun y hy => ev_rep fun t ht => ha t (looks_op (by rw [← ht]; exact hy))
  have r1 := hop x (by rw [ho]; simp [Op.operands])
  have r2 := hop y (by rw [ho]; simp [Op.operands])
  rw [hx] at r1
  rw [hy] at r2
  obtain ⟨g, ee, cap, cur, fz, hv, hB, hnF, hh, hC⟩ := hr.obs.ok _ hm
  dsimp only at hv
  have hblk : blk (ρ id) = some g := by rw [hv]; rfl
  have hxv := ptr_at r1 hblk
  have hyv := repS_v r2
  have hcell : w.cell? ⟨g, k, none⟩ = some (.int .u8 (l[k].toNat : Int)) := by rw [cell_of_row w g k cur ee fz hh]; exact hC.hcur k hk
  have hfr : w.frozen? ⟨g, k, none⟩ = false := by
    unfold World.frozen?
    rw [hh]
    have := hC.hfz
    simp
    omega
  have hst : (storeVar t ⟨g, k, none⟩ (.int .u8 (c.toNat : Int))).run cx.P w = .ok () (w.setCell ⟨g, k, none⟩ (.int .u8 (c.toNat : Int))) := by
    have hcs : (Value.int .u8 (c.toNat : Int)).cells = #[.int .u8 (c.toNat : Int)] := rfl
    unfold storeVar
    simp only [Sem.run_bind, hs w, Result.andThen_ok, hcs, List.size_toArray, List.length_cons, List.length_nil, Nat.zero_add, ne_eq, not_true_eq_false, if_false]
    simp only [storeCells, Sem.run_bind, addr_add, Nat.add_zero, run_store cx.P w _ _ _ (show (Value.int .u8 (c.toNat : Int)).oneCell' = true from rfl), hcell, hfr, Bool.false_eq_true, if_false, Result.andThen_ok]
    rfl
  have hturn := setCell_turn w g k (.int .u8 (c.toNat : Int))
  unfold Oper.wp execOp
  simp only [ho, Instr.storeAt, hxv, hyv, Instr.sureAddr, Sem.run_bind, Sem.run_pure, Result.andThen_ok, hst]
  refine ⟨by rw [ht]; rfl, fun e2 hr2 => ⟨F, ρ, ?_⟩⟩
  refine hr2.writeOb hblk hm hB hnF hturn ⟨g, ee, cap, cur.setIfInBounds k (.int .u8 (c.toNat : Int)), fz, by rw [List.length_set]; exact hv, hB, hnF, ?_, ⟨by rw [List.length_set]; exact hC.hfz, by rw [List.length_set]; exact hC.hcap, hC.hmax, fun j hj => ?_⟩⟩
  · unfold World.setCell
    simp [Array.getElem?_modify, hh]
  · rw [List.length_set] at hj
    rw [Array.getElem?_setIfInBounds]
    have hks : k < cur.size := (Array.getElem?_eq_some_iff.1 (hC.hcur k hk)).1
    by_cases h : k = j
    · subst h
      rw [if_pos rfl, if_pos hks]
      simp
    · rw [if_neg h, hC.hcur j hj]
      simp [h]
theorem AOps.storeBts {t id k : Nat} {x y : Operand} {l : List UInt8} {c : UInt8} (hg : o.guard = none) (ht : o.dst = none) (ho : o.op = .store t x y) (hs : ∀ w, (sizeOf t).run cx.P w = .ok 1 w) (hx : e.ev x = .ptr id k) (hm : (id, Ob.bts l) ∈ σ)
    (hy : e.ev y = .d (.v (.int .u8 (c.toNat : Int)))) (hk : k < l.length) (q : AOps cx ops rest e (Obs.upd id (.bts (l.set k c)) σ) Q) : AOps cx ops (o :: rest) e σ Q :=
  .eff hg ht (.storeBts ht ho hs hx hm hy hk) q

/-- The row is data from here on. -/
theorem R0.freezeBts {F : Nat → Prop} {ρ : Nat → Value} {a : Act} {w : World} (h : R0 cx F ρ e σ a w) {t id : Nat} {l : List UInt8} (ht : e t = .own id) (hm : (id, Ob.bts l) ∈ σ) :
    ∃ F', R0 cx F' ρ (e.put (some t) (.d (.sl (l.map u8D)))) (Obs.del id σ) a w := by
  have hF2 : ∀ b, (F b ∨ blk (ρ id) = some b) → b < w.heap.size := fun b hb => by
    rcases hb with hb | hb
    · exact h.lt b hb
    · exact ((h.obs.ok _ hm).blk_lt hb).2
  refine ⟨fun b => F b ∨ blk (ρ id) = some b, h.size, h.defers, hF2, fun b hb => .inl (h.base b hb), fun b hb => ?_, h.below, h.hB, fun u => ?_, ?_, h.up, fun p hp => h.kown p (Obs.mem_del hp).1, h.fixed⟩
  · rcases hb with hb | hb
    · exact h.new b hb
    · exact .inr (h.kown _ hm b hb)
  · by_cases hu : u = t
    · subst hu
      rw [Env.put_same]
      have h1 := h.env u
      rw [ht] at h1
      generalize a.tmps.getD u undef = x at h1
      cases h1
      obtain ⟨g, ee, cap, cur, fz, hv, hB, hnF, hh, hC⟩ := h.obs.ok _ hm
      dsimp only at hv
      have hl : (l.map u8D).length = l.length := List.length_map ..
      have hr : Rep (fun b => F b ∨ blk (ρ id) = some b) w (.slice (some ⟨g, 0, none⟩) (l.map u8D).length cap) (.sl (l.map u8D)) := by
        refine .sl ⟨g, 0, none⟩ cap 1 (l.map u8D) (fun i _ => .int .u8 ((at0' l i).toNat : Int)) (by rw [hl]; exact hC.hcap) hC.hmax (fun _ => .inr (by rw [hv]; rfl)) (fun i hi => by simp [u8D]) (fun i j hi hj => ?_) (fun _ _ _ _ => rfl) (fun i hi j hj => ?_)
        · rw [hl] at hi
          obtain rfl : j = 0 := by omega
          rw [addr_add, Nat.mul_one, Nat.add_zero, Nat.zero_add, cell_of_row w g i cur ee fz hh, hC.hcur i hi]
          simp [at0', List.getD_eq_getElem?_getD, List.getElem?_eq_getElem hi]
        · rw [hl] at hi
          simp only [List.getElem_map] at hj ⊢
          unfold u8D at hj ⊢
          obtain rfl : j = 0 := by simpa using hj
          simp only [List.getElem_cons_zero]
          rw [show at0' l i = l[i] by simp [at0', List.getD_eq_getElem?_getD, List.getElem?_eq_getElem hi]]
          exact .v _
      rw [hl, ← hv] at hr
      exact .d hr
    · rw [Env.put_other _ _ _ _ hu]
      exact RepS.turn (row := none) (h.env u) h.lt (fun g hg => by simp at hg) ⟨rfl, rfl, rfl, Nat.le_refl _, fun _ _ _ => rfl⟩ (fun b hb => .inl hb)
  · refine ⟨fun p hp => ?_, fun p hp q hq => h.obs.apart p (Obs.mem_del hp).1 q (Obs.mem_del hq).1, fun p hp q hq => h.obs.uniq p (Obs.mem_del hp).1 q (Obs.mem_del hq).1⟩
    obtain ⟨h1, h2⟩ := Obs.mem_del hp
    have h3 := h.obs.ok p h1
    have hne : ∀ g, blk (ρ p.1) = some g → blk (ρ id) ≠ some g := fun g hg => h.obs.apart p h1 _ hm h2 g hg
    exact h3.more h.lt (fun b hb => .inl hb) (fun g hg hf => by
      rcases hf with hf | hf
      · exact h3.nF hg hf
      · exact hne g hg hf)
theorem AOps.freezeBts (t : Nat) {id : Nat} {l : List UInt8} (ht : e t = .own id) (hm : (id, Ob.bts l) ∈ σ) (k : AOps cx ops rest (e.put (some t) (.d (.sl (l.map u8D)))) (Obs.del id σ) Q) : AOps cx ops rest e σ Q :=
  fun a w ⟨_, ρ, hr⟩ => by
    obtain ⟨F', h⟩ := hr.freezeBts ht hm
    exact k a w ⟨F', ρ, h⟩
theorem AWP.freezeBts {c : Code} (t : Nat) {id : Nat} {l : List UInt8} (ht : e t = .own id) (hm : (id, Ob.bts l) ∈ σ) (k : AWP cx c (e.put (some t) (.d (.sl (l.map u8D)))) (Obs.del id σ) Q) : AWP cx c e σ Q :=
  fun a w ⟨_, ρ, hr⟩ => by
    obtain ⟨F', h⟩ := hr.freezeBts ht hm
    exact k a w ⟨F', ρ, h⟩
end

section
variable {P : Program} {B : Nat} {ops : Array Oper} {o : Oper} {e : Env} {σ : Obs}
/-- The address of a byte of such a row. -/
theorem AOp.indexBts {t el : TypeId} {x ix : Operand} {bytes id : Nat} {z : Value} {n : Int} {l : List UInt8} (ho : o.op = .indexAddr t x ix) (T : ElemTy P t el 1 bytes z) (hx : e.ev x = .own id) (hi : e.ev ix = .d (.v (.int .i64 n)))
    (hm : (id, Ob.bts l) ∈ σ) (k : Nat) (hk : n = k) (hlt : k < l.length) : AOp P B ops o e σ (.ptr id k) :=
  .value fun F ρ w a hF hr hσ => by
  have h1 := hr x (by rw [ho]; simp [Op.operands])
  have h2 := hr ix (by rw [ho]; simp [Op.operands])
  rw [hx] at h1
  rw [hi] at h2
  have hv2 := repS_v h2
  obtain ⟨g, ee, cap, cur, fz, h7, _⟩ := hσ.ok _ hm
  dsimp only at h7
  have hv : a.eval x = ρ id := by generalize a.eval x = v at h1; cases h1; rfl
  refine ⟨.pointer (some ⟨g, k, none⟩), F, w, ?_, .ptr id _ g (by rw [h7]; rfl), Ext.refl hF⟩
  unfold execOp
  simp only [ho, hv, h7, hv2, hk]
  simp [Instr.indexAt, run_underlying T.ht, asIntOf, hlt, T.sizeOf, addr_add]
/-- b[k]. -/
theorem AOp.loadBts {t : TypeId} {x : Operand} {id k : Nat} {l : List UInt8} {c : UInt8} (ho : o.op = .load t x) (hT : Scal P t) (hx : e.ev x = .ptr id k) (hm : (id, Ob.bts l) ∈ σ) (hc : l[k]? = some c) :
    AOp P B ops o e σ (.d (.v (.int .u8 (c.toNat : Int)))) :=
  .value fun F ρ w a hF hr hσ => by
  have h1 := hr x (by rw [ho]; simp [Op.operands])
  rw [hx] at h1
  obtain ⟨g, ee, cap, cur, fz, h7, _, _, hh, hC⟩ := hσ.ok _ hm
  dsimp only at h7
  have hv := ptr_at h1 (g := g) (by rw [h7]; rfl)
  obtain ⟨hk, hk2⟩ := List.getElem?_eq_some_iff.1 hc
  have hcell : w.cell? ⟨g, k, none⟩ = some (.int .u8 (c.toNat : Int)) := by rw [cell_of_row w g k cur ee fz hh, hC.hcur k hk, hk2]
  refine ⟨_, F, w, ?_, .d (.v _), Ext.refl hF⟩
  unfold execOp
  simp only [ho, hv, Instr.loadAt, Instr.sureAddr, loadVar, Sem.run_bind, Sem.run_pure, Result.andThen_ok, hT w, Bool.false_eq_true, if_false, run_load, hcell]
end
end Go.Proofs.YtajghehicmlajaaDoor


namespace Go.Proofs.YtajghehicmlajaaDoor
open Go.RowKit Go.Lib
set_option linter.unusedVariables false

theorem bStr_inj {a b : List UInt8} (h : bStr a = bStr b) : a = b := by
  have := congrArg (fun x : ByteArray => x.data.toList) h
  exact this
theorem bStr_ne {a b : List UInt8} : bStr a ≠ bStr b ↔ a ≠ b := ⟨fun h e => h (by rw [e]), fun h e => h (bStr_inj e)⟩
theorem bStr_app (a b : List UInt8) : bStr a ++ bStr b = bStr (a ++ b) := by
  apply ByteArray.ext
  rw [ByteArray.data_append]
  simp [bStr]
theorem bStr_cut (l : List UInt8) (i j : Nat) : (bStr l).extract i j = bStr ((l.drop i).take (j - i)) := ByteArray.extract_mk l i j

theorem c_idx (l : List UInt8) (c : UInt8) : ACall Tryd.prog 28 [.v (.string (bStr l)), .v (.int .u8 (c.toNat : Int))] (.v (.int .i64 (indexByte l c))) :=
  acall_exact (us := [_, _]) (.of Tryd.func28 (by kernel_rfl) rfl) fun w => by
    have h := Any.strings_IndexByte Tryd.l137 (bStr l) (c.toNat : Int) w
    change Calls Tryd.prog 28 #[.string (bStr l), .int .u8 (c.toNat : Int)] w _ at h
    refine h.mono fun _ _ ⟨h1, h2⟩ => ⟨?_, h2 ▸ Below.refl _ _⟩
    rw [h1, bStr_list]
    simp
theorem c_trimAll (b : Bool) (l : List UInt8) (hl : l.length ≤ 9223372036854775807) : ACall Tryd.prog 51 [.v (.string (bStr l)), .v (.string (bStr (signsOf b)))] (.v (.string (bStr (trimS l (signsOf b))))) :=
  acall_exact (us := [_, _]) (.of Tryd.func51 (by kernel_rfl) rfl) fun w => by
    have h := Any.strings_Trim_laid Tryd.l160 (by kernel_rfl) (bStr l) (bStr (signsOf b)) w (by rw [bStr_size]; exact hl) (by rw [bStr_size]; cases b <;> decide) (ascii_of_all (by rw [bStr_list]; cases b <;> decide))
    change Calls Tryd.prog 51 #[.string (bStr l), .string (bStr (signsOf b))] w _ at h
    exact h

/-- What the library's sort does to a row of strings of the caller's. -/
theorem row_strs {B : Nat} {F : Nat → Prop} {ρ : Nat → Value} {w : World} {id e : Nat} {xs : List (List UInt8)} (h : ObOk B F ρ w id (.row e 1 (xs.map fldD))) :
    (ρ id = .slice none 0 0 ∧ xs = []) ∨ ∃ g cap cur, ρ id = .slice (some ⟨g, 0, none⟩) xs.length cap ∧ B ≤ g ∧ w.heap[g]? = some (.cells cur e (0, 0)) ∧ xs.length ≤ cap ∧ cap ≤ maxLen ∧ cur.size = cap ∧ (∀ i, (hi : i < xs.length) → cur[i]? = some (.string ⟨xs[i].toArray⟩)) ∧ ¬ F g := by
  obtain ⟨ys, h1, h2, h3, h4⟩ := h
  have hl : (xs.map fldD).length = xs.length := List.length_map ..
  rw [hl] at h1
  have h1' : w.ownsRow B e 1 (ρ id) xs.length (flat ys xs.length 1) := h1
  rcases h1'.2 with ⟨h5, h6⟩ | ⟨g, cap, cur, h5, h6, h7, h8, h9, h10, h11⟩
  · exact .inl ⟨h5, List.eq_nil_of_length_eq_zero h6⟩
  · refine .inr ⟨g, cap, cur, h5, h6, h7, h8, h9, by rw [h10, Nat.mul_one], fun i hi => ?_, h4 g (by rw [h5]; rfl)⟩
    have hc := row_cell h1' h5 h7 hi (show 0 < 1 by omega)
    rw [cell_of_row w g (i * 1 + 0) cur e (0, 0) h7, Nat.mul_one, Nat.add_zero] at hc
    have h12 := (h3 i (by rw [hl]; exact hi) 0 (by simp [fldD])).2
    simp only [List.getElem_map, fldD, List.getElem_cons_zero] at h12
    rw [hc, rep_v h12]
theorem strs_row {B : Nat} {F : Nat → Prop} {ρ : Nat → Value} {w : World} {id e g cap : Nat} {cur : Array Value} {xs : List (List UInt8)} (h5 : ρ id = .slice (some ⟨g, 0, none⟩) xs.length cap) (h6 : B ≤ g) (h7 : w.heap[g]? = some (.cells cur e (0, 0))) (h8 : xs.length ≤ cap) (h9 : cap ≤ maxLen) (h10 : cur.size = cap)
    (hc : ∀ i, (hi : i < xs.length) → cur[i]? = some (.string ⟨xs[i].toArray⟩)) (hF : ¬ F g) : ObOk B F ρ w id (.row e 1 (xs.map fldD)) := by
  have hl : (xs.map fldD).length = xs.length := List.length_map ..
  refine ⟨fun i _ => .string ⟨(xs.getD i []).toArray⟩, ?_, fun i hi => by simp [fldD], fun i hi j hj => ⟨rfl, ?_⟩, fun g' hg' => ?_⟩
  · rw [hl]
    refine ⟨flat_length _ _ _, .inr ⟨g, cap, cur, h5, h6, h7, h8, h9, by rw [h10, Nat.mul_one], ?_⟩⟩
    apply List.ext_getElem?
    intro p
    by_cases hp : p < xs.length
    · have := flatten_get (fun i _ => Value.string ⟨(xs.getD i []).toArray⟩) 1 xs.length p 0 hp (by omega)
      rw [Nat.mul_one, Nat.add_zero] at this
      rw [this, Nat.mul_one, List.getElem?_take, if_pos hp, Array.getElem?_toList, hc p hp]
      simp [List.getD_eq_getElem?_getD, List.getElem?_eq_getElem hp]
    · rw [List.getElem?_eq_none (by rw [List.length_take]; omega)]
      exact (List.getElem?_eq_none (by have := flat_length (fun i _ => Value.string ⟨(xs.getD i []).toArray⟩) xs.length 1; unfold flat at this; rw [this]; omega)).symm
  · rw [hl] at hi
    simp only [List.getElem_map, fldD] at hj ⊢
    obtain rfl : j = 0 := by simpa using hj
    simp only [List.getElem_cons_zero, List.getD_eq_getElem?_getD, List.getElem?_eq_getElem hi, Option.getD_some]
    exact .v _
  · rw [h5] at hg'
    simp [blk] at hg'
    subst hg'
    exact hF
theorem repSL_one {F : Nat → Prop} {ρ : Nat → Value} {w : World} {vs : List Value} {id : Nat} (h : RepSL F ρ w vs [.own id]) : vs = [ρ id] := by
  obtain ⟨v, rfl⟩ : ∃ v, vs = [v] := by
    match vs, h.1 with
    | [v], _ => exact ⟨v, rfl⟩
  have h1 := h.2 0 (by simp) (by simp)
  simp only [List.getElem_cons_zero] at h1
  cases h1
  rfl
/-- The world behind such a call: the row's cells hold ys (and more, up to its old end). -/
theorem put_block {w : World} {g n e cap : Nat} {cur : Array Value} {os : Array Obj} {zs : List (List UInt8)} (h : w.heap[g]? = some (.cells cur e (0, 0))) :
    (Sort.grow (Sort.putRow encStr (Sort.ahead w n) g 0 zs.toArray) os).heap[g]? = some (.cells (Sort.putCells encStr 0 zs.toArray cur) e (0, 0)) ∧
    (∀ k, k < w.heap.size → k ≠ g → (Sort.grow (Sort.putRow encStr (Sort.ahead w n) g 0 zs.toArray) os).heap[k]? = w.heap[k]?) := by
  have hg : g < w.heap.size := (Array.getElem?_eq_some_iff.1 h).1
  have hs : ∀ k, k < w.heap.size → (Sort.grow (Sort.putRow encStr (Sort.ahead w n) g 0 zs.toArray) os).heap[k]? = (Sort.putRow encStr (Sort.ahead w n) g 0 zs.toArray).heap[k]? := fun k hk => Sort.heap_grow_old _ _ (by rw [Sort.size_putRow]; exact hk)
  refine ⟨?_, fun k hk hne => ?_⟩
  · rw [hs g hg]
    show (w.heap.modify g _)[g]? = _
    rw [Array.getElem?_modify, if_pos rfl, h]
    rfl
  · rw [hs k hk]
    show (w.heap.modify g _)[k]? = _
    rw [Array.getElem?_modify, if_neg (Ne.symm hne)]
theorem put_cells (zs : List (List UInt8)) (cur : Array Value) (hl : zs.length ≤ cur.size) (i : Nat) (hi : i < zs.length) : (Sort.putCells encStr 0 zs.toArray cur)[i]? = some (.string ⟨zs[i].toArray⟩) := by
  unfold Sort.putCells
  rw [Array.getElem?_mapIdx, Array.getElem?_eq_getElem (by omega), Option.map_some, if_pos ⟨Nat.zero_le _, by simpa using hi⟩]
  simp [hi]
theorem holds_strs {w : World} {g e cap : Nat} {cur : Array Value} {xs : List (List UInt8)} (h7 : w.heap[g]? = some (.cells cur e (0, 0))) (hc : ∀ i, (hi : i < xs.length) → cur[i]? = some (.string ⟨xs[i].toArray⟩)) : Sort.Holds encStr w g 0 xs.toArray := by
  intro j hj
  have hj' : j < xs.length := by simpa using hj
  rw [Nat.zero_add, cell_of_row w g j cur e (0, 0) h7, hc j hj']
  refine ⟨by simp [hj'], ?_⟩
  unfold World.frozen?
  rw [h7]
  simp
theorem c_sort (xs : List (List UInt8)) (hn : xs.length < 4611686018427387904) (e : Nat) : RCall Tryd.prog 26 e 1 (xs.map fldD) ((sortS xs).map fldD) [] (.tup []) := by
  intro id
  refine ⟨.of Tryd.func26 (by kernel_rfl) rfl, fun F ρ B w vs hF hB hσ hv => ?_⟩
  obtain rfl := repSL_one hv
  have hsl : (sortS xs).length = xs.length := by unfold sortS; exact List.length_mergeSort _
  rcases row_strs (hσ.ok _ (List.mem_singleton.2 rfl)) with ⟨h1, h2⟩ | ⟨g, cap, cur, h5, h6, h7, h8, h9, h10, h11, h12⟩
  · subst h2
    rw [h1]
    have h := Any.slices_Sort_string_none Tryd.l190 none 0 w
    change Calls Tryd.prog 26 #[.slice none 0 0] w _ at h
    refine h.mono fun e' w' ⟨he, hw⟩ => ?_
    subst hw
    refine ⟨_, F, ρ, he, .tup [] [] rfl (fun i h1 => by simp at h1), fun _ hb => hb, fun _ hb => .inl hb, hF, Kept.refl _ _, ?_, ?_, fun _ _ => rfl⟩
    · have : (sortS ([] : List (List UInt8))).map fldD = ([] : List (List UInt8)).map fldD := by unfold sortS; rw [List.mergeSort_nil]
      rw [this]
      exact hσ
    · intro p hp g hg
      have : p = (id, .row e 1 ((sortS ([] : List (List UInt8))).map fldD)) := by simpa using hp
      subst this
      rw [h1] at hg
      simp [blk] at hg
  · rw [h5]
    have hg : g < w.heap.size := (Array.getElem?_eq_some_iff.1 h7).1
    have h := Any.slices_Sort_string Tryd.l190 g 0 cap xs w (holds_strs (cap := cap) h7 h11) hg hn
    change Calls Tryd.prog 26 #[.slice (some ⟨g, 0, none⟩) xs.length cap] w _ at h
    refine h.mono fun e' w' ⟨he, n, os, hw⟩ => ?_
    obtain ⟨hb1, hb2⟩ := put_block (n := n) (os := os) (zs := sortS xs) (cap := cap) h7
    have hw2 : w' = Sort.grow (Sort.putRow encStr (Sort.ahead w n) g 0 (sortS xs).toArray) os := hw
    have hsz : w.heap.size ≤ w'.heap.size := by rw [hw2, Sort.size_grow, Sort.size_putRow]; exact Nat.le_add_right _ _
    have hob : ownB [(id, Ob.row e 1 (xs.map fldD))] ρ g := ⟨_, List.mem_singleton.2 rfl, by rw [h5]; rfl⟩
    refine ⟨_, F, ρ, he, .tup [] [] rfl (fun i h1 => by simp at h1), fun _ hb => hb, fun _ hb => .inl hb, fun b hb => Nat.lt_of_lt_of_le (hF b hb) hsz, ⟨by rw [hw2]; rfl, by rw [hw2]; rfl, by rw [hw2]; rfl, hsz, fun k hk hne => ?_⟩, ?_, ?_, fun _ _ => rfl⟩
    · rw [hw2]
      exact hb2 k hk (fun he => hne (.inr (he ▸ hob)))
    · refine ⟨fun p hp => ?_, fun p hp q hq hne => ?_, fun p hp q hq _ => ?_⟩
      · have : p = (id, .row e 1 ((sortS xs).map fldD)) := by simpa using hp
        subst this
        exact strs_row (by rw [hsl]; exact h5) h6 (by rw [hw2]; exact hb1) (by rw [hsl]; exact h8) h9 (by simp [Sort.putCells, h10]) (fun i hi => put_cells _ _ (by rw [hsl, h10]; exact h8) i hi) h12
      · have h1 : p = (id, .row e 1 ((sortS xs).map fldD)) := by simpa using hp
        have h2 : q = (id, .row e 1 ((sortS xs).map fldD)) := by simpa using hq
        rw [h1, h2] at hne
        exact absurd rfl hne
      · have h1 : p = (id, .row e 1 ((sortS xs).map fldD)) := by simpa using hp
        have h2 : q = (id, .row e 1 ((sortS xs).map fldD)) := by simpa using hq
        rw [h1, h2]
    · intro p hp g' hg'
      have : p = (id, .row e 1 ((sortS xs).map fldD)) := by simpa using hp
      subst this
      exact .inr ⟨_, List.mem_singleton.2 rfl, hg'⟩
/-- slices.Compact takes the row; what it returns is data. -/
theorem c_compact (xs : List (List UInt8)) (hn : xs.length ≤ 9223372036854775807) (e id : Nat) : XCall Tryd.prog 27 [.own id] [(id, .row e 1 (xs.map fldD))] [] (fun _ => false) (.sl ((compact xs).map fldD)) := by
  refine ⟨.of Tryd.func27 (by kernel_rfl) rfl, fun F ρ B w vs hF hB hσ hv => ?_⟩
  obtain rfl := repSL_one hv
  have hnil : ∀ {B : Nat} {F : Nat → Prop} {w : World}, ObsOk B F ρ w [] := ⟨fun p hp => (nomatch hp), fun p hp => (nomatch hp), fun p hp => (nomatch hp)⟩
  rcases row_strs (hσ.ok _ (List.mem_singleton.2 rfl)) with ⟨h1, h2⟩ | ⟨g, cap, cur, h5, h6, h7, h8, h9, h10, h11, h12⟩
  · subst h2
    rw [h1]
    have h := Any.slices_Compact_string_empty Tryd.l194 none 0 w
    change Calls Tryd.prog 27 #[.slice none 0 0] w _ at h
    refine h.mono fun e' w' ⟨he, hw⟩ => ?_
    subst hw
    exact ⟨_, F, ρ, he, .nil, fun _ hb => hb, fun _ hb => .inl hb, hF, Kept.refl _ _, hnil, fun p hp => (nomatch hp), fun _ _ => rfl⟩
  · rw [h5]
    have hg : g < w.heap.size := (Array.getElem?_eq_some_iff.1 h7).1
    have h := Any.slices_Compact_string Tryd.l194 g 0 cap xs w (holds_strs (cap := cap) h7 h11) hn h8
    change Calls Tryd.prog 27 #[.slice (some ⟨g, 0, none⟩) xs.length cap] w _ at h
    refine h.mono fun e' w' ⟨he, n, hw⟩ => ?_
    obtain ⟨hb1, hb2⟩ := put_block (n := n) (os := #[]) (zs := compact xs ++ List.replicate (xs.length - (compact xs).length) []) (cap := cap) h7
    have hw2 : w' = Sort.grow (Sort.putRow encStr (Sort.ahead w n) g 0 (compact xs ++ List.replicate (xs.length - (compact xs).length) []).toArray) #[] := by rw [Sort.grow_empty]; exact hw
    have hsz : w.heap.size ≤ w'.heap.size := by rw [hw2, Sort.size_grow, Sort.size_putRow]; exact Nat.le_add_right _ _
    have hob : ownB [(id, Ob.row e 1 (xs.map fldD))] ρ g := ⟨_, List.mem_singleton.2 rfl, by rw [h5]; rfl⟩
    have hcl := compact_length_le xs
    have hl : ((compact xs).map fldD).length = (compact xs).length := List.length_map ..
    have hr : Rep (fun b => F b ∨ b = g) w' (.slice (some ⟨g, 0, none⟩) ((compact xs).map fldD).length cap) (.sl ((compact xs).map fldD)) := by
      refine .sl ⟨g, 0, none⟩ cap 1 _ (fun i _ => .string ⟨((compact xs).getD i []).toArray⟩) (by rw [hl]; omega) (by unfold maxLen at h9; omega) (fun _ => .inr rfl) (fun i hi => by simp [fldD]) (fun i j hi hj => ?_) (fun _ _ _ _ => rfl) (fun i hi j hj => ?_)
      · rw [hl] at hi
        obtain rfl : j = 0 := by omega
        rw [addr_add, Nat.mul_one, Nat.add_zero, Nat.zero_add, hw2, cell_of_row _ g i _ e (0, 0) hb1, put_cells _ _ (by rw [List.length_append, List.length_replicate, h10]; omega) i (by rw [List.length_append]; omega)]
        rw [List.getElem_append_left hi]
        simp [List.getD_eq_getElem?_getD, List.getElem?_eq_getElem hi]
      · rw [hl] at hi
        simp only [List.getElem_map, fldD] at hj ⊢
        obtain rfl : j = 0 := by simpa using hj
        simp only [List.getElem_cons_zero, List.getD_eq_getElem?_getD, List.getElem?_eq_getElem hi, Option.getD_some]
        exact .v _
    rw [hl] at hr
    refine ⟨_, _, ρ, he, hr, fun _ hb => .inl hb, fun b hb => ?_, fun b hb => ?_, ⟨by rw [hw2]; rfl, by rw [hw2]; rfl, by rw [hw2]; rfl, hsz, fun k hk hne => ?_⟩, hnil, fun p hp => (nomatch hp), fun _ _ => rfl⟩
    · rcases hb with hb | rfl
      · exact .inl hb
      · exact .inr (.inr hob)
    · rcases hb with hb | rfl
      · exact Nat.lt_of_lt_of_le (hF b hb) hsz
      · exact Nat.lt_of_lt_of_le hg hsz
    · rw [hw2]
      exact hb2 k hk (fun he => hne (.inr (he ▸ hob)))

section
variable {P : Program} {B : Nat} {ops : Array Oper} {o : Oper} {e : Env} {σ : Obs}
/-- s[:h]. -/
theorem AOp.sliceTo {t : TypeId} {x hi : Operand} {l : List UInt8} {n : Int} (ho : o.op = .slice t x none (some hi) none) (ht : P.underlying t = some .string) (hx : e.ev x = .d (.v (.string (bStr l))))
    (hh : e.ev hi = .d (.v (.int .i64 n))) (k : Nat) (hn : n = k) (h1 : k ≤ l.length) : AOp P B ops o e σ (.d (.v (.string (bStr (l.take k))))) := .value fun F ρ w a hF hr _ => by
  have r1 := hr x (by rw [ho]; simp [Op.operands])
  have r2 := hr hi (by rw [ho]; simp [Op.operands])
  rw [hx] at r1; rw [hh, hn] at r2
  refine ⟨_, F, w, ?_, .d (.v _), Ext.refl hF⟩
  unfold execOp
  simp only [ho, repS_v r1, repS_v r2, Option.map_some, Option.map_none]
  rw [Sem.run_bind, run_sliceAt_string w t _ _ _ _ ht, run_slice_string_h w t (bStr l) ht .i64 k (by omega) (by rw [bStr_size]; omega), bStr_cut]
  simp
/-- s[i:]. -/
theorem AOp.sliceFrom {t : TypeId} {x lo : Operand} {l : List UInt8} {n : Int} (ho : o.op = .slice t x (some lo) none none) (ht : P.underlying t = some .string) (hx : e.ev x = .d (.v (.string (bStr l))))
    (hh : e.ev lo = .d (.v (.int .i64 n))) (k : Nat) (hn : n = k) (h1 : k ≤ l.length) : AOp P B ops o e σ (.d (.v (.string (bStr (l.drop k))))) := .value fun F ρ w a hF hr _ => by
  have r1 := hr x (by rw [ho]; simp [Op.operands])
  have r2 := hr lo (by rw [ho]; simp [Op.operands])
  rw [hx] at r1; rw [hh, hn] at r2
  refine ⟨_, F, w, ?_, .d (.v _), Ext.refl hF⟩
  unfold execOp
  simp only [ho, repS_v r1, repS_v r2, Option.map_some, Option.map_none]
  rw [Sem.run_bind, run_sliceAt_string w t _ _ _ _ ht, run_slice_string_l w t (bStr l) ht .i64 k (by omega) (by rw [bStr_size]; omega), Int.toNat_natCast, bStr_drop]
  rfl
/-- s[i:j]. -/
theorem AOp.sliceMid {t : TypeId} {x lo hi : Operand} {l : List UInt8} {n m : Int} (ho : o.op = .slice t x (some lo) (some hi) none) (ht : P.underlying t = some .string) (hx : e.ev x = .d (.v (.string (bStr l))))
    (hlo : e.ev lo = .d (.v (.int .i64 n))) (hh : e.ev hi = .d (.v (.int .i64 m))) (i j : Nat) (hn : n = i) (hm : m = j) (h0 : i ≤ j) (h1 : j ≤ l.length) : AOp P B ops o e σ (.d (.v (.string (bStr ((l.drop i).take (j - i)))))) := .value fun F ρ w a hF hr _ => by
  have r1 := hr x (by rw [ho]; simp [Op.operands])
  have r2 := hr lo (by rw [ho]; simp [Op.operands])
  have r3 := hr hi (by rw [ho]; simp [Op.operands])
  rw [hx] at r1; rw [hlo, hn] at r2; rw [hh, hm] at r3
  refine ⟨_, F, w, ?_, .d (.v _), Ext.refl hF⟩
  unfold execOp
  simp only [ho, repS_v r1, repS_v r2, repS_v r3, Option.map_some, Option.map_none]
  rw [Sem.run_bind, run_sliceAt_string w t _ _ _ _ ht, run_slice_string w t (bStr l) .i64 .i64 i j ht (by omega) (by omega) (by rw [bStr_size]; omega), Int.toNat_natCast, Int.toNat_natCast, bStr_cut]
  rfl
/-- a + b. -/
theorem AOp.cat {t ty : TypeId} {x y : Operand} {a b : List UInt8} (ho : o.op = .binOp .add t x y ty) (hx : e.ev x = .d (.v (.string (bStr a)))) (hy : e.ev y = .d (.v (.string (bStr b)))) (hl : a.length + b.length ≤ 9223372036854775807) :
    AOp P B ops o e σ (.d (.v (.string (bStr (a ++ b))))) := by
  rw [← bStr_app]
  exact .bin ho hx hy fun w => by
    rw [Sem.run_bind, eqGuard_str]
    exact run_string_add_sum (P := P) (w := w) (bStr a) (bStr b) (by rw [bStr_size, bStr_size]; exact hl)
end
end Go.Proofs.YtajghehicmlajaaDoor


namespace Go.Proofs.YtajghehicmlajaaDoor
open Go.RowKit
set_option linter.unusedVariables false

/-! Types. -/
namespace TyJ3
theorem st_9 : Tryd.prog.underlying 9 = some .string := by kernel_rfl
end TyJ3
open TyJ3


open Go.Lib
theorem kindB_t {kind : Int} (h : kind ≥ 1) : kindB kind = decide (kind ≤ 4) := by unfold kindB; rw [decide_eq_true (show 1 ≤ kind by omega), Bool.true_and]
theorem kindB_f {kind : Int} (h : ¬ kind ≥ 1) : kindB kind = false := by unfold kindB; rw [decide_eq_false (show ¬ 1 ≤ kind by omega), Bool.false_and]
theorem bStr_dec (a b : List UInt8) : decide (bStr a = bStr b) = decide (a = b) := decide_eq_decide.2 ⟨bStr_inj, fun h => by rw [h]⟩
theorem bStr_decn (a b : List UInt8) : decide (bStr a ≠ bStr b) = decide (a ≠ b) := decide_eq_decide.2 bStr_ne
def bEmp : ByteArray := ⟨#[]⟩
theorem trim_dec (b : Bool) (l : List UInt8) : decide (bStr (trimS l (signsOf b)) = bEmp) = l.all (among b) := by
  rw [show bEmp = bStr [] from rfl, bStr_dec, Bool.eq_iff_iff, decide_eq_true_eq, trim_all]
theorem pre_T {l : List UInt8} : hasPrefix l [84] = (decide (1 ≤ l.length) && decide (at0 l 0 = 84)) := by
  unfold hasPrefix at0
  cases l with
  | nil => rfl
  | cons x r =>
    show ((84 == x) && List.isPrefixOf [] r) = (decide (1 ≤ r.length + 1) && decide (x = 84))
    rw [decide_eq_true (show 1 ≤ r.length + 1 by omega), Bool.true_and, show List.isPrefixOf [] r = true by cases r <;> rfl, Bool.and_true]
    by_cases hx : x = 84
    · subst hx; rfl
    · rw [decide_eq_false hx]; exact beq_false_of_ne (Ne.symm hx)
theorem body_pT {l : List UInt8} (h : hasPrefix l [84] = true) : (decide (((l.drop 1).length : Int) = 9) && (l.drop 1).all (among false)) = bodyB 1 l := by
  rw [pre_T, Bool.and_eq_true, decide_eq_true_eq, decide_eq_true_eq] at h
  unfold bodyB
  rw [if_pos rfl, decide_eq_true h.2, Bool.and_true, List.length_drop]
  congr 1
  exact decide_eq_decide.2 (by omega)
theorem body_pF {l : List UInt8} (h : hasPrefix l [84] = false) : bodyB 1 l = false := by
  rw [pre_T] at h
  unfold bodyB
  rw [if_pos rfl]
  by_cases h1 : l.length = 10
  · rw [decide_eq_true (show 1 ≤ l.length by omega), Bool.true_and] at h
    rw [h, Bool.and_false, Bool.false_and]
  · rw [decide_eq_false h1, Bool.false_and, Bool.false_and]
theorem body_p2 (l : List UInt8) : (decide ((l.length : Int) = 10) && l.all (among true)) = bodyB 2 l := by
  unfold bodyB
  rw [if_neg (by decide), if_pos rfl]
  congr 1
  exact decide_eq_decide.2 (by omega)
theorem body_p3 {kind : Int} (h1 : ¬ kind = 1) (h2 : ¬ kind = 2) (l : List UInt8) : (decide ((l.length : Int) = 12) && l.all (among false)) = bodyB kind l := by
  unfold bodyB
  rw [if_neg h1, if_neg h2]
  congr 1
  exact decide_eq_decide.2 (by omega)
theorem pre1 {l : List UInt8} (h : hasPrefix l [84] = true) : 1 ≤ l.length := by
  rw [pre_T, Bool.and_eq_true, decide_eq_true_eq] at h
  exact h.1
theorem at0_some {l : List UInt8} {i : Nat} (h : i < l.length) : l[i]? = some (at0 l i) := by rw [at0_eq h, List.getElem?_eq_getElem h]
theorem dv_nat : ∀ n : Fin 256, isDig (UInt8.ofNat n.val) = true → IntKind.i64.wrap (IntKind.u8.wrap ((n.val : Int) - 48)) = dv (UInt8.ofNat n.val) := by decide +kernel
theorem dv_wrap {c : UInt8} (h : isDig c = true) : IntKind.i64.wrap (IntKind.u8.wrap ((c.toNat : Int) - 48)) = dv c := by
  have := dv_nat ⟨c.toNat, c.toNat_lt⟩
  simp only [UInt8.ofNat_toNat] at this
  exact this h
theorem w_next (l : List UInt8) (k : Nat) (a : Int) : a + sumTo (wTerm l) k + ((k : Int) + 1) * dv (at0 l (k + 1)) = a + sumTo (wTerm l) (k + 1) := by rw [Int.add_assoc]; rfl
theorem e_next (l : List UInt8) (k : Nat) (a : Int) : a + sumTo (eTerm l) k + (1 + (k : Int) % 2 * 2) * dv (at0 l k) = a + sumTo (eTerm l) (k + 1) := by rw [Int.add_assoc]; rfl
theorem e_next2 (l : List UInt8) (k : Nat) (a : Int) : a + sumTo (eTerm l) k + dv (at0 l k) * (1 + (k : Int) % 2 * 2) = a + sumTo (eTerm l) (k + 1) := by rw [Int.mul_comm, e_next]
theorem chk_1 (l : List UInt8) : (10 - (1 + sumTo (wTerm l) 9) % 10) % 10 = (((chk 1 l).toNat : Nat) : Int) := by
  have := chk_bound 1 l
  rw [Int.toNat_of_nonneg this.1]
  rfl
theorem chk_2 (l : List UInt8) : (1 - qTo l 10 % 36 + 36) % 36 = (((chk 2 l).toNat : Nat) : Int) := by
  have := chk_bound 2 l
  rw [Int.toNat_of_nonneg this.1]
  rfl
theorem chk_3 {kind : Int} (h1 : ¬ kind = 1) (h2 : ¬ kind = 2) (l : List UInt8) : (10 - sumTo (eTerm l) 12 % 10) % 10 = (((chk kind l).toNat : Nat) : Int) := by
  have := chk_bound kind l
  rw [Int.toNat_of_nonneg this.1]
  unfold chk
  rw [if_neg h1, if_neg h2]
theorem q_next {l : List UInt8} {k : Nat} (h : k < l.length) : qTo l (k + 1) = 2 * (if (qTo l k + indexByte sgnL (at0 l k)) % 36 = 0 then 36 else (qTo l k + indexByte sgnL (at0 l k)) % 36) % 37 := by rw [qTo_next h, at0_eq h]; rfl
theorem q_next0 {l : List UInt8} {k : Nat} (h : k < l.length) (h0 : (qTo l k + indexByte sgnL (at0 l k)) % 36 = 0) : qTo l (k + 1) = 2 * 36 % 37 := by rw [q_next h, if_pos h0]
theorem q_next1 {l : List UInt8} {k : Nat} (h : k < l.length) (h0 : ¬ (qTo l k + indexByte sgnL (at0 l k)) % 36 = 0) : qTo l (k + 1) = 2 * ((qTo l k + indexByte sgnL (at0 l k)) % 36) % 37 := by rw [q_next h, if_neg h0]
theorem dig_get {kind : Int} {l : List UInt8} (h2 : ¬ kind = 2) : digL[(chk kind l).toNat]? = some (chkS kind l) := by
  have h := chk_bound kind l
  have h3 := h.2.2 h2
  have h4 := (dig_at (v := (chk kind l).toNat) (by omega)).2
  rw [at0_some (show (chk kind l).toNat < digL.length by show _ < 10; omega), h4]
  rfl
theorem sgn_get (kind : Int) (l : List UInt8) : sgnL[(chk kind l).toNat]? = some (chkS kind l) := at0_some (by have := chk_bound kind l; show _ < 36; omega)


set_option maxRecDepth 100000 in
set_option maxHeartbeats 1000000 in
theorem c_pKind (kind : Int) : ACall Tryd.prog 22 [.v (.int .i64 kind)] (.v (.bool (kindB kind))) := by
  refine acall_of (n := 9) (ds' := [.v (.bool (kindB kind))]) Tryd.func22 rfl (by kernel_rfl) rfl [2] rfl rfl ?_
  intro B w0 F0 fr
  refine AWP.seq ?_
  refine AWP.region ?_
  refine AOps.step rfl rfl rfl (AOp.assignD rfl rfl) ?_
  refine AOps.nil ?_
  refine AWP.seq ?_
  refine AWP.region ?_
  refine AOps.step rfl rfl rfl (AOp.moveD rfl rfl) ?_
  refine AOps.step rfl rfl rfl (AOp.geq rfl rfl rfl) ?_
  refine AOps.step rfl rfl rfl (AOp.moveD rfl rfl) ?_
  refine AOps.split 5 rfl (fun g1 => ?_) (fun g1 => ?_)
  · replace g1 := of_decide_eq_true g1
    rw [kindB_t g1]
    refine AOps.step ⟨5, rfl, .inl ⟨_, rfl, rfl⟩⟩ rfl rfl (AOp.moveD rfl rfl) ?_
    refine AOps.step ⟨5, rfl, .inl ⟨_, rfl, rfl⟩⟩ rfl rfl (AOp.leq rfl rfl rfl) ?_
    refine AOps.step rfl rfl rfl (AOp.pickT rfl rfl rfl) ?_
    refine AOps.step rfl rfl rfl (AOp.assignD rfl rfl) ?_
    refine AOps.nil ?_
    refine AWP.ret ?_
    refine ⟨RetD.eq rfl ?_, trivial⟩
    all_goals (rfl)
  · replace g1 := of_decide_eq_false g1
    rw [kindB_f g1]
    refine AOps.pass ⟨5, rfl, .inl ⟨_, rfl, rfl⟩⟩ rfl rfl ?_
    refine AOps.pass ⟨5, rfl, .inl ⟨_, rfl, rfl⟩⟩ rfl rfl ?_
    refine AOps.step rfl rfl rfl (AOp.pickF rfl rfl rfl) ?_
    refine AOps.step rfl rfl rfl (AOp.assignD rfl rfl) ?_
    refine AOps.nil ?_
    refine AWP.ret ?_
    refine ⟨RetD.eq rfl ?_, trivial⟩
    all_goals (rfl)

set_option maxRecDepth 100000 in
set_option maxHeartbeats 1000000 in
theorem c_rKind (kind : Int) : ACall Tryd.prog 30 [.v (.int .i64 kind)] (.v (.bool (kindB kind))) := by
  refine acall_of (n := 9) (ds' := [.v (.bool (kindB kind))]) Tryd.func30 rfl (by kernel_rfl) rfl [2] rfl rfl ?_
  intro B w0 F0 fr
  refine AWP.seq ?_
  refine AWP.region ?_
  refine AOps.step rfl rfl rfl (AOp.assignD rfl rfl) ?_
  refine AOps.nil ?_
  refine AWP.seq ?_
  refine AWP.region ?_
  refine AOps.step rfl rfl rfl (AOp.moveD rfl rfl) ?_
  refine AOps.step rfl rfl rfl (AOp.geq rfl rfl rfl) ?_
  refine AOps.step rfl rfl rfl (AOp.moveD rfl rfl) ?_
  refine AOps.split 5 rfl (fun g1 => ?_) (fun g1 => ?_)
  · replace g1 := of_decide_eq_true g1
    rw [kindB_t g1]
    refine AOps.step ⟨5, rfl, .inl ⟨_, rfl, rfl⟩⟩ rfl rfl (AOp.moveD rfl rfl) ?_
    refine AOps.step ⟨5, rfl, .inl ⟨_, rfl, rfl⟩⟩ rfl rfl (AOp.leq rfl rfl rfl) ?_
    refine AOps.step rfl rfl rfl (AOp.pickT rfl rfl rfl) ?_
    refine AOps.step rfl rfl rfl (AOp.assignD rfl rfl) ?_
    refine AOps.nil ?_
    refine AWP.ret ?_
    refine ⟨RetD.eq rfl ?_, trivial⟩
    all_goals (rfl)
  · replace g1 := of_decide_eq_false g1
    rw [kindB_f g1]
    refine AOps.pass ⟨5, rfl, .inl ⟨_, rfl, rfl⟩⟩ rfl rfl ?_
    refine AOps.pass ⟨5, rfl, .inl ⟨_, rfl, rfl⟩⟩ rfl rfl ?_
    refine AOps.step rfl rfl rfl (AOp.pickF rfl rfl rfl) ?_
    refine AOps.step rfl rfl rfl (AOp.assignD rfl rfl) ?_
    refine AOps.nil ?_
    refine AWP.ret ?_
    refine ⟨RetD.eq rfl ?_, trivial⟩
    all_goals (rfl)

set_option maxRecDepth 100000 in
set_option maxHeartbeats 1000000 in
theorem c_all (b : Bool) (l : List UInt8) (n : Int) (hl : l.length ≤ 9223372036854775807) : ACall Tryd.prog 43 [.v (.string (bStr l)), .v (.int .i64 n), .v (.string (bStr (signsOf b)))] (.v (.bool (decide ((l.length : Int) = n) && l.all (among b)))) := by
  refine acall_of (n := 17) (ds' := [.v (.bool (decide ((l.length : Int) = n) && l.all (among b)))]) Tryd.func43 rfl (by kernel_rfl) rfl [6] rfl rfl ?_
  intro B w0 F0 fr
  refine AWP.seq ?_
  refine AWP.region ?_
  refine AOps.step rfl rfl rfl (AOp.assignD rfl rfl) ?_
  refine AOps.nil ?_
  refine AWP.seq ?_
  refine AWP.region ?_
  refine AOps.step rfl rfl rfl (AOp.moveD rfl rfl) ?_
  refine AOps.step rfl rfl rfl (AOp.lenStr rfl st_9 rfl) ?_
  rw [bStr_size]
  refine AOps.step rfl rfl rfl (AOp.moveD rfl rfl) ?_
  refine AOps.step rfl rfl rfl (AOp.eql rfl rfl rfl) ?_
  refine AOps.step rfl rfl rfl (AOp.moveD rfl rfl) ?_
  refine AOps.split 11 rfl (fun g1 => ?_) (fun g1 => ?_)
  · replace g1 := of_decide_eq_true g1
    rw [decide_eq_true g1, Bool.true_and]
    refine AOps.step ⟨11, rfl, .inl ⟨_, rfl, rfl⟩⟩ rfl rfl (AOp.moveD rfl rfl) ?_
    refine AOps.step ⟨11, rfl, .inl ⟨_, rfl, rfl⟩⟩ rfl rfl (AOp.moveD rfl rfl) ?_
    refine AOps.step ⟨11, rfl, .inl ⟨_, rfl, rfl⟩⟩ rfl rfl (AOp.call rfl (.cons (ArgOk.rfl' rfl) (.cons (ArgOk.rfl' rfl) .nil)) (c_trimAll b l hl)) ?_
    refine AOps.step ⟨11, rfl, .inl ⟨_, rfl, rfl⟩⟩ rfl rfl (AOp.seql rfl rfl rfl) ?_
    refine AOps.step rfl rfl rfl (AOp.pickT rfl rfl rfl) ?_
    refine AOps.step rfl rfl rfl (AOp.assignD rfl rfl) ?_
    refine AOps.nil ?_
    refine AWP.ret ?_
    refine ⟨RetD.eq rfl ?_, trivial⟩
    all_goals (first | rfl | (rw [← trim_dec]; rfl))
  · replace g1 := of_decide_eq_false g1
    rw [decide_eq_false g1, Bool.false_and]
    refine AOps.pass ⟨11, rfl, .inl ⟨_, rfl, rfl⟩⟩ rfl rfl ?_
    refine AOps.pass ⟨11, rfl, .inl ⟨_, rfl, rfl⟩⟩ rfl rfl ?_
    refine AOps.pass ⟨11, rfl, .inl ⟨_, rfl, rfl⟩⟩ rfl rfl ?_
    refine AOps.pass ⟨11, rfl, .inl ⟨_, rfl, rfl⟩⟩ rfl rfl ?_
    refine AOps.step rfl rfl rfl (AOp.pickF rfl rfl rfl) ?_
    refine AOps.step rfl rfl rfl (AOp.assignD rfl rfl) ?_
    refine AOps.nil ?_
    refine AWP.ret ?_
    refine ⟨RetD.eq rfl ?_, trivial⟩
    all_goals (first | rfl | (rw [← trim_dec]; rfl))

set_option maxRecDepth 100000 in
set_option maxHeartbeats 1000000 in
theorem c_pBody (kind : Int) (l : List UInt8) (hl : l.length ≤ 9223372036854775807) : ACall Tryd.prog 23 [.v (.int .i64 kind), .v (.string (bStr l))] (.v (.bool (bodyB kind l))) := by
  refine acall_of (n := 21) (ds' := [.v (.bool (bodyB kind l))]) Tryd.func23 rfl (by kernel_rfl) rfl [4] rfl rfl ?_
  intro B w0 F0 fr
  refine AWP.seq ?_
  refine AWP.region ?_
  refine AOps.step rfl rfl rfl (AOp.assignD rfl rfl) ?_
  refine AOps.nil ?_
  refine AWP.seq ?_
  refine AWP.seq ?_
  refine AWP.region ?_
  refine AOps.step rfl rfl rfl (AOp.moveD rfl rfl) ?_
  refine AOps.nil ?_
  refine AWP.block ?_
  refine AWP.seq ?_
  refine AWP.region ?_
  refine AOps.step rfl rfl rfl (AOp.eql rfl rfl rfl) ?_
  refine AOps.step rfl rfl rfl (AOp.assignD rfl rfl) ?_
  refine AOps.nil ?_
  refine AWP.cond rfl (fun h1 => ?_) (fun h1 => ?_)
  · replace h1 := of_decide_eq_true h1
    subst h1
    refine AWP.seq ?_
    refine AWP.region ?_
    refine AOps.step rfl rfl rfl (AOp.moveD rfl rfl) ?_
    refine AOps.step rfl rfl rfl (AOp.call rfl (.cons (ArgOk.rfl' rfl) (.cons (ArgOk.rfl' rfl) .nil)) (c_hasP l [84])) ?_
    refine AOps.step rfl rfl rfl (AOp.moveD rfl rfl) ?_
    refine AOps.split 10 rfl (fun g2 => ?_) (fun g2 => ?_)
    · skip
      rw [← body_pT g2]
      have hp1 := pre1 g2
      refine AOps.step ⟨10, rfl, .inl ⟨_, rfl, rfl⟩⟩ rfl rfl (AOp.moveD rfl rfl) ?_
      refine AOps.step ⟨10, rfl, .inl ⟨_, rfl, rfl⟩⟩ rfl rfl (AOp.sliceFrom rfl Tryd.underlying9 rfl rfl 1 rfl hp1) ?_
      refine AOps.step ⟨10, rfl, .inl ⟨_, rfl, rfl⟩⟩ rfl rfl (AOp.call rfl (.cons (ArgOk.rfl' rfl) (.cons (ArgOk.rfl' rfl) (.cons (ArgOk.rfl' rfl) .nil))) (c_all false (l.drop 1) 9 (by rw [List.length_drop]; omega))) ?_
      refine AOps.step rfl rfl rfl (AOp.pickT rfl rfl rfl) ?_
      refine AOps.step rfl rfl rfl (AOp.assignD rfl rfl) ?_
      refine AOps.nil ?_
      refine AWP.ret ?_
      refine ⟨RetD.eq rfl ?_, trivial⟩
      all_goals (rfl)
    · skip
      rw [body_pF g2]
      refine AOps.pass ⟨10, rfl, .inl ⟨_, rfl, rfl⟩⟩ rfl rfl ?_
      refine AOps.pass ⟨10, rfl, .inl ⟨_, rfl, rfl⟩⟩ rfl rfl ?_
      refine AOps.pass ⟨10, rfl, .inl ⟨_, rfl, rfl⟩⟩ rfl rfl ?_
      refine AOps.step rfl rfl rfl (AOp.pickF rfl rfl rfl) ?_
      refine AOps.step rfl rfl rfl (AOp.assignD rfl rfl) ?_
      refine AOps.nil ?_
      refine AWP.ret ?_
      refine ⟨RetD.eq rfl ?_, trivial⟩
      all_goals (rfl)
  · replace h1 := of_decide_eq_false h1
    refine AWP.seq ?_
    refine AWP.region ?_
    refine AOps.step rfl rfl rfl (AOp.eql rfl rfl rfl) ?_
    refine AOps.step rfl rfl rfl (AOp.assignD rfl rfl) ?_
    refine AOps.nil ?_
    refine AWP.cond rfl (fun h3 => ?_) (fun h3 => ?_)
    · replace h3 := of_decide_eq_true h3
      subst h3
      rw [← body_p2]
      refine AWP.seq ?_
      refine AWP.region ?_
      refine AOps.step rfl rfl rfl (AOp.moveD rfl rfl) ?_
      refine AOps.step rfl rfl rfl (AOp.call rfl (.cons (ArgOk.rfl' rfl) (.cons (ArgOk.rfl' rfl) (.cons (ArgOk.rfl' rfl) .nil))) (c_all true l 10 hl)) ?_
      refine AOps.step rfl rfl rfl (AOp.assignD rfl rfl) ?_
      refine AOps.nil ?_
      refine AWP.ret ?_
      refine ⟨RetD.eq rfl ?_, trivial⟩
      all_goals (rfl)
    · replace h3 := of_decide_eq_false h3
      rw [← body_p3 h1 h3]
      refine AWP.skip ?_
      refine AWP.seq ?_
      refine AWP.region ?_
      refine AOps.step rfl rfl rfl (AOp.moveD rfl rfl) ?_
      refine AOps.step rfl rfl rfl (AOp.call rfl (.cons (ArgOk.rfl' rfl) (.cons (ArgOk.rfl' rfl) (.cons (ArgOk.rfl' rfl) .nil))) (c_all false l 12 hl)) ?_
      refine AOps.step rfl rfl rfl (AOp.assignD rfl rfl) ?_
      refine AOps.nil ?_
      refine AWP.ret ?_
      refine ⟨RetD.eq rfl ?_, trivial⟩
      all_goals (rfl)

end Go.Proofs.YtajghehicmlajaaDoor


namespace Go.Proofs.YtajghehicmlajaaDoor
open Go.RowKit
set_option linter.unusedVariables false

/-! Types. -/
namespace TyJ4
theorem cv_5_3 : convB Tryd.prog 5 3 .i64 = true := by kernel_rfl
theorem et_36 : ElemTy Tryd.prog 36 5 1 1 (.int .u8 0) := ⟨by kernel_rfl, by kernel_rfl, by kernel_rfl, by decide⟩
theorem st_9 : Tryd.prog.underlying 9 = some .string := by kernel_rfl
end TyJ4
open TyJ4


open Go.Lib
theorem at0_s {l : List UInt8} {i : Nat} (h : i < l.length) : (bStr l).data.toList[i]? = some (at0 l i) := at0_some h
theorem codeF_k {kind : Int} (l : List UInt8) (h : kindB kind = false) : codeF kind l = 4 := if_pos h
theorem codeF_0 {kind : Int} {l : List UInt8} (h : kindB kind = true) (h0 : l.length = 0) : codeF kind l = 3 := by unfold codeF; rw [if_neg (by rw [h]; decide), if_pos h0]
theorem codeF_b {kind : Int} {l : List UInt8} (h : kindB kind = true) (hb : bodyB kind (cBody l) = false) : codeF kind l = 3 := by unfold codeF; rw [if_neg (by rw [h]; decide), if_pos hb]; split <;> rfl
theorem codeF_s {kind : Int} {l : List UInt8} (h : kindB kind = true) (hs : among (two kind) (cSign l) = false) : codeF kind l = 3 := by unfold codeF; rw [if_neg (by rw [h]; decide), if_pos hs]; split <;> (try split) <;> rfl
theorem codeF_f {kind : Int} {l : List UInt8} (h : kindB kind = true) (h0 : ¬ l.length = 0) (hb : bodyB kind (cBody l) = true) (hs : among (two kind) (cSign l) = true) : codeF kind l = if fitsB kind (cBody l) (cSign l) = false then 16 else 0 := by
  unfold codeF
  rw [if_neg (by rw [h]; decide), if_neg h0, if_neg (by rw [hb]; decide), if_neg (by rw [hs]; decide)]
theorem fits_no {kind : Int} {l : List UInt8} {c : UInt8} (h : ((chkS kind l).toNat : Int) ≠ (c.toNat : Int)) : fitsB kind l c = false := decide_eq_false fun e => h (by rw [e])
theorem fits_yes {kind : Int} {l : List UInt8} {c : UInt8} (h : ((chkS kind l).toNat : Int) = (c.toNat : Int)) : fitsB kind l c = true := decide_eq_true (UInt8.toNat_inj.1 (by omega))
theorem among_no {b : Bool} {c : UInt8} (h : indexByte (signsOf b) c < 0) : among b c = false := by
  cases ha : among b c with
  | false => rfl
  | true => have := sg_of.2 ha; omega
theorem among_yes {b : Bool} {c : UInt8} (h : ¬ indexByte (signsOf b) c < 0) : among b c = true := sg_of.1 (by omega)
theorem dig_1 {kind : Int} (l : List UInt8) (h : kindB kind = false) : digF kind l = 4 ∧ digS kind l = [] := by
  have h1 : digF kind l = 4 := if_pos h
  exact ⟨h1, by unfold digS; rw [h1]; rfl⟩
theorem dig_2 {kind : Int} {l : List UInt8} (h : kindB kind = true) (hb : bodyB kind l = false) : digF kind l = 3 ∧ digS kind l = [] := by
  have h1 : digF kind l = 3 := by unfold digF; rw [if_neg (by rw [h]; decide), if_pos hb]
  exact ⟨h1, by unfold digS; rw [h1]; rfl⟩
theorem dig_3 {kind : Int} {l : List UInt8} (h : kindB kind = true) (hb : bodyB kind l = true) : digF kind l = 0 ∧ digS kind l = [chkS kind l] := by
  have h1 : digF kind l = 0 := by unfold digF; rw [if_neg (by rw [h]; decide), if_neg (by rw [hb]; decide)]
  exact ⟨h1, by unfold digS; rw [h1]; rfl⟩


set_option maxRecDepth 100000 in
set_option maxHeartbeats 1000000 in
theorem c_digit (kind : Int) (l : List UInt8) (hb : bodyB kind l = true) : ACall Tryd.prog 24 [.v (.int .i64 kind), .v (.string (bStr l))] (.v (.int .u8 ((chkS kind l).toNat : Int))) := by
  refine acall_of (n := 82) (ds' := [.v (.int .u8 ((chkS kind l).toNat : Int))]) Tryd.func24 rfl (by kernel_rfl) rfl [4] rfl rfl ?_
  intro B w0 F0 fr
  refine AWP.seq ?_
  refine AWP.region ?_
  refine AOps.step rfl rfl rfl (AOp.assignD rfl rfl) ?_
  refine AOps.nil ?_
  refine AWP.seq ?_
  refine AWP.seq ?_
  refine AWP.region ?_
  refine AOps.step rfl rfl rfl (AOp.moveD rfl rfl) ?_
  refine AOps.nil ?_
  refine AWP.block ?_
  refine AWP.seq ?_
  refine AWP.region ?_
  refine AOps.step rfl rfl rfl (AOp.eql rfl rfl rfl) ?_
  refine AOps.step rfl rfl rfl (AOp.assignD rfl rfl) ?_
  refine AOps.nil ?_
  refine AWP.cond rfl (fun h1 => ?_) (fun h1 => ?_)
  · replace h1 := of_decide_eq_true h1
    subst h1
    have hlen := (body1 hb).1
    refine AWP.seq ?_
    refine AWP.region ?_
    refine AOps.step rfl rfl rfl (AOp.assignD rfl rfl) ?_
    refine AOps.nil ?_
    refine AWP.seq ?_
    refine AWP.seq ?_
    refine AWP.region ?_
    refine AOps.step rfl rfl rfl (AOp.assignD rfl rfl) ?_
    refine AOps.nil ?_
    refine AWP.block ?_
    refine AWP.loop (G := Nat) (fun k => Env.of [(6, .d (.v (.int .i64 ((k : Int) + 1)))), (5, .d (.v (.int .i64 (1 + sumTo (wTerm l) k)))), (1, .d (.v (.string (bStr l))))]) (fun k => []) (fun k => k ≤ 9) (fun k => 9 - k) 0 (Nat.zero_le _) (Sub.less ⟨(SLe.of_eq rfl), (SLe.of_eq rfl), SLe.refl _, trivial⟩ (fun _ h => h)) ?_
    intro k hk
    refine AWP.seq ?_
    refine AWP.seq ?_
    refine AWP.region ?_
    refine AOps.step rfl rfl rfl (AOp.moveD rfl rfl) ?_
    refine AOps.step rfl rfl rfl (AOp.leq rfl rfl rfl) ?_
    refine AOps.nil ?_
    refine AWP.cond rfl (fun h2 => ?_) (fun h2 => ?_)
    · replace h2 := of_decide_eq_true h2
      have hlt : k < 9 := by omega
      have hdg := (body1 hb).2.2 (k + 1) (by omega) (by omega)
      have hwt := wTerm_bound hb hlt
      have hws := wSum_bound hb k (by omega)
      unfold wTerm at hwt
      refine AWP.skip ?_
      refine AWP.seq ?_
      refine AWP.block ?_
      refine AWP.region ?_
      refine AOps.step rfl rfl rfl (AOp.moveD rfl rfl) ?_
      refine AOps.step rfl rfl rfl (AOp.moveD rfl rfl) ?_
      refine AOps.step rfl rfl rfl (AOp.moveD rfl rfl) ?_
      refine AOps.step rfl rfl rfl (AOp.moveD rfl rfl) ?_
      refine AOps.step rfl rfl rfl (AOp.indexStr rfl st_9 rfl rfl (k + 1) rfl (at0_s (by omega))) ?_
      refine AOps.step rfl rfl rfl (AOp.sub rfl rfl rfl) ?_
      refine AOps.step rfl rfl rfl (AOp.convInt rfl cv_5_3 rfl) ?_
      rw [dv_wrap hdg]
      refine AOps.step rfl rfl rfl (AOp.mul64 rfl rfl rfl (by omega) (by omega)) ?_
      refine AOps.step rfl rfl rfl (AOp.add64 rfl rfl rfl (by omega) (by omega)) ?_
      refine AOps.step rfl rfl rfl (AOp.assignD rfl rfl) ?_
      refine AOps.nil ?_
      refine AWP.region ?_
      refine AOps.step rfl rfl rfl (AOp.moveD rfl rfl) ?_
      refine AOps.step rfl rfl rfl (AOp.add64 rfl rfl rfl (by omega) (by omega)) ?_
      refine AOps.step rfl rfl rfl (AOp.assignD rfl rfl) ?_
      refine AOps.nil ?_
      refine ⟨k + 1, (by omega), (by dsimp only; omega), Sub.less ⟨(SLe.of_eq rfl), (SLe.of_eq (by rw [w_next]; rfl)), SLe.refl _, trivial⟩ (fun _ h => h)⟩
    · replace h2 := of_decide_eq_false h2
      obtain rfl : k = 9 := by omega
      have hws := wSum_bound hb 9 (by omega)
      refine AWP.exit ?_
      refine AWP.seq ?_
      refine AWP.region ?_
      refine AOps.step rfl rfl rfl (AOp.moveD rfl rfl) ?_
      refine AOps.step rfl rfl rfl (AOp.rem64 rfl rfl rfl (by omega) (by omega)) ?_
      refine AOps.step rfl rfl rfl (AOp.sub64 rfl rfl rfl (by omega) (by omega)) ?_
      refine AOps.step rfl rfl rfl (AOp.rem64 rfl rfl rfl (by omega) (by omega)) ?_
      rw [chk_1]
      refine AOps.step rfl rfl rfl (AOp.indexStr rfl st_9 rfl rfl (chk 1 l).toNat rfl (dig_get (by decide))) ?_
      refine AOps.step rfl rfl rfl (AOp.assignD rfl rfl) ?_
      refine AOps.nil ?_
      refine AWP.ret ?_
      refine ⟨RetD.eq rfl ?_, trivial⟩
      all_goals (rfl)
  · replace h1 := of_decide_eq_false h1
    have k1 : ¬ kind = 1 := h1
    refine AWP.seq ?_
    refine AWP.region ?_
    refine AOps.step rfl rfl rfl (AOp.eql rfl rfl rfl) ?_
    refine AOps.step rfl rfl rfl (AOp.assignD rfl rfl) ?_
    refine AOps.nil ?_
    refine AWP.cond rfl (fun h3 => ?_) (fun h3 => ?_)
    · replace h3 := of_decide_eq_true h3
      subst h3
      have hlen := (body2 hb).1
      refine AWP.seq ?_
      refine AWP.region ?_
      refine AOps.step rfl rfl rfl (AOp.assignD rfl rfl) ?_
      refine AOps.nil ?_
      refine AWP.seq ?_
      refine AWP.seq ?_
      refine AWP.region ?_
      refine AOps.step rfl rfl rfl (AOp.moveD rfl rfl) ?_
      refine AOps.step rfl rfl rfl (AOp.lenStr rfl st_9 rfl) ?_
      rw [bStr_size]
      refine AOps.step rfl rfl rfl (AOp.moveD rfl rfl) ?_
      refine AOps.nil ?_
      refine AWP.block ?_
      refine AWP.loop (G := Nat) (fun k => Env.of [(37, .d (.v (.int .i64 (k : Int)))), (36, .d (.v (.int .i64 (l.length : Int)))), (7, .d (.v (.int .i64 (qTo l k)))), (1, .d (.v (.string (bStr l))))]) (fun k => []) (fun k => k ≤ l.length) (fun k => l.length - k) 0 (Nat.zero_le _) (Sub.less ⟨(SLe.of_eq rfl), SLe.refl _, (SLe.of_eq rfl), SLe.refl _, trivial⟩ (fun _ h => h)) ?_
      intro k hk
      refine AWP.seq ?_
      refine AWP.region ?_
      refine AOps.step rfl rfl rfl (AOp.lss rfl rfl rfl) ?_
      refine AOps.nil ?_
      refine AWP.seq ?_
      refine AWP.cond rfl (fun h4 => ?_) (fun h4 => ?_)
      · replace h4 := of_decide_eq_true h4
        have hlt : k < l.length := by omega
        have hqb := qTo_bound l k
        have hsg := sg_pos.2 ((body2 hb).2 (at0 l k) (by rw [at0_eq hlt]; exact List.getElem_mem _))
        have hsu := (sg_all (at0 l k)).2.2.1
        refine AWP.skip ?_
        refine AWP.seq ?_
        refine AWP.block ?_
        refine AWP.seq ?_
        refine AWP.region ?_
        refine AOps.step rfl rfl rfl (AOp.moveD rfl rfl) ?_
        refine AOps.step rfl rfl rfl (AOp.assignD rfl rfl) ?_
        refine AOps.nil ?_
        refine AWP.seq ?_
        refine AWP.region ?_
        refine AOps.step rfl rfl rfl (AOp.moveD rfl rfl) ?_
        refine AOps.step rfl rfl rfl (AOp.moveD rfl rfl) ?_
        refine AOps.step rfl rfl rfl (AOp.moveD rfl rfl) ?_
        refine AOps.step rfl rfl rfl (AOp.indexStr rfl st_9 rfl rfl k rfl (at0_s hlt)) ?_
        refine AOps.step rfl rfl rfl (AOp.call rfl (.cons (ArgOk.rfl' rfl) (.cons (ArgOk.rfl' rfl) .nil)) (c_idx sgnL (at0 l k))) ?_
        refine AOps.step rfl rfl rfl (AOp.add64 rfl rfl rfl (by omega) (by omega)) ?_
        refine AOps.step rfl rfl rfl (AOp.rem64 rfl rfl rfl (by omega) (by omega)) ?_
        refine AOps.step rfl rfl rfl (AOp.assignD rfl rfl) ?_
        refine AOps.nil ?_
        refine AWP.seq ?_
        refine AWP.seq ?_
        refine AWP.region ?_
        refine AOps.step rfl rfl rfl (AOp.moveD rfl rfl) ?_
        refine AOps.step rfl rfl rfl (AOp.eql rfl rfl rfl) ?_
        refine AOps.nil ?_
        refine AWP.cond rfl (fun h5 => ?_) (fun h5 => ?_)
        · replace h5 := of_decide_eq_true h5
          have HN := q_next0 hlt h5
          refine AWP.region ?_
          refine AOps.step rfl rfl rfl (AOp.assignD rfl rfl) ?_
          refine AOps.nil ?_
          refine AWP.region ?_
          refine AOps.step rfl rfl rfl (AOp.moveD rfl rfl) ?_
          refine AOps.step rfl rfl rfl (AOp.mul64 rfl rfl rfl (by omega) (by omega)) ?_
          refine AOps.step rfl rfl rfl (AOp.rem64 rfl rfl rfl (by omega) (by omega)) ?_
          refine AOps.step rfl rfl rfl (AOp.assignD rfl rfl) ?_
          refine AOps.nil ?_
          refine AWP.region ?_
          refine AOps.step rfl rfl rfl (AOp.add64 rfl rfl rfl (by omega) (by omega)) ?_
          refine AOps.step rfl rfl rfl (AOp.moveD rfl rfl) ?_
          refine AOps.nil ?_
          refine ⟨k + 1, (by omega), (by dsimp only; omega), Sub.less ⟨(SLe.of_eq rfl), SLe.refl _, (SLe.of_eq (by rw [HN]; rfl)), SLe.refl _, trivial⟩ (fun _ h => h)⟩
        · replace h5 := of_decide_eq_false h5
          have HN := q_next1 hlt h5
          refine AWP.skip ?_
          refine AWP.region ?_
          refine AOps.step rfl rfl rfl (AOp.moveD rfl rfl) ?_
          refine AOps.step rfl rfl rfl (AOp.mul64 rfl rfl rfl (by omega) (by omega)) ?_
          refine AOps.step rfl rfl rfl (AOp.rem64 rfl rfl rfl (by omega) (by omega)) ?_
          refine AOps.step rfl rfl rfl (AOp.assignD rfl rfl) ?_
          refine AOps.nil ?_
          refine AWP.region ?_
          refine AOps.step rfl rfl rfl (AOp.add64 rfl rfl rfl (by omega) (by omega)) ?_
          refine AOps.step rfl rfl rfl (AOp.moveD rfl rfl) ?_
          refine AOps.nil ?_
          refine ⟨k + 1, (by omega), (by dsimp only; omega), Sub.less ⟨(SLe.of_eq rfl), SLe.refl _, (SLe.of_eq (by rw [HN]; rfl)), SLe.refl _, trivial⟩ (fun _ h => h)⟩
      · replace h4 := of_decide_eq_false h4
        obtain rfl : k = 10 := by omega
        have hqb := qTo_bound l 10
        refine AWP.exit ?_
        refine AWP.seq ?_
        refine AWP.region ?_
        refine AOps.step rfl rfl rfl (AOp.moveD rfl rfl) ?_
        refine AOps.step rfl rfl rfl (AOp.rem64 rfl rfl rfl (by omega) (by omega)) ?_
        refine AOps.step rfl rfl rfl (AOp.sub64 rfl rfl rfl (by omega) (by omega)) ?_
        refine AOps.step rfl rfl rfl (AOp.add64 rfl rfl rfl (by omega) (by omega)) ?_
        refine AOps.step rfl rfl rfl (AOp.rem64 rfl rfl rfl (by omega) (by omega)) ?_
        rw [chk_2]
        refine AOps.step rfl rfl rfl (AOp.indexStr rfl st_9 rfl rfl (chk 2 l).toNat rfl (sgn_get 2 l)) ?_
        refine AOps.step rfl rfl rfl (AOp.assignD rfl rfl) ?_
        refine AOps.nil ?_
        refine AWP.ret ?_
        refine ⟨RetD.eq rfl ?_, trivial⟩
        all_goals (rfl)
    · replace h3 := of_decide_eq_false h3
      have k2 : ¬ kind = 2 := h3
      have hlen := (body3 k1 k2 hb).1
      refine AWP.skip ?_
      refine AWP.seq ?_
      refine AWP.region ?_
      refine AOps.step rfl rfl rfl (AOp.assignD rfl rfl) ?_
      refine AOps.nil ?_
      refine AWP.seq ?_
      refine AWP.seq ?_
      refine AWP.region ?_
      refine AOps.step rfl rfl rfl (AOp.moveD rfl rfl) ?_
      refine AOps.step rfl rfl rfl (AOp.lenStr rfl st_9 rfl) ?_
      rw [bStr_size]
      refine AOps.step rfl rfl rfl (AOp.moveD rfl rfl) ?_
      refine AOps.nil ?_
      refine AWP.block ?_
      refine AWP.loop (G := Nat) (fun k => Env.of [(61, .d (.v (.int .i64 (k : Int)))), (60, .d (.v (.int .i64 (l.length : Int)))), (10, .d (.v (.int .i64 (0 + sumTo (eTerm l) k)))), (1, .d (.v (.string (bStr l))))]) (fun k => []) (fun k => k ≤ l.length) (fun k => l.length - k) 0 (Nat.zero_le _) (Sub.less ⟨(SLe.of_eq rfl), SLe.refl _, (SLe.of_eq rfl), SLe.refl _, trivial⟩ (fun _ h => h)) ?_
      intro k hk
      refine AWP.seq ?_
      refine AWP.region ?_
      refine AOps.step rfl rfl rfl (AOp.lss rfl rfl rfl) ?_
      refine AOps.nil ?_
      refine AWP.seq ?_
      refine AWP.cond rfl (fun h6 => ?_) (fun h6 => ?_)
      · replace h6 := of_decide_eq_true h6
        have hlt : k < l.length := by omega
        have hdg := (body3 k1 k2 hb).2 (at0 l k) (by rw [at0_eq hlt]; exact List.getElem_mem _)
        have het := eTerm_bound k1 k2 hb (i := k) (by omega)
        have hes := eSum_bound k1 k2 hb k (by omega)
        unfold eTerm at het
        refine AWP.skip ?_
        refine AWP.seq ?_
        refine AWP.block ?_
        refine AWP.seq ?_
        refine AWP.region ?_
        refine AOps.step rfl rfl rfl (AOp.moveD rfl rfl) ?_
        refine AOps.step rfl rfl rfl (AOp.assignD rfl rfl) ?_
        refine AOps.nil ?_
        refine AWP.region ?_
        refine AOps.step rfl rfl rfl (AOp.moveD rfl rfl) ?_
        refine AOps.step rfl rfl rfl (AOp.moveD rfl rfl) ?_
        refine AOps.step rfl rfl rfl (AOp.rem64 rfl rfl rfl (by omega) (by omega)) ?_
        refine AOps.step rfl rfl rfl (AOp.mul64 rfl rfl rfl (by omega) (by omega)) ?_
        refine AOps.step rfl rfl rfl (AOp.add64 rfl rfl rfl (by omega) (by omega)) ?_
        refine AOps.step rfl rfl rfl (AOp.moveD rfl rfl) ?_
        refine AOps.step rfl rfl rfl (AOp.moveD rfl rfl) ?_
        refine AOps.step rfl rfl rfl (AOp.indexStr rfl st_9 rfl rfl k rfl (at0_s hlt)) ?_
        refine AOps.step rfl rfl rfl (AOp.sub rfl rfl rfl) ?_
        refine AOps.step rfl rfl rfl (AOp.convInt rfl cv_5_3 rfl) ?_
        rw [dv_wrap hdg]
        refine AOps.step rfl rfl rfl (AOp.mul64 rfl rfl rfl (by omega) (by omega)) ?_
        refine AOps.step rfl rfl rfl (AOp.add64 rfl rfl rfl (by omega) (by omega)) ?_
        refine AOps.step rfl rfl rfl (AOp.assignD rfl rfl) ?_
        refine AOps.nil ?_
        refine AWP.region ?_
        refine AOps.step rfl rfl rfl (AOp.add64 rfl rfl rfl (by omega) (by omega)) ?_
        refine AOps.step rfl rfl rfl (AOp.moveD rfl rfl) ?_
        refine AOps.nil ?_
        refine ⟨k + 1, (by omega), (by dsimp only; omega), Sub.less ⟨(SLe.of_eq rfl), SLe.refl _, (SLe.of_eq (by rw [e_next]; rfl)), SLe.refl _, trivial⟩ (fun _ h => h)⟩
      · replace h6 := of_decide_eq_false h6
        obtain rfl : k = 12 := by omega
        have hes := eSum_bound k1 k2 hb 12 (by omega)
        refine AWP.exit ?_
        refine AWP.seq ?_
        refine AWP.region ?_
        refine AOps.step rfl rfl rfl (AOp.moveD rfl rfl) ?_
        rw [Int.zero_add]
        refine AOps.step rfl rfl rfl (AOp.rem64 rfl rfl rfl (by omega) (by omega)) ?_
        refine AOps.step rfl rfl rfl (AOp.sub64 rfl rfl rfl (by omega) (by omega)) ?_
        refine AOps.step rfl rfl rfl (AOp.rem64 rfl rfl rfl (by omega) (by omega)) ?_
        rw [chk_3 k1 k2]
        refine AOps.step rfl rfl rfl (AOp.indexStr rfl st_9 rfl rfl (chk kind l).toNat rfl (dig_get k2)) ?_
        refine AOps.step rfl rfl rfl (AOp.assignD rfl rfl) ?_
        refine AOps.nil ?_
        refine AWP.ret ?_
        refine ⟨RetD.eq rfl ?_, trivial⟩
        all_goals (rfl)

set_option maxRecDepth 100000 in
set_option maxHeartbeats 1000000 in
theorem c_digitsOf (kind : Int) : ACall Tryd.prog 29 [.v (.int .i64 kind)] (.v (.string (bStr (signsOf (two kind))))) := by
  refine acall_of (n := 5) (ds' := [.v (.string (bStr (signsOf (two kind))))]) Tryd.func29 rfl (by kernel_rfl) rfl [2] rfl rfl ?_
  intro B w0 F0 fr
  refine AWP.seq ?_
  refine AWP.region ?_
  refine AOps.step rfl rfl rfl (AOp.assignD rfl rfl) ?_
  refine AOps.nil ?_
  refine AWP.seq ?_
  refine AWP.seq ?_
  refine AWP.region ?_
  refine AOps.step rfl rfl rfl (AOp.moveD rfl rfl) ?_
  refine AOps.step rfl rfl rfl (AOp.eql rfl rfl rfl) ?_
  refine AOps.nil ?_
  refine AWP.cond rfl (fun h1 => ?_) (fun h1 => ?_)
  · replace h1 := of_decide_eq_true h1
    subst h1
    refine AWP.seq ?_
    refine AWP.region ?_
    refine AOps.step rfl rfl rfl (AOp.assignD rfl rfl) ?_
    refine AOps.nil ?_
    refine AWP.ret ?_
    refine ⟨RetD.eq rfl ?_, trivial⟩
    all_goals (rfl)
  · replace h1 := of_decide_eq_false h1
    rw [show two kind = false from decide_eq_false h1]
    refine AWP.skip ?_
    refine AWP.seq ?_
    refine AWP.region ?_
    refine AOps.step rfl rfl rfl (AOp.assignD rfl rfl) ?_
    refine AOps.nil ?_
    refine AWP.ret ?_
    refine ⟨RetD.eq rfl ?_, trivial⟩
    all_goals (rfl)

set_option maxRecDepth 100000 in
set_option maxHeartbeats 1000000 in
theorem c_checks (kind : Int) : ACall Tryd.prog 32 [.v (.int .i64 kind)] (.v (.string (bStr (signsOf (two kind))))) := by
  refine acall_of (n := 5) (ds' := [.v (.string (bStr (signsOf (two kind))))]) Tryd.func32 rfl (by kernel_rfl) rfl [2] rfl rfl ?_
  intro B w0 F0 fr
  refine AWP.seq ?_
  refine AWP.region ?_
  refine AOps.step rfl rfl rfl (AOp.assignD rfl rfl) ?_
  refine AOps.nil ?_
  refine AWP.seq ?_
  refine AWP.seq ?_
  refine AWP.region ?_
  refine AOps.step rfl rfl rfl (AOp.moveD rfl rfl) ?_
  refine AOps.step rfl rfl rfl (AOp.eql rfl rfl rfl) ?_
  refine AOps.nil ?_
  refine AWP.cond rfl (fun h1 => ?_) (fun h1 => ?_)
  · replace h1 := of_decide_eq_true h1
    subst h1
    refine AWP.seq ?_
    refine AWP.region ?_
    refine AOps.step rfl rfl rfl (AOp.assignD rfl rfl) ?_
    refine AOps.nil ?_
    refine AWP.ret ?_
    refine ⟨RetD.eq rfl ?_, trivial⟩
    all_goals (rfl)
  · replace h1 := of_decide_eq_false h1
    rw [show two kind = false from decide_eq_false h1]
    refine AWP.skip ?_
    refine AWP.seq ?_
    refine AWP.region ?_
    refine AOps.step rfl rfl rfl (AOp.assignD rfl rfl) ?_
    refine AOps.nil ?_
    refine AWP.ret ?_
    refine ⟨RetD.eq rfl ?_, trivial⟩
    all_goals (rfl)

set_option maxRecDepth 100000 in
set_option maxHeartbeats 1000000 in
theorem c_pDigit (kind : Int) (l : List UInt8) (hl : l.length ≤ 9223372036854775807) : ACall Tryd.prog 9 [.v (.int .i64 kind), .v (.string (bStr l))] (.tup [.v (.string (bStr (digS kind l))), .v (.int .i64 (digF kind l))]) := by
  refine acall_of (n := 18) (ds' := [.v (.string (bStr (digS kind l))), .v (.int .i64 (digF kind l))]) Tryd.func9 rfl (by kernel_rfl) rfl [4, 5] rfl rfl ?_
  intro B w0 F0 fr
  refine AWP.seq ?_
  refine AWP.region ?_
  refine AOps.step rfl rfl rfl (AOp.assignD rfl rfl) ?_
  refine AOps.step rfl rfl rfl (AOp.assignD rfl rfl) ?_
  refine AOps.nil ?_
  refine AWP.seq ?_
  refine AWP.seq ?_
  refine AWP.region ?_
  refine AOps.step rfl rfl rfl (AOp.moveD rfl rfl) ?_
  refine AOps.step rfl rfl rfl (AOp.call rfl (.cons (ArgOk.rfl' rfl) .nil) (c_pKind kind)) ?_
  refine AOps.step rfl rfl rfl (AOp.not rfl rfl) ?_
  refine AOps.nil ?_
  refine AWP.cond rfl (fun h1 => ?_) (fun h1 => ?_)
  · replace h1 := bnot_t h1
    obtain ⟨E1, E2⟩ := dig_1 l h1
    rw [E1, E2]
    refine AWP.seq ?_
    refine AWP.region ?_
    refine AOps.step rfl rfl rfl (AOp.assignD rfl rfl) ?_
    refine AOps.step rfl rfl rfl (AOp.assignD rfl rfl) ?_
    refine AOps.nil ?_
    refine AWP.ret ?_
    refine ⟨RetD.eq rfl ?_, RetD.eq rfl ?_, trivial⟩
    all_goals (rfl)
  · replace h1 := bnot_f h1
    have hk := h1
    refine AWP.skip ?_
    refine AWP.seq ?_
    refine AWP.seq ?_
    refine AWP.region ?_
    refine AOps.step rfl rfl rfl (AOp.moveD rfl rfl) ?_
    refine AOps.step rfl rfl rfl (AOp.moveD rfl rfl) ?_
    refine AOps.step rfl rfl rfl (AOp.call rfl (.cons (ArgOk.rfl' rfl) (.cons (ArgOk.rfl' rfl) .nil)) (c_pBody kind l hl)) ?_
    refine AOps.step rfl rfl rfl (AOp.not rfl rfl) ?_
    refine AOps.nil ?_
    refine AWP.cond rfl (fun h2 => ?_) (fun h2 => ?_)
    · replace h2 := bnot_t h2
      obtain ⟨E1, E2⟩ := dig_2 hk h2
      rw [E1, E2]
      refine AWP.seq ?_
      refine AWP.region ?_
      refine AOps.step rfl rfl rfl (AOp.assignD rfl rfl) ?_
      refine AOps.step rfl rfl rfl (AOp.assignD rfl rfl) ?_
      refine AOps.nil ?_
      refine AWP.ret ?_
      refine ⟨RetD.eq rfl ?_, RetD.eq rfl ?_, trivial⟩
      all_goals (rfl)
    · replace h2 := bnot_f h2
      have hb := h2
      obtain ⟨E1, E2⟩ := dig_3 hk hb
      rw [E1, E2]
      refine AWP.skip ?_
      refine AWP.seq ?_
      refine AWP.region ?_
      refine AOps.step rfl rfl rfl (AOp.moveD rfl rfl) ?_
      refine AOps.step rfl rfl rfl (AOp.moveD rfl rfl) ?_
      refine AOps.step rfl rfl rfl (AOp.call rfl (.cons (ArgOk.rfl' rfl) (.cons (ArgOk.rfl' rfl) .nil)) (c_digit kind l hb)) ?_
      refine AOps.step rfl rfl rfl (AOp.buildSlice rfl et_36 (.cons rfl rfl rfl .nil) rfl (by decide)) ?_
      refine AOps.step rfl rfl rfl (AOp.bytesStr (l := [chkS kind l]) rfl et_36.ht Tryd.underlying5 st_9 rfl) ?_
      refine AOps.step rfl rfl rfl (AOp.assignD rfl rfl) ?_
      refine AOps.step rfl rfl rfl (AOp.assignD rfl rfl) ?_
      refine AOps.nil ?_
      refine AWP.ret ?_
      refine ⟨RetD.eq rfl ?_, RetD.eq rfl ?_, trivial⟩
      all_goals (rfl)

set_option maxRecDepth 100000 in
set_option maxHeartbeats 1000000 in
theorem c_pCode (kind : Int) (l : List UInt8) (hl : l.length ≤ 9223372036854775807) : ACall Tryd.prog 11 [.v (.int .i64 kind), .v (.string (bStr l))] (.v (.int .i64 (codeF kind l))) := by
  refine acall_of (n := 40) (ds' := [.v (.int .i64 (codeF kind l))]) Tryd.func11 rfl (by kernel_rfl) rfl [4] rfl rfl ?_
  intro B w0 F0 fr
  refine AWP.seq ?_
  refine AWP.region ?_
  refine AOps.step rfl rfl rfl (AOp.assignD rfl rfl) ?_
  refine AOps.nil ?_
  refine AWP.seq ?_
  refine AWP.seq ?_
  refine AWP.region ?_
  refine AOps.step rfl rfl rfl (AOp.moveD rfl rfl) ?_
  refine AOps.step rfl rfl rfl (AOp.call rfl (.cons (ArgOk.rfl' rfl) .nil) (c_pKind kind)) ?_
  refine AOps.step rfl rfl rfl (AOp.not rfl rfl) ?_
  refine AOps.nil ?_
  refine AWP.cond rfl (fun h1 => ?_) (fun h1 => ?_)
  · replace h1 := bnot_t h1
    have HR := codeF_k l h1
    refine AWP.seq ?_
    refine AWP.region ?_
    refine AOps.step rfl rfl rfl (AOp.assignD rfl rfl) ?_
    refine AOps.nil ?_
    refine AWP.ret ?_
    refine ⟨RetD.eq rfl ?_, trivial⟩
    all_goals (rw [HR])
  · replace h1 := bnot_f h1
    have hk := h1
    refine AWP.skip ?_
    refine AWP.seq ?_
    refine AWP.region ?_
    refine AOps.step rfl rfl rfl (AOp.moveD rfl rfl) ?_
    refine AOps.step rfl rfl rfl (AOp.lenStr rfl st_9 rfl) ?_
    rw [bStr_size]
    refine AOps.step rfl rfl rfl (AOp.sub64 rfl rfl rfl (by omega) (by omega)) ?_
    refine AOps.step rfl rfl rfl (AOp.assignD rfl rfl) ?_
    refine AOps.nil ?_
    refine AWP.seq ?_
    refine AWP.seq ?_
    refine AWP.draw (by kernel_rfl) (by kernel_rfl) ?_
    refine DRun.step rfl rfl rfl (AOp.moveD rfl rfl) ?_
    refine DRun.step rfl rfl rfl (AOp.lss rfl rfl rfl) ?_
    refine DRun.step rfl rfl rfl (AOp.moveD rfl rfl) ?_
    refine DRun.split 14 rfl (fun g2 => ?_) (fun g2 => ?_)
    · replace g2 := of_decide_eq_true g2
      have HR := codeF_0 (l := l) hk (by omega)
      refine DRun.pass ⟨14, rfl, .inl ⟨_, rfl, rfl⟩⟩ rfl rfl ?_
      refine DRun.pass ⟨14, rfl, .inl ⟨_, rfl, rfl⟩⟩ rfl rfl ?_
      refine DRun.pass ⟨14, rfl, .inl ⟨_, rfl, rfl⟩⟩ rfl rfl ?_
      refine DRun.pass ⟨14, rfl, .inl ⟨_, rfl, rfl⟩⟩ rfl rfl ?_
      refine DRun.pass ⟨14, rfl, .inl ⟨_, rfl, rfl⟩⟩ rfl rfl ?_
      refine DRun.pass ⟨14, rfl, .inl ⟨_, rfl, rfl⟩⟩ rfl rfl ?_
      refine DRun.step rfl rfl rfl (AOp.pickT rfl rfl rfl) ?_
      refine DRun.step rfl rfl rfl (AOp.moveD rfl rfl) ?_
      refine DRun.pass ⟨22, rfl, .inl ⟨_, rfl, rfl⟩⟩ rfl rfl ?_
      refine DRun.pass ⟨22, rfl, .inl ⟨_, rfl, rfl⟩⟩ rfl rfl ?_
      refine DRun.pass ⟨22, rfl, .inl ⟨_, rfl, rfl⟩⟩ rfl rfl ?_
      refine DRun.pass ⟨22, rfl, .inl ⟨_, rfl, rfl⟩⟩ rfl rfl ?_
      refine DRun.pass ⟨22, rfl, .inl ⟨_, rfl, rfl⟩⟩ rfl rfl ?_
      refine DRun.pass ⟨22, rfl, .inl ⟨_, rfl, rfl⟩⟩ rfl rfl ?_
      refine DRun.pass ⟨22, rfl, .inl ⟨_, rfl, rfl⟩⟩ rfl rfl ?_
      refine DRun.step rfl rfl rfl (AOp.pickT rfl rfl rfl) ?_
      refine DRun.nil ?_
      refine AWP.cond rfl (fun _ => ?_) (fun h => nomatch h)
      refine AWP.seq ?_
      refine AWP.region ?_
      refine AOps.step rfl rfl rfl (AOp.assignD rfl rfl) ?_
      refine AOps.nil ?_
      refine AWP.ret ?_
      refine ⟨RetD.eq rfl ?_, trivial⟩
      all_goals (rw [HR])
    · replace g2 := of_decide_eq_false g2
      have h0 : ¬ l.length = 0 := by omega
      refine DRun.step ⟨14, rfl, .inl ⟨_, rfl, rfl⟩⟩ rfl rfl (AOp.moveD rfl rfl) ?_
      refine DRun.step ⟨14, rfl, .inl ⟨_, rfl, rfl⟩⟩ rfl rfl (AOp.moveD rfl rfl) ?_
      refine DRun.step ⟨14, rfl, .inl ⟨_, rfl, rfl⟩⟩ rfl rfl (AOp.moveD rfl rfl) ?_
      refine DRun.step ⟨14, rfl, .inl ⟨_, rfl, rfl⟩⟩ rfl rfl (AOp.sliceTo rfl Tryd.underlying9 rfl rfl (l.length - 1) (by omega) (by omega)) ?_
      refine DRun.step ⟨14, rfl, .inl ⟨_, rfl, rfl⟩⟩ rfl rfl (AOp.call rfl (.cons (ArgOk.rfl' rfl) (.cons (ArgOk.rfl' rfl) .nil)) (c_pBody kind (cBody l) (by unfold cBody; rw [List.length_take]; omega))) ?_
      refine DRun.step ⟨14, rfl, .inl ⟨_, rfl, rfl⟩⟩ rfl rfl (AOp.not rfl rfl) ?_
      refine DRun.step rfl rfl rfl (AOp.pickF rfl rfl rfl) ?_
      refine DRun.step rfl rfl rfl (AOp.moveD rfl rfl) ?_
      refine DRun.split 22 rfl (fun g3 => ?_) (fun g3 => ?_)
      · replace g3 := bnot_t g3
        have HR := codeF_b hk g3
        refine DRun.pass ⟨22, rfl, .inl ⟨_, rfl, rfl⟩⟩ rfl rfl ?_
        refine DRun.pass ⟨22, rfl, .inl ⟨_, rfl, rfl⟩⟩ rfl rfl ?_
        refine DRun.pass ⟨22, rfl, .inl ⟨_, rfl, rfl⟩⟩ rfl rfl ?_
        refine DRun.pass ⟨22, rfl, .inl ⟨_, rfl, rfl⟩⟩ rfl rfl ?_
        refine DRun.pass ⟨22, rfl, .inl ⟨_, rfl, rfl⟩⟩ rfl rfl ?_
        refine DRun.pass ⟨22, rfl, .inl ⟨_, rfl, rfl⟩⟩ rfl rfl ?_
        refine DRun.pass ⟨22, rfl, .inl ⟨_, rfl, rfl⟩⟩ rfl rfl ?_
        refine DRun.step rfl rfl rfl (AOp.pickT rfl rfl rfl) ?_
        refine DRun.nil ?_
        refine AWP.cond rfl (fun _ => ?_) (fun h => nomatch h)
        refine AWP.seq ?_
        refine AWP.region ?_
        refine AOps.step rfl rfl rfl (AOp.assignD rfl rfl) ?_
        refine AOps.nil ?_
        refine AWP.ret ?_
        refine ⟨RetD.eq rfl ?_, trivial⟩
        all_goals (rw [HR])
      · replace g3 := bnot_f g3
        have hb := g3
        refine DRun.step ⟨22, rfl, .inl ⟨_, rfl, rfl⟩⟩ rfl rfl (AOp.moveD rfl rfl) ?_
        refine DRun.step ⟨22, rfl, .inl ⟨_, rfl, rfl⟩⟩ rfl rfl (AOp.call rfl (.cons (ArgOk.rfl' rfl) .nil) (c_digitsOf kind)) ?_
        refine DRun.step ⟨22, rfl, .inl ⟨_, rfl, rfl⟩⟩ rfl rfl (AOp.moveD rfl rfl) ?_
        refine DRun.step ⟨22, rfl, .inl ⟨_, rfl, rfl⟩⟩ rfl rfl (AOp.moveD rfl rfl) ?_
        refine DRun.step ⟨22, rfl, .inl ⟨_, rfl, rfl⟩⟩ rfl rfl (AOp.indexStr rfl st_9 rfl rfl (l.length - 1) (by omega) (at0_s (by omega))) ?_
        refine DRun.step ⟨22, rfl, .inl ⟨_, rfl, rfl⟩⟩ rfl rfl (AOp.call rfl (.cons (ArgOk.rfl' rfl) (.cons (ArgOk.rfl' rfl) .nil)) (c_idx (signsOf (two kind)) (cSign l))) ?_
        refine DRun.step ⟨22, rfl, .inl ⟨_, rfl, rfl⟩⟩ rfl rfl (AOp.lss rfl rfl rfl) ?_
        refine DRun.step rfl rfl rfl (AOp.pickF rfl rfl rfl) ?_
        refine DRun.nil ?_
        refine AWP.cond rfl (fun h4 => ?_) (fun h4 => ?_)
        · replace h4 := of_decide_eq_true h4
          have HR := codeF_s hk (among_no h4)
          refine AWP.seq ?_
          refine AWP.region ?_
          refine AOps.step rfl rfl rfl (AOp.assignD rfl rfl) ?_
          refine AOps.nil ?_
          refine AWP.ret ?_
          refine ⟨RetD.eq rfl ?_, trivial⟩
          all_goals (rw [HR])
        · replace h4 := of_decide_eq_false h4
          have hs := among_yes h4
          have HF := codeF_f hk h0 hb hs
          refine AWP.skip ?_
          refine AWP.seq ?_
          refine AWP.seq ?_
          refine AWP.draw (by kernel_rfl) (by kernel_rfl) ?_
          refine DRun.step rfl rfl rfl (AOp.moveD rfl rfl) ?_
          refine DRun.step rfl rfl rfl (AOp.moveD rfl rfl) ?_
          refine DRun.step rfl rfl rfl (AOp.moveD rfl rfl) ?_
          refine DRun.step rfl rfl rfl (AOp.sliceTo rfl Tryd.underlying9 rfl rfl (l.length - 1) (by omega) (by omega)) ?_
          refine DRun.step rfl rfl rfl (AOp.call rfl (.cons (ArgOk.rfl' rfl) (.cons (ArgOk.rfl' rfl) .nil)) (c_digit kind (cBody l) hb)) ?_
          refine DRun.step rfl rfl rfl (AOp.moveD rfl rfl) ?_
          refine DRun.step rfl rfl rfl (AOp.moveD rfl rfl) ?_
          refine DRun.step rfl rfl rfl (AOp.indexStr rfl st_9 rfl rfl (l.length - 1) (by omega) (at0_s (by omega))) ?_
          refine DRun.step rfl rfl rfl (AOp.neq rfl rfl rfl) ?_
          refine DRun.nil ?_
          refine AWP.cond rfl (fun h5 => ?_) (fun h5 => ?_)
          · replace h5 := of_decide_eq_true h5
            have HR := HF.trans (if_pos (fits_no (c := cSign l) h5))
            refine AWP.seq ?_
            refine AWP.region ?_
            refine AOps.step rfl rfl rfl (AOp.assignD rfl rfl) ?_
            refine AOps.nil ?_
            refine AWP.ret ?_
            refine ⟨RetD.eq rfl ?_, trivial⟩
            all_goals (rw [HR])
          · replace h5 := of_decide_eq_false h5
            have HR := HF.trans (if_neg (by rw [fits_yes (c := cSign l) (Decidable.not_not.1 h5)]; decide))
            refine AWP.skip ?_
            refine AWP.seq ?_
            refine AWP.region ?_
            refine AOps.step rfl rfl rfl (AOp.assignD rfl rfl) ?_
            refine AOps.nil ?_
            refine AWP.ret ?_
            refine ⟨RetD.eq rfl ?_, trivial⟩
            all_goals (rw [HR])

end Go.Proofs.YtajghehicmlajaaDoor
