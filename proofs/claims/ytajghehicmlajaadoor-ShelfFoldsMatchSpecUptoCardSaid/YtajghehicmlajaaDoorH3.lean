/- Walks over abstract values. Printed by tools/gen.py. No statement of the seat. -/
import Derived.Test.YtajghehicmlajaaDoorH2
namespace Go.Proofs.YtajghehicmlajaaDoor
open Go.RowKit
set_option linter.unusedVariables false

/-! Types. -/
namespace TyH3
theorem et_28 : ElemTy Tryd.prog 28 9 1 16 (.string ⟨#[]⟩) := ⟨by kernel_rfl, by kernel_rfl, by kernel_rfl, by decide⟩
theorem et_36 : ElemTy Tryd.prog 36 5 1 1 (.int .u8 0) := ⟨by kernel_rfl, by kernel_rfl, by kernel_rfl, by decide⟩
theorem sc_5 : Scal Tryd.prog 5 := .of (by kernel_rfl)
theorem sc_9 : Scal Tryd.prog 9 := .of (by kernel_rfl)
theorem st_9 : Tryd.prog.underlying 9 = some .string := by kernel_rfl
end TyH3
open TyH3


theorem at_list {α : Type} {l : List α} {f : α → List D} {k : Nat} (h : k < l.length) : (l.map f)[k]? = some (f l[k]) := by simp [h]
def bStr (l : List UInt8) : ByteArray := ⟨l.toArray⟩
theorem bStr_list (l : List UInt8) : (bStr l).data.toList = l := rfl
theorem bStr_size (l : List UInt8) : (bStr l).size = l.length := by rw [Lib.size_eq]; rfl
theorem bStr_drop (l : List UInt8) (k : Nat) : (bStr l).extract k (bStr l).size = bStr (l.drop k) := by
  have h2 : ((bStr l).extract k (bStr l).size).data = (l.drop k).toArray := by
    rw [ByteArray.data_extract, bStr_size]
    show l.toArray.extract k l.length = _
    simp only [List.extract_toArray, List.extract_eq_take_drop]
    rw [List.take_of_length_le (by simp)]
  exact congrArg ByteArray.mk h2
theorem c_trim (l : List UInt8) (hl : l.length ≤ 9223372036854775807) : ACall Tryd.prog 17 [.v (.string ⟨l.toArray⟩), .v (.string ⟨#[32]⟩)] (.v (.string (bStr (Lib.trimSuffix l [32])))) := c_trimSuffix (bStr l) ⟨#[32]⟩ (by rw [bStr_size]; exact hl)
theorem c_cut (l p : List UInt8) : ACall Tryd.prog 18 [.v (.string (bStr l)), .v (.string (bStr p))] (.tup [.v (.string (bStr (Lib.trimPrefix l p))), .v (.bool (Lib.hasPrefix l p))]) := c_cutPrefix (bStr l) (bStr p)
theorem c_hasP (l p : List UInt8) : ACall Tryd.prog 21 [.v (.string (bStr l)), .v (.string (bStr p))] (.v (.bool (Lib.hasPrefix l p))) := c_hasPrefix (bStr l) (bStr p)
theorem c_fieldsL (l : List UInt8) (hs : l.length < 4294967281) (ha : ∀ b ∈ l, b.toNat < 128) : ACallT Tryd.prog TabT 20 [.v (.string ⟨l.toArray⟩)] (.sl ((Lib.fields l).map fldD)) := c_fields (bStr l) (by rw [bStr_size]; exact hs) (fun j b hj => ha b (List.mem_of_getElem? hj))
theorem c_joinL (xs : List (List UInt8)) (hN : xs.length ≤ 140737488355328) (hlen : (Lib.join xs [32]).length ≤ 140737488355328) : ACall Tryd.prog 19 [.sl (xs.map fldD), .v (.string ⟨#[32]⟩)] (.v (.string (bStr (Lib.join xs [32])))) := c_join xs ⟨#[32]⟩ hN hlen
def arts : List (List UInt8) := [[116, 104, 101, 32], [97, 110, 32], [97, 32]]
def artD (l : List UInt8) : List D := [.v (.string (bStr l))]
theorem strip_hit {S : List UInt8} {i : Nat} (hi : i < arts.length) (h0 : ∀ p ∈ arts.take i, Lib.hasPrefix S p = false) (h : Lib.hasPrefix S arts[i] = true) : strip S = S.drop arts[i].length := by
  unfold strip
  match i, hi with
  | 0, _ => rw [if_pos (show Lib.hasPrefix S [116, 104, 101, 32] = true from h)]; rfl
  | 1, _ =>
    have e0 := h0 [116, 104, 101, 32] (by decide)
    rw [if_neg (by rw [e0]; decide), if_pos (show Lib.hasPrefix S [97, 110, 32] = true from h)]; rfl
  | 2, _ =>
    have e0 := h0 [116, 104, 101, 32] (by decide)
    have e1 := h0 [97, 110, 32] (by decide)
    rw [if_neg (by rw [e0]; decide), if_neg (by rw [e1]; decide), if_pos (show Lib.hasPrefix S [97, 32] = true from h)]; rfl
theorem strip_none {S : List UInt8} (h0 : ∀ p ∈ arts.take 3, Lib.hasPrefix S p = false) : strip S = S := by
  unfold strip
  have e0 := h0 [116, 104, 101, 32] (by decide)
  have e1 := h0 [97, 110, 32] (by decide)
  have e2 := h0 [97, 32] (by decide)
  rw [if_neg (by rw [e0]; decide), if_neg (by rw [e1]; decide), if_neg (by rw [e2]; decide)]
theorem art_next {P : List UInt8 → Prop} {i : Nat} (hi : i < arts.length) (h : ∀ p ∈ arts.take i, P p) (h2 : P arts[i]) : ∀ p ∈ arts.take (i + 1), P p := by
  intro w hw
  rw [List.take_add_one, List.getElem?_eq_getElem hi] at hw
  simp only [Option.toList_some, List.mem_append, List.mem_singleton] at hw
  rcases hw with h1 | h1
  · exact h w h1
  · rw [h1]; exact h2
/-- The program's loop, so far. -/
def pTo (s : ByteArray) (k : Nat) : List UInt8 := (s.data.toList.take k).foldl pStep []
theorem pTo_next {s : ByteArray} {k : Nat} (h : k < s.data.toList.length) : pTo s (k + 1) = pStep (pTo s k) s.data.toList[k] := by
  unfold pTo
  rw [List.take_add_one, List.getElem?_eq_getElem h, Option.toList_some, List.foldl_append]; rfl
theorem pTo_len (s : ByteArray) (k : Nat) : (pTo s k).length ≤ k := fold_len _ k
theorem pTo_all (s : ByteArray) : pTo s s.size = s.data.toList.foldl pStep [] := by unfold pTo; rw [Lib.size_eq, List.take_length]
theorem low_nat : ∀ n : Fin 256, 65 ≤ n.val ∧ n.val ≤ 90 → IntKind.u8.wrap ((n.val : Int) + 32) = ((lowB (UInt8.ofNat n.val)).toNat : Int) := by decide +kernel
theorem low_wrap {c : UInt8} (h : 65 ≤ c.toNat ∧ c.toNat ≤ 90) : IntKind.u8.wrap ((c.toNat : Int) + 32) = ((lowB c).toNat : Int) := by
  have := low_nat ⟨c.toNat, c.toNat_lt⟩ h
  simp only [UInt8.ofNat_toNat] at this
  exact this
theorem low_wrap2_nat : ∀ n : Fin 256, 65 ≤ n.val ∧ n.val ≤ 90 → IntKind.u8.wrap (IntKind.u8.wrap ((n.val : Int) - 65) + 97) = ((lowB (UInt8.ofNat n.val)).toNat : Int) := by decide +kernel
theorem low_wrap2 {c : UInt8} (h : 65 ≤ c.toNat ∧ c.toNat ≤ 90) : IntKind.u8.wrap (IntKind.u8.wrap ((c.toNat : Int) - 65) + 97) = ((lowB c).toNat : Int) := by
  have := low_wrap2_nat ⟨c.toNat, c.toNat_lt⟩ h
  simp only [UInt8.ofNat_toNat] at this
  exact this
theorem low_same {c : UInt8} (h : ¬ (65 ≤ c.toNat ∧ c.toNat ≤ 90)) : lowB c = c := if_neg h
theorem aln_iff {x : UInt8} : alnB x = true ↔ (97 ≤ x.toNat ∧ x.toNat ≤ 122) ∨ (48 ≤ x.toNat ∧ x.toNat ≤ 57) := by unfold alnB; simp
theorem step_aln {b : List UInt8} {c : UInt8} (h : alnB (lowB c) = true) : pStep b c = b ++ [lowB c] := if_pos h
theorem step_sp {b : List UInt8} {c : UInt8} (h : ¬ alnB (lowB c) = true) (h2 : 0 < b.length) (h3 : b[b.length - 1]'(by omega) ≠ 32) : pStep b c = b ++ [32] := by
  have h4 : b ≠ [] ∧ b.getLast? ≠ some 32 := ⟨fun e => (by rw [e] at h2; exact absurd h2 (by simp)), fun e => by
    rw [List.getLast?_eq_getElem?, List.getElem?_eq_getElem (by omega)] at e
    exact h3 (Option.some.inj e)⟩
  unfold pStep
  rw [if_neg h, if_pos h4]
theorem u8_32 {x : UInt8} (h : (x.toNat : Int) = 32) : x = 32 := UInt8.toNat_inj.1 (by show x.toNat = 32; omega)
theorem u8_n32 {x : UInt8} (h : (x.toNat : Int) ≠ 32) : x ≠ 32 := fun e => h (by rw [e]; rfl)
theorem last_32 {b : List UInt8} (h2 : 0 < b.length) (h3 : b[b.length - 1]'(by omega) = 32) : b.getLast? = some 32 := by rw [List.getLast?_eq_getElem?, List.getElem?_eq_getElem (by omega), h3]
theorem step_no {b : List UInt8} {c : UInt8} (h : ¬ alnB (lowB c) = true) (h2 : b = [] ∨ b.getLast? = some 32) : pStep b c = b := by
  unfold pStep
  rw [if_neg h, if_neg]
  rintro ⟨h3, h4⟩
  exact h2.elim h3 h4


set_option maxRecDepth 100000 in
set_option maxHeartbeats 1000000 in
theorem c_pFold (s : ByteArray) (hs : s.size ≤ 1048576) : ACall Tryd.prog 6 [.v (.string s)] (.v (.string (bStr (foldS s.data.toList)))) := by
  refine acall_of (n := 82) (ds' := [.v (.string (bStr (foldS s.data.toList)))]) Tryd.func6 rfl (by kernel_rfl) rfl [2] rfl rfl ?_
  intro B w0 F0 fr
  have hsz := Lib.size_eq s
  refine AWP.seq ?_
  refine AWP.region ?_
  refine AOps.step rfl rfl rfl (AOp.assignD rfl rfl) ?_
  refine AOps.nil ?_
  refine AWP.seq ?_
  refine AWP.region ?_
  refine AOps.step rfl rfl rfl (AOp.assignD rfl rfl) ?_
  refine AOps.nil ?_
  refine AWP.seq ?_
  refine AWP.seq ?_
  refine AWP.region ?_
  refine AOps.step rfl rfl rfl (AOp.moveD rfl rfl) ?_
  refine AOps.step rfl rfl rfl (AOp.lenStr rfl st_9 rfl) ?_
  refine AOps.step rfl rfl rfl (AOp.moveD rfl rfl) ?_
  refine AOps.nil ?_
  refine AWP.block ?_
  refine AWP.adopt 3 1 5 1 rfl rfl ?_
  refine AWP.loop (G := Nat) (fun k => Env.of [(13, .d (.v (.int .i64 (k : Int)))), (11, .d (.v (.string s))), (12, .d (.v (.int .i64 (s.size : Int)))), (0, .d (.v (.string s))), (3, .own 1)]) (fun k => [(1, .row 5 1 ((pTo s k).map u8D))]) (fun k => k ≤ s.size) (fun k => s.size - k) 0 (Nat.zero_le _) (Sub.less ⟨(SLe.of_eq rfl), SLe.refl _, SLe.refl _, SLe.refl _, SLe.refl _, trivial⟩ (row_same rfl)) ?_
  intro k hk
  refine AWP.seq ?_
  refine AWP.region ?_
  refine AOps.step rfl rfl rfl (AOp.lss rfl rfl rfl) ?_
  refine AOps.nil ?_
  refine AWP.seq ?_
  refine AWP.cond rfl (fun h1 => ?_) (fun h1 => ?_)
  · replace h1 := of_decide_eq_true h1
    have hlt : k < s.data.toList.length := by omega
    have hc := List.getElem?_eq_getElem hlt
    have hpl := pTo_len s k
    have hpn := pTo_next hlt
    generalize s.data.toList[k] = c at hc hpn
    refine AWP.skip ?_
    refine AWP.seq ?_
    refine AWP.block ?_
    refine AWP.seq ?_
    refine AWP.region ?_
    refine AOps.step rfl rfl rfl (AOp.moveD rfl rfl) ?_
    refine AOps.step rfl rfl rfl (AOp.assignD rfl rfl) ?_
    refine AOps.nil ?_
    refine AWP.seq ?_
    refine AWP.region ?_
    refine AOps.step rfl rfl rfl (AOp.moveD rfl rfl) ?_
    refine AOps.step rfl rfl rfl (AOp.moveD rfl rfl) ?_
    refine AOps.step rfl rfl rfl (AOp.indexStr rfl st_9 rfl rfl k rfl hc) ?_
    refine AOps.step rfl rfl rfl (AOp.assignD rfl rfl) ?_
    refine AOps.nil ?_
    refine AWP.seq ?_
    refine AWP.seq ?_
    refine AWP.region ?_
    refine AOps.step rfl rfl rfl (AOp.moveD rfl rfl) ?_
    refine AOps.step rfl rfl rfl (AOp.geq rfl rfl rfl) ?_
    refine AOps.step rfl rfl rfl (AOp.moveD rfl rfl) ?_
    refine AOps.split 21 rfl (fun g2 => ?_) (fun g2 => ?_)
    · replace g2 := of_decide_eq_true g2
      refine AOps.step ⟨21, rfl, .inl ⟨_, rfl, rfl⟩⟩ rfl rfl (AOp.moveD rfl rfl) ?_
      refine AOps.step ⟨21, rfl, .inl ⟨_, rfl, rfl⟩⟩ rfl rfl (AOp.leq rfl rfl rfl) ?_
      refine AOps.step rfl rfl rfl (AOp.pickT rfl rfl rfl) ?_
      refine AOps.nil ?_
      refine AWP.cond rfl (fun h3 => ?_) (fun h3 => ?_)
      · replace h3 := of_decide_eq_true h3
        refine AWP.region ?_
        refine AOps.step rfl rfl rfl (AOp.moveD rfl rfl) ?_
        refine AOps.step rfl rfl rfl (AOp.add rfl rfl rfl) ?_
        rw [low_wrap (by omega)]
        refine AOps.step rfl rfl rfl (AOp.assignD rfl rfl) ?_
        refine AOps.nil ?_
        refine AWP.block ?_
        refine AWP.seq ?_
        first | (have hlc : lowB c = c := low_same (by omega); rw [← hlc]) | skip
        refine AWP.region ?_
        refine AOps.step rfl rfl rfl (AOp.moveD rfl rfl) ?_
        refine AOps.step rfl rfl rfl (AOp.geq rfl rfl rfl) ?_
        refine AOps.step rfl rfl rfl (AOp.moveD rfl rfl) ?_
        refine AOps.split 30 rfl (fun g4 => ?_) (fun g4 => ?_)
        · replace g4 := of_decide_eq_true g4
          refine AOps.step ⟨30, rfl, .inl ⟨_, rfl, rfl⟩⟩ rfl rfl (AOp.moveD rfl rfl) ?_
          refine AOps.step ⟨30, rfl, .inl ⟨_, rfl, rfl⟩⟩ rfl rfl (AOp.leq rfl rfl rfl) ?_
          refine AOps.step rfl rfl rfl (AOp.pickT rfl rfl rfl) ?_
          refine AOps.step rfl rfl rfl (AOp.moveD rfl rfl) ?_
          refine AOps.split 34 rfl (fun g5 => ?_) (fun g5 => ?_)
          · replace g5 := of_decide_eq_true g5
            refine AOps.pass ⟨34, rfl, .inl ⟨_, rfl, rfl⟩⟩ rfl rfl ?_
            refine AOps.pass ⟨34, rfl, .inl ⟨_, rfl, rfl⟩⟩ rfl rfl ?_
            refine AOps.pass ⟨34, rfl, .inl ⟨_, rfl, rfl⟩⟩ rfl rfl ?_
            refine AOps.pass ⟨37, rfl, .inr ⟨rfl, rfl⟩⟩ rfl rfl ?_
            refine AOps.pass ⟨37, rfl, .inr ⟨rfl, rfl⟩⟩ rfl rfl ?_
            refine AOps.pass ⟨34, rfl, .inl ⟨_, rfl, rfl⟩⟩ rfl rfl ?_
            refine AOps.step rfl rfl rfl (AOp.pickT rfl rfl rfl) ?_
            refine AOps.step rfl rfl rfl (AOp.assignD rfl rfl) ?_
            refine AOps.nil ?_
            refine AWP.cond rfl (fun _ => ?_) (fun h => nomatch h)
            refine AWP.region ?_
            refine AOps.step rfl rfl rfl (AOp.moveO rfl rfl) ?_
            refine AOps.step rfl rfl rfl (AOp.moveD rfl rfl) ?_
            refine AOps.step rfl rfl rfl (AOp.buildSlice rfl et_36 (.cons rfl rfl rfl .nil) rfl (by decide)) ?_
            -- append 45
            refine AOps.append rfl rfl rfl rfl et_36 rfl (.head _) rfl (by simp [D.parts]) (by simp; omega) (by simp; omega) ?_
            refine AOps.step rfl rfl rfl (AOp.assignO rfl rfl) ?_
            refine AOps.nil ?_
            refine AWP.region ?_
            refine AOps.step rfl rfl rfl (AOp.add64 rfl rfl rfl (by omega) (by omega)) ?_
            refine AOps.step rfl rfl rfl (AOp.moveD rfl rfl) ?_
            refine AOps.nil ?_
            refine ⟨k + 1, (by omega), (by dsimp only; omega), Sub.less ⟨(SLe.of_eq rfl), SLe.refl _, SLe.refl _, SLe.refl _, SLe.refl _, trivial⟩ (row_same (by first | (rw [hpn, step_aln (aln_iff.2 (by omega)), List.map_append]; rfl) | (rw [hpn, step_no (fun h => by have := aln_iff.1 h; omega) HNO]) | (rw [hpn, step_sp (fun h => by have := aln_iff.1 h; omega) hlp (u8_n32 HSP), List.map_append]; rfl)))⟩
          · replace g5 := of_decide_eq_false g5
            refine AOps.step ⟨34, rfl, .inl ⟨_, rfl, rfl⟩⟩ rfl rfl (AOp.moveD rfl rfl) ?_
            refine AOps.step ⟨34, rfl, .inl ⟨_, rfl, rfl⟩⟩ rfl rfl (AOp.geq rfl rfl rfl) ?_
            refine AOps.step ⟨34, rfl, .inl ⟨_, rfl, rfl⟩⟩ rfl rfl (AOp.moveD rfl rfl) ?_
            refine AOps.split 37 rfl (fun g6 => ?_) (fun g6 => ?_)
            · replace g6 := of_decide_eq_true g6
              refine AOps.step ⟨37, rfl, .inl ⟨_, rfl, rfl⟩⟩ rfl rfl (AOp.moveD rfl rfl) ?_
              refine AOps.step ⟨37, rfl, .inl ⟨_, rfl, rfl⟩⟩ rfl rfl (AOp.leq rfl rfl rfl) ?_
              refine AOps.step ⟨34, rfl, .inl ⟨_, rfl, rfl⟩⟩ rfl rfl (AOp.pickT rfl rfl rfl) ?_
              refine AOps.step rfl rfl rfl (AOp.pickF rfl rfl rfl) ?_
              refine AOps.step rfl rfl rfl (AOp.assignD rfl rfl) ?_
              refine AOps.nil ?_
              refine AWP.cond rfl (fun h7 => ?_) (fun h7 => ?_)
              · replace h7 := of_decide_eq_true h7
                refine AWP.region ?_
                refine AOps.step rfl rfl rfl (AOp.moveO rfl rfl) ?_
                refine AOps.step rfl rfl rfl (AOp.moveD rfl rfl) ?_
                refine AOps.step rfl rfl rfl (AOp.buildSlice rfl et_36 (.cons rfl rfl rfl .nil) rfl (by decide)) ?_
                -- append 45
                refine AOps.append rfl rfl rfl rfl et_36 rfl (.head _) rfl (by simp [D.parts]) (by simp; omega) (by simp; omega) ?_
                refine AOps.step rfl rfl rfl (AOp.assignO rfl rfl) ?_
                refine AOps.nil ?_
                refine AWP.region ?_
                refine AOps.step rfl rfl rfl (AOp.add64 rfl rfl rfl (by omega) (by omega)) ?_
                refine AOps.step rfl rfl rfl (AOp.moveD rfl rfl) ?_
                refine AOps.nil ?_
                refine ⟨k + 1, (by omega), (by dsimp only; omega), Sub.less ⟨(SLe.of_eq rfl), SLe.refl _, SLe.refl _, SLe.refl _, SLe.refl _, trivial⟩ (row_same (by first | (rw [hpn, step_aln (aln_iff.2 (by omega)), List.map_append]; rfl) | (rw [hpn, step_no (fun h => by have := aln_iff.1 h; omega) HNO]) | (rw [hpn, step_sp (fun h => by have := aln_iff.1 h; omega) hlp (u8_n32 HSP), List.map_append]; rfl)))⟩
              · replace h7 := of_decide_eq_false h7
                refine AWP.seq ?_
                refine AWP.region ?_
                refine AOps.step rfl rfl rfl (AOp.moveO rfl rfl) ?_
                refine AOps.step rfl rfl rfl (AOp.lenOwn rfl et_36.ht rfl (.head _)) ?_
                refine AOps.step rfl rfl rfl (AOp.gtr rfl rfl rfl) ?_
                refine AOps.step rfl rfl rfl (AOp.moveD rfl rfl) ?_
                refine AOps.split 50 rfl (fun g8 => ?_) (fun g8 => ?_)
                · replace g8 := of_decide_eq_true g8
                  rw [List.length_map] at g8
                  have hlp : 0 < (pTo s k).length := by omega
                  refine AOps.step ⟨50, rfl, .inl ⟨_, rfl, rfl⟩⟩ rfl rfl (AOp.moveO rfl rfl) ?_
                  refine AOps.step ⟨50, rfl, .inl ⟨_, rfl, rfl⟩⟩ rfl rfl (AOp.moveO rfl rfl) ?_
                  refine AOps.step ⟨50, rfl, .inl ⟨_, rfl, rfl⟩⟩ rfl rfl (AOp.lenOwn rfl et_36.ht rfl (.head _)) ?_
                  refine AOps.step ⟨50, rfl, .inl ⟨_, rfl, rfl⟩⟩ rfl rfl (AOp.sub64 rfl rfl rfl (by rw [List.length_map]; omega) (by rw [List.length_map]; omega)) ?_
                  refine AOps.step ⟨50, rfl, .inl ⟨_, rfl, rfl⟩⟩ rfl rfl (AOp.indexOwn rfl et_36 rfl rfl (.head _) ((pTo s k).length - 1) (by rw [List.length_map]; omega) (by rw [List.length_map]; omega)) ?_
                  refine AOps.step ⟨50, rfl, .inl ⟨_, rfl, rfl⟩⟩ rfl rfl (AOp.loadRow rfl sc_5 rfl (.head _) ((pTo s k).length - 1) 0 rfl (at_list (by omega)) rfl) ?_
                  refine AOps.step ⟨50, rfl, .inl ⟨_, rfl, rfl⟩⟩ rfl rfl (AOp.neq rfl rfl rfl) ?_
                  refine AOps.step rfl rfl rfl (AOp.pickT rfl rfl rfl) ?_
                  refine AOps.step rfl rfl rfl (AOp.assignD rfl rfl) ?_
                  refine AOps.nil ?_
                  refine AWP.cond rfl (fun h9 => ?_) (fun h9 => ?_)
                  · replace h9 := of_decide_eq_true h9
                    have HSP := h9
                    refine AWP.region ?_
                    refine AOps.step rfl rfl rfl (AOp.moveO rfl rfl) ?_
                    refine AOps.step rfl rfl rfl (AOp.buildSlice rfl et_36 (.cons rfl rfl rfl .nil) rfl (by decide)) ?_
                    -- append 61
                    refine AOps.append rfl rfl rfl rfl et_36 rfl (.head _) rfl (by simp [D.parts]) (by simp; omega) (by simp; omega) ?_
                    refine AOps.step rfl rfl rfl (AOp.assignO rfl rfl) ?_
                    refine AOps.nil ?_
                    refine AWP.region ?_
                    refine AOps.step rfl rfl rfl (AOp.add64 rfl rfl rfl (by omega) (by omega)) ?_
                    refine AOps.step rfl rfl rfl (AOp.moveD rfl rfl) ?_
                    refine AOps.nil ?_
                    refine ⟨k + 1, (by omega), (by dsimp only; omega), Sub.less ⟨(SLe.of_eq rfl), SLe.refl _, SLe.refl _, SLe.refl _, SLe.refl _, trivial⟩ (row_same (by first | (rw [hpn, step_aln (aln_iff.2 (by omega)), List.map_append]; rfl) | (rw [hpn, step_no (fun h => by have := aln_iff.1 h; omega) HNO]) | (rw [hpn, step_sp (fun h => by have := aln_iff.1 h; omega) hlp (u8_n32 HSP), List.map_append]; rfl)))⟩
                  · replace h9 := of_decide_eq_false h9
                    have HNO : pTo s k = [] ∨ (pTo s k).getLast? = some 32 := .inr (last_32 hlp (u8_32 (Decidable.not_not.1 h9)))
                    refine AWP.skip ?_
                    refine AWP.region ?_
                    refine AOps.step rfl rfl rfl (AOp.add64 rfl rfl rfl (by omega) (by omega)) ?_
                    refine AOps.step rfl rfl rfl (AOp.moveD rfl rfl) ?_
                    refine AOps.nil ?_
                    refine ⟨k + 1, (by omega), (by dsimp only; omega), Sub.less ⟨(SLe.of_eq rfl), SLe.refl _, SLe.refl _, SLe.refl _, SLe.refl _, trivial⟩ (row_same (by first | (rw [hpn, step_aln (aln_iff.2 (by omega)), List.map_append]; rfl) | (rw [hpn, step_no (fun h => by have := aln_iff.1 h; omega) HNO]) | (rw [hpn, step_sp (fun h => by have := aln_iff.1 h; omega) hlp (u8_n32 HSP), List.map_append]; rfl)))⟩
                · replace g8 := of_decide_eq_false g8
                  rw [List.length_map] at g8
                  have HNO : pTo s k = [] ∨ (pTo s k).getLast? = some 32 := .inl (List.eq_nil_of_length_eq_zero (by omega))
                  refine AOps.pass ⟨50, rfl, .inl ⟨_, rfl, rfl⟩⟩ rfl rfl ?_
                  refine AOps.pass ⟨50, rfl, .inl ⟨_, rfl, rfl⟩⟩ rfl rfl ?_
                  refine AOps.pass ⟨50, rfl, .inl ⟨_, rfl, rfl⟩⟩ rfl rfl ?_
                  refine AOps.pass ⟨50, rfl, .inl ⟨_, rfl, rfl⟩⟩ rfl rfl ?_
                  refine AOps.pass ⟨50, rfl, .inl ⟨_, rfl, rfl⟩⟩ rfl rfl ?_
                  refine AOps.pass ⟨50, rfl, .inl ⟨_, rfl, rfl⟩⟩ rfl rfl ?_
                  refine AOps.pass ⟨50, rfl, .inl ⟨_, rfl, rfl⟩⟩ rfl rfl ?_
                  refine AOps.step rfl rfl rfl (AOp.pickF rfl rfl rfl) ?_
                  refine AOps.step rfl rfl rfl (AOp.assignD rfl rfl) ?_
                  refine AOps.nil ?_
                  refine AWP.cond rfl (fun h => nomatch h) (fun _ => ?_)
                  refine AWP.skip ?_
                  refine AWP.region ?_
                  refine AOps.step rfl rfl rfl (AOp.add64 rfl rfl rfl (by omega) (by omega)) ?_
                  refine AOps.step rfl rfl rfl (AOp.moveD rfl rfl) ?_
                  refine AOps.nil ?_
                  refine ⟨k + 1, (by omega), (by dsimp only; omega), Sub.less ⟨(SLe.of_eq rfl), SLe.refl _, SLe.refl _, SLe.refl _, SLe.refl _, trivial⟩ (row_same (by first | (rw [hpn, step_aln (aln_iff.2 (by omega)), List.map_append]; rfl) | (rw [hpn, step_no (fun h => by have := aln_iff.1 h; omega) HNO]) | (rw [hpn, step_sp (fun h => by have := aln_iff.1 h; omega) hlp (u8_n32 HSP), List.map_append]; rfl)))⟩
            · replace g6 := of_decide_eq_false g6
              refine AOps.pass ⟨37, rfl, .inl ⟨_, rfl, rfl⟩⟩ rfl rfl ?_
              refine AOps.pass ⟨37, rfl, .inl ⟨_, rfl, rfl⟩⟩ rfl rfl ?_
              refine AOps.step ⟨34, rfl, .inl ⟨_, rfl, rfl⟩⟩ rfl rfl (AOp.pickF rfl rfl rfl) ?_
              refine AOps.step rfl rfl rfl (AOp.pickF rfl rfl rfl) ?_
              refine AOps.step rfl rfl rfl (AOp.assignD rfl rfl) ?_
              refine AOps.nil ?_
              refine AWP.cond rfl (fun h => nomatch h) (fun _ => ?_)
              refine AWP.seq ?_
              refine AWP.region ?_
              refine AOps.step rfl rfl rfl (AOp.moveO rfl rfl) ?_
              refine AOps.step rfl rfl rfl (AOp.lenOwn rfl et_36.ht rfl (.head _)) ?_
              refine AOps.step rfl rfl rfl (AOp.gtr rfl rfl rfl) ?_
              refine AOps.step rfl rfl rfl (AOp.moveD rfl rfl) ?_
              refine AOps.split 50 rfl (fun g10 => ?_) (fun g10 => ?_)
              · replace g10 := of_decide_eq_true g10
                rw [List.length_map] at g10
                have hlp : 0 < (pTo s k).length := by omega
                refine AOps.step ⟨50, rfl, .inl ⟨_, rfl, rfl⟩⟩ rfl rfl (AOp.moveO rfl rfl) ?_
                refine AOps.step ⟨50, rfl, .inl ⟨_, rfl, rfl⟩⟩ rfl rfl (AOp.moveO rfl rfl) ?_
                refine AOps.step ⟨50, rfl, .inl ⟨_, rfl, rfl⟩⟩ rfl rfl (AOp.lenOwn rfl et_36.ht rfl (.head _)) ?_
                refine AOps.step ⟨50, rfl, .inl ⟨_, rfl, rfl⟩⟩ rfl rfl (AOp.sub64 rfl rfl rfl (by rw [List.length_map]; omega) (by rw [List.length_map]; omega)) ?_
                refine AOps.step ⟨50, rfl, .inl ⟨_, rfl, rfl⟩⟩ rfl rfl (AOp.indexOwn rfl et_36 rfl rfl (.head _) ((pTo s k).length - 1) (by rw [List.length_map]; omega) (by rw [List.length_map]; omega)) ?_
                refine AOps.step ⟨50, rfl, .inl ⟨_, rfl, rfl⟩⟩ rfl rfl (AOp.loadRow rfl sc_5 rfl (.head _) ((pTo s k).length - 1) 0 rfl (at_list (by omega)) rfl) ?_
                refine AOps.step ⟨50, rfl, .inl ⟨_, rfl, rfl⟩⟩ rfl rfl (AOp.neq rfl rfl rfl) ?_
                refine AOps.step rfl rfl rfl (AOp.pickT rfl rfl rfl) ?_
                refine AOps.step rfl rfl rfl (AOp.assignD rfl rfl) ?_
                refine AOps.nil ?_
                refine AWP.cond rfl (fun h11 => ?_) (fun h11 => ?_)
                · replace h11 := of_decide_eq_true h11
                  have HSP := h11
                  refine AWP.region ?_
                  refine AOps.step rfl rfl rfl (AOp.moveO rfl rfl) ?_
                  refine AOps.step rfl rfl rfl (AOp.buildSlice rfl et_36 (.cons rfl rfl rfl .nil) rfl (by decide)) ?_
                  -- append 61
                  refine AOps.append rfl rfl rfl rfl et_36 rfl (.head _) rfl (by simp [D.parts]) (by simp; omega) (by simp; omega) ?_
                  refine AOps.step rfl rfl rfl (AOp.assignO rfl rfl) ?_
                  refine AOps.nil ?_
                  refine AWP.region ?_
                  refine AOps.step rfl rfl rfl (AOp.add64 rfl rfl rfl (by omega) (by omega)) ?_
                  refine AOps.step rfl rfl rfl (AOp.moveD rfl rfl) ?_
                  refine AOps.nil ?_
                  refine ⟨k + 1, (by omega), (by dsimp only; omega), Sub.less ⟨(SLe.of_eq rfl), SLe.refl _, SLe.refl _, SLe.refl _, SLe.refl _, trivial⟩ (row_same (by first | (rw [hpn, step_aln (aln_iff.2 (by omega)), List.map_append]; rfl) | (rw [hpn, step_no (fun h => by have := aln_iff.1 h; omega) HNO]) | (rw [hpn, step_sp (fun h => by have := aln_iff.1 h; omega) hlp (u8_n32 HSP), List.map_append]; rfl)))⟩
                · replace h11 := of_decide_eq_false h11
                  have HNO : pTo s k = [] ∨ (pTo s k).getLast? = some 32 := .inr (last_32 hlp (u8_32 (Decidable.not_not.1 h11)))
                  refine AWP.skip ?_
                  refine AWP.region ?_
                  refine AOps.step rfl rfl rfl (AOp.add64 rfl rfl rfl (by omega) (by omega)) ?_
                  refine AOps.step rfl rfl rfl (AOp.moveD rfl rfl) ?_
                  refine AOps.nil ?_
                  refine ⟨k + 1, (by omega), (by dsimp only; omega), Sub.less ⟨(SLe.of_eq rfl), SLe.refl _, SLe.refl _, SLe.refl _, SLe.refl _, trivial⟩ (row_same (by first | (rw [hpn, step_aln (aln_iff.2 (by omega)), List.map_append]; rfl) | (rw [hpn, step_no (fun h => by have := aln_iff.1 h; omega) HNO]) | (rw [hpn, step_sp (fun h => by have := aln_iff.1 h; omega) hlp (u8_n32 HSP), List.map_append]; rfl)))⟩
              · replace g10 := of_decide_eq_false g10
                rw [List.length_map] at g10
                have HNO : pTo s k = [] ∨ (pTo s k).getLast? = some 32 := .inl (List.eq_nil_of_length_eq_zero (by omega))
                refine AOps.pass ⟨50, rfl, .inl ⟨_, rfl, rfl⟩⟩ rfl rfl ?_
                refine AOps.pass ⟨50, rfl, .inl ⟨_, rfl, rfl⟩⟩ rfl rfl ?_
                refine AOps.pass ⟨50, rfl, .inl ⟨_, rfl, rfl⟩⟩ rfl rfl ?_
                refine AOps.pass ⟨50, rfl, .inl ⟨_, rfl, rfl⟩⟩ rfl rfl ?_
                refine AOps.pass ⟨50, rfl, .inl ⟨_, rfl, rfl⟩⟩ rfl rfl ?_
                refine AOps.pass ⟨50, rfl, .inl ⟨_, rfl, rfl⟩⟩ rfl rfl ?_
                refine AOps.pass ⟨50, rfl, .inl ⟨_, rfl, rfl⟩⟩ rfl rfl ?_
                refine AOps.step rfl rfl rfl (AOp.pickF rfl rfl rfl) ?_
                refine AOps.step rfl rfl rfl (AOp.assignD rfl rfl) ?_
                refine AOps.nil ?_
                refine AWP.cond rfl (fun h => nomatch h) (fun _ => ?_)
                refine AWP.skip ?_
                refine AWP.region ?_
                refine AOps.step rfl rfl rfl (AOp.add64 rfl rfl rfl (by omega) (by omega)) ?_
                refine AOps.step rfl rfl rfl (AOp.moveD rfl rfl) ?_
                refine AOps.nil ?_
                refine ⟨k + 1, (by omega), (by dsimp only; omega), Sub.less ⟨(SLe.of_eq rfl), SLe.refl _, SLe.refl _, SLe.refl _, SLe.refl _, trivial⟩ (row_same (by first | (rw [hpn, step_aln (aln_iff.2 (by omega)), List.map_append]; rfl) | (rw [hpn, step_no (fun h => by have := aln_iff.1 h; omega) HNO]) | (rw [hpn, step_sp (fun h => by have := aln_iff.1 h; omega) hlp (u8_n32 HSP), List.map_append]; rfl)))⟩
        · replace g4 := of_decide_eq_false g4
          refine AOps.pass ⟨30, rfl, .inl ⟨_, rfl, rfl⟩⟩ rfl rfl ?_
          refine AOps.pass ⟨30, rfl, .inl ⟨_, rfl, rfl⟩⟩ rfl rfl ?_
          refine AOps.step rfl rfl rfl (AOp.pickF rfl rfl rfl) ?_
          refine AOps.step rfl rfl rfl (AOp.moveD rfl rfl) ?_
          refine AOps.step ⟨34, rfl, .inl ⟨_, rfl, rfl⟩⟩ rfl rfl (AOp.moveD rfl rfl) ?_
          refine AOps.step ⟨34, rfl, .inl ⟨_, rfl, rfl⟩⟩ rfl rfl (AOp.geq rfl rfl rfl) ?_
          refine AOps.step ⟨34, rfl, .inl ⟨_, rfl, rfl⟩⟩ rfl rfl (AOp.moveD rfl rfl) ?_
          refine AOps.split 37 rfl (fun g12 => ?_) (fun g12 => ?_)
          · replace g12 := of_decide_eq_true g12
            refine AOps.step ⟨37, rfl, .inl ⟨_, rfl, rfl⟩⟩ rfl rfl (AOp.moveD rfl rfl) ?_
            refine AOps.step ⟨37, rfl, .inl ⟨_, rfl, rfl⟩⟩ rfl rfl (AOp.leq rfl rfl rfl) ?_
            refine AOps.step ⟨34, rfl, .inl ⟨_, rfl, rfl⟩⟩ rfl rfl (AOp.pickT rfl rfl rfl) ?_
            refine AOps.step rfl rfl rfl (AOp.pickF rfl rfl rfl) ?_
            refine AOps.step rfl rfl rfl (AOp.assignD rfl rfl) ?_
            refine AOps.nil ?_
            refine AWP.cond rfl (fun h13 => ?_) (fun h13 => ?_)
            · replace h13 := of_decide_eq_true h13
              refine AWP.region ?_
              refine AOps.step rfl rfl rfl (AOp.moveO rfl rfl) ?_
              refine AOps.step rfl rfl rfl (AOp.moveD rfl rfl) ?_
              refine AOps.step rfl rfl rfl (AOp.buildSlice rfl et_36 (.cons rfl rfl rfl .nil) rfl (by decide)) ?_
              -- append 45
              refine AOps.append rfl rfl rfl rfl et_36 rfl (.head _) rfl (by simp [D.parts]) (by simp; omega) (by simp; omega) ?_
              refine AOps.step rfl rfl rfl (AOp.assignO rfl rfl) ?_
              refine AOps.nil ?_
              refine AWP.region ?_
              refine AOps.step rfl rfl rfl (AOp.add64 rfl rfl rfl (by omega) (by omega)) ?_
              refine AOps.step rfl rfl rfl (AOp.moveD rfl rfl) ?_
              refine AOps.nil ?_
              refine ⟨k + 1, (by omega), (by dsimp only; omega), Sub.less ⟨(SLe.of_eq rfl), SLe.refl _, SLe.refl _, SLe.refl _, SLe.refl _, trivial⟩ (row_same (by first | (rw [hpn, step_aln (aln_iff.2 (by omega)), List.map_append]; rfl) | (rw [hpn, step_no (fun h => by have := aln_iff.1 h; omega) HNO]) | (rw [hpn, step_sp (fun h => by have := aln_iff.1 h; omega) hlp (u8_n32 HSP), List.map_append]; rfl)))⟩
            · replace h13 := of_decide_eq_false h13
              refine AWP.seq ?_
              refine AWP.region ?_
              refine AOps.step rfl rfl rfl (AOp.moveO rfl rfl) ?_
              refine AOps.step rfl rfl rfl (AOp.lenOwn rfl et_36.ht rfl (.head _)) ?_
              refine AOps.step rfl rfl rfl (AOp.gtr rfl rfl rfl) ?_
              refine AOps.step rfl rfl rfl (AOp.moveD rfl rfl) ?_
              refine AOps.split 50 rfl (fun g14 => ?_) (fun g14 => ?_)
              · replace g14 := of_decide_eq_true g14
                rw [List.length_map] at g14
                have hlp : 0 < (pTo s k).length := by omega
                refine AOps.step ⟨50, rfl, .inl ⟨_, rfl, rfl⟩⟩ rfl rfl (AOp.moveO rfl rfl) ?_
                refine AOps.step ⟨50, rfl, .inl ⟨_, rfl, rfl⟩⟩ rfl rfl (AOp.moveO rfl rfl) ?_
                refine AOps.step ⟨50, rfl, .inl ⟨_, rfl, rfl⟩⟩ rfl rfl (AOp.lenOwn rfl et_36.ht rfl (.head _)) ?_
                refine AOps.step ⟨50, rfl, .inl ⟨_, rfl, rfl⟩⟩ rfl rfl (AOp.sub64 rfl rfl rfl (by rw [List.length_map]; omega) (by rw [List.length_map]; omega)) ?_
                refine AOps.step ⟨50, rfl, .inl ⟨_, rfl, rfl⟩⟩ rfl rfl (AOp.indexOwn rfl et_36 rfl rfl (.head _) ((pTo s k).length - 1) (by rw [List.length_map]; omega) (by rw [List.length_map]; omega)) ?_
                refine AOps.step ⟨50, rfl, .inl ⟨_, rfl, rfl⟩⟩ rfl rfl (AOp.loadRow rfl sc_5 rfl (.head _) ((pTo s k).length - 1) 0 rfl (at_list (by omega)) rfl) ?_
                refine AOps.step ⟨50, rfl, .inl ⟨_, rfl, rfl⟩⟩ rfl rfl (AOp.neq rfl rfl rfl) ?_
                refine AOps.step rfl rfl rfl (AOp.pickT rfl rfl rfl) ?_
                refine AOps.step rfl rfl rfl (AOp.assignD rfl rfl) ?_
                refine AOps.nil ?_
                refine AWP.cond rfl (fun h15 => ?_) (fun h15 => ?_)
                · replace h15 := of_decide_eq_true h15
                  have HSP := h15
                  refine AWP.region ?_
                  refine AOps.step rfl rfl rfl (AOp.moveO rfl rfl) ?_
                  refine AOps.step rfl rfl rfl (AOp.buildSlice rfl et_36 (.cons rfl rfl rfl .nil) rfl (by decide)) ?_
                  -- append 61
                  refine AOps.append rfl rfl rfl rfl et_36 rfl (.head _) rfl (by simp [D.parts]) (by simp; omega) (by simp; omega) ?_
                  refine AOps.step rfl rfl rfl (AOp.assignO rfl rfl) ?_
                  refine AOps.nil ?_
                  refine AWP.region ?_
                  refine AOps.step rfl rfl rfl (AOp.add64 rfl rfl rfl (by omega) (by omega)) ?_
                  refine AOps.step rfl rfl rfl (AOp.moveD rfl rfl) ?_
                  refine AOps.nil ?_
                  refine ⟨k + 1, (by omega), (by dsimp only; omega), Sub.less ⟨(SLe.of_eq rfl), SLe.refl _, SLe.refl _, SLe.refl _, SLe.refl _, trivial⟩ (row_same (by first | (rw [hpn, step_aln (aln_iff.2 (by omega)), List.map_append]; rfl) | (rw [hpn, step_no (fun h => by have := aln_iff.1 h; omega) HNO]) | (rw [hpn, step_sp (fun h => by have := aln_iff.1 h; omega) hlp (u8_n32 HSP), List.map_append]; rfl)))⟩
                · replace h15 := of_decide_eq_false h15
                  have HNO : pTo s k = [] ∨ (pTo s k).getLast? = some 32 := .inr (last_32 hlp (u8_32 (Decidable.not_not.1 h15)))
                  refine AWP.skip ?_
                  refine AWP.region ?_
                  refine AOps.step rfl rfl rfl (AOp.add64 rfl rfl rfl (by omega) (by omega)) ?_
                  refine AOps.step rfl rfl rfl (AOp.moveD rfl rfl) ?_
                  refine AOps.nil ?_
                  refine ⟨k + 1, (by omega), (by dsimp only; omega), Sub.less ⟨(SLe.of_eq rfl), SLe.refl _, SLe.refl _, SLe.refl _, SLe.refl _, trivial⟩ (row_same (by first | (rw [hpn, step_aln (aln_iff.2 (by omega)), List.map_append]; rfl) | (rw [hpn, step_no (fun h => by have := aln_iff.1 h; omega) HNO]) | (rw [hpn, step_sp (fun h => by have := aln_iff.1 h; omega) hlp (u8_n32 HSP), List.map_append]; rfl)))⟩
              · replace g14 := of_decide_eq_false g14
                rw [List.length_map] at g14
                have HNO : pTo s k = [] ∨ (pTo s k).getLast? = some 32 := .inl (List.eq_nil_of_length_eq_zero (by omega))
                refine AOps.pass ⟨50, rfl, .inl ⟨_, rfl, rfl⟩⟩ rfl rfl ?_
                refine AOps.pass ⟨50, rfl, .inl ⟨_, rfl, rfl⟩⟩ rfl rfl ?_
                refine AOps.pass ⟨50, rfl, .inl ⟨_, rfl, rfl⟩⟩ rfl rfl ?_
                refine AOps.pass ⟨50, rfl, .inl ⟨_, rfl, rfl⟩⟩ rfl rfl ?_
                refine AOps.pass ⟨50, rfl, .inl ⟨_, rfl, rfl⟩⟩ rfl rfl ?_
                refine AOps.pass ⟨50, rfl, .inl ⟨_, rfl, rfl⟩⟩ rfl rfl ?_
                refine AOps.pass ⟨50, rfl, .inl ⟨_, rfl, rfl⟩⟩ rfl rfl ?_
                refine AOps.step rfl rfl rfl (AOp.pickF rfl rfl rfl) ?_
                refine AOps.step rfl rfl rfl (AOp.assignD rfl rfl) ?_
                refine AOps.nil ?_
                refine AWP.cond rfl (fun h => nomatch h) (fun _ => ?_)
                refine AWP.skip ?_
                refine AWP.region ?_
                refine AOps.step rfl rfl rfl (AOp.add64 rfl rfl rfl (by omega) (by omega)) ?_
                refine AOps.step rfl rfl rfl (AOp.moveD rfl rfl) ?_
                refine AOps.nil ?_
                refine ⟨k + 1, (by omega), (by dsimp only; omega), Sub.less ⟨(SLe.of_eq rfl), SLe.refl _, SLe.refl _, SLe.refl _, SLe.refl _, trivial⟩ (row_same (by first | (rw [hpn, step_aln (aln_iff.2 (by omega)), List.map_append]; rfl) | (rw [hpn, step_no (fun h => by have := aln_iff.1 h; omega) HNO]) | (rw [hpn, step_sp (fun h => by have := aln_iff.1 h; omega) hlp (u8_n32 HSP), List.map_append]; rfl)))⟩
          · replace g12 := of_decide_eq_false g12
            refine AOps.pass ⟨37, rfl, .inl ⟨_, rfl, rfl⟩⟩ rfl rfl ?_
            refine AOps.pass ⟨37, rfl, .inl ⟨_, rfl, rfl⟩⟩ rfl rfl ?_
            refine AOps.step ⟨34, rfl, .inl ⟨_, rfl, rfl⟩⟩ rfl rfl (AOp.pickF rfl rfl rfl) ?_
            refine AOps.step rfl rfl rfl (AOp.pickF rfl rfl rfl) ?_
            refine AOps.step rfl rfl rfl (AOp.assignD rfl rfl) ?_
            refine AOps.nil ?_
            refine AWP.cond rfl (fun h => nomatch h) (fun _ => ?_)
            refine AWP.seq ?_
            refine AWP.region ?_
            refine AOps.step rfl rfl rfl (AOp.moveO rfl rfl) ?_
            refine AOps.step rfl rfl rfl (AOp.lenOwn rfl et_36.ht rfl (.head _)) ?_
            refine AOps.step rfl rfl rfl (AOp.gtr rfl rfl rfl) ?_
            refine AOps.step rfl rfl rfl (AOp.moveD rfl rfl) ?_
            refine AOps.split 50 rfl (fun g16 => ?_) (fun g16 => ?_)
            · replace g16 := of_decide_eq_true g16
              rw [List.length_map] at g16
              have hlp : 0 < (pTo s k).length := by omega
              refine AOps.step ⟨50, rfl, .inl ⟨_, rfl, rfl⟩⟩ rfl rfl (AOp.moveO rfl rfl) ?_
              refine AOps.step ⟨50, rfl, .inl ⟨_, rfl, rfl⟩⟩ rfl rfl (AOp.moveO rfl rfl) ?_
              refine AOps.step ⟨50, rfl, .inl ⟨_, rfl, rfl⟩⟩ rfl rfl (AOp.lenOwn rfl et_36.ht rfl (.head _)) ?_
              refine AOps.step ⟨50, rfl, .inl ⟨_, rfl, rfl⟩⟩ rfl rfl (AOp.sub64 rfl rfl rfl (by rw [List.length_map]; omega) (by rw [List.length_map]; omega)) ?_
              refine AOps.step ⟨50, rfl, .inl ⟨_, rfl, rfl⟩⟩ rfl rfl (AOp.indexOwn rfl et_36 rfl rfl (.head _) ((pTo s k).length - 1) (by rw [List.length_map]; omega) (by rw [List.length_map]; omega)) ?_
              refine AOps.step ⟨50, rfl, .inl ⟨_, rfl, rfl⟩⟩ rfl rfl (AOp.loadRow rfl sc_5 rfl (.head _) ((pTo s k).length - 1) 0 rfl (at_list (by omega)) rfl) ?_
              refine AOps.step ⟨50, rfl, .inl ⟨_, rfl, rfl⟩⟩ rfl rfl (AOp.neq rfl rfl rfl) ?_
              refine AOps.step rfl rfl rfl (AOp.pickT rfl rfl rfl) ?_
              refine AOps.step rfl rfl rfl (AOp.assignD rfl rfl) ?_
              refine AOps.nil ?_
              refine AWP.cond rfl (fun h17 => ?_) (fun h17 => ?_)
              · replace h17 := of_decide_eq_true h17
                have HSP := h17
                refine AWP.region ?_
                refine AOps.step rfl rfl rfl (AOp.moveO rfl rfl) ?_
                refine AOps.step rfl rfl rfl (AOp.buildSlice rfl et_36 (.cons rfl rfl rfl .nil) rfl (by decide)) ?_
                -- append 61
                refine AOps.append rfl rfl rfl rfl et_36 rfl (.head _) rfl (by simp [D.parts]) (by simp; omega) (by simp; omega) ?_
                refine AOps.step rfl rfl rfl (AOp.assignO rfl rfl) ?_
                refine AOps.nil ?_
                refine AWP.region ?_
                refine AOps.step rfl rfl rfl (AOp.add64 rfl rfl rfl (by omega) (by omega)) ?_
                refine AOps.step rfl rfl rfl (AOp.moveD rfl rfl) ?_
                refine AOps.nil ?_
                refine ⟨k + 1, (by omega), (by dsimp only; omega), Sub.less ⟨(SLe.of_eq rfl), SLe.refl _, SLe.refl _, SLe.refl _, SLe.refl _, trivial⟩ (row_same (by first | (rw [hpn, step_aln (aln_iff.2 (by omega)), List.map_append]; rfl) | (rw [hpn, step_no (fun h => by have := aln_iff.1 h; omega) HNO]) | (rw [hpn, step_sp (fun h => by have := aln_iff.1 h; omega) hlp (u8_n32 HSP), List.map_append]; rfl)))⟩
              · replace h17 := of_decide_eq_false h17
                have HNO : pTo s k = [] ∨ (pTo s k).getLast? = some 32 := .inr (last_32 hlp (u8_32 (Decidable.not_not.1 h17)))
                refine AWP.skip ?_
                refine AWP.region ?_
                refine AOps.step rfl rfl rfl (AOp.add64 rfl rfl rfl (by omega) (by omega)) ?_
                refine AOps.step rfl rfl rfl (AOp.moveD rfl rfl) ?_
                refine AOps.nil ?_
                refine ⟨k + 1, (by omega), (by dsimp only; omega), Sub.less ⟨(SLe.of_eq rfl), SLe.refl _, SLe.refl _, SLe.refl _, SLe.refl _, trivial⟩ (row_same (by first | (rw [hpn, step_aln (aln_iff.2 (by omega)), List.map_append]; rfl) | (rw [hpn, step_no (fun h => by have := aln_iff.1 h; omega) HNO]) | (rw [hpn, step_sp (fun h => by have := aln_iff.1 h; omega) hlp (u8_n32 HSP), List.map_append]; rfl)))⟩
            · replace g16 := of_decide_eq_false g16
              rw [List.length_map] at g16
              have HNO : pTo s k = [] ∨ (pTo s k).getLast? = some 32 := .inl (List.eq_nil_of_length_eq_zero (by omega))
              refine AOps.pass ⟨50, rfl, .inl ⟨_, rfl, rfl⟩⟩ rfl rfl ?_
              refine AOps.pass ⟨50, rfl, .inl ⟨_, rfl, rfl⟩⟩ rfl rfl ?_
              refine AOps.pass ⟨50, rfl, .inl ⟨_, rfl, rfl⟩⟩ rfl rfl ?_
              refine AOps.pass ⟨50, rfl, .inl ⟨_, rfl, rfl⟩⟩ rfl rfl ?_
              refine AOps.pass ⟨50, rfl, .inl ⟨_, rfl, rfl⟩⟩ rfl rfl ?_
              refine AOps.pass ⟨50, rfl, .inl ⟨_, rfl, rfl⟩⟩ rfl rfl ?_
              refine AOps.pass ⟨50, rfl, .inl ⟨_, rfl, rfl⟩⟩ rfl rfl ?_
              refine AOps.step rfl rfl rfl (AOp.pickF rfl rfl rfl) ?_
              refine AOps.step rfl rfl rfl (AOp.assignD rfl rfl) ?_
              refine AOps.nil ?_
              refine AWP.cond rfl (fun h => nomatch h) (fun _ => ?_)
              refine AWP.skip ?_
              refine AWP.region ?_
              refine AOps.step rfl rfl rfl (AOp.add64 rfl rfl rfl (by omega) (by omega)) ?_
              refine AOps.step rfl rfl rfl (AOp.moveD rfl rfl) ?_
              refine AOps.nil ?_
              refine ⟨k + 1, (by omega), (by dsimp only; omega), Sub.less ⟨(SLe.of_eq rfl), SLe.refl _, SLe.refl _, SLe.refl _, SLe.refl _, trivial⟩ (row_same (by first | (rw [hpn, step_aln (aln_iff.2 (by omega)), List.map_append]; rfl) | (rw [hpn, step_no (fun h => by have := aln_iff.1 h; omega) HNO]) | (rw [hpn, step_sp (fun h => by have := aln_iff.1 h; omega) hlp (u8_n32 HSP), List.map_append]; rfl)))⟩
      · replace h3 := of_decide_eq_false h3
        refine AWP.skip ?_
        refine AWP.block ?_
        refine AWP.seq ?_
        first | (have hlc : lowB c = c := low_same (by omega); rw [← hlc]) | skip
        refine AWP.region ?_
        refine AOps.step rfl rfl rfl (AOp.moveD rfl rfl) ?_
        refine AOps.step rfl rfl rfl (AOp.geq rfl rfl rfl) ?_
        refine AOps.step rfl rfl rfl (AOp.moveD rfl rfl) ?_
        refine AOps.split 30 rfl (fun g18 => ?_) (fun g18 => ?_)
        · replace g18 := of_decide_eq_true g18
          refine AOps.step ⟨30, rfl, .inl ⟨_, rfl, rfl⟩⟩ rfl rfl (AOp.moveD rfl rfl) ?_
          refine AOps.step ⟨30, rfl, .inl ⟨_, rfl, rfl⟩⟩ rfl rfl (AOp.leq rfl rfl rfl) ?_
          refine AOps.step rfl rfl rfl (AOp.pickT rfl rfl rfl) ?_
          refine AOps.step rfl rfl rfl (AOp.moveD rfl rfl) ?_
          refine AOps.split 34 rfl (fun g19 => ?_) (fun g19 => ?_)
          · replace g19 := of_decide_eq_true g19
            refine AOps.pass ⟨34, rfl, .inl ⟨_, rfl, rfl⟩⟩ rfl rfl ?_
            refine AOps.pass ⟨34, rfl, .inl ⟨_, rfl, rfl⟩⟩ rfl rfl ?_
            refine AOps.pass ⟨34, rfl, .inl ⟨_, rfl, rfl⟩⟩ rfl rfl ?_
            refine AOps.pass ⟨37, rfl, .inr ⟨rfl, rfl⟩⟩ rfl rfl ?_
            refine AOps.pass ⟨37, rfl, .inr ⟨rfl, rfl⟩⟩ rfl rfl ?_
            refine AOps.pass ⟨34, rfl, .inl ⟨_, rfl, rfl⟩⟩ rfl rfl ?_
            refine AOps.step rfl rfl rfl (AOp.pickT rfl rfl rfl) ?_
            refine AOps.step rfl rfl rfl (AOp.assignD rfl rfl) ?_
            refine AOps.nil ?_
            refine AWP.cond rfl (fun _ => ?_) (fun h => nomatch h)
            refine AWP.region ?_
            refine AOps.step rfl rfl rfl (AOp.moveO rfl rfl) ?_
            refine AOps.step rfl rfl rfl (AOp.moveD rfl rfl) ?_
            refine AOps.step rfl rfl rfl (AOp.buildSlice rfl et_36 (.cons rfl rfl rfl .nil) rfl (by decide)) ?_
            -- append 45
            refine AOps.append rfl rfl rfl rfl et_36 rfl (.head _) rfl (by simp [D.parts]) (by simp; omega) (by simp; omega) ?_
            refine AOps.step rfl rfl rfl (AOp.assignO rfl rfl) ?_
            refine AOps.nil ?_
            refine AWP.region ?_
            refine AOps.step rfl rfl rfl (AOp.add64 rfl rfl rfl (by omega) (by omega)) ?_
            refine AOps.step rfl rfl rfl (AOp.moveD rfl rfl) ?_
            refine AOps.nil ?_
            refine ⟨k + 1, (by omega), (by dsimp only; omega), Sub.less ⟨(SLe.of_eq rfl), SLe.refl _, SLe.refl _, SLe.refl _, SLe.refl _, trivial⟩ (row_same (by first | (rw [hpn, step_aln (aln_iff.2 (by omega)), List.map_append]; rfl) | (rw [hpn, step_no (fun h => by have := aln_iff.1 h; omega) HNO]) | (rw [hpn, step_sp (fun h => by have := aln_iff.1 h; omega) hlp (u8_n32 HSP), List.map_append]; rfl)))⟩
          · replace g19 := of_decide_eq_false g19
            refine AOps.step ⟨34, rfl, .inl ⟨_, rfl, rfl⟩⟩ rfl rfl (AOp.moveD rfl rfl) ?_
            refine AOps.step ⟨34, rfl, .inl ⟨_, rfl, rfl⟩⟩ rfl rfl (AOp.geq rfl rfl rfl) ?_
            refine AOps.step ⟨34, rfl, .inl ⟨_, rfl, rfl⟩⟩ rfl rfl (AOp.moveD rfl rfl) ?_
            refine AOps.split 37 rfl (fun g20 => ?_) (fun g20 => ?_)
            · replace g20 := of_decide_eq_true g20
              refine AOps.step ⟨37, rfl, .inl ⟨_, rfl, rfl⟩⟩ rfl rfl (AOp.moveD rfl rfl) ?_
              refine AOps.step ⟨37, rfl, .inl ⟨_, rfl, rfl⟩⟩ rfl rfl (AOp.leq rfl rfl rfl) ?_
              refine AOps.step ⟨34, rfl, .inl ⟨_, rfl, rfl⟩⟩ rfl rfl (AOp.pickT rfl rfl rfl) ?_
              refine AOps.step rfl rfl rfl (AOp.pickF rfl rfl rfl) ?_
              refine AOps.step rfl rfl rfl (AOp.assignD rfl rfl) ?_
              refine AOps.nil ?_
              refine AWP.cond rfl (fun h21 => ?_) (fun h21 => ?_)
              · replace h21 := of_decide_eq_true h21
                refine AWP.region ?_
                refine AOps.step rfl rfl rfl (AOp.moveO rfl rfl) ?_
                refine AOps.step rfl rfl rfl (AOp.moveD rfl rfl) ?_
                refine AOps.step rfl rfl rfl (AOp.buildSlice rfl et_36 (.cons rfl rfl rfl .nil) rfl (by decide)) ?_
                -- append 45
                refine AOps.append rfl rfl rfl rfl et_36 rfl (.head _) rfl (by simp [D.parts]) (by simp; omega) (by simp; omega) ?_
                refine AOps.step rfl rfl rfl (AOp.assignO rfl rfl) ?_
                refine AOps.nil ?_
                refine AWP.region ?_
                refine AOps.step rfl rfl rfl (AOp.add64 rfl rfl rfl (by omega) (by omega)) ?_
                refine AOps.step rfl rfl rfl (AOp.moveD rfl rfl) ?_
                refine AOps.nil ?_
                refine ⟨k + 1, (by omega), (by dsimp only; omega), Sub.less ⟨(SLe.of_eq rfl), SLe.refl _, SLe.refl _, SLe.refl _, SLe.refl _, trivial⟩ (row_same (by first | (rw [hpn, step_aln (aln_iff.2 (by omega)), List.map_append]; rfl) | (rw [hpn, step_no (fun h => by have := aln_iff.1 h; omega) HNO]) | (rw [hpn, step_sp (fun h => by have := aln_iff.1 h; omega) hlp (u8_n32 HSP), List.map_append]; rfl)))⟩
              · replace h21 := of_decide_eq_false h21
                refine AWP.seq ?_
                refine AWP.region ?_
                refine AOps.step rfl rfl rfl (AOp.moveO rfl rfl) ?_
                refine AOps.step rfl rfl rfl (AOp.lenOwn rfl et_36.ht rfl (.head _)) ?_
                refine AOps.step rfl rfl rfl (AOp.gtr rfl rfl rfl) ?_
                refine AOps.step rfl rfl rfl (AOp.moveD rfl rfl) ?_
                refine AOps.split 50 rfl (fun g22 => ?_) (fun g22 => ?_)
                · replace g22 := of_decide_eq_true g22
                  rw [List.length_map] at g22
                  have hlp : 0 < (pTo s k).length := by omega
                  refine AOps.step ⟨50, rfl, .inl ⟨_, rfl, rfl⟩⟩ rfl rfl (AOp.moveO rfl rfl) ?_
                  refine AOps.step ⟨50, rfl, .inl ⟨_, rfl, rfl⟩⟩ rfl rfl (AOp.moveO rfl rfl) ?_
                  refine AOps.step ⟨50, rfl, .inl ⟨_, rfl, rfl⟩⟩ rfl rfl (AOp.lenOwn rfl et_36.ht rfl (.head _)) ?_
                  refine AOps.step ⟨50, rfl, .inl ⟨_, rfl, rfl⟩⟩ rfl rfl (AOp.sub64 rfl rfl rfl (by rw [List.length_map]; omega) (by rw [List.length_map]; omega)) ?_
                  refine AOps.step ⟨50, rfl, .inl ⟨_, rfl, rfl⟩⟩ rfl rfl (AOp.indexOwn rfl et_36 rfl rfl (.head _) ((pTo s k).length - 1) (by rw [List.length_map]; omega) (by rw [List.length_map]; omega)) ?_
                  refine AOps.step ⟨50, rfl, .inl ⟨_, rfl, rfl⟩⟩ rfl rfl (AOp.loadRow rfl sc_5 rfl (.head _) ((pTo s k).length - 1) 0 rfl (at_list (by omega)) rfl) ?_
                  refine AOps.step ⟨50, rfl, .inl ⟨_, rfl, rfl⟩⟩ rfl rfl (AOp.neq rfl rfl rfl) ?_
                  refine AOps.step rfl rfl rfl (AOp.pickT rfl rfl rfl) ?_
                  refine AOps.step rfl rfl rfl (AOp.assignD rfl rfl) ?_
                  refine AOps.nil ?_
                  refine AWP.cond rfl (fun h23 => ?_) (fun h23 => ?_)
                  · replace h23 := of_decide_eq_true h23
                    have HSP := h23
                    refine AWP.region ?_
                    refine AOps.step rfl rfl rfl (AOp.moveO rfl rfl) ?_
                    refine AOps.step rfl rfl rfl (AOp.buildSlice rfl et_36 (.cons rfl rfl rfl .nil) rfl (by decide)) ?_
                    -- append 61
                    refine AOps.append rfl rfl rfl rfl et_36 rfl (.head _) rfl (by simp [D.parts]) (by simp; omega) (by simp; omega) ?_
                    refine AOps.step rfl rfl rfl (AOp.assignO rfl rfl) ?_
                    refine AOps.nil ?_
                    refine AWP.region ?_
                    refine AOps.step rfl rfl rfl (AOp.add64 rfl rfl rfl (by omega) (by omega)) ?_
                    refine AOps.step rfl rfl rfl (AOp.moveD rfl rfl) ?_
                    refine AOps.nil ?_
                    refine ⟨k + 1, (by omega), (by dsimp only; omega), Sub.less ⟨(SLe.of_eq rfl), SLe.refl _, SLe.refl _, SLe.refl _, SLe.refl _, trivial⟩ (row_same (by first | (rw [hpn, step_aln (aln_iff.2 (by omega)), List.map_append]; rfl) | (rw [hpn, step_no (fun h => by have := aln_iff.1 h; omega) HNO]) | (rw [hpn, step_sp (fun h => by have := aln_iff.1 h; omega) hlp (u8_n32 HSP), List.map_append]; rfl)))⟩
                  · replace h23 := of_decide_eq_false h23
                    have HNO : pTo s k = [] ∨ (pTo s k).getLast? = some 32 := .inr (last_32 hlp (u8_32 (Decidable.not_not.1 h23)))
                    refine AWP.skip ?_
                    refine AWP.region ?_
                    refine AOps.step rfl rfl rfl (AOp.add64 rfl rfl rfl (by omega) (by omega)) ?_
                    refine AOps.step rfl rfl rfl (AOp.moveD rfl rfl) ?_
                    refine AOps.nil ?_
                    refine ⟨k + 1, (by omega), (by dsimp only; omega), Sub.less ⟨(SLe.of_eq rfl), SLe.refl _, SLe.refl _, SLe.refl _, SLe.refl _, trivial⟩ (row_same (by first | (rw [hpn, step_aln (aln_iff.2 (by omega)), List.map_append]; rfl) | (rw [hpn, step_no (fun h => by have := aln_iff.1 h; omega) HNO]) | (rw [hpn, step_sp (fun h => by have := aln_iff.1 h; omega) hlp (u8_n32 HSP), List.map_append]; rfl)))⟩
                · replace g22 := of_decide_eq_false g22
                  rw [List.length_map] at g22
                  have HNO : pTo s k = [] ∨ (pTo s k).getLast? = some 32 := .inl (List.eq_nil_of_length_eq_zero (by omega))
                  refine AOps.pass ⟨50, rfl, .inl ⟨_, rfl, rfl⟩⟩ rfl rfl ?_
                  refine AOps.pass ⟨50, rfl, .inl ⟨_, rfl, rfl⟩⟩ rfl rfl ?_
                  refine AOps.pass ⟨50, rfl, .inl ⟨_, rfl, rfl⟩⟩ rfl rfl ?_
                  refine AOps.pass ⟨50, rfl, .inl ⟨_, rfl, rfl⟩⟩ rfl rfl ?_
                  refine AOps.pass ⟨50, rfl, .inl ⟨_, rfl, rfl⟩⟩ rfl rfl ?_
                  refine AOps.pass ⟨50, rfl, .inl ⟨_, rfl, rfl⟩⟩ rfl rfl ?_
                  refine AOps.pass ⟨50, rfl, .inl ⟨_, rfl, rfl⟩⟩ rfl rfl ?_
                  refine AOps.step rfl rfl rfl (AOp.pickF rfl rfl rfl) ?_
                  refine AOps.step rfl rfl rfl (AOp.assignD rfl rfl) ?_
                  refine AOps.nil ?_
                  refine AWP.cond rfl (fun h => nomatch h) (fun _ => ?_)
                  refine AWP.skip ?_
                  refine AWP.region ?_
                  refine AOps.step rfl rfl rfl (AOp.add64 rfl rfl rfl (by omega) (by omega)) ?_
                  refine AOps.step rfl rfl rfl (AOp.moveD rfl rfl) ?_
                  refine AOps.nil ?_
                  refine ⟨k + 1, (by omega), (by dsimp only; omega), Sub.less ⟨(SLe.of_eq rfl), SLe.refl _, SLe.refl _, SLe.refl _, SLe.refl _, trivial⟩ (row_same (by first | (rw [hpn, step_aln (aln_iff.2 (by omega)), List.map_append]; rfl) | (rw [hpn, step_no (fun h => by have := aln_iff.1 h; omega) HNO]) | (rw [hpn, step_sp (fun h => by have := aln_iff.1 h; omega) hlp (u8_n32 HSP), List.map_append]; rfl)))⟩
            · replace g20 := of_decide_eq_false g20
              refine AOps.pass ⟨37, rfl, .inl ⟨_, rfl, rfl⟩⟩ rfl rfl ?_
              refine AOps.pass ⟨37, rfl, .inl ⟨_, rfl, rfl⟩⟩ rfl rfl ?_
              refine AOps.step ⟨34, rfl, .inl ⟨_, rfl, rfl⟩⟩ rfl rfl (AOp.pickF rfl rfl rfl) ?_
              refine AOps.step rfl rfl rfl (AOp.pickF rfl rfl rfl) ?_
              refine AOps.step rfl rfl rfl (AOp.assignD rfl rfl) ?_
              refine AOps.nil ?_
              refine AWP.cond rfl (fun h => nomatch h) (fun _ => ?_)
              refine AWP.seq ?_
              refine AWP.region ?_
              refine AOps.step rfl rfl rfl (AOp.moveO rfl rfl) ?_
              refine AOps.step rfl rfl rfl (AOp.lenOwn rfl et_36.ht rfl (.head _)) ?_
              refine AOps.step rfl rfl rfl (AOp.gtr rfl rfl rfl) ?_
              refine AOps.step rfl rfl rfl (AOp.moveD rfl rfl) ?_
              refine AOps.split 50 rfl (fun g24 => ?_) (fun g24 => ?_)
              · replace g24 := of_decide_eq_true g24
                rw [List.length_map] at g24
                have hlp : 0 < (pTo s k).length := by omega
                refine AOps.step ⟨50, rfl, .inl ⟨_, rfl, rfl⟩⟩ rfl rfl (AOp.moveO rfl rfl) ?_
                refine AOps.step ⟨50, rfl, .inl ⟨_, rfl, rfl⟩⟩ rfl rfl (AOp.moveO rfl rfl) ?_
                refine AOps.step ⟨50, rfl, .inl ⟨_, rfl, rfl⟩⟩ rfl rfl (AOp.lenOwn rfl et_36.ht rfl (.head _)) ?_
                refine AOps.step ⟨50, rfl, .inl ⟨_, rfl, rfl⟩⟩ rfl rfl (AOp.sub64 rfl rfl rfl (by rw [List.length_map]; omega) (by rw [List.length_map]; omega)) ?_
                refine AOps.step ⟨50, rfl, .inl ⟨_, rfl, rfl⟩⟩ rfl rfl (AOp.indexOwn rfl et_36 rfl rfl (.head _) ((pTo s k).length - 1) (by rw [List.length_map]; omega) (by rw [List.length_map]; omega)) ?_
                refine AOps.step ⟨50, rfl, .inl ⟨_, rfl, rfl⟩⟩ rfl rfl (AOp.loadRow rfl sc_5 rfl (.head _) ((pTo s k).length - 1) 0 rfl (at_list (by omega)) rfl) ?_
                refine AOps.step ⟨50, rfl, .inl ⟨_, rfl, rfl⟩⟩ rfl rfl (AOp.neq rfl rfl rfl) ?_
                refine AOps.step rfl rfl rfl (AOp.pickT rfl rfl rfl) ?_
                refine AOps.step rfl rfl rfl (AOp.assignD rfl rfl) ?_
                refine AOps.nil ?_
                refine AWP.cond rfl (fun h25 => ?_) (fun h25 => ?_)
                · replace h25 := of_decide_eq_true h25
                  have HSP := h25
                  refine AWP.region ?_
                  refine AOps.step rfl rfl rfl (AOp.moveO rfl rfl) ?_
                  refine AOps.step rfl rfl rfl (AOp.buildSlice rfl et_36 (.cons rfl rfl rfl .nil) rfl (by decide)) ?_
                  -- append 61
                  refine AOps.append rfl rfl rfl rfl et_36 rfl (.head _) rfl (by simp [D.parts]) (by simp; omega) (by simp; omega) ?_
                  refine AOps.step rfl rfl rfl (AOp.assignO rfl rfl) ?_
                  refine AOps.nil ?_
                  refine AWP.region ?_
                  refine AOps.step rfl rfl rfl (AOp.add64 rfl rfl rfl (by omega) (by omega)) ?_
                  refine AOps.step rfl rfl rfl (AOp.moveD rfl rfl) ?_
                  refine AOps.nil ?_
                  refine ⟨k + 1, (by omega), (by dsimp only; omega), Sub.less ⟨(SLe.of_eq rfl), SLe.refl _, SLe.refl _, SLe.refl _, SLe.refl _, trivial⟩ (row_same (by first | (rw [hpn, step_aln (aln_iff.2 (by omega)), List.map_append]; rfl) | (rw [hpn, step_no (fun h => by have := aln_iff.1 h; omega) HNO]) | (rw [hpn, step_sp (fun h => by have := aln_iff.1 h; omega) hlp (u8_n32 HSP), List.map_append]; rfl)))⟩
                · replace h25 := of_decide_eq_false h25
                  have HNO : pTo s k = [] ∨ (pTo s k).getLast? = some 32 := .inr (last_32 hlp (u8_32 (Decidable.not_not.1 h25)))
                  refine AWP.skip ?_
                  refine AWP.region ?_
                  refine AOps.step rfl rfl rfl (AOp.add64 rfl rfl rfl (by omega) (by omega)) ?_
                  refine AOps.step rfl rfl rfl (AOp.moveD rfl rfl) ?_
                  refine AOps.nil ?_
                  refine ⟨k + 1, (by omega), (by dsimp only; omega), Sub.less ⟨(SLe.of_eq rfl), SLe.refl _, SLe.refl _, SLe.refl _, SLe.refl _, trivial⟩ (row_same (by first | (rw [hpn, step_aln (aln_iff.2 (by omega)), List.map_append]; rfl) | (rw [hpn, step_no (fun h => by have := aln_iff.1 h; omega) HNO]) | (rw [hpn, step_sp (fun h => by have := aln_iff.1 h; omega) hlp (u8_n32 HSP), List.map_append]; rfl)))⟩
              · replace g24 := of_decide_eq_false g24
                rw [List.length_map] at g24
                have HNO : pTo s k = [] ∨ (pTo s k).getLast? = some 32 := .inl (List.eq_nil_of_length_eq_zero (by omega))
                refine AOps.pass ⟨50, rfl, .inl ⟨_, rfl, rfl⟩⟩ rfl rfl ?_
                refine AOps.pass ⟨50, rfl, .inl ⟨_, rfl, rfl⟩⟩ rfl rfl ?_
                refine AOps.pass ⟨50, rfl, .inl ⟨_, rfl, rfl⟩⟩ rfl rfl ?_
                refine AOps.pass ⟨50, rfl, .inl ⟨_, rfl, rfl⟩⟩ rfl rfl ?_
                refine AOps.pass ⟨50, rfl, .inl ⟨_, rfl, rfl⟩⟩ rfl rfl ?_
                refine AOps.pass ⟨50, rfl, .inl ⟨_, rfl, rfl⟩⟩ rfl rfl ?_
                refine AOps.pass ⟨50, rfl, .inl ⟨_, rfl, rfl⟩⟩ rfl rfl ?_
                refine AOps.step rfl rfl rfl (AOp.pickF rfl rfl rfl) ?_
                refine AOps.step rfl rfl rfl (AOp.assignD rfl rfl) ?_
                refine AOps.nil ?_
                refine AWP.cond rfl (fun h => nomatch h) (fun _ => ?_)
                refine AWP.skip ?_
                refine AWP.region ?_
                refine AOps.step rfl rfl rfl (AOp.add64 rfl rfl rfl (by omega) (by omega)) ?_
                refine AOps.step rfl rfl rfl (AOp.moveD rfl rfl) ?_
                refine AOps.nil ?_
                refine ⟨k + 1, (by omega), (by dsimp only; omega), Sub.less ⟨(SLe.of_eq rfl), SLe.refl _, SLe.refl _, SLe.refl _, SLe.refl _, trivial⟩ (row_same (by first | (rw [hpn, step_aln (aln_iff.2 (by omega)), List.map_append]; rfl) | (rw [hpn, step_no (fun h => by have := aln_iff.1 h; omega) HNO]) | (rw [hpn, step_sp (fun h => by have := aln_iff.1 h; omega) hlp (u8_n32 HSP), List.map_append]; rfl)))⟩
        · replace g18 := of_decide_eq_false g18
          refine AOps.pass ⟨30, rfl, .inl ⟨_, rfl, rfl⟩⟩ rfl rfl ?_
          refine AOps.pass ⟨30, rfl, .inl ⟨_, rfl, rfl⟩⟩ rfl rfl ?_
          refine AOps.step rfl rfl rfl (AOp.pickF rfl rfl rfl) ?_
          refine AOps.step rfl rfl rfl (AOp.moveD rfl rfl) ?_
          refine AOps.step ⟨34, rfl, .inl ⟨_, rfl, rfl⟩⟩ rfl rfl (AOp.moveD rfl rfl) ?_
          refine AOps.step ⟨34, rfl, .inl ⟨_, rfl, rfl⟩⟩ rfl rfl (AOp.geq rfl rfl rfl) ?_
          refine AOps.step ⟨34, rfl, .inl ⟨_, rfl, rfl⟩⟩ rfl rfl (AOp.moveD rfl rfl) ?_
          refine AOps.split 37 rfl (fun g26 => ?_) (fun g26 => ?_)
          · replace g26 := of_decide_eq_true g26
            refine AOps.step ⟨37, rfl, .inl ⟨_, rfl, rfl⟩⟩ rfl rfl (AOp.moveD rfl rfl) ?_
            refine AOps.step ⟨37, rfl, .inl ⟨_, rfl, rfl⟩⟩ rfl rfl (AOp.leq rfl rfl rfl) ?_
            refine AOps.step ⟨34, rfl, .inl ⟨_, rfl, rfl⟩⟩ rfl rfl (AOp.pickT rfl rfl rfl) ?_
            refine AOps.step rfl rfl rfl (AOp.pickF rfl rfl rfl) ?_
            refine AOps.step rfl rfl rfl (AOp.assignD rfl rfl) ?_
            refine AOps.nil ?_
            refine AWP.cond rfl (fun h27 => ?_) (fun h27 => ?_)
            · replace h27 := of_decide_eq_true h27
              refine AWP.region ?_
              refine AOps.step rfl rfl rfl (AOp.moveO rfl rfl) ?_
              refine AOps.step rfl rfl rfl (AOp.moveD rfl rfl) ?_
              refine AOps.step rfl rfl rfl (AOp.buildSlice rfl et_36 (.cons rfl rfl rfl .nil) rfl (by decide)) ?_
              -- append 45
              refine AOps.append rfl rfl rfl rfl et_36 rfl (.head _) rfl (by simp [D.parts]) (by simp; omega) (by simp; omega) ?_
              refine AOps.step rfl rfl rfl (AOp.assignO rfl rfl) ?_
              refine AOps.nil ?_
              refine AWP.region ?_
              refine AOps.step rfl rfl rfl (AOp.add64 rfl rfl rfl (by omega) (by omega)) ?_
              refine AOps.step rfl rfl rfl (AOp.moveD rfl rfl) ?_
              refine AOps.nil ?_
              refine ⟨k + 1, (by omega), (by dsimp only; omega), Sub.less ⟨(SLe.of_eq rfl), SLe.refl _, SLe.refl _, SLe.refl _, SLe.refl _, trivial⟩ (row_same (by first | (rw [hpn, step_aln (aln_iff.2 (by omega)), List.map_append]; rfl) | (rw [hpn, step_no (fun h => by have := aln_iff.1 h; omega) HNO]) | (rw [hpn, step_sp (fun h => by have := aln_iff.1 h; omega) hlp (u8_n32 HSP), List.map_append]; rfl)))⟩
            · replace h27 := of_decide_eq_false h27
              refine AWP.seq ?_
              refine AWP.region ?_
              refine AOps.step rfl rfl rfl (AOp.moveO rfl rfl) ?_
              refine AOps.step rfl rfl rfl (AOp.lenOwn rfl et_36.ht rfl (.head _)) ?_
              refine AOps.step rfl rfl rfl (AOp.gtr rfl rfl rfl) ?_
              refine AOps.step rfl rfl rfl (AOp.moveD rfl rfl) ?_
              refine AOps.split 50 rfl (fun g28 => ?_) (fun g28 => ?_)
              · replace g28 := of_decide_eq_true g28
                rw [List.length_map] at g28
                have hlp : 0 < (pTo s k).length := by omega
                refine AOps.step ⟨50, rfl, .inl ⟨_, rfl, rfl⟩⟩ rfl rfl (AOp.moveO rfl rfl) ?_
                refine AOps.step ⟨50, rfl, .inl ⟨_, rfl, rfl⟩⟩ rfl rfl (AOp.moveO rfl rfl) ?_
                refine AOps.step ⟨50, rfl, .inl ⟨_, rfl, rfl⟩⟩ rfl rfl (AOp.lenOwn rfl et_36.ht rfl (.head _)) ?_
                refine AOps.step ⟨50, rfl, .inl ⟨_, rfl, rfl⟩⟩ rfl rfl (AOp.sub64 rfl rfl rfl (by rw [List.length_map]; omega) (by rw [List.length_map]; omega)) ?_
                refine AOps.step ⟨50, rfl, .inl ⟨_, rfl, rfl⟩⟩ rfl rfl (AOp.indexOwn rfl et_36 rfl rfl (.head _) ((pTo s k).length - 1) (by rw [List.length_map]; omega) (by rw [List.length_map]; omega)) ?_
                refine AOps.step ⟨50, rfl, .inl ⟨_, rfl, rfl⟩⟩ rfl rfl (AOp.loadRow rfl sc_5 rfl (.head _) ((pTo s k).length - 1) 0 rfl (at_list (by omega)) rfl) ?_
                refine AOps.step ⟨50, rfl, .inl ⟨_, rfl, rfl⟩⟩ rfl rfl (AOp.neq rfl rfl rfl) ?_
                refine AOps.step rfl rfl rfl (AOp.pickT rfl rfl rfl) ?_
                refine AOps.step rfl rfl rfl (AOp.assignD rfl rfl) ?_
                refine AOps.nil ?_
                refine AWP.cond rfl (fun h29 => ?_) (fun h29 => ?_)
                · replace h29 := of_decide_eq_true h29
                  have HSP := h29
                  refine AWP.region ?_
                  refine AOps.step rfl rfl rfl (AOp.moveO rfl rfl) ?_
                  refine AOps.step rfl rfl rfl (AOp.buildSlice rfl et_36 (.cons rfl rfl rfl .nil) rfl (by decide)) ?_
                  -- append 61
                  refine AOps.append rfl rfl rfl rfl et_36 rfl (.head _) rfl (by simp [D.parts]) (by simp; omega) (by simp; omega) ?_
                  refine AOps.step rfl rfl rfl (AOp.assignO rfl rfl) ?_
                  refine AOps.nil ?_
                  refine AWP.region ?_
                  refine AOps.step rfl rfl rfl (AOp.add64 rfl rfl rfl (by omega) (by omega)) ?_
                  refine AOps.step rfl rfl rfl (AOp.moveD rfl rfl) ?_
                  refine AOps.nil ?_
                  refine ⟨k + 1, (by omega), (by dsimp only; omega), Sub.less ⟨(SLe.of_eq rfl), SLe.refl _, SLe.refl _, SLe.refl _, SLe.refl _, trivial⟩ (row_same (by first | (rw [hpn, step_aln (aln_iff.2 (by omega)), List.map_append]; rfl) | (rw [hpn, step_no (fun h => by have := aln_iff.1 h; omega) HNO]) | (rw [hpn, step_sp (fun h => by have := aln_iff.1 h; omega) hlp (u8_n32 HSP), List.map_append]; rfl)))⟩
                · replace h29 := of_decide_eq_false h29
                  have HNO : pTo s k = [] ∨ (pTo s k).getLast? = some 32 := .inr (last_32 hlp (u8_32 (Decidable.not_not.1 h29)))
                  refine AWP.skip ?_
                  refine AWP.region ?_
                  refine AOps.step rfl rfl rfl (AOp.add64 rfl rfl rfl (by omega) (by omega)) ?_
                  refine AOps.step rfl rfl rfl (AOp.moveD rfl rfl) ?_
                  refine AOps.nil ?_
                  refine ⟨k + 1, (by omega), (by dsimp only; omega), Sub.less ⟨(SLe.of_eq rfl), SLe.refl _, SLe.refl _, SLe.refl _, SLe.refl _, trivial⟩ (row_same (by first | (rw [hpn, step_aln (aln_iff.2 (by omega)), List.map_append]; rfl) | (rw [hpn, step_no (fun h => by have := aln_iff.1 h; omega) HNO]) | (rw [hpn, step_sp (fun h => by have := aln_iff.1 h; omega) hlp (u8_n32 HSP), List.map_append]; rfl)))⟩
              · replace g28 := of_decide_eq_false g28
                rw [List.length_map] at g28
                have HNO : pTo s k = [] ∨ (pTo s k).getLast? = some 32 := .inl (List.eq_nil_of_length_eq_zero (by omega))
                refine AOps.pass ⟨50, rfl, .inl ⟨_, rfl, rfl⟩⟩ rfl rfl ?_
                refine AOps.pass ⟨50, rfl, .inl ⟨_, rfl, rfl⟩⟩ rfl rfl ?_
                refine AOps.pass ⟨50, rfl, .inl ⟨_, rfl, rfl⟩⟩ rfl rfl ?_
                refine AOps.pass ⟨50, rfl, .inl ⟨_, rfl, rfl⟩⟩ rfl rfl ?_
                refine AOps.pass ⟨50, rfl, .inl ⟨_, rfl, rfl⟩⟩ rfl rfl ?_
                refine AOps.pass ⟨50, rfl, .inl ⟨_, rfl, rfl⟩⟩ rfl rfl ?_
                refine AOps.pass ⟨50, rfl, .inl ⟨_, rfl, rfl⟩⟩ rfl rfl ?_
                refine AOps.step rfl rfl rfl (AOp.pickF rfl rfl rfl) ?_
                refine AOps.step rfl rfl rfl (AOp.assignD rfl rfl) ?_
                refine AOps.nil ?_
                refine AWP.cond rfl (fun h => nomatch h) (fun _ => ?_)
                refine AWP.skip ?_
                refine AWP.region ?_
                refine AOps.step rfl rfl rfl (AOp.add64 rfl rfl rfl (by omega) (by omega)) ?_
                refine AOps.step rfl rfl rfl (AOp.moveD rfl rfl) ?_
                refine AOps.nil ?_
                refine ⟨k + 1, (by omega), (by dsimp only; omega), Sub.less ⟨(SLe.of_eq rfl), SLe.refl _, SLe.refl _, SLe.refl _, SLe.refl _, trivial⟩ (row_same (by first | (rw [hpn, step_aln (aln_iff.2 (by omega)), List.map_append]; rfl) | (rw [hpn, step_no (fun h => by have := aln_iff.1 h; omega) HNO]) | (rw [hpn, step_sp (fun h => by have := aln_iff.1 h; omega) hlp (u8_n32 HSP), List.map_append]; rfl)))⟩
          · replace g26 := of_decide_eq_false g26
            refine AOps.pass ⟨37, rfl, .inl ⟨_, rfl, rfl⟩⟩ rfl rfl ?_
            refine AOps.pass ⟨37, rfl, .inl ⟨_, rfl, rfl⟩⟩ rfl rfl ?_
            refine AOps.step ⟨34, rfl, .inl ⟨_, rfl, rfl⟩⟩ rfl rfl (AOp.pickF rfl rfl rfl) ?_
            refine AOps.step rfl rfl rfl (AOp.pickF rfl rfl rfl) ?_
            refine AOps.step rfl rfl rfl (AOp.assignD rfl rfl) ?_
            refine AOps.nil ?_
            refine AWP.cond rfl (fun h => nomatch h) (fun _ => ?_)
            refine AWP.seq ?_
            refine AWP.region ?_
            refine AOps.step rfl rfl rfl (AOp.moveO rfl rfl) ?_
            refine AOps.step rfl rfl rfl (AOp.lenOwn rfl et_36.ht rfl (.head _)) ?_
            refine AOps.step rfl rfl rfl (AOp.gtr rfl rfl rfl) ?_
            refine AOps.step rfl rfl rfl (AOp.moveD rfl rfl) ?_
            refine AOps.split 50 rfl (fun g30 => ?_) (fun g30 => ?_)
            · replace g30 := of_decide_eq_true g30
              rw [List.length_map] at g30
              have hlp : 0 < (pTo s k).length := by omega
              refine AOps.step ⟨50, rfl, .inl ⟨_, rfl, rfl⟩⟩ rfl rfl (AOp.moveO rfl rfl) ?_
              refine AOps.step ⟨50, rfl, .inl ⟨_, rfl, rfl⟩⟩ rfl rfl (AOp.moveO rfl rfl) ?_
              refine AOps.step ⟨50, rfl, .inl ⟨_, rfl, rfl⟩⟩ rfl rfl (AOp.lenOwn rfl et_36.ht rfl (.head _)) ?_
              refine AOps.step ⟨50, rfl, .inl ⟨_, rfl, rfl⟩⟩ rfl rfl (AOp.sub64 rfl rfl rfl (by rw [List.length_map]; omega) (by rw [List.length_map]; omega)) ?_
              refine AOps.step ⟨50, rfl, .inl ⟨_, rfl, rfl⟩⟩ rfl rfl (AOp.indexOwn rfl et_36 rfl rfl (.head _) ((pTo s k).length - 1) (by rw [List.length_map]; omega) (by rw [List.length_map]; omega)) ?_
              refine AOps.step ⟨50, rfl, .inl ⟨_, rfl, rfl⟩⟩ rfl rfl (AOp.loadRow rfl sc_5 rfl (.head _) ((pTo s k).length - 1) 0 rfl (at_list (by omega)) rfl) ?_
              refine AOps.step ⟨50, rfl, .inl ⟨_, rfl, rfl⟩⟩ rfl rfl (AOp.neq rfl rfl rfl) ?_
              refine AOps.step rfl rfl rfl (AOp.pickT rfl rfl rfl) ?_
              refine AOps.step rfl rfl rfl (AOp.assignD rfl rfl) ?_
              refine AOps.nil ?_
              refine AWP.cond rfl (fun h31 => ?_) (fun h31 => ?_)
              · replace h31 := of_decide_eq_true h31
                have HSP := h31
                refine AWP.region ?_
                refine AOps.step rfl rfl rfl (AOp.moveO rfl rfl) ?_
                refine AOps.step rfl rfl rfl (AOp.buildSlice rfl et_36 (.cons rfl rfl rfl .nil) rfl (by decide)) ?_
                -- append 61
                refine AOps.append rfl rfl rfl rfl et_36 rfl (.head _) rfl (by simp [D.parts]) (by simp; omega) (by simp; omega) ?_
                refine AOps.step rfl rfl rfl (AOp.assignO rfl rfl) ?_
                refine AOps.nil ?_
                refine AWP.region ?_
                refine AOps.step rfl rfl rfl (AOp.add64 rfl rfl rfl (by omega) (by omega)) ?_
                refine AOps.step rfl rfl rfl (AOp.moveD rfl rfl) ?_
                refine AOps.nil ?_
                refine ⟨k + 1, (by omega), (by dsimp only; omega), Sub.less ⟨(SLe.of_eq rfl), SLe.refl _, SLe.refl _, SLe.refl _, SLe.refl _, trivial⟩ (row_same (by first | (rw [hpn, step_aln (aln_iff.2 (by omega)), List.map_append]; rfl) | (rw [hpn, step_no (fun h => by have := aln_iff.1 h; omega) HNO]) | (rw [hpn, step_sp (fun h => by have := aln_iff.1 h; omega) hlp (u8_n32 HSP), List.map_append]; rfl)))⟩
              · replace h31 := of_decide_eq_false h31
                have HNO : pTo s k = [] ∨ (pTo s k).getLast? = some 32 := .inr (last_32 hlp (u8_32 (Decidable.not_not.1 h31)))
                refine AWP.skip ?_
                refine AWP.region ?_
                refine AOps.step rfl rfl rfl (AOp.add64 rfl rfl rfl (by omega) (by omega)) ?_
                refine AOps.step rfl rfl rfl (AOp.moveD rfl rfl) ?_
                refine AOps.nil ?_
                refine ⟨k + 1, (by omega), (by dsimp only; omega), Sub.less ⟨(SLe.of_eq rfl), SLe.refl _, SLe.refl _, SLe.refl _, SLe.refl _, trivial⟩ (row_same (by first | (rw [hpn, step_aln (aln_iff.2 (by omega)), List.map_append]; rfl) | (rw [hpn, step_no (fun h => by have := aln_iff.1 h; omega) HNO]) | (rw [hpn, step_sp (fun h => by have := aln_iff.1 h; omega) hlp (u8_n32 HSP), List.map_append]; rfl)))⟩
            · replace g30 := of_decide_eq_false g30
              rw [List.length_map] at g30
              have HNO : pTo s k = [] ∨ (pTo s k).getLast? = some 32 := .inl (List.eq_nil_of_length_eq_zero (by omega))
              refine AOps.pass ⟨50, rfl, .inl ⟨_, rfl, rfl⟩⟩ rfl rfl ?_
              refine AOps.pass ⟨50, rfl, .inl ⟨_, rfl, rfl⟩⟩ rfl rfl ?_
              refine AOps.pass ⟨50, rfl, .inl ⟨_, rfl, rfl⟩⟩ rfl rfl ?_
              refine AOps.pass ⟨50, rfl, .inl ⟨_, rfl, rfl⟩⟩ rfl rfl ?_
              refine AOps.pass ⟨50, rfl, .inl ⟨_, rfl, rfl⟩⟩ rfl rfl ?_
              refine AOps.pass ⟨50, rfl, .inl ⟨_, rfl, rfl⟩⟩ rfl rfl ?_
              refine AOps.pass ⟨50, rfl, .inl ⟨_, rfl, rfl⟩⟩ rfl rfl ?_
              refine AOps.step rfl rfl rfl (AOp.pickF rfl rfl rfl) ?_
              refine AOps.step rfl rfl rfl (AOp.assignD rfl rfl) ?_
              refine AOps.nil ?_
              refine AWP.cond rfl (fun h => nomatch h) (fun _ => ?_)
              refine AWP.skip ?_
              refine AWP.region ?_
              refine AOps.step rfl rfl rfl (AOp.add64 rfl rfl rfl (by omega) (by omega)) ?_
              refine AOps.step rfl rfl rfl (AOp.moveD rfl rfl) ?_
              refine AOps.nil ?_
              refine ⟨k + 1, (by omega), (by dsimp only; omega), Sub.less ⟨(SLe.of_eq rfl), SLe.refl _, SLe.refl _, SLe.refl _, SLe.refl _, trivial⟩ (row_same (by first | (rw [hpn, step_aln (aln_iff.2 (by omega)), List.map_append]; rfl) | (rw [hpn, step_no (fun h => by have := aln_iff.1 h; omega) HNO]) | (rw [hpn, step_sp (fun h => by have := aln_iff.1 h; omega) hlp (u8_n32 HSP), List.map_append]; rfl)))⟩
    · replace g2 := of_decide_eq_false g2
      refine AOps.pass ⟨21, rfl, .inl ⟨_, rfl, rfl⟩⟩ rfl rfl ?_
      refine AOps.pass ⟨21, rfl, .inl ⟨_, rfl, rfl⟩⟩ rfl rfl ?_
      refine AOps.step rfl rfl rfl (AOp.pickF rfl rfl rfl) ?_
      refine AOps.nil ?_
      refine AWP.cond rfl (fun h => nomatch h) (fun _ => ?_)
      refine AWP.skip ?_
      refine AWP.block ?_
      refine AWP.seq ?_
      first | (have hlc : lowB c = c := low_same (by omega); rw [← hlc]) | skip
      refine AWP.region ?_
      refine AOps.step rfl rfl rfl (AOp.moveD rfl rfl) ?_
      refine AOps.step rfl rfl rfl (AOp.geq rfl rfl rfl) ?_
      refine AOps.step rfl rfl rfl (AOp.moveD rfl rfl) ?_
      refine AOps.split 30 rfl (fun g32 => ?_) (fun g32 => ?_)
      · replace g32 := of_decide_eq_true g32
        refine AOps.step ⟨30, rfl, .inl ⟨_, rfl, rfl⟩⟩ rfl rfl (AOp.moveD rfl rfl) ?_
        refine AOps.step ⟨30, rfl, .inl ⟨_, rfl, rfl⟩⟩ rfl rfl (AOp.leq rfl rfl rfl) ?_
        refine AOps.step rfl rfl rfl (AOp.pickT rfl rfl rfl) ?_
        refine AOps.step rfl rfl rfl (AOp.moveD rfl rfl) ?_
        refine AOps.split 34 rfl (fun g33 => ?_) (fun g33 => ?_)
        · replace g33 := of_decide_eq_true g33
          refine AOps.pass ⟨34, rfl, .inl ⟨_, rfl, rfl⟩⟩ rfl rfl ?_
          refine AOps.pass ⟨34, rfl, .inl ⟨_, rfl, rfl⟩⟩ rfl rfl ?_
          refine AOps.pass ⟨34, rfl, .inl ⟨_, rfl, rfl⟩⟩ rfl rfl ?_
          refine AOps.pass ⟨37, rfl, .inr ⟨rfl, rfl⟩⟩ rfl rfl ?_
          refine AOps.pass ⟨37, rfl, .inr ⟨rfl, rfl⟩⟩ rfl rfl ?_
          refine AOps.pass ⟨34, rfl, .inl ⟨_, rfl, rfl⟩⟩ rfl rfl ?_
          refine AOps.step rfl rfl rfl (AOp.pickT rfl rfl rfl) ?_
          refine AOps.step rfl rfl rfl (AOp.assignD rfl rfl) ?_
          refine AOps.nil ?_
          refine AWP.cond rfl (fun _ => ?_) (fun h => nomatch h)
          refine AWP.region ?_
          refine AOps.step rfl rfl rfl (AOp.moveO rfl rfl) ?_
          refine AOps.step rfl rfl rfl (AOp.moveD rfl rfl) ?_
          refine AOps.step rfl rfl rfl (AOp.buildSlice rfl et_36 (.cons rfl rfl rfl .nil) rfl (by decide)) ?_
          -- append 45
          refine AOps.append rfl rfl rfl rfl et_36 rfl (.head _) rfl (by simp [D.parts]) (by simp; omega) (by simp; omega) ?_
          refine AOps.step rfl rfl rfl (AOp.assignO rfl rfl) ?_
          refine AOps.nil ?_
          refine AWP.region ?_
          refine AOps.step rfl rfl rfl (AOp.add64 rfl rfl rfl (by omega) (by omega)) ?_
          refine AOps.step rfl rfl rfl (AOp.moveD rfl rfl) ?_
          refine AOps.nil ?_
          refine ⟨k + 1, (by omega), (by dsimp only; omega), Sub.less ⟨(SLe.of_eq rfl), SLe.refl _, SLe.refl _, SLe.refl _, SLe.refl _, trivial⟩ (row_same (by first | (rw [hpn, step_aln (aln_iff.2 (by omega)), List.map_append]; rfl) | (rw [hpn, step_no (fun h => by have := aln_iff.1 h; omega) HNO]) | (rw [hpn, step_sp (fun h => by have := aln_iff.1 h; omega) hlp (u8_n32 HSP), List.map_append]; rfl)))⟩
        · replace g33 := of_decide_eq_false g33
          refine AOps.step ⟨34, rfl, .inl ⟨_, rfl, rfl⟩⟩ rfl rfl (AOp.moveD rfl rfl) ?_
          refine AOps.step ⟨34, rfl, .inl ⟨_, rfl, rfl⟩⟩ rfl rfl (AOp.geq rfl rfl rfl) ?_
          refine AOps.step ⟨34, rfl, .inl ⟨_, rfl, rfl⟩⟩ rfl rfl (AOp.moveD rfl rfl) ?_
          refine AOps.split 37 rfl (fun g34 => ?_) (fun g34 => ?_)
          · replace g34 := of_decide_eq_true g34
            refine AOps.step ⟨37, rfl, .inl ⟨_, rfl, rfl⟩⟩ rfl rfl (AOp.moveD rfl rfl) ?_
            refine AOps.step ⟨37, rfl, .inl ⟨_, rfl, rfl⟩⟩ rfl rfl (AOp.leq rfl rfl rfl) ?_
            refine AOps.step ⟨34, rfl, .inl ⟨_, rfl, rfl⟩⟩ rfl rfl (AOp.pickT rfl rfl rfl) ?_
            refine AOps.step rfl rfl rfl (AOp.pickF rfl rfl rfl) ?_
            refine AOps.step rfl rfl rfl (AOp.assignD rfl rfl) ?_
            refine AOps.nil ?_
            refine AWP.cond rfl (fun h35 => ?_) (fun h35 => ?_)
            · replace h35 := of_decide_eq_true h35
              refine AWP.region ?_
              refine AOps.step rfl rfl rfl (AOp.moveO rfl rfl) ?_
              refine AOps.step rfl rfl rfl (AOp.moveD rfl rfl) ?_
              refine AOps.step rfl rfl rfl (AOp.buildSlice rfl et_36 (.cons rfl rfl rfl .nil) rfl (by decide)) ?_
              -- append 45
              refine AOps.append rfl rfl rfl rfl et_36 rfl (.head _) rfl (by simp [D.parts]) (by simp; omega) (by simp; omega) ?_
              refine AOps.step rfl rfl rfl (AOp.assignO rfl rfl) ?_
              refine AOps.nil ?_
              refine AWP.region ?_
              refine AOps.step rfl rfl rfl (AOp.add64 rfl rfl rfl (by omega) (by omega)) ?_
              refine AOps.step rfl rfl rfl (AOp.moveD rfl rfl) ?_
              refine AOps.nil ?_
              refine ⟨k + 1, (by omega), (by dsimp only; omega), Sub.less ⟨(SLe.of_eq rfl), SLe.refl _, SLe.refl _, SLe.refl _, SLe.refl _, trivial⟩ (row_same (by first | (rw [hpn, step_aln (aln_iff.2 (by omega)), List.map_append]; rfl) | (rw [hpn, step_no (fun h => by have := aln_iff.1 h; omega) HNO]) | (rw [hpn, step_sp (fun h => by have := aln_iff.1 h; omega) hlp (u8_n32 HSP), List.map_append]; rfl)))⟩
            · replace h35 := of_decide_eq_false h35
              refine AWP.seq ?_
              refine AWP.region ?_
              refine AOps.step rfl rfl rfl (AOp.moveO rfl rfl) ?_
              refine AOps.step rfl rfl rfl (AOp.lenOwn rfl et_36.ht rfl (.head _)) ?_
              refine AOps.step rfl rfl rfl (AOp.gtr rfl rfl rfl) ?_
              refine AOps.step rfl rfl rfl (AOp.moveD rfl rfl) ?_
              refine AOps.split 50 rfl (fun g36 => ?_) (fun g36 => ?_)
              · replace g36 := of_decide_eq_true g36
                rw [List.length_map] at g36
                have hlp : 0 < (pTo s k).length := by omega
                refine AOps.step ⟨50, rfl, .inl ⟨_, rfl, rfl⟩⟩ rfl rfl (AOp.moveO rfl rfl) ?_
                refine AOps.step ⟨50, rfl, .inl ⟨_, rfl, rfl⟩⟩ rfl rfl (AOp.moveO rfl rfl) ?_
                refine AOps.step ⟨50, rfl, .inl ⟨_, rfl, rfl⟩⟩ rfl rfl (AOp.lenOwn rfl et_36.ht rfl (.head _)) ?_
                refine AOps.step ⟨50, rfl, .inl ⟨_, rfl, rfl⟩⟩ rfl rfl (AOp.sub64 rfl rfl rfl (by rw [List.length_map]; omega) (by rw [List.length_map]; omega)) ?_
                refine AOps.step ⟨50, rfl, .inl ⟨_, rfl, rfl⟩⟩ rfl rfl (AOp.indexOwn rfl et_36 rfl rfl (.head _) ((pTo s k).length - 1) (by rw [List.length_map]; omega) (by rw [List.length_map]; omega)) ?_
                refine AOps.step ⟨50, rfl, .inl ⟨_, rfl, rfl⟩⟩ rfl rfl (AOp.loadRow rfl sc_5 rfl (.head _) ((pTo s k).length - 1) 0 rfl (at_list (by omega)) rfl) ?_
                refine AOps.step ⟨50, rfl, .inl ⟨_, rfl, rfl⟩⟩ rfl rfl (AOp.neq rfl rfl rfl) ?_
                refine AOps.step rfl rfl rfl (AOp.pickT rfl rfl rfl) ?_
                refine AOps.step rfl rfl rfl (AOp.assignD rfl rfl) ?_
                refine AOps.nil ?_
                refine AWP.cond rfl (fun h37 => ?_) (fun h37 => ?_)
                · replace h37 := of_decide_eq_true h37
                  have HSP := h37
                  refine AWP.region ?_
                  refine AOps.step rfl rfl rfl (AOp.moveO rfl rfl) ?_
                  refine AOps.step rfl rfl rfl (AOp.buildSlice rfl et_36 (.cons rfl rfl rfl .nil) rfl (by decide)) ?_
                  -- append 61
                  refine AOps.append rfl rfl rfl rfl et_36 rfl (.head _) rfl (by simp [D.parts]) (by simp; omega) (by simp; omega) ?_
                  refine AOps.step rfl rfl rfl (AOp.assignO rfl rfl) ?_
                  refine AOps.nil ?_
                  refine AWP.region ?_
                  refine AOps.step rfl rfl rfl (AOp.add64 rfl rfl rfl (by omega) (by omega)) ?_
                  refine AOps.step rfl rfl rfl (AOp.moveD rfl rfl) ?_
                  refine AOps.nil ?_
                  refine ⟨k + 1, (by omega), (by dsimp only; omega), Sub.less ⟨(SLe.of_eq rfl), SLe.refl _, SLe.refl _, SLe.refl _, SLe.refl _, trivial⟩ (row_same (by first | (rw [hpn, step_aln (aln_iff.2 (by omega)), List.map_append]; rfl) | (rw [hpn, step_no (fun h => by have := aln_iff.1 h; omega) HNO]) | (rw [hpn, step_sp (fun h => by have := aln_iff.1 h; omega) hlp (u8_n32 HSP), List.map_append]; rfl)))⟩
                · replace h37 := of_decide_eq_false h37
                  have HNO : pTo s k = [] ∨ (pTo s k).getLast? = some 32 := .inr (last_32 hlp (u8_32 (Decidable.not_not.1 h37)))
                  refine AWP.skip ?_
                  refine AWP.region ?_
                  refine AOps.step rfl rfl rfl (AOp.add64 rfl rfl rfl (by omega) (by omega)) ?_
                  refine AOps.step rfl rfl rfl (AOp.moveD rfl rfl) ?_
                  refine AOps.nil ?_
                  refine ⟨k + 1, (by omega), (by dsimp only; omega), Sub.less ⟨(SLe.of_eq rfl), SLe.refl _, SLe.refl _, SLe.refl _, SLe.refl _, trivial⟩ (row_same (by first | (rw [hpn, step_aln (aln_iff.2 (by omega)), List.map_append]; rfl) | (rw [hpn, step_no (fun h => by have := aln_iff.1 h; omega) HNO]) | (rw [hpn, step_sp (fun h => by have := aln_iff.1 h; omega) hlp (u8_n32 HSP), List.map_append]; rfl)))⟩
              · replace g36 := of_decide_eq_false g36
                rw [List.length_map] at g36
                have HNO : pTo s k = [] ∨ (pTo s k).getLast? = some 32 := .inl (List.eq_nil_of_length_eq_zero (by omega))
                refine AOps.pass ⟨50, rfl, .inl ⟨_, rfl, rfl⟩⟩ rfl rfl ?_
                refine AOps.pass ⟨50, rfl, .inl ⟨_, rfl, rfl⟩⟩ rfl rfl ?_
                refine AOps.pass ⟨50, rfl, .inl ⟨_, rfl, rfl⟩⟩ rfl rfl ?_
                refine AOps.pass ⟨50, rfl, .inl ⟨_, rfl, rfl⟩⟩ rfl rfl ?_
                refine AOps.pass ⟨50, rfl, .inl ⟨_, rfl, rfl⟩⟩ rfl rfl ?_
                refine AOps.pass ⟨50, rfl, .inl ⟨_, rfl, rfl⟩⟩ rfl rfl ?_
                refine AOps.pass ⟨50, rfl, .inl ⟨_, rfl, rfl⟩⟩ rfl rfl ?_
                refine AOps.step rfl rfl rfl (AOp.pickF rfl rfl rfl) ?_
                refine AOps.step rfl rfl rfl (AOp.assignD rfl rfl) ?_
                refine AOps.nil ?_
                refine AWP.cond rfl (fun h => nomatch h) (fun _ => ?_)
                refine AWP.skip ?_
                refine AWP.region ?_
                refine AOps.step rfl rfl rfl (AOp.add64 rfl rfl rfl (by omega) (by omega)) ?_
                refine AOps.step rfl rfl rfl (AOp.moveD rfl rfl) ?_
                refine AOps.nil ?_
                refine ⟨k + 1, (by omega), (by dsimp only; omega), Sub.less ⟨(SLe.of_eq rfl), SLe.refl _, SLe.refl _, SLe.refl _, SLe.refl _, trivial⟩ (row_same (by first | (rw [hpn, step_aln (aln_iff.2 (by omega)), List.map_append]; rfl) | (rw [hpn, step_no (fun h => by have := aln_iff.1 h; omega) HNO]) | (rw [hpn, step_sp (fun h => by have := aln_iff.1 h; omega) hlp (u8_n32 HSP), List.map_append]; rfl)))⟩
          · replace g34 := of_decide_eq_false g34
            refine AOps.pass ⟨37, rfl, .inl ⟨_, rfl, rfl⟩⟩ rfl rfl ?_
            refine AOps.pass ⟨37, rfl, .inl ⟨_, rfl, rfl⟩⟩ rfl rfl ?_
            refine AOps.step ⟨34, rfl, .inl ⟨_, rfl, rfl⟩⟩ rfl rfl (AOp.pickF rfl rfl rfl) ?_
            refine AOps.step rfl rfl rfl (AOp.pickF rfl rfl rfl) ?_
            refine AOps.step rfl rfl rfl (AOp.assignD rfl rfl) ?_
            refine AOps.nil ?_
            refine AWP.cond rfl (fun h => nomatch h) (fun _ => ?_)
            refine AWP.seq ?_
            refine AWP.region ?_
            refine AOps.step rfl rfl rfl (AOp.moveO rfl rfl) ?_
            refine AOps.step rfl rfl rfl (AOp.lenOwn rfl et_36.ht rfl (.head _)) ?_
            refine AOps.step rfl rfl rfl (AOp.gtr rfl rfl rfl) ?_
            refine AOps.step rfl rfl rfl (AOp.moveD rfl rfl) ?_
            refine AOps.split 50 rfl (fun g38 => ?_) (fun g38 => ?_)
            · replace g38 := of_decide_eq_true g38
              rw [List.length_map] at g38
              have hlp : 0 < (pTo s k).length := by omega
              refine AOps.step ⟨50, rfl, .inl ⟨_, rfl, rfl⟩⟩ rfl rfl (AOp.moveO rfl rfl) ?_
              refine AOps.step ⟨50, rfl, .inl ⟨_, rfl, rfl⟩⟩ rfl rfl (AOp.moveO rfl rfl) ?_
              refine AOps.step ⟨50, rfl, .inl ⟨_, rfl, rfl⟩⟩ rfl rfl (AOp.lenOwn rfl et_36.ht rfl (.head _)) ?_
              refine AOps.step ⟨50, rfl, .inl ⟨_, rfl, rfl⟩⟩ rfl rfl (AOp.sub64 rfl rfl rfl (by rw [List.length_map]; omega) (by rw [List.length_map]; omega)) ?_
              refine AOps.step ⟨50, rfl, .inl ⟨_, rfl, rfl⟩⟩ rfl rfl (AOp.indexOwn rfl et_36 rfl rfl (.head _) ((pTo s k).length - 1) (by rw [List.length_map]; omega) (by rw [List.length_map]; omega)) ?_
              refine AOps.step ⟨50, rfl, .inl ⟨_, rfl, rfl⟩⟩ rfl rfl (AOp.loadRow rfl sc_5 rfl (.head _) ((pTo s k).length - 1) 0 rfl (at_list (by omega)) rfl) ?_
              refine AOps.step ⟨50, rfl, .inl ⟨_, rfl, rfl⟩⟩ rfl rfl (AOp.neq rfl rfl rfl) ?_
              refine AOps.step rfl rfl rfl (AOp.pickT rfl rfl rfl) ?_
              refine AOps.step rfl rfl rfl (AOp.assignD rfl rfl) ?_
              refine AOps.nil ?_
              refine AWP.cond rfl (fun h39 => ?_) (fun h39 => ?_)
              · replace h39 := of_decide_eq_true h39
                have HSP := h39
                refine AWP.region ?_
                refine AOps.step rfl rfl rfl (AOp.moveO rfl rfl) ?_
                refine AOps.step rfl rfl rfl (AOp.buildSlice rfl et_36 (.cons rfl rfl rfl .nil) rfl (by decide)) ?_
                -- append 61
                refine AOps.append rfl rfl rfl rfl et_36 rfl (.head _) rfl (by simp [D.parts]) (by simp; omega) (by simp; omega) ?_
                refine AOps.step rfl rfl rfl (AOp.assignO rfl rfl) ?_
                refine AOps.nil ?_
                refine AWP.region ?_
                refine AOps.step rfl rfl rfl (AOp.add64 rfl rfl rfl (by omega) (by omega)) ?_
                refine AOps.step rfl rfl rfl (AOp.moveD rfl rfl) ?_
                refine AOps.nil ?_
                refine ⟨k + 1, (by omega), (by dsimp only; omega), Sub.less ⟨(SLe.of_eq rfl), SLe.refl _, SLe.refl _, SLe.refl _, SLe.refl _, trivial⟩ (row_same (by first | (rw [hpn, step_aln (aln_iff.2 (by omega)), List.map_append]; rfl) | (rw [hpn, step_no (fun h => by have := aln_iff.1 h; omega) HNO]) | (rw [hpn, step_sp (fun h => by have := aln_iff.1 h; omega) hlp (u8_n32 HSP), List.map_append]; rfl)))⟩
              · replace h39 := of_decide_eq_false h39
                have HNO : pTo s k = [] ∨ (pTo s k).getLast? = some 32 := .inr (last_32 hlp (u8_32 (Decidable.not_not.1 h39)))
                refine AWP.skip ?_
                refine AWP.region ?_
                refine AOps.step rfl rfl rfl (AOp.add64 rfl rfl rfl (by omega) (by omega)) ?_
                refine AOps.step rfl rfl rfl (AOp.moveD rfl rfl) ?_
                refine AOps.nil ?_
                refine ⟨k + 1, (by omega), (by dsimp only; omega), Sub.less ⟨(SLe.of_eq rfl), SLe.refl _, SLe.refl _, SLe.refl _, SLe.refl _, trivial⟩ (row_same (by first | (rw [hpn, step_aln (aln_iff.2 (by omega)), List.map_append]; rfl) | (rw [hpn, step_no (fun h => by have := aln_iff.1 h; omega) HNO]) | (rw [hpn, step_sp (fun h => by have := aln_iff.1 h; omega) hlp (u8_n32 HSP), List.map_append]; rfl)))⟩
            · replace g38 := of_decide_eq_false g38
              rw [List.length_map] at g38
              have HNO : pTo s k = [] ∨ (pTo s k).getLast? = some 32 := .inl (List.eq_nil_of_length_eq_zero (by omega))
              refine AOps.pass ⟨50, rfl, .inl ⟨_, rfl, rfl⟩⟩ rfl rfl ?_
              refine AOps.pass ⟨50, rfl, .inl ⟨_, rfl, rfl⟩⟩ rfl rfl ?_
              refine AOps.pass ⟨50, rfl, .inl ⟨_, rfl, rfl⟩⟩ rfl rfl ?_
              refine AOps.pass ⟨50, rfl, .inl ⟨_, rfl, rfl⟩⟩ rfl rfl ?_
              refine AOps.pass ⟨50, rfl, .inl ⟨_, rfl, rfl⟩⟩ rfl rfl ?_
              refine AOps.pass ⟨50, rfl, .inl ⟨_, rfl, rfl⟩⟩ rfl rfl ?_
              refine AOps.pass ⟨50, rfl, .inl ⟨_, rfl, rfl⟩⟩ rfl rfl ?_
              refine AOps.step rfl rfl rfl (AOp.pickF rfl rfl rfl) ?_
              refine AOps.step rfl rfl rfl (AOp.assignD rfl rfl) ?_
              refine AOps.nil ?_
              refine AWP.cond rfl (fun h => nomatch h) (fun _ => ?_)
              refine AWP.skip ?_
              refine AWP.region ?_
              refine AOps.step rfl rfl rfl (AOp.add64 rfl rfl rfl (by omega) (by omega)) ?_
              refine AOps.step rfl rfl rfl (AOp.moveD rfl rfl) ?_
              refine AOps.nil ?_
              refine ⟨k + 1, (by omega), (by dsimp only; omega), Sub.less ⟨(SLe.of_eq rfl), SLe.refl _, SLe.refl _, SLe.refl _, SLe.refl _, trivial⟩ (row_same (by first | (rw [hpn, step_aln (aln_iff.2 (by omega)), List.map_append]; rfl) | (rw [hpn, step_no (fun h => by have := aln_iff.1 h; omega) HNO]) | (rw [hpn, step_sp (fun h => by have := aln_iff.1 h; omega) hlp (u8_n32 HSP), List.map_append]; rfl)))⟩
      · replace g32 := of_decide_eq_false g32
        refine AOps.pass ⟨30, rfl, .inl ⟨_, rfl, rfl⟩⟩ rfl rfl ?_
        refine AOps.pass ⟨30, rfl, .inl ⟨_, rfl, rfl⟩⟩ rfl rfl ?_
        refine AOps.step rfl rfl rfl (AOp.pickF rfl rfl rfl) ?_
        refine AOps.step rfl rfl rfl (AOp.moveD rfl rfl) ?_
        refine AOps.step ⟨34, rfl, .inl ⟨_, rfl, rfl⟩⟩ rfl rfl (AOp.moveD rfl rfl) ?_
        refine AOps.step ⟨34, rfl, .inl ⟨_, rfl, rfl⟩⟩ rfl rfl (AOp.geq rfl rfl rfl) ?_
        refine AOps.step ⟨34, rfl, .inl ⟨_, rfl, rfl⟩⟩ rfl rfl (AOp.moveD rfl rfl) ?_
        refine AOps.split 37 rfl (fun g40 => ?_) (fun g40 => ?_)
        · replace g40 := of_decide_eq_true g40
          refine AOps.step ⟨37, rfl, .inl ⟨_, rfl, rfl⟩⟩ rfl rfl (AOp.moveD rfl rfl) ?_
          refine AOps.step ⟨37, rfl, .inl ⟨_, rfl, rfl⟩⟩ rfl rfl (AOp.leq rfl rfl rfl) ?_
          refine AOps.step ⟨34, rfl, .inl ⟨_, rfl, rfl⟩⟩ rfl rfl (AOp.pickT rfl rfl rfl) ?_
          refine AOps.step rfl rfl rfl (AOp.pickF rfl rfl rfl) ?_
          refine AOps.step rfl rfl rfl (AOp.assignD rfl rfl) ?_
          refine AOps.nil ?_
          refine AWP.cond rfl (fun h41 => ?_) (fun h41 => ?_)
          · replace h41 := of_decide_eq_true h41
            refine AWP.region ?_
            refine AOps.step rfl rfl rfl (AOp.moveO rfl rfl) ?_
            refine AOps.step rfl rfl rfl (AOp.moveD rfl rfl) ?_
            refine AOps.step rfl rfl rfl (AOp.buildSlice rfl et_36 (.cons rfl rfl rfl .nil) rfl (by decide)) ?_
            -- append 45
            refine AOps.append rfl rfl rfl rfl et_36 rfl (.head _) rfl (by simp [D.parts]) (by simp; omega) (by simp; omega) ?_
            refine AOps.step rfl rfl rfl (AOp.assignO rfl rfl) ?_
            refine AOps.nil ?_
            refine AWP.region ?_
            refine AOps.step rfl rfl rfl (AOp.add64 rfl rfl rfl (by omega) (by omega)) ?_
            refine AOps.step rfl rfl rfl (AOp.moveD rfl rfl) ?_
            refine AOps.nil ?_
            refine ⟨k + 1, (by omega), (by dsimp only; omega), Sub.less ⟨(SLe.of_eq rfl), SLe.refl _, SLe.refl _, SLe.refl _, SLe.refl _, trivial⟩ (row_same (by first | (rw [hpn, step_aln (aln_iff.2 (by omega)), List.map_append]; rfl) | (rw [hpn, step_no (fun h => by have := aln_iff.1 h; omega) HNO]) | (rw [hpn, step_sp (fun h => by have := aln_iff.1 h; omega) hlp (u8_n32 HSP), List.map_append]; rfl)))⟩
          · replace h41 := of_decide_eq_false h41
            refine AWP.seq ?_
            refine AWP.region ?_
            refine AOps.step rfl rfl rfl (AOp.moveO rfl rfl) ?_
            refine AOps.step rfl rfl rfl (AOp.lenOwn rfl et_36.ht rfl (.head _)) ?_
            refine AOps.step rfl rfl rfl (AOp.gtr rfl rfl rfl) ?_
            refine AOps.step rfl rfl rfl (AOp.moveD rfl rfl) ?_
            refine AOps.split 50 rfl (fun g42 => ?_) (fun g42 => ?_)
            · replace g42 := of_decide_eq_true g42
              rw [List.length_map] at g42
              have hlp : 0 < (pTo s k).length := by omega
              refine AOps.step ⟨50, rfl, .inl ⟨_, rfl, rfl⟩⟩ rfl rfl (AOp.moveO rfl rfl) ?_
              refine AOps.step ⟨50, rfl, .inl ⟨_, rfl, rfl⟩⟩ rfl rfl (AOp.moveO rfl rfl) ?_
              refine AOps.step ⟨50, rfl, .inl ⟨_, rfl, rfl⟩⟩ rfl rfl (AOp.lenOwn rfl et_36.ht rfl (.head _)) ?_
              refine AOps.step ⟨50, rfl, .inl ⟨_, rfl, rfl⟩⟩ rfl rfl (AOp.sub64 rfl rfl rfl (by rw [List.length_map]; omega) (by rw [List.length_map]; omega)) ?_
              refine AOps.step ⟨50, rfl, .inl ⟨_, rfl, rfl⟩⟩ rfl rfl (AOp.indexOwn rfl et_36 rfl rfl (.head _) ((pTo s k).length - 1) (by rw [List.length_map]; omega) (by rw [List.length_map]; omega)) ?_
              refine AOps.step ⟨50, rfl, .inl ⟨_, rfl, rfl⟩⟩ rfl rfl (AOp.loadRow rfl sc_5 rfl (.head _) ((pTo s k).length - 1) 0 rfl (at_list (by omega)) rfl) ?_
              refine AOps.step ⟨50, rfl, .inl ⟨_, rfl, rfl⟩⟩ rfl rfl (AOp.neq rfl rfl rfl) ?_
              refine AOps.step rfl rfl rfl (AOp.pickT rfl rfl rfl) ?_
              refine AOps.step rfl rfl rfl (AOp.assignD rfl rfl) ?_
              refine AOps.nil ?_
              refine AWP.cond rfl (fun h43 => ?_) (fun h43 => ?_)
              · replace h43 := of_decide_eq_true h43
                have HSP := h43
                refine AWP.region ?_
                refine AOps.step rfl rfl rfl (AOp.moveO rfl rfl) ?_
                refine AOps.step rfl rfl rfl (AOp.buildSlice rfl et_36 (.cons rfl rfl rfl .nil) rfl (by decide)) ?_
                -- append 61
                refine AOps.append rfl rfl rfl rfl et_36 rfl (.head _) rfl (by simp [D.parts]) (by simp; omega) (by simp; omega) ?_
                refine AOps.step rfl rfl rfl (AOp.assignO rfl rfl) ?_
                refine AOps.nil ?_
                refine AWP.region ?_
                refine AOps.step rfl rfl rfl (AOp.add64 rfl rfl rfl (by omega) (by omega)) ?_
                refine AOps.step rfl rfl rfl (AOp.moveD rfl rfl) ?_
                refine AOps.nil ?_
                refine ⟨k + 1, (by omega), (by dsimp only; omega), Sub.less ⟨(SLe.of_eq rfl), SLe.refl _, SLe.refl _, SLe.refl _, SLe.refl _, trivial⟩ (row_same (by first | (rw [hpn, step_aln (aln_iff.2 (by omega)), List.map_append]; rfl) | (rw [hpn, step_no (fun h => by have := aln_iff.1 h; omega) HNO]) | (rw [hpn, step_sp (fun h => by have := aln_iff.1 h; omega) hlp (u8_n32 HSP), List.map_append]; rfl)))⟩
              · replace h43 := of_decide_eq_false h43
                have HNO : pTo s k = [] ∨ (pTo s k).getLast? = some 32 := .inr (last_32 hlp (u8_32 (Decidable.not_not.1 h43)))
                refine AWP.skip ?_
                refine AWP.region ?_
                refine AOps.step rfl rfl rfl (AOp.add64 rfl rfl rfl (by omega) (by omega)) ?_
                refine AOps.step rfl rfl rfl (AOp.moveD rfl rfl) ?_
                refine AOps.nil ?_
                refine ⟨k + 1, (by omega), (by dsimp only; omega), Sub.less ⟨(SLe.of_eq rfl), SLe.refl _, SLe.refl _, SLe.refl _, SLe.refl _, trivial⟩ (row_same (by first | (rw [hpn, step_aln (aln_iff.2 (by omega)), List.map_append]; rfl) | (rw [hpn, step_no (fun h => by have := aln_iff.1 h; omega) HNO]) | (rw [hpn, step_sp (fun h => by have := aln_iff.1 h; omega) hlp (u8_n32 HSP), List.map_append]; rfl)))⟩
            · replace g42 := of_decide_eq_false g42
              rw [List.length_map] at g42
              have HNO : pTo s k = [] ∨ (pTo s k).getLast? = some 32 := .inl (List.eq_nil_of_length_eq_zero (by omega))
              refine AOps.pass ⟨50, rfl, .inl ⟨_, rfl, rfl⟩⟩ rfl rfl ?_
              refine AOps.pass ⟨50, rfl, .inl ⟨_, rfl, rfl⟩⟩ rfl rfl ?_
              refine AOps.pass ⟨50, rfl, .inl ⟨_, rfl, rfl⟩⟩ rfl rfl ?_
              refine AOps.pass ⟨50, rfl, .inl ⟨_, rfl, rfl⟩⟩ rfl rfl ?_
              refine AOps.pass ⟨50, rfl, .inl ⟨_, rfl, rfl⟩⟩ rfl rfl ?_
              refine AOps.pass ⟨50, rfl, .inl ⟨_, rfl, rfl⟩⟩ rfl rfl ?_
              refine AOps.pass ⟨50, rfl, .inl ⟨_, rfl, rfl⟩⟩ rfl rfl ?_
              refine AOps.step rfl rfl rfl (AOp.pickF rfl rfl rfl) ?_
              refine AOps.step rfl rfl rfl (AOp.assignD rfl rfl) ?_
              refine AOps.nil ?_
              refine AWP.cond rfl (fun h => nomatch h) (fun _ => ?_)
              refine AWP.skip ?_
              refine AWP.region ?_
              refine AOps.step rfl rfl rfl (AOp.add64 rfl rfl rfl (by omega) (by omega)) ?_
              refine AOps.step rfl rfl rfl (AOp.moveD rfl rfl) ?_
              refine AOps.nil ?_
              refine ⟨k + 1, (by omega), (by dsimp only; omega), Sub.less ⟨(SLe.of_eq rfl), SLe.refl _, SLe.refl _, SLe.refl _, SLe.refl _, trivial⟩ (row_same (by first | (rw [hpn, step_aln (aln_iff.2 (by omega)), List.map_append]; rfl) | (rw [hpn, step_no (fun h => by have := aln_iff.1 h; omega) HNO]) | (rw [hpn, step_sp (fun h => by have := aln_iff.1 h; omega) hlp (u8_n32 HSP), List.map_append]; rfl)))⟩
        · replace g40 := of_decide_eq_false g40
          refine AOps.pass ⟨37, rfl, .inl ⟨_, rfl, rfl⟩⟩ rfl rfl ?_
          refine AOps.pass ⟨37, rfl, .inl ⟨_, rfl, rfl⟩⟩ rfl rfl ?_
          refine AOps.step ⟨34, rfl, .inl ⟨_, rfl, rfl⟩⟩ rfl rfl (AOp.pickF rfl rfl rfl) ?_
          refine AOps.step rfl rfl rfl (AOp.pickF rfl rfl rfl) ?_
          refine AOps.step rfl rfl rfl (AOp.assignD rfl rfl) ?_
          refine AOps.nil ?_
          refine AWP.cond rfl (fun h => nomatch h) (fun _ => ?_)
          refine AWP.seq ?_
          refine AWP.region ?_
          refine AOps.step rfl rfl rfl (AOp.moveO rfl rfl) ?_
          refine AOps.step rfl rfl rfl (AOp.lenOwn rfl et_36.ht rfl (.head _)) ?_
          refine AOps.step rfl rfl rfl (AOp.gtr rfl rfl rfl) ?_
          refine AOps.step rfl rfl rfl (AOp.moveD rfl rfl) ?_
          refine AOps.split 50 rfl (fun g44 => ?_) (fun g44 => ?_)
          · replace g44 := of_decide_eq_true g44
            rw [List.length_map] at g44
            have hlp : 0 < (pTo s k).length := by omega
            refine AOps.step ⟨50, rfl, .inl ⟨_, rfl, rfl⟩⟩ rfl rfl (AOp.moveO rfl rfl) ?_
            refine AOps.step ⟨50, rfl, .inl ⟨_, rfl, rfl⟩⟩ rfl rfl (AOp.moveO rfl rfl) ?_
            refine AOps.step ⟨50, rfl, .inl ⟨_, rfl, rfl⟩⟩ rfl rfl (AOp.lenOwn rfl et_36.ht rfl (.head _)) ?_
            refine AOps.step ⟨50, rfl, .inl ⟨_, rfl, rfl⟩⟩ rfl rfl (AOp.sub64 rfl rfl rfl (by rw [List.length_map]; omega) (by rw [List.length_map]; omega)) ?_
            refine AOps.step ⟨50, rfl, .inl ⟨_, rfl, rfl⟩⟩ rfl rfl (AOp.indexOwn rfl et_36 rfl rfl (.head _) ((pTo s k).length - 1) (by rw [List.length_map]; omega) (by rw [List.length_map]; omega)) ?_
            refine AOps.step ⟨50, rfl, .inl ⟨_, rfl, rfl⟩⟩ rfl rfl (AOp.loadRow rfl sc_5 rfl (.head _) ((pTo s k).length - 1) 0 rfl (at_list (by omega)) rfl) ?_
            refine AOps.step ⟨50, rfl, .inl ⟨_, rfl, rfl⟩⟩ rfl rfl (AOp.neq rfl rfl rfl) ?_
            refine AOps.step rfl rfl rfl (AOp.pickT rfl rfl rfl) ?_
            refine AOps.step rfl rfl rfl (AOp.assignD rfl rfl) ?_
            refine AOps.nil ?_
            refine AWP.cond rfl (fun h45 => ?_) (fun h45 => ?_)
            · replace h45 := of_decide_eq_true h45
              have HSP := h45
              refine AWP.region ?_
              refine AOps.step rfl rfl rfl (AOp.moveO rfl rfl) ?_
              refine AOps.step rfl rfl rfl (AOp.buildSlice rfl et_36 (.cons rfl rfl rfl .nil) rfl (by decide)) ?_
              -- append 61
              refine AOps.append rfl rfl rfl rfl et_36 rfl (.head _) rfl (by simp [D.parts]) (by simp; omega) (by simp; omega) ?_
              refine AOps.step rfl rfl rfl (AOp.assignO rfl rfl) ?_
              refine AOps.nil ?_
              refine AWP.region ?_
              refine AOps.step rfl rfl rfl (AOp.add64 rfl rfl rfl (by omega) (by omega)) ?_
              refine AOps.step rfl rfl rfl (AOp.moveD rfl rfl) ?_
              refine AOps.nil ?_
              refine ⟨k + 1, (by omega), (by dsimp only; omega), Sub.less ⟨(SLe.of_eq rfl), SLe.refl _, SLe.refl _, SLe.refl _, SLe.refl _, trivial⟩ (row_same (by first | (rw [hpn, step_aln (aln_iff.2 (by omega)), List.map_append]; rfl) | (rw [hpn, step_no (fun h => by have := aln_iff.1 h; omega) HNO]) | (rw [hpn, step_sp (fun h => by have := aln_iff.1 h; omega) hlp (u8_n32 HSP), List.map_append]; rfl)))⟩
            · replace h45 := of_decide_eq_false h45
              have HNO : pTo s k = [] ∨ (pTo s k).getLast? = some 32 := .inr (last_32 hlp (u8_32 (Decidable.not_not.1 h45)))
              refine AWP.skip ?_
              refine AWP.region ?_
              refine AOps.step rfl rfl rfl (AOp.add64 rfl rfl rfl (by omega) (by omega)) ?_
              refine AOps.step rfl rfl rfl (AOp.moveD rfl rfl) ?_
              refine AOps.nil ?_
              refine ⟨k + 1, (by omega), (by dsimp only; omega), Sub.less ⟨(SLe.of_eq rfl), SLe.refl _, SLe.refl _, SLe.refl _, SLe.refl _, trivial⟩ (row_same (by first | (rw [hpn, step_aln (aln_iff.2 (by omega)), List.map_append]; rfl) | (rw [hpn, step_no (fun h => by have := aln_iff.1 h; omega) HNO]) | (rw [hpn, step_sp (fun h => by have := aln_iff.1 h; omega) hlp (u8_n32 HSP), List.map_append]; rfl)))⟩
          · replace g44 := of_decide_eq_false g44
            rw [List.length_map] at g44
            have HNO : pTo s k = [] ∨ (pTo s k).getLast? = some 32 := .inl (List.eq_nil_of_length_eq_zero (by omega))
            refine AOps.pass ⟨50, rfl, .inl ⟨_, rfl, rfl⟩⟩ rfl rfl ?_
            refine AOps.pass ⟨50, rfl, .inl ⟨_, rfl, rfl⟩⟩ rfl rfl ?_
            refine AOps.pass ⟨50, rfl, .inl ⟨_, rfl, rfl⟩⟩ rfl rfl ?_
            refine AOps.pass ⟨50, rfl, .inl ⟨_, rfl, rfl⟩⟩ rfl rfl ?_
            refine AOps.pass ⟨50, rfl, .inl ⟨_, rfl, rfl⟩⟩ rfl rfl ?_
            refine AOps.pass ⟨50, rfl, .inl ⟨_, rfl, rfl⟩⟩ rfl rfl ?_
            refine AOps.pass ⟨50, rfl, .inl ⟨_, rfl, rfl⟩⟩ rfl rfl ?_
            refine AOps.step rfl rfl rfl (AOp.pickF rfl rfl rfl) ?_
            refine AOps.step rfl rfl rfl (AOp.assignD rfl rfl) ?_
            refine AOps.nil ?_
            refine AWP.cond rfl (fun h => nomatch h) (fun _ => ?_)
            refine AWP.skip ?_
            refine AWP.region ?_
            refine AOps.step rfl rfl rfl (AOp.add64 rfl rfl rfl (by omega) (by omega)) ?_
            refine AOps.step rfl rfl rfl (AOp.moveD rfl rfl) ?_
            refine AOps.nil ?_
            refine ⟨k + 1, (by omega), (by dsimp only; omega), Sub.less ⟨(SLe.of_eq rfl), SLe.refl _, SLe.refl _, SLe.refl _, SLe.refl _, trivial⟩ (row_same (by first | (rw [hpn, step_aln (aln_iff.2 (by omega)), List.map_append]; rfl) | (rw [hpn, step_no (fun h => by have := aln_iff.1 h; omega) HNO]) | (rw [hpn, step_sp (fun h => by have := aln_iff.1 h; omega) hlp (u8_n32 HSP), List.map_append]; rfl)))⟩
  · replace h1 := of_decide_eq_false h1
    obtain rfl : k = s.size := by omega
    rw [pTo_all]
    have hpl := pTo_len s s.size
    rw [pTo_all] at hpl
    refine AWP.exit ?_
    refine AWP.seq ?_
    refine AWP.region ?_
    refine AOps.step rfl rfl rfl (AOp.moveO rfl rfl) ?_
    refine AOps.freeze 63 rfl (.head _) ?_
    refine AOps.step rfl rfl rfl (AOp.bytesStr rfl et_36.ht Tryd.underlying5 st_9 rfl) ?_
    refine AOps.step rfl rfl rfl (AOp.call rfl (.cons (ArgOk.rfl' rfl) (.cons (ArgOk.rfl' rfl) .nil)) (c_trim _ (by omega))) ?_
    refine AOps.step rfl rfl rfl (AOp.assignD rfl rfl) ?_
    refine AOps.nil ?_
    refine AWP.seq ?_
    refine AWP.seq ?_
    refine AWP.region ?_
    refine AOps.step rfl rfl rfl (AOp.buildSlice rfl et_28 (.cons rfl rfl rfl (.cons rfl rfl rfl (.cons rfl rfl rfl .nil))) rfl (by decide)) ?_
    refine AOps.step rfl rfl rfl (AOp.lenSl rfl et_28.ht rfl) ?_
    refine AOps.step rfl rfl rfl (AOp.moveD rfl rfl) ?_
    refine AOps.nil ?_
    refine AWP.block ?_
    refine AWP.loop (G := Nat) (fun i => Env.of [(68, .d (.v (.int .i64 (i : Int)))), (66, .d (.sl (arts.map artD))), (67, .d (.v (.int .i64 3))), (6, .d (.v (.string (bStr (Lib.trimSuffix (s.data.toList.foldl pStep []) [32])))))]) (fun i => []) (fun i => i ≤ 3 ∧ ∀ p ∈ arts.take i, Lib.hasPrefix (Lib.trimSuffix (s.data.toList.foldl pStep []) [32]) p = false) (fun i => 3 - i) 0 ⟨Nat.zero_le _, fun p hp => by simp at hp⟩ (Sub.less ⟨(SLe.of_eq rfl), (SLe.of_eq rfl), (SLe.of_eq rfl), SLe.refl _, trivial⟩ (fun _ h => h)) ?_
    rintro i ⟨hi, h0⟩
    refine AWP.seq ?_
    refine AWP.region ?_
    refine AOps.step rfl rfl rfl (AOp.lss rfl rfl rfl) ?_
    refine AOps.nil ?_
    refine AWP.seq ?_
    refine AWP.cond rfl (fun h46 => ?_) (fun h46 => ?_)
    · replace h46 := of_decide_eq_true h46
      have hlt : i < arts.length := by show i < 3; omega
      refine AWP.skip ?_
      refine AWP.seq ?_
      refine AWP.block ?_
      refine AWP.seq ?_
      refine AWP.region ?_
      refine AOps.step rfl rfl rfl (AOp.indexAddr rfl et_28 rfl rfl i rfl (at_list hlt) rfl) ?_
      refine AOps.step rfl rfl rfl (AOp.load rfl sc_9 rfl) ?_
      refine AOps.step rfl rfl rfl (AOp.assignD rfl rfl) ?_
      refine AOps.nil ?_
      refine AWP.seq ?_
      refine AWP.region ?_
      refine AOps.step rfl rfl rfl (AOp.moveD rfl rfl) ?_
      refine AOps.step rfl rfl rfl (AOp.moveD rfl rfl) ?_
      refine AOps.step rfl rfl rfl (AOp.call rfl (.cons (ArgOk.rfl' rfl) (.cons (ArgOk.rfl' rfl) .nil)) (c_cut _ _)) ?_
      refine AOps.step rfl rfl rfl (AOp.moveD rfl rfl) ?_
      refine AOps.step rfl rfl rfl (AOp.extract rfl rfl rfl) ?_
      refine AOps.step rfl rfl rfl (AOp.extract rfl rfl rfl) ?_
      refine AOps.step rfl rfl rfl (AOp.assignD rfl rfl) ?_
      refine AOps.step rfl rfl rfl (AOp.assignD rfl rfl) ?_
      refine AOps.nil ?_
      refine AWP.seq ?_
      refine AWP.region ?_
      refine AOps.step rfl rfl rfl (AOp.moveD rfl rfl) ?_
      refine AOps.nil ?_
      refine AWP.cond rfl (fun h47 => ?_) (fun h47 => ?_)
      · skip
        have HR : foldS s.data.toList = Lib.trimPrefix (Lib.trimSuffix (s.data.toList.foldl pStep []) [32]) arts[i] := by unfold Lib.trimPrefix; rw [if_pos h47]; exact strip_hit hlt h0 h47
        rw [HR]
        refine AWP.seq ?_
        refine AWP.region ?_
        refine AOps.step rfl rfl rfl (AOp.moveD rfl rfl) ?_
        refine AOps.step rfl rfl rfl (AOp.assignD rfl rfl) ?_
        refine AOps.nil ?_
        refine AWP.ret ?_
        refine ⟨RetD.eq rfl ?_, trivial⟩
        all_goals (rfl)
      · skip
        have HN := art_next hlt h0 h47
        refine AWP.skip ?_
        refine AWP.region ?_
        refine AOps.step rfl rfl rfl (AOp.add64 rfl rfl rfl (by omega) (by omega)) ?_
        refine AOps.step rfl rfl rfl (AOp.moveD rfl rfl) ?_
        refine AOps.nil ?_
        refine ⟨i + 1, ⟨by omega, HN⟩, (by dsimp only; omega), Sub.less ⟨(SLe.of_eq rfl), SLe.refl _, SLe.refl _, SLe.refl _, trivial⟩ (fun _ h => h)⟩
    · replace h46 := of_decide_eq_false h46
      obtain rfl : i = 3 := by omega
      have HR : foldS s.data.toList = Lib.trimSuffix (s.data.toList.foldl pStep []) [32] := strip_none h0
      rw [HR]
      refine AWP.exit ?_
      refine AWP.seq ?_
      refine AWP.region ?_
      refine AOps.step rfl rfl rfl (AOp.moveD rfl rfl) ?_
      refine AOps.step rfl rfl rfl (AOp.assignD rfl rfl) ?_
      refine AOps.nil ?_
      refine AWP.ret ?_
      refine ⟨RetD.eq rfl ?_, trivial⟩
      all_goals (rfl)

end Go.Proofs.YtajghehicmlajaaDoor
