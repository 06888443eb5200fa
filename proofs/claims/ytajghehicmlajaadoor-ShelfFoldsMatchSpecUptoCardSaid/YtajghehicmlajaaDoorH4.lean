/- Walks over abstract values. Printed by tools/gen.py. No statement of the seat. -/
import Derived.Test.YtajghehicmlajaaDoorH3
namespace Go.Proofs.YtajghehicmlajaaDoor
open Go.RowKit
set_option linter.unusedVariables false

/-! Types. -/
namespace TyH4
theorem et_28 : ElemTy Tryd.prog 28 9 1 16 (.string ⟨#[]⟩) := ⟨by kernel_rfl, by kernel_rfl, by kernel_rfl, by decide⟩
theorem et_36 : ElemTy Tryd.prog 36 5 1 1 (.int .u8 0) := ⟨by kernel_rfl, by kernel_rfl, by kernel_rfl, by decide⟩
theorem sc_9 : Scal Tryd.prog 9 := .of (by kernel_rfl)
theorem st_9 : Tryd.prog.underlying 9 = some .string := by kernel_rfl
end TyH4
open TyH4


def rTo (s : ByteArray) (k : Nat) : List UInt8 := (s.data.toList.take k).map rMap
theorem rTo_next {s : ByteArray} {k : Nat} (h : k < s.data.toList.length) : rTo s (k + 1) = rTo s k ++ [rMap s.data.toList[k]] := by
  unfold rTo
  rw [List.take_add_one, List.getElem?_eq_getElem h, Option.toList_some, List.map_append]; rfl
theorem rTo_len (s : ByteArray) (k : Nat) : (rTo s k).length ≤ k := by unfold rTo; rw [List.length_map, List.length_take]; omega
theorem rTo_all (s : ByteArray) : rTo s s.size = s.data.toList.map rMap := by unfold rTo; rw [Lib.size_eq, List.take_length]
theorem r_aln {c : UInt8} (h : alnB (lowB c) = true) : rMap c = lowB c := if_pos h
theorem r_sp {c : UInt8} (h : ¬ alnB (lowB c) = true) : rMap c = 32 := if_neg h
theorem low_up_nat : ∀ n : Fin 256, 65 ≤ n.val ∧ n.val ≤ 90 → (lowB (UInt8.ofNat n.val)).toNat = n.val + 32 := by decide +kernel
theorem low_up {c : UInt8} (h : 65 ≤ c.toNat ∧ c.toNat ≤ 90) : (lowB c).toNat = c.toNat + 32 := by
  have := low_up_nat ⟨c.toNat, c.toNat_lt⟩ h
  simp only [UInt8.ofNat_toNat] at this
  exact this
theorem rMap_ascii (c : UInt8) : (rMap c).toNat < 128 := by
  unfold rMap
  split
  · rename_i h
    have := aln_iff.1 h
    omega
  · decide
theorem ascii_all (l : List UInt8) : ∀ b ∈ l.map rMap, b.toNat < 128 := fun b hb => by
  obtain ⟨c, _, rfl⟩ := List.mem_map.1 hb
  exact rMap_ascii c
theorem cnt_le : ∀ (l : List UInt8) (ws : Bool), Lib.cntF ws l ≤ l.length
  | [], _ => Nat.le_refl _
  | b :: l, ws => by have := cnt_le l (Lib.isSp b); unfold Lib.cntF; simp only [List.length_cons]; split <;> omega
theorem fields_le (l : List UInt8) : (Lib.fields l).length ≤ l.length := by rw [Lib.fields_length]; exact cnt_le _ _
theorem trim_le (l p : List UInt8) : (Lib.trimSuffix l p).length ≤ l.length := by
  unfold Lib.trimSuffix
  split
  · rw [List.length_take]; omega
  · exact Nat.le_refl _
theorem joinF_le (s : ByteArray) : (Lib.join (Lib.fields (s.data.toList.map rMap)) [32]).length ≤ s.size := by
  rw [← fold_eq]
  have h1 := trim_le (s.data.toList.foldl pStep []) [32]
  have h2 := pTo_len s s.size
  rw [pTo_all] at h2
  omega
theorem pre_len {l p : List UInt8} (h : Lib.hasPrefix l p = true) : p.length ≤ l.length := by
  unfold Lib.hasPrefix at h
  exact (List.isPrefixOf_iff_prefix.1 h).length_le
theorem slice_hit (l p : List UInt8) : (bStr l).extract (((bStr p).size : Nat) : Int).toNat (bStr l).size = bStr (l.drop p.length) := by rw [Int.toNat_natCast, bStr_size p, bStr_drop]


set_option maxRecDepth 100000 in
set_option maxHeartbeats 1000000 in
theorem c_rFold (s : ByteArray) (hs : s.size ≤ 1048576) : ACallT Tryd.prog TabT 7 [.v (.string s)] (.v (.string (bStr (foldS s.data.toList)))) := by
  refine acall_ofT (n := 72) (ds' := [.v (.string (bStr (foldS s.data.toList)))]) Tryd.func7 rfl (by kernel_rfl) rfl [2] rfl rfl ?_
  intro B w0 F0 hT
  have hsz := Lib.size_eq s
  refine AWP.seq ?_
  refine AWP.region ?_
  refine AOps.step rfl rfl rfl (AOp.assignD rfl rfl) ?_
  refine AOps.nil ?_
  refine AWP.seq ?_
  refine AWP.region ?_
  refine AOps.step rfl rfl rfl (AOp.assignD rfl rfl) ?_
  refine AOps.nil ?_
  refine AWP.seq ?_
  refine AWP.seq ?_
  refine AWP.region ?_
  refine AOps.step rfl rfl rfl (AOp.moveD rfl rfl) ?_
  refine AOps.step rfl rfl rfl (AOp.lenStr rfl st_9 rfl) ?_
  refine AOps.step rfl rfl rfl (AOp.moveD rfl rfl) ?_
  refine AOps.nil ?_
  refine AWP.block ?_
  refine AWP.adopt 3 1 5 1 rfl rfl ?_
  refine AWP.loop (G := Nat) (fun k => Env.of [(11, .d (.v (.int .i64 (k : Int)))), (9, .d (.v (.string s))), (10, .d (.v (.int .i64 (s.size : Int)))), (0, .d (.v (.string s))), (3, .own 1)]) (fun k => [(1, .row 5 1 ((rTo s k).map u8D))]) (fun k => k ≤ s.size) (fun k => s.size - k) 0 (Nat.zero_le _) (Sub.less ⟨(SLe.of_eq rfl), SLe.refl _, SLe.refl _, SLe.refl _, SLe.refl _, trivial⟩ (row_same rfl)) ?_
  intro k hk
  refine AWP.seq ?_
  refine AWP.region ?_
  refine AOps.step rfl rfl rfl (AOp.lss rfl rfl rfl) ?_
  refine AOps.nil ?_
  refine AWP.seq ?_
  refine AWP.cond rfl (fun h1 => ?_) (fun h1 => ?_)
  · replace h1 := of_decide_eq_true h1
    have hlt : k < s.data.toList.length := by omega
    have hc := List.getElem?_eq_getElem hlt
    have hpl := rTo_len s k
    have hpn := rTo_next hlt
    generalize s.data.toList[k] = c at hc hpn
    refine AWP.skip ?_
    refine AWP.seq ?_
    refine AWP.block ?_
    refine AWP.seq ?_
    refine AWP.region ?_
    refine AOps.step rfl rfl rfl (AOp.moveD rfl rfl) ?_
    refine AOps.step rfl rfl rfl (AOp.assignD rfl rfl) ?_
    refine AOps.nil ?_
    refine AWP.seq ?_
    refine AWP.region ?_
    refine AOps.step rfl rfl rfl (AOp.moveD rfl rfl) ?_
    refine AOps.step rfl rfl rfl (AOp.moveD rfl rfl) ?_
    refine AOps.step rfl rfl rfl (AOp.indexStr rfl st_9 rfl rfl k rfl hc) ?_
    refine AOps.step rfl rfl rfl (AOp.assignD rfl rfl) ?_
    refine AOps.nil ?_
    refine AWP.block ?_
    refine AWP.seq ?_
    refine AWP.region ?_
    refine AOps.step rfl rfl rfl (AOp.moveD rfl rfl) ?_
    refine AOps.step rfl rfl rfl (AOp.geq rfl rfl rfl) ?_
    refine AOps.step rfl rfl rfl (AOp.moveD rfl rfl) ?_
    refine AOps.split 23 rfl (fun g2 => ?_) (fun g2 => ?_)
    · replace g2 := of_decide_eq_true g2
      refine AOps.step ⟨23, rfl, .inl ⟨_, rfl, rfl⟩⟩ rfl rfl (AOp.moveD rfl rfl) ?_
      refine AOps.step ⟨23, rfl, .inl ⟨_, rfl, rfl⟩⟩ rfl rfl (AOp.leq rfl rfl rfl) ?_
      refine AOps.step rfl rfl rfl (AOp.pickT rfl rfl rfl) ?_
      refine AOps.step rfl rfl rfl (AOp.assignD rfl rfl) ?_
      refine AOps.nil ?_
      refine AWP.cond rfl (fun h3 => ?_) (fun h3 => ?_)
      · replace h3 := of_decide_eq_true h3
        refine AWP.region ?_
        refine AOps.step rfl rfl rfl (AOp.moveO rfl rfl) ?_
        refine AOps.step rfl rfl rfl (AOp.moveD rfl rfl) ?_
        refine AOps.step rfl rfl rfl (AOp.sub rfl rfl rfl) ?_
        refine AOps.step rfl rfl rfl (AOp.add rfl rfl rfl) ?_
        rw [low_wrap2 (by omega)]
        have hup := low_up (c := c) (by omega)
        refine AOps.step rfl rfl rfl (AOp.buildSlice rfl et_36 (.cons rfl rfl rfl .nil) rfl (by decide)) ?_
        -- append 32
        refine AOps.append rfl rfl rfl rfl et_36 rfl (.head _) rfl (by simp [D.parts]) (by simp; omega) (by simp; omega) ?_
        refine AOps.step rfl rfl rfl (AOp.assignO rfl rfl) ?_
        refine AOps.nil ?_
        refine AWP.region ?_
        refine AOps.step rfl rfl rfl (AOp.add64 rfl rfl rfl (by omega) (by omega)) ?_
        refine AOps.step rfl rfl rfl (AOp.moveD rfl rfl) ?_
        refine AOps.nil ?_
        refine ⟨k + 1, (by omega), (by dsimp only; omega), Sub.less ⟨(SLe.of_eq rfl), SLe.refl _, SLe.refl _, SLe.refl _, SLe.refl _, trivial⟩ (row_same (by first | (rw [hpn, r_aln (aln_iff.2 (by omega)), List.map_append]; rfl) | (rw [hpn, r_sp (fun h => by have := aln_iff.1 h; omega), List.map_append]; rfl)))⟩
      · replace h3 := of_decide_eq_false h3
        refine AWP.seq ?_
        have hlc : lowB c = c := low_same (by omega)
        rw [← hlc]
        refine AWP.region ?_
        refine AOps.step rfl rfl rfl (AOp.moveD rfl rfl) ?_
        refine AOps.step rfl rfl rfl (AOp.geq rfl rfl rfl) ?_
        refine AOps.step rfl rfl rfl (AOp.moveD rfl rfl) ?_
        refine AOps.split 36 rfl (fun g4 => ?_) (fun g4 => ?_)
        · replace g4 := of_decide_eq_true g4
          refine AOps.step ⟨36, rfl, .inl ⟨_, rfl, rfl⟩⟩ rfl rfl (AOp.moveD rfl rfl) ?_
          refine AOps.step ⟨36, rfl, .inl ⟨_, rfl, rfl⟩⟩ rfl rfl (AOp.leq rfl rfl rfl) ?_
          refine AOps.step rfl rfl rfl (AOp.pickT rfl rfl rfl) ?_
          refine AOps.step rfl rfl rfl (AOp.moveD rfl rfl) ?_
          refine AOps.split 40 rfl (fun g5 => ?_) (fun g5 => ?_)
          · replace g5 := of_decide_eq_true g5
            refine AOps.pass ⟨40, rfl, .inl ⟨_, rfl, rfl⟩⟩ rfl rfl ?_
            refine AOps.pass ⟨40, rfl, .inl ⟨_, rfl, rfl⟩⟩ rfl rfl ?_
            refine AOps.pass ⟨40, rfl, .inl ⟨_, rfl, rfl⟩⟩ rfl rfl ?_
            refine AOps.pass ⟨43, rfl, .inr ⟨rfl, rfl⟩⟩ rfl rfl ?_
            refine AOps.pass ⟨43, rfl, .inr ⟨rfl, rfl⟩⟩ rfl rfl ?_
            refine AOps.pass ⟨40, rfl, .inl ⟨_, rfl, rfl⟩⟩ rfl rfl ?_
            refine AOps.step rfl rfl rfl (AOp.pickT rfl rfl rfl) ?_
            refine AOps.step rfl rfl rfl (AOp.assignD rfl rfl) ?_
            refine AOps.nil ?_
            refine AWP.cond rfl (fun _ => ?_) (fun h => nomatch h)
            refine AWP.region ?_
            refine AOps.step rfl rfl rfl (AOp.moveO rfl rfl) ?_
            refine AOps.step rfl rfl rfl (AOp.moveD rfl rfl) ?_
            refine AOps.step rfl rfl rfl (AOp.buildSlice rfl et_36 (.cons rfl rfl rfl .nil) rfl (by decide)) ?_
            -- append 51
            refine AOps.append rfl rfl rfl rfl et_36 rfl (.head _) rfl (by simp [D.parts]) (by simp; omega) (by simp; omega) ?_
            refine AOps.step rfl rfl rfl (AOp.assignO rfl rfl) ?_
            refine AOps.nil ?_
            refine AWP.region ?_
            refine AOps.step rfl rfl rfl (AOp.add64 rfl rfl rfl (by omega) (by omega)) ?_
            refine AOps.step rfl rfl rfl (AOp.moveD rfl rfl) ?_
            refine AOps.nil ?_
            refine ⟨k + 1, (by omega), (by dsimp only; omega), Sub.less ⟨(SLe.of_eq rfl), SLe.refl _, SLe.refl _, SLe.refl _, SLe.refl _, trivial⟩ (row_same (by first | (rw [hpn, r_aln (aln_iff.2 (by omega)), List.map_append]; rfl) | (rw [hpn, r_sp (fun h => by have := aln_iff.1 h; omega), List.map_append]; rfl)))⟩
          · replace g5 := of_decide_eq_false g5
            refine AOps.step ⟨40, rfl, .inl ⟨_, rfl, rfl⟩⟩ rfl rfl (AOp.moveD rfl rfl) ?_
            refine AOps.step ⟨40, rfl, .inl ⟨_, rfl, rfl⟩⟩ rfl rfl (AOp.geq rfl rfl rfl) ?_
            refine AOps.step ⟨40, rfl, .inl ⟨_, rfl, rfl⟩⟩ rfl rfl (AOp.moveD rfl rfl) ?_
            refine AOps.split 43 rfl (fun g6 => ?_) (fun g6 => ?_)
            · replace g6 := of_decide_eq_true g6
              refine AOps.step ⟨43, rfl, .inl ⟨_, rfl, rfl⟩⟩ rfl rfl (AOp.moveD rfl rfl) ?_
              refine AOps.step ⟨43, rfl, .inl ⟨_, rfl, rfl⟩⟩ rfl rfl (AOp.leq rfl rfl rfl) ?_
              refine AOps.step ⟨40, rfl, .inl ⟨_, rfl, rfl⟩⟩ rfl rfl (AOp.pickT rfl rfl rfl) ?_
              refine AOps.step rfl rfl rfl (AOp.pickF rfl rfl rfl) ?_
              refine AOps.step rfl rfl rfl (AOp.assignD rfl rfl) ?_
              refine AOps.nil ?_
              refine AWP.cond rfl (fun h7 => ?_) (fun h7 => ?_)
              · replace h7 := of_decide_eq_true h7
                refine AWP.region ?_
                refine AOps.step rfl rfl rfl (AOp.moveO rfl rfl) ?_
                refine AOps.step rfl rfl rfl (AOp.moveD rfl rfl) ?_
                refine AOps.step rfl rfl rfl (AOp.buildSlice rfl et_36 (.cons rfl rfl rfl .nil) rfl (by decide)) ?_
                -- append 51
                refine AOps.append rfl rfl rfl rfl et_36 rfl (.head _) rfl (by simp [D.parts]) (by simp; omega) (by simp; omega) ?_
                refine AOps.step rfl rfl rfl (AOp.assignO rfl rfl) ?_
                refine AOps.nil ?_
                refine AWP.region ?_
                refine AOps.step rfl rfl rfl (AOp.add64 rfl rfl rfl (by omega) (by omega)) ?_
                refine AOps.step rfl rfl rfl (AOp.moveD rfl rfl) ?_
                refine AOps.nil ?_
                refine ⟨k + 1, (by omega), (by dsimp only; omega), Sub.less ⟨(SLe.of_eq rfl), SLe.refl _, SLe.refl _, SLe.refl _, SLe.refl _, trivial⟩ (row_same (by first | (rw [hpn, r_aln (aln_iff.2 (by omega)), List.map_append]; rfl) | (rw [hpn, r_sp (fun h => by have := aln_iff.1 h; omega), List.map_append]; rfl)))⟩
              · replace h7 := of_decide_eq_false h7
                refine AWP.region ?_
                refine AOps.step rfl rfl rfl (AOp.moveO rfl rfl) ?_
                refine AOps.step rfl rfl rfl (AOp.buildSlice rfl et_36 (.cons rfl rfl rfl .nil) rfl (by decide)) ?_
                -- append 19
                refine AOps.append rfl rfl rfl rfl et_36 rfl (.head _) rfl (by simp [D.parts]) (by simp; omega) (by simp; omega) ?_
                refine AOps.step rfl rfl rfl (AOp.assignO rfl rfl) ?_
                refine AOps.nil ?_
                refine AWP.region ?_
                refine AOps.step rfl rfl rfl (AOp.add64 rfl rfl rfl (by omega) (by omega)) ?_
                refine AOps.step rfl rfl rfl (AOp.moveD rfl rfl) ?_
                refine AOps.nil ?_
                refine ⟨k + 1, (by omega), (by dsimp only; omega), Sub.less ⟨(SLe.of_eq rfl), SLe.refl _, SLe.refl _, SLe.refl _, SLe.refl _, trivial⟩ (row_same (by first | (rw [hpn, r_aln (aln_iff.2 (by omega)), List.map_append]; rfl) | (rw [hpn, r_sp (fun h => by have := aln_iff.1 h; omega), List.map_append]; rfl)))⟩
            · replace g6 := of_decide_eq_false g6
              refine AOps.pass ⟨43, rfl, .inl ⟨_, rfl, rfl⟩⟩ rfl rfl ?_
              refine AOps.pass ⟨43, rfl, .inl ⟨_, rfl, rfl⟩⟩ rfl rfl ?_
              refine AOps.step ⟨40, rfl, .inl ⟨_, rfl, rfl⟩⟩ rfl rfl (AOp.pickF rfl rfl rfl) ?_
              refine AOps.step rfl rfl rfl (AOp.pickF rfl rfl rfl) ?_
              refine AOps.step rfl rfl rfl (AOp.assignD rfl rfl) ?_
              refine AOps.nil ?_
              refine AWP.cond rfl (fun h => nomatch h) (fun _ => ?_)
              refine AWP.region ?_
              refine AOps.step rfl rfl rfl (AOp.moveO rfl rfl) ?_
              refine AOps.step rfl rfl rfl (AOp.buildSlice rfl et_36 (.cons rfl rfl rfl .nil) rfl (by decide)) ?_
              -- append 19
              refine AOps.append rfl rfl rfl rfl et_36 rfl (.head _) rfl (by simp [D.parts]) (by simp; omega) (by simp; omega) ?_
              refine AOps.step rfl rfl rfl (AOp.assignO rfl rfl) ?_
              refine AOps.nil ?_
              refine AWP.region ?_
              refine AOps.step rfl rfl rfl (AOp.add64 rfl rfl rfl (by omega) (by omega)) ?_
              refine AOps.step rfl rfl rfl (AOp.moveD rfl rfl) ?_
              refine AOps.nil ?_
              refine ⟨k + 1, (by omega), (by dsimp only; omega), Sub.less ⟨(SLe.of_eq rfl), SLe.refl _, SLe.refl _, SLe.refl _, SLe.refl _, trivial⟩ (row_same (by first | (rw [hpn, r_aln (aln_iff.2 (by omega)), List.map_append]; rfl) | (rw [hpn, r_sp (fun h => by have := aln_iff.1 h; omega), List.map_append]; rfl)))⟩
        · replace g4 := of_decide_eq_false g4
          refine AOps.pass ⟨36, rfl, .inl ⟨_, rfl, rfl⟩⟩ rfl rfl ?_
          refine AOps.pass ⟨36, rfl, .inl ⟨_, rfl, rfl⟩⟩ rfl rfl ?_
          refine AOps.step rfl rfl rfl (AOp.pickF rfl rfl rfl) ?_
          refine AOps.step rfl rfl rfl (AOp.moveD rfl rfl) ?_
          refine AOps.step ⟨40, rfl, .inl ⟨_, rfl, rfl⟩⟩ rfl rfl (AOp.moveD rfl rfl) ?_
          refine AOps.step ⟨40, rfl, .inl ⟨_, rfl, rfl⟩⟩ rfl rfl (AOp.geq rfl rfl rfl) ?_
          refine AOps.step ⟨40, rfl, .inl ⟨_, rfl, rfl⟩⟩ rfl rfl (AOp.moveD rfl rfl) ?_
          refine AOps.split 43 rfl (fun g8 => ?_) (fun g8 => ?_)
          · replace g8 := of_decide_eq_true g8
            refine AOps.step ⟨43, rfl, .inl ⟨_, rfl, rfl⟩⟩ rfl rfl (AOp.moveD rfl rfl) ?_
            refine AOps.step ⟨43, rfl, .inl ⟨_, rfl, rfl⟩⟩ rfl rfl (AOp.leq rfl rfl rfl) ?_
            refine AOps.step ⟨40, rfl, .inl ⟨_, rfl, rfl⟩⟩ rfl rfl (AOp.pickT rfl rfl rfl) ?_
            refine AOps.step rfl rfl rfl (AOp.pickF rfl rfl rfl) ?_
            refine AOps.step rfl rfl rfl (AOp.assignD rfl rfl) ?_
            refine AOps.nil ?_
            refine AWP.cond rfl (fun h9 => ?_) (fun h9 => ?_)
            · replace h9 := of_decide_eq_true h9
              refine AWP.region ?_
              refine AOps.step rfl rfl rfl (AOp.moveO rfl rfl) ?_
              refine AOps.step rfl rfl rfl (AOp.moveD rfl rfl) ?_
              refine AOps.step rfl rfl rfl (AOp.buildSlice rfl et_36 (.cons rfl rfl rfl .nil) rfl (by decide)) ?_
              -- append 51
              refine AOps.append rfl rfl rfl rfl et_36 rfl (.head _) rfl (by simp [D.parts]) (by simp; omega) (by simp; omega) ?_
              refine AOps.step rfl rfl rfl (AOp.assignO rfl rfl) ?_
              refine AOps.nil ?_
              refine AWP.region ?_
              refine AOps.step rfl rfl rfl (AOp.add64 rfl rfl rfl (by omega) (by omega)) ?_
              refine AOps.step rfl rfl rfl (AOp.moveD rfl rfl) ?_
              refine AOps.nil ?_
              refine ⟨k + 1, (by omega), (by dsimp only; omega), Sub.less ⟨(SLe.of_eq rfl), SLe.refl _, SLe.refl _, SLe.refl _, SLe.refl _, trivial⟩ (row_same (by first | (rw [hpn, r_aln (aln_iff.2 (by omega)), List.map_append]; rfl) | (rw [hpn, r_sp (fun h => by have := aln_iff.1 h; omega), List.map_append]; rfl)))⟩
            · replace h9 := of_decide_eq_false h9
              refine AWP.region ?_
              refine AOps.step rfl rfl rfl (AOp.moveO rfl rfl) ?_
              refine AOps.step rfl rfl rfl (AOp.buildSlice rfl et_36 (.cons rfl rfl rfl .nil) rfl (by decide)) ?_
              -- append 19
              refine AOps.append rfl rfl rfl rfl et_36 rfl (.head _) rfl (by simp [D.parts]) (by simp; omega) (by simp; omega) ?_
              refine AOps.step rfl rfl rfl (AOp.assignO rfl rfl) ?_
              refine AOps.nil ?_
              refine AWP.region ?_
              refine AOps.step rfl rfl rfl (AOp.add64 rfl rfl rfl (by omega) (by omega)) ?_
              refine AOps.step rfl rfl rfl (AOp.moveD rfl rfl) ?_
              refine AOps.nil ?_
              refine ⟨k + 1, (by omega), (by dsimp only; omega), Sub.less ⟨(SLe.of_eq rfl), SLe.refl _, SLe.refl _, SLe.refl _, SLe.refl _, trivial⟩ (row_same (by first | (rw [hpn, r_aln (aln_iff.2 (by omega)), List.map_append]; rfl) | (rw [hpn, r_sp (fun h => by have := aln_iff.1 h; omega), List.map_append]; rfl)))⟩
          · replace g8 := of_decide_eq_false g8
            refine AOps.pass ⟨43, rfl, .inl ⟨_, rfl, rfl⟩⟩ rfl rfl ?_
            refine AOps.pass ⟨43, rfl, .inl ⟨_, rfl, rfl⟩⟩ rfl rfl ?_
            refine AOps.step ⟨40, rfl, .inl ⟨_, rfl, rfl⟩⟩ rfl rfl (AOp.pickF rfl rfl rfl) ?_
            refine AOps.step rfl rfl rfl (AOp.pickF rfl rfl rfl) ?_
            refine AOps.step rfl rfl rfl (AOp.assignD rfl rfl) ?_
            refine AOps.nil ?_
            refine AWP.cond rfl (fun h => nomatch h) (fun _ => ?_)
            refine AWP.region ?_
            refine AOps.step rfl rfl rfl (AOp.moveO rfl rfl) ?_
            refine AOps.step rfl rfl rfl (AOp.buildSlice rfl et_36 (.cons rfl rfl rfl .nil) rfl (by decide)) ?_
            -- append 19
            refine AOps.append rfl rfl rfl rfl et_36 rfl (.head _) rfl (by simp [D.parts]) (by simp; omega) (by simp; omega) ?_
            refine AOps.step rfl rfl rfl (AOp.assignO rfl rfl) ?_
            refine AOps.nil ?_
            refine AWP.region ?_
            refine AOps.step rfl rfl rfl (AOp.add64 rfl rfl rfl (by omega) (by omega)) ?_
            refine AOps.step rfl rfl rfl (AOp.moveD rfl rfl) ?_
            refine AOps.nil ?_
            refine ⟨k + 1, (by omega), (by dsimp only; omega), Sub.less ⟨(SLe.of_eq rfl), SLe.refl _, SLe.refl _, SLe.refl _, SLe.refl _, trivial⟩ (row_same (by first | (rw [hpn, r_aln (aln_iff.2 (by omega)), List.map_append]; rfl) | (rw [hpn, r_sp (fun h => by have := aln_iff.1 h; omega), List.map_append]; rfl)))⟩
    · replace g2 := of_decide_eq_false g2
      refine AOps.pass ⟨23, rfl, .inl ⟨_, rfl, rfl⟩⟩ rfl rfl ?_
      refine AOps.pass ⟨23, rfl, .inl ⟨_, rfl, rfl⟩⟩ rfl rfl ?_
      refine AOps.step rfl rfl rfl (AOp.pickF rfl rfl rfl) ?_
      refine AOps.step rfl rfl rfl (AOp.assignD rfl rfl) ?_
      refine AOps.nil ?_
      refine AWP.cond rfl (fun h => nomatch h) (fun _ => ?_)
      refine AWP.seq ?_
      have hlc : lowB c = c := low_same (by omega)
      rw [← hlc]
      refine AWP.region ?_
      refine AOps.step rfl rfl rfl (AOp.moveD rfl rfl) ?_
      refine AOps.step rfl rfl rfl (AOp.geq rfl rfl rfl) ?_
      refine AOps.step rfl rfl rfl (AOp.moveD rfl rfl) ?_
      refine AOps.split 36 rfl (fun g10 => ?_) (fun g10 => ?_)
      · replace g10 := of_decide_eq_true g10
        refine AOps.step ⟨36, rfl, .inl ⟨_, rfl, rfl⟩⟩ rfl rfl (AOp.moveD rfl rfl) ?_
        refine AOps.step ⟨36, rfl, .inl ⟨_, rfl, rfl⟩⟩ rfl rfl (AOp.leq rfl rfl rfl) ?_
        refine AOps.step rfl rfl rfl (AOp.pickT rfl rfl rfl) ?_
        refine AOps.step rfl rfl rfl (AOp.moveD rfl rfl) ?_
        refine AOps.split 40 rfl (fun g11 => ?_) (fun g11 => ?_)
        · replace g11 := of_decide_eq_true g11
          refine AOps.pass ⟨40, rfl, .inl ⟨_, rfl, rfl⟩⟩ rfl rfl ?_
          refine AOps.pass ⟨40, rfl, .inl ⟨_, rfl, rfl⟩⟩ rfl rfl ?_
          refine AOps.pass ⟨40, rfl, .inl ⟨_, rfl, rfl⟩⟩ rfl rfl ?_
          refine AOps.pass ⟨43, rfl, .inr ⟨rfl, rfl⟩⟩ rfl rfl ?_
          refine AOps.pass ⟨43, rfl, .inr ⟨rfl, rfl⟩⟩ rfl rfl ?_
          refine AOps.pass ⟨40, rfl, .inl ⟨_, rfl, rfl⟩⟩ rfl rfl ?_
          refine AOps.step rfl rfl rfl (AOp.pickT rfl rfl rfl) ?_
          refine AOps.step rfl rfl rfl (AOp.assignD rfl rfl) ?_
          refine AOps.nil ?_
          refine AWP.cond rfl (fun _ => ?_) (fun h => nomatch h)
          refine AWP.region ?_
          refine AOps.step rfl rfl rfl (AOp.moveO rfl rfl) ?_
          refine AOps.step rfl rfl rfl (AOp.moveD rfl rfl) ?_
          refine AOps.step rfl rfl rfl (AOp.buildSlice rfl et_36 (.cons rfl rfl rfl .nil) rfl (by decide)) ?_
          -- append 51
          refine AOps.append rfl rfl rfl rfl et_36 rfl (.head _) rfl (by simp [D.parts]) (by simp; omega) (by simp; omega) ?_
          refine AOps.step rfl rfl rfl (AOp.assignO rfl rfl) ?_
          refine AOps.nil ?_
          refine AWP.region ?_
          refine AOps.step rfl rfl rfl (AOp.add64 rfl rfl rfl (by omega) (by omega)) ?_
          refine AOps.step rfl rfl rfl (AOp.moveD rfl rfl) ?_
          refine AOps.nil ?_
          refine ⟨k + 1, (by omega), (by dsimp only; omega), Sub.less ⟨(SLe.of_eq rfl), SLe.refl _, SLe.refl _, SLe.refl _, SLe.refl _, trivial⟩ (row_same (by first | (rw [hpn, r_aln (aln_iff.2 (by omega)), List.map_append]; rfl) | (rw [hpn, r_sp (fun h => by have := aln_iff.1 h; omega), List.map_append]; rfl)))⟩
        · replace g11 := of_decide_eq_false g11
          refine AOps.step ⟨40, rfl, .inl ⟨_, rfl, rfl⟩⟩ rfl rfl (AOp.moveD rfl rfl) ?_
          refine AOps.step ⟨40, rfl, .inl ⟨_, rfl, rfl⟩⟩ rfl rfl (AOp.geq rfl rfl rfl) ?_
          refine AOps.step ⟨40, rfl, .inl ⟨_, rfl, rfl⟩⟩ rfl rfl (AOp.moveD rfl rfl) ?_
          refine AOps.split 43 rfl (fun g12 => ?_) (fun g12 => ?_)
          · replace g12 := of_decide_eq_true g12
            refine AOps.step ⟨43, rfl, .inl ⟨_, rfl, rfl⟩⟩ rfl rfl (AOp.moveD rfl rfl) ?_
            refine AOps.step ⟨43, rfl, .inl ⟨_, rfl, rfl⟩⟩ rfl rfl (AOp.leq rfl rfl rfl) ?_
            refine AOps.step ⟨40, rfl, .inl ⟨_, rfl, rfl⟩⟩ rfl rfl (AOp.pickT rfl rfl rfl) ?_
            refine AOps.step rfl rfl rfl (AOp.pickF rfl rfl rfl) ?_
            refine AOps.step rfl rfl rfl (AOp.assignD rfl rfl) ?_
            refine AOps.nil ?_
            refine AWP.cond rfl (fun h13 => ?_) (fun h13 => ?_)
            · replace h13 := of_decide_eq_true h13
              refine AWP.region ?_
              refine AOps.step rfl rfl rfl (AOp.moveO rfl rfl) ?_
              refine AOps.step rfl rfl rfl (AOp.moveD rfl rfl) ?_
              refine AOps.step rfl rfl rfl (AOp.buildSlice rfl et_36 (.cons rfl rfl rfl .nil) rfl (by decide)) ?_
              -- append 51
              refine AOps.append rfl rfl rfl rfl et_36 rfl (.head _) rfl (by simp [D.parts]) (by simp; omega) (by simp; omega) ?_
              refine AOps.step rfl rfl rfl (AOp.assignO rfl rfl) ?_
              refine AOps.nil ?_
              refine AWP.region ?_
              refine AOps.step rfl rfl rfl (AOp.add64 rfl rfl rfl (by omega) (by omega)) ?_
              refine AOps.step rfl rfl rfl (AOp.moveD rfl rfl) ?_
              refine AOps.nil ?_
              refine ⟨k + 1, (by omega), (by dsimp only; omega), Sub.less ⟨(SLe.of_eq rfl), SLe.refl _, SLe.refl _, SLe.refl _, SLe.refl _, trivial⟩ (row_same (by first | (rw [hpn, r_aln (aln_iff.2 (by omega)), List.map_append]; rfl) | (rw [hpn, r_sp (fun h => by have := aln_iff.1 h; omega), List.map_append]; rfl)))⟩
            · replace h13 := of_decide_eq_false h13
              refine AWP.region ?_
              refine AOps.step rfl rfl rfl (AOp.moveO rfl rfl) ?_
              refine AOps.step rfl rfl rfl (AOp.buildSlice rfl et_36 (.cons rfl rfl rfl .nil) rfl (by decide)) ?_
              -- append 19
              refine AOps.append rfl rfl rfl rfl et_36 rfl (.head _) rfl (by simp [D.parts]) (by simp; omega) (by simp; omega) ?_
              refine AOps.step rfl rfl rfl (AOp.assignO rfl rfl) ?_
              refine AOps.nil ?_
              refine AWP.region ?_
              refine AOps.step rfl rfl rfl (AOp.add64 rfl rfl rfl (by omega) (by omega)) ?_
              refine AOps.step rfl rfl rfl (AOp.moveD rfl rfl) ?_
              refine AOps.nil ?_
              refine ⟨k + 1, (by omega), (by dsimp only; omega), Sub.less ⟨(SLe.of_eq rfl), SLe.refl _, SLe.refl _, SLe.refl _, SLe.refl _, trivial⟩ (row_same (by first | (rw [hpn, r_aln (aln_iff.2 (by omega)), List.map_append]; rfl) | (rw [hpn, r_sp (fun h => by have := aln_iff.1 h; omega), List.map_append]; rfl)))⟩
          · replace g12 := of_decide_eq_false g12
            refine AOps.pass ⟨43, rfl, .inl ⟨_, rfl, rfl⟩⟩ rfl rfl ?_
            refine AOps.pass ⟨43, rfl, .inl ⟨_, rfl, rfl⟩⟩ rfl rfl ?_
            refine AOps.step ⟨40, rfl, .inl ⟨_, rfl, rfl⟩⟩ rfl rfl (AOp.pickF rfl rfl rfl) ?_
            refine AOps.step rfl rfl rfl (AOp.pickF rfl rfl rfl) ?_
            refine AOps.step rfl rfl rfl (AOp.assignD rfl rfl) ?_
            refine AOps.nil ?_
            refine AWP.cond rfl (fun h => nomatch h) (fun _ => ?_)
            refine AWP.region ?_
            refine AOps.step rfl rfl rfl (AOp.moveO rfl rfl) ?_
            refine AOps.step rfl rfl rfl (AOp.buildSlice rfl et_36 (.cons rfl rfl rfl .nil) rfl (by decide)) ?_
            -- append 19
            refine AOps.append rfl rfl rfl rfl et_36 rfl (.head _) rfl (by simp [D.parts]) (by simp; omega) (by simp; omega) ?_
            refine AOps.step rfl rfl rfl (AOp.assignO rfl rfl) ?_
            refine AOps.nil ?_
            refine AWP.region ?_
            refine AOps.step rfl rfl rfl (AOp.add64 rfl rfl rfl (by omega) (by omega)) ?_
            refine AOps.step rfl rfl rfl (AOp.moveD rfl rfl) ?_
            refine AOps.nil ?_
            refine ⟨k + 1, (by omega), (by dsimp only; omega), Sub.less ⟨(SLe.of_eq rfl), SLe.refl _, SLe.refl _, SLe.refl _, SLe.refl _, trivial⟩ (row_same (by first | (rw [hpn, r_aln (aln_iff.2 (by omega)), List.map_append]; rfl) | (rw [hpn, r_sp (fun h => by have := aln_iff.1 h; omega), List.map_append]; rfl)))⟩
      · replace g10 := of_decide_eq_false g10
        refine AOps.pass ⟨36, rfl, .inl ⟨_, rfl, rfl⟩⟩ rfl rfl ?_
        refine AOps.pass ⟨36, rfl, .inl ⟨_, rfl, rfl⟩⟩ rfl rfl ?_
        refine AOps.step rfl rfl rfl (AOp.pickF rfl rfl rfl) ?_
        refine AOps.step rfl rfl rfl (AOp.moveD rfl rfl) ?_
        refine AOps.step ⟨40, rfl, .inl ⟨_, rfl, rfl⟩⟩ rfl rfl (AOp.moveD rfl rfl) ?_
        refine AOps.step ⟨40, rfl, .inl ⟨_, rfl, rfl⟩⟩ rfl rfl (AOp.geq rfl rfl rfl) ?_
        refine AOps.step ⟨40, rfl, .inl ⟨_, rfl, rfl⟩⟩ rfl rfl (AOp.moveD rfl rfl) ?_
        refine AOps.split 43 rfl (fun g14 => ?_) (fun g14 => ?_)
        · replace g14 := of_decide_eq_true g14
          refine AOps.step ⟨43, rfl, .inl ⟨_, rfl, rfl⟩⟩ rfl rfl (AOp.moveD rfl rfl) ?_
          refine AOps.step ⟨43, rfl, .inl ⟨_, rfl, rfl⟩⟩ rfl rfl (AOp.leq rfl rfl rfl) ?_
          refine AOps.step ⟨40, rfl, .inl ⟨_, rfl, rfl⟩⟩ rfl rfl (AOp.pickT rfl rfl rfl) ?_
          refine AOps.step rfl rfl rfl (AOp.pickF rfl rfl rfl) ?_
          refine AOps.step rfl rfl rfl (AOp.assignD rfl rfl) ?_
          refine AOps.nil ?_
          refine AWP.cond rfl (fun h15 => ?_) (fun h15 => ?_)
          · replace h15 := of_decide_eq_true h15
            refine AWP.region ?_
            refine AOps.step rfl rfl rfl (AOp.moveO rfl rfl) ?_
            refine AOps.step rfl rfl rfl (AOp.moveD rfl rfl) ?_
            refine AOps.step rfl rfl rfl (AOp.buildSlice rfl et_36 (.cons rfl rfl rfl .nil) rfl (by decide)) ?_
            -- append 51
            refine AOps.append rfl rfl rfl rfl et_36 rfl (.head _) rfl (by simp [D.parts]) (by simp; omega) (by simp; omega) ?_
            refine AOps.step rfl rfl rfl (AOp.assignO rfl rfl) ?_
            refine AOps.nil ?_
            refine AWP.region ?_
            refine AOps.step rfl rfl rfl (AOp.add64 rfl rfl rfl (by omega) (by omega)) ?_
            refine AOps.step rfl rfl rfl (AOp.moveD rfl rfl) ?_
            refine AOps.nil ?_
            refine ⟨k + 1, (by omega), (by dsimp only; omega), Sub.less ⟨(SLe.of_eq rfl), SLe.refl _, SLe.refl _, SLe.refl _, SLe.refl _, trivial⟩ (row_same (by first | (rw [hpn, r_aln (aln_iff.2 (by omega)), List.map_append]; rfl) | (rw [hpn, r_sp (fun h => by have := aln_iff.1 h; omega), List.map_append]; rfl)))⟩
          · replace h15 := of_decide_eq_false h15
            refine AWP.region ?_
            refine AOps.step rfl rfl rfl (AOp.moveO rfl rfl) ?_
            refine AOps.step rfl rfl rfl (AOp.buildSlice rfl et_36 (.cons rfl rfl rfl .nil) rfl (by decide)) ?_
            -- append 19
            refine AOps.append rfl rfl rfl rfl et_36 rfl (.head _) rfl (by simp [D.parts]) (by simp; omega) (by simp; omega) ?_
            refine AOps.step rfl rfl rfl (AOp.assignO rfl rfl) ?_
            refine AOps.nil ?_
            refine AWP.region ?_
            refine AOps.step rfl rfl rfl (AOp.add64 rfl rfl rfl (by omega) (by omega)) ?_
            refine AOps.step rfl rfl rfl (AOp.moveD rfl rfl) ?_
            refine AOps.nil ?_
            refine ⟨k + 1, (by omega), (by dsimp only; omega), Sub.less ⟨(SLe.of_eq rfl), SLe.refl _, SLe.refl _, SLe.refl _, SLe.refl _, trivial⟩ (row_same (by first | (rw [hpn, r_aln (aln_iff.2 (by omega)), List.map_append]; rfl) | (rw [hpn, r_sp (fun h => by have := aln_iff.1 h; omega), List.map_append]; rfl)))⟩
        · replace g14 := of_decide_eq_false g14
          refine AOps.pass ⟨43, rfl, .inl ⟨_, rfl, rfl⟩⟩ rfl rfl ?_
          refine AOps.pass ⟨43, rfl, .inl ⟨_, rfl, rfl⟩⟩ rfl rfl ?_
          refine AOps.step ⟨40, rfl, .inl ⟨_, rfl, rfl⟩⟩ rfl rfl (AOp.pickF rfl rfl rfl) ?_
          refine AOps.step rfl rfl rfl (AOp.pickF rfl rfl rfl) ?_
          refine AOps.step rfl rfl rfl (AOp.assignD rfl rfl) ?_
          refine AOps.nil ?_
          refine AWP.cond rfl (fun h => nomatch h) (fun _ => ?_)
          refine AWP.region ?_
          refine AOps.step rfl rfl rfl (AOp.moveO rfl rfl) ?_
          refine AOps.step rfl rfl rfl (AOp.buildSlice rfl et_36 (.cons rfl rfl rfl .nil) rfl (by decide)) ?_
          -- append 19
          refine AOps.append rfl rfl rfl rfl et_36 rfl (.head _) rfl (by simp [D.parts]) (by simp; omega) (by simp; omega) ?_
          refine AOps.step rfl rfl rfl (AOp.assignO rfl rfl) ?_
          refine AOps.nil ?_
          refine AWP.region ?_
          refine AOps.step rfl rfl rfl (AOp.add64 rfl rfl rfl (by omega) (by omega)) ?_
          refine AOps.step rfl rfl rfl (AOp.moveD rfl rfl) ?_
          refine AOps.nil ?_
          refine ⟨k + 1, (by omega), (by dsimp only; omega), Sub.less ⟨(SLe.of_eq rfl), SLe.refl _, SLe.refl _, SLe.refl _, SLe.refl _, trivial⟩ (row_same (by first | (rw [hpn, r_aln (aln_iff.2 (by omega)), List.map_append]; rfl) | (rw [hpn, r_sp (fun h => by have := aln_iff.1 h; omega), List.map_append]; rfl)))⟩
  · replace h1 := of_decide_eq_false h1
    obtain rfl : k = s.size := by omega
    rw [rTo_all]
    have hjl := joinF_le s
    have hfl := fields_le (s.data.toList.map rMap)
    rw [List.length_map] at hfl
    refine AWP.exit ?_
    refine AWP.seq ?_
    refine AWP.region ?_
    refine AOps.step rfl rfl rfl (AOp.moveO rfl rfl) ?_
    refine AOps.freeze 53 rfl (.head _) ?_
    refine AOps.step rfl rfl rfl (AOp.bytesStr rfl et_36.ht Tryd.underlying5 st_9 rfl) ?_
    -- wants the world
    refine AOps.callT rfl rfl rfl hT tabT_stays rfl (.cons (ArgOk.rfl' rfl) .nil) (c_fieldsL _ (by rw [List.length_map]; omega) (ascii_all _)) ?_
    refine AOps.step rfl rfl rfl (AOp.call rfl (.cons (ArgOk.rfl' rfl) (.cons (ArgOk.rfl' rfl) .nil)) (c_joinL _ (by omega) (by omega))) ?_
    rw [← fold_eq]
    refine AOps.step rfl rfl rfl (AOp.assignD rfl rfl) ?_
    refine AOps.nil ?_
    refine AWP.seq ?_
    refine AWP.seq ?_
    refine AWP.region ?_
    refine AOps.step rfl rfl rfl (AOp.buildSlice rfl et_28 (.cons rfl rfl rfl (.cons rfl rfl rfl (.cons rfl rfl rfl .nil))) rfl (by decide)) ?_
    refine AOps.step rfl rfl rfl (AOp.lenSl rfl et_28.ht rfl) ?_
    refine AOps.step rfl rfl rfl (AOp.moveD rfl rfl) ?_
    refine AOps.nil ?_
    refine AWP.block ?_
    refine AWP.loop (G := Nat) (fun i => Env.of [(59, .d (.v (.int .i64 (i : Int)))), (57, .d (.sl (arts.map artD))), (58, .d (.v (.int .i64 3))), (6, .d (.v (.string (bStr (Lib.trimSuffix (s.data.toList.foldl pStep []) [32])))))]) (fun i => []) (fun i => i ≤ 3 ∧ ∀ p ∈ arts.take i, Lib.hasPrefix (Lib.trimSuffix (s.data.toList.foldl pStep []) [32]) p = false) (fun i => 3 - i) 0 ⟨Nat.zero_le _, fun p hp => by simp at hp⟩ (Sub.less ⟨(SLe.of_eq rfl), (SLe.of_eq rfl), (SLe.of_eq rfl), SLe.refl _, trivial⟩ (fun _ h => h)) ?_
    rintro i ⟨hi, h0⟩
    refine AWP.seq ?_
    refine AWP.region ?_
    refine AOps.step rfl rfl rfl (AOp.lss rfl rfl rfl) ?_
    refine AOps.nil ?_
    refine AWP.seq ?_
    refine AWP.cond rfl (fun h16 => ?_) (fun h16 => ?_)
    · replace h16 := of_decide_eq_true h16
      have hlt : i < arts.length := by show i < 3; omega
      refine AWP.skip ?_
      refine AWP.seq ?_
      refine AWP.block ?_
      refine AWP.seq ?_
      refine AWP.region ?_
      refine AOps.step rfl rfl rfl (AOp.indexAddr rfl et_28 rfl rfl i rfl (at_list hlt) rfl) ?_
      refine AOps.step rfl rfl rfl (AOp.load rfl sc_9 rfl) ?_
      refine AOps.step rfl rfl rfl (AOp.assignD rfl rfl) ?_
      refine AOps.nil ?_
      refine AWP.seq ?_
      refine AWP.region ?_
      refine AOps.step rfl rfl rfl (AOp.moveD rfl rfl) ?_
      refine AOps.step rfl rfl rfl (AOp.moveD rfl rfl) ?_
      refine AOps.step rfl rfl rfl (AOp.call rfl (.cons (ArgOk.rfl' rfl) (.cons (ArgOk.rfl' rfl) .nil)) (c_hasP _ _)) ?_
      refine AOps.nil ?_
      refine AWP.cond rfl (fun h17 => ?_) (fun h17 => ?_)
      · skip
        have HR : foldS s.data.toList = (Lib.trimSuffix (s.data.toList.foldl pStep []) [32]).drop arts[i].length := strip_hit hlt h0 h17
        rw [HR]
        have hpre := pre_len h17
        refine AWP.seq ?_
        refine AWP.region ?_
        refine AOps.step rfl rfl rfl (AOp.moveD rfl rfl) ?_
        refine AOps.step rfl rfl rfl (AOp.moveD rfl rfl) ?_
        refine AOps.step rfl rfl rfl (AOp.lenStr rfl st_9 rfl) ?_
        refine AOps.step rfl rfl rfl (AOp.sliceStrL rfl Tryd.underlying9 rfl rfl (Int.natCast_nonneg _) (by rw [bStr_size, bStr_size]; omega)) ?_
        rw [slice_hit]
        refine AOps.step rfl rfl rfl (AOp.assignD rfl rfl) ?_
        refine AOps.nil ?_
        refine AWP.ret ?_
        refine ⟨RetD.eq rfl ?_, trivial⟩
        all_goals (rfl)
      · skip
        have HN := art_next hlt h0 h17
        refine AWP.skip ?_
        refine AWP.region ?_
        refine AOps.step rfl rfl rfl (AOp.add64 rfl rfl rfl (by omega) (by omega)) ?_
        refine AOps.step rfl rfl rfl (AOp.moveD rfl rfl) ?_
        refine AOps.nil ?_
        refine ⟨i + 1, ⟨by omega, HN⟩, (by dsimp only; omega), Sub.less ⟨(SLe.of_eq rfl), SLe.refl _, SLe.refl _, SLe.refl _, trivial⟩ (fun _ h => h)⟩
    · replace h16 := of_decide_eq_false h16
      obtain rfl : i = 3 := by omega
      have HR : foldS s.data.toList = Lib.trimSuffix (s.data.toList.foldl pStep []) [32] := strip_none h0
      rw [HR]
      refine AWP.exit ?_
      refine AWP.seq ?_
      refine AWP.region ?_
      refine AOps.step rfl rfl rfl (AOp.moveD rfl rfl) ?_
      refine AOps.step rfl rfl rfl (AOp.assignD rfl rfl) ?_
      refine AOps.nil ?_
      refine AWP.ret ?_
      refine ⟨RetD.eq rfl ?_, trivial⟩
      all_goals (rfl)

end Go.Proofs.YtajghehicmlajaaDoor
