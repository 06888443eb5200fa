/- Walks and laws over abstract values, merged by tools/merge.py. No statement of the seat. -/
import Derived.WalkKit
import Derived.Ground.NamesProg
import Derived.Shelf.LaysM
import Derived.Test.YtnapkooefpkicaaGreatDoorProg
import Derived.Test.YtnapkooefpkicaaGreatDoorXS4

namespace Go.Proofs.YtnapkooefpkicaaGreatDoor
open Go.RowKit
set_option linter.unusedVariables false

/-! Types. -/
namespace TyVF
theorem et_22 : ElemTy Tryz.prog 22 40 4 56 (.agg #[(.string ⟨#[]⟩), (.int .i64 0), (.int .i64 0), (.slice none 0 0)]) := ⟨by kernel_rfl, by kernel_rfl, by kernel_rfl, by decide⟩
theorem et_38 : ElemTy Tryz.prog 38 53 1 4 (.int .u32 0) := ⟨by kernel_rfl, by kernel_rfl, by kernel_rfl, by decide⟩
theorem et_43 : ElemTy Tryz.prog 43 9 1 16 (.string ⟨#[]⟩) := ⟨by kernel_rfl, by kernel_rfl, by kernel_rfl, by decide⟩
theorem fo_35_0 : fieldOff Tryz.prog 35 0 = some 0 := by kernel_rfl
theorem fo_35_2 : fieldOff Tryz.prog 35 2 = some 2 := by kernel_rfl
theorem fo_40_3 : fieldOff Tryz.prog 40 3 = some 3 := by kernel_rfl
theorem sc_22 : Scal Tryz.prog 22 := .of (by kernel_rfl)
theorem sc_3 : Scal Tryz.prog 3 := .of (by kernel_rfl)
theorem sc_38 : Scal Tryz.prog 38 := .of (by kernel_rfl)
theorem sc_9 : Scal Tryz.prog 9 := .of (by kernel_rfl)
theorem sz_3 : ∀ w, (sizeOf 3).run Tryz.prog w = .ok 1 w := SizeT.of (by kernel_rfl)
theorem sz_38 : ∀ w, (sizeOf 38).run Tryz.prog w = .ok 1 w := SizeT.of (by kernel_rfl)
end TyVF
open TyVF


open Go.Lib
set_option linter.unusedSimpArgs false
theorem maxT_at : StaysAt (Tryz.l145_ren.g 1) MaxT := by
  refine ⟨fun w ⟨m, hm⟩ => ?_, fun w w' k ⟨m, hm⟩ => ⟨m, ?_⟩⟩
  · exact World.block_lt_of_cell? _ _ hm
  · rw [World.cell?_of_block k]; exact hm
abbrev gMax : Nat := Tryz.l145_ren.g 1
/-! ## What is read, plainly -/
def sumW (line : List UInt8) : List (List UInt8) := spl 32 (Lib.trimPrefix line [32, 32])
def sumsOk (line : List UInt8) (m : Nat) : Bool := Lib.hasPrefix line [32, 32] && decide ((sumW line).length = m)
def un8 (x : List UInt8) : Option Nat := unhx x 8
def pre8 : List (List UInt8) → List Nat
  | [] => []
  | w :: l => match un8 w with
    | none => []
    | some n => n :: pre8 l
def all8 (l : List (List UInt8)) : Bool := l.all fun w => (un8 w).isSome
theorem pre8_snoc : ∀ {l : List (List UInt8)} {w : List UInt8} {n : Nat}, all8 l = true → un8 w = some n → pre8 (l ++ [w]) = pre8 l ++ [n]
  | [], w, n, _, h => by simp [pre8, h]
  | x :: l, w, n, ha, h => by
    simp only [all8, List.all_cons, Bool.and_eq_true] at ha
    obtain ⟨v, hv⟩ := Option.isSome_iff_exists.1 ha.1
    have ih := pre8_snoc (l := l) ha.2 h
    simp only [List.cons_append, pre8, hv, ih]
theorem pre8_stop : ∀ {l : List (List UInt8)} {w : List UInt8} {r : List (List UInt8)}, all8 l = true → un8 w = none → pre8 (l ++ w :: r) = pre8 l
  | [], w, r, _, h => by simp [pre8, h]
  | x :: l, w, r, ha, h => by
    simp only [all8, List.all_cons, Bool.and_eq_true] at ha
    obtain ⟨v, hv⟩ := Option.isSome_iff_exists.1 ha.1
    have ih := pre8_stop (l := l) (r := r) ha.2 h
    simp only [List.cons_append, pre8, hv, ih]
theorem pre8_len : ∀ l : List (List UInt8), (pre8 l).length ≤ l.length
  | [] => by simp [pre8]
  | x :: l => by
    have := pre8_len l
    unfold pre8
    split
    · simp
    · simp; omega
theorem pre8_lt : ∀ l : List (List UInt8), ∀ n ∈ pre8 l, n < 4294967296
  | [], n, h => by simp [pre8] at h
  | x :: l, n, h => by
    unfold pre8 at h
    split at h
    · cases h
    · rename_i v hv
      rcases List.mem_cons.1 h with rfl | h
      · have := unhx_lt hv
        have h2 : (16 : Nat) ^ 8 = 4294967296 := by decide
        omega
      · exact pre8_lt l n h
theorem take_split {α : Type} {l : List α} {k : Nat} (h : k < l.length) : l = l.take k ++ l[k] :: l.drop (k + 1) := by
  rw [← List.drop_eq_getElem_cons h, List.take_append_drop]
theorem tk_snoc {α : Type} {l : List α} {k : Nat} (h : k < l.length) : l.take (k + 1) = l.take k ++ [l[k]] := by
  rw [List.take_add_one, List.getElem?_eq_getElem h, Option.toList_some]
/-- A line of sums: the sums behind it, how many are still to come, whether it was right. -/
def tsS (sums : List Nat) (due : Nat) (line : List UInt8) : List Nat := if sumsOk line (min 8 due) = true then sums ++ pre8 (sumW line) else sums
def tsB (due : Nat) (line : List UInt8) : Bool := sumsOk line (min 8 due) && all8 (sumW line)
def tsD (due : Nat) (line : List UInt8) : Nat := if tsB due line = true then due - (sumW line).length else due
def manS (m : Man) : List S := m.ds.map S.d
def lastS (m : Man) : List S := [.d (.v (.string m.item)), .d (.v (.int .i64 m.size)), .d (.v (.int .i64 m.block)), .own 700]
def rdRow (done : List Man) (c : List S) : List (List S) := done.map manS ++ [c]
theorem rdRow_kill (i : Nat) (done : List Man) (c : List S) : (rdRow done c).map (fun ss => ss.map (S.kill i)) = rdRow done (c.map (S.kill i)) := by
  unfold rdRow
  rw [List.map_append, List.map_map]
  congr 1
theorem rdRow_set (done : List Man) (c c' : List S) : (rdRow done c).set done.length c' = rdRow done c' := by
  unfold rdRow
  rw [List.set_append_right _ _ (by simp)]
  simp
theorem rdRow_at (done : List Man) (c : List S) : (rdRow done c)[done.length]? = some c := by
  unfold rdRow
  rw [List.getElem?_append_right (by simp)]
  simp
theorem rdRow_len (done : List Man) (c : List S) : (rdRow done c).length = done.length + 1 := by simp [rdRow]
def w64D (n : Nat) : List D := [.v (.int .u64 (n : Int))]
theorem c_unhexL (l : List UInt8) (m : Nat) (hm : m ≤ 16) (hs : l.length ≤ 9223372036854775807) : ACall Tryz.prog 28 [.v (.string (strL l)), .v (.int .i64 ((m : Nat) : Int))] (.tup [.v (.int .u64 (((unhx l m).getD 0 : Nat) : Int)), .v (.bool (unhx l m).isSome)]) := c_unhex (strL l) m hm (by rw [strL_size]; exact hs)
theorem c_pNumL (l : List UInt8) (hs : l.length ≤ 9223372036854775807) : ACall Tryz.prog 27 [.v (.string (strL l))] (.tup [.v (.int .i64 (((numV l).getD 0 : Nat) : Int)), .v (.bool (numV l).isSome)]) := c_pNum (strL l) (by rw [strL_size]; exact hs)
theorem c_cutP2 (s : ByteArray) : ACall Tryz.prog 34 [.v (.string s), .v (.string ⟨#[32, 32]⟩)] (.tup [.v (.string (strL (Lib.trimPrefix s.data.toList [32, 32]))), .v (.bool (Lib.hasPrefix s.data.toList [32, 32]))]) := c_cutP s ⟨#[32, 32]⟩
theorem c_splitL (l : List UInt8) (hs : l.length < 4294967281) : ACallT Tryz.prog MaxT 26 [.v (.string (strL l)), .v (.string ⟨#[32]⟩)] (.sl ((spl 32 l).map pcD)) := c_split (strL l) 32 (by rw [strL_size]; exact hs)
theorem trimP_le (l p : List UInt8) : (Lib.trimPrefix l p).length ≤ l.length := by
  unfold Lib.trimPrefix
  split <;> simp
theorem cv6432 : convB Tryz.prog 41 53 .u32 = true := by kernel_rfl
theorem wrapU32 {n : Int} (h0 : 0 ≤ n) (h1 : n < 4294967296) : IntKind.u32.wrap n = n := by rw [IntKind.wrap_u32']; omega


set_option maxRecDepth 100000 in
set_option maxHeartbeats 4000000 in
theorem c_takeSums (done : List Man) (m : Man) (due : Nat) (line : ByteArray) (hl : line.size ≤ 200000) (hd : done.length ≤ 300000) (hm : m.sums.length ≤ 300000) (hu : due ≤ 2000000000) : XCallT Tryz.prog gMax MaxT 25 [.ptr 600 0, .d (.v (.string line))] [(600, .cells [.own 500, .own 501, .d (.v (.int .i64 ((due : Nat) : Int)))]), (500, .rowS 40 4 (rdRow done (lastS m))), (700, .row 53 1 ((m.sums).map u32D))] [(600, .cells [.own 500, .own 501, .d (.v (.int .i64 ((tsD due line.data.toList : Nat) : Int)))]), (500, .rowS 40 4 (rdRow done (lastS m))), (700, .row 53 1 ((tsS m.sums due line.data.toList).map u32D))] (fun i => Nat.beq i 700) (.v (.bool (tsB due line.data.toList))) := by
  refine xcallT_of (n := 77) (ds' := [.v (.bool (tsB due line.data.toList))]) Tryz.func25 rfl (by kernel_rfl) rfl [4] rfl rfl maxT_at ?_
  intro B w0 F0 fr ρ0 hT
  have hsl := Lib.size_eq line
  have htl := trimP_le line.data.toList [32, 32]
  have hwl : (sumW line.data.toList).length ≤ _ := spl_length_le 32 _
  refine AWP.seq ?_
  refine AWP.region ?_
  refine AOps.step rfl rfl rfl (AOp.assignD rfl rfl) ?_
  refine AOps.nil ?_
  refine AWP.seq ?_
  refine AWP.region ?_
  refine AOps.step rfl rfl rfl (AOp.moveD rfl rfl) ?_
  refine AOps.step rfl rfl rfl (AOp.call rfl (.cons (ArgOk.rfl' rfl) (.cons (ArgOk.rfl' rfl) .nil)) (c_cutP2 line)) ?_
  refine AOps.step rfl rfl rfl (AOp.moveD rfl rfl) ?_
  refine AOps.step rfl rfl rfl (AOp.extract rfl rfl rfl) ?_
  refine AOps.step rfl rfl rfl (AOp.extract rfl rfl rfl) ?_
  refine AOps.step rfl rfl rfl (AOp.assignD rfl rfl) ?_
  refine AOps.step rfl rfl rfl (AOp.assignD rfl rfl) ?_
  refine AOps.nil ?_
  refine AWP.seq ?_
  refine AWP.region ?_
  refine AOps.step rfl rfl rfl (AOp.moveD rfl rfl) ?_
  -- wants the world
  refine AOps.callTC rfl rfl rfl hT (.cons (ArgOk.rfl' rfl) (.cons (ArgOk.rfl' rfl) .nil)) (c_splitL (Lib.trimPrefix line.data.toList [32, 32]) (by omega)) ?_
  refine AOps.step rfl rfl rfl (AOp.assignD rfl rfl) ?_
  refine AOps.nil ?_
  refine AWP.seq ?_
  refine AWP.seq ?_
  refine AWP.region ?_
  refine AOps.step rfl rfl rfl (AOp.moveD rfl rfl) ?_
  refine AOps.step rfl rfl rfl (AOp.not rfl rfl) ?_
  refine AOps.step rfl rfl rfl (AOp.moveD rfl rfl) ?_
  refine AOps.split 22 rfl (fun g1 => ?_) (fun g1 => ?_)
  · replace g1 := bnot_t g1
    have hp : Lib.hasPrefix line.data.toList [32, 32] = false := by simpa using g1
    have HO : sumsOk line.data.toList (min 8 due) = false := by unfold sumsOk; rw [hp]; rfl
    refine AOps.pass ⟨22, rfl, .inl ⟨_, rfl, rfl⟩⟩ rfl rfl ?_
    refine AOps.pass ⟨22, rfl, .inl ⟨_, rfl, rfl⟩⟩ rfl rfl ?_
    refine AOps.pass ⟨22, rfl, .inl ⟨_, rfl, rfl⟩⟩ rfl rfl ?_
    refine AOps.pass ⟨22, rfl, .inl ⟨_, rfl, rfl⟩⟩ rfl rfl ?_
    refine AOps.pass ⟨22, rfl, .inl ⟨_, rfl, rfl⟩⟩ rfl rfl ?_
    refine AOps.pass ⟨22, rfl, .inl ⟨_, rfl, rfl⟩⟩ rfl rfl ?_
    refine AOps.pass ⟨22, rfl, .inl ⟨_, rfl, rfl⟩⟩ rfl rfl ?_
    refine AOps.pass ⟨22, rfl, .inl ⟨_, rfl, rfl⟩⟩ rfl rfl ?_
    refine AOps.step rfl rfl rfl (AOp.pickT rfl rfl rfl) ?_
    refine AOps.nil ?_
    refine AWP.cond rfl (fun _ => ?_) (fun h => nomatch h)
    refine AWP.seq ?_
    refine AWP.region ?_
    refine AOps.step rfl rfl rfl (AOp.assignD rfl rfl) ?_
    refine AOps.nil ?_
    refine AWP.ret ?_
    refine ⟨⟨RetDX.eq rfl ?_, trivial⟩, ⟨mem_ob_eq (.head _) ?_, mem_ob_eq (.tail _ (.head _)) ?_, mem_ob_eq (.tail _ (.tail _ (.head _))) ?_, trivial⟩⟩
    all_goals (first | rfl | (unfold tsB; rw [HO]; rfl) | (unfold tsS; rw [HO]; rfl) | (unfold tsD tsB; rw [HO]; rfl))
  · replace g1 := bnot_f g1
    have hp : Lib.hasPrefix line.data.toList [32, 32] = true := by simpa using g1
    refine AOps.step ⟨22, rfl, .inl ⟨_, rfl, rfl⟩⟩ rfl rfl (AOp.moveD rfl rfl) ?_
    refine AOps.step ⟨22, rfl, .inl ⟨_, rfl, rfl⟩⟩ rfl rfl (AOp.lenSl rfl et_43.ht rfl) ?_
    refine AOps.step ⟨22, rfl, .inl ⟨_, rfl, rfl⟩⟩ rfl rfl (AOp.moveP rfl rfl) ?_
    refine AOps.step ⟨22, rfl, .inl ⟨_, rfl, rfl⟩⟩ rfl rfl (AOp.nilCheckP rfl rfl) ?_
    refine AOps.step ⟨22, rfl, .inl ⟨_, rfl, rfl⟩⟩ rfl rfl (AOp.fieldAddrP rfl fo_35_2 rfl) ?_
    refine AOps.step ⟨22, rfl, .inl ⟨_, rfl, rfl⟩⟩ rfl rfl (AOp.loadP rfl sc_3 rfl (.head _) rfl) ?_
    refine AOps.step ⟨22, rfl, .inl ⟨_, rfl, rfl⟩⟩ rfl rfl (AOp.min rfl rfl rfl) ?_
    refine AOps.step ⟨22, rfl, .inl ⟨_, rfl, rfl⟩⟩ rfl rfl (AOp.neq rfl rfl rfl) ?_
    refine AOps.step rfl rfl rfl (AOp.pickF rfl rfl rfl) ?_
    refine AOps.nil ?_
    refine AWP.cond rfl (fun h2 => ?_) (fun h2 => ?_)
    · replace h2 := of_decide_eq_true h2
      rw [List.length_map] at h2
      have HO : sumsOk line.data.toList (min 8 due) = false := by unfold sumsOk; rw [hp, decide_eq_false (by show ¬ ((sumW line.data.toList)).length = _; unfold sumW; omega)]; rfl
      refine AWP.seq ?_
      refine AWP.region ?_
      refine AOps.step rfl rfl rfl (AOp.assignD rfl rfl) ?_
      refine AOps.nil ?_
      refine AWP.ret ?_
      refine ⟨⟨RetDX.eq rfl ?_, trivial⟩, ⟨mem_ob_eq (.head _) ?_, mem_ob_eq (.tail _ (.head _)) ?_, mem_ob_eq (.tail _ (.tail _ (.head _))) ?_, trivial⟩⟩
      all_goals (first | rfl | (unfold tsB; rw [HO]; rfl) | (unfold tsS; rw [HO]; rfl) | (unfold tsD tsB; rw [HO]; rfl))
    · replace h2 := of_decide_eq_false h2
      rw [List.length_map] at h2
      have HO : sumsOk line.data.toList (min 8 due) = true := by unfold sumsOk; rw [hp, decide_eq_true (by show ((sumW line.data.toList)).length = _; unfold sumW; omega)]; rfl
      have hw8 : (sumW line.data.toList).length = min 8 due := by unfold sumW; omega
      refine AWP.skip ?_
      refine AWP.seq ?_
      refine AWP.draw (by kernel_rfl) (by kernel_rfl) ?_
      refine DRun.step rfl rfl rfl (AOp.moveP rfl rfl) ?_
      refine DRun.step rfl rfl rfl (AOp.nilCheckP rfl rfl) ?_
      refine DRun.step rfl rfl rfl (AOp.fieldAddrP rfl fo_35_0 rfl) ?_
      refine DRun.step rfl rfl rfl (AOp.loadP rfl sc_22 rfl (.head _) rfl) ?_
      refine DRun.step rfl rfl rfl (AOp.moveP rfl rfl) ?_
      refine DRun.step rfl rfl rfl (AOp.nilCheckP rfl rfl) ?_
      refine DRun.step rfl rfl rfl (AOp.fieldAddrP rfl fo_35_0 rfl) ?_
      refine DRun.step rfl rfl rfl (AOp.loadP rfl sc_22 rfl (.head _) rfl) ?_
      refine DRun.step rfl rfl rfl (AOp.weak (AOp.lenOwn rfl et_22.ht rfl (Obs.weak_mem (.tail _ (.head _))))) ?_
      refine DRun.step rfl rfl rfl (AOp.sub64 rfl rfl rfl (by rw [List.length_map, rdRow_len]; omega) (by rw [List.length_map, rdRow_len]; omega)) ?_
      refine DRun.step rfl rfl rfl (AOp.weak (AOp.indexOwn rfl et_22 rfl rfl (Obs.weak_mem (.tail _ (.head _))) done.length (by rw [List.length_map, rdRow_len]; omega) (by rw [List.length_map, rdRow_len]; omega))) ?_
      refine DRun.step rfl rfl rfl (AOp.assignP rfl rfl) ?_
      refine DRun.nil ?_
      refine AWP.seq ?_
      refine AWP.seq ?_
      refine AWP.region ?_
      refine AOps.step rfl rfl rfl (AOp.moveD rfl rfl) ?_
      refine AOps.step rfl rfl rfl (AOp.lenSl rfl et_43.ht rfl) ?_
      refine AOps.step rfl rfl rfl (AOp.moveD rfl rfl) ?_
      refine AOps.nil ?_
      refine AWP.block ?_
      refine AWP.loop (G := Nat) (fun k => Env.of [(45, .d (.v (.int .i64 (k : Int)))), (43, .d (.sl ((sumW line.data.toList).map pcD))), (44, .d (.v (.int .i64 (((sumW line.data.toList).map pcD).length : Int)))), (8, .ptr 500 (done.length * 4)), (0, .ptr 600 0), (7, .d (.sl ((sumW line.data.toList).map pcD)))]) (fun k => [(600, .cells [.own 500, .own 501, .d (.v (.int .i64 ((due : Nat) : Int)))]), (500, .rowS 40 4 (rdRow done (lastS m))), (700, .row 53 1 ((m.sums ++ pre8 ((sumW line.data.toList).take k)).map u32D))]) (fun k => k ≤ (sumW line.data.toList).length ∧ all8 ((sumW line.data.toList).take k) = true) (fun k => (sumW line.data.toList).length - k) 0 ⟨Nat.zero_le _, rfl⟩ (Sub.less ⟨(SLe.of_eq rfl), SLe.refl _, SLe.refl _, SLe.refl _, SLe.refl _, SLe.refl _, trivial⟩ (by rw [show m.sums ++ pre8 ((sumW line.data.toList).take 0) = m.sums by simp [pre8]]; exact fun _ h => h)) ?_
      intro k hk
      refine AWP.seq ?_
      refine AWP.region ?_
      refine AOps.step rfl rfl rfl (AOp.lss rfl rfl rfl) ?_
      refine AOps.nil ?_
      refine AWP.seq ?_
      refine AWP.cond rfl (fun h3 => ?_) (fun h3 => ?_)
      · replace h3 := of_decide_eq_true h3
        rw [List.length_map] at h3
        have hlt : k < (sumW line.data.toList).length := by omega
        have hpl := pre8_len ((sumW line.data.toList).take k)
        have htk : ((sumW line.data.toList).take k).length ≤ 8 := by rw [List.length_take]; omega
        refine AWP.skip ?_
        refine AWP.seq ?_
        refine AWP.block ?_
        refine AWP.seq ?_
        refine AWP.region ?_
        refine AOps.step rfl rfl rfl (AOp.indexAddr rfl et_43 rfl rfl k rfl (at_lst hlt) rfl) ?_
        refine AOps.step rfl rfl rfl (AOp.load rfl sc_9 rfl) ?_
        refine AOps.step rfl rfl rfl (AOp.assignD rfl rfl) ?_
        refine AOps.nil ?_
        refine AWP.seq ?_
        refine AWP.region ?_
        refine AOps.step rfl rfl rfl (AOp.moveD rfl rfl) ?_
        refine AOps.step rfl rfl rfl (AOp.call rfl (.cons (ArgOk.rfl' rfl) (.cons (ArgOk.rfl' rfl) .nil)) (c_unhexL (sumW line.data.toList)[k] 8 (by decide) (by have := spl_lens 32 _ _ (List.getElem_mem hlt); omega))) ?_
        refine AOps.step rfl rfl rfl (AOp.moveD rfl rfl) ?_
        refine AOps.step rfl rfl rfl (AOp.extract rfl rfl rfl) ?_
        refine AOps.step rfl rfl rfl (AOp.extract rfl rfl rfl) ?_
        refine AOps.step rfl rfl rfl (AOp.assignD rfl rfl) ?_
        refine AOps.step rfl rfl rfl (AOp.assignD rfl rfl) ?_
        refine AOps.nil ?_
        refine AWP.seq ?_
        refine AWP.seq ?_
        refine AWP.region ?_
        refine AOps.step rfl rfl rfl (AOp.moveD rfl rfl) ?_
        refine AOps.step rfl rfl rfl (AOp.not rfl rfl) ?_
        refine AOps.nil ?_
        refine AWP.cond rfl (fun h4 => ?_) (fun h4 => ?_)
        · replace h4 := bnot_t h4
          have hun : un8 (sumW line.data.toList)[k] = none := by
            cases hh : un8 (sumW line.data.toList)[k] with
            | none => rfl
            | some v => unfold un8 at hh; rw [hh] at h4; cases h4
          have ha : all8 (sumW line.data.toList) = false := by
            unfold all8
            rw [List.all_eq_false]
            exact ⟨_, List.getElem_mem hlt, by rw [hun]; decide⟩
          have H3 : tsB due line.data.toList = false := by unfold tsB; rw [HO, ha]; rfl
          have H1 : tsS m.sums due line.data.toList = m.sums ++ pre8 ((sumW line.data.toList).take k) := by unfold tsS; rw [if_pos HO, ← pre8_stop hk.2 hun, ← take_split hlt]
          have H2 : tsD due line.data.toList = due := if_neg (by rw [H3]; decide)
          rw [H3, H1, H2]
          refine AWP.seq ?_
          refine AWP.region ?_
          refine AOps.step rfl rfl rfl (AOp.assignD rfl rfl) ?_
          refine AOps.nil ?_
          refine AWP.ret ?_
          refine ⟨⟨RetDX.eq rfl ?_, trivial⟩, ⟨mem_ob_eq (.head _) ?_, mem_ob_eq (.tail _ (.head _)) ?_, mem_ob_eq (.tail _ (.tail _ (.head _))) ?_, trivial⟩⟩
          all_goals (first | rfl | (unfold tsB; rw [HO]; rfl) | (unfold tsS; rw [HO]; rfl) | (unfold tsD tsB; rw [HO]; rfl))
        · replace h4 := bnot_f h4
          have hso : (unhx (sumW line.data.toList)[k] 8).isSome = true := by simpa using h4
          obtain ⟨v, hv⟩ : ∃ v, un8 ((sumW line.data.toList)[k]) = some v := Option.isSome_iff_exists.1 hso
          have hv32 : v < 4294967296 := by have := unhx_lt hv; have h2 : (16 : Nat) ^ 8 = 4294967296 := by decide
                                           omega
          have hgv : (unhx (sumW line.data.toList)[k] 8).getD 0 = v := by unfold un8 at hv; rw [hv]; rfl
          have HN : pre8 ((sumW line.data.toList).take (k + 1)) = pre8 ((sumW line.data.toList).take k) ++ [v] := by rw [tk_snoc hlt]; exact pre8_snoc hk.2 hv
          have HA : all8 ((sumW line.data.toList).take (k + 1)) = true := by rw [tk_snoc hlt]; unfold all8; rw [List.all_append]; unfold all8 at hk; rw [hk.2]; simp [hv]
          refine AWP.skip ?_
          refine AWP.region ?_
          refine AOps.step rfl rfl rfl (AOp.moveP rfl rfl) ?_
          refine AOps.step rfl rfl rfl (AOp.moveP rfl rfl) ?_
          refine AOps.step rfl rfl rfl (AOp.nilCheckP rfl rfl) ?_
          refine AOps.step rfl rfl rfl (AOp.fieldAddrP rfl fo_40_3 rfl) ?_
          refine AOps.step rfl rfl rfl (AOp.loadRowS rfl sc_38 rfl (.tail _ (.head _)) done.length 3 rfl (rdRow_at _ _) rfl) ?_
          refine AOps.step rfl rfl rfl (AOp.moveD rfl rfl) ?_
          refine AOps.step rfl rfl rfl (AOp.convSame rfl cv6432 rfl (wrapU32 (by omega) (by omega))) ?_
          refine AOps.step rfl rfl rfl (AOp.buildSlice rfl et_38 (.cons rfl rfl rfl .nil) rfl (by decide)) ?_
          -- append 64
          refine AOps.append rfl rfl rfl rfl et_38 rfl (.tail _ (.tail _ (.head _))) rfl (by simp [D.parts]) (by simp; omega) (by simp; omega) ?_
          refine AOps.obsEq [(600, .cells [.own 500, .own 501, .d (.v (.int .i64 ((due : Nat) : Int)))]), (500, .rowS 40 4 (rdRow done [.d (.v (.string m.item)), .d (.v (.int .i64 m.size)), .d (.v (.int .i64 m.block)), .d .any])), (700, .row 53 1 ((m.sums ++ pre8 ((sumW line.data.toList).take (k + 1))).map u32D))] (by show [_, (500, Ob.rowS 40 4 ((rdRow done (lastS m)).map _)), _] = _; rw [rdRow_kill, HN, ← List.append_assoc, List.map_append (l₁ := m.sums ++ pre8 ((sumW line.data.toList).take k)), ← hgv]; rfl) ?_
          refine AOps.step rfl rfl rfl (AOp.nilCheckP rfl rfl) ?_
          refine AOps.step rfl rfl rfl (AOp.fieldAddrP rfl fo_40_3 rfl) ?_
          refine AOps.eff rfl rfl (EOp.storeRowS rfl rfl sz_38 rfl (.tail _ (.head _)) rfl (OneS.own (.tail _ (.tail _ (.head _)))) done.length 3 rfl (rdRow_at _ _) (by decide)) ?_
          refine AOps.obsEq [(600, .cells [.own 500, .own 501, .d (.v (.int .i64 ((due : Nat) : Int)))]), (500, .rowS 40 4 (rdRow done (lastS m))), (700, .row 53 1 ((m.sums ++ pre8 ((sumW line.data.toList).take (k + 1))).map u32D))] (by show [_, (500, Ob.rowS 40 4 ((rdRow done _).set done.length _)), _] = _; rw [rdRow_set]; rfl) ?_
          refine AOps.nil ?_
          refine AWP.region ?_
          refine AOps.step rfl rfl rfl (AOp.add64 rfl rfl rfl (by omega) (by omega)) ?_
          refine AOps.step rfl rfl rfl (AOp.moveD rfl rfl) ?_
          refine AOps.nil ?_
          refine ⟨k + 1, ⟨by omega, HA⟩, (by dsimp only; omega), Sub.less ⟨(SLe.of_eq rfl), SLe.refl _, SLe.refl _, SLe.refl _, SLe.refl _, SLe.refl _, trivial⟩ (fun _ h => h)⟩
      · replace h3 := of_decide_eq_false h3
        rw [List.length_map] at h3
        obtain rfl : k = (sumW line.data.toList).length := by omega
        have ha := hk.2
        rw [List.take_length] at ha
        rw [List.take_length]
        have H3 : tsB due line.data.toList = true := by unfold tsB; rw [HO, ha]; rfl
        have H1 : tsS m.sums due line.data.toList = m.sums ++ pre8 (sumW line.data.toList) := if_pos HO
        have H2 : ((tsD due line.data.toList : Nat) : Int) = (due : Int) - ((((sumW line.data.toList)).map pcD).length : Int) := by rw [List.length_map]; unfold tsD; rw [if_pos H3]; omega
        rw [H3, H1, H2]
        refine AWP.exit ?_
        refine AWP.seq ?_
        refine AWP.region ?_
        refine AOps.step rfl rfl rfl (AOp.moveP rfl rfl) ?_
        refine AOps.step rfl rfl rfl (AOp.nilCheckP rfl rfl) ?_
        refine AOps.step rfl rfl rfl (AOp.fieldAddrP rfl fo_35_2 rfl) ?_
        refine AOps.step rfl rfl rfl (AOp.loadP rfl sc_3 rfl (.head _) rfl) ?_
        refine AOps.step rfl rfl rfl (AOp.moveD rfl rfl) ?_
        refine AOps.step rfl rfl rfl (AOp.lenSl rfl et_43.ht rfl) ?_
        refine AOps.step rfl rfl rfl (AOp.sub64 rfl rfl rfl (by simp only [List.length_map]; omega) (by simp only [List.length_map]; omega)) ?_
        refine AOps.step rfl rfl rfl (AOp.nilCheckP rfl rfl) ?_
        refine AOps.step rfl rfl rfl (AOp.fieldAddrP rfl fo_35_2 rfl) ?_
        refine AOps.store rfl rfl rfl sz_3 rfl (.head _) rfl rfl rfl (Nat.le_of_ble_eq_true rfl) ?_
        refine AOps.nil ?_
        refine AWP.seq ?_
        refine AWP.region ?_
        refine AOps.step rfl rfl rfl (AOp.assignD rfl rfl) ?_
        refine AOps.nil ?_
        refine AWP.ret ?_
        refine ⟨⟨RetDX.eq rfl ?_, trivial⟩, ⟨mem_ob_eq (.head _) ?_, mem_ob_eq (.tail _ (.head _)) ?_, mem_ob_eq (.tail _ (.tail _ (.head _))) ?_, trivial⟩⟩
        all_goals (first | rfl | (unfold tsB; rw [HO]; rfl) | (unfold tsS; rw [HO]; rfl) | (unfold tsD tsB; rw [HO]; rfl))

end Go.Proofs.YtnapkooefpkicaaGreatDoor


namespace Go.Proofs.YtnapkooefpkicaaGreatDoor
open Go.RowKit
set_option linter.unusedVariables false

theorem AWP.drawLTailL {cx : Cx} {id : Nat} {l : List Oper} {e : Env} {σ : Obs} {Q : Post} (k : Nat) (L : List Nat) (Φ : List Fc) (E : List (Nat × List Nat)) (I : Obs → Prop) (hm : cx.P.follows .mixedOrders = true) (hB : Region.lexB .any (l.take k).toArray = true)
    (hS : Region.keysFrom (l.take k).toArray (fun k => E.any fun p => Nat.beq p.1 k) (fun k => ((E.find? fun p => Nat.beq p.1 k).map Prod.snd).getD []) (l.take k).length 0 (Array.replicate (l.take k).length false) = true) (hC : Region.chainLB l.toArray (fun i => L.contains i) k = true) (hL : lateB l.toArray L k = true)
    (h : LRun cx (l.take k).toArray Φ (fun k => E.any fun p => Nat.beq p.1 k) (fun k => ((E.find? fun p => Nat.beq p.1 k).map Prod.snd).getD []) I 0 (l.take k) (Env.killIds Φ e) σ (fun e σ => AOps cx l.toArray (l.drop k) e σ (QN Q))) : AWP cx (.region id l.toArray true) e σ Q := by
  intro a w ⟨F, ρ, hr⟩
  simp only [Region.lexB, Bool.and_eq_true] at hB
  have hch := ChainL.of hC
  have hkl : k ≤ l.length := by simpa using hch.le
  have hK : ∀ k, (E.any fun p => Nat.beq p.1 k) = false → ((E.find? fun p => Nat.beq p.1 k).map Prod.snd).getD [] = [] := fun k hk => by
    have : E.find? (fun p => Nat.beq p.1 k) = none := List.find?_eq_none.2 fun p hp hh => by
      have : (E.any fun p => Nat.beq p.1 k) = true := List.any_eq_true.2 ⟨p, hp, hh⟩
      rw [hk] at this
      simp at this
    rw [this]; rfl
  have h1 := anyL_lex hK (l.take k) 0 (Array.replicate (l.take k).toArray.size false) _ σ (by simp) (by simpa using hB.2) (by simpa using hS) h
  have h2 := wpAny_of_L (cx := cx) (ops := (l.take k).toArray) (Q := fun ex e σ => match ex with | .normal => AOps cx l.toArray (l.drop k) e σ (QN Q) | _ => False) (fun ex e σ hne hq => by cases ex <;> first | exact absurd rfl hne | exact hq.elim) (by simpa using LRun.dsts _ 0 _ σ h) _ _ _ σ a { w with drawn := w.drawn + 1 } (R.killIds Φ ⟨F, ρ, hr.drew⟩) (killIds_clean Φ e) h1
  have h3 : wpAny cx.P .any l.toArray (lift cx (QN Q)) l.toArray.size (Array.replicate l.toArray.size false) a { w with drawn := w.drawn + 1 } := by
    refine wpAny_splitL hch (LateOk.of hL) (ops0 := (l.take k).toArray) (by simp; omega) (fun j hj => ?_) ?_ ?_ ?_ (l.take k).length _ _ _ _ _ (by simp; omega) (by simp) ?_ ?_ ?_ (by simp; omega) h2
    · rw [List.getElem?_toArray, List.getElem?_toArray, List.getElem?_take, if_pos hj]
    · rintro a w ⟨e, σ, h3, h4⟩
      have := h3 a w h4
      simpa using this
    · rintro ex a w hne ⟨e, σ, h3, _⟩
      cases ex <;> first | exact absurd rfl hne | exact h3.elim
    · rintro ex a w hne ⟨e, σ, h3, _⟩
      cases ex <;> first | exact absurd rfl hne | exact h3.elim
    · intro j hj d
      have h5 : j < l.length := by omega
      have h6 : j < min k l.length := by omega
      simp [Array.getD_eq_getD_getElem?, h5, h6]
    · intro j hj hj2
      have : j < l.length := by simpa using hj2
      simp [Array.getD_eq_getD_getElem?, this]
    · intro i o ho hi
      have : i < l.length := by simpa using (Array.getElem?_eq_some_iff.1 ho).1
      simp [Array.getD_eq_getD_getElem?, this] at hi
  refine wp_mono (wp_region_any hm h3) ?_
  rintro ex a w ⟨e, σ, h4, h5⟩
  cases ex with
  | normal => exact ⟨e, σ, h4, h5⟩
  | exit id => exact h4.elim
  | goto l => exact h4.elim
  | ret => exact h4.elim
  | panic c => exact h4.elim
  | outgrown => exact h4.elim
end Go.Proofs.YtnapkooefpkicaaGreatDoor


namespace Go.Proofs.YtnapkooefpkicaaGreatDoor
open Go.RowKit
set_option linter.unusedVariables false

/-! Types. -/
namespace TyVG
theorem bu_40 : StructT Tryz.prog 40 (fun i => (#[(0, 1), (1, 1), (2, 1), (3, 1)] : Array (Nat × Nat))[i]?) [(.string ⟨#[]⟩), (.int .i64 0), (.int .i64 0), (.slice none 0 0)] := .of (by kernel_rfl) (by kernel_rfl) (by decide)
theorem et_22 : ElemTy Tryz.prog 22 40 4 56 (.agg #[(.string ⟨#[]⟩), (.int .i64 0), (.int .i64 0), (.slice none 0 0)]) := ⟨by kernel_rfl, by kernel_rfl, by kernel_rfl, by decide⟩
theorem et_33 : ElemTy Tryz.prog 33 41 1 8 (.int .u64 0) := ⟨by kernel_rfl, by kernel_rfl, by kernel_rfl, by decide⟩
theorem et_43 : ElemTy Tryz.prog 43 9 1 16 (.string ⟨#[]⟩) := ⟨by kernel_rfl, by kernel_rfl, by kernel_rfl, by decide⟩
theorem fo_35_0 : fieldOff Tryz.prog 35 0 = some 0 := by kernel_rfl
theorem fo_35_1 : fieldOff Tryz.prog 35 1 = some 1 := by kernel_rfl
theorem fo_35_2 : fieldOff Tryz.prog 35 2 = some 2 := by kernel_rfl
theorem sc_22 : Scal Tryz.prog 22 := .of (by kernel_rfl)
theorem sc_3 : Scal Tryz.prog 3 := .of (by kernel_rfl)
theorem sc_33 : Scal Tryz.prog 33 := .of (by kernel_rfl)
theorem sc_9 : Scal Tryz.prog 9 := .of (by kernel_rfl)
theorem sz_22 : ∀ w, (sizeOf 22).run Tryz.prog w = .ok 1 w := SizeT.of (by kernel_rfl)
theorem sz_3 : ∀ w, (sizeOf 3).run Tryz.prog w = .ok 1 w := SizeT.of (by kernel_rfl)
theorem sz_33 : ∀ w, (sizeOf 33).run Tryz.prog w = .ok 1 w := SizeT.of (by kernel_rfl)
end TyVG
open TyVG


open Go.Lib
set_option linter.unusedSimpArgs false
/-- The first line of a manifest. -/
def headV (l : List UInt8) : Option (Man × Nat) := match spl 32 l with
  | [a, b, c, d] => if a = [] then none else match numV b, numV c, unhx d 16 with
    | some x, some y, some z => if y = 0 then none else some (⟨strL a, x, y, []⟩, z)
    | _, _, _ => none
  | _ => none
structure Rd where
  done : List Man
  cur : Option Man
  roots : List Nat
  due : Nat
def Rd.all (r : Rd) : List Man := r.done ++ r.cur.toList
def takeS (r : Rd) (line : List UInt8) : Rd × Bool :=
  if 0 < r.due then (⟨r.done, r.cur.map fun m => ⟨m.item, m.size, m.block, tsS m.sums r.due line⟩, r.roots, tsD r.due line⟩, tsB r.due line)
  else match headV line with
    | none => (r, false)
    | some p => (⟨r.all, some p.1, r.roots ++ [p.2], (nblocks p.1.size p.1.block).toNat⟩, true)
def curS : Option Man → List Nat
  | none => []
  | some m => m.sums
def rdO (done : List Man) : Option Man → List (List S)
  | none => done.map manS
  | some m => rdRow done (lastS m)
def ob7 (cur : Option Man) : Nat × Ob := (700, .row 53 1 ((curS cur).map u32D))
def ob6 (due : Nat) : Nat × Ob := (600, .cells [.own 500, .own 501, .d (.v (.int .i64 (due : Int)))])
def rdObs (r : Rd) : Obs := [ob6 r.due, (500, .rowS 40 4 (rdO r.done r.cur)), (501, .row 41 1 (r.roots.map w64D)), ob7 r.cur]
theorem manS_el (m : Man) (σ : Obs) : (manS m).length = m.ds.length ∧ ∀ j (a : j < (manS m).length) (b : j < m.ds.length), Snap σ (manS m)[j] m.ds[j] :=
  ⟨by unfold manS; rw [List.length_map], fun j a b => by
    have : (manS m)[j] = .d m.ds[j] := by simp [manS]
    rw [this]
    exact .d _⟩
theorem lastS_el (m : Man) : (lastS m).length = m.ds.length ∧ ∀ j (a : j < (lastS m).length) (b : j < m.ds.length), Snap [ob7 (some m)] (lastS m)[j] m.ds[j] :=
  ⟨rfl, fun j a b => by
    match j, a with
    | 0, _ => exact .d _
    | 1, _ => exact .d _
    | 2, _ => exact .d _
    | 3, _ => exact .row (e := 53) (size := 1) (.head _)⟩
theorem rd_el {done : List Man} {cur : Option Man} {i : Nat} {ss : List S} {ds : List D} (h1 : (rdO done cur)[i]? = some ss) (h2 : ((done ++ cur.toList).map Man.ds)[i]? = some ds) :
    ss.length = ds.length ∧ ∀ j (a : j < ss.length) (b : j < ds.length), Snap [ob7 cur] ss[j] ds[j] := by
  rw [List.getElem?_map] at h2
  obtain ⟨m, hm, rfl⟩ := Option.map_eq_some_iff.1 h2
  cases cur with
  | none =>
    simp only [rdO, List.getElem?_map] at h1
    obtain ⟨m2, hm2, rfl⟩ := Option.map_eq_some_iff.1 h1
    have : m = m2 := by
      rw [Option.toList_none, List.append_nil, hm2] at hm
      exact (Option.some.inj hm).symm
    subst this
    exact manS_el m _
  | some c =>
    simp only [rdO, rdRow] at h1
    by_cases hi : i < done.length
    · rw [List.getElem?_append_left (by simpa using hi), List.getElem?_map] at h1
      obtain ⟨m2, hm2, rfl⟩ := Option.map_eq_some_iff.1 h1
      rw [List.getElem?_append_left hi, hm2] at hm
      have : m = m2 := (Option.some.inj hm).symm
      subst this
      exact manS_el m _
    · rw [List.getElem?_append_right (by simp; omega)] at h1
      rw [List.getElem?_append_right (by omega)] at hm
      have hi0 : i = done.length := by
        rcases Nat.lt_or_ge (i - done.length) 1 with h | h
        · omega
        · rw [List.getElem?_eq_none (by simpa using h)] at hm; cases hm
      subst hi0
      simp at h1 hm
      subst h1; subst hm
      exact lastS_el c
theorem rdO_len (done : List Man) (cur : Option Man) : (rdO done cur).length = ((done ++ cur.toList).map Man.ds).length := by
  cases cur <;> simp [rdO, rdRow]
section
variable {cx : Cx} {e : Env} {Q : Post}
/-- What is held in the last element is frozen: the row is data. -/
theorem AWP.rdFreeze {c : Code} {done : List Man} {cur : Option Man} {roots : List Nat} {o6 : Nat × Ob} (h6 : o6.1 = 600)
    (k : AWP cx c e [(500, .row 40 4 ((done ++ cur.toList).map Man.ds)), o6, (501, .row 41 1 (roots.map w64D))] Q) {σ : Obs} (hσ : ∀ p ∈ [(500, .rowS 40 4 (rdO done cur)), o6, (501, .row 41 1 (roots.map w64D)), ob7 cur], p ∈ σ) : AWP cx c e σ Q := by
  refine AWP.obs hσ ?_
  refine AWP.rowOfS 500 ((done ++ cur.toList).map Man.ds) [ob7 cur] [(500, .rowS 40 4 (rdO done cur)), o6, (501, .row 41 1 (roots.map w64D))] (.head _) (rdO_len done cur)
    (fun i k1 k2 => (rd_el (List.getElem?_eq_getElem k1) (List.getElem?_eq_getElem k2)).1) (fun i k1 k2 j k3 k4 => (rd_el (List.getElem?_eq_getElem k1) (List.getElem?_eq_getElem k2)).2 j k3 k4)
    (fun p hp => by obtain rfl := List.mem_singleton.1 hp; simp) (fun p hp => by
      simp only [List.mem_cons, List.not_mem_nil, or_false] at hp ⊢
      rcases hp with rfl | rfl | rfl <;> simp)
    (fun p hp q hq => by
      obtain rfl := List.mem_singleton.1 hp
      simp only [List.mem_cons, List.not_mem_nil, or_false] at hq
      rcases hq with rfl | rfl | rfl
      · show (500 : Nat) ≠ 700; decide
      · rw [h6]; show (600 : Nat) ≠ 700; decide
      · show (501 : Nat) ≠ 700; decide) ?_
  have : Obs.upd 500 (.row 40 4 ((done ++ cur.toList).map Man.ds)) [(500, .rowS 40 4 (rdO done cur)), o6, (501, .row 41 1 (roots.map w64D))] = [(500, .row 40 4 ((done ++ cur.toList).map Man.ds)), o6, (501, .row 41 1 (roots.map w64D))] := by
    obtain ⟨a, b⟩ := o6
    dsimp only at h6
    subst h6
    rfl
  rw [this]
  exact k
end
def newD (i : ByteArray) (x y : Int) : List D := [.v (.string i), .v (.int .i64 x), .v (.int .i64 y), .v (.slice none 0 0)]
theorem adopt_eq (l : List Man) (i : ByteArray) (x y : Int) : ((l.map Man.ds ++ [newD i x y]).map fun ds => ds.map S.d).set l.length (((newD i x y).map S.d).set 3 (.own 700)) = rdRow l (lastS ⟨i, x, y, []⟩) := by
  unfold rdRow
  rw [List.map_append, List.set_append_right _ _ (by simp)]
  simp [lastS, manS, newD]
theorem adopt_at (l : List Man) (d : List D) : (l.map Man.ds ++ [d])[l.length]? = some d := by
  rw [List.getElem?_append_right (by simp)]
  simp
theorem clean2 {a b ia ib : Nat} (h1 : (S.own ia).kill ib = .own ia) : ∀ p ∈ [(a, S.own ia)], ∀ f ∈ [(⟨ia, [a]⟩ : Fc), ⟨ib, [b]⟩], f.slots.contains p.1 = true ∨ p.2.kill f.id = p.2 := fun p hp f hf => by
  obtain rfl := List.mem_singleton.1 hp
  rcases List.mem_cons.1 hf with rfl | hf
  · exact .inl (by simp)
  · obtain rfl := List.mem_singleton.1 hf
    exact .inr h1
theorem clean2' {a b ia ib : Nat} (h1 : (S.own ib).kill ia = .own ib) : ∀ p ∈ [(b, S.own ib)], ∀ f ∈ [(⟨ia, [a]⟩ : Fc), ⟨ib, [b]⟩], f.slots.contains p.1 = true ∨ p.2.kill f.id = p.2 := fun p hp f hf => by
  obtain rfl := List.mem_singleton.1 hp
  rcases List.mem_cons.1 hf with rfl | hf
  · exact .inr h1
  · obtain rfl := List.mem_singleton.1 hf
    exact .inl (by simp)
theorem head_no1 {l : List UInt8} (h : (spl 32 l).length ≠ 4) : headV l = none := by
  unfold headV
  split
  · rename_i hh; rw [hh] at h; simp at h
  · rfl
theorem four {l : List (List UInt8)} (h : l.length = 4) : ∃ a b c d, l = [a, b, c, d] := by
  match l, h with
  | [a, b, c, d], _ => exact ⟨a, b, c, d, rfl⟩
theorem head_4 {l a b c d : List UInt8} (h : spl 32 l = [a, b, c, d]) : headV l = if a = [] then none else match numV b, numV c, unhx d 16 with
    | some x, some y, some z => if y = 0 then none else some (⟨strL a, x, y, []⟩, z)
    | _, _, _ => none := by
  unfold headV
  rw [h]
theorem strL_nil {a : List UInt8} : (strL a = ⟨#[]⟩) ↔ a = [] := by rw [strCons, strL_list]
theorem spl_l4 {l a b c d : List UInt8} (h : spl 32 l = [a, b, c, d]) : a.length ≤ l.length ∧ b.length ≤ l.length ∧ c.length ≤ l.length ∧ d.length ≤ l.length :=
  ⟨spl_lens 32 l a (by rw [h]; simp), spl_lens 32 l b (by rw [h]; simp), spl_lens 32 l c (by rw [h]; simp), spl_lens 32 l d (by rw [h]; simp)⟩
theorem nblk_nn {a b : Int} (h0 : 0 ≤ a) (h1 : 1 ≤ b) : 0 ≤ nblocks a b := by unfold nblocks; exact Int.ediv_nonneg (by omega) (by omega)
theorem nblk_lea {a b : Int} (h0 : 0 ≤ a) (h1 : 1 ≤ b) : nblocks a b ≤ a + b - 1 := by unfold nblocks; exact Int.ediv_le_self _ (by omega)
theorem take_no {r : Rd} {l : List UInt8} (h : ¬ 0 < r.due) (hn : headV l = none) : takeS r l = (r, false) := by unfold takeS; rw [if_neg h, hn]
theorem take_hd {r : Rd} {l : List UInt8} {p : Man × Nat} (h : ¬ 0 < r.due) (hn : headV l = some p) : takeS r l = (⟨r.all, some p.1, r.roots ++ [p.2], (nblocks p.1.size p.1.block).toNat⟩, true) := by unfold takeS; rw [if_neg h, hn]
theorem take_sm {r : Rd} {l : List UInt8} {m : Man} (h : 0 < r.due) (hc : r.cur = some m) : takeS r l = (⟨r.done, some ⟨m.item, m.size, m.block, tsS m.sums r.due l⟩, r.roots, tsD r.due l⟩, tsB r.due l) := by unfold takeS; rw [if_pos h, hc]; rfl


set_option maxRecDepth 100000 in
set_option maxHeartbeats 8000000 in
theorem c_take (done : List Man) (cur : Option Man) (roots : List Nat) (due : Nat) (line : ByteArray) (hl : line.size ≤ 200000) (hd : (done ++ cur.toList).length ≤ 300000) (hm : (curS cur).length ≤ 300000) (hr : roots.length ≤ 300000) (hu : due ≤ 1000000000 * 2) (hi : 0 < due → ∃ m, cur = some m) : XCallT Tryz.prog gMax MaxT 12 [.ptr 600 0, .d (.v (.string line))] [ob6 due, (500, .rowS 40 4 (rdO done cur)), (501, .row 41 1 (roots.map w64D)), ob7 cur] (rdObs (takeS (⟨done, cur, roots, due⟩ : Rd) line.data.toList).1) (fun i => Nat.beq i 700 || Nat.beq i 500 || Nat.beq i 501 || Nat.beq i 510 || Nat.beq i 511) (.v (.bool (takeS (⟨done, cur, roots, due⟩ : Rd) line.data.toList).2)) := by
  refine xcallT_of (n := 97) (ds' := [.v (.bool (takeS (⟨done, cur, roots, due⟩ : Rd) line.data.toList).2)]) Tryz.func12 rfl (by kernel_rfl) rfl [4] rfl rfl maxT_at ?_
  intro B w0 F0 fr ρ0 hT
  have hsl := Lib.size_eq line
  have hd2 : done.length + cur.toList.length ≤ 300000 := by rw [← List.length_append]; exact hd
  refine AWP.seq ?_
  refine AWP.region ?_
  refine AOps.step rfl rfl rfl (AOp.assignD rfl rfl) ?_
  refine AOps.nil ?_
  refine AWP.seq ?_
  refine AWP.seq ?_
  refine AWP.region ?_
  refine AOps.step rfl rfl rfl (AOp.moveP rfl rfl) ?_
  refine AOps.step rfl rfl rfl (AOp.nilCheckP rfl rfl) ?_
  refine AOps.step rfl rfl rfl (AOp.fieldAddrP rfl fo_35_2 rfl) ?_
  refine AOps.step rfl rfl rfl (AOp.loadP rfl sc_3 rfl (.head _) rfl) ?_
  refine AOps.step rfl rfl rfl (AOp.gtr rfl rfl rfl) ?_
  refine AOps.nil ?_
  refine AWP.cond rfl (fun h1 => ?_) (fun h1 => ?_)
  · replace h1 := of_decide_eq_true h1
    have hd0 : 0 < due := by omega
    obtain ⟨m, rfl⟩ := hi hd0
    rw [take_sm (r := ⟨done, some m, roots, due⟩) hd0 rfl]
    refine AWP.seq ?_
    refine AWP.region ?_
    refine AOps.step rfl rfl rfl (AOp.moveP rfl rfl) ?_
    refine AOps.step rfl rfl rfl (AOp.moveD rfl rfl) ?_
    -- writes 600 500 700
    refine AOps.callXT rfl rfl rfl hT (.cons (SLe.refl _) (.cons (SLe.refl _) .nil)) (c_takeSums done m due line hl (by simp at hd; omega) hm (by omega)) ⟨(.head _), (.tail _ (.head _)), (.tail _ (.tail _ (.tail _ (.head _)))), trivial⟩ rfl rfl (fun i h => by show (!(Nat.beq i 700 || _ || _ || _ || _)) = false; rw [show Nat.beq i 700 = true from h]; rfl) ?_
    refine AOps.step rfl rfl rfl (AOp.assignD rfl rfl) ?_
    refine AOps.nil ?_
    refine AWP.ret ?_
    refine ⟨⟨RetDX.eq rfl ?_, trivial⟩, ⟨mem_ob_eq (.head _) ?_, mem_ob_eq (.tail _ (.head _)) ?_, mem_ob_eq (.tail _ (.tail _ (.tail _ (.head _)))) ?_, mem_ob_eq (.tail _ (.tail _ (.head _))) ?_, trivial⟩⟩
    all_goals (rfl)
  · replace h1 := of_decide_eq_false h1
    have hd0 : ¬ 0 < ((⟨done, cur, roots, due⟩ : Rd)).due := by show ¬ 0 < due; omega
    refine AWP.skip ?_
    refine AWP.seq ?_
    refine AWP.region ?_
    refine AOps.step rfl rfl rfl (AOp.moveD rfl rfl) ?_
    -- wants the world
    refine AOps.callTC rfl rfl rfl hT (.cons (ArgOk.rfl' rfl) (.cons (ArgOk.rfl' rfl) .nil)) (c_split line 32 (by omega)) ?_
    refine AOps.step rfl rfl rfl (AOp.assignD rfl rfl) ?_
    refine AOps.nil ?_
    refine AWP.seq ?_
    refine AWP.seq ?_
    refine AWP.region ?_
    refine AOps.step rfl rfl rfl (AOp.moveD rfl rfl) ?_
    refine AOps.step rfl rfl rfl (AOp.lenSl rfl et_43.ht rfl) ?_
    refine AOps.step rfl rfl rfl (AOp.neq rfl rfl rfl) ?_
    refine AOps.step rfl rfl rfl (AOp.moveD rfl rfl) ?_
    refine AOps.split 25 rfl (fun g2 => ?_) (fun g2 => ?_)
    · replace g2 := of_decide_eq_true g2
      rw [List.length_map] at g2
      have HT := take_no (r := (⟨done, cur, roots, due⟩ : Rd)) (l := line.data.toList) hd0 (head_no1 (by omega))
      rw [HT]
      refine AOps.pass ⟨25, rfl, .inl ⟨_, rfl, rfl⟩⟩ rfl rfl ?_
      refine AOps.pass ⟨25, rfl, .inl ⟨_, rfl, rfl⟩⟩ rfl rfl ?_
      refine AOps.pass ⟨25, rfl, .inl ⟨_, rfl, rfl⟩⟩ rfl rfl ?_
      refine AOps.pass ⟨25, rfl, .inl ⟨_, rfl, rfl⟩⟩ rfl rfl ?_
      refine AOps.step rfl rfl rfl (AOp.pickT rfl rfl rfl) ?_
      refine AOps.nil ?_
      refine AWP.cond rfl (fun _ => ?_) (fun h => nomatch h)
      refine AWP.seq ?_
      refine AWP.region ?_
      refine AOps.step rfl rfl rfl (AOp.assignD rfl rfl) ?_
      refine AOps.nil ?_
      refine AWP.ret ?_
      refine ⟨⟨RetDX.eq rfl ?_, trivial⟩, ⟨mem_ob_eq (.head _) ?_, mem_ob_eq (.tail _ (.head _)) ?_, mem_ob_eq (.tail _ (.tail _ (.head _))) ?_, mem_ob_eq (.tail _ (.tail _ (.tail _ (.head _)))) ?_, trivial⟩⟩
      all_goals (rfl)
    · replace g2 := of_decide_eq_false g2
      rw [List.length_map] at g2
      have hw0 : (spl 32 line.data.toList).length = 4 := by omega
      obtain ⟨a, b, c, d, hw⟩ := four hw0
      obtain ⟨hla, hlb, hlc, hld⟩ := spl_l4 hw
      refine AOps.step ⟨25, rfl, .inl ⟨_, rfl, rfl⟩⟩ rfl rfl (AOp.moveD rfl rfl) ?_
      refine AOps.step ⟨25, rfl, .inl ⟨_, rfl, rfl⟩⟩ rfl rfl (AOp.indexAddr rfl et_43 rfl rfl 0 rfl (show ((spl 32 line.data.toList).map pcD)[0]? = some (pcD a) by rw [hw]; rfl) rfl) ?_
      refine AOps.step ⟨25, rfl, .inl ⟨_, rfl, rfl⟩⟩ rfl rfl (AOp.load rfl sc_9 rfl) ?_
      refine AOps.step ⟨25, rfl, .inl ⟨_, rfl, rfl⟩⟩ rfl rfl (AOp.seql rfl rfl rfl) ?_
      refine AOps.step rfl rfl rfl (AOp.pickF rfl rfl rfl) ?_
      refine AOps.nil ?_
      refine AWP.cond rfl (fun h3 => ?_) (fun h3 => ?_)
      · replace h3 := of_decide_eq_true h3
        have ha : a = [] := strL_nil.1 h3
        have HT := take_no (r := (⟨done, cur, roots, due⟩ : Rd)) (l := line.data.toList) hd0 (by rw [head_4 hw, if_pos ha])
        rw [HT]
        refine AWP.seq ?_
        refine AWP.region ?_
        refine AOps.step rfl rfl rfl (AOp.assignD rfl rfl) ?_
        refine AOps.nil ?_
        refine AWP.ret ?_
        refine ⟨⟨RetDX.eq rfl ?_, trivial⟩, ⟨mem_ob_eq (.head _) ?_, mem_ob_eq (.tail _ (.head _)) ?_, mem_ob_eq (.tail _ (.tail _ (.head _))) ?_, mem_ob_eq (.tail _ (.tail _ (.tail _ (.head _)))) ?_, trivial⟩⟩
        all_goals (rfl)
      · replace h3 := of_decide_eq_false h3
        have ha : ¬ a = [] := fun hh => h3 (strL_nil.2 hh)
        refine AWP.skip ?_
        refine AWP.seq ?_
        refine AWP.region ?_
        refine AOps.step rfl rfl rfl (AOp.moveD rfl rfl) ?_
        refine AOps.step rfl rfl rfl (AOp.indexAddr rfl et_43 rfl rfl 1 rfl (show ((spl 32 line.data.toList).map pcD)[1]? = some (pcD b) by rw [hw]; rfl) rfl) ?_
        refine AOps.step rfl rfl rfl (AOp.load rfl sc_9 rfl) ?_
        refine AOps.step rfl rfl rfl (AOp.call rfl (.cons (ArgOk.rfl' rfl) .nil) (c_pNumL b (by omega))) ?_
        refine AOps.step rfl rfl rfl (AOp.moveD rfl rfl) ?_
        refine AOps.step rfl rfl rfl (AOp.extract rfl rfl rfl) ?_
        refine AOps.step rfl rfl rfl (AOp.extract rfl rfl rfl) ?_
        refine AOps.step rfl rfl rfl (AOp.assignD rfl rfl) ?_
        refine AOps.step rfl rfl rfl (AOp.assignD rfl rfl) ?_
        refine AOps.nil ?_
        refine AWP.seq ?_
        refine AWP.region ?_
        refine AOps.step rfl rfl rfl (AOp.moveD rfl rfl) ?_
        refine AOps.step rfl rfl rfl (AOp.indexAddr rfl et_43 rfl rfl 2 rfl (show ((spl 32 line.data.toList).map pcD)[2]? = some (pcD c) by rw [hw]; rfl) rfl) ?_
        refine AOps.step rfl rfl rfl (AOp.load rfl sc_9 rfl) ?_
        refine AOps.step rfl rfl rfl (AOp.call rfl (.cons (ArgOk.rfl' rfl) .nil) (c_pNumL c (by omega))) ?_
        refine AOps.step rfl rfl rfl (AOp.moveD rfl rfl) ?_
        refine AOps.step rfl rfl rfl (AOp.extract rfl rfl rfl) ?_
        refine AOps.step rfl rfl rfl (AOp.extract rfl rfl rfl) ?_
        refine AOps.step rfl rfl rfl (AOp.assignD rfl rfl) ?_
        refine AOps.step rfl rfl rfl (AOp.assignD rfl rfl) ?_
        refine AOps.nil ?_
        refine AWP.seq ?_
        refine AWP.region ?_
        refine AOps.step rfl rfl rfl (AOp.moveD rfl rfl) ?_
        refine AOps.step rfl rfl rfl (AOp.indexAddr rfl et_43 rfl rfl 3 rfl (show ((spl 32 line.data.toList).map pcD)[3]? = some (pcD d) by rw [hw]; rfl) rfl) ?_
        refine AOps.step rfl rfl rfl (AOp.load rfl sc_9 rfl) ?_
        refine AOps.step rfl rfl rfl (AOp.call rfl (.cons (ArgOk.rfl' rfl) (.cons (ArgOk.rfl' rfl) .nil)) (c_unhexL d 16 (by decide) (by omega))) ?_
        refine AOps.step rfl rfl rfl (AOp.moveD rfl rfl) ?_
        refine AOps.step rfl rfl rfl (AOp.extract rfl rfl rfl) ?_
        refine AOps.step rfl rfl rfl (AOp.extract rfl rfl rfl) ?_
        refine AOps.step rfl rfl rfl (AOp.assignD rfl rfl) ?_
        refine AOps.step rfl rfl rfl (AOp.assignD rfl rfl) ?_
        refine AOps.nil ?_
        refine AWP.seq ?_
        refine AWP.seq ?_
        refine AWP.region ?_
        refine AOps.step rfl rfl rfl (AOp.moveD rfl rfl) ?_
        refine AOps.step rfl rfl rfl (AOp.not rfl rfl) ?_
        refine AOps.step rfl rfl rfl (AOp.moveD rfl rfl) ?_
        refine AOps.split 54 rfl (fun g4 => ?_) (fun g4 => ?_)
        · replace g4 := bnot_t g4
          have HT := take_no (r := (⟨done, cur, roots, due⟩ : Rd)) (l := line.data.toList) hd0 (by rw [head_4 hw, if_neg ha]; cases hh : numV b with
            | none => rfl
            | some x => rw [hh] at g4; cases g4)
          rw [HT]
          refine AOps.pass ⟨54, rfl, .inl ⟨_, rfl, rfl⟩⟩ rfl rfl ?_
          refine AOps.pass ⟨54, rfl, .inl ⟨_, rfl, rfl⟩⟩ rfl rfl ?_
          refine AOps.step rfl rfl rfl (AOp.pickT rfl rfl rfl) ?_
          refine AOps.step rfl rfl rfl (AOp.moveD rfl rfl) ?_
          refine AOps.pass ⟨58, rfl, .inl ⟨_, rfl, rfl⟩⟩ rfl rfl ?_
          refine AOps.pass ⟨58, rfl, .inl ⟨_, rfl, rfl⟩⟩ rfl rfl ?_
          refine AOps.step rfl rfl rfl (AOp.pickT rfl rfl rfl) ?_
          refine AOps.step rfl rfl rfl (AOp.moveD rfl rfl) ?_
          refine AOps.pass ⟨62, rfl, .inl ⟨_, rfl, rfl⟩⟩ rfl rfl ?_
          refine AOps.pass ⟨62, rfl, .inl ⟨_, rfl, rfl⟩⟩ rfl rfl ?_
          refine AOps.step rfl rfl rfl (AOp.pickT rfl rfl rfl) ?_
          refine AOps.nil ?_
          refine AWP.cond rfl (fun _ => ?_) (fun h => nomatch h)
          refine AWP.seq ?_
          refine AWP.region ?_
          refine AOps.step rfl rfl rfl (AOp.assignD rfl rfl) ?_
          refine AOps.nil ?_
          refine AWP.ret ?_
          refine ⟨⟨RetDX.eq rfl ?_, trivial⟩, ⟨mem_ob_eq (.head _) ?_, mem_ob_eq (.tail _ (.head _)) ?_, mem_ob_eq (.tail _ (.tail _ (.head _))) ?_, mem_ob_eq (.tail _ (.tail _ (.tail _ (.head _)))) ?_, trivial⟩⟩
          all_goals (rfl)
        · replace g4 := bnot_f g4
          obtain ⟨x, hx⟩ : ∃ x, numV b = some x := Option.isSome_iff_exists.1 (by simpa using g4)
          refine AOps.step ⟨54, rfl, .inl ⟨_, rfl, rfl⟩⟩ rfl rfl (AOp.moveD rfl rfl) ?_
          refine AOps.step ⟨54, rfl, .inl ⟨_, rfl, rfl⟩⟩ rfl rfl (AOp.not rfl rfl) ?_
          refine AOps.step rfl rfl rfl (AOp.pickF rfl rfl rfl) ?_
          refine AOps.step rfl rfl rfl (AOp.moveD rfl rfl) ?_
          refine AOps.split 58 rfl (fun g5 => ?_) (fun g5 => ?_)
          · replace g5 := bnot_t g5
            have HT := take_no (r := (⟨done, cur, roots, due⟩ : Rd)) (l := line.data.toList) hd0 (by rw [head_4 hw, if_neg ha, hx]; cases hh : numV c with
              | none => rfl
              | some y => rw [hh] at g5; cases g5)
            rw [HT]
            refine AOps.pass ⟨58, rfl, .inl ⟨_, rfl, rfl⟩⟩ rfl rfl ?_
            refine AOps.pass ⟨58, rfl, .inl ⟨_, rfl, rfl⟩⟩ rfl rfl ?_
            refine AOps.step rfl rfl rfl (AOp.pickT rfl rfl rfl) ?_
            refine AOps.step rfl rfl rfl (AOp.moveD rfl rfl) ?_
            refine AOps.pass ⟨62, rfl, .inl ⟨_, rfl, rfl⟩⟩ rfl rfl ?_
            refine AOps.pass ⟨62, rfl, .inl ⟨_, rfl, rfl⟩⟩ rfl rfl ?_
            refine AOps.step rfl rfl rfl (AOp.pickT rfl rfl rfl) ?_
            refine AOps.nil ?_
            refine AWP.cond rfl (fun _ => ?_) (fun h => nomatch h)
            refine AWP.seq ?_
            refine AWP.region ?_
            refine AOps.step rfl rfl rfl (AOp.assignD rfl rfl) ?_
            refine AOps.nil ?_
            refine AWP.ret ?_
            refine ⟨⟨RetDX.eq rfl ?_, trivial⟩, ⟨mem_ob_eq (.head _) ?_, mem_ob_eq (.tail _ (.head _)) ?_, mem_ob_eq (.tail _ (.tail _ (.head _))) ?_, mem_ob_eq (.tail _ (.tail _ (.tail _ (.head _)))) ?_, trivial⟩⟩
            all_goals (rfl)
          · replace g5 := bnot_f g5
            obtain ⟨y, hy⟩ : ∃ y, numV c = some y := Option.isSome_iff_exists.1 (by simpa using g5)
            refine AOps.step ⟨58, rfl, .inl ⟨_, rfl, rfl⟩⟩ rfl rfl (AOp.moveD rfl rfl) ?_
            refine AOps.step ⟨58, rfl, .inl ⟨_, rfl, rfl⟩⟩ rfl rfl (AOp.not rfl rfl) ?_
            refine AOps.step rfl rfl rfl (AOp.pickF rfl rfl rfl) ?_
            refine AOps.step rfl rfl rfl (AOp.moveD rfl rfl) ?_
            refine AOps.split 62 rfl (fun g6 => ?_) (fun g6 => ?_)
            · replace g6 := bnot_t g6
              have HT := take_no (r := (⟨done, cur, roots, due⟩ : Rd)) (l := line.data.toList) hd0 (by rw [head_4 hw, if_neg ha, hx, hy]; cases hh : unhx d 16 with
                | none => rfl
                | some z => rw [hh] at g6; cases g6)
              rw [HT]
              refine AOps.pass ⟨62, rfl, .inl ⟨_, rfl, rfl⟩⟩ rfl rfl ?_
              refine AOps.pass ⟨62, rfl, .inl ⟨_, rfl, rfl⟩⟩ rfl rfl ?_
              refine AOps.step rfl rfl rfl (AOp.pickT rfl rfl rfl) ?_
              refine AOps.nil ?_
              refine AWP.cond rfl (fun _ => ?_) (fun h => nomatch h)
              refine AWP.seq ?_
              refine AWP.region ?_
              refine AOps.step rfl rfl rfl (AOp.assignD rfl rfl) ?_
              refine AOps.nil ?_
              refine AWP.ret ?_
              refine ⟨⟨RetDX.eq rfl ?_, trivial⟩, ⟨mem_ob_eq (.head _) ?_, mem_ob_eq (.tail _ (.head _)) ?_, mem_ob_eq (.tail _ (.tail _ (.head _))) ?_, mem_ob_eq (.tail _ (.tail _ (.tail _ (.head _)))) ?_, trivial⟩⟩
              all_goals (rfl)
            · replace g6 := bnot_f g6
              obtain ⟨z, hz⟩ : ∃ z, unhx d 16 = some z := Option.isSome_iff_exists.1 (by simpa using g6)
              refine AOps.step ⟨62, rfl, .inl ⟨_, rfl, rfl⟩⟩ rfl rfl (AOp.moveD rfl rfl) ?_
              refine AOps.step ⟨62, rfl, .inl ⟨_, rfl, rfl⟩⟩ rfl rfl (AOp.eql rfl rfl rfl) ?_
              refine AOps.step rfl rfl rfl (AOp.pickF rfl rfl rfl) ?_
              refine AOps.nil ?_
              refine AWP.cond rfl (fun h7 => ?_) (fun h7 => ?_)
              · replace h7 := of_decide_eq_true h7
                have ey : (numV c).getD 0 = y := by rw [hy]; rfl
                have hy0 : y = 0 := by omega
                have HT := take_no (r := (⟨done, cur, roots, due⟩ : Rd)) (l := line.data.toList) hd0 (by rw [head_4 hw, if_neg ha, hx, hy, hz]; exact if_pos hy0)
                rw [HT]
                refine AWP.seq ?_
                refine AWP.region ?_
                refine AOps.step rfl rfl rfl (AOp.assignD rfl rfl) ?_
                refine AOps.nil ?_
                refine AWP.ret ?_
                refine ⟨⟨RetDX.eq rfl ?_, trivial⟩, ⟨mem_ob_eq (.head _) ?_, mem_ob_eq (.tail _ (.head _)) ?_, mem_ob_eq (.tail _ (.tail _ (.head _))) ?_, mem_ob_eq (.tail _ (.tail _ (.tail _ (.head _)))) ?_, trivial⟩⟩
                all_goals (rfl)
              · replace h7 := of_decide_eq_false h7
                have ex : (numV b).getD 0 = x := by rw [hx]; rfl
                have ey : (numV c).getD 0 = y := by rw [hy]; rfl
                have ez : (unhx d 16).getD 0 = z := by rw [hz]; rfl
                have hy0 : ¬ y = 0 := by omega
                have hxl := numV_lt hx
                have hyl := numV_lt hy
                have HH : headV line.data.toList = some (⟨strL a, x, y, []⟩, z) := by rw [head_4 hw, if_neg ha, hx, hy, hz]; exact if_neg hy0
                have HT := take_hd (r := (⟨done, cur, roots, due⟩ : Rd)) hd0 HH
                have hb0 := nblk_nn (a := (x : Int)) (b := (y : Int)) (by omega) (by omega)
                have hb1 := nblk_lea (a := (x : Int)) (b := (y : Int)) (by omega) (by omega)
                have hbn := Int.toNat_of_nonneg hb0
                rw [HT, ex, ey, ez]
                refine AWP.skip ?_
                refine AWP.seq ?_
                refine AWP.rdFreeze (done := done) (cur := cur) (roots := roots) (o6 := ob6 due) rfl ?_ (fun p hp => by simp only [List.mem_cons, List.not_mem_nil, or_false] at hp ⊢; rcases hp with rfl | rfl | rfl | rfl <;> simp)
                refine AWP.drawLTailL 21 [1] [⟨510, [79]⟩, ⟨511, [86]⟩] [(13, [79]), (20, [86])] (fun τ => ob6 due ∈ τ) (by kernel_rfl) (by kernel_rfl) (by kernel_rfl) (by kernel_rfl) (by kernel_rfl) ?_
                refine LRun.step rfl rfl rfl (.tail _ (.head _)) (fun τ hτ => AOp.moveP rfl rfl) ?_ rfl ⟨.inr rfl, .inr rfl, trivial⟩
                refine LRun.step rfl rfl rfl (.tail _ (.head _)) (fun τ hτ => AOp.moveP rfl rfl) ?_ rfl ⟨.inr rfl, .inr rfl, trivial⟩
                refine LRun.step rfl rfl rfl (.tail _ (.head _)) (fun τ hτ => AOp.moveP rfl rfl) ?_ rfl ⟨.inr rfl, .inr rfl, trivial⟩
                refine LRun.step rfl rfl rfl (.tail _ (.head _)) (fun τ hτ => AOp.nilCheckP rfl rfl) ?_ rfl ⟨.inr rfl, .inr rfl, trivial⟩
                refine LRun.step rfl rfl rfl (.tail _ (.head _)) (fun τ hτ => AOp.fieldAddrP rfl fo_35_0 rfl) ?_ rfl ⟨.inr rfl, .inr rfl, trivial⟩
                refine LRun.step rfl rfl rfl (.tail _ (.head _)) (fun τ hτ => AOp.loadP rfl sc_22 rfl hτ rfl) ?_ rfl ⟨.inr rfl, .inr rfl, trivial⟩
                refine LRun.step rfl rfl rfl (.tail _ (.head _)) (fun τ hτ => AOp.moveD rfl rfl) ?_ rfl ⟨.inr rfl, .inr rfl, trivial⟩
                refine LRun.step rfl rfl rfl (.tail _ (.head _)) (fun τ hτ => AOp.indexAddr rfl et_43 rfl rfl 0 rfl (show ((spl 32 line.data.toList).map pcD)[0]? = some (pcD a) by rw [hw]; rfl) rfl) ?_ rfl ⟨.inr rfl, .inr rfl, trivial⟩
                refine LRun.step rfl rfl rfl (.tail _ (.head _)) (fun τ hτ => AOp.load rfl sc_9 rfl) ?_ rfl ⟨.inr rfl, .inr rfl, trivial⟩
                refine LRun.step rfl rfl rfl (.tail _ (.head _)) (fun τ hτ => AOp.moveD rfl rfl) ?_ rfl ⟨.inr rfl, .inr rfl, trivial⟩
                refine LRun.step rfl rfl rfl (.tail _ (.head _)) (fun τ hτ => AOp.moveD rfl rfl) ?_ rfl ⟨.inr rfl, .inr rfl, trivial⟩
                refine LRun.step rfl rfl rfl (.tail _ (.head _)) (fun τ hτ => AOp.build rfl bu_40 (.cons rfl rfl (.cons rfl rfl (.cons rfl rfl .nil))) rfl) ?_ rfl ⟨.inr rfl, .inr rfl, trivial⟩
                refine LRun.step rfl rfl rfl (.tail _ (.head _)) (fun τ hτ => AOp.buildSlice rfl et_22 (.cons rfl rfl rfl .nil) rfl (by decide)) ?_ rfl ⟨.inr rfl, .inr rfl, trivial⟩
                refine LRun.eff rfl rfl (.tail _ (.head _)) (.tail _ (.head _)) (GE.appendN 510 (.head _) (fun t h1 => by simp [h1]) rfl rfl rfl rfl et_22 rfl (.head _) rfl (fun y hy => by obtain rfl := List.mem_singleton.1 hy; rfl) (by simp; omega) (by simp; omega) rfl rfl) ?_ (clean2 rfl)
                refine LRun.step rfl rfl rfl (.tail _ (.head _)) (fun τ hτ => AOp.moveP rfl rfl) ?_ rfl ⟨.inr rfl, .inr rfl, trivial⟩
                refine LRun.step rfl rfl rfl (.tail _ (.head _)) (fun τ hτ => AOp.nilCheckP rfl rfl) ?_ rfl ⟨.inr rfl, .inr rfl, trivial⟩
                refine LRun.step rfl rfl rfl (.tail _ (.head _)) (fun τ hτ => AOp.fieldAddrP rfl fo_35_1 rfl) ?_ rfl ⟨.inr rfl, .inr rfl, trivial⟩
                refine LRun.step rfl rfl rfl (.tail _ (.head _)) (fun τ hτ => AOp.loadP rfl sc_33 rfl hτ rfl) ?_ rfl ⟨.inr rfl, .inr rfl, trivial⟩
                refine LRun.step rfl rfl rfl (.tail _ (.head _)) (fun τ hτ => AOp.moveD rfl rfl) ?_ rfl ⟨.inr rfl, .inr rfl, trivial⟩
                refine LRun.step rfl rfl rfl (.tail _ (.head _)) (fun τ hτ => AOp.buildSlice rfl et_33 (.cons rfl rfl rfl .nil) rfl (by decide)) ?_ rfl ⟨.inr rfl, .inr rfl, trivial⟩
                refine LRun.eff rfl rfl (.tail _ (.head _)) (.tail _ (.tail _ (.head _))) (GE.appendN 511 (.tail _ (.head _)) (fun t h1 => by simp [h1]) rfl rfl rfl rfl et_33 rfl (.tail _ (.tail _ (.head _))) rfl (fun y hy => by obtain rfl := List.mem_singleton.1 hy; rfl) (by simp; omega) (by simp; omega) rfl rfl) ?_ (clean2' rfl)
                refine LRun.nil ?_
                refine AOps.step rfl rfl rfl (AOp.nilCheckP rfl rfl) ?_
                refine AOps.step rfl rfl rfl (AOp.fieldAddrP rfl fo_35_0 rfl) ?_
                refine AOps.eff rfl rfl (EOp.storeC rfl rfl sz_22 rfl (.tail _ (.tail _ (.head _))) rfl (.inl (OneS.own (.tail _ (.head _)))) (Nat.le_of_ble_eq_true rfl)) ?_
                refine AOps.step rfl rfl rfl (AOp.nilCheckP rfl rfl) ?_
                refine AOps.step rfl rfl rfl (AOp.fieldAddrP rfl fo_35_1 rfl) ?_
                refine AOps.eff rfl rfl (EOp.storeC rfl rfl sz_33 rfl (.tail _ (.tail _ (.head _))) rfl (.inl (OneS.own (.head _))) (Nat.le_of_ble_eq_true rfl)) ?_
                refine AOps.nil ?_
                refine AWP.seq ?_
                refine AWP.obsEq [(511, .row 41 1 (roots.map w64D ++ [[.v (.int .u64 (z : Int))]])), (510, .row 40 4 ((done ++ cur.toList).map Man.ds ++ [[.v (.string (strL a)), .v (.int .i64 (x : Int)), .v (.int .i64 (y : Int)), .v (.slice none 0 0)]])), (600, .cells [.own 510, .own 511, .d (.v (.int .i64 ((due : Nat) : Int)))])] rfl ?_
                refine AWP.rename 510 500 [(511, .row 41 1 (roots.map w64D ++ [[.v (.int .u64 (z : Int))]])), (500, .row 40 4 ((done ++ cur.toList).map Man.ds ++ [[.v (.string (strL a)), .v (.int .i64 (x : Int)), .v (.int .i64 (y : Int)), .v (.slice none 0 0)]])), (600, .cells [.own 500, .own 511, .d (.v (.int .i64 ((due : Nat) : Int)))])] (by decide) rfl (fun p hp => by
                    simp only [List.mem_cons, List.not_mem_nil, or_false] at hp
                    rcases hp with rfl | rfl | rfl
                    · exact .inr ⟨_, (.head _), Nat.ne_of_beq_eq_false rfl, Nat.ne_of_beq_eq_false rfl, rfl⟩
                    · exact .inl ⟨_, (.tail _ (.head _)), rfl, rfl⟩
                    · exact .inr ⟨_, (.tail _ (.tail _ (.head _))), Nat.ne_of_beq_eq_false rfl, Nat.ne_of_beq_eq_false rfl, rfl⟩
                    ) ?_
                refine AWP.rename 511 501 [(501, .row 41 1 (roots.map w64D ++ [[.v (.int .u64 (z : Int))]])), (500, .row 40 4 ((done ++ cur.toList).map Man.ds ++ [[.v (.string (strL a)), .v (.int .i64 (x : Int)), .v (.int .i64 (y : Int)), .v (.slice none 0 0)]])), (600, .cells [.own 500, .own 501, .d (.v (.int .i64 ((due : Nat) : Int)))])] (by decide) rfl (fun p hp => by
                    simp only [List.mem_cons, List.not_mem_nil, or_false] at hp
                    rcases hp with rfl | rfl | rfl
                    · exact .inl ⟨_, (.head _), rfl, rfl⟩
                    · exact .inr ⟨_, (.tail _ (.head _)), Nat.ne_of_beq_eq_false rfl, Nat.ne_of_beq_eq_false rfl, rfl⟩
                    · exact .inr ⟨_, (.tail _ (.tail _ (.head _))), Nat.ne_of_beq_eq_false rfl, Nat.ne_of_beq_eq_false rfl, rfl⟩
                    ) ?_
                refine AWP.adoptRow 700 53 1 500 (done ++ cur.toList).length 3 (.tail _ (.head _)) (adopt_at _ _) rfl rfl ?_
                refine AWP.obsEq [(700, .row 53 1 []), (501, .row 41 1 ((roots ++ [z]).map w64D)), (500, .rowS 40 4 (rdRow (done ++ cur.toList) (lastS ⟨strL a, x, y, []⟩))), (600, .cells [.own 500, .own 501, .d (.v (.int .i64 ((due : Nat) : Int)))])] (by rw [← adopt_eq, show (roots ++ [z]).map w64D = roots.map w64D ++ [[.v (.int .u64 (z : Int))]] by rw [List.map_append]; rfl]; rfl) ?_
                refine AWP.region ?_
                refine AOps.step rfl rfl rfl (AOp.moveP rfl rfl) ?_
                refine AOps.step rfl rfl rfl (AOp.moveD rfl rfl) ?_
                refine AOps.step rfl rfl rfl (AOp.moveD rfl rfl) ?_
                refine AOps.step rfl rfl rfl (AOp.call rfl (.cons (ArgOk.rfl' rfl) (.cons (ArgOk.rfl' rfl) .nil)) (by have := c_blocks x y (by omega) (by omega) (by omega); rw [← hbn] at this; exact this)) ?_
                refine AOps.step rfl rfl rfl (AOp.nilCheckP rfl rfl) ?_
                refine AOps.step rfl rfl rfl (AOp.fieldAddrP rfl fo_35_2 rfl) ?_
                refine AOps.store rfl rfl rfl sz_3 rfl (.tail _ (.tail _ (.tail _ (.head _)))) rfl rfl rfl (Nat.le_of_ble_eq_true rfl) ?_
                refine AOps.nil ?_
                refine AWP.seq ?_
                refine AWP.region ?_
                refine AOps.step rfl rfl rfl (AOp.assignD rfl rfl) ?_
                refine AOps.nil ?_
                refine AWP.ret ?_
                refine ⟨⟨RetDX.eq rfl ?_, trivial⟩, ⟨mem_ob_eq (.tail _ (.tail _ (.tail _ (.head _)))) ?_, mem_ob_eq (.tail _ (.tail _ (.head _))) ?_, mem_ob_eq (.tail _ (.head _)) ?_, mem_ob_eq (.head _) ?_, trivial⟩⟩
                all_goals (rfl)

end Go.Proofs.YtnapkooefpkicaaGreatDoor


namespace Go.Proofs.YtnapkooefpkicaaGreatDoor
open Go.RowKit
set_option linter.unusedVariables false
section
variable {cx : Cx} {ops : Array Oper} {o : Oper} {rest : List Oper} {e : Env} {σ : Obs} {Q : Post}
theorem AOps.callXTG {g : Nat} {T : World → Prop} {f : FuncId} {xs : List Operand} {ts : Array TypeId} {ss : List S} {σc σ' : Obs} {chg : Nat → Bool} {d : D} (hg : GW ops o e true) (hd : DstOk cx.N o)
    (ho : o.op = .call { callee := .value (.func f), args := xs.toArray, argTypes := ts }) (hT : TC g T cx) (ha : ArgsS e xs ss) (h : XCallT cx.P g T f ss σc σ' chg d) (hin : AllIn σ σc)
    (h1 : Obs.allIds (fun i => !(chg i)) (Obs.dels σc σ) = true) (h2 : Obs.allIds (fun i => Obs.allIds (fun j => !(Nat.beq i j)) (Obs.dels σc σ)) σ' = true) (h3 : ∀ i, chg i = true → cx.fixp i = false)
    (k : AOps cx ops rest ((e.killP chg).put o.dst (.d d)) (Obs.join σ' (Obs.killP chg (Obs.dels σc σ))) Q) : AOps cx ops (o :: rest) e σ Q := by
  intro a w ⟨F, ρ, hr⟩
  have hw := hg.wanted (fun t _ => hr.env t)
  have h4 := h.2 F ρ cx.B w _ (hT.now hr.below) (fun ⟨p, hp, hb⟩ => hT.fr (hr.kown p (hin.mem p hp) g hb)) hr.lt hr.hB (hr.obs.sub hin.mem) (ArgsS.rep hr.env ha)
  have h5 := h.1 (xs.map a.eval).toArray w
  have hx : (execOp a.eval o).run cx.P w = .ok (.enter f (xs.map a.eval).toArray) w := by
    unfold execOp
    simp only [ho, resolve, Deferred.ofValue, Act.eval, invoke, Sem.run_bind, Sem.run_pure, Result.andThen_ok]
    simpa using h5
  unfold wpList
  rw [if_pos hw]
  refine .inl ?_
  unfold Oper.wp
  rw [hx]
  refine h4.mono fun _ w' ⟨v, F', ρ', he, hv, hE⟩ => ?_
  subst he
  exact k _ _ ⟨F', ρ', (hr.after hin.mem hE h1 h2 h3).put (Ext.refl hE.lt) (.d hv) hd⟩
end
end Go.Proofs.YtnapkooefpkicaaGreatDoor


namespace Go.Proofs.YtnapkooefpkicaaGreatDoor
open Go.RowKit
set_option linter.unusedVariables false

/-! Types. -/
namespace TyVH
theorem ag_40 : AggT Tryz.prog 40 4 := .of (by kernel_rfl)
theorem et_22 : ElemTy Tryz.prog 22 40 4 56 (.agg #[(.string ⟨#[]⟩), (.int .i64 0), (.int .i64 0), (.slice none 0 0)]) := ⟨by kernel_rfl, by kernel_rfl, by kernel_rfl, by decide⟩
theorem et_33 : ElemTy Tryz.prog 33 41 1 8 (.int .u64 0) := ⟨by kernel_rfl, by kernel_rfl, by kernel_rfl, by decide⟩
theorem fo_35_0 : fieldOff Tryz.prog 35 0 = some 0 := by kernel_rfl
theorem fo_35_1 : fieldOff Tryz.prog 35 1 = some 1 := by kernel_rfl
theorem fo_35_2 : fieldOff Tryz.prog 35 2 = some 2 := by kernel_rfl
theorem fo_40_3 : fieldOff Tryz.prog 40 3 = some 3 := by kernel_rfl
theorem sc_22 : Scal Tryz.prog 22 := .of (by kernel_rfl)
theorem sc_3 : Scal Tryz.prog 3 := .of (by kernel_rfl)
theorem sc_33 : Scal Tryz.prog 33 := .of (by kernel_rfl)
theorem sc_38 : Scal Tryz.prog 38 := .of (by kernel_rfl)
theorem sc_41 : Scal Tryz.prog 41 := .of (by kernel_rfl)
theorem st_9 : Tryz.prog.underlying 9 = some .string := by kernel_rfl
theorem sz_40 : ∀ w, (sizeOf 40).run Tryz.prog w = .ok 4 w := SizeT.of (by kernel_rfl)
theorem zt_35 : (Tryz.prog.info? 35).bind (·.zero) = some (.agg #[(.slice none 0 0), (.slice none 0 0), (.int .i64 0)]) := by kernel_rfl
theorem zt_40 : (Tryz.prog.info? 40).bind (·.zero) = some (.agg #[(.string ⟨#[]⟩), (.int .i64 0), (.int .i64 0), (.slice none 0 0)]) := by kernel_rfl
end TyVH
open TyVH


open Go.Lib
set_option linter.unusedSimpArgs false
/-! ## Read, plainly -/
/-- The first of n that is bad. -/
def fb (bad : Nat → Bool) : Nat → Option Nat
  | 0 => none
  | n + 1 => match fb bad n with
    | some k => some k
    | none => if bad n = true then some n else none
theorem fb_next {bad : Nat → Bool} {k : Nat} (h : fb bad k = none) (h2 : bad k = false) : fb bad (k + 1) = none := by
  unfold fb; rw [h]; simp [h2]
theorem fb_hit {bad : Nat → Bool} {k : Nat} (h : fb bad k = none) (h2 : bad k = true) : ∀ n, k < n → fb bad n = some k
  | 0, hn => by omega
  | n + 1, hn => by
    unfold fb
    by_cases hk : k = n
    · subst hk; rw [h]; simp [h2]
    · rw [fb_hit h h2 n (by omega)]
theorem fb_all {bad : Nat → Bool} : ∀ {n : Nat}, fb bad n = none → ∀ k, k < n → bad k = false
  | 0, _, k, hk => by omega
  | n + 1, h, k, hk => by
    unfold fb at h
    cases hn : fb bad n with
    | some j => rw [hn] at h; cases h
    | none =>
      rw [hn] at h
      by_cases hb : bad n = true
      · simp [hb] at h
      · by_cases hkn : k = n
        · subst hkn; simpa using hb
        · exact fb_all hn k (by omega)
def rd0 : Rd := ⟨[], none, [], 0⟩
/-- What has been read behind k lines. -/
def rdTo (ls : List (List UInt8)) : Nat → Rd
  | 0 => rd0
  | k + 1 => (takeS (rdTo ls k) (ls.getD k [])).1
def wholeB (ls : List (List UInt8)) : Bool := decide (ls.getD (ls.length - 1) [] = [])
def nLn (ls : List (List UInt8)) : Nat := if wholeB ls = true then ls.length - 1 else ls.length
def badLn (ls : List (List UInt8)) (k : Nat) : Bool := !(takeS (rdTo ls k) (ls.getD k [])).2 || (!wholeB ls && decide (k + 1 = ls.length))
noncomputable def badRt (r : Rd) (k : Nat) : Bool := decide (rootN (((r.all).getD k ⟨⟨#[]⟩, 0, 0, []⟩).sums) ≠ r.roots.getD k 0)
noncomputable def endV (r : Rd) : List Man × Int × Int := if (fb (badRt r) r.all.length).isSome = true then ([], 0, 12) else if mansF r.all ≠ 0 then ([], 0, mansF r.all) else (r.all, 0, 0)
noncomputable def readV (text : List UInt8) : List Man × Int × Int :=
  if 200000 < text.length then ([], 0, 2) else match fb (badLn (spl 10 text)) (nLn (spl 10 text)) with
    | some k => ([], (k : Int) + 1, 10)
    | none => if 0 < (rdTo (spl 10 text) (nLn (spl 10 text))).due then ([], (nLn (spl 10 text) : Int) + 1, 10) else endV (rdTo (spl 10 text) (nLn (spl 10 text)))
structure RdI (r : Rd) (c : Nat) : Prop where
  len : r.all.length ≤ c
  mans : ∀ m ∈ r.all, m.item.size ≤ c ∧ m.sums.length ≤ c ∧ Sums32 m.sums
  rlen : r.roots.length = r.all.length
  rts : ∀ x ∈ r.roots, x < 18446744073709551616
  due : r.due ≤ 2000000000
  cur : 0 < r.due → ∃ m, r.cur = some m
theorem RdI.mono {r : Rd} {c c' : Nat} (h : RdI r c) (hc : c ≤ c') : RdI r c' := ⟨Nat.le_trans h.len hc, fun m hm => ⟨Nat.le_trans (h.mans m hm).1 hc, Nat.le_trans (h.mans m hm).2.1 hc, (h.mans m hm).2.2⟩, h.rlen, h.rts, h.due, h.cur⟩
theorem head_some {l : List UInt8} {p : Man × Nat} (h : headV l = some p) : ∃ a b c d x y z, spl 32 l = [a, b, c, d] ∧ a ≠ [] ∧ numV b = some x ∧ numV c = some y ∧ unhx d 16 = some z ∧ y ≠ 0 ∧ p = (⟨strL a, x, y, []⟩, z) := by
  unfold headV at h
  split at h
  · rename_i a b c d hs
    split at h
    · cases h
    · rename_i ha
      split at h
      · rename_i x y z hx hy hz
        split at h
        · cases h
        · rename_i hy0
          cases h
          exact ⟨a, b, c, d, x, y, z, hs, ha, hx, hy, hz, hy0, rfl⟩
      · cases h
  · cases h
theorem tsS_lt {s : List Nat} {due : Nat} {l : List UInt8} (h : Sums32 s) : Sums32 (tsS s due l) := by
  unfold tsS
  split
  · intro n hn
    rcases List.mem_append.1 hn with hn | hn
    · exact h n hn
    · exact pre8_lt _ n hn
  · exact h
theorem tsS_len {s : List Nat} {due : Nat} {l : List UInt8} : (tsS s due l).length ≤ s.length + l.length + 1 := by
  unfold tsS
  split
  · rw [List.length_append]
    have h1 := pre8_len (sumW l)
    have h2 : (sumW l).length ≤ _ := spl_length_le 32 _
    have h3 := trimP_le l [32, 32]
    omega
  · omega
theorem tsD_le {due : Nat} {l : List UInt8} : tsD due l ≤ due := by unfold tsD; split <;> omega
theorem RdI.step {r : Rd} {c : Nat} (h : RdI r c) (l : List UInt8) : RdI (takeS r l).1 (c + l.length + 1) := by
  by_cases hd : 0 < r.due
  · obtain ⟨m, hm⟩ := h.cur hd
    rw [take_sm hd hm]
    have hall : r.all = r.done ++ [m] := by unfold Rd.all; rw [hm]; rfl
    refine ⟨?_, fun x hx => ?_, ?_, h.rts, Nat.le_trans tsD_le h.due, fun _ => ⟨_, rfl⟩⟩
    · have := h.len
      rw [hall] at this
      show (r.done ++ [_]).length ≤ _
      simp at this ⊢
      omega
    · have hx' : x ∈ r.done ++ [(⟨m.item, m.size, m.block, tsS m.sums r.due l⟩ : Man)] := hx
      rcases List.mem_append.1 hx' with hx' | hx'
      · have := h.mans x (by rw [hall]; exact List.mem_append_left _ hx')
        exact ⟨by omega, by omega, this.2.2⟩
      · obtain rfl := List.mem_singleton.1 hx'
        have := h.mans m (by rw [hall]; simp)
        have h2 := tsS_len (s := m.sums) (due := r.due) (l := l)
        exact ⟨by show m.item.size ≤ _; omega, by show (tsS m.sums r.due l).length ≤ _; omega, tsS_lt this.2.2⟩
    · have := h.rlen
      rw [hall] at this
      show r.roots.length = (r.done ++ [_]).length
      simp at this ⊢
      omega
  · cases hh : headV l with
    | none => rw [take_no hd hh]; exact h.mono (by omega)
    | some p =>
      rw [take_hd hd hh]
      obtain ⟨a, b, c', d, x, y, z, hs, ha, hx, hy, hz, hy0, rfl⟩ := head_some hh
      obtain ⟨hla, _, _, _⟩ := spl_l4 hs
      have hxl := numV_lt hx
      have hyl := numV_lt hy
      have hz16 := unhx_lt hz
      have hb0 := nblk_nn (a := (x : Int)) (b := (y : Int)) (by omega) (by omega)
      have hb1 := nblk_lea (a := (x : Int)) (b := (y : Int)) (by omega) (by omega)
      refine ⟨?_, fun m hm => ?_, ?_, fun v hv => ?_, ?_, fun _ => ⟨_, rfl⟩⟩
      · have := h.len
        show (r.all ++ [_]).length ≤ _
        simp
        omega
      · have hm' : m ∈ r.all ++ [(⟨strL a, x, y, []⟩ : Man)] := hm
        rcases List.mem_append.1 hm' with hm' | hm'
        · have := h.mans m hm'
          exact ⟨by omega, by omega, this.2.2⟩
        · obtain rfl := List.mem_singleton.1 hm'
          exact ⟨by show (strL a).size ≤ _; rw [strL_size]; omega, by simp, fun n hn => by cases hn⟩
      · have := h.rlen
        show (r.roots ++ [z]).length = (r.all ++ [_]).length
        simp [this]
      · have hv' : v ∈ r.roots ++ [z] := hv
        rcases List.mem_append.1 hv' with hv' | hv'
        · exact h.rts v hv'
        · obtain rfl := List.mem_singleton.1 hv'
          have h2 : (16 : Nat) ^ 16 = 18446744073709551616 := by decide
          omega
      · show (nblocks (x : Int) (y : Int)).toNat ≤ _
        omega
theorem rdI_0 (c : Nat) : RdI rd0 c := ⟨by simp [rd0, Rd.all], fun m hm => by simp [rd0, Rd.all] at hm, rfl, fun x hx => by simp [rd0] at hx, by simp [rd0], fun h => by simp [rd0] at h⟩
theorem RdI.cs {r : Rd} {c : Nat} (h : RdI r c) : (curS r.cur).length ≤ c := by
  cases hc : r.cur with
  | none => simp [curS]
  | some m => exact (h.mans m (by unfold Rd.all; rw [hc]; simp)).2.1
/-! ## Lines -/
theorem drop_one {α : Type} {l : List α} {k : Nat} {x : α} (h : l.drop k = [x]) : l.length = k + 1 ∧ l[k]? = some x := by
  have h1 := congrArg List.length h
  rw [List.length_drop] at h1
  simp at h1
  refine ⟨by omega, ?_⟩
  rw [← List.head?_drop, h]; rfl
theorem drop_cons {α : Type} {l r : List α} {k : Nat} {x : α} (h : l.drop k = x :: r) : l[k]? = some x ∧ l.drop (k + 1) = r ∧ k + 1 + r.length = l.length := by
  have h1 := congrArg List.length h
  rw [List.length_drop] at h1
  simp at h1
  refine ⟨by rw [← List.head?_drop, h]; rfl, by rw [← List.drop_drop, h]; rfl, by omega⟩
theorem ln_end {ls : List (List UInt8)} {k : Nat} (h : ls.drop k = [[]]) : wholeB ls = true ∧ nLn ls = k := by
  obtain ⟨h1, h2⟩ := drop_one h
  have hw : wholeB ls = true := by
    unfold wholeB
    rw [h1, Nat.add_sub_cancel, List.getD_eq_getElem?_getD, h2]; rfl
  refine ⟨hw, ?_⟩
  unfold nLn
  rw [if_pos hw, h1]; rfl
theorem ln_last {ls : List (List UInt8)} {k : Nat} {x : List UInt8} (h : ls.drop k = [x]) (hx : x ≠ []) : wholeB ls = false ∧ nLn ls = k + 1 ∧ badLn ls k = true := by
  obtain ⟨h1, h2⟩ := drop_one h
  have hw : wholeB ls = false := by
    unfold wholeB
    rw [h1, Nat.add_sub_cancel, List.getD_eq_getElem?_getD, h2]
    exact decide_eq_false hx
  refine ⟨hw, ?_, ?_⟩
  · unfold nLn
    rw [if_neg (by rw [hw]; decide), h1]
  · unfold badLn
    rw [hw, h1]
    simp
theorem ln_mid {ls r : List (List UInt8)} {k : Nat} {x : List UInt8} (h : ls.drop k = x :: r) (hr : r ≠ []) : ls.getD k [] = x ∧ k < nLn ls ∧ badLn ls k = !(takeS (rdTo ls k) x).2 := by
  obtain ⟨h1, h2, h3⟩ := drop_cons h
  have hg : ls.getD k [] = x := by rw [List.getD_eq_getElem?_getD, h1]; rfl
  have hl : 0 < r.length := List.length_pos_iff.2 hr
  refine ⟨hg, ?_, ?_⟩
  · unfold nLn
    split <;> omega
  · unfold badLn
    rw [hg, decide_eq_false (show ¬ k + 1 = ls.length by omega)]
    simp
theorem c_cutL (l : List UInt8) (c : UInt8) (hs : l.length < 4294967281) : ACallT Tryz.prog MaxT 11 [.v (.string (strL l)), .v (.string ⟨#[c]⟩)]
    (.tup [.v (.string (strL (Lib.cut l [c]).1)), .v (.string (strL (Lib.cut l [c]).2.1)), .v (.bool (Lib.cut l [c]).2.2)]) := c_cut (strL l) c (by rw [strL_size]; exact hs)
theorem read_bad {t : List UInt8} {k : Nat} (h0 : ¬ 200000 < t.length) (h : fb (badLn (spl 10 t)) (nLn (spl 10 t)) = some k) : readV t = ([], (k : Int) + 1, 10) := by
  unfold readV; rw [if_neg h0, h]
theorem read_due {t : List UInt8} (h0 : ¬ 200000 < t.length) (h : fb (badLn (spl 10 t)) (nLn (spl 10 t)) = none) (hd : 0 < (rdTo (spl 10 t) (nLn (spl 10 t))).due) : readV t = ([], (nLn (spl 10 t) : Int) + 1, 10) := by
  unfold readV; rw [if_neg h0, h]; exact if_pos hd
theorem read_end {t : List UInt8} (h0 : ¬ 200000 < t.length) (h : fb (badLn (spl 10 t)) (nLn (spl 10 t)) = none) (hd : ¬ 0 < (rdTo (spl 10 t) (nLn (spl 10 t))).due) : readV t = endV (rdTo (spl 10 t) (nLn (spl 10 t))) := by
  unfold readV; rw [if_neg h0, h]; exact if_neg hd
theorem end_root {r : Rd} {k : Nat} (h : fb (badRt r) k = none) (hk : k < r.all.length) (hb : badRt r k = true) : endV r = ([], 0, 12) := by
  unfold endV; rw [fb_hit h hb _ hk]; rfl
theorem end_f {r : Rd} (h : fb (badRt r) r.all.length = none) (hf : mansF r.all ≠ 0) : endV r = ([], 0, mansF r.all) := by
  unfold endV; rw [h]; exact if_pos hf
theorem end_ok {r : Rd} (h : fb (badRt r) r.all.length = none) (hf : mansF r.all = 0) : endV r = (r.all, 0, 0) := by
  unfold endV; rw [h, hf]; rfl
theorem w64_at {l : List Nat} {k : Nat} (h : k < l.length) : (l.map w64D)[k]? = some (w64D (l.getD k 0)) := by
  rw [List.getElem?_map, List.getD_eq_getElem?_getD, List.getElem?_eq_getElem h]; rfl
theorem bad_rt {r : Rd} {k : Nat} (h : k < r.all.length) : badRt r k = decide (rootN (r.all[k]).sums ≠ r.roots.getD k 0) := by
  unfold badRt
  rw [List.getD_eq_getElem?_getD, List.getElem?_eq_getElem h]; rfl


set_option maxRecDepth 100000 in
set_option maxHeartbeats 4000000 in
theorem c_pRead (s : ByteArray) : ACallT Tryz.prog MaxT 5 [.v (.string s)] (.tup [.sl ((readV s.data.toList).1.map Man.ds), .v (.int .i64 (readV s.data.toList).2.1), .v (.int .i64 (readV s.data.toList).2.2)]) := by
  refine acall_ofT (n := 65) (ds' := [.sl ((readV s.data.toList).1.map Man.ds), .v (.int .i64 (readV s.data.toList).2.1), .v (.int .i64 (readV s.data.toList).2.2)]) Tryz.func5 rfl (by kernel_rfl) rfl [2, 3, 4] rfl rfl ?_
  intro B w0 F0 hT
  have hsl := Lib.size_eq s
  refine AWP.seq ?_
  refine AWP.region ?_
  refine AOps.step rfl rfl rfl (AOp.assignD rfl rfl) ?_
  refine AOps.step rfl rfl rfl (AOp.assignD rfl rfl) ?_
  refine AOps.step rfl rfl rfl (AOp.assignD rfl rfl) ?_
  refine AOps.nil ?_
  refine AWP.seq ?_
  refine AWP.seq ?_
  refine AWP.region ?_
  refine AOps.step rfl rfl rfl (AOp.moveD rfl rfl) ?_
  refine AOps.step rfl rfl rfl (AOp.lenStr rfl st_9 rfl) ?_
  refine AOps.step rfl rfl rfl (AOp.gtr rfl rfl rfl) ?_
  refine AOps.nil ?_
  refine AWP.cond rfl (fun h1 => ?_) (fun h1 => ?_)
  · replace h1 := of_decide_eq_true h1
    have HR : readV s.data.toList = ([], 0, 2) := if_pos (by omega)
    rw [HR]
    refine AWP.seq ?_
    refine AWP.region ?_
    refine AOps.step rfl rfl rfl (AOp.assignD rfl rfl) ?_
    refine AOps.step rfl rfl rfl (AOp.assignD rfl rfl) ?_
    refine AOps.step rfl rfl rfl (AOp.assignD rfl rfl) ?_
    refine AOps.nil ?_
    refine AWP.ret ?_
    refine ⟨RetD.nil rfl, RetD.eq rfl ?_, RetD.eq rfl ?_, trivial⟩
    all_goals (rfl)
  · replace h1 := of_decide_eq_false h1
    have h0 : ¬ 200000 < s.data.toList.length := by omega
    refine AWP.skip ?_
    refine AWP.seq ?_
    refine AWP.region ?_
    refine AOps.alloc 600 rfl rfl rfl rfl zt_35 rfl rfl rfl ?_
    refine AOps.adoptCell 500 40 4 600 0 (.head _) rfl rfl ?_
    refine AOps.adoptCell 501 41 1 600 1 (.tail _ (.head _)) rfl rfl ?_
    refine AOps.nil ?_
    refine AWP.seq ?_
    refine AWP.rowToS 500 (.tail _ (.head _)) ?_
    refine AWP.adopt 2 700 53 1 rfl rfl ?_
    refine AWP.obs (σ' := rdObs rd0) (fun p hp => by
      simp only [rdObs, List.mem_cons, List.not_mem_nil, or_false] at hp
      rcases hp with rfl | rfl | rfl | rfl
      · exact .tail _ (.tail _ (.tail _ (.head _)))
      · exact .tail _ (.tail _ (.head _))
      · exact .tail _ (.head _)
      · exact .head _) ?_
    refine AWP.region ?_
    refine AOps.step rfl rfl rfl (AOp.assignD rfl rfl) ?_
    refine AOps.nil ?_
    refine AWP.seq ?_
    refine AWP.block ?_
    refine AWP.loop (G := Nat × List UInt8 × Rd) (fun ⟨k, T, r⟩ => Env.of [(0, .d (.v (.string (strL T)))), (6, .d (.v (.int .i64 ((k : Int) + 1)))), (5, .ptr 600 0)]) (fun ⟨k, T, r⟩ => (rdObs r)) (fun ⟨k, T, r⟩ => r = rdTo (spl 10 s.data.toList) k ∧ spl 10 T = (spl 10 s.data.toList).drop k ∧ fb (badLn (spl 10 s.data.toList)) k = none ∧ RdI r (s.size - T.length) ∧ T.length ≤ s.size ∧ k + T.length ≤ s.size) (fun ⟨k, T, r⟩ => T.length) (0, s.data.toList, rd0) ⟨rfl, rfl, rfl, rdI_0 _, by omega, by omega⟩ (Sub.less ⟨(SLe.of_eq rfl), (SLe.of_eq rfl), SLe.refl _, trivial⟩ (fun _ h => h)) ?_
    rintro ⟨k, T, r⟩ ⟨hr, hS, hF, HI, hTs, hks⟩
    try dsimp only at hr hS hF HI hTs hks
    refine AWP.seq ?_
    refine AWP.seq ?_
    refine AWP.region ?_
    refine AOps.step rfl rfl rfl (AOp.moveD rfl rfl) ?_
    refine AOps.step rfl rfl rfl (AOp.sneq rfl rfl rfl) ?_
    refine AOps.nil ?_
    refine AWP.cond rfl (fun h2 => ?_) (fun h2 => ?_)
    · replace h2 := of_decide_eq_true h2
      have hTn : T ≠ [] := fun hh => h2 (strL_nil.2 hh)
      have hsc := spl_ct 10 T
      have hcc := cut_ct 10 T
      refine AWP.skip ?_
      refine AWP.seq ?_
      refine AWP.block ?_
      refine AWP.seq ?_
      refine AWP.region ?_
      refine AOps.step rfl rfl rfl (AOp.moveD rfl rfl) ?_
      -- wants the world
      refine AOps.callT rfl rfl rfl hT maxT_stays rfl (.cons (ArgOk.rfl' rfl) (.cons (ArgOk.rfl' rfl) .nil)) (c_cutL T 10 (by omega)) ?_
      refine AOps.step rfl rfl rfl (AOp.moveD rfl rfl) ?_
      refine AOps.step rfl rfl rfl (AOp.extract rfl rfl rfl) ?_
      refine AOps.step rfl rfl rfl (AOp.extract rfl rfl rfl) ?_
      refine AOps.step rfl rfl rfl (AOp.extract rfl rfl rfl) ?_
      refine AOps.step rfl rfl rfl (AOp.assignD rfl rfl) ?_
      refine AOps.step rfl rfl rfl (AOp.assignD rfl rfl) ?_
      refine AOps.step rfl rfl rfl (AOp.assignD rfl rfl) ?_
      refine AOps.nil ?_
      refine AWP.seq ?_
      refine AWP.seq ?_
      refine AWP.region ?_
      refine AOps.step rfl rfl rfl (AOp.moveD rfl rfl) ?_
      refine AOps.step rfl rfl rfl (AOp.not rfl rfl) ?_
      refine AOps.step rfl rfl rfl (AOp.moveD rfl rfl) ?_
      refine AOps.split 28 rfl (fun g3 => ?_) (fun g3 => ?_)
      · replace g3 := bnot_t g3
        have hct : ct 10 T = none := by
          cases hc : ct 10 T with
          | none => rfl
          | some p => rw [hc] at hcc; rw [hcc] at g3; cases g3
        rw [hct] at hsc
        obtain ⟨_, hn1, hbd⟩ := ln_last (ls := (spl 10 s.data.toList)) (k := k) (x := T) (by rw [← hS]; exact hsc) hTn
        rw [read_bad h0 (fb_hit hF hbd _ (by omega))]
        refine AOps.pass ⟨28, rfl, .inl ⟨_, rfl, rfl⟩⟩ rfl rfl ?_
        refine AOps.pass ⟨28, rfl, .inl ⟨_, rfl, rfl⟩⟩ rfl rfl ?_
        refine AOps.pass ⟨28, rfl, .inl ⟨_, rfl, rfl⟩⟩ rfl rfl ?_
        refine AOps.step rfl rfl rfl (AOp.pickT rfl rfl rfl) ?_
        refine AOps.nil ?_
        refine AWP.cond rfl (fun _ => ?_) (fun h => nomatch h)
        refine AWP.seq ?_
        refine AWP.region ?_
        refine AOps.step rfl rfl rfl (AOp.moveD rfl rfl) ?_
        refine AOps.step rfl rfl rfl (AOp.assignD rfl rfl) ?_
        refine AOps.step rfl rfl rfl (AOp.assignD rfl rfl) ?_
        refine AOps.step rfl rfl rfl (AOp.assignD rfl rfl) ?_
        refine AOps.nil ?_
        refine AWP.ret ?_
        refine ⟨RetD.nil rfl, RetD.eq rfl ?_, RetD.eq rfl ?_, trivial⟩
        all_goals (rfl)
      · replace g3 := bnot_f g3
        obtain ⟨⟨x, T2⟩, hct⟩ : ∃ p, ct 10 T = some p := by
          cases hc : ct 10 T with
          | none => rw [hc] at hcc; rw [hcc] at g3; cases g3
          | some p => exact ⟨p, rfl⟩
        rw [hct] at hsc hcc
        dsimp only at hsc hcc
        have hTl := congrArg List.length (ct_some hct)
        simp only [List.length_append, List.length_cons] at hTl
        obtain ⟨hgk, hkn, hbk⟩ := ln_mid (ls := (spl 10 s.data.toList)) (k := k) (x := x) (r := spl 10 T2) (by rw [← hS]; exact hsc) (spl_ne 10 T2)
        obtain ⟨_, hS2, _⟩ := drop_cons (show (spl 10 s.data.toList).drop k = x :: spl 10 T2 by rw [← hS]; exact hsc)
        have HI2 := (HI.step x).mono (c' := s.size - T2.length) (by omega)
        have hcs := HI.cs
        have hal := HI.len
        have hrl := HI.rlen
        rw [← hr] at hbk
        rw [hcc]
        try dsimp only
        refine AOps.step ⟨28, rfl, .inl ⟨_, rfl, rfl⟩⟩ rfl rfl (AOp.moveD rfl rfl) ?_
        -- writes 600 500 501 700
        refine AOps.callXTG ⟨28, rfl, .inl ⟨_, rfl, rfl⟩⟩ rfl rfl (TC.of maxT_at hT) (.cons (SLe.refl _) (.cons (SLe.refl _) .nil)) (c_take r.done r.cur r.roots r.due (strL x) (by rw [strL_size]; omega) (by show r.all.length ≤ _; omega) (by omega) (by omega) HI.due HI.cur) ⟨(.head _), (.tail _ (.head _)), (.tail _ (.tail _ (.head _))), (.tail _ (.tail _ (.tail _ (.head _)))), trivial⟩ rfl rfl (fun _ h => rfl) ?_
        refine AOps.step ⟨28, rfl, .inl ⟨_, rfl, rfl⟩⟩ rfl rfl (AOp.not rfl rfl) ?_
        refine AOps.step rfl rfl rfl (AOp.pickF rfl rfl rfl) ?_
        refine AOps.nil ?_
        refine AWP.cond rfl (fun h4 => ?_) (fun h4 => ?_)
        · replace h4 := bnot_t h4
          have h4 : (takeS r x).2 = false := h4
          have HB : badLn (spl 10 s.data.toList) k = true := by rw [hbk, h4]; rfl
          rw [read_bad h0 (fb_hit hF HB _ hkn)]
          refine AWP.seq ?_
          refine AWP.region ?_
          refine AOps.step rfl rfl rfl (AOp.moveD rfl rfl) ?_
          refine AOps.step rfl rfl rfl (AOp.assignD rfl rfl) ?_
          refine AOps.step rfl rfl rfl (AOp.assignD rfl rfl) ?_
          refine AOps.step rfl rfl rfl (AOp.assignD rfl rfl) ?_
          refine AOps.nil ?_
          refine AWP.ret ?_
          refine ⟨RetD.nil rfl, RetD.eq rfl ?_, RetD.eq rfl ?_, trivial⟩
          all_goals (rfl)
        · replace h4 := bnot_f h4
          have h4 : (takeS r x).2 = true := h4
          have HB : badLn (spl 10 s.data.toList) k = false := by rw [hbk, h4]; rfl
          refine AWP.skip ?_
          refine AWP.region ?_
          refine AOps.step rfl rfl rfl (AOp.moveD rfl rfl) ?_
          refine AOps.step rfl rfl rfl (AOp.assignD rfl rfl) ?_
          refine AOps.nil ?_
          refine AWP.region ?_
          refine AOps.step rfl rfl rfl (AOp.moveD rfl rfl) ?_
          refine AOps.step rfl rfl rfl (AOp.add64 rfl rfl rfl (by omega) (by omega)) ?_
          refine AOps.step rfl rfl rfl (AOp.assignD rfl rfl) ?_
          refine AOps.nil ?_
          refine ⟨(k + 1, T2, (takeS r x).1), ⟨by show _ = (takeS (rdTo _ k) _).1; rw [hgk, ← hr], hS2.symm, fb_next hF HB, HI2, by show T2.length ≤ s.size; omega, by show k + 1 + T2.length ≤ s.size; omega⟩, (by dsimp only; omega), Sub.less ⟨(SLe.of_eq rfl), (SLe.of_eq rfl), SLe.refl _, trivial⟩ (fun _ h => h)⟩
    · replace h2 := of_decide_eq_false h2
      have hTe : T = [] := strL_nil.1 (Decidable.not_not.1 h2)
      subst hTe
      obtain ⟨hwh, hnk⟩ := ln_end (ls := (spl 10 s.data.toList)) (k := k) hS.symm
      rw [← hnk] at hF hr
      replace HI := HI.mono (c' := s.size) (by omega)
      have hal := HI.len
      refine AWP.exit ?_
      refine AWP.seq ?_
      refine AWP.seq ?_
      refine AWP.region ?_
      refine AOps.step rfl rfl rfl (AOp.fieldAddrP rfl fo_35_2 rfl) ?_
      refine AOps.step rfl rfl rfl (AOp.loadP rfl sc_3 rfl (.head _) rfl) ?_
      refine AOps.step rfl rfl rfl (AOp.gtr rfl rfl rfl) ?_
      refine AOps.nil ?_
      refine AWP.cond rfl (fun h5 => ?_) (fun h5 => ?_)
      · replace h5 := of_decide_eq_true h5
        have hd : 0 < (rdTo (spl 10 s.data.toList) (nLn (spl 10 s.data.toList))).due := by rw [← hr]; omega
        rw [read_due h0 hF hd, hnk]
        refine AWP.seq ?_
        refine AWP.region ?_
        refine AOps.step rfl rfl rfl (AOp.moveD rfl rfl) ?_
        refine AOps.step rfl rfl rfl (AOp.assignD rfl rfl) ?_
        refine AOps.step rfl rfl rfl (AOp.assignD rfl rfl) ?_
        refine AOps.step rfl rfl rfl (AOp.assignD rfl rfl) ?_
        refine AOps.nil ?_
        refine AWP.ret ?_
        refine ⟨RetD.nil rfl, RetD.eq rfl ?_, RetD.eq rfl ?_, trivial⟩
        all_goals (rfl)
      · replace h5 := of_decide_eq_false h5
        have hd : ¬ 0 < (rdTo (spl 10 s.data.toList) (nLn (spl 10 s.data.toList))).due := by rw [← hr]; omega
        rw [read_end h0 hF hd, ← hr]
        refine AWP.skip ?_
        refine AWP.seq ?_
        refine AWP.seq ?_
        refine AWP.rdFreeze (done := r.done) (cur := r.cur) (roots := r.roots) (o6 := ob6 r.due) rfl ?_ (fun p hp => by simp only [rdObs, List.mem_cons, List.not_mem_nil, or_false] at hp ⊢; rcases hp with rfl | rfl | rfl | rfl <;> simp)
        refine AWP.freezeIn 600 0 rfl (.head _) (.head _) ?_
        refine AWP.freezeIn 600 1 rfl (.head _) (.tail _ (.head _)) ?_
        refine AWP.obsEq [(600, .cells [.d (.sl (r.all.map Man.ds)), .d (.sl (r.roots.map w64D)), .d (.v (.int .i64 ((r.due : Nat) : Int)))])] rfl ?_
        refine AWP.region ?_
        refine AOps.step rfl rfl rfl (AOp.fieldAddrP rfl fo_35_0 rfl) ?_
        refine AOps.step rfl rfl rfl (AOp.loadP rfl sc_22 rfl (.head _) rfl) ?_
        refine AOps.step rfl rfl rfl (AOp.lenSl rfl et_22.ht rfl) ?_
        refine AOps.step rfl rfl rfl (AOp.moveD rfl rfl) ?_
        refine AOps.nil ?_
        refine AWP.block ?_
        refine AWP.loop (G := Nat) (fun j => Env.of [(42, .d (.v (.int .i64 (j : Int)))), (40, .d (.sl (r.all.map Man.ds))), (41, .d (.v (.int .i64 ((r.all.map Man.ds).length : Int)))), (5, .ptr 600 0)]) (fun j => [(600, .cells [.d (.sl (r.all.map Man.ds)), .d (.sl (r.roots.map w64D)), .d (.v (.int .i64 ((r.due : Nat) : Int)))])]) (fun j => j ≤ r.all.length ∧ fb (badRt r) j = none) (fun j => r.all.length - j) 0 ⟨Nat.zero_le _, rfl⟩ (Sub.less ⟨(SLe.of_eq rfl), SLe.refl _, SLe.refl _, SLe.refl _, trivial⟩ (fun _ h => h)) ?_
        intro j hj
        refine AWP.seq ?_
        refine AWP.region ?_
        refine AOps.step rfl rfl rfl (AOp.lss rfl rfl rfl) ?_
        refine AOps.nil ?_
        refine AWP.seq ?_
        refine AWP.cond rfl (fun h6 => ?_) (fun h6 => ?_)
        · replace h6 := of_decide_eq_true h6
          rw [List.length_map] at h6
          have hlt : j < r.all.length := by omega
          have hmj := HI.mans _ (List.getElem_mem hlt)
          have hrj : j < r.roots.length := by rw [HI.rlen]; exact hlt
          have HBR := bad_rt hlt
          refine AWP.skip ?_
          refine AWP.seq ?_
          refine AWP.block ?_
          refine AWP.seq ?_
          refine AWP.region ?_
          refine AOps.step rfl rfl rfl (AOp.moveD rfl rfl) ?_
          refine AOps.step rfl rfl rfl (AOp.indexAddr rfl et_22 rfl rfl j rfl (at_lst hlt) rfl) ?_
          refine AOps.step rfl rfl rfl (AOp.loadAgg rfl ag_40 rfl rfl) ?_
          refine AOps.alloc 102 rfl rfl rfl rfl zt_40 rfl rfl rfl ?_
          refine AOps.step rfl rfl rfl (AOp.assignD rfl rfl) ?_
          refine AOps.store rfl rfl rfl sz_40 rfl (.head _) rfl rfl rfl (Nat.le_of_ble_eq_true rfl) ?_
          refine AOps.freezeCells 11 (ds := r.all[j].ds) rfl (.head _) ?_
          refine AOps.nil ?_
          refine AWP.seq ?_
          refine AWP.draw (by kernel_rfl) (by kernel_rfl) ?_
          refine DRun.step rfl rfl rfl (AOp.fieldAddr rfl fo_40_3 rfl) ?_
          refine DRun.step rfl rfl rfl (AOp.load rfl sc_38 rfl) ?_
          refine DRun.step rfl rfl rfl (AOp.call rfl (.cons (ArgOk.rfl' rfl) .nil) (c_pRoot r.all[j].sums hmj.2.2 (by omega))) ?_
          refine DRun.step rfl rfl rfl (AOp.fieldAddrP rfl fo_35_1 rfl) ?_
          refine DRun.step rfl rfl rfl (AOp.loadP rfl sc_33 rfl (.head _) rfl) ?_
          refine DRun.step rfl rfl rfl (AOp.moveD rfl rfl) ?_
          refine DRun.step rfl rfl rfl (AOp.indexAddr rfl et_33 rfl rfl j rfl (w64_at hrj) rfl) ?_
          refine DRun.step rfl rfl rfl (AOp.load rfl sc_41 rfl) ?_
          refine DRun.step rfl rfl rfl (AOp.neq rfl rfl rfl) ?_
          refine DRun.nil ?_
          refine AWP.cond rfl (fun h7 => ?_) (fun h7 => ?_)
          · replace h7 := of_decide_eq_true h7
            rw [end_root hj.2 hlt (by rw [HBR]; exact decide_eq_true (by intro hh; exact h7 (by rw [hh])))]
            refine AWP.seq ?_
            refine AWP.region ?_
            refine AOps.step rfl rfl rfl (AOp.assignD rfl rfl) ?_
            refine AOps.step rfl rfl rfl (AOp.assignD rfl rfl) ?_
            refine AOps.step rfl rfl rfl (AOp.assignD rfl rfl) ?_
            refine AOps.nil ?_
            refine AWP.ret ?_
            refine ⟨RetD.nil rfl, RetD.eq rfl ?_, RetD.eq rfl ?_, trivial⟩
            all_goals (rfl)
          · replace h7 := of_decide_eq_false h7
            have HBF : badRt r j = false := by rw [HBR]; exact decide_eq_false (fun hh => by have := Decidable.not_not.1 h7; omega)
            refine AWP.skip ?_
            refine AWP.region ?_
            refine AOps.step rfl rfl rfl (AOp.add64 rfl rfl rfl (by omega) (by omega)) ?_
            refine AOps.step rfl rfl rfl (AOp.moveD rfl rfl) ?_
            refine AOps.nil ?_
            refine ⟨j + 1, ⟨by omega, fb_next hj.2 HBF⟩, (by dsimp only; omega), Sub.less ⟨(SLe.of_eq rfl), SLe.refl _, SLe.refl _, SLe.refl _, trivial⟩ (fun _ h => h)⟩
        · replace h6 := of_decide_eq_false h6
          rw [List.length_map] at h6
          obtain rfl : j = r.all.length := by omega
          refine AWP.exit ?_
          refine AWP.seq ?_
          refine AWP.seq ?_
          refine AWP.region ?_
          refine AOps.step rfl rfl rfl (AOp.fieldAddrP rfl fo_35_0 rfl) ?_
          refine AOps.step rfl rfl rfl (AOp.loadP rfl sc_22 rfl (.head _) rfl) ?_
          refine AOps.step rfl rfl rfl (AOp.call rfl (.cons (ArgOk.rfl' rfl) .nil) (c_pChk r.all (fun m hm => ⟨by have := (HI.mans m hm).1; omega, (HI.mans m hm).2.2⟩))) ?_
          refine AOps.step rfl rfl rfl (AOp.assignD rfl rfl) ?_
          refine AOps.nil ?_
          refine AWP.seq ?_
          refine AWP.region ?_
          refine AOps.step rfl rfl rfl (AOp.moveD rfl rfl) ?_
          refine AOps.step rfl rfl rfl (AOp.neq rfl rfl rfl) ?_
          refine AOps.nil ?_
          refine AWP.cond rfl (fun h8 => ?_) (fun h8 => ?_)
          · replace h8 := of_decide_eq_true h8
            rw [end_f hj.2 h8]
            refine AWP.seq ?_
            refine AWP.region ?_
            refine AOps.step rfl rfl rfl (AOp.moveD rfl rfl) ?_
            refine AOps.step rfl rfl rfl (AOp.assignD rfl rfl) ?_
            refine AOps.step rfl rfl rfl (AOp.assignD rfl rfl) ?_
            refine AOps.step rfl rfl rfl (AOp.assignD rfl rfl) ?_
            refine AOps.nil ?_
            refine AWP.ret ?_
            refine ⟨RetD.nil rfl, RetD.eq rfl ?_, RetD.eq rfl ?_, trivial⟩
            all_goals (rfl)
          · replace h8 := of_decide_eq_false h8
            rw [end_ok hj.2 (by omega)]
            refine AWP.skip ?_
            refine AWP.seq ?_
            refine AWP.region ?_
            refine AOps.step rfl rfl rfl (AOp.fieldAddrP rfl fo_35_0 rfl) ?_
            refine AOps.step rfl rfl rfl (AOp.loadP rfl sc_22 rfl (.head _) rfl) ?_
            refine AOps.step rfl rfl rfl (AOp.assignD rfl rfl) ?_
            refine AOps.step rfl rfl rfl (AOp.assignD rfl rfl) ?_
            refine AOps.step rfl rfl rfl (AOp.assignD rfl rfl) ?_
            refine AOps.nil ?_
            refine AWP.ret ?_
            refine ⟨RetD.eq rfl ?_, RetD.eq rfl ?_, RetD.eq rfl ?_, trivial⟩
            all_goals (rfl)

end Go.Proofs.YtnapkooefpkicaaGreatDoor


namespace Go.Proofs.YtnapkooefpkicaaGreatDoor
open Go.RowKit
set_option linter.unusedVariables false

/-! Types. -/
namespace TyVI

end TyVI
open TyVI


open Go.Lib
set_option linter.unusedSimpArgs false
/-! ## Digits: what was read is what is written -/
theorem indexByte_get : ∀ {l : List UInt8} {c : UInt8}, 0 ≤ Lib.indexByte l c → l.getD (Lib.indexByte l c).toNat 0 = c
  | [], c, h => by unfold Lib.indexByte at h; exact absurd h (by decide)
  | b :: l, c, h => by
    unfold Lib.indexByte at h ⊢
    by_cases hb : (b == c) = true
    · rw [if_pos hb]; exact eq_of_beq hb
    · rw [if_neg hb] at h ⊢
      by_cases hm : (Lib.indexByte l c == -1) = true
      · rw [if_pos hm] at h; exact absurd h (by decide)
      · rw [if_neg hm] at h ⊢
        have h1 := Lib.indexByte_ge l c
        have h2 : Lib.indexByte l c ≠ -1 := fun e => hm (by rw [e]; rfl)
        have ih := indexByte_get (l := l) (c := c) (by omega)
        rw [show (Lib.indexByte l c + 1).toNat = (Lib.indexByte l c).toNat + 1 by omega]
        exact ih
theorem hexD_hx {b : UInt8} {d : Nat} (h : hxD b = some d) : hexD d = b := by
  unfold hxD at h
  split at h
  · cases h
  · rename_i h1
    cases h
    exact indexByte_get (by omega)
theorem hexL_cons (n m : Nat) : hexL n (m + 1) = hexD (n / 16 ^ m % 16) :: hexL n m := by
  unfold hexL
  rw [List.range_succ_eq_map, List.map_cons, List.map_map]
  congr 1
  refine List.map_congr_left fun j _ => ?_
  simp only [Function.comp]
  rw [show m + 1 - 1 - (j + 1) = m - 1 - j by omega]
theorem hx_can : ∀ {l : List UInt8} {acc v : Nat}, hxV acc l = some v → hexL v l.length = l ∧ v / 16 ^ l.length = acc
  | [], acc, v, h => by cases h; exact ⟨rfl, by simp⟩
  | b :: l, acc, v, h => by
    unfold hxV at h
    split at h
    · cases h
    · rename_i d hd
      obtain ⟨h1, h2⟩ := hx_can h
      have h3 := hxD_lt hd
      refine ⟨?_, ?_⟩
      · rw [List.length_cons, hexL_cons, h1, h2, show (acc * 16 + d) % 16 = d by omega, hexD_hx hd]
      · rw [List.length_cons, Nat.pow_succ, ← Nat.div_div_eq_div_mul, h2]; omega
theorem unhx_can {l : List UInt8} {m v : Nat} (h : unhx l m = some v) : hexL v m = l := by
  unfold unhx at h
  split at h
  · rename_i hl
    rw [← hl]
    exact (hx_can h).1
  · cases h
theorem decFrom_snoc (b : UInt8) : ∀ (l : List UInt8) (acc : Nat), Lib.decFrom acc (l ++ [b]) = match Lib.decFrom acc l with | none => none | some v => match Lib.digitVal b with | none => none | some d => some (v * 10 + d)
  | [], acc => by
    simp only [List.nil_append, Lib.decFrom]
    cases Lib.digitVal b <;> rfl
  | x :: l, acc => by
    simp only [List.cons_append, Lib.decFrom]
    cases Lib.digitVal x with
    | none => rfl
    | some d => exact decFrom_snoc b l (acc * 10 + d)
theorem digit_of {b : UInt8} {d : Nat} (h : Lib.digitVal b = some d) : d < 10 ∧ UInt8.ofNat (48 + d) = b := by
  unfold Lib.digitVal at h
  split at h
  · cases h
    refine ⟨by omega, ?_⟩
    rw [show 48 + (b.toNat - 48) = b.toNat by omega]
    simp
  · cases h
theorem num_can : ∀ (n : Nat) {l : List UInt8} {v : Nat}, l.length = n → Lib.decFrom 0 l = some v → l ≠ [] → (l.head? ≠ some 48 ∨ l = [48]) → Lib.decDigits v = l
  | 0, l, v, hn, _, h0, _ => absurd (List.eq_nil_of_length_eq_zero hn) h0
  | n + 1, l, v, hn, h, h0, hh => by
    obtain ⟨l', b, rfl⟩ : ∃ l' b, l = l' ++ [b] := ⟨l.dropLast, l.getLast h0, (List.dropLast_concat_getLast h0).symm⟩
    rw [decFrom_snoc] at h
    cases hv : Lib.decFrom 0 l' with
    | none => rw [hv] at h; cases h
    | some v' =>
      rw [hv] at h
      simp only at h
      cases hd : Lib.digitVal b with
      | none => rw [hd] at h; cases h
      | some d =>
        rw [hd] at h
        cases h
        obtain ⟨hd10, hdb⟩ := digit_of hd
        cases l' with
        | nil =>
          cases hv
          rw [Lib.decDigits, dif_pos (by omega), show 48 + (0 * 10 + d) = 48 + d by omega, hdb]; rfl
        | cons x t =>
          have hx : (x :: t).head? ≠ some 48 := by
            rcases hh with hh | hh
            · simpa using hh
            · have := congrArg List.length hh
              simp at this
          have ih := num_can n (l := x :: t) (v := v') (by simpa using hn) hv (by simp) (.inl hx)
          have hv0 : v' ≠ 0 := fun e => by
            rw [e] at ih
            have h48 : Lib.decDigits 0 = [48] := by rw [Lib.decDigits, dif_pos (by omega)]; rfl
            rw [h48] at ih
            rw [← ih] at hx
            exact hx rfl
          rw [Lib.decDigits, dif_neg (by omega), show (v' * 10 + d) / 10 = v' by omega, show (v' * 10 + d) % 10 = d by omega, ih, hdb]
theorem numV_can {l : List UInt8} {v : Nat} (h : numV l = some v) : (itoaB (v : Int)).data.toList = l := by
  unfold numV at h
  split at h
  · cases h
  · rename_i hc
    show (Lib.itoa (v : Int)).toArray.toList = l
    rw [Lib.itoa_nonneg]
    refine num_can l.length rfl h (fun e => hc (.inl e)) ?_
    by_cases h48 : l.head? = some 48
    · by_cases h1 : l = [48]
      · exact .inr h1
      · exact absurd (.inr (.inr ⟨h48, h1⟩)) hc
    · exact .inl h48
/-! ## Lines -/
theorem spl_join (c : UInt8) : ∀ l, (spl c l).flatMap (fun x => c :: x) = c :: l
  | [] => rfl
  | b :: l => by
    have ih := spl_join c l
    rw [spl_cons]
    by_cases h : b = c
    · rw [if_pos h, List.flatMap_cons, ih, h]; rfl
    · rw [if_neg h]
      cases hs : spl c l with
      | nil => exact absurd hs (spl_ne c l)
      | cons x r =>
        rw [hs, List.flatMap_cons] at ih
        simp only [List.flatMap_cons]
        have := List.cons.inj ih
        rw [← this.2]
        rfl
def unl (ls : List (List UInt8)) : List UInt8 := ls.flatMap fun x => x ++ [10]
theorem rot : ∀ (ls : List (List UInt8)), ls.flatMap (fun x => 10 :: x) ++ [10] = 10 :: unl ls
  | [] => rfl
  | x :: ls => by
    unfold unl
    rw [List.flatMap_cons, List.flatMap_cons, List.append_assoc, rot ls]
    simp [unl]
theorem unl_snoc (ls : List (List UInt8)) (x : List UInt8) : unl (ls ++ [x]) = unl ls ++ (x ++ [10]) := by
  unfold unl
  rw [List.flatMap_append, List.flatMap_cons, List.flatMap_nil, List.append_nil]
theorem whole_unl {t : List UInt8} (h : wholeB (spl 10 t) = true) : unl ((spl 10 t).take (nLn (spl 10 t))) = t := by
  have hn : nLn (spl 10 t) = (spl 10 t).length - 1 := if_pos h
  have hne := spl_ne 10 t
  have hl : (spl 10 t) = (spl 10 t).take (nLn (spl 10 t)) ++ [[]] := by
    have h1 := (List.dropLast_concat_getLast hne).symm
    rw [hn, ← List.dropLast_eq_take]
    have h2 : (spl 10 t).getLast hne = [] := by
      unfold wholeB at h
      have := of_decide_eq_true h
      rw [List.getD_eq_getElem?_getD, List.getElem?_eq_getElem (by have := List.length_pos_iff.2 hne; omega)] at this
      rw [List.getLast_eq_getElem]
      exact this
    rw [h2] at h1
    exact h1
  have h3 := spl_join 10 t
  rw [hl, List.flatMap_append] at h3
  have h4 : ([[]] : List (List UInt8)).flatMap (fun x => (10 : UInt8) :: x) = [10] := rfl
  rw [h4, rot] at h3
  exact (List.cons.inj h3).2
/-! ## The text of what has been read -/
def headT (m : Man) (z : Nat) : List UInt8 := ((((((((m.item ++ sp1) ++ itoaB m.size) ++ sp1) ++ itoaB m.block) ++ sp1) ++ hexB z 16) ++ nl1)).data.toList
/-- A sum, of so many in all. -/
def sumPT (s : List Nat) (t i : Nat) : List UInt8 := (if i % 8 = 0 then [32] else []) ++ (sp1 ++ hexB (s.getD i 0) 8).data.toList ++ (if i % 8 = 7 ∨ i + 1 = t then [10] else [])
def sumsT (s : List Nat) (t k : Nat) : List UInt8 := (List.range k).flatMap (sumPT s t)
def total (m : Man) : Nat := (nblocks m.size m.block).toNat
def manT (p : Man × Nat) : List UInt8 := headT p.1 p.2 ++ sumsT p.1.sums (total p.1) p.1.sums.length
def txt (r : Rd) : List UInt8 := (r.all.zip r.roots).flatMap manT
structure CI (r : Rd) : Prop where
  done : ∀ m ∈ r.done, m.sums.length = total m
  cur : ∀ m, r.cur = some m → m.sums.length + r.due = total m ∧ (0 < r.due → m.sums.length % 8 = 0)
  rlen : r.roots.length = r.all.length
  none : r.cur = none → r.done = [] ∧ r.due = 0
theorem sumsT_succ (s : List Nat) (t k : Nat) : sumsT s t (k + 1) = sumsT s t k ++ sumPT s t k := by
  unfold sumsT
  rw [List.range_succ, List.flatMap_append, List.flatMap_cons, List.flatMap_nil, List.append_nil]
theorem sumPT_ext {s s' : List Nat} {t i : Nat} (h : s.getD i 0 = s'.getD i 0) : sumPT s t i = sumPT s' t i := by unfold sumPT; rw [h]
theorem sumsT_ext {s s' : List Nat} {t : Nat} : ∀ {k : Nat}, (∀ i, i < k → s.getD i 0 = s'.getD i 0) → sumsT s t k = sumsT s' t k
  | 0, _ => rfl
  | k + 1, h => by rw [sumsT_succ, sumsT_succ, sumsT_ext (fun i hi => h i (by omega)), sumPT_ext (h k (by omega))]
theorem hexB_list (n m : Nat) : (hexB n m).data.toList = hexL n m := strL_list _
theorem pre8_at : ∀ {ws : List (List UInt8)} {j : Nat}, all8 ws = true → j < ws.length → unhx (ws.getD j []) 8 = some ((pre8 ws).getD j 0)
  | [], j, _, h => by simp at h
  | w :: ws, j, ha, h => by
    simp only [all8, List.all_cons, Bool.and_eq_true] at ha
    obtain ⟨v, hv⟩ := Option.isSome_iff_exists.1 ha.1
    have hp : pre8 (w :: ws) = v :: pre8 ws := by simp only [pre8, hv]
    rw [hp]
    cases j with
    | zero => exact hv
    | succ j => exact pre8_at (ws := ws) ha.2 (by simpa using h)
theorem pre8_all : ∀ {ws : List (List UInt8)}, all8 ws = true → (pre8 ws).length = ws.length
  | [], _ => rfl
  | w :: ws, ha => by
    simp only [all8, List.all_cons, Bool.and_eq_true] at ha
    obtain ⟨v, hv⟩ := Option.isSome_iff_exists.1 ha.1
    have hp : pre8 (w :: ws) = v :: pre8 ws := by simp only [pre8, hv]
    rw [hp, List.length_cons, List.length_cons, pre8_all (ws := ws) ha.2]
/-- A line of sums, as it is written. -/
theorem sums_line {s : List Nat} {ws : List (List UInt8)} {t : Nat} (h8 : s.length % 8 = 0) (ha : all8 ws = true) (hl : ws.length = min 8 (t - s.length)) (ht : s.length < t) :
    ∀ j, 0 < j → j ≤ ws.length → sumsT (s ++ pre8 ws) t (s.length + j) = sumsT (s ++ pre8 ws) t s.length ++ (32 :: (ws.take j).flatMap (fun x => 32 :: x) ++ (if j = ws.length then [10] else []))
  | 0, h, _ => absurd h (by omega)
  | j + 1, _, h => by
    have hj : j < ws.length := by omega
    have hw : (sp1 ++ hexB ((s ++ pre8 ws).getD (s.length + j) 0) 8).data.toList = 32 :: ws.getD j [] := by
      have h1 := unhx_can (pre8_at ha hj)
      have h2 : (s ++ pre8 ws).getD (s.length + j) 0 = (pre8 ws).getD j 0 := by
        rw [List.getD_eq_getElem?_getD, List.getElem?_append_right (by omega), List.getD_eq_getElem?_getD]
        congr 2
        omega
      rw [h2, ba_app, hexB_list, h1]; rfl
    have htk : (ws.take (j + 1)).flatMap (fun x => (32 : UInt8) :: x) = (ws.take j).flatMap (fun x => 32 :: x) ++ (32 :: ws.getD j []) := by
      rw [tk_snoc hj, List.flatMap_append, List.flatMap_cons, List.flatMap_nil, List.append_nil, List.getD_eq_getElem?_getD, List.getElem?_eq_getElem hj]; rfl
    have hend : ((s.length + j) % 8 = 7 ∨ s.length + j + 1 = t) ↔ j + 1 = ws.length := by omega
    have hpt : sumPT (s ++ pre8 ws) t (s.length + j) = (if j = 0 then [32] else []) ++ (32 :: ws.getD j []) ++ (if j + 1 = ws.length then [10] else []) := by
      unfold sumPT
      rw [hw]
      congr 1
      · congr 1
        by_cases h0 : j = 0
        · rw [if_pos h0, if_pos (by omega)]
        · rw [if_neg h0, if_neg (by omega)]
      · by_cases h0 : j + 1 = ws.length
        · rw [if_pos h0, if_pos (hend.2 h0)]
        · rw [if_neg h0, if_neg (fun hh => h0 (hend.1 hh))]
    rw [show s.length + (j + 1) = s.length + j + 1 by omega, sumsT_succ, hpt, htk]
    by_cases h0 : j = 0
    · subst h0
      simp
    · rw [sums_line h8 ha hl ht j (by omega) (by omega), if_neg (show ¬ j = ws.length by omega), if_neg h0]
      simp
theorem CI.zero : CI rd0 := ⟨fun m hm => by simp [rd0] at hm, fun m hm => by simp [rd0] at hm, rfl, fun _ => ⟨rfl, rfl⟩⟩
theorem zip_snoc {α β : Type} {l : List α} {r : List β} {x : α} {y : β} (h : r.length = l.length) : (l ++ [x]).zip (r ++ [y]) = l.zip r ++ [(x, y)] := List.zip_append (by omega)
theorem hasP {l : List UInt8} (h : Lib.hasPrefix l [32, 32] = true) : l = [32, 32] ++ Lib.trimPrefix l [32, 32] := by
  unfold Lib.trimPrefix
  rw [if_pos h]
  unfold Lib.hasPrefix at h
  obtain ⟨t, rfl⟩ := List.isPrefixOf_iff_prefix.1 h
  simp
theorem read_step {r : Rd} {l : List UInt8} (hc : CI r) (h : (takeS r l).2 = true) : CI (takeS r l).1 ∧ txt (takeS r l).1 = txt r ++ (l ++ [10]) := by
  by_cases hd : 0 < r.due
  · cases hm : r.cur with
    | none => exact absurd (hc.none hm).2 (by omega)
    | some m =>
      rw [take_sm hd hm] at h ⊢
      have hB : tsB r.due l = true := h
      have hB2 := hB
      unfold tsB at hB2
      simp only [Bool.and_eq_true] at hB2
      obtain ⟨hok, ha⟩ := hB2
      have hok2 := hok
      unfold sumsOk at hok2
      simp only [Bool.and_eq_true, decide_eq_true_eq] at hok2
      obtain ⟨hp, hl8⟩ := hok2
      obtain ⟨hT, h8⟩ := hc.cur m hm
      have hS : tsS m.sums r.due l = m.sums ++ pre8 (sumW l) := if_pos hok
      have hD : tsD r.due l = r.due - (sumW l).length := if_pos hB
      have hpl := pre8_all ha
      have htot : total ⟨m.item, m.size, m.block, tsS m.sums r.due l⟩ = total m := rfl
      refine ⟨⟨hc.done, fun x hx => ?_, ?_, fun hx => by cases hx⟩, ?_⟩
      · cases hx
        refine ⟨?_, fun hd2 => ?_⟩
        · show (tsS m.sums r.due l).length + tsD r.due l = total m
          rw [hS, hD, List.length_append, hpl]
          omega
        · show (tsS m.sums r.due l).length % 8 = 0
          have hd3 : 0 < tsD r.due l := hd2
          rw [hD] at hd3
          rw [hS, List.length_append, hpl]
          have := h8 hd
          omega
      · have := hc.rlen
        unfold Rd.all at this ⊢
        rw [hm] at this
        simpa using this
      · have hroots : r.roots.length = r.done.length + 1 := by
          have := hc.rlen
          unfold Rd.all at this
          rw [hm] at this
          simpa using this
        obtain ⟨r0, z, hrz⟩ : ∃ r0 z, r.roots = r0 ++ [z] := by
          have hne : r.roots ≠ [] := fun e => by rw [e] at hroots; simp at hroots
          exact ⟨r.roots.dropLast, r.roots.getLast hne, (List.dropLast_concat_getLast hne).symm⟩
        have hr0 : r0.length = r.done.length := by rw [hrz] at hroots; simpa using hroots
        unfold txt Rd.all
        rw [hm, hrz]
        show ((r.done ++ [_]).zip (r0 ++ [z])).flatMap manT = ((r.done ++ [m]).zip (r0 ++ [z])).flatMap manT ++ _
        rw [zip_snoc hr0, zip_snoc hr0, List.flatMap_append, List.flatMap_append, List.append_assoc]
        congr 1
        simp only [List.flatMap_cons, List.flatMap_nil, List.append_nil]
        unfold manT
        rw [List.append_assoc]
        show headT m z ++ sumsT (tsS m.sums r.due l) (total m) (tsS m.sums r.due l).length = _
        congr 1
        rw [hS, List.length_append, hpl, sums_line (h8 hd) ha (by omega) (by omega) _ (by omega) (Nat.le_refl _), if_pos rfl, List.take_length]
        have hj : (sumW l).flatMap (fun x => (32 : UInt8) :: x) = 32 :: Lib.trimPrefix l [32, 32] := spl_join 32 _
        rw [hj]
        congr 1
        · refine sumsT_ext fun i hi => ?_
          rw [List.getD_eq_getElem?_getD, List.getElem?_append_left hi, List.getD_eq_getElem?_getD]
        · conv => rhs; rw [hasP hp]
          rfl
  · cases hh : headV l with
    | none => rw [take_no hd hh] at h; cases h
    | some p =>
      rw [take_hd hd hh]
      obtain ⟨a, b, c, d, x, y, z, hs, ha, hx, hy, hz, hy0, rfl⟩ := head_some hh
      have hln : l = a ++ 32 :: (b ++ 32 :: (c ++ 32 :: d)) := by
        have := spl_join 32 l
        rw [hs] at this
        simp only [List.flatMap_cons, List.flatMap_nil, List.append_nil] at this
        have := (List.cons.inj this).2
        rw [← this]
        simp
      refine ⟨⟨fun m hm => ?_, fun m hm => ?_, ?_, fun hx => by cases hx⟩, ?_⟩
      · have hm' : m ∈ r.done ++ r.cur.toList := hm
        rcases List.mem_append.1 hm' with hm' | hm'
        · exact hc.done m hm'
        · cases hcu : r.cur with
          | none => rw [hcu] at hm'; cases hm'
          | some m2 =>
            rw [hcu] at hm'
            have : m = m2 := by simpa using hm'
            subst this
            have := (hc.cur m hcu).1
            omega
      · cases hm
        refine ⟨?_, fun _ => rfl⟩
        show 0 + _ = total _
        rw [Nat.zero_add]; rfl
      · have := hc.rlen
        show (r.roots ++ [z]).length = (r.all ++ [_]).length
        simp [this]
      · unfold txt
        show ((r.all ++ [_]).zip (r.roots ++ [z])).flatMap manT = _
        rw [zip_snoc hc.rlen, List.flatMap_append]
        congr 1
        simp only [List.flatMap_cons, List.flatMap_nil, List.append_nil]
        unfold manT headT
        simp only [ba_app, strL_list, numV_can hx, numV_can hy, hexB_list, unhx_can hz]
        rw [hln]
        show _ ++ sumsT [] _ 0 = _
        simp [sumsT, sp1, nl1]
theorem read_text {t : List UInt8} (h : fb (badLn (spl 10 t)) (nLn (spl 10 t)) = none) : ∀ k, k ≤ nLn (spl 10 t) → CI (rdTo (spl 10 t) k) ∧ txt (rdTo (spl 10 t) k) = unl ((spl 10 t).take k)
  | 0, _ => ⟨CI.zero, rfl⟩
  | k + 1, hk => by
    obtain ⟨h1, h2⟩ := read_text h k (by omega)
    have hb := fb_all h k (by omega)
    unfold badLn at hb
    simp only [Bool.or_eq_false_iff, Bool.not_eq_false'] at hb
    obtain ⟨h3, h4⟩ := read_step h1 hb.1
    have hkl : k < (spl 10 t).length := by
      have : nLn (spl 10 t) ≤ (spl 10 t).length := by unfold nLn; split <;> omega
      omega
    refine ⟨h3, ?_⟩
    show txt (takeS _ _).1 = _
    rw [h4, h2, tk_snoc hkl, unl_snoc, List.getD_eq_getElem?_getD, List.getElem?_eq_getElem hkl]; rfl
theorem read_whole {t : List UInt8} (h : fb (badLn (spl 10 t)) (nLn (spl 10 t)) = none) : wholeB (spl 10 t) = true := by
  cases hw : wholeB (spl 10 t) with
  | true => rfl
  | false =>
    have hn : nLn (spl 10 t) = (spl 10 t).length := if_neg (by rw [hw]; decide)
    have hl := List.length_pos_iff.2 (spl_ne 10 t)
    have hb := fb_all h ((spl 10 t).length - 1) (by omega)
    unfold badLn at hb
    rw [hw, decide_eq_true (by omega)] at hb
    simp at hb
/-- What was read, and is right, is written as it was. -/
theorem read_canon {t : List UInt8} (h : fb (badLn (spl 10 t)) (nLn (spl 10 t)) = none) (hd : ¬ 0 < (rdTo (spl 10 t) (nLn (spl 10 t))).due) (hr : fb (badRt (rdTo (spl 10 t) (nLn (spl 10 t)))) (rdTo (spl 10 t) (nLn (spl 10 t))).all.length = none) :
    textL (rdTo (spl 10 t) (nLn (spl 10 t))).all (rdTo (spl 10 t) (nLn (spl 10 t))).all.length = t := by
  obtain ⟨h1, h2⟩ := read_text h _ (Nat.le_refl _)
  rw [whole_unl (read_whole h)] at h2
  generalize rdTo (spl 10 t) (nLn (spl 10 t)) = r at h1 h2 hd hr
  rw [← h2]
  unfold textL txt
  rw [List.take_length]
  have hall : ∀ m ∈ r.all, m.sums.length = total m := fun m hm => by
    unfold Rd.all at hm
    rcases List.mem_append.1 hm with hm | hm
    · exact h1.done m hm
    · cases hcu : r.cur with
      | none => rw [hcu] at hm; cases hm
      | some m2 =>
        rw [hcu] at hm
        have : m = m2 := by simpa using hm
        subst this
        have := (h1.cur m hcu).1
        omega
  have hrt : ∀ k (hk : k < r.all.length), rootN (r.all[k]).sums = r.roots.getD k 0 := fun k hk => by
    have := fb_all hr k hk
    rw [bad_rt hk] at this
    exact Decidable.not_not.1 (of_decide_eq_false this)
  have hlen := h1.rlen
  clear h2 hd hr h1 h
  generalize r.all = l at *
  generalize r.roots = z at *
  clear r
  induction l generalizing z with
  | nil => rfl
  | cons m l ih =>
    cases z with
    | nil => simp at hlen
    | cons a z =>
      rw [List.zip_cons_cons, List.flatMap_cons, List.flatMap_cons]
      have h0 : rootN m.sums = a := hrt 0 (by simp)
      rw [ih (fun x hx => hall x (by simp [hx])) z (fun k hk => hrt (k + 1) (by simpa using hk)) (by simpa using hlen)]
      congr 1
      unfold manL manT mLine headT
      rw [h0]
      congr 1
      unfold sumsL sumsT
      have h1 := hall m (by simp)
      show _ = (List.range m.sums.length).flatMap (sumPT m.sums (total m))
      rw [← h1]
      rfl


end Go.Proofs.YtnapkooefpkicaaGreatDoor


namespace Go.Proofs.YtnapkooefpkicaaGreatDoor
open Go.RowKit
set_option linter.unusedVariables false

/-! Types. -/
namespace TyVJ
theorem ag_40 : AggT Tryz.prog 40 4 := .of (by kernel_rfl)
theorem et_38 : ElemTy Tryz.prog 38 53 1 4 (.int .u32 0) := ⟨by kernel_rfl, by kernel_rfl, by kernel_rfl, by decide⟩
theorem et_43 : ElemTy Tryz.prog 43 9 1 16 (.string ⟨#[]⟩) := ⟨by kernel_rfl, by kernel_rfl, by kernel_rfl, by decide⟩
theorem fo_40_0 : fieldOff Tryz.prog 40 0 = some 0 := by kernel_rfl
theorem fo_40_1 : fieldOff Tryz.prog 40 1 = some 1 := by kernel_rfl
theorem fo_40_2 : fieldOff Tryz.prog 40 2 = some 2 := by kernel_rfl
theorem sc_9 : Scal Tryz.prog 9 := .of (by kernel_rfl)
theorem sz_3 : ∀ w, (sizeOf 3).run Tryz.prog w = .ok 1 w := SizeT.of (by kernel_rfl)
theorem sz_40 : ∀ w, (sizeOf 40).run Tryz.prog w = .ok 4 w := SizeT.of (by kernel_rfl)
theorem sz_9 : ∀ w, (sizeOf 9).run Tryz.prog w = .ok 1 w := SizeT.of (by kernel_rfl)
theorem zt_40 : (Tryz.prog.info? 40).bind (·.zero) = some (.agg #[(.string ⟨#[]⟩), (.int .i64 0), (.int .i64 0), (.slice none 0 0)]) := by kernel_rfl
end TyVJ
open TyVJ


open Go.Lib
set_option linter.unusedSimpArgs false
def TM (w : World) : Prop := TabI w ∧ MaxT w
theorem tm_stays : Stays TM := fun w w' k h => ⟨tabI_at.stays w w' k h.1, maxT_stays w w' k h.2⟩
theorem ACallT.tab {f : FuncId} {ds : List D} {d : D} (h : ACallT Tryz.prog TabI f ds d) : ACallT Tryz.prog TM f ds d := h.imp fun _ h => h.1
theorem ACallT.max {f : FuncId} {ds : List D} {d : D} (h : ACallT Tryz.prog MaxT f ds d) : ACallT Tryz.prog TM f ds d := h.imp fun _ h => h.2
theorem nLn_le (ls : List (List UInt8)) : nLn ls ≤ ls.length := by unfold nLn; split <;> omega
theorem c_rNumL (l : List UInt8) (hs : l.length ≤ 9223372036854775807) : ACall Tryz.prog 36 [.v (.string (strL l)), .v (.int .i64 9)] (.tup [.v (.int .i64 (((numV l).getD 0 : Nat) : Int)), .v (.bool (numV l).isSome)]) := c_whole9 (strL l) (by rw [strL_size]; exact hs)
theorem c_rHexL (l : List UInt8) (m : Nat) (hm : m ≤ 16) (hs : l.length ≤ 9223372036854775807) : ACall Tryz.prog 35 [.v (.string (strL l)), .v (.int .i64 ((m : Nat) : Int))] (.tup [.v (.int .u64 (((unhx l m).getD 0 : Nat) : Int)), .v (.bool (unhx l m).isSome)]) := c_rHex (strL l) m hm (by rw [strL_size]; exact hs)
theorem last_at {l : List (List UInt8)} (h : l ≠ []) : (l.map pcD)[l.length - 1]? = some (pcD (l.getD (l.length - 1) [])) := by
  have := List.length_pos_iff.2 h
  rw [List.getElem?_map, List.getD_eq_getElem?_getD, List.getElem?_eq_getElem (by omega)]; rfl
/-- What head returns. -/
def hd4 (l : List UInt8) : Man × Nat × Bool := match spl 32 l with
  | [a, b, c, d] => if a = [] then (⟨⟨#[]⟩, 0, 0, []⟩, 0, false) else (⟨strL a, ((numV b).getD 0 : Nat), ((numV c).getD 0 : Nat), []⟩, (unhx d 16).getD 0, (numV b).isSome && ((numV c).isSome && ((unhx d 16).isSome && decide (0 < (numV c).getD 0))))
  | _ => (⟨⟨#[]⟩, 0, 0, []⟩, 0, false)
theorem hd4_no1 {l : List UInt8} (h : (spl 32 l).length ≠ 4) : hd4 l = (⟨⟨#[]⟩, 0, 0, []⟩, 0, false) := by
  unfold hd4
  split
  · rename_i hh; rw [hh] at h; simp at h
  · rfl
theorem hd4_4 {l a b c d : List UInt8} (h : spl 32 l = [a, b, c, d]) : hd4 l = if a = [] then (⟨⟨#[]⟩, 0, 0, []⟩, 0, false) else (⟨strL a, ((numV b).getD 0 : Nat), ((numV c).getD 0 : Nat), []⟩, (unhx d 16).getD 0, (numV b).isSome && ((numV c).isSome && ((unhx d 16).isSome && decide (0 < (numV c).getD 0)))) := by
  unfold hd4
  rw [h]
theorem hd4_head (l : List UInt8) : headV l = if (hd4 l).2.2 = true then some ((hd4 l).1, (hd4 l).2.1) else none := by
  by_cases h4 : (spl 32 l).length = 4
  · obtain ⟨a, b, c, d, hs⟩ := four h4
    rw [head_4 hs, hd4_4 hs]
    by_cases ha : a = []
    · rw [if_pos ha, if_pos ha]; rfl
    · rw [if_neg ha, if_neg ha]
      cases hb : numV b with
      | none => rfl
      | some x =>
        cases hc : numV c with
        | none => rfl
        | some y =>
          cases hd : unhx d 16 with
          | none => rfl
          | some z =>
            simp only [Option.getD_some, Option.isSome_some, Bool.true_and]
            by_cases hy : y = 0
            · rw [if_pos hy, if_neg (by simp; omega)]
            · rw [if_neg hy, if_pos (by simp; omega)]
  · rw [head_no1 h4, hd4_no1 h4]; rfl
theorem hd4_man {l : List UInt8} (h : (hd4 l).2.2 = true) : ∃ i x y, (hd4 l).1 = ⟨i, x, y, []⟩ ∧ 0 ≤ x ∧ x < 1000000000 ∧ 1 ≤ y ∧ y < 1000000000 := by
  have hh := hd4_head l
  rw [if_pos h] at hh
  obtain ⟨a, b, c, d, x, y, z, hs, ha, hx, hy, hz, hy0, hp⟩ := head_some hh
  have h1 := numV_lt hx
  have h2 := numV_lt hy
  exact ⟨_, _, _, congrArg Prod.fst hp, by omega, by omega, by omega, by omega⟩
theorem dec_cast (n : Nat) : decide ((0 : Int) < (n : Int)) = decide (0 < n) := by simp
def smB (l : List UInt8) (m : Nat) : Bool := sumsOk l m && all8 (sumW l)
def smV (l : List UInt8) (m : Nat) : List Nat := if smB l m = true then pre8 (sumW l) else []
section
variable {cx : Cx} {e : Env} {Q : Post}
theorem AWP.rdFreeze3 {c : Code} {done : List Man} {cur : Option Man} {roots : List Nat}
    (k : AWP cx c e [(500, .row 40 4 ((done ++ cur.toList).map Man.ds)), (501, .row 41 1 (roots.map w64D))] Q) {σ : Obs} (hσ : ∀ p ∈ [(500, .rowS 40 4 (rdO done cur)), (501, .row 41 1 (roots.map w64D)), ob7 cur], p ∈ σ) : AWP cx c e σ Q := by
  refine AWP.obs hσ ?_
  refine AWP.rowOfS 500 ((done ++ cur.toList).map Man.ds) [ob7 cur] [(500, .rowS 40 4 (rdO done cur)), (501, .row 41 1 (roots.map w64D))] (.head _) (rdO_len done cur)
    (fun i k1 k2 => (rd_el (List.getElem?_eq_getElem k1) (List.getElem?_eq_getElem k2)).1) (fun i k1 k2 j k3 k4 => (rd_el (List.getElem?_eq_getElem k1) (List.getElem?_eq_getElem k2)).2 j k3 k4)
    (fun p hp => by obtain rfl := List.mem_singleton.1 hp; simp) (fun p hp => by
      simp only [List.mem_cons, List.not_mem_nil, or_false] at hp ⊢
      rcases hp with rfl | rfl <;> simp)
    (fun p hp q hq => by
      obtain rfl := List.mem_singleton.1 hp
      simp only [List.mem_cons, List.not_mem_nil, or_false] at hq
      rcases hq with rfl | rfl
      · show (500 : Nat) ≠ 700; decide
      · show (501 : Nat) ≠ 700; decide) ?_
  exact k
end
def ob3 (r : Rd) : Obs := [(500, .rowS 40 4 (rdO r.done r.cur)), (501, .row 41 1 (r.roots.map w64D)), ob7 r.cur]
theorem take_sm3 {r : Rd} {l : List UInt8} {m : Man} (h : 0 < r.due) (hc : r.cur = some m) (hb : smB l (min 8 r.due) = true) : takeS r l = (⟨r.done, some ⟨m.item, m.size, m.block, m.sums ++ smV l (min 8 r.due)⟩, r.roots, r.due - min 8 r.due⟩, true) := by
  have hb2 := hb
  unfold smB at hb2
  simp only [Bool.and_eq_true] at hb2
  have hok := hb2.1
  unfold sumsOk at hok
  simp only [Bool.and_eq_true, decide_eq_true_eq] at hok
  have hB : tsB r.due l = true := hb
  rw [take_sm h hc, hB]
  have h1 : tsS m.sums r.due l = m.sums ++ smV l (min 8 r.due) := by unfold tsS smV; rw [if_pos hb2.1, if_pos hb]
  have h2 : tsD r.due l = r.due - min 8 r.due := by unfold tsD; rw [if_pos hB, hok.2]
  rw [h1, h2]
theorem take_no3 {r : Rd} {l : List UInt8} (h : 0 < r.due) (hb : smB l (min 8 r.due) = false) : (takeS r l).2 = false := by
  unfold takeS; rw [if_pos h]; exact hb
theorem ln_mid2 {ls : List (List UInt8)} {k : Nat} (h : k < nLn ls) : ∃ x, ls[k]? = some x ∧ badLn ls k = (!(takeS (rdTo ls k) x).2 || (!wholeB ls && decide (k + 1 = nLn ls))) ∧ rdTo ls (k + 1) = (takeS (rdTo ls k) x).1 := by
  have hl := nLn_le ls
  have hk : k < ls.length := by omega
  have hg : ls.getD k [] = ls[k] := by rw [List.getD_eq_getElem?_getD, List.getElem?_eq_getElem hk]; rfl
  refine ⟨ls[k], List.getElem?_eq_getElem hk, ?_, ?_⟩
  · unfold badLn
    rw [hg]
    cases hw : wholeB ls with
    | true => simp
    | false => rw [show nLn ls = ls.length from if_neg (by rw [hw]; decide)]
  · show (takeS _ (ls.getD k [])).1 = _
    rw [hg]
theorem lns_at {ls : List (List UInt8)} {k : Nat} {x : List UInt8} (h : k < nLn ls) (hx : ls[k]? = some x) : ((ls.take (nLn ls)).map pcD)[k]? = some (pcD x) := by
  rw [List.getElem?_map, List.getElem?_take, if_pos h, hx]; rfl
theorem lns_len (ls : List (List UInt8)) : ((ls.take (nLn ls)).map pcD).length = nLn ls := by
  rw [List.length_map, List.length_take]; have := nLn_le ls; omega


set_option maxRecDepth 100000 in
set_option maxHeartbeats 1000000 in
theorem c_lines (s : ByteArray) (hs : s.size ≤ 200000) : ACallT Tryz.prog TM 15 [.v (.string s)] (.tup [.sl (((spl 10 s.data.toList).take (nLn (spl 10 s.data.toList))).map pcD), .v (.bool (wholeB (spl 10 s.data.toList)))]) := by
  refine acall_ofT (n := 22) (ds' := [.sl (((spl 10 s.data.toList).take (nLn (spl 10 s.data.toList))).map pcD), .v (.bool (wholeB (spl 10 s.data.toList)))]) Tryz.func15 rfl (by kernel_rfl) rfl [2, 3] rfl rfl ?_
  intro B w0 F0 hT
  have hsl := Lib.size_eq s
  have hne := spl_ne 10 s.data.toList
  have hln := List.length_pos_iff.2 hne
  refine AWP.seq ?_
  refine AWP.region ?_
  refine AOps.step rfl rfl rfl (AOp.assignD rfl rfl) ?_
  refine AOps.step rfl rfl rfl (AOp.assignD rfl rfl) ?_
  refine AOps.nil ?_
  refine AWP.seq ?_
  refine AWP.seq ?_
  refine AWP.region ?_
  refine AOps.step rfl rfl rfl (AOp.moveD rfl rfl) ?_
  refine AOps.step rfl rfl rfl (AOp.seql rfl rfl rfl) ?_
  refine AOps.nil ?_
  refine AWP.cond rfl (fun h1 => ?_) (fun h1 => ?_)
  · replace h1 := of_decide_eq_true h1
    have h1 : (spl 10 s.data.toList) = [[]] := by rw [strCons.1 h1]; rfl
    rw [h1]
    refine AWP.seq ?_
    refine AWP.region ?_
    refine AOps.step rfl rfl rfl (AOp.assignD rfl rfl) ?_
    refine AOps.step rfl rfl rfl (AOp.assignD rfl rfl) ?_
    refine AOps.nil ?_
    refine AWP.ret ?_
    refine ⟨RetD.nil rfl, RetD.eq rfl ?_, trivial⟩
    all_goals (first | rfl | (rw [List.map_take, show ((((spl 10 s.data.toList).map pcD).length : Int) - 1).toNat = (spl 10 s.data.toList).length - 1 by rw [List.length_map]; omega]))
  · replace h1 := of_decide_eq_false h1
    skip
    refine AWP.skip ?_
    refine AWP.seq ?_
    refine AWP.region ?_
    refine AOps.step rfl rfl rfl (AOp.moveD rfl rfl) ?_
    -- wants the world
    refine AOps.callT rfl rfl rfl hT tm_stays rfl (.cons (ArgOk.rfl' rfl) (.cons (ArgOk.rfl' rfl) .nil)) (c_split s 10 (by omega)).max ?_
    refine AOps.step rfl rfl rfl (AOp.assignD rfl rfl) ?_
    refine AOps.nil ?_
    refine AWP.seq ?_
    refine AWP.seq ?_
    refine AWP.region ?_
    refine AOps.step rfl rfl rfl (AOp.moveD rfl rfl) ?_
    refine AOps.step rfl rfl rfl (AOp.moveD rfl rfl) ?_
    refine AOps.step rfl rfl rfl (AOp.lenSl rfl et_43.ht rfl) ?_
    refine AOps.step rfl rfl rfl (AOp.sub64 rfl rfl rfl (by rw [List.length_map]; have := spl_length_le 10 s.data.toList; omega) (by rw [List.length_map]; have := spl_length_le 10 s.data.toList; omega)) ?_
    refine AOps.step rfl rfl rfl (AOp.indexAddr rfl et_43 rfl rfl ((spl 10 s.data.toList).length - 1) (by rw [List.length_map]; omega) (last_at hne) rfl) ?_
    refine AOps.step rfl rfl rfl (AOp.load rfl sc_9 rfl) ?_
    refine AOps.step rfl rfl rfl (AOp.seql rfl rfl rfl) ?_
    refine AOps.nil ?_
    refine AWP.cond rfl (fun h2 => ?_) (fun h2 => ?_)
    · replace h2 := of_decide_eq_true h2
      have hw : wholeB (spl 10 s.data.toList) = true := decide_eq_true (strL_nil.1 h2)
      have hn : nLn (spl 10 s.data.toList) = (spl 10 s.data.toList).length - 1 := if_pos hw
      rw [hw, hn]
      refine AWP.seq ?_
      refine AWP.region ?_
      refine AOps.step rfl rfl rfl (AOp.moveD rfl rfl) ?_
      refine AOps.step rfl rfl rfl (AOp.moveD rfl rfl) ?_
      refine AOps.step rfl rfl rfl (AOp.lenSl rfl et_43.ht rfl) ?_
      refine AOps.step rfl rfl rfl (AOp.sub64 rfl rfl rfl (by rw [List.length_map]; have := spl_length_le 10 s.data.toList; omega) (by rw [List.length_map]; have := spl_length_le 10 s.data.toList; omega)) ?_
      refine AOps.step rfl rfl rfl (AOp.sliceH rfl et_43 rfl rfl (by rw [List.length_map]; omega) (by rw [List.length_map]; omega) (by simp [pcD])) ?_
      refine AOps.step rfl rfl rfl (AOp.assignD rfl rfl) ?_
      refine AOps.step rfl rfl rfl (AOp.assignD rfl rfl) ?_
      refine AOps.nil ?_
      refine AWP.ret ?_
      refine ⟨RetD.eq rfl ?_, RetD.eq rfl ?_, trivial⟩
      all_goals (first | rfl | (rw [List.map_take, show ((((spl 10 s.data.toList).map pcD).length : Int) - 1).toNat = (spl 10 s.data.toList).length - 1 by rw [List.length_map]; omega]))
    · replace h2 := of_decide_eq_false h2
      have hw : wholeB (spl 10 s.data.toList) = false := decide_eq_false (fun hh => h2 (strL_nil.2 hh))
      have hn : nLn (spl 10 s.data.toList) = (spl 10 s.data.toList).length := if_neg (by rw [hw]; decide)
      rw [hw, hn, List.take_length]
      refine AWP.skip ?_
      refine AWP.seq ?_
      refine AWP.region ?_
      refine AOps.step rfl rfl rfl (AOp.moveD rfl rfl) ?_
      refine AOps.step rfl rfl rfl (AOp.assignD rfl rfl) ?_
      refine AOps.step rfl rfl rfl (AOp.assignD rfl rfl) ?_
      refine AOps.nil ?_
      refine AWP.ret ?_
      refine ⟨RetD.eq rfl ?_, RetD.eq rfl ?_, trivial⟩
      all_goals (first | rfl | (rw [List.map_take, show ((((spl 10 s.data.toList).map pcD).length : Int) - 1).toNat = (spl 10 s.data.toList).length - 1 by rw [List.length_map]; omega]))

set_option maxRecDepth 100000 in
set_option maxHeartbeats 4000000 in
theorem c_rhead (s : ByteArray) (hs : s.size ≤ 200000) : ACallT Tryz.prog TM 17 [.v (.string s)] (.tup [.agg (newD (hd4 s.data.toList).1.item (hd4 s.data.toList).1.size (hd4 s.data.toList).1.block), .v (.int .u64 (((hd4 s.data.toList).2.1 : Nat) : Int)), .v (.bool (hd4 s.data.toList).2.2)]) := by
  refine acall_ofRT (n := 65) (ds' := [.agg (newD (hd4 s.data.toList).1.item (hd4 s.data.toList).1.size (hd4 s.data.toList).1.block), .v (.int .u64 (((hd4 s.data.toList).2.1 : Nat) : Int)), .v (.bool (hd4 s.data.toList).2.2)]) Tryz.func17 rfl (by kernel_rfl) rfl [.cell 2 40, .tmp 3, .tmp 4] rfl rfl ?_
  intro B w0 F0 hT
  have hsl := Lib.size_eq s
  refine AWP.seq ?_
  refine AWP.region ?_
  refine AOps.alloc 101 rfl rfl rfl rfl zt_40 rfl rfl rfl ?_
  refine AOps.step rfl rfl rfl (AOp.assignD rfl rfl) ?_
  refine AOps.step rfl rfl rfl (AOp.assignD rfl rfl) ?_
  refine AOps.nil ?_
  refine AWP.seq ?_
  refine AWP.region ?_
  refine AOps.step rfl rfl rfl (AOp.moveD rfl rfl) ?_
  -- wants the world
  refine AOps.callT rfl rfl rfl hT tm_stays rfl (.cons (ArgOk.rfl' rfl) (.cons (ArgOk.rfl' rfl) .nil)) (c_split s 32 (by omega)).max ?_
  refine AOps.step rfl rfl rfl (AOp.assignD rfl rfl) ?_
  refine AOps.nil ?_
  refine AWP.seq ?_
  refine AWP.seq ?_
  refine AWP.region ?_
  refine AOps.step rfl rfl rfl (AOp.moveD rfl rfl) ?_
  refine AOps.step rfl rfl rfl (AOp.lenSl rfl et_43.ht rfl) ?_
  refine AOps.step rfl rfl rfl (AOp.neq rfl rfl rfl) ?_
  refine AOps.step rfl rfl rfl (AOp.moveD rfl rfl) ?_
  refine AOps.split 16 rfl (fun g1 => ?_) (fun g1 => ?_)
  · replace g1 := of_decide_eq_true g1
    rw [List.length_map] at g1
    have HR : hd4 s.data.toList = (⟨⟨#[]⟩, 0, 0, []⟩, 0, false) := hd4_no1 (by omega)
    rw [HR]
    refine AOps.pass ⟨16, rfl, .inl ⟨_, rfl, rfl⟩⟩ rfl rfl ?_
    refine AOps.pass ⟨16, rfl, .inl ⟨_, rfl, rfl⟩⟩ rfl rfl ?_
    refine AOps.pass ⟨16, rfl, .inl ⟨_, rfl, rfl⟩⟩ rfl rfl ?_
    refine AOps.pass ⟨16, rfl, .inl ⟨_, rfl, rfl⟩⟩ rfl rfl ?_
    refine AOps.step rfl rfl rfl (AOp.pickT rfl rfl rfl) ?_
    refine AOps.nil ?_
    refine AWP.cond rfl (fun _ => ?_) (fun h => nomatch h)
    refine AWP.seq ?_
    refine AWP.region ?_
    refine AOps.step rfl rfl rfl (AOp.loadPU rfl ag_40 rfl (.head _) rfl rfl) ?_
    refine AOps.store rfl rfl rfl sz_40 rfl (.head _) rfl rfl rfl (Nat.le_of_ble_eq_true rfl) ?_
    refine AOps.step rfl rfl rfl (AOp.assignD rfl rfl) ?_
    refine AOps.step rfl rfl rfl (AOp.assignD rfl rfl) ?_
    refine AOps.nil ?_
    refine AWP.ret ?_
    refine ⟨RetR.agg rfl (.head _) ag_40 rfl (.cons (by first | exact CellD.nil | exact CellD.d | exact CellD.eq (by simp) | (refine CellD.own (by first | exact .head _ | exact .tail _ (.head _)) ?_; rfl)) (.cons (by first | exact CellD.nil | exact CellD.d | exact CellD.eq (by simp) | (refine CellD.own (by first | exact .head _ | exact .tail _ (.head _)) ?_; rfl)) (.cons (by first | exact CellD.nil | exact CellD.d | exact CellD.eq (by simp) | (refine CellD.own (by first | exact .head _ | exact .tail _ (.head _)) ?_; rfl)) (.cons (by first | exact CellD.nil | exact CellD.d | exact CellD.eq (by simp) | (refine CellD.own (by first | exact .head _ | exact .tail _ (.head _)) ?_; rfl)) .nil)))), RetD.eq rfl ?_, RetD.eq rfl ?_, trivial⟩
    all_goals (first | rfl | (rw [q1]; rfl) | (rw [q1, q2]; rfl) | (rw [q1, q2, q3]; rfl) | (rw [q1, q2, q3, dec_cast]; rfl))
  · replace g1 := of_decide_eq_false g1
    rw [List.length_map] at g1
    obtain ⟨a, b, c, d, hw⟩ := four (show (spl 32 s.data.toList).length = 4 by omega)
    obtain ⟨hla, hlb, hlc, hld⟩ := spl_l4 hw
    refine AOps.step ⟨16, rfl, .inl ⟨_, rfl, rfl⟩⟩ rfl rfl (AOp.moveD rfl rfl) ?_
    refine AOps.step ⟨16, rfl, .inl ⟨_, rfl, rfl⟩⟩ rfl rfl (AOp.indexAddr rfl et_43 rfl rfl 0 rfl (show ((spl 32 s.data.toList).map pcD)[0]? = some (pcD a) by rw [hw]; rfl) rfl) ?_
    refine AOps.step ⟨16, rfl, .inl ⟨_, rfl, rfl⟩⟩ rfl rfl (AOp.load rfl sc_9 rfl) ?_
    refine AOps.step ⟨16, rfl, .inl ⟨_, rfl, rfl⟩⟩ rfl rfl (AOp.seql rfl rfl rfl) ?_
    refine AOps.step rfl rfl rfl (AOp.pickF rfl rfl rfl) ?_
    refine AOps.nil ?_
    refine AWP.cond rfl (fun h2 => ?_) (fun h2 => ?_)
    · replace h2 := of_decide_eq_true h2
      have ha : a = [] := strL_nil.1 h2
      have HR : hd4 s.data.toList = (⟨⟨#[]⟩, 0, 0, []⟩, 0, false) := by rw [hd4_4 hw, if_pos ha]
      rw [HR]
      refine AWP.seq ?_
      refine AWP.region ?_
      refine AOps.step rfl rfl rfl (AOp.loadPU rfl ag_40 rfl (.head _) rfl rfl) ?_
      refine AOps.store rfl rfl rfl sz_40 rfl (.head _) rfl rfl rfl (Nat.le_of_ble_eq_true rfl) ?_
      refine AOps.step rfl rfl rfl (AOp.assignD rfl rfl) ?_
      refine AOps.step rfl rfl rfl (AOp.assignD rfl rfl) ?_
      refine AOps.nil ?_
      refine AWP.ret ?_
      refine ⟨RetR.agg rfl (.head _) ag_40 rfl (.cons (by first | exact CellD.nil | exact CellD.d | exact CellD.eq (by simp) | (refine CellD.own (by first | exact .head _ | exact .tail _ (.head _)) ?_; rfl)) (.cons (by first | exact CellD.nil | exact CellD.d | exact CellD.eq (by simp) | (refine CellD.own (by first | exact .head _ | exact .tail _ (.head _)) ?_; rfl)) (.cons (by first | exact CellD.nil | exact CellD.d | exact CellD.eq (by simp) | (refine CellD.own (by first | exact .head _ | exact .tail _ (.head _)) ?_; rfl)) (.cons (by first | exact CellD.nil | exact CellD.d | exact CellD.eq (by simp) | (refine CellD.own (by first | exact .head _ | exact .tail _ (.head _)) ?_; rfl)) .nil)))), RetD.eq rfl ?_, RetD.eq rfl ?_, trivial⟩
      all_goals (first | rfl | (rw [q1]; rfl) | (rw [q1, q2]; rfl) | (rw [q1, q2, q3]; rfl) | (rw [q1, q2, q3, dec_cast]; rfl))
    · replace h2 := of_decide_eq_false h2
      have ha : ¬ a = [] := fun hh => h2 (strL_nil.2 hh)
      have HR := hd4_4 hw
      rw [if_neg ha] at HR
      rw [HR]
      refine AWP.skip ?_
      refine AWP.seq ?_
      refine AWP.region ?_
      refine AOps.step rfl rfl rfl (AOp.moveD rfl rfl) ?_
      refine AOps.step rfl rfl rfl (AOp.indexAddr rfl et_43 rfl rfl 0 rfl (show ((spl 32 s.data.toList).map pcD)[0]? = some (pcD a) by rw [hw]; rfl) rfl) ?_
      refine AOps.step rfl rfl rfl (AOp.load rfl sc_9 rfl) ?_
      refine AOps.step rfl rfl rfl (AOp.fieldAddrP rfl fo_40_0 rfl) ?_
      refine AOps.store rfl rfl rfl sz_9 rfl (.head _) rfl rfl rfl (Nat.le_of_ble_eq_true rfl) ?_
      refine AOps.nil ?_
      refine AWP.seq ?_
      refine AWP.region ?_
      refine AOps.step rfl rfl rfl (AOp.moveD rfl rfl) ?_
      refine AOps.step rfl rfl rfl (AOp.indexAddr rfl et_43 rfl rfl 1 rfl (show ((spl 32 s.data.toList).map pcD)[1]? = some (pcD b) by rw [hw]; rfl) rfl) ?_
      refine AOps.step rfl rfl rfl (AOp.load rfl sc_9 rfl) ?_
      refine AOps.step rfl rfl rfl (AOp.call rfl (.cons (ArgOk.rfl' rfl) (.cons (ArgOk.rfl' rfl) .nil)) (c_rNumL b (by omega))) ?_
      refine AOps.step rfl rfl rfl (AOp.moveD rfl rfl) ?_
      refine AOps.step rfl rfl rfl (AOp.extract rfl rfl rfl) ?_
      refine AOps.step rfl rfl rfl (AOp.extract rfl rfl rfl) ?_
      refine AOps.step rfl rfl rfl (AOp.assignD rfl rfl) ?_
      refine AOps.step rfl rfl rfl (AOp.assignD rfl rfl) ?_
      refine AOps.nil ?_
      refine AWP.seq ?_
      refine AWP.region ?_
      refine AOps.step rfl rfl rfl (AOp.moveD rfl rfl) ?_
      refine AOps.step rfl rfl rfl (AOp.indexAddr rfl et_43 rfl rfl 2 rfl (show ((spl 32 s.data.toList).map pcD)[2]? = some (pcD c) by rw [hw]; rfl) rfl) ?_
      refine AOps.step rfl rfl rfl (AOp.load rfl sc_9 rfl) ?_
      refine AOps.step rfl rfl rfl (AOp.call rfl (.cons (ArgOk.rfl' rfl) (.cons (ArgOk.rfl' rfl) .nil)) (c_rNumL c (by omega))) ?_
      refine AOps.step rfl rfl rfl (AOp.moveD rfl rfl) ?_
      refine AOps.step rfl rfl rfl (AOp.extract rfl rfl rfl) ?_
      refine AOps.step rfl rfl rfl (AOp.extract rfl rfl rfl) ?_
      refine AOps.step rfl rfl rfl (AOp.assignD rfl rfl) ?_
      refine AOps.step rfl rfl rfl (AOp.assignD rfl rfl) ?_
      refine AOps.nil ?_
      refine AWP.seq ?_
      refine AWP.region ?_
      refine AOps.step rfl rfl rfl (AOp.moveD rfl rfl) ?_
      refine AOps.step rfl rfl rfl (AOp.indexAddr rfl et_43 rfl rfl 3 rfl (show ((spl 32 s.data.toList).map pcD)[3]? = some (pcD d) by rw [hw]; rfl) rfl) ?_
      refine AOps.step rfl rfl rfl (AOp.load rfl sc_9 rfl) ?_
      refine AOps.step rfl rfl rfl (AOp.call rfl (.cons (ArgOk.rfl' rfl) (.cons (ArgOk.rfl' rfl) .nil)) (c_rHexL d 16 (by decide) (by omega))) ?_
      refine AOps.step rfl rfl rfl (AOp.moveD rfl rfl) ?_
      refine AOps.step rfl rfl rfl (AOp.extract rfl rfl rfl) ?_
      refine AOps.step rfl rfl rfl (AOp.extract rfl rfl rfl) ?_
      refine AOps.step rfl rfl rfl (AOp.assignD rfl rfl) ?_
      refine AOps.step rfl rfl rfl (AOp.assignD rfl rfl) ?_
      refine AOps.nil ?_
      refine AWP.seq ?_
      refine AWP.region ?_
      refine AOps.step rfl rfl rfl (AOp.moveD rfl rfl) ?_
      refine AOps.step rfl rfl rfl (AOp.moveD rfl rfl) ?_
      refine AOps.step rfl rfl rfl (AOp.fieldAddrP rfl fo_40_1 rfl) ?_
      refine AOps.store rfl rfl rfl sz_3 rfl (.head _) rfl rfl rfl (Nat.le_of_ble_eq_true rfl) ?_
      refine AOps.step rfl rfl rfl (AOp.fieldAddrP rfl fo_40_2 rfl) ?_
      refine AOps.store rfl rfl rfl sz_3 rfl (.head _) rfl rfl rfl (Nat.le_of_ble_eq_true rfl) ?_
      refine AOps.nil ?_
      refine AWP.seq ?_
      refine AWP.region ?_
      refine AOps.step rfl rfl rfl (AOp.loadPU rfl ag_40 rfl (.head _) rfl rfl) ?_
      refine AOps.step rfl rfl rfl (AOp.moveD rfl rfl) ?_
      refine AOps.step rfl rfl rfl (AOp.moveD rfl rfl) ?_
      refine AOps.step rfl rfl rfl (AOp.moveD rfl rfl) ?_
      refine AOps.split 55 rfl (fun g3 => ?_) (fun g3 => ?_)
      · skip
        have q1 : (numV b).isSome = true := g3
        refine AOps.step ⟨55, rfl, .inl ⟨_, rfl, rfl⟩⟩ rfl rfl (AOp.moveD rfl rfl) ?_
        refine AOps.step rfl rfl rfl (AOp.pickT rfl rfl rfl) ?_
        refine AOps.step rfl rfl rfl (AOp.moveD rfl rfl) ?_
        refine AOps.split 58 rfl (fun g4 => ?_) (fun g4 => ?_)
        · skip
          have q2 : (numV c).isSome = true := g4
          refine AOps.step ⟨58, rfl, .inl ⟨_, rfl, rfl⟩⟩ rfl rfl (AOp.moveD rfl rfl) ?_
          refine AOps.step rfl rfl rfl (AOp.pickT rfl rfl rfl) ?_
          refine AOps.step rfl rfl rfl (AOp.moveD rfl rfl) ?_
          refine AOps.split 61 rfl (fun g5 => ?_) (fun g5 => ?_)
          · skip
            have q3 : (unhx d 16).isSome = true := g5
            refine AOps.step ⟨61, rfl, .inl ⟨_, rfl, rfl⟩⟩ rfl rfl (AOp.moveD rfl rfl) ?_
            refine AOps.step ⟨61, rfl, .inl ⟨_, rfl, rfl⟩⟩ rfl rfl (AOp.gtr rfl rfl rfl) ?_
            refine AOps.step rfl rfl rfl (AOp.pickT rfl rfl rfl) ?_
            refine AOps.store rfl rfl rfl sz_40 rfl (.head _) rfl rfl rfl (Nat.le_of_ble_eq_true rfl) ?_
            refine AOps.step rfl rfl rfl (AOp.assignD rfl rfl) ?_
            refine AOps.step rfl rfl rfl (AOp.assignD rfl rfl) ?_
            refine AOps.nil ?_
            refine AWP.ret ?_
            refine ⟨RetR.agg rfl (.head _) ag_40 rfl (.cons (by first | exact CellD.nil | exact CellD.d | exact CellD.eq (by simp) | (refine CellD.own (by first | exact .head _ | exact .tail _ (.head _)) ?_; rfl)) (.cons (by first | exact CellD.nil | exact CellD.d | exact CellD.eq (by simp) | (refine CellD.own (by first | exact .head _ | exact .tail _ (.head _)) ?_; rfl)) (.cons (by first | exact CellD.nil | exact CellD.d | exact CellD.eq (by simp) | (refine CellD.own (by first | exact .head _ | exact .tail _ (.head _)) ?_; rfl)) (.cons (by first | exact CellD.nil | exact CellD.d | exact CellD.eq (by simp) | (refine CellD.own (by first | exact .head _ | exact .tail _ (.head _)) ?_; rfl)) .nil)))), RetD.eq rfl ?_, RetD.eq rfl ?_, trivial⟩
            all_goals (first | rfl | (rw [q1]; rfl) | (rw [q1, q2]; rfl) | (rw [q1, q2, q3]; rfl) | (rw [q1, q2, q3, dec_cast]; rfl))
          · skip
            have q3 : (unhx d 16).isSome = false := g5
            refine AOps.pass ⟨61, rfl, .inl ⟨_, rfl, rfl⟩⟩ rfl rfl ?_
            refine AOps.pass ⟨61, rfl, .inl ⟨_, rfl, rfl⟩⟩ rfl rfl ?_
            refine AOps.step rfl rfl rfl (AOp.pickF rfl rfl rfl) ?_
            refine AOps.store rfl rfl rfl sz_40 rfl (.head _) rfl rfl rfl (Nat.le_of_ble_eq_true rfl) ?_
            refine AOps.step rfl rfl rfl (AOp.assignD rfl rfl) ?_
            refine AOps.step rfl rfl rfl (AOp.assignD rfl rfl) ?_
            refine AOps.nil ?_
            refine AWP.ret ?_
            refine ⟨RetR.agg rfl (.head _) ag_40 rfl (.cons (by first | exact CellD.nil | exact CellD.d | exact CellD.eq (by simp) | (refine CellD.own (by first | exact .head _ | exact .tail _ (.head _)) ?_; rfl)) (.cons (by first | exact CellD.nil | exact CellD.d | exact CellD.eq (by simp) | (refine CellD.own (by first | exact .head _ | exact .tail _ (.head _)) ?_; rfl)) (.cons (by first | exact CellD.nil | exact CellD.d | exact CellD.eq (by simp) | (refine CellD.own (by first | exact .head _ | exact .tail _ (.head _)) ?_; rfl)) (.cons (by first | exact CellD.nil | exact CellD.d | exact CellD.eq (by simp) | (refine CellD.own (by first | exact .head _ | exact .tail _ (.head _)) ?_; rfl)) .nil)))), RetD.eq rfl ?_, RetD.eq rfl ?_, trivial⟩
            all_goals (first | rfl | (rw [q1]; rfl) | (rw [q1, q2]; rfl) | (rw [q1, q2, q3]; rfl) | (rw [q1, q2, q3, dec_cast]; rfl))
        · skip
          have q2 : (numV c).isSome = false := g4
          refine AOps.pass ⟨58, rfl, .inl ⟨_, rfl, rfl⟩⟩ rfl rfl ?_
          refine AOps.step rfl rfl rfl (AOp.pickF rfl rfl rfl) ?_
          refine AOps.step rfl rfl rfl (AOp.moveD rfl rfl) ?_
          refine AOps.pass ⟨61, rfl, .inl ⟨_, rfl, rfl⟩⟩ rfl rfl ?_
          refine AOps.pass ⟨61, rfl, .inl ⟨_, rfl, rfl⟩⟩ rfl rfl ?_
          refine AOps.step rfl rfl rfl (AOp.pickF rfl rfl rfl) ?_
          refine AOps.store rfl rfl rfl sz_40 rfl (.head _) rfl rfl rfl (Nat.le_of_ble_eq_true rfl) ?_
          refine AOps.step rfl rfl rfl (AOp.assignD rfl rfl) ?_
          refine AOps.step rfl rfl rfl (AOp.assignD rfl rfl) ?_
          refine AOps.nil ?_
          refine AWP.ret ?_
          refine ⟨RetR.agg rfl (.head _) ag_40 rfl (.cons (by first | exact CellD.nil | exact CellD.d | exact CellD.eq (by simp) | (refine CellD.own (by first | exact .head _ | exact .tail _ (.head _)) ?_; rfl)) (.cons (by first | exact CellD.nil | exact CellD.d | exact CellD.eq (by simp) | (refine CellD.own (by first | exact .head _ | exact .tail _ (.head _)) ?_; rfl)) (.cons (by first | exact CellD.nil | exact CellD.d | exact CellD.eq (by simp) | (refine CellD.own (by first | exact .head _ | exact .tail _ (.head _)) ?_; rfl)) (.cons (by first | exact CellD.nil | exact CellD.d | exact CellD.eq (by simp) | (refine CellD.own (by first | exact .head _ | exact .tail _ (.head _)) ?_; rfl)) .nil)))), RetD.eq rfl ?_, RetD.eq rfl ?_, trivial⟩
          all_goals (first | rfl | (rw [q1]; rfl) | (rw [q1, q2]; rfl) | (rw [q1, q2, q3]; rfl) | (rw [q1, q2, q3, dec_cast]; rfl))
      · skip
        have q1 : (numV b).isSome = false := g3
        refine AOps.pass ⟨55, rfl, .inl ⟨_, rfl, rfl⟩⟩ rfl rfl ?_
        refine AOps.step rfl rfl rfl (AOp.pickF rfl rfl rfl) ?_
        refine AOps.step rfl rfl rfl (AOp.moveD rfl rfl) ?_
        refine AOps.pass ⟨58, rfl, .inl ⟨_, rfl, rfl⟩⟩ rfl rfl ?_
        refine AOps.step rfl rfl rfl (AOp.pickF rfl rfl rfl) ?_
        refine AOps.step rfl rfl rfl (AOp.moveD rfl rfl) ?_
        refine AOps.pass ⟨61, rfl, .inl ⟨_, rfl, rfl⟩⟩ rfl rfl ?_
        refine AOps.pass ⟨61, rfl, .inl ⟨_, rfl, rfl⟩⟩ rfl rfl ?_
        refine AOps.step rfl rfl rfl (AOp.pickF rfl rfl rfl) ?_
        refine AOps.store rfl rfl rfl sz_40 rfl (.head _) rfl rfl rfl (Nat.le_of_ble_eq_true rfl) ?_
        refine AOps.step rfl rfl rfl (AOp.assignD rfl rfl) ?_
        refine AOps.step rfl rfl rfl (AOp.assignD rfl rfl) ?_
        refine AOps.nil ?_
        refine AWP.ret ?_
        refine ⟨RetR.agg rfl (.head _) ag_40 rfl (.cons (by first | exact CellD.nil | exact CellD.d | exact CellD.eq (by simp) | (refine CellD.own (by first | exact .head _ | exact .tail _ (.head _)) ?_; rfl)) (.cons (by first | exact CellD.nil | exact CellD.d | exact CellD.eq (by simp) | (refine CellD.own (by first | exact .head _ | exact .tail _ (.head _)) ?_; rfl)) (.cons (by first | exact CellD.nil | exact CellD.d | exact CellD.eq (by simp) | (refine CellD.own (by first | exact .head _ | exact .tail _ (.head _)) ?_; rfl)) (.cons (by first | exact CellD.nil | exact CellD.d | exact CellD.eq (by simp) | (refine CellD.own (by first | exact .head _ | exact .tail _ (.head _)) ?_; rfl)) .nil)))), RetD.eq rfl ?_, RetD.eq rfl ?_, trivial⟩
        all_goals (first | rfl | (rw [q1]; rfl) | (rw [q1, q2]; rfl) | (rw [q1, q2, q3]; rfl) | (rw [q1, q2, q3, dec_cast]; rfl))

set_option maxRecDepth 100000 in
set_option maxHeartbeats 1000000 in
theorem c_rsums (s : ByteArray) (m : Nat) (hs : s.size ≤ 200000) (hm : m ≤ 8) : ACallT Tryz.prog TM 16 [.v (.string s), .v (.int .i64 ((m : Nat) : Int))] (.tup [.sl ((smV s.data.toList m).map u32D), .v (.bool (smB s.data.toList m))]) := by
  refine acall_ofT (n := 47) (ds' := [.sl ((smV s.data.toList m).map u32D), .v (.bool (smB s.data.toList m))]) Tryz.func16 rfl (by kernel_rfl) rfl [4, 5] rfl rfl ?_
  intro B w0 F0 hT
  have hsl := Lib.size_eq s
  have htl := trimP_le s.data.toList [32, 32]
  have hwl : (sumW s.data.toList).length ≤ _ := spl_length_le 32 _
  refine AWP.seq ?_
  refine AWP.region ?_
  refine AOps.step rfl rfl rfl (AOp.assignD rfl rfl) ?_
  refine AOps.step rfl rfl rfl (AOp.assignD rfl rfl) ?_
  refine AOps.nil ?_
  refine AWP.seq ?_
  refine AWP.region ?_
  refine AOps.step rfl rfl rfl (AOp.moveD rfl rfl) ?_
  refine AOps.step rfl rfl rfl (AOp.call rfl (.cons (ArgOk.rfl' rfl) (.cons (ArgOk.rfl' rfl) .nil)) (c_cutP2 s)) ?_
  refine AOps.step rfl rfl rfl (AOp.moveD rfl rfl) ?_
  refine AOps.step rfl rfl rfl (AOp.extract rfl rfl rfl) ?_
  refine AOps.step rfl rfl rfl (AOp.extract rfl rfl rfl) ?_
  refine AOps.step rfl rfl rfl (AOp.assignD rfl rfl) ?_
  refine AOps.step rfl rfl rfl (AOp.assignD rfl rfl) ?_
  refine AOps.nil ?_
  refine AWP.seq ?_
  refine AWP.seq ?_
  refine AWP.region ?_
  refine AOps.step rfl rfl rfl (AOp.moveD rfl rfl) ?_
  refine AOps.step rfl rfl rfl (AOp.not rfl rfl) ?_
  refine AOps.nil ?_
  refine AWP.cond rfl (fun h1 => ?_) (fun h1 => ?_)
  · replace h1 := bnot_t h1
    have hp : Lib.hasPrefix s.data.toList [32, 32] = false := h1
    have HB : smB s.data.toList m = false := by unfold smB sumsOk; rw [hp]; rfl
    have HV : smV s.data.toList m = [] := if_neg (by rw [HB]; decide)
    rw [HB, HV]
    refine AWP.seq ?_
    refine AWP.region ?_
    refine AOps.step rfl rfl rfl (AOp.assignD rfl rfl) ?_
    refine AOps.step rfl rfl rfl (AOp.assignD rfl rfl) ?_
    refine AOps.nil ?_
    refine AWP.ret ?_
    refine ⟨RetD.nil rfl, RetD.eq rfl ?_, trivial⟩
    all_goals (first | rfl | simp)
  · replace h1 := bnot_f h1
    have hp : Lib.hasPrefix s.data.toList [32, 32] = true := h1
    refine AWP.skip ?_
    refine AWP.seq ?_
    refine AWP.region ?_
    refine AOps.step rfl rfl rfl (AOp.moveD rfl rfl) ?_
    -- wants the world
    refine AOps.callT rfl rfl rfl hT tm_stays rfl (.cons (ArgOk.rfl' rfl) (.cons (ArgOk.rfl' rfl) .nil)) (c_splitL (Lib.trimPrefix s.data.toList [32, 32]) (by omega)).max ?_
    refine AOps.step rfl rfl rfl (AOp.assignD rfl rfl) ?_
    refine AOps.nil ?_
    refine AWP.seq ?_
    refine AWP.seq ?_
    refine AWP.region ?_
    refine AOps.step rfl rfl rfl (AOp.moveD rfl rfl) ?_
    refine AOps.step rfl rfl rfl (AOp.lenSl rfl et_43.ht rfl) ?_
    refine AOps.step rfl rfl rfl (AOp.moveD rfl rfl) ?_
    refine AOps.step rfl rfl rfl (AOp.neq rfl rfl rfl) ?_
    refine AOps.nil ?_
    refine AWP.cond rfl (fun h2 => ?_) (fun h2 => ?_)
    · replace h2 := of_decide_eq_true h2
      rw [List.length_map] at h2
      have HB : smB s.data.toList m = false := by unfold smB sumsOk; rw [hp, decide_eq_false (by show ¬ (sumW s.data.toList).length = _; unfold sumW; omega)]; rfl
      have HV : smV s.data.toList m = [] := if_neg (by rw [HB]; decide)
      rw [HB, HV]
      refine AWP.seq ?_
      refine AWP.region ?_
      refine AOps.step rfl rfl rfl (AOp.assignD rfl rfl) ?_
      refine AOps.step rfl rfl rfl (AOp.assignD rfl rfl) ?_
      refine AOps.nil ?_
      refine AWP.ret ?_
      refine ⟨RetD.nil rfl, RetD.eq rfl ?_, trivial⟩
      all_goals (first | rfl | simp)
    · replace h2 := of_decide_eq_false h2
      rw [List.length_map] at h2
      have hw8 : (sumW s.data.toList).length = m := by unfold sumW; omega
      have HO : sumsOk s.data.toList m = true := by unfold sumsOk; rw [hp, decide_eq_true hw8]; rfl
      refine AWP.skip ?_
      refine AWP.seq ?_
      refine AWP.region ?_
      refine AOps.step rfl rfl rfl (AOp.assignD rfl rfl) ?_
      refine AOps.nil ?_
      refine AWP.seq ?_
      refine AWP.seq ?_
      refine AWP.region ?_
      refine AOps.step rfl rfl rfl (AOp.moveD rfl rfl) ?_
      refine AOps.step rfl rfl rfl (AOp.lenSl rfl et_43.ht rfl) ?_
      refine AOps.step rfl rfl rfl (AOp.moveD rfl rfl) ?_
      refine AOps.nil ?_
      refine AWP.block ?_
      refine AWP.adopt 9 1 53 1 rfl rfl ?_
      refine AWP.loop (G := Nat) (fun k => Env.of [(29, .d (.v (.int .i64 (k : Int)))), (27, .d (.sl ((sumW s.data.toList).map pcD))), (28, .d (.v (.int .i64 (((sumW s.data.toList).map pcD).length : Int)))), (9, .own 1)]) (fun k => [(1, .row 53 1 ((pre8 ((sumW s.data.toList).take k)).map u32D))]) (fun k => k ≤ (sumW s.data.toList).length ∧ all8 ((sumW s.data.toList).take k) = true) (fun k => (sumW s.data.toList).length - k) 0 ⟨Nat.zero_le _, rfl⟩ (Sub.less ⟨(SLe.of_eq rfl), SLe.refl _, SLe.refl _, SLe.refl _, trivial⟩ (fun _ h => h)) ?_
      intro k hk
      refine AWP.seq ?_
      refine AWP.region ?_
      refine AOps.step rfl rfl rfl (AOp.lss rfl rfl rfl) ?_
      refine AOps.nil ?_
      refine AWP.seq ?_
      refine AWP.cond rfl (fun h3 => ?_) (fun h3 => ?_)
      · replace h3 := of_decide_eq_true h3
        rw [List.length_map] at h3
        have hlt : k < (sumW s.data.toList).length := by omega
        have hpl := pre8_len ((sumW s.data.toList).take k)
        have htk : ((sumW s.data.toList).take k).length ≤ 8 := by rw [List.length_take]; omega
        refine AWP.skip ?_
        refine AWP.seq ?_
        refine AWP.block ?_
        refine AWP.seq ?_
        refine AWP.region ?_
        refine AOps.step rfl rfl rfl (AOp.indexAddr rfl et_43 rfl rfl k rfl (at_lst hlt) rfl) ?_
        refine AOps.step rfl rfl rfl (AOp.load rfl sc_9 rfl) ?_
        refine AOps.step rfl rfl rfl (AOp.assignD rfl rfl) ?_
        refine AOps.nil ?_
        refine AWP.seq ?_
        refine AWP.region ?_
        refine AOps.step rfl rfl rfl (AOp.moveD rfl rfl) ?_
        refine AOps.step rfl rfl rfl (AOp.call rfl (.cons (ArgOk.rfl' rfl) (.cons (ArgOk.rfl' rfl) .nil)) (c_rHexL (sumW s.data.toList)[k] 8 (by decide) (by have := spl_lens 32 _ _ (List.getElem_mem hlt); omega))) ?_
        refine AOps.step rfl rfl rfl (AOp.moveD rfl rfl) ?_
        refine AOps.step rfl rfl rfl (AOp.extract rfl rfl rfl) ?_
        refine AOps.step rfl rfl rfl (AOp.extract rfl rfl rfl) ?_
        refine AOps.step rfl rfl rfl (AOp.assignD rfl rfl) ?_
        refine AOps.step rfl rfl rfl (AOp.assignD rfl rfl) ?_
        refine AOps.nil ?_
        refine AWP.seq ?_
        refine AWP.seq ?_
        refine AWP.region ?_
        refine AOps.step rfl rfl rfl (AOp.moveD rfl rfl) ?_
        refine AOps.step rfl rfl rfl (AOp.not rfl rfl) ?_
        refine AOps.nil ?_
        refine AWP.cond rfl (fun h4 => ?_) (fun h4 => ?_)
        · replace h4 := bnot_t h4
          have hun : un8 (sumW s.data.toList)[k] = none := by
            cases hh : un8 (sumW s.data.toList)[k] with
            | none => rfl
            | some v => unfold un8 at hh; rw [hh] at h4; cases h4
          have ha : all8 (sumW s.data.toList) = false := by
            unfold all8
            rw [List.all_eq_false]
            exact ⟨_, List.getElem_mem hlt, by rw [hun]; decide⟩
          have HB : smB s.data.toList m = false := by unfold smB; rw [HO, ha]; rfl
          have HV : smV s.data.toList m = [] := if_neg (by rw [HB]; decide)
          rw [HB, HV]
          refine AWP.seq ?_
          refine AWP.region ?_
          refine AOps.step rfl rfl rfl (AOp.assignD rfl rfl) ?_
          refine AOps.step rfl rfl rfl (AOp.assignD rfl rfl) ?_
          refine AOps.nil ?_
          refine AWP.ret ?_
          refine ⟨RetD.nil rfl, RetD.eq rfl ?_, trivial⟩
          all_goals (first | rfl | simp)
        · replace h4 := bnot_f h4
          have hso : (unhx (sumW s.data.toList)[k] 8).isSome = true := by simpa using h4
          obtain ⟨v, hv⟩ : ∃ v, un8 ((sumW s.data.toList)[k]) = some v := Option.isSome_iff_exists.1 hso
          have h168 : (16 : Nat) ^ 8 = 4294967296 := by decide
          have hv32 : v < 4294967296 := by have := unhx_lt hv; omega
          have hgv : (unhx (sumW s.data.toList)[k] 8).getD 0 = v := by unfold un8 at hv; rw [hv]; rfl
          have HN : pre8 ((sumW s.data.toList).take (k + 1)) = pre8 ((sumW s.data.toList).take k) ++ [v] := by rw [tk_snoc hlt]; exact pre8_snoc hk.2 hv
          have HA : all8 ((sumW s.data.toList).take (k + 1)) = true := by rw [tk_snoc hlt]; unfold all8; rw [List.all_append]; unfold all8 at hk; rw [hk.2]; simp [hv]
          rw [hgv]
          refine AWP.skip ?_
          refine AWP.region ?_
          refine AOps.step rfl rfl rfl (AOp.moveO rfl rfl) ?_
          refine AOps.step rfl rfl rfl (AOp.moveD rfl rfl) ?_
          refine AOps.step rfl rfl rfl (AOp.convSame rfl cv6432 rfl (wrapU32 (by omega) (by omega))) ?_
          refine AOps.step rfl rfl rfl (AOp.buildSlice rfl et_38 (.cons rfl rfl rfl .nil) rfl (by decide)) ?_
          -- append 44
          refine AOps.append rfl rfl rfl rfl et_38 rfl (.head _) rfl (by simp [D.parts]) (by simp; omega) (by simp; omega) ?_
          refine AOps.step rfl rfl rfl (AOp.assignO rfl rfl) ?_
          refine AOps.nil ?_
          refine AWP.region ?_
          refine AOps.step rfl rfl rfl (AOp.add64 rfl rfl rfl (by omega) (by omega)) ?_
          refine AOps.step rfl rfl rfl (AOp.moveD rfl rfl) ?_
          refine AOps.nil ?_
          refine ⟨k + 1, ⟨by omega, HA⟩, (by dsimp only; omega), Sub.less ⟨(SLe.of_eq rfl), SLe.refl _, SLe.refl _, SLe.refl _, trivial⟩ (by dsimp only; rw [HN, List.map_append]; exact fun _ h => h)⟩
      · replace h3 := of_decide_eq_false h3
        rw [List.length_map] at h3
        obtain rfl : k = (sumW s.data.toList).length := by omega
        have ha := hk.2
        rw [List.take_length] at ha
        rw [List.take_length]
        have HB : smB s.data.toList m = true := by unfold smB; rw [HO, ha]; rfl
        have HV : smV s.data.toList m = pre8 (sumW s.data.toList) := if_pos HB
        rw [HB, HV]
        refine AWP.exit ?_
        refine AWP.seq ?_
        refine AWP.region ?_
        refine AOps.step rfl rfl rfl (AOp.moveO rfl rfl) ?_
        refine AOps.step rfl rfl rfl (AOp.assignO rfl rfl) ?_
        refine AOps.step rfl rfl rfl (AOp.assignD rfl rfl) ?_
        refine AOps.nil ?_
        refine AWP.ret ?_
        refine ⟨RetD.own rfl (.head _) ?_, RetD.eq rfl ?_, trivial⟩
        all_goals (first | rfl | simp)

end Go.Proofs.YtnapkooefpkicaaGreatDoor


namespace Go.Proofs.YtnapkooefpkicaaGreatDoor
open Go.RowKit
set_option linter.unusedVariables false

/-! Types. -/
namespace TyVK
theorem ag_40 : AggT Tryz.prog 40 4 := .of (by kernel_rfl)
theorem et_22 : ElemTy Tryz.prog 22 40 4 56 (.agg #[(.string ⟨#[]⟩), (.int .i64 0), (.int .i64 0), (.slice none 0 0)]) := ⟨by kernel_rfl, by kernel_rfl, by kernel_rfl, by decide⟩
theorem et_33 : ElemTy Tryz.prog 33 41 1 8 (.int .u64 0) := ⟨by kernel_rfl, by kernel_rfl, by kernel_rfl, by decide⟩
theorem et_38 : ElemTy Tryz.prog 38 53 1 4 (.int .u32 0) := ⟨by kernel_rfl, by kernel_rfl, by kernel_rfl, by decide⟩
theorem et_43 : ElemTy Tryz.prog 43 9 1 16 (.string ⟨#[]⟩) := ⟨by kernel_rfl, by kernel_rfl, by kernel_rfl, by decide⟩
theorem fo_40_0 : fieldOff Tryz.prog 40 0 = some 0 := by kernel_rfl
theorem fo_40_1 : fieldOff Tryz.prog 40 1 = some 1 := by kernel_rfl
theorem fo_40_2 : fieldOff Tryz.prog 40 2 = some 2 := by kernel_rfl
theorem fo_40_3 : fieldOff Tryz.prog 40 3 = some 3 := by kernel_rfl
theorem sc_3 : Scal Tryz.prog 3 := .of (by kernel_rfl)
theorem sc_38 : Scal Tryz.prog 38 := .of (by kernel_rfl)
theorem sc_41 : Scal Tryz.prog 41 := .of (by kernel_rfl)
theorem sc_53 : Scal Tryz.prog 53 := .of (by kernel_rfl)
theorem sc_9 : Scal Tryz.prog 9 := .of (by kernel_rfl)
theorem st_9 : Tryz.prog.underlying 9 = some .string := by kernel_rfl
theorem sz_38 : ∀ w, (sizeOf 38).run Tryz.prog w = .ok 1 w := SizeT.of (by kernel_rfl)
theorem sz_40 : ∀ w, (sizeOf 40).run Tryz.prog w = .ok 4 w := SizeT.of (by kernel_rfl)
theorem zt_40 : (Tryz.prog.info? 40).bind (·.zero) = some (.agg #[(.string ⟨#[]⟩), (.int .i64 0), (.int .i64 0), (.slice none 0 0)]) := by kernel_rfl
end TyVK
open TyVK


open Go.Lib
set_option linter.unusedSimpArgs false
theorem rdO_kill (i : Nat) (hi : Nat.beq 700 i = false) (done : List Man) (cur : Option Man) : (rdO done cur).map (fun ss => ss.map (S.kill i)) = rdO done cur := by
  have hm : ∀ m : Man, (manS m).map (S.kill i) = manS m := fun m => rfl
  have h1 : (done.map manS).map (fun ss => ss.map (S.kill i)) = done.map manS := by
    rw [List.map_map]
    exact List.map_congr_left fun m _ => hm m
  cases cur with
  | none => exact h1
  | some m =>
    show (done.map manS ++ [lastS m]).map _ = _
    rw [List.map_append, h1]
    have : S.kill i (.own 700) = .own 700 := by
      show (match Nat.beq 700 i with | true => S.d .any | false => .own 700) = _
      rw [hi]
    show _ ++ [[_, _, _, S.kill i (.own 700)]] = _
    rw [this]; rfl
theorem c_rsumsL (l : List UInt8) (m : Nat) (hs : l.length ≤ 200000) (hm : m ≤ 8) : ACallT Tryz.prog TM 16 [.v (.string (strL l)), .v (.int .i64 ((m : Nat) : Int))] (.tup [.sl ((smV l m).map u32D), .v (.bool (smB l m))]) := c_rsums (strL l) m (by rw [strL_size]; exact hs) hm
theorem c_rheadL (l : List UInt8) (hs : l.length ≤ 200000) : ACallT Tryz.prog TM 17 [.v (.string (strL l))] (.tup [.agg (newD (hd4 l).1.item (hd4 l).1.size (hd4 l).1.block), .v (.int .u64 (((hd4 l).2.1 : Nat) : Int)), .v (.bool (hd4 l).2.2)]) := c_rhead (strL l) (by rw [strL_size]; exact hs)
theorem flat_eq (ls : List (List UInt8)) : (unl ls).length = (ls.flatMap fun x => (10 : UInt8) :: x).length := by
  have := congrArg List.length (rot ls)
  rw [List.length_append, List.length_cons] at this
  simp only [List.length_cons, List.length_nil] at this
  omega
theorem unl_le (t : List UInt8) (k : Nat) : (unl ((spl 10 t).take k)).length ≤ t.length + 1 := by
  have h1 := congrArg List.length (spl_join 10 t)
  have h2 : (spl 10 t).take k ++ (spl 10 t).drop k = spl 10 t := List.take_append_drop k _
  rw [flat_eq]
  rw [← h2, List.flatMap_append, List.length_append] at h1
  simp only [List.length_cons] at h1
  omega
theorem text_fault {t : List UInt8} (h0 : ¬ 200000 < t.length) (h : fb (badLn (spl 10 t)) (nLn (spl 10 t)) = none) (hd : ¬ 0 < (rdTo (spl 10 t) (nLn (spl 10 t))).due) (hr : fb (badRt (rdTo (spl 10 t) (nLn (spl 10 t)))) (rdTo (spl 10 t) (nLn (spl 10 t))).all.length = none) : textF (rdTo (spl 10 t) (nLn (spl 10 t))).all = mansF (rdTo (spl 10 t) (nLn (spl 10 t))).all := by
  unfold textF
  by_cases hm : mansF (rdTo (spl 10 t) (nLn (spl 10 t))).all ≠ 0
  · rw [if_pos hm]
  · rw [if_neg hm, read_canon h hd hr, if_neg h0]; exact (Decidable.not_not.1 hm).symm


set_option maxRecDepth 100000 in
set_option maxHeartbeats 8000000 in
theorem c_rRead (s : ByteArray) : ACallT Tryz.prog TM 6 [.v (.string s)] (.tup [.sl ((readV s.data.toList).1.map Man.ds), .v (.int .i64 (readV s.data.toList).2.1), .v (.int .i64 (readV s.data.toList).2.2)]) := by
  refine acall_ofT (n := 130) (ds' := [.sl ((readV s.data.toList).1.map Man.ds), .v (.int .i64 (readV s.data.toList).2.1), .v (.int .i64 (readV s.data.toList).2.2)]) Tryz.func6 rfl (by kernel_rfl) rfl [2, 3, 4] rfl rfl ?_
  intro B w0 F0 hT
  have hsl := Lib.size_eq s
  refine AWP.seq ?_
  refine AWP.region ?_
  refine AOps.step rfl rfl rfl (AOp.assignD rfl rfl) ?_
  refine AOps.step rfl rfl rfl (AOp.assignD rfl rfl) ?_
  refine AOps.step rfl rfl rfl (AOp.assignD rfl rfl) ?_
  refine AOps.nil ?_
  refine AWP.seq ?_
  refine AWP.seq ?_
  refine AWP.region ?_
  refine AOps.step rfl rfl rfl (AOp.moveD rfl rfl) ?_
  refine AOps.step rfl rfl rfl (AOp.lenStr rfl st_9 rfl) ?_
  refine AOps.step rfl rfl rfl (AOp.gtr rfl rfl rfl) ?_
  refine AOps.nil ?_
  refine AWP.cond rfl (fun h1 => ?_) (fun h1 => ?_)
  · replace h1 := of_decide_eq_true h1
    have HR : readV s.data.toList = ([], 0, 2) := if_pos (by omega)
    rw [HR]
    refine AWP.seq ?_
    refine AWP.region ?_
    refine AOps.step rfl rfl rfl (AOp.assignD rfl rfl) ?_
    refine AOps.step rfl rfl rfl (AOp.assignD rfl rfl) ?_
    refine AOps.step rfl rfl rfl (AOp.assignD rfl rfl) ?_
    refine AOps.nil ?_
    refine AWP.ret ?_
    refine ⟨RetD.nil rfl, RetD.eq rfl ?_, RetD.eq rfl ?_, trivial⟩
    all_goals (first | rfl | (rw [lns_len]; done))
  · replace h1 := of_decide_eq_false h1
    have h0 : ¬ 200000 < s.data.toList.length := by omega
    refine AWP.skip ?_
    refine AWP.seq ?_
    refine AWP.region ?_
    refine AOps.step rfl rfl rfl (AOp.moveD rfl rfl) ?_
    -- wants the world
    refine AOps.callT rfl rfl rfl hT tm_stays rfl (.cons (ArgOk.rfl' rfl) .nil) (c_lines s (by omega)) ?_
    refine AOps.step rfl rfl rfl (AOp.moveD rfl rfl) ?_
    refine AOps.step rfl rfl rfl (AOp.extract rfl rfl rfl) ?_
    refine AOps.step rfl rfl rfl (AOp.extract rfl rfl rfl) ?_
    refine AOps.step rfl rfl rfl (AOp.assignD rfl rfl) ?_
    refine AOps.step rfl rfl rfl (AOp.assignD rfl rfl) ?_
    refine AOps.nil ?_
    refine AWP.seq ?_
    refine AWP.region ?_
    refine AOps.step rfl rfl rfl (AOp.assignD rfl rfl) ?_
    refine AOps.nil ?_
    refine AWP.seq ?_
    refine AWP.region ?_
    refine AOps.step rfl rfl rfl (AOp.assignD rfl rfl) ?_
    refine AOps.nil ?_
    refine AWP.seq ?_
    refine AWP.region ?_
    refine AOps.step rfl rfl rfl (AOp.assignD rfl rfl) ?_
    refine AOps.nil ?_
    refine AWP.seq ?_
    refine AWP.seq ?_
    refine AWP.adopt 7 500 40 4 rfl rfl ?_
    refine AWP.adopt 8 501 41 1 rfl rfl ?_
    refine AWP.rowToS 500 (.tail _ (.head _)) ?_
    refine AWP.adopt 2 700 53 1 rfl rfl ?_
    refine AWP.obs (σ' := ob3 rd0) (fun p hp => by
      simp only [ob3, List.mem_cons, List.not_mem_nil, or_false] at hp
      rcases hp with rfl | rfl | rfl
      · exact .tail _ (.tail _ (.head _))
      · exact .tail _ (.head _)
      · exact .head _) ?_
    refine AWP.region ?_
    refine AOps.step rfl rfl rfl (AOp.moveD rfl rfl) ?_
    refine AOps.step rfl rfl rfl (AOp.lenSl rfl et_43.ht rfl) ?_
    refine AOps.step rfl rfl rfl (AOp.moveD rfl rfl) ?_
    refine AOps.nil ?_
    refine AWP.block ?_
    refine AWP.loop (G := Nat × Rd) (fun ⟨k, r⟩ => Env.of [(32, .d (.v (.int .i64 (k : Int)))), (30, .d (.sl (((spl 10 s.data.toList).take (nLn (spl 10 s.data.toList))).map pcD))), (31, .d (.v (.int .i64 ((nLn (spl 10 s.data.toList) : Nat) : Int)))), (5, .d (.sl (((spl 10 s.data.toList).take (nLn (spl 10 s.data.toList))).map pcD))), (6, .d (.v (.bool (wholeB (spl 10 s.data.toList))))), (7, .own 500), (8, .own 501), (9, .d (.v (.int .i64 ((r.due : Nat) : Int))))]) (fun ⟨k, r⟩ => (ob3 r)) (fun ⟨k, r⟩ => k ≤ nLn (spl 10 s.data.toList) ∧ r = rdTo (spl 10 s.data.toList) k ∧ fb (badLn (spl 10 s.data.toList)) k = none ∧ RdI r (unl ((spl 10 s.data.toList).take k)).length) (fun ⟨k, r⟩ => nLn (spl 10 s.data.toList) - k) (0, rd0) ⟨Nat.zero_le _, rfl, rfl, rdI_0 _⟩ (Sub.less ⟨(SLe.of_eq rfl), SLe.refl _, (sle_int (by rw [lns_len])), SLe.refl _, SLe.refl _, SLe.refl _, SLe.refl _, (SLe.of_eq rfl), trivial⟩ (fun _ h => h)) ?_
    rintro ⟨k, r⟩ ⟨hk, hr, hF, HI⟩
    try dsimp only at hk hr hF HI
    refine AWP.seq ?_
    refine AWP.region ?_
    refine AOps.step rfl rfl rfl (AOp.lss rfl rfl rfl) ?_
    refine AOps.nil ?_
    refine AWP.seq ?_
    refine AWP.cond rfl (fun h2 => ?_) (fun h2 => ?_)
    · replace h2 := of_decide_eq_true h2
      have hlt : k < nLn (spl 10 s.data.toList) := by omega
      obtain ⟨x, hx, hbk, hnx⟩ := ln_mid2 hlt
      have hxl := spl_lens 10 _ _ (List.mem_of_getElem? hx)
      have hkl := (List.getElem?_eq_some_iff.1 hx).1
      have hun : unl ((spl 10 s.data.toList).take (k + 1)) = unl ((spl 10 s.data.toList).take k) ++ (x ++ [10]) := by rw [tk_snoc hkl, (List.getElem?_eq_some_iff.1 hx).2, unl_snoc]
      have hul := congrArg List.length hun
      simp only [List.length_append, List.length_cons, List.length_nil] at hul
      have hdu := HI.due
      have hsz0 := spl_length_le 10 s.data.toList
      have hle1 := unl_le s.data.toList k
      have HI2 := (HI.step x).mono (c' := (unl ((spl 10 s.data.toList).take (k + 1))).length) (by omega)
      have hcs := HI.cs
      have hal := HI.len
      have hrl := HI.rlen
      have hal2 : r.done.length + r.cur.toList.length = r.all.length := by unfold Rd.all; rw [List.length_append]
      refine AWP.skip ?_
      refine AWP.seq ?_
      refine AWP.block ?_
      refine AWP.seq ?_
      refine AWP.region ?_
      refine AOps.step rfl rfl rfl (AOp.moveD rfl rfl) ?_
      refine AOps.step rfl rfl rfl (AOp.indexAddr rfl et_43 rfl rfl k rfl (lns_at hlt hx) rfl) ?_
      refine AOps.step rfl rfl rfl (AOp.load rfl sc_9 rfl) ?_
      refine AOps.step rfl rfl rfl (AOp.assignD rfl rfl) ?_
      refine AOps.step rfl rfl rfl (AOp.assignD rfl rfl) ?_
      refine AOps.nil ?_
      refine AWP.seq ?_
      refine AWP.region ?_
      refine AOps.step rfl rfl rfl (AOp.assignD rfl rfl) ?_
      refine AOps.nil ?_
      refine AWP.seq ?_
      refine AWP.seq ?_
      refine AWP.region ?_
      refine AOps.step rfl rfl rfl (AOp.moveD rfl rfl) ?_
      refine AOps.step rfl rfl rfl (AOp.gtr rfl rfl rfl) ?_
      refine AOps.nil ?_
      refine AWP.cond rfl (fun h3 => ?_) (fun h3 => ?_)
      · replace h3 := of_decide_eq_true h3
        have hd0 : 0 < r.due := by omega
        obtain ⟨m, hm⟩ := HI.cur hd0
        have hcm : m.sums.length = (curS r.cur).length := by rw [hm]; rfl
        have hdl : r.done.length ≤ r.all.length := by omega
        refine AWP.obsEq [(500, .rowS 40 4 (rdRow r.done (lastS m))), (501, .row 41 1 (r.roots.map w64D)), (700, .row 53 1 ((m.sums).map u32D))] (by show ob3 r = _; unfold ob3 ob7; rw [hm]; rfl) ?_
        have hsml : (smV x (min 8 r.due)).length ≤ x.length + 1 := by
          unfold smV
          split
          · have h1 := pre8_len (sumW x)
            have h2 : (sumW x).length ≤ _ := spl_length_le 32 _
            have h3 := trimP_le x [32, 32]
            omega
          · simp
        refine AWP.seq ?_
        refine AWP.region ?_
        refine AOps.step rfl rfl rfl (AOp.moveD rfl rfl) ?_
        refine AOps.step rfl rfl rfl (AOp.min rfl rfl rfl) ?_
        refine AOps.step rfl rfl rfl (AOp.assignD rfl rfl) ?_
        refine AOps.nil ?_
        refine AWP.seq ?_
        refine AWP.region ?_
        refine AOps.step rfl rfl rfl (AOp.assignD rfl rfl) ?_
        refine AOps.nil ?_
        refine AWP.seq ?_
        refine AWP.region ?_
        refine AOps.step rfl rfl rfl (AOp.moveD rfl rfl) ?_
        refine AOps.step rfl rfl rfl (AOp.moveD rfl rfl) ?_
        -- wants the world
        refine AOps.callT rfl rfl rfl hT tm_stays rfl (.cons (ArgOk.rfl' rfl) (.cons (ArgOk.rfl' rfl) .nil)) (by have := c_rsumsL x (min 8 r.due) (by omega) (by omega); rw [show ((min 8 r.due : Nat) : Int) = min (r.due : Int) 8 by omega] at this; exact this) ?_
        refine AOps.step rfl rfl rfl (AOp.moveD rfl rfl) ?_
        refine AOps.step rfl rfl rfl (AOp.extract rfl rfl rfl) ?_
        refine AOps.step rfl rfl rfl (AOp.extract rfl rfl rfl) ?_
        refine AOps.step rfl rfl rfl (AOp.assignD rfl rfl) ?_
        refine AOps.step rfl rfl rfl (AOp.assignD rfl rfl) ?_
        refine AOps.nil ?_
        refine AWP.seq ?_
        refine AWP.region ?_
        refine AOps.step rfl rfl rfl (AOp.moveO rfl rfl) ?_
        refine AOps.step rfl rfl rfl (AOp.moveO rfl rfl) ?_
        refine AOps.step rfl rfl rfl (AOp.weak (AOp.lenOwn rfl et_22.ht rfl (Obs.weak_mem (.head _)))) ?_
        refine AOps.step rfl rfl rfl (AOp.sub64 rfl rfl rfl (by rw [List.length_map, rdRow_len]; omega) (by rw [List.length_map, rdRow_len]; omega)) ?_
        refine AOps.step rfl rfl rfl (AOp.weak (AOp.indexOwn rfl et_22 rfl rfl (Obs.weak_mem (.head _)) r.done.length (by rw [List.length_map, rdRow_len]; omega) (by rw [List.length_map, rdRow_len]; omega))) ?_
        refine AOps.step rfl rfl rfl (AOp.assignP rfl rfl) ?_
        refine AOps.nil ?_
        refine AWP.seq ?_
        refine AWP.region ?_
        refine AOps.step rfl rfl rfl (AOp.moveP rfl rfl) ?_
        refine AOps.step rfl rfl rfl (AOp.moveP rfl rfl) ?_
        refine AOps.step rfl rfl rfl (AOp.nilCheckP rfl rfl) ?_
        refine AOps.step rfl rfl rfl (AOp.fieldAddrP rfl fo_40_3 rfl) ?_
        refine AOps.step rfl rfl rfl (AOp.loadRowS rfl sc_38 rfl (.head _) r.done.length 3 rfl (rdRow_at _ _) rfl) ?_
        refine AOps.step rfl rfl rfl (AOp.moveD rfl rfl) ?_
        -- append 58
        refine AOps.append rfl rfl rfl rfl et_38 rfl (.tail _ (.tail _ (.head _))) rfl (by simp [u32D]) (by simp; omega) (by simp; omega) ?_
        refine AOps.obsEq [(500, .rowS 40 4 (rdRow r.done [.d (.v (.string m.item)), .d (.v (.int .i64 m.size)), .d (.v (.int .i64 m.block)), .d .any])), (501, .row 41 1 (r.roots.map w64D)), (700, .row 53 1 ((m.sums ++ (smV x (min 8 r.due))).map u32D))] (by show [(500, Ob.rowS 40 4 ((rdRow r.done (lastS m)).map _)), _, _] = _; rw [rdRow_kill, List.map_append]; rfl) ?_
        refine AOps.step rfl rfl rfl (AOp.nilCheckP rfl rfl) ?_
        refine AOps.step rfl rfl rfl (AOp.fieldAddrP rfl fo_40_3 rfl) ?_
        refine AOps.eff rfl rfl (EOp.storeRowS rfl rfl sz_38 rfl (.head _) rfl (OneS.own (.tail _ (.tail _ (.head _)))) r.done.length 3 rfl (rdRow_at _ _) (by decide)) ?_
        refine AOps.obsEq [(500, .rowS 40 4 (rdRow r.done (lastS m))), (501, .row 41 1 (r.roots.map w64D)), (700, .row 53 1 ((m.sums ++ (smV x (min 8 r.due))).map u32D))] (by show [(500, Ob.rowS 40 4 ((rdRow r.done _).set r.done.length _)), _, _] = _; rw [rdRow_set]; rfl) ?_
        refine AOps.nil ?_
        refine AWP.region ?_
        refine AOps.step rfl rfl rfl (AOp.moveD rfl rfl) ?_
        refine AOps.step rfl rfl rfl (AOp.moveD rfl rfl) ?_
        refine AOps.step rfl rfl rfl (AOp.sub64 rfl rfl rfl (by omega) (by omega)) ?_
        refine AOps.step rfl rfl rfl (AOp.assignD rfl rfl) ?_
        refine AOps.nil ?_
        refine AWP.seq ?_
        refine AWP.region ?_
        refine AOps.step rfl rfl rfl (AOp.moveD rfl rfl) ?_
        refine AOps.step rfl rfl rfl (AOp.not rfl rfl) ?_
        refine AOps.step rfl rfl rfl (AOp.moveD rfl rfl) ?_
        refine AOps.split 86 rfl (fun g4 => ?_) (fun g4 => ?_)
        · replace g4 := bnot_t g4
          have HS := take_no3 (l := x) hd0 g4
          have HB : badLn (spl 10 s.data.toList) k = true := by rw [hbk, ← hr, HS]; rfl
          refine AOps.pass ⟨86, rfl, .inl ⟨_, rfl, rfl⟩⟩ rfl rfl ?_
          refine AOps.pass ⟨86, rfl, .inl ⟨_, rfl, rfl⟩⟩ rfl rfl ?_
          refine AOps.pass ⟨86, rfl, .inl ⟨_, rfl, rfl⟩⟩ rfl rfl ?_
          refine AOps.pass ⟨89, rfl, .inr ⟨rfl, rfl⟩⟩ rfl rfl ?_
          refine AOps.pass ⟨89, rfl, .inr ⟨rfl, rfl⟩⟩ rfl rfl ?_
          refine AOps.pass ⟨89, rfl, .inr ⟨rfl, rfl⟩⟩ rfl rfl ?_
          refine AOps.pass ⟨89, rfl, .inr ⟨rfl, rfl⟩⟩ rfl rfl ?_
          refine AOps.pass ⟨89, rfl, .inr ⟨rfl, rfl⟩⟩ rfl rfl ?_
          refine AOps.pass ⟨86, rfl, .inl ⟨_, rfl, rfl⟩⟩ rfl rfl ?_
          refine AOps.step rfl rfl rfl (AOp.pickT rfl rfl rfl) ?_
          refine AOps.nil ?_
          refine AWP.cond rfl (fun _ => ?_) (fun h => nomatch h)
          refine AWP.seq ?_
          first | (rw [read_bad h0 (fb_hit hF HB _ hlt)]) | skip
          refine AWP.region ?_
          refine AOps.step rfl rfl rfl (AOp.moveD rfl rfl) ?_
          refine AOps.step rfl rfl rfl (AOp.add64 rfl rfl rfl (by omega) (by omega)) ?_
          refine AOps.step rfl rfl rfl (AOp.assignD rfl rfl) ?_
          refine AOps.step rfl rfl rfl (AOp.assignD rfl rfl) ?_
          refine AOps.step rfl rfl rfl (AOp.assignD rfl rfl) ?_
          refine AOps.nil ?_
          refine AWP.ret ?_
          refine ⟨RetD.nil rfl, RetD.eq rfl ?_, RetD.eq rfl ?_, trivial⟩
          all_goals (first | rfl | (rw [lns_len]; done))
        · replace g4 := bnot_f g4
          have HT := take_sm3 (l := x) hd0 hm g4
          have HD : ((takeS r x).1.due : Int) = (r.due : Int) - min (r.due : Int) 8 := by rw [HT]; show ((r.due - min 8 r.due : Nat) : Int) = _; omega
          refine AOps.step ⟨86, rfl, .inl ⟨_, rfl, rfl⟩⟩ rfl rfl (AOp.moveD rfl rfl) ?_
          refine AOps.step ⟨86, rfl, .inl ⟨_, rfl, rfl⟩⟩ rfl rfl (AOp.not rfl rfl) ?_
          refine AOps.step ⟨86, rfl, .inl ⟨_, rfl, rfl⟩⟩ rfl rfl (AOp.moveD rfl rfl) ?_
          refine AOps.split 89 rfl (fun g5 => ?_) (fun g5 => ?_)
          · replace g5 := bnot_t g5
            have hwf : wholeB (spl 10 s.data.toList) = false := g5
            refine AOps.step ⟨89, rfl, .inl ⟨_, rfl, rfl⟩⟩ rfl rfl (AOp.moveD rfl rfl) ?_
            refine AOps.step ⟨89, rfl, .inl ⟨_, rfl, rfl⟩⟩ rfl rfl (AOp.moveD rfl rfl) ?_
            refine AOps.step ⟨89, rfl, .inl ⟨_, rfl, rfl⟩⟩ rfl rfl (AOp.lenSl rfl et_43.ht rfl) ?_
            refine AOps.step ⟨89, rfl, .inl ⟨_, rfl, rfl⟩⟩ rfl rfl (AOp.sub64 rfl rfl rfl (by rw [lns_len]; have := nLn_le (spl 10 s.data.toList); have := spl_length_le 10 s.data.toList; omega) (by rw [lns_len]; have := nLn_le (spl 10 s.data.toList); have := spl_length_le 10 s.data.toList; omega)) ?_
            refine AOps.step ⟨89, rfl, .inl ⟨_, rfl, rfl⟩⟩ rfl rfl (AOp.eql rfl rfl rfl) ?_
            refine AOps.step ⟨86, rfl, .inl ⟨_, rfl, rfl⟩⟩ rfl rfl (AOp.pickT rfl rfl rfl) ?_
            refine AOps.step rfl rfl rfl (AOp.pickF rfl rfl rfl) ?_
            refine AOps.nil ?_
            refine AWP.cond rfl (fun h6 => ?_) (fun h6 => ?_)
            · replace h6 := of_decide_eq_true h6
              first
              | (have HB : badLn (spl 10 s.data.toList) k = true := by rw [hbk, hwf, decide_eq_true (by rw [lns_len] at h6; omega)]; simp
                 rw [read_bad h0 (fb_hit hF HB _ hlt)])
              | skip
              refine AWP.seq ?_
              first | (rw [read_bad h0 (fb_hit hF HB _ hlt)]) | skip
              refine AWP.region ?_
              refine AOps.step rfl rfl rfl (AOp.moveD rfl rfl) ?_
              refine AOps.step rfl rfl rfl (AOp.add64 rfl rfl rfl (by omega) (by omega)) ?_
              refine AOps.step rfl rfl rfl (AOp.assignD rfl rfl) ?_
              refine AOps.step rfl rfl rfl (AOp.assignD rfl rfl) ?_
              refine AOps.step rfl rfl rfl (AOp.assignD rfl rfl) ?_
              refine AOps.nil ?_
              refine AWP.ret ?_
              refine ⟨RetD.nil rfl, RetD.eq rfl ?_, RetD.eq rfl ?_, trivial⟩
              all_goals (first | rfl | (rw [lns_len]; done))
            · replace h6 := of_decide_eq_false h6
              have HS : (takeS r x).2 = true := by rw [HT]
              have HBF : badLn (spl 10 s.data.toList) k = false := by rw [hbk, ← hr, HS, hwf, decide_eq_false (by rw [lns_len] at h6; omega)]; rfl
              refine AWP.skip ?_
              refine AWP.region ?_
              refine AOps.step rfl rfl rfl (AOp.add64 rfl rfl rfl (by omega) (by omega)) ?_
              refine AOps.step rfl rfl rfl (AOp.moveD rfl rfl) ?_
              refine AOps.nil ?_
              refine ⟨(k + 1, (takeS r x).1), ⟨by show k + 1 ≤ _; omega, by show _ = rdTo _ (k + 1); rw [hnx, ← hr], fb_next hF HBF, HI2⟩, (by dsimp only; omega), Sub.less ⟨(SLe.of_eq rfl), SLe.refl _, SLe.refl _, SLe.refl _, SLe.refl _, SLe.refl _, SLe.refl _, (sle_int HD.symm), trivial⟩ (by show ∀ p ∈ ob3 (takeS r x).1, _; rw [HT]; exact fun p hp => by first | exact hp | (simp only [ob3, List.mem_cons, List.not_mem_nil, or_false] at hp; rcases hp with rfl | rfl | rfl; exact .tail _ (.tail _ (.head _)); exact .tail _ (.head _); exact .head _))⟩
          · replace g5 := bnot_f g5
            have hwt : wholeB (spl 10 s.data.toList) = true := g5
            have HS : (takeS r x).2 = true := by rw [HT]
            have HBF : badLn (spl 10 s.data.toList) k = false := by rw [hbk, ← hr, HS, hwt]; rfl
            refine AOps.pass ⟨89, rfl, .inl ⟨_, rfl, rfl⟩⟩ rfl rfl ?_
            refine AOps.pass ⟨89, rfl, .inl ⟨_, rfl, rfl⟩⟩ rfl rfl ?_
            refine AOps.pass ⟨89, rfl, .inl ⟨_, rfl, rfl⟩⟩ rfl rfl ?_
            refine AOps.pass ⟨89, rfl, .inl ⟨_, rfl, rfl⟩⟩ rfl rfl ?_
            refine AOps.pass ⟨89, rfl, .inl ⟨_, rfl, rfl⟩⟩ rfl rfl ?_
            refine AOps.step ⟨86, rfl, .inl ⟨_, rfl, rfl⟩⟩ rfl rfl (AOp.pickF rfl rfl rfl) ?_
            refine AOps.step rfl rfl rfl (AOp.pickF rfl rfl rfl) ?_
            refine AOps.nil ?_
            refine AWP.cond rfl (fun h => nomatch h) (fun _ => ?_)
            refine AWP.skip ?_
            refine AWP.region ?_
            refine AOps.step rfl rfl rfl (AOp.add64 rfl rfl rfl (by omega) (by omega)) ?_
            refine AOps.step rfl rfl rfl (AOp.moveD rfl rfl) ?_
            refine AOps.nil ?_
            refine ⟨(k + 1, (takeS r x).1), ⟨by show k + 1 ≤ _; omega, by show _ = rdTo _ (k + 1); rw [hnx, ← hr], fb_next hF HBF, HI2⟩, (by dsimp only; omega), Sub.less ⟨(SLe.of_eq rfl), SLe.refl _, SLe.refl _, SLe.refl _, SLe.refl _, SLe.refl _, SLe.refl _, (sle_int HD.symm), trivial⟩ (by show ∀ p ∈ ob3 (takeS r x).1, _; rw [HT]; exact fun p hp => by first | exact hp | (simp only [ob3, List.mem_cons, List.not_mem_nil, or_false] at hp; rcases hp with rfl | rfl | rfl; exact .tail _ (.tail _ (.head _)); exact .tail _ (.head _); exact .head _))⟩
      · replace h3 := of_decide_eq_false h3
        have hd0 : ¬ 0 < r.due := by omega
        refine AWP.seq ?_
        refine AWP.region ?_
        refine AOps.alloc 101 rfl rfl rfl rfl zt_40 rfl rfl rfl ?_
        refine AOps.nil ?_
        refine AWP.seq ?_
        refine AWP.region ?_
        refine AOps.step rfl rfl rfl (AOp.assignD rfl rfl) ?_
        refine AOps.nil ?_
        refine AWP.seq ?_
        refine AWP.region ?_
        refine AOps.step rfl rfl rfl (AOp.moveD rfl rfl) ?_
        -- wants the world
        refine AOps.callT rfl rfl rfl hT tm_stays rfl (.cons (ArgOk.rfl' rfl) .nil) (c_rheadL x (by omega)) ?_
        refine AOps.step rfl rfl rfl (AOp.moveD rfl rfl) ?_
        refine AOps.step rfl rfl rfl (AOp.extract rfl rfl rfl) ?_
        refine AOps.step rfl rfl rfl (AOp.extract rfl rfl rfl) ?_
        refine AOps.step rfl rfl rfl (AOp.extract rfl rfl rfl) ?_
        refine AOps.store rfl rfl rfl sz_40 rfl (.head _) rfl rfl rfl (Nat.le_of_ble_eq_true rfl) ?_
        refine AOps.freezeCells 16 (ds := (newD (hd4 x).1.item (hd4 x).1.size (hd4 x).1.block)) rfl (.head _) ?_
        refine AOps.step rfl rfl rfl (AOp.assignD rfl rfl) ?_
        refine AOps.step rfl rfl rfl (AOp.assignD rfl rfl) ?_
        refine AOps.nil ?_
        refine AWP.seq ?_
        refine AWP.obsEq (ob3 r) (by show [(500, Ob.rowS _ 4 ((rdO _ _).map _)), _, _] = _; rw [rdO_kill _ rfl]; rfl) ?_
        refine AWP.region ?_
        refine AOps.step rfl rfl rfl (AOp.moveD rfl rfl) ?_
        refine AOps.nil ?_
        refine AWP.cond rfl (fun h7 => ?_) (fun h7 => ?_)
        · skip
          have hok : (hd4 x).2.2 = true := h7
          obtain ⟨i, sz, bl, hM, hs0, hs1, hb0, hb1⟩ := hd4_man hok
          have HH : headV x = some ((hd4 x).1, (hd4 x).2.1) := by rw [hd4_head, if_pos hok]
          have HT := take_hd hd0 HH
          rw [hM] at HT
          have hn0 := nblk_nn hs0 hb0
          have HD : ((takeS r x).1.due : Int) = nblocks sz bl := by rw [HT]; exact Int.toNat_of_nonneg hn0
          show AWP _ _ (Env.put _ _ _) _ _ 
          rw [hM]
          refine AWP.rdFreeze3 (done := r.done) (cur := r.cur) (roots := r.roots) ?_ (fun p hp => hp)
          refine AWP.drawLTail 13 [⟨510, [74]⟩, ⟨511, [78]⟩] [(3, [74]), (7, [78])] (fun _ => True) (by kernel_rfl) (by kernel_rfl) (by kernel_rfl) (by kernel_rfl) ?_
          refine LRun.step rfl rfl rfl trivial (fun τ _ => AOp.moveO rfl rfl) ?_ rfl ⟨.inr rfl, .inr rfl, trivial⟩
          refine LRun.step rfl rfl rfl trivial (fun τ _ => AOp.loadAgg rfl ag_40 rfl rfl) ?_ rfl ⟨.inr rfl, .inr rfl, trivial⟩
          refine LRun.step rfl rfl rfl trivial (fun τ _ => AOp.buildSlice rfl et_22 (.cons rfl rfl rfl .nil) rfl (by decide)) ?_ rfl ⟨.inr rfl, .inr rfl, trivial⟩
          refine LRun.eff rfl rfl trivial trivial (GE.appendN 510 (.head _) (fun t h1 => by simp [h1]) rfl rfl rfl rfl et_22 rfl (.head _) rfl (fun y hy => by obtain rfl := List.mem_singleton.1 hy; rfl) (by simp; omega) (by simp; omega) rfl rfl) ?_ (clean2 rfl)
          refine LRun.step rfl rfl rfl trivial (fun τ _ => AOp.moveO rfl rfl) ?_ rfl ⟨.inr rfl, .inr rfl, trivial⟩
          refine LRun.step rfl rfl rfl trivial (fun τ _ => AOp.moveD rfl rfl) ?_ rfl ⟨.inr rfl, .inr rfl, trivial⟩
          refine LRun.step rfl rfl rfl trivial (fun τ _ => AOp.buildSlice rfl et_33 (.cons rfl rfl rfl .nil) rfl (by decide)) ?_ rfl ⟨.inr rfl, .inr rfl, trivial⟩
          refine LRun.eff rfl rfl trivial trivial (GE.appendN 511 (.tail _ (.head _)) (fun t h1 => by simp [h1]) rfl rfl rfl rfl et_33 rfl (.tail _ (.head _)) rfl (fun y hy => by obtain rfl := List.mem_singleton.1 hy; rfl) (by simp; omega) (by simp; omega) rfl rfl) ?_ (clean2' rfl)
          refine LRun.step rfl rfl rfl trivial (fun τ _ => AOp.fieldAddr rfl fo_40_1 rfl) ?_ rfl ⟨.inr rfl, .inr rfl, trivial⟩
          refine LRun.step rfl rfl rfl trivial (fun τ _ => AOp.load rfl sc_3 rfl) ?_ rfl ⟨.inr rfl, .inr rfl, trivial⟩
          refine LRun.step rfl rfl rfl trivial (fun τ _ => AOp.fieldAddr rfl fo_40_2 rfl) ?_ rfl ⟨.inr rfl, .inr rfl, trivial⟩
          refine LRun.step rfl rfl rfl trivial (fun τ _ => AOp.load rfl sc_3 rfl) ?_ rfl ⟨.inr rfl, .inr rfl, trivial⟩
          refine LRun.step rfl rfl rfl trivial (fun τ _ => AOp.call rfl (.cons (ArgOk.rfl' rfl) (.cons (ArgOk.rfl' rfl) .nil)) (c_rblocks sz bl (by omega) (by omega) (by omega))) ?_ rfl ⟨.inr rfl, .inr rfl, trivial⟩
          refine LRun.nil ?_
          refine AOps.step rfl rfl rfl (AOp.assignO rfl rfl) ?_
          refine AOps.step rfl rfl rfl (AOp.assignO rfl rfl) ?_
          refine AOps.step rfl rfl rfl (AOp.assignD rfl rfl) ?_
          refine AOps.nil ?_
          refine AWP.obsEq [(511, .row 41 1 (r.roots.map w64D ++ [[.v (.int .u64 (((hd4 x).2.1 : Nat) : Int))]])), (510, .row 40 4 ((r.done ++ r.cur.toList).map Man.ds ++ [(newD i sz bl)]))] rfl ?_
          refine AWP.rename 510 500 [(511, .row 41 1 (r.roots.map w64D ++ [[.v (.int .u64 (((hd4 x).2.1 : Nat) : Int))]])), (500, .row 40 4 ((r.done ++ r.cur.toList).map Man.ds ++ [(newD i sz bl)]))] (by decide) rfl (fun p hp => by
              simp only [List.mem_cons, List.not_mem_nil, or_false] at hp
              rcases hp with rfl | rfl
              · exact .inr ⟨_, (.head _), Nat.ne_of_beq_eq_false rfl, Nat.ne_of_beq_eq_false rfl, rfl⟩
              · exact .inl ⟨_, (.tail _ (.head _)), rfl, rfl⟩
              ) ?_
          refine AWP.rename 511 501 [(501, .row 41 1 (r.roots.map w64D ++ [[.v (.int .u64 (((hd4 x).2.1 : Nat) : Int))]])), (500, .row 40 4 ((r.done ++ r.cur.toList).map Man.ds ++ [(newD i sz bl)]))] (by decide) rfl (fun p hp => by
              simp only [List.mem_cons, List.not_mem_nil, or_false] at hp
              rcases hp with rfl | rfl
              · exact .inl ⟨_, (.head _), rfl, rfl⟩
              · exact .inr ⟨_, (.tail _ (.head _)), Nat.ne_of_beq_eq_false rfl, Nat.ne_of_beq_eq_false rfl, rfl⟩
              ) ?_
          refine AWP.adoptRow 700 53 1 500 (r.done ++ r.cur.toList).length 3 (.tail _ (.head _)) (adopt_at _ _) rfl rfl ?_
          refine AWP.obsEq [(700, .row 53 1 []), (501, .row 41 1 ((r.roots ++ [(hd4 x).2.1]).map w64D)), (500, .rowS 40 4 (rdRow (r.done ++ r.cur.toList) (lastS ⟨i, sz, bl, []⟩)))] (by rw [← adopt_eq, show (r.roots ++ [(hd4 x).2.1]).map w64D = r.roots.map w64D ++ [[.v (.int .u64 (((hd4 x).2.1 : Nat) : Int))]] by rw [List.map_append]; rfl]; rfl) ?_
          refine AWP.seq ?_
          refine AWP.region ?_
          refine AOps.step rfl rfl rfl (AOp.moveD rfl rfl) ?_
          refine AOps.step rfl rfl rfl (AOp.not rfl rfl) ?_
          refine AOps.step rfl rfl rfl (AOp.moveD rfl rfl) ?_
          refine AOps.split 86 rfl (fun g8 => ?_) (fun g8 => ?_)
          · replace g8 := bnot_t g8
            rw [show (hd4 x).2.2 = false from g8] at hok; cases hok
          · replace g8 := bnot_f g8
            skip
            refine AOps.step ⟨86, rfl, .inl ⟨_, rfl, rfl⟩⟩ rfl rfl (AOp.moveD rfl rfl) ?_
            refine AOps.step ⟨86, rfl, .inl ⟨_, rfl, rfl⟩⟩ rfl rfl (AOp.not rfl rfl) ?_
            refine AOps.step ⟨86, rfl, .inl ⟨_, rfl, rfl⟩⟩ rfl rfl (AOp.moveD rfl rfl) ?_
            refine AOps.split 89 rfl (fun g9 => ?_) (fun g9 => ?_)
            · replace g9 := bnot_t g9
              have hwf : wholeB (spl 10 s.data.toList) = false := g9
              refine AOps.step ⟨89, rfl, .inl ⟨_, rfl, rfl⟩⟩ rfl rfl (AOp.moveD rfl rfl) ?_
              refine AOps.step ⟨89, rfl, .inl ⟨_, rfl, rfl⟩⟩ rfl rfl (AOp.moveD rfl rfl) ?_
              refine AOps.step ⟨89, rfl, .inl ⟨_, rfl, rfl⟩⟩ rfl rfl (AOp.lenSl rfl et_43.ht rfl) ?_
              refine AOps.step ⟨89, rfl, .inl ⟨_, rfl, rfl⟩⟩ rfl rfl (AOp.sub64 rfl rfl rfl (by rw [lns_len]; have := nLn_le (spl 10 s.data.toList); have := spl_length_le 10 s.data.toList; omega) (by rw [lns_len]; have := nLn_le (spl 10 s.data.toList); have := spl_length_le 10 s.data.toList; omega)) ?_
              refine AOps.step ⟨89, rfl, .inl ⟨_, rfl, rfl⟩⟩ rfl rfl (AOp.eql rfl rfl rfl) ?_
              refine AOps.step ⟨86, rfl, .inl ⟨_, rfl, rfl⟩⟩ rfl rfl (AOp.pickT rfl rfl rfl) ?_
              refine AOps.step rfl rfl rfl (AOp.pickF rfl rfl rfl) ?_
              refine AOps.nil ?_
              refine AWP.cond rfl (fun h10 => ?_) (fun h10 => ?_)
              · replace h10 := of_decide_eq_true h10
                first
                | (have HB : badLn (spl 10 s.data.toList) k = true := by rw [hbk, hwf, decide_eq_true (by rw [lns_len] at h10; omega)]; simp
                   rw [read_bad h0 (fb_hit hF HB _ hlt)])
                | skip
                refine AWP.seq ?_
                first | (rw [read_bad h0 (fb_hit hF HB _ hlt)]) | skip
                refine AWP.region ?_
                refine AOps.step rfl rfl rfl (AOp.moveD rfl rfl) ?_
                refine AOps.step rfl rfl rfl (AOp.add64 rfl rfl rfl (by omega) (by omega)) ?_
                refine AOps.step rfl rfl rfl (AOp.assignD rfl rfl) ?_
                refine AOps.step rfl rfl rfl (AOp.assignD rfl rfl) ?_
                refine AOps.step rfl rfl rfl (AOp.assignD rfl rfl) ?_
                refine AOps.nil ?_
                refine AWP.ret ?_
                refine ⟨RetD.nil rfl, RetD.eq rfl ?_, RetD.eq rfl ?_, trivial⟩
                all_goals (first | rfl | (rw [lns_len]; done))
              · replace h10 := of_decide_eq_false h10
                have HS : (takeS r x).2 = true := by rw [HT]
                have HBF : badLn (spl 10 s.data.toList) k = false := by rw [hbk, ← hr, HS, hwf, decide_eq_false (by rw [lns_len] at h10; omega)]; rfl
                refine AWP.skip ?_
                refine AWP.region ?_
                refine AOps.step rfl rfl rfl (AOp.add64 rfl rfl rfl (by omega) (by omega)) ?_
                refine AOps.step rfl rfl rfl (AOp.moveD rfl rfl) ?_
                refine AOps.nil ?_
                refine ⟨(k + 1, (takeS r x).1), ⟨by show k + 1 ≤ _; omega, by show _ = rdTo _ (k + 1); rw [hnx, ← hr], fb_next hF HBF, HI2⟩, (by dsimp only; omega), Sub.less ⟨(SLe.of_eq rfl), SLe.refl _, SLe.refl _, SLe.refl _, SLe.refl _, SLe.refl _, SLe.refl _, (sle_int HD.symm), trivial⟩ (by show ∀ p ∈ ob3 (takeS r x).1, _; rw [HT]; exact fun p hp => by first | exact hp | (simp only [ob3, List.mem_cons, List.not_mem_nil, or_false] at hp; rcases hp with rfl | rfl | rfl; exact .tail _ (.tail _ (.head _)); exact .tail _ (.head _); exact .head _))⟩
            · replace g9 := bnot_f g9
              have hwt : wholeB (spl 10 s.data.toList) = true := g9
              have HS : (takeS r x).2 = true := by rw [HT]
              have HBF : badLn (spl 10 s.data.toList) k = false := by rw [hbk, ← hr, HS, hwt]; rfl
              refine AOps.pass ⟨89, rfl, .inl ⟨_, rfl, rfl⟩⟩ rfl rfl ?_
              refine AOps.pass ⟨89, rfl, .inl ⟨_, rfl, rfl⟩⟩ rfl rfl ?_
              refine AOps.pass ⟨89, rfl, .inl ⟨_, rfl, rfl⟩⟩ rfl rfl ?_
              refine AOps.pass ⟨89, rfl, .inl ⟨_, rfl, rfl⟩⟩ rfl rfl ?_
              refine AOps.pass ⟨89, rfl, .inl ⟨_, rfl, rfl⟩⟩ rfl rfl ?_
              refine AOps.step ⟨86, rfl, .inl ⟨_, rfl, rfl⟩⟩ rfl rfl (AOp.pickF rfl rfl rfl) ?_
              refine AOps.step rfl rfl rfl (AOp.pickF rfl rfl rfl) ?_
              refine AOps.nil ?_
              refine AWP.cond rfl (fun h => nomatch h) (fun _ => ?_)
              refine AWP.skip ?_
              refine AWP.region ?_
              refine AOps.step rfl rfl rfl (AOp.add64 rfl rfl rfl (by omega) (by omega)) ?_
              refine AOps.step rfl rfl rfl (AOp.moveD rfl rfl) ?_
              refine AOps.nil ?_
              refine ⟨(k + 1, (takeS r x).1), ⟨by show k + 1 ≤ _; omega, by show _ = rdTo _ (k + 1); rw [hnx, ← hr], fb_next hF HBF, HI2⟩, (by dsimp only; omega), Sub.less ⟨(SLe.of_eq rfl), SLe.refl _, SLe.refl _, SLe.refl _, SLe.refl _, SLe.refl _, SLe.refl _, (sle_int HD.symm), trivial⟩ (by show ∀ p ∈ ob3 (takeS r x).1, _; rw [HT]; exact fun p hp => by first | exact hp | (simp only [ob3, List.mem_cons, List.not_mem_nil, or_false] at hp; rcases hp with rfl | rfl | rfl; exact .tail _ (.tail _ (.head _)); exact .tail _ (.head _); exact .head _))⟩
        · skip
          have hok : (hd4 x).2.2 = false := h7
          refine AWP.skip ?_
          refine AWP.seq ?_
          refine AWP.region ?_
          refine AOps.step rfl rfl rfl (AOp.moveD rfl rfl) ?_
          refine AOps.step rfl rfl rfl (AOp.not rfl rfl) ?_
          refine AOps.step rfl rfl rfl (AOp.moveD rfl rfl) ?_
          refine AOps.split 86 rfl (fun g11 => ?_) (fun g11 => ?_)
          · replace g11 := bnot_t g11
            have HS : (takeS r x).2 = false := by rw [take_no hd0 (by rw [hd4_head, if_neg (by rw [hok]; decide)])]
            have HB : badLn (spl 10 s.data.toList) k = true := by rw [hbk, ← hr, HS]; rfl
            refine AOps.pass ⟨86, rfl, .inl ⟨_, rfl, rfl⟩⟩ rfl rfl ?_
            refine AOps.pass ⟨86, rfl, .inl ⟨_, rfl, rfl⟩⟩ rfl rfl ?_
            refine AOps.pass ⟨86, rfl, .inl ⟨_, rfl, rfl⟩⟩ rfl rfl ?_
            refine AOps.pass ⟨89, rfl, .inr ⟨rfl, rfl⟩⟩ rfl rfl ?_
            refine AOps.pass ⟨89, rfl, .inr ⟨rfl, rfl⟩⟩ rfl rfl ?_
            refine AOps.pass ⟨89, rfl, .inr ⟨rfl, rfl⟩⟩ rfl rfl ?_
            refine AOps.pass ⟨89, rfl, .inr ⟨rfl, rfl⟩⟩ rfl rfl ?_
            refine AOps.pass ⟨89, rfl, .inr ⟨rfl, rfl⟩⟩ rfl rfl ?_
            refine AOps.pass ⟨86, rfl, .inl ⟨_, rfl, rfl⟩⟩ rfl rfl ?_
            refine AOps.step rfl rfl rfl (AOp.pickT rfl rfl rfl) ?_
            refine AOps.nil ?_
            refine AWP.cond rfl (fun _ => ?_) (fun h => nomatch h)
            refine AWP.seq ?_
            first | (rw [read_bad h0 (fb_hit hF HB _ hlt)]) | skip
            refine AWP.region ?_
            refine AOps.step rfl rfl rfl (AOp.moveD rfl rfl) ?_
            refine AOps.step rfl rfl rfl (AOp.add64 rfl rfl rfl (by omega) (by omega)) ?_
            refine AOps.step rfl rfl rfl (AOp.assignD rfl rfl) ?_
            refine AOps.step rfl rfl rfl (AOp.assignD rfl rfl) ?_
            refine AOps.step rfl rfl rfl (AOp.assignD rfl rfl) ?_
            refine AOps.nil ?_
            refine AWP.ret ?_
            refine ⟨RetD.nil rfl, RetD.eq rfl ?_, RetD.eq rfl ?_, trivial⟩
            all_goals (first | rfl | (rw [lns_len]; done))
          · replace g11 := bnot_f g11
            rw [show (hd4 x).2.2 = true from g11] at hok; cases hok
    · replace h2 := of_decide_eq_false h2
      obtain rfl : k = nLn (spl 10 s.data.toList) := by omega
      have hnl := nLn_le (spl 10 s.data.toList)
      have hsz := spl_length_le 10 s.data.toList
      refine AWP.exit ?_
      refine AWP.seq ?_
      refine AWP.seq ?_
      refine AWP.region ?_
      refine AOps.step rfl rfl rfl (AOp.moveD rfl rfl) ?_
      refine AOps.step rfl rfl rfl (AOp.gtr rfl rfl rfl) ?_
      refine AOps.nil ?_
      refine AWP.cond rfl (fun h12 => ?_) (fun h12 => ?_)
      · replace h12 := of_decide_eq_true h12
        have hd : 0 < (rdTo (spl 10 s.data.toList) (nLn (spl 10 s.data.toList))).due := by rw [← hr]; omega
        rw [read_due h0 hF hd]
        refine AWP.seq ?_
        refine AWP.region ?_
        refine AOps.step rfl rfl rfl (AOp.moveD rfl rfl) ?_
        refine AOps.step rfl rfl rfl (AOp.lenSl rfl et_43.ht rfl) ?_
        refine AOps.step rfl rfl rfl (AOp.add64 rfl rfl rfl (by rw [lns_len]; omega) (by rw [lns_len]; omega)) ?_
        refine AOps.step rfl rfl rfl (AOp.assignD rfl rfl) ?_
        refine AOps.step rfl rfl rfl (AOp.assignD rfl rfl) ?_
        refine AOps.step rfl rfl rfl (AOp.assignD rfl rfl) ?_
        refine AOps.nil ?_
        refine AWP.ret ?_
        refine ⟨RetD.nil rfl, RetD.eq rfl ?_, RetD.eq rfl ?_, trivial⟩
        all_goals (first | rfl | (rw [lns_len]; done))
      · replace h12 := of_decide_eq_false h12
        have hd : ¬ 0 < (rdTo (spl 10 s.data.toList) (nLn (spl 10 s.data.toList))).due := by rw [← hr]; omega
        rw [read_end h0 hF hd, ← hr]
        have hle1 := unl_le s.data.toList (nLn (spl 10 s.data.toList))
        replace HI := HI.mono (c' := s.size + 1) (by omega)
        have hal := HI.len
        refine AWP.skip ?_
        refine AWP.seq ?_
        refine AWP.seq ?_
        refine AWP.rdFreeze3 (done := r.done) (cur := r.cur) (roots := r.roots) ?_ (fun p hp => hp)
        refine AWP.region ?_
        refine AOps.freeze 7 rfl (.head _) ?_
        refine AOps.freeze 8 rfl (.head _) ?_
        refine AOps.step rfl rfl rfl (AOp.moveD rfl rfl) ?_
        refine AOps.step rfl rfl rfl (AOp.lenSl rfl et_22.ht rfl) ?_
        refine AOps.step rfl rfl rfl (AOp.moveD rfl rfl) ?_
        refine AOps.nil ?_
        refine AWP.block ?_
        refine AWP.loop (G := Nat) (fun j => Env.of [(107, .d (.v (.int .i64 (j : Int)))), (105, .d (.sl (r.all.map Man.ds))), (106, .d (.v (.int .i64 ((r.all.map Man.ds).length : Int)))), (7, .d (.sl (r.all.map Man.ds))), (8, .d (.sl (r.roots.map w64D)))]) (fun j => []) (fun j => j ≤ r.all.length ∧ fb (badRt r) j = none) (fun j => r.all.length - j) 0 ⟨Nat.zero_le _, rfl⟩ (Sub.less ⟨(SLe.of_eq rfl), SLe.refl _, SLe.refl _, SLe.refl _, SLe.refl _, trivial⟩ (fun _ h => h)) ?_
        intro j hj
        refine AWP.seq ?_
        refine AWP.region ?_
        refine AOps.step rfl rfl rfl (AOp.lss rfl rfl rfl) ?_
        refine AOps.nil ?_
        refine AWP.seq ?_
        refine AWP.cond rfl (fun h13 => ?_) (fun h13 => ?_)
        · replace h13 := of_decide_eq_true h13
          rw [List.length_map] at h13
          have hlt : j < r.all.length := by omega
          have hmj := HI.mans _ (List.getElem_mem hlt)
          have hrj : j < r.roots.length := by rw [HI.rlen]; exact hlt
          have HBR := bad_rt hlt
          refine AWP.skip ?_
          refine AWP.seq ?_
          refine AWP.block ?_
          refine AWP.seq ?_
          refine AWP.region ?_
          refine AOps.step rfl rfl rfl (AOp.moveD rfl rfl) ?_
          refine AOps.step rfl rfl rfl (AOp.indexAddr rfl et_22 rfl rfl j rfl (at_lst hlt) rfl) ?_
          refine AOps.step rfl rfl rfl (AOp.loadAgg rfl ag_40 rfl rfl) ?_
          refine AOps.alloc 102 rfl rfl rfl rfl zt_40 rfl rfl rfl ?_
          refine AOps.step rfl rfl rfl (AOp.assignD rfl rfl) ?_
          refine AOps.store rfl rfl rfl sz_40 rfl (.head _) rfl rfl rfl (Nat.le_of_ble_eq_true rfl) ?_
          refine AOps.freezeCells 19 (ds := r.all[j].ds) rfl (.head _) ?_
          refine AOps.nil ?_
          refine AWP.seq ?_
          refine AWP.draw (by kernel_rfl) (by kernel_rfl) ?_
          refine DRun.step rfl rfl rfl (AOp.fieldAddr rfl fo_40_3 rfl) ?_
          refine DRun.step rfl rfl rfl (AOp.load rfl sc_38 rfl) ?_
          refine DRun.step rfl rfl rfl (AOp.call rfl (.cons (ArgOk.rfl' rfl) .nil) (c_rRoot r.all[j].sums hmj.2.2 (by omega))) ?_
          refine DRun.step rfl rfl rfl (AOp.moveD rfl rfl) ?_
          refine DRun.step rfl rfl rfl (AOp.moveD rfl rfl) ?_
          refine DRun.step rfl rfl rfl (AOp.indexAddr rfl et_33 rfl rfl j rfl (w64_at hrj) rfl) ?_
          refine DRun.step rfl rfl rfl (AOp.load rfl sc_41 rfl) ?_
          refine DRun.step rfl rfl rfl (AOp.neq rfl rfl rfl) ?_
          refine DRun.nil ?_
          refine AWP.cond rfl (fun h14 => ?_) (fun h14 => ?_)
          · replace h14 := of_decide_eq_true h14
            rw [end_root hj.2 hlt (by rw [HBR]; exact decide_eq_true (by intro hh; exact h14 (by rw [hh])))]
            refine AWP.seq ?_
            refine AWP.region ?_
            refine AOps.step rfl rfl rfl (AOp.assignD rfl rfl) ?_
            refine AOps.step rfl rfl rfl (AOp.assignD rfl rfl) ?_
            refine AOps.step rfl rfl rfl (AOp.assignD rfl rfl) ?_
            refine AOps.nil ?_
            refine AWP.ret ?_
            refine ⟨RetD.nil rfl, RetD.eq rfl ?_, RetD.eq rfl ?_, trivial⟩
            all_goals (first | rfl | (rw [lns_len]; done))
          · replace h14 := of_decide_eq_false h14
            have HBJ : badRt r j = false := by rw [HBR]; exact decide_eq_false (fun hh => by have := Decidable.not_not.1 h14; omega)
            refine AWP.skip ?_
            refine AWP.region ?_
            refine AOps.step rfl rfl rfl (AOp.add64 rfl rfl rfl (by omega) (by omega)) ?_
            refine AOps.step rfl rfl rfl (AOp.moveD rfl rfl) ?_
            refine AOps.nil ?_
            refine ⟨j + 1, ⟨by omega, fb_next hj.2 HBJ⟩, (by dsimp only; omega), Sub.less ⟨(SLe.of_eq rfl), SLe.refl _, SLe.refl _, SLe.refl _, SLe.refl _, trivial⟩ (fun _ h => h)⟩
        · replace h13 := of_decide_eq_false h13
          rw [List.length_map] at h13
          obtain rfl : j = r.all.length := by omega
          have HFT : textF r.all = mansF r.all := by rw [hr]; exact text_fault h0 hF hd (by rw [← hr]; exact hj.2)
          refine AWP.exit ?_
          refine AWP.seq ?_
          refine AWP.seq ?_
          refine AWP.region ?_
          refine AOps.step rfl rfl rfl (AOp.moveD rfl rfl) ?_
          -- wants the world
          refine AOps.callT rfl rfl rfl hT tm_stays rfl (.cons (ArgOk.rfl' rfl) .nil) (c_rText r.all (fun m hm => ⟨by have := (HI.mans m hm).1; omega, (HI.mans m hm).2.2⟩)).tab ?_
          refine AOps.step rfl rfl rfl (AOp.moveD rfl rfl) ?_
          refine AOps.step rfl rfl rfl (AOp.extract rfl rfl rfl) ?_
          refine AOps.step rfl rfl rfl (AOp.extract rfl rfl rfl) ?_
          refine AOps.step rfl rfl rfl (AOp.assignD rfl rfl) ?_
          refine AOps.step rfl rfl rfl (AOp.assignD rfl rfl) ?_
          refine AOps.nil ?_
          refine AWP.seq ?_
          refine AWP.region ?_
          refine AOps.step rfl rfl rfl (AOp.moveD rfl rfl) ?_
          refine AOps.step rfl rfl rfl (AOp.neq rfl rfl rfl) ?_
          refine AOps.nil ?_
          refine AWP.cond rfl (fun h15 => ?_) (fun h15 => ?_)
          · replace h15 := of_decide_eq_true h15
            rw [HFT] at h15
            rw [HFT, end_f hj.2 h15]
            refine AWP.seq ?_
            refine AWP.region ?_
            refine AOps.step rfl rfl rfl (AOp.moveD rfl rfl) ?_
            refine AOps.step rfl rfl rfl (AOp.assignD rfl rfl) ?_
            refine AOps.step rfl rfl rfl (AOp.assignD rfl rfl) ?_
            refine AOps.step rfl rfl rfl (AOp.assignD rfl rfl) ?_
            refine AOps.nil ?_
            refine AWP.ret ?_
            refine ⟨RetD.nil rfl, RetD.eq rfl ?_, RetD.eq rfl ?_, trivial⟩
            all_goals (first | rfl | (rw [lns_len]; done))
          · replace h15 := of_decide_eq_false h15
            rw [HFT] at h15
            rw [end_ok hj.2 (by omega)]
            refine AWP.skip ?_
            refine AWP.seq ?_
            refine AWP.region ?_
            refine AOps.step rfl rfl rfl (AOp.moveD rfl rfl) ?_
            refine AOps.step rfl rfl rfl (AOp.assignD rfl rfl) ?_
            refine AOps.step rfl rfl rfl (AOp.assignD rfl rfl) ?_
            refine AOps.step rfl rfl rfl (AOp.assignD rfl rfl) ?_
            refine AOps.nil ?_
            refine AWP.ret ?_
            refine ⟨RetD.eq rfl ?_, RetD.eq rfl ?_, RetD.eq rfl ?_, trivial⟩
            all_goals (first | rfl | (rw [lns_len]; done))

set_option maxRecDepth 100000 in
set_option maxHeartbeats 1000000 in
theorem c_eqU32 (l : List Nat) : ACall Tryz.prog 21 [.sl (l.map u32D), .sl (l.map u32D)] (.v (.bool true)) := by
  refine acall_of (n := 26) (ds' := [.v (.bool true)]) Tryz.func21 rfl (by kernel_rfl) rfl [4] rfl rfl ?_
  intro B w0 F0 fr
  refine AWP.bound 0 rfl (fun hbd0 => ?_)
  rw [List.length_map] at hbd0
  refine AWP.seq ?_
  refine AWP.region ?_
  refine AOps.step rfl rfl rfl (AOp.assignD rfl rfl) ?_
  refine AOps.nil ?_
  refine AWP.seq ?_
  refine AWP.seq ?_
  refine AWP.region ?_
  refine AOps.step rfl rfl rfl (AOp.moveD rfl rfl) ?_
  refine AOps.step rfl rfl rfl (AOp.lenSl rfl et_38.ht rfl) ?_
  refine AOps.step rfl rfl rfl (AOp.moveD rfl rfl) ?_
  refine AOps.step rfl rfl rfl (AOp.lenSl rfl et_38.ht rfl) ?_
  refine AOps.step rfl rfl rfl (AOp.neq rfl rfl rfl) ?_
  refine AOps.nil ?_
  refine AWP.cond rfl (fun h1 => ?_) (fun h1 => ?_)
  · replace h1 := of_decide_eq_true h1
    exact absurd rfl h1
  · replace h1 := of_decide_eq_false h1
    refine AWP.skip ?_
    refine AWP.seq ?_
    refine AWP.seq ?_
    refine AWP.region ?_
    refine AOps.step rfl rfl rfl (AOp.moveD rfl rfl) ?_
    refine AOps.step rfl rfl rfl (AOp.lenSl rfl et_38.ht rfl) ?_
    refine AOps.step rfl rfl rfl (AOp.moveD rfl rfl) ?_
    refine AOps.nil ?_
    refine AWP.block ?_
    refine AWP.loop (G := Nat) (fun k => Env.of [(13, .d (.v (.int .i64 (k : Int)))), (0, .d (.sl (l.map u32D))), (1, .d (.sl (l.map u32D))), (12, .d (.v (.int .i64 ((l.map u32D).length : Int))))]) (fun k => []) (fun k => k ≤ l.length) (fun k => l.length - k) 0 (Nat.zero_le _) (Sub.less ⟨(SLe.of_eq rfl), SLe.refl _, SLe.refl _, SLe.refl _, trivial⟩ (fun _ h => h)) ?_
    intro k hk
    refine AWP.seq ?_
    refine AWP.region ?_
    refine AOps.step rfl rfl rfl (AOp.lss rfl rfl rfl) ?_
    refine AOps.nil ?_
    refine AWP.seq ?_
    refine AWP.cond rfl (fun h2 => ?_) (fun h2 => ?_)
    · replace h2 := of_decide_eq_true h2
      rw [List.length_map] at h2
      have hlt : k < l.length := by omega
      refine AWP.skip ?_
      refine AWP.seq ?_
      refine AWP.block ?_
      refine AWP.seq ?_
      refine AWP.region ?_
      refine AOps.step rfl rfl rfl (AOp.moveD rfl rfl) ?_
      refine AOps.step rfl rfl rfl (AOp.assignD rfl rfl) ?_
      refine AOps.nil ?_
      refine AWP.seq ?_
      refine AWP.draw (by kernel_rfl) (by kernel_rfl) ?_
      refine DRun.step rfl rfl rfl (AOp.moveD rfl rfl) ?_
      refine DRun.step rfl rfl rfl (AOp.moveD rfl rfl) ?_
      refine DRun.step rfl rfl rfl (AOp.indexAddr rfl et_38 rfl rfl k rfl (at_lst hlt) rfl) ?_
      refine DRun.step rfl rfl rfl (AOp.load rfl sc_53 rfl) ?_
      refine DRun.step rfl rfl rfl (AOp.moveD rfl rfl) ?_
      refine DRun.step rfl rfl rfl (AOp.moveD rfl rfl) ?_
      refine DRun.step rfl rfl rfl (AOp.indexAddr rfl et_38 rfl rfl k rfl (at_lst hlt) rfl) ?_
      refine DRun.step rfl rfl rfl (AOp.load rfl sc_53 rfl) ?_
      refine DRun.step rfl rfl rfl (AOp.neq rfl rfl rfl) ?_
      refine DRun.nil ?_
      refine AWP.cond rfl (fun h3 => ?_) (fun h3 => ?_)
      · replace h3 := of_decide_eq_true h3
        exact absurd rfl h3
      · replace h3 := of_decide_eq_false h3
        refine AWP.skip ?_
        refine AWP.region ?_
        refine AOps.step rfl rfl rfl (AOp.add64 rfl rfl rfl (by omega) (by omega)) ?_
        refine AOps.step rfl rfl rfl (AOp.moveD rfl rfl) ?_
        refine AOps.nil ?_
        refine ⟨k + 1, (by omega), (by dsimp only; omega), Sub.less ⟨(SLe.of_eq rfl), SLe.refl _, SLe.refl _, SLe.refl _, trivial⟩ (fun _ h => h)⟩
    · replace h2 := of_decide_eq_false h2
      refine AWP.exit ?_
      refine AWP.seq ?_
      refine AWP.region ?_
      refine AOps.step rfl rfl rfl (AOp.assignD rfl rfl) ?_
      refine AOps.nil ?_
      refine AWP.ret ?_
      refine ⟨RetD.eq rfl ?_, trivial⟩
      all_goals (rfl)

set_option maxRecDepth 100000 in
set_option maxHeartbeats 1000000 in
theorem c_sameMans (l : List Man) : ACall Tryz.prog 7 [.sl (l.map Man.ds), .sl (l.map Man.ds)] (.v (.bool true)) := by
  refine acall_of (n := 68) (ds' := [.v (.bool true)]) Tryz.func7 rfl (by kernel_rfl) rfl [4] rfl rfl ?_
  intro B w0 F0 fr
  refine AWP.bound 0 rfl (fun hbd0 => ?_)
  rw [List.length_map] at hbd0
  refine AWP.seq ?_
  refine AWP.region ?_
  refine AOps.step rfl rfl rfl (AOp.assignD rfl rfl) ?_
  refine AOps.nil ?_
  refine AWP.seq ?_
  refine AWP.seq ?_
  refine AWP.region ?_
  refine AOps.step rfl rfl rfl (AOp.moveD rfl rfl) ?_
  refine AOps.step rfl rfl rfl (AOp.lenSl rfl et_22.ht rfl) ?_
  refine AOps.step rfl rfl rfl (AOp.moveD rfl rfl) ?_
  refine AOps.step rfl rfl rfl (AOp.lenSl rfl et_22.ht rfl) ?_
  refine AOps.step rfl rfl rfl (AOp.neq rfl rfl rfl) ?_
  refine AOps.nil ?_
  refine AWP.cond rfl (fun h1 => ?_) (fun h1 => ?_)
  · replace h1 := of_decide_eq_true h1
    exact absurd rfl h1
  · replace h1 := of_decide_eq_false h1
    refine AWP.skip ?_
    refine AWP.seq ?_
    refine AWP.seq ?_
    refine AWP.region ?_
    refine AOps.step rfl rfl rfl (AOp.moveD rfl rfl) ?_
    refine AOps.step rfl rfl rfl (AOp.lenSl rfl et_22.ht rfl) ?_
    refine AOps.step rfl rfl rfl (AOp.moveD rfl rfl) ?_
    refine AOps.nil ?_
    refine AWP.block ?_
    refine AWP.loop (G := Nat) (fun k => Env.of [(13, .d (.v (.int .i64 (k : Int)))), (0, .d (.sl (l.map Man.ds))), (1, .d (.sl (l.map Man.ds))), (12, .d (.v (.int .i64 ((l.map Man.ds).length : Int))))]) (fun k => []) (fun k => k ≤ l.length) (fun k => l.length - k) 0 (Nat.zero_le _) (Sub.less ⟨(SLe.of_eq rfl), SLe.refl _, SLe.refl _, SLe.refl _, trivial⟩ (fun _ h => h)) ?_
    intro k hk
    refine AWP.seq ?_
    refine AWP.region ?_
    refine AOps.step rfl rfl rfl (AOp.lss rfl rfl rfl) ?_
    refine AOps.nil ?_
    refine AWP.seq ?_
    refine AWP.cond rfl (fun h2 => ?_) (fun h2 => ?_)
    · replace h2 := of_decide_eq_true h2
      rw [List.length_map] at h2
      have hlt : k < l.length := by omega
      refine AWP.skip ?_
      refine AWP.seq ?_
      refine AWP.block ?_
      refine AWP.seq ?_
      refine AWP.region ?_
      refine AOps.step rfl rfl rfl (AOp.moveD rfl rfl) ?_
      refine AOps.step rfl rfl rfl (AOp.assignD rfl rfl) ?_
      refine AOps.nil ?_
      refine AWP.seq ?_
      refine AWP.draw (by kernel_rfl) (by kernel_rfl) ?_
      refine DRun.step rfl rfl rfl (AOp.moveD rfl rfl) ?_
      refine DRun.step rfl rfl rfl (AOp.moveD rfl rfl) ?_
      refine DRun.step rfl rfl rfl (AOp.indexAddr rfl et_22 rfl rfl k rfl (at_lst hlt) rfl) ?_
      refine DRun.step rfl rfl rfl (AOp.fieldAddr rfl fo_40_0 rfl) ?_
      refine DRun.step rfl rfl rfl (AOp.load rfl sc_9 rfl) ?_
      refine DRun.step rfl rfl rfl (AOp.moveD rfl rfl) ?_
      refine DRun.step rfl rfl rfl (AOp.moveD rfl rfl) ?_
      refine DRun.step rfl rfl rfl (AOp.indexAddr rfl et_22 rfl rfl k rfl (at_lst hlt) rfl) ?_
      refine DRun.step rfl rfl rfl (AOp.fieldAddr rfl fo_40_0 rfl) ?_
      refine DRun.step rfl rfl rfl (AOp.load rfl sc_9 rfl) ?_
      refine DRun.step rfl rfl rfl (AOp.sneq rfl rfl rfl) ?_
      refine DRun.step rfl rfl rfl (AOp.moveD rfl rfl) ?_
      refine DRun.split 27 rfl (fun g3 => ?_) (fun g3 => ?_)
      · replace g3 := of_decide_eq_true g3
        exact absurd rfl g3
      · replace g3 := of_decide_eq_false g3
        refine DRun.step ⟨27, rfl, .inl ⟨_, rfl, rfl⟩⟩ rfl rfl (AOp.moveD rfl rfl) ?_
        refine DRun.step ⟨27, rfl, .inl ⟨_, rfl, rfl⟩⟩ rfl rfl (AOp.moveD rfl rfl) ?_
        refine DRun.step ⟨27, rfl, .inl ⟨_, rfl, rfl⟩⟩ rfl rfl (AOp.indexAddr rfl et_22 rfl rfl k rfl (at_lst hlt) rfl) ?_
        refine DRun.step ⟨27, rfl, .inl ⟨_, rfl, rfl⟩⟩ rfl rfl (AOp.fieldAddr rfl fo_40_1 rfl) ?_
        refine DRun.step ⟨27, rfl, .inl ⟨_, rfl, rfl⟩⟩ rfl rfl (AOp.load rfl sc_3 rfl) ?_
        refine DRun.step ⟨27, rfl, .inl ⟨_, rfl, rfl⟩⟩ rfl rfl (AOp.moveD rfl rfl) ?_
        refine DRun.step ⟨27, rfl, .inl ⟨_, rfl, rfl⟩⟩ rfl rfl (AOp.moveD rfl rfl) ?_
        refine DRun.step ⟨27, rfl, .inl ⟨_, rfl, rfl⟩⟩ rfl rfl (AOp.indexAddr rfl et_22 rfl rfl k rfl (at_lst hlt) rfl) ?_
        refine DRun.step ⟨27, rfl, .inl ⟨_, rfl, rfl⟩⟩ rfl rfl (AOp.fieldAddr rfl fo_40_1 rfl) ?_
        refine DRun.step ⟨27, rfl, .inl ⟨_, rfl, rfl⟩⟩ rfl rfl (AOp.load rfl sc_3 rfl) ?_
        refine DRun.step ⟨27, rfl, .inl ⟨_, rfl, rfl⟩⟩ rfl rfl (AOp.neq rfl rfl rfl) ?_
        refine DRun.step rfl rfl rfl (AOp.pickF rfl rfl rfl) ?_
        refine DRun.step rfl rfl rfl (AOp.moveD rfl rfl) ?_
        refine DRun.split 40 rfl (fun g4 => ?_) (fun g4 => ?_)
        · replace g4 := of_decide_eq_true g4
          exact absurd rfl g4
        · replace g4 := of_decide_eq_false g4
          refine DRun.step ⟨40, rfl, .inl ⟨_, rfl, rfl⟩⟩ rfl rfl (AOp.moveD rfl rfl) ?_
          refine DRun.step ⟨40, rfl, .inl ⟨_, rfl, rfl⟩⟩ rfl rfl (AOp.moveD rfl rfl) ?_
          refine DRun.step ⟨40, rfl, .inl ⟨_, rfl, rfl⟩⟩ rfl rfl (AOp.indexAddr rfl et_22 rfl rfl k rfl (at_lst hlt) rfl) ?_
          refine DRun.step ⟨40, rfl, .inl ⟨_, rfl, rfl⟩⟩ rfl rfl (AOp.fieldAddr rfl fo_40_2 rfl) ?_
          refine DRun.step ⟨40, rfl, .inl ⟨_, rfl, rfl⟩⟩ rfl rfl (AOp.load rfl sc_3 rfl) ?_
          refine DRun.step ⟨40, rfl, .inl ⟨_, rfl, rfl⟩⟩ rfl rfl (AOp.moveD rfl rfl) ?_
          refine DRun.step ⟨40, rfl, .inl ⟨_, rfl, rfl⟩⟩ rfl rfl (AOp.moveD rfl rfl) ?_
          refine DRun.step ⟨40, rfl, .inl ⟨_, rfl, rfl⟩⟩ rfl rfl (AOp.indexAddr rfl et_22 rfl rfl k rfl (at_lst hlt) rfl) ?_
          refine DRun.step ⟨40, rfl, .inl ⟨_, rfl, rfl⟩⟩ rfl rfl (AOp.fieldAddr rfl fo_40_2 rfl) ?_
          refine DRun.step ⟨40, rfl, .inl ⟨_, rfl, rfl⟩⟩ rfl rfl (AOp.load rfl sc_3 rfl) ?_
          refine DRun.step ⟨40, rfl, .inl ⟨_, rfl, rfl⟩⟩ rfl rfl (AOp.neq rfl rfl rfl) ?_
          refine DRun.step rfl rfl rfl (AOp.pickF rfl rfl rfl) ?_
          refine DRun.step rfl rfl rfl (AOp.moveD rfl rfl) ?_
          refine DRun.split 53 rfl (fun g5 => ?_) (fun g5 => ?_)
          · replace g5 := of_decide_eq_true g5
            exact absurd rfl g5
          · replace g5 := of_decide_eq_false g5
            refine DRun.step ⟨53, rfl, .inl ⟨_, rfl, rfl⟩⟩ rfl rfl (AOp.moveD rfl rfl) ?_
            refine DRun.step ⟨53, rfl, .inl ⟨_, rfl, rfl⟩⟩ rfl rfl (AOp.moveD rfl rfl) ?_
            refine DRun.step ⟨53, rfl, .inl ⟨_, rfl, rfl⟩⟩ rfl rfl (AOp.indexAddr rfl et_22 rfl rfl k rfl (at_lst hlt) rfl) ?_
            refine DRun.step ⟨53, rfl, .inl ⟨_, rfl, rfl⟩⟩ rfl rfl (AOp.fieldAddr rfl fo_40_3 rfl) ?_
            refine DRun.step ⟨53, rfl, .inl ⟨_, rfl, rfl⟩⟩ rfl rfl (AOp.load rfl sc_38 rfl) ?_
            refine DRun.step ⟨53, rfl, .inl ⟨_, rfl, rfl⟩⟩ rfl rfl (AOp.moveD rfl rfl) ?_
            refine DRun.step ⟨53, rfl, .inl ⟨_, rfl, rfl⟩⟩ rfl rfl (AOp.moveD rfl rfl) ?_
            refine DRun.step ⟨53, rfl, .inl ⟨_, rfl, rfl⟩⟩ rfl rfl (AOp.indexAddr rfl et_22 rfl rfl k rfl (at_lst hlt) rfl) ?_
            refine DRun.step ⟨53, rfl, .inl ⟨_, rfl, rfl⟩⟩ rfl rfl (AOp.fieldAddr rfl fo_40_3 rfl) ?_
            refine DRun.step ⟨53, rfl, .inl ⟨_, rfl, rfl⟩⟩ rfl rfl (AOp.load rfl sc_38 rfl) ?_
            refine DRun.step ⟨53, rfl, .inl ⟨_, rfl, rfl⟩⟩ rfl rfl (AOp.call rfl (.cons (ArgOk.rfl' rfl) (.cons (ArgOk.rfl' rfl) .nil)) (c_eqU32 _)) ?_
            refine DRun.step ⟨53, rfl, .inl ⟨_, rfl, rfl⟩⟩ rfl rfl (AOp.not rfl rfl) ?_
            refine DRun.step rfl rfl rfl (AOp.pickF rfl rfl rfl) ?_
            refine DRun.nil ?_
            refine AWP.cond rfl (fun h => nomatch h) (fun _ => ?_)
            refine AWP.skip ?_
            refine AWP.region ?_
            refine AOps.step rfl rfl rfl (AOp.add64 rfl rfl rfl (by omega) (by omega)) ?_
            refine AOps.step rfl rfl rfl (AOp.moveD rfl rfl) ?_
            refine AOps.nil ?_
            refine ⟨k + 1, (by omega), (by dsimp only; omega), Sub.less ⟨(SLe.of_eq rfl), SLe.refl _, SLe.refl _, SLe.refl _, trivial⟩ (fun _ h => h)⟩
    · replace h2 := of_decide_eq_false h2
      refine AWP.exit ?_
      refine AWP.seq ?_
      refine AWP.region ?_
      refine AOps.step rfl rfl rfl (AOp.assignD rfl rfl) ?_
      refine AOps.nil ?_
      refine AWP.ret ?_
      refine ⟨RetD.eq rfl ?_, trivial⟩
      all_goals (rfl)

set_option maxRecDepth 100000 in
set_option maxHeartbeats 1000000 in
theorem lawReads (s : ByteArray) : ACallT Tryz.prog TM 3 [.v (.string s)] (.v (.bool true)) := by
  refine acall_ofT (n := 34) (ds' := [.v (.bool true)]) Tryz.func3 rfl (by kernel_rfl) rfl [2] rfl rfl ?_
  intro B w0 F0 hT
  refine AWP.seq ?_
  refine AWP.region ?_
  refine AOps.step rfl rfl rfl (AOp.assignD rfl rfl) ?_
  refine AOps.nil ?_
  refine AWP.seq ?_
  refine AWP.region ?_
  refine AOps.step rfl rfl rfl (AOp.moveD rfl rfl) ?_
  -- wants the world
  refine AOps.callT rfl rfl rfl hT tm_stays rfl (.cons (ArgOk.rfl' rfl) .nil) (c_pRead s).max ?_
  refine AOps.step rfl rfl rfl (AOp.moveD rfl rfl) ?_
  refine AOps.step rfl rfl rfl (AOp.extract rfl rfl rfl) ?_
  refine AOps.step rfl rfl rfl (AOp.extract rfl rfl rfl) ?_
  refine AOps.step rfl rfl rfl (AOp.extract rfl rfl rfl) ?_
  refine AOps.step rfl rfl rfl (AOp.assignD rfl rfl) ?_
  refine AOps.step rfl rfl rfl (AOp.assignD rfl rfl) ?_
  refine AOps.step rfl rfl rfl (AOp.assignD rfl rfl) ?_
  refine AOps.nil ?_
  refine AWP.seq ?_
  refine AWP.region ?_
  refine AOps.step rfl rfl rfl (AOp.moveD rfl rfl) ?_
  -- wants the world
  refine AOps.callT rfl rfl rfl hT tm_stays rfl (.cons (ArgOk.rfl' rfl) .nil) (c_rRead s) ?_
  refine AOps.step rfl rfl rfl (AOp.moveD rfl rfl) ?_
  refine AOps.step rfl rfl rfl (AOp.extract rfl rfl rfl) ?_
  refine AOps.step rfl rfl rfl (AOp.extract rfl rfl rfl) ?_
  refine AOps.step rfl rfl rfl (AOp.extract rfl rfl rfl) ?_
  refine AOps.step rfl rfl rfl (AOp.assignD rfl rfl) ?_
  refine AOps.step rfl rfl rfl (AOp.assignD rfl rfl) ?_
  refine AOps.step rfl rfl rfl (AOp.assignD rfl rfl) ?_
  refine AOps.nil ?_
  refine AWP.seq ?_
  refine AWP.region ?_
  refine AOps.step rfl rfl rfl (AOp.moveD rfl rfl) ?_
  refine AOps.step rfl rfl rfl (AOp.moveD rfl rfl) ?_
  refine AOps.step rfl rfl rfl (AOp.eql rfl rfl rfl) ?_
  refine AOps.step rfl rfl rfl (AOp.moveD rfl rfl) ?_
  refine AOps.split 24 rfl (fun g1 => ?_) (fun g1 => ?_)
  · replace g1 := of_decide_eq_true g1
    refine AOps.step ⟨24, rfl, .inl ⟨_, rfl, rfl⟩⟩ rfl rfl (AOp.moveD rfl rfl) ?_
    refine AOps.step ⟨24, rfl, .inl ⟨_, rfl, rfl⟩⟩ rfl rfl (AOp.moveD rfl rfl) ?_
    refine AOps.step ⟨24, rfl, .inl ⟨_, rfl, rfl⟩⟩ rfl rfl (AOp.eql rfl rfl rfl) ?_
    refine AOps.step rfl rfl rfl (AOp.pickT rfl rfl rfl) ?_
    refine AOps.step rfl rfl rfl (AOp.moveD rfl rfl) ?_
    refine AOps.split 29 rfl (fun g2 => ?_) (fun g2 => ?_)
    · replace g2 := of_decide_eq_true g2
      refine AOps.step ⟨29, rfl, .inl ⟨_, rfl, rfl⟩⟩ rfl rfl (AOp.moveD rfl rfl) ?_
      refine AOps.step ⟨29, rfl, .inl ⟨_, rfl, rfl⟩⟩ rfl rfl (AOp.moveD rfl rfl) ?_
      refine AOps.step ⟨29, rfl, .inl ⟨_, rfl, rfl⟩⟩ rfl rfl (AOp.call rfl (.cons (ArgOk.rfl' rfl) (.cons (ArgOk.rfl' rfl) .nil)) (c_sameMans (readV s.data.toList).1)) ?_
      refine AOps.step rfl rfl rfl (AOp.pickT rfl rfl rfl) ?_
      refine AOps.step rfl rfl rfl (AOp.assignD rfl rfl) ?_
      refine AOps.nil ?_
      refine AWP.ret ?_
      refine ⟨RetD.eq rfl ?_, trivial⟩
      all_goals (simp)
    · replace g2 := of_decide_eq_false g2
      exact absurd rfl g2
  · replace g1 := of_decide_eq_false g1
    exact absurd rfl g1

end Go.Proofs.YtnapkooefpkicaaGreatDoor


namespace Go.Proofs.YtnapkooefpkicaaGreatDoor
open Go.RowKit
set_option linter.unusedVariables false

/-! Types. -/
namespace TyVL
theorem et_76 : ElemTy Tryz.prog 76 5 1 1 (.int .u8 0) := ⟨by kernel_rfl, by kernel_rfl, by kernel_rfl, by decide⟩
end TyVL
open TyVL


open Go.Lib
set_option linter.unusedSimpArgs false
/-! ## What is written is read -/
def noc (c : UInt8) (l : List UInt8) : Prop := ∀ b ∈ l, b ≠ c
theorem spl_noc {c : UInt8} : ∀ {x : List UInt8}, noc c x → spl c x = [x] ∧ ∀ r, spl c (x ++ c :: r) = x :: spl c r
  | [], _ => ⟨rfl, fun r => by show spl c (c :: r) = _; rw [spl_cons, if_pos rfl]⟩
  | b :: x, h => by
    obtain ⟨h1, h2⟩ := spl_noc (x := x) fun d hd => h d (by simp [hd])
    have hb : b ≠ c := h b (by simp)
    refine ⟨?_, fun r => ?_⟩
    · rw [spl_cons, if_neg hb, h1]
    · show spl c (b :: (x ++ c :: r)) = _
      rw [spl_cons, if_neg hb, h2 r]
theorem spl_unl : ∀ {L : List (List UInt8)}, (∀ x ∈ L, noc 10 x) → spl 10 (unl L) = L ++ [[]]
  | [], _ => rfl
  | x :: L, h => by
    have ih := spl_unl (L := L) fun y hy => h y (by simp [hy])
    have h1 := (spl_noc (h x (by simp))).2 (unl L)
    have e : unl (x :: L) = x ++ 10 :: unl L := by unfold unl; rw [List.flatMap_cons]; simp
    rw [e, h1, ih]; rfl
def run (r : Rd) : List (List UInt8) → Option Rd
  | [] => some r
  | x :: L => if (takeS r x).2 = true then run (takeS r x).1 L else none
theorem run_app {r r' : Rd} : ∀ {L L' : List (List UInt8)}, run r L = some r' → run r (L ++ L') = run r' L'
  | [], L', h => by cases h; rfl
  | x :: L, L', h => by
    unfold run at h
    show (if (takeS r x).2 = true then run (takeS r x).1 (L ++ L') else none) = _
    by_cases hx : (takeS r x).2 = true
    · rw [if_pos hx] at h ⊢; exact run_app h
    · rw [if_neg hx] at h; cases h
theorem whole_app (L : List (List UInt8)) : wholeB (L ++ [[]]) = true ∧ nLn (L ++ [[]]) = L.length := by
  have h := ln_end (ls := L ++ [[]]) (k := L.length) (by simp)
  exact h
theorem run_rd {L : List (List UInt8)} : ∀ {k : Nat} {r : Rd}, k ≤ L.length → run (rdTo (L ++ [[]]) k) (L.drop k) = some r → fb (badLn (L ++ [[]])) k = none → fb (badLn (L ++ [[]])) L.length = none ∧ rdTo (L ++ [[]]) L.length = r := by
  intro k r hk h hf
  induction hn : L.length - k generalizing k with
  | zero =>
    have : k = L.length := by omega
    subst this
    rw [List.drop_length] at h
    exact ⟨hf, Option.some.inj h⟩
  | succ n ih =>
    have hlt : k < L.length := by omega
    rw [List.drop_eq_getElem_cons hlt] at h
    unfold run at h
    have hg : (L ++ [[]]).getD k [] = L[k] := by rw [List.getD_eq_getElem?_getD, List.getElem?_append_left hlt, List.getElem?_eq_getElem hlt]; rfl
    by_cases hx : (takeS (rdTo (L ++ [[]]) k) L[k]).2 = true
    · rw [if_pos hx] at h
      refine ih (k := k + 1) (by omega) ?_ ?_ (by omega)
      · show run (takeS _ ((L ++ [[]]).getD k [])).1 _ = _
        rw [hg]; exact h
      · refine fb_next hf ?_
        unfold badLn
        rw [hg, hx, (whole_app L).1]
        rfl
    · rw [if_neg hx] at h; cases h
theorem run_read {L : List (List UInt8)} {r : Rd} (hL : ∀ x ∈ L, noc 10 x) (h : run rd0 L = some r) : fb (badLn (spl 10 (unl L))) (nLn (spl 10 (unl L))) = none ∧ rdTo (spl 10 (unl L)) (nLn (spl 10 (unl L))) = r := by
  rw [spl_unl hL, (whole_app L).2]
  exact run_rd (k := 0) (Nat.zero_le _) h rfl
/-! ### Numbers -/
theorem hexD_ne (d : Nat) : hexD d ≠ 32 ∧ hexD d ≠ 10 := by
  unfold hexD
  by_cases h : d < 16
  · exact (show ∀ d, d < 16 → hexT.getD d 0 ≠ 32 ∧ hexT.getD d 0 ≠ 10 by decide) d h
  · rw [List.getD_eq_getElem?_getD, List.getElem?_eq_none (by show 16 ≤ d; omega)]; decide
theorem hexL_ne {n m : Nat} : noc 32 (hexL n m) ∧ noc 10 (hexL n m) := by
  constructor <;> intro b hb <;> (unfold hexL at hb; obtain ⟨j, _, rfl⟩ := List.mem_map.1 hb)
  · exact (hexD_ne _).1
  · exact (hexD_ne _).2
theorem hxD_hex : ∀ d, d < 16 → hxD (hexD d) = some d := by decide
theorem hx_read (n : Nat) : ∀ (m acc : Nat), hxV acc (hexL n m) = some (acc * 16 ^ m + n % 16 ^ m)
  | 0, acc => by
    show some acc = _
    rw [Nat.pow_zero, Nat.mod_one]; simp
  | m + 1, acc => by
    rw [hexL_cons]
    unfold hxV
    rw [hxD_hex _ (Nat.mod_lt _ (by decide))]
    simp only
    rw [hx_read n m, Nat.mod_pow_succ, Nat.pow_succ, Nat.add_mul, Nat.mul_comm (16 ^ m) 16, Nat.mul_assoc, Nat.mul_comm (n / 16 ^ m % 16) (16 ^ m)]
    congr 1
    omega
theorem unhx_read {n m : Nat} (h : n < 16 ^ m) : unhx (hexL n m) m = some n := by
  unfold unhx
  rw [if_pos (hexL_len n m), hx_read, Nat.mod_eq_of_lt h]; simp
theorem dec_ind (u : Nat) : Lib.decFrom 0 (Lib.decDigits u) = some u ∧ (∀ b ∈ Lib.decDigits u, 48 ≤ b.toNat ∧ b.toNat ≤ 57) ∧ (1 ≤ u → (Lib.decDigits u).head? ≠ some 48) ∧ Lib.decDigits u ≠ [] := by
  induction u using Nat.strongRecOn with
  | _ u ih =>
    have hd : ∀ d, d < 10 → (UInt8.ofNat (48 + d)).toNat = 48 + d := by decide
    have hv : ∀ d, d < 10 → Lib.digitVal (UInt8.ofNat (48 + d)) = some d := by decide
    by_cases h : u < 10
    · have e : Lib.decDigits u = [UInt8.ofNat (48 + u)] := by rw [Lib.decDigits, dif_pos h]
      rw [e]
      refine ⟨?_, fun b hb => ?_, fun h1 he => ?_, by simp⟩
      · simp only [Lib.decFrom, hv u h]; simp
      · obtain rfl := List.mem_singleton.1 hb
        rw [hd u h]; omega
      · have := congrArg UInt8.toNat (Option.some.inj he)
        rw [hd u h] at this
        have h48 : (48 : UInt8).toNat = 48 := rfl
        omega
    · have e : Lib.decDigits u = Lib.decDigits (u / 10) ++ [UInt8.ofNat (48 + u % 10)] := by rw [Lib.decDigits, dif_neg h]
      obtain ⟨i1, i2, i3, i4⟩ := ih (u / 10) (by omega)
      rw [e]
      refine ⟨?_, fun b hb => ?_, fun _ => ?_, by simp⟩
      · rw [decFrom_snoc, i1]
        simp only [hv _ (Nat.mod_lt u (by decide : 0 < 10))]
        congr 1
        omega
      · rcases List.mem_append.1 hb with hb | hb
        · exact i2 b hb
        · obtain rfl := List.mem_singleton.1 hb
          rw [hd _ (Nat.mod_lt u (by decide : 0 < 10))]; omega
      · cases hx : Lib.decDigits (u / 10) with
        | nil => exact absurd hx i4
        | cons b t =>
          have := i3 (by omega)
          rw [hx] at this
          simpa using this
theorem nDig_le : ∀ (k u : Nat), u < 10 ^ (k + 1) → Lib.nDigits u ≤ k + 1
  | 0, u, h => by rw [Lib.nDigits_small (by simpa using h)]; omega
  | k + 1, u, h => by
    by_cases hu : u < 10
    · rw [Lib.nDigits_small hu]; omega
    · rw [Lib.nDigits_big hu]
      have := nDig_le k (u / 10) (by rw [Nat.pow_succ] at h; omega)
      omega
theorem num_read {u : Nat} (h : u < 1000000000) : numV (Lib.decDigits u) = some u := by
  obtain ⟨h1, _, h3, h4⟩ := dec_ind u
  have hl : (Lib.decDigits u).length ≤ 9 := by rw [Lib.decDigits_length]; exact nDig_le 8 u (by omega)
  unfold numV
  rw [if_neg, h1]
  rintro (hh | hh | hh)
  · exact h4 hh
  · omega
  · rcases Nat.eq_zero_or_pos u with h0 | h0
    · subst h0
      exact hh.2 (by rw [Lib.decDigits, dif_pos (by omega)]; rfl)
    · exact h3 h0 hh.1
theorem dec_ne {u : Nat} : noc 32 (Lib.decDigits u) ∧ noc 10 (Lib.decDigits u) := by
  obtain ⟨_, h2, _, _⟩ := dec_ind u
  constructor <;> intro b hb he <;> (have := h2 b hb; rw [he] at this; revert this; decide)
theorem name_ne {l : List UInt8} (h : isName l = true) : noc 32 l ∧ noc 10 l ∧ l ≠ [] := by
  unfold isName at h
  simp only [Bool.and_eq_true, decide_eq_true_eq, List.all_eq_true] at h
  have h32 : nameB 32 = false := by decide
  have h10 : nameB 10 = false := by decide
  refine ⟨fun b hb e => ?_, fun b hb e => ?_, fun e => ?_⟩
  · have := h.2 b hb; rw [e, h32] at this; cases this
  · have := h.2 b hb; rw [e, h10] at this; cases this
  · rw [e] at h; simp at h
/-! ### Lines -/
noncomputable def hline (m : Man) : List UInt8 := m.item.data.toList ++ 32 :: (Lib.decDigits m.size.toNat ++ 32 :: (Lib.decDigits m.block.toNat ++ 32 :: hexL (rootN m.sums) 16))
def sline (s : List Nat) : List UInt8 := 32 :: s.flatMap (fun n => 32 :: hexL n 8)
/-- The lines of sums, eight on each. -/
def slines : Nat → List Nat → List (List UInt8)
  | 0, _ => []
  | n + 1, s => if s = [] then [] else sline (s.take 8) :: slines n (s.drop 8)
noncomputable def mlines (m : Man) : List (List UInt8) := hline m :: slines m.sums.length m.sums
theorem spl_words : ∀ {ws : List (List UInt8)}, ws ≠ [] → (∀ w ∈ ws, noc 32 w) → ∃ t, ws.flatMap (fun w => (32 : UInt8) :: w) = 32 :: t ∧ spl 32 t = ws
  | [], h, _ => absurd rfl h
  | [w], _, hw => ⟨w, by simp, (spl_noc (hw w (by simp))).1⟩
  | w :: w2 :: ws, _, hw => by
    obtain ⟨t, h1, h2⟩ := spl_words (ws := w2 :: ws) (by simp) fun x hx => hw x (by simp [hx])
    refine ⟨w ++ 32 :: t, ?_, ?_⟩
    · rw [List.flatMap_cons, h1]; rfl
    · rw [(spl_noc (hw w (by simp))).2 t, h2]
theorem head_read {m : Man} (hn : isName m.item.data.toList = true) (hs : 0 ≤ m.size ∧ m.size ≤ 20000) (hb : 1 ≤ m.block ∧ m.block ≤ 20000) : headV (hline m) = some (⟨m.item, m.size, m.block, []⟩, rootN m.sums) := by
  obtain ⟨n1, _, n3⟩ := name_ne hn
  have hsp : spl 32 (hline m) = [m.item.data.toList, Lib.decDigits m.size.toNat, Lib.decDigits m.block.toNat, hexL (rootN m.sums) 16] := by
    unfold hline
    rw [(spl_noc n1).2, (spl_noc dec_ne.1).2, (spl_noc dec_ne.1).2, (spl_noc hexL_ne.1).1]
  rw [head_4 hsp, if_neg n3, num_read (by omega), num_read (by omega), unhx_read (by have := rootN_lt m.sums; exact this)]
  simp only
  rw [if_neg (by omega)]
  have e1 : strL m.item.data.toList = m.item := rfl
  rw [e1, Int.toNat_of_nonneg hs.1, Int.toNat_of_nonneg (by omega)]
theorem words_pre {s : List Nat} (h : Sums32 s) : pre8 (s.map fun n => hexL n 8) = s ∧ all8 (s.map fun n => hexL n 8) = true := by
  induction s with
  | nil => exact ⟨rfl, rfl⟩
  | cons n s ih =>
    obtain ⟨i1, i2⟩ := ih fun x hx => h x (by simp [hx])
    have hn : un8 (hexL n 8) = some n := unhx_read (by have := h n (by simp); have h2 : (16 : Nat) ^ 8 = 4294967296 := by decide
                                                       omega)
    rw [List.map_cons]
    refine ⟨?_, ?_⟩
    · simp only [pre8, hn, i1]
    · simp only [all8, List.all_cons, hn] at i2 ⊢
      simpa using i2
theorem sum_read {s : List Nat} (hne : s ≠ []) (h : Sums32 s) : Lib.hasPrefix (sline s) [32, 32] = true ∧ sumW (sline s) = s.map fun n => hexL n 8 := by
  obtain ⟨t, h1, h2⟩ := spl_words (ws := s.map fun n => hexL n 8) (by simpa using hne) fun w hw => by
    obtain ⟨n, _, rfl⟩ := List.mem_map.1 hw
    exact hexL_ne.1
  rw [List.flatMap_map] at h1
  have e : sline s = 32 :: 32 :: t := by unfold sline; rw [h1]
  have hp : Lib.hasPrefix (sline s) [32, 32] = true := by rw [e]; simp [Lib.hasPrefix]
  refine ⟨hp, ?_⟩
  unfold sumW Lib.trimPrefix
  rw [if_pos hp, e]
  exact h2
theorem run_sums {it : ByteArray} {x y : Int} {done : List Man} {roots : List Nat} : ∀ (n : Nat) (s0 s : List Nat), s.length ≤ 8 * n → Sums32 s → run ⟨done, some ⟨it, x, y, s0⟩, roots, s.length⟩ (slines n s) = some ⟨done, some ⟨it, x, y, s0 ++ s⟩, roots, 0⟩
  | 0, s0, s, h, _ => by
    obtain rfl : s = [] := List.eq_nil_of_length_eq_zero (by omega)
    rw [List.append_nil]; rfl
  | n + 1, s0, s, h, h32 => by
    by_cases hs : s = []
    · subst hs
      rw [List.append_nil]; rfl
    · have hl : 0 < s.length := List.length_pos_iff.2 hs
      have ht : s.take 8 ≠ [] := fun e => by
        have := congrArg List.length e
        rw [List.length_take, List.length_nil] at this
        omega
      have h8 : Sums32 (s.take 8) := fun z hz => h32 z (List.mem_of_mem_take hz)
      obtain ⟨p1, p2⟩ := sum_read ht h8
      obtain ⟨w1, w2⟩ := words_pre h8
      have hlen : (s.take 8).length = min 8 s.length := List.length_take
      have hok : sumsOk (sline (s.take 8)) (min 8 s.length) = true := by
        unfold sumsOk
        rw [p1, p2, List.length_map, decide_eq_true hlen]; rfl
      have hB : tsB s.length (sline (s.take 8)) = true := by unfold tsB; rw [hok, p2, w2]; rfl
      have hS : tsS s0 s.length (sline (s.take 8)) = s0 ++ s.take 8 := by unfold tsS; rw [if_pos hok, p2, w1]
      have hD : tsD s.length (sline (s.take 8)) = (s.drop 8).length := by unfold tsD; rw [if_pos hB, p2, List.length_map, List.length_drop, hlen]; omega
      have hT : takeS ⟨done, some ⟨it, x, y, s0⟩, roots, s.length⟩ (sline (s.take 8)) = (⟨done, some ⟨it, x, y, s0 ++ s.take 8⟩, roots, (s.drop 8).length⟩, true) := by
        rw [take_sm hl rfl]
        show (_, tsB s.length _) = _
        rw [hB]
        show ((⟨done, some ⟨it, x, y, tsS s0 s.length _⟩, roots, tsD s.length _⟩ : Rd), true) = _
        rw [hS, hD]
      have hsl : slines (n + 1) s = sline (s.take 8) :: slines n (s.drop 8) := by show (if s = [] then _ else _) = _; rw [if_neg hs]
      rw [hsl]
      unfold run
      rw [hT, if_pos rfl]
      show run ⟨done, some ⟨it, x, y, s0 ++ s.take 8⟩, roots, (s.drop 8).length⟩ _ = _
      rw [run_sums n (s0 ++ s.take 8) (s.drop 8) (by rw [List.length_drop]; omega) fun z hz => h32 z (List.mem_of_mem_drop hz), List.append_assoc, List.take_append_drop]
theorem run_man {m : Man} {r : Rd} (hm : manFault m = 0) (h32 : Sums32 m.sums) (hd : r.due = 0) : run r (mlines m) = some ⟨r.all, some m, r.roots ++ [rootN m.sums], 0⟩ := by
  have hk := man_ok hm
  have hn : isName m.item.data.toList = true ∧ (m.sums.length : Int) = nblocks m.size m.block := by
    unfold manFault at hm
    repeat' split at hm
    all_goals first | omega | skip
    rename_i h1 h2 h3 h4
    exact ⟨by simpa using h1, Decidable.not_not.1 h4⟩
  have hh := head_read hn.1 hk.size hk.block
  have ht : takeS r (hline m) = (⟨r.all, some ⟨m.item, m.size, m.block, []⟩, r.roots ++ [rootN m.sums], m.sums.length⟩, true) := by
    rw [take_hd (by omega) hh]
    show ((⟨_, _, _, (nblocks m.size m.block).toNat⟩ : Rd), true) = _
    rw [← hn.2]; rfl
  unfold mlines run
  rw [ht, if_pos rfl]
  have := run_sums (it := m.item) (x := m.size) (y := m.block) (done := r.all) (roots := r.roots ++ [rootN m.sums]) m.sums.length [] m.sums (by omega) h32
  exact this
theorem run_mans : ∀ {l : List Man} {r : Rd}, (∀ m ∈ l, manFault m = 0) → (∀ m ∈ l, Sums32 m.sums) → r.due = 0 → ∃ r', run r (l.flatMap mlines) = some r' ∧ r'.all = r.all ++ l ∧ r'.roots = r.roots ++ l.map (fun m => rootN m.sums) ∧ r'.due = 0
  | [], r, _, _, hd => ⟨r, rfl, by simp, by simp, hd⟩
  | m :: l, r, h1, h2, hd => by
    have hr := run_man (r := r) (h1 m (by simp)) (h2 m (by simp)) hd
    obtain ⟨r', h3, h4, h5, h6⟩ := run_mans (l := l) (r := ⟨r.all, some m, r.roots ++ [rootN m.sums], 0⟩) (fun x hx => h1 x (by simp [hx])) (fun x hx => h2 x (by simp [hx])) rfl
    refine ⟨r', ?_, ?_, ?_, h6⟩
    · rw [List.flatMap_cons, run_app hr]; exact h3
    · rw [h4]
      show (r.all ++ [m]) ++ l = _
      simp
    · rw [h5]
      show (r.roots ++ [rootN m.sums]) ++ _ = _
      simp
theorem sline_ne (s : List Nat) : noc 10 (sline s) := fun b hb => by
  unfold sline at hb
  rcases List.mem_cons.1 hb with rfl | hb
  · decide
  · obtain ⟨n, _, hn⟩ := List.mem_flatMap.1 hb
    rcases List.mem_cons.1 hn with rfl | hn
    · decide
    · exact hexL_ne.2 b hn
theorem slines_ne : ∀ (n : Nat) (s : List Nat), ∀ x ∈ slines n s, noc 10 x
  | 0, s, x, hx => by cases hx
  | n + 1, s, x, hx => by
    unfold slines at hx
    split at hx
    · cases hx
    · rcases List.mem_cons.1 hx with rfl | hx
      · exact sline_ne _
      · exact slines_ne n _ x hx
theorem mlines_ne {m : Man} (h : manFault m = 0) : ∀ x ∈ mlines m, noc 10 x := fun x hx => by
  have hn : isName m.item.data.toList = true := by
    unfold manFault at h
    split at h
    · omega
    · rename_i h1; simpa using h1
  unfold mlines at hx
  rcases List.mem_cons.1 hx with rfl | hx
  · intro b hb
    unfold hline at hb
    simp only [List.mem_append, List.mem_cons] at hb
    rcases hb with hb | rfl | hb | rfl | hb | rfl | hb
    · exact (name_ne hn).2.1 b hb
    · decide
    · exact dec_ne.2 b hb
    · decide
    · exact dec_ne.2 b hb
    · decide
    · exact hexL_ne.2 b hb
  · exact slines_ne _ _ x hx
/-- What was written is read as it was. -/
theorem text_read {l : List Man} (h : textF l = 0) (h32 : ∀ m ∈ l, Sums32 m.sums) : readV (textL l l.length) = (l, 0, 0) := by
  have hm : mansF l = 0 := by
    unfold textF at h
    by_cases hh : mansF l ≠ 0
    · rw [if_pos hh] at h; exact h
    · exact Decidable.not_not.1 hh
  have hlen : ¬ 200000 < (textL l l.length).length := fun hh => by
    unfold textF at h
    rw [if_neg (by rw [hm]; decide), if_pos hh] at h
    cases h
  have hmf := (mans_ok hm).2
  obtain ⟨r, h3, h4, h5, h6⟩ := run_mans (l := l) (r := rd0) hmf h32 rfl
  have hne : ∀ x ∈ l.flatMap mlines, noc 10 x := fun x hx => by
    obtain ⟨m, hml, hx⟩ := List.mem_flatMap.1 hx
    exact mlines_ne (hmf m hml) x hx
  obtain ⟨q1, q2⟩ := run_read hne h3
  have hall : r.all = l := by rw [h4]; rfl
  have hrts : r.roots = l.map (fun m => rootN m.sums) := by rw [h5]; rfl
  have hd : ¬ 0 < (rdTo (spl 10 (unl (l.flatMap mlines))) (nLn (spl 10 (unl (l.flatMap mlines))))).due := by rw [q2, h6]; omega
  have hfb : fb (badRt r) r.all.length = none := by
    have : ∀ n, n ≤ r.all.length → fb (badRt r) n = none := by
      intro n
      induction n with
      | zero => intro _; rfl
      | succ n ih =>
        intro hn
        refine fb_next (ih (by omega)) ?_
        rw [bad_rt (show n < r.all.length by omega)]
        refine decide_eq_false fun hh => hh ?_
        have hnl : n < l.length := by rw [← hall]; omega
        rw [hrts, List.getD_eq_getElem?_getD, List.getElem?_map, List.getElem?_eq_getElem hnl]
        show rootN (r.all[n]).sums = rootN (l[n]).sums
        congr 2
        exact getElem_congr_coll hall
    exact this _ (Nat.le_refl _)
  have htx := read_canon q1 hd (by rw [q2]; exact hfb)
  rw [q2, hall] at htx
  rw [htx] at hlen ⊢
  rw [read_end hlen q1 hd, q2, end_ok hfb (by rw [hall]; exact hm), hall]


set_option maxRecDepth 100000 in
set_option maxHeartbeats 1000000 in
theorem c_sum0  : ACall Tryz.prog 23 [.sl []] (.v (.int .u32 2166136261)) := by
  refine acall_of (n := 19) (ds' := [.v (.int .u32 2166136261)]) Tryz.func23 rfl (by kernel_rfl) rfl [2] rfl rfl ?_
  intro B w0 F0 fr
  refine AWP.seq ?_
  refine AWP.region ?_
  refine AOps.step rfl rfl rfl (AOp.assignD rfl rfl) ?_
  refine AOps.nil ?_
  refine AWP.seq ?_
  refine AWP.region ?_
  refine AOps.step rfl rfl rfl (AOp.assignD rfl rfl) ?_
  refine AOps.nil ?_
  refine AWP.seq ?_
  refine AWP.seq ?_
  refine AWP.region ?_
  refine AOps.step rfl rfl rfl (AOp.moveD rfl rfl) ?_
  refine AOps.step rfl rfl rfl (AOp.lenSl rfl et_76.ht rfl) ?_
  refine AOps.step rfl rfl rfl (AOp.moveD rfl rfl) ?_
  refine AOps.nil ?_
  refine AWP.block ?_
  refine AWP.loop (G := Nat) (fun u => Env.of [(8, .d (.v (.int .i64 0))), (7, .d (.v (.int .i64 (([] : List (List D)).length : Int)))), (3, .d (.v (.int .u32 2166136261)))]) (fun u => []) (fun u => True) (fun u => u) 0 trivial (Sub.less ⟨SLe.refl _, SLe.refl _, SLe.refl _, trivial⟩ (fun _ h => h)) ?_
  intro u hu
  refine AWP.seq ?_
  refine AWP.region ?_
  refine AOps.step rfl rfl rfl (AOp.lss rfl rfl rfl) ?_
  refine AOps.nil ?_
  refine AWP.seq ?_
  refine AWP.cond rfl (fun h1 => ?_) (fun h1 => ?_)
  · replace h1 := of_decide_eq_true h1
    simp at h1
  · replace h1 := of_decide_eq_false h1
    refine AWP.exit ?_
    refine AWP.seq ?_
    refine AWP.region ?_
    refine AOps.step rfl rfl rfl (AOp.moveD rfl rfl) ?_
    refine AOps.step rfl rfl rfl (AOp.assignD rfl rfl) ?_
    refine AOps.nil ?_
    refine AWP.ret ?_
    refine ⟨RetD.eq rfl ?_, trivial⟩
    all_goals (rfl)

set_option maxRecDepth 100000 in
set_option maxHeartbeats 1000000 in
theorem c_awake  : ACall Tryz.prog 10 [] (.v (.bool true)) := by
  refine acall_of (n := 3) (ds' := [.v (.bool true)]) Tryz.func10 rfl (by kernel_rfl) rfl [0] rfl rfl ?_
  intro B w0 F0 fr
  refine AWP.seq ?_
  refine AWP.region ?_
  refine AOps.step rfl rfl rfl (AOp.assignD rfl rfl) ?_
  refine AOps.nil ?_
  refine AWP.seq ?_
  refine AWP.region ?_
  refine AOps.step rfl rfl rfl (AOp.call rfl (.cons (ArgOk.nil rfl) .nil) c_sum0) ?_
  refine AOps.step rfl rfl rfl (AOp.eql rfl rfl rfl) ?_
  refine AOps.step rfl rfl rfl (AOp.assignD rfl rfl) ?_
  refine AOps.nil ?_
  refine AWP.ret ?_
  refine ⟨RetD.eq rfl ?_, trivial⟩
  all_goals (simp)

set_option maxRecDepth 100000 in
set_option maxHeartbeats 1000000 in
theorem c_chkT (l : List Man) (ho : ∀ m ∈ l, okMan m) : ACallT Tryz.prog TM 9 [.sl (l.map Man.ds)] (.v (.int .i64 (textF l))) := by
  refine acall_ofT (n := 11) (ds' := [.v (.int .i64 (textF l))]) Tryz.func9 rfl (by kernel_rfl) rfl [2] rfl rfl ?_
  intro B w0 F0 hT
  refine AWP.seq ?_
  refine AWP.region ?_
  refine AOps.step rfl rfl rfl (AOp.assignD rfl rfl) ?_
  refine AOps.nil ?_
  refine AWP.seq ?_
  refine AWP.region ?_
  refine AOps.step rfl rfl rfl (AOp.moveD rfl rfl) ?_
  -- wants the world
  refine AOps.callT rfl rfl rfl hT tm_stays rfl (.cons (ArgOk.rfl' rfl) .nil) (c_rText l ho).tab ?_
  refine AOps.step rfl rfl rfl (AOp.moveD rfl rfl) ?_
  refine AOps.step rfl rfl rfl (AOp.extract rfl rfl rfl) ?_
  refine AOps.step rfl rfl rfl (AOp.extract rfl rfl rfl) ?_
  refine AOps.step rfl rfl rfl (AOp.assignD rfl rfl) ?_
  refine AOps.step rfl rfl rfl (AOp.assignD rfl rfl) ?_
  refine AOps.nil ?_
  refine AWP.seq ?_
  refine AWP.region ?_
  refine AOps.step rfl rfl rfl (AOp.moveD rfl rfl) ?_
  refine AOps.step rfl rfl rfl (AOp.assignD rfl rfl) ?_
  refine AOps.nil ?_
  refine AWP.ret ?_
  refine ⟨RetD.eq rfl ?_, trivial⟩
  all_goals (rfl)

set_option maxRecDepth 100000 in
set_option maxHeartbeats 1000000 in
theorem lawBack (l : List Man) (ho : ∀ m ∈ l, okMan m) : ACallT Tryz.prog TM 4 [.sl (l.map Man.ds)] (.v (.bool true)) := by
  refine acall_ofT (n := 44) (ds' := [.v (.bool true)]) Tryz.func4 rfl (by kernel_rfl) rfl [2] rfl rfl ?_
  intro B w0 F0 hT
  refine AWP.seq ?_
  refine AWP.region ?_
  refine AOps.step rfl rfl rfl (AOp.assignD rfl rfl) ?_
  refine AOps.nil ?_
  refine AWP.seq ?_
  refine AWP.region ?_
  refine AOps.step rfl rfl rfl (AOp.moveD rfl rfl) ?_
  -- wants the world
  refine AOps.callT rfl rfl rfl hT tm_stays rfl (.cons (ArgOk.rfl' rfl) .nil) (c_pText l ho).tab ?_
  refine AOps.step rfl rfl rfl (AOp.moveD rfl rfl) ?_
  refine AOps.step rfl rfl rfl (AOp.extract rfl rfl rfl) ?_
  refine AOps.step rfl rfl rfl (AOp.extract rfl rfl rfl) ?_
  refine AOps.step rfl rfl rfl (AOp.assignD rfl rfl) ?_
  refine AOps.step rfl rfl rfl (AOp.assignD rfl rfl) ?_
  refine AOps.nil ?_
  refine AWP.seq ?_
  refine AWP.seq ?_
  refine AWP.region ?_
  refine AOps.step rfl rfl rfl (AOp.moveD rfl rfl) ?_
  refine AOps.step rfl rfl rfl (AOp.neq rfl rfl rfl) ?_
  refine AOps.nil ?_
  refine AWP.cond rfl (fun h1 => ?_) (fun h1 => ?_)
  · replace h1 := of_decide_eq_true h1
    have hS : textS l = ⟨#[]⟩ := if_neg h1
    refine AWP.seq ?_
    refine AWP.region ?_
    refine AOps.step rfl rfl rfl (AOp.moveD rfl rfl) ?_
    refine AOps.step rfl rfl rfl (AOp.seql rfl rfl rfl) ?_
    refine AOps.step rfl rfl rfl (AOp.moveD rfl rfl) ?_
    refine AOps.split 16 rfl (fun g2 => ?_) (fun g2 => ?_)
    · replace g2 := of_decide_eq_true g2
      refine AOps.step ⟨16, rfl, .inl ⟨_, rfl, rfl⟩⟩ rfl rfl (AOp.moveD rfl rfl) ?_
      refine AOps.step ⟨16, rfl, .inl ⟨_, rfl, rfl⟩⟩ rfl rfl (AOp.moveD rfl rfl) ?_
      -- wants the world
      refine AOps.callT ⟨16, rfl, .inl ⟨_, rfl, rfl⟩⟩ rfl rfl hT tm_stays rfl (.cons (ArgOk.rfl' rfl) .nil) (c_chkT l ho) ?_
      refine AOps.step ⟨16, rfl, .inl ⟨_, rfl, rfl⟩⟩ rfl rfl (AOp.eql rfl rfl rfl) ?_
      refine AOps.step rfl rfl rfl (AOp.pickT rfl rfl rfl) ?_
      refine AOps.step rfl rfl rfl (AOp.assignD rfl rfl) ?_
      refine AOps.nil ?_
      refine AWP.ret ?_
      refine ⟨RetD.eq rfl ?_, trivial⟩
      all_goals (first | rfl | simp)
    · replace g2 := of_decide_eq_false g2
      exact absurd hS g2
  · replace h1 := of_decide_eq_false h1
    have hF : textF l = 0 := by omega
    have hS : textS l = strL (textL l l.length) := if_pos hF
    have hR : readV (textS l).data.toList = (l, 0, 0) := by rw [hS]; exact text_read hF fun m hm => (ho m hm).2
    refine AWP.skip ?_
    refine AWP.seq ?_
    refine AWP.region ?_
    refine AOps.step rfl rfl rfl (AOp.moveD rfl rfl) ?_
    -- wants the world
    refine AOps.callT rfl rfl rfl hT tm_stays rfl (.cons (ArgOk.rfl' rfl) .nil) (c_pRead (textS l)).max ?_
    rw [hR]
    refine AOps.step rfl rfl rfl (AOp.moveD rfl rfl) ?_
    refine AOps.step rfl rfl rfl (AOp.extract rfl rfl rfl) ?_
    refine AOps.step rfl rfl rfl (AOp.extract rfl rfl rfl) ?_
    refine AOps.step rfl rfl rfl (AOp.extract rfl rfl rfl) ?_
    refine AOps.step rfl rfl rfl (AOp.assignD rfl rfl) ?_
    refine AOps.step rfl rfl rfl (AOp.assignD rfl rfl) ?_
    refine AOps.step rfl rfl rfl (AOp.assignD rfl rfl) ?_
    refine AOps.nil ?_
    refine AWP.seq ?_
    refine AWP.region ?_
    refine AOps.step rfl rfl rfl (AOp.moveD rfl rfl) ?_
    refine AOps.step rfl rfl rfl (AOp.moveD rfl rfl) ?_
    -- wants the world
    refine AOps.callT rfl rfl rfl hT tm_stays rfl (.cons (ArgOk.rfl' rfl) .nil) (c_chkT l ho) ?_
    refine AOps.step rfl rfl rfl (AOp.eql rfl rfl rfl) ?_
    refine AOps.step rfl rfl rfl (AOp.moveD rfl rfl) ?_
    refine AOps.split 32 rfl (fun g3 => ?_) (fun g3 => ?_)
    · replace g3 := of_decide_eq_true g3
      refine AOps.step ⟨32, rfl, .inl ⟨_, rfl, rfl⟩⟩ rfl rfl (AOp.moveD rfl rfl) ?_
      refine AOps.step ⟨32, rfl, .inl ⟨_, rfl, rfl⟩⟩ rfl rfl (AOp.eql rfl rfl rfl) ?_
      refine AOps.step rfl rfl rfl (AOp.pickT rfl rfl rfl) ?_
      refine AOps.step rfl rfl rfl (AOp.moveD rfl rfl) ?_
      refine AOps.split 36 rfl (fun g4 => ?_) (fun g4 => ?_)
      · replace g4 := of_decide_eq_true g4
        refine AOps.step ⟨36, rfl, .inl ⟨_, rfl, rfl⟩⟩ rfl rfl (AOp.moveD rfl rfl) ?_
        refine AOps.step ⟨36, rfl, .inl ⟨_, rfl, rfl⟩⟩ rfl rfl (AOp.moveD rfl rfl) ?_
        refine AOps.step ⟨36, rfl, .inl ⟨_, rfl, rfl⟩⟩ rfl rfl (AOp.call rfl (.cons (ArgOk.rfl' rfl) (.cons (ArgOk.rfl' rfl) .nil)) (c_sameMans l)) ?_
        refine AOps.step rfl rfl rfl (AOp.pickT rfl rfl rfl) ?_
        refine AOps.step rfl rfl rfl (AOp.moveD rfl rfl) ?_
        refine AOps.step ⟨41, rfl, .inl ⟨_, rfl, rfl⟩⟩ rfl rfl (AOp.call rfl .nil (c_awake)) ?_
        refine AOps.step rfl rfl rfl (AOp.pickT rfl rfl rfl) ?_
        refine AOps.step rfl rfl rfl (AOp.assignD rfl rfl) ?_
        refine AOps.nil ?_
        refine AWP.ret ?_
        refine ⟨RetD.eq rfl ?_, trivial⟩
        all_goals (first | rfl | simp)
      · replace g4 := of_decide_eq_false g4
        exact absurd rfl g4
    · replace g3 := of_decide_eq_false g3
      exact absurd hF.symm g3

end Go.Proofs.YtnapkooefpkicaaGreatDoor


namespace Go.Proofs
open Go.Shelf
def Tryz.l138_ren : Go.Shelf.Ren := ⟨fun | 138 => 65 | 195 => 85 | 218 => 87 | 143 => 66 | 219 => 45 | 217 => 60 | 225 => 61 | 224 => 62 | 267 => 63 | 266 => 83 | 314 => 84 | n => n, fun | 9 => 9 | 3 => 3 | 4 => 4 | 5 => 5 | 0 => 0 | 46 => 88 | 146 => 111 | 51 => 53 | n => n, fun | 1 => 0 | n => n⟩
theorem Tryz.l138 : Go.Proofs.LaysM.n138 Tryz.prog Tryz.l138_ren := {
  mixed := by kernel_rfl
  f138 := Tryz.func65.trans (congrArg some (by kernel_rfl))
  f143 := Tryz.func66.trans (congrArg some (by kernel_rfl))
  f195 := Tryz.func85.trans (congrArg some (by kernel_rfl))
  f217 := Tryz.func60.trans (congrArg some (by kernel_rfl))
  f218 := Tryz.func87.trans (congrArg some (by kernel_rfl))
  f219 := Tryz.func45.trans (congrArg some (by kernel_rfl))
  f224 := Tryz.func62.trans (congrArg some (by kernel_rfl))
  f225 := Tryz.func61.trans (congrArg some (by kernel_rfl))
  f266 := Tryz.func83.trans (congrArg some (by kernel_rfl))
  f267 := Tryz.func63.trans (congrArg some (by kernel_rfl))
  f314 := Tryz.func84.trans (congrArg some (by kernel_rfl))
  t0 := Tryz.underlying0
  a0 := Tryz.isAgg0
  z0 := Tryz.sizeOf0
  v0 := Tryz.zeroValue0
  t3 := Tryz.underlying3
  a3 := Tryz.isAgg3
  z3 := Tryz.sizeOf3
  v3 := Tryz.zeroValue3
  t4 := Tryz.underlying4
  a4 := Tryz.isAgg4
  z4 := Tryz.sizeOf4
  v4 := Tryz.zeroValue4
  t5 := Tryz.underlying5
  a5 := Tryz.isAgg5
  z5 := Tryz.sizeOf5
  v5 := Tryz.zeroValue5
  t9 := Tryz.underlying9
  a9 := Tryz.isAgg9
  z9 := Tryz.sizeOf9
  v9 := Tryz.zeroValue9
  t46 := Tryz.underlying88
  a46 := Tryz.isAgg88
  z46 := Tryz.sizeOf88
  v46 := Tryz.zeroValue88
  t51 := Tryz.underlying53
  a51 := Tryz.isAgg53
  z51 := Tryz.sizeOf53
  v51 := Tryz.zeroValue53
  t146 := Tryz.underlying111
  a146 := Tryz.isAgg111
  z146 := Tryz.sizeOf111
  v146 := Tryz.zeroValue111
  g1 := by kernel_rfl
  i0 := by kernel_rfl
  i3 := by kernel_rfl
  i4 := by kernel_rfl
  i5 := by kernel_rfl
  i9 := by kernel_rfl
  i46 := by kernel_rfl
  i51 := by kernel_rfl
  i146 := by kernel_rfl
  m1 := by kernel_rfl
  s1_3 := fun w h => Go.Proofs.cell_of_shapedOpen_int (zero := #[.int .i64 0]) (t := 3) h (of_decide_eq_true (by kernel_rfl)) (by kernel_rfl) rfl (by kernel_rfl) (by kernel_rfl) Tryz.underlying3 }
end Go.Proofs
