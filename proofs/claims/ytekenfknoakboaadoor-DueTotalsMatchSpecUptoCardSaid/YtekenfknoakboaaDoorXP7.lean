/- Walks and laws over abstract values, merged by tools/merge.py. No statement of the seat. -/
import Derived.Test.YtekenfknoakboaaDoorXP6

namespace Go.Proofs.YtekenfknoakboaaDoor
open Go.RowKit
set_option linter.unusedVariables false

/-! Types. -/
namespace TySF
theorem ag_50 : AggT Tryd.prog 50 2 := .of (by kernel_rfl)
theorem ag_86 : AggT Tryd.prog 86 5 := .of (by kernel_rfl)
theorem et_45 : ElemTy Tryd.prog 45 50 2 24 (.agg #[(.string ⟨#[]⟩), (.int .i64 0)]) := ⟨by kernel_rfl, by kernel_rfl, by kernel_rfl, by decide⟩
theorem et_51 : ElemTy Tryd.prog 51 86 5 48 (.agg #[(.string ⟨#[]⟩), (.int .i64 0), (.int .i64 0), (.int .i64 0), (.int .i64 0)]) := ⟨by kernel_rfl, by kernel_rfl, by kernel_rfl, by decide⟩
theorem et_63 : ElemTy Tryd.prog 63 3 1 8 (.int .i64 0) := ⟨by kernel_rfl, by kernel_rfl, by kernel_rfl, by decide⟩
theorem fo_50_0 : fieldOff Tryd.prog 50 0 = some 0 := by kernel_rfl
theorem fo_50_1 : fieldOff Tryd.prog 50 1 = some 1 := by kernel_rfl
theorem fo_53_0 : fieldOff Tryd.prog 53 0 = some 0 := by kernel_rfl
theorem fo_53_1 : fieldOff Tryd.prog 53 1 = some 1 := by kernel_rfl
theorem fo_53_2 : fieldOff Tryd.prog 53 2 = some 2 := by kernel_rfl
theorem fo_53_3 : fieldOff Tryd.prog 53 3 = some 3 := by kernel_rfl
theorem fo_53_4 : fieldOff Tryd.prog 53 4 = some 4 := by kernel_rfl
theorem fo_53_5 : fieldOff Tryd.prog 53 5 = some 5 := by kernel_rfl
theorem fo_53_6 : fieldOff Tryd.prog 53 6 = some 6 := by kernel_rfl
theorem fo_86_0 : fieldOff Tryd.prog 86 0 = some 0 := by kernel_rfl
theorem fo_86_1 : fieldOff Tryd.prog 86 1 = some 1 := by kernel_rfl
theorem fo_86_2 : fieldOff Tryd.prog 86 2 = some 2 := by kernel_rfl
theorem fo_86_3 : fieldOff Tryd.prog 86 3 = some 3 := by kernel_rfl
theorem fo_86_4 : fieldOff Tryd.prog 86 4 = some 4 := by kernel_rfl
theorem sc_3 : Scal Tryd.prog 3 := .of (by kernel_rfl)
theorem sc_45 : Scal Tryd.prog 45 := .of (by kernel_rfl)
theorem sc_51 : Scal Tryd.prog 51 := .of (by kernel_rfl)
theorem sc_9 : Scal Tryd.prog 9 := .of (by kernel_rfl)
theorem sz_50 : ∀ w, (sizeOf 50).run Tryd.prog w = .ok 2 w := SizeT.of (by kernel_rfl)
theorem sz_86 : ∀ w, (sizeOf 86).run Tryd.prog w = .ok 5 w := SizeT.of (by kernel_rfl)
theorem zt_50 : (Tryd.prog.info? 50).bind (·.zero) = some (.agg #[(.string ⟨#[]⟩), (.int .i64 0)]) := by kernel_rfl
theorem zt_86 : (Tryd.prog.info? 86).bind (·.zero) = some (.agg #[(.string ⟨#[]⟩), (.int .i64 0), (.int .i64 0), (.int .i64 0), (.int .i64 0)]) := by kernel_rfl
end TySF
open TySF


open Go.Lib
set_option linter.unusedSimpArgs false
theorem strL_size (l : List UInt8) : (strL l).size = l.length := by show l.toArray.size = _; simp
theorem strL_list (l : List UInt8) : (strL l).data.toList = l := by show l.toArray.toList = l; simp
theorem sEq {a : ByteArray} {l : List UInt8} (h : a.data.toList = l) : SLe (.d (.v (.string a))) (.d (.v (.string (strL l)))) := SLe.of_eq (by rw [baEq.1 (show a.data.toList = (strL l).data.toList from by rw [h, strL_list])])
theorem sEqD {a : ByteArray} {l : List UInt8} (h : a.data.toList = l) : D.v (.string a) = .v (.string (strL l)) := by rw [baEq.1 (show a.data.toList = (strL l).data.toList from by rw [h, strL_list])]
def wOp2 : ByteArray := ⟨#[10, 111, 112, 101, 110, 105, 110, 103, 32]⟩
def wPd2 : ByteArray := ⟨#[112, 97, 105, 100, 32]⟩
def wCl2 : ByteArray := ⟨#[99, 108, 111, 115, 105, 110, 103, 32]⟩
theorem ref_T1 (s : Stm) : (((((((wSt ++ itoaB s.period) ++ (⟨#[32]⟩ : ByteArray)) ++ s.group) ++ wOp2) ++ itoaB s.opening) ++ (⟨#[10]⟩ : ByteArray))).data.toList = T1 s := by
  unfold T1 lnL numB
  simp [wOp, wOp2]
def rowI (s : Stm) (k : Nat) (r : Rw) (m : Nat) : List UInt8 := T2 s k ++ (((⟨#[32, 32]⟩ : ByteArray) ++ r.deal).data.toList ++ (([r.earned, r.withheld, r.released, r.advance] : List Int).take m).flatMap (fun n => (numB n).data.toList))
theorem rowI_0 (s : Stm) (k : Nat) (r : Rw) : (strL (T2 s k) ++ ((⟨#[32, 32]⟩ : ByteArray) ++ r.deal)).data.toList = rowI s k r 0 := by
  unfold rowI
  rw [ba_app, strL_list, List.take_zero, List.flatMap_nil, List.append_nil]
theorem rowI_next {s : Stm} {k : Nat} {r : Rw} {m : Nat} (h : m < ([r.earned, r.withheld, r.released, r.advance] : List Int).length) : (strL (rowI s k r m) ++ ((⟨#[32]⟩ : ByteArray) ++ itoaB ([r.earned, r.withheld, r.released, r.advance] : List Int)[m])).data.toList = rowI s k r (m + 1) := by
  unfold rowI
  rw [ba_app, strL_list, numS_next h]
  simp only [List.append_assoc]
  rfl
theorem rowI_end {s : Stm} {k : Nat} (h : k < s.rows.length) : (strL (rowI s k s.rows[k] 4) ++ (⟨#[10]⟩ : ByteArray)).data.toList = T2 s (k + 1) := by
  rw [T2_next h, ba_app, strL_list]
  unfold rowI rowT lnL
  simp only [List.append_assoc]
  rfl
theorem ref_pd (s : Stm) : (strL (T2 s s.rows.length) ++ ((wPd2 ++ itoaB s.paid) ++ (⟨#[10]⟩ : ByteArray))).data.toList = T3 s := by
  unfold T3 lnL numB
  rw [ba_app, strL_list]
  simp [wPd, wPd2]
theorem ref_part {s : Stm} {k : Nat} (h : k < s.parts.length) : (strL (T4 s k) ++ (((((⟨#[32, 32]⟩ : ByteArray) ++ s.parts[k].party) ++ (⟨#[32]⟩ : ByteArray)) ++ itoaB s.parts[k].cents) ++ (⟨#[10]⟩ : ByteArray))).data.toList = T4 s (k + 1) := by
  rw [T4_next h, ba_app, strL_list]
  unfold partT lnL numB
  simp
theorem ref_cl (s : Stm) : (((strL (T4 s s.parts.length) ++ wCl2) ++ itoaB s.closing) ++ (⟨#[10]⟩ : ByteArray)).data.toList = showL s := by
  unfold showL lnL numB
  rw [ba_app, ba_app, ba_app, strL_list]
  simp [wCl, wCl2]
theorem T1_lenW {s : Stm} (h : okStm s) (hg : nameOk s.group = true) : (T1 s).length ≤ 200 := by
  obtain ⟨w1, w2, w3, w4⟩ := w_szs
  have h1 := name_len hg
  have h2 := itoa_sz h.1
  have h3 := ln_len (f := ((wSt ++ itoaB s.period) ++ (⟨#[32]⟩ : ByteArray)) ++ s.group) (ns := []) (fun n hn => by cases hn)
  have h4 := ln_len (f := wOp) (all1 h.2.2.2.1)
  have h5 : (⟨#[32]⟩ : ByteArray).size = 1 := rfl
  unfold T1
  simp only [ByteArray.size_append, List.length_cons, List.length_nil, List.length_append] at *
  omega
theorem T2_lenW {s : Stm} (h : okStm s) (hg : nameOk s.group = true) (hl : s.rows.length ≤ 40) {k : Nat} (hn : ∀ r ∈ s.rows.take k, nameOk r.deal = true) : (T2 s k).length ≤ 6000 := by
  have h1 := T1_lenW h hg
  have h2 := fm_len (f := rowT) (b := 131) (l := s.rows.take k) fun r hr => row_len (h.2.2.1 r (List.mem_of_mem_take hr)) (hn r hr)
  unfold T2
  rw [List.length_take] at h2
  rw [List.length_append]
  omega
theorem rowI_len {s : Stm} {k m : Nat} {r : Rw} (h : okRw r) (hn : nameOk r.deal = true) (hT : (T2 s k).length ≤ 6000) : (rowI s k r m).length ≤ 6200 := by
  have h1 := name_len hn
  have h2 := nums_len (ns := ([r.earned, r.withheld, r.released, r.advance] : List Int).take m) fun n hm => row_i64 h n (List.mem_of_mem_take hm)
  have h4 : ((⟨#[32, 32]⟩ : ByteArray) ++ r.deal).data.toList.length = 2 + r.deal.size := by rw [← Lib.size_eq, ByteArray.size_append]; rfl
  have h5 : (([r.earned, r.withheld, r.released, r.advance] : List Int).take m).length ≤ 4 := by rw [List.length_take]; exact Nat.min_le_right _ _
  unfold rowI
  rw [List.length_append, List.length_append, h4]
  omega
theorem T3_lenW {s : Stm} (h : okStm s) (hT : (T2 s s.rows.length).length ≤ 6000) : (T3 s).length ≤ 6100 := by
  obtain ⟨w1, w2, w3, w4⟩ := w_szs
  have h4 := ln_len (f := wPd) (all1 h.2.2.2.2.1)
  unfold T3
  simp only [List.length_cons, List.length_nil, List.length_append] at *
  omega
theorem T4_lenW {s : Stm} (h : okStm s) (hT : (T3 s).length ≤ 6100) (hl : s.parts.length ≤ 20) {k : Nat} (hn : ∀ p ∈ s.parts.take k, nameOk p.party = true) : (T4 s k).length ≤ 7500 := by
  have h2 := fm_len (f := partT) (b := 65) (l := s.parts.take k) fun r hr => part_len (h.2.2.2.2.2.1 r (List.mem_of_mem_take hr)) (hn r hr)
  unfold T4
  rw [List.length_take] at h2
  rw [List.length_append]
  omega
set_option maxRecDepth 100000 in
set_option maxHeartbeats 8000000 in
theorem c_rShow (s : Stm) (ho : okStm s) : ACallT Tryd.prog TabI 13 [.agg s.ds] (.tup [.v (.string (showS s)), .v (.int .i64 (stF s))]) := by
  refine acall_ofT (n := 120) (ds' := [.v (.string (showS s)), .v (.int .i64 (stF s))]) Tryd.func13 rfl (by kernel_rfl) rfl [2, 3] rfl rfl ?_
  intro B w0 F0 hT
  have z1 := itoa_sz ho.1
  have z2 := itoa_sz ho.2.2.2.1
  have z3 := itoa_sz ho.2.2.2.2.1
  have z4 := itoa_sz ho.2.2.2.2.2.2
  refine AWP.seq (AWP.region ?_)
  refine AOps.step rfl rfl rfl (AOp.box rfl rfl rfl) ?_
  refine AOps.aD rfl rfl rfl rfl rfl ?_
  refine AOps.aD rfl rfl rfl rfl rfl (.nil ?_)
  refine AWP.seq ?_
  refine AWP.block ?_
  refine AWP.seq (AWP.region ?_)
  refine AOps.step rfl rfl rfl (AOp.fieldAddr rfl fo_53_0 rfl) ?_
  refine AOps.step rfl rfl rfl (AOp.load rfl sc_3 rfl) ?_
  refine AOps.step rfl rfl rfl (AOp.call rfl (.cons (ArgOk.rfl' rfl) (.cons (ArgOk.rfl' rfl) (.cons (ArgOk.rfl' rfl) .nil))) (c_rIn _ _ _)) ?_
  refine AOps.step rfl rfl rfl (AOp.not rfl rfl) ?_
  refine AOps.aD rfl rfl rfl rfl rfl (.nil ?_)
  refine AWP.cond rfl (fun h1 => ?_) (fun h1 => ?_)
  · replace h1 := bnot_t h1; replace h1 := of_decide_eq_false h1
    obtain ⟨HF, HR⟩ := show_bad (show stF s = 1 from if_pos h1) (by decide)
    rw [HR, HF]
    refine AWP.seq (AWP.region ?_)
    refine AOps.aD rfl rfl rfl rfl rfl ?_
    refine AOps.aD rfl rfl rfl rfl rfl (.nil ?_)
    refine AWP.ret ?_
    refine ⟨RetD.eq rfl ?_, RetD.eq rfl ?_, trivial⟩
    all_goals (rfl)
  replace h1 := bnot_f h1; replace h1 := of_decide_eq_true h1
  have n0 := h1
  refine AWP.seq (AWP.region ?_)
  refine AOps.step rfl rfl rfl (AOp.fieldAddr rfl fo_53_1 rfl) ?_
  refine AOps.step rfl rfl rfl (AOp.load rfl sc_9 rfl) ?_
  refine AOps.step rfl rfl rfl (AOp.call rfl (.cons (ArgOk.rfl' rfl) .nil) (c_rName _ ho.2.1)) ?_
  refine AOps.step rfl rfl rfl (AOp.not rfl rfl) ?_
  refine AOps.aD rfl rfl rfl rfl rfl (.nil ?_)
  refine AWP.cond rfl (fun h2 => ?_) (fun h2 => ?_)
  · replace h2 := bnot_t h2
    obtain ⟨HF, HR⟩ := show_bad (show stF s = 5 from by unfold stF; rw [if_neg (fun hh => hh n0), if_pos h2]) (by decide)
    rw [HR, HF]
    refine AWP.seq (AWP.region ?_)
    refine AOps.aD rfl rfl rfl rfl rfl ?_
    refine AOps.aD rfl rfl rfl rfl rfl (.nil ?_)
    refine AWP.ret ?_
    refine ⟨RetD.eq rfl ?_, RetD.eq rfl ?_, trivial⟩
    all_goals (rfl)
  replace h2 := bnot_f h2
  have n1 : ¬ nameOk s.group = false := by rw [h2]; decide
  have ng : nameOk s.group = true := h2
  have hgz := name_len ng
  refine AWP.seq (AWP.region ?_)
  refine AOps.step rfl rfl rfl (AOp.fieldAddr rfl fo_53_2 rfl) ?_
  refine AOps.step rfl rfl rfl (AOp.load rfl sc_51 rfl) ?_
  refine AOps.step rfl rfl rfl (AOp.lenSl rfl et_51.ht rfl) ?_
  refine AOps.step rfl rfl rfl (AOp.gtr rfl rfl rfl) ?_
  refine AOps.aD rfl rfl rfl rfl rfl (.nil ?_)
  refine AWP.cond rfl (fun h3 => ?_) (fun h3 => ?_)
  · replace h3 := of_decide_eq_true h3
    rw [List.length_map] at h3
    obtain ⟨HF, HR⟩ := show_bad (show stF s = 2 from by unfold stF; rw [if_neg (fun hh => hh n0), if_neg n1, if_pos (by omega)]) (by decide)
    rw [HR, HF]
    refine AWP.seq (AWP.region ?_)
    refine AOps.aD rfl rfl rfl rfl rfl ?_
    refine AOps.aD rfl rfl rfl rfl rfl (.nil ?_)
    refine AWP.ret ?_
    refine ⟨RetD.eq rfl ?_, RetD.eq rfl ?_, trivial⟩
    all_goals (rfl)
  replace h3 := of_decide_eq_false h3
  rw [List.length_map] at h3
  have n2 : ¬ 40 < s.rows.length := by omega
  have hrl : s.rows.length ≤ 40 := by omega
  refine AWP.skip ?_
  refine AWP.seq ?_
  refine AWP.drawK (by kernel_rfl) (by kernel_rfl) ?_
  refine KRun.step rfl rfl rfl (AOp.toK (AOp.fieldAddr rfl fo_53_0 rfl)) ?_
  refine KRun.step rfl rfl rfl (AOp.toK (AOp.load rfl sc_3 rfl)) ?_
  refine KRun.step rfl rfl rfl (AOpK.callT tabI_at.stays rfl hT rfl (.cons (ArgOk.rfl' rfl) .nil) (c_itoa s.period ho.1.1 ho.1.2)) ?_
  refine KRun.step rfl rfl rfl (AOp.toK (AOp.cat rfl rfl rfl (by (try simp only [ByteArray.size_append, strL_size, szMk, List.size_toArray, List.length_cons, List.length_nil]); omega))) ?_
  refine KRun.step rfl rfl rfl (AOp.toK (AOp.cat rfl rfl rfl (by (try simp only [ByteArray.size_append, strL_size, szMk, List.size_toArray, List.length_cons, List.length_nil]); omega))) ?_
  refine KRun.step rfl rfl rfl (AOp.toK (AOp.fieldAddr rfl fo_53_1 rfl)) ?_
  refine KRun.step rfl rfl rfl (AOp.toK (AOp.load rfl sc_9 rfl)) ?_
  refine KRun.step rfl rfl rfl (AOp.toK (AOp.cat rfl rfl rfl (by (try simp only [ByteArray.size_append, strL_size, szMk, List.size_toArray, List.length_cons, List.length_nil]); omega))) ?_
  refine KRun.step rfl rfl rfl (AOp.toK (AOp.cat rfl rfl rfl (by (try simp only [ByteArray.size_append, strL_size, szMk, List.size_toArray, List.length_cons, List.length_nil]); omega))) ?_
  refine KRun.step rfl rfl rfl (AOp.toK (AOp.fieldAddr rfl fo_53_3 rfl)) ?_
  refine KRun.step rfl rfl rfl (AOp.toK (AOp.load rfl sc_3 rfl)) ?_
  refine KRun.step rfl rfl rfl (AOpK.callT tabI_at.stays rfl hT rfl (.cons (ArgOk.rfl' rfl) .nil) (c_itoa s.opening ho.2.2.2.1.1 ho.2.2.2.1.2)) ?_
  refine KRun.step rfl rfl rfl (AOp.toK (AOp.cat rfl rfl rfl (by (try simp only [ByteArray.size_append, strL_size, szMk, List.size_toArray, List.length_cons, List.length_nil]); omega))) ?_
  refine KRun.step rfl rfl rfl (AOp.toK (AOp.cat rfl rfl rfl (by (try simp only [ByteArray.size_append, strL_size, szMk, List.size_toArray, List.length_cons, List.length_nil]); omega))) ?_
  refine KRun.step rfl rfl rfl (AOp.toK (AOp.assignD rfl rfl)) ?_
  refine KRun.nil ?_
  refine AWP.seq ?_
  refine AWP.seq (AWP.region ?_)
  refine AOps.step rfl rfl rfl (AOp.fieldAddr rfl fo_53_2 rfl) ?_
  refine AOps.step rfl rfl rfl (AOp.load rfl sc_51 rfl) ?_
  refine AOps.step rfl rfl rfl (AOp.lenSl rfl et_51.ht rfl) ?_
  refine AOps.mD rfl rfl rfl rfl rfl (.nil ?_)
  refine AWP.block ?_
  refine AWP.loop (G := Nat) (fun k => Env.of [(43, .d (.v (.int .i64 (k : Int)))), (41, .d (.sl (s.rows.map Rw.ds))), (42, .d (.v (.int .i64 ((s.rows.map Rw.ds).length : Int)))), (4, .d (.v (.string (strL (T2 s k))))), (1, .d (.fp s.ds))]) (fun k => []) (fun k => k ≤ s.rows.length ∧ ∀ r ∈ s.rows.take k, nameOk r.deal = true) (fun k => s.rows.length - k) 0 ⟨Nat.zero_le _, fun r h => by simp at h⟩ (Sub.less ⟨(SLe.of_eq rfl), SLe.refl _, SLe.refl _, (sEq (by rw [T2_0]; exact ref_T1 s)), SLe.refl _, trivial⟩ (fun _ h => h)) ?_
  intro k hk
  refine AWP.seq (AWP.region ?_)
  refine AOps.step rfl rfl rfl (AOp.lss rfl rfl rfl) (.nil ?_)
  refine AWP.seq ?_
  refine AWP.cond rfl (fun h4 => ?_) (fun h4 => ?_)
  · replace h4 := of_decide_eq_true h4
    rw [List.length_map] at h4
    have hlt : k < s.rows.length := by omega
    have hrk := ho.2.2.1 _ (List.getElem_mem hlt)
    have hTl := T2_lenW ho ng hrl hk.2
    refine AWP.skip ?_
    refine AWP.seq ?_
    refine AWP.block ?_
    refine AWP.seq (AWP.region ?_)
    refine AOps.step rfl rfl rfl (AOp.indexAddr rfl et_51 rfl rfl k rfl (at_lst hlt) rfl) ?_
    refine AOps.step rfl rfl rfl (AOp.loadAgg rfl ag_86 rfl rfl) ?_
    refine AOps.alloc 101 rfl rfl rfl rfl zt_86 rfl rfl rfl ?_
    refine AOps.store rfl rfl rfl sz_86 rfl (.head _) rfl rfl rfl (Nat.le_of_ble_eq_true rfl) ?_
    refine AOps.freezeCells 6 (ds := s.rows[k].ds) rfl (.head _) (.nil ?_)
    refine AWP.seq ?_
    refine AWP.seq (AWP.region ?_)
    refine AOps.step rfl rfl rfl (AOp.fieldAddr rfl fo_86_0 rfl) ?_
    refine AOps.step rfl rfl rfl (AOp.load rfl sc_9 rfl) ?_
    refine AOps.step rfl rfl rfl (AOp.call rfl (.cons (ArgOk.rfl' rfl) .nil) (c_rName _ (ho.2.2.1 _ (List.getElem_mem hlt)).1)) ?_
    refine AOps.step rfl rfl rfl (AOp.not rfl rfl) (.nil ?_)
    refine AWP.cond rfl (fun h5 => ?_) (fun h5 => ?_)
    · replace h5 := bnot_t h5
      obtain ⟨HF, HR⟩ := show_bad (show stF s = 5 from by unfold stF; rw [if_neg (fun hh => hh n0), if_neg n1, if_neg n2, if_pos (fun hh => by have := hh _ (List.getElem_mem hlt); rw [show nameOk s.rows[k].deal = false from h5] at this; cases this)]) (by decide)
      rw [HR, HF]
      refine AWP.seq (AWP.region ?_)
      refine AOps.aD rfl rfl rfl rfl rfl ?_
      refine AOps.aD rfl rfl rfl rfl rfl (.nil ?_)
      refine AWP.ret ?_
      refine ⟨RetD.eq rfl ?_, RetD.eq rfl ?_, trivial⟩
      all_goals (rfl)
    replace h5 := bnot_f h5
    have hnm : nameOk s.rows[k].deal = true := h5
    have hnz := name_len hnm
    have HA := take_ok (P := fun r : Rw => nameOk r.deal = true) hlt hk.2 h5
    refine AWP.skip ?_
    refine AWP.seq (AWP.region ?_)
    refine AOps.mD rfl rfl rfl rfl rfl ?_
    refine AOps.step rfl rfl rfl (AOp.fieldAddr rfl fo_86_0 rfl) ?_
    refine AOps.step rfl rfl rfl (AOp.load rfl sc_9 rfl) ?_
    refine AOps.step rfl rfl rfl (AOp.cat rfl rfl rfl (by (try simp only [ByteArray.size_append, strL_size, szMk, List.size_toArray, List.length_cons, List.length_nil]); omega)) ?_
    refine AOps.step rfl rfl rfl (AOp.cat rfl rfl rfl (by (try simp only [ByteArray.size_append, strL_size, szMk, List.size_toArray, List.length_cons, List.length_nil]); omega)) ?_
    refine AOps.aD rfl rfl rfl rfl rfl (.nil ?_)
    refine AWP.seq ?_
    refine AWP.seq (AWP.region ?_)
    refine AOps.step rfl rfl rfl (AOp.fieldAddr rfl fo_86_1 rfl) ?_
    refine AOps.step rfl rfl rfl (AOp.load rfl sc_3 rfl) ?_
    refine AOps.step rfl rfl rfl (AOp.fieldAddr rfl fo_86_2 rfl) ?_
    refine AOps.step rfl rfl rfl (AOp.load rfl sc_3 rfl) ?_
    refine AOps.step rfl rfl rfl (AOp.fieldAddr rfl fo_86_3 rfl) ?_
    refine AOps.step rfl rfl rfl (AOp.load rfl sc_3 rfl) ?_
    refine AOps.step rfl rfl rfl (AOp.fieldAddr rfl fo_86_4 rfl) ?_
    refine AOps.step rfl rfl rfl (AOp.load rfl sc_3 rfl) ?_
    refine AOps.step rfl rfl rfl (AOp.buildSlice rfl et_63 (.cons rfl rfl rfl (.cons rfl rfl rfl (.cons rfl rfl rfl (.cons rfl rfl rfl .nil)))) rfl (by decide)) ?_
    refine AOps.step rfl rfl rfl (AOp.lenSl rfl et_63.ht rfl) ?_
    refine AOps.mD rfl rfl rfl rfl rfl (.nil ?_)
    refine AWP.block ?_
    refine AWP.loop (G := Nat) (fun m => Env.of [(66, .d (.v (.int .i64 (m : Int)))), (64, .d (.sl (([s.rows[k].earned, s.rows[k].withheld, s.rows[k].released, s.rows[k].advance] : List Int).map iD))), (65, .d (.v (.int .i64 4))), (4, .d (.v (.string (strL (rowI s k s.rows[k] m))))), (43, .d (.v (.int .i64 (k : Int)))), (41, .d (.sl (s.rows.map Rw.ds))), (42, .d (.v (.int .i64 ((s.rows.map Rw.ds).length : Int)))), (1, .d (.fp s.ds))]) (fun m => []) (fun m => m ≤ 4) (fun m => 4 - m) 0 (Nat.zero_le _) (Sub.less ⟨(SLe.of_eq rfl), (SLe.of_eq rfl), (SLe.of_eq rfl), (sEq (rowI_0 s k s.rows[k])), SLe.refl _, SLe.refl _, SLe.refl _, SLe.refl _, trivial⟩ (fun _ h => h)) ?_
    intro m hm
    refine AWP.seq (AWP.region ?_)
    refine AOps.step rfl rfl rfl (AOp.lss rfl rfl rfl) (.nil ?_)
    refine AWP.seq ?_
    refine AWP.cond rfl (fun h6 => ?_) (fun h6 => ?_)
    · replace h6 := of_decide_eq_true h6
      have hlm : m < ([s.rows[k].earned, s.rows[k].withheld, s.rows[k].released, s.rows[k].advance] : List Int).length := by show m < 4; omega
      have hik := row_i64 hrk _ (List.getElem_mem hlm)
      have hiz := itoa_sz hik
      have hIl := rowI_len (m := m) hrk hnm hTl
      refine AWP.skip ?_
      refine AWP.seq ?_
      refine AWP.block ?_
      refine AWP.seq (AWP.region ?_)
      refine AOps.step rfl rfl rfl (AOp.indexAddr rfl et_63 rfl rfl m rfl (at_lst (f := iD) hlm) rfl) ?_
      refine AOps.step rfl rfl rfl (AOp.load rfl sc_3 rfl) ?_
      refine AOps.aD rfl rfl rfl rfl rfl (.nil ?_)
      refine AWP.region ?_
      refine AOps.mD rfl rfl rfl rfl rfl ?_
      refine AOps.mD rfl rfl rfl rfl rfl ?_
      -- wants the world
      refine AOps.callT rfl rfl rfl hT tabI_at.stays rfl (.cons (ArgOk.rfl' rfl) .nil) (c_itoa _ hik.1 hik.2) ?_
      refine AOps.step rfl rfl rfl (AOp.cat rfl rfl rfl (by (try simp only [ByteArray.size_append, strL_size, szMk, List.size_toArray, List.length_cons, List.length_nil]); omega)) ?_
      refine AOps.step rfl rfl rfl (AOp.cat rfl rfl rfl (by (try simp only [ByteArray.size_append, strL_size, szMk, List.size_toArray, List.length_cons, List.length_nil]); omega)) ?_
      refine AOps.aD rfl rfl rfl rfl rfl (.nil ?_)
      refine AWP.region ?_
      refine AOps.step rfl rfl rfl (AOp.add64 rfl rfl rfl (by omega) (by omega)) ?_
      refine AOps.mD rfl rfl rfl rfl rfl (.nil ?_)
      refine ⟨m + 1, (by omega), (by dsimp only; omega), Sub.less ⟨(SLe.of_eq rfl), SLe.refl _, SLe.refl _, (sEq (rowI_next hlm)), SLe.refl _, SLe.refl _, SLe.refl _, SLe.refl _, trivial⟩ (fun _ h => h)⟩
    replace h6 := of_decide_eq_false h6
    obtain rfl : m = 4 := by omega
    have hIl := rowI_len (m := 4) hrk hnm hTl
    refine AWP.exit ?_
    refine AWP.region ?_
    refine AOps.mD rfl rfl rfl rfl rfl ?_
    refine AOps.step rfl rfl rfl (AOp.cat rfl rfl rfl (by (try simp only [ByteArray.size_append, strL_size, szMk, List.size_toArray, List.length_cons, List.length_nil]); omega)) ?_
    refine AOps.aD rfl rfl rfl rfl rfl (.nil ?_)
    refine AWP.region ?_
    refine AOps.step rfl rfl rfl (AOp.add64 rfl rfl rfl (by omega) (by omega)) ?_
    refine AOps.mD rfl rfl rfl rfl rfl (.nil ?_)
    refine ⟨k + 1, ⟨by omega, HA⟩, (by dsimp only; omega), Sub.less ⟨(SLe.of_eq rfl), SLe.refl _, SLe.refl _, (sEq (rowI_end hlt)), SLe.refl _, trivial⟩ (fun _ h => h)⟩
  replace h4 := of_decide_eq_false h4
  rw [List.length_map] at h4
  obtain rfl : k = s.rows.length := by omega
  have hTl := T2_lenW ho ng hrl hk.2
  have n3 := hk.2
  rw [List.take_length] at n3
  have hT3 := T3_lenW ho hTl
  refine AWP.exit ?_
  refine AWP.seq ?_
  refine AWP.seq (AWP.region ?_)
  refine AOps.step rfl rfl rfl (AOp.fieldAddr rfl fo_53_5 rfl) ?_
  refine AOps.step rfl rfl rfl (AOp.load rfl sc_45 rfl) ?_
  refine AOps.step rfl rfl rfl (AOp.lenSl rfl et_45.ht rfl) ?_
  refine AOps.step rfl rfl rfl (AOp.gtr rfl rfl rfl) (.nil ?_)
  refine AWP.cond rfl (fun h7 => ?_) (fun h7 => ?_)
  · replace h7 := of_decide_eq_true h7
    rw [List.length_map] at h7
    obtain ⟨HF, HR⟩ := show_bad (show stF s = 2 from by unfold stF; rw [if_neg (fun hh => hh n0), if_neg n1, if_neg n2, if_neg (fun hh => hh n3), if_pos (by omega)]) (by decide)
    rw [HR, HF]
    refine AWP.seq (AWP.region ?_)
    refine AOps.aD rfl rfl rfl rfl rfl ?_
    refine AOps.aD rfl rfl rfl rfl rfl (.nil ?_)
    refine AWP.ret ?_
    refine ⟨RetD.eq rfl ?_, RetD.eq rfl ?_, trivial⟩
    all_goals (rfl)
  replace h7 := of_decide_eq_false h7
  rw [List.length_map] at h7
  have n4 : ¬ 20 < s.parts.length := by omega
  have hpl : s.parts.length ≤ 20 := by omega
  refine AWP.skip ?_
  refine AWP.seq (AWP.region ?_)
  refine AOps.mD rfl rfl rfl rfl rfl ?_
  refine AOps.step rfl rfl rfl (AOp.fieldAddr rfl fo_53_4 rfl) ?_
  refine AOps.step rfl rfl rfl (AOp.load rfl sc_3 rfl) ?_
  -- wants the world
  refine AOps.callT rfl rfl rfl hT tabI_at.stays rfl (.cons (ArgOk.rfl' rfl) .nil) (c_itoa s.paid ho.2.2.2.2.1.1 ho.2.2.2.2.1.2) ?_
  refine AOps.step rfl rfl rfl (AOp.cat rfl rfl rfl (by (try simp only [ByteArray.size_append, strL_size, szMk, List.size_toArray, List.length_cons, List.length_nil]); omega)) ?_
  refine AOps.step rfl rfl rfl (AOp.cat rfl rfl rfl (by (try simp only [ByteArray.size_append, strL_size, szMk, List.size_toArray, List.length_cons, List.length_nil]); omega)) ?_
  refine AOps.step rfl rfl rfl (AOp.cat rfl rfl rfl (by (try simp only [ByteArray.size_append, strL_size, szMk, List.size_toArray, List.length_cons, List.length_nil]); omega)) ?_
  refine AOps.aD rfl rfl rfl rfl rfl (.nil ?_)
  refine AWP.seq ?_
  refine AWP.seq (AWP.region ?_)
  refine AOps.step rfl rfl rfl (AOp.fieldAddr rfl fo_53_5 rfl) ?_
  refine AOps.step rfl rfl rfl (AOp.load rfl sc_45 rfl) ?_
  refine AOps.step rfl rfl rfl (AOp.lenSl rfl et_45.ht rfl) ?_
  refine AOps.mD rfl rfl rfl rfl rfl (.nil ?_)
  refine AWP.block ?_
  refine AWP.loop (G := Nat) (fun k => Env.of [(93, .d (.v (.int .i64 (k : Int)))), (91, .d (.sl (s.parts.map Pd.ds))), (92, .d (.v (.int .i64 ((s.parts.map Pd.ds).length : Int)))), (4, .d (.v (.string (strL (T4 s k))))), (1, .d (.fp s.ds))]) (fun k => []) (fun k => k ≤ s.parts.length ∧ ∀ p ∈ s.parts.take k, nameOk p.party = true) (fun k => s.parts.length - k) 0 ⟨Nat.zero_le _, fun r h => by simp at h⟩ (Sub.less ⟨(SLe.of_eq rfl), SLe.refl _, SLe.refl _, (sEq (by rw [T4_0]; exact ref_pd s)), SLe.refl _, trivial⟩ (fun _ h => h)) ?_
  intro k hk
  refine AWP.seq (AWP.region ?_)
  refine AOps.step rfl rfl rfl (AOp.lss rfl rfl rfl) (.nil ?_)
  refine AWP.seq ?_
  refine AWP.cond rfl (fun h8 => ?_) (fun h8 => ?_)
  · replace h8 := of_decide_eq_true h8
    rw [List.length_map] at h8
    have hlt : k < s.parts.length := by omega
    have hrk := ho.2.2.2.2.2.1 _ (List.getElem_mem hlt)
    have hTp := T4_lenW ho hT3 hpl hk.2
    have hiz := itoa_sz hrk.2
    refine AWP.skip ?_
    refine AWP.seq ?_
    refine AWP.block ?_
    refine AWP.seq (AWP.region ?_)
    refine AOps.step rfl rfl rfl (AOp.indexAddr rfl et_45 rfl rfl k rfl (at_lst hlt) rfl) ?_
    refine AOps.step rfl rfl rfl (AOp.loadAgg rfl ag_50 rfl rfl) ?_
    refine AOps.alloc 102 rfl rfl rfl rfl zt_50 rfl rfl rfl ?_
    refine AOps.store rfl rfl rfl sz_50 rfl (.head _) rfl rfl rfl (Nat.le_of_ble_eq_true rfl) ?_
    refine AOps.freezeCells 10 (ds := s.parts[k].ds) rfl (.head _) (.nil ?_)
    refine AWP.seq ?_
    refine AWP.seq (AWP.region ?_)
    refine AOps.step rfl rfl rfl (AOp.fieldAddr rfl fo_50_0 rfl) ?_
    refine AOps.step rfl rfl rfl (AOp.load rfl sc_9 rfl) ?_
    refine AOps.step rfl rfl rfl (AOp.call rfl (.cons (ArgOk.rfl' rfl) .nil) (c_rName _ (ho.2.2.2.2.2.1 _ (List.getElem_mem hlt)).1)) ?_
    refine AOps.step rfl rfl rfl (AOp.not rfl rfl) (.nil ?_)
    refine AWP.cond rfl (fun h9 => ?_) (fun h9 => ?_)
    · replace h9 := bnot_t h9
      obtain ⟨HF, HR⟩ := show_bad (show stF s = 5 from by unfold stF; rw [if_neg (fun hh => hh n0), if_neg n1, if_neg n2, if_neg (fun hh => hh n3), if_neg n4, if_pos (fun hh => by have := hh _ (List.getElem_mem hlt); rw [show nameOk s.parts[k].party = false from h9] at this; cases this)]) (by decide)
      rw [HR, HF]
      refine AWP.seq (AWP.region ?_)
      refine AOps.aD rfl rfl rfl rfl rfl ?_
      refine AOps.aD rfl rfl rfl rfl rfl (.nil ?_)
      refine AWP.ret ?_
      refine ⟨RetD.eq rfl ?_, RetD.eq rfl ?_, trivial⟩
      all_goals (rfl)
    replace h9 := bnot_f h9
    have hnz := name_len (show nameOk s.parts[k].party = true from h9)
    have HA := take_ok (P := fun p : Pd => nameOk p.party = true) hlt hk.2 h9
    refine AWP.skip ?_
    refine AWP.drawK (by kernel_rfl) (by kernel_rfl) ?_
    refine KRun.step rfl rfl rfl (AOp.toK (AOp.moveD rfl rfl)) ?_
    refine KRun.step rfl rfl rfl (AOp.toK (AOp.fieldAddr rfl fo_50_0 rfl)) ?_
    refine KRun.step rfl rfl rfl (AOp.toK (AOp.load rfl sc_9 rfl)) ?_
    refine KRun.step rfl rfl rfl (AOp.toK (AOp.cat rfl rfl rfl (by (try simp only [ByteArray.size_append, strL_size, szMk, List.size_toArray, List.length_cons, List.length_nil]); omega))) ?_
    refine KRun.step rfl rfl rfl (AOp.toK (AOp.cat rfl rfl rfl (by (try simp only [ByteArray.size_append, strL_size, szMk, List.size_toArray, List.length_cons, List.length_nil]); omega))) ?_
    refine KRun.step rfl rfl rfl (AOp.toK (AOp.fieldAddr rfl fo_50_1 rfl)) ?_
    refine KRun.step rfl rfl rfl (AOp.toK (AOp.load rfl sc_3 rfl)) ?_
    refine KRun.step rfl rfl rfl (AOpK.callT tabI_at.stays rfl hT rfl (.cons (ArgOk.rfl' rfl) .nil) (c_itoa s.parts[k].cents hrk.2.1 hrk.2.2)) ?_
    refine KRun.step rfl rfl rfl (AOp.toK (AOp.cat rfl rfl rfl (by (try simp only [ByteArray.size_append, strL_size, szMk, List.size_toArray, List.length_cons, List.length_nil]); omega))) ?_
    refine KRun.step rfl rfl rfl (AOp.toK (AOp.cat rfl rfl rfl (by (try simp only [ByteArray.size_append, strL_size, szMk, List.size_toArray, List.length_cons, List.length_nil]); omega))) ?_
    refine KRun.step rfl rfl rfl (AOp.toK (AOp.cat rfl rfl rfl (by (try simp only [ByteArray.size_append, strL_size, szMk, List.size_toArray, List.length_cons, List.length_nil]); omega))) ?_
    refine KRun.step rfl rfl rfl (AOp.toK (AOp.assignD rfl rfl)) ?_
    refine KRun.nil ?_
    refine AWP.region ?_
    refine AOps.step rfl rfl rfl (AOp.add64 rfl rfl rfl (by omega) (by omega)) ?_
    refine AOps.mD rfl rfl rfl rfl rfl (.nil ?_)
    refine ⟨k + 1, ⟨by omega, HA⟩, (by dsimp only; omega), Sub.less ⟨(SLe.of_eq rfl), SLe.refl _, SLe.refl _, (sEq (ref_part hlt)), SLe.refl _, trivial⟩ (fun _ h => h)⟩
  replace h8 := of_decide_eq_false h8
  rw [List.length_map] at h8
  obtain rfl : k = s.parts.length := by omega
  have hTp := T4_lenW ho hT3 hpl hk.2
  have n5 := hk.2
  rw [List.take_length] at n5
  obtain ⟨HF, HR⟩ := show_good (show stF s = 0 from by unfold stF; rw [if_neg (fun hh => hh n0), if_neg n1, if_neg n2, if_neg (fun hh => hh n3), if_neg n4, if_neg (fun hh => hh n5)])
  rw [HR, HF, ← sEqD (ref_cl s)]
  refine AWP.exit ?_
  refine AWP.seq (AWP.region ?_)
  refine AOps.mD rfl rfl rfl rfl rfl ?_
  refine AOps.step rfl rfl rfl (AOp.cat rfl rfl rfl (by (try simp only [ByteArray.size_append, strL_size, szMk, List.size_toArray, List.length_cons, List.length_nil]); omega)) ?_
  refine AOps.step rfl rfl rfl (AOp.fieldAddr rfl fo_53_6 rfl) ?_
  refine AOps.step rfl rfl rfl (AOp.load rfl sc_3 rfl) ?_
  -- wants the world
  refine AOps.callT rfl rfl rfl hT tabI_at.stays rfl (.cons (ArgOk.rfl' rfl) .nil) (c_itoa s.closing ho.2.2.2.2.2.2.1 ho.2.2.2.2.2.2.2) ?_
  refine AOps.step rfl rfl rfl (AOp.cat rfl rfl rfl (by (try simp only [ByteArray.size_append, strL_size, szMk, List.size_toArray, List.length_cons, List.length_nil]); omega)) ?_
  refine AOps.step rfl rfl rfl (AOp.cat rfl rfl rfl (by (try simp only [ByteArray.size_append, strL_size, szMk, List.size_toArray, List.length_cons, List.length_nil]); omega)) ?_
  refine AOps.aD rfl rfl rfl rfl rfl ?_
  refine AOps.aD rfl rfl rfl rfl rfl (.nil ?_)
  refine AWP.ret ?_
  refine ⟨RetD.eq rfl ?_, RetD.eq rfl ?_, trivial⟩
  all_goals (rfl)

end Go.Proofs.YtekenfknoakboaaDoor


namespace Go.Proofs.YtekenfknoakboaaDoor
open Go.RowKit
set_option linter.unusedVariables false

/-! Types. -/
namespace TySG
theorem ag_50 : AggT Tryd.prog 50 2 := .of (by kernel_rfl)
theorem ag_53 : AggT Tryd.prog 53 7 := .of (by kernel_rfl)
theorem et_44 : ElemTy Tryd.prog 44 53 7 96 (.agg #[(.int .i64 0), (.string ⟨#[]⟩), (.slice none 0 0), (.int .i64 0), (.int .i64 0), (.slice none 0 0), (.int .i64 0)]) := ⟨by kernel_rfl, by kernel_rfl, by kernel_rfl, by decide⟩
theorem et_45 : ElemTy Tryd.prog 45 50 2 24 (.agg #[(.string ⟨#[]⟩), (.int .i64 0)]) := ⟨by kernel_rfl, by kernel_rfl, by kernel_rfl, by decide⟩
theorem sz_53 : ∀ w, (sizeOf 53).run Tryd.prog w = .ok 7 w := SizeT.of (by kernel_rfl)
theorem zt_53 : (Tryd.prog.info? 53).bind (·.zero) = some (.agg #[(.int .i64 0), (.string ⟨#[]⟩), (.slice none 0 0), (.int .i64 0), (.int .i64 0), (.slice none 0 0), (.int .i64 0)]) := by kernel_rfl
end TySG
open TySG

theorem eqT_Pd : EqT Tryd.prog 50 [.str, .int .i64] := .of (by kernel_rfl)
theorem eq_Pd (x y : Pd) : EqD Tryd.prog 50 x.ds y.ds (decide (x = y)) := .of eqT_Pd [.string x.party, .int .i64 x.cents] [.string y.party, .int .i64 y.cents] rfl rfl rfl rfl (by
  cases x
  cases y
  simp [sameL, sameV])


set_option maxRecDepth 100000 in
set_option maxHeartbeats 1000000 in
theorem c_eqPd (l : List Pd) : ACall Tryd.prog 11 [.sl (l.map Pd.ds), .sl (l.map Pd.ds)] (.v (.bool true)) := by
  refine acall_of (n := 26) (ds' := [.v (.bool true)]) Tryd.func11 rfl (by kernel_rfl) rfl [4] rfl rfl ?_
  intro B w0 F0 fr
  refine AWP.bound 0 rfl (fun hbd0 => ?_)
  rw [List.length_map] at hbd0
  refine AWP.seq (AWP.region ?_)
  refine AOps.aD rfl rfl rfl rfl rfl (.nil ?_)
  refine AWP.seq ?_
  refine AWP.seq (AWP.region ?_)
  refine AOps.mD rfl rfl rfl rfl rfl ?_
  refine AOps.step rfl rfl rfl (AOp.lenSl rfl et_45.ht rfl) ?_
  refine AOps.mD rfl rfl rfl rfl rfl ?_
  refine AOps.step rfl rfl rfl (AOp.lenSl rfl et_45.ht rfl) ?_
  refine AOps.step rfl rfl rfl (AOp.neq rfl rfl rfl) (.nil ?_)
  refine AWP.cond rfl (fun h1 => ?_) (fun h1 => ?_)
  · replace h1 := of_decide_eq_true h1
    exact absurd rfl h1
  replace h1 := of_decide_eq_false h1
  refine AWP.skip ?_
  refine AWP.seq ?_
  refine AWP.seq (AWP.region ?_)
  refine AOps.mD rfl rfl rfl rfl rfl ?_
  refine AOps.step rfl rfl rfl (AOp.lenSl rfl et_45.ht rfl) ?_
  refine AOps.mD rfl rfl rfl rfl rfl (.nil ?_)
  refine AWP.block ?_
  refine AWP.loop (G := Nat) (fun k => Env.of [(13, .d (.v (.int .i64 (k : Int)))), (0, .d (.sl (l.map Pd.ds))), (1, .d (.sl (l.map Pd.ds))), (12, .d (.v (.int .i64 ((l.map Pd.ds).length : Int))))]) (fun k => []) (fun k => k ≤ l.length) (fun k => l.length - k) 0 (Nat.zero_le _) (Sub.less ⟨(SLe.of_eq rfl), SLe.refl _, SLe.refl _, SLe.refl _, trivial⟩ (fun _ h => h)) ?_
  intro k hk
  refine AWP.seq (AWP.region ?_)
  refine AOps.step rfl rfl rfl (AOp.lss rfl rfl rfl) (.nil ?_)
  refine AWP.seq ?_
  refine AWP.cond rfl (fun h2 => ?_) (fun h2 => ?_)
  · replace h2 := of_decide_eq_true h2
    rw [List.length_map] at h2
    have hlt : k < l.length := by omega
    refine AWP.skip ?_
    refine AWP.seq ?_
    refine AWP.block ?_
    refine AWP.seq (AWP.region ?_)
    refine AOps.mD rfl rfl rfl rfl rfl ?_
    refine AOps.aD rfl rfl rfl rfl rfl (.nil ?_)
    refine AWP.seq ?_
    refine AWP.draw (by kernel_rfl) (by kernel_rfl) ?_
    refine DRun.step rfl rfl rfl (AOp.moveD rfl rfl) ?_
    refine DRun.step rfl rfl rfl (AOp.moveD rfl rfl) ?_
    refine DRun.step rfl rfl rfl (AOp.indexAddr rfl et_45 rfl rfl k rfl (at_lst hlt) rfl) ?_
    refine DRun.step rfl rfl rfl (AOp.loadAgg rfl ag_50 rfl rfl) ?_
    refine DRun.step rfl rfl rfl (AOp.moveD rfl rfl) ?_
    refine DRun.step rfl rfl rfl (AOp.moveD rfl rfl) ?_
    refine DRun.step rfl rfl rfl (AOp.indexAddr rfl et_45 rfl rfl k rfl (at_lst hlt) rfl) ?_
    refine DRun.step rfl rfl rfl (AOp.loadAgg rfl ag_50 rfl rfl) ?_
    refine DRun.step rfl rfl rfl (AOp.aggNeq rfl rfl rfl (eq_Pd _ _)) ?_
    refine DRun.nil ?_
    refine AWP.cond rfl (fun h3 => ?_) (fun h3 => ?_)
    · replace h3 := bnot_t h3; replace h3 := of_decide_eq_false h3
      exact absurd rfl h3
    replace h3 := bnot_f h3; replace h3 := of_decide_eq_true h3
    refine AWP.skip ?_
    refine AWP.region ?_
    refine AOps.step rfl rfl rfl (AOp.add64 rfl rfl rfl (by omega) (by omega)) ?_
    refine AOps.mD rfl rfl rfl rfl rfl (.nil ?_)
    refine ⟨k + 1, (by omega), (by dsimp only; omega), Sub.less ⟨(SLe.of_eq rfl), SLe.refl _, SLe.refl _, SLe.refl _, trivial⟩ (fun _ h => h)⟩
  replace h2 := of_decide_eq_false h2
  refine AWP.exit ?_
  refine AWP.seq (AWP.region ?_)
  refine AOps.aD rfl rfl rfl rfl rfl (.nil ?_)
  refine AWP.ret ?_
  refine ⟨RetD.eq rfl ?_, trivial⟩
  all_goals (rfl)

set_option maxRecDepth 100000 in
set_option maxHeartbeats 4000000 in
theorem lawTot (l : List Stm) (ho : ∀ s ∈ l, okStm s) (hm : (pts l).length ≤ 1048576) : ACallT Tryd.prog TabI 4 [.sl (l.map Stm.ds)] (.v (.bool true)) := by
  refine acall_ofT (n := 58) (ds' := [.v (.bool true)]) Tryd.func4 rfl (by kernel_rfl) rfl [2] rfl rfl ?_
  intro B w0 F0 hT
  refine AWP.bound 0 rfl (fun hbd0 => ?_)
  rw [List.length_map] at hbd0
  refine AWP.seq (AWP.region ?_)
  refine AOps.aD rfl rfl rfl rfl rfl (.nil ?_)
  refine AWP.seq (AWP.region ?_)
  refine AOps.mD rfl rfl rfl rfl rfl ?_
  refine AOps.step rfl rfl rfl (AOp.call rfl (.cons (ArgOk.rfl' rfl) .nil) (c_pTot l ho hm)) ?_
  refine AOps.mD rfl rfl rfl rfl rfl ?_
  refine AOps.step rfl rfl rfl (AOp.extract rfl rfl rfl) ?_
  refine AOps.step rfl rfl rfl (AOp.extract rfl rfl rfl) ?_
  refine AOps.aD rfl rfl rfl rfl rfl ?_
  refine AOps.aD rfl rfl rfl rfl rfl (.nil ?_)
  refine AWP.seq (AWP.region ?_)
  refine AOps.mD rfl rfl rfl rfl rfl ?_
  refine AOps.step rfl rfl rfl (AOp.call rfl (.cons (ArgOk.rfl' rfl) .nil) (c_rTot l ho hm)) ?_
  refine AOps.mD rfl rfl rfl rfl rfl ?_
  refine AOps.step rfl rfl rfl (AOp.extract rfl rfl rfl) ?_
  refine AOps.step rfl rfl rfl (AOp.extract rfl rfl rfl) ?_
  refine AOps.aD rfl rfl rfl rfl rfl ?_
  refine AOps.aD rfl rfl rfl rfl rfl (.nil ?_)
  refine AWP.seq ?_
  refine AWP.seq (AWP.region ?_)
  refine AOps.mD rfl rfl rfl rfl rfl ?_
  refine AOps.mD rfl rfl rfl rfl rfl ?_
  refine AOps.step rfl rfl rfl (AOp.neq rfl rfl rfl) ?_
  refine AOps.mD rfl rfl rfl rfl rfl ?_
  refine AOps.split 26 rfl (fun g1 => ?_) (fun g1 => ?_)
  · replace g1 := of_decide_eq_true g1
    exact absurd rfl g1
  replace g1 := of_decide_eq_false g1
  refine AOps.step ⟨26, rfl, .inl ⟨_, rfl, rfl⟩⟩ rfl rfl (AOp.moveD rfl rfl) ?_
  refine AOps.step ⟨26, rfl, .inl ⟨_, rfl, rfl⟩⟩ rfl rfl (AOp.moveD rfl rfl) ?_
  refine AOps.step ⟨26, rfl, .inl ⟨_, rfl, rfl⟩⟩ rfl rfl (AOp.call rfl (.cons (ArgOk.rfl' rfl) (.cons (ArgOk.rfl' rfl) .nil)) (c_eqPd _)) ?_
  refine AOps.step ⟨26, rfl, .inl ⟨_, rfl, rfl⟩⟩ rfl rfl (AOp.not rfl rfl) ?_
  refine AOps.step rfl rfl rfl (AOp.pickF rfl rfl rfl) (.nil ?_)
  refine AWP.cond rfl (fun h => nomatch h) (fun _ => ?_)
  refine AWP.skip ?_
  refine AWP.seq ?_
  refine AWP.seq (AWP.region ?_)
  refine AOps.mD rfl rfl rfl rfl rfl ?_
  refine AOps.step rfl rfl rfl (AOp.lenSl rfl et_44.ht rfl) ?_
  refine AOps.mD rfl rfl rfl rfl rfl (.nil ?_)
  refine AWP.block ?_
  refine AWP.loop (G := Nat) (fun k => Env.of [(34, .d (.v (.int .i64 (k : Int)))), (32, .d (.sl (l.map Stm.ds))), (33, .d (.v (.int .i64 ((l.map Stm.ds).length : Int))))]) (fun k => []) (fun k => k ≤ l.length) (fun k => l.length - k) 0 (Nat.zero_le _) (Sub.less ⟨(SLe.of_eq rfl), SLe.refl _, SLe.refl _, trivial⟩ (fun _ h => h)) ?_
  intro k hk
  refine AWP.seq (AWP.region ?_)
  refine AOps.step rfl rfl rfl (AOp.lss rfl rfl rfl) (.nil ?_)
  refine AWP.seq ?_
  refine AWP.cond rfl (fun h2 => ?_) (fun h2 => ?_)
  · replace h2 := of_decide_eq_true h2
    rw [List.length_map] at h2
    have hlt : k < l.length := by omega
    have hok := ho _ (List.getElem_mem hlt)
    refine AWP.skip ?_
    refine AWP.seq ?_
    refine AWP.block ?_
    refine AWP.seq (AWP.region ?_)
    refine AOps.step rfl rfl rfl (AOp.indexAddr rfl et_44 rfl rfl k rfl (at_lst hlt) rfl) ?_
    refine AOps.step rfl rfl rfl (AOp.loadAgg rfl ag_53 rfl rfl) ?_
    refine AOps.alloc 101 rfl rfl rfl rfl zt_53 rfl rfl rfl ?_
    refine AOps.store rfl rfl rfl sz_53 rfl (.head _) rfl rfl rfl (Nat.le_of_ble_eq_true rfl) ?_
    refine AOps.freezeCells 8 (ds := l[k].ds) rfl (.head _) (.nil ?_)
    refine AWP.seq (AWP.region ?_)
    refine AOps.step rfl rfl rfl (AOp.loadAgg rfl ag_53 rfl rfl) ?_
    -- wants the world
    refine AOps.callT rfl rfl rfl hT tabI_at.stays rfl (.cons (ArgOk.rfl' rfl) .nil) (c_pShow l[k] hok) ?_
    refine AOps.mD rfl rfl rfl rfl rfl ?_
    refine AOps.step rfl rfl rfl (AOp.extract rfl rfl rfl) ?_
    refine AOps.step rfl rfl rfl (AOp.extract rfl rfl rfl) ?_
    refine AOps.aD rfl rfl rfl rfl rfl ?_
    refine AOps.aD rfl rfl rfl rfl rfl (.nil ?_)
    refine AWP.seq (AWP.region ?_)
    refine AOps.step rfl rfl rfl (AOp.loadAgg rfl ag_53 rfl rfl) ?_
    -- wants the world
    refine AOps.callT rfl rfl rfl hT tabI_at.stays rfl (.cons (ArgOk.rfl' rfl) .nil) (c_rShow l[k] hok) ?_
    refine AOps.mD rfl rfl rfl rfl rfl ?_
    refine AOps.step rfl rfl rfl (AOp.extract rfl rfl rfl) ?_
    refine AOps.step rfl rfl rfl (AOp.extract rfl rfl rfl) ?_
    refine AOps.aD rfl rfl rfl rfl rfl ?_
    refine AOps.aD rfl rfl rfl rfl rfl (.nil ?_)
    refine AWP.seq (AWP.region ?_)
    refine AOps.mD rfl rfl rfl rfl rfl ?_
    refine AOps.mD rfl rfl rfl rfl rfl ?_
    refine AOps.step rfl rfl rfl (AOp.neq rfl rfl rfl) ?_
    refine AOps.mD rfl rfl rfl rfl rfl ?_
    refine AOps.split 51 rfl (fun g3 => ?_) (fun g3 => ?_)
    · replace g3 := of_decide_eq_true g3
      exact absurd rfl g3
    replace g3 := of_decide_eq_false g3
    refine AOps.step ⟨51, rfl, .inl ⟨_, rfl, rfl⟩⟩ rfl rfl (AOp.moveD rfl rfl) ?_
    refine AOps.step ⟨51, rfl, .inl ⟨_, rfl, rfl⟩⟩ rfl rfl (AOp.moveD rfl rfl) ?_
    refine AOps.step ⟨51, rfl, .inl ⟨_, rfl, rfl⟩⟩ rfl rfl (AOp.sneq rfl rfl rfl) ?_
    refine AOps.step rfl rfl rfl (AOp.pickF rfl rfl rfl) (.nil ?_)
    refine AWP.cond rfl (fun h4 => ?_) (fun h4 => ?_)
    · replace h4 := of_decide_eq_true h4
      exact absurd rfl h4
    replace h4 := of_decide_eq_false h4
    refine AWP.skip ?_
    refine AWP.region ?_
    refine AOps.step rfl rfl rfl (AOp.add64 rfl rfl rfl (by omega) (by omega)) ?_
    refine AOps.mD rfl rfl rfl rfl rfl (.nil ?_)
    refine ⟨k + 1, (by omega), (by dsimp only; omega), Sub.less ⟨(SLe.of_eq rfl), SLe.refl _, SLe.refl _, trivial⟩ (fun _ h => h)⟩
  replace h2 := of_decide_eq_false h2
  refine AWP.exit ?_
  refine AWP.seq (AWP.region ?_)
  refine AOps.step rfl rfl rfl (AOp.call rfl .nil c_awake) ?_
  refine AOps.aD rfl rfl rfl rfl rfl (.nil ?_)
  refine AWP.ret ?_
  refine ⟨RetD.eq rfl ?_, trivial⟩
  all_goals (rfl)

end Go.Proofs.YtekenfknoakboaaDoor
