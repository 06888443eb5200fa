/- Walks and laws over abstract values, merged by tools/merge.py. No statement of the seat. -/
import Derived.Test.YthcdjmkkgbcaaaaGreatDoorXZ6

namespace Go.Proofs.YthcdjmkkgbcaaaaGreatDoor
open Go.RowKit
set_option linter.unusedVariables false

/-! Types. -/
namespace TyTD
theorem sz_3 : ∀ w, (sizeOf 3).run Tryz.prog w = .ok 1 w := SizeT.of (by kernel_rfl)
theorem sz_9 : ∀ w, (sizeOf 9).run Tryz.prog w = .ok 1 w := SizeT.of (by kernel_rfl)
end TyTD
open TyH3 TyH4 TyH5 TyJ3 TyJ4 TyJ5 TyKA TyKB TyKC TyKD TyKE TyKF TyKG TyTA TyTB TyTD

set_option linter.unusedSimpArgs false
theorem obs_e {σ σ' : Obs} (h : σ = σ') : ∀ p ∈ σ', p ∈ σ := h ▸ fun _ h => h
def wordS (k : Int) : ByteArray := if k = 1 then strL wWork else if k = 2 then strL wRec else if k = 3 then strL wRel else strL wEd
def wdD (b : ByteArray) : List D := [.v (.string b)]
def kwS : List ByteArray := [strL [], strL wWork, strL wRec, strL wRel, strL wEd]
/-- The kind among the words ahead of j. -/
def kTo (w : List UInt8) (j : Nat) : Int := if kindW w < (j : Int) then kindW w else 0
theorem kTo_5 (w : List UInt8) : kTo w 5 = kindW w := if_pos (by have := kindW_rng w; omega)
theorem kTo_1 (w : List UInt8) : kTo w 1 = 0 := by
  unfold kTo
  have := kindW_rng w
  split <;> omega
theorem kTo_yes {w : List UInt8} {j : Nat} (h : kindW w = (j : Int)) : kTo w (j + 1) = (j : Int) := by unfold kTo; rw [if_pos (by omega), h]
theorem kTo_no {w : List UInt8} {j : Nat} (h : ¬ kindW w = (j : Int)) : kTo w (j + 1) = kTo w j := by
  unfold kTo
  by_cases h2 : kindW w < (j : Int)
  · rw [if_pos (by omega), if_pos h2]
  · rw [if_neg (by omega), if_neg h2]
theorem strL_inj {a b : List UInt8} : strL a = strL b ↔ a = b := ⟨fun h => by have := congrArg (fun x : ByteArray => x.data.toList) h; simpa [strL] using this, fun h => by rw [h]⟩
theorem word_kind {w : List UInt8} {j : Nat} (h0 : 1 ≤ j) (h4 : j ≤ 4) : wordS (j : Int) = strL w ↔ kindW w = (j : Int) := by
  have e : ∀ {a b : List UInt8}, strL a = strL b ↔ b = a := fun {a b} => strL_inj.trans eq_comm
  have hj : j = 1 ∨ j = 2 ∨ j = 3 ∨ j = 4 := by omega
  have d1 : wRec ≠ wWork := by decide
  have d2 : wRel ≠ wWork := by decide
  have d3 : wEd ≠ wWork := by decide
  have d4 : wRel ≠ wRec := by decide
  have d5 : wEd ≠ wRec := by decide
  have d6 : wEd ≠ wRel := by decide
  rcases hj with rfl | rfl | rfl | rfl
  · rw [show wordS ((1 : Nat) : Int) = strL wWork from rfl, e]
    unfold kindW
    constructor
    · intro h; rw [if_pos h]; rfl
    · intro h
      by_cases h1 : w = wWork
      · exact h1
      · rw [if_neg h1] at h; exfalso; revert h; (repeat (first | split | omega | (intro h; cases h)))
  · rw [show wordS ((2 : Nat) : Int) = strL wRec from rfl, e]
    unfold kindW
    constructor
    · intro h; subst h; rw [if_neg d1, if_pos rfl]; rfl
    · intro h
      by_cases h1 : w = wRec
      · exact h1
      · rw [if_neg h1] at h; exfalso; revert h; (repeat (first | split | omega | (intro h; cases h)))
  · rw [show wordS ((3 : Nat) : Int) = strL wRel from rfl, e]
    unfold kindW
    constructor
    · intro h; subst h; rw [if_neg d2, if_neg d4, if_pos rfl]; rfl
    · intro h
      by_cases h1 : w = wRel
      · exact h1
      · rw [if_neg h1] at h; exfalso; revert h; (repeat (first | split | omega | (intro h; cases h)))
  · rw [show wordS ((4 : Nat) : Int) = strL wEd from rfl, e]
    unfold kindW
    constructor
    · intro h; subst h; rw [if_neg d3, if_neg d5, if_neg d6, if_pos rfl]; rfl
    · intro h
      by_cases h1 : w = wEd
      · exact h1
      · rw [if_neg h1] at h; exfalso; revert h; (repeat (first | split | omega | (intro h; cases h)))
theorem six {l : List (List UInt8)} (h : l.length = 6) : ∃ k i s p c x, l = [k, i, s, p, c, x] := by
  match l, h with
  | [k, i, s, p, c, x], _ => exact ⟨k, i, s, p, c, x, rfl⟩
theorem thg_no6 {l : List UInt8} (h : (spk 32 5 l).length ≠ 6) : thgV l = none := by
  unfold thgV
  split
  · rename_i hh; rw [hh] at h; simp at h
  · rfl
theorem thg_6 {l k i s p c x : List UInt8} (h : spk 32 5 l = [k, i, s, p, c, x]) : thgV l = if c = [] ∨ x = [] then none else match numS i, numS s, parV p with
    | some i, some s, some p => if kindW k = 0 then none else some ⟨(i : Int), kindW k, strL x, codV c, (s : Int), p, []⟩
    | _, _, _ => none := by
  unfold thgV
  rw [h]
  rfl
theorem spk_l6 {l k i s p c x : List UInt8} (h : spk 32 5 l = [k, i, s, p, c, x]) : k.length ≤ l.length ∧ i.length ≤ l.length ∧ s.length ≤ l.length ∧ p.length ≤ l.length ∧ c.length ≤ l.length ∧ x.length ≤ l.length := by
  have hh := spk_lens 32 5 l
  rw [h] at hh
  exact ⟨hh k (by simp), hh i (by simp), hh s (by simp), hh p (by simp), hh c (by simp), hh x (by simp)⟩
theorem strL_nil {a : List UInt8} : (strL a = ⟨#[]⟩) ↔ a = [] := by rw [strCons, strL_list]
theorem strL_dash {a : List UInt8} : (strL a = ⟨#[45]⟩) ↔ a = [45] := by
  constructor
  · intro h
    have := congrArg (fun x : ByteArray => x.data.toList) h
    simpa [strL] using this
  · intro h; rw [h]; rfl
theorem nums2 {i s : List UInt8} (h : (numsS [i, s]).isSome = true) : ∃ a b, numS i = some a ∧ numS s = some b ∧ numsS [i, s] = some [(a : Int), (b : Int)] := by
  have e : numsS [i, s] = match numS i, numsS [s] with | some n, some ns => some ((n : Int) :: ns) | _, _ => none := rfl
  have e2 : numsS [s] = match numS s, numsS [] with | some n, some ns => some ((n : Int) :: ns) | _, _ => none := rfl
  cases h1 : numS i with
  | none => rw [e, h1] at h; cases h
  | some a =>
    cases h2 : numS s with
    | none => rw [e, e2, h1, h2] at h; cases h
    | some b => exact ⟨a, b, rfl, rfl, by rw [e, e2, h1, h2]; rfl⟩
theorem nums2_no {i s : List UInt8} (h : (numsS [i, s]).isSome = false) : numS i = none ∨ numS s = none := by
  have e : numsS [i, s] = match numS i, numsS [s] with | some n, some ns => some ((n : Int) :: ns) | _, _ => none := rfl
  have e2 : numsS [s] = match numS s, numsS [] with | some n, some ns => some ((n : Int) :: ns) | _, _ => none := rfl
  cases h1 : numS i with
  | none => exact .inl rfl
  | some a =>
    cases h2 : numS s with
    | none => exact .inr rfl
    | some b => rw [e, e2, h1, h2] at h; cases h
theorem parV_num {p : List UInt8} {q : Nat} (h : ¬ p = [45]) (h1 : numS p = some q) (h2 : ¬ q = 0) : parV p = some (q : Int) := by unfold parV; rw [if_neg h, h1]; exact if_neg h2
theorem parV_no {p : List UInt8} (h : ¬ p = [45]) (h1 : numS p = none) : parV p = none := by unfold parV; rw [if_neg h, h1]
theorem parV_z {p : List UInt8} {q : Nat} (h : ¬ p = [45]) (h1 : numS p = some q) (h2 : q = 0) : parV p = none := by unfold parV; rw [if_neg h, h1]; exact if_pos h2
theorem parV_d {p : List UInt8} (h : p = [45]) : parV p = some 0 := if_pos h
theorem codV_d {c : List UInt8} (h : c = [45]) : codV c = ⟨#[]⟩ := if_pos h
theorem codV_c {c : List UInt8} (h : ¬ c = [45]) : codV c = strL c := if_neg h
section
variable {l k i s p c x : List UInt8} (hw : spk 32 5 l = [k, i, s, p, c, x])
include hw
theorem thg_e (h : c = [] ∨ x = []) : thgV l = none := by rw [thg_6 hw, if_pos h]
theorem thg_n (h : ¬ (c = [] ∨ x = [])) (h2 : numS i = none ∨ numS s = none ∨ parV p = none ∨ kindW k = 0) : thgV l = none := by
  rw [thg_6 hw, if_neg h]
  split
  · rename_i a b q h3 h4 h5
    rcases h2 with h2 | h2 | h2 | h2
    · rw [h3] at h2; cases h2
    · rw [h4] at h2; cases h2
    · rw [h5] at h2; cases h2
    · exact if_pos h2
  · rfl
theorem thg_y {a b : Nat} {q : Int} (h : ¬ (c = [] ∨ x = [])) (h1 : numS i = some a) (h2 : numS s = some b) (h3 : parV p = some q) (h4 : ¬ kindW k = 0) : thgV l = some ⟨(a : Int), kindW k, strL x, codV c, (b : Int), q, []⟩ := by
  rw [thg_6 hw, if_neg h, h1, h2, h3]; exact if_neg h4
end
theorem c_split6 (s : ByteArray) (hs : s.size < 4294967281) : ACallT Tryz.prog MaxT 88 [.v (.string s), .v (.string ⟨#[32]⟩), .v (.int .i64 6)] (.sl ((spk 32 5 s.data.toList).map pcD)) := c_splitN s 32 5 hs (by decide)
theorem c_pNumL (l : List UInt8) (h : l.length ≤ 9223372036854775807) : ACall Tryz.prog 86 [.v (.string (strL l))] (.tup [.v (.int .i64 (((numS l).getD 0 : Nat) : Int)), .v (.bool (numS l).isSome)]) := by
 have := c_pNum (strL l) (by rw [strL_size]; exact h)
 rwa [strL_list] at this
set_option maxRecDepth 100000 in
set_option maxHeartbeats 1000000 in
theorem c_word (k : Int) : ACall Tryz.prog 29 [.v (.int .i64 k)] (.v (.string (wordS k))) := by
 refine acall_of (n := 10) (ds' := [.v (.string (wordS k))]) Tryz.func29 rfl (by kernel_rfl) rfl [2] rfl rfl ?_
 intro B w0 F0 fr
 refine .sr ?_
 refine .aA (.nil ?_)
 refine .seq ?_
 refine .sr ?_
 refine .mA (.nil ?_)
 refine .block ?_
 refine .sr ?_
 refine .sA (.eql rfl rfl rfl) ?_
 refine .aA (.nil ?_)
 refine .cond rfl (fun h1 => ?_) (fun h1 => ?_)
 ·replace h1 := of_decide_eq_true h1
  have HR : wordS k = strL wWork := if_pos h1
  refine .sr ?_
  refine .aA (.nil ?_)
  refine .ret ?_
  refine ⟨RetD.eq rfl ?_, trivial⟩
  all_goals (rw [HR]; rfl)
 replace h1 := of_decide_eq_false h1
 have n1 := h1
 refine .sr ?_
 refine .sA (.eql rfl rfl rfl) ?_
 refine .aA (.nil ?_)
 refine .cond rfl (fun h2 => ?_) (fun h2 => ?_)
 ·replace h2 := of_decide_eq_true h2
  have HR : wordS k = strL wRec := by unfold wordS; rw [if_neg n1, if_pos h2]
  refine .sr ?_
  refine .aA (.nil ?_)
  refine .ret ?_
  refine ⟨RetD.eq rfl ?_, trivial⟩
  all_goals (rw [HR]; rfl)
 replace h2 := of_decide_eq_false h2
 have n2 := h2
 refine .sr ?_
 refine .sA (.eql rfl rfl rfl) ?_
 refine .aA (.nil ?_)
 refine .cond rfl (fun h3 => ?_) (fun h3 => ?_)
 ·replace h3 := of_decide_eq_true h3
  have HR : wordS k = strL wRel := by unfold wordS; rw [if_neg n1, if_neg n2, if_pos h3]
  refine .sr ?_
  refine .aA (.nil ?_)
  refine .ret ?_
  refine ⟨RetD.eq rfl ?_, trivial⟩
  all_goals (rw [HR]; rfl)
 replace h3 := of_decide_eq_false h3
 have HR : wordS k = strL wEd := by unfold wordS; rw [if_neg n1, if_neg n2, if_neg h3]
 refine .skip ?_
 refine .sr ?_
 refine .aA (.nil ?_)
 refine .ret ?_
 refine ⟨RetD.eq rfl ?_, trivial⟩
 all_goals (rw [HR]; rfl)

set_option maxRecDepth 100000 in
set_option maxHeartbeats 1000000 in
theorem c_kws  : ACall Tryz.prog 33 [] (.sl (kwS.map wdD)) := by
 refine acall_of (n := 2) (ds' := [.sl (kwS.map wdD)]) Tryz.func33 rfl (by kernel_rfl) rfl [0] rfl rfl ?_
 intro B w0 F0 fr
 refine .sr ?_
 refine .aA (.nil ?_)
 refine .sr ?_
 refine .sA (.buildSlice rfl et_68 (.cons rfl rfl rfl (.cons rfl rfl rfl (.cons rfl rfl rfl (.cons rfl rfl rfl (.cons rfl rfl rfl .nil))))) rfl (by decide)) ?_
 refine .aA (.nil ?_)
 refine .ret ?_
 refine ⟨RetD.eq rfl ?_, trivial⟩
 all_goals (rfl)

set_option maxRecDepth 100000 in
set_option maxHeartbeats 1000000 in
theorem c_pNums (ws : List (List UInt8)) (n : Nat) (hl : ∀ x ∈ ws, x.length ≤ n) (hn : n ≤ 9223372036854775807) (hw : ws.length ≤ 1000000) : ACall Tryz.prog 52 [.sl (ws.map pcD)] (.tup [.sl (((numsS ws).getD []).map intD), .v (.bool (numsS ws).isSome)]) := by
 refine acall_of (n := 28) (ds' := [.sl (((numsS ws).getD []).map intD), .v (.bool (numsS ws).isSome)]) Tryz.func52 rfl (by kernel_rfl) rfl [2, 3] rfl rfl ?_
 intro B w0 F0 fr
 refine .sr ?_
 refine .aA ?_
 refine .aA (.nil ?_)
 refine .sr ?_
 refine .aA (.nil ?_)
 refine .seq ?_
 refine .sr ?_
 refine .mA ?_
 refine .sA (.lenSl rfl et_68.ht rfl) ?_
 refine .mA (.nil ?_)
 refine .block ?_
 refine .adopt 4 1 3 1 rfl rfl ?_
 refine .loop (G := Nat × List Int) (fun ⟨k, ns⟩ => Env.of [(11, .d (.v (.int .i64 (k : Int)))), (9, .d (.sl (ws.map pcD))), (10, .d (.v (.int .i64 ((ws.map pcD).length : Int)))), (4, .own 1)]) (fun ⟨k, ns⟩ => [(1, .row 3 1 (ns.map intD))]) (fun ⟨k, ns⟩ => k ≤ ws.length ∧ numsS (ws.take k) = some ns) (fun ⟨k, ns⟩ => ws.length - k) (0, []) ⟨Nat.zero_le _, rfl⟩ (Sub.less ⟨(SLe.of_eq rfl), SLe.refl _, SLe.refl _, SLe.refl _, trivial⟩ (row_same rfl)) ?_
 rintro ⟨k, ns⟩ ⟨hkl, hk⟩
 try dsimp only at hkl hk
 refine .sr ?_
 refine .sA (.lss rfl rfl rfl) (.nil ?_)
 refine .seq ?_
 refine .cond rfl (fun h1 => ?_) (fun h1 => ?_)
 ·replace h1 := of_decide_eq_true h1
  rw [List.length_map] at h1
  have hlt : k < ws.length := by omega
  have hln := numsS_len hk
  have hq : ns.length ≤ k := by rw [hln, List.length_take]; omega
  refine .skip ?_
  refine .seq ?_
  refine .block ?_
  refine .sr ?_
  refine .sA (.indexAddr rfl et_68 rfl rfl k rfl (at_lst hlt) rfl) ?_
  refine .sA (.load rfl sc_9 rfl) ?_
  refine .aA (.nil ?_)
  refine .sr ?_
  refine .mA ?_
  refine .sA (.call rfl (.cons (.rfl' rfl) .nil) (c_pNumL ws[k] (by have := hl _ (List.getElem_mem hlt); omega))) ?_
  refine .mA ?_
  refine .sA (.extract rfl rfl rfl) ?_
  refine .sA (.extract rfl rfl rfl) ?_
  refine .aA ?_
  refine .aA (.nil ?_)
  refine .seq ?_
  refine .sr ?_
  refine .mA ?_
  refine .sA (.not rfl rfl) (.nil ?_)
  refine .cond rfl (fun h2 => ?_) (fun h2 => ?_)
  ·replace h2 := bnot_t h2
   have HR : numsS ws = none := by
    cases hh : numS ws[k] with
    | none => exact numsS_none hlt hh
    | some v => rw [hh] at h2; cases h2
   rw [HR]
   refine .sr ?_
   refine .aA ?_
   refine .aA (.nil ?_)
   refine .ret ?_
   refine ⟨RetD.nil rfl, RetD.eq rfl ?_, trivial⟩
   all_goals (rfl)
  replace h2 := bnot_f h2
  obtain ⟨v, hv⟩ : ∃ v, numS ws[k] = some v := Option.isSome_iff_exists.1 (by simpa using h2)
  have HN := numsS_next hlt hk hv
  rw [hv]
  refine .skip ?_
  refine .region ?_
  refine .sA (.moveO rfl rfl) ?_
  refine .mA ?_
  refine .sA (.buildSlice rfl et_39 (.cons rfl rfl rfl .nil) rfl (by decide)) ?_
  -- append 25
  refine .append rfl rfl rfl rfl et_39 rfl (.head _) rfl (fun y hy => by obtain rfl := List.mem_singleton.1 hy; rfl) (by simp; omega) (by simp; omega) ?_
  refine .sA (.assignO rfl rfl) (.nil ?_)
  refine .region ?_
  refine .sA (.add64 rfl rfl rfl (by omega) (by omega)) ?_
  refine .mA (.nil ?_)
  refine ⟨(k + 1, ns ++ [(v : Int)]), ⟨by show k + 1 ≤ _; omega, HN⟩, (by dsimp only; omega), Sub.less ⟨(SLe.of_eq rfl), SLe.refl _, SLe.refl _, SLe.refl _, trivial⟩ (row_same (by rw [List.map_append]; rfl))⟩
 replace h1 := of_decide_eq_false h1
 rw [List.length_map] at h1
 obtain rfl : k = ws.length := by omega
 have HR : numsS ws = some ns := by have := hk; rwa [List.take_length] at this
 rw [HR]
 refine .exit ?_
 refine .sr ?_
 refine .sA (.moveO rfl rfl) ?_
 refine .sA (.assignO rfl rfl) ?_
 refine .aA (.nil ?_)
 refine .ret ?_
 refine ⟨RetD.own rfl (.head _) ?_, RetD.eq rfl ?_, trivial⟩
 all_goals (rfl)

set_option maxRecDepth 100000 in
set_option maxHeartbeats 4000000 in
theorem c_pThing (line : ByteArray) (hs : line.size ≤ 200000) : ACallT Tryz.prog MaxT 54 [.v (.string line)] (.tup [.agg ((thgV line.data.toList).getD zT).ds, .v (.bool (thgV line.data.toList).isSome)]) := by
 refine acall_ofRT (n := 95) (ds' := [.agg ((thgV line.data.toList).getD zT).ds, .v (.bool (thgV line.data.toList).isSome)]) Tryz.func54 rfl (by kernel_rfl) rfl [.cell 2 61, .tmp 3] rfl rfl ?_
 intro B w0 F0 hT
 have hsl := Lib.size_eq line
 refine .sr ?_
 refine .alloc 301 rfl rfl rfl rfl zt_61 rfl rfl rfl ?_
 refine .aA (.nil ?_)
 refine .sr ?_
 refine .mA ?_
 -- wants the world
 refine .callT rfl rfl rfl hT maxT_stays rfl (.cons (.rfl' rfl) (.cons (.rfl' rfl) (.cons (.rfl' rfl) .nil))) (c_split6 line (by omega)) ?_
 refine .aA (.nil ?_)
 refine .seq ?_
 refine .sr ?_
 refine .mA ?_
 refine .sA (.lenSl rfl et_68.ht rfl) ?_
 refine .sA (.neq rfl rfl rfl) ?_
 refine .mA ?_
 refine .split 16 rfl (fun g1 => ?_) (fun g1 => ?_)
 ·replace g1 := of_decide_eq_true g1
  rw [List.length_map] at g1
  have HT : thgV line.data.toList = none := thg_no6 (by omega)
  rw [HT]
  refine .pA ?_
  refine .pA ?_
  refine .pA ?_
  refine .pA ?_
  refine .sA (.pickT rfl rfl rfl) ?_
  refine .mA ?_
  refine .pA ?_
  refine .pA ?_
  refine .pA ?_
  refine .pA ?_
  refine .sA (.pickT rfl rfl rfl) (.nil ?_)
  refine .cond rfl (fun _ => ?_) (fun h => nomatch h)
  refine .sr ?_
  refine .sA (.build rfl bu_61 .nil rfl) ?_
  refine .store rfl rfl rfl sz_61 rfl (.head _) rfl rfl rfl (Nat.le_of_ble_eq_true rfl) ?_
  refine .aA (.nil ?_)
  refine .ret ?_
  refine ⟨RetR.agg rfl (.head _) ag_61 rfl (.cons (by first | exact CellD.nil | exact CellD.d | exact CellD.eq (by simp) | (refine CellD.own (by first | exact .head _ | exact .tail _ (.head _)) ?_; rfl)) (.cons (by first | exact CellD.nil | exact CellD.d | exact CellD.eq (by simp) | (refine CellD.own (by first | exact .head _ | exact .tail _ (.head _)) ?_; rfl)) (.cons (by first | exact CellD.nil | exact CellD.d | exact CellD.eq (by simp) | (refine CellD.own (by first | exact .head _ | exact .tail _ (.head _)) ?_; rfl)) (.cons (by first | exact CellD.nil | exact CellD.d | exact CellD.eq (by simp) | (refine CellD.own (by first | exact .head _ | exact .tail _ (.head _)) ?_; rfl)) (.cons (by first | exact CellD.nil | exact CellD.d | exact CellD.eq (by simp) | (refine CellD.own (by first | exact .head _ | exact .tail _ (.head _)) ?_; rfl)) (.cons (by first | exact CellD.nil | exact CellD.d | exact CellD.eq (by simp) | (refine CellD.own (by first | exact .head _ | exact .tail _ (.head _)) ?_; rfl)) (.cons (by first | exact CellD.nil | exact CellD.d | exact CellD.eq (by simp) | (refine CellD.own (by first | exact .head _ | exact .tail _ (.head _)) ?_; rfl)) .nil))))))), RetD.eq rfl ?_, trivial⟩
  all_goals (rfl)
 replace g1 := of_decide_eq_false g1
 rw [List.length_map] at g1
 obtain ⟨k, i, s, p, c, x, hw⟩ := six (l := (spk 32 5 line.data.toList)) (by omega)
 obtain ⟨lk, li, ls, lp, lc, lx⟩ := spk_l6 hw
 refine .sG (.moveD rfl rfl) ?_
 refine .sG (.indexAddr rfl et_68 rfl rfl 4 rfl (show ((spk 32 5 line.data.toList).map pcD)[4]? = some (pcD c) by rw [hw]; rfl) rfl) ?_
 refine .sG (.load rfl sc_9 rfl) ?_
 refine .sG (.seql rfl rfl rfl) ?_
 refine .sA (.pickF rfl rfl rfl) ?_
 refine .mA ?_
 refine .split 22 rfl (fun g2 => ?_) (fun g2 => ?_)
 ·replace g2 := of_decide_eq_true g2
  have HT : thgV line.data.toList = none := thg_e hw (.inl (strL_nil.1 g2))
  rw [HT]
  refine .pA ?_
  refine .pA ?_
  refine .pA ?_
  refine .pA ?_
  refine .sA (.pickT rfl rfl rfl) (.nil ?_)
  refine .cond rfl (fun _ => ?_) (fun h => nomatch h)
  refine .sr ?_
  refine .sA (.build rfl bu_61 .nil rfl) ?_
  refine .store rfl rfl rfl sz_61 rfl (.head _) rfl rfl rfl (Nat.le_of_ble_eq_true rfl) ?_
  refine .aA (.nil ?_)
  refine .ret ?_
  refine ⟨RetR.agg rfl (.head _) ag_61 rfl (.cons (by first | exact CellD.nil | exact CellD.d | exact CellD.eq (by simp) | (refine CellD.own (by first | exact .head _ | exact .tail _ (.head _)) ?_; rfl)) (.cons (by first | exact CellD.nil | exact CellD.d | exact CellD.eq (by simp) | (refine CellD.own (by first | exact .head _ | exact .tail _ (.head _)) ?_; rfl)) (.cons (by first | exact CellD.nil | exact CellD.d | exact CellD.eq (by simp) | (refine CellD.own (by first | exact .head _ | exact .tail _ (.head _)) ?_; rfl)) (.cons (by first | exact CellD.nil | exact CellD.d | exact CellD.eq (by simp) | (refine CellD.own (by first | exact .head _ | exact .tail _ (.head _)) ?_; rfl)) (.cons (by first | exact CellD.nil | exact CellD.d | exact CellD.eq (by simp) | (refine CellD.own (by first | exact .head _ | exact .tail _ (.head _)) ?_; rfl)) (.cons (by first | exact CellD.nil | exact CellD.d | exact CellD.eq (by simp) | (refine CellD.own (by first | exact .head _ | exact .tail _ (.head _)) ?_; rfl)) (.cons (by first | exact CellD.nil | exact CellD.d | exact CellD.eq (by simp) | (refine CellD.own (by first | exact .head _ | exact .tail _ (.head _)) ?_; rfl)) .nil))))))), RetD.eq rfl ?_, trivial⟩
  all_goals (rfl)
 replace g2 := of_decide_eq_false g2
 have hc : ¬ c = [] := fun hh => g2 (strL_nil.2 hh)
 refine .sG (.moveD rfl rfl) ?_
 refine .sG (.indexAddr rfl et_68 rfl rfl 5 rfl (show ((spk 32 5 line.data.toList).map pcD)[5]? = some (pcD x) by rw [hw]; rfl) rfl) ?_
 refine .sG (.load rfl sc_9 rfl) ?_
 refine .sG (.seql rfl rfl rfl) ?_
 refine .sA (.pickF rfl rfl rfl) (.nil ?_)
 refine .cond rfl (fun h3 => ?_) (fun h3 => ?_)
 ·replace h3 := of_decide_eq_true h3
  have HT : thgV line.data.toList = none := thg_e hw (.inr (strL_nil.1 h3))
  rw [HT]
  refine .sr ?_
  refine .sA (.build rfl bu_61 .nil rfl) ?_
  refine .store rfl rfl rfl sz_61 rfl (.head _) rfl rfl rfl (Nat.le_of_ble_eq_true rfl) ?_
  refine .aA (.nil ?_)
  refine .ret ?_
  refine ⟨RetR.agg rfl (.head _) ag_61 rfl (.cons (by first | exact CellD.nil | exact CellD.d | exact CellD.eq (by simp) | (refine CellD.own (by first | exact .head _ | exact .tail _ (.head _)) ?_; rfl)) (.cons (by first | exact CellD.nil | exact CellD.d | exact CellD.eq (by simp) | (refine CellD.own (by first | exact .head _ | exact .tail _ (.head _)) ?_; rfl)) (.cons (by first | exact CellD.nil | exact CellD.d | exact CellD.eq (by simp) | (refine CellD.own (by first | exact .head _ | exact .tail _ (.head _)) ?_; rfl)) (.cons (by first | exact CellD.nil | exact CellD.d | exact CellD.eq (by simp) | (refine CellD.own (by first | exact .head _ | exact .tail _ (.head _)) ?_; rfl)) (.cons (by first | exact CellD.nil | exact CellD.d | exact CellD.eq (by simp) | (refine CellD.own (by first | exact .head _ | exact .tail _ (.head _)) ?_; rfl)) (.cons (by first | exact CellD.nil | exact CellD.d | exact CellD.eq (by simp) | (refine CellD.own (by first | exact .head _ | exact .tail _ (.head _)) ?_; rfl)) (.cons (by first | exact CellD.nil | exact CellD.d | exact CellD.eq (by simp) | (refine CellD.own (by first | exact .head _ | exact .tail _ (.head _)) ?_; rfl)) .nil))))))), RetD.eq rfl ?_, trivial⟩
  all_goals (rfl)
 replace h3 := of_decide_eq_false h3
 have hcx : ¬ (c = [] ∨ x = []) := fun hh => hh.elim hc (fun hx => h3 (strL_nil.2 hx))
 refine .skip ?_
 refine .seq ?_
 refine .drawFresh 8 [⟨5, 302, .ptr 302 0, .cells [.d (.v (.int .i64 0)), .d (.v (.int .i64 0)), .d (.v (.string ⟨#[]⟩)), .d (.v (.string ⟨#[]⟩)), .d (.v (.int .i64 0)), .d (.v (.int .i64 0)), .d (.v (.slice none 0 0))]⟩] (FrOk.one rfl (by simp) rfl rfl rfl) (by kernel_rfl) (by kernel_rfl) (by kernel_rfl) (by kernel_rfl) ?_
 refine .step rfl rfl rfl (.moveD rfl rfl) ?_
 refine .step rfl rfl rfl (.indexAddr rfl et_68 rfl rfl 4 rfl (show ((spk 32 5 line.data.toList).map pcD)[4]? = some (pcD c) by rw [hw]; rfl) rfl) ?_
 refine .step rfl rfl rfl (.load rfl sc_9 rfl) ?_
 refine .step rfl rfl rfl (.moveD rfl rfl) ?_
 refine .step rfl rfl rfl (.indexAddr rfl et_68 rfl rfl 5 rfl (show ((spk 32 5 line.data.toList).map pcD)[5]? = some (pcD x) by rw [hw]; rfl) rfl) ?_
 refine .step rfl rfl rfl (.load rfl sc_9 rfl) ?_
 refine .step rfl rfl rfl (.build rfl bu_61 (.cons rfl rfl (.cons rfl rfl .nil)) rfl) ?_
 refine .alloc _ (.head _) rfl rfl rfl rfl rfl zt_61 rfl rfl rfl rfl ?_
 refine .nil ⟨rfl, trivial⟩ ?_
 refine .store rfl rfl rfl sz_61 rfl (.head _) rfl rfl rfl (Nat.le_of_ble_eq_true rfl) (.nil ?_)
 refine .seq ?_
 refine .sr ?_
 refine .aA (.nil ?_)
 refine .block ?_
 refine .loop (G := Nat) (fun j => Env.of [(6, .d (.v (.int .i64 ((j : Int) + 1)))), (4, .d (.sl ((spk 32 5 line.data.toList).map pcD))), (5, .ptr 302 0), (2, .ptr 301 0)]) (fun j => [(302, .cells [.d (.v (.int .i64 0)), .d (.v (.int .i64 (kTo k (j + 1)))), .d (.v (.string (strL x))), .d (.v (.string (strL c))), .d (.v (.int .i64 0)), .d (.v (.int .i64 0)), .d (.v (.slice none 0 0))]), (301, .cells [.d (.v (.int .i64 0)), .d (.v (.int .i64 0)), .d (.v (.string ⟨#[]⟩)), .d (.v (.string ⟨#[]⟩)), .d (.v (.int .i64 0)), .d (.v (.int .i64 0)), .d (.v (.slice none 0 0))])]) (fun j => j ≤ 4) (fun j => 4 - j) 0 (Nat.zero_le _) (Sub.less ⟨(SLe.of_eq rfl), SLe.refl _, SLe.refl _, SLe.refl _, trivial⟩ (obs_e (by (try dsimp only); rw [kTo_1]; first | done | rfl))) ?_
 intro j hj
 refine .seq ?_
 refine .sr ?_
 refine .mA ?_
 refine .sA (.leq rfl rfl rfl) (.nil ?_)
 refine .cond rfl (fun h4 => ?_) (fun h4 => ?_)
 ·replace h4 := of_decide_eq_true h4
  have hlt : j < 4 := by omega
  refine .skip ?_
  refine .seq ?_
  refine .block ?_
  refine .seq ?_
  refine .draw (by kernel_rfl) (by kernel_rfl) ?_
  refine .sA (.moveD rfl rfl) ?_
  refine .sA (.call rfl (.cons (.rfl' rfl) .nil) (c_word _)) ?_
  refine .sA (.moveD rfl rfl) ?_
  refine .sA (.indexAddr rfl et_68 rfl rfl 0 rfl (show ((spk 32 5 line.data.toList).map pcD)[0]? = some (pcD k) by rw [hw]; rfl) rfl) ?_
  refine .sA (.load rfl sc_9 rfl) ?_
  refine .sA (.seql rfl rfl rfl) ?_
  refine .nil ?_
  refine .cond rfl (fun h5 => ?_) (fun h5 => ?_)
  ·replace h5 := of_decide_eq_true h5
   have HJ := kTo_yes (j := j + 1) ((word_kind (by omega) (by omega)).1 h5)
   refine .region ?_
   refine .mA ?_
   refine .sA (.fieldAddrP rfl fo_61_1 rfl) ?_
   refine .store rfl rfl rfl sz_3 rfl (.head _) rfl rfl rfl (Nat.le_of_ble_eq_true rfl) (.nil ?_)
   refine .region ?_
   refine .mA ?_
   refine .sA (.add64 rfl rfl rfl (by omega) (by omega)) ?_
   refine .aA (.nil ?_)
   refine ⟨j + 1, (by dsimp only; omega), (by dsimp only; omega), Sub.less ⟨(SLe.i64 (by omega)), SLe.refl _, SLe.refl _, SLe.refl _, trivial⟩ (obs_e (by dsimp only; rw [HJ]; first | done | rfl))⟩
  replace h5 := of_decide_eq_false h5
  have HJ := kTo_no (j := j + 1) (fun hh => h5 ((word_kind (w := k) (j := j + 1) (by omega) (by omega)).2 hh))
  refine .skip ?_
  refine .region ?_
  refine .mA ?_
  refine .sA (.add64 rfl rfl rfl (by omega) (by omega)) ?_
  refine .aA (.nil ?_)
  refine ⟨j + 1, (by dsimp only; omega), (by dsimp only; omega), Sub.less ⟨(SLe.i64 (by omega)), SLe.refl _, SLe.refl _, SLe.refl _, trivial⟩ (obs_e (by dsimp only; rw [HJ]; first | done | rfl))⟩
 replace h4 := of_decide_eq_false h4
 obtain rfl : j = 4 := by omega
 rw [kTo_5]
 refine .exit ?_
 refine .sr ?_
 refine .mA ?_
 refine .sA (.sliceLH rfl et_68 rfl rfl rfl (by decide) (by decide) (by rw [hw]; show (3 : Int) ≤ 6; decide) (fun y hy => by obtain ⟨z, _, rfl⟩ := List.mem_map.1 hy; rfl)) ?_
 rw [show (((spk 32 5 line.data.toList).map pcD).drop (Int.toNat 1)).take (Int.toNat 3 - Int.toNat 1) = [i, s].map pcD by rw [hw]; rfl]
 refine .sA (.call rfl (.cons (.rfl' rfl) .nil) (c_pNums [i, s] 200000 (fun y hy => by simp only [List.mem_cons, List.not_mem_nil, or_false] at hy; rcases hy with rfl | rfl <;> omega) (by decide) (by show 2 ≤ 1000000; decide))) ?_
 refine .mA ?_
 refine .sA (.extract rfl rfl rfl) ?_
 refine .sA (.extract rfl rfl rfl) ?_
 refine .aA ?_
 refine .aA (.nil ?_)
 refine .seq ?_
 refine .sr ?_
 refine .mA ?_
 refine .sA (.not rfl rfl) ?_
 refine .mA ?_
 refine .split 56 rfl (fun g6 => ?_) (fun g6 => ?_)
 ·replace g6 := bnot_t g6
  have hn0 := nums2_no g6
  have HT : thgV line.data.toList = none := thg_n hw hcx (by rcases hn0 with hn0 | hn0; exact .inl hn0; exact .inr (.inl hn0))
  rw [HT]
  refine .pA ?_
  refine .pA ?_
  refine .pA ?_
  refine .sA (.pickT rfl rfl rfl) (.nil ?_)
  refine .cond rfl (fun _ => ?_) (fun h => nomatch h)
  refine .sr ?_
  refine .sA (.build rfl bu_61 .nil rfl) ?_
  refine .store rfl rfl rfl sz_61 rfl (.tail _ (.head _)) rfl rfl rfl (Nat.le_of_ble_eq_true rfl) ?_
  refine .aA (.nil ?_)
  refine .ret ?_
  refine ⟨RetR.agg rfl (.tail _ (.head _)) ag_61 rfl (.cons (by first | exact CellD.nil | exact CellD.d | exact CellD.eq (by simp) | (refine CellD.own (by first | exact .head _ | exact .tail _ (.head _)) ?_; rfl)) (.cons (by first | exact CellD.nil | exact CellD.d | exact CellD.eq (by simp) | (refine CellD.own (by first | exact .head _ | exact .tail _ (.head _)) ?_; rfl)) (.cons (by first | exact CellD.nil | exact CellD.d | exact CellD.eq (by simp) | (refine CellD.own (by first | exact .head _ | exact .tail _ (.head _)) ?_; rfl)) (.cons (by first | exact CellD.nil | exact CellD.d | exact CellD.eq (by simp) | (refine CellD.own (by first | exact .head _ | exact .tail _ (.head _)) ?_; rfl)) (.cons (by first | exact CellD.nil | exact CellD.d | exact CellD.eq (by simp) | (refine CellD.own (by first | exact .head _ | exact .tail _ (.head _)) ?_; rfl)) (.cons (by first | exact CellD.nil | exact CellD.d | exact CellD.eq (by simp) | (refine CellD.own (by first | exact .head _ | exact .tail _ (.head _)) ?_; rfl)) (.cons (by first | exact CellD.nil | exact CellD.d | exact CellD.eq (by simp) | (refine CellD.own (by first | exact .head _ | exact .tail _ (.head _)) ?_; rfl)) .nil))))))), RetD.eq rfl ?_, trivial⟩
  all_goals (rfl)
 replace g6 := bnot_f g6
 obtain ⟨a, b, na, nb, nab⟩ := nums2 g6
 rw [nab]
 refine .sG (.fieldAddrP rfl fo_61_1 rfl) ?_
 refine .sG (.loadP rfl sc_3 rfl (.head _) rfl) ?_
 refine .sG (.eql rfl rfl rfl) ?_
 refine .sA (.pickF rfl rfl rfl) (.nil ?_)
 refine .cond rfl (fun h7 => ?_) (fun h7 => ?_)
 ·replace h7 := of_decide_eq_true h7
  have HT : thgV line.data.toList = none := thg_n hw hcx (.inr (.inr (.inr h7)))
  rw [HT]
  refine .sr ?_
  refine .sA (.build rfl bu_61 .nil rfl) ?_
  refine .store rfl rfl rfl sz_61 rfl (.tail _ (.head _)) rfl rfl rfl (Nat.le_of_ble_eq_true rfl) ?_
  refine .aA (.nil ?_)
  refine .ret ?_
  refine ⟨RetR.agg rfl (.tail _ (.head _)) ag_61 rfl (.cons (by first | exact CellD.nil | exact CellD.d | exact CellD.eq (by simp) | (refine CellD.own (by first | exact .head _ | exact .tail _ (.head _)) ?_; rfl)) (.cons (by first | exact CellD.nil | exact CellD.d | exact CellD.eq (by simp) | (refine CellD.own (by first | exact .head _ | exact .tail _ (.head _)) ?_; rfl)) (.cons (by first | exact CellD.nil | exact CellD.d | exact CellD.eq (by simp) | (refine CellD.own (by first | exact .head _ | exact .tail _ (.head _)) ?_; rfl)) (.cons (by first | exact CellD.nil | exact CellD.d | exact CellD.eq (by simp) | (refine CellD.own (by first | exact .head _ | exact .tail _ (.head _)) ?_; rfl)) (.cons (by first | exact CellD.nil | exact CellD.d | exact CellD.eq (by simp) | (refine CellD.own (by first | exact .head _ | exact .tail _ (.head _)) ?_; rfl)) (.cons (by first | exact CellD.nil | exact CellD.d | exact CellD.eq (by simp) | (refine CellD.own (by first | exact .head _ | exact .tail _ (.head _)) ?_; rfl)) (.cons (by first | exact CellD.nil | exact CellD.d | exact CellD.eq (by simp) | (refine CellD.own (by first | exact .head _ | exact .tail _ (.head _)) ?_; rfl)) .nil))))))), RetD.eq rfl ?_, trivial⟩
  all_goals (rfl)
 replace h7 := of_decide_eq_false h7
 have hkk := h7
 refine .skip ?_
 refine .seq ?_
 refine .drawG (fun k => (Nat.beq k 7 || Nat.beq k 9) || (false)) (fun k => Nat.beq k 7 || Nat.beq k 9) (fun k h => Bool.or_eq_true_iff.2 (.inl h)) (by kernel_rfl) (by kernel_rfl) (by kernel_rfl) ?_
 refine .step rfl rfl rfl (fun _ => AOp.moveD rfl rfl) ?_
 refine .step rfl rfl rfl (fun _ => AOp.indexAddr rfl et_39 rfl rfl 0 rfl rfl rfl) ?_
 refine .step rfl rfl rfl (fun _ => AOp.load rfl sc_3 rfl) ?_
 refine .step rfl rfl rfl (fun _ => AOp.moveD rfl rfl) ?_
 refine .step rfl rfl rfl (fun _ => AOp.indexAddr rfl et_39 rfl rfl 1 rfl rfl rfl) ?_
 refine .step rfl rfl rfl (fun _ => AOp.load rfl sc_3 rfl) ?_
 refine .step rfl rfl rfl (fun _ => AOp.fieldAddrP rfl fo_61_0 rfl) ?_
 refine .eff rfl rfl rfl (.store rfl rfl sz_3 rfl (.head _) rfl rfl rfl (Nat.le_of_ble_eq_true rfl)) ?_
 refine .step rfl rfl rfl (fun _ => AOp.fieldAddrP rfl fo_61_4 rfl) ?_
 refine .eff rfl rfl rfl (.store rfl rfl sz_3 rfl (.head _) rfl rfl rfl (Nat.le_of_ble_eq_true rfl)) ?_
 refine .nil ?_
 refine .seq ?_
 refine .sr ?_
 refine .mA ?_
 refine .sA (.indexAddr rfl et_68 rfl rfl 3 rfl (show ((spk 32 5 line.data.toList).map pcD)[3]? = some (pcD p) by rw [hw]; rfl) rfl) ?_
 refine .sA (.load rfl sc_9 rfl) ?_
 refine .sA (.sneq rfl rfl rfl) (.nil ?_)
 refine .cond rfl (fun h8 => ?_) (fun h8 => ?_)
 ·replace h8 := of_decide_eq_true h8
  have hp : ¬ p = [45] := fun hh => h8 (strL_dash.2 hh)
  refine .sr ?_
  refine .mA ?_
  refine .sA (.indexAddr rfl et_68 rfl rfl 3 rfl (show ((spk 32 5 line.data.toList).map pcD)[3]? = some (pcD p) by rw [hw]; rfl) rfl) ?_
  refine .sA (.load rfl sc_9 rfl) ?_
  refine .sA (.call rfl (.cons (.rfl' rfl) .nil) (c_pNumL p (by omega))) ?_
  refine .mA ?_
  refine .sA (.extract rfl rfl rfl) ?_
  refine .sA (.extract rfl rfl rfl) ?_
  refine .aA ?_
  refine .aA (.nil ?_)
  refine .seq ?_
  refine .sr ?_
  refine .mA ?_
  refine .sA (.not rfl rfl) ?_
  refine .mA ?_
  refine .split 83 rfl (fun g9 => ?_) (fun g9 => ?_)
  ·replace g9 := bnot_t g9
   have HT : thgV line.data.toList = none := thg_n hw hcx (.inr (.inr (.inl (parV_no hp (by cases hh : numS p with
    | none => rfl
    | some v => rw [hh] at g9; cases g9)))))
   rw [HT]
   refine .pA ?_
   refine .pA ?_
   refine .sA (.pickT rfl rfl rfl) (.nil ?_)
   refine .cond rfl (fun _ => ?_) (fun h => nomatch h)
   refine .sr ?_
   refine .sA (.build rfl bu_61 .nil rfl) ?_
   refine .store rfl rfl rfl sz_61 rfl (.tail _ (.head _)) rfl rfl rfl (Nat.le_of_ble_eq_true rfl) ?_
   refine .aA (.nil ?_)
   refine .ret ?_
   refine ⟨RetR.agg rfl (.tail _ (.head _)) ag_61 rfl (.cons (by first | exact CellD.nil | exact CellD.d | exact CellD.eq (by simp) | (refine CellD.own (by first | exact .head _ | exact .tail _ (.head _)) ?_; rfl)) (.cons (by first | exact CellD.nil | exact CellD.d | exact CellD.eq (by simp) | (refine CellD.own (by first | exact .head _ | exact .tail _ (.head _)) ?_; rfl)) (.cons (by first | exact CellD.nil | exact CellD.d | exact CellD.eq (by simp) | (refine CellD.own (by first | exact .head _ | exact .tail _ (.head _)) ?_; rfl)) (.cons (by first | exact CellD.nil | exact CellD.d | exact CellD.eq (by simp) | (refine CellD.own (by first | exact .head _ | exact .tail _ (.head _)) ?_; rfl)) (.cons (by first | exact CellD.nil | exact CellD.d | exact CellD.eq (by simp) | (refine CellD.own (by first | exact .head _ | exact .tail _ (.head _)) ?_; rfl)) (.cons (by first | exact CellD.nil | exact CellD.d | exact CellD.eq (by simp) | (refine CellD.own (by first | exact .head _ | exact .tail _ (.head _)) ?_; rfl)) (.cons (by first | exact CellD.nil | exact CellD.d | exact CellD.eq (by simp) | (refine CellD.own (by first | exact .head _ | exact .tail _ (.head _)) ?_; rfl)) .nil))))))), RetD.eq rfl ?_, trivial⟩
   all_goals (rfl)
  replace g9 := bnot_f g9
  obtain ⟨q, hq⟩ : ∃ q, numS p = some q := Option.isSome_iff_exists.1 (by simpa using g9)
  rw [hq]
  refine .sG (.moveD rfl rfl) ?_
  refine .sG (.eql rfl rfl rfl) ?_
  refine .sA (.pickF rfl rfl rfl) (.nil ?_)
  refine .cond rfl (fun h10 => ?_) (fun h10 => ?_)
  ·replace h10 := of_decide_eq_true h10
   have HT : thgV line.data.toList = none := thg_n hw hcx (.inr (.inr (.inl (parV_z hp hq (by have hz := h10; simpa using hz)))))
   rw [HT]
   refine .sr ?_
   refine .sA (.build rfl bu_61 .nil rfl) ?_
   refine .store rfl rfl rfl sz_61 rfl (.tail _ (.head _)) rfl rfl rfl (Nat.le_of_ble_eq_true rfl) ?_
   refine .aA (.nil ?_)
   refine .ret ?_
   refine ⟨RetR.agg rfl (.tail _ (.head _)) ag_61 rfl (.cons (by first | exact CellD.nil | exact CellD.d | exact CellD.eq (by simp) | (refine CellD.own (by first | exact .head _ | exact .tail _ (.head _)) ?_; rfl)) (.cons (by first | exact CellD.nil | exact CellD.d | exact CellD.eq (by simp) | (refine CellD.own (by first | exact .head _ | exact .tail _ (.head _)) ?_; rfl)) (.cons (by first | exact CellD.nil | exact CellD.d | exact CellD.eq (by simp) | (refine CellD.own (by first | exact .head _ | exact .tail _ (.head _)) ?_; rfl)) (.cons (by first | exact CellD.nil | exact CellD.d | exact CellD.eq (by simp) | (refine CellD.own (by first | exact .head _ | exact .tail _ (.head _)) ?_; rfl)) (.cons (by first | exact CellD.nil | exact CellD.d | exact CellD.eq (by simp) | (refine CellD.own (by first | exact .head _ | exact .tail _ (.head _)) ?_; rfl)) (.cons (by first | exact CellD.nil | exact CellD.d | exact CellD.eq (by simp) | (refine CellD.own (by first | exact .head _ | exact .tail _ (.head _)) ?_; rfl)) (.cons (by first | exact CellD.nil | exact CellD.d | exact CellD.eq (by simp) | (refine CellD.own (by first | exact .head _ | exact .tail _ (.head _)) ?_; rfl)) .nil))))))), RetD.eq rfl ?_, trivial⟩
   all_goals (rfl)
  replace h10 := of_decide_eq_false h10
  have HP := parV_num hp hq (by have hz := h10; simpa using hz)
  refine .skip ?_
  refine .region ?_
  refine .mA ?_
  refine .sA (.fieldAddrP rfl fo_61_5 rfl) ?_
  refine .store rfl rfl rfl sz_3 rfl (.head _) rfl rfl rfl (Nat.le_of_ble_eq_true rfl) (.nil ?_)
  refine .seq ?_
  refine .sr ?_
  refine .sA (.fieldAddrP rfl fo_61_3 rfl) ?_
  refine .sA (.loadP rfl sc_9 rfl (.head _) rfl) ?_
  refine .sA (.seql rfl rfl rfl) (.nil ?_)
  refine .cond rfl (fun h11 => ?_) (fun h11 => ?_)
  ·replace h11 := of_decide_eq_true h11
   have HC := codV_d (strL_dash.1 h11)
   have HT := thg_y hw hcx na nb HP hkk
   rw [HT, HC]
   refine .region ?_
   refine .sA (.fieldAddrP rfl fo_61_3 rfl) ?_
   refine .store rfl rfl rfl sz_9 rfl (.head _) rfl rfl rfl (Nat.le_of_ble_eq_true rfl) (.nil ?_)
   refine .sr ?_
   refine .sA (.loadPU rfl ag_61 rfl (.head _) rfl rfl) ?_
   refine .store rfl rfl rfl sz_61 rfl (.tail _ (.head _)) rfl rfl rfl (Nat.le_of_ble_eq_true rfl) ?_
   refine .aA (.nil ?_)
   refine .ret ?_
   refine ⟨RetR.agg rfl (.tail _ (.head _)) ag_61 rfl (.cons (by first | exact CellD.nil | exact CellD.d | exact CellD.eq (by simp) | (refine CellD.own (by first | exact .head _ | exact .tail _ (.head _)) ?_; rfl)) (.cons (by first | exact CellD.nil | exact CellD.d | exact CellD.eq (by simp) | (refine CellD.own (by first | exact .head _ | exact .tail _ (.head _)) ?_; rfl)) (.cons (by first | exact CellD.nil | exact CellD.d | exact CellD.eq (by simp) | (refine CellD.own (by first | exact .head _ | exact .tail _ (.head _)) ?_; rfl)) (.cons (by first | exact CellD.nil | exact CellD.d | exact CellD.eq (by simp) | (refine CellD.own (by first | exact .head _ | exact .tail _ (.head _)) ?_; rfl)) (.cons (by first | exact CellD.nil | exact CellD.d | exact CellD.eq (by simp) | (refine CellD.own (by first | exact .head _ | exact .tail _ (.head _)) ?_; rfl)) (.cons (by first | exact CellD.nil | exact CellD.d | exact CellD.eq (by simp) | (refine CellD.own (by first | exact .head _ | exact .tail _ (.head _)) ?_; rfl)) (.cons (by first | exact CellD.nil | exact CellD.d | exact CellD.eq (by simp) | (refine CellD.own (by first | exact .head _ | exact .tail _ (.head _)) ?_; rfl)) .nil))))))), RetD.eq rfl ?_, trivial⟩
   all_goals (rfl)
  replace h11 := of_decide_eq_false h11
  have HC := codV_c (fun hh => h11 (strL_dash.2 hh))
  have HT := thg_y hw hcx na nb HP hkk
  rw [HT, HC]
  refine .skip ?_
  refine .sr ?_
  refine .sA (.loadPU rfl ag_61 rfl (.head _) rfl rfl) ?_
  refine .store rfl rfl rfl sz_61 rfl (.tail _ (.head _)) rfl rfl rfl (Nat.le_of_ble_eq_true rfl) ?_
  refine .aA (.nil ?_)
  refine .ret ?_
  refine ⟨RetR.agg rfl (.tail _ (.head _)) ag_61 rfl (.cons (by first | exact CellD.nil | exact CellD.d | exact CellD.eq (by simp) | (refine CellD.own (by first | exact .head _ | exact .tail _ (.head _)) ?_; rfl)) (.cons (by first | exact CellD.nil | exact CellD.d | exact CellD.eq (by simp) | (refine CellD.own (by first | exact .head _ | exact .tail _ (.head _)) ?_; rfl)) (.cons (by first | exact CellD.nil | exact CellD.d | exact CellD.eq (by simp) | (refine CellD.own (by first | exact .head _ | exact .tail _ (.head _)) ?_; rfl)) (.cons (by first | exact CellD.nil | exact CellD.d | exact CellD.eq (by simp) | (refine CellD.own (by first | exact .head _ | exact .tail _ (.head _)) ?_; rfl)) (.cons (by first | exact CellD.nil | exact CellD.d | exact CellD.eq (by simp) | (refine CellD.own (by first | exact .head _ | exact .tail _ (.head _)) ?_; rfl)) (.cons (by first | exact CellD.nil | exact CellD.d | exact CellD.eq (by simp) | (refine CellD.own (by first | exact .head _ | exact .tail _ (.head _)) ?_; rfl)) (.cons (by first | exact CellD.nil | exact CellD.d | exact CellD.eq (by simp) | (refine CellD.own (by first | exact .head _ | exact .tail _ (.head _)) ?_; rfl)) .nil))))))), RetD.eq rfl ?_, trivial⟩
  all_goals (rfl)
 replace h8 := of_decide_eq_false h8
 have hp : p = [45] := strL_dash.1 (by first | exact h8 | exact Decidable.not_not.1 h8)
 have HP := parV_d hp
 refine .skip ?_
 refine .seq ?_
 refine .sr ?_
 refine .sA (.fieldAddrP rfl fo_61_3 rfl) ?_
 refine .sA (.loadP rfl sc_9 rfl (.head _) rfl) ?_
 refine .sA (.seql rfl rfl rfl) (.nil ?_)
 refine .cond rfl (fun h12 => ?_) (fun h12 => ?_)
 ·replace h12 := of_decide_eq_true h12
  have HC := codV_d (strL_dash.1 h12)
  have HT := thg_y hw hcx na nb HP hkk
  rw [HT, HC]
  refine .region ?_
  refine .sA (.fieldAddrP rfl fo_61_3 rfl) ?_
  refine .store rfl rfl rfl sz_9 rfl (.head _) rfl rfl rfl (Nat.le_of_ble_eq_true rfl) (.nil ?_)
  refine .sr ?_
  refine .sA (.loadPU rfl ag_61 rfl (.head _) rfl rfl) ?_
  refine .store rfl rfl rfl sz_61 rfl (.tail _ (.head _)) rfl rfl rfl (Nat.le_of_ble_eq_true rfl) ?_
  refine .aA (.nil ?_)
  refine .ret ?_
  refine ⟨RetR.agg rfl (.tail _ (.head _)) ag_61 rfl (.cons (by first | exact CellD.nil | exact CellD.d | exact CellD.eq (by simp) | (refine CellD.own (by first | exact .head _ | exact .tail _ (.head _)) ?_; rfl)) (.cons (by first | exact CellD.nil | exact CellD.d | exact CellD.eq (by simp) | (refine CellD.own (by first | exact .head _ | exact .tail _ (.head _)) ?_; rfl)) (.cons (by first | exact CellD.nil | exact CellD.d | exact CellD.eq (by simp) | (refine CellD.own (by first | exact .head _ | exact .tail _ (.head _)) ?_; rfl)) (.cons (by first | exact CellD.nil | exact CellD.d | exact CellD.eq (by simp) | (refine CellD.own (by first | exact .head _ | exact .tail _ (.head _)) ?_; rfl)) (.cons (by first | exact CellD.nil | exact CellD.d | exact CellD.eq (by simp) | (refine CellD.own (by first | exact .head _ | exact .tail _ (.head _)) ?_; rfl)) (.cons (by first | exact CellD.nil | exact CellD.d | exact CellD.eq (by simp) | (refine CellD.own (by first | exact .head _ | exact .tail _ (.head _)) ?_; rfl)) (.cons (by first | exact CellD.nil | exact CellD.d | exact CellD.eq (by simp) | (refine CellD.own (by first | exact .head _ | exact .tail _ (.head _)) ?_; rfl)) .nil))))))), RetD.eq rfl ?_, trivial⟩
  all_goals (rfl)
 replace h12 := of_decide_eq_false h12
 have HC := codV_c (fun hh => h12 (strL_dash.2 hh))
 have HT := thg_y hw hcx na nb HP hkk
 rw [HT, HC]
 refine .skip ?_
 refine .sr ?_
 refine .sA (.loadPU rfl ag_61 rfl (.head _) rfl rfl) ?_
 refine .store rfl rfl rfl sz_61 rfl (.tail _ (.head _)) rfl rfl rfl (Nat.le_of_ble_eq_true rfl) ?_
 refine .aA (.nil ?_)
 refine .ret ?_
 refine ⟨RetR.agg rfl (.tail _ (.head _)) ag_61 rfl (.cons (by first | exact CellD.nil | exact CellD.d | exact CellD.eq (by simp) | (refine CellD.own (by first | exact .head _ | exact .tail _ (.head _)) ?_; rfl)) (.cons (by first | exact CellD.nil | exact CellD.d | exact CellD.eq (by simp) | (refine CellD.own (by first | exact .head _ | exact .tail _ (.head _)) ?_; rfl)) (.cons (by first | exact CellD.nil | exact CellD.d | exact CellD.eq (by simp) | (refine CellD.own (by first | exact .head _ | exact .tail _ (.head _)) ?_; rfl)) (.cons (by first | exact CellD.nil | exact CellD.d | exact CellD.eq (by simp) | (refine CellD.own (by first | exact .head _ | exact .tail _ (.head _)) ?_; rfl)) (.cons (by first | exact CellD.nil | exact CellD.d | exact CellD.eq (by simp) | (refine CellD.own (by first | exact .head _ | exact .tail _ (.head _)) ?_; rfl)) (.cons (by first | exact CellD.nil | exact CellD.d | exact CellD.eq (by simp) | (refine CellD.own (by first | exact .head _ | exact .tail _ (.head _)) ?_; rfl)) (.cons (by first | exact CellD.nil | exact CellD.d | exact CellD.eq (by simp) | (refine CellD.own (by first | exact .head _ | exact .tail _ (.head _)) ?_; rfl)) .nil))))))), RetD.eq rfl ?_, trivial⟩
 all_goals (rfl)

end Go.Proofs.YthcdjmkkgbcaaaaGreatDoor

namespace Go.Proofs.YthcdjmkkgbcaaaaGreatDoor
open Go.RowKit
set_option linter.unusedVariables false

/-! Types. -/
namespace TyTE
theorem bu_54 : StructT Tryz.prog 54 (fun i => (#[(0, 1), (1, 1)] : Array (Nat × Nat))[i]?) [(.int .i64 0), (.int .i64 0)] := .of (by kernel_rfl) (by kernel_rfl) (by decide)
end TyTE
open TyH3 TyH4 TyH5 TyJ3 TyJ4 TyJ5 TyKA TyKB TyKC TyKD TyKE TyKF TyKG TyTA TyTB TyTD TyTE

set_option linter.unusedSimpArgs false
def numI (w : List UInt8) : Int := (((numS w).getD 0 : Nat) : Int)
def parI (p : List UInt8) : Int := if p = [45] then 0 else numI p
def parB (p : List UInt8) : Bool := decide (p = [45]) || ((numS p).isSome && decide (0 < numI p))
def refTh (l : List UInt8) : Thg := match spk 32 5 l with
  | [k, i, s, p, c, x] => if c = [] ∨ x = [] then zT else ⟨numI i, kindW k, strL x, codV c, numI s, parI p, []⟩
  | _ => zT
section
variable {l k i s p c x : List UInt8} (hw : spk 32 5 l = [k, i, s, p, c, x])
include hw
end
/-! ## Moved -/
def wMoved : List UInt8 := [109, 111, 118, 101, 100]
def refMo (l : List UInt8) : Mvd := match spl 32 l with
  | [m, a, b] => if m = wMoved then ⟨numI a, numI b⟩ else ⟨0, 0⟩
  | _ => ⟨0, 0⟩
def okMo (l : List UInt8) : Bool := match spl 32 l with
  | [m, a, b] => decide (m = wMoved) && ((numS a).isSome && (numS b).isSome)
  | _ => false
end Go.Proofs.YthcdjmkkgbcaaaaGreatDoor

namespace Go.Proofs.YthcdjmkkgbcaaaaGreatDoor
open Go.RowKit
set_option linter.unusedVariables false

/-! Types. -/
namespace TyTG
end TyTG
open TyH3 TyH4 TyH5 TyJ3 TyJ4 TyJ5 TyKA TyKB TyKC TyKD TyKE TyKF TyKG TyTA TyTB TyTD TyTE TyTG

end Go.Proofs.YthcdjmkkgbcaaaaGreatDoor

namespace Go.Proofs.YthcdjmkkgbcaaaaGreatDoor
open Go.RowKit
set_option linter.unusedVariables false

end Go.Proofs.YthcdjmkkgbcaaaaGreatDoor

namespace Go.Proofs.YthcdjmkkgbcaaaaGreatDoor
open Go.RowKit
set_option linter.unusedVariables false

end Go.Proofs.YthcdjmkkgbcaaaaGreatDoor

namespace Go.Proofs.YthcdjmkkgbcaaaaGreatDoor
open Go.RowKit Go.Shelf
set_option linter.unusedVariables false

section
variable {cx : Cx} {e : Env} {σ : Obs} {Q : Post}
end

section
variable {cx : Cx} {ops : Array Oper} {o : Oper} {rest : List Oper} {e : Env} {σ : Obs} {Q : Post}
end
end Go.Proofs.YthcdjmkkgbcaaaaGreatDoor

namespace Go.Proofs.YthcdjmkkgbcaaaaGreatDoor
open Go.RowKit
set_option linter.unusedVariables false

/-- append(own, x...): the row has a new name, the old header stays what it was. -/
theorem AOps.appendN {cx : Cx} {ops : Array Oper} {o : Oper} {rest : List Oper} {e : Env} {σ : Obs} {Q : Post} {s x : Operand} {t ee size bytes id dst : Nat} {z : Value} {els els2 : List (List D)} (id2 : Nat) (hg : o.guard = none)
    (ho : o.op = .call { callee := .builtin .append, args := #[s, x], argTypes := #[t, t] }) (hd : o.dst = some dst) (hdn' : Nat.blt dst cx.N = true) (T : ElemTy cx.P t ee size bytes z) (hs : e.ev s = .own id) (hm : (id, Ob.row ee size els) ∈ σ)
    (hx : e.ev x = .d (.sl els2)) (hsz : ∀ y ∈ els2, y.length = size) (hb : (els.length + els2.length) * bytes ≤ 140737488355328) (hn : els.length + els2.length ≤ 9223372036854775807)
    (hid : Obs.fresh id2 σ = true) (k : AOps cx ops rest ((e.kill id2).put (some dst) (.own id2)) ((id2, .row ee size (els ++ els2)) :: Obs.kill id2 (Obs.del id σ)) Q) (hfx : cx.free id2 = true := by rfl) : AOps cx ops (o :: rest) e σ Q := by
  intro a w ⟨F, ρ, hr⟩
  have hdn : dst < cx.N := by simpa [Nat.blt_eq] using hdn'
  have h1 := ev_rep (e := e) (x := s) (a := a) (fun t _ => hr.env t)
  have h2 := ev_rep (e := e) (x := x) (a := a) (fun t _ => hr.env t)
  rw [hs] at h1
  rw [hx] at h2
  obtain ⟨xs, hown, hlen, hrep, hnF⟩ := hr.obs.ok _ hm
  dsimp only at hown hnF
  have hv : a.eval s = ρ id := by generalize a.eval s = v at h1; cases h1; rfl
  -- the source, as a slice of cells
  obtain ⟨ys, hsl, hys⟩ : ∃ ys : Nat → Nat → Value, Sl w size (a.eval x) els2.length (flat ys els2.length size) ∧ ∀ i (h : i < els2.length) j (h' : j < els2[i].length), (ys i j).oneCell' = true ∧ Rep F w (ys i j) els2[i][j] := by
    rcases rep_sl_sl (repS_d h2) with ⟨h3, h4⟩ | ⟨ad, cap, size', vs, h3, hc, hm', hF', hs', hcell, hone, hrep'⟩
    · subst h4
      exact ⟨fun _ _ => undef, by rw [h3]; exact Sl.nil _ _, fun i hi => by simp at hi⟩
    · refine ⟨vs, ⟨flat_length _ _ _, .inr ⟨ad, cap, h3, hc, hm', ?_⟩⟩, fun i hi j hj => ?_⟩
      · intro q hq
        rw [flat_length] at hq
        have hs0 : 0 < size := T.hs
        have e1 : q = (q / size) * size + q % size := by rw [Nat.mul_comm]; exact (Nat.div_add_mod q size).symm
        have hlt1 : q / size < els2.length := Nat.div_lt_of_lt_mul (by rw [Nat.mul_comm]; exact hq)
        have hlt2 : q % size < size := Nat.mod_lt _ hs0
        have hss : size' = size := by rw [← hs' (q / size) hlt1]; exact hsz _ (List.getElem_mem hlt1)
        subst hss
        have h5 := hcell (q / size') (q % size') hlt1 hlt2
        rw [← e1] at h5
        rw [h5]
        have h6 := flatten_get vs size' els2.length (q / size') (q % size') hlt1 hlt2
        rw [← e1] at h6
        have h7 : (flat vs els2.length size')[q]? = some (vs (q / size') (q % size')) := h6
        rw [List.getElem?_eq_getElem (by rw [flat_length]; exact hq)] at h7
        rw [Option.some.inj h7]
      · have hss : size' = size := by rw [← hs' i hi]; exact hsz _ (List.getElem_mem hi)
        exact ⟨hone i j hi (by rw [← hs' i hi]; exact hj), hrep' i hi j hj⟩
  refine wpList_cat2 (B := cx.B) T s x hg ho hown hv rfl hsl ?_ hb hn hr.hB ?_
  · intro u hu
    obtain ⟨q, hq, rfl⟩ := List.getElem_of_mem hu
    rw [flat_length] at hq
    have hs0 : 0 < size := T.hs
    have e1 : q = (q / size) * size + q % size := by rw [Nat.mul_comm]; exact (Nat.div_add_mod q size).symm
    have hlt1 : q / size < els2.length := Nat.div_lt_of_lt_mul (by rw [Nat.mul_comm]; exact hq)
    have hlt2 : q % size < size := Nat.mod_lt _ hs0
    have h6 := flatten_get ys size els2.length (q / size) (q % size) hlt1 hlt2
    rw [← e1] at h6
    have h7 : (flat ys els2.length size)[q]? = some (ys (q / size) (q % size)) := h6
    rw [List.getElem?_eq_getElem (by rw [flat_length]; exact hq)] at h7
    rw [Option.some.inj h7]
    exact (hys _ hlt1 _ (by rw [hsz _ (List.getElem_mem hlt1)]; exact hlt2)).1
  · intro v' w' hown' hgr hat
    rw [hd]
    refine k _ _ ⟨F, fun j => if j = id2 then v' else ρ j, ?_⟩
    have hnewb : ∀ g, blk v' = some g → (ρ id).ownBlock = some g ∨ w.heap.size ≤ g := by
      intro g hg
      have hg' : v'.ownBlock = some g := by
        rcases hown'.2 with ⟨h3, _⟩ | ⟨g', cap, cur, h3, _⟩
        · rw [h3] at hg; simp [blk] at hg
        · rw [h3] at hg ⊢; simpa [Value.ownBlock, blk] using hg
      rcases hat with h3 | ⟨g2, h3, h4⟩
      · exact .inl (by rw [← h3]; exact hg')
      · rw [h3] at hg'
        exact .inr (by have := Option.some.inj hg'; omega)
    have hob' : ∀ g, (ρ id).ownBlock = some g → blk (ρ id) = some g := by
      intro g hg
      rcases hown.2 with ⟨h3, _⟩ | ⟨g', cap, cur, h3, _⟩
      · rw [h3] at hg; simp [Value.ownBlock] at hg
      · rw [h3] at hg ⊢; simpa [Value.ownBlock, blk] using hg
    have hturn : Turn w w' (ρ id).ownBlock := ⟨hgr.os, hgr.tape, hgr.output, hgr.size, hgr.block⟩
    have hsub : ∀ p ∈ Obs.del id σ, p ∈ σ := fun p hp => (Obs.mem_del hp).1
    have hr2 : R0 cx F ρ e (Obs.del id σ) a w := ⟨hr.size, hr.defers, hr.lt, hr.base, hr.new, hr.below, hr.hB, hr.env, hr.obs.sub hsub, hr.up, fun p hp => hr.kown p (hsub p hp), hr.fixed⟩
    have h9 := hr2.turn (ρ' := fun j => if j = id2 then v' else ρ j) (id := id2) (ob := .row ee size (els ++ els2)) (row := (ρ id).ownBlock) (w' := w') (F' := F) (fun j hj => by simp [hj]) hturn hfx
      (fun g hg => ⟨hr.kown _ hm g (hob' g hg), hnF g (hob' g hg), fun p hp hpi => fun he => hr.obs.apart p (Obs.mem_del hp).1 _ hm (Obs.mem_del hp).2 g he (hob' g hg)⟩) (fun b hb => hb) (fun b hb => .inl hb)
      (fun b hb => Nat.lt_of_lt_of_le (hr.lt b hb) hgr.size)
      (by
        refine ⟨fun i j => if i < els.length then xs i j else ys (i - els.length) j, ?_, fun i hi => ?_, fun i hi j hj => ?_, fun g hg hf => ?_⟩
        · dsimp only; rw [if_pos rfl, List.length_append]
          have h3 := flat_append xs ys els.length els2.length size
          unfold flat at h3
          rw [← h3]
          exact hown'
        · by_cases hi' : i < els.length
          · rw [List.getElem_append_left hi']; exact hlen i hi'
          · rw [List.getElem_append_right (by omega)]
            exact hsz _ (List.getElem_mem _)
        · have keep : ∀ {u : Value} {d : D}, Rep F w u d → Rep F w' u d := fun h => h.mono (fun b hb => hb) fun b hb => hgr.block b (hr.lt b hb) (fun he => hnF b (hob' b he.symm) hb)
          by_cases hi' : i < els.length
          · simp only [if_pos hi', List.getElem_append_left hi'] at hj ⊢
            exact ⟨(hrep i hi' j hj).1, keep (hrep i hi' j hj).2⟩
          · simp only [if_neg hi', List.getElem_append_right (show els.length ≤ i by omega)] at hj ⊢
            have := hys (i - els.length) (by simp at hi; omega) j hj
            exact ⟨this.1, keep this.2⟩
        · dsimp only at hg; rw [if_pos rfl] at hg
          rcases hnewb g hg with h3 | h3
          · exact hnF g (hob' g h3) hf
          · have := hr.lt g hf; omega)
      (fun g hg => by
        rw [if_pos rfl] at hg
        exact hnewb g hg)
      ((id2, .row ee size (els ++ els2)) :: Obs.kill id2 (Obs.del id σ)) (fun p hp => by
        cases hp with
        | head => exact .inl rfl
        | tail _ hp =>
          obtain ⟨q, hq, rfl⟩ := Obs.mem_kill hp
          exact .inr ⟨q, hq, Obs.fresh_spec hid q (Obs.mem_del hq).1, rfl⟩)
    have h10 := h9.put (o := ⟨some dst, .ready 0, 0, "", #[], none⟩) (v := v') (s := .own id2) (Ext.refl h9.lt) (by
      have := RepS.own (F := F) (ρ := fun j => if j = id2 then v' else ρ j) (w := w') id2
      simpa using this) (by simpa [DstOk, Nat.blt_eq] using hdn)
    exact h10
/-- Such an append in a drawn region. -/
theorem GE.appendN {cx : Cx} {ops : Array Oper} {Φ : List Fc} {o : Oper} {e : Env} {σ : Obs} {s x : Operand} {t ee size bytes id dst : Nat} {z : Value} {els els2 : List (List D)} {σ' : Obs} (id2 : Nat) {sl : List Nat} (hΦ : ⟨id2, sl⟩ ∈ Φ) (hsl : ∀ t, t ≠ dst → sl.contains t = false) (hg : o.guard = none)
    (ho : o.op = .call { callee := .builtin .append, args := #[s, x], argTypes := #[t, t] }) (hd : o.dst = some dst) (hdn' : Nat.blt dst cx.N = true) (T : ElemTy cx.P t ee size bytes z) (hs : e.ev s = .own id) (hm : (id, Ob.row ee size els) ∈ σ)
    (hx : e.ev x = .d (.sl els2)) (hsz : ∀ y ∈ els2, y.length = size) (hb : (els.length + els2.length) * bytes ≤ 140737488355328) (hn : els.length + els2.length ≤ 9223372036854775807) (hid : Obs.fresh id2 σ = true) (hσ : (id2, .row ee size (els ++ els2)) :: Obs.kill id2 (Obs.del id σ) = σ') (hfx : cx.free id2 = true := by rfl) :
    GE cx ops Φ o e σ [(dst, .own id2)] σ' := fun e0 h1 h2 h3 => by
  have e1 : e0.ev s = e.ev s := ev_same fun t hxt => h1 t (looks_op (by rw [ho, ← hxt]; simp [Op.operands, Call.operands]))
  have e2 : e0.ev x = e.ev x := ev_same fun t hxt => h1 t (looks_op (by rw [ho, ← hxt]; simp [Op.operands, Call.operands]))
  have hp : (e0.kill id2).put (some dst) (.own id2) = Env.puts e0 [(dst, .own id2)] := by
    funext t
    show _ = (e0.put (some dst) (.own id2)) t
    by_cases h4 : t = dst
    · subst h4; rw [Env.put_same, Env.put_same]
    · rw [Env.put_other _ _ _ _ h4, Env.put_other _ _ _ _ h4]; exact h3 _ hΦ t (hsl t h4)
  exact AOps.appendN id2 hg ho hd hdn' T (e1.trans hs) hm (e2.trans hx) hsz hb hn hid (.nil ⟨hp, hσ⟩) hfx
end Go.Proofs.YthcdjmkkgbcaaaaGreatDoor

namespace Go.Proofs.YthcdjmkkgbcaaaaGreatDoor
open Go.RowKit
set_option linter.unusedVariables false

theorem AWP.drawLTailL {cx : Cx} {id : Nat} {l : List Oper} {e : Env} {σ : Obs} {Q : Post} (k : Nat) (L : List Nat) (Φ : List Fc) (E : List (Nat × List Nat)) (I : Obs → Prop) (hm : cx.P.follows .mixedOrders = true) (hB : Region.lexB .any (l.take k).toArray = true)
    (hS : Region.keysFrom (l.take k).toArray (fun k => E.any fun p => Nat.beq p.1 k) (fun k => ((E.find? fun p => Nat.beq p.1 k).map Prod.snd).getD []) (l.take k).length 0 (Array.replicate (l.take k).length false) = true) (hC : Region.chainLB l.toArray (fun i => L.contains i) k = true) (hL : lateB l.toArray L k = true)
    (h : LRun cx (l.take k).toArray Φ (fun k => E.any fun p => Nat.beq p.1 k) (fun k => ((E.find? fun p => Nat.beq p.1 k).map Prod.snd).getD []) I 0 (l.take k) (Env.killIds Φ e) σ (fun e σ => AOps cx l.toArray (l.drop k) e σ (QN Q))) : AWP cx (.region id l.toArray true) e σ Q := by
  intro a w ⟨F, ρ, hr⟩
  simp only [Region.lexB, Bool.and_eq_true] at hB
  have hch := ChainL.of hC
  have hkl : k ≤ l.length := by simpa using hch.le
  have hK : ∀ k, (E.any fun p => Nat.beq p.1 k) = false → ((E.find? fun p => Nat.beq p.1 k).map Prod.snd).getD [] = [] := fun k hk => by
    have : E.find? (fun p => Nat.beq p.1 k) = none := List.find?_eq_none.2 fun p hp hh => by
      have : (E.any fun p => Nat.beq p.1 k) = true := List.any_eq_true.2 ⟨p, hp, hh⟩
      rw [hk] at this
      simp at this
    rw [this]; rfl
  have h1 := anyL_lex hK (l.take k) 0 (Array.replicate (l.take k).toArray.size false) _ σ (by simp) (by simpa using hB.2) (by simpa using hS) h
  have h2 := wpAny_of_L (cx := cx) (ops := (l.take k).toArray) (Q := fun ex e σ => match ex with | .normal => AOps cx l.toArray (l.drop k) e σ (QN Q) | _ => False) (fun ex e σ hne hq => by cases ex <;> first | exact absurd rfl hne | exact hq.elim) (by simpa using LRun.dsts _ 0 _ σ h) _ _ _ σ a { w with drawn := w.drawn + 1 } (R.killIds Φ ⟨F, ρ, hr.drew⟩) (killIds_clean Φ e) h1
  have h3 : wpAny cx.P .any l.toArray (lift cx (QN Q)) l.toArray.size (Array.replicate l.toArray.size false) a { w with drawn := w.drawn + 1 } := by
    refine wpAny_splitL hch (LateOk.of hL) (ops0 := (l.take k).toArray) (by simp; omega) (fun j hj => ?_) ?_ ?_ ?_ (l.take k).length _ _ _ _ _ (by simp; omega) (by simp) ?_ ?_ ?_ (by simp; omega) h2
    · rw [List.getElem?_toArray, List.getElem?_toArray, List.getElem?_take, if_pos hj]
    · rintro a w ⟨e, σ, h3, h4⟩
      have := h3 a w h4
      simpa using this
    · rintro ex a w hne ⟨e, σ, h3, _⟩
      cases ex <;> first | exact absurd rfl hne | exact h3.elim
    · rintro ex a w hne ⟨e, σ, h3, _⟩
      cases ex <;> first | exact absurd rfl hne | exact h3.elim
    · intro j hj d
      have h5 : j < l.length := by omega
      have h6 : j < min k l.length := by omega
      simp [Array.getD_eq_getD_getElem?, h5, h6]
    · intro j hj hj2
      have : j < l.length := by simpa using hj2
      simp [Array.getD_eq_getD_getElem?, this]
    · intro i o ho hi
      have : i < l.length := by simpa using (Array.getElem?_eq_some_iff.1 ho).1
      simp [Array.getD_eq_getD_getElem?, this] at hi
  refine wp_mono (wp_region_any hm h3) ?_
  rintro ex a w ⟨e, σ, h4, h5⟩
  cases ex with
  | normal => exact ⟨e, σ, h4, h5⟩
  | exit id => exact h4.elim
  | goto l => exact h4.elim
  | ret => exact h4.elim
  | panic c => exact h4.elim
  | outgrown => exact h4.elim
end Go.Proofs.YthcdjmkkgbcaaaaGreatDoor

namespace Go.Proofs.YthcdjmkkgbcaaaaGreatDoor
open Go.RowKit
set_option linter.unusedVariables false
section
variable {cx : Cx} {ops : Array Oper} {o : Oper} {rest : List Oper} {e : Env} {σ : Obs} {Q : Post}
theorem AOps.callXTG {g : Nat} {T : World → Prop} {f : FuncId} {xs : List Operand} {ts : Array TypeId} {ss : List S} {σc σ' : Obs} {chg : Nat → Bool} {d : D} (hg : GW ops o e true) (hd : DstOk cx.N o)
    (ho : o.op = .call { callee := .value (.func f), args := xs.toArray, argTypes := ts }) (hT : TC g T cx) (ha : ArgsS e xs ss) (h : XCallT cx.P g T f ss σc σ' chg d) (hin : AllIn σ σc)
    (h1 : Obs.allIds (fun i => !(chg i)) (Obs.dels σc σ) = true) (h2 : Obs.allIds (fun i => Obs.allIds (fun j => !(Nat.beq i j)) (Obs.dels σc σ)) σ' = true) (h3 : ∀ i, chg i = true → cx.fixp i = false)
    (k : AOps cx ops rest ((e.killP chg).put o.dst (.d d)) (Obs.join σ' (Obs.killP chg (Obs.dels σc σ))) Q) : AOps cx ops (o :: rest) e σ Q := by
  intro a w ⟨F, ρ, hr⟩
  have hw := hg.wanted (fun t _ => hr.env t)
  have h4 := h.2 F ρ cx.B w _ (hT.now hr.below) (fun ⟨p, hp, hb⟩ => hT.fr (hr.kown p (hin.mem p hp) g hb)) hr.lt hr.hB (hr.obs.sub hin.mem) (ArgsS.rep hr.env ha)
  have h5 := h.1 (xs.map a.eval).toArray w
  have hx : (execOp a.eval o).run cx.P w = .ok (.enter f (xs.map a.eval).toArray) w := by
    unfold execOp
    simp only [ho, resolve, Deferred.ofValue, Act.eval, invoke, Sem.run_bind, Sem.run_pure, Result.andThen_ok]
    simpa using h5
  unfold wpList
  rw [if_pos hw]
  refine .inl ?_
  unfold Oper.wp
  rw [hx]
  refine h4.mono fun _ w' ⟨v, F', ρ', he, hv, hE⟩ => ?_
  subst he
  exact k _ _ ⟨F', ρ', (hr.after hin.mem hE h1 h2 h3).put (Ext.refl hE.lt) (.d hv) hd⟩
end
end Go.Proofs.YthcdjmkkgbcaaaaGreatDoor

namespace Go.Proofs.YthcdjmkkgbcaaaaGreatDoor
open Go.RowKit
set_option linter.unusedVariables false

/-! Types. -/
namespace TyTF
theorem fo_45_0 : fieldOff Tryz.prog 45 0 = some 0 := by kernel_rfl
theorem fo_45_1 : fieldOff Tryz.prog 45 1 = some 2 := by kernel_rfl
theorem sc_4 : Scal Tryz.prog 4 := .of (by kernel_rfl)
theorem sz_22 : ∀ w, (sizeOf 22).run Tryz.prog w = .ok 1 w := SizeT.of (by kernel_rfl)
theorem sz_23 : ∀ w, (sizeOf 23).run Tryz.prog w = .ok 1 w := SizeT.of (by kernel_rfl)
theorem sz_39 : ∀ w, (sizeOf 39).run Tryz.prog w = .ok 1 w := SizeT.of (by kernel_rfl)
theorem sz_4 : ∀ w, (sizeOf 4).run Tryz.prog w = .ok 1 w := SizeT.of (by kernel_rfl)
end TyTF
open TyH3 TyH4 TyH5 TyJ3 TyJ4 TyJ5 TyKA TyKB TyKC TyKD TyKE TyKF TyKG TyTA TyTB TyTD TyTE TyTG TyTF

theorem maxT_at : StaysAt (Tryz.l145_ren.g 1) MaxT := by
  refine ⟨fun w ⟨m, hm⟩ => ?_, fun w w' k ⟨m, hm⟩ => ⟨m, ?_⟩⟩
  · exact World.block_lt_of_cell? _ _ hm
  · rw [World.cell?_of_block k]; exact hm

abbrev gMax : Nat := Tryz.l145_ren.g 1
theorem c_cutP2 (s : ByteArray) : ACall Tryz.prog 51 [.v (.string s), .v (.string ⟨#[32, 32]⟩)] (.tup [.v (.string (strL (Lib.trimPrefix s.data.toList [32, 32]))), .v (.bool (Lib.hasPrefix s.data.toList [32, 32]))]) := c_cutP s ⟨#[32, 32]⟩
theorem c_splitL (l : List UInt8) (hs : l.length < 4294967281) : ACallT Tryz.prog MaxT 53 [.v (.string (strL l)), .v (.string ⟨#[32]⟩)] (.sl ((spl 32 l).map pcD)) := c_split (strL l) 32 (by rw [strL_size]; exact hs)

set_option linter.unusedSimpArgs false
theorem c_cutMv (s : ByteArray) : ACall Tryz.prog 51 [.v (.string s), .v (.string ⟨#[109, 111, 118, 101, 100, 32]⟩)] (.tup [.v (.string (strL (Lib.trimPrefix s.data.toList mvP))), .v (.bool (Lib.hasPrefix s.data.toList mvP))]) := c_cutP s ⟨#[109, 111, 118, 101, 100, 32]⟩
def tkC (o : Bool) : Nat × Ob := (600, .cells [.own 500, .own 501, .d (.v (.bool o))])
def tkObs (r : Tk) : Obs := [tkC r.opn, (500, .row 61 7 (r.things.map Thg.ds)), (501, .row 54 2 (r.moved.map Mvd.ds))]
/-- What a line makes of what has been read. -/
def takeN (r : Tk) (l : List UInt8) : Tk := (takeV r l).getD (badT r l)
section
variable {r : Tk} {l : List UInt8}
theorem tk_p {ps : List Int} (h : Lib.hasPrefix l [32, 32] = true) (h1 : r.opn = true) (h2 : numsS (spl 32 (Lib.trimPrefix l [32, 32])) = some ps) : takeV r l = some ⟨setP r.things ps, r.moved, false⟩ := by unfold takeV; rw [if_pos h, h2]; exact if_pos h1
theorem tk_pn (h : Lib.hasPrefix l [32, 32] = true) (h1 : r.opn = false ∨ numsS (spl 32 (Lib.trimPrefix l [32, 32])) = none) : takeV r l = none ∧ badT r l = r := by
  constructor
  · unfold takeV
    rw [if_pos h]
    split
    · rename_i ps hps
      rcases h1 with h1 | h1
      · exact if_neg (by rw [h1]; decide)
      · rw [hps] at h1; cases h1
    · rfl
  · unfold badT; rw [h]; rfl
theorem tk_bad (h : ¬ Lib.hasPrefix l [32, 32] = true) : badT r l = ⟨r.things, r.moved, false⟩ := by
  unfold badT
  have : Lib.hasPrefix l [32, 32] = false := by simpa using h
  rw [this]; rfl
theorem tk_m {a b : Int} (h : ¬ Lib.hasPrefix l [32, 32] = true) (h1 : Lib.hasPrefix l mvP = true) (h2 : numsS (spl 32 (Lib.trimPrefix l mvP)) = some [a, b]) : takeV r l = some ⟨r.things, r.moved ++ [⟨a, b⟩], false⟩ := by unfold takeV; rw [if_neg h, if_pos h1, h2]
theorem tk_mn (h : ¬ Lib.hasPrefix l [32, 32] = true) (h1 : Lib.hasPrefix l mvP = true) (h2 : ∀ a b, numsS (spl 32 (Lib.trimPrefix l mvP)) ≠ some [a, b]) : takeV r l = none := by
  unfold takeV
  rw [if_neg h, if_pos h1]
  split
  · rename_i a b hh; exact absurd hh (h2 a b)
  · rfl
theorem tk_t {t : Thg} (h : ¬ Lib.hasPrefix l [32, 32] = true) (h1 : ¬ Lib.hasPrefix l mvP = true) (h2 : thgV l = some t) (h3 : r.moved = []) : takeV r l = some ⟨r.things ++ [t], r.moved, true⟩ := by unfold takeV; rw [if_neg h, if_neg h1, h2]; exact if_pos h3
theorem tk_tn (h : ¬ Lib.hasPrefix l [32, 32] = true) (h1 : ¬ Lib.hasPrefix l mvP = true) (h2 : thgV l = none ∨ ¬ r.moved = []) : takeV r l = none := by
  unfold takeV
  rw [if_neg h, if_neg h1]
  split
  · rename_i t ht
    rcases h2 with h2 | h2
    · rw [ht] at h2; cases h2
    · exact if_neg h2
  · rfl
theorem tn_s {r' : Tk} (h : takeV r l = some r') : takeN r l = r' := by unfold takeN; rw [h]; rfl
theorem tn_n (h : takeV r l = none) : takeN r l = badT r l := by unfold takeN; rw [h]; rfl
end
theorem set_p {l : List Thg} {ps : List Int} {ds : List D} (hd : (l.map Thg.ds)[l.length - 1]? = some ds) (hl : 0 < l.length) : (l.map Thg.ds).set (l.length - 1) (ds.take 6 ++ (D.sl (ps.map intD)).parts ++ ds.drop (6 + 1)) = (setP l ps).map Thg.ds := by
  unfold setP
  rw [List.map_set]
  congr 1
  rw [List.getElem?_map, List.getElem?_eq_getElem (by omega)] at hd
  have hd := (Option.some.inj hd).symm
  rw [List.getD_eq_getElem?_getD, List.getElem?_eq_getElem (by omega)]
  rw [hd]; rfl
theorem thg_last {l : List Thg} (hl : 0 < l.length) : (l.map Thg.ds)[l.length - 1]? = some (l[l.length - 1]'(by omega)).ds := at_lst (by omega)
theorem two_of {ps : List Int} (h : ps.length = 2) : ∃ a b, ps = [a, b] := by
  match ps, h with
  | [a, b], _ => exact ⟨a, b, rfl⟩
theorem clean1 {a ia : Nat} : ∀ p ∈ [(a, S.own ia)], ∀ f ∈ [(⟨ia, [a]⟩ : Fc)], f.slots.contains p.1 = true ∨ p.2.kill f.id = p.2 := fun p hp f hf => by
  obtain rfl := List.mem_singleton.1 hp
  obtain rfl := List.mem_singleton.1 hf
  exact .inl (by simp)

theorem in3 {σ : Obs} {a b c : Nat × Ob} (h1 : a ∈ σ) (h2 : b ∈ σ) (h3 : c ∈ σ) : ∀ p ∈ [a, b, c], p ∈ σ := fun p hp => by
  simp only [List.mem_cons, List.not_mem_nil, or_false] at hp
  rcases hp with rfl | rfl | rfl <;> assumption

set_option maxRecDepth 100000 in
set_option maxHeartbeats 8000000 in
theorem c_take (things : List Thg) (moved : List Mvd) (opn : Bool) (line : ByteArray) (hl : line.size ≤ 200000) (ht : things.length ≤ 300000) (hm : moved.length ≤ 300000) (ho : opn = true → things ≠ []) : XCallT Tryz.prog gMax MaxT 19 [.ptr 600 0, .d (.v (.string line))] [tkC opn, (500, .row 61 7 (things.map Thg.ds)), (501, .row 54 2 (moved.map Mvd.ds))] (tkObs (takeN (⟨things, moved, opn⟩ : Tk) line.data.toList)) (fun i => Nat.beq i 500 || Nat.beq i 501 || Nat.beq i 510 || Nat.beq i 511 || Nat.beq i 101) (.v (.bool (takeV (⟨things, moved, opn⟩ : Tk) line.data.toList).isSome)) := by
 refine xcallT_of (n := 125) (ds' := [.v (.bool (takeV (⟨things, moved, opn⟩ : Tk) line.data.toList).isSome)]) Tryz.func19 rfl (by kernel_rfl) rfl [4] rfl rfl maxT_at ?_
 intro B w0 F0 fr ρ0 hT
 have hsl := Lib.size_eq line
 have hl1 := trimP_le line.data.toList [32, 32]
 have hl2 := trimP_le line.data.toList mvP
 refine .sr ?_
 refine .aA (.nil ?_)
 refine .seq ?_
 refine .sr ?_
 refine .mA ?_
 refine .sA (.call rfl (.cons (.rfl' rfl) (.cons (.rfl' rfl) .nil)) (c_cutP2 line)) ?_
 refine .mA ?_
 refine .sA (.extract rfl rfl rfl) ?_
 refine .sA (.extract rfl rfl rfl) ?_
 refine .aA ?_
 refine .aA (.nil ?_)
 refine .sr ?_
 refine .mA (.nil ?_)
 refine .cond rfl (fun h1 => ?_) (fun h1 => ?_)
 ·skip
  have p2 := h1
  refine .sr ?_
  refine .mA ?_
  -- wants the world
  refine .callTC rfl rfl rfl hT (.cons (.rfl' rfl) (.cons (.rfl' rfl) .nil)) (c_splitL (Lib.trimPrefix line.data.toList [32, 32]) (by omega)) ?_
  refine .sA (.call rfl (.cons (.rfl' rfl) .nil) (c_pNums (spl 32 (Lib.trimPrefix line.data.toList [32, 32])) 200000 (fun x hx => by have := spl_lens 32 _ _ hx; omega) (by decide) (by have := spl_length_le 32 (Lib.trimPrefix line.data.toList [32, 32]); omega))) ?_
  refine .mA ?_
  refine .sA (.extract rfl rfl rfl) ?_
  refine .sA (.extract rfl rfl rfl) ?_
  refine .aA ?_
  refine .aA (.nil ?_)
  refine .seq ?_
  refine .sr ?_
  refine .sA (.moveP rfl rfl) ?_
  refine .sA (.nilCheckP rfl rfl) ?_
  refine .sA (.fieldAddrP rfl fo_45_1 rfl) ?_
  refine .sA (.loadP rfl sc_4 rfl (.head _) rfl) ?_
  refine .sA (.not rfl rfl) ?_
  refine .mA ?_
  refine .split 32 rfl (fun g2 => ?_) (fun g2 => ?_)
  ·replace g2 := bnot_t g2
   have o1 : opn = false := by simpa using g2
   obtain ⟨HS, HB⟩ := tk_pn (r := (⟨things, moved, opn⟩ : Tk)) p2 (.inl o1)
   have HN := tn_n HS
   rw [HS, HN, HB]
   refine .pA ?_
   refine .pA ?_
   refine .sA (.pickT rfl rfl rfl) (.nil ?_)
   refine .cond rfl (fun _ => ?_) (fun h => nomatch h)
   refine .sr ?_
   refine .aA (.nil ?_)
   refine .ret ?_
   refine ⟨⟨RetDX.eq rfl ?_, trivial⟩, ⟨mem_ob_eq (.head _) ?_, mem_ob_eq (.tail _ (.head _)) ?_, mem_ob_eq (.tail _ (.tail _ (.head _))) ?_, trivial⟩⟩
   all_goals (first | rfl | (simp; done))
  replace g2 := bnot_f g2
  have o1 : opn = true := by simpa using g2
  refine .sG (.moveD rfl rfl) ?_
  refine .sG (.not rfl rfl) ?_
  refine .sA (.pickF rfl rfl rfl) (.nil ?_)
  refine .cond rfl (fun h3 => ?_) (fun h3 => ?_)
  ·replace h3 := bnot_t h3
   have hn : numsS (spl 32 (Lib.trimPrefix line.data.toList [32, 32])) = none := by
    cases hh : numsS (spl 32 (Lib.trimPrefix line.data.toList [32, 32])) with
    | none => rfl
    | some v => rw [hh] at h3; cases h3
   obtain ⟨HS, HB⟩ := tk_pn (r := (⟨things, moved, opn⟩ : Tk)) p2 (.inr hn)
   have HN := tn_n HS
   rw [HS, HN, HB]
   refine .sr ?_
   refine .aA (.nil ?_)
   refine .ret ?_
   refine ⟨⟨RetDX.eq rfl ?_, trivial⟩, ⟨mem_ob_eq (.head _) ?_, mem_ob_eq (.tail _ (.head _)) ?_, mem_ob_eq (.tail _ (.tail _ (.head _))) ?_, trivial⟩⟩
   all_goals (first | rfl | (simp; done))
  replace h3 := bnot_f h3
  obtain ⟨ps, hps⟩ : ∃ ps, numsS (spl 32 (Lib.trimPrefix line.data.toList [32, 32])) = some ps := Option.isSome_iff_exists.1 (by simpa using h3)
  have hlp : 0 < things.length := List.length_pos_iff.2 (ho o1)
  have HS := tk_p (r := (⟨things, moved, opn⟩ : Tk)) p2 o1 hps
  have HN := tn_s HS
  subst o1
  rw [HS, HN, hps]
  refine .skip ?_
  refine .seq ?_
  refine .drawLTailL 16 [12] [] [] (fun τ => (600, .cells [.own 500, .own 501, .d (.v (.bool true))]) ∈ τ ∧ (500, .row 61 7 (things.map Thg.ds)) ∈ τ) (by kernel_rfl) (by kernel_rfl) (by kernel_rfl) (by kernel_rfl) (by kernel_rfl) ?_
  refine .step rfl rfl rfl ⟨.head _, .tail _ (.head _)⟩ (fun τ hτ => AOp.moveP rfl rfl) ?_ rfl trivial
  refine .step rfl rfl rfl ⟨.head _, .tail _ (.head _)⟩ (fun τ hτ => AOp.nilCheckP rfl rfl) ?_ rfl trivial
  refine .step rfl rfl rfl ⟨.head _, .tail _ (.head _)⟩ (fun τ hτ => AOp.fieldAddrP rfl fo_45_0 rfl) ?_ rfl trivial
  refine .step rfl rfl rfl ⟨.head _, .tail _ (.head _)⟩ (fun τ hτ => AOp.fieldAddrP rfl fo_25_0 rfl) ?_ rfl trivial
  refine .step rfl rfl rfl ⟨.head _, .tail _ (.head _)⟩ (fun τ hτ => AOp.loadP rfl sc_22 rfl hτ.1 rfl) ?_ rfl trivial
  refine .step rfl rfl rfl ⟨.head _, .tail _ (.head _)⟩ (fun τ hτ => AOp.moveP rfl rfl) ?_ rfl trivial
  refine .step rfl rfl rfl ⟨.head _, .tail _ (.head _)⟩ (fun τ hτ => AOp.nilCheckP rfl rfl) ?_ rfl trivial
  refine .step rfl rfl rfl ⟨.head _, .tail _ (.head _)⟩ (fun τ hτ => AOp.fieldAddrP rfl fo_45_0 rfl) ?_ rfl trivial
  refine .step rfl rfl rfl ⟨.head _, .tail _ (.head _)⟩ (fun τ hτ => AOp.fieldAddrP rfl fo_25_0 rfl) ?_ rfl trivial
  refine .step rfl rfl rfl ⟨.head _, .tail _ (.head _)⟩ (fun τ hτ => AOp.loadP rfl sc_22 rfl hτ.1 rfl) ?_ rfl trivial
  refine .step rfl rfl rfl ⟨.head _, .tail _ (.head _)⟩ (fun τ hτ => AOp.lenOwn rfl et_22.ht rfl hτ.2) ?_ rfl trivial
  refine .step rfl rfl rfl ⟨.head _, .tail _ (.head _)⟩ (fun τ hτ => AOp.sub64 rfl rfl rfl (by rw [List.length_map]; omega) (by rw [List.length_map]; omega)) ?_ rfl trivial
  refine .step rfl rfl rfl ⟨.head _, .tail _ (.head _)⟩ (fun τ hτ => AOp.moveP rfl rfl) ?_ rfl trivial
  refine .step rfl rfl rfl ⟨.head _, .tail _ (.head _)⟩ (fun τ hτ => AOp.moveD rfl rfl) ?_ rfl trivial
  refine .step rfl rfl rfl ⟨.head _, .tail _ (.head _)⟩ (fun τ hτ => AOp.indexOwn rfl et_22 rfl rfl hτ.2 (things.length - 1) (by rw [List.length_map]; omega) (by rw [List.length_map]; omega)) ?_ rfl trivial
  refine .step rfl rfl rfl ⟨.head _, .tail _ (.head _)⟩ (fun τ hτ => AOp.fieldAddrP rfl fo_61_6 rfl) ?_ rfl trivial
  refine .nil ?_
  refine .storeRow rfl rfl rfl sz_39 rfl (.tail _ (.head _)) rfl rfl rfl (things.length - 1) 6 rfl (thg_last hlp) (Nat.le_of_ble_eq_true rfl) ?_
  refine .sA (.nilCheckP rfl rfl) ?_
  refine .sA (.fieldAddrP rfl fo_45_1 rfl) ?_
  refine .store rfl rfl rfl sz_4 rfl (.head _) rfl rfl rfl (Nat.le_of_ble_eq_true rfl) (.nil ?_)
  refine .seq ?_
  refine .obsEq [(600, .cells [.own 500, .own 501, .d (.v (.bool false))]), (500, .row 61 7 ((setP things ps).map Thg.ds)), (501, .row 54 2 (moved.map Mvd.ds))] (by rw [← set_p (thg_last hlp) hlp]; rfl) ?_
  refine .region ?_
  refine .aA (.nil ?_)
  refine .ret ?_
  refine ⟨⟨RetDX.eq rfl ?_, trivial⟩, ⟨mem_ob_eq (.head _) ?_, mem_ob_eq (.tail _ (.head _)) ?_, mem_ob_eq (.tail _ (.tail _ (.head _))) ?_, trivial⟩⟩
  all_goals (first | rfl | (simp; done))
 have p2 : ¬ Lib.hasPrefix line.data.toList [32, 32] = true := by rw [h1]; decide
 refine .skip ?_
 refine .sr ?_
 refine .sA (.moveP rfl rfl) ?_
 refine .sA (.nilCheckP rfl rfl) ?_
 refine .sA (.fieldAddrP rfl fo_45_1 rfl) ?_
 refine .store rfl rfl rfl sz_4 rfl (.head _) rfl rfl rfl (Nat.le_of_ble_eq_true rfl) (.nil ?_)
 refine .seq ?_
 refine .sr ?_
 refine .mA ?_
 refine .sA (.call rfl (.cons (.rfl' rfl) (.cons (.rfl' rfl) .nil)) (c_cutMv line)) ?_
 refine .mA ?_
 refine .sA (.extract rfl rfl rfl) ?_
 refine .sA (.extract rfl rfl rfl) ?_
 refine .aA ?_
 refine .aA (.nil ?_)
 refine .sr ?_
 refine .mA (.nil ?_)
 refine .cond rfl (fun h4 => ?_) (fun h4 => ?_)
 ·skip
  have p3 := h4
  refine .sr ?_
  refine .mA ?_
  -- wants the world
  refine .callTC rfl rfl rfl hT (.cons (.rfl' rfl) (.cons (.rfl' rfl) .nil)) (c_splitL (Lib.trimPrefix line.data.toList mvP) (by omega)) ?_
  refine .sA (.call rfl (.cons (.rfl' rfl) .nil) (c_pNums (spl 32 (Lib.trimPrefix line.data.toList mvP)) 200000 (fun x hx => by have := spl_lens 32 _ _ hx; omega) (by decide) (by have := spl_length_le 32 (Lib.trimPrefix line.data.toList mvP); omega))) ?_
  refine .mA ?_
  refine .sA (.extract rfl rfl rfl) ?_
  refine .sA (.extract rfl rfl rfl) ?_
  refine .aA ?_
  refine .aA (.nil ?_)
  refine .seq ?_
  refine .sr ?_
  refine .mA ?_
  refine .sA (.not rfl rfl) ?_
  refine .mA ?_
  refine .split 71 rfl (fun g5 => ?_) (fun g5 => ?_)
  ·replace g5 := bnot_t g5
   have hn : numsS (spl 32 (Lib.trimPrefix line.data.toList mvP)) = none := by
    cases hh : numsS (spl 32 (Lib.trimPrefix line.data.toList mvP)) with
    | none => rfl
    | some v => rw [hh] at g5; cases g5
   have HS := tk_mn (r := (⟨things, moved, opn⟩ : Tk)) p2 p3 (fun a b hh => by rw [hn] at hh; cases hh)
   have HN := tn_n HS
   rw [HS, HN, tk_bad p2]
   refine .pA ?_
   refine .pA ?_
   refine .pA ?_
   refine .sA (.pickT rfl rfl rfl) (.nil ?_)
   refine .cond rfl (fun _ => ?_) (fun h => nomatch h)
   refine .sr ?_
   refine .aA (.nil ?_)
   refine .ret ?_
   refine ⟨⟨RetDX.eq rfl ?_, trivial⟩, ⟨mem_ob_eq (.head _) ?_, mem_ob_eq (.tail _ (.head _)) ?_, mem_ob_eq (.tail _ (.tail _ (.head _))) ?_, trivial⟩⟩
   all_goals (first | rfl | (simp; done))
  replace g5 := bnot_f g5
  obtain ⟨ps, hps⟩ : ∃ ps, numsS (spl 32 (Lib.trimPrefix line.data.toList mvP)) = some ps := Option.isSome_iff_exists.1 (by simpa using g5)
  rw [hps]
  refine .sG (.moveD rfl rfl) ?_
  refine .sG (.lenSl rfl et_39.ht rfl) ?_
  refine .sG (.neq rfl rfl rfl) ?_
  refine .sA (.pickF rfl rfl rfl) (.nil ?_)
  refine .cond rfl (fun h6 => ?_) (fun h6 => ?_)
  ·replace h6 := of_decide_eq_true h6
   rw [List.length_map] at h6
   have HS := tk_mn (r := (⟨things, moved, opn⟩ : Tk)) p2 p3 (fun a b hh => by rw [hps] at hh; cases hh; exact h6 rfl)
   have HN := tn_n HS
   rw [HS, HN, tk_bad p2]
   refine .sr ?_
   refine .aA (.nil ?_)
   refine .ret ?_
   refine ⟨⟨RetDX.eq rfl ?_, trivial⟩, ⟨mem_ob_eq (.head _) ?_, mem_ob_eq (.tail _ (.head _)) ?_, mem_ob_eq (.tail _ (.tail _ (.head _))) ?_, trivial⟩⟩
   all_goals (first | rfl | (simp; done))
  replace h6 := of_decide_eq_false h6
  rw [List.length_map] at h6
  obtain ⟨u, v, rfl⟩ := two_of (ps := ps) (by have hz := h6; simp at hz; omega)
  have HS := tk_m (r := (⟨things, moved, opn⟩ : Tk)) p2 p3 hps
  have HN := tn_s HS
  rw [HS, HN]
  refine .skip ?_
  refine .seq ?_
  refine .drawLTailL 15 [] [⟨511, [90]⟩] [(14, [90])] (fun τ => (600, .cells [.own 500, .own 501, .d (.v (.bool false))]) ∈ τ) (by kernel_rfl) (by kernel_rfl) (by kernel_rfl) (by kernel_rfl) (by kernel_rfl) ?_
  refine .step rfl rfl rfl (.head _) (fun τ hτ => AOp.moveP rfl rfl) ?_ rfl ⟨.inr rfl, trivial⟩
  refine .step rfl rfl rfl (.head _) (fun τ hτ => AOp.moveP rfl rfl) ?_ rfl ⟨.inr rfl, trivial⟩
  refine .step rfl rfl rfl (.head _) (fun τ hτ => AOp.nilCheckP rfl rfl) ?_ rfl ⟨.inr rfl, trivial⟩
  refine .step rfl rfl rfl (.head _) (fun τ hτ => AOp.fieldAddrP rfl fo_45_0 rfl) ?_ rfl ⟨.inr rfl, trivial⟩
  refine .step rfl rfl rfl (.head _) (fun τ hτ => AOp.fieldAddrP rfl fo_25_1 rfl) ?_ rfl ⟨.inr rfl, trivial⟩
  refine .step rfl rfl rfl (.head _) (fun τ hτ => AOp.loadP rfl sc_23 rfl hτ rfl) ?_ rfl ⟨.inr rfl, trivial⟩
  refine .step rfl rfl rfl (.head _) (fun τ hτ => AOp.moveD rfl rfl) ?_ rfl ⟨.inr rfl, trivial⟩
  refine .step rfl rfl rfl (.head _) (fun τ hτ => AOp.indexAddr rfl et_39 rfl rfl 0 rfl rfl rfl) ?_ rfl ⟨.inr rfl, trivial⟩
  refine .step rfl rfl rfl (.head _) (fun τ hτ => AOp.load rfl sc_3 rfl) ?_ rfl ⟨.inr rfl, trivial⟩
  refine .step rfl rfl rfl (.head _) (fun τ hτ => AOp.moveD rfl rfl) ?_ rfl ⟨.inr rfl, trivial⟩
  refine .step rfl rfl rfl (.head _) (fun τ hτ => AOp.indexAddr rfl et_39 rfl rfl 1 rfl rfl rfl) ?_ rfl ⟨.inr rfl, trivial⟩
  refine .step rfl rfl rfl (.head _) (fun τ hτ => AOp.load rfl sc_3 rfl) ?_ rfl ⟨.inr rfl, trivial⟩
  refine .step rfl rfl rfl (.head _) (fun τ hτ => AOp.build rfl bu_54 (.cons rfl rfl (.cons rfl rfl .nil)) rfl) ?_ rfl ⟨.inr rfl, trivial⟩
  refine .step rfl rfl rfl (.head _) (fun τ hτ => AOp.buildSlice rfl et_23 (.cons rfl rfl rfl .nil) rfl (by decide)) ?_ rfl ⟨.inr rfl, trivial⟩
  refine .eff rfl rfl (.head _) (.tail _ (.head _)) (GE.appendN 511 (.head _) (fun t h1 => by simp [h1]) rfl rfl rfl rfl et_23 rfl (.tail _ (.tail _ (.head _))) rfl (fun y hy => by obtain rfl := List.mem_singleton.1 hy; rfl) (by simp; omega) (by simp; omega) rfl rfl) ?_ clean1
  refine .nil ?_
  refine .sA (.nilCheckP rfl rfl) ?_
  refine .sA (.fieldAddrP rfl fo_45_0 rfl) ?_
  refine .sA (.fieldAddrP rfl fo_25_1 rfl) ?_
  refine .eff rfl rfl (.storeC rfl rfl sz_23 rfl (.tail _ (.head _)) rfl (.inl (OneS.own (.head _))) (Nat.le_of_ble_eq_true rfl)) (.nil ?_)
  refine .seq ?_
  refine .obsEq [(511, .row 54 2 (moved.map Mvd.ds ++ [(⟨u, v⟩ : Mvd).ds])), (600, .cells [.own 500, .own 511, .d (.v (.bool false))]), (500, .row 61 7 (things.map Thg.ds))] rfl ?_
  refine .rename 511 501 [(501, .row 54 2 (moved.map Mvd.ds ++ [(⟨u, v⟩ : Mvd).ds])), (600, .cells [.own 500, .own 501, .d (.v (.bool false))]), (500, .row 61 7 (things.map Thg.ds))] (by decide) rfl (fun p hp => by
    simp only [List.mem_cons, List.not_mem_nil, or_false] at hp
    rcases hp with rfl | rfl | rfl
    ·exact .inl ⟨_, (.head _), rfl, rfl⟩
    ·exact .inr ⟨_, (.tail _ (.head _)), Nat.ne_of_beq_eq_false rfl, Nat.ne_of_beq_eq_false rfl, rfl⟩
    ·exact .inr ⟨_, (.tail _ (.tail _ (.head _))), Nat.ne_of_beq_eq_false rfl, Nat.ne_of_beq_eq_false rfl, rfl⟩
    ) ?_
  refine .obs (σ' := [(600, .cells [.own 500, .own 501, .d (.v (.bool false))]), (500, .row 61 7 (things.map Thg.ds)), (501, .row 54 2 ((moved ++ [(⟨u, v⟩ : Mvd)]).map Mvd.ds))]) (by rw [List.map_append]; exact in3 (.tail _ (.head _)) (.tail _ (.tail _ (.head _))) (.head _)) ?_
  refine .region ?_
  refine .aA (.nil ?_)
  refine .ret ?_
  refine ⟨⟨RetDX.eq rfl ?_, trivial⟩, ⟨mem_ob_eq (.head _) ?_, mem_ob_eq (.tail _ (.head _)) ?_, mem_ob_eq (.tail _ (.tail _ (.head _))) ?_, trivial⟩⟩
  all_goals (first | rfl | (simp; done))
 have p3 : ¬ Lib.hasPrefix line.data.toList mvP = true := by rw [h4]; decide
 refine .skip ?_
 refine .sr ?_
 refine .mA ?_
 -- wants the world
 refine .callTC rfl rfl rfl hT (.cons (.rfl' rfl) .nil) (c_pThing line hl) ?_
 refine .mA ?_
 refine .sA (.extract rfl rfl rfl) ?_
 refine .sA (.extract rfl rfl rfl) ?_
 refine .alloc 101 rfl rfl rfl rfl zt_61 rfl rfl rfl ?_
 refine .store rfl rfl rfl sz_61 rfl (.head _) rfl rfl rfl (Nat.le_of_ble_eq_true rfl) ?_
 refine .freezeCells 13 (ds := ((thgV line.data.toList).getD zT).ds) rfl (.head _) ?_
 refine .aA (.nil ?_)
 refine .seq ?_
 refine .sr ?_
 refine .mA ?_
 refine .sA (.not rfl rfl) ?_
 refine .mA ?_
 refine .split 101 rfl (fun g7 => ?_) (fun g7 => ?_)
 ·replace g7 := bnot_t g7
  have hth : thgV line.data.toList = none := by
   cases hh : thgV line.data.toList with
   | none => rfl
   | some v => rw [hh] at g7; cases g7
  have HS := tk_tn (r := (⟨things, moved, opn⟩ : Tk)) p2 p3 (.inl hth)
  have HN := tn_n HS
  rw [HS, HN, tk_bad p2]
  refine .pA ?_
  refine .pA ?_
  refine .pA ?_
  refine .pA ?_
  refine .pA ?_
  refine .pA ?_
  refine .pA ?_
  refine .sA (.pickT rfl rfl rfl) (.nil ?_)
  refine .cond rfl (fun _ => ?_) (fun h => nomatch h)
  refine .sr ?_
  refine .aA (.nil ?_)
  refine .ret ?_
  refine ⟨⟨RetDX.eq rfl ?_, trivial⟩, ⟨mem_ob_eq (.head _) ?_, mem_ob_eq (.tail _ (.head _)) ?_, mem_ob_eq (.tail _ (.tail _ (.head _))) ?_, trivial⟩⟩
  all_goals (first | rfl | (simp; done))
 replace g7 := bnot_f g7
 obtain ⟨t, hth⟩ : ∃ t, thgV line.data.toList = some t := Option.isSome_iff_exists.1 (by simpa using g7)
 refine .sG (.moveP rfl rfl) ?_
 refine .sG (.nilCheckP rfl rfl) ?_
 refine .sG (.fieldAddrP rfl fo_45_0 rfl) ?_
 refine .sG (.fieldAddrP rfl fo_25_1 rfl) ?_
 refine .sG (.loadP rfl sc_23 rfl (.head _) rfl) ?_
 refine .sG (.lenOwn rfl et_23.ht rfl (.tail _ (.tail _ (.head _)))) ?_
 refine .sG (.gtr rfl rfl rfl) ?_
 refine .sA (.pickF rfl rfl rfl) (.nil ?_)
 refine .cond rfl (fun h8 => ?_) (fun h8 => ?_)
 ·replace h8 := of_decide_eq_true h8
  rw [List.length_map] at h8
  have HS := tk_tn (r := (⟨things, moved, opn⟩ : Tk)) p2 p3 (.inr (fun hh : moved = [] => by rw [hh] at h8; simp at h8))
  have HN := tn_n HS
  rw [HS, HN, tk_bad p2]
  refine .sr ?_
  refine .aA (.nil ?_)
  refine .ret ?_
  refine ⟨⟨RetDX.eq rfl ?_, trivial⟩, ⟨mem_ob_eq (.head _) ?_, mem_ob_eq (.tail _ (.head _)) ?_, mem_ob_eq (.tail _ (.tail _ (.head _))) ?_, trivial⟩⟩
  all_goals (first | rfl | (simp; done))
 replace h8 := of_decide_eq_false h8
 rw [List.length_map] at h8
 have hmn : moved = [] := List.eq_nil_of_length_eq_zero (by omega)
 have HS := tk_t (r := (⟨things, moved, opn⟩ : Tk)) p2 p3 hth hmn
 have HN := tn_s HS
 rw [HS, HN, hth]
 refine .skip ?_
 refine .seq ?_
 refine .drawLTailL 10 [1] [⟨510, [119]⟩] [(9, [119])] (fun τ => (600, .cells [.own 500, .own 501, .d (.v (.bool false))]) ∈ τ) (by kernel_rfl) (by kernel_rfl) (by kernel_rfl) (by kernel_rfl) (by kernel_rfl) ?_
 refine .step rfl rfl rfl (.head _) (fun τ hτ => AOp.moveP rfl rfl) ?_ rfl ⟨.inr rfl, trivial⟩
 refine .step rfl rfl rfl (.head _) (fun τ hτ => AOp.moveP rfl rfl) ?_ rfl ⟨.inr rfl, trivial⟩
 refine .step rfl rfl rfl (.head _) (fun τ hτ => AOp.moveP rfl rfl) ?_ rfl ⟨.inr rfl, trivial⟩
 refine .step rfl rfl rfl (.head _) (fun τ hτ => AOp.nilCheckP rfl rfl) ?_ rfl ⟨.inr rfl, trivial⟩
 refine .step rfl rfl rfl (.head _) (fun τ hτ => AOp.fieldAddrP rfl fo_45_0 rfl) ?_ rfl ⟨.inr rfl, trivial⟩
 refine .step rfl rfl rfl (.head _) (fun τ hτ => AOp.fieldAddrP rfl fo_25_0 rfl) ?_ rfl ⟨.inr rfl, trivial⟩
 refine .step rfl rfl rfl (.head _) (fun τ hτ => AOp.loadP rfl sc_22 rfl hτ rfl) ?_ rfl ⟨.inr rfl, trivial⟩
 refine .step rfl rfl rfl (.head _) (fun τ hτ => AOp.loadAgg rfl ag_61 rfl rfl) ?_ rfl ⟨.inr rfl, trivial⟩
 refine .step rfl rfl rfl (.head _) (fun τ hτ => AOp.buildSlice rfl et_22 (.cons rfl rfl rfl .nil) rfl (by decide)) ?_ rfl ⟨.inr rfl, trivial⟩
 refine .eff rfl rfl (.head _) (.tail _ (.head _)) (GE.appendN 510 (.head _) (fun t h1 => by simp [h1]) rfl rfl rfl rfl et_22 rfl (.tail _ (.head _)) rfl (fun y hy => by obtain rfl := List.mem_singleton.1 hy; rfl) (by simp; omega) (by simp; omega) rfl rfl) ?_ clean1
 refine .nil ?_
 refine .sA (.nilCheckP rfl rfl) ?_
 refine .sA (.fieldAddrP rfl fo_45_0 rfl) ?_
 refine .sA (.fieldAddrP rfl fo_25_0 rfl) ?_
 refine .eff rfl rfl (.storeC rfl rfl sz_22 rfl (.tail _ (.head _)) rfl (.inl (OneS.own (.head _))) (Nat.le_of_ble_eq_true rfl)) ?_
 refine .sA (.nilCheckP rfl rfl) ?_
 refine .sA (.fieldAddrP rfl fo_45_1 rfl) ?_
 refine .store rfl rfl rfl sz_4 rfl (.tail _ (.head _)) rfl rfl rfl (Nat.le_of_ble_eq_true rfl) (.nil ?_)
 refine .seq ?_
 refine .obsEq [(510, .row 61 7 (things.map Thg.ds ++ [t.ds])), (600, .cells [.own 510, .own 501, .d (.v (.bool true))]), (501, .row 54 2 (moved.map Mvd.ds))] rfl ?_
 refine .rename 510 500 [(500, .row 61 7 (things.map Thg.ds ++ [t.ds])), (600, .cells [.own 500, .own 501, .d (.v (.bool true))]), (501, .row 54 2 (moved.map Mvd.ds))] (by decide) rfl (fun p hp => by
   simp only [List.mem_cons, List.not_mem_nil, or_false] at hp
   rcases hp with rfl | rfl | rfl
   ·exact .inl ⟨_, (.head _), rfl, rfl⟩
   ·exact .inr ⟨_, (.tail _ (.head _)), Nat.ne_of_beq_eq_false rfl, Nat.ne_of_beq_eq_false rfl, rfl⟩
   ·exact .inr ⟨_, (.tail _ (.tail _ (.head _))), Nat.ne_of_beq_eq_false rfl, Nat.ne_of_beq_eq_false rfl, rfl⟩
   ) ?_
 refine .obs (σ' := [(600, .cells [.own 500, .own 501, .d (.v (.bool true))]), (500, .row 61 7 ((things ++ [t]).map Thg.ds)), (501, .row 54 2 (moved.map Mvd.ds))]) (by rw [List.map_append]; exact in3 (.tail _ (.head _)) (.head _) (.tail _ (.tail _ (.head _)))) ?_
 refine .region ?_
 refine .aA (.nil ?_)
 refine .ret ?_
 refine ⟨⟨RetDX.eq rfl ?_, trivial⟩, ⟨mem_ob_eq (.head _) ?_, mem_ob_eq (.tail _ (.head _)) ?_, mem_ob_eq (.tail _ (.tail _ (.head _))) ?_, trivial⟩⟩
 all_goals (first | rfl | (simp; done))

end Go.Proofs.YthcdjmkkgbcaaaaGreatDoor

namespace Go.Proofs.YthcdjmkkgbcaaaaGreatDoor
open Go.RowKit
set_option linter.unusedVariables false

/-! Types. -/
namespace TyTH
theorem sz_25 : ∀ w, (sizeOf 25).run Tryz.prog w = .ok 2 w := SizeT.of (by kernel_rfl)
theorem zt_25 : (Tryz.prog.info? 25).bind (·.zero) = some (.agg #[(.slice none 0 0), (.slice none 0 0)]) := by kernel_rfl
end TyTH
open TyH3 TyH4 TyH5 TyJ3 TyJ4 TyJ5 TyKA TyKB TyKC TyKD TyKE TyKF TyKG TyTA TyTB TyTD TyTE TyTG TyTF TyTH

set_option linter.unusedSimpArgs false
section
variable {r : Tk} {l : List UInt8}
end
end Go.Proofs.YthcdjmkkgbcaaaaGreatDoor
