/- Walks and laws over abstract values, merged by tools/merge.py. No statement of the seat. -/
import Derived.Test.YtcfamaddnmnaeaaGreatDoorZA7

namespace Go.Proofs.YtcfamaddnmnaeaaGreatDoor
open Go.RowKit
set_option linter.unusedVariables false

/-! Types. -/
namespace TyDB
theorem et_146 : ElemTy Tryz.prog 146 9 1 16 (.string ⟨#[]⟩) := ⟨by kernel_rfl, by kernel_rfl, by kernel_rfl, by decide⟩
end TyDB
open TyF0 TyF1 TyF2 TyF3 TyF4 TyF5 TyF6 TyF7 TyF8 TyF9 TyF10 TyF11 TyG1 TyG2 TyG5 TyU1 TyU2 TyU3 TyU4 TyM1 TyM2 TyM3 TyDA TyDB

theorem ifcE : Tryz.prog.underlying 90 = some (.interface (Tryz.prog.methodsAt 90)) := by kernel_rfl

section
variable {P : Program} {B : Nat} {ops : Array Oper} {o : Oper} {e : Env} {σ : Obs}
theorem AOp.sub8 {t ty : TypeId} {x y : Operand} {a b : Int} (ho : o.op = .binOp .sub t x y ty) (hx : e.ev x = .d (.v (.int .u8 a))) (hy : e.ev y = .d (.v (.int .u8 b))) (h0 : 0 ≤ a - b) (h1 : a - b < 256) : AOp P B ops o e σ (.d (.v (.int .u8 (a - b)))) := by
  have := AOp.sub (P := P) (B := B) (ops := ops) (σ := σ) ho hx hy
  rwa [show IntKind.u8.wrap (a - b) = a - b by rw [IntKind.wrap_u8']; omega] at this
end
theorem cv8i : convB Tryz.prog 5 3 .i64 = true := by kernel_rfl

set_option linter.unusedSimpArgs false
section
variable {P : Program} {B : Nat} {ops : Array Oper} {o : Oper} {e : Env} {σ : Obs}
theorem AOp.neErr {t ty : TypeId} {x : Operand} {ms : Array (String × TypeId)} (ho : o.op = .binOp .neq t x (.const .nilIface) ty) (hu : P.underlying t = some (.interface ms)) (hx : e.ev x = .d (.v .nilIface)) : AOp P B ops o e σ (.d (.v (.bool false))) :=
  .bin (y := .const .nilIface) (u1 := .nilIface) (u2 := .nilIface) (u := .bool false) ho hx rfl fun w => by
    have h1 : (Op.equal t .nilIface .nilIface).run P w = .ok true w := by
      show (Op.equalIn (9999 + 1) t .nilIface .nilIface).run P w = _
      unfold Op.equalIn
      simp [run_underlying hu]
    simp [eqGuard, binOp, h1]
end
theorem sle_int {a b : Int} (h : a = b) : SLe (.d (.v (.int .i64 a))) (.d (.v (.int .i64 b))) := SLe.of_eq (by rw [h])
theorem c_trimL (l : List UInt8) (h : l.length ≤ 9223372036854775807) : ACall Tryz.prog 118 [.v (.string (strL l)), .v (.string ⟨#[48, 49, 50, 51, 52, 53, 54, 55, 56, 57]⟩)] (.v (.string (strL (Lib.trimS l dig10.data.toList)))) := by
 have := c_trimD (strL l) (by rw [strL_size]; exact h)
 rw [strL_list] at this
 exact this
theorem c_atoiL (l : List UInt8) (n : Int) (h : l.length ≤ 18) (h2 : Lib.atoi l = some n) : ACall Tryz.prog 119 [.v (.string (strL l))] (.tup [.v (.int .i64 n), .v .nilIface]) := c_atoi (strL l) n (by rw [strL_size]; exact h) (by rw [strL_list]; exact h2)

set_option maxRecDepth 100000 in
set_option maxHeartbeats 1000000 in
theorem c_pNums (ws : List (List UInt8)) (n : Nat) (hl : ∀ x ∈ ws, x.length ≤ n) (hn : n ≤ 9223372036854775807) (hw : ws.length ≤ 1000000) : ACall Tryz.prog 70 [.sl (ws.map pcD)] (.tup [.sl (((numsT ws).getD []).map intD), .v (.bool (numsT ws).isSome)]) := by
  refine acall_of (n := 49) (ds' := [.sl (((numsT ws).getD []).map intD), .v (.bool (numsT ws).isSome)]) Tryz.func70 rfl (by kernel_rfl) rfl [2, 3] rfl rfl ?_
  intro B w0 F0 fr
  refine .sr ?_
  refine .aA ?_
  refine .aA (.nil ?_)
  refine .sr ?_
  refine .aA (.nil ?_)
  refine .seq ?_
  refine .sr ?_
  refine .mA ?_
  refine .sA (.lenSl rfl et_146.ht rfl) ?_
  refine .mA (.nil ?_)
  refine .block ?_
  refine .adopt 4 1 3 1 rfl rfl ?_
  refine .loop (G := Nat × List Int) (fun ⟨k, ns⟩ => Env.of [(11, .d (.v (.int .i64 (k : Int)))), (9, .d (.sl (ws.map pcD))), (10, .d (.v (.int .i64 ((ws.map pcD).length : Int)))), (4, .own 1)]) (fun ⟨k, ns⟩ => [(1, .row 3 1 (ns.map intD))]) (fun ⟨k, ns⟩ => k ≤ ws.length ∧ numsT (ws.take k) = some ns) (fun ⟨k, ns⟩ => ws.length - k) (0, []) ⟨Nat.zero_le _, rfl⟩ (Sub.less ⟨(SLe.of_eq rfl), SLe.refl _, SLe.refl _, SLe.refl _, trivial⟩ (row_same rfl)) ?_
  rintro ⟨k, ns⟩ ⟨hkl, hk⟩
  try dsimp only at hkl hk
  refine .sr ?_
  refine .sA (.lss rfl rfl rfl) (.nil ?_)
  refine .seq ?_
  refine .cond rfl (fun h1 => ?_) (fun h1 => ?_)
  · replace h1 := of_decide_eq_true h1
    rw [List.length_map] at h1
    have hlt : k < ws.length := by omega
    have hln := numsT_len hk
    have hq : ns.length ≤ k := by rw [hln, List.length_take]; omega
    refine .skip ?_
    refine .seq ?_
    refine .block ?_
    refine .sr ?_
    refine .sA (.indexAddr rfl et_146 rfl rfl k rfl (at_lst hlt) rfl) ?_
    refine .sA (.load rfl sc_9 rfl) ?_
    refine .aA (.nil ?_)
    refine .seq ?_
    refine .sr ?_
    refine .mA ?_
    refine .sA (.seql rfl rfl rfl) ?_
    refine .mA ?_
    refine .split 17 rfl (fun g2 => ?_) (fun g2 => ?_)
    · replace g2 := of_decide_eq_true g2
      have HN : numT ws[k] = none := if_pos (.inl (strL_nil.1 g2))
      have HR := numsT_none hlt HN
      rw [HR]
      refine .pA ?_
      refine .pA ?_
      refine .pA ?_
      refine .sA (.pickT rfl rfl rfl) ?_
      refine .mA ?_
      refine .pA ?_
      refine .pA ?_
      refine .pA ?_
      refine .sA (.pickT rfl rfl rfl) ?_
      refine .mA ?_
      refine .pA ?_
      refine .pA ?_
      refine .pA ?_
      refine .pA ?_
      refine .pass ⟨31, rfl, .inr ⟨rfl, rfl⟩⟩ rfl rfl ?_
      refine .pass ⟨31, rfl, .inr ⟨rfl, rfl⟩⟩ rfl rfl ?_
      refine .pA ?_
      refine .sA (.pickT rfl rfl rfl) (.nil ?_)
      refine .cond rfl (fun _ => ?_) (fun h => nomatch h)
      refine .sr ?_
      refine .aA ?_
      refine .aA (.nil ?_)
      refine .ret ?_
      refine ⟨RetD.nil rfl, RetD.eq rfl ?_, trivial⟩
      all_goals (rfl)
    replace g2 := of_decide_eq_false g2
    have hne : ws[k] ≠ [] := fun hh => g2 (strL_nil.2 hh)
    refine .sG (.moveD rfl rfl) ?_
    refine .sG (.lenStr rfl st_9 rfl) ?_
    refine .sG (.gtr rfl rfl rfl) ?_
    refine .sA (.pickF rfl rfl rfl) ?_
    refine .mA ?_
    refine .split 22 rfl (fun g3 => ?_) (fun g3 => ?_)
    · replace g3 := of_decide_eq_true g3
      rw [strL_size] at g3
      have HN : numT ws[k] = none := if_pos (.inr (.inl (by omega)))
      have HR := numsT_none hlt HN
      rw [HR]
      refine .pA ?_
      refine .pA ?_
      refine .pA ?_
      refine .sA (.pickT rfl rfl rfl) ?_
      refine .mA ?_
      refine .pA ?_
      refine .pA ?_
      refine .pA ?_
      refine .pA ?_
      refine .pass ⟨31, rfl, .inr ⟨rfl, rfl⟩⟩ rfl rfl ?_
      refine .pass ⟨31, rfl, .inr ⟨rfl, rfl⟩⟩ rfl rfl ?_
      refine .pA ?_
      refine .sA (.pickT rfl rfl rfl) (.nil ?_)
      refine .cond rfl (fun _ => ?_) (fun h => nomatch h)
      refine .sr ?_
      refine .aA ?_
      refine .aA (.nil ?_)
      refine .ret ?_
      refine ⟨RetD.nil rfl, RetD.eq rfl ?_, trivial⟩
      all_goals (rfl)
    replace g3 := of_decide_eq_false g3
    rw [strL_size] at g3
    have h10 : ws[k].length ≤ 10 := by omega
    refine .sG (.moveD rfl rfl) ?_
    refine .sG (.call rfl (.cons (.rfl' rfl) (.cons (.rfl' rfl) .nil)) (c_trimL ws[k] (by have := hl _ (List.getElem_mem hlt); omega))) ?_
    refine .sG (.sneq rfl rfl rfl) ?_
    refine .sA (.pickF rfl rfl rfl) ?_
    refine .mA ?_
    refine .split 27 rfl (fun g4 => ?_) (fun g4 => ?_)
    · replace g4 := of_decide_eq_true g4
      have HN : numT ws[k] = none := by
        have hd : ¬ ws[k].all (dig10.data.toList.contains ·) = true := fun hh => g4 (by rw [(trimS_nil _ _).2 hh]; rfl)
        rw [dec_all _ 0] at hd
        unfold numT
        split
        · rfl
        simpa using hd
      have HR := numsT_none hlt HN
      rw [HR]
      refine .pA ?_
      refine .pA ?_
      refine .pA ?_
      refine .pA ?_
      refine .pass ⟨31, rfl, .inr ⟨rfl, rfl⟩⟩ rfl rfl ?_
      refine .pass ⟨31, rfl, .inr ⟨rfl, rfl⟩⟩ rfl rfl ?_
      refine .pA ?_
      refine .sA (.pickT rfl rfl rfl) (.nil ?_)
      refine .cond rfl (fun _ => ?_) (fun h => nomatch h)
      refine .sr ?_
      refine .aA ?_
      refine .aA (.nil ?_)
      refine .ret ?_
      refine ⟨RetD.nil rfl, RetD.eq rfl ?_, trivial⟩
      all_goals (rfl)
    replace g4 := of_decide_eq_false g4
    have hal : ws[k].all (dig10.data.toList.contains ·) = true := (trimS_nil _ _).1 (by have := Decidable.not_not.1 g4; rw [strCons, strL_list] at this; exact this)
    rw [dec_all _ 0] at hal
    obtain ⟨v, hv⟩ := Option.isSome_iff_exists.1 hal
    obtain ⟨b0, t0, h0⟩ := List.exists_cons_of_ne_nil hne
    refine .sG (.moveD rfl rfl) ?_
    refine .sG (.indexStr rfl st_9 rfl rfl 0 rfl (hd_at (s := strL ws[k]) (by rw [strL_list]; exact h0))) ?_
    refine .sG (.eql rfl rfl rfl) ?_
    refine .sG (.moveD rfl rfl) ?_
    refine .split 31 rfl (fun g5 => ?_) (fun g5 => ?_)
    · replace g5 := of_decide_eq_true g5
      have hb0 : b0 = 48 := by apply UInt8.toNat_inj.1; show b0.toNat = 48; omega
      refine .sG (.moveD rfl rfl) ?_
      refine .sG (.sneq rfl rfl rfl) ?_
      refine .sG (.pickT rfl rfl rfl) ?_
      refine .sA (.pickF rfl rfl rfl) (.nil ?_)
      refine .cond rfl (fun h6 => ?_) (fun h6 => ?_)
      · replace h6 := of_decide_eq_true h6
        have HZ : numT ws[k] = none := by
          first
          | exact HN
          | exact if_pos (.inr (.inr ⟨by rw [h0, hb0]; rfl, fun hh => h6 (one48.2 (by rw [strL_list]; exact hh))⟩))
        have HR := numsT_none hlt HZ
        rw [HR]
        refine .sr ?_
        refine .aA ?_
        refine .aA (.nil ?_)
        refine .ret ?_
        refine ⟨RetD.nil rfl, RetD.eq rfl ?_, trivial⟩
        all_goals (rfl)
      replace h6 := of_decide_eq_false h6
      have HV : numT ws[k] = some v := by
        first
        | exact HN
        | (have h1 := one48.1 (Decidable.not_not.1 h6)
           rw [strL_list] at h1
           unfold numT
           rw [if_neg, hv]
           rintro (hh | hh | hh)
           · exact hne hh
           · omega
           exact hh.2 h1)
      have HX := numsT_next hlt hk HV
      refine .skip ?_
      refine .sr ?_
      refine .mA ?_
      refine .sA (.call rfl (.cons (.rfl' rfl) .nil) (c_atoiL ws[k] (v : Int) (by omega) (atoi_dec hne hv))) ?_
      refine .mA ?_
      refine .sA (.extract rfl rfl rfl) ?_
      refine .sA (.extract rfl rfl rfl) ?_
      refine .aA ?_
      refine .aA (.nil ?_)
      refine .seq ?_
      refine .sr ?_
      refine .mA ?_
      refine .sA (.neErr rfl ifcE rfl) (.nil ?_)
      refine .cond rfl (fun h => nomatch h) (fun _ => ?_)
      refine .skip ?_
      refine .region ?_
      refine .sA (.moveO rfl rfl) ?_
      refine .mA ?_
      refine .sA (.buildSlice rfl et_37 (.cons rfl rfl rfl .nil) rfl (by decide)) ?_
      -- append 46
      refine .append rfl rfl rfl rfl et_37 rfl (.head _) rfl (fun y hy => by obtain rfl := List.mem_singleton.1 hy; rfl) (by simp; omega) (by simp; omega) ?_
      refine .sA (.assignO rfl rfl) (.nil ?_)
      refine .region ?_
      refine .sA (.add64 rfl rfl rfl (by omega) (by omega)) ?_
      refine .mA (.nil ?_)
      refine ⟨(k + 1, ns ++ [(v : Int)]), ⟨by show k + 1 ≤ _; omega, HX⟩, (by dsimp only; omega), Sub.less ⟨(SLe.of_eq rfl), SLe.refl _, SLe.refl _, SLe.refl _, trivial⟩ (row_same (by rw [List.map_append]; rfl))⟩
    replace g5 := of_decide_eq_false g5
    have HN : numT ws[k] = some v := by
      unfold numT
      rw [if_neg, hv]
      rintro (hh | hh | hh)
      · exact hne hh
      · omega
      rw [h0] at hh
      have := Option.some.inj hh.1
      rw [this] at g5
      exact g5 (by decide)
    have HX := numsT_next hlt hk HN
    refine .pA ?_
    refine .pA ?_
    refine .sG (.pickF rfl rfl rfl) ?_
    refine .sA (.pickF rfl rfl rfl) (.nil ?_)
    refine .cond rfl (fun h => nomatch h) (fun _ => ?_)
    refine .skip ?_
    refine .sr ?_
    refine .mA ?_
    refine .sA (.call rfl (.cons (.rfl' rfl) .nil) (c_atoiL ws[k] (v : Int) (by omega) (atoi_dec hne hv))) ?_
    refine .mA ?_
    refine .sA (.extract rfl rfl rfl) ?_
    refine .sA (.extract rfl rfl rfl) ?_
    refine .aA ?_
    refine .aA (.nil ?_)
    refine .seq ?_
    refine .sr ?_
    refine .mA ?_
    refine .sA (.neErr rfl ifcE rfl) (.nil ?_)
    refine .cond rfl (fun h => nomatch h) (fun _ => ?_)
    refine .skip ?_
    refine .region ?_
    refine .sA (.moveO rfl rfl) ?_
    refine .mA ?_
    refine .sA (.buildSlice rfl et_37 (.cons rfl rfl rfl .nil) rfl (by decide)) ?_
    -- append 46
    refine .append rfl rfl rfl rfl et_37 rfl (.head _) rfl (fun y hy => by obtain rfl := List.mem_singleton.1 hy; rfl) (by simp; omega) (by simp; omega) ?_
    refine .sA (.assignO rfl rfl) (.nil ?_)
    refine .region ?_
    refine .sA (.add64 rfl rfl rfl (by omega) (by omega)) ?_
    refine .mA (.nil ?_)
    refine ⟨(k + 1, ns ++ [(v : Int)]), ⟨by show k + 1 ≤ _; omega, HX⟩, (by dsimp only; omega), Sub.less ⟨(SLe.of_eq rfl), SLe.refl _, SLe.refl _, SLe.refl _, trivial⟩ (row_same (by rw [List.map_append]; rfl))⟩
  replace h1 := of_decide_eq_false h1
  rw [List.length_map] at h1
  obtain rfl : k = ws.length := by omega
  have HR : numsT ws = some ns := by have := hk; rwa [List.take_length] at this
  rw [HR]
  refine .exit ?_
  refine .sr ?_
  refine .sA (.moveO rfl rfl) ?_
  refine .sA (.assignO rfl rfl) ?_
  refine .aA (.nil ?_)
  refine .ret ?_
  refine ⟨RetD.own rfl (.head _) ?_, RetD.eq rfl ?_, trivial⟩
  all_goals (rfl)

set_option maxRecDepth 100000 in
set_option maxHeartbeats 1000000 in
theorem c_rNum (s : ByteArray) (hs : s.size ≤ 9223372036854775807) : ACall Tryz.prog 74 [.v (.string s)] (.tup [.v (.int .i64 (((numT s.data.toList).getD 0 : Nat) : Int)), .v (.bool (numT s.data.toList).isSome)]) := by
  refine acall_of (n := 48) (ds' := [.v (.int .i64 (((numT s.data.toList).getD 0 : Nat) : Int)), .v (.bool (numT s.data.toList).isSome)]) Tryz.func74 rfl (by kernel_rfl) rfl [2, 3] rfl rfl ?_
  intro B w0 F0 fr
  have hsl := Lib.size_eq s
  refine .sr ?_
  refine .aA ?_
  refine .aA (.nil ?_)
  refine .seq ?_
  refine .sr ?_
  refine .mA ?_
  refine .sA (.seql rfl rfl rfl) ?_
  refine .mA ?_
  refine .split 8 rfl (fun g1 => ?_) (fun g1 => ?_)
  · replace g1 := of_decide_eq_true g1
    have HN : numT s.data.toList = none := if_pos (.inl (strCons.1 g1))
    refine .pA ?_
    refine .pA ?_
    refine .pA ?_
    refine .sA (.pickT rfl rfl rfl) ?_
    refine .mA ?_
    refine .pA ?_
    refine .pA ?_
    refine .pA ?_
    refine .pA ?_
    refine .pass ⟨17, rfl, .inr ⟨rfl, rfl⟩⟩ rfl rfl ?_
    refine .pass ⟨17, rfl, .inr ⟨rfl, rfl⟩⟩ rfl rfl ?_
    refine .pass ⟨17, rfl, .inr ⟨rfl, rfl⟩⟩ rfl rfl ?_
    refine .pA ?_
    refine .sA (.pickT rfl rfl rfl) (.nil ?_)
    refine .cond rfl (fun _ => ?_) (fun h => nomatch h)
    refine .sr ?_
    refine .aA ?_
    refine .aA (.nil ?_)
    refine .ret ?_
    refine ⟨RetD.eq rfl ?_, RetD.eq rfl ?_, trivial⟩
    all_goals (first | rfl | (rw [HN]; rfl))
  replace g1 := of_decide_eq_false g1
  have hne : s.data.toList ≠ [] := fun hh => g1 (strCons.2 hh)
  refine .sG (.moveD rfl rfl) ?_
  refine .sG (.lenStr rfl st_9 rfl) ?_
  refine .sG (.gtr rfl rfl rfl) ?_
  refine .sA (.pickF rfl rfl rfl) ?_
  refine .mA ?_
  refine .split 13 rfl (fun g2 => ?_) (fun g2 => ?_)
  · replace g2 := of_decide_eq_true g2
    have HN : numT s.data.toList = none := if_pos (.inr (.inl (by omega)))
    refine .pA ?_
    refine .pA ?_
    refine .pA ?_
    refine .pA ?_
    refine .pass ⟨17, rfl, .inr ⟨rfl, rfl⟩⟩ rfl rfl ?_
    refine .pass ⟨17, rfl, .inr ⟨rfl, rfl⟩⟩ rfl rfl ?_
    refine .pass ⟨17, rfl, .inr ⟨rfl, rfl⟩⟩ rfl rfl ?_
    refine .pA ?_
    refine .sA (.pickT rfl rfl rfl) (.nil ?_)
    refine .cond rfl (fun _ => ?_) (fun h => nomatch h)
    refine .sr ?_
    refine .aA ?_
    refine .aA (.nil ?_)
    refine .ret ?_
    refine ⟨RetD.eq rfl ?_, RetD.eq rfl ?_, trivial⟩
    all_goals (first | rfl | (rw [HN]; rfl))
  replace g2 := of_decide_eq_false g2
  have h9 : s.size ≤ 10 := by omega
  obtain ⟨b0, t0, h0⟩ := List.exists_cons_of_ne_nil hne
  refine .sG (.moveD rfl rfl) ?_
  refine .sG (.lenStr rfl st_9 rfl) ?_
  refine .sG (.gtr rfl rfl rfl) ?_
  refine .sG (.moveD rfl rfl) ?_
  refine .split 17 rfl (fun g3 => ?_) (fun g3 => ?_)
  · replace g3 := of_decide_eq_true g3
    have hl1 : 1 < s.size := by omega
    refine .sG (.moveD rfl rfl) ?_
    refine .sG (.indexStr rfl st_9 rfl rfl 0 rfl (hd_at h0)) ?_
    refine .sG (.eql rfl rfl rfl) ?_
    refine .sG (.pickT rfl rfl rfl) ?_
    refine .sA (.pickF rfl rfl rfl) (.nil ?_)
    refine .cond rfl (fun h4 => ?_) (fun h4 => ?_)
    · replace h4 := of_decide_eq_true h4
      have HR : numT s.data.toList = none := by
        have hb0 : b0 = 48 := UInt8.toNat_inj.1 (show b0.toNat = 48 by omega)
        exact if_pos (.inr (.inr ⟨by rw [h0, hb0]; rfl, fun hh => by rw [hh] at hsl; simp at hsl; omega⟩))
      rw [HR]
      refine .sr ?_
      refine .aA ?_
      refine .aA (.nil ?_)
      refine .ret ?_
      refine ⟨RetD.eq rfl ?_, RetD.eq rfl ?_, trivial⟩
      all_goals (first | rfl | (rw [HN]; rfl))
    replace h4 := of_decide_eq_false h4
    have HR : numT s.data.toList = Lib.decFrom 0 s.data.toList := by
      refine if_neg ?_
      rintro (hh | hh | hh)
      · exact hne hh
      · omega
      rw [h0] at hh
      have := Option.some.inj hh.1
      rw [this] at h4
      exact h4 (by decide)
    rw [HR]
    refine .skip ?_
    refine .sr ?_
    refine .aA (.nil ?_)
    refine .seq ?_
    refine .sr ?_
    refine .mA ?_
    refine .sA (.lenStr rfl st_9 rfl) ?_
    refine .mA (.nil ?_)
    refine .block ?_
    refine .loop (G := Nat × Nat) (fun ⟨k, acc⟩ => Env.of [(25, .d (.v (.int .i64 (k : Int)))), (24, .d (.v (.int .i64 (s.size : Int)))), (0, .d (.v (.string s))), (4, .d (.v (.int .i64 (acc : Int))))]) (fun ⟨k, acc⟩ => []) (fun ⟨k, acc⟩ => k ≤ s.size ∧ acc < 10 ^ k ∧ Lib.decFrom 0 s.data.toList = Lib.decFrom acc (s.data.toList.drop k)) (fun ⟨k, acc⟩ => s.size - k) (0, 0) ⟨Nat.zero_le _, by decide, rfl⟩ (Sub.less ⟨(SLe.of_eq rfl), (SLe.of_eq rfl), SLe.refl _, (SLe.of_eq rfl), trivial⟩ (fun _ h => h)) ?_
    rintro ⟨k, acc⟩ hk
    dsimp only at hk
    refine .sr ?_
    refine .sA (.lss rfl rfl rfl) (.nil ?_)
    refine .seq ?_
    refine .cond rfl (fun h5 => ?_) (fun h5 => ?_)
    · replace h5 := of_decide_eq_true h5
      have hlt : k < s.size := by omega
      obtain ⟨b, hb⟩ := byte_at s hlt
      have HS := dec_step hb acc
      refine .skip ?_
      refine .seq ?_
      refine .block ?_
      refine .sr ?_
      refine .mA ?_
      refine .aA (.nil ?_)
      refine .seq ?_
      refine .sr ?_
      refine .mA ?_
      refine .mA ?_
      refine .sA (.indexStr rfl st_9 rfl rfl k rfl hb) ?_
      refine .sA (.lss rfl rfl rfl) ?_
      refine .mA ?_
      refine .split 32 rfl (fun g6 => ?_) (fun g6 => ?_)
      · replace g6 := of_decide_eq_true g6
        have hb48 : b.toNat < 48 := by omega
        have hd : Lib.digitVal b = none := if_neg (by omega)
        have HX : Lib.decFrom 0 s.data.toList = none := by rw [hk.2.2, HS, hd]
        rw [HX]
        refine .pA ?_
        refine .pA ?_
        refine .pA ?_
        refine .pA ?_
        refine .sA (.pickT rfl rfl rfl) (.nil ?_)
        refine .cond rfl (fun _ => ?_) (fun h => nomatch h)
        refine .sr ?_
        refine .aA ?_
        refine .aA (.nil ?_)
        refine .ret ?_
        refine ⟨RetD.eq rfl ?_, RetD.eq rfl ?_, trivial⟩
        all_goals (first | rfl | (rw [HN]; rfl))
      replace g6 := of_decide_eq_false g6
      have hb48 : 48 ≤ b.toNat := by omega
      refine .sG (.moveD rfl rfl) ?_
      refine .sG (.moveD rfl rfl) ?_
      refine .sG (.indexStr rfl st_9 rfl rfl k rfl hb) ?_
      refine .sG (.gtr rfl rfl rfl) ?_
      refine .sA (.pickF rfl rfl rfl) (.nil ?_)
      refine .cond rfl (fun h7 => ?_) (fun h7 => ?_)
      · replace h7 := of_decide_eq_true h7
        have hb57 : 57 < b.toNat := by omega
        have hd : Lib.digitVal b = none := if_neg (by omega)
        have HX : Lib.decFrom 0 s.data.toList = none := by rw [hk.2.2, HS, hd]
        rw [HX]
        refine .sr ?_
        refine .aA ?_
        refine .aA (.nil ?_)
        refine .ret ?_
        refine ⟨RetD.eq rfl ?_, RetD.eq rfl ?_, trivial⟩
        all_goals (first | rfl | (rw [HN]; rfl))
      replace h7 := of_decide_eq_false h7
      have hb57 : b.toNat ≤ 57 := by omega
      have hd : Lib.digitVal b = some (b.toNat - 48) := if_pos ⟨hb48, hb57⟩
      rw [hd] at HS
      have hac : acc * 10 + (b.toNat - 48) < 10 ^ (k + 1) := by rw [Nat.pow_succ]; omega
      have hp10 : 10 ^ k ≤ 10 ^ 10 := Nat.pow_le_pow_right (by decide) (by omega)
      have hp9 : (10 : Nat) ^ 10 = 10000000000 := by decide
      refine .skip ?_
      refine .region ?_
      refine .mA ?_
      refine .sA (.mul64 rfl rfl rfl (by omega) (by omega)) ?_
      refine .mA ?_
      refine .mA ?_
      refine .sA (.indexStr rfl st_9 rfl rfl k rfl hb) ?_
      refine .sA (.sub8 rfl rfl rfl (by omega) (by omega)) ?_
      refine .sA (.convSame rfl cv8i rfl (w64 (by omega) (by omega))) ?_
      refine .sA (.add64 rfl rfl rfl (by omega) (by omega)) ?_
      refine .aA (.nil ?_)
      refine .region ?_
      refine .sA (.add64 rfl rfl rfl (by omega) (by omega)) ?_
      refine .mA (.nil ?_)
      refine ⟨(k + 1, acc * 10 + (b.toNat - 48)), ⟨by omega, hac, by rw [hk.2.2, HS]⟩, (by dsimp only; omega), Sub.less ⟨(SLe.of_eq rfl), SLe.refl _, SLe.refl _, (sle_int (by omega)), trivial⟩ (fun _ h => h)⟩
    replace h5 := of_decide_eq_false h5
    obtain rfl : k = s.size := by omega
    have HX : Lib.decFrom 0 s.data.toList = some acc := by rw [hk.2.2, List.drop_eq_nil_of_le (by omega)]; rfl
    rw [HX]
    refine .exit ?_
    refine .sr ?_
    refine .mA ?_
    refine .aA ?_
    refine .aA (.nil ?_)
    refine .ret ?_
    refine ⟨RetD.eq rfl ?_, RetD.eq rfl ?_, trivial⟩
    all_goals (first | rfl | (rw [HN]; rfl))
  replace g3 := of_decide_eq_false g3
  have HC : ¬ (s.data.toList = [] ∨ 10 < s.data.toList.length ∨ (s.data.toList.head? = some 48 ∧ s.data.toList ≠ [48])) := by
    rintro (hh | hh | hh)
    · exact hne hh
    · omega
    rw [h0] at hh hsl
    have ht : t0 = [] := List.eq_nil_of_length_eq_zero (by simp at hsl; omega)
    rw [ht] at hh
    exact hh.2 (by have := Option.some.inj hh.1; rw [this])
  have HR : numT s.data.toList = Lib.decFrom 0 s.data.toList := if_neg HC
  rw [HR]
  refine .pA ?_
  refine .pA ?_
  refine .pA ?_
  refine .sG (.pickF rfl rfl rfl) ?_
  refine .sA (.pickF rfl rfl rfl) (.nil ?_)
  refine .cond rfl (fun h => nomatch h) (fun _ => ?_)
  refine .skip ?_
  refine .sr ?_
  refine .aA (.nil ?_)
  refine .seq ?_
  refine .sr ?_
  refine .mA ?_
  refine .sA (.lenStr rfl st_9 rfl) ?_
  refine .mA (.nil ?_)
  refine .block ?_
  refine .loop (G := Nat × Nat) (fun ⟨k, acc⟩ => Env.of [(25, .d (.v (.int .i64 (k : Int)))), (24, .d (.v (.int .i64 (s.size : Int)))), (0, .d (.v (.string s))), (4, .d (.v (.int .i64 (acc : Int))))]) (fun ⟨k, acc⟩ => []) (fun ⟨k, acc⟩ => k ≤ s.size ∧ acc < 10 ^ k ∧ Lib.decFrom 0 s.data.toList = Lib.decFrom acc (s.data.toList.drop k)) (fun ⟨k, acc⟩ => s.size - k) (0, 0) ⟨Nat.zero_le _, by decide, rfl⟩ (Sub.less ⟨(SLe.of_eq rfl), (SLe.of_eq rfl), SLe.refl _, (SLe.of_eq rfl), trivial⟩ (fun _ h => h)) ?_
  rintro ⟨k, acc⟩ hk
  dsimp only at hk
  refine .sr ?_
  refine .sA (.lss rfl rfl rfl) (.nil ?_)
  refine .seq ?_
  refine .cond rfl (fun h8 => ?_) (fun h8 => ?_)
  · replace h8 := of_decide_eq_true h8
    have hlt : k < s.size := by omega
    obtain ⟨b, hb⟩ := byte_at s hlt
    have HS := dec_step hb acc
    refine .skip ?_
    refine .seq ?_
    refine .block ?_
    refine .sr ?_
    refine .mA ?_
    refine .aA (.nil ?_)
    refine .seq ?_
    refine .sr ?_
    refine .mA ?_
    refine .mA ?_
    refine .sA (.indexStr rfl st_9 rfl rfl k rfl hb) ?_
    refine .sA (.lss rfl rfl rfl) ?_
    refine .mA ?_
    refine .split 32 rfl (fun g9 => ?_) (fun g9 => ?_)
    · replace g9 := of_decide_eq_true g9
      have hb48 : b.toNat < 48 := by omega
      have hd : Lib.digitVal b = none := if_neg (by omega)
      have HX : Lib.decFrom 0 s.data.toList = none := by rw [hk.2.2, HS, hd]
      rw [HX]
      refine .pA ?_
      refine .pA ?_
      refine .pA ?_
      refine .pA ?_
      refine .sA (.pickT rfl rfl rfl) (.nil ?_)
      refine .cond rfl (fun _ => ?_) (fun h => nomatch h)
      refine .sr ?_
      refine .aA ?_
      refine .aA (.nil ?_)
      refine .ret ?_
      refine ⟨RetD.eq rfl ?_, RetD.eq rfl ?_, trivial⟩
      all_goals (first | rfl | (rw [HN]; rfl))
    replace g9 := of_decide_eq_false g9
    have hb48 : 48 ≤ b.toNat := by omega
    refine .sG (.moveD rfl rfl) ?_
    refine .sG (.moveD rfl rfl) ?_
    refine .sG (.indexStr rfl st_9 rfl rfl k rfl hb) ?_
    refine .sG (.gtr rfl rfl rfl) ?_
    refine .sA (.pickF rfl rfl rfl) (.nil ?_)
    refine .cond rfl (fun h10 => ?_) (fun h10 => ?_)
    · replace h10 := of_decide_eq_true h10
      have hb57 : 57 < b.toNat := by omega
      have hd : Lib.digitVal b = none := if_neg (by omega)
      have HX : Lib.decFrom 0 s.data.toList = none := by rw [hk.2.2, HS, hd]
      rw [HX]
      refine .sr ?_
      refine .aA ?_
      refine .aA (.nil ?_)
      refine .ret ?_
      refine ⟨RetD.eq rfl ?_, RetD.eq rfl ?_, trivial⟩
      all_goals (first | rfl | (rw [HN]; rfl))
    replace h10 := of_decide_eq_false h10
    have hb57 : b.toNat ≤ 57 := by omega
    have hd : Lib.digitVal b = some (b.toNat - 48) := if_pos ⟨hb48, hb57⟩
    rw [hd] at HS
    have hac : acc * 10 + (b.toNat - 48) < 10 ^ (k + 1) := by rw [Nat.pow_succ]; omega
    have hp10 : 10 ^ k ≤ 10 ^ 10 := Nat.pow_le_pow_right (by decide) (by omega)
    have hp9 : (10 : Nat) ^ 10 = 10000000000 := by decide
    refine .skip ?_
    refine .region ?_
    refine .mA ?_
    refine .sA (.mul64 rfl rfl rfl (by omega) (by omega)) ?_
    refine .mA ?_
    refine .mA ?_
    refine .sA (.indexStr rfl st_9 rfl rfl k rfl hb) ?_
    refine .sA (.sub8 rfl rfl rfl (by omega) (by omega)) ?_
    refine .sA (.convSame rfl cv8i rfl (w64 (by omega) (by omega))) ?_
    refine .sA (.add64 rfl rfl rfl (by omega) (by omega)) ?_
    refine .aA (.nil ?_)
    refine .region ?_
    refine .sA (.add64 rfl rfl rfl (by omega) (by omega)) ?_
    refine .mA (.nil ?_)
    refine ⟨(k + 1, acc * 10 + (b.toNat - 48)), ⟨by omega, hac, by rw [hk.2.2, HS]⟩, (by dsimp only; omega), Sub.less ⟨(SLe.of_eq rfl), SLe.refl _, SLe.refl _, (sle_int (by omega)), trivial⟩ (fun _ h => h)⟩
  replace h8 := of_decide_eq_false h8
  obtain rfl : k = s.size := by omega
  have HX : Lib.decFrom 0 s.data.toList = some acc := by rw [hk.2.2, List.drop_eq_nil_of_le (by omega)]; rfl
  rw [HX]
  refine .exit ?_
  refine .sr ?_
  refine .mA ?_
  refine .aA ?_
  refine .aA (.nil ?_)
  refine .ret ?_
  refine ⟨RetD.eq rfl ?_, RetD.eq rfl ?_, trivial⟩
  all_goals (first | rfl | (rw [HN]; rfl))

end Go.Proofs.YtcfamaddnmnaeaaGreatDoor

namespace Go.Proofs.YtcfamaddnmnaeaaGreatDoor
open Go.RowKit
set_option linter.unusedVariables false

theorem AWP.drawLTailL {cx : Cx} {id : Nat} {l : List Oper} {e : Env} {σ : Obs} {Q : Post} (k : Nat) (L : List Nat) (Φ : List Fc) (E : List (Nat × List Nat)) (I : Obs → Prop) (hm : cx.P.follows .mixedOrders = true) (hB : Region.lexB .any (l.take k).toArray = true)
    (hS : Region.keysFrom (l.take k).toArray (fun k => E.any fun p => Nat.beq p.1 k) (fun k => ((E.find? fun p => Nat.beq p.1 k).map Prod.snd).getD []) (l.take k).length 0 (Array.replicate (l.take k).length false) = true) (hC : Region.chainLB l.toArray (fun i => L.contains i) k = true) (hL : lateB l.toArray L k = true)
    (h : LRun cx (l.take k).toArray Φ (fun k => E.any fun p => Nat.beq p.1 k) (fun k => ((E.find? fun p => Nat.beq p.1 k).map Prod.snd).getD []) I 0 (l.take k) (Env.killIds Φ e) σ (fun e σ => AOps cx l.toArray (l.drop k) e σ (QN Q))) : AWP cx (.region id l.toArray true) e σ Q := by
  intro a w ⟨F, ρ, hr⟩
  simp only [Region.lexB, Bool.and_eq_true] at hB
  have hch := ChainL.of hC
  have hkl : k ≤ l.length := by simpa using hch.le
  have hK : ∀ k, (E.any fun p => Nat.beq p.1 k) = false → ((E.find? fun p => Nat.beq p.1 k).map Prod.snd).getD [] = [] := fun k hk => by
    have : E.find? (fun p => Nat.beq p.1 k) = none := List.find?_eq_none.2 fun p hp hh => by
      have : (E.any fun p => Nat.beq p.1 k) = true := List.any_eq_true.2 ⟨p, hp, hh⟩
      rw [hk] at this
      simp at this
    rw [this]; rfl
  have h1 := anyL_lex hK (l.take k) 0 (Array.replicate (l.take k).toArray.size false) _ σ (by simp) (by simpa using hB.2) (by simpa using hS) h
  have h2 := wpAny_of_L (cx := cx) (ops := (l.take k).toArray) (Q := fun ex e σ => match ex with | .normal => AOps cx l.toArray (l.drop k) e σ (QN Q) | _ => False) (fun ex e σ hne hq => by cases ex <;> first | exact absurd rfl hne | exact hq.elim) (by simpa using LRun.dsts _ 0 _ σ h) _ _ _ σ a { w with drawn := w.drawn + 1 } (R.killIds Φ ⟨F, ρ, hr.drew⟩) (killIds_clean Φ e) h1
  have h3 : wpAny cx.P .any l.toArray (lift cx (QN Q)) l.toArray.size (Array.replicate l.toArray.size false) a { w with drawn := w.drawn + 1 } := by
    refine wpAny_splitL hch (LateOk.of hL) (ops0 := (l.take k).toArray) (by simp; omega) (fun j hj => ?_) ?_ ?_ ?_ (l.take k).length _ _ _ _ _ (by simp; omega) (by simp) ?_ ?_ ?_ (by simp; omega) h2
    · rw [List.getElem?_toArray, List.getElem?_toArray, List.getElem?_take, if_pos hj]
    · rintro a w ⟨e, σ, h3, h4⟩
      have := h3 a w h4
      simpa using this
    · rintro ex a w hne ⟨e, σ, h3, _⟩
      cases ex <;> first | exact absurd rfl hne | exact h3.elim
    · rintro ex a w hne ⟨e, σ, h3, _⟩
      cases ex <;> first | exact absurd rfl hne | exact h3.elim
    · intro j hj d
      have h5 : j < l.length := by omega
      have h6 : j < min k l.length := by omega
      simp [Array.getD_eq_getD_getElem?, h5, h6]
    · intro j hj hj2
      have : j < l.length := by simpa using hj2
      simp [Array.getD_eq_getD_getElem?, this]
    · intro i o ho hi
      have : i < l.length := by simpa using (Array.getElem?_eq_some_iff.1 ho).1
      simp [Array.getD_eq_getD_getElem?, this] at hi
  refine wp_mono (wp_region_any hm h3) ?_
  rintro ex a w ⟨e, σ, h4, h5⟩
  cases ex with
  | normal => exact ⟨e, σ, h4, h5⟩
  | exit id => exact h4.elim
  | goto l => exact h4.elim
  | ret => exact h4.elim
  | panic c => exact h4.elim
  | outgrown => exact h4.elim
end Go.Proofs.YtcfamaddnmnaeaaGreatDoor

namespace Go.Proofs.YtcfamaddnmnaeaaGreatDoor
open Go.RowKit
set_option linter.unusedVariables false
section
variable {cx : Cx} {ops : Array Oper} {o : Oper} {rest : List Oper} {e : Env} {σ : Obs} {Q : Post}
end
end Go.Proofs.YtcfamaddnmnaeaaGreatDoor

namespace Go.Proofs.YtcfamaddnmnaeaaGreatDoor
open Go.RowKit
set_option linter.unusedVariables false

def X2CallT (P : Program) (g : Nat) (T : World → Prop) (f : FuncId) (ss : List S) (σ σ' : Obs) (chg : Nat → Bool) (s0 s1 : S) : Prop := Enters P f ∧
  ∀ (F : Nat → Prop) (ρ : Nat → Value) (B : Nat) (w : World) (vs : List Value), T w → ¬ ownB σ ρ g → (∀ b, F b → b < w.heap.size) → B ≤ w.heap.size → ObsOk B F ρ w σ → RepSL F ρ w vs ss →
    Calls P f vs.toArray w fun e w' => ∃ v0 v1 F' ρ', e = .returned (.tuple #[v0, v1]) ∧ RepS F' ρ' w' v0 s0 ∧ RepS F' ρ' w' v1 s1 ∧ XEnd B F ρ w σ F' ρ' w' σ' chg
def RetX2 (t0 t1 : Nat) (s0 s1 : S) (σ' : Obs) : Post := fun ex e σ => match ex with
  | .ret => (SLe (e t0) s0 ∧ SLe (e t1) s1) ∧ AllIn σ σ'
  | .normal => (SLe (e t0) s0 ∧ SLe (e t1) s1) ∧ AllIn σ σ'
  | _ => False
theorem x2callT_of {g : Nat} {T : World → Prop} {P : Program} {f : FuncId} {fn : Func} {c : Code} {n : Nat} {ss : List S} {σ σ' : Obs} {chg : Nat → Bool} {s0 s1 : S} (hf : P.funcs[f]? = some fn) (hb : fn.body = some c) (hn : (fn.name == "runtime.NumGoroutine") = false) (hN : fn.ntmps = n)
    (t0 t1 : Nat) (hr : fn.results = #[.tmp t0, .tmp t1]) (hle' : Nat.ble ss.length n = true)
    (hs : StaysAt g T) (h : ∀ B w0 F0 fr ρ0, TC g T ⟨P, n, B, w0, F0, fr, fun i => !(chg i), ρ0⟩ → AWP ⟨P, n, B, w0, F0, fr, fun i => !(chg i), ρ0⟩ c (Env.argsS 0 ss) σ (RetX2 t0 t1 s0 s1 σ')) : X2CallT P g T f ss σ σ' chg s0 s1 := by
  have hle : ss.length ≤ n := Nat.le_of_ble_eq_true hle'
  refine ⟨Enters.of hf hn (by rw [hb]; rfl), fun F ρ B w vs hT hgo hF hB hσ hv => ?_⟩
  refine calls_of_wp hf hb ?_
  refine wp_mono (h _ _ _ _ _ ⟨hs, hT, fun k => k.elim (fun k => by have := hs.1 _ hT; omega) hgo⟩ _ _ (args_R hN hle hF hB hσ hv)) ?_
  rintro ex a w' ⟨e', σe, hq, F', ρ', hr'⟩
  have hres : (results fn a.tmps).run P w' = .ok (.tuple #[a.tmps.getD t0 undef, a.tmps.getD t1 undef]) w' := by
    unfold results
    rw [hr, Sem.run_bind]
    have h2 : (Array.mapM (fun r => match r with | ResultVar.tmp t => pure (a.tmps.getD t undef) | ResultVar.cell b t => do loadVar t (← asAddr (a.tmps.getD b undef))) [ResultVar.tmp t0, ResultVar.tmp t1].toArray : Sem (Array Value)).run P w' = .ok [a.tmps.getD t0 undef, a.tmps.getD t1 undef].toArray w' := by
      rw [List.mapM_toArray, Sem.run_map]
      rfl
    exact (congrArg (fun r => Result.andThen r _) h2).trans rfl
  have hends : (SLe (e' t0) s0 ∧ SLe (e' t1) s1) ∧ AllIn σe σ' → bodyPost P fn (fun e w' => ∃ v0 v1 F' ρ', e = .returned (.tuple #[v0, v1]) ∧ RepS F' ρ' w' v0 s0 ∧ RepS F' ρ' w' v1 s1 ∧ XEnd B F ρ w σ F' ρ' w' σ' chg) .ret a w' := by
    rintro ⟨⟨h1, h2⟩, hin⟩
    have hin := hin.mem
    exact ⟨hr'.defers, _, hres, _, _, F', ρ', rfl, h1 _ _ _ _ (hr'.env t0), h2 _ _ _ _ (hr'.env t1), hr'.base, hr'.new, hr'.lt, hr'.below, hr'.obs.sub hin, fun p hp => hr'.kown p (hin p hp), fun i hi => hr'.fixed i (by show (!(chg i)) = true; rw [hi]; rfl)⟩
  cases ex with
  | ret => exact hends hq
  | normal => exact hends hq
  | exit id => exact hq.elim
  | goto l => exact hq.elim
  | panic c => exact hq.elim
  | outgrown => exact hq.elim
section
variable {cx : Cx} {ops : Array Oper} {o om o1 o2 : Oper} {rest : List Oper} {e : Env} {σ : Obs} {Q : Post}
theorem extract_ok {a : Act} {o : Oper} {t i : Nat} {P : Program} {w : World} {cs : Array Value} {v : Value} (ho : o.op = .extract (.tmp t) i) (ht : a.tmps.getD t undef = .tuple cs) (hv : cs[i]? = some v) : (execOp a.eval o).run P w = .ok (.value v) w := by
  obtain ⟨hlt, rfl⟩ := Array.getElem?_eq_some_iff.1 hv
  have he : a.eval (.tmp t) = .tuple cs := ht
  unfold execOp
  simp [ho, he, Instr.extract, hlt]
theorem AOps.callX2T {g : Nat} {T : World → Prop} {f : FuncId} {xs : List Operand} {ts : Array TypeId} {ss : List S} {σc σ' : Obs} {chg : Nat → Bool} {s0 s1 : S} {t tm t1 t2 : Nat} (hg : o.guard = none) (ht : o.dst = some t) (hd : Nat.blt t cx.N = true)
    (ho : o.op = .call { callee := .value (.func f), args := xs.toArray, argTypes := ts }) (hT : TC g T cx) (ha : ArgsS e xs ss) (h : X2CallT cx.P g T f ss σc σ' chg s0 s1) (hin : AllIn σ σc)
    (h1 : Obs.allIds (fun i => !(chg i)) (Obs.dels σc σ) = true) (h2 : Obs.allIds (fun i => Obs.allIds (fun j => !(Nat.beq i j)) (Obs.dels σc σ)) σ' = true) (h3 : ∀ i, chg i = true → cx.fixp i = false)
    (hgm : om.guard = none) (hom : om.op = .move (.tmp t)) (htm : om.dst = some tm) (hdm : Nat.blt tm cx.N = true)
    (hg1 : o1.guard = none) (ho1 : o1.op = .extract (.tmp tm) 0) (ht1 : o1.dst = some t1) (hd1 : Nat.blt t1 cx.N = true) (hne : Nat.beq tm t1 = false)
    (hg2 : o2.guard = none) (ho2 : o2.op = .extract (.tmp tm) 1) (ht2 : o2.dst = some t2) (hd2 : Nat.blt t2 cx.N = true)
    (k : AOps cx ops rest (((((e.killP chg).put (some t) (.d .any)).put (some tm) (.d .any)).put (some t1) s0).put (some t2) s1) (Obs.join σ' (Obs.killP chg (Obs.dels σc σ))) Q) : AOps cx ops (o :: om :: o1 :: o2 :: rest) e σ Q := by
  intro a w ⟨F, ρ, hr⟩
  have h4 := h.2 F ρ cx.B w _ (hT.now hr.below) (fun ⟨p, hp, hb⟩ => hT.fr (hr.kown p (hin.mem p hp) g hb)) hr.lt hr.hB (hr.obs.sub hin.mem) (ArgsS.rep hr.env ha)
  have h5 := h.1 (xs.map a.eval).toArray w
  have hx : (execOp a.eval o).run cx.P w = .ok (.enter f (xs.map a.eval).toArray) w := by
    unfold execOp
    simp only [ho, resolve, Deferred.ofValue, Act.eval, invoke, Sem.run_bind, Sem.run_pure, Result.andThen_ok]
    simpa using h5
  refine wpList_plain hg fun K hK => ?_
  unfold Oper.wp
  rw [hx]
  refine h4.mono fun _ w' ⟨v0, v1, F', ρ', he, hv0, hv1, hE⟩ => ?_
  subst he
  refine hK _ _ ?_
  rw [ht]
  have hsz : a.tmps.size = cx.N := hr.size
  have htl : t < a.tmps.size := by rw [hsz]; simpa [Nat.blt_eq] using hd
  have html : tm < (a.put (some t) (.tuple #[v0, v1])).tmps.size := by rw [put_size, hsz]; simpa [Nat.blt_eq] using hdm
  have hA := (hr.after hin.mem hE h1 h2 h3)
  have hB := hA.put (o := o) (Ext.refl hE.lt) (v := .tuple #[v0, v1]) (s := .d .any) (.d (.any _)) (by unfold DstOk; rw [ht]; exact hd)
  have hM := hB.put (o := om) (Ext.refl hE.lt) (v := .tuple #[v0, v1]) (s := .d .any) (.d (.any _)) (by unfold DstOk; rw [htm]; exact hdm)
  have hC := hM.put (o := o1) (Ext.refl hE.lt) hv0 (by unfold DstOk; rw [ht1]; exact hd1)
  have hD := hC.put (o := o2) (Ext.refl hE.lt) hv1 (by unfold DstOk; rw [ht2]; exact hd2)
  rw [ht, htm, ht1, ht2] at hD
  have e0 : (a.put (some t) (.tuple #[v0, v1])).tmps.getD t undef = .tuple #[v0, v1] := put_getD_same htl
  have e1 : ((a.put (some t) (.tuple #[v0, v1])).put (some tm) (.tuple #[v0, v1])).tmps.getD tm undef = .tuple #[v0, v1] := put_getD_same html
  have hnt : tm ≠ t1 := fun hh => by rw [hh] at hne; simp at hne
  have e2 : (((a.put (some t) (.tuple #[v0, v1])).put (some tm) (.tuple #[v0, v1])).put (some t1) v0).tmps.getD tm undef = .tuple #[v0, v1] := by rw [put_getD_other hnt]; exact e1
  have hxm : (execOp (a.put (some t) (.tuple #[v0, v1])).eval om).run cx.P w' = .ok (.value (.tuple #[v0, v1])) w' := by
    have he : (a.put (some t) (.tuple #[v0, v1])).eval (.tmp t) = .tuple #[v0, v1] := e0
    unfold execOp
    simp only [hom, he]; rfl
  refine wpList_plain hgm fun K0 hK0 => ?_
  unfold Oper.wp
  rw [hxm, Oper.upon_value, htm]
  refine hK0 _ _ ?_
  refine wpList_plain hg1 fun K1 hK1 => ?_
  unfold Oper.wp
  rw [extract_ok (v := v0) ho1 e1 rfl, Oper.upon_value, ht1]
  refine hK1 _ _ ?_
  refine wpList_plain hg2 fun K2 hK2 => ?_
  unfold Oper.wp
  rw [extract_ok (v := v1) ho2 e2 rfl, Oper.upon_value, ht2]
  refine hK2 _ _ ?_
  exact k _ _ ⟨F', ρ', hD⟩
end
end Go.Proofs.YtcfamaddnmnaeaaGreatDoor

namespace Go.Proofs.YtcfamaddnmnaeaaGreatDoor
open Go.RowKit
set_option linter.unusedVariables false

/-! Types. -/
namespace TyDC
theorem bu_75 : StructT Tryz.prog 75 (fun i => (#[(0, 1), (1, 1), (2, 1)] : Array (Nat × Nat))[i]?) [(.string ⟨#[]⟩), (.int .i64 0), (.int .i64 0)] := .of (by kernel_rfl) (by kernel_rfl) (by decide)
theorem bu_80 : StructT Tryz.prog 80 (fun i => (#[(0, 1), (1, 1), (2, 1), (3, 1), (4, 1)] : Array (Nat × Nat))[i]?) [(.string ⟨#[]⟩), (.int .i64 0), (.int .i64 0), (.int .i64 0), (.slice none 0 0)] := .of (by kernel_rfl) (by kernel_rfl) (by decide)
end TyDC
open TyF0 TyF1 TyF2 TyF3 TyF4 TyF5 TyF6 TyF7 TyF8 TyF9 TyF10 TyF11 TyG1 TyG2 TyG5 TyU1 TyU2 TyU3 TyU4 TyM1 TyM2 TyM3 TyDA TyDB TyDC

theorem maxT_at : StaysAt (Tryz.l144_ren.g 1) MaxT := by
  refine ⟨fun w ⟨m, hm⟩ => ?_, fun w w' k ⟨m, hm⟩ => ⟨m, ?_⟩⟩
  · exact World.block_lt_of_cell? _ _ hm
  · rw [World.cell?_of_block k]; exact hm

abbrev gMax : Nat := Tryz.l144_ren.g 1
theorem c_cutP2 (s : ByteArray) : ACall Tryz.prog 30 [.v (.string s), .v (.string ⟨#[32, 32]⟩)] (.tup [.v (.string (strL (Lib.trimPrefix s.data.toList [32, 32]))), .v (.bool (Lib.hasPrefix s.data.toList [32, 32]))]) := c_cutP s ⟨#[32, 32]⟩

set_option linter.unusedSimpArgs false
theorem c_split3 (l : List UInt8) (hs : l.length < 4294967281) : ACallT Tryz.prog MaxT 69 [.v (.string (strL l)), .v (.string ⟨#[32]⟩), .v (.int .i64 3)] (.sl ((spk 32 2 l).map pcD)) := by
 have := c_splitN (strL l) 32 2 (by rw [strL_size]; exact hs) (by decide)
 rw [strL_list] at this
 exact this
theorem rdRow_ren (i j : Nat) (done : List Rpt) (c : List S) : (rdRow done c).map (fun ss => ss.map (S.ren i j)) = rdRow done (c.map (S.ren i j)) := by
  unfold rdRow
  rw [List.map_append, List.map_map]
  congr 1
theorem rdS_len (done : List Rpt) (x : Rpt) : (rdO (Rg.mk done (some x)).done (Rg.mk done (some x)).cur).length = done.length + 1 := rdRow_len done (lastS x)
def resS : Option Rg → S
  | none => .d (.v (.slice none 0 0))
  | some _ => .own 500
theorem clean1 {a ia : Nat} : ∀ p ∈ [(a, S.own ia)], ∀ f ∈ [(⟨ia, [a]⟩ : Fc)], f.slots.contains p.1 = true ∨ p.2.kill f.id = p.2 := fun p hp f hf => by
  obtain rfl := List.mem_singleton.1 hp
  obtain rfl := List.mem_singleton.1 hf
  exact .inl (by simp)

set_option maxRecDepth 100000 in
set_option maxHeartbeats 8000000 in
theorem c_pLine (done : List Rpt) (cur : Option Rpt) (line : ByteArray) (hl : line.size ≤ 200000) (hd : (done ++ cur.toList).length ≤ 300000) (hc : (curL cur).length ≤ 300000) (hop : cur = none → done = []) :
    X2CallT Tryz.prog gMax MaxT 28 [.own 500, .d (.v (.string line))] (rdObs (⟨done, cur⟩ : Rg)) (rdObs ((takeV (⟨done, cur⟩ : Rg) line.data.toList).getD (⟨done, cur⟩ : Rg))) (fun i => Nat.beq i 500 || Nat.beq i 700 || Nat.beq i 710) (resS (takeV (⟨done, cur⟩ : Rg) line.data.toList)) (.d (.v (.bool (takeV (⟨done, cur⟩ : Rg) line.data.toList).isSome))) := by
  refine x2callT_of (n := 105) Tryz.func28 rfl (by kernel_rfl) rfl 4 5 rfl rfl maxT_at ?_
  intro B w0 F0 fr ρ0 hT
  have hsl := Lib.size_eq line
  have htl := trimP_le line.data.toList [32, 32]
  refine .sr ?_
  refine .aA ?_
  refine .aA (.nil ?_)
  refine .seq ?_
  refine .sr ?_
  refine .mA ?_
  refine .sA (.call rfl (.cons (.rfl' rfl) (.cons (.rfl' rfl) .nil)) (c_cutP2 line)) ?_
  refine .mA ?_
  refine .sA (.extract rfl rfl rfl) ?_
  refine .sA (.extract rfl rfl rfl) ?_
  refine .aA ?_
  refine .aA (.nil ?_)
  refine .sr ?_
  refine .mA (.nil ?_)
  refine .cond rfl (fun h1 => ?_) (fun h1 => ?_)
  · skip
    have p2 := h1
    refine .sr ?_
    refine .mA ?_
    -- wants the world
    refine .callTC rfl rfl rfl hT (.cons (.rfl' rfl) (.cons (.rfl' rfl) (.cons (.rfl' rfl) .nil))) (c_split3 (Lib.trimPrefix line.data.toList [32, 32]) (by omega)) ?_
    refine .aA (.nil ?_)
    refine .seq ?_
    refine .sr ?_
    refine .mA ?_
    refine .sA (.lenSl rfl et_146.ht rfl) ?_
    refine .sA (.neq rfl rfl rfl) ?_
    refine .mA ?_
    refine .split 26 rfl (fun g2 => ?_) (fun g2 => ?_)
    · replace g2 := of_decide_eq_true g2
      rw [List.length_map] at g2
      have HT := tk_un (r := (⟨done, cur⟩ : Rg)) p2 (.inl (used_no3 (by omega)))
      rw [HT]
      refine .pA ?_
      refine .pA ?_
      refine .pA ?_
      refine .pA ?_
      refine .sA (.pickT rfl rfl rfl) ?_
      refine .mA ?_
      refine .pA ?_
      refine .pA ?_
      refine .pA ?_
      refine .sA (.pickT rfl rfl rfl) (.nil ?_)
      refine .cond rfl (fun _ => ?_) (fun h => nomatch h)
      refine .sr ?_
      refine .aA ?_
      refine .aA (.nil ?_)
      refine .ret ?_
      exact ⟨⟨SLe.refl _, SLe.refl _⟩, mem_ob_eq (.head _) rfl, mem_ob_eq (.tail _ (.head _)) rfl, trivial⟩
    replace g2 := of_decide_eq_false g2
    rw [List.length_map] at g2
    obtain ⟨a, b, t, hw⟩ := three (l := (spk 32 2 (Lib.trimPrefix line.data.toList [32, 32]))) (by omega)
    obtain ⟨la, lb, lt⟩ := spk_l3 hw
    refine .sG (.moveD rfl rfl) ?_
    refine .sG (.indexAddr rfl et_146 rfl rfl 2 rfl (show ((spk 32 2 (Lib.trimPrefix line.data.toList [32, 32])).map pcD)[2]? = some (pcD t) by rw [hw]; rfl) rfl) ?_
    refine .sG (.load rfl sc_9 rfl) ?_
    refine .sG (.seql rfl rfl rfl) ?_
    refine .sA (.pickF rfl rfl rfl) ?_
    refine .mA ?_
    refine .split 32 rfl (fun g3 => ?_) (fun g3 => ?_)
    · replace g3 := of_decide_eq_true g3
      have HT := tk_un (r := (⟨done, cur⟩ : Rg)) p2 (.inl (used_e hw (strL_nil.1 g3)))
      rw [HT]
      refine .pA ?_
      refine .pA ?_
      refine .pA ?_
      refine .sA (.pickT rfl rfl rfl) (.nil ?_)
      refine .cond rfl (fun _ => ?_) (fun h => nomatch h)
      refine .sr ?_
      refine .aA ?_
      refine .aA (.nil ?_)
      refine .ret ?_
      exact ⟨⟨SLe.refl _, SLe.refl _⟩, mem_ob_eq (.head _) rfl, mem_ob_eq (.tail _ (.head _)) rfl, trivial⟩
    replace g3 := of_decide_eq_false g3
    have ht : ¬ t = [] := fun hh => g3 (strL_nil.2 hh)
    refine .sG (.moveO rfl rfl) ?_
    refine .sG (.weak (.lenOwn rfl et_22.ht rfl (Obs.weak_mem (.head _)))) ?_
    refine .sG (.eql rfl rfl rfl) ?_
    refine .sA (.pickF rfl rfl rfl) (.nil ?_)
    refine .cond rfl (fun h4 => ?_) (fun h4 => ?_)
    · replace h4 := of_decide_eq_true h4
      first
      | rw [HT]
      | (have HC : cur = none := by
           cases cur with
           | none => rfl
           | some x => (rw [List.length_map, rdO_len, List.length_map] at h4; simp at h4; omega)
         have HT := tk_un (r := (⟨done, cur⟩ : Rg)) p2 (.inr HC)
         rw [HT])
      refine .sr ?_
      refine .aA ?_
      refine .aA (.nil ?_)
      refine .ret ?_
      exact ⟨⟨SLe.refl _, SLe.refl _⟩, mem_ob_eq (.head _) rfl, mem_ob_eq (.tail _ (.head _)) rfl, trivial⟩
    replace h4 := of_decide_eq_false h4
    obtain ⟨x, rfl⟩ : ∃ x, cur = some x := by
      cases cur with
      | none => exact absurd (by rw [hop rfl]; rfl) h4
      | some x => exact ⟨x, rfl⟩
    have hd2 : done.length + 1 ≤ 300000 := by have := hd; rw [List.length_append] at this; exact this
    refine .skip ?_
    refine .sr ?_
    refine .mA ?_
    refine .sA (.sliceH rfl et_146 rfl rfl (by omega) (by rw [List.length_map, hw]; show (2 : Int) ≤ 3; decide) (fun y hy => by obtain ⟨z, _, rfl⟩ := List.mem_map.1 hy; rfl)) ?_
    rw [show ((spk 32 2 (Lib.trimPrefix line.data.toList [32, 32])).map pcD).take (2 : Int).toNat = [a, b].map pcD by rw [hw]; rfl]
    refine .sA (.call rfl (.cons (.rfl' rfl) .nil) (c_pNums [a, b] 200000 (fun y hy => by simp only [List.mem_cons, List.not_mem_nil, or_false] at hy; rcases hy with rfl | rfl <;> omega) (by decide) (by show 2 ≤ 1000000; decide))) ?_
    refine .mA ?_
    refine .sA (.extract rfl rfl rfl) ?_
    refine .sA (.extract rfl rfl rfl) ?_
    refine .aA ?_
    refine .aA (.nil ?_)
    refine .seq ?_
    refine .sr ?_
    refine .mA ?_
    refine .sA (.not rfl rfl) (.nil ?_)
    refine .cond rfl (fun h5 => ?_) (fun h5 => ?_)
    · replace h5 := bnot_t h5
      have HT := tk_un (r := ⟨done, some x⟩) p2 (.inl (used_n hw (nums2_no (by simpa using h5))))
      rw [HT]
      refine .sr ?_
      refine .aA ?_
      refine .aA (.nil ?_)
      refine .ret ?_
      exact ⟨⟨SLe.refl _, SLe.refl _⟩, mem_ob_eq (.head _) rfl, mem_ob_eq (.tail _ (.head _)) rfl, trivial⟩
    replace h5 := bnot_f h5
    obtain ⟨n, m, na, nb, nab⟩ := nums2 (i := a) (s := b) (by simpa using h5)
    have HT := tk_u (r := ⟨done, some x⟩) p2 (used_y hw ht na nb) rfl
    rw [HT, nab]
    refine .skip ?_
    refine .sr ?_
    refine .sA (.moveO rfl rfl) ?_
    refine .sA (.moveO rfl rfl) ?_
    refine .sA (.weak (.lenOwn rfl et_22.ht rfl (Obs.weak_mem (.head _)))) ?_
    refine .sA (.sub64 rfl rfl rfl (by rw [List.length_map, rdS_len]; omega) (by rw [List.length_map, rdS_len]; omega)) ?_
    refine .sA (.weak (.indexOwn rfl et_22 rfl rfl (Obs.weak_mem (.head _)) done.length (by rw [List.length_map, rdS_len]; omega) (by rw [List.length_map, rdS_len]; omega))) ?_
    refine .sA (.assignP rfl rfl) (.nil ?_)
    refine .seq ?_
    refine .drawLTailL 17 [] [⟨710, [66]⟩] [(16, [66])] (fun τ => (500, Ob.rowS 80 5 (rdRow done (lastS x))) ∈ τ) (by kernel_rfl) (by kernel_rfl) (by kernel_rfl) (by kernel_rfl) (by kernel_rfl) ?_
    refine .step rfl rfl rfl (.head _) (fun τ hτ => AOp.moveP rfl rfl) ?_ rfl ⟨.inr rfl, trivial⟩
    refine .step rfl rfl rfl (.head _) (fun τ hτ => AOp.moveP rfl rfl) ?_ rfl ⟨.inr rfl, trivial⟩
    refine .step rfl rfl rfl (.head _) (fun τ hτ => AOp.nilCheckP rfl rfl) ?_ rfl ⟨.inr rfl, trivial⟩
    refine .step rfl rfl rfl (.head _) (fun τ hτ => AOp.fieldAddrP rfl fo_80_4 rfl) ?_ rfl ⟨.inr rfl, trivial⟩
    refine .step rfl rfl rfl (.head _) (fun τ hτ => AOp.loadRowS rfl sc_78 rfl hτ done.length 4 rfl (rdRow_at _ _) rfl) ?_ rfl ⟨.inr rfl, trivial⟩
    refine .step rfl rfl rfl (.head _) (fun τ hτ => AOp.moveD rfl rfl) ?_ rfl ⟨.inr rfl, trivial⟩
    refine .step rfl rfl rfl (.head _) (fun τ hτ => AOp.indexAddr rfl et_146 rfl rfl 2 rfl (show ((spk 32 2 (Lib.trimPrefix line.data.toList [32, 32])).map pcD)[2]? = some (pcD t) by rw [hw]; rfl) rfl) ?_ rfl ⟨.inr rfl, trivial⟩
    refine .step rfl rfl rfl (.head _) (fun τ hτ => AOp.load rfl sc_9 rfl) ?_ rfl ⟨.inr rfl, trivial⟩
    refine .step rfl rfl rfl (.head _) (fun τ hτ => AOp.moveD rfl rfl) ?_ rfl ⟨.inr rfl, trivial⟩
    refine .step rfl rfl rfl (.head _) (fun τ hτ => AOp.indexAddr rfl et_37 rfl rfl 0 rfl rfl rfl) ?_ rfl ⟨.inr rfl, trivial⟩
    refine .step rfl rfl rfl (.head _) (fun τ hτ => AOp.load rfl sc_3 rfl) ?_ rfl ⟨.inr rfl, trivial⟩
    refine .step rfl rfl rfl (.head _) (fun τ hτ => AOp.moveD rfl rfl) ?_ rfl ⟨.inr rfl, trivial⟩
    refine .step rfl rfl rfl (.head _) (fun τ hτ => AOp.indexAddr rfl et_37 rfl rfl 1 rfl rfl rfl) ?_ rfl ⟨.inr rfl, trivial⟩
    refine .step rfl rfl rfl (.head _) (fun τ hτ => AOp.load rfl sc_3 rfl) ?_ rfl ⟨.inr rfl, trivial⟩
    refine .step rfl rfl rfl (.head _) (fun τ hτ => AOp.build rfl bu_75 (.cons rfl rfl (.cons rfl rfl (.cons rfl rfl .nil))) rfl) ?_ rfl ⟨.inr rfl, trivial⟩
    refine .step rfl rfl rfl (.head _) (fun τ hτ => AOp.buildSlice rfl et_78 (.cons rfl rfl rfl .nil) rfl (by decide)) ?_ rfl ⟨.inr rfl, trivial⟩
    refine .eff rfl rfl (.head _) (.tail _ (.head _)) (GE.appendN (σ' := [(710, .row 75 3 (x.lines.map Usd.ds ++ [[.v (.string (strL t)), .v (.int .i64 (n : Int)), .v (.int .i64 (m : Int))]])), (500, .rowS 80 5 (rdRow done (lastS x)))]) 710 (.head _) (fun t h1 => by simp [h1]) rfl rfl rfl rfl et_78 rfl (.tail _ (.head _)) rfl (fun y hy => by obtain rfl := List.mem_singleton.1 hy; rfl) (by simp [curL] at *; omega) (by simp [curL] at *; omega) rfl (by show [_, (500, Ob.rowS 80 5 ((rdRow done (lastS x)).map _))] = _; rw [rdRow_kill]; rfl)) ?_ clean1
    refine .nil ?_
    refine .sA (.nilCheckP rfl rfl) ?_
    refine .sA (.fieldAddrP rfl fo_80_4 rfl) ?_
    refine .eff rfl rfl (.storeRowS rfl rfl sz_78 rfl (.tail _ (.head _)) rfl (OneS.own (.head _)) done.length 4 rfl (rdRow_at _ _) (by decide)) (.nil ?_)
    refine .seq ?_
    refine .obsEq [(710, .row 75 3 ((x.lines ++ [(⟨strL t, (n : Int), (m : Int)⟩ : Usd)]).map Usd.ds)), (500, .rowS 80 5 (rdRow done [.d (.v (.string x.source)), .d (.v (.int .i64 x.no)), .d (.v (.int .i64 x.period)), .d (.v (.int .i64 x.corrects)), .own 710]))] (by show [_, (500, Ob.rowS 80 5 ((rdRow done _).set done.length _))] = _; rw [rdRow_set, List.map_append]; rfl) ?_
    refine .rename 710 700 [(700, .row 75 3 ((x.lines ++ [(⟨strL t, (n : Int), (m : Int)⟩ : Usd)]).map Usd.ds)), (500, .rowS 80 5 (rdRow done (lastS x)))] (by decide) rfl (fun p hp => by
        simp only [List.mem_cons, List.not_mem_nil, or_false] at hp
        rcases hp with rfl | rfl
        · exact .inl ⟨_, .head _, rfl, rfl⟩
        exact .inr ⟨_, .tail _ (.head _), Nat.ne_of_beq_eq_false rfl, Nat.ne_of_beq_eq_false rfl, by show (500, Ob.rowS 80 5 (rdRow done (lastS x))) = (500, Ob.rowS 80 5 ((rdRow done [.d (.v (.string x.source)), .d (.v (.int .i64 x.no)), .d (.v (.int .i64 x.period)), .d (.v (.int .i64 x.corrects)), .own 710]).map (fun ss => ss.map (S.ren 710 700)))); rw [rdRow_ren]; rfl⟩) ?_
    refine .region ?_
    refine .sA (.moveO rfl rfl) ?_
    refine .sA (.assignO rfl rfl) ?_
    refine .aA (.nil ?_)
    refine .ret ?_
    exact ⟨⟨SLe.refl _, SLe.refl _⟩, mem_ob_eq (.tail _ (.head _)) rfl, mem_ob_eq (.head _) rfl, trivial⟩
  have p2 : ¬ Lib.hasPrefix line.data.toList [32, 32] = true := by rw [h1]; decide
  refine .skip ?_
  refine .sr ?_
  refine .mA ?_
  -- wants the world
  refine .callTC rfl rfl rfl hT (.cons (.rfl' rfl) (.cons (.rfl' rfl) .nil)) (c_split line 32 (by omega)) ?_
  refine .aA (.nil ?_)
  refine .seq ?_
  refine .sr ?_
  refine .mA ?_
  refine .sA (.lenSl rfl et_146.ht rfl) ?_
  refine .sA (.neq rfl rfl rfl) ?_
  refine .mA ?_
  refine .split 75 rfl (fun g6 => ?_) (fun g6 => ?_)
  · replace g6 := of_decide_eq_true g6
    rw [List.length_map] at g6
    have HT := tk_hn (r := (⟨done, cur⟩ : Rg)) p2 (head_no4 (by omega))
    rw [HT]
    refine .pA ?_
    refine .pA ?_
    refine .pA ?_
    refine .pA ?_
    refine .sA (.pickT rfl rfl rfl) (.nil ?_)
    refine .cond rfl (fun _ => ?_) (fun h => nomatch h)
    refine .sr ?_
    refine .aA ?_
    refine .aA (.nil ?_)
    refine .ret ?_
    exact ⟨⟨SLe.refl _, SLe.refl _⟩, mem_ob_eq (.head _) rfl, mem_ob_eq (.tail _ (.head _)) rfl, trivial⟩
  replace g6 := of_decide_eq_false g6
  rw [List.length_map] at g6
  obtain ⟨s, a, b, c, hw⟩ := four (l := (spl 32 line.data.toList)) (by omega)
  obtain ⟨ls, la, lb, lc⟩ := spl_l4 hw
  refine .sG (.moveD rfl rfl) ?_
  refine .sG (.indexAddr rfl et_146 rfl rfl 0 rfl (show ((spl 32 line.data.toList).map pcD)[0]? = some (pcD s) by rw [hw]; rfl) rfl) ?_
  refine .sG (.load rfl sc_9 rfl) ?_
  refine .sG (.seql rfl rfl rfl) ?_
  refine .sA (.pickF rfl rfl rfl) (.nil ?_)
  refine .cond rfl (fun h7 => ?_) (fun h7 => ?_)
  · replace h7 := of_decide_eq_true h7
    first
    | rw [HT]
    | (have HT := tk_hn (r := (⟨done, cur⟩ : Rg)) p2 (head_e hw (strL_nil.1 h7))
       rw [HT])
    refine .sr ?_
    refine .aA ?_
    refine .aA (.nil ?_)
    refine .ret ?_
    exact ⟨⟨SLe.refl _, SLe.refl _⟩, mem_ob_eq (.head _) rfl, mem_ob_eq (.tail _ (.head _)) rfl, trivial⟩
  replace h7 := of_decide_eq_false h7
  have hs : ¬ s = [] := fun hh => h7 (strL_nil.2 hh)
  refine .skip ?_
  refine .sr ?_
  refine .mA ?_
  refine .sA (.sliceL rfl et_146 rfl rfl (by omega) (by rw [List.length_map, hw]; show (1 : Int) ≤ 4; decide) (fun y hy => by obtain ⟨z, _, rfl⟩ := List.mem_map.1 hy; rfl)) ?_
  rw [show ((spl 32 line.data.toList).map pcD).drop (1 : Int).toNat = [a, b, c].map pcD by rw [hw]; rfl]
  refine .sA (.call rfl (.cons (.rfl' rfl) .nil) (c_pNums [a, b, c] 200000 (fun y hy => by simp only [List.mem_cons, List.not_mem_nil, or_false] at hy; rcases hy with rfl | rfl | rfl <;> omega) (by decide) (by show 3 ≤ 1000000; decide))) ?_
  refine .mA ?_
  refine .sA (.extract rfl rfl rfl) ?_
  refine .sA (.extract rfl rfl rfl) ?_
  refine .aA ?_
  refine .aA (.nil ?_)
  refine .seq ?_
  refine .sr ?_
  refine .mA ?_
  refine .sA (.not rfl rfl) (.nil ?_)
  refine .cond rfl (fun h8 => ?_) (fun h8 => ?_)
  · replace h8 := bnot_t h8
    have HT := tk_hn (r := (⟨done, cur⟩ : Rg)) p2 (head_n hw (nums3_no (by simpa using h8)))
    rw [HT]
    refine .sr ?_
    refine .aA ?_
    refine .aA (.nil ?_)
    refine .ret ?_
    exact ⟨⟨SLe.refl _, SLe.refl _⟩, mem_ob_eq (.head _) rfl, mem_ob_eq (.tail _ (.head _)) rfl, trivial⟩
  replace h8 := bnot_f h8
  obtain ⟨u, v, z, nu, nv, nz, nuv⟩ := nums3 (i := a) (s := b) (t := c) (by simpa using h8)
  have HT := tk_h (r := (⟨done, cur⟩ : Rg)) p2 (head_y hw hs nu nv nz)
  rw [HT, nuv]
  refine .skip ?_
  refine .seq ?_
  refine .rdFreeze (done := done) (cur := cur) ?_ (fun p hp => hp)
  refine .drawTail 15 (by kernel_rfl) (by kernel_rfl) (by kernel_rfl) ?_
  refine .sA (.moveO rfl rfl) ?_
  refine .sA (.moveD rfl rfl) ?_
  refine .sA (.indexAddr rfl et_146 rfl rfl 0 rfl (show ((spl 32 line.data.toList).map pcD)[0]? = some (pcD s) by rw [hw]; rfl) rfl) ?_
  refine .sA (.load rfl sc_9 rfl) ?_
  refine .sA (.moveD rfl rfl) ?_
  refine .sA (.indexAddr rfl et_37 rfl rfl 0 rfl rfl rfl) ?_
  refine .sA (.load rfl sc_3 rfl) ?_
  refine .sA (.moveD rfl rfl) ?_
  refine .sA (.indexAddr rfl et_37 rfl rfl 1 rfl rfl rfl) ?_
  refine .sA (.load rfl sc_3 rfl) ?_
  refine .sA (.moveD rfl rfl) ?_
  refine .sA (.indexAddr rfl et_37 rfl rfl 2 rfl rfl rfl) ?_
  refine .sA (.load rfl sc_3 rfl) ?_
  refine .sA (.build rfl bu_80 (.cons rfl rfl (.cons rfl rfl (.cons rfl rfl (.cons rfl rfl .nil)))) rfl) ?_
  refine .sA (.buildSlice rfl et_22 (.cons rfl rfl rfl .nil) rfl (by decide)) ?_
  refine .nil ?_
  -- append 104
  refine .append rfl rfl rfl rfl et_22 rfl (.head _) rfl (fun y hy => by obtain rfl := List.mem_singleton.1 hy; rfl) (by simp at hd ⊢; omega) (by simp at hd ⊢; omega) ?_
  refine .sA (.assignO rfl rfl) ?_
  refine .aA (.nil ?_)
  refine .adoptRow 700 75 3 500 (done ++ cur.toList).length 4 (.head _) (adopt_at _ _) rfl rfl ?_
  refine .obsEq [(700, .row 75 3 []), (500, .rowS 80 5 (rdRow (done ++ cur.toList) (lastS ⟨strL s, (u : Int), (v : Int), (z : Int), []⟩)))] (by rw [← adopt_eq]; rfl) ?_
  refine .ret ?_
  exact ⟨⟨SLe.refl _, SLe.refl _⟩, mem_ob_eq (.tail _ (.head _)) rfl, mem_ob_eq (.head _) rfl, trivial⟩

end Go.Proofs.YtcfamaddnmnaeaaGreatDoor

namespace Go.Proofs.YtcfamaddnmnaeaaGreatDoor
open Go.RowKit
set_option linter.unusedVariables false

/-! Types. -/
namespace TyDD
end TyDD
open TyF0 TyF1 TyF2 TyF3 TyF4 TyF5 TyF6 TyF7 TyF8 TyF9 TyF10 TyF11 TyG1 TyG2 TyG5 TyU1 TyU2 TyU3 TyU4 TyM1 TyM2 TyM3 TyDA TyDB TyDC TyDD

theorem c_cutL (l : List UInt8) (c : UInt8) (hs : l.length < 4294967281) : ACallT Tryz.prog MaxT 27 [.v (.string (strL l)), .v (.string ⟨#[c]⟩)]
  (.tup [.v (.string (strL (Lib.cut l [c]).1)), .v (.string (strL (Lib.cut l [c]).2.1)), .v (.bool (Lib.cut l [c]).2.2)]) := c_cutA (strL l) c (by rw [strL_size]; exact hs)

set_option linter.unusedSimpArgs false
def lnX (l : List UInt8) : List UInt8 := ((ct 10 l).map Prod.fst).getD l
def lnR (l : List UInt8) : List UInt8 := ((ct 10 l).map Prod.snd).getD []
theorem c_cutN (l : List UInt8) (hs : l.length < 4294967281) : ACallT Tryz.prog MaxT 27 [.v (.string (strL l)), .v (.string ⟨#[10]⟩)] (.tup [.v (.string (strL (lnX l))), .v (.string (strL (lnR l))), .v (.bool (ct 10 l).isSome)]) := by
 have h := c_cutL l 10 hs
 rw [cut_ct] at h
 unfold lnX lnR
 cases hc : ct 10 l with
 | none => rw [hc] at h; exact h
 | some p => rw [hc] at h; exact h
section
variable {r : Rg} {l t : List UInt8} {i : Int}
theorem lnX_len (l : List UInt8) : (lnX l).length ≤ l.length := by
  unfold lnX
  cases h : ct 10 l with
  | none => exact Nat.le_refl _
  | some p => have := ct_lt h; show p.1.length ≤ _; omega
theorem bad_ln (h : takeV r (lnX l) = none) : ct 10 l = none ∨ ∃ p, ct 10 l = some p ∧ takeV r p.1 = none := by
  cases hc : ct 10 l with
  | none => exact .inl rfl
  | some p =>
    refine .inr ⟨p, rfl, ?_⟩
    unfold lnX at h
    rw [hc] at h; exact h

theorem readV_l (h : 200000 < t.length) : readV t = ([], 0, 2) := if_pos h
theorem readV_bad (h0 : ¬ 200000 < t.length) (h : readA rg0 t 1 = (r, i)) (hi : i ≠ 0) : readV t = ([], i, 10) := by
  unfold readV
  rw [if_neg h0, h, if_pos hi]
theorem readV_chk (h0 : ¬ 200000 < t.length) (h : readA rg0 t 1 = (r, 0)) (hc : logF r.all ≠ 0) : readV t = ([], 0, logF r.all) := by
  unfold readV
  rw [if_neg h0, h, if_neg (fun hh => hh rfl), if_pos hc]
theorem readV_ok (h0 : ¬ 200000 < t.length) (h : readA rg0 t 1 = (r, 0)) (hc : logF r.all = 0) : readV t = (r.all, 0, 0) := by
  unfold readV
  rw [if_neg h0, h, if_neg (fun hh => hh rfl), if_neg (fun hh => hh hc)]
theorem RgOk.cs {c : Nat} (h : RgOk r c) : (curL r.cur).length ≤ c := by
  cases hc : r.cur with
  | none => exact Nat.zero_le _
  | some x => exact (h.rpt x (by unfold Rg.all; rw [hc]; simp)).2.1
end

set_option maxRecDepth 100000 in
set_option maxHeartbeats 4000000 in
theorem c_pRead (s : ByteArray) : ACallT Tryz.prog MaxT 8 [.v (.string s)] (.tup [.sl ((readV s.data.toList).1.map Rpt.ds), .v (.int .i64 (readV s.data.toList).2.1), .v (.int .i64 (readV s.data.toList).2.2)]) := by
  refine acall_ofT (n := 42) (ds' := [.sl ((readV s.data.toList).1.map Rpt.ds), .v (.int .i64 (readV s.data.toList).2.1), .v (.int .i64 (readV s.data.toList).2.2)]) Tryz.func8 rfl (by kernel_rfl) rfl [2, 3, 4] rfl rfl ?_
  intro B w0 F0 hT
  have hsl := Lib.size_eq s
  refine .sr ?_
  refine .aA ?_
  refine .aA ?_
  refine .aA (.nil ?_)
  refine .seq ?_
  refine .sr ?_
  refine .mA ?_
  refine .sA (.lenStr rfl st_9 rfl) ?_
  refine .sA (.gtr rfl rfl rfl) (.nil ?_)
  refine .cond rfl (fun h1 => ?_) (fun h1 => ?_)
  · replace h1 := of_decide_eq_true h1
    rw [readV_l (by omega)]
    refine .sr ?_
    refine .aA ?_
    refine .aA ?_
    refine .aA (.nil ?_)
    refine .ret ?_
    refine ⟨RetD.nil rfl, RetD.eq rfl ?_, RetD.eq rfl ?_, trivial⟩
    all_goals (first | rfl | simp)
  replace h1 := of_decide_eq_false h1
  have h0 : ¬ 200000 < s.data.toList.length := by omega
  refine .skip ?_
  refine .sr ?_
  refine .sA (.assign rfl) (.nil ?_)
  refine .seq ?_
  refine .seq ?_
  refine .adopt 5 500 80 5 rfl rfl ?_
  refine .rowToS 500 (.head _) ?_
  refine .adopt 2 700 75 3 rfl rfl ?_
  refine .obs (σ' := rdObs rg0) (fun p hp => by
    simp only [rdObs, List.mem_cons, List.not_mem_nil, or_false] at hp
    rcases hp with rfl | rfl
    · exact .tail _ (.head _)
    exact .head _) ?_
  refine .region ?_
  refine .aA (.nil ?_)
  refine .block ?_
  refine .loop (G := List UInt8 × Rg × Nat) (fun ⟨y, r, n⟩ => Env.of [(0, .d (.v (.string (strL y)))), (6, .d (.v (.int .i64 ((n : Int) + 1)))), (5, .own 500)]) (fun ⟨y, r, n⟩ => (rdObs r)) (fun ⟨y, r, n⟩ => readA rg0 s.data.toList 1 = readA r y ((n : Int) + 1) ∧ RgOk r (s.size - y.length) ∧ y.length ≤ s.size ∧ n + y.length ≤ s.size) (fun ⟨y, r, n⟩ => y.length) (s.data.toList, rg0, 0) ⟨rfl, rgOk_0 _, by show s.data.toList.length ≤ _; omega, by show 0 + s.data.toList.length ≤ _; omega⟩ (Sub.less ⟨(SLe.of_eq rfl), (SLe.of_eq rfl), SLe.refl _, trivial⟩ (fun _ h => h)) ?_
  rintro ⟨y, r, n⟩ ⟨hR, HO, hy1, hy2⟩
  try dsimp only at hR HO hy1 hy2
  refine .seq ?_
  refine .sr ?_
  refine .mA ?_
  refine .sA (.sneq rfl rfl rfl) (.nil ?_)
  refine .cond rfl (fun h2 => ?_) (fun h2 => ?_)
  · replace h2 := of_decide_eq_true h2
    have hy : y ≠ [] := fun hh => h2 (strL_nil.2 hh)
    have hal := HO.len
    have hcl := HO.cs
    have hxl := lnX_len y
    refine .skip ?_
    refine .seq ?_
    refine .block ?_
    refine .sr ?_
    refine .mA ?_
    -- wants the world
    refine .callT rfl rfl rfl hT maxT_stays rfl (.cons (.rfl' rfl) (.cons (.rfl' rfl) .nil)) (c_cutN y (by omega)) ?_
    refine .mA ?_
    refine .sA (.extract rfl rfl rfl) ?_
    refine .sA (.extract rfl rfl rfl) ?_
    refine .sA (.extract rfl rfl rfl) ?_
    refine .aA ?_
    refine .aA ?_
    refine .aA (.nil ?_)
    refine .sr ?_
    refine .aA (.nil ?_)
    refine .seq ?_
    refine .sr ?_
    refine .mA (.nil ?_)
    refine .cond rfl (fun h3 => ?_) (fun h3 => ?_)
    · skip
      obtain ⟨⟨x, z⟩, hct⟩ : ∃ p, ct 10 y = some p := Option.isSome_iff_exists.1 (by simpa using h3)
      have hX : lnX y = x := by unfold lnX; rw [hct]; rfl
      have hZ : lnR y = z := by unfold lnR; rw [hct]; rfl
      have hln := ct_lt hct
      try dsimp only at hln
      rw [hX, hZ]
      refine .region ?_
      refine .sA (.moveO rfl rfl) ?_
      refine .mA ?_
      refine .callX2T rfl rfl rfl rfl (TC.of maxT_at hT) (.cons (SLe.refl _) (.cons (SLe.refl _) .nil)) (c_pLine r.done r.cur (strL x) (by rw [strL_size]; omega) (by show r.all.length ≤ _; omega) (by omega) HO.op) ⟨(.head _), (.tail _ (.head _)), trivial⟩ rfl rfl (fun _ h => rfl) rfl rfl rfl rfl rfl rfl rfl rfl rfl rfl rfl rfl rfl ?_
      skip
      skip
      skip
      refine .sA (.assign rfl) ?_
      refine .aA (.nil ?_)
      refine .seq ?_
      refine .sr ?_
      refine .mA ?_
      refine .sA (.not rfl rfl) (.nil ?_)
      refine .cond rfl (fun h4 => ?_) (fun h4 => ?_)
      · replace h4 := bnot_t h4
        have hz : takeV (⟨r.done, r.cur⟩ : Rg) (strL x).data.toList = none := by simpa using h4
        have hn : takeV r x = none := hz
        have HV := readV_bad h0 (hR.trans (readA_bad hy (.inr ⟨_, hct, hn⟩))) (by omega)
        rw [HV]
        refine .sr ?_
        refine .mA ?_
        refine .aA ?_
        refine .aA ?_
        refine .aA (.nil ?_)
        refine .ret ?_
        refine ⟨RetD.nil rfl, RetD.eq rfl ?_, RetD.eq rfl ?_, trivial⟩
        all_goals (first | rfl | simp)
      replace h4 := bnot_f h4
      obtain ⟨r2, HN⟩ : ∃ r2, takeV (⟨r.done, r.cur⟩ : Rg) (strL x).data.toList = some r2 := Option.isSome_iff_exists.1 (by simpa using h4)
      have hr2 : takeV r x = some r2 := HN
      rw [HN]
      have HO2 := (takeV_ok HO hr2).mono (c' := s.size - z.length) (by omega)
      have HA := hR.trans (readA_next hct hr2)
      refine .skip ?_
      refine .region ?_
      refine .mA ?_
      refine .aA (.nil ?_)
      refine .region ?_
      refine .mA ?_
      refine .sA (.add64 rfl rfl rfl (by omega) (by omega)) ?_
      refine .aA (.nil ?_)
      refine ⟨(z, r2, n + 1), ⟨by show _ = readA r2 z (((n + 1 : Nat) : Int) + 1); rw [show ((n + 1 : Nat) : Int) + 1 = (n : Int) + 1 + 1 by omega]; exact HA, HO2, by show z.length ≤ _; omega, by show n + 1 + z.length ≤ _; omega⟩, (by dsimp only; omega), Sub.less ⟨(SLe.of_eq rfl), (SLe.of_eq (by congr 1)), SLe.refl _, trivial⟩ (fun _ h => h)⟩
    have hct : ct 10 y = none := by
      cases hh : ct 10 y with
      | none => rfl
      | some v => rw [hh] at h3; cases h3
    have HV := readV_bad h0 (hR.trans (readA_bad hy (.inl hct))) (by omega)
    rw [HV]
    refine .skip ?_
    refine .seq ?_
    refine .sr ?_
    refine .mA ?_
    refine .sA (.not rfl rfl) (.nil ?_)
    refine .cond rfl (fun _ => ?_) (fun h => nomatch h)
    refine .sr ?_
    refine .mA ?_
    refine .aA ?_
    refine .aA ?_
    refine .aA (.nil ?_)
    refine .ret ?_
    refine ⟨RetD.nil rfl, RetD.eq rfl ?_, RetD.eq rfl ?_, trivial⟩
    all_goals (first | rfl | simp)
  replace h2 := of_decide_eq_false h2
  have hy : y = [] := strL_nil.1 (by first | exact h2 | exact Decidable.not_not.1 h2)
  subst hy
  rw [readA_nil] at hR
  refine .exit ?_
  refine .seq ?_
  refine .seq ?_
  refine .rdFreeze (done := r.done) (cur := r.cur) ?_ (fun p hp => hp)
  refine .region ?_
  refine .freeze 5 rfl (.head _) ?_
  refine .mA ?_
  -- wants the world
  refine .callT rfl rfl rfl hT maxT_stays rfl (.cons (.rfl' rfl) .nil) (c_pLog r.all (HO.okr (by omega))) ?_
  refine .aA (.nil ?_)
  refine .sr ?_
  refine .mA ?_
  refine .sA (.neq rfl rfl rfl) (.nil ?_)
  refine .cond rfl (fun h5 => ?_) (fun h5 => ?_)
  · replace h5 := of_decide_eq_true h5
    rw [readV_chk h0 hR h5]
    refine .sr ?_
    refine .mA ?_
    refine .aA ?_
    refine .aA ?_
    refine .aA (.nil ?_)
    refine .ret ?_
    refine ⟨RetD.nil rfl, RetD.eq rfl ?_, RetD.eq rfl ?_, trivial⟩
    all_goals (first | rfl | simp)
  replace h5 := of_decide_eq_false h5
  rw [readV_ok h0 hR (by first | exact h5 | exact Decidable.not_not.1 h5)]
  refine .skip ?_
  refine .sr ?_
  refine .mA ?_
  refine .aA ?_
  refine .aA ?_
  refine .aA (.nil ?_)
  refine .ret ?_
  refine ⟨RetD.eq rfl ?_, RetD.eq rfl ?_, RetD.eq rfl ?_, trivial⟩
  all_goals (first | rfl | simp)

end Go.Proofs.YtcfamaddnmnaeaaGreatDoor

namespace Go.Proofs.YtcfamaddnmnaeaaGreatDoor
open Go.RowKit
set_option linter.unusedVariables false

/-! Types. -/
namespace TyDE
end TyDE
open TyF0 TyF1 TyF2 TyF3 TyF4 TyF5 TyF6 TyF7 TyF8 TyF9 TyF10 TyF11 TyG1 TyG2 TyG5 TyU1 TyU2 TyU3 TyU4 TyM1 TyM2 TyM3 TyDA TyDB TyDC TyDD TyDE

set_option linter.unusedSimpArgs false
def numI (w : List UInt8) : Int := (((numT w).getD 0 : Nat) : Int)
def uZ : Usd := ⟨⟨#[]⟩, 0, 0⟩
def rZ : Rpt := ⟨⟨#[]⟩, 0, 0, 0, []⟩
def refU (l : List UInt8) : Usd := match spk 32 2 l with
  | [a, b, t] => if t = [] then uZ else ⟨strL t, numI a, numI b⟩
  | _ => uZ
def refH (l : List UInt8) : Rpt := match spl 32 l with
  | [s, a, b, c] => if s = [] then rZ else ⟨strL s, numI a, numI b, numI c, []⟩
  | _ => rZ
def rhD (x : Rpt) : List D := newD x.source x.no x.period x.corrects
theorem refU_eq {l : List UInt8} {u : Usd} (h : usedV l = some u) : refU l = u := by
  obtain ⟨a, b, t, n, m, hw, h0, h1, h2, rfl⟩ := used_some h
  unfold refU
  rw [hw]
  dsimp only
  rw [if_neg h0]
  unfold numI
  rw [h1, h2]; rfl
theorem refH_eq {l : List UInt8} {x : Rpt} (h : headV l = some x) : refH l = x := by
  obtain ⟨s, a, b, c, n, m, k, hw, h0, h1, h2, h3, rfl⟩ := head_some h
  unfold refH
  rw [hw]
  dsimp only
  rw [if_neg h0]
  unfold numI
  rw [h1, h2, h3]; rfl
theorem ru_no3 {l : List UInt8} (h : (spk 32 2 l).length ≠ 3) : refU l = uZ ∧ usedV l = none := ⟨by
  unfold refU
  split
  · rename_i hh; rw [hh] at h; simp at h
  · rfl, used_no3 h⟩
theorem ru_e {l a b t : List UInt8} (hw : spk 32 2 l = [a, b, t]) (h : t = []) : refU l = uZ ∧ usedV l = none := ⟨by unfold refU; rw [hw]; exact if_pos h, used_e hw h⟩
theorem ru_y {l a b t : List UInt8} (hw : spk 32 2 l = [a, b, t]) (h : ¬ t = []) : refU l = ⟨strL t, numI a, numI b⟩ ∧ (usedV l).isSome = ((numT a).isSome && (numT b).isSome) := ⟨by unfold refU; rw [hw]; exact if_neg h, by
  rw [used_3 hw, if_neg h]
  cases numT a <;> cases numT b <;> rfl⟩
theorem rh_no4 {l : List UInt8} (h : (spl 32 l).length ≠ 4) : refH l = rZ ∧ headV l = none := ⟨by
  unfold refH
  split
  · rename_i hh; rw [hh] at h; simp at h
  · rfl, head_no4 h⟩
theorem rh_e {l s a b c : List UInt8} (hw : spl 32 l = [s, a, b, c]) (h : s = []) : refH l = rZ ∧ headV l = none := ⟨by unfold refH; rw [hw]; exact if_pos h, head_e hw h⟩
theorem rh_y {l s a b c : List UInt8} (hw : spl 32 l = [s, a, b, c]) (h : ¬ s = []) : refH l = ⟨strL s, numI a, numI b, numI c, []⟩ ∧ (headV l).isSome = ((numT a).isSome && ((numT b).isSome && (numT c).isSome)) := ⟨by unfold refH; rw [hw]; exact if_neg h, by
  rw [head_4 hw, if_neg h]
  cases numT a <;> cases numT b <;> cases numT c <;> rfl⟩
theorem c_rNumL (l : List UInt8) (h : l.length ≤ 9223372036854775807) : ACall Tryz.prog 74 [.v (.string (strL l))] (.tup [.v (.int .i64 (((numT l).getD 0 : Nat) : Int)), .v (.bool (numT l).isSome)]) := by
 have := c_rNum (strL l) (by rw [strL_size]; exact h)
 rwa [strL_list] at this

set_option maxRecDepth 100000 in
set_option maxHeartbeats 1000000 in
theorem c_rUsed (s : ByteArray) (hs : s.size ≤ 200000) : ACallT Tryz.prog MaxT 31 [.v (.string s)] (.tup [.agg (refU s.data.toList).ds, .v (.bool (usedV s.data.toList).isSome)]) := by
  refine acall_ofRT (n := 45) (ds' := [.agg (refU s.data.toList).ds, .v (.bool (usedV s.data.toList).isSome)]) Tryz.func31 rfl (by kernel_rfl) rfl [.cell 2 75, .tmp 3] rfl rfl ?_
  intro B w0 F0 hT
  have hsl := Lib.size_eq s
  refine .sr ?_
  refine .alloc 301 rfl rfl rfl rfl zt_75 rfl rfl rfl ?_
  refine .aA (.nil ?_)
  refine .sr ?_
  refine .mA ?_
  -- wants the world
  refine .callT rfl rfl rfl hT maxT_stays rfl (.cons (.rfl' rfl) (.cons (.rfl' rfl) (.cons (.rfl' rfl) .nil))) (c_split3 s.data.toList (by omega)) ?_
  refine .aA (.nil ?_)
  refine .seq ?_
  refine .sr ?_
  refine .mA ?_
  refine .sA (.lenSl rfl et_146.ht rfl) ?_
  refine .sA (.neq rfl rfl rfl) ?_
  refine .mA ?_
  refine .split 14 rfl (fun g1 => ?_) (fun g1 => ?_)
  · replace g1 := of_decide_eq_true g1
    rw [List.length_map] at g1
    obtain ⟨HR, HT⟩ := ru_no3 (l := s.data.toList) (by omega)
    rw [HR, HT]
    refine .pA ?_
    refine .pA ?_
    refine .pA ?_
    refine .pA ?_
    refine .sA (.pickT rfl rfl rfl) (.nil ?_)
    refine .cond rfl (fun _ => ?_) (fun h => nomatch h)
    refine .sr ?_
    refine .sA (.build rfl bu_75 .nil rfl) ?_
    refine .store rfl rfl rfl sz_75 rfl (.head _) rfl rfl rfl (Nat.le_of_ble_eq_true rfl) ?_
    refine .aA (.nil ?_)
    refine .ret ?_
    refine ⟨RetR.agg rfl (.head _) ag_75 rfl (.cons (by first | exact CellD.nil | exact CellD.d | exact CellD.eq (by simp) | (refine CellD.own (by first | exact .head _ | exact .tail _ (.head _)) ?_; rfl)) (.cons (by first | exact CellD.nil | exact CellD.d | exact CellD.eq (by simp) | (refine CellD.own (by first | exact .head _ | exact .tail _ (.head _)) ?_; rfl)) (.cons (by first | exact CellD.nil | exact CellD.d | exact CellD.eq (by simp) | (refine CellD.own (by first | exact .head _ | exact .tail _ (.head _)) ?_; rfl)) .nil))), RetD.eq rfl ?_, trivial⟩
    all_goals (first | (rw [k1]; done) | (rw [k1]; rfl) | (rw [k1]; simp; done) | rfl)
  replace g1 := of_decide_eq_false g1
  rw [List.length_map] at g1
  obtain ⟨a, b, t, hw⟩ := three (l := (spk 32 2 s.data.toList)) (by omega)
  obtain ⟨la, lb, lt⟩ := spk_l3 hw
  refine .sG (.moveD rfl rfl) ?_
  refine .sG (.indexAddr rfl et_146 rfl rfl 2 rfl (show ((spk 32 2 s.data.toList).map pcD)[2]? = some (pcD t) by rw [hw]; rfl) rfl) ?_
  refine .sG (.load rfl sc_9 rfl) ?_
  refine .sG (.seql rfl rfl rfl) ?_
  refine .sA (.pickF rfl rfl rfl) (.nil ?_)
  refine .cond rfl (fun h2 => ?_) (fun h2 => ?_)
  · replace h2 := of_decide_eq_true h2
    first | skip | skip
    try (obtain ⟨HR, HT⟩ := ru_e hw (strL_nil.1 h2); rw [HR, HT])
    refine .sr ?_
    refine .sA (.build rfl bu_75 .nil rfl) ?_
    refine .store rfl rfl rfl sz_75 rfl (.head _) rfl rfl rfl (Nat.le_of_ble_eq_true rfl) ?_
    refine .aA (.nil ?_)
    refine .ret ?_
    refine ⟨RetR.agg rfl (.head _) ag_75 rfl (.cons (by first | exact CellD.nil | exact CellD.d | exact CellD.eq (by simp) | (refine CellD.own (by first | exact .head _ | exact .tail _ (.head _)) ?_; rfl)) (.cons (by first | exact CellD.nil | exact CellD.d | exact CellD.eq (by simp) | (refine CellD.own (by first | exact .head _ | exact .tail _ (.head _)) ?_; rfl)) (.cons (by first | exact CellD.nil | exact CellD.d | exact CellD.eq (by simp) | (refine CellD.own (by first | exact .head _ | exact .tail _ (.head _)) ?_; rfl)) .nil))), RetD.eq rfl ?_, trivial⟩
    all_goals (first | (rw [k1]; done) | (rw [k1]; rfl) | (rw [k1]; simp; done) | rfl)
  replace h2 := of_decide_eq_false h2
  obtain ⟨HR, HT⟩ := ru_y hw (fun hh => h2 (strL_nil.2 hh))
  rw [HR, HT]
  refine .skip ?_
  refine .sr ?_
  refine .mA ?_
  refine .sA (.indexAddr rfl et_146 rfl rfl 0 rfl (show ((spk 32 2 s.data.toList).map pcD)[0]? = some (pcD a) by rw [hw]; rfl) rfl) ?_
  refine .sA (.load rfl sc_9 rfl) ?_
  refine .sA (.call rfl (.cons (.rfl' rfl) .nil) (c_rNumL a (by omega))) ?_
  refine .mA ?_
  refine .sA (.extract rfl rfl rfl) ?_
  refine .sA (.extract rfl rfl rfl) ?_
  refine .aA ?_
  refine .aA (.nil ?_)
  refine .sr ?_
  refine .mA ?_
  refine .sA (.indexAddr rfl et_146 rfl rfl 1 rfl (show ((spk 32 2 s.data.toList).map pcD)[1]? = some (pcD b) by rw [hw]; rfl) rfl) ?_
  refine .sA (.load rfl sc_9 rfl) ?_
  refine .sA (.call rfl (.cons (.rfl' rfl) .nil) (c_rNumL b (by omega))) ?_
  refine .mA ?_
  refine .sA (.extract rfl rfl rfl) ?_
  refine .sA (.extract rfl rfl rfl) ?_
  refine .aA ?_
  refine .aA (.nil ?_)
  refine .sr ?_
  refine .mA ?_
  refine .sA (.indexAddr rfl et_146 rfl rfl 2 rfl (show ((spk 32 2 s.data.toList).map pcD)[2]? = some (pcD t) by rw [hw]; rfl) rfl) ?_
  refine .sA (.load rfl sc_9 rfl) ?_
  refine .mA ?_
  refine .mA ?_
  refine .sA (.build rfl bu_75 (.cons rfl rfl (.cons rfl rfl (.cons rfl rfl .nil))) rfl) ?_
  refine .mA ?_
  refine .mA ?_
  refine .split 42 rfl (fun g3 => ?_) (fun g3 => ?_)
  · skip
    have k1 := g3
    refine .sG (.moveD rfl rfl) ?_
    refine .sA (.pickT rfl rfl rfl) ?_
    refine .store rfl rfl rfl sz_75 rfl (.head _) rfl rfl rfl (Nat.le_of_ble_eq_true rfl) ?_
    refine .aA (.nil ?_)
    refine .ret ?_
    refine ⟨RetR.agg rfl (.head _) ag_75 rfl (.cons (by first | exact CellD.nil | exact CellD.d | exact CellD.eq (by simp) | (refine CellD.own (by first | exact .head _ | exact .tail _ (.head _)) ?_; rfl)) (.cons (by first | exact CellD.nil | exact CellD.d | exact CellD.eq (by simp) | (refine CellD.own (by first | exact .head _ | exact .tail _ (.head _)) ?_; rfl)) (.cons (by first | exact CellD.nil | exact CellD.d | exact CellD.eq (by simp) | (refine CellD.own (by first | exact .head _ | exact .tail _ (.head _)) ?_; rfl)) .nil))), RetD.eq rfl ?_, trivial⟩
    all_goals (first | (rw [k1]; done) | (rw [k1]; rfl) | (rw [k1]; simp; done) | rfl)
  have k1 := g3
  refine .pA ?_
  refine .sA (.pickF rfl rfl rfl) ?_
  refine .store rfl rfl rfl sz_75 rfl (.head _) rfl rfl rfl (Nat.le_of_ble_eq_true rfl) ?_
  refine .aA (.nil ?_)
  refine .ret ?_
  refine ⟨RetR.agg rfl (.head _) ag_75 rfl (.cons (by first | exact CellD.nil | exact CellD.d | exact CellD.eq (by simp) | (refine CellD.own (by first | exact .head _ | exact .tail _ (.head _)) ?_; rfl)) (.cons (by first | exact CellD.nil | exact CellD.d | exact CellD.eq (by simp) | (refine CellD.own (by first | exact .head _ | exact .tail _ (.head _)) ?_; rfl)) (.cons (by first | exact CellD.nil | exact CellD.d | exact CellD.eq (by simp) | (refine CellD.own (by first | exact .head _ | exact .tail _ (.head _)) ?_; rfl)) .nil))), RetD.eq rfl ?_, trivial⟩
  all_goals (first | (rw [k1]; done) | (rw [k1]; rfl) | (rw [k1]; simp; done) | rfl)

set_option maxRecDepth 100000 in
set_option maxHeartbeats 1000000 in
theorem c_rHead (s : ByteArray) (hs : s.size ≤ 200000) : ACallT Tryz.prog MaxT 32 [.v (.string s)] (.tup [.agg (rhD (refH s.data.toList)), .v (.bool (headV s.data.toList).isSome)]) := by
  refine acall_ofRT (n := 58) (ds' := [.agg (rhD (refH s.data.toList)), .v (.bool (headV s.data.toList).isSome)]) Tryz.func32 rfl (by kernel_rfl) rfl [.cell 2 80, .tmp 3] rfl rfl ?_
  intro B w0 F0 hT
  have hsl := Lib.size_eq s
  refine .sr ?_
  refine .alloc 301 rfl rfl rfl rfl zt_80 rfl rfl rfl ?_
  refine .aA (.nil ?_)
  refine .sr ?_
  refine .mA ?_
  -- wants the world
  refine .callT rfl rfl rfl hT maxT_stays rfl (.cons (.rfl' rfl) (.cons (.rfl' rfl) .nil)) (c_split s 32 (by omega)) ?_
  refine .aA (.nil ?_)
  refine .seq ?_
  refine .sr ?_
  refine .mA ?_
  refine .sA (.lenSl rfl et_146.ht rfl) ?_
  refine .sA (.neq rfl rfl rfl) ?_
  refine .mA ?_
  refine .split 16 rfl (fun g1 => ?_) (fun g1 => ?_)
  · replace g1 := of_decide_eq_true g1
    rw [List.length_map] at g1
    obtain ⟨HR, HT⟩ := rh_no4 (l := s.data.toList) (by omega)
    rw [HR, HT]
    refine .pA ?_
    refine .pA ?_
    refine .pA ?_
    refine .pA ?_
    refine .sA (.pickT rfl rfl rfl) (.nil ?_)
    refine .cond rfl (fun _ => ?_) (fun h => nomatch h)
    refine .sr ?_
    refine .sA (.build rfl bu_80 .nil rfl) ?_
    refine .store rfl rfl rfl sz_80 rfl (.head _) rfl rfl rfl (Nat.le_of_ble_eq_true rfl) ?_
    refine .aA (.nil ?_)
    refine .ret ?_
    refine ⟨RetR.agg rfl (.head _) ag_80 rfl (.cons (by first | exact CellD.nil | exact CellD.d | exact CellD.eq (by simp) | (refine CellD.own (by first | exact .head _ | exact .tail _ (.head _)) ?_; rfl)) (.cons (by first | exact CellD.nil | exact CellD.d | exact CellD.eq (by simp) | (refine CellD.own (by first | exact .head _ | exact .tail _ (.head _)) ?_; rfl)) (.cons (by first | exact CellD.nil | exact CellD.d | exact CellD.eq (by simp) | (refine CellD.own (by first | exact .head _ | exact .tail _ (.head _)) ?_; rfl)) (.cons (by first | exact CellD.nil | exact CellD.d | exact CellD.eq (by simp) | (refine CellD.own (by first | exact .head _ | exact .tail _ (.head _)) ?_; rfl)) (.cons (by first | exact CellD.nil | exact CellD.d | exact CellD.eq (by simp) | (refine CellD.own (by first | exact .head _ | exact .tail _ (.head _)) ?_; rfl)) .nil))))), RetD.eq rfl ?_, trivial⟩
    all_goals (first | rfl | (rw [k1, k2]; done) | (rw [k1, k2]; rfl) | (rw [k1]; done) | (rw [k1]; rfl))
  replace g1 := of_decide_eq_false g1
  rw [List.length_map] at g1
  obtain ⟨w, a, b, c, hw⟩ := four (l := (spl 32 s.data.toList)) (by omega)
  obtain ⟨lw, la, lb, lc⟩ := spl_l4 hw
  refine .sG (.moveD rfl rfl) ?_
  refine .sG (.indexAddr rfl et_146 rfl rfl 0 rfl (show ((spl 32 s.data.toList).map pcD)[0]? = some (pcD w) by rw [hw]; rfl) rfl) ?_
  refine .sG (.load rfl sc_9 rfl) ?_
  refine .sG (.seql rfl rfl rfl) ?_
  refine .sA (.pickF rfl rfl rfl) (.nil ?_)
  refine .cond rfl (fun h2 => ?_) (fun h2 => ?_)
  · replace h2 := of_decide_eq_true h2
    try (obtain ⟨HR, HT⟩ := rh_e hw (strL_nil.1 h2); rw [HR, HT])
    refine .sr ?_
    refine .sA (.build rfl bu_80 .nil rfl) ?_
    refine .store rfl rfl rfl sz_80 rfl (.head _) rfl rfl rfl (Nat.le_of_ble_eq_true rfl) ?_
    refine .aA (.nil ?_)
    refine .ret ?_
    refine ⟨RetR.agg rfl (.head _) ag_80 rfl (.cons (by first | exact CellD.nil | exact CellD.d | exact CellD.eq (by simp) | (refine CellD.own (by first | exact .head _ | exact .tail _ (.head _)) ?_; rfl)) (.cons (by first | exact CellD.nil | exact CellD.d | exact CellD.eq (by simp) | (refine CellD.own (by first | exact .head _ | exact .tail _ (.head _)) ?_; rfl)) (.cons (by first | exact CellD.nil | exact CellD.d | exact CellD.eq (by simp) | (refine CellD.own (by first | exact .head _ | exact .tail _ (.head _)) ?_; rfl)) (.cons (by first | exact CellD.nil | exact CellD.d | exact CellD.eq (by simp) | (refine CellD.own (by first | exact .head _ | exact .tail _ (.head _)) ?_; rfl)) (.cons (by first | exact CellD.nil | exact CellD.d | exact CellD.eq (by simp) | (refine CellD.own (by first | exact .head _ | exact .tail _ (.head _)) ?_; rfl)) .nil))))), RetD.eq rfl ?_, trivial⟩
    all_goals (first | rfl | (rw [k1, k2]; done) | (rw [k1, k2]; rfl) | (rw [k1]; done) | (rw [k1]; rfl))
  replace h2 := of_decide_eq_false h2
  obtain ⟨HR, HT⟩ := rh_y hw (fun hh => h2 (strL_nil.2 hh))
  rw [HR, HT]
  refine .skip ?_
  refine .sr ?_
  refine .mA ?_
  refine .sA (.indexAddr rfl et_146 rfl rfl 1 rfl (show ((spl 32 s.data.toList).map pcD)[1]? = some (pcD a) by rw [hw]; rfl) rfl) ?_
  refine .sA (.load rfl sc_9 rfl) ?_
  refine .sA (.call rfl (.cons (.rfl' rfl) .nil) (c_rNumL a (by omega))) ?_
  refine .mA ?_
  refine .sA (.extract rfl rfl rfl) ?_
  refine .sA (.extract rfl rfl rfl) ?_
  refine .aA ?_
  refine .aA (.nil ?_)
  refine .sr ?_
  refine .mA ?_
  refine .sA (.indexAddr rfl et_146 rfl rfl 2 rfl (show ((spl 32 s.data.toList).map pcD)[2]? = some (pcD b) by rw [hw]; rfl) rfl) ?_
  refine .sA (.load rfl sc_9 rfl) ?_
  refine .sA (.call rfl (.cons (.rfl' rfl) .nil) (c_rNumL b (by omega))) ?_
  refine .mA ?_
  refine .sA (.extract rfl rfl rfl) ?_
  refine .sA (.extract rfl rfl rfl) ?_
  refine .aA ?_
  refine .aA (.nil ?_)
  refine .sr ?_
  refine .mA ?_
  refine .sA (.indexAddr rfl et_146 rfl rfl 3 rfl (show ((spl 32 s.data.toList).map pcD)[3]? = some (pcD c) by rw [hw]; rfl) rfl) ?_
  refine .sA (.load rfl sc_9 rfl) ?_
  refine .sA (.call rfl (.cons (.rfl' rfl) .nil) (c_rNumL c (by omega))) ?_
  refine .mA ?_
  refine .sA (.extract rfl rfl rfl) ?_
  refine .sA (.extract rfl rfl rfl) ?_
  refine .aA ?_
  refine .aA (.nil ?_)
  refine .sr ?_
  refine .mA ?_
  refine .sA (.indexAddr rfl et_146 rfl rfl 0 rfl (show ((spl 32 s.data.toList).map pcD)[0]? = some (pcD w) by rw [hw]; rfl) rfl) ?_
  refine .sA (.load rfl sc_9 rfl) ?_
  refine .mA ?_
  refine .mA ?_
  refine .mA ?_
  refine .sA (.build rfl bu_80 (.cons rfl rfl (.cons rfl rfl (.cons rfl rfl (.cons rfl rfl .nil)))) rfl) ?_
  refine .mA ?_
  refine .mA ?_
  refine .split 52 rfl (fun g3 => ?_) (fun g3 => ?_)
  · skip
    have k1 := g3
    refine .sG (.moveD rfl rfl) ?_
    refine .sA (.pickT rfl rfl rfl) ?_
    refine .mA ?_
    refine .split 55 rfl (fun g4 => ?_) (fun g4 => ?_)
    · skip
      have k2 := g4
      refine .sG (.moveD rfl rfl) ?_
      refine .sA (.pickT rfl rfl rfl) ?_
      refine .store rfl rfl rfl sz_80 rfl (.head _) rfl rfl rfl (Nat.le_of_ble_eq_true rfl) ?_
      refine .aA (.nil ?_)
      refine .ret ?_
      refine ⟨RetR.agg rfl (.head _) ag_80 rfl (.cons (by first | exact CellD.nil | exact CellD.d | exact CellD.eq (by simp) | (refine CellD.own (by first | exact .head _ | exact .tail _ (.head _)) ?_; rfl)) (.cons (by first | exact CellD.nil | exact CellD.d | exact CellD.eq (by simp) | (refine CellD.own (by first | exact .head _ | exact .tail _ (.head _)) ?_; rfl)) (.cons (by first | exact CellD.nil | exact CellD.d | exact CellD.eq (by simp) | (refine CellD.own (by first | exact .head _ | exact .tail _ (.head _)) ?_; rfl)) (.cons (by first | exact CellD.nil | exact CellD.d | exact CellD.eq (by simp) | (refine CellD.own (by first | exact .head _ | exact .tail _ (.head _)) ?_; rfl)) (.cons (by first | exact CellD.nil | exact CellD.d | exact CellD.eq (by simp) | (refine CellD.own (by first | exact .head _ | exact .tail _ (.head _)) ?_; rfl)) .nil))))), RetD.eq rfl ?_, trivial⟩
      all_goals (first | rfl | (rw [k1, k2]; done) | (rw [k1, k2]; rfl) | (rw [k1]; done) | (rw [k1]; rfl))
    have k2 := g4
    refine .pA ?_
    refine .sA (.pickF rfl rfl rfl) ?_
    refine .store rfl rfl rfl sz_80 rfl (.head _) rfl rfl rfl (Nat.le_of_ble_eq_true rfl) ?_
    refine .aA (.nil ?_)
    refine .ret ?_
    refine ⟨RetR.agg rfl (.head _) ag_80 rfl (.cons (by first | exact CellD.nil | exact CellD.d | exact CellD.eq (by simp) | (refine CellD.own (by first | exact .head _ | exact .tail _ (.head _)) ?_; rfl)) (.cons (by first | exact CellD.nil | exact CellD.d | exact CellD.eq (by simp) | (refine CellD.own (by first | exact .head _ | exact .tail _ (.head _)) ?_; rfl)) (.cons (by first | exact CellD.nil | exact CellD.d | exact CellD.eq (by simp) | (refine CellD.own (by first | exact .head _ | exact .tail _ (.head _)) ?_; rfl)) (.cons (by first | exact CellD.nil | exact CellD.d | exact CellD.eq (by simp) | (refine CellD.own (by first | exact .head _ | exact .tail _ (.head _)) ?_; rfl)) (.cons (by first | exact CellD.nil | exact CellD.d | exact CellD.eq (by simp) | (refine CellD.own (by first | exact .head _ | exact .tail _ (.head _)) ?_; rfl)) .nil))))), RetD.eq rfl ?_, trivial⟩
    all_goals (first | rfl | (rw [k1, k2]; done) | (rw [k1, k2]; rfl) | (rw [k1]; done) | (rw [k1]; rfl))
  have k1 := g3
  refine .pA ?_
  refine .sA (.pickF rfl rfl rfl) ?_
  refine .mA ?_
  refine .pA ?_
  refine .sA (.pickF rfl rfl rfl) ?_
  refine .store rfl rfl rfl sz_80 rfl (.head _) rfl rfl rfl (Nat.le_of_ble_eq_true rfl) ?_
  refine .aA (.nil ?_)
  refine .ret ?_
  refine ⟨RetR.agg rfl (.head _) ag_80 rfl (.cons (by first | exact CellD.nil | exact CellD.d | exact CellD.eq (by simp) | (refine CellD.own (by first | exact .head _ | exact .tail _ (.head _)) ?_; rfl)) (.cons (by first | exact CellD.nil | exact CellD.d | exact CellD.eq (by simp) | (refine CellD.own (by first | exact .head _ | exact .tail _ (.head _)) ?_; rfl)) (.cons (by first | exact CellD.nil | exact CellD.d | exact CellD.eq (by simp) | (refine CellD.own (by first | exact .head _ | exact .tail _ (.head _)) ?_; rfl)) (.cons (by first | exact CellD.nil | exact CellD.d | exact CellD.eq (by simp) | (refine CellD.own (by first | exact .head _ | exact .tail _ (.head _)) ?_; rfl)) (.cons (by first | exact CellD.nil | exact CellD.d | exact CellD.eq (by simp) | (refine CellD.own (by first | exact .head _ | exact .tail _ (.head _)) ?_; rfl)) .nil))))), RetD.eq rfl ?_, trivial⟩
  all_goals (first | rfl | (rw [k1, k2]; done) | (rw [k1, k2]; rfl) | (rw [k1]; done) | (rw [k1]; rfl))

end Go.Proofs.YtcfamaddnmnaeaaGreatDoor

namespace Go.Proofs.YtcfamaddnmnaeaaGreatDoor
open Go.RowKit
set_option linter.unusedVariables false

/-! Types. -/
namespace TyDF
end TyDF
open TyF0 TyF1 TyF2 TyF3 TyF4 TyF5 TyF6 TyF7 TyF8 TyF9 TyF10 TyF11 TyG1 TyG2 TyG5 TyU1 TyU2 TyU3 TyU4 TyM1 TyM2 TyM3 TyDA TyDB TyDC TyDD TyDE TyDF

set_option linter.unusedSimpArgs false
theorem rd_kill (i : Nat) (h : Nat.beq 700 i = false) (r : Rg) : Obs.kill i (rdObs r) = rdObs r := by
  obtain ⟨done, cur⟩ := r
  show [(500, Ob.rowS _ 5 ((rdO done cur).map fun ss => ss.map (S.kill i))), (700, _)] = _
  have e : (rdO done cur).map (fun ss => ss.map (S.kill i)) = rdO done cur := by
    cases cur with
    | none =>
      show (done.map rptS).map _ = done.map rptS
      rw [List.map_map]
      rfl
    | some x =>
      show (rdRow done (lastS x)).map _ = _
      rw [rdRow_kill]
      have e7 : S.kill i (.own 700) = .own 700 := by
        show (match Nat.beq 700 i with | true => S.d D.any | false => S.own 700) = _
        rw [h]
      show rdRow done [.d _, .d _, .d _, .d _, S.kill i (.own 700)] = _
      rw [e7]
      rfl
  rw [e]
  rfl
theorem obs_fix1 {X Y : Ob} (r : Rg) : Obs.del 301 (Obs.upd 301 X ((301, Y) :: Obs.kill 301 (rdObs r))) = rdObs r := by rw [rd_kill 301 rfl]; rfl
theorem obs_fix3 {X Y : Ob} (r : Rg) : Obs.del 302 (Obs.upd 302 X ((302, Y) :: Obs.kill 302 (rdObs r))) = rdObs r := by rw [rd_kill 302 rfl]; rfl
theorem c_cutPL (l : List UInt8) : ACall Tryz.prog 30 [.v (.string (strL l)), .v (.string ⟨#[32, 32]⟩)] (.tup [.v (.string (strL (Lib.trimPrefix l [32, 32]))), .v (.bool (Lib.hasPrefix l [32, 32]))]) := c_cutP2 (strL l)
theorem c_rUsedL (l : List UInt8) (h : l.length ≤ 200000) : ACallT Tryz.prog MaxT 31 [.v (.string (strL l))] (.tup [.agg (refU l).ds, .v (.bool (usedV l).isSome)]) := c_rUsed (strL l) (by rw [strL_size]; exact h)
theorem c_rHeadL (l : List UInt8) (h : l.length ≤ 200000) : ACallT Tryz.prog MaxT 32 [.v (.string (strL l))] (.tup [.agg (rhD (refH l)), .v (.bool (headV l).isSome)]) := c_rHead (strL l) (by rw [strL_size]; exact h)

set_option maxRecDepth 100000 in
set_option maxHeartbeats 8000000 in
theorem c_rRead (s : ByteArray) : ACallT Tryz.prog MaxT 9 [.v (.string s)] (.tup [.sl ((readV s.data.toList).1.map Rpt.ds), .v (.int .i64 (readV s.data.toList).2.1), .v (.int .i64 (readV s.data.toList).2.2)]) := by
  refine acall_ofT (n := 92) (ds' := [.sl ((readV s.data.toList).1.map Rpt.ds), .v (.int .i64 (readV s.data.toList).2.1), .v (.int .i64 (readV s.data.toList).2.2)]) Tryz.func9 rfl (by kernel_rfl) rfl [2, 3, 4] rfl rfl ?_
  intro B w0 F0 hT
  have hsl := Lib.size_eq s
  refine .sr ?_
  refine .aA ?_
  refine .aA ?_
  refine .aA (.nil ?_)
  refine .seq ?_
  refine .sr ?_
  refine .mA ?_
  refine .sA (.lenStr rfl st_9 rfl) ?_
  refine .sA (.gtr rfl rfl rfl) (.nil ?_)
  refine .cond rfl (fun h1 => ?_) (fun h1 => ?_)
  · replace h1 := of_decide_eq_true h1
    rw [readV_l (by omega)]
    refine .sr ?_
    refine .aA ?_
    refine .aA ?_
    refine .aA (.nil ?_)
    refine .ret ?_
    refine ⟨RetD.nil rfl, RetD.eq rfl ?_, RetD.eq rfl ?_, trivial⟩
    all_goals (first | rfl | simp)
  replace h1 := of_decide_eq_false h1
  have h0 : ¬ 200000 < s.data.toList.length := by omega
  refine .skip ?_
  refine .sr ?_
  refine .aA (.nil ?_)
  refine .seq ?_
  refine .seq ?_
  refine .adopt 5 500 80 5 rfl rfl ?_
  refine .rowToS 500 (.head _) ?_
  refine .adopt 2 700 75 3 rfl rfl ?_
  refine .obs (σ' := rdObs rg0) (fun p hp => by
    simp only [rdObs, List.mem_cons, List.not_mem_nil, or_false] at hp
    rcases hp with rfl | rfl
    · exact .tail _ (.head _)
    exact .head _) ?_
  refine .region ?_
  refine .aA (.nil ?_)
  refine .block ?_
  refine .loop (G := List UInt8 × Rg × Nat) (fun ⟨y, r, n⟩ => Env.of [(0, .d (.v (.string (strL y)))), (6, .d (.v (.int .i64 ((n : Int) + 1)))), (5, .own 500)]) (fun ⟨y, r, n⟩ => (rdObs r)) (fun ⟨y, r, n⟩ => readA rg0 s.data.toList 1 = readA r y ((n : Int) + 1) ∧ RgOk r (s.size - y.length) ∧ y.length ≤ s.size ∧ n + y.length ≤ s.size) (fun ⟨y, r, n⟩ => y.length) (s.data.toList, rg0, 0) ⟨rfl, rgOk_0 _, by show s.data.toList.length ≤ _; omega, by show 0 + s.data.toList.length ≤ _; omega⟩ (Sub.less ⟨(SLe.of_eq rfl), (SLe.of_eq rfl), SLe.refl _, trivial⟩ (fun _ h => h)) ?_
  rintro ⟨y, ⟨done, cur⟩, n⟩ ⟨hR, HO, hy1, hy2⟩
  try dsimp only at hR HO hy1 hy2
  refine .seq ?_
  refine .sr ?_
  refine .mA ?_
  refine .sA (.sneq rfl rfl rfl) (.nil ?_)
  refine .cond rfl (fun h2 => ?_) (fun h2 => ?_)
  · replace h2 := of_decide_eq_true h2
    have hy : y ≠ [] := fun hh => h2 (strL_nil.2 hh)
    have hal : (done ++ cur.toList).length ≤ _ := HO.len
    have hcl : (curL cur).length ≤ _ := HO.cs
    have hxl := lnX_len y
    have htl := trimP_le (lnX y) [32, 32]
    refine .skip ?_
    refine .seq ?_
    refine .block ?_
    refine .sr ?_
    refine .mA ?_
    -- wants the world
    refine .callT rfl rfl rfl hT maxT_stays rfl (.cons (.rfl' rfl) (.cons (.rfl' rfl) .nil)) (c_cutN y (by omega)) ?_
    refine .mA ?_
    refine .sA (.extract rfl rfl rfl) ?_
    refine .sA (.extract rfl rfl rfl) ?_
    refine .sA (.extract rfl rfl rfl) ?_
    refine .aA ?_
    refine .aA ?_
    refine .aA (.nil ?_)
    refine .sr ?_
    refine .mA ?_
    refine .aA (.nil ?_)
    refine .seq ?_
    refine .sr ?_
    refine .mA ?_
    refine .sA (.call rfl (.cons (.rfl' rfl) (.cons (.rfl' rfl) .nil)) (c_cutPL (lnX y))) ?_
    refine .mA ?_
    refine .sA (.extract rfl rfl rfl) ?_
    refine .sA (.extract rfl rfl rfl) ?_
    refine .aA ?_
    refine .aA (.nil ?_)
    refine .sr ?_
    refine .mA (.nil ?_)
    refine .cond rfl (fun h3 => ?_) (fun h3 => ?_)
    · skip
      have p2 : Lib.hasPrefix (lnX y) [32, 32] = true := h3
      refine .sr ?_
      refine .mA ?_
      -- wants the world
      refine .callT rfl rfl rfl hT maxT_stays rfl (.cons (.rfl' rfl) .nil) (c_rUsedL (Lib.trimPrefix (lnX y) [32, 32]) (by omega)) ?_
      refine .mA ?_
      refine .sA (.extract rfl rfl rfl) ?_
      refine .sA (.extract rfl rfl rfl) ?_
      refine .alloc 301 rfl rfl rfl rfl zt_75 rfl rfl rfl ?_
      refine .store rfl rfl rfl sz_75 rfl (.head _) rfl rfl rfl (Nat.le_of_ble_eq_true rfl) ?_
      refine .freezeCells 13 (ds := (refU (Lib.trimPrefix (lnX y) [32, 32])).ds) rfl (.head _) ?_
      refine .aA (.nil ?_)
      refine .seq ?_
      refine .obsEq _ (obs_fix1 _) ?_
      refine .region ?_
      refine .mA ?_
      refine .mA ?_
      refine .split 44 rfl (fun g4 => ?_) (fun g4 => ?_)
      · skip
        have e1 : (ct 10 y).isSome = true := g4
        refine .sG (.moveD rfl rfl) ?_
        refine .sA (.pickT rfl rfl rfl) ?_
        refine .mA ?_
        refine .split 47 rfl (fun g5 => ?_) (fun g5 => ?_)
        · skip
          obtain ⟨u, hu⟩ : ∃ u, usedV (Lib.trimPrefix (lnX y) [32, 32]) = some u := Option.isSome_iff_exists.1 (show (usedV (Lib.trimPrefix (lnX y) [32, 32])).isSome = true from g5)
          refine .sG (.moveO rfl rfl) ?_
          refine .sG (.weak (.lenOwn rfl et_22.ht rfl (Obs.weak_mem (.head _)))) ?_
          refine .sG (.gtr rfl rfl rfl) ?_
          refine .sA (.pickT rfl rfl rfl) ?_
          refine .aA (.nil ?_)
          refine .sr ?_
          refine .mA (.nil ?_)
          refine .cond rfl (fun h6 => ?_) (fun h6 => ?_)
          · replace h6 := of_decide_eq_true h6
            have hgp := h6
            obtain ⟨x, rfl⟩ : ∃ x, cur = some x := by
              cases cur with
              | none => exfalso; have hd := HO.op rfl; dsimp only at hd; subst hd; simp [rdO] at h6
              | some x => exact ⟨x, rfl⟩
            have hr2 := tk_u (r := ⟨done, some x⟩) p2 hu rfl
            have hd2 : done.length + 1 ≤ s.size := by have := hal; rw [List.length_append] at this; have h1 : ((some x).toList : List Rpt).length = 1 := rfl; omega
            have HRf := refU_eq hu
            rw [HRf]
            refine .drawLTailL 14 [] [⟨710, [66]⟩] [(13, [66])] (fun τ => (500, Ob.rowS 80 5 (rdRow done (lastS x))) ∈ τ) (by kernel_rfl) (by kernel_rfl) (by kernel_rfl) (by kernel_rfl) (by kernel_rfl) ?_
            refine .step rfl rfl rfl (.head _) (fun τ hτ => AOp.moveO rfl rfl) ?_ rfl ⟨.inr rfl, trivial⟩
            refine .step rfl rfl rfl (.head _) (fun τ hτ => AOp.moveO rfl rfl) ?_ rfl ⟨.inr rfl, trivial⟩
            refine .step rfl rfl rfl (.head _) (fun τ hτ => AOp.weak (.lenOwn rfl et_22.ht rfl (Obs.weak_mem hτ))) ?_ rfl ⟨.inr rfl, trivial⟩
            refine .step rfl rfl rfl (.head _) (fun τ hτ => AOp.sub64 rfl rfl rfl (by rw [List.length_map, rdRow_len]; omega) (by rw [List.length_map, rdRow_len]; omega)) ?_ rfl ⟨.inr rfl, trivial⟩
            refine .step rfl rfl rfl (.head _) (fun τ hτ => AOp.moveO rfl rfl) ?_ rfl ⟨.inr rfl, trivial⟩
            refine .step rfl rfl rfl (.head _) (fun τ hτ => AOp.moveO rfl rfl) ?_ rfl ⟨.inr rfl, trivial⟩
            refine .step rfl rfl rfl (.head _) (fun τ hτ => AOp.weak (.lenOwn rfl et_22.ht rfl (Obs.weak_mem hτ))) ?_ rfl ⟨.inr rfl, trivial⟩
            refine .step rfl rfl rfl (.head _) (fun τ hτ => AOp.sub64 rfl rfl rfl (by rw [List.length_map, rdRow_len]; omega) (by rw [List.length_map, rdRow_len]; omega)) ?_ rfl ⟨.inr rfl, trivial⟩
            refine .step rfl rfl rfl (.head _) (fun τ hτ => AOp.weak (.indexOwn rfl et_22 rfl rfl (Obs.weak_mem hτ) done.length (by rw [List.length_map, rdRow_len]; omega) (by rw [List.length_map, rdRow_len]; omega))) ?_ rfl ⟨.inr rfl, trivial⟩
            refine .step rfl rfl rfl (.head _) (fun τ hτ => AOp.fieldAddrP rfl fo_80_4 rfl) ?_ rfl ⟨.inr rfl, trivial⟩
            refine .step rfl rfl rfl (.head _) (fun τ hτ => AOp.loadRowS rfl sc_78 rfl hτ done.length 4 rfl (rdRow_at _ _) rfl) ?_ rfl ⟨.inr rfl, trivial⟩
            refine .step rfl rfl rfl (.head _) (fun τ hτ => AOp.loadAgg rfl ag_75 rfl rfl) ?_ rfl ⟨.inr rfl, trivial⟩
            refine .step rfl rfl rfl (.head _) (fun τ hτ => AOp.buildSlice rfl et_78 (.cons rfl rfl rfl .nil) rfl (by decide)) ?_ rfl ⟨.inr rfl, trivial⟩
            refine .eff rfl rfl (.head _) (.tail _ (.head _)) (GE.appendN (σ' := [(710, .row 75 3 (x.lines.map Usd.ds ++ [u.ds])), (500, .rowS 80 5 (rdRow done (lastS x)))]) 710 (.head _) (fun t h1 => by simp [h1]) rfl rfl rfl rfl et_78 rfl (.tail _ (.head _)) rfl (fun y hy => by obtain rfl := List.mem_singleton.1 hy; rfl) (by simp [curL] at *; omega) (by simp [curL] at *; omega) rfl (by show [_, (500, Ob.rowS 80 5 ((rdRow done (lastS x)).map _))] = _; rw [rdRow_kill]; rfl)) ?_ clean1
            refine .nil ?_
            refine .sA (.weak (.indexOwn rfl et_22 rfl rfl (Obs.weak_mem (.tail _ (.head _))) done.length (by rw [List.length_map, rdRow_len]; omega) (by rw [List.length_map, rdRow_len]; omega))) ?_
            refine .sA (.fieldAddrP rfl fo_80_4 rfl) ?_
            refine .eff rfl rfl (.storeRowS rfl rfl sz_78 rfl (.tail _ (.head _)) rfl (OneS.own (.head _)) done.length 4 rfl (rdRow_at _ _) (by decide)) (.nil ?_)
            refine .seq ?_
            refine .sr ?_
            refine .mA ?_
            refine .sA (.not rfl rfl) (.nil ?_)
            refine .cond rfl (fun h7 => ?_) (fun h7 => ?_)
            · replace h7 := bnot_t h7; replace h7 := of_decide_eq_false h7
              exact absurd hgp (by simpa using h7)
            replace h7 := bnot_f h7; replace h7 := of_decide_eq_true h7
            obtain ⟨⟨w, z⟩, hct⟩ : ∃ p, ct 10 y = some p := Option.isSome_iff_exists.1 e1
            have hX : lnX y = w := by unfold lnX; rw [hct]; rfl
            have hZ : lnR y = z := by unfold lnR; rw [hct]; rfl
            have hln := ct_lt hct
            try dsimp only at hln
            rw [hZ]
            have HO2 := (takeV_ok HO (hX ▸ hr2)).mono (c' := s.size - z.length) (by omega)
            have HA := hR.trans (readA_next hct (hX ▸ hr2))
            refine .skip ?_
            refine .obsEq [(710, .row 75 3 ((x.lines ++ [u]).map Usd.ds)), (500, .rowS 80 5 (rdRow done [.d (.v (.string x.source)), .d (.v (.int .i64 x.no)), .d (.v (.int .i64 x.period)), .d (.v (.int .i64 x.corrects)), .own 710]))] (by show [_, (500, Ob.rowS 80 5 ((rdRow done _).set done.length _))] = _; rw [rdRow_set, List.map_append]; rfl) ?_
            refine .rename 710 700 [(700, .row 75 3 ((x.lines ++ [u]).map Usd.ds)), (500, .rowS 80 5 (rdRow done (lastS x)))] (by decide) rfl (fun p hp => by
                simp only [List.mem_cons, List.not_mem_nil, or_false] at hp
                rcases hp with rfl | rfl
                · exact .inl ⟨_, .head _, rfl, rfl⟩
                exact .inr ⟨_, .tail _ (.head _), Nat.ne_of_beq_eq_false rfl, Nat.ne_of_beq_eq_false rfl, by show (500, Ob.rowS 80 5 (rdRow done (lastS x))) = (500, Ob.rowS 80 5 ((rdRow done [.d (.v (.string x.source)), .d (.v (.int .i64 x.no)), .d (.v (.int .i64 x.period)), .d (.v (.int .i64 x.corrects)), .own 710]).map (fun ss => ss.map (S.ren 710 700)))); rw [rdRow_ren]; rfl⟩) ?_
            refine .region ?_
            refine .mA ?_
            refine .aA (.nil ?_)
            refine .region ?_
            refine .mA ?_
            refine .sA (.add64 rfl rfl rfl (by omega) (by omega)) ?_
            refine .aA (.nil ?_)
            refine ⟨(z, (⟨done, some (addU x u)⟩ : Rg), n + 1), ⟨by show _ = readA _ z (((n + 1 : Nat) : Int) + 1); rw [show ((n + 1 : Nat) : Int) + 1 = (n : Int) + 1 + 1 by omega]; exact HA, HO2, by show z.length ≤ _; omega, by show n + 1 + z.length ≤ _; omega⟩, (by dsimp only; omega), Sub.less ⟨(SLe.of_eq rfl), (SLe.of_eq (by congr 1)), SLe.refl _, trivial⟩ (fun p hp => by first | exact hp | (simp only [rdObs, List.mem_cons, List.not_mem_nil, or_false] at hp ⊢; rcases hp with rfl | rfl <;> first | exact .inl rfl | exact .inr rfl | exact .inr (.inl rfl)))⟩
          replace h6 := of_decide_eq_false h6
          have hng := h6
          have hn : takeV (⟨done, cur⟩ : Rg) (lnX y) = none := tk_un p2 (.inr (by
            cases cur with
            | none => rfl
            | some x => (exfalso; apply h6; rw [List.length_map, rdS_len]; omega)))
          refine .skip ?_
          refine .seq ?_
          refine .sr ?_
          refine .mA ?_
          refine .sA (.not rfl rfl) (.nil ?_)
          refine .cond rfl (fun h8 => ?_) (fun h8 => ?_)
          · replace h8 := bnot_t h8; replace h8 := of_decide_eq_false h8
            rw [readV_bad h0 (hR.trans (readA_bad hy (bad_ln hn))) (by omega)]
            refine .sr ?_
            refine .mA ?_
            refine .aA ?_
            refine .aA ?_
            refine .aA (.nil ?_)
            refine .ret ?_
            refine ⟨RetD.nil rfl, RetD.eq rfl ?_, RetD.eq rfl ?_, trivial⟩
            all_goals (first | rfl | simp)
          replace h8 := bnot_f h8; replace h8 := of_decide_eq_true h8
          exact (hng (by simpa using h8)).elim
        have hn : takeV (⟨done, cur⟩ : Rg) (lnX y) = none := tk_un p2 (.inl (by
          cases hh : usedV (Lib.trimPrefix (lnX y) [32, 32]) with
          | none => rfl
          | some v => exfalso; have hz : (usedV (Lib.trimPrefix (lnX y) [32, 32])).isSome = false := g5; rw [hh] at hz; cases hz))
        rw [readV_bad h0 (hR.trans (readA_bad hy (bad_ln hn))) (by omega)]
        refine .pA ?_
        refine .pA ?_
        refine .pA ?_
        refine .sA (.pickF rfl rfl rfl) ?_
        refine .aA (.nil ?_)
        refine .sr ?_
        refine .mA (.nil ?_)
        refine .cond rfl (fun h => nomatch h) (fun _ => ?_)
        refine .skip ?_
        refine .seq ?_
        refine .sr ?_
        refine .mA ?_
        refine .sA (.not rfl rfl) (.nil ?_)
        refine .cond rfl (fun _ => ?_) (fun h => nomatch h)
        refine .sr ?_
        refine .mA ?_
        refine .aA ?_
        refine .aA ?_
        refine .aA (.nil ?_)
        refine .ret ?_
        refine ⟨RetD.nil rfl, RetD.eq rfl ?_, RetD.eq rfl ?_, trivial⟩
        all_goals (first | rfl | simp)
      have hct : ct 10 y = none := by
        cases hh : ct 10 y with
        | none => rfl
        | some v => rw [hh] at g4; cases g4
      rw [readV_bad h0 (hR.trans (readA_bad hy (.inl hct))) (by omega)]
      refine .pA ?_
      refine .sA (.pickF rfl rfl rfl) ?_
      refine .mA ?_
      refine .pA ?_
      refine .pA ?_
      refine .pA ?_
      refine .sA (.pickF rfl rfl rfl) ?_
      refine .aA (.nil ?_)
      refine .sr ?_
      refine .mA (.nil ?_)
      refine .cond rfl (fun h => nomatch h) (fun _ => ?_)
      refine .skip ?_
      refine .seq ?_
      refine .sr ?_
      refine .mA ?_
      refine .sA (.not rfl rfl) (.nil ?_)
      refine .cond rfl (fun _ => ?_) (fun h => nomatch h)
      refine .sr ?_
      refine .mA ?_
      refine .aA ?_
      refine .aA ?_
      refine .aA (.nil ?_)
      refine .ret ?_
      refine ⟨RetD.nil rfl, RetD.eq rfl ?_, RetD.eq rfl ?_, trivial⟩
      all_goals (first | rfl | simp)
    have p2 : ¬ Lib.hasPrefix (lnX y) [32, 32] = true := by rw [show Lib.hasPrefix (lnX y) [32, 32] = false from h3]; decide
    refine .sr ?_
    refine .mA ?_
    -- wants the world
    refine .callT rfl rfl rfl hT maxT_stays rfl (.cons (.rfl' rfl) .nil) (c_rHeadL (lnX y) (by omega)) ?_
    refine .mA ?_
    refine .sA (.extract rfl rfl rfl) ?_
    refine .sA (.extract rfl rfl rfl) ?_
    refine .alloc 302 rfl rfl rfl rfl zt_80 rfl rfl rfl ?_
    refine .store rfl rfl rfl sz_80 rfl (.head _) rfl rfl rfl (Nat.le_of_ble_eq_true rfl) ?_
    refine .freezeCells 15 (ds := (rhD (refH (lnX y)))) rfl (.head _) ?_
    refine .aA (.nil ?_)
    refine .seq ?_
    refine .obsEq _ (obs_fix3 _) ?_
    refine .region ?_
    refine .mA ?_
    refine .mA ?_
    refine .split 75 rfl (fun g9 => ?_) (fun g9 => ?_)
    · skip
      have e1 : (ct 10 y).isSome = true := g9
      refine .sG (.moveD rfl rfl) ?_
      refine .sA (.pickT rfl rfl rfl) ?_
      refine .aA (.nil ?_)
      refine .rdFreeze (done := done) (cur := cur) ?_ (fun p hp => hp)
      refine .region ?_
      refine .sA (.moveO rfl rfl) ?_
      refine .sA (.loadAgg rfl ag_80 rfl rfl) ?_
      refine .sA (.buildSlice rfl et_22 (.cons rfl rfl rfl .nil) rfl (by decide)) ?_
      -- append 81
      refine .append rfl rfl rfl rfl et_22 rfl (.head _) rfl (fun y hy => by obtain rfl := List.mem_singleton.1 hy; rfl) (by simp at hal ⊢; omega) (by simp at hal ⊢; omega) ?_
      refine .sA (.assignO rfl rfl) (.nil ?_)
      refine .seq ?_
      refine .sr ?_
      refine .mA ?_
      refine .sA (.not rfl rfl) (.nil ?_)
      refine .cond rfl (fun h10 => ?_) (fun h10 => ?_)
      · replace h10 := bnot_t h10
        have hn : takeV (⟨done, cur⟩ : Rg) (lnX y) = none := tk_hn p2 (by simpa using h10)
        rw [readV_bad h0 (hR.trans (readA_bad hy (bad_ln hn))) (by omega)]
        refine .sr ?_
        refine .mA ?_
        refine .aA ?_
        refine .aA ?_
        refine .aA (.nil ?_)
        refine .ret ?_
        refine ⟨RetD.nil rfl, RetD.eq rfl ?_, RetD.eq rfl ?_, trivial⟩
        all_goals (first | rfl | simp)
      replace h10 := bnot_f h10
      obtain ⟨⟨w, z⟩, hct⟩ : ∃ p, ct 10 y = some p := Option.isSome_iff_exists.1 e1
      have hX : lnX y = w := by unfold lnX; rw [hct]; rfl
      have hZ : lnR y = z := by unfold lnR; rw [hct]; rfl
      have hln := ct_lt hct
      try dsimp only at hln
      rw [hZ]
      obtain ⟨x0, hx0⟩ : ∃ x, headV (lnX y) = some x := Option.isSome_iff_exists.1 (by simpa using h10)
      have HRf := refH_eq hx0
      have hr2 := tk_h (r := (⟨done, cur⟩ : Rg)) p2 hx0
      obtain ⟨q, a, b, c, u, v, k, hw, hq, hu, hv, hk, rfl⟩ := head_some hx0
      rw [HRf]
      have HO2 := (takeV_ok HO (hX ▸ hr2)).mono (c' := s.size - z.length) (by omega)
      have HA := hR.trans (readA_next hct (hX ▸ hr2))
      refine .skip ?_
      refine .adoptRow 700 75 3 500 (done ++ cur.toList).length 4 (.head _) (adopt_at _ _) rfl rfl ?_
      refine .obsEq [(700, .row 75 3 []), (500, .rowS 80 5 (rdRow (done ++ cur.toList) (lastS ⟨strL q, (u : Int), (v : Int), (k : Int), []⟩)))] (by rw [← adopt_eq]; rfl) ?_
      refine .region ?_
      refine .mA ?_
      refine .aA (.nil ?_)
      refine .region ?_
      refine .mA ?_
      refine .sA (.add64 rfl rfl rfl (by omega) (by omega)) ?_
      refine .aA (.nil ?_)
      refine ⟨(z, (⟨(done ++ cur.toList), some ⟨strL q, (u : Int), (v : Int), (k : Int), []⟩⟩ : Rg), n + 1), ⟨by show _ = readA _ z (((n + 1 : Nat) : Int) + 1); rw [show ((n + 1 : Nat) : Int) + 1 = (n : Int) + 1 + 1 by omega]; exact HA, HO2, by show z.length ≤ _; omega, by show n + 1 + z.length ≤ _; omega⟩, (by dsimp only; omega), Sub.less ⟨(SLe.of_eq rfl), (SLe.of_eq (by congr 1)), SLe.refl _, trivial⟩ (fun p hp => by first | exact hp | (simp only [rdObs, List.mem_cons, List.not_mem_nil, or_false] at hp ⊢; rcases hp with rfl | rfl <;> first | exact .inl rfl | exact .inr rfl | exact .inr (.inl rfl)))⟩
    have hct : ct 10 y = none := by
      cases hh : ct 10 y with
      | none => rfl
      | some v => rw [hh] at g9; cases g9
    rw [readV_bad h0 (hR.trans (readA_bad hy (.inl hct))) (by omega)]
    refine .pA ?_
    refine .sA (.pickF rfl rfl rfl) ?_
    refine .aA (.nil ?_)
    refine .rdFreeze (done := done) (cur := cur) ?_ (fun p hp => hp)
    refine .region ?_
    refine .sA (.moveO rfl rfl) ?_
    refine .sA (.loadAgg rfl ag_80 rfl rfl) ?_
    refine .sA (.buildSlice rfl et_22 (.cons rfl rfl rfl .nil) rfl (by decide)) ?_
    -- append 81
    refine .append rfl rfl rfl rfl et_22 rfl (.head _) rfl (fun y hy => by obtain rfl := List.mem_singleton.1 hy; rfl) (by simp at hal ⊢; omega) (by simp at hal ⊢; omega) ?_
    refine .sA (.assignO rfl rfl) (.nil ?_)
    refine .seq ?_
    refine .sr ?_
    refine .mA ?_
    refine .sA (.not rfl rfl) (.nil ?_)
    refine .cond rfl (fun _ => ?_) (fun h => nomatch h)
    refine .sr ?_
    refine .mA ?_
    refine .aA ?_
    refine .aA ?_
    refine .aA (.nil ?_)
    refine .ret ?_
    refine ⟨RetD.nil rfl, RetD.eq rfl ?_, RetD.eq rfl ?_, trivial⟩
    all_goals (first | rfl | simp)
  replace h2 := of_decide_eq_false h2
  have hy : y = [] := strL_nil.1 (by first | exact h2 | exact Decidable.not_not.1 h2)
  subst hy
  rw [readA_nil] at hR
  refine .exit ?_
  refine .seq ?_
  refine .seq ?_
  refine .rdFreeze (done := done) (cur := cur) ?_ (fun p hp => hp)
  refine .region ?_
  refine .freeze 5 rfl (.head _) ?_
  refine .mA ?_
  -- wants the world
  refine .callT rfl rfl rfl hT maxT_stays rfl (.cons (.rfl' rfl) .nil) (c_rLog _ (HO.okr (by omega))) ?_
  refine .aA (.nil ?_)
  refine .sr ?_
  refine .mA ?_
  refine .sA (.neq rfl rfl rfl) (.nil ?_)
  refine .cond rfl (fun h11 => ?_) (fun h11 => ?_)
  · replace h11 := of_decide_eq_true h11
    rw [readV_chk h0 hR h11]
    refine .sr ?_
    refine .mA ?_
    refine .aA ?_
    refine .aA ?_
    refine .aA (.nil ?_)
    refine .ret ?_
    refine ⟨RetD.nil rfl, RetD.eq rfl ?_, RetD.eq rfl ?_, trivial⟩
    all_goals (first | rfl | simp)
  replace h11 := of_decide_eq_false h11
  rw [readV_ok h0 hR (by first | exact h11 | exact Decidable.not_not.1 h11)]
  refine .skip ?_
  refine .sr ?_
  refine .mA ?_
  refine .aA ?_
  refine .aA ?_
  refine .aA (.nil ?_)
  refine .ret ?_
  refine ⟨RetD.eq rfl ?_, RetD.eq rfl ?_, RetD.eq rfl ?_, trivial⟩
  all_goals (first | rfl | simp)

set_option maxRecDepth 100000 in
set_option maxHeartbeats 1000000 in
theorem lawReads (s : ByteArray) : ACallT Tryz.prog MaxT 3 [.v (.string s)] (.v (.bool true)) := by
 refine acall_ofT (n := 37) (ds' := [.v (.bool true)]) Tryz.func3 rfl (by kernel_rfl) rfl [2] rfl rfl ?_
 intro B w0 F0 hT
 refine .sr ?_
 refine .aA (.nil ?_)
 refine .sr ?_
 refine .mA ?_
 -- wants the world
 refine .callT rfl rfl rfl hT maxT_stays rfl (.cons (.rfl' rfl) .nil) (c_pRead s) ?_
 refine .mA ?_
 refine .sA (.extract rfl rfl rfl) ?_
 refine .sA (.extract rfl rfl rfl) ?_
 refine .sA (.extract rfl rfl rfl) ?_
 refine .aA ?_
 refine .aA ?_
 refine .aA (.nil ?_)
 refine .sr ?_
 refine .mA ?_
 -- wants the world
 refine .callT rfl rfl rfl hT maxT_stays rfl (.cons (.rfl' rfl) .nil) (c_rRead s) ?_
 refine .mA ?_
 refine .sA (.extract rfl rfl rfl) ?_
 refine .sA (.extract rfl rfl rfl) ?_
 refine .sA (.extract rfl rfl rfl) ?_
 refine .aA ?_
 refine .aA ?_
 refine .aA (.nil ?_)
 refine .sr ?_
 refine .mA ?_
 refine .mA ?_
 refine .sA (.eql rfl rfl rfl) ?_
 refine .mA ?_
 refine .split 24 rfl (fun g1 => ?_) (fun g1 => ?_)
 ·replace g1 := of_decide_eq_true g1
  refine .sG (.moveD rfl rfl) ?_
  refine .sG (.moveD rfl rfl) ?_
  refine .sG (.eql rfl rfl rfl) ?_
  refine .sA (.pickT rfl rfl rfl) ?_
  refine .mA ?_
  refine .split 29 rfl (fun g2 => ?_) (fun g2 => ?_)
  ·replace g2 := of_decide_eq_true g2
   refine .sG (.moveD rfl rfl) ?_
   refine .sG (.moveD rfl rfl) ?_
   refine .sG (.call rfl (.cons (.rfl' rfl) (.cons (.rfl' rfl) .nil)) (c_sameL _ _)) ?_
   refine .sA (.pickT rfl rfl rfl) ?_
   refine .mA ?_
   refine .split 34 rfl (fun g3 => ?_) (fun g3 => ?_)
   ·replace g3 := of_decide_eq_true g3
    refine .sG (.call rfl .nil c_awake) ?_
    refine .sA (.pickT rfl rfl rfl) ?_
    refine .aA (.nil ?_)
    refine .ret ?_
    refine ⟨RetD.eq rfl ?_, trivial⟩
    all_goals (first | rfl | simp)
   replace g3 := of_decide_eq_false g3
   exact absurd rfl g3
  replace g2 := of_decide_eq_false g2
  exact absurd rfl g2
 replace g1 := of_decide_eq_false g1
 exact absurd rfl g1

end Go.Proofs.YtcfamaddnmnaeaaGreatDoor
