/- DueStatementsMatchSpec: for every input the law returns true, and its arguments read behind the call as before. No condition. -/
import Derived.Stop.LaidErr
import Derived.Lib.LaidTab
import Derived.ProofKit
import Derived.OpenShut
import Derived.ShutString
import Derived.ChangeOld
import Derived.Below
import Derived.SizedLaws
import Derived.Test.YtcfamaddnmnaeaaGreatDoorCards
import Derived.Test.YtcfamaddnmnaeaaGreatDoorTie
import Derived.Lib.LaidIn
import Derived.Lib.LaidU8T
import Derived.Deep.DeepHandedRow
import Derived.Deep.DeepWitnessRowRef
import Derived.Test.YtcfamaddnmnaeaaGreatDoorZE11
set_option linter.unusedSimpArgs false
set_option linter.unusedVariables false
set_option maxHeartbeats 2000000
set_option maxRecDepth 100000

namespace Go.Proofs.YtcfamaddnmnaeaaGreatDoor.dueStatementsMatchSpecLaw
open Go.ChangeShapes Go.WideShapes Go.ChangeAt Go.RowKit
open Go.ChangeMaps (open_string shut_string)

theorem own : ownKnob Tryz.prog.godebug = none := by kernel_rfl
theorem laidOut : laidOutB Tryz.prog = true := by kernel_rfl

theorem o_ints : Opens Tryz.prog 37 1 (slD intD) (fun l => ∀ y ∈ l, -9223372036854775808 ≤ y ∧ y ≤ 9223372036854775807) (fun l => sumOf (fun _ => 1) l + 1) := opens_slice Tryz.underlying37 (by kernel_rfl) (by decide) (opens_i64 Tryz.underlying3)
theorem o_ali : Opens Tryz.prog 122 3 Ali.ds (fun x : Ali => x.source.size ≤ 9223372036854775807 ∧ x.title.size ≤ 9223372036854775807) (fun _ => 0) :=
  (opens_struct (fs := [(9, 0, 1), (9, 1, 1), (3, 2, 1)]) (by kernel_rfl) (.cons (opens_str Tryz.underlying9) (.cons (opens_str Tryz.underlying9) (.cons (opens_i64 Tryz.underlying3) .nil)))).map
    (fun y => ⟨y.1, y.2.1, y.2.2.1⟩) (fun _ => rfl) (fun _ => rfl) (fun _ h => ⟨h.1, h.2.1⟩) (fun _ => Nat.zero_le _)
theorem o_alis : Opens Tryz.prog 32 1 (slD Ali.ds) (fun l => ∀ y ∈ l, (fun x : Ali => x.source.size ≤ 9223372036854775807 ∧ x.title.size ≤ 9223372036854775807) y) (fun l => sumOf (fun _ => 0) l + 1) := opens_slice Tryz.underlying32 (by kernel_rfl) (by decide) o_ali
theorem o_tr : Opens Tryz.prog 125 2 Tr.ds (fun _ : Tr => True) (fun _ => 0) :=
  (opens_struct (fs := [(3, 0, 1), (3, 1, 1)]) (by kernel_rfl) (.cons (opens_i64 Tryz.underlying3) (.cons (opens_i64 Tryz.underlying3) .nil))).map
    (fun y => ⟨y.1, y.2.1⟩) (fun _ => rfl) (fun _ => rfl) (fun _ _ => trivial) (fun _ => Nat.zero_le _)
theorem o_trs : Opens Tryz.prog 61 1 (slD Tr.ds) (fun l => ∀ y ∈ l, (fun _ : Tr => True) y) (fun l => sumOf (fun _ => 0) l + 1) := opens_slice Tryz.underlying61 (by kernel_rfl) (by decide) o_tr
theorem o_deal : Opens Tryz.prog 63 9 Deal.ds (fun x : Deal => x.name.size ≤ 9223372036854775807) (fun _ => 0) :=
  (opens_struct (fs := [(9, 0, 1), (9, 1, 1), (3, 2, 1), (3, 3, 1), (37, 4, 1), (61, 5, 1), (3, 6, 1), (3, 7, 1), (3, 8, 1)]) (by kernel_rfl) (.cons (opens_str Tryz.underlying9) (.cons (opens_str Tryz.underlying9) (.cons (opens_i64 Tryz.underlying3) (.cons (opens_i64 Tryz.underlying3) (.cons (o_ints) (.cons (o_trs) (.cons (opens_i64 Tryz.underlying3) (.cons (opens_i64 Tryz.underlying3) (.cons (opens_i64 Tryz.underlying3) .nil)))))))))).map
    (fun y => ⟨y.1, y.2.1, y.2.2.1, y.2.2.2.1, y.2.2.2.2.1, y.2.2.2.2.2.1, y.2.2.2.2.2.2.1, y.2.2.2.2.2.2.2.1, y.2.2.2.2.2.2.2.2.1⟩) (fun _ => rfl) (fun _ => rfl) (fun _ h => h.1) (fun _ => Nat.zero_le _)
theorem o_deals : Opens Tryz.prog 33 1 (slD Deal.ds) (fun l => ∀ y ∈ l, (fun x : Deal => x.name.size ≤ 9223372036854775807) y) (fun l => sumOf (fun _ => 0) l + 1) := opens_slice Tryz.underlying33 (by kernel_rfl) (by decide) o_deal
theorem o_stk : Opens Tryz.prog 131 2 Stk.ds (fun x : Stk => x.party.size ≤ 9223372036854775807) (fun _ => 0) :=
  (opens_struct (fs := [(9, 0, 1), (3, 1, 1)]) (by kernel_rfl) (.cons (opens_str Tryz.underlying9) (.cons (opens_i64 Tryz.underlying3) .nil))).map
    (fun y => ⟨y.1, y.2.1⟩) (fun _ => rfl) (fun _ => rfl) (fun _ h => h.1) (fun _ => Nat.zero_le _)
theorem o_stks : Opens Tryz.prog 126 1 (slD Stk.ds) (fun l => ∀ y ∈ l, (fun x : Stk => x.party.size ≤ 9223372036854775807) y) (fun l => sumOf (fun _ => 0) l + 1) := opens_slice Tryz.underlying126 (by kernel_rfl) (by decide) o_stk
theorem o_grp : Opens Tryz.prog 128 3 Grp.ds (okGrp) (fun _ => 0) :=
  (opens_struct (fs := [(9, 0, 1), (3, 1, 1), (126, 2, 1)]) (by kernel_rfl) (.cons (opens_str Tryz.underlying9) (.cons (opens_i64 Tryz.underlying3) (.cons (o_stks) .nil)))).map
    (fun y => ⟨y.1, y.2.1, y.2.2.1⟩) (fun _ => rfl) (fun _ => rfl) (fun _ h => ⟨h.1, h.2.2.1⟩) (fun _ => Nat.zero_le _)
theorem o_grps : Opens Tryz.prog 34 1 (slD Grp.ds) (fun l => ∀ y ∈ l, (okGrp) y) (fun l => sumOf (fun _ => 0) l + 1) := opens_slice Tryz.underlying34 (by kernel_rfl) (by decide) o_grp
theorem o_ctr : Opens Tryz.prog 36 3 Ctr.ds (okCtr) (fun _ => 0) :=
  (opens_struct (fs := [(32, 0, 1), (33, 1, 1), (34, 2, 1)]) (by kernel_rfl) (.cons (o_alis) (.cons (o_deals) (.cons (o_grps) .nil)))).map
    (fun y => ⟨y.1, y.2.1, y.2.2.1⟩) (fun _ => rfl) (fun _ => rfl) (fun _ h => ⟨h.1, h.2.2.1, h.2.1⟩) (fun _ => Nat.zero_le _)
theorem o_hld : Opens Tryz.prog 105 3 Hld.ds (fun _ : Hld => True) (fun _ => 0) :=
  (opens_struct (fs := [(9, 0, 1), (3, 1, 1), (3, 2, 1)]) (by kernel_rfl) (.cons (opens_str Tryz.underlying9) (.cons (opens_i64 Tryz.underlying3) (.cons (opens_i64 Tryz.underlying3) .nil)))).map
    (fun y => ⟨y.1, y.2.1, y.2.2.1⟩) (fun _ => rfl) (fun _ => rfl) (fun _ _ => trivial) (fun _ => Nat.zero_le _)
theorem o_hlds : Opens Tryz.prog 38 1 (slD Hld.ds) (fun l => ∀ y ∈ l, (fun _ : Hld => True) y) (fun l => sumOf (fun _ => 0) l + 1) := opens_slice Tryz.underlying38 (by kernel_rfl) (by decide) o_hld
theorem o_bks : Opens Tryz.prog 40 7 Bks.ds (okBks) (fun _ => 0) :=
  (opens_struct (fs := [(36, 0, 3), (3, 3, 1), (37, 4, 1), (38, 5, 1), (37, 6, 1)]) (by kernel_rfl) (.cons (o_ctr) (.cons (opens_i64 Tryz.underlying3) (.cons (o_ints) (.cons (o_hlds) (.cons (o_ints) .nil)))))).map
    (fun y => ⟨y.1, y.2.1, y.2.2.1, y.2.2.2.1, y.2.2.2.2.1⟩) (fun _ => rfl) (fun _ => rfl) (fun _ h => h.1) (fun _ => Nat.zero_le _)
theorem o_usd : Opens Tryz.prog 75 3 Usd.ds (fun x : Usd => x.title.size ≤ 9223372036854775807) (fun _ => 0) :=
  (opens_struct (fs := [(9, 0, 1), (3, 1, 1), (3, 2, 1)]) (by kernel_rfl) (.cons (opens_str Tryz.underlying9) (.cons (opens_i64 Tryz.underlying3) (.cons (opens_i64 Tryz.underlying3) .nil)))).map
    (fun y => ⟨y.1, y.2.1, y.2.2.1⟩) (fun _ => rfl) (fun _ => rfl) (fun _ h => h.1) (fun _ => Nat.zero_le _)
theorem o_usds : Opens Tryz.prog 78 1 (slD Usd.ds) (fun l => ∀ y ∈ l, (fun x : Usd => x.title.size ≤ 9223372036854775807) y) (fun l => sumOf (fun _ => 0) l + 1) := opens_slice Tryz.underlying78 (by kernel_rfl) (by decide) o_usd
theorem o_rpt : Opens Tryz.prog 80 5 Rpt.ds (okRpt) (fun _ => 0) :=
  (opens_struct (fs := [(9, 0, 1), (3, 1, 1), (3, 2, 1), (3, 3, 1), (78, 4, 1)]) (by kernel_rfl) (.cons (opens_str Tryz.underlying9) (.cons (opens_i64 Tryz.underlying3) (.cons (opens_i64 Tryz.underlying3) (.cons (opens_i64 Tryz.underlying3) (.cons (o_usds) .nil)))))).map
    (fun y => ⟨y.1, y.2.1, y.2.2.1, y.2.2.2.1, y.2.2.2.2.1⟩) (fun _ => rfl) (fun _ => rfl) (fun _ h => ⟨h.1, h.2.2.2.2.1⟩) (fun _ => Nat.zero_le _)
theorem o_rpts : Opens Tryz.prog 22 1 (slD Rpt.ds) (fun l => ∀ y ∈ l, (okRpt) y) (fun l => sumOf (fun _ => 0) l + 1) := opens_slice Tryz.underlying22 (by kernel_rfl) (by decide) o_rpt

theorem walk {H : Type} {enc : TypeId × Value → H} (W : World) (base : Nat) {v0 v1 : Value} {d0 d1 : DataW H} {p0 p1 : List MemPlace}
    (ok0 : Value.okWide Tryz.prog W .any base 40 v0) (h0 : DataW.Trod enc Tryz.prog W 0 (fun _ => true) true 40 v0 d0 p0)
    (ok1 : Value.okWide Tryz.prog W .any base 22 v1) (h1 : DataW.Trod enc Tryz.prog W 0 (fun _ => true) true 22 v1 d1 p1) (hT : MaxT W) :
    Calls Tryz.prog 5 #[v0, v1] W fun e w' => e = .returned (.bool true) ∧ Below W.heap.size W w' := by
  obtain ⟨cs0, rfl, hcs0⟩ : ∃ cs : Array Value, v0 = .agg cs ∧ cs.size = 7 := by
    unfold Value.okWide at ok0
    rw [show Tryz.prog.underlying 40 = some (.struct _) from Tryz.underlying40] at ok0
    obtain ⟨cs, h1, h2, _⟩ := ok0
    exact ⟨cs, h1, h2⟩
  obtain ⟨y0, hy0, hr0, ho0, hb0⟩ := (o_bks).arg h0 hcs0
  obtain ⟨a1, l1, c1, rfl⟩ := okWide_slice Tryz.underlying22 ok1
  obtain ⟨y1, hy1, hr1, ho1, hb1⟩ := (o_rpts).arg h1 rfl
  have hc := (lawSta y0 y1 hy0 hy1).2 (allF W) W _ hT (fun _ h => h) (RepL.cons (agg_of hr0 ho0) (RepL.cons (one_of hr1 rfl) RepL.nil))
  refine hc.mono fun e w' ⟨v, F', he, hv, hE⟩ => ?_
  rw [he, rep_v hv]
  exact ⟨rfl, hE.below⟩

noncomputable def laidWorld (os : Os) : World :=
  let w0 := World.holding Tryz.prog os ⟨#[], #[], []⟩
  let put (h : Array Obj) (g : Nat) (cs : Array Value) : Array Obj := h.modify g fun
    | .cells _ t frozen => .cells cs t frozen
    | o => o
  let h0 := w0.heap
  let T := h0.size
  let h1 := (h0.push (.cells #[.string ⟨#[118, 97, 108, 117, 101, 32, 111, 117, 116, 32, 111, 102, 32, 114, 97, 110, 103, 101]⟩] 314 (0, 0))).push (.cells #[.string ⟨#[105, 110, 118, 97, 108, 105, 100, 32, 115, 121, 110, 116, 97, 120]⟩] 314 (0, 0))
  let h2 := put h1 6 #[.int .u8 0, .int .u8 1, .int .u8 28, .int .u8 2, .int .u8 29, .int .u8 14, .int .u8 24, .int .u8 3, .int .u8 30, .int .u8 22, .int .u8 20, .int .u8 15, .int .u8 25, .int .u8 17, .int .u8 4, .int .u8 8, .int .u8 31, .int .u8 27, .int .u8 13, .int .u8 23, .int .u8 21, .int .u8 19, .int .u8 16, .int .u8 7, .int .u8 26, .int .u8 12, .int .u8 18, .int .u8 6, .int .u8 11, .int .u8 5, .int .u8 10, .int .u8 9]
  let h3 := put h2 7 #[.int .u8 0, .int .u8 1, .int .u8 56, .int .u8 2, .int .u8 57, .int .u8 49, .int .u8 28, .int .u8 3, .int .u8 61, .int .u8 58, .int .u8 42, .int .u8 50, .int .u8 38, .int .u8 29, .int .u8 17, .int .u8 4, .int .u8 62, .int .u8 47, .int .u8 59, .int .u8 36, .int .u8 45, .int .u8 43, .int .u8 51, .int .u8 22, .int .u8 53, .int .u8 39, .int .u8 33, .int .u8 30, .int .u8 24, .int .u8 18, .int .u8 12, .int .u8 5, .int .u8 63, .int .u8 55, .int .u8 48, .int .u8 27, .int .u8 60, .int .u8 41, .int .u8 37, .int .u8 16, .int .u8 46, .int .u8 35, .int .u8 44, .int .u8 21, .int .u8 52, .int .u8 32, .int .u8 23, .int .u8 11, .int .u8 54, .int .u8 26, .int .u8 40, .int .u8 15, .int .u8 34, .int .u8 20, .int .u8 31, .int .u8 10, .int .u8 25, .int .u8 14, .int .u8 19, .int .u8 9, .int .u8 13, .int .u8 8, .int .u8 7, .int .u8 6]
  let h4 := put h3 1 (Lib.pow10Tab.map fun z => Value.int .u64 z).toArray
  let h5 := put h4 5 ((List.range 16).flatMap fun i => [Value.int .u8 (Lib.accLo i), Value.int .u8 (Lib.accHi i)]).toArray
  let h6 := put h5 3 #[.iface 312 (.pointer (some ⟨T, 0, none⟩))]
  let h7 := put h6 2 #[.iface 312 (.pointer (some ⟨T + 1, 0, none⟩))]
  let hE := put h7 4 (Lib.firstTab.map fun z => Value.int .u8 z).toArray
  { w0 with heap := hE }
theorem laid_met (os : Os) (args : Array Value) : laidMet Tryz.prog Rows.dueStatementsMatchSpecRow.laid ((laidWorld os).forCall (fun _ _ => 0) ⟨#[], args, []⟩).memory :=
  (LaidIn.of_run (l := [("unicode/utf8.acceptRanges", Rows.laid_unicode_utf8_acceptRanges), ("unicode/utf8.first", Rows.laid_unicode_utf8_first)]) [5, 4] 8 (by kernel_rfl) (by kernel_rfl) (by kernel_rfl) (by kernel_rfl)).met
theorem witness_row (os : Os) {H : Type} (enc : TypeId × Value → H) :
    (OpenSpec.ofChange Rows.dueStatementsMatchSpecSpec).preRow enc Tryz.prog Tryz.f5 Rows.dueStatementsMatchSpecRow.domain false Rows.dueStatementsMatchSpecRow.laid ((laidWorld os).forCall (fun _ _ => 0) ⟨#[], #[.agg #[.slice none 0 0, .slice none 0 0, .slice none 0 0, .int .i64 0, .slice none 0 0, .slice none 0 0, .slice none 0 0], .slice none 0 0], []⟩).memory #[.agg #[.slice none 0 0, .slice none 0 0, .slice none 0 0, .int .i64 0, .slice none 0 0, .slice none 0 0, .slice none 0 0], .slice none 0 0] := by
  have hw : (DataW.whole enc Tryz.prog ((laidWorld os).forCall (fun _ _ => 0) ⟨#[], #[.agg #[.slice none 0 0, .slice none 0 0, .slice none 0 0, .int .i64 0, .slice none 0 0, .slice none 0 0, .slice none 0 0], .slice none 0 0], []⟩).memory Tryz.f5.params.toList (OpenSpec.ofChange Rows.dueStatementsMatchSpecSpec).vars false (#[.agg #[.slice none 0 0, .slice none 0 0, .slice none 0 0, .int .i64 0, .slice none 0 0, .slice none 0 0, .slice none 0 0], .slice none 0 0] : Array Value).toList 8).map (fun x => (x.1, x.2.1)) =
      some ([.agg [.agg [.nil, .nil, .nil], .lit (.int .i64 0), .nil, .nil, .nil], .nil], []) := by kernel_rfl
  obtain ⟨⟨x1, x2, x3⟩, hx, hx1⟩ := Option.map_eq_some_iff.1 hw
  simp only [Prod.mk.injEq] at hx1
  obtain ⟨rfl, rfl⟩ := hx1
  exact OpenSpec.preRow_of_cond 8 hx (by kernel_rfl) (fun k hk => by cases hk) (by kernel_rfl) (laid_met os _)

theorem lifted (os : Os) (started : os.Started) (H : Type) (enc : TypeId × Value → H) (F : Stop.Interp) :
    ReturnsInHanded {} Tryz.checked os 5 .any ((OpenSpec.ofChange Rows.dueStatementsMatchSpecSpec).preRow enc Tryz.prog Tryz.f5 Rows.dueStatementsMatchSpecRow.domain false Rows.dueStatementsMatchSpecRow.laid) (((OpenSpec.ofChange Rows.dueStatementsMatchSpecSpec).at F).post enc Tryz.prog Tryz.f5 false true false false) := by
  refine returnsInHanded_of_row (C := Tryz.checked) (s := (OpenSpec.ofChange Rows.dueStatementsMatchSpecSpec)) own started (by kernel_rfl) Tryz.func5
    (witness_row_atRef (enc := enc) (C := Tryz.checked) false (laidWorld os) #[.agg #[.slice none 0 0, .slice none 0 0, .slice none 0 0, .int .i64 0, .slice none 0 0, .slice none 0 0, .slice none 0 0], .slice none 0 0] rfl (by kernel_rfl) (by kernel_rfl) (by kernel_rfl) (witness_row os enc)) ?_
  intro W base args ds gs before hval0 hW _ hcond _ hL hSh _
  have hval : ∀ (j : Nat) t v, Tryz.f5.params[j]? = some t → args[j]? = some v → Value.okWide Tryz.prog W .any base t v := hval0
  have hW' := hW
  obtain ⟨p, q, hA0, hV, rfl, hfz, hnd⟩ := hW
  have hA : DataW.TrodAll enc Tryz.prog W 0 (fun _ => true) true Tryz.f5.params.toList args.toList ds p := hA0
  rw [Tryz.params5] at hA hval
  obtain ⟨v0, vs0, d0, ds0, p0, q0, hargs, rfl, rfl, h0, r0⟩ := trodAll_cons hA
  obtain ⟨v1, vs1, d1, ds1, p1, q1, rfl, rfl, rfl, h1, r1⟩ := trodAll_cons r0
  obtain ⟨rfl, rfl, rfl⟩ := trodAll_nil r1
  obtain rfl : args = #[v0, v1] := by cases args; simp_all
  obtain ⟨rfl, rfl⟩ := trodVars_none hV
  have lt0 : ∀ x ∈ p0, x.block < W.heap.size := by obtain ⟨m, hm⟩ := h0; exact DataW.trod_lt m _ _ _ hm
  have ok0 := hval 0 40 v0 rfl rfl
  have lt1 : ∀ x ∈ p1, x.block < W.heap.size := by obtain ⟨m, hm⟩ := h1; exact DataW.trod_lt m _ _ _ hm
  have ok1 := hval 1 22 v1 rfl rfl
  clear hA0 hval0
  have hT : MaxT W := Tryz.l144.s1_3 W hSh
  refine (walk W base ok0 h0 ok1 h1 hT).mono fun e W' ⟨he, bel⟩ => ?_
  subst he
  exact ⟨_, rfl, _, _, _, [], _, [], hW', trodAll_mk1 (shut_bool Tryz.underlying4 _), (trodAll_cons_mk (Below.trod laidOut (by kernel_rfl) (of_decide_eq_true (by kernel_rfl)) h0 bel lt0) (trodAll_cons_mk (Below.trod laidOut (by kernel_rfl) (of_decide_eq_true (by kernel_rfl)) h1 bel lt1) trodAll_mk0)), rfl, bel.frame _, fun h => by cases h⟩

theorem said : Rows.DueStatementsMatchSpecSaid :=
  OpenClaim.holds_of_cond 5 Tryz.f5 rfl rfl rfl rfl rfl rfl rfl ⟨rfl, rfl, rfl, rfl, rfl⟩ rfl rfl rfl rfl rfl (by kernel_rfl) Tryz.func5 (by kernel_rfl)
    (of_decide_eq_true (by kernel_rfl)) (by unfold Func.isWrapper; first | (rw [if_pos (by decide +kernel)]; kernel_rfl) | (rw [if_neg (by decide +kernel)]; exact ⟨rfl, rfl⟩))
    (fun os started H enc _ F => by rw [OpenClaim.pre_eq_preRow]; exact lifted os started H enc F)
theorem plain (f : FuncId) (fn : Func) (hf : Tryz.pinned.checked.prog.funcNamed "deadwax/deadwaxlaw8.DueStatementsMatchSpec" = some f) (hfn : Tryz.pinned.checked.prog.funcs[f]? = some fn) :
    true = Tryz.pinned.checked.prog.looks [] ∧ ∀ (j : Nat) t, fn.params[j]? = some t → Tryz.pinned.checked.prog.wantsStandIn t = false := by
  obtain rfl : f = 5 := Option.some.inj ((show Tryz.prog.funcNamed "deadwax/deadwaxlaw8.DueStatementsMatchSpec" = some 5 by kernel_rfl).symm.trans hf) |>.symm
  obtain rfl : fn = Tryz.f5 := (Option.some.inj (Tryz.func5.symm.trans hfn)).symm
  refine ⟨by kernel_rfl, fun j t ht => ?_⟩
  rw [Tryz.params5] at ht
  have h := Array.mem_of_getElem? ht
  simp only [List.mem_toArray, List.mem_cons, List.not_mem_nil, or_false] at h
  rcases h with rfl | rfl
  · exact (show Tryz.prog.wantsStandIn 40 = false by kernel_rfl)
  · exact (show Tryz.prog.wantsStandIn 22 = false by kernel_rfl)
theorem proved : Rows.DueStatementsMatchSpecCardSaid :=
  Claim7.holds_tied_plain_at .later [] _ _ _ _ said (fun _ h => by cases h) (by kernel_rfl) (fun _ h => by cases h) dueStatementsMatchSpec_row_tie rfl ⟨rfl, rfl⟩ (by kernel_rfl) rfl plain (by kernel_rfl)

#print axioms proved
end Go.Proofs.YtcfamaddnmnaeaaGreatDoor.dueStatementsMatchSpecLaw