/- TopMergedRecordingsAreCued: for every input the law returns true, and its arguments read behind the call as before. No condition. -/
import Derived.ProofKit
import Derived.OpenShut
import Derived.ShutString
import Derived.ChangeOld
import Derived.Below
import Derived.SizedLaws
import Derived.Test.YtohllekllkcfiaaGreatDoorCards
import Derived.Test.YtohllekllkcfiaaGreatDoorTie
import Derived.Lib.LaidIn
import Derived.Lib.LaidU8T
import Derived.Deep.DeepHandedRow
import Derived.Deep.DeepWitnessRowRef
import Derived.Test.YtohllekllkcfiaaGreatDoorZH11
set_option linter.unusedSimpArgs false
set_option linter.unusedVariables false
set_option maxHeartbeats 2000000
set_option maxRecDepth 100000

namespace Go.Proofs.YtohllekllkcfiaaGreatDoor.topMergedRecordingsAreCuedLaw
open Go.ChangeShapes Go.WideShapes Go.ChangeAt Go.RowKit
open Go.ChangeMaps (open_string shut_string)

theorem own : ownKnob Tryz.prog.godebug = none := by kernel_rfl
theorem laidOut : laidOutB Tryz.prog = true := by kernel_rfl

theorem o_ints : Opens Tryz.prog 34 1 (slD intD) (fun l => ∀ y ∈ l, -9223372036854775808 ≤ y ∧ y ≤ 9223372036854775807) (fun l => sumOf (fun _ => 1) l + 1) := opens_slice Tryz.underlying34 (by kernel_rfl) (by decide) (opens_i64 Tryz.underlying3)
theorem o_thg : Opens Tryz.prog 72 7 Thg.ds (ThgOk) (fun t : Thg => sumOf (fun _ => 1) t.parts) :=
  (opens_struct (fs := [(3, 0, 1), (3, 1, 1), (9, 2, 1), (9, 3, 1), (3, 4, 1), (3, 5, 1), (34, 6, 1)]) (by kernel_rfl) (.cons (opens_i64 Tryz.underlying3) (.cons (opens_i64 Tryz.underlying3) (.cons (opens_str Tryz.underlying9) (.cons (opens_str Tryz.underlying9) (.cons (opens_i64 Tryz.underlying3) (.cons (opens_i64 Tryz.underlying3) (.cons (o_ints) .nil)))))))).map
    (fun y => ⟨y.1, y.2.1, y.2.2.1, y.2.2.2.1, y.2.2.2.2.1, y.2.2.2.2.2.1, y.2.2.2.2.2.2.1⟩) (fun _ => rfl) (fun _ => rfl) (fun _ h => ⟨h.1, h.2.1, h.2.2.1, h.2.2.2.1, h.2.2.2.2.1, h.2.2.2.2.2.1, h.2.2.2.2.2.2.1⟩) (fun _ => by (try dsimp only); omega)
theorem o_thgs : Opens Tryz.prog 22 1 (slD Thg.ds) (fun l => ∀ y ∈ l, (ThgOk) y) (fun l => sumOf (fun t : Thg => sumOf (fun _ => 1) t.parts) l + 1) := opens_slice Tryz.underlying22 (by kernel_rfl) (by decide) o_thg
theorem o_mvd : Opens Tryz.prog 74 2 Mvd.ds (fun x : Mvd => i64 x.src ∧ i64 x.dst) (fun _ => 0) :=
  (opens_struct (fs := [(3, 0, 1), (3, 1, 1)]) (by kernel_rfl) (.cons (opens_i64 Tryz.underlying3) (.cons (opens_i64 Tryz.underlying3) .nil))).map
    (fun y => ⟨y.1, y.2.1⟩) (fun _ => rfl) (fun _ => rfl) (fun _ h => ⟨h.1, h.2.1⟩) (fun _ => Nat.zero_le _)
theorem o_mvds : Opens Tryz.prog 23 1 (slD Mvd.ds) (fun l => ∀ y ∈ l, (fun x : Mvd => i64 x.src ∧ i64 x.dst) y) (fun l => sumOf (fun _ => 0) l + 1) := opens_slice Tryz.underlying23 (by kernel_rfl) (by decide) o_mvd
theorem o_ctl : Opens Tryz.prog 25 2 Ctl.ds (CtlOk) (fun c : Ctl => sumOf (fun t : Thg => sumOf (fun _ => 1) t.parts) c.things) :=
  (opens_struct (fs := [(22, 0, 1), (23, 1, 1)]) (by kernel_rfl) (.cons (o_thgs) (.cons (o_mvds) .nil))).map
    (fun y => ⟨y.1, y.2.1⟩) (fun _ => rfl) (fun _ => rfl) (fun _ h => ⟨h.1, h.2.1⟩) (fun _ => by (try dsimp only); omega)
theorem o_src : Opens Tryz.prog 85 3 Src.ds (SrcS) (fun _ => 0) :=
  (opens_struct (fs := [(9, 0, 1), (3, 1, 1), (9, 2, 1)]) (by kernel_rfl) (.cons (opens_str Tryz.underlying9) (.cons (opens_i64 Tryz.underlying3) (.cons (opens_str Tryz.underlying9) .nil)))).map
    (fun y => ⟨y.1, y.2.1, y.2.2.1⟩) (fun _ => rfl) (fun _ => rfl) (fun _ h => ⟨h.1, h.2.1, h.2.2.1⟩) (fun _ => Nat.zero_le _)
theorem o_srcs : Opens Tryz.prog 26 1 (slD Src.ds) (fun l => ∀ y ∈ l, (SrcS) y) (fun l => sumOf (fun _ => 0) l + 1) := opens_slice Tryz.underlying26 (by kernel_rfl) (by decide) o_src
theorem o_rat : Opens Tryz.prog 154 2 (fun y : ByteArray × ByteArray => [.v (.string y.1), .v (.string y.2)]) (fun y => y.1.size ≤ 9223372036854775807 ∧ y.2.size ≤ 9223372036854775807) (fun _ => 0) :=
  (opens_struct (fs := [(9, 0, 1), (9, 1, 1)]) (by kernel_rfl) (.cons (opens_str Tryz.underlying9) (.cons (opens_str Tryz.underlying9) .nil))).map
    (fun y => (y.1, y.2.1)) (fun _ => rfl) (fun _ => rfl) (fun _ h => ⟨h.1, h.2.1⟩) (fun _ => Nat.zero_le _)
theorem o_pnt : Opens Tryz.prog 156 3 Pnt.ds (fun p : Pnt => p.num.size ≤ 9223372036854775807 ∧ p.den.size ≤ 9223372036854775807) (fun _ => 0) :=
  (opens_struct (fs := [(3, 0, 1), (154, 1, 2)]) (by kernel_rfl) (.cons (opens_i64 Tryz.underlying3) (.cons o_rat .nil))).map
    (fun y => ⟨y.1, y.2.1.1, y.2.1.2⟩) (fun _ => rfl) (fun _ => rfl) (fun _ h => ⟨h.2.1.1, h.2.1.2⟩) (fun _ => Nat.zero_le _)
theorem o_pnts : Opens Tryz.prog 54 1 (slD Pnt.ds) (fun l => ∀ y ∈ l, (fun p : Pnt => p.num.size ≤ 9223372036854775807 ∧ p.den.size ≤ 9223372036854775807) y) (fun l => sumOf (fun _ => 0) l + 1) := opens_slice Tryz.underlying54 (by kernel_rfl) (by decide) o_pnt
theorem o_clp : Opens Tryz.prog 56 7 Clp.ds (ClpS) (fun _ => 0) :=
  (opens_struct (fs := [(9, 0, 1), (3, 1, 1), (3, 2, 1), (3, 3, 1), (3, 4, 1), (3, 5, 1), (54, 6, 1)]) (by kernel_rfl) (.cons (opens_str Tryz.underlying9) (.cons (opens_i64 Tryz.underlying3) (.cons (opens_i64 Tryz.underlying3) (.cons (opens_i64 Tryz.underlying3) (.cons (opens_i64 Tryz.underlying3) (.cons (opens_i64 Tryz.underlying3) (.cons (o_pnts) .nil)))))))).map
    (fun y => ⟨y.1, y.2.1, y.2.2.1, y.2.2.2.1, y.2.2.2.2.1, y.2.2.2.2.2.1, y.2.2.2.2.2.2.1⟩) (fun _ => rfl) (fun _ => rfl) (fun _ h => ⟨h.1, h.2.2.2.2.2.2.1⟩) (fun _ => Nat.zero_le _)
theorem o_clps : Opens Tryz.prog 27 1 (slD Clp.ds) (fun l => ∀ y ∈ l, (ClpS) y) (fun l => sumOf (fun _ => 0) l + 1) := opens_slice Tryz.underlying27 (by kernel_rfl) (by decide) o_clp
theorem o_edt : Opens Tryz.prog 29 3 Edt.ds (EdtS) (fun _ => 0) :=
  (opens_struct (fs := [(3, 0, 1), (3, 1, 1), (27, 2, 1)]) (by kernel_rfl) (.cons (opens_i64 Tryz.underlying3) (.cons (opens_i64 Tryz.underlying3) (.cons (o_clps) .nil)))).map
    (fun y => ⟨y.1, y.2.1, y.2.2.1⟩) (fun _ => rfl) (fun _ => rfl) (fun _ h => h.2.2.1) (fun _ => Nat.zero_le _)

theorem walk {H : Type} {enc : TypeId × Value → H} (W : World) (base : Nat) {v0 v1 v2 v3 v4 : Value} {d0 d1 d2 d3 d4 : DataW H} {p0 p1 p2 p3 p4 : List MemPlace}
    (ok0 : Value.okWide Tryz.prog W .any base 25 v0) (h0 : DataW.Trod enc Tryz.prog W 0 (fun _ => true) true 25 v0 d0 p0)
    (ok1 : Value.okWide Tryz.prog W .any base 26 v1) (h1 : DataW.Trod enc Tryz.prog W 0 (fun _ => true) true 26 v1 d1 p1)
    (ok2 : Value.okWide Tryz.prog W .any base 29 v2) (h2 : DataW.Trod enc Tryz.prog W 0 (fun _ => true) true 29 v2 d2 p2)
    (ok3 : Value.okWide Tryz.prog W .any base 3 v3) (h3 : DataW.Trod enc Tryz.prog W 0 (fun _ => true) true 3 v3 d3 p3)
    (ok4 : Value.okWide Tryz.prog W .any base 3 v4) (h4 : DataW.Trod enc Tryz.prog W 0 (fun _ => true) true 3 v4 d4 p4) (hT : MaxT W) :
    Calls Tryz.prog 3 #[v0, v1, v2, v3, v4] W fun e w' => e = .returned (.bool true) ∧ Below W.heap.size W w' := by
  obtain ⟨cs0, rfl, hcs0⟩ : ∃ cs : Array Value, v0 = .agg cs ∧ cs.size = 2 := by
    unfold Value.okWide at ok0
    rw [show Tryz.prog.underlying 25 = some (.struct _) from Tryz.underlying25] at ok0
    obtain ⟨cs, h1, h2, _⟩ := ok0
    exact ⟨cs, h1, h2⟩
  obtain ⟨y0, hy0, hr0, ho0, hb0⟩ := (o_ctl).arg h0 hcs0
  obtain ⟨a1, l1, c1, rfl⟩ := okWide_slice Tryz.underlying26 ok1
  obtain ⟨y1, hy1, hr1, ho1, hb1⟩ := (o_srcs).arg h1 rfl
  obtain ⟨cs2, rfl, hcs2⟩ : ∃ cs : Array Value, v2 = .agg cs ∧ cs.size = 3 := by
    unfold Value.okWide at ok2
    rw [show Tryz.prog.underlying 29 = some (.struct _) from Tryz.underlying29] at ok2
    obtain ⟨cs, h1, h2, _⟩ := ok2
    exact ⟨cs, h1, h2⟩
  obtain ⟨y2, hy2, hr2, ho2, hb2⟩ := (o_edt).arg h2 hcs2
  obtain ⟨a3, rfl⟩ := okWide_int Tryz.underlying3 ok3
  obtain ⟨y3, hy3, hr3, ho3, hb3⟩ := (opens_i64 Tryz.underlying3).arg h3 rfl
  obtain ⟨a4, rfl⟩ := okWide_int Tryz.underlying3 ok4
  obtain ⟨y4, hy4, hr4, ho4, hb4⟩ := (opens_i64 Tryz.underlying3).arg h4 rfl
  have hc := (lawCued y0 y1 y2 y3 y4 hy0 hy1 hy2 hy3 hy4).2 (allF W) W _ hT (fun _ h => h) (RepL.cons (agg_of hr0 ho0) (RepL.cons (one_of hr1 rfl) (RepL.cons (agg_of hr2 ho2) (RepL.cons (one_of hr3 rfl) (RepL.cons (one_of hr4 rfl) RepL.nil)))))
  refine hc.mono fun e w' ⟨v, F', he, hv, hE⟩ => ?_
  rw [he, rep_v hv]
  exact ⟨rfl, hE.below⟩

noncomputable def laidWorld (os : Os) : World :=
  let w0 := World.holding Tryz.prog os ⟨#[], #[], []⟩
  let put (h : Array Obj) (g : Nat) (cs : Array Value) : Array Obj := h.modify g fun
    | .cells _ t frozen => .cells cs t frozen
    | o => o
  let h1 := put w0.heap 2 ((List.range 16).flatMap fun i => [Value.int .u8 (Lib.accLo i), Value.int .u8 (Lib.accHi i)]).toArray
  let h2 := put h1 1 (Lib.firstTab.map fun z => Value.int .u8 z).toArray
  { w0 with heap := h2 }
theorem laid_met (os : Os) (args : Array Value) : laidMet Tryz.prog Rows.topMergedRecordingsAreCuedRow.laid ((laidWorld os).forCall (fun _ _ => 0) ⟨#[], args, []⟩).memory :=
  (LaidIn.of_run (l := [("unicode/utf8.acceptRanges", Rows.laid_unicode_utf8_acceptRanges), ("unicode/utf8.first", Rows.laid_unicode_utf8_first)]) [2, 1] 8 (by kernel_rfl) (by kernel_rfl) (by kernel_rfl) (by kernel_rfl)).met
theorem witness_row (os : Os) {H : Type} (enc : TypeId × Value → H) :
    (OpenSpec.ofChange Rows.topMergedRecordingsAreCuedSpec).preRow enc Tryz.prog Tryz.f3 Rows.topMergedRecordingsAreCuedRow.domain false Rows.topMergedRecordingsAreCuedRow.laid ((laidWorld os).forCall (fun _ _ => 0) ⟨#[], #[.agg #[.slice none 0 0, .slice none 0 0], .slice none 0 0, .agg #[.int .i64 0, .int .i64 0, .slice none 0 0], .int .i64 0, .int .i64 0], []⟩).memory #[.agg #[.slice none 0 0, .slice none 0 0], .slice none 0 0, .agg #[.int .i64 0, .int .i64 0, .slice none 0 0], .int .i64 0, .int .i64 0] := by
  have hw : (DataW.whole enc Tryz.prog ((laidWorld os).forCall (fun _ _ => 0) ⟨#[], #[.agg #[.slice none 0 0, .slice none 0 0], .slice none 0 0, .agg #[.int .i64 0, .int .i64 0, .slice none 0 0], .int .i64 0, .int .i64 0], []⟩).memory Tryz.f3.params.toList (OpenSpec.ofChange Rows.topMergedRecordingsAreCuedSpec).vars false (#[.agg #[.slice none 0 0, .slice none 0 0], .slice none 0 0, .agg #[.int .i64 0, .int .i64 0, .slice none 0 0], .int .i64 0, .int .i64 0] : Array Value).toList 8).map (fun x => (x.1, x.2.1)) =
      some ([.agg [.nil, .nil], .nil, .agg [.lit (.int .i64 0), .lit (.int .i64 0), .nil], .lit (.int .i64 0), .lit (.int .i64 0)], []) := by kernel_rfl
  obtain ⟨⟨x1, x2, x3⟩, hx, hx1⟩ := Option.map_eq_some_iff.1 hw
  simp only [Prod.mk.injEq] at hx1
  obtain ⟨rfl, rfl⟩ := hx1
  exact OpenSpec.preRow_of_cond 8 hx (by kernel_rfl) (fun k hk => by cases hk) (by kernel_rfl) (laid_met os _)

theorem lifted (os : Os) (started : os.Started) (H : Type) (enc : TypeId × Value → H) (F : Stop.Interp) :
    ReturnsInHanded {} Tryz.checked os 3 .any ((OpenSpec.ofChange Rows.topMergedRecordingsAreCuedSpec).preRow enc Tryz.prog Tryz.f3 Rows.topMergedRecordingsAreCuedRow.domain false Rows.topMergedRecordingsAreCuedRow.laid) (((OpenSpec.ofChange Rows.topMergedRecordingsAreCuedSpec).at F).post enc Tryz.prog Tryz.f3 false true false false) := by
  refine returnsInHanded_of_row (C := Tryz.checked) (s := (OpenSpec.ofChange Rows.topMergedRecordingsAreCuedSpec)) own started (by kernel_rfl) Tryz.func3
    (witness_row_atRef (enc := enc) (C := Tryz.checked) false (laidWorld os) #[.agg #[.slice none 0 0, .slice none 0 0], .slice none 0 0, .agg #[.int .i64 0, .int .i64 0, .slice none 0 0], .int .i64 0, .int .i64 0] rfl (by kernel_rfl) (by kernel_rfl) (by kernel_rfl) (witness_row os enc)) ?_
  intro W base args ds gs before hval0 hW _ hcond _ hL hSh _
  have hval : ∀ (j : Nat) t v, Tryz.f3.params[j]? = some t → args[j]? = some v → Value.okWide Tryz.prog W .any base t v := hval0
  have hW' := hW
  obtain ⟨p, q, hA0, hV, rfl, hfz, hnd⟩ := hW
  have hA : DataW.TrodAll enc Tryz.prog W 0 (fun _ => true) true Tryz.f3.params.toList args.toList ds p := hA0
  rw [Tryz.params3] at hA hval
  obtain ⟨v0, vs0, d0, ds0, p0, q0, hargs, rfl, rfl, h0, r0⟩ := trodAll_cons hA
  obtain ⟨v1, vs1, d1, ds1, p1, q1, rfl, rfl, rfl, h1, r1⟩ := trodAll_cons r0
  obtain ⟨v2, vs2, d2, ds2, p2, q2, rfl, rfl, rfl, h2, r2⟩ := trodAll_cons r1
  obtain ⟨v3, vs3, d3, ds3, p3, q3, rfl, rfl, rfl, h3, r3⟩ := trodAll_cons r2
  obtain ⟨v4, vs4, d4, ds4, p4, q4, rfl, rfl, rfl, h4, r4⟩ := trodAll_cons r3
  obtain ⟨rfl, rfl, rfl⟩ := trodAll_nil r4
  obtain rfl : args = #[v0, v1, v2, v3, v4] := by cases args; simp_all
  obtain ⟨rfl, rfl⟩ := trodVars_none hV
  have lt0 : ∀ x ∈ p0, x.block < W.heap.size := by obtain ⟨m, hm⟩ := h0; exact DataW.trod_lt m _ _ _ hm
  have ok0 := hval 0 25 v0 rfl rfl
  have lt1 : ∀ x ∈ p1, x.block < W.heap.size := by obtain ⟨m, hm⟩ := h1; exact DataW.trod_lt m _ _ _ hm
  have ok1 := hval 1 26 v1 rfl rfl
  have lt2 : ∀ x ∈ p2, x.block < W.heap.size := by obtain ⟨m, hm⟩ := h2; exact DataW.trod_lt m _ _ _ hm
  have ok2 := hval 2 29 v2 rfl rfl
  have lt3 : ∀ x ∈ p3, x.block < W.heap.size := by obtain ⟨m, hm⟩ := h3; exact DataW.trod_lt m _ _ _ hm
  have ok3 := hval 3 3 v3 rfl rfl
  have lt4 : ∀ x ∈ p4, x.block < W.heap.size := by obtain ⟨m, hm⟩ := h4; exact DataW.trod_lt m _ _ _ hm
  have ok4 := hval 4 3 v4 rfl rfl
  clear hA0 hval0
  have hT : MaxT W := Tryz.l144.s1_3 W hSh
  refine (walk W base ok0 h0 ok1 h1 ok2 h2 ok3 h3 ok4 h4 hT).mono fun e W' ⟨he, bel⟩ => ?_
  subst he
  exact ⟨_, rfl, _, _, _, [], _, [], hW', trodAll_mk1 (shut_bool Tryz.underlying4 _), (trodAll_cons_mk (Below.trod laidOut (by kernel_rfl) (of_decide_eq_true (by kernel_rfl)) h0 bel lt0) (trodAll_cons_mk (Below.trod laidOut (by kernel_rfl) (of_decide_eq_true (by kernel_rfl)) h1 bel lt1) (trodAll_cons_mk (Below.trod laidOut (by kernel_rfl) (of_decide_eq_true (by kernel_rfl)) h2 bel lt2) (trodAll_cons_mk (Below.trod laidOut (by kernel_rfl) (of_decide_eq_true (by kernel_rfl)) h3 bel lt3) (trodAll_cons_mk (Below.trod laidOut (by kernel_rfl) (of_decide_eq_true (by kernel_rfl)) h4 bel lt4) trodAll_mk0))))), rfl, bel.frame _, fun h => by cases h⟩

theorem said : Rows.TopMergedRecordingsAreCuedSaid :=
  OpenClaim.holds_of_cond 3 Tryz.f3 rfl rfl rfl rfl rfl rfl rfl ⟨rfl, rfl, rfl, rfl, rfl⟩ rfl rfl rfl rfl rfl (by kernel_rfl) Tryz.func3 (by kernel_rfl)
    (of_decide_eq_true (by kernel_rfl)) (by unfold Func.isWrapper; first | (rw [if_pos (by decide +kernel)]; kernel_rfl) | (rw [if_neg (by decide +kernel)]; exact ⟨rfl, rfl⟩))
    (fun os started H enc _ F => by rw [OpenClaim.pre_eq_preRow]; exact lifted os started H enc F)
theorem plain (f : FuncId) (fn : Func) (hf : Tryz.pinned.checked.prog.funcNamed "deadwax/deadwaxtop.TopMergedRecordingsAreCued" = some f) (hfn : Tryz.pinned.checked.prog.funcs[f]? = some fn) :
    false = Tryz.pinned.checked.prog.looks [] ∧ ∀ (j : Nat) t, fn.params[j]? = some t → Tryz.pinned.checked.prog.wantsStandIn t = false := by
  obtain rfl : f = 3 := Option.some.inj ((show Tryz.prog.funcNamed "deadwax/deadwaxtop.TopMergedRecordingsAreCued" = some 3 by kernel_rfl).symm.trans hf) |>.symm
  obtain rfl : fn = Tryz.f3 := (Option.some.inj (Tryz.func3.symm.trans hfn)).symm
  refine ⟨by kernel_rfl, fun j t ht => ?_⟩
  rw [Tryz.params3] at ht
  have h := Array.mem_of_getElem? ht
  simp only [List.mem_toArray, List.mem_cons, List.not_mem_nil, or_false] at h
  rcases h with rfl | rfl | rfl | rfl | rfl
  · exact (show Tryz.prog.wantsStandIn 25 = false by kernel_rfl)
  · exact (show Tryz.prog.wantsStandIn 26 = false by kernel_rfl)
  · exact (show Tryz.prog.wantsStandIn 29 = false by kernel_rfl)
  · exact (show Tryz.prog.wantsStandIn 3 = false by kernel_rfl)
  · exact (show Tryz.prog.wantsStandIn 3 = false by kernel_rfl)
theorem proved : Rows.TopMergedRecordingsAreCuedCardSaid :=
  Claim7.holds_tied_plain_at .later [] _ _ _ _ said (fun _ h => by cases h) (by kernel_rfl) (fun _ h => by cases h) topMergedRecordingsAreCued_row_tie rfl ⟨rfl, rfl⟩ (by kernel_rfl) rfl plain (by kernel_rfl)

#print axioms proved
end Go.Proofs.YtohllekllkcfiaaGreatDoor.topMergedRecordingsAreCuedLaw