/- TopSoundsComeBack: for every input the law returns true, and its arguments read behind the call as before. No condition. -/
import Derived.ProofKit
import Derived.OpenShut
import Derived.ShutString
import Derived.ChangeOld
import Derived.Below
import Derived.SizedLaws
import Derived.Test.YtagdgclfnbiahaaDoorCards
import Derived.Test.YtagdgclfnbiahaaDoorTie
import Derived.Lib.LaidIn
import Derived.Lib.LaidU8T
import Derived.Deep.DeepHandedRow
import Derived.Deep.DeepWitnessRowRef
import Derived.Test.YtagdgclfnbiahaaDoorZG6

namespace Go.Proofs.YtagdgclfnbiahaaDoor.topSoundsComeBackLaw
open Go.ChangeShapes Go.WideShapes Go.ChangeAt Go.RowKit
open Go.ChangeMaps (open_string shut_string)
set_option linter.unusedVariables false

theorem own : ownKnob Tryd.prog.godebug = none := by kernel_rfl
theorem laidOut : laidOutB Tryd.prog = true := by kernel_rfl

theorem o_ints : Opens Tryd.prog 42 1 (slD sI) (fun l => ∀ y ∈ l, -9223372036854775808 ≤ y ∧ y ≤ 9223372036854775807) (fun l => sumOf (fun _ => 1) l + 1) := opens_slice Tryd.underlying42 (by kernel_rfl) (by decide) (opens_i64 Tryd.underlying3)
theorem o_trs : Opens Tryd.prog 22 1 (slD trD) (fun l => ∀ x ∈ l, ∀ y ∈ x, -9223372036854775808 ≤ y ∧ y ≤ 9223372036854775807) (fun l => sumOf (fun l => sumOf (fun _ => 1) l + 1) l + 1) := opens_slice Tryd.underlying22 (by kernel_rfl) (by decide) o_ints
theorem o_snd : Opens Tryd.prog 24 2 Snd.ds (fun _ : Snd => True) (fun _ => 0) :=
  (opens_struct (fs := [(3, 0, 1), (22, 1, 1)]) (by kernel_rfl) (.cons (opens_i64 Tryd.underlying3) (.cons (o_trs) .nil))).map
    (fun y => ⟨y.1, y.2.1⟩) (fun _ => rfl) (fun _ => rfl) (fun _ _ => trivial) (fun _ => Nat.zero_le _)
theorem o_nt : Opens Tryd.prog 54 2 Nt.ds (fun n : Nt => n.name.size ≤ 9223372036854775807 ∧ n.text.size ≤ 9223372036854775807) (fun _ => 0) :=
  (opens_struct (fs := [(9, 0, 1), (9, 1, 1)]) (by kernel_rfl) (.cons (opens_str Tryd.underlying9) (.cons (opens_str Tryd.underlying9) .nil))).map
    (fun y => ⟨y.1, y.2.1⟩) (fun _ => rfl) (fun _ => rfl) (fun _ h => ⟨h.1, h.2.1⟩) (fun _ => Nat.zero_le _)
theorem o_nts : Opens Tryd.prog 25 1 (slD Nt.ds) (fun l => ∀ y ∈ l, (fun n : Nt => n.name.size ≤ 9223372036854775807 ∧ n.text.size ≤ 9223372036854775807) y) (fun l => sumOf (fun _ => 0) l + 1) := opens_slice Tryd.underlying25 (by kernel_rfl) (by decide) o_nt
theorem o_hm : Opens Tryd.prog 40 3 Hm.ds (fun _ : Hm => True) (fun _ => 0) :=
  (opens_struct (fs := [(3, 0, 1), (3, 1, 1), (3, 2, 1)]) (by kernel_rfl) (.cons (opens_i64 Tryd.underlying3) (.cons (opens_i64 Tryd.underlying3) (.cons (opens_i64 Tryd.underlying3) .nil)))).map
    (fun y => ⟨y.1, y.2.1, y.2.2.1⟩) (fun _ => rfl) (fun _ => rfl) (fun _ _ => trivial) (fun _ => Nat.zero_le _)
theorem o_hms : Opens Tryd.prog 26 1 (slD Hm.ds) (fun l => ∀ y ∈ l, (fun _ : Hm => True) y) (fun l => sumOf (fun _ => 0) l + 1) := opens_slice Tryd.underlying26 (by kernel_rfl) (by decide) o_hm

set_option maxRecDepth 100000 in
theorem walk {H : Type} {enc : TypeId × Value → H} (W : World) (base : Nat) {v0 v1 v2 v3 : Value} {d0 d1 d2 d3 : DataW H} {p0 p1 p2 p3 : List MemPlace}
    (ok0 : Value.okWide Tryd.prog W .any base 24 v0) (h0 : DataW.Trod enc Tryd.prog W 0 (fun _ => true) true 24 v0 d0 p0)
    (ok1 : Value.okWide Tryd.prog W .any base 25 v1) (h1 : DataW.Trod enc Tryd.prog W 0 (fun _ => true) true 25 v1 d1 p1)
    (ok2 : Value.okWide Tryd.prog W .any base 3 v2) (h2 : DataW.Trod enc Tryd.prog W 0 (fun _ => true) true 3 v2 d2 p2)
    (ok3 : Value.okWide Tryd.prog W .any base 26 v3) (h3 : DataW.Trod enc Tryd.prog W 0 (fun _ => true) true 26 v3 d3 p3) (hT : MaxT W) :
    Calls Tryd.prog 3 #[v0, v1, v2, v3] W fun e w' => e = .returned (.bool true) ∧ Below W.heap.size W w' := by
  obtain ⟨cs0, rfl, hcs0⟩ : ∃ cs : Array Value, v0 = .agg cs ∧ cs.size = 2 := by
    unfold Value.okWide at ok0
    rw [show Tryd.prog.underlying 24 = some (.struct _) from Tryd.underlying24] at ok0
    obtain ⟨cs, h1, h2, _⟩ := ok0
    exact ⟨cs, h1, h2⟩
  obtain ⟨y0, hy0, hr0, ho0, hb0⟩ := (o_snd).arg h0 hcs0
  obtain ⟨a1, l1, c1, rfl⟩ := okWide_slice Tryd.underlying25 ok1
  obtain ⟨y1, hy1, hr1, ho1, hb1⟩ := (o_nts).arg h1 rfl
  obtain ⟨a2, rfl⟩ := okWide_int Tryd.underlying3 ok2
  obtain ⟨y2, hy2, hr2, ho2, hb2⟩ := (opens_i64 Tryd.underlying3).arg h2 rfl
  obtain ⟨a3, l3, c3, rfl⟩ := okWide_slice Tryd.underlying26 ok3
  obtain ⟨y3, hy3, hr3, ho3, hb3⟩ := (o_hms).arg h3 rfl
  have hc := (lawSounds y0 y1 y2 y3 hy1).2 (allF W) W _ hT (fun _ h => h) (RepL.cons (agg_of hr0 ho0) (RepL.cons (one_of hr1 rfl) (RepL.cons (one_of hr2 rfl) (RepL.cons (one_of hr3 rfl) RepL.nil))))
  refine hc.mono fun e w' ⟨v, F', he, hv, hE⟩ => ?_
  rw [he, rep_v hv]
  exact ⟨rfl, hE.below⟩

noncomputable def laidWorld (os : Os) : World :=
  let w0 := World.holding Tryd.prog os ⟨#[], #[], []⟩
  let put (h : Array Obj) (g : Nat) (cs : Array Value) : Array Obj := h.modify g fun
    | .cells _ t frozen => .cells cs t frozen
    | o => o
  let h1 := put w0.heap 2 ((List.range 16).flatMap fun i => [Value.int .u8 (Lib.accLo i), Value.int .u8 (Lib.accHi i)]).toArray
  let h2 := put h1 1 (Lib.firstTab.map fun z => Value.int .u8 z).toArray
  { w0 with heap := h2 }
set_option maxRecDepth 100000 in
theorem laid_met (os : Os) (args : Array Value) : laidMet Tryd.prog Rows.topSoundsComeBackRow.laid ((laidWorld os).forCall (fun _ _ => 0) ⟨#[], args, []⟩).memory :=
  (LaidIn.of_run (l := [("unicode/utf8.acceptRanges", Rows.laid_unicode_utf8_acceptRanges), ("unicode/utf8.first", Rows.laid_unicode_utf8_first)]) [2, 1] 8 (by kernel_rfl) (by kernel_rfl) (by kernel_rfl) (by kernel_rfl)).met
theorem witness_row (os : Os) {H : Type} (enc : TypeId × Value → H) :
    (OpenSpec.ofChange Rows.topSoundsComeBackSpec).preRow enc Tryd.prog Tryd.f3 Rows.topSoundsComeBackRow.domain false Rows.topSoundsComeBackRow.laid ((laidWorld os).forCall (fun _ _ => 0) ⟨#[], #[.agg #[.int .i64 0, .slice none 0 0], .slice none 0 0, .int .i64 0, .slice none 0 0], []⟩).memory #[.agg #[.int .i64 0, .slice none 0 0], .slice none 0 0, .int .i64 0, .slice none 0 0] := by
  have hw : (DataW.whole enc Tryd.prog ((laidWorld os).forCall (fun _ _ => 0) ⟨#[], #[.agg #[.int .i64 0, .slice none 0 0], .slice none 0 0, .int .i64 0, .slice none 0 0], []⟩).memory Tryd.f3.params.toList (OpenSpec.ofChange Rows.topSoundsComeBackSpec).vars false (#[.agg #[.int .i64 0, .slice none 0 0], .slice none 0 0, .int .i64 0, .slice none 0 0] : Array Value).toList 8).map (fun x => (x.1, x.2.1)) =
      some ([.agg [.lit (.int .i64 0), .nil], .nil, .lit (.int .i64 0), .nil], []) := by kernel_rfl
  obtain ⟨⟨x1, x2, x3⟩, hx, hx1⟩ := Option.map_eq_some_iff.1 hw
  simp only [Prod.mk.injEq] at hx1
  obtain ⟨rfl, rfl⟩ := hx1
  exact OpenSpec.preRow_of_cond 8 hx (by kernel_rfl) (fun k hk => by cases hk) (by kernel_rfl) (laid_met os _)

set_option maxRecDepth 100000 in
set_option maxHeartbeats 2000000 in
theorem lifted (os : Os) (started : os.Started) (H : Type) (enc : TypeId × Value → H) (F : Stop.Interp) :
    ReturnsInHanded {} Tryd.checked os 3 .any ((OpenSpec.ofChange Rows.topSoundsComeBackSpec).preRow enc Tryd.prog Tryd.f3 Rows.topSoundsComeBackRow.domain false Rows.topSoundsComeBackRow.laid) (((OpenSpec.ofChange Rows.topSoundsComeBackSpec).at F).post enc Tryd.prog Tryd.f3 false true false false) := by
  refine returnsInHanded_of_row (C := Tryd.checked) (s := (OpenSpec.ofChange Rows.topSoundsComeBackSpec)) own started (by kernel_rfl) Tryd.func3
    (witness_row_atRef (enc := enc) (C := Tryd.checked) false (laidWorld os) #[.agg #[.int .i64 0, .slice none 0 0], .slice none 0 0, .int .i64 0, .slice none 0 0] rfl (by kernel_rfl) (by kernel_rfl) (by kernel_rfl) (witness_row os enc)) ?_
  intro W base args ds gs before hval0 hW _ hcond _ hL hSh _
  have hval : ∀ (j : Nat) t v, Tryd.f3.params[j]? = some t → args[j]? = some v → Value.okWide Tryd.prog W .any base t v := hval0
  have hW' := hW
  obtain ⟨p, q, hA0, hV, rfl, hfz, hnd⟩ := hW
  have hA : DataW.TrodAll enc Tryd.prog W 0 (fun _ => true) true Tryd.f3.params.toList args.toList ds p := hA0
  rw [Tryd.params3] at hA hval
  obtain ⟨v0, vs0, d0, ds0, p0, q0, hargs, rfl, rfl, h0, r0⟩ := trodAll_cons hA
  obtain ⟨v1, vs1, d1, ds1, p1, q1, rfl, rfl, rfl, h1, r1⟩ := trodAll_cons r0
  obtain ⟨v2, vs2, d2, ds2, p2, q2, rfl, rfl, rfl, h2, r2⟩ := trodAll_cons r1
  obtain ⟨v3, vs3, d3, ds3, p3, q3, rfl, rfl, rfl, h3, r3⟩ := trodAll_cons r2
  obtain ⟨rfl, rfl, rfl⟩ := trodAll_nil r3
  obtain rfl : args = #[v0, v1, v2, v3] := by cases args; simp_all
  obtain ⟨rfl, rfl⟩ := trodVars_none hV
  have lt0 : ∀ x ∈ p0, x.block < W.heap.size := by obtain ⟨m, hm⟩ := h0; exact DataW.trod_lt m _ _ _ hm
  have ok0 := hval 0 24 v0 rfl rfl
  have lt1 : ∀ x ∈ p1, x.block < W.heap.size := by obtain ⟨m, hm⟩ := h1; exact DataW.trod_lt m _ _ _ hm
  have ok1 := hval 1 25 v1 rfl rfl
  have lt2 : ∀ x ∈ p2, x.block < W.heap.size := by obtain ⟨m, hm⟩ := h2; exact DataW.trod_lt m _ _ _ hm
  have ok2 := hval 2 3 v2 rfl rfl
  have lt3 : ∀ x ∈ p3, x.block < W.heap.size := by obtain ⟨m, hm⟩ := h3; exact DataW.trod_lt m _ _ _ hm
  have ok3 := hval 3 26 v3 rfl rfl
  clear hA0 hval0
  have hT : MaxT W := Tryd.l219.s1_3 W hSh
  refine (walk W base ok0 h0 ok1 h1 ok2 h2 ok3 h3 hT).mono fun e W' ⟨he, bel⟩ => ?_
  subst he
  exact ⟨_, rfl, _, _, _, [], _, [], hW', trodAll_mk1 (shut_bool Tryd.underlying4 _), (trodAll_cons_mk (Below.trod laidOut (by kernel_rfl) (of_decide_eq_true (by kernel_rfl)) h0 bel lt0) (trodAll_cons_mk (Below.trod laidOut (by kernel_rfl) (of_decide_eq_true (by kernel_rfl)) h1 bel lt1) (trodAll_cons_mk (Below.trod laidOut (by kernel_rfl) (of_decide_eq_true (by kernel_rfl)) h2 bel lt2) (trodAll_cons_mk (Below.trod laidOut (by kernel_rfl) (of_decide_eq_true (by kernel_rfl)) h3 bel lt3) trodAll_mk0)))), rfl, bel.frame _, fun h => by cases h⟩

theorem said : Rows.TopSoundsComeBackSaid :=
  OpenClaim.holds_of_cond 3 Tryd.f3 rfl rfl rfl rfl rfl rfl rfl ⟨rfl, rfl, rfl, rfl, rfl⟩ rfl rfl rfl rfl rfl (by kernel_rfl) Tryd.func3 (by kernel_rfl)
    (of_decide_eq_true (by kernel_rfl)) (by unfold Func.isWrapper; first | (rw [if_pos (by decide +kernel)]; kernel_rfl) | (rw [if_neg (by decide +kernel)]; exact ⟨rfl, rfl⟩))
    (fun os started H enc _ F => by rw [OpenClaim.pre_eq_preRow]; exact lifted os started H enc F)
theorem plain (f : FuncId) (fn : Func) (hf : Tryd.pinned.checked.prog.funcNamed "deadwax/deadwaxtop.TopSoundsComeBack" = some f) (hfn : Tryd.pinned.checked.prog.funcs[f]? = some fn) :
    false = Tryd.pinned.checked.prog.looks [] ∧ ∀ (j : Nat) t, fn.params[j]? = some t → Tryd.pinned.checked.prog.wantsStandIn t = false := by
  obtain rfl : f = 3 := Option.some.inj ((show Tryd.prog.funcNamed "deadwax/deadwaxtop.TopSoundsComeBack" = some 3 by kernel_rfl).symm.trans hf) |>.symm
  obtain rfl : fn = Tryd.f3 := (Option.some.inj (Tryd.func3.symm.trans hfn)).symm
  refine ⟨by kernel_rfl, fun j t ht => ?_⟩
  rw [Tryd.params3] at ht
  have h := Array.mem_of_getElem? ht
  simp only [List.mem_toArray, List.mem_cons, List.not_mem_nil, or_false] at h
  rcases h with rfl | rfl | rfl | rfl
  · exact (show Tryd.prog.wantsStandIn 24 = false by kernel_rfl)
  · exact (show Tryd.prog.wantsStandIn 25 = false by kernel_rfl)
  · exact (show Tryd.prog.wantsStandIn 3 = false by kernel_rfl)
  · exact (show Tryd.prog.wantsStandIn 26 = false by kernel_rfl)
theorem proved : Rows.TopSoundsComeBackCardSaid :=
  Claim7.holds_tied_plain_at .later [] _ _ _ _ said (fun _ h => by cases h) (by kernel_rfl) (fun _ h => by cases h) topSoundsComeBack_row_tie rfl ⟨rfl, rfl⟩ (by kernel_rfl) rfl plain (by kernel_rfl)

#print axioms proved
end Go.Proofs.YtagdgclfnbiahaaDoor.topSoundsComeBackLaw