/- DueTotalsMatchSpecUpto: for every input of bulk at most 1048576 the law returns true, and its arguments read behind the call as before. The condition: the bulk. -/
import Derived.Stop.LaidErr
import Derived.Lib.LaidTab
import Derived.ProofKit
import Derived.OpenShut
import Derived.ShutString
import Derived.ChangeOld
import Derived.Below
import Derived.SizedLaws
import Derived.Test.YtekenfknoakboaaDoorCards
import Derived.Test.YtekenfknoakboaaDoorTie
import Derived.Lib.LaidIn
import Derived.Lib.LaidU8T
import Derived.Deep.DeepHandedRow
import Derived.Deep.DeepWitnessRowRef
import Derived.Test.YtekenfknoakboaaDoorXP7

namespace Go.Proofs.YtekenfknoakboaaDoor.dueTotalsMatchSpecLaw
open Go.ChangeShapes Go.WideShapes Go.ChangeAt Go.RowKit
open Go.ChangeMaps (open_string shut_string)
set_option linter.unusedVariables false

theorem own : ownKnob Tryd.prog.godebug = none := by kernel_rfl
theorem laidOut : laidOutB Tryd.prog = true := by kernel_rfl

theorem o_pd : Opens Tryd.prog 50 2 Pd.ds (okPd) (fun _ => 1) :=
  (opens_struct (fs := [(9, 0, 1), (3, 1, 1)]) (by kernel_rfl) (.cons (opens_str Tryd.underlying9) (.cons (opens_i64 Tryd.underlying3) .nil))).map
    (fun y => ⟨y.1, y.2.1⟩) (fun _ => rfl) (fun _ => rfl) (fun _ h => ⟨h.1, h.2.1⟩) (fun _ => by (try dsimp only); omega)
theorem o_pds : Opens Tryd.prog 45 1 (slD Pd.ds) (fun l => ∀ y ∈ l, (okPd) y) (fun l => sumOf (fun _ => 1) l + 1) := opens_slice Tryd.underlying45 (by kernel_rfl) (by decide) o_pd
theorem o_rw : Opens Tryd.prog 86 5 Rw.ds (okRw) (fun _ => 0) :=
  (opens_struct (fs := [(9, 0, 1), (3, 1, 1), (3, 2, 1), (3, 3, 1), (3, 4, 1)]) (by kernel_rfl) (.cons (opens_str Tryd.underlying9) (.cons (opens_i64 Tryd.underlying3) (.cons (opens_i64 Tryd.underlying3) (.cons (opens_i64 Tryd.underlying3) (.cons (opens_i64 Tryd.underlying3) .nil)))))).map
    (fun y => ⟨y.1, y.2.1, y.2.2.1, y.2.2.2.1, y.2.2.2.2.1⟩) (fun _ => rfl) (fun _ => rfl) (fun _ h => ⟨h.1, h.2.1, h.2.2.1, h.2.2.2.1, h.2.2.2.2.1⟩) (fun _ => Nat.zero_le _)
theorem o_rws : Opens Tryd.prog 51 1 (slD Rw.ds) (fun l => ∀ y ∈ l, (okRw) y) (fun l => sumOf (fun _ => 0) l + 1) := opens_slice Tryd.underlying51 (by kernel_rfl) (by decide) o_rw
theorem o_stm : Opens Tryd.prog 53 7 Stm.ds (okStm) (fun s => sumOf (fun _ => 1) s.parts) :=
  (opens_struct (fs := [(3, 0, 1), (9, 1, 1), (51, 2, 1), (3, 3, 1), (3, 4, 1), (45, 5, 1), (3, 6, 1)]) (by kernel_rfl) (.cons (opens_i64 Tryd.underlying3) (.cons (opens_str Tryd.underlying9) (.cons (o_rws) (.cons (opens_i64 Tryd.underlying3) (.cons (opens_i64 Tryd.underlying3) (.cons (o_pds) (.cons (opens_i64 Tryd.underlying3) .nil)))))))).map
    (fun y => ⟨y.1, y.2.1, y.2.2.1, y.2.2.2.1, y.2.2.2.2.1, y.2.2.2.2.2.1, y.2.2.2.2.2.2.1⟩) (fun _ => rfl) (fun _ => rfl) (fun _ h => ⟨h.1, h.2.1, h.2.2.1, h.2.2.2.1, h.2.2.2.2.1, h.2.2.2.2.2.1, h.2.2.2.2.2.2.1⟩) (fun _ => by (try dsimp only); omega)
theorem o_stms : Opens Tryd.prog 44 1 (slD Stm.ds) (fun l => ∀ y ∈ l, (okStm) y) (fun l => sumOf (fun s : Stm => sumOf (fun _ => 1) s.parts) l + 1) := opens_slice Tryd.underlying44 (by kernel_rfl) (by decide) o_stm
theorem pts_bulk : ∀ l : List Stm, (pts l).length ≤ sumOf (fun s : Stm => sumOf (fun _ => 1) s.parts) l
  | [] => by simp [pts, sumOf]
  | s :: l => by
    have h := pts_bulk l
    have h2 : s.parts.length ≤ sumOf (fun _ => 1) s.parts := sumOf_len (fun _ => 1) (fun _ => Nat.le_refl 1) s.parts
    unfold pts at *
    rw [List.flatMap_cons, List.length_append]
    simp only [sumOf]
    omega

set_option maxRecDepth 100000 in
theorem walk {H : Type} {enc : TypeId × Value → H} (W : World) (base : Nat) {v0 : Value} {d0 : DataW H} {p0 : List MemPlace}
    (ok0 : Value.okWide Tryd.prog W .any base 44 v0) (h0 : DataW.Trod enc Tryd.prog W 0 (fun _ => true) true 44 v0 d0 p0) (hkb : Rows.uptoBulkAll [d0] ≤ 1048576) (hT : TabI W) :
    Calls Tryd.prog 4 #[v0] W fun e w' => e = .returned (.bool true) ∧ Below W.heap.size W w' := by
  obtain ⟨a0, l0, c0, rfl⟩ := okWide_slice Tryd.underlying44 ok0
  obtain ⟨y0, hy0, hr0, ho0, hb0⟩ := (o_stms).arg h0 rfl
  simp only [Rows.uptoBulkAll] at hkb
  have hm0 : (pts y0).length ≤ 1048576 := by have := pts_bulk y0; omega
  have hc := (lawTot y0 hy0 hm0).2 (allF W) W _ hT (fun _ h => h) (RepL.cons (one_of hr0 rfl) RepL.nil)
  refine hc.mono fun e w' ⟨v, F', he, hv, hE⟩ => ?_
  rw [he, rep_v hv]
  exact ⟨rfl, hE.below⟩

noncomputable def laidWorld (os : Os) : World :=
  let w0 := World.holding Tryd.prog os ⟨#[], #[], []⟩
  let put (h : Array Obj) (g : Nat) (cs : Array Value) : Array Obj := h.modify g fun
    | .cells _ t frozen => .cells cs t frozen
    | o => o
  let h1 := put w0.heap 4 #[.int .u8 0, .int .u8 1, .int .u8 28, .int .u8 2, .int .u8 29, .int .u8 14, .int .u8 24, .int .u8 3, .int .u8 30, .int .u8 22, .int .u8 20, .int .u8 15, .int .u8 25, .int .u8 17, .int .u8 4, .int .u8 8, .int .u8 31, .int .u8 27, .int .u8 13, .int .u8 23, .int .u8 21, .int .u8 19, .int .u8 16, .int .u8 7, .int .u8 26, .int .u8 12, .int .u8 18, .int .u8 6, .int .u8 11, .int .u8 5, .int .u8 10, .int .u8 9]
  let h2 := put h1 5 #[.int .u8 0, .int .u8 1, .int .u8 56, .int .u8 2, .int .u8 57, .int .u8 49, .int .u8 28, .int .u8 3, .int .u8 61, .int .u8 58, .int .u8 42, .int .u8 50, .int .u8 38, .int .u8 29, .int .u8 17, .int .u8 4, .int .u8 62, .int .u8 47, .int .u8 59, .int .u8 36, .int .u8 45, .int .u8 43, .int .u8 51, .int .u8 22, .int .u8 53, .int .u8 39, .int .u8 33, .int .u8 30, .int .u8 24, .int .u8 18, .int .u8 12, .int .u8 5, .int .u8 63, .int .u8 55, .int .u8 48, .int .u8 27, .int .u8 60, .int .u8 41, .int .u8 37, .int .u8 16, .int .u8 46, .int .u8 35, .int .u8 44, .int .u8 21, .int .u8 52, .int .u8 32, .int .u8 23, .int .u8 11, .int .u8 54, .int .u8 26, .int .u8 40, .int .u8 15, .int .u8 34, .int .u8 20, .int .u8 31, .int .u8 10, .int .u8 25, .int .u8 14, .int .u8 19, .int .u8 9, .int .u8 13, .int .u8 8, .int .u8 7, .int .u8 6]
  let h3 := put h2 1 (Lib.pow10Tab.map fun z => Value.int .u64 z).toArray
  let h4 := put h3 3 ((List.range 16).flatMap fun i => [Value.int .u8 (Lib.accLo i), Value.int .u8 (Lib.accHi i)]).toArray
  let h5 := put h4 2 (Lib.firstTab.map fun z => Value.int .u8 z).toArray
  { w0 with heap := h5 }
set_option maxRecDepth 100000 in
theorem laid_met (os : Os) (args : Array Value) : laidMet Tryd.prog Rows.dueTotalsMatchSpecUptoRow.laid ((laidWorld os).forCall (fun _ _ => 0) ⟨#[], args, []⟩).memory :=
  (LaidIn.of_run (l := [("math/bits.deBruijn32tab", Rows.laid_math_bits_deBruijn32tab), ("math/bits.deBruijn64tab", Rows.laid_math_bits_deBruijn64tab), ("internal/strconv.uint64pow10", Rows.laid_internal_strconv_uint64pow10), ("unicode/utf8.acceptRanges", Rows.laid_unicode_utf8_acceptRanges), ("unicode/utf8.first", Rows.laid_unicode_utf8_first)]) [4, 5, 1, 3, 2] 8 (by kernel_rfl) (by kernel_rfl) (by kernel_rfl) (by kernel_rfl)).met
theorem witness_row (os : Os) {H : Type} (enc : TypeId × Value → H) :
    (Rows.OpenSpec.upto Rows.dueTotalsMatchSpecSpec).preRow enc Tryd.prog Tryd.f4 Rows.dueTotalsMatchSpecUptoRow.domain false Rows.dueTotalsMatchSpecUptoRow.laid ((laidWorld os).forCall (fun _ _ => 0) ⟨#[], #[.slice none 0 0], []⟩).memory #[.slice none 0 0] := by
  have hw : (DataW.whole enc Tryd.prog ((laidWorld os).forCall (fun _ _ => 0) ⟨#[], #[.slice none 0 0], []⟩).memory Tryd.f4.params.toList (Rows.OpenSpec.upto Rows.dueTotalsMatchSpecSpec).vars false (#[.slice none 0 0] : Array Value).toList 8).map (fun x => (x.1, x.2.1)) =
      some ([.nil], []) := by kernel_rfl
  obtain ⟨⟨x1, x2, x3⟩, hx, hx1⟩ := Option.map_eq_some_iff.1 hw
  simp only [Prod.mk.injEq] at hx1
  obtain ⟨rfl, rfl⟩ := hx1
  exact OpenSpec.preRow_of_cond 8 hx (by kernel_rfl) (fun k hk => by cases hk; kernel_rfl) (by kernel_rfl) (laid_met os _)

set_option maxRecDepth 100000 in
set_option maxHeartbeats 2000000 in
theorem lifted (os : Os) (started : os.Started) (H : Type) (enc : TypeId × Value → H) (F : Stop.Interp) :
    ReturnsInHanded {} Tryd.checked os 4 .any ((Rows.OpenSpec.upto Rows.dueTotalsMatchSpecSpec).preRow enc Tryd.prog Tryd.f4 Rows.dueTotalsMatchSpecUptoRow.domain false Rows.dueTotalsMatchSpecUptoRow.laid) (((Rows.OpenSpec.upto Rows.dueTotalsMatchSpecSpec).at F).post enc Tryd.prog Tryd.f4 false true false false) := by
  refine returnsInHanded_of_row (C := Tryd.checked) (s := (Rows.OpenSpec.upto Rows.dueTotalsMatchSpecSpec)) own started (by kernel_rfl) Tryd.func4
    (witness_row_atRef (enc := enc) (C := Tryd.checked) false (laidWorld os) #[.slice none 0 0] rfl (by kernel_rfl) (by kernel_rfl) (by kernel_rfl) (witness_row os enc)) ?_
  intro W base args ds gs before hval0 hW _ hcond _ hL hSh _
  have hval : ∀ (j : Nat) t v, Tryd.f4.params[j]? = some t → args[j]? = some v → Value.okWide Tryd.prog W .any base t v := hval0
  have hW' := hW
  obtain ⟨p, q, hA0, hV, rfl, hfz, hnd⟩ := hW
  have hA : DataW.TrodAll enc Tryd.prog W 0 (fun _ => true) true Tryd.f4.params.toList args.toList ds p := hA0
  rw [Tryd.params4] at hA hval
  obtain ⟨v0, vs0, d0, ds0, p0, q0, hargs, rfl, rfl, h0, r0⟩ := trodAll_cons hA
  obtain ⟨rfl, rfl, rfl⟩ := trodAll_nil r0
  obtain rfl : args = #[v0] := by cases args; simp_all
  obtain ⟨rfl, rfl⟩ := trodVars_none hV
  have lt0 : ∀ x ∈ p0, x.block < W.heap.size := by obtain ⟨m, hm⟩ := h0; exact DataW.trod_lt m _ _ _ hm
  have ok0 := hval 0 44 v0 rfl rfl
  clear hA0 hval0
  have hkb : Rows.uptoBulkAll _ ≤ 1048576 := of_decide_eq_true (hcond _ rfl)
  simp only [List.append_nil] at hkb
  have h1 : laidMet Tryd.prog [("math/bits.deBruijn32tab", Rows.laid_math_bits_deBruijn32tab), ("math/bits.deBruijn64tab", Rows.laid_math_bits_deBruijn64tab), ("internal/strconv.uint64pow10", Rows.laid_internal_strconv_uint64pow10), ("unicode/utf8.acceptRanges", Rows.laid_unicode_utf8_acceptRanges), ("unicode/utf8.first", Rows.laid_unicode_utf8_first)] W := hL
  have h2 := laidMet.tail (laidMet.tail h1)
  have h3 : laidMet Tryd.prog (("internal/strconv.uint64pow10", Lib.tabData .u64 Lib.pow10Tab) :: [("unicode/utf8.acceptRanges", Rows.laid_unicode_utf8_acceptRanges), ("unicode/utf8.first", Rows.laid_unicode_utf8_first)]) W := h2
  have hT : TabI W := Lib.tabIs_of_head (g := 1) (t := 182) (n := 20) (e := 140) (by kernel_rfl) (by kernel_rfl) (by kernel_rfl) (by kernel_rfl) (by kernel_rfl) (by kernel_rfl) h3
  refine (walk W base ok0 h0 hkb hT).mono fun e W' ⟨he, bel⟩ => ?_
  subst he
  exact ⟨_, rfl, _, _, _, [], _, [], hW', trodAll_mk1 (shut_bool Tryd.underlying4 _), (trodAll_cons_mk (Below.trod laidOut (by kernel_rfl) (of_decide_eq_true (by kernel_rfl)) h0 bel lt0) trodAll_mk0), rfl, bel.frame _, fun h => by cases h⟩

theorem said : Rows.DueTotalsMatchSpecUptoSaid :=
  OpenClaim.holds_of_cond 4 Tryd.f4 rfl rfl rfl rfl rfl rfl rfl ⟨rfl, rfl, rfl, rfl, rfl⟩ rfl rfl rfl rfl rfl (by kernel_rfl) Tryd.func4 (by kernel_rfl)
    (of_decide_eq_true (by kernel_rfl)) (by unfold Func.isWrapper; first | (rw [if_pos (by decide +kernel)]; kernel_rfl) | (rw [if_neg (by decide +kernel)]; exact ⟨rfl, rfl⟩))
    (fun os started H enc _ F => by rw [OpenClaim.pre_eq_preRow]; exact lifted os started H enc F)
theorem plain (f : FuncId) (fn : Func) (hf : Tryd.pinned.checked.prog.funcNamed "deadwax/deadwaxlaw8.DueTotalsMatchSpec" = some f) (hfn : Tryd.pinned.checked.prog.funcs[f]? = some fn) :
    false = Tryd.pinned.checked.prog.looks [] ∧ ∀ (j : Nat) t, fn.params[j]? = some t → Tryd.pinned.checked.prog.wantsStandIn t = false := by
  obtain rfl : f = 4 := Option.some.inj ((show Tryd.prog.funcNamed "deadwax/deadwaxlaw8.DueTotalsMatchSpec" = some 4 by kernel_rfl).symm.trans hf) |>.symm
  obtain rfl : fn = Tryd.f4 := (Option.some.inj (Tryd.func4.symm.trans hfn)).symm
  refine ⟨by kernel_rfl, fun j t ht => ?_⟩
  rw [Tryd.params4] at ht
  have h := Array.mem_of_getElem? ht
  simp only [List.mem_toArray, List.mem_cons, List.not_mem_nil, or_false] at h
  rcases h with rfl
  · exact (show Tryd.prog.wantsStandIn 44 = false by kernel_rfl)
theorem proved : Rows.DueTotalsMatchSpecUptoCardSaid :=
  Claim7.holds_tied_plain_at .later [] _ _ _ _ said (fun _ h => by cases h) (by kernel_rfl) (fun _ h => by cases h) dueTotalsMatchSpecUpto_row_tie rfl ⟨rfl, rfl⟩ (by kernel_rfl) rfl plain (by kernel_rfl)

#print axioms proved
end Go.Proofs.YtekenfknoakboaaDoor.dueTotalsMatchSpecLaw