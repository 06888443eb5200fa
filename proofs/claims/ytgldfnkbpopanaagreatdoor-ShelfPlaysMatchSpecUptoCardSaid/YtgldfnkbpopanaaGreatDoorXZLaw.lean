/- ShelfPlaysMatchSpecUpto: for every input of bulk at most 1048576 the law returns true, and its arguments read behind the call as before. The condition: the bulk. -/
import Derived.ProofKit
import Derived.OpenShut
import Derived.ShutString
import Derived.ChangeOld
import Derived.Below
import Derived.SizedLaws
import Derived.Test.YtgldfnkbpopanaaGreatDoorCards
import Derived.Test.YtgldfnkbpopanaaGreatDoorTie
import Derived.Lib.LaidIn
import Derived.Lib.LaidU8T
import Derived.Deep.DeepHandedRow
import Derived.Deep.DeepWitnessRowRef
import Derived.Test.YtgldfnkbpopanaaGreatDoorXZ9

namespace Go.Proofs.YtgldfnkbpopanaaGreatDoor.shelfPlaysMatchSpecLaw
open Go.ChangeShapes Go.WideShapes Go.ChangeAt Go.RowKit
open Go.ChangeMaps (open_string shut_string)
set_option linter.unusedVariables false

theorem own : ownKnob Tryz.prog.godebug = none := by kernel_rfl
theorem laidOut : laidOutB Tryz.prog = true := by kernel_rfl

theorem o_ints : Opens Tryz.prog 33 1 (slD intD) (fun l => ∀ y ∈ l, -9223372036854775808 ≤ y ∧ y ≤ 9223372036854775807) (fun l => sumOf (fun _ => 1) l + 1) := opens_slice Tryz.underlying33 (by kernel_rfl) (by decide) (opens_i64 Tryz.underlying3)
theorem o_thg : Opens Tryz.prog 41 7 Thg.ds (ThgOk) (fun t : Thg => sumOf (fun _ => 1) t.parts + 1) :=
  (opens_struct (fs := [(3, 0, 1), (3, 1, 1), (9, 2, 1), (9, 3, 1), (3, 4, 1), (3, 5, 1), (33, 6, 1)]) (by kernel_rfl) (.cons (opens_i64 Tryz.underlying3) (.cons (opens_i64 Tryz.underlying3) (.cons (opens_str Tryz.underlying9) (.cons (opens_str Tryz.underlying9) (.cons (opens_i64 Tryz.underlying3) (.cons (opens_i64 Tryz.underlying3) (.cons (o_ints) .nil)))))))).map
    (fun y => ⟨y.1, y.2.1, y.2.2.1, y.2.2.2.1, y.2.2.2.2.1, y.2.2.2.2.2.1, y.2.2.2.2.2.2.1⟩) (fun _ => rfl) (fun _ => rfl) (fun _ h => ⟨h.1, h.2.1, h.2.2.1, h.2.2.2.1, h.2.2.2.2.1, h.2.2.2.2.2.1, h.2.2.2.2.2.2.1⟩) (fun _ => by (try dsimp only); omega)
theorem o_thgs : Opens Tryz.prog 22 1 (slD Thg.ds) (fun l => ∀ y ∈ l, (ThgOk) y) (fun l => sumOf (fun t : Thg => sumOf (fun _ => 1) t.parts + 1) l + 1) := opens_slice Tryz.underlying22 (by kernel_rfl) (by decide) o_thg
theorem o_mvd : Opens Tryz.prog 85 2 Mvd.ds (fun x : Mvd => i64 x.src ∧ i64 x.dst) (fun _ => 1) :=
  (opens_struct (fs := [(3, 0, 1), (3, 1, 1)]) (by kernel_rfl) (.cons (opens_i64 Tryz.underlying3) (.cons (opens_i64 Tryz.underlying3) .nil))).map
    (fun y => ⟨y.1, y.2.1⟩) (fun _ => rfl) (fun _ => rfl) (fun _ h => ⟨h.1, h.2.1⟩) (fun _ => by (try dsimp only); omega)
theorem o_mvds : Opens Tryz.prog 23 1 (slD Mvd.ds) (fun l => ∀ y ∈ l, (fun x : Mvd => i64 x.src ∧ i64 x.dst) y) (fun l => sumOf (fun _ => 1) l + 1) := opens_slice Tryz.underlying23 (by kernel_rfl) (by decide) o_mvd
theorem o_ctl : Opens Tryz.prog 25 2 Ctl.ds (CtlOk) (fun c : Ctl => sumOf (fun t : Thg => sumOf (fun _ => 1) t.parts + 1) c.things) :=
  (opens_struct (fs := [(22, 0, 1), (23, 1, 1)]) (by kernel_rfl) (.cons (o_thgs) (.cons (o_mvds) .nil))).map
    (fun y => ⟨y.1, y.2.1⟩) (fun _ => rfl) (fun _ => rfl) (fun _ h => ⟨h.1, h.2.1⟩) (fun _ => by (try dsimp only); omega)
theorem o_chg : Opens Tryz.prog 35 4 Chg.ds (ChgOk) (fun x : Chg => sumOf (fun t : Thg => sumOf (fun _ => 1) t.parts + 1) x.put + sumOf (fun _ => 1) x.add) :=
  (opens_struct (fs := [(22, 0, 1), (33, 1, 1), (23, 2, 1), (33, 3, 1)]) (by kernel_rfl) (.cons (o_thgs) (.cons (o_ints) (.cons (o_mvds) (.cons (o_ints) .nil))))).map
    (fun y => ⟨y.1, y.2.1, y.2.2.1, y.2.2.2.1⟩) (fun _ => rfl) (fun _ => rfl) (fun _ h => ⟨h.1, h.2.1, h.2.2.1, h.2.2.2.1⟩) (fun _ => by (try dsimp only); omega)
theorem parts_bulk : ∀ (l : List Thg), ∀ t ∈ l, t.parts.length ≤ sumOf (fun t : Thg => sumOf (fun _ => 1) t.parts + 1) l
  | [], t, h => by cases h
  | u :: l, t, h => by
    have h2 : u.parts.length ≤ sumOf (fun _ => 1) u.parts := sumOf_len (fun _ => 1) (fun _ => Nat.le_refl 1) u.parts
    simp only [sumOf]
    rcases List.mem_cons.1 h with rfl | h
    · omega
    · have := parts_bulk l t h; omega
theorem put_bulk (x : Chg) : x.put.length ≤ sumOf (fun t : Thg => sumOf (fun _ => 1) t.parts + 1) x.put := sumOf_len _ (fun _ => Nat.le_add_left 1 _) x.put
theorem add_bulk (x : Chg) : x.add.length ≤ sumOf (fun _ => 1) x.add := sumOf_len (fun _ => 1) (fun _ => Nat.le_refl 1) x.add
theorem o_chgs : Opens Tryz.prog 50 1 (slD Chg.ds) (fun l => ∀ y ∈ l, (ChgOk) y) (fun l => sumOf (fun x : Chg => sumOf (fun t : Thg => sumOf (fun _ => 1) t.parts + 1) x.put + sumOf (fun _ => 1) x.add) l + 1) := opens_slice Tryz.underlying50 (by kernel_rfl) (by decide) o_chg
theorem chgs_bulk : ∀ (l : List Chg), ∀ x ∈ l, sumOf (fun t : Thg => sumOf (fun _ => 1) t.parts + 1) x.put + sumOf (fun _ => 1) x.add ≤ sumOf (fun x : Chg => sumOf (fun t : Thg => sumOf (fun _ => 1) t.parts + 1) x.put + sumOf (fun _ => 1) x.add) l
  | [], x, h => by cases h
  | u :: l, x, h => by
    simp only [sumOf]
    rcases List.mem_cons.1 h with rfl | h
    · omega
    · have := chgs_bulk l x h; omega

set_option maxRecDepth 100000 in
theorem walk {H : Type} {enc : TypeId × Value → H} (W : World) (base : Nat) {v0 v1 : Value} {d0 d1 : DataW H} {p0 p1 : List MemPlace}
    (ok0 : Value.okWide Tryz.prog W .any base 25 v0) (h0 : DataW.Trod enc Tryz.prog W 0 (fun _ => true) true 25 v0 d0 p0)
    (ok1 : Value.okWide Tryz.prog W .any base 50 v1) (h1 : DataW.Trod enc Tryz.prog W 0 (fun _ => true) true 50 v1 d1 p1) (hkb : Rows.uptoBulkAll [d0, d1] ≤ 1048576) (hT : MaxT W) :
    Calls Tryz.prog 5 #[v0, v1] W fun e w' => e = .returned (.bool true) ∧ Below W.heap.size W w' := by
  obtain ⟨cs0, rfl, hcs0⟩ : ∃ cs : Array Value, v0 = .agg cs ∧ cs.size = 2 := by
    unfold Value.okWide at ok0
    rw [show Tryz.prog.underlying 25 = some (.struct _) from Tryz.underlying25] at ok0
    obtain ⟨cs, h1, h2, _⟩ := ok0
    exact ⟨cs, h1, h2⟩
  obtain ⟨y0, hy0, hr0, ho0, hb0⟩ := (o_ctl).arg h0 hcs0
  obtain ⟨a1, l1, c1, rfl⟩ := okWide_slice Tryz.underlying50 ok1
  obtain ⟨y1, hy1, hr1, ho1, hb1⟩ := (o_chgs).arg h1 rfl
  simp only [Rows.uptoBulkAll] at hkb
  have hX : ∀ x ∈ y1, XIn x ∧ x.put.length ≤ 1048576 ∧ x.add.length ≤ 1048576 := fun x hx => by
    have h1 := chgs_bulk _ x hx
    have h2 := put_bulk x
    have h3 := add_bulk x
    exact ⟨⟨hy1 x hx, fun t ht => by have := parts_bulk _ t ht; omega⟩, by omega, by omega⟩
  have hc := (lawPlay y0 y1 hy0 hX).2 (allF W) W _ hT (fun _ h => h) (RepL.cons (agg_of hr0 ho0) (RepL.cons (one_of hr1 rfl) RepL.nil))
  refine hc.mono fun e w' ⟨v, F', he, hv, hE⟩ => ?_
  rw [he, rep_v hv]
  exact ⟨rfl, hE.below⟩

noncomputable def laidWorld (os : Os) : World :=
  let w0 := World.holding Tryz.prog os ⟨#[], #[], []⟩
  let put (h : Array Obj) (g : Nat) (cs : Array Value) : Array Obj := h.modify g fun
    | .cells _ t frozen => .cells cs t frozen
    | o => o
  let h1 := put w0.heap 2 ((List.range 16).flatMap fun i => [Value.int .u8 (Lib.accLo i), Value.int .u8 (Lib.accHi i)]).toArray
  let h2 := put h1 1 (Lib.firstTab.map fun z => Value.int .u8 z).toArray
  { w0 with heap := h2 }
set_option maxRecDepth 100000 in
theorem laid_met (os : Os) (args : Array Value) : laidMet Tryz.prog Rows.shelfPlaysMatchSpecUptoRow.laid ((laidWorld os).forCall (fun _ _ => 0) ⟨#[], args, []⟩).memory :=
  (LaidIn.of_run (l := [("unicode/utf8.acceptRanges", Rows.laid_unicode_utf8_acceptRanges), ("unicode/utf8.first", Rows.laid_unicode_utf8_first)]) [2, 1] 8 (by kernel_rfl) (by kernel_rfl) (by kernel_rfl) (by kernel_rfl)).met
theorem witness_row (os : Os) {H : Type} (enc : TypeId × Value → H) :
    (Rows.OpenSpec.upto Rows.shelfPlaysMatchSpecSpec).preRow enc Tryz.prog Tryz.f5 Rows.shelfPlaysMatchSpecUptoRow.domain false Rows.shelfPlaysMatchSpecUptoRow.laid ((laidWorld os).forCall (fun _ _ => 0) ⟨#[], #[.agg #[.slice none 0 0, .slice none 0 0], .slice none 0 0], []⟩).memory #[.agg #[.slice none 0 0, .slice none 0 0], .slice none 0 0] := by
  have hw : (DataW.whole enc Tryz.prog ((laidWorld os).forCall (fun _ _ => 0) ⟨#[], #[.agg #[.slice none 0 0, .slice none 0 0], .slice none 0 0], []⟩).memory Tryz.f5.params.toList (Rows.OpenSpec.upto Rows.shelfPlaysMatchSpecSpec).vars false (#[.agg #[.slice none 0 0, .slice none 0 0], .slice none 0 0] : Array Value).toList 8).map (fun x => (x.1, x.2.1)) =
      some ([.agg [.nil, .nil], .nil], []) := by kernel_rfl
  obtain ⟨⟨x1, x2, x3⟩, hx, hx1⟩ := Option.map_eq_some_iff.1 hw
  simp only [Prod.mk.injEq] at hx1
  obtain ⟨rfl, rfl⟩ := hx1
  exact OpenSpec.preRow_of_cond 8 hx (by kernel_rfl) (fun k hk => by cases hk; kernel_rfl) (by kernel_rfl) (laid_met os _)

set_option maxRecDepth 100000 in
set_option maxHeartbeats 2000000 in
theorem lifted (os : Os) (started : os.Started) (H : Type) (enc : TypeId × Value → H) (F : Stop.Interp) :
    ReturnsInHanded {} Tryz.checked os 5 .any ((Rows.OpenSpec.upto Rows.shelfPlaysMatchSpecSpec).preRow enc Tryz.prog Tryz.f5 Rows.shelfPlaysMatchSpecUptoRow.domain false Rows.shelfPlaysMatchSpecUptoRow.laid) (((Rows.OpenSpec.upto Rows.shelfPlaysMatchSpecSpec).at F).post enc Tryz.prog Tryz.f5 false true false false) := by
  refine returnsInHanded_of_row (C := Tryz.checked) (s := (Rows.OpenSpec.upto Rows.shelfPlaysMatchSpecSpec)) own started (by kernel_rfl) Tryz.func5
    (witness_row_atRef (enc := enc) (C := Tryz.checked) false (laidWorld os) #[.agg #[.slice none 0 0, .slice none 0 0], .slice none 0 0] rfl (by kernel_rfl) (by kernel_rfl) (by kernel_rfl) (witness_row os enc)) ?_
  intro W base args ds gs before hval0 hW _ hcond _ hL hSh _
  have hval : ∀ (j : Nat) t v, Tryz.f5.params[j]? = some t → args[j]? = some v → Value.okWide Tryz.prog W .any base t v := hval0
  have hW' := hW
  obtain ⟨p, q, hA0, hV, rfl, hfz, hnd⟩ := hW
  have hA : DataW.TrodAll enc Tryz.prog W 0 (fun _ => true) true Tryz.f5.params.toList args.toList ds p := hA0
  rw [Tryz.params5] at hA hval
  obtain ⟨v0, vs0, d0, ds0, p0, q0, hargs, rfl, rfl, h0, r0⟩ := trodAll_cons hA
  obtain ⟨v1, vs1, d1, ds1, p1, q1, rfl, rfl, rfl, h1, r1⟩ := trodAll_cons r0
  obtain ⟨rfl, rfl, rfl⟩ := trodAll_nil r1
  obtain rfl : args = #[v0, v1] := by cases args; simp_all
  obtain ⟨rfl, rfl⟩ := trodVars_none hV
  have lt0 : ∀ x ∈ p0, x.block < W.heap.size := by obtain ⟨m, hm⟩ := h0; exact DataW.trod_lt m _ _ _ hm
  have ok0 := hval 0 25 v0 rfl rfl
  have lt1 : ∀ x ∈ p1, x.block < W.heap.size := by obtain ⟨m, hm⟩ := h1; exact DataW.trod_lt m _ _ _ hm
  have ok1 := hval 1 50 v1 rfl rfl
  clear hA0 hval0
  have hkb : Rows.uptoBulkAll _ ≤ 1048576 := of_decide_eq_true (hcond _ rfl)
  simp only [List.append_nil] at hkb
  have hT : MaxT W := Tryz.l144.s1_3 W hSh
  refine (walk W base ok0 h0 ok1 h1 hkb hT).mono fun e W' ⟨he, bel⟩ => ?_
  subst he
  exact ⟨_, rfl, _, _, _, [], _, [], hW', trodAll_mk1 (shut_bool Tryz.underlying4 _), (trodAll_cons_mk (Below.trod laidOut (by kernel_rfl) (of_decide_eq_true (by kernel_rfl)) h0 bel lt0) (trodAll_cons_mk (Below.trod laidOut (by kernel_rfl) (of_decide_eq_true (by kernel_rfl)) h1 bel lt1) trodAll_mk0)), rfl, bel.frame _, fun h => by cases h⟩

theorem said : Rows.ShelfPlaysMatchSpecUptoSaid :=
  OpenClaim.holds_of_cond 5 Tryz.f5 rfl rfl rfl rfl rfl rfl rfl ⟨rfl, rfl, rfl, rfl, rfl⟩ rfl rfl rfl rfl rfl (by kernel_rfl) Tryz.func5 (by kernel_rfl)
    (of_decide_eq_true (by kernel_rfl)) (by unfold Func.isWrapper; first | (rw [if_pos (by decide +kernel)]; kernel_rfl) | (rw [if_neg (by decide +kernel)]; exact ⟨rfl, rfl⟩))
    (fun os started H enc _ F => by rw [OpenClaim.pre_eq_preRow]; exact lifted os started H enc F)
theorem plain (f : FuncId) (fn : Func) (hf : Tryz.pinned.checked.prog.funcNamed "deadwax/deadwaxlaw6.ShelfPlaysMatchSpec" = some f) (hfn : Tryz.pinned.checked.prog.funcs[f]? = some fn) :
    false = Tryz.pinned.checked.prog.looks [] ∧ ∀ (j : Nat) t, fn.params[j]? = some t → Tryz.pinned.checked.prog.wantsStandIn t = false := by
  obtain rfl : f = 5 := Option.some.inj ((show Tryz.prog.funcNamed "deadwax/deadwaxlaw6.ShelfPlaysMatchSpec" = some 5 by kernel_rfl).symm.trans hf) |>.symm
  obtain rfl : fn = Tryz.f5 := (Option.some.inj (Tryz.func5.symm.trans hfn)).symm
  refine ⟨by kernel_rfl, fun j t ht => ?_⟩
  rw [Tryz.params5] at ht
  have h := Array.mem_of_getElem? ht
  simp only [List.mem_toArray, List.mem_cons, List.not_mem_nil, or_false] at h
  rcases h with rfl | rfl
  · exact (show Tryz.prog.wantsStandIn 25 = false by kernel_rfl)
  · exact (show Tryz.prog.wantsStandIn 50 = false by kernel_rfl)
theorem proved : Rows.ShelfPlaysMatchSpecUptoCardSaid :=
  Claim7.holds_tied_plain_at .later [] _ _ _ _ said (fun _ h => by cases h) (by kernel_rfl) (fun _ h => by cases h) shelfPlaysMatchSpecUpto_row_tie rfl ⟨rfl, rfl⟩ (by kernel_rfl) rfl plain (by kernel_rfl)

#print axioms proved
end Go.Proofs.YtgldfnkbpopanaaGreatDoor.shelfPlaysMatchSpecLaw