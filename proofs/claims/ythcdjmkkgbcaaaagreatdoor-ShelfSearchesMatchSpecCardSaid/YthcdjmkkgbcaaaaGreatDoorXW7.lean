/- Walks and laws over abstract values, merged by tools/merge.py. No statement of the seat. -/
import Derived.WalkKit
import Derived.Ground.NamesProg
import Derived.Shelf.Sort.Plain
import Derived.Shelf.Slices.In.SortNone
import Derived.Shelf.Slices.In.CompactS
import Derived.Test.YthcdjmkkgbcaaaaGreatDoorProg
import Derived.Test.YthcdjmkkgbcaaaaGreatDoorXW6

namespace Go.Proofs.YthcdjmkkgbcaaaaGreatDoor
open Go.RowKit Go.Shelf Go.Lib Go.Sort
set_option linter.unusedVariables false
set_option linter.unusedSimpArgs false

def cI (a b : Int) : Int := if a < b then -1 else if b < a then 1 else 0
/-- What was found: a thing's number, its points, its title's length. -/
structure Rs where
  id : Int
  pts : Int
  long : Int
deriving DecidableEq
instance : Inhabited Rs := ⟨⟨0, 0, 0⟩⟩
def Rs.ds (x : Rs) : List D := [.v (.int .i64 x.id), .v (.int .i64 x.pts), .v (.int .i64 x.long)]
def cmpR (x y : Rs) : Int := if cI y.pts x.pts = 0 then (if cI x.long y.long = 0 then cI x.id y.id else cI x.long y.long) else cI y.pts x.pts
def ltR (x y : Rs) : Prop := y.pts < x.pts ∨ (y.pts = x.pts ∧ (x.long < y.long ∨ (x.long = y.long ∧ x.id < y.id)))
theorem cI_neg {a b : Int} : cI a b < 0 ↔ a < b := by
  unfold cI
  split
  · constructor <;> intro <;> omega
  · split
    · constructor <;> intro <;> omega
    · constructor <;> intro <;> omega
theorem cI_0 {a b : Int} : cI a b = 0 ↔ a = b := by
  unfold cI
  split
  · constructor <;> intro <;> omega
  · split
    · constructor <;> intro <;> omega
    · constructor <;> intro <;> omega
theorem cmpR_lt {x y : Rs} : cmpR x y < 0 ↔ ltR x y := by
  unfold cmpR ltR
  by_cases h1 : cI y.pts x.pts = 0
  · rw [if_pos h1]
    have e1 := cI_0.1 h1
    by_cases h2 : cI x.long y.long = 0
    · rw [if_pos h2, cI_neg]
      have e2 := cI_0.1 h2
      constructor
      · intro h; exact .inr ⟨e1, .inr ⟨e2, h⟩⟩
      · rintro (h | ⟨_, h | ⟨_, h⟩⟩) <;> omega
    · rw [if_neg h2, cI_neg]
      have e2 := fun h => h2 (cI_0.2 h)
      constructor
      · intro h; exact .inr ⟨e1, .inl h⟩
      · rintro (h | ⟨_, h | ⟨h, _⟩⟩)
        · omega
        · exact h
        · exact absurd h e2
  · rw [if_neg h1, cI_neg]
    have e1 := fun h => h1 (cI_0.2 h)
    constructor
    · intro h; exact .inl h
    · rintro (h | ⟨h, _⟩)
      · exact h
      · exact absurd h e1
theorem ltOf_R (x y : Rs) : ltOf cmpR x y = true ↔ ltR x y := by
  unfold ltOf
  rw [decide_eq_true_iff]; exact cmpR_lt
theorem ltR_irr (x : Rs) : ¬ ltR x x := by unfold ltR; omega
theorem ltR_trans {x y z : Rs} (h1 : ltR x y) (h2 : ltR y z) : ltR x z := by unfold ltR at *; omega
theorem ltR_tot {x y : Rs} (h : x.id ≠ y.id) : ltR x y ∨ ltR y x := by unfold ltR; omega
theorem swo_R : SWO (ltOf cmpR) where
  irrefl x := by
    cases h : ltOf cmpR x x with
    | false => rfl
    | true => exact absurd ((ltOf_R x x).1 h) (ltR_irr x)
  trans x y z h1 h2 := (ltOf_R x z).2 (ltR_trans ((ltOf_R x y).1 h1) ((ltOf_R y z).1 h2))
  ntrans x y z h1 h2 := by
    cases h : ltOf cmpR x z with
    | false => rfl
    | true =>
      have h3 := (ltOf_R x z).1 h
      have h4 : ¬ ltR x y := fun hh => by rw [(ltOf_R x y).2 hh] at h1; cases h1
      have h5 : ¬ ltR y z := fun hh => by rw [(ltOf_R y z).2 hh] at h2; cases h2
      exfalso
      unfold ltR at h3 h4 h5
      omega
set_option maxHeartbeats 4000000 in
/-- cmp.Or at three. -/
theorem or3 (a b c : Int) (blk : Nat) (W : World) (h0 : W.cell? ⟨blk, 0, none⟩ = some (.int .i64 a)) (h1 : W.cell? ⟨blk, 1, none⟩ = some (.int .i64 b)) (h2 : W.cell? ⟨blk, 2, none⟩ = some (.int .i64 c)) :
    Calls Tryz.prog 45 #[.slice (some ⟨blk, 0, none⟩) 3 3] W fun e w' => e = .returned (.int .i64 (if a = 0 then (if b = 0 then c else b) else a)) ∧ w' = W := by
  go_enter Tryz.func45, Tryz.ntmps45
  go_wp2
  refine wp_loop_rounds 4 ?_
  rw [rounds_succ]
  by_cases ha : a = 0
  · subst ha
    go_wp2
    rw [rounds_succ]
    by_cases hb : b = 0
    · subst hb
      go_wp2
      rw [rounds_succ]
      by_cases hc : c = 0
      · subst hc
        go_wp2
        rw [rounds_succ]
        go_wp2
        go_ret
        exact ⟨rfl, rfl⟩
      · go_wp2
        go_ret
        exact ⟨rfl, rfl⟩
    · go_wp2
      go_ret
      exact ⟨rfl, rfl⟩
  · go_wp2
    go_ret
    exact ⟨rfl, rfl⟩
theorem cmpI_any (a b : Int) (W : World) : Calls Tryz.prog 46 #[.int .i64 a, .int .i64 b] W fun e w' => e = .returned (.int .i64 (cI a b)) ∧ w' = W := AnyG.cmp_Compare_int Tryz.cmpI a b W
set_option maxHeartbeats 8000000 in
set_option maxRecDepth 1000000 in
/-- The order of what was found, in whatever world. -/
theorem cmpR_any (x1 x2 x3 y1 y2 y3 : Int) (W : World) : Calls Tryz.prog 44 #[.agg #[.int .i64 x1, .int .i64 x2, .int .i64 x3], .agg #[.int .i64 y1, .int .i64 y2, .int .i64 y3]] W fun e w' => e = .returned (.int .i64 (if cI y2 x2 = 0 then (if cI x3 y3 = 0 then cI x1 y1 else cI x3 y3) else cI y2 x2)) ∧ ∃ q os', w' = grow (W.drewN q) os' := by
  have hcon := fun W' => cmpI_any y2 x2 W'
  have hcon2 := fun W' => cmpI_any x3 y3 W'
  have hcon3 := fun W' => cmpI_any x1 y1 W'
  have hor := or3 (cI y2 x2) (cI x3 y3) (cI x1 y1)
  generalize cI y2 x2 = r at *
  generalize cI x3 y3 = s at *
  generalize cI x1 y1 = u at *
  have hor2 : ∀ (X : World) (b e : Nat), b = X.heap.size → Calls Tryz.prog 45 #[.slice (some ⟨b, 0, none⟩) 3 3] (X.alloc (.cells #[.int .i64 r, .int .i64 s, .int .i64 u] e)) fun e' w' => e' = .returned (.int .i64 (if r = 0 then (if s = 0 then u else s) else r)) ∧ w' = X.alloc (.cells #[.int .i64 r, .int .i64 s, .int .i64 u] e) :=
    fun X b e hb => hor b _ (cell_top hb rfl) (cell_top hb rfl) (cell_top hb rfl)
  clear hor
  generalize (if r = 0 then (if s = 0 then u else s) else r) = t at hor2 ⊢
  go_enter Tryz.func44, Tryz.ntmps44
  go_wp2
  generalize hW2 : (W.alloc (Obj.cells #[Value.int IntKind.i64 x1, Value.int IntKind.i64 x2, Value.int IntKind.i64 x3] 83)).alloc (Obj.cells #[Value.int IntKind.i64 y1, Value.int IntKind.i64 y2, Value.int IntKind.i64 y3] 83) = W2
  have c1 : W2.cell? ⟨W.heap.size, 0, none⟩ = some (.int .i64 x1) := by rw [← hW2]; simp [go_sem]
  have c2 : W2.cell? ⟨W.heap.size, 1, none⟩ = some (.int .i64 x2) := by rw [← hW2]; simp [go_sem]
  have c5 : W2.cell? ⟨W.heap.size, 2, none⟩ = some (.int .i64 x3) := by rw [← hW2]; simp [go_sem]
  have c3 : W2.cell? ⟨W.heap.size + 1, 0, none⟩ = some (.int .i64 y1) := by rw [← hW2]; simp [go_sem]
  have c4 : W2.cell? ⟨W.heap.size + 1, 1, none⟩ = some (.int .i64 y2) := by rw [← hW2]; simp [go_sem]
  have c6 : W2.cell? ⟨W.heap.size + 1, 2, none⟩ = some (.int .i64 y3) := by rw [← hW2]; simp [go_sem]
  have hG : ∃ os, W2 = grow W os := ⟨_, by rw [← hW2, alloc_eq_grow, alloc_eq_grow, grow_grow]⟩
  clear hW2
  refine wp_region_still_tail 15 (by kernel_rfl) (by kernel_rfl) ?_
  simp only [List.take_succ_cons, List.take_zero, List.drop_succ_cons, List.drop_zero]
  have e3 : ({ W2 with drawn := W2.drawn + 1 } : World) = W2.drew := rfl
  simp only [e3]
  have c1' : W2.drew.cell? ⟨W.heap.size, 0, none⟩ = some (.int .i64 x1) := c1
  have c2' : W2.drew.cell? ⟨W.heap.size, 1, none⟩ = some (.int .i64 x2) := c2
  have c5' : W2.drew.cell? ⟨W.heap.size, 2, none⟩ = some (.int .i64 x3) := c5
  have c3' : W2.drew.cell? ⟨W.heap.size + 1, 0, none⟩ = some (.int .i64 y1) := c3
  have c4' : W2.drew.cell? ⟨W.heap.size + 1, 1, none⟩ = some (.int .i64 y2) := c4
  have c6' : W2.drew.cell? ⟨W.heap.size + 1, 2, none⟩ = some (.int .i64 y3) := c6
  have hG' : ∃ q os, W2.drew = grow (W.drewN q) os := by obtain ⟨os, rfl⟩ := hG; exact ⟨1, os, rfl⟩
  clear c1 c2 c3 c4 c5 c6 hG e3
  generalize W2.drew = W3 at *
  iterate 4 still_step
  still_call (hcon _)
  iterate 4 still_step
  still_call (hcon2 _)
  iterate 4 still_step
  still_call (hcon3 _)
  refine wpStill_nil ?_
  clear hcon hcon2 hcon3 c1' c2' c3' c4' c5' c6'
  go_wp2_with (go_at_call 45; refine (hor2 _ _ _ (by simp)).mono ?_; rintro e w' ⟨rfl, rfl⟩)
  go_ret
  obtain ⟨q, os, rfl⟩ := hG'
  exact ⟨rfl, q, _, by rw [alloc_eq_grow, grow_grow]⟩
theorem repL_vv {F : Nat → Prop} {w : World} : ∀ {xs : List Value} {vs : List Value}, xs.length = vs.length → (∀ i (h : i < xs.length) (h' : i < (vs.map D.v).length), Rep F w xs[i] (vs.map D.v)[i]) → xs = vs := fun hl h => by
  apply List.ext_getElem hl
  intro i h1 h2
  have := h i h1 (by simpa using h2)
  rw [List.getElem_map] at this
  exact rep_v this
theorem cmpT_R : CmpT Tryz.prog 44 3 Rs.ds cmpR := fun F w0 W x y xs ys h1 h2 h3 h4 => by
  have e1 := repL_vv (vs := [.int .i64 x.id, .int .i64 x.pts, .int .i64 x.long]) (by simpa using h1) h3
  have e2 := repL_vv (vs := [.int .i64 y.id, .int .i64 y.pts, .int .i64 y.long]) (by simpa using h2) h4
  subst e1; subst e2
  exact cmpR_any _ _ _ _ _ _ W
theorem sortT_R : SortT Tryz.prog 43 3 where
  ent := enters_of Tryz.func43 (by kernel_rfl) rfl
  nil fv w := AnyF.slices_SortFunc_none Tryz.sortResult none 0 fv w
  all enc hk h1 cf hO g blk cap d w eg hC hH hb hn := AnyQ.slices_SortFunc Tryz.sortResult 3 (fun w => (AggT.of (by kernel_rfl) : AggT Tryz.prog 83 3).agg w) (fun w => (AggT.of (by kernel_rfl) : AggT Tryz.prog 83 3).size w) enc hk h1 cf hO g #[] blk 0 cap d w eg hC hH hb hn
theorem c_sortR (xs : List Rs) (hn : xs.length < 4611686018427387904) (hd : DistF cmpR xs) (e : Nat) : RCall Tryz.prog 43 e 3 (xs.map Rs.ds) ((sortF cmpR xs).map Rs.ds) [.clo (.func 44) []] (.tup []) :=
 sort_rcall sortT_R swo_R (enters_of Tryz.func44 (by kernel_rfl) rfl) cmpT_R (fun _ => rfl) [.int .i64 0, .int .i64 0, .int .i64 0] rfl (by simp [Value.oneCell']) (fun F w i h h' => by
  have hi : i < 3 := h
  match i, hi with
  | 0, _ => exact .v _
  | 1, _ => exact .v _
  | 2, _ => exact .v _) xs hn hd e
end Go.Proofs.YthcdjmkkgbcaaaaGreatDoor

namespace Go.Proofs
open Go.Shelf
def Tryz.l190_ren : Go.Shelf.Ren := ⟨fun | 190 => 40 | 125 => 76 | 258 => 75 | 128 => 116 | 129 => 117 | 302 => 107 | 303 => 108 | 304 => 109 | 305 => 110 | 306 => 111 | 307 => 112 | 308 => 113 | 309 => 114 | 310 => 115 | 333 => 155 | 329 => 156 | 330 => 157 | 334 => 158 | 335 => 159 | 336 => 160 | 344 => 183 | n => n, fun | 31 => 68 | 9 => 9 | 3 => 3 | 46 => 122 | 0 => 0 | 51 => 145 | 53 => 157 | 4 => 4 | 183 => 150 | 182 => 149 | 131 => 80 | 5 => 5 | 218 => 187 | 222 => 191 | 228 => 214 | 229 => 89 | n => n, fun | n => n⟩
theorem Tryz.l190 : Go.Proofs.Lays.n190 Tryz.prog Tryz.l190_ren := {
  mixed := by kernel_rfl
  f125 := Tryz.func76.trans (congrArg some (by kernel_rfl))
  f128 := Tryz.func116.trans (congrArg some (by kernel_rfl))
  f129 := Tryz.func117.trans (congrArg some (by kernel_rfl))
  f190 := Tryz.func40.trans (congrArg some (by kernel_rfl))
  f258 := Tryz.func75.trans (congrArg some (by kernel_rfl))
  f302 := Tryz.func107.trans (congrArg some (by kernel_rfl))
  f303 := Tryz.func108.trans (congrArg some (by kernel_rfl))
  f304 := Tryz.func109.trans (congrArg some (by kernel_rfl))
  f305 := Tryz.func110.trans (congrArg some (by kernel_rfl))
  f306 := Tryz.func111.trans (congrArg some (by kernel_rfl))
  f307 := Tryz.func112.trans (congrArg some (by kernel_rfl))
  f308 := Tryz.func113.trans (congrArg some (by kernel_rfl))
  f309 := Tryz.func114.trans (congrArg some (by kernel_rfl))
  f310 := Tryz.func115.trans (congrArg some (by kernel_rfl))
  f329 := Tryz.func156.trans (congrArg some (by kernel_rfl))
  f330 := Tryz.func157.trans (congrArg some (by kernel_rfl))
  f333 := Tryz.func155.trans (congrArg some (by kernel_rfl))
  f334 := Tryz.func158.trans (congrArg some (by kernel_rfl))
  f335 := Tryz.func159.trans (congrArg some (by kernel_rfl))
  f336 := Tryz.func160.trans (congrArg some (by kernel_rfl))
  f344 := Tryz.func183.trans (congrArg some (by kernel_rfl))
  t0 := Tryz.underlying0
  a0 := Tryz.isAgg0
  z0 := Tryz.sizeOf0
  v0 := Tryz.zeroValue0
  t3 := Tryz.underlying3
  a3 := Tryz.isAgg3
  z3 := Tryz.sizeOf3
  v3 := Tryz.zeroValue3
  t4 := Tryz.underlying4
  a4 := Tryz.isAgg4
  z4 := Tryz.sizeOf4
  v4 := Tryz.zeroValue4
  t5 := Tryz.underlying5
  a5 := Tryz.isAgg5
  z5 := Tryz.sizeOf5
  v5 := Tryz.zeroValue5
  t9 := Tryz.underlying9
  a9 := Tryz.isAgg9
  z9 := Tryz.sizeOf9
  v9 := Tryz.zeroValue9
  t31 := Tryz.underlying68
  a31 := Tryz.isAgg68
  z31 := Tryz.sizeOf68
  v31 := Tryz.zeroValue68
  t46 := Tryz.underlying122
  a46 := Tryz.isAgg122
  z46 := Tryz.sizeOf122
  v46 := Tryz.zeroValue122
  t51 := Tryz.underlying145
  a51 := Tryz.isAgg145
  z51 := Tryz.sizeOf145
  v51 := Tryz.zeroValue145
  t53 := Tryz.underlying157
  a53 := Tryz.isAgg157
  z53 := Tryz.sizeOf157
  v53 := Tryz.zeroValue157
  t131 := Tryz.underlying80
  a131 := Tryz.isAgg80
  z131 := Tryz.sizeOf80
  v131 := Tryz.zeroValue80
  t182 := Tryz.underlying149
  a182 := Tryz.isAgg149
  z182 := Tryz.sizeOf149
  v182 := Tryz.zeroValue149
  t183 := Tryz.underlying150
  a183 := Tryz.isAgg150
  z183 := Tryz.sizeOf150
  v183 := Tryz.zeroValue150
  t218 := Tryz.underlying187
  a218 := Tryz.isAgg187
  z218 := Tryz.sizeOf187
  v218 := Tryz.zeroValue187
  t222 := Tryz.underlying191
  a222 := Tryz.isAgg191
  z222 := Tryz.sizeOf191
  v222 := Tryz.zeroValue191
  t228 := Tryz.underlying214
  a228 := Tryz.isAgg214
  z228 := Tryz.sizeOf214
  v228 := Tryz.zeroValue214
  t229 := Tryz.underlying89
  a229 := Tryz.isAgg89
  z229 := Tryz.sizeOf89
  v229 := Tryz.zeroValue89 }
def Tryz.l194_ren : Go.Shelf.Ren := ⟨fun | 194 => 41 | n => n, fun | 31 => 68 | 9 => 9 | 3 => 3 | 4 => 4 | 0 => 0 | n => n, fun | n => n⟩
theorem Tryz.l194 : Go.Proofs.Lays.n194 Tryz.prog Tryz.l194_ren := {
  mixed := by kernel_rfl
  f194 := Tryz.func41.trans (congrArg some (by kernel_rfl))
  t0 := Tryz.underlying0
  a0 := Tryz.isAgg0
  z0 := Tryz.sizeOf0
  v0 := Tryz.zeroValue0
  t3 := Tryz.underlying3
  a3 := Tryz.isAgg3
  z3 := Tryz.sizeOf3
  v3 := Tryz.zeroValue3
  t4 := Tryz.underlying4
  a4 := Tryz.isAgg4
  z4 := Tryz.sizeOf4
  v4 := Tryz.zeroValue4
  t9 := Tryz.underlying9
  a9 := Tryz.isAgg9
  z9 := Tryz.sizeOf9
  v9 := Tryz.zeroValue9
  t31 := Tryz.underlying68
  a31 := Tryz.isAgg68
  z31 := Tryz.sizeOf68
  v31 := Tryz.zeroValue68 }
end Go.Proofs

namespace Go.Proofs.YthcdjmkkgbcaaaaGreatDoor
open Go.RowKit Go.Lib
set_option linter.unusedVariables false

/-- What the library's sort does to a row of strings of the caller's. -/
theorem row_strs {B : Nat} {F : Nat → Prop} {ρ : Nat → Value} {w : World} {id e : Nat} {xs : List (List UInt8)} (h : ObOk B F ρ w id (.row e 1 (xs.map fldD))) :
    (ρ id = .slice none 0 0 ∧ xs = []) ∨ ∃ g cap cur, ρ id = .slice (some ⟨g, 0, none⟩) xs.length cap ∧ B ≤ g ∧ w.heap[g]? = some (.cells cur e (0, 0)) ∧ xs.length ≤ cap ∧ cap ≤ maxLen ∧ cur.size = cap ∧ (∀ i, (hi : i < xs.length) → cur[i]? = some (.string ⟨xs[i].toArray⟩)) ∧ ¬ F g := by
  obtain ⟨ys, h1, h2, h3, h4⟩ := h
  have hl : (xs.map fldD).length = xs.length := List.length_map ..
  rw [hl] at h1
  have h1' : w.ownsRow B e 1 (ρ id) xs.length (flat ys xs.length 1) := h1
  rcases h1'.2 with ⟨h5, h6⟩ | ⟨g, cap, cur, h5, h6, h7, h8, h9, h10, h11⟩
  · exact .inl ⟨h5, List.eq_nil_of_length_eq_zero h6⟩
  · refine .inr ⟨g, cap, cur, h5, h6, h7, h8, h9, by rw [h10, Nat.mul_one], fun i hi => ?_, h4 g (by rw [h5]; rfl)⟩
    have hc := row_cell h1' h5 h7 hi (show 0 < 1 by omega)
    rw [cell_of_row w g (i * 1 + 0) cur e (0, 0) h7, Nat.mul_one, Nat.add_zero] at hc
    have h12 := (h3 i (by rw [hl]; exact hi) 0 (by simp [fldD])).2
    simp only [List.getElem_map, fldD, List.getElem_cons_zero] at h12
    rw [hc, rep_v h12]
theorem strs_row {B : Nat} {F : Nat → Prop} {ρ : Nat → Value} {w : World} {id e g cap : Nat} {cur : Array Value} {xs : List (List UInt8)} (h5 : ρ id = .slice (some ⟨g, 0, none⟩) xs.length cap) (h6 : B ≤ g) (h7 : w.heap[g]? = some (.cells cur e (0, 0))) (h8 : xs.length ≤ cap) (h9 : cap ≤ maxLen) (h10 : cur.size = cap)
    (hc : ∀ i, (hi : i < xs.length) → cur[i]? = some (.string ⟨xs[i].toArray⟩)) (hF : ¬ F g) : ObOk B F ρ w id (.row e 1 (xs.map fldD)) := by
  have hl : (xs.map fldD).length = xs.length := List.length_map ..
  refine ⟨fun i _ => .string ⟨(xs.getD i []).toArray⟩, ?_, fun i hi => by simp [fldD], fun i hi j hj => ⟨rfl, ?_⟩, fun g' hg' => ?_⟩
  · rw [hl]
    refine ⟨flat_length _ _ _, .inr ⟨g, cap, cur, h5, h6, h7, h8, h9, by rw [h10, Nat.mul_one], ?_⟩⟩
    apply List.ext_getElem?
    intro p
    by_cases hp : p < xs.length
    · have := flatten_get (fun i _ => Value.string ⟨(xs.getD i []).toArray⟩) 1 xs.length p 0 hp (by omega)
      rw [Nat.mul_one, Nat.add_zero] at this
      rw [this, Nat.mul_one, List.getElem?_take, if_pos hp, Array.getElem?_toList, hc p hp]
      simp [List.getD_eq_getElem?_getD, List.getElem?_eq_getElem hp]
    · rw [List.getElem?_eq_none (by rw [List.length_take]; omega)]
      exact (List.getElem?_eq_none (by have := flat_length (fun i _ => Value.string ⟨(xs.getD i []).toArray⟩) xs.length 1; unfold flat at this; rw [this]; omega)).symm
  · rw [hl] at hi
    simp only [List.getElem_map, fldD] at hj ⊢
    obtain rfl : j = 0 := by simpa using hj
    simp only [List.getElem_cons_zero, List.getD_eq_getElem?_getD, List.getElem?_eq_getElem hi, Option.getD_some]
    exact .v _
  · rw [h5] at hg'
    simp [blk] at hg'
    subst hg'
    exact hF
theorem repSL_one {F : Nat → Prop} {ρ : Nat → Value} {w : World} {vs : List Value} {id : Nat} (h : RepSL F ρ w vs [.own id]) : vs = [ρ id] := by
  obtain ⟨v, rfl⟩ : ∃ v, vs = [v] := by
    match vs, h.1 with
    | [v], _ => exact ⟨v, rfl⟩
  have h1 := h.2 0 (by simp) (by simp)
  simp only [List.getElem_cons_zero] at h1
  cases h1
  rfl
/-- The world behind such a call: the row's cells hold ys (and more, up to its old end). -/
theorem put_block {w : World} {g n e cap : Nat} {cur : Array Value} {os : Array Obj} {zs : List (List UInt8)} (h : w.heap[g]? = some (.cells cur e (0, 0))) :
    (Sort.grow (Sort.putRow encStr (Sort.ahead w n) g 0 zs.toArray) os).heap[g]? = some (.cells (Sort.putCells encStr 0 zs.toArray cur) e (0, 0)) ∧
    (∀ k, k < w.heap.size → k ≠ g → (Sort.grow (Sort.putRow encStr (Sort.ahead w n) g 0 zs.toArray) os).heap[k]? = w.heap[k]?) := by
  have hg : g < w.heap.size := (Array.getElem?_eq_some_iff.1 h).1
  have hs : ∀ k, k < w.heap.size → (Sort.grow (Sort.putRow encStr (Sort.ahead w n) g 0 zs.toArray) os).heap[k]? = (Sort.putRow encStr (Sort.ahead w n) g 0 zs.toArray).heap[k]? := fun k hk => Sort.heap_grow_old _ _ (by rw [Sort.size_putRow]; exact hk)
  refine ⟨?_, fun k hk hne => ?_⟩
  · rw [hs g hg]
    show (w.heap.modify g _)[g]? = _
    rw [Array.getElem?_modify, if_pos rfl, h]
    rfl
  · rw [hs k hk]
    show (w.heap.modify g _)[k]? = _
    rw [Array.getElem?_modify, if_neg (Ne.symm hne)]
theorem put_cells (zs : List (List UInt8)) (cur : Array Value) (hl : zs.length ≤ cur.size) (i : Nat) (hi : i < zs.length) : (Sort.putCells encStr 0 zs.toArray cur)[i]? = some (.string ⟨zs[i].toArray⟩) := by
  unfold Sort.putCells
  rw [Array.getElem?_mapIdx, Array.getElem?_eq_getElem (by omega), Option.map_some, if_pos ⟨Nat.zero_le _, by simpa using hi⟩]
  simp [hi]
theorem holds_strs {w : World} {g e cap : Nat} {cur : Array Value} {xs : List (List UInt8)} (h7 : w.heap[g]? = some (.cells cur e (0, 0))) (hc : ∀ i, (hi : i < xs.length) → cur[i]? = some (.string ⟨xs[i].toArray⟩)) : Sort.Holds encStr w g 0 xs.toArray := by
  intro j hj
  have hj' : j < xs.length := by simpa using hj
  rw [Nat.zero_add, cell_of_row w g j cur e (0, 0) h7, hc j hj']
  refine ⟨by simp [hj'], ?_⟩
  unfold World.frozen?
  rw [h7]
  simp
theorem c_sort (xs : List (List UInt8)) (hn : xs.length < 4611686018427387904) (e : Nat) : RCall Tryz.prog 40 e 1 (xs.map fldD) ((sortS xs).map fldD) [] (.tup []) := by
 intro id
 refine ⟨.of Tryz.func40 (by kernel_rfl) rfl, fun F ρ B w vs hF hB hσ hv => ?_⟩
 obtain rfl := repSL_one hv
 have hsl : (sortS xs).length = xs.length := by unfold sortS; exact List.length_mergeSort _
 rcases row_strs (hσ.ok _ (List.mem_singleton.2 rfl)) with ⟨h1, h2⟩ | ⟨g, cap, cur, h5, h6, h7, h8, h9, h10, h11, h12⟩
 ·subst h2
  rw [h1]
  have h := Any.slices_Sort_string_none Tryz.l190 none 0 w
  change Calls Tryz.prog 40 #[.slice none 0 0] w _ at h
  refine h.mono fun e' w' ⟨he, hw⟩ => ?_
  subst hw
  refine ⟨_, F, ρ, he, .tup [] [] rfl (fun i h1 => by simp at h1), fun _ hb => hb, fun _ hb => .inl hb, hF, Kept.refl _ _, ?_, ?_, fun _ _ => rfl⟩
  ·have : (sortS ([] : List (List UInt8))).map fldD = ([] : List (List UInt8)).map fldD := by unfold sortS; rw [List.mergeSort_nil]
   rw [this]
   exact hσ
  intro p hp g hg
  have : p = (id, .row e 1 ((sortS ([] : List (List UInt8))).map fldD)) := by simpa using hp
  subst this
  rw [h1] at hg
  simp [blk] at hg
 rw [h5]
 have hg : g < w.heap.size := (Array.getElem?_eq_some_iff.1 h7).1
 have h := Any.slices_Sort_string Tryz.l190 g 0 cap xs w (holds_strs (cap := cap) h7 h11) hg hn
 change Calls Tryz.prog 40 #[.slice (some ⟨g, 0, none⟩) xs.length cap] w _ at h
 refine h.mono fun e' w' ⟨he, n, os, hw⟩ => ?_
 obtain ⟨hb1, hb2⟩ := put_block (n := n) (os := os) (zs := sortS xs) (cap := cap) h7
 have hw2 : w' = Sort.grow (Sort.putRow encStr (Sort.ahead w n) g 0 (sortS xs).toArray) os := hw
 have hsz : w.heap.size ≤ w'.heap.size := by rw [hw2, Sort.size_grow, Sort.size_putRow]; exact Nat.le_add_right _ _
 have hob : ownB [(id, Ob.row e 1 (xs.map fldD))] ρ g := ⟨_, List.mem_singleton.2 rfl, by rw [h5]; rfl⟩
 refine ⟨_, F, ρ, he, .tup [] [] rfl (fun i h1 => by simp at h1), fun _ hb => hb, fun _ hb => .inl hb, fun b hb => Nat.lt_of_lt_of_le (hF b hb) hsz, ⟨by rw [hw2]; rfl, by rw [hw2]; rfl, by rw [hw2]; rfl, hsz, fun k hk hne => ?_⟩, ?_, ?_, fun _ _ => rfl⟩
 ·rw [hw2]
  exact hb2 k hk (fun he => hne (.inr (he ▸ hob)))
 ·refine ⟨fun p hp => ?_, fun p hp q hq hne => ?_, fun p hp q hq _ => ?_⟩
  ·have : p = (id, .row e 1 ((sortS xs).map fldD)) := by simpa using hp
   subst this
   exact strs_row (by rw [hsl]; exact h5) h6 (by rw [hw2]; exact hb1) (by rw [hsl]; exact h8) h9 (by simp [Sort.putCells, h10]) (fun i hi => put_cells _ _ (by rw [hsl, h10]; exact h8) i hi) h12
  ·have h1 : p = (id, .row e 1 ((sortS xs).map fldD)) := by simpa using hp
   have h2 : q = (id, .row e 1 ((sortS xs).map fldD)) := by simpa using hq
   rw [h1, h2] at hne
   exact absurd rfl hne
  have h1 : p = (id, .row e 1 ((sortS xs).map fldD)) := by simpa using hp
  have h2 : q = (id, .row e 1 ((sortS xs).map fldD)) := by simpa using hq
  rw [h1, h2]
 intro p hp g' hg'
 have : p = (id, .row e 1 ((sortS xs).map fldD)) := by simpa using hp
 subst this
 exact .inr ⟨_, List.mem_singleton.2 rfl, hg'⟩
/-- slices.Compact takes the row; what it returns is data. -/
theorem c_compact (xs : List (List UInt8)) (hn : xs.length ≤ 9223372036854775807) (e id : Nat) : XCall Tryz.prog 41 [.own id] [(id, .row e 1 (xs.map fldD))] [] (fun _ => false) (.sl ((compact xs).map fldD)) := by
 refine ⟨.of Tryz.func41 (by kernel_rfl) rfl, fun F ρ B w vs hF hB hσ hv => ?_⟩
 obtain rfl := repSL_one hv
 have hnil : ∀ {B : Nat} {F : Nat → Prop} {w : World}, ObsOk B F ρ w [] := ⟨fun p hp => (nomatch hp), fun p hp => (nomatch hp), fun p hp => (nomatch hp)⟩
 rcases row_strs (hσ.ok _ (List.mem_singleton.2 rfl)) with ⟨h1, h2⟩ | ⟨g, cap, cur, h5, h6, h7, h8, h9, h10, h11, h12⟩
 ·subst h2
  rw [h1]
  have h := Any.slices_Compact_string_empty Tryz.l194 none 0 w
  change Calls Tryz.prog 41 #[.slice none 0 0] w _ at h
  refine h.mono fun e' w' ⟨he, hw⟩ => ?_
  subst hw
  exact ⟨_, F, ρ, he, .nil, fun _ hb => hb, fun _ hb => .inl hb, hF, Kept.refl _ _, hnil, fun p hp => (nomatch hp), fun _ _ => rfl⟩
 rw [h5]
 have hg : g < w.heap.size := (Array.getElem?_eq_some_iff.1 h7).1
 have h := Any.slices_Compact_string Tryz.l194 g 0 cap xs w (holds_strs (cap := cap) h7 h11) hn h8
 change Calls Tryz.prog 41 #[.slice (some ⟨g, 0, none⟩) xs.length cap] w _ at h
 refine h.mono fun e' w' ⟨he, n, hw⟩ => ?_
 obtain ⟨hb1, hb2⟩ := put_block (n := n) (os := #[]) (zs := compact xs ++ List.replicate (xs.length - (compact xs).length) []) (cap := cap) h7
 have hw2 : w' = Sort.grow (Sort.putRow encStr (Sort.ahead w n) g 0 (compact xs ++ List.replicate (xs.length - (compact xs).length) []).toArray) #[] := by rw [Sort.grow_empty]; exact hw
 have hsz : w.heap.size ≤ w'.heap.size := by rw [hw2, Sort.size_grow, Sort.size_putRow]; exact Nat.le_add_right _ _
 have hob : ownB [(id, Ob.row e 1 (xs.map fldD))] ρ g := ⟨_, List.mem_singleton.2 rfl, by rw [h5]; rfl⟩
 have hcl := compact_length_le xs
 have hl : ((compact xs).map fldD).length = (compact xs).length := List.length_map ..
 have hr : Rep (fun b => F b ∨ b = g) w' (.slice (some ⟨g, 0, none⟩) ((compact xs).map fldD).length cap) (.sl ((compact xs).map fldD)) := by
  refine .sl ⟨g, 0, none⟩ cap 1 _ (fun i _ => .string ⟨((compact xs).getD i []).toArray⟩) (by rw [hl]; omega) (by unfold maxLen at h9; omega) (fun _ => .inr rfl) (fun i hi => by simp [fldD]) (fun i j hi hj => ?_) (fun _ _ _ _ => rfl) (fun i hi j hj => ?_)
  ·rw [hl] at hi
   obtain rfl : j = 0 := by omega
   rw [addr_add, Nat.mul_one, Nat.add_zero, Nat.zero_add, hw2, cell_of_row _ g i _ e (0, 0) hb1, put_cells _ _ (by rw [List.length_append, List.length_replicate, h10]; omega) i (by rw [List.length_append]; omega)]
   rw [List.getElem_append_left hi]
   simp [List.getD_eq_getElem?_getD, List.getElem?_eq_getElem hi]
  rw [hl] at hi
  simp only [List.getElem_map, fldD] at hj ⊢
  obtain rfl : j = 0 := by simpa using hj
  simp only [List.getElem_cons_zero, List.getD_eq_getElem?_getD, List.getElem?_eq_getElem hi, Option.getD_some]
  exact .v _
 rw [hl] at hr
 refine ⟨_, _, ρ, he, hr, fun _ hb => .inl hb, fun b hb => ?_, fun b hb => ?_, ⟨by rw [hw2]; rfl, by rw [hw2]; rfl, by rw [hw2]; rfl, hsz, fun k hk hne => ?_⟩, hnil, fun p hp => (nomatch hp), fun _ _ => rfl⟩
 ·rcases hb with hb | rfl
  ·exact .inl hb
  exact .inr (.inr hob)
 ·rcases hb with hb | rfl
  ·exact Nat.lt_of_lt_of_le (hF b hb) hsz
  exact Nat.lt_of_lt_of_le hg hsz
 rw [hw2]
 exact hb2 k hk (fun he => hne (.inr (he ▸ hob)))
end Go.Proofs.YthcdjmkkgbcaaaaGreatDoor

namespace Go.Proofs.YthcdjmkkgbcaaaaGreatDoor
open Go.RowKit Go.Lib
set_option linter.unusedVariables false

def OCallT (P : Program) (T : World → Prop) (f : FuncId) (ds : List D) (ee size : Nat) (els : List (List D)) : Prop := Enters P f ∧
  ∀ (F : Nat → Prop) (w : World) (vs : List Value), T w → (∀ b, F b → b < w.heap.size) → RepL F w vs ds →
    Calls P f vs.toArray w fun r w' => ∃ v F', r = .returned v ∧ Ext F w F' w' ∧ ObOk w.heap.size F' (fun _ => v) w' 0 (.row ee size els)
theorem OCallT.imp {P : Program} {T T' : World → Prop} {f : FuncId} {ds : List D} {ee size : Nat} {els : List (List D)} (h : OCallT P T f ds ee size els) (hT : ∀ w, T' w → T w) : OCallT P T' f ds ee size els :=
  ⟨h.1, fun F w vs hw => h.2 F w vs (hT w hw)⟩
theorem AOps.callOT {cx : Cx} {ops : Array Oper} {o : Oper} {rest : List Oper} {e : Env} {σ : Obs} {Q : Post} {T : World → Prop} {f : FuncId} {xs : List Operand} {ts : Array TypeId} {ds : List D} {ee size dst : Nat} {els : List (List D)} (id : Nat) (hg : o.guard = none) (ht : o.dst = some dst) (hdn : Nat.blt dst cx.N = true)
    (ho : o.op = .call { callee := .value (.func f), args := xs.toArray, argTypes := ts }) (hT : T cx.w0) (hS : Stays T) (hfr : cx.fr = fun b => cx.w0.heap.size ≤ b) (ha : ArgsOk e xs ds) (h : OCallT cx.P T f ds ee size els) (hid : Obs.fresh id σ = true)
    (k : AOps cx ops rest ((e.kill id).put (some dst) (.own id)) ((id, .row ee size els) :: Obs.kill id σ) Q) (hfx : cx.free id = true := by rfl) : AOps cx ops (o :: rest) e σ Q := by
  intro a w ⟨F, ρ, hr⟩
  have hTw : T w := hS _ _ (by rw [← hfr]; exact hr.below) hT
  have hdn' : dst < cx.N := by simpa [Nat.blt_eq] using hdn
  have h4 := h.2 F w (xs.map a.eval) hTw hr.lt (repL_ops ha (fun x _ => ev_rep fun t _ => hr.env t))
  have h5 := h.1 (xs.map a.eval).toArray w
  have hx : (execOp a.eval o).run cx.P w = .ok (.enter f (xs.map a.eval).toArray) w := by
    unfold execOp
    simp only [ho, resolve, Deferred.ofValue, Act.eval, invoke, Sem.run_bind, Sem.run_pure, Result.andThen_ok]
    simpa using h5
  refine wpList_plain hg fun K hK => ?_
  unfold Oper.wp
  rw [hx]
  refine h4.mono fun _ w' ⟨v, F', he, hE, hob⟩ => ?_
  subst he
  obtain ⟨ρ', h6⟩ := hr.newObF (ob := .row ee size els) (v := v) (Obs.fresh_spec hid) hdn' hE (obOk_base hob hr.hB (by simp)) (fun g hg => (hob.blk_lt hg).1) hfx
  have := k _ _ ⟨F', ρ', h6⟩
  rw [← ht] at this
  exact hK _ _ this
theorem c_fieldsO (s : ByteArray) (hs : s.size < 4294967281) (ha : ∀ (j : Nat) b, s.data.toList[j]? = some b → b.toNat < 128) : OCallT Tryz.prog TabT 39 [.v (.string s)] 9 1 ((Lib.fields s.data.toList).map fldD) :=
 ⟨.of Tryz.func39 (by kernel_rfl) rfl, fun F w vs hT hF hv => by
  rw [repL_v (us := [.string s]) hv]
  have h := Any.strings_Fields Tryz.l157 (by kernel_rfl) (by kernel_rfl) s w hs ha hT
  change Calls Tryz.prog 39 #[.string s] w _ at h
  refine h.mono fun e w' ⟨h1, h2⟩ => ?_
  subst h2
  have hN : (Lib.fields s.data.toList).length ≤ s.size := by
   rw [Lib.size_eq]; exact fields_le _
  refine ⟨_, F, h1, Ext.of_below hF ⟨rfl, rfl, rfl, by show w.heap.size ≤ (w.heap.push _).size; rw [Array.size_push]; omega, fun i hi => by show (w.heap.push _)[i]? = _; rw [Array.getElem?_push_lt hi, Array.getElem?_eq_getElem hi]⟩, ?_⟩
  refine strs_row (g := w.heap.size) (cap := (Lib.fields s.data.toList).length) (cur := ((Lib.fields s.data.toList).map fun l => Value.string ⟨l.toArray⟩).toArray) rfl (Nat.le_refl _) (heap_alloc_new w _) (Nat.le_refl _) (by unfold maxLen; omega) (by simp) (fun i hi => by simp [hi]) (fun hf => by have := hF _ hf; omega)⟩
end Go.Proofs.YthcdjmkkgbcaaaaGreatDoor

namespace Go.Proofs.YthcdjmkkgbcaaaaGreatDoor
open Go.RowKit
set_option linter.unusedVariables false

/-! Types. -/
namespace TyYE
end TyYE
open TyH3 TyH4 TyH5 TyJ3 TyJ4 TyJ5 TyKA TyKB TyKC TyKD TyKE TyKF TyKG TyYA TyYB TyYC TyYD TyYE

open Go.Lib Go.Shelf Go.Sort
set_option linter.unusedSimpArgs false
theorem compact_le (l : List (List UInt8)) : (compact l).length ≤ l.length := by
  unfold compact compactUpTo
  rw [List.length_map]
  have := List.length_filter_le (keeps l.toArray) (List.range l.length)
  rwa [List.length_range] at this
theorem compact_ne {l : List (List UInt8)} (h : l ≠ []) : compact l ≠ [] := fun e => by
  have hp := List.length_pos_iff.2 h
  unfold compact compactUpTo at e
  have e1 := List.map_eq_nil_iff.1 e
  have h0 : 0 ∈ (List.range l.length).filter (keeps l.toArray) := List.mem_filter.2 ⟨List.mem_range.2 hp, keeps_lt_one _ 0 (by decide)⟩
  rw [e1] at h0; cases h0
theorem sortS_len (l : List (List UInt8)) : (sortS l).length = l.length := by unfold sortS; exact List.length_mergeSort _
def wdsL (W : List UInt8) : List (List UInt8) := compact (sortS (Lib.fields W))
theorem wds_ne {W : List UInt8} (h : Lib.fields W ≠ []) : wdsL W ≠ [] := compact_ne fun e => by
  have := sortS_len (Lib.fields W)
  rw [e] at this
  exact h (List.eq_nil_of_length_eq_zero this.symm)
theorem wds_len (W : List UInt8) : (wdsL W).length ≤ W.length := by
  have h1 := compact_le (sortS (Lib.fields W))
  rw [sortS_len] at h1
  have h2 := fields_le W
  unfold wdsL; omega
/-! ## What is found -/
def rsOf (ws : List (List UInt8)) (W : List UInt8) (t : Thg) : Rs := ⟨t.id, ptR t ws W, (t.title.size : Nat)⟩
def resT (ws : List (List UInt8)) (W : List UInt8) (t : Thg) : Option Rs := if okW (hv t) ws = true then some (rsOf ws W t) else none
def resL (ws : List (List UInt8)) (W : List UInt8) (l : List Thg) : List Rs := l.filterMap (resT ws W)
section
variable {ws : List (List UInt8)} {W : List UInt8} {l : List Thg} {k : Nat} {t : Thg}
theorem sum_pos (hne : ws ≠ []) {h : List (List UInt8)} (hok : okW h ws = true) : 0 < sumW h ws := by
  cases ws with
  | nil => exact absurd rfl hne
  | cons w ws =>
    have h1 : wp h w ≠ 0 := of_decide_eq_true (List.all_eq_true.1 hok w (by simp))
    have h2 := wp_le h w
    have h3 := sumW_le h ws
    unfold sumW at *
    rw [List.map_cons, List.sum_cons]
    omega
theorem pt_yes (hne : ws ≠ []) (hok : okW (hv t) ws = true) : 0 < ptR t ws W := by
  have := sum_pos hne hok
  unfold ptR
  rw [if_pos hok]
  split <;> omega
theorem pt_no (hok : okW (hv t) ws = false) : ptR t ws W = 0 := by unfold ptR; rw [if_neg (by rw [hok]; decide)]
theorem pt_0 (t : Thg) (ws : List (List UInt8)) (W : List UInt8) : 0 ≤ ptR t ws W := by
  have := sumW_le (hv t) ws
  unfold ptR
  split
  · split <;> omega
  · omega
theorem res_yes (hk : k < l.length) (hok : okW (hv l[k]) ws = true) : resL ws W (l.take (k + 1)) = resL ws W (l.take k) ++ [rsOf ws W l[k]] := by
  unfold resL
  rw [List.take_add_one, List.getElem?_eq_getElem hk, Option.toList_some, List.filterMap_append]
  congr 1
  have e : resT ws W l[k] = some (rsOf ws W l[k]) := if_pos hok
  simp only [List.filterMap_cons, e, List.filterMap_nil]
theorem res_no (hk : k < l.length) (hok : okW (hv l[k]) ws = false) : resL ws W (l.take (k + 1)) = resL ws W (l.take k) := by
  unfold resL
  rw [List.take_add_one, List.getElem?_eq_getElem hk, Option.toList_some, List.filterMap_append]
  have e : resT ws W l[k] = none := if_neg (by rw [hok]; decide)
  simp only [List.filterMap_cons, e, List.filterMap_nil, List.append_nil]
theorem res_mem {r : Rs} (h : r ∈ resL ws W l) : ∃ t ∈ l, okW (hv t) ws = true ∧ r = rsOf ws W t := by
  unfold resL at h
  obtain ⟨t, ht, he⟩ := List.mem_filterMap.1 h
  unfold resT at he
  by_cases hok : okW (hv t) ws = true
  · rw [if_pos hok] at he
    exact ⟨t, ht, hok, (Option.some.inj he).symm⟩
  · rw [if_neg hok] at he; cases he
theorem res_len (ws : List (List UInt8)) (W : List UInt8) (l : List Thg) : (resL ws W l).length ≤ l.length := by unfold resL; exact List.length_filterMap_le _ _
theorem ids_lt (hr : RisT l) : l.Pairwise fun a b => a.id < b.id := List.pairwise_iff_getElem.2 fun i j hi hj hij => hr.up i j hi hj hij
theorem res_ids (hr : RisT l) : (resL ws W l).Pairwise fun a b => a.id < b.id := by
  unfold resL
  refine List.Pairwise.filterMap _ (fun a b hab x hx y hy => ?_) (ids_lt hr)
  unfold resT at hx hy
  split at hx
  · split at hy
    · obtain rfl := Option.some.inj hx
      obtain rfl := Option.some.inj hy
      exact hab
    · cases hy
  · cases hx
theorem res_dist (hr : RisT l) : DistF cmpR (resL ws W l) := (res_ids hr).imp fun {a b} hab => by
  rcases ltR_tot (x := a) (y := b) (by omega) with h | h
  · exact .inl ((ltOf_R a b).2 h)
  · exact .inr ((ltOf_R b a).2 h)
/-- What was found, the best first. -/
def srt (ws : List (List UInt8)) (W : List UInt8) (l : List Thg) : List Rs := sortF cmpR (resL ws W l)
theorem srt_perm : (srt ws W l).Perm (resL ws W l) := sortF_perm _
theorem srt_len : (srt ws W l).length = (resL ws W l).length := srt_perm.length_eq
theorem srt_rise (hr : RisT l) : (srt ws W l).Pairwise ltR := (sortF_rise swo_R (res_dist hr)).imp fun {a b} h => (ltOf_R a b).1 h
theorem srt_ids (hr : RisT l) : (srt ws W l).Pairwise fun a b => a.id ≠ b.id := (srt_perm (ws := ws) (W := W) (l := l)).symm.pairwise ((res_ids hr).imp fun {a b} h => by omega) fun {a b} h => fun e => h e.symm
end
/-! ## The reference's choice -/
def bstS (ws : List (List UInt8)) (W : List UInt8) (fd : List Int) (l : List Thg) : Nat → Thg × Int
  | 0 => (zT, 0)
  | k + 1 => if (l.getD k zT).id ∈ fd then bstS ws W fd l k
    else if ptR (l.getD k zT) ws W > (bstS ws W fd l k).2 ∨ (ptR (l.getD k zT) ws W = (bstS ws W fd l k).2 ∧ ptR (l.getD k zT) ws W > 0 ∧ (l.getD k zT).title.size < (bstS ws W fd l k).1.title.size) then (l.getD k zT, ptR (l.getD k zT) ws W)
    else bstS ws W fd l k
section
variable {ws : List (List UInt8)} {W : List UInt8} {l : List Thg} {k : Nat} {fd : List Int}
theorem bst_in (hk : k < l.length) (h : l[k].id ∈ fd) : bstS ws W fd l (k + 1) = bstS ws W fd l k := by
  show (if (l.getD k zT).id ∈ fd then _ else _) = _
  rw [dbl_get hk, if_pos h]
theorem bst_y (hk : k < l.length) (h : ¬ l[k].id ∈ fd) (h2 : ptR l[k] ws W > (bstS ws W fd l k).2 ∨ (ptR l[k] ws W = (bstS ws W fd l k).2 ∧ ptR l[k] ws W > 0 ∧ l[k].title.size < (bstS ws W fd l k).1.title.size)) : bstS ws W fd l (k + 1) = (l[k], ptR l[k] ws W) := by
  show (if (l.getD k zT).id ∈ fd then _ else _) = _
  rw [dbl_get hk, if_neg h, if_pos h2]
theorem bst_n (hk : k < l.length) (h : ¬ l[k].id ∈ fd) (h2 : ¬ (ptR l[k] ws W > (bstS ws W fd l k).2 ∨ (ptR l[k] ws W = (bstS ws W fd l k).2 ∧ ptR l[k] ws W > 0 ∧ l[k].title.size < (bstS ws W fd l k).1.title.size))) : bstS ws W fd l (k + 1) = bstS ws W fd l k := by
  show (if (l.getD k zT).id ∈ fd then _ else _) = _
  rw [dbl_get hk, if_neg h, if_neg h2]
def cnd (fd : List Int) (L : List Rs) : List Rs := L.filter fun r => decide (¬ r.id ∈ fd)
theorem cnd_mem {L : List Rs} {r : Rs} : r ∈ cnd fd L ↔ r ∈ L ∧ ¬ r.id ∈ fd := by unfold cnd; rw [List.mem_filter, decide_eq_true_iff]
/-- The best so far is the least of what was met. -/
def Bst (ws : List (List UInt8)) (W : List UInt8) (C : List Rs) (s : Thg × Int) : Prop :=
  (s.2 = 0 ∧ ∀ r, ¬ r ∈ C) ∨ (0 < s.2 ∧ s.2 = ptR s.1 ws W ∧ rsOf ws W s.1 ∈ C ∧ ∀ r ∈ C, r = rsOf ws W s.1 ∨ ltR (rsOf ws W s.1) r)
theorem bst_inv (hr : RisT l) (hne : ws ≠ []) : ∀ k, k ≤ l.length → Bst ws W (cnd fd (resL ws W (l.take k))) (bstS ws W fd l k)
  | 0, _ => .inl ⟨rfl, fun r h => by have := (cnd_mem.1 h).1; cases this⟩
  | k + 1, hk => by
    have ih := bst_inv hr hne k (by omega)
    have hlt : k < l.length := by omega
    have hid : ∀ r ∈ resL ws W (l.take k), r.id < l[k].id := fun r h => by
      obtain ⟨t, ht, _, rfl⟩ := res_mem h
      obtain ⟨j, hj, rfl⟩ := List.mem_take_iff_getElem.1 ht
      exact hr.up j k (by omega) hlt (by omega)
    by_cases hin : l[k].id ∈ fd
    · rw [bst_in hlt hin]
      have he : ∀ r, r ∈ cnd fd (resL ws W (l.take (k + 1))) ↔ r ∈ cnd fd (resL ws W (l.take k)) := fun r => by
        rw [cnd_mem, cnd_mem]
        cases hok : okW (hv l[k]) ws with
        | false => rw [res_no hlt hok]
        | true =>
          rw [res_yes hlt hok, List.mem_append, List.mem_singleton]
          exact ⟨fun h => ⟨h.1.elim id (fun e => absurd (show r.id ∈ fd from by rw [e]; exact hin) h.2), h.2⟩, fun h => ⟨.inl h.1, h.2⟩⟩
      rcases ih with ⟨h1, h2⟩ | ⟨h1, h2, h3, h4⟩
      · exact .inl ⟨h1, fun r hh => h2 r ((he r).1 hh)⟩
      · exact .inr ⟨h1, h2, (he _).2 h3, fun r hh => h4 r ((he r).1 hh)⟩
    · have h00 := pt_0 l[k] ws W
      have hs0 : 0 ≤ (bstS ws W fd l k).2 := by rcases ih with ⟨h1, _⟩ | ⟨h1, _⟩ <;> omega
      cases hok : okW (hv l[k]) ws with
      | false =>
        have hp := pt_no (t := l[k]) (W := W) hok
        rw [bst_n hlt hin (by omega), res_no hlt hok]
        exact ih
      | true =>
        have hp := pt_yes (t := l[k]) (W := W) hne hok
        have hm : ∀ r, r ∈ cnd fd (resL ws W (l.take (k + 1))) ↔ r ∈ cnd fd (resL ws W (l.take k)) ∨ r = rsOf ws W l[k] := fun r => by
          rw [cnd_mem, cnd_mem, res_yes hlt hok, List.mem_append, List.mem_singleton]
          exact ⟨fun h => h.1.elim (fun hh => .inl ⟨hh, h.2⟩) .inr, fun h => h.elim (fun hh => ⟨.inl hh.1, hh.2⟩) (fun e => ⟨.inr e, by rw [e]; exact hin⟩)⟩
        by_cases hc : ptR l[k] ws W > (bstS ws W fd l k).2 ∨ (ptR l[k] ws W = (bstS ws W fd l k).2 ∧ ptR l[k] ws W > 0 ∧ l[k].title.size < (bstS ws W fd l k).1.title.size)
        · rw [bst_y hlt hin hc]
          refine .inr ⟨hp, rfl, (hm _).2 (.inr rfl), fun r hr2 => ?_⟩
          rcases (hm r).1 hr2 with hr2 | rfl
          · rcases ih with ⟨_, h2⟩ | ⟨h1, h2, h3, h4⟩
            · exact absurd hr2 (h2 r)
            · have hl : ltR (rsOf ws W l[k]) (rsOf ws W (bstS ws W fd l k).1) := by
                unfold ltR rsOf
                dsimp only
                omega
              rcases h4 r hr2 with rfl | h5
              · exact .inr hl
              · exact .inr (ltR_trans hl h5)
          · exact .inl rfl
        · rw [bst_n hlt hin hc]
          rcases ih with ⟨h1, h2⟩ | ⟨h1, h2, h3, h4⟩
          · exact absurd (.inl (by omega)) hc
          · refine .inr ⟨h1, h2, (hm _).2 (.inl h3), fun r hr2 => ?_⟩
            rcases (hm r).1 hr2 with hr2 | rfl
            · exact h4 r hr2
            · refine .inr ?_
              have hi := hid _ (cnd_mem.1 h3).1
              unfold ltR
              unfold rsOf at hi ⊢
              dsimp only at hi ⊢
              omega
/-- Where j of them were taken, the next of the sorted ones is chosen. -/
theorem bst_at (hr : RisT l) (hne : ws ≠ []) {j : Nat} (hj : j < (srt ws W l).length) : (bstS ws W (((srt ws W l).take j).map Rs.id) l l.length).2 = (srt ws W l)[j].pts ∧ (bstS ws W (((srt ws W l).take j).map Rs.id) l l.length).1.id = (srt ws W l)[j].id ∧ 0 < (srt ws W l)[j].pts := by
  have hi := bst_inv (W := W) (fd := ((srt ws W l).take j).map Rs.id) hr hne l.length (Nat.le_refl _)
  rw [List.take_length] at hi
  have hin : (srt ws W l)[j] ∈ cnd (((srt ws W l).take j).map Rs.id) (resL ws W l) := cnd_mem.2 ⟨srt_perm.mem_iff.1 (List.getElem_mem hj), fun hm => by
    obtain ⟨r, hr2, he⟩ := List.mem_map.1 hm
    obtain ⟨i, hi2, rfl⟩ := List.mem_take_iff_getElem.1 hr2
    exact (List.pairwise_iff_getElem.1 (srt_ids hr) i j (by omega) hj (by omega)) he⟩
  rcases hi with ⟨_, h2⟩ | ⟨h1, h2, h3, h4⟩
  · exact absurd hin (h2 _)
  · have he : (srt ws W l)[j] = rsOf ws W (bstS ws W (((srt ws W l).take j).map Rs.id) l l.length).1 := by
      rcases h4 _ hin with h5 | h5
      · exact h5
      · obtain ⟨m1, m2⟩ := cnd_mem.1 h3
        obtain ⟨i, hi2, hie⟩ := List.mem_iff_getElem.1 (srt_perm.mem_iff.2 m1)
        rcases Nat.lt_trichotomy i j with hij | hij | hij
        · exact absurd (List.mem_map.2 ⟨_, List.mem_take_iff_getElem.2 ⟨i, by omega, hie⟩, rfl⟩) m2
        · subst hij; exact hie
        · have := List.pairwise_iff_getElem.1 (srt_rise hr) j i hj hi2 hij
          rw [hie] at this
          exact absurd (ltR_trans this h5) (ltR_irr _)
    rw [he]
    exact ⟨h2, rfl, by show 0 < ptR _ ws W; omega⟩
theorem bst_end (hr : RisT l) (hne : ws ≠ []) : (bstS ws W ((srt ws W l).map Rs.id) l l.length).2 = 0 := by
  have hi := bst_inv (W := W) (fd := (srt ws W l).map Rs.id) hr hne l.length (Nat.le_refl _)
  rw [List.take_length] at hi
  rcases hi with ⟨h1, _⟩ | ⟨_, _, h3, _⟩
  · exact h1
  · obtain ⟨m1, m2⟩ := cnd_mem.1 h3
    exact absurd (List.mem_map.2 ⟨_, srt_perm.mem_iff.2 m1, rfl⟩) m2
end
/-! ## What Search returns -/
def schW (text : ByteArray) : List UInt8 := foldS text.data.toList
def schL (c : Ctl) (text : ByteArray) : List Rs := srt (wdsL (schW text)) (schW text) c.things
def schV (c : Ctl) (text : ByteArray) (most : Int) : List Int × Int :=
  if chkF c ≠ 0 then ([], chkF c) else if 100 < text.size then ([], 2) else if Lib.fields (schW text) = [] then ([], 9) else if most < 1 ∨ 300 < most then ([], 1)
  else (((schL c text).take most.toNat).map Rs.id, 0)
section
variable {c : Ctl} {text : ByteArray} {most : Int}
theorem sch_c (h : chkF c ≠ 0) : (schV c text most).1 = [] ∧ (schV c text most).2 = chkF c := by unfold schV; rw [if_pos h]; exact ⟨rfl, rfl⟩
theorem sch_l (h : chkF c = 0) (h2 : 100 < text.size) : (schV c text most).1 = [] ∧ (schV c text most).2 = 2 := by unfold schV; rw [if_neg (fun hh => hh h), if_pos h2]; exact ⟨rfl, rfl⟩
theorem sch_n (h : chkF c = 0) (h2 : ¬ 100 < text.size) (h3 : Lib.fields (schW text) = []) : (schV c text most).1 = [] ∧ (schV c text most).2 = 9 := by unfold schV; rw [if_neg (fun hh => hh h), if_neg h2, if_pos h3]; exact ⟨rfl, rfl⟩
theorem sch_r (h : chkF c = 0) (h2 : ¬ 100 < text.size) (h3 : ¬ Lib.fields (schW text) = []) (h4 : most < 1 ∨ 300 < most) : (schV c text most).1 = [] ∧ (schV c text most).2 = 1 := by unfold schV; rw [if_neg (fun hh => hh h), if_neg h2, if_neg h3, if_pos h4]; exact ⟨rfl, rfl⟩
theorem sch_0 (h : chkF c = 0) (h2 : ¬ 100 < text.size) (h3 : ¬ Lib.fields (schW text) = []) (h4 : ¬ (most < 1 ∨ 300 < most)) : (schV c text most).1 = ((schL c text).take most.toNat).map Rs.id ∧ (schV c text most).2 = 0 := by unfold schV; rw [if_neg (fun hh => hh h), if_neg h2, if_neg h3, if_neg h4]; exact ⟨rfl, rfl⟩
theorem sch_len (h : chkF c = 0) : (schL c text).length ≤ 300 := by
  have h1 := res_len (wdsL (schW text)) (schW text) c.things
  have h2 : (schL c text).length = _ := srt_len
  have h3 := (catOk h).lim.1
  omega
end

end Go.Proofs.YthcdjmkkgbcaaaaGreatDoor

namespace Go.Proofs.YthcdjmkkgbcaaaaGreatDoor
open Go.RowKit
set_option linter.unusedVariables false

/-! Types. -/
namespace TyYF
theorem ag_83 : AggT Tryz.prog 83 3 := .of (by kernel_rfl)
theorem bu_83 : StructT Tryz.prog 83 (fun i => (#[(0, 1), (1, 1), (2, 1)] : Array (Nat × Nat))[i]?) [(.int .i64 0), (.int .i64 0), (.int .i64 0)] := .of (by kernel_rfl) (by kernel_rfl) (by decide)
theorem et_79 : ElemTy Tryz.prog 79 83 3 24 (.agg #[(.int .i64 0), (.int .i64 0), (.int .i64 0)]) := ⟨by kernel_rfl, by kernel_rfl, by kernel_rfl, by decide⟩
theorem fo_83_0 : fieldOff Tryz.prog 83 0 = some 0 := by kernel_rfl
theorem sz_83 : ∀ w, (sizeOf 83).run Tryz.prog w = .ok 3 w := SizeT.of (by kernel_rfl)
theorem zt_83 : (Tryz.prog.info? 83).bind (·.zero) = some (.agg #[(.int .i64 0), (.int .i64 0), (.int .i64 0)]) := by kernel_rfl
end TyYF
open TyH3 TyH4 TyH5 TyJ3 TyJ4 TyJ5 TyKA TyKB TyKC TyKD TyKE TyKF TyKG TyYA TyYB TyYC TyYD TyYE TyYF

open Go.Lib Go.Shelf Go.Sort
set_option linter.unusedSimpArgs false
theorem SLe.fnR (f : Nat) : SLe (.d (.v (.func (.func f) #[] #[]))) (.d (.clo (.func f) [])) := fun F ρ w x h => by
  cases repS_v h
  exact .d (.clo _ [] [] rfl (fun i h => absurd h (Nat.not_lt_zero i)))
theorem OCallT.tbt {f : FuncId} {ds : List D} {ee size : Nat} {els : List (List D)} (h : OCallT Tryz.prog TabT f ds ee size els) : OCallT Tryz.prog TSM f ds ee size els := h.imp fun _ h => h.1
theorem c_fldO (l : List UInt8) (h : l.length ≤ 1048576) : OCallT Tryz.prog TSM 39 [.v (.string (bStr (foldS l)))] 9 1 ((Lib.fields (foldS l)).map fldD) := (c_fieldsO (bStr (foldS l)) (by rw [bStr_size]; have := foldS_le l; omega) (fun j b hj => fold_asc l b (List.mem_of_getElem? hj))).tbt
theorem ptv_no {h ws : List (List UInt8)} (hh : (ptV h ws).2 = false) : okW h ws = false := by
  unfold ptV at hh
  split at hh
  · cases hh
  · rename_i h2; simpa using h2
theorem ptv_yes {h ws : List (List UInt8)} (hh : (ptV h ws).2 = true) : okW h ws = true ∧ (ptV h ws).1 = sumW h ws := by
  unfold ptV at hh ⊢
  split at hh
  · rename_i h2
    rw [if_pos h2]; exact ⟨h2, rfl⟩
  · cases hh
theorem ptR_w2 {t : Thg} {ws : List (List UInt8)} {W : List UInt8} (h0 : okW (hv t) ws = true) (h1 : fT t = W) : ptR t ws W = sumW (hv t) ws + 5 := by unfold ptR; rw [if_pos h0, if_pos h1]
theorem ptR_y2 {t : Thg} {ws : List (List UInt8)} {W : List UInt8} (h0 : okW (hv t) ws = true) (h1 : ¬ fT t = W) : ptR t ws W = sumW (hv t) ws := by unfold ptR; rw [if_pos h0, if_neg h1]
theorem take_min {α : Type} (l : List α) (n : Nat) : l.take (min n l.length) = l.take n := by
  rcases Nat.le_total n l.length with h | h
  · rw [Nat.min_eq_left h]
  · rw [Nat.min_eq_right h, List.take_length, List.take_of_length_le h]
theorem take_hi {α : Type} (l : List α) (enc : α → List D) {m : Int} (hm : 0 ≤ m) : (l.map enc).take (min m ((l.map enc).length : Int)).toNat = (l.take m.toNat).map enc := by
  rw [List.length_map, ← List.map_take]
  congr 1
  have e : (min m (l.length : Int)).toNat = min m.toNat l.length := by omega
  rw [e, take_min]

set_option maxRecDepth 100000 in
set_option maxHeartbeats 4000000 in
theorem c_pSch (c : Ctl) (text : ByteArray) (most : Int) (hc : CtlOk c) : ACallT Tryz.prog TSM 15 [.agg c.ds, .v (.string text), .v (.int .i64 most)] (.tup [.sl ((schV c text most).1.map intD), .v (.int .i64 (schV c text most).2)]) := by
 refine acall_ofT (n := 97) (ds' := [.sl ((schV c text most).1.map intD), .v (.int .i64 (schV c text most).2)]) Tryz.func15 rfl (by kernel_rfl) rfl [6, 7] rfl rfl ?_
 intro B w0 F0 hT
 refine .sr ?_
 refine .sA (.box rfl rfl rfl) ?_
 refine .aA ?_
 refine .aA (.nil ?_)
 refine .seq ?_
 refine .sr ?_
 refine .sA (.loadAgg rfl ag_25 rfl rfl) ?_
 -- wants the world
 refine .callT rfl rfl rfl hT tsm_stays rfl (.cons (.rfl' rfl) .nil) (c_pChk c hc).mxt ?_
 refine .aA (.nil ?_)
 refine .sr ?_
 refine .mA ?_
 refine .sA (.neq rfl rfl rfl) (.nil ?_)
 refine .cond rfl (fun h1 => ?_) (fun h1 => ?_)
 ·replace h1 := of_decide_eq_true h1
  obtain ⟨E1, E2⟩ := sch_c (text := text) (most := most) h1
  rw [E1, E2]
  refine .sr ?_
  refine .mA ?_
  refine .aA ?_
  refine .aA (.nil ?_)
  refine .ret ?_
  refine ⟨RetD.nil rfl, RetD.eq rfl ?_, trivial⟩
  all_goals (first | rfl | (rw [List.map_map]; rfl))
 replace h1 := of_decide_eq_false h1
 have h0 : chkF c = 0 := Decidable.not_not.1 h1
 obtain ⟨hL1, hL2⟩ := (catOk h0).lim
 have hr := (catOk h0).ris
 refine .skip ?_
 refine .seq ?_
 refine .sr ?_
 refine .mA ?_
 refine .sA (.lenStr rfl st_9 rfl) ?_
 refine .sA (.gtr rfl rfl rfl) (.nil ?_)
 refine .cond rfl (fun h2 => ?_) (fun h2 => ?_)
 ·replace h2 := of_decide_eq_true h2
  obtain ⟨E1, E2⟩ := sch_l (text := text) (most := most) h0 (by omega)
  rw [E1, E2]
  refine .sr ?_
  refine .aA ?_
  refine .aA (.nil ?_)
  refine .ret ?_
  refine ⟨RetD.nil rfl, RetD.eq rfl ?_, trivial⟩
  all_goals (first | rfl | (rw [List.map_map]; rfl))
 replace h2 := of_decide_eq_false h2
 have h1 : ¬ 100 < text.size := by omega
 have hff := fields_le (foldS text.data.toList)
 have hfo := foldS_le text.data.toList
 rw [← Lib.size_eq text] at hfo
 have hwl := wds_len (schW text)
 have hwl : (wdsL (schW text)).length ≤ 1000 := by unfold schW at *; omega
 refine .skip ?_
 refine .sr ?_
 refine .mA ?_
 refine .sA (.call rfl (.cons (.rfl' rfl) .nil) (c_pFold text (by omega))) ?_
 refine .callOT 601 rfl rfl rfl rfl hT tsm_stays rfl (.cons (.rfl' rfl) .nil) (c_fldO text.data.toList (by rw [← Lib.size_eq text]; omega)) rfl ?_
 refine .sA (.assignO rfl rfl) (.nil ?_)
 refine .seq ?_
 refine .sr ?_
 refine .sA (.moveO rfl rfl) ?_
 refine .sA (.lenOwn rfl et_68.ht rfl (.head _)) ?_
 refine .sA (.eql rfl rfl rfl) (.nil ?_)
 refine .cond rfl (fun h3 => ?_) (fun h3 => ?_)
 ·replace h3 := of_decide_eq_true h3
  obtain ⟨E1, E2⟩ := sch_n (text := text) (most := most) h0 h1 (List.eq_nil_of_length_eq_zero (by rw [List.length_map] at h3; unfold schW; omega))
  rw [E1, E2]
  refine .sr ?_
  refine .aA ?_
  refine .aA (.nil ?_)
  refine .ret ?_
  refine ⟨RetD.nil rfl, RetD.eq rfl ?_, trivial⟩
  all_goals (first | rfl | (rw [List.map_map]; rfl))
 replace h3 := of_decide_eq_false h3
 have h2 : ¬ Lib.fields (schW text) = [] := fun e => h3 (by rw [List.length_map]; unfold schW at e; rw [e]; rfl)
 refine .skip ?_
 refine .seq ?_
 refine .sr ?_
 refine .mA ?_
 refine .sA (.lss rfl rfl rfl) ?_
 refine .mA ?_
 refine .split 34 rfl (fun g4 => ?_) (fun g4 => ?_)
 ·replace g4 := of_decide_eq_true g4
  obtain ⟨E1, E2⟩ := sch_r (text := text) (most := most) h0 h1 h2 (.inl g4)
  rw [E1, E2]
  refine .pA ?_
  refine .pA ?_
  refine .sA (.pickT rfl rfl rfl) (.nil ?_)
  refine .cond rfl (fun _ => ?_) (fun h => nomatch h)
  refine .sr ?_
  refine .aA ?_
  refine .aA (.nil ?_)
  refine .ret ?_
  refine ⟨RetD.nil rfl, RetD.eq rfl ?_, trivial⟩
  all_goals (first | rfl | (rw [List.map_map]; rfl))
 replace g4 := of_decide_eq_false g4
 have m1 := g4
 refine .sG (.moveD rfl rfl) ?_
 refine .sG (.gtr rfl rfl rfl) ?_
 refine .sA (.pickF rfl rfl rfl) (.nil ?_)
 refine .cond rfl (fun h5 => ?_) (fun h5 => ?_)
 ·replace h5 := of_decide_eq_true h5
  obtain ⟨E1, E2⟩ := sch_r (text := text) (most := most) h0 h1 h2 (.inr (by omega))
  rw [E1, E2]
  refine .sr ?_
  refine .aA ?_
  refine .aA (.nil ?_)
  refine .ret ?_
  refine ⟨RetD.nil rfl, RetD.eq rfl ?_, trivial⟩
  all_goals (first | rfl | (rw [List.map_map]; rfl))
 replace h5 := of_decide_eq_false h5
 have m2 : ¬ (most < 1 ∨ 300 < most) := by omega
 obtain ⟨E1, E2⟩ := sch_0 h0 h1 h2 m2
 rw [E1, E2]
 refine .skip ?_
 refine .sr ?_
 refine .sA (.moveO rfl rfl) ?_
 -- turns 601
 refine .callX rfl rfl rfl (.cons (SLe.refl _) .nil) ((c_sort (Lib.fields (foldS text.data.toList)) (by omega) 9) 601) ⟨(.head _), trivial⟩ rfl rfl (fun _ h => nomatch h) ?_
 refine .nil ?_
 refine .sr ?_
 refine .sA (.moveO rfl rfl) ?_
 -- takes 601
 refine .callX rfl rfl rfl (.cons (SLe.refl _) .nil) ((c_compact (sortS (Lib.fields (foldS text.data.toList))) (by rw [sortS_len]; omega) 9) 601) ⟨(.head _), trivial⟩ rfl rfl (fun _ h => nomatch h) ?_
 refine .aA (.nil ?_)
 refine .sr ?_
 refine .aA (.nil ?_)
 refine .seq ?_
 refine .sr ?_
 refine .sA (.fieldAddr rfl fo_25_0 rfl) ?_
 refine .sA (.load rfl sc_22 rfl) ?_
 refine .sA (.lenSl rfl et_22.ht rfl) ?_
 refine .mA (.nil ?_)
 refine .block ?_
 refine .adopt 10 1 83 3 rfl rfl ?_
 refine .loop (G := Nat) (fun k => Env.of [(45, .d (.v (.int .i64 (k : Int)))), (43, .d (.sl (c.things.map Thg.ds))), (44, .d (.v (.int .i64 ((c.things.map Thg.ds).length : Int)))), (3, .d (.fp c.ds)), (1, .d (.v (.string text))), (2, .d (.v (.int .i64 most))), (9, .d (.sl ((wdsL (schW text)).map fldD))), (10, .own 1)]) (fun k => [(1, .row 83 3 ((resL (wdsL (schW text)) (schW text) (c.things.take k)).map Rs.ds))]) (fun k => k ≤ c.things.length) (fun k => c.things.length - k) 0 (Nat.zero_le _) (Sub.less ⟨(SLe.of_eq rfl), SLe.refl _, SLe.refl _, SLe.refl _, SLe.refl _, SLe.refl _, SLe.refl _, SLe.refl _, trivial⟩ (row_same rfl)) ?_
 intro k hk
 refine .sr ?_
 refine .sA (.lss rfl rfl rfl) (.nil ?_)
 refine .seq ?_
 refine .cond rfl (fun h6 => ?_) (fun h6 => ?_)
 ·replace h6 := of_decide_eq_true h6
  rw [List.length_map] at h6
  have hlt : k < c.things.length := by omega
  have hbk := hc.things _ (List.getElem_mem hlt)
  have hsm := t_small h0 (List.getElem_mem hlt)
  have hrl := res_len (wdsL (schW text)) (schW text) (c.things.take k)
  rw [List.length_take] at hrl
  have hsw := sumW_le (hv c.things[k]) (wdsL (schW text))
  refine .skip ?_
  refine .seq ?_
  refine .block ?_
  refine .sr ?_
  refine .sA (.indexAddr rfl et_22 rfl rfl k rfl (at_lst hlt) rfl) ?_
  refine .sA (.loadAgg rfl ag_61 rfl rfl) ?_
  refine .alloc 102 rfl rfl rfl rfl zt_61 rfl rfl rfl ?_
  refine .store rfl rfl rfl sz_61 rfl (.head _) rfl rfl rfl (Nat.le_of_ble_eq_true rfl) ?_
  refine .freezeCells 12 (ds := c.things[k].ds) rfl (.head _) (.nil ?_)
  refine .sr ?_
  refine .sA (.fieldAddr rfl fo_61_2 rfl) ?_
  refine .sA (.load rfl sc_9 rfl) ?_
  refine .mA ?_
  -- wants the world
  refine .callT rfl rfl rfl hT tsm_stays rfl (.cons (.rfl' rfl) (.cons (.rfl' rfl) .nil)) (c_pPts c.things[k].title (wdsL (schW text)) hsm hwl) ?_
  refine .mA ?_
  refine .sA (.extract rfl rfl rfl) ?_
  rw [show (ptV (Lib.fields (foldS c.things[k].title.data.toList)) (wdsL (schW text))) = ptV (hv c.things[k]) (wdsL (schW text)) from rfl]
  refine .sA (.extract rfl rfl rfl) ?_
  refine .aA ?_
  refine .aA (.nil ?_)
  refine .seq ?_
  refine .sr ?_
  refine .mA ?_
  refine .sA (.not rfl rfl) (.nil ?_)
  refine .cond rfl (fun h7 => ?_) (fun h7 => ?_)
  ·replace h7 := bnot_t h7
   have HO := res_no (ws := (wdsL (schW text))) (W := (schW text)) hlt (ptv_no h7)
   refine .exit ?_
   refine .region ?_
   refine .sA (.add64 rfl rfl rfl (by omega) (by omega)) ?_
   refine .mA (.nil ?_)
   refine ⟨k + 1, (by omega), (by dsimp only; omega), Sub.less ⟨(SLe.of_eq rfl), SLe.refl _, SLe.refl _, SLe.refl _, SLe.refl _, SLe.refl _, SLe.refl _, SLe.refl _, trivial⟩ (row_same (by rw [HO]; (try rw [List.map_append]); first | done | rfl | (unfold rsOf; rw [HP, ← ok2]; rfl)))⟩
  replace h7 := bnot_f h7
  obtain ⟨ok1, ok2⟩ := ptv_yes (h := hv c.things[k]) (ws := (wdsL (schW text))) h7
  have HO := res_yes (W := (schW text)) hlt ok1
  refine .skip ?_
  refine .seq ?_
  refine .sr ?_
  refine .sA (.fieldAddr rfl fo_61_2 rfl) ?_
  refine .sA (.load rfl sc_9 rfl) ?_
  refine .sA (.call rfl (.cons (.rfl' rfl) .nil) (c_pFold c.things[k].title hsm)) ?_
  refine .mA ?_
  refine .sA (.call rfl (.cons (.rfl' rfl) .nil) (c_pFold text (by omega))) ?_
  refine .sA (.seql rfl rfl rfl) (.nil ?_)
  refine .cond rfl (fun h8 => ?_) (fun h8 => ?_)
  ·replace h8 := of_decide_eq_true h8
   have HP := ptR_w2 (W := (schW text)) ok1 (bStr_inj h8)
   refine .region ?_
   refine .mA ?_
   refine .sA (.add64 rfl rfl rfl (by omega) (by omega)) ?_
   refine .aA (.nil ?_)
   refine .region ?_
   refine .sA (.moveO rfl rfl) ?_
   refine .sA (.fieldAddr rfl fo_61_0 rfl) ?_
   refine .sA (.load rfl sc_3 rfl) ?_
   refine .mA ?_
   refine .sA (.fieldAddr rfl fo_61_2 rfl) ?_
   refine .sA (.load rfl sc_9 rfl) ?_
   refine .sA (.lenStr rfl st_9 rfl) ?_
   refine .sA (.build rfl bu_83 (.cons rfl rfl (.cons rfl rfl (.cons rfl rfl .nil))) rfl) ?_
   refine .sA (.buildSlice rfl et_79 (.cons rfl rfl rfl .nil) rfl (by decide)) ?_
   -- append 75
   refine .append rfl rfl rfl rfl et_79 rfl (.head _) rfl (fun y hy => by obtain rfl := List.mem_singleton.1 hy; rfl) (by simp; omega) (by simp; omega) ?_
   refine .sA (.assignO rfl rfl) (.nil ?_)
   refine .region ?_
   refine .sA (.add64 rfl rfl rfl (by omega) (by omega)) ?_
   refine .mA (.nil ?_)
   refine ⟨k + 1, (by omega), (by dsimp only; omega), Sub.less ⟨(SLe.of_eq rfl), SLe.refl _, SLe.refl _, SLe.refl _, SLe.refl _, SLe.refl _, SLe.refl _, SLe.refl _, trivial⟩ (row_same (by rw [HO]; (try rw [List.map_append]); first | done | rfl | (unfold rsOf; rw [HP, ← ok2]; rfl)))⟩
  replace h8 := of_decide_eq_false h8
  have HP := ptR_y2 (W := (schW text)) ok1 (fun e => h8 (by rw [show foldS c.things[k].title.data.toList = _ from e]; rfl))
  refine .skip ?_
  refine .region ?_
  refine .sA (.moveO rfl rfl) ?_
  refine .sA (.fieldAddr rfl fo_61_0 rfl) ?_
  refine .sA (.load rfl sc_3 rfl) ?_
  refine .mA ?_
  refine .sA (.fieldAddr rfl fo_61_2 rfl) ?_
  refine .sA (.load rfl sc_9 rfl) ?_
  refine .sA (.lenStr rfl st_9 rfl) ?_
  refine .sA (.build rfl bu_83 (.cons rfl rfl (.cons rfl rfl (.cons rfl rfl .nil))) rfl) ?_
  refine .sA (.buildSlice rfl et_79 (.cons rfl rfl rfl .nil) rfl (by decide)) ?_
  -- append 75
  refine .append rfl rfl rfl rfl et_79 rfl (.head _) rfl (fun y hy => by obtain rfl := List.mem_singleton.1 hy; rfl) (by simp; omega) (by simp; omega) ?_
  refine .sA (.assignO rfl rfl) (.nil ?_)
  refine .region ?_
  refine .sA (.add64 rfl rfl rfl (by omega) (by omega)) ?_
  refine .mA (.nil ?_)
  refine ⟨k + 1, (by omega), (by dsimp only; omega), Sub.less ⟨(SLe.of_eq rfl), SLe.refl _, SLe.refl _, SLe.refl _, SLe.refl _, SLe.refl _, SLe.refl _, SLe.refl _, trivial⟩ (row_same (by rw [HO]; (try rw [List.map_append]); first | done | rfl | (unfold rsOf; rw [HP, ← ok2]; rfl)))⟩
 replace h6 := of_decide_eq_false h6
 rw [List.length_map] at h6
 obtain rfl : k = c.things.length := by omega
 have hrl := res_len (wdsL (schW text)) (schW text) c.things
 rw [List.take_length]
 refine .exit ?_
 refine .sr ?_
 refine .sA (.moveO rfl rfl) ?_
 -- turns 1
 refine .callX rfl rfl rfl (.cons (SLe.refl _) (.cons (SLe.fnR _) .nil)) ((c_sortR (resL (wdsL (schW text)) (schW text) c.things) (by omega) (res_dist hr) _) 1) ⟨(.head _), trivial⟩ rfl rfl (fun _ h => nomatch h) ?_
 refine .nil ?_
 refine .sr ?_
 refine .aA (.nil ?_)
 refine .seq ?_
 refine .sr ?_
 refine .freeze 10 rfl (.head _) ?_
 refine .mA ?_
 refine .mA ?_
 refine .mA ?_
 refine .sA (.lenSl rfl et_79.ht rfl) ?_
 refine .sA (.min rfl rfl rfl) ?_
 refine .sA (.sliceH rfl et_79 rfl rfl (by omega) (by rw [List.length_map]; omega) (fun y hy => by obtain ⟨z, _, rfl⟩ := List.mem_map.1 hy; rfl)) ?_
 rw [take_hi _ _ (show 0 ≤ most by omega)]
 refine .sA (.lenSl rfl et_79.ht rfl) ?_
 refine .mA (.nil ?_)
 refine .block ?_
 refine .adopt 15 2 3 1 rfl rfl ?_
 refine .loop (G := Nat) (fun j => Env.of [(86, .d (.v (.int .i64 (j : Int)))), (84, .d (.sl (((schL c text).take most.toNat).map Rs.ds))), (85, .d (.v (.int .i64 ((((schL c text).take most.toNat).map Rs.ds).length : Int)))), (15, .own 2)]) (fun j => [(2, .row 3 1 ((((schL c text).take most.toNat).take j).map fun r => intD r.id))]) (fun j => j ≤ ((schL c text).take most.toNat).length) (fun j => ((schL c text).take most.toNat).length - j) 0 (Nat.zero_le _) (Sub.less ⟨(SLe.of_eq rfl), SLe.refl _, SLe.refl _, SLe.refl _, trivial⟩ (row_same rfl)) ?_
 intro j hj
 refine .sr ?_
 refine .sA (.lss rfl rfl rfl) (.nil ?_)
 refine .seq ?_
 refine .cond rfl (fun h9 => ?_) (fun h9 => ?_)
 ·replace h9 := of_decide_eq_true h9
  rw [List.length_map] at h9
  have hjl : j < ((schL c text).take most.toNat).length := by omega
  have hll : ((schL c text).take most.toNat).length ≤ 300 := by rw [List.length_take]; have := sch_len (text := text) h0; omega
  refine .skip ?_
  refine .seq ?_
  refine .block ?_
  refine .sr ?_
  refine .sA (.indexAddr rfl et_79 rfl rfl j rfl (at_lst hjl) rfl) ?_
  refine .sA (.loadAgg rfl ag_83 rfl rfl) ?_
  refine .alloc 103 rfl rfl rfl rfl zt_83 rfl rfl rfl ?_
  refine .store rfl rfl rfl sz_83 rfl (.head _) rfl rfl rfl (Nat.le_of_ble_eq_true rfl) ?_
  refine .freezeCells 17 (ds := ((schL c text).take most.toNat)[j].ds) rfl (.head _) (.nil ?_)
  refine .region ?_
  refine .sA (.moveO rfl rfl) ?_
  refine .sA (.fieldAddr rfl fo_83_0 rfl) ?_
  refine .sA (.load rfl sc_3 rfl) ?_
  refine .sA (.buildSlice rfl et_39 (.cons rfl rfl rfl .nil) rfl (by decide)) ?_
  -- append 94
  refine .append rfl rfl rfl rfl et_39 rfl (.head _) rfl (fun y hy => by obtain rfl := List.mem_singleton.1 hy; rfl) (by simp; omega) (by simp; omega) ?_
  refine .sA (.assignO rfl rfl) (.nil ?_)
  refine .region ?_
  refine .sA (.add64 rfl rfl rfl (by omega) (by omega)) ?_
  refine .mA (.nil ?_)
  refine ⟨j + 1, (by omega), (by dsimp only; omega), Sub.less ⟨(SLe.of_eq rfl), SLe.refl _, SLe.refl _, SLe.refl _, trivial⟩ (row_same (by rw [List.take_add_one, List.getElem?_eq_getElem hjl, Option.toList_some, List.map_append]; rfl))⟩
 replace h9 := of_decide_eq_false h9
 rw [List.length_map] at h9
 obtain rfl : j = ((schL c text).take most.toNat).length := by omega
 rw [List.take_length]
 refine .exit ?_
 refine .sr ?_
 refine .sA (.moveO rfl rfl) ?_
 refine .sA (.assignO rfl rfl) ?_
 refine .aA (.nil ?_)
 refine .ret ?_
 refine ⟨RetD.own rfl (.head _) ?_, RetD.eq rfl ?_, trivial⟩
 all_goals (first | rfl | (rw [List.map_map]; rfl))

end Go.Proofs.YthcdjmkkgbcaaaaGreatDoor

namespace Go.Proofs.YthcdjmkkgbcaaaaGreatDoor
open Go.RowKit
set_option linter.unusedVariables false

/-! Types. -/
namespace TyYG
end TyYG
open TyH3 TyH4 TyH5 TyJ3 TyJ4 TyJ5 TyKA TyKB TyKC TyKD TyKE TyKF TyKG TyYA TyYB TyYC TyYD TyYE TyYF TyYG

open Go.Lib Go.Shelf Go.Sort
set_option linter.unusedSimpArgs false
theorem AWP.recell {cx : Cx} {c : Code} {e : Env} {σ : Obs} {Q : Post} (id off : Nat) {ss : List S} {s s' : S} (hm : (id, Ob.cells ss) ∈ σ) (hs : ss[off]? = some s) (h : SLe s s')
    (k : AWP cx c e (Obs.upd id (.cells (ss.set off s')) σ) Q) : AWP cx c e σ Q := fun a w ⟨F, ρ, hr⟩ => k a w ⟨F, ρ, hr.recell hm hs fun x hx => h F ρ w x hx⟩
theorem sle_nil : SLe (.d (.v (.slice none 0 0))) (.d (.sl [])) := fun F ρ w x h => .d (Le.nil _ _ _ (repS_d h))
theorem best_or {a b : Int} {m n : Nat} (h1 : ¬ a > b) (h2 : ¬ (a = b ∧ a > 0 ∧ m < n)) : ¬ (a > b ∨ (a = b ∧ a > 0 ∧ m < n)) := fun h => h.elim h1 h2
theorem sch_ids {c : Ctl} {text : ByteArray} {j : Nat} (hj : j < (schL c text).length) : ((schL c text).take (j + 1)).map Rs.id = ((schL c text).take j).map Rs.id ++ [(schL c text)[j].id] := by
  rw [List.take_add_one, List.getElem?_eq_getElem hj, Option.toList_some, List.map_append]; rfl
theorem AOps.callTS {cx : Cx} {ops : Array Oper} {o : Oper} {rest : List Oper} {e : Env} {σ : Obs} {Q : Post} {T : World → Prop} {f : FuncId} {xs : List Operand} {ts : Array TypeId} {ds : List D} {d : D} (hg : GW ops o e true) (hd : DstOk cx.N o)
    (ho : o.op = .call { callee := .value (.func f), args := xs.toArray, argTypes := ts }) (hT : T cx.w0) (hS : Stays T) (hfr : cx.fr = fun b => cx.w0.heap.size ≤ b) (ha : SnapArgs e σ xs ds) (h : ACallT cx.P T f ds d) (hp : Plain d)
    (k : AOps cx ops rest (e.put o.dst (.d d)) σ Q) : AOps cx ops (o :: rest) e σ Q := by
  intro a w ⟨F, ρ, hr⟩
  have hw := hg.wanted (fun t _ => hr.env t)
  have hTw : T w := hS _ _ (by rw [← hfr]; exact hr.below) hT
  have h1 := ha.rep (a := a) hr.obs fun x _ => ev_rep fun t _ => hr.env t
  have hF2 : ∀ b, endF F ρ σ b → b < w.heap.size := by
    rintro b (hb | ⟨p, hp, hb⟩)
    · exact hr.lt b hb
    · exact ((hr.obs.ok p hp).blk_lt hb).2
  have h2 := h.2 (endF F ρ σ) w _ hTw hF2 h1
  have h3 := h.1 (xs.map a.eval).toArray w
  have hx : (execOp a.eval o).run cx.P w = .ok (.enter f (xs.map a.eval).toArray) w := by
    unfold execOp
    simp only [ho, resolve, Deferred.ofValue, Act.eval, invoke, Sem.run_bind, Sem.run_pure, Result.andThen_ok]
    simpa using h3
  unfold wpList
  rw [if_pos hw]
  refine .inl ?_
  unfold Oper.wp
  rw [hx]
  refine h2.mono fun _ w' ⟨v, F', he, hv, hE⟩ => ?_
  subst he
  exact k _ _ ⟨F, ρ, hr.put (Ext.of_below hr.lt hE.below) (.d (hp.rep _ hv)) hd⟩

theorem sch_at {c : Ctl} {text : ByteArray} {j : Nat} (hr : RisT c.things) (hne : wdsL (schW text) ≠ []) (hj : j < (schL c text).length) :
    (bstS (wdsL (schW text)) (schW text) (((schL c text).take j).map Rs.id) c.things c.things.length).1.id = (schL c text)[j].id ∧ 0 < (bstS (wdsL (schW text)) (schW text) (((schL c text).take j).map Rs.id) c.things c.things.length).2 := by
  obtain ⟨h1, h2, h3⟩ := bst_at (W := schW text) hr hne hj
  have h1' : (bstS (wdsL (schW text)) (schW text) (((schL c text).take j).map Rs.id) c.things c.things.length).2 = (schL c text)[j].pts := h1
  have h3' : 0 < (schL c text)[j].pts := h3
  exact ⟨h2, by rw [h1']; exact h3'⟩
theorem sch_stop {c : Ctl} {text : ByteArray} {j : Nat} (hr : RisT c.things) (hne : wdsL (schW text) ≠ []) (hj : j ≤ (schL c text).length) : j < (schL c text).length ∨ (j = (schL c text).length ∧ (bstS (wdsL (schW text)) (schW text) (((schL c text).take j).map Rs.id) c.things c.things.length).2 = 0) := by
  rcases Nat.lt_or_eq_of_le hj with h | h
  · exact .inl h
  · refine .inr ⟨h, ?_⟩
    have := bst_end (W := schW text) hr hne
    rw [h, List.take_length]
    exact this

set_option maxRecDepth 100000 in
set_option maxHeartbeats 4000000 in
theorem c_best (c : Ctl) (ws : List (List UInt8)) (W : List UInt8) (fd : List Int) (hc : CtlOk c) (h0 : chkF c = 0) (hw : ws.length ≤ 1000) : ACallT Tryz.prog TSM 49 [.agg c.ds, .sl (ws.map fldD), .v (.string (bStr W)), .sl (fd.map intD)] (.tup [.v (.int .i64 (bstS ws W fd c.things c.things.length).1.id), .v (.int .i64 (bstS ws W fd c.things c.things.length).2)]) := by
 refine acall_ofT (n := 57) (ds' := [.v (.int .i64 (bstS ws W fd c.things c.things.length).1.id), .v (.int .i64 (bstS ws W fd c.things c.things.length).2)]) Tryz.func49 rfl (by kernel_rfl) rfl [8, 9] rfl rfl ?_
 intro B w0 F0 hT
 have hL1 := (catOk h0).lim.1
 refine .sr ?_
 refine .sA (.box rfl rfl rfl) ?_
 refine .aA ?_
 refine .aA (.nil ?_)
 refine .sr ?_
 refine .alloc 101 rfl rfl rfl rfl zt_61 rfl rfl rfl (.nil ?_)
 refine .seq ?_
 refine .recell 101 6 (.head _) rfl sle_nil ?_
 refine .region ?_
 refine .aA (.nil ?_)
 refine .seq ?_
 refine .sr ?_
 refine .sA (.fieldAddr rfl fo_25_0 rfl) ?_
 refine .sA (.load rfl sc_22 rfl) ?_
 refine .sA (.lenSl rfl et_22.ht rfl) ?_
 refine .mA (.nil ?_)
 refine .block ?_
 refine .loop (G := Nat) (fun k => Env.of [(18, .d (.v (.int .i64 (k : Int)))), (16, .d (.sl (c.things.map Thg.ds))), (17, .d (.v (.int .i64 ((c.things.map Thg.ds).length : Int)))), (3, .d (.sl (fd.map intD))), (1, .d (.sl (ws.map fldD))), (2, .d (.v (.string (bStr W)))), (10, .ptr 101 0), (11, .d (.v (.int .i64 (bstS ws W fd c.things k).2)))]) (fun k => [(101, .cells ((bstS ws W fd c.things k).1.ds.map S.d))]) (fun k => k ≤ c.things.length) (fun k => c.things.length - k) 0 (Nat.zero_le _) (Sub.less ⟨(SLe.of_eq rfl), SLe.refl _, SLe.refl _, SLe.refl _, SLe.refl _, SLe.refl _, SLe.refl _, SLe.refl _, trivial⟩ (cells_1 rfl)) ?_
 intro k hk
 refine .sr ?_
 refine .sA (.lss rfl rfl rfl) (.nil ?_)
 refine .seq ?_
 refine .cond rfl (fun h1 => ?_) (fun h1 => ?_)
 ·replace h1 := of_decide_eq_true h1
  rw [List.length_map] at h1
  have hlt : k < c.things.length := by omega
  have hsm := t_small h0 (List.getElem_mem hlt)
  refine .skip ?_
  refine .seq ?_
  refine .block ?_
  refine .sr ?_
  refine .sA (.indexAddr rfl et_22 rfl rfl k rfl (at_lst hlt) rfl) ?_
  refine .sA (.loadAgg rfl ag_61 rfl rfl) ?_
  refine .alloc 102 rfl rfl rfl rfl zt_61 rfl rfl rfl ?_
  refine .store rfl rfl rfl sz_61 rfl (.head _) rfl rfl rfl (Nat.le_of_ble_eq_true rfl) ?_
  refine .freezeCells 13 (ds := c.things[k].ds) rfl (.head _) (.nil ?_)
  refine .seq ?_
  refine .sr ?_
  refine .mA ?_
  refine .sA (.fieldAddr rfl fo_61_0 rfl) ?_
  refine .sA (.load rfl sc_3 rfl) ?_
  refine .sA (.call rfl (.cons (.rfl' rfl) (.cons (.rfl' rfl) .nil)) (c_cnI fd _)) (.nil ?_)
  refine .cond rfl (fun h2 => ?_) (fun h2 => ?_)
  ·replace h2 := of_decide_eq_true h2
   have HB := bst_in (ws := ws) (W := W) hlt h2
   refine .exit ?_
   refine .region ?_
   refine .sA (.add64 rfl rfl rfl (by omega) (by omega)) ?_
   refine .mA (.nil ?_)
   refine ⟨k + 1, (by omega), (by dsimp only; omega), Sub.less ⟨(SLe.of_eq rfl), SLe.refl _, SLe.refl _, SLe.refl _, SLe.refl _, SLe.refl _, SLe.refl _, (SLe.of_eq (by rw [HB]; first | done | rfl)), trivial⟩ (cells_1 (by rw [HB]; first | done | rfl))⟩
  replace h2 := of_decide_eq_false h2
  have n1 := h2
  refine .skip ?_
  refine .sr ?_
  refine .sA (.loadAgg rfl ag_61 rfl rfl) ?_
  refine .mA ?_
  refine .mA ?_
  -- wants the world
  refine .callT rfl rfl rfl hT tsm_stays rfl (.cons (.rfl' rfl) (.cons (.rfl' rfl) (.cons (.rfl' rfl) .nil))) (c_rPts c.things[k] ws W hsm hw) ?_
  refine .aA (.nil ?_)
  refine .sr ?_
  refine .mA ?_
  refine .mA ?_
  refine .sA (.gtr rfl rfl rfl) ?_
  refine .mA ?_
  refine .split 33 rfl (fun g3 => ?_) (fun g3 => ?_)
  ·replace g3 := of_decide_eq_true g3
   have HB := bst_y (ws := ws) (W := W) hlt n1 (.inl g3)
   refine .pA ?_
   refine .pA ?_
   refine .pA ?_
   refine .pA ?_
   refine .pass ⟨37, rfl, .inr ⟨rfl, rfl⟩⟩ rfl rfl ?_
   refine .pass ⟨37, rfl, .inr ⟨rfl, rfl⟩⟩ rfl rfl ?_
   refine .pA ?_
   refine .pA ?_
   refine .pass ⟨41, rfl, .inr ⟨rfl, rfl⟩⟩ rfl rfl ?_
   refine .pass ⟨41, rfl, .inr ⟨rfl, rfl⟩⟩ rfl rfl ?_
   refine .pass ⟨41, rfl, .inr ⟨rfl, rfl⟩⟩ rfl rfl ?_
   refine .pass ⟨41, rfl, .inr ⟨rfl, rfl⟩⟩ rfl rfl ?_
   refine .pass ⟨41, rfl, .inr ⟨rfl, rfl⟩⟩ rfl rfl ?_
   refine .pass ⟨41, rfl, .inr ⟨rfl, rfl⟩⟩ rfl rfl ?_
   refine .pass ⟨41, rfl, .inr ⟨rfl, rfl⟩⟩ rfl rfl ?_
   refine .pA ?_
   refine .sA (.pickT rfl rfl rfl) (.nil ?_)
   refine .cond rfl (fun _ => ?_) (fun h => nomatch h)
   refine .region ?_
   refine .sA (.loadAgg rfl ag_61 rfl rfl) ?_
   refine .mA ?_
   refine .store rfl rfl rfl sz_61 rfl (.head _) rfl rfl rfl (Nat.le_of_ble_eq_true rfl) ?_
   refine .aA (.nil ?_)
   refine .region ?_
   refine .sA (.add64 rfl rfl rfl (by omega) (by omega)) ?_
   refine .mA (.nil ?_)
   refine ⟨k + 1, (by omega), (by dsimp only; omega), Sub.less ⟨(SLe.of_eq rfl), SLe.refl _, SLe.refl _, SLe.refl _, SLe.refl _, SLe.refl _, SLe.refl _, (SLe.of_eq (by rw [HB]; first | done | rfl)), trivial⟩ (cells_1 (by rw [HB]; first | done | rfl))⟩
  replace g3 := of_decide_eq_false g3
  have q1 := g3
  refine .sG (.moveD rfl rfl) ?_
  refine .sG (.moveD rfl rfl) ?_
  refine .sG (.eql rfl rfl rfl) ?_
  refine .sG (.moveD rfl rfl) ?_
  refine .split 37 rfl (fun g4 => ?_) (fun g4 => ?_)
  ·replace g4 := of_decide_eq_true g4
   have q2 := g4
   refine .sG (.moveD rfl rfl) ?_
   refine .sG (.gtr rfl rfl rfl) ?_
   refine .sG (.pickT rfl rfl rfl) ?_
   refine .sG (.moveD rfl rfl) ?_
   refine .split 41 rfl (fun g5 => ?_) (fun g5 => ?_)
   ·replace g5 := of_decide_eq_true g5
    have q3 := g5
    refine .sG (.fieldAddr rfl fo_61_2 rfl) ?_
    refine .sG (.load rfl sc_9 rfl) ?_
    refine .sG (.lenStr rfl st_9 rfl) ?_
    refine .sG (.fieldAddrP rfl fo_61_2 rfl) ?_
    refine .sG (.loadP rfl sc_9 rfl (.head _) rfl) ?_
    refine .sG (.lenStr rfl st_9 rfl) ?_
    refine .sG (.lss rfl rfl rfl) ?_
    refine .sG (.pickT rfl rfl rfl) ?_
    refine .sA (.pickF rfl rfl rfl) (.nil ?_)
    refine .cond rfl (fun h6 => ?_) (fun h6 => ?_)
    ·replace h6 := of_decide_eq_true h6
     have HB := bst_y (ws := ws) (W := W) hlt n1 (.inr ⟨q2, q3, by omega⟩)
     refine .region ?_
     refine .sA (.loadAgg rfl ag_61 rfl rfl) ?_
     refine .mA ?_
     refine .store rfl rfl rfl sz_61 rfl (.head _) rfl rfl rfl (Nat.le_of_ble_eq_true rfl) ?_
     refine .aA (.nil ?_)
     refine .region ?_
     refine .sA (.add64 rfl rfl rfl (by omega) (by omega)) ?_
     refine .mA (.nil ?_)
     refine ⟨k + 1, (by omega), (by dsimp only; omega), Sub.less ⟨(SLe.of_eq rfl), SLe.refl _, SLe.refl _, SLe.refl _, SLe.refl _, SLe.refl _, SLe.refl _, (SLe.of_eq (by rw [HB]; first | done | rfl)), trivial⟩ (cells_1 (by rw [HB]; first | done | rfl))⟩
    replace h6 := of_decide_eq_false h6
    have HB := bst_n (ws := ws) (W := W) hlt n1 (best_or q1 (fun hh => by have := hh.2.2; omega))
    refine .skip ?_
    refine .region ?_
    refine .sA (.add64 rfl rfl rfl (by omega) (by omega)) ?_
    refine .mA (.nil ?_)
    refine ⟨k + 1, (by omega), (by dsimp only; omega), Sub.less ⟨(SLe.of_eq rfl), SLe.refl _, SLe.refl _, SLe.refl _, SLe.refl _, SLe.refl _, SLe.refl _, (SLe.of_eq (by rw [HB]; first | done | rfl)), trivial⟩ (cells_1 (by rw [HB]; first | done | rfl))⟩
   replace g5 := of_decide_eq_false g5
   have HB := bst_n (ws := ws) (W := W) hlt n1 (best_or q1 (fun hh => g5 hh.2.1))
   refine .pA ?_
   refine .pA ?_
   refine .pA ?_
   refine .pA ?_
   refine .pA ?_
   refine .pA ?_
   refine .pA ?_
   refine .sG (.pickF rfl rfl rfl) ?_
   refine .sA (.pickF rfl rfl rfl) (.nil ?_)
   refine .cond rfl (fun h => nomatch h) (fun _ => ?_)
   refine .skip ?_
   refine .region ?_
   refine .sA (.add64 rfl rfl rfl (by omega) (by omega)) ?_
   refine .mA (.nil ?_)
   refine ⟨k + 1, (by omega), (by dsimp only; omega), Sub.less ⟨(SLe.of_eq rfl), SLe.refl _, SLe.refl _, SLe.refl _, SLe.refl _, SLe.refl _, SLe.refl _, (SLe.of_eq (by rw [HB]; first | done | rfl)), trivial⟩ (cells_1 (by rw [HB]; first | done | rfl))⟩
  replace g4 := of_decide_eq_false g4
  have HB := bst_n (ws := ws) (W := W) hlt n1 (best_or q1 (fun hh => g4 hh.1))
  refine .pA ?_
  refine .pA ?_
  refine .sG (.pickF rfl rfl rfl) ?_
  refine .sG (.moveD rfl rfl) ?_
  refine .pA ?_
  refine .pA ?_
  refine .pA ?_
  refine .pA ?_
  refine .pA ?_
  refine .pA ?_
  refine .pA ?_
  refine .sG (.pickF rfl rfl rfl) ?_
  refine .sA (.pickF rfl rfl rfl) (.nil ?_)
  refine .cond rfl (fun h => nomatch h) (fun _ => ?_)
  refine .skip ?_
  refine .region ?_
  refine .sA (.add64 rfl rfl rfl (by omega) (by omega)) ?_
  refine .mA (.nil ?_)
  refine ⟨k + 1, (by omega), (by dsimp only; omega), Sub.less ⟨(SLe.of_eq rfl), SLe.refl _, SLe.refl _, SLe.refl _, SLe.refl _, SLe.refl _, SLe.refl _, (SLe.of_eq (by rw [HB]; first | done | rfl)), trivial⟩ (cells_1 (by rw [HB]; first | done | rfl))⟩
 replace h1 := of_decide_eq_false h1
 rw [List.length_map] at h1
 obtain rfl : k = c.things.length := by omega
 refine .exit ?_
 refine .sr ?_
 refine .sA (.fieldAddrP rfl fo_61_0 rfl) ?_
 refine .sA (.loadP rfl sc_3 rfl (.head _) rfl) ?_
 refine .mA ?_
 refine .aA ?_
 refine .aA (.nil ?_)
 refine .ret ?_
 refine ⟨RetD.eq rfl ?_, RetD.eq rfl ?_, trivial⟩
 all_goals (rfl)

set_option maxRecDepth 100000 in
set_option maxHeartbeats 4000000 in
theorem c_rSch (c : Ctl) (text : ByteArray) (most : Int) (hc : CtlOk c) : ACallT Tryz.prog TSM 16 [.agg c.ds, .v (.string text), .v (.int .i64 most)] (.tup [.sl ((schV c text most).1.map intD), .v (.int .i64 (schV c text most).2)]) := by
 refine acall_ofT (n := 55) (ds' := [.sl ((schV c text most).1.map intD), .v (.int .i64 (schV c text most).2)]) Tryz.func16 rfl (by kernel_rfl) rfl [6, 7] rfl rfl ?_
 intro B w0 F0 hT
 refine .sr ?_
 refine .sA (.box rfl rfl rfl) ?_
 refine .aA ?_
 refine .aA (.nil ?_)
 refine .seq ?_
 refine .sr ?_
 refine .sA (.loadAgg rfl ag_25 rfl rfl) ?_
 -- wants the world
 refine .callT rfl rfl rfl hT tsm_stays rfl (.cons (.rfl' rfl) .nil) (c_rChk c hc).mxt ?_
 refine .aA (.nil ?_)
 refine .sr ?_
 refine .mA ?_
 refine .sA (.neq rfl rfl rfl) (.nil ?_)
 refine .cond rfl (fun h1 => ?_) (fun h1 => ?_)
 ·replace h1 := of_decide_eq_true h1
  obtain ⟨E1, E2⟩ := sch_c (text := text) (most := most) h1
  rw [E1, E2]
  refine .sr ?_
  refine .mA ?_
  refine .aA ?_
  refine .aA (.nil ?_)
  refine .ret ?_
  refine ⟨RetD.nil rfl, RetD.eq rfl ?_, trivial⟩
  all_goals (first | rfl | rw [HL])
 replace h1 := of_decide_eq_false h1
 have h0 : chkF c = 0 := Decidable.not_not.1 h1
 obtain ⟨hL1, hL2⟩ := (catOk h0).lim
 have hr := (catOk h0).ris
 refine .skip ?_
 refine .seq ?_
 refine .sr ?_
 refine .mA ?_
 refine .sA (.lenStr rfl st_9 rfl) ?_
 refine .sA (.gtr rfl rfl rfl) (.nil ?_)
 refine .cond rfl (fun h2 => ?_) (fun h2 => ?_)
 ·replace h2 := of_decide_eq_true h2
  obtain ⟨E1, E2⟩ := sch_l (text := text) (most := most) h0 (by omega)
  rw [E1, E2]
  refine .sr ?_
  refine .aA ?_
  refine .aA (.nil ?_)
  refine .ret ?_
  refine ⟨RetD.nil rfl, RetD.eq rfl ?_, trivial⟩
  all_goals (first | rfl | rw [HL])
 replace h2 := of_decide_eq_false h2
 have h1 : ¬ 100 < text.size := by omega
 have hff := fields_le (foldS text.data.toList)
 have hfo := foldS_le text.data.toList
 rw [← Lib.size_eq text] at hfo
 have hwl := wds_len (schW text)
 have hwl : (wdsL (schW text)).length ≤ 1000 := by unfold schW at *; omega
 refine .skip ?_
 refine .sr ?_
 refine .mA ?_
 -- wants the world
 refine .callT rfl rfl rfl hT tsm_stays rfl (.cons (.rfl' rfl) .nil) (c_rFold text (by omega)).tbt ?_
 refine .aA (.nil ?_)
 refine .sr ?_
 refine .mA ?_
 refine .callOT 601 rfl rfl rfl rfl hT tsm_stays rfl (.cons (.rfl' rfl) .nil) (c_fldO text.data.toList (by rw [← Lib.size_eq text]; omega)) rfl ?_
 refine .sA (.assignO rfl rfl) (.nil ?_)
 refine .seq ?_
 refine .sr ?_
 refine .sA (.moveO rfl rfl) ?_
 refine .sA (.lenOwn rfl et_68.ht rfl (.head _)) ?_
 refine .sA (.eql rfl rfl rfl) (.nil ?_)
 refine .cond rfl (fun h3 => ?_) (fun h3 => ?_)
 ·replace h3 := of_decide_eq_true h3
  obtain ⟨E1, E2⟩ := sch_n (text := text) (most := most) h0 h1 (List.eq_nil_of_length_eq_zero (by rw [List.length_map] at h3; unfold schW; omega))
  rw [E1, E2]
  refine .sr ?_
  refine .aA ?_
  refine .aA (.nil ?_)
  refine .ret ?_
  refine ⟨RetD.nil rfl, RetD.eq rfl ?_, trivial⟩
  all_goals (first | rfl | rw [HL])
 replace h3 := of_decide_eq_false h3
 have h2 : ¬ Lib.fields (schW text) = [] := fun e => h3 (by rw [List.length_map]; unfold schW at e; rw [e]; rfl)
 have hne := wds_ne h2
 refine .skip ?_
 refine .seq ?_
 refine .sr ?_
 refine .mA ?_
 refine .sA (.call rfl (.cons (.rfl' rfl) (.cons (.rfl' rfl) (.cons (.rfl' rfl) .nil))) (c_rIn _ _ _)) ?_
 refine .sA (.not rfl rfl) (.nil ?_)
 refine .cond rfl (fun h4 => ?_) (fun h4 => ?_)
 ·replace h4 := bnot_t h4; replace h4 := of_decide_eq_false h4
  obtain ⟨E1, E2⟩ := sch_r (text := text) (most := most) h0 h1 h2 (by omega)
  rw [E1, E2]
  refine .sr ?_
  refine .aA ?_
  refine .aA (.nil ?_)
  refine .ret ?_
  refine ⟨RetD.nil rfl, RetD.eq rfl ?_, trivial⟩
  all_goals (first | rfl | rw [HL])
 replace h4 := bnot_f h4; replace h4 := of_decide_eq_true h4
 have m2 : ¬ (most < 1 ∨ 300 < most) := by omega
 obtain ⟨E1, E2⟩ := sch_0 h0 h1 h2 m2
 rw [E1, E2]
 refine .skip ?_
 refine .sr ?_
 refine .sA (.moveO rfl rfl) ?_
 -- turns 601
 refine .callX rfl rfl rfl (.cons (SLe.refl _) .nil) ((c_sort (Lib.fields (foldS text.data.toList)) (by omega) 9) 601) ⟨(.head _), trivial⟩ rfl rfl (fun _ h => nomatch h) ?_
 refine .nil ?_
 refine .sr ?_
 refine .sA (.moveO rfl rfl) ?_
 -- takes 601
 refine .callX rfl rfl rfl (.cons (SLe.refl _) .nil) ((c_compact (sortS (Lib.fields (foldS text.data.toList))) (by rw [sortS_len]; omega) 9) 601) ⟨(.head _), trivial⟩ rfl rfl (fun _ h => nomatch h) ?_
 refine .aA (.nil ?_)
 refine .sr ?_
 refine .aA (.nil ?_)
 refine .seq ?_
 refine .block ?_
 refine .adopt 11 1 3 1 rfl rfl ?_
 refine .loop (G := Nat) (fun j => Env.of [(3, .d (.fp c.ds)), (2, .d (.v (.int .i64 most))), (9, .d (.v (.string (bStr (schW text))))), (10, .d (.sl ((wdsL (schW text)).map fldD))), (11, .own 1)]) (fun j => [(1, .row 3 1 ((((schL c text).take j).map Rs.id).map intD))]) (fun j => j ≤ (schL c text).length ∧ (j : Int) ≤ most) (fun j => most.toNat - j) 0 ⟨Nat.zero_le _, by omega⟩ (Sub.less ⟨SLe.refl _, SLe.refl _, SLe.refl _, SLe.refl _, SLe.refl _, trivial⟩ (row_same rfl)) ?_
 intro j hj
 refine .seq ?_
 refine .sr ?_
 refine .sA (.moveO rfl rfl) ?_
 refine .sA (.lenOwn rfl et_39.ht rfl (.head _)) ?_
 refine .mA ?_
 refine .sA (.lss rfl rfl rfl) (.nil ?_)
 refine .cond rfl (fun h5 => ?_) (fun h5 => ?_)
 ·replace h5 := of_decide_eq_true h5
  rw [List.length_map, List.length_map, List.length_take, Nat.min_eq_left hj.1] at h5
  have hsl := sch_len (text := text) h0
  refine .skip ?_
  refine .block ?_
  refine .sr ?_
  refine .sA (.loadAgg rfl ag_25 rfl rfl) ?_
  refine .mA ?_
  refine .mA ?_
  refine .sA (.moveO rfl rfl) ?_
  refine .callTS rfl rfl rfl hT tsm_stays rfl (.cons rfl (.d _) (.cons rfl (.d _) (.cons rfl (.d _) (.cons rfl (.row (.head _)) .nil)))) (c_best c (wdsL (schW text)) (schW text) (((schL c text).take j).map Rs.id) hc h0 hwl) (.tup _ (fun d hd => by simp only [List.mem_cons, List.not_mem_nil, or_false] at hd; rcases hd with rfl | rfl <;> exact .v _)) ?_
  refine .mA ?_
  refine .sA (.extract rfl rfl rfl) ?_
  refine .sA (.extract rfl rfl rfl) ?_
  refine .aA ?_
  refine .aA (.nil ?_)
  refine .seq ?_
  refine .sr ?_
  refine .mA ?_
  refine .sA (.eql rfl rfl rfl) (.nil ?_)
  refine .cond rfl (fun h6 => ?_) (fun h6 => ?_)
  ·replace h6 := of_decide_eq_true h6
   have HL : (((schL c text).take j).map Rs.id) = ((schL c text).take most.toNat).map Rs.id := by
    rcases sch_stop hr hne hj.1 with hh | ⟨hh, _⟩
    ·have := (sch_at hr hne hh).2; omega
    rw [List.take_of_length_le (show (schL c text).length ≤ j by omega), List.take_of_length_le (show (schL c text).length ≤ most.toNat by omega)]
   refine .exit ?_
   refine .sr ?_
   refine .sA (.moveO rfl rfl) ?_
   refine .sA (.assignO rfl rfl) ?_
   refine .aA (.nil ?_)
   refine .ret ?_
   refine ⟨RetD.own rfl (.head _) ?_, RetD.eq rfl ?_, trivial⟩
   all_goals (first | rfl | rw [HL])
  replace h6 := of_decide_eq_false h6
  have hjl : j < (schL c text).length := by
   rcases sch_stop hr hne hj.1 with hh | ⟨_, hh⟩
   ·exact hh
   exact absurd hh h6
  have HJ := (sch_at hr hne hjl).1
  have hll : (((schL c text).take j).map Rs.id).length ≤ 300 := by rw [List.length_map, List.length_take]; omega
  refine .skip ?_
  refine .region ?_
  refine .sA (.moveO rfl rfl) ?_
  refine .mA ?_
  refine .sA (.buildSlice rfl et_39 (.cons rfl rfl rfl .nil) rfl (by decide)) ?_
  -- append 53
  refine .append rfl rfl rfl rfl et_39 rfl (.head _) rfl (fun y hy => by obtain rfl := List.mem_singleton.1 hy; rfl) (by simp; omega) (by simp; omega) ?_
  refine .sA (.assignO rfl rfl) (.nil ?_)
  refine ⟨j + 1, ⟨by omega, by omega⟩, (by dsimp only; omega), Sub.less ⟨SLe.refl _, SLe.refl _, SLe.refl _, SLe.refl _, SLe.refl _, trivial⟩ (row_same (by rw [sch_ids hjl, List.map_append, HJ]; rfl))⟩
 replace h5 := of_decide_eq_false h5
 rw [List.length_map, List.length_map, List.length_take, Nat.min_eq_left hj.1] at h5
 have HL : (((schL c text).take j).map Rs.id) = ((schL c text).take most.toNat).map Rs.id := by rw [show j = most.toNat by omega]
 refine .exit ?_
 refine .sr ?_
 refine .sA (.moveO rfl rfl) ?_
 refine .sA (.assignO rfl rfl) ?_
 refine .aA (.nil ?_)
 refine .ret ?_
 refine ⟨RetD.own rfl (.head _) ?_, RetD.eq rfl ?_, trivial⟩
 all_goals (first | rfl | rw [HL])

set_option maxRecDepth 100000 in
set_option maxHeartbeats 1000000 in
theorem lawSearch (c : Ctl) (text : ByteArray) (most : Int) (hc : CtlOk c) : ACallT Tryz.prog TSM 5 [.agg c.ds, .v (.string text), .v (.int .i64 most)] (.v (.bool true)) := by
 refine acall_ofT (n := 57) (ds' := [.v (.bool true)]) Tryz.func5 rfl (by kernel_rfl) rfl [6] rfl rfl ?_
 intro B w0 F0 hT
 refine .sr ?_
 refine .sA (.box rfl rfl rfl) ?_
 refine .aA (.nil ?_)
 refine .sr ?_
 refine .sA (.loadAgg rfl ag_25 rfl rfl) ?_
 -- wants the world
 refine .callT rfl rfl rfl hT tsm_stays rfl (.cons (.rfl' rfl) .nil) (c_pDbl c hc) ?_
 refine .mA ?_
 refine .sA (.extract rfl rfl rfl) ?_
 refine .sA (.extract rfl rfl rfl) ?_
 refine .aA ?_
 refine .aA (.nil ?_)
 refine .sr ?_
 refine .sA (.loadAgg rfl ag_25 rfl rfl) ?_
 -- wants the world
 refine .callT rfl rfl rfl hT tsm_stays rfl (.cons (.rfl' rfl) .nil) (c_rDbl c hc) ?_
 refine .mA ?_
 refine .sA (.extract rfl rfl rfl) ?_
 refine .sA (.extract rfl rfl rfl) ?_
 refine .aA ?_
 refine .aA (.nil ?_)
 refine .seq ?_
 refine .sr ?_
 refine .mA ?_
 refine .mA ?_
 refine .sA (.neq rfl rfl rfl) ?_
 refine .mA ?_
 refine .split 26 rfl (fun g1 => ?_) (fun g1 => ?_)
 ·replace g1 := of_decide_eq_true g1
  exact absurd rfl g1
 replace g1 := of_decide_eq_false g1
 refine .sG (.moveD rfl rfl) ?_
 refine .sG (.moveD rfl rfl) ?_
 refine .sG (.call rfl (.cons (.rfl' rfl) (.cons (.rfl' rfl) .nil)) (c_sameG (dblV c).1)) ?_
 refine .sG (.not rfl rfl) ?_
 refine .sA (.pickF rfl rfl rfl) (.nil ?_)
 refine .cond rfl (fun h => nomatch h) (fun _ => ?_)
 refine .skip ?_
 refine .sr ?_
 refine .sA (.loadAgg rfl ag_25 rfl rfl) ?_
 refine .mA ?_
 refine .mA ?_
 -- wants the world
 refine .callT rfl rfl rfl hT tsm_stays rfl (.cons (.rfl' rfl) (.cons (.rfl' rfl) (.cons (.rfl' rfl) .nil))) (c_pSch c text most hc) ?_
 refine .mA ?_
 refine .sA (.extract rfl rfl rfl) ?_
 refine .sA (.extract rfl rfl rfl) ?_
 refine .aA ?_
 refine .aA (.nil ?_)
 refine .sr ?_
 refine .sA (.loadAgg rfl ag_25 rfl rfl) ?_
 refine .mA ?_
 refine .mA ?_
 -- wants the world
 refine .callT rfl rfl rfl hT tsm_stays rfl (.cons (.rfl' rfl) (.cons (.rfl' rfl) (.cons (.rfl' rfl) .nil))) (c_rSch c text most hc) ?_
 refine .mA ?_
 refine .sA (.extract rfl rfl rfl) ?_
 refine .sA (.extract rfl rfl rfl) ?_
 refine .aA ?_
 refine .aA (.nil ?_)
 refine .sr ?_
 refine .mA ?_
 refine .mA ?_
 refine .sA (.eql rfl rfl rfl) ?_
 refine .mA ?_
 refine .split 49 rfl (fun g2 => ?_) (fun g2 => ?_)
 ·replace g2 := of_decide_eq_true g2
  refine .sG (.moveD rfl rfl) ?_
  refine .sG (.moveD rfl rfl) ?_
  refine .sG (.call rfl (.cons (.rfl' rfl) (.cons (.rfl' rfl) .nil)) (c_eqI (schV c text most).1 (schV c text most).1)) ?_
  refine .sA (.pickT rfl rfl rfl) ?_
  refine .mA ?_
  refine .split 54 rfl (fun g3 => ?_) (fun g3 => ?_)
  ·replace g3 := of_decide_eq_true g3
   refine .sG (.call rfl .nil c_awake) ?_
   refine .sA (.pickT rfl rfl rfl) ?_
   refine .aA (.nil ?_)
   refine .ret ?_
   refine ⟨RetD.eq rfl ?_, trivial⟩
   all_goals (first | rfl | simp)
  replace g3 := of_decide_eq_false g3
  exact absurd rfl g3
 replace g2 := of_decide_eq_false g2
 exact absurd rfl g2

end Go.Proofs.YthcdjmkkgbcaaaaGreatDoor
