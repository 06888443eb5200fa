/- Walks and laws over abstract values, merged by tools/merge.py. No statement of the seat. -/
import Derived.Lib.SliceRun
import Derived.Deep.RegionLaw
import Derived.WalkKit
import Derived.Ground.NamesProg
import Derived.Shelf.SlSortCmp.WholeK
import Derived.Shelf.SlSortCmp.NoneTotal
import Derived.Shelf.SlicesG.Cmp
import Derived.Ground.SlsfProg
import Derived.Ground.SlgcProg
import Derived.Test.YtcfamaddnmnaeaaGreatDoorProg
import Derived.Test.YtcfamaddnmnaeaaGreatDoorZE7
set_option linter.unusedSimpArgs false
set_option linter.unusedVariables false
set_option maxHeartbeats 8000000
set_option maxRecDepth 1000000
open List renaming length_map -> ZlM, getElem?_eq_getElem -> ZgE, getElem?_eq_some_iff -> ZgS, getElem_mem -> ZgM, length_take -> ZlT, getElem_append_left -> ZgL, getElem_map -> ZgP, getElem_append_right -> ZgR, getElem?_take -> ZgT, map_append -> ZmA, length_append -> ZlA, length_drop -> ZlD, mem_singleton -> ZmS, mem_map -> ZmM, getElem?_drop -> ZgO
open Array renaming length_toList -> ZaL
open Nat renaming le_of_ble_eq_true -> ZnB, zero_le -> ZnZ, le_refl -> ZnR
open Bool renaming or_eq_true_iff -> ZbO
namespace Go.Proofs.YtcfamaddnmnaeaaGreatDoor
section
open Go.RowKit Go.Shelf Go.Lib
namespace InsS
theorem et_cpyI : ElemTy Tryz.prog 97 167 4 32 (.agg #[(.int .i64 0), (.int .i64 0), (.int .i64 0), (.int .i64 0)]) := ⟨by kernel_rfl, by kernel_rfl, by kernel_rfl, by decide⟩
theorem insC_end {B : Nat} {w : World} {v : Value} {n vb vcap : Nat} {xs y : List Value} (hown : w.ownsRow B 167 4 v n xs) (hB : B <= w.heap.size) (hb : (n + 1) * 32 <= 140737488355328) (hsl : Sl w 4 (.slice (some ⟨vb, 0, none⟩) 1 vcap) 1 y) (hy1 : ∀ u ∈ y, u.oneCell' = true) :
 Calls Tryz.prog 103 #[v, .int .i64 n, .slice (some ⟨vb, 0, none⟩) 1 vcap] w fun e w' => ∃ v', e = .returned v' /\ InsEndG 167 4 B w v (n + 1) (xs ++ y) v' w' := by
 have HO := Lib.hid hown
 have HS := Lib.hid hsl
 clear hsl
 rcases hown.2 with ⟨rfl, rfl⟩ | ⟨g, cap, cur, rfl, hg, hh, hn, hmx, hcs, htk⟩
 ·clear hown
  go_enter Tryz.func103, Tryz.ntmps103
  go_wp2_with (at_builtin; refine Ya4 et_cpyI _ _ rfl rfl HO.out rfl rfl HS.out hy1 hb (by omega) hB ?_; intro v' w' h1 h2 h3)
  all_goals (go_ret; exact ⟨_, rfl, YbR HO.out h1 h2 h3⟩)
 ·clear hown hh hcs htk
  have hn9 : n <= 9223372036854775807 := by omega
  unfold maxLen at hmx
  by_cases hcn : cap = n
  ·subst hcn
   go_enter Tryz.func103, Tryz.ntmps103
   go_wp2_with (at_builtin; refine Ya4 et_cpyI _ _ rfl rfl HO.out rfl rfl HS.out hy1 hb (by omega) hB ?_; intro v' w' h1 h2 h3)
   all_goals (go_ret; exact ⟨_, rfl, YbR HO.out h1 h2 h3⟩)
  ·skip
   go_enter Tryz.func103, Tryz.ntmps103
   go_wp2_with (at_builtin; refine Ya4 et_cpyI _ _ rfl rfl HO.out rfl rfl HS.out hy1 hb (by omega) hB ?_; intro v' w' h1 h2 h3)
   all_goals (go_ret; exact ⟨_, rfl, YbR HO.out h1 h2 h3⟩)
theorem insC_shift (b n c i vb vc : Nat) (cs vs : List Value) (w : World) (hi : i < n) (hroom : n + 1 <= c) (hc63 : c <= 9223372036854775807) (hvb : vb ≠ b) (hcl : cs.length = n * 4) (hvl : vs.length = 4)
 (hcs : ∀ j v, cs[j]? = some v -> w.cell? ⟨b, j, none⟩ = some v) (hsp : ∀ j, j < (n + 1) * 4 -> (w.cell? ⟨b, j, none⟩).isSome = true) (hfz : ∀ j, w.frozen? ⟨b, j, none⟩ = false)
 (hvs : ∀ j v, vs[j]? = some v -> w.cell? ⟨vb, j, none⟩ = some v) (h1c : ∀ v ∈ cs, v.oneCell' = true) (h1v : ∀ v ∈ vs, v.oneCell' = true)
 (tA tB : TypeId) (kA kB : Nat) (hsa : w.shape? vb = some (tA, kA)) (hsb : w.shape? b = some (tB, kB)) (hkB : kB ≠ 0) (hfa : w.frozen? ⟨vb, 0, none⟩ = false) (hfe : w.frozen? ⟨vb, kA, none⟩ = false) :
 Calls Tryz.prog 103 #[.slice (some ⟨b, 0, none⟩) n c, .int .i64 i, .slice (some ⟨vb, 0, none⟩) 1 vc] w fun e w' =>
  e = .returned (.slice (some ⟨b, 0, none⟩) (n + 1) c) /\ w' = (w.drew.setCells b ((i + 1) * 4) (cs.drop (i * 4))).setCells b (i * 4) vs := by
 have hsz : (Tryz.prog.info? 167).map (·.size) = some 4 := by
  obtain ⟨i0, hi0, h0, h1, h2⟩ := info_parts et_cpyI.hi
  rw [hi0]; simp [h1]
 have hov : ∀ lb cb, (callFunc 140 #[.slice (some ⟨vb, 0, none⟩) 1 vc, .slice (some ⟨b, (i + 1) * 4, none⟩) lb cb]).run Tryz.prog w = .ok (.value (.bool false)) w := fun lb cb => by
  rw [run_callFunc_extern Tryz.func140 (by kernel_rfl) (by kernel_rfl) (by kernel_rfl) (e := Extern.SlicesOverlaps.overlaps #[97, 97] #[4]) (by kernel_rfl),
   Lib.run_overlaps_apart w 97 4 167 et_cpyI.ht 4 et_cpyI.sizeOf ⟨vb, 0, none⟩ ⟨b, (i + 1) * 4, none⟩ 1 vc lb cb hvb tA tB kA kB hsa hsb hkB hfa hfe]
  rfl
 have hdl : (cs.drop (i * 4)).length = (n - i) * 4 := by rw [ZlD, hcl]; omega
 have hw1 : IntKind.i64.wrap ((i : Int) + 1) = (i : Int) + 1 := by rw [IntKind.wrap_i64]; omega
 have hw2 : IntKind.i64.wrap ((n : Int) + 1) = (n : Int) + 1 := by rw [IntKind.wrap_i64]; omega
 have hz2 : ¬ ((i : Int) = (n : Int)) := by omega
 have hb1 : (0 : Int) <= (i : Int) + 1 := by omega
 have hin : i <= n := by omega
 have htn : ((i : Int) + 1).toNat = i + 1 := by omega
 have hb2 : ¬ (c = i + 1) := by omega
 have hb3 : (i : Int) <= (n : Int) + 1 := by omega
 have hb4 : ¬ (c = i) := by omega
 have hcp1 : ∀ ty dc sc, (Builtin.copy_ #[97, 97] ty #[.slice (some ⟨b, (i + 1) * 4, none⟩) (n - i) dc, .slice (some ⟨b, i * 4, none⟩) (n + 1 - i) sc]).run Tryz.prog w.drew = .ok (goInt (Nat.min (n + 1 - i) (n - i))) (w.drew.setCells b ((i + 1) * 4) (cs.drop (i * 4))) := fun ty dc sc =>
  Ya5 w.drew _ _ ty 167 4 b ((i + 1) * 4) (n - i) dc ⟨b, i * 4, none⟩ (n + 1 - i) sc (cs.drop (i * 4)) et_cpyI.ht hsz (by rw [hdl]; simp only [Nat.min_def]; split <;> omega)
   (fun j v hj => by rw [Addr.add_lit]; exact hcs (i * 4 + j) v (by rwa [ZgO] at hj))
   (fun j hj => hsp _ (by omega)) (fun j hj => hfz _) (fun v hv => h1c v (List.mem_of_mem_drop hv))
 obtain ⟨W1, hW1⟩ : ∃ W1, W1 = w.drew.setCells b ((i + 1) * 4) (cs.drop (i * 4)) := ⟨_, rfl⟩
 have hsp1 : ∀ k, k < (n + 1) * 4 -> (W1.cell? ⟨b, k, none⟩).isSome = true := fun k hk => by
  rw [hW1]
  exact isSome_setCells b (cs.drop (i * 4)) ((i + 1) * 4) w.drew (fun j hj => hsp ((i + 1) * 4 + j) (by omega)) k (hsp k hk)
 have hcp2 : ∀ (W : World), (∀ x, W.cell? x = W1.cell? x) -> (∀ x, W.frozen? x = W1.frozen? x) -> ∀ ty dc, (Builtin.copy_ #[97, 97] ty #[.slice (some ⟨b, i * 4, none⟩) (n + 1 - i) dc, .slice (some ⟨vb, 0, none⟩) 1 vc]).run Tryz.prog W = .ok (goInt (Nat.min 1 (n + 1 - i))) (W.setCells b (i * 4) vs) := fun W hWc hWf ty dc =>
  Ya5 W _ _ ty 167 4 b (i * 4) (n + 1 - i) dc ⟨vb, 0, none⟩ 1 vc vs et_cpyI.ht hsz (by rw [hvl]; simp only [Nat.min_def]; split <;> omega)
   (fun j v hj => by
    rw [Addr.add_lit, hWc, hW1, World.cell?_setCells_out b _ _ _ _ (fun h _ => absurd h hvb), Nat.zero_add]
    exact hvs j v hj)
   (fun j hj => by rw [hWc]; exact hsp1 _ (by omega)) (fun j hj => by rw [hWf, hW1, World.frozen?_setCells]; exact hfz _) h1v
 rw [<- hW1] at hcp1
 go_enter Tryz.func103, Tryz.ntmps103
 go_wp2_with (simp only [hov])
 go_region_law (refine step_copy_runI rfl _ _ 97 97 rfl _ _ (by simp [Act.eval, Act.put]) (by simp [Act.eval, Act.put]) (hcp1 _ _ _) ?_)
 go_wp2_with (at_builtin; refine wpList_copy_runI _ rfl _ _ 97 97 rfl _ _ rfl rfl (hcp2 _ (fun _ => rfl) (fun _ => rfl) _ _) ?_)
 go_ret
 first | exact ⟨rfl, rfl⟩ | exact ⟨rfl, by rw [hW1]⟩
def zcpyV : Value := (Value.agg #[(.int .i64 0), (.int .i64 0), (.int .i64 0), (.int .i64 0)])
theorem zeros7 (k : Nat) : (Builtin.zeroCells zcpyV.cells k).size = k * 4 := by simp [Builtin.zeroCells, Value.cells, zcpyV]
theorem insC_grow (b n c i vb vc : Nat) (cs vs : List Value) (w : World) (hi : i < n) (hnc : n <= c) (hroom : c < n + 1) (hbig : (n + 1) * 32 <= 140737488355328) (hcl : cs.length = n * 4) (hvl : vs.length = 4)
 (hcs : ∀ j v, cs[j]? = some v -> w.cell? ⟨b, j, none⟩ = some v)
 (hvs : ∀ j v, vs[j]? = some v -> w.cell? ⟨vb, j, none⟩ = some v) (h1c : ∀ v ∈ cs, v.oneCell' = true) (h1v : ∀ v ∈ vs, v.oneCell' = true) :
 Calls Tryz.prog 103 #[.slice (some ⟨b, 0, none⟩) n c, .int .i64 i, .slice (some ⟨vb, 0, none⟩) 1 vc] w fun e w' =>
  e = .returned (.slice (some ⟨w.heap.size, 0, none⟩) (n + 1) (grownCap w (n + 1) c 167)) /\
  w' = (((w.alloc (.cells ((cs.take (i * 4)).toArray ++ Builtin.zeroCells zcpyV.cells (n + 1 - i) ++ Builtin.zeroCells zcpyV.cells (grownCap w (n + 1) c 167 - (n + 1))) 167)).drew.setCells w.heap.size (i * 4) vs).drew).setCells w.heap.size ((i + 1) * 4) (cs.drop (i * 4)) := by
 obtain ⟨i0, hi0, hz0, hzs, hzb⟩ := info_parts et_cpyI.hi
 have hz0 : i0.zero = some zcpyV := hz0
 have htI : Tryz.prog.underlying 3 = some (.int .i64) := by kernel_rfl
 have hz2 : ¬ ((i : Int) = (n : Int)) := by omega
 have hz3 : (c : Int) < (n : Int) + 1 := by omega
 have hsz : (Tryz.prog.info? 167).map (·.size) = some 4 := by rw [hi0]; simp [hzs]
 have hbw : b < w.heap.size := block_lt_of_cell (hcs 0 _ (ZgE (by omega)))
 have hvw : vb < w.heap.size := block_lt_of_cell (hvs 0 _ (ZgE (by omega)))
 have hkk : (n : Int) + 1 - (i : Int) = ((n + 1 - i : Nat) : Int) := by omega
 have hik : i + (n + 1 - i) = n + 1 := by omega
 have hold : (Builtin.firstCells i0.size i (.slice (some ⟨b, 0, none⟩) i c)).run Tryz.prog w.drew = .ok (cs.take (i * 4)).toArray w.drew := by
  rw [hzs]
  exact run_firstCells_some w.drew 4 i ⟨b, 0, none⟩ i c (cs.take (i * 4)) (by rw [ZlT]; omega) (fun j v hj => by
   rw [Addr.add_lit]
   rw [ZgT] at hj
   split at hj
   ·rw [Nat.zero_add]; exact hcs j v hj
   ·cases hj)
 have hrz : ∀ ty, (Builtin.append_ #[97, 3] ty #[.slice (some ⟨b, 0, none⟩) i c, .int .i64 ((n : Int) + 1 - (i : Int))]).run Tryz.prog w =
  .ok (.slice (some ⟨w.heap.size, 0, none⟩) (n + 1) (grownCap w (n + 1) c 167)) (w.drew.alloc (.cells ((cs.take (i * 4)).toArray ++ Builtin.zeroCells zcpyV.cells (n + 1 - i) ++ Builtin.zeroCells zcpyV.cells (grownCap w (n + 1) c 167 - (n + 1))) 167)) := fun ty => by
  have h := Lib.run_append_grow_zeros w 97 3 ty 167 i0 _ .i64 .i64 et_cpyI.ht htI hi0 hz0 (some ⟨b, 0, none⟩) i c (cs.take (i * 4)) hold (n + 1 - i) (by omega) (by omega) (by omega) (by omega) (by rw [hzb]; omega) (by rw [hzb, hik]; exact growslice_fits hroom hbig)
  rw [hik] at h
  rw [hkk]
  exact h
 obtain ⟨G, hG⟩ : ∃ G, G = grownCap w (n + 1) c 167 := ⟨_, rfl⟩
 obtain ⟨ROW, hROW⟩ : ∃ ROW : Array Value, ROW = (cs.take (i * 4)).toArray ++ Builtin.zeroCells zcpyV.cells (n + 1 - i) ++ Builtin.zeroCells zcpyV.cells (G - (n + 1)) := ⟨_, rfl⟩
 rw [<- hG] at hrz ⊢
 rw [<- hROW] at hrz ⊢
 have hRl : (n + 1) * 4 <= ROW.size := by
  rw [hROW]
  simp only [Array.size_append, zeros7, List.size_toArray, ZlT]
  omega
 obtain ⟨W1, hW1⟩ : ∃ W1, W1 = w.drew.alloc (.cells ROW 167) := ⟨_, rfl⟩
 rw [<- hW1] at hrz
 have hN : ∀ j, j < (n + 1) * 4 -> (W1.cell? ⟨w.heap.size, j, none⟩).isSome = true := fun j hj => by
  rw [hW1, World.cell?_alloc_at (w := w.drew) ROW _ w.heap.size j rfl, Array.getElem?_eq_getElem (by omega)]; rfl
 have hNf : ∀ j, W1.frozen? ⟨w.heap.size, j, none⟩ = false := fun j => by rw [hW1]; exact World.frozen?_alloc_at (w := w.drew) ROW _ w.heap.size j rfl
 have hOb : ∀ j v, w.cell? ⟨b, j, none⟩ = some v -> W1.cell? ⟨b, j, none⟩ = some v := fun j v h => by rw [hW1, World.cell?_alloc_past (w := w.drew) _ b j hbw]; exact h
 have hOv : ∀ j v, w.cell? ⟨vb, j, none⟩ = some v -> W1.cell? ⟨vb, j, none⟩ = some v := fun j v h => by rw [hW1, World.cell?_alloc_past (w := w.drew) _ vb j hvw]; exact h
 have hcpA : ∀ (W : World), (∀ x, W.cell? x = W1.cell? x) -> (∀ x, W.frozen? x = W1.frozen? x) -> ∀ ty dc, (Builtin.copy_ #[97, 97] ty #[.slice (some ⟨w.heap.size, i * 4, none⟩) (n + 1 - i) dc, .slice (some ⟨vb, 0, none⟩) 1 vc]).run Tryz.prog W = .ok (goInt (Nat.min 1 (n + 1 - i))) (W.setCells w.heap.size (i * 4) vs) := fun W hWc hWf ty dc =>
  Ya5 W _ _ ty 167 4 w.heap.size (i * 4) (n + 1 - i) dc ⟨vb, 0, none⟩ 1 vc vs et_cpyI.ht hsz (by rw [hvl]; simp only [Nat.min_def]; split <;> omega)
   (fun j v hj => by rw [Addr.add_lit, hWc, Nat.zero_add]; exact hOv _ v (hvs j v hj))
   (fun j hj => by rw [hWc]; exact hN _ (by omega)) (fun j hj => by rw [hWf]; exact hNf _) h1v
 have hGn : n + 1 <= G := by rw [hG]; exact grownCap_ge w _ _ _
 have hG63 : G <= 9223372036854775807 := by
  have := grownCap_le_maxLen w (n + 1) c 167 (by unfold maxLen; omega)
  rw [<- hG] at this
  unfold maxLen at this
  omega
 have hGi : ¬ (G = i) := by omega
 have hGim : ¬ (G = i + 1) := by omega
 have hci : ¬ (c = i) := by omega
 have hbN : b ≠ w.heap.size := by omega
 have hdl : (cs.drop (i * 4)).length = (n - i) * 4 := by rw [ZlD, hcl]; omega
 have hcpB : ∀ (W : World), (∀ x, W.cell? x = (W1.setCells w.heap.size (i * 4) vs).cell? x) -> (∀ x, W.frozen? x = (W1.setCells w.heap.size (i * 4) vs).frozen? x) -> ∀ ty dc sc, (Builtin.copy_ #[97, 97] ty #[.slice (some ⟨w.heap.size, (i + 1) * 4, none⟩) (n - i) dc, .slice (some ⟨b, i * 4, none⟩) (n - i) sc]).run Tryz.prog W = .ok (goInt (Nat.min (n - i) (n - i))) (W.setCells w.heap.size ((i + 1) * 4) (cs.drop (i * 4))) := fun W hWc hWf ty dc sc =>
  Ya5 W _ _ ty 167 4 w.heap.size ((i + 1) * 4) (n - i) dc ⟨b, i * 4, none⟩ (n - i) sc (cs.drop (i * 4)) et_cpyI.ht hsz (by rw [hdl]; simp only [Nat.min_def]; split <;> omega)
   (fun j v hj => by
    rw [Addr.add_lit, hWc, World.cell?_setCells_out _ _ _ _ _ (fun h _ => absurd h hbN)]
    exact hOb _ v (hcs (i * 4 + j) v (by rwa [ZgO] at hj)))
   (fun j hj => by rw [hWc]; exact isSome_setCells w.heap.size vs (i * 4) W1 (fun t ht => hN _ (by omega)) _ (hN _ (by omega)))
   (fun j hj => by rw [hWf, World.frozen?_setCells]; exact hNf _) (fun v hv => h1c v (List.mem_of_mem_drop hv))
 subst hW1
 have hE1 : ∀ x, ((w.alloc (.cells ROW 167)).drew).cell? x = (w.drew.alloc (.cells ROW 167)).cell? x := fun x => rfl
 have hE2 : ∀ x, ((w.alloc (.cells ROW 167)).drew).frozen? x = (w.drew.alloc (.cells ROW 167)).frozen? x := fun x => rfl
 have hF1 : ∀ x, (((w.alloc (.cells ROW 167)).drew.setCells w.heap.size (i * 4) vs).drew).cell? x = ((w.drew.alloc (.cells ROW 167)).setCells w.heap.size (i * 4) vs).cell? x := fun x => rfl
 have hF2 : ∀ x, (((w.alloc (.cells ROW 167)).drew.setCells w.heap.size (i * 4) vs).drew).frozen? x = ((w.drew.alloc (.cells ROW 167)).setCells w.heap.size (i * 4) vs).frozen? x := fun x => rfl
 have hw1 : IntKind.i64.wrap ((i : Int) + 1) = (i : Int) + 1 := by rw [IntKind.wrap_i64]; omega
 have hb1 : (0 : Int) <= (i : Int) + 1 := by omega
 have hin : i <= n := by omega
 have htn : ((i : Int) + 1).toNat = i + 1 := by omega
 have hb3 : (i : Int) <= (n : Int) := by omega
 clear hkk hik hold hROW hG hRl
 go_enter Tryz.func103, Tryz.ntmps103
 go_wp2_with (first
  | (at_builtin; refine Lib.wpList_append_run _ rfl _ _ _ _ rfl _ _ rfl rfl _ _ (hrz _) ?_)
  | (at_builtin; refine wpList_copy_runI _ rfl _ _ 97 97 rfl _ _ rfl rfl (hcpA _ hE1 hE2 _ _) ?_)
  | (at_builtin; refine wpList_copy_runI _ rfl _ _ 97 97 rfl _ _ rfl rfl (hcpB _ (fun _ => rfl) (fun _ => rfl) _ _ _) ?_))
 go_region_law (refine step_copy_runI rfl _ _ 97 97 rfl (.slice (some ⟨w.heap.size, (i + 1) * 4, none⟩) (n - i) (G - (i + 1))) (.slice (some ⟨b, i * 4, none⟩) (n - i) (c - i)) (by simp [Act.eval, Act.put]) (by simp [Act.eval, Act.put]) (hcpB _ hF1 hF2 3 (G - (i + 1)) (c - i)) ?_)
 go_wp2
 go_ret
 exact ⟨J, J⟩
theorem own_allocC {w : World} {B n cap : Nat} {ys : List Value} {A : Array Value} (hB : B <= w.heap.size) (hn : ys.length = n * 4) (hc : n <= cap) (hm : cap <= maxLen) (hA : A.size = cap * 4) (hy : A.toList.take (n * 4) = ys) {w' : World} (hw : w'.heap[w.heap.size]? = some (.cells A 167 (0, 0))) :
 w'.ownsRow B 167 4 (.slice (some ⟨w.heap.size, 0, none⟩) n cap) n ys :=
 ⟨hn, .inr ⟨w.heap.size, cap, A, rfl, hB, hw, hc, hm, hA, hy⟩⟩
theorem insC_calls {B : Nat} {w : World} {v : Value} {n i vb vcap : Nat} {xs y : List Value} {ecur : Array Value} {ety : TypeId} (hown : w.ownsRow B 167 4 v n xs) (hxs : ∀ u ∈ xs, u.oneCell' = true) (hi : i <= n) (hB : B <= w.heap.size) (hb : (n + 1) * 32 <= 140737488355328)
 (hvb : w.heap[vb]? = some (.cells ecur ety (0, 0))) (hvc : 1 <= vcap /\ vcap <= 9223372036854775807) (hyl : y.length = 4) (hye : ecur.toList.take 4 = y) (hy1 : ∀ u ∈ y, u.oneCell' = true) (hne : blk v ≠ some vb) :
 Calls Tryz.prog 103 #[v, .int .i64 i, .slice (some ⟨vb, 0, none⟩) 1 vcap] w fun e w' => ∃ v', e = .returned v' /\ InsEndG 167 4 B w v (n + 1) (xs.take (i * 4) ++ y ++ xs.drop (i * 4)) v' w' := by
 have hxl : xs.length = n * 4 := hown.1
 have hG : n + 1 <= maxLen := by unfold maxLen; omega
 have hvs : ∀ j u, y[j]? = some u -> w.cell? ⟨vb, j, none⟩ = some u := fun j u hj => by
  rw [cell_of_row w vb j ecur ety (0, 0) hvb, <- Array.getElem?_toList]
  rw [<- hye, ZgT] at hj
  split at hj
  ·exact hj
  ·cases hj
 have hsl : Sl w 4 (.slice (some ⟨vb, 0, none⟩) 1 vcap) 1 y := ⟨by rw [hyl], .inr ⟨⟨vb, 0, none⟩, vcap, rfl, hvc.1, hvc.2, fun q hq => by
  rw [YaU, Nat.zero_add]
  exact hvs q _ (ZgE hq)⟩⟩
 by_cases hend : i = n
 ·subst hend
  rw [List.take_of_length_le (by omega), List.drop_eq_nil_of_le (by omega), List.append_nil]
  exact insC_end hown hB hb hsl hy1
 have hlt : i < n := by omega
 rcases hown.2 with ⟨rfl, h0⟩ | ⟨g, cap, cur, rfl, hg, hh, hn, hmx, hcs, htk⟩
 ·omega
 have hlen : (xs.take (i * 4) ++ y ++ xs.drop (i * 4)).length = (n + 1) * 4 := by simp; omega
 have hcl : cur.toList.length = cap * 4 := by rw [ZaL, hcs]
 have hget : ∀ k, k < n * 4 -> cur.toList[k]? = xs[k]? := fun k hk => by rw [<- htk, ZgT, if_pos hk]
 have hcell : ∀ k, w.cell? ⟨g, k, none⟩ = cur[k]? := fun k => by rw [cell_of_row w g k cur 167 (0, 0) hh]
 have hcells : ∀ j u, xs[j]? = some u -> w.cell? ⟨g, j, none⟩ = some u := fun j u hj => by
  have hjl := (ZgS.1 hj).1
  rw [hcell, <- hj, <- hget j (by omega), Array.getElem?_toList]
 have hsome : ∀ j, j < cap * 4 -> (w.cell? ⟨g, j, none⟩).isSome = true := fun j hj => by
  rw [hcell, Array.getElem?_eq_getElem (by omega)]; rfl
 have hfz : ∀ k, w.frozen? ⟨g, k, none⟩ = false := fun k => by unfold World.frozen?; rw [hh]; simp
 have hfv : ∀ k, w.frozen? ⟨vb, k, none⟩ = false := fun k => by unfold World.frozen?; rw [hvb]; simp
 have hmx' : cap <= 9223372036854775807 := by unfold maxLen at hmx; omega
 by_cases hroom : n + 1 <= cap
 ·refine (insC_shift g n cap i vb vcap xs y w hlt hroom hmx' (fun h => hne (by rw [h]; rfl)) hxl hyl hcells (fun j hj => hsome _ (by omega)) hfz hvs hxs hy1 ety 167 ecur.size cur.size (by unfold World.shape?; rw [hvb]) (by unfold World.shape?; rw [hh]) (by omega) (hfv _) (hfv _)).mono ?_
  rintro e w' ⟨rfl, rfl⟩
  have hs1 := YaA (g := g) (e := 167) (xs.drop (i * 4)) ((i + 1) * 4) w.drew cur.toList (by rw [Array.toArray_toList]; exact hh) (by simp; omega)
  have hs := YaA (g := g) (e := 167) y (i * 4) _ _ hs1 (by simp; omega)
  refine ⟨_, J, ⟨hlen, .inr ⟨g, cap, _, J, hg, hs, hroom, hmx, ?_, ?_⟩⟩, ((Yb1 w _).trans (Yaz g _ _ _)).trans (Yaz g _ _ _), fun g' hg' => .inl hg'⟩
  ·simp; omega
  ·rw [show (n + 1) * 4 = n * 4 + 4 by omega]
   refine ins_takeS hxl (by omega) hyl (fun k hk => ?_) (fun k hk => ?_) (fun k h1 h2 => ?_)
   ·rw [get3]
    simp only [ZlT, ZlA, ZlD, hcl, hxl]
    rw [if_pos (by omega), ZgT, if_pos hk, get3]
    simp only [ZlT, hcl]
    rw [if_pos (by omega), ZgT, if_pos (by omega), hget k (by omega)]
   ·rw [get3]
    simp only [ZlT, ZlA, ZlD, hcl, hxl]
    rw [if_neg (by omega), if_pos (by omega)]
    congr 1
    omega
   ·rw [get3]
    simp only [ZlT, ZlA, ZlD, hcl, hxl, hyl]
    rw [if_neg (by omega), if_neg (by omega), ZgO, get3]
    simp only [ZlT, ZlD, hcl, hxl]
    rw [if_neg (by omega), if_pos (by omega), ZgO]
    congr 1
    omega
 ·refine (insC_grow g n cap i vb vcap xs y w hlt hn (by omega) hb hxl hyl hcells hvs hxs hy1).mono ?_
  rintro e w' ⟨rfl, rfl⟩
  have hge := grownCap_ge w (n + 1) cap 167
  have hle := grownCap_le_maxLen w (n + 1) cap 167 hG
  generalize grownCap w (n + 1) cap 167 = G at hge hle
  have h0 := alloc_at w (.cells ((xs.take (i * 4)).toArray ++ Builtin.zeroCells zcpyV.cells (n + 1 - i) ++ Builtin.zeroCells zcpyV.cells (G - (n + 1))) 167 (0, 0))
  generalize hA : (xs.take (i * 4)).toArray ++ Builtin.zeroCells zcpyV.cells (n + 1 - i) ++ Builtin.zeroCells zcpyV.cells (G - (n + 1)) = A at h0
  have hAs : A.size = G * 4 := by rw [<- hA]; simp only [Array.size_append, zeros7, List.size_toArray, ZlT]; omega
  have hAg : ∀ k, k < i * 4 -> A.toList[k]? = xs[k]? := fun k hk => by
   rw [<- hA]
   simp only [Array.toList_append]
   rw [List.append_assoc, List.getElem?_append_left (by simp; omega)]
   simp only [ZgT]
   rw [if_pos hk]
  have hs1 := YaA (g := w.heap.size) (e := 167) y (i * 4) (w.alloc (.cells A 167 (0, 0))).drew A.toList (by rw [Array.toArray_toList]; exact h0) (by simp; omega)
  have hs := YaA (g := w.heap.size) (e := 167) (xs.drop (i * 4)) ((i + 1) * 4) (((w.alloc (.cells A 167 (0, 0))).drew.setCells w.heap.size (i * 4) y).drew) (A.toList.take (i * 4) ++ y ++ A.toList.drop (i * 4 + y.length)) hs1 (by simp; omega)
  refine ⟨_, J, own_allocC hB hlen hge hle ?_ ?_ hs, ?_, fun g' hg' => .inr ?_⟩
  ·simp; omega
  ·rw [show (n + 1) * 4 = n * 4 + 4 by omega]
   refine ins_takeS hxl (by omega) hyl (fun k hk => ?_) (fun k hk => ?_) (fun k h1 h2 => ?_)
   ·rw [get3]
    simp only [ZlT, ZlA, ZlD, ZaL, hAs, hxl, hyl]
    rw [if_pos (by omega), ZgT, if_pos (by omega), get3]
    simp only [ZlT, ZaL, hAs]
    rw [if_pos (by omega), ZgT, if_pos hk, hAg k hk]
   ·rw [get3]
    simp only [ZlT, ZlA, ZlD, ZaL, hAs, hxl, hyl]
    rw [if_pos (by omega), ZgT, if_pos (by omega), get3]
    simp only [ZlT, ZaL, hAs]
    rw [if_neg (by omega), if_pos (by omega)]
    congr 1
    omega
   ·rw [get3]
    simp only [ZlT, ZlA, ZlD, ZaL, hAs, hxl, hyl]
    rw [if_neg (by omega), if_pos (by omega), ZgO]
    congr 1
    omega
  ·have k1 := Turn.behind (alloc_turn w (.cells A 167 (0, 0)) (some g)) (ZnR _) ((Yb1 _ _).trans (Yaz w.heap.size y (i * 4) _))
   exact Turn.behind k1 (ZnR _) ((Yb1 _ _).trans (Yaz w.heap.size (xs.drop (i * 4)) ((i + 1) * 4) _))
  ·simp [blk] at hg'; omega
theorem insT : InsT Tryz.prog 103 167 4 32 := ⟨Enters.of Tryz.func103 rfl rfl, fun h1 h2 h3 h4 h5 h6 h7 h8 h9 h10 h11 => insC_calls h1 h2 h3 h4 h5 h6 h7 h8 h9 h10 h11⟩
end InsS
namespace InsH
theorem et_cpyI : ElemTy Tryz.prog 38 105 3 32 (.agg #[(.string ⟨#[]⟩), (.int .i64 0), (.int .i64 0)]) := ⟨by kernel_rfl, by kernel_rfl, by kernel_rfl, by decide⟩
theorem insC_end {B : Nat} {w : World} {v : Value} {n vb vcap : Nat} {xs y : List Value} (hown : w.ownsRow B 105 3 v n xs) (hB : B <= w.heap.size) (hb : (n + 1) * 32 <= 140737488355328) (hsl : Sl w 3 (.slice (some ⟨vb, 0, none⟩) 1 vcap) 1 y) (hy1 : ∀ u ∈ y, u.oneCell' = true) :
 Calls Tryz.prog 106 #[v, .int .i64 n, .slice (some ⟨vb, 0, none⟩) 1 vcap] w fun e w' => ∃ v', e = .returned v' /\ InsEndG 105 3 B w v (n + 1) (xs ++ y) v' w' := by
 have HO := Lib.hid hown
 have HS := Lib.hid hsl
 clear hsl
 rcases hown.2 with ⟨rfl, rfl⟩ | ⟨g, cap, cur, rfl, hg, hh, hn, hmx, hcs, htk⟩
 ·clear hown
  go_enter Tryz.func106, Tryz.ntmps106
  go_wp2_with (at_builtin; refine Ya4 et_cpyI _ _ rfl rfl HO.out rfl rfl HS.out hy1 hb (by omega) hB ?_; intro v' w' h1 h2 h3)
  all_goals (go_ret; exact ⟨_, rfl, YbR HO.out h1 h2 h3⟩)
 ·clear hown hh hcs htk
  have hn9 : n <= 9223372036854775807 := by omega
  unfold maxLen at hmx
  by_cases hcn : cap = n
  ·subst hcn
   go_enter Tryz.func106, Tryz.ntmps106
   go_wp2_with (at_builtin; refine Ya4 et_cpyI _ _ rfl rfl HO.out rfl rfl HS.out hy1 hb (by omega) hB ?_; intro v' w' h1 h2 h3)
   all_goals (go_ret; exact ⟨_, rfl, YbR HO.out h1 h2 h3⟩)
  ·skip
   go_enter Tryz.func106, Tryz.ntmps106
   go_wp2_with (at_builtin; refine Ya4 et_cpyI _ _ rfl rfl HO.out rfl rfl HS.out hy1 hb (by omega) hB ?_; intro v' w' h1 h2 h3)
   all_goals (go_ret; exact ⟨_, rfl, YbR HO.out h1 h2 h3⟩)
theorem insC_shift (b n c i vb vc : Nat) (cs vs : List Value) (w : World) (hi : i < n) (hroom : n + 1 <= c) (hc63 : c <= 9223372036854775807) (hvb : vb ≠ b) (hcl : cs.length = n * 3) (hvl : vs.length = 3)
 (hcs : ∀ j v, cs[j]? = some v -> w.cell? ⟨b, j, none⟩ = some v) (hsp : ∀ j, j < (n + 1) * 3 -> (w.cell? ⟨b, j, none⟩).isSome = true) (hfz : ∀ j, w.frozen? ⟨b, j, none⟩ = false)
 (hvs : ∀ j v, vs[j]? = some v -> w.cell? ⟨vb, j, none⟩ = some v) (h1c : ∀ v ∈ cs, v.oneCell' = true) (h1v : ∀ v ∈ vs, v.oneCell' = true)
 (tA tB : TypeId) (kA kB : Nat) (hsa : w.shape? vb = some (tA, kA)) (hsb : w.shape? b = some (tB, kB)) (hkB : kB ≠ 0) (hfa : w.frozen? ⟨vb, 0, none⟩ = false) (hfe : w.frozen? ⟨vb, kA, none⟩ = false) :
 Calls Tryz.prog 106 #[.slice (some ⟨b, 0, none⟩) n c, .int .i64 i, .slice (some ⟨vb, 0, none⟩) 1 vc] w fun e w' =>
  e = .returned (.slice (some ⟨b, 0, none⟩) (n + 1) c) /\ w' = (w.drew.setCells b ((i + 1) * 3) (cs.drop (i * 3))).setCells b (i * 3) vs := by
 have hsz : (Tryz.prog.info? 105).map (·.size) = some 3 := by
  obtain ⟨i0, hi0, h0, h1, h2⟩ := info_parts et_cpyI.hi
  rw [hi0]; simp [h1]
 have hov : ∀ lb cb, (callFunc 142 #[.slice (some ⟨vb, 0, none⟩) 1 vc, .slice (some ⟨b, (i + 1) * 3, none⟩) lb cb]).run Tryz.prog w = .ok (.value (.bool false)) w := fun lb cb => by
  rw [run_callFunc_extern Tryz.func142 (by kernel_rfl) (by kernel_rfl) (by kernel_rfl) (e := Extern.SlicesOverlaps.overlaps #[38, 38] #[4]) (by kernel_rfl),
   Lib.run_overlaps_apart w 38 4 105 et_cpyI.ht 3 et_cpyI.sizeOf ⟨vb, 0, none⟩ ⟨b, (i + 1) * 3, none⟩ 1 vc lb cb hvb tA tB kA kB hsa hsb hkB hfa hfe]
  rfl
 have hdl : (cs.drop (i * 3)).length = (n - i) * 3 := by rw [ZlD, hcl]; omega
 have hw1 : IntKind.i64.wrap ((i : Int) + 1) = (i : Int) + 1 := by rw [IntKind.wrap_i64]; omega
 have hw2 : IntKind.i64.wrap ((n : Int) + 1) = (n : Int) + 1 := by rw [IntKind.wrap_i64]; omega
 have hz2 : ¬ ((i : Int) = (n : Int)) := by omega
 have hb1 : (0 : Int) <= (i : Int) + 1 := by omega
 have hin : i <= n := by omega
 have htn : ((i : Int) + 1).toNat = i + 1 := by omega
 have hb2 : ¬ (c = i + 1) := by omega
 have hb3 : (i : Int) <= (n : Int) + 1 := by omega
 have hb4 : ¬ (c = i) := by omega
 have hcp1 : ∀ ty dc sc, (Builtin.copy_ #[38, 38] ty #[.slice (some ⟨b, (i + 1) * 3, none⟩) (n - i) dc, .slice (some ⟨b, i * 3, none⟩) (n + 1 - i) sc]).run Tryz.prog w.drew = .ok (goInt (Nat.min (n + 1 - i) (n - i))) (w.drew.setCells b ((i + 1) * 3) (cs.drop (i * 3))) := fun ty dc sc =>
  Ya5 w.drew _ _ ty 105 3 b ((i + 1) * 3) (n - i) dc ⟨b, i * 3, none⟩ (n + 1 - i) sc (cs.drop (i * 3)) et_cpyI.ht hsz (by rw [hdl]; simp only [Nat.min_def]; split <;> omega)
   (fun j v hj => by rw [Addr.add_lit]; exact hcs (i * 3 + j) v (by rwa [ZgO] at hj))
   (fun j hj => hsp _ (by omega)) (fun j hj => hfz _) (fun v hv => h1c v (List.mem_of_mem_drop hv))
 obtain ⟨W1, hW1⟩ : ∃ W1, W1 = w.drew.setCells b ((i + 1) * 3) (cs.drop (i * 3)) := ⟨_, rfl⟩
 have hsp1 : ∀ k, k < (n + 1) * 3 -> (W1.cell? ⟨b, k, none⟩).isSome = true := fun k hk => by
  rw [hW1]
  exact isSome_setCells b (cs.drop (i * 3)) ((i + 1) * 3) w.drew (fun j hj => hsp ((i + 1) * 3 + j) (by omega)) k (hsp k hk)
 have hcp2 : ∀ (W : World), (∀ x, W.cell? x = W1.cell? x) -> (∀ x, W.frozen? x = W1.frozen? x) -> ∀ ty dc, (Builtin.copy_ #[38, 38] ty #[.slice (some ⟨b, i * 3, none⟩) (n + 1 - i) dc, .slice (some ⟨vb, 0, none⟩) 1 vc]).run Tryz.prog W = .ok (goInt (Nat.min 1 (n + 1 - i))) (W.setCells b (i * 3) vs) := fun W hWc hWf ty dc =>
  Ya5 W _ _ ty 105 3 b (i * 3) (n + 1 - i) dc ⟨vb, 0, none⟩ 1 vc vs et_cpyI.ht hsz (by rw [hvl]; simp only [Nat.min_def]; split <;> omega)
   (fun j v hj => by
    rw [Addr.add_lit, hWc, hW1, World.cell?_setCells_out b _ _ _ _ (fun h _ => absurd h hvb), Nat.zero_add]
    exact hvs j v hj)
   (fun j hj => by rw [hWc]; exact hsp1 _ (by omega)) (fun j hj => by rw [hWf, hW1, World.frozen?_setCells]; exact hfz _) h1v
 rw [<- hW1] at hcp1
 go_enter Tryz.func106, Tryz.ntmps106
 go_wp2_with (simp only [hov])
 go_region_law (refine step_copy_runI rfl _ _ 38 38 rfl _ _ (by simp [Act.eval, Act.put]) (by simp [Act.eval, Act.put]) (hcp1 _ _ _) ?_)
 go_wp2_with (at_builtin; refine wpList_copy_runI _ rfl _ _ 38 38 rfl _ _ rfl rfl (hcp2 _ (fun _ => rfl) (fun _ => rfl) _ _) ?_)
 go_ret
 first | exact ⟨rfl, rfl⟩ | exact ⟨rfl, by rw [hW1]⟩
def zcpyV : Value := (Value.agg #[(.string ⟨#[]⟩), (.int .i64 0), (.int .i64 0)])
theorem zeros7 (k : Nat) : (Builtin.zeroCells zcpyV.cells k).size = k * 3 := by simp [Builtin.zeroCells, Value.cells, zcpyV]
theorem insC_grow (b n c i vb vc : Nat) (cs vs : List Value) (w : World) (hi : i < n) (hnc : n <= c) (hroom : c < n + 1) (hbig : (n + 1) * 32 <= 140737488355328) (hcl : cs.length = n * 3) (hvl : vs.length = 3)
 (hcs : ∀ j v, cs[j]? = some v -> w.cell? ⟨b, j, none⟩ = some v)
 (hvs : ∀ j v, vs[j]? = some v -> w.cell? ⟨vb, j, none⟩ = some v) (h1c : ∀ v ∈ cs, v.oneCell' = true) (h1v : ∀ v ∈ vs, v.oneCell' = true) :
 Calls Tryz.prog 106 #[.slice (some ⟨b, 0, none⟩) n c, .int .i64 i, .slice (some ⟨vb, 0, none⟩) 1 vc] w fun e w' =>
  e = .returned (.slice (some ⟨w.heap.size, 0, none⟩) (n + 1) (grownCap w (n + 1) c 105)) /\
  w' = (((w.alloc (.cells ((cs.take (i * 3)).toArray ++ Builtin.zeroCells zcpyV.cells (n + 1 - i) ++ Builtin.zeroCells zcpyV.cells (grownCap w (n + 1) c 105 - (n + 1))) 105)).drew.setCells w.heap.size (i * 3) vs).drew).setCells w.heap.size ((i + 1) * 3) (cs.drop (i * 3)) := by
 obtain ⟨i0, hi0, hz0, hzs, hzb⟩ := info_parts et_cpyI.hi
 have hz0 : i0.zero = some zcpyV := hz0
 have htI : Tryz.prog.underlying 3 = some (.int .i64) := by kernel_rfl
 have hz2 : ¬ ((i : Int) = (n : Int)) := by omega
 have hz3 : (c : Int) < (n : Int) + 1 := by omega
 have hsz : (Tryz.prog.info? 105).map (·.size) = some 3 := by rw [hi0]; simp [hzs]
 have hbw : b < w.heap.size := block_lt_of_cell (hcs 0 _ (ZgE (by omega)))
 have hvw : vb < w.heap.size := block_lt_of_cell (hvs 0 _ (ZgE (by omega)))
 have hkk : (n : Int) + 1 - (i : Int) = ((n + 1 - i : Nat) : Int) := by omega
 have hik : i + (n + 1 - i) = n + 1 := by omega
 have hold : (Builtin.firstCells i0.size i (.slice (some ⟨b, 0, none⟩) i c)).run Tryz.prog w.drew = .ok (cs.take (i * 3)).toArray w.drew := by
  rw [hzs]
  exact run_firstCells_some w.drew 3 i ⟨b, 0, none⟩ i c (cs.take (i * 3)) (by rw [ZlT]; omega) (fun j v hj => by
   rw [Addr.add_lit]
   rw [ZgT] at hj
   split at hj
   ·rw [Nat.zero_add]; exact hcs j v hj
   ·cases hj)
 have hrz : ∀ ty, (Builtin.append_ #[38, 3] ty #[.slice (some ⟨b, 0, none⟩) i c, .int .i64 ((n : Int) + 1 - (i : Int))]).run Tryz.prog w =
  .ok (.slice (some ⟨w.heap.size, 0, none⟩) (n + 1) (grownCap w (n + 1) c 105)) (w.drew.alloc (.cells ((cs.take (i * 3)).toArray ++ Builtin.zeroCells zcpyV.cells (n + 1 - i) ++ Builtin.zeroCells zcpyV.cells (grownCap w (n + 1) c 105 - (n + 1))) 105)) := fun ty => by
  have h := Lib.run_append_grow_zeros w 38 3 ty 105 i0 _ .i64 .i64 et_cpyI.ht htI hi0 hz0 (some ⟨b, 0, none⟩) i c (cs.take (i * 3)) hold (n + 1 - i) (by omega) (by omega) (by omega) (by omega) (by rw [hzb]; omega) (by rw [hzb, hik]; exact growslice_fits hroom hbig)
  rw [hik] at h
  rw [hkk]
  exact h
 obtain ⟨G, hG⟩ : ∃ G, G = grownCap w (n + 1) c 105 := ⟨_, rfl⟩
 obtain ⟨ROW, hROW⟩ : ∃ ROW : Array Value, ROW = (cs.take (i * 3)).toArray ++ Builtin.zeroCells zcpyV.cells (n + 1 - i) ++ Builtin.zeroCells zcpyV.cells (G - (n + 1)) := ⟨_, rfl⟩
 rw [<- hG] at hrz ⊢
 rw [<- hROW] at hrz ⊢
 have hRl : (n + 1) * 3 <= ROW.size := by
  rw [hROW]
  simp only [Array.size_append, zeros7, List.size_toArray, ZlT]
  omega
 obtain ⟨W1, hW1⟩ : ∃ W1, W1 = w.drew.alloc (.cells ROW 105) := ⟨_, rfl⟩
 rw [<- hW1] at hrz
 have hN : ∀ j, j < (n + 1) * 3 -> (W1.cell? ⟨w.heap.size, j, none⟩).isSome = true := fun j hj => by
  rw [hW1, World.cell?_alloc_at (w := w.drew) ROW _ w.heap.size j rfl, Array.getElem?_eq_getElem (by omega)]; rfl
 have hNf : ∀ j, W1.frozen? ⟨w.heap.size, j, none⟩ = false := fun j => by rw [hW1]; exact World.frozen?_alloc_at (w := w.drew) ROW _ w.heap.size j rfl
 have hOb : ∀ j v, w.cell? ⟨b, j, none⟩ = some v -> W1.cell? ⟨b, j, none⟩ = some v := fun j v h => by rw [hW1, World.cell?_alloc_past (w := w.drew) _ b j hbw]; exact h
 have hOv : ∀ j v, w.cell? ⟨vb, j, none⟩ = some v -> W1.cell? ⟨vb, j, none⟩ = some v := fun j v h => by rw [hW1, World.cell?_alloc_past (w := w.drew) _ vb j hvw]; exact h
 have hcpA : ∀ (W : World), (∀ x, W.cell? x = W1.cell? x) -> (∀ x, W.frozen? x = W1.frozen? x) -> ∀ ty dc, (Builtin.copy_ #[38, 38] ty #[.slice (some ⟨w.heap.size, i * 3, none⟩) (n + 1 - i) dc, .slice (some ⟨vb, 0, none⟩) 1 vc]).run Tryz.prog W = .ok (goInt (Nat.min 1 (n + 1 - i))) (W.setCells w.heap.size (i * 3) vs) := fun W hWc hWf ty dc =>
  Ya5 W _ _ ty 105 3 w.heap.size (i * 3) (n + 1 - i) dc ⟨vb, 0, none⟩ 1 vc vs et_cpyI.ht hsz (by rw [hvl]; simp only [Nat.min_def]; split <;> omega)
   (fun j v hj => by rw [Addr.add_lit, hWc, Nat.zero_add]; exact hOv _ v (hvs j v hj))
   (fun j hj => by rw [hWc]; exact hN _ (by omega)) (fun j hj => by rw [hWf]; exact hNf _) h1v
 have hGn : n + 1 <= G := by rw [hG]; exact grownCap_ge w _ _ _
 have hG63 : G <= 9223372036854775807 := by
  have := grownCap_le_maxLen w (n + 1) c 105 (by unfold maxLen; omega)
  rw [<- hG] at this
  unfold maxLen at this
  omega
 have hGi : ¬ (G = i) := by omega
 have hGim : ¬ (G = i + 1) := by omega
 have hci : ¬ (c = i) := by omega
 have hbN : b ≠ w.heap.size := by omega
 have hdl : (cs.drop (i * 3)).length = (n - i) * 3 := by rw [ZlD, hcl]; omega
 have hcpB : ∀ (W : World), (∀ x, W.cell? x = (W1.setCells w.heap.size (i * 3) vs).cell? x) -> (∀ x, W.frozen? x = (W1.setCells w.heap.size (i * 3) vs).frozen? x) -> ∀ ty dc sc, (Builtin.copy_ #[38, 38] ty #[.slice (some ⟨w.heap.size, (i + 1) * 3, none⟩) (n - i) dc, .slice (some ⟨b, i * 3, none⟩) (n - i) sc]).run Tryz.prog W = .ok (goInt (Nat.min (n - i) (n - i))) (W.setCells w.heap.size ((i + 1) * 3) (cs.drop (i * 3))) := fun W hWc hWf ty dc sc =>
  Ya5 W _ _ ty 105 3 w.heap.size ((i + 1) * 3) (n - i) dc ⟨b, i * 3, none⟩ (n - i) sc (cs.drop (i * 3)) et_cpyI.ht hsz (by rw [hdl]; simp only [Nat.min_def]; split <;> omega)
   (fun j v hj => by
    rw [Addr.add_lit, hWc, World.cell?_setCells_out _ _ _ _ _ (fun h _ => absurd h hbN)]
    exact hOb _ v (hcs (i * 3 + j) v (by rwa [ZgO] at hj)))
   (fun j hj => by rw [hWc]; exact isSome_setCells w.heap.size vs (i * 3) W1 (fun t ht => hN _ (by omega)) _ (hN _ (by omega)))
   (fun j hj => by rw [hWf, World.frozen?_setCells]; exact hNf _) (fun v hv => h1c v (List.mem_of_mem_drop hv))
 subst hW1
 have hE1 : ∀ x, ((w.alloc (.cells ROW 105)).drew).cell? x = (w.drew.alloc (.cells ROW 105)).cell? x := fun x => rfl
 have hE2 : ∀ x, ((w.alloc (.cells ROW 105)).drew).frozen? x = (w.drew.alloc (.cells ROW 105)).frozen? x := fun x => rfl
 have hF1 : ∀ x, (((w.alloc (.cells ROW 105)).drew.setCells w.heap.size (i * 3) vs).drew).cell? x = ((w.drew.alloc (.cells ROW 105)).setCells w.heap.size (i * 3) vs).cell? x := fun x => rfl
 have hF2 : ∀ x, (((w.alloc (.cells ROW 105)).drew.setCells w.heap.size (i * 3) vs).drew).frozen? x = ((w.drew.alloc (.cells ROW 105)).setCells w.heap.size (i * 3) vs).frozen? x := fun x => rfl
 have hw1 : IntKind.i64.wrap ((i : Int) + 1) = (i : Int) + 1 := by rw [IntKind.wrap_i64]; omega
 have hb1 : (0 : Int) <= (i : Int) + 1 := by omega
 have hin : i <= n := by omega
 have htn : ((i : Int) + 1).toNat = i + 1 := by omega
 have hb3 : (i : Int) <= (n : Int) := by omega
 clear hkk hik hold hROW hG hRl
 go_enter Tryz.func106, Tryz.ntmps106
 go_wp2_with (first
  | (at_builtin; refine Lib.wpList_append_run _ rfl _ _ _ _ rfl _ _ rfl rfl _ _ (hrz _) ?_)
  | (at_builtin; refine wpList_copy_runI _ rfl _ _ 38 38 rfl _ _ rfl rfl (hcpA _ hE1 hE2 _ _) ?_)
  | (at_builtin; refine wpList_copy_runI _ rfl _ _ 38 38 rfl _ _ rfl rfl (hcpB _ (fun _ => rfl) (fun _ => rfl) _ _ _) ?_))
 go_region_law (refine step_copy_runI rfl _ _ 38 38 rfl (.slice (some ⟨w.heap.size, (i + 1) * 3, none⟩) (n - i) (G - (i + 1))) (.slice (some ⟨b, i * 3, none⟩) (n - i) (c - i)) (by simp [Act.eval, Act.put]) (by simp [Act.eval, Act.put]) (hcpB _ hF1 hF2 3 (G - (i + 1)) (c - i)) ?_)
 go_wp2
 go_ret
 exact ⟨J, J⟩
theorem own_allocC {w : World} {B n cap : Nat} {ys : List Value} {A : Array Value} (hB : B <= w.heap.size) (hn : ys.length = n * 3) (hc : n <= cap) (hm : cap <= maxLen) (hA : A.size = cap * 3) (hy : A.toList.take (n * 3) = ys) {w' : World} (hw : w'.heap[w.heap.size]? = some (.cells A 105 (0, 0))) :
 w'.ownsRow B 105 3 (.slice (some ⟨w.heap.size, 0, none⟩) n cap) n ys :=
 ⟨hn, .inr ⟨w.heap.size, cap, A, rfl, hB, hw, hc, hm, hA, hy⟩⟩
theorem insC_calls {B : Nat} {w : World} {v : Value} {n i vb vcap : Nat} {xs y : List Value} {ecur : Array Value} {ety : TypeId} (hown : w.ownsRow B 105 3 v n xs) (hxs : ∀ u ∈ xs, u.oneCell' = true) (hi : i <= n) (hB : B <= w.heap.size) (hb : (n + 1) * 32 <= 140737488355328)
 (hvb : w.heap[vb]? = some (.cells ecur ety (0, 0))) (hvc : 1 <= vcap /\ vcap <= 9223372036854775807) (hyl : y.length = 3) (hye : ecur.toList.take 3 = y) (hy1 : ∀ u ∈ y, u.oneCell' = true) (hne : blk v ≠ some vb) :
 Calls Tryz.prog 106 #[v, .int .i64 i, .slice (some ⟨vb, 0, none⟩) 1 vcap] w fun e w' => ∃ v', e = .returned v' /\ InsEndG 105 3 B w v (n + 1) (xs.take (i * 3) ++ y ++ xs.drop (i * 3)) v' w' := by
 have hxl : xs.length = n * 3 := hown.1
 have hG : n + 1 <= maxLen := by unfold maxLen; omega
 have hvs : ∀ j u, y[j]? = some u -> w.cell? ⟨vb, j, none⟩ = some u := fun j u hj => by
  rw [cell_of_row w vb j ecur ety (0, 0) hvb, <- Array.getElem?_toList]
  rw [<- hye, ZgT] at hj
  split at hj
  ·exact hj
  ·cases hj
 have hsl : Sl w 3 (.slice (some ⟨vb, 0, none⟩) 1 vcap) 1 y := ⟨by rw [hyl], .inr ⟨⟨vb, 0, none⟩, vcap, rfl, hvc.1, hvc.2, fun q hq => by
  rw [YaU, Nat.zero_add]
  exact hvs q _ (ZgE hq)⟩⟩
 by_cases hend : i = n
 ·subst hend
  rw [List.take_of_length_le (by omega), List.drop_eq_nil_of_le (by omega), List.append_nil]
  exact insC_end hown hB hb hsl hy1
 have hlt : i < n := by omega
 rcases hown.2 with ⟨rfl, h0⟩ | ⟨g, cap, cur, rfl, hg, hh, hn, hmx, hcs, htk⟩
 ·omega
 have hlen : (xs.take (i * 3) ++ y ++ xs.drop (i * 3)).length = (n + 1) * 3 := by simp; omega
 have hcl : cur.toList.length = cap * 3 := by rw [ZaL, hcs]
 have hget : ∀ k, k < n * 3 -> cur.toList[k]? = xs[k]? := fun k hk => by rw [<- htk, ZgT, if_pos hk]
 have hcell : ∀ k, w.cell? ⟨g, k, none⟩ = cur[k]? := fun k => by rw [cell_of_row w g k cur 105 (0, 0) hh]
 have hcells : ∀ j u, xs[j]? = some u -> w.cell? ⟨g, j, none⟩ = some u := fun j u hj => by
  have hjl := (ZgS.1 hj).1
  rw [hcell, <- hj, <- hget j (by omega), Array.getElem?_toList]
 have hsome : ∀ j, j < cap * 3 -> (w.cell? ⟨g, j, none⟩).isSome = true := fun j hj => by
  rw [hcell, Array.getElem?_eq_getElem (by omega)]; rfl
 have hfz : ∀ k, w.frozen? ⟨g, k, none⟩ = false := fun k => by unfold World.frozen?; rw [hh]; simp
 have hfv : ∀ k, w.frozen? ⟨vb, k, none⟩ = false := fun k => by unfold World.frozen?; rw [hvb]; simp
 have hmx' : cap <= 9223372036854775807 := by unfold maxLen at hmx; omega
 by_cases hroom : n + 1 <= cap
 ·refine (insC_shift g n cap i vb vcap xs y w hlt hroom hmx' (fun h => hne (by rw [h]; rfl)) hxl hyl hcells (fun j hj => hsome _ (by omega)) hfz hvs hxs hy1 ety 105 ecur.size cur.size (by unfold World.shape?; rw [hvb]) (by unfold World.shape?; rw [hh]) (by omega) (hfv _) (hfv _)).mono ?_
  rintro e w' ⟨rfl, rfl⟩
  have hs1 := YaA (g := g) (e := 105) (xs.drop (i * 3)) ((i + 1) * 3) w.drew cur.toList (by rw [Array.toArray_toList]; exact hh) (by simp; omega)
  have hs := YaA (g := g) (e := 105) y (i * 3) _ _ hs1 (by simp; omega)
  refine ⟨_, J, ⟨hlen, .inr ⟨g, cap, _, J, hg, hs, hroom, hmx, ?_, ?_⟩⟩, ((Yb1 w _).trans (Yaz g _ _ _)).trans (Yaz g _ _ _), fun g' hg' => .inl hg'⟩
  ·simp; omega
  ·rw [show (n + 1) * 3 = n * 3 + 3 by omega]
   refine ins_takeS hxl (by omega) hyl (fun k hk => ?_) (fun k hk => ?_) (fun k h1 h2 => ?_)
   ·rw [get3]
    simp only [ZlT, ZlA, ZlD, hcl, hxl]
    rw [if_pos (by omega), ZgT, if_pos hk, get3]
    simp only [ZlT, hcl]
    rw [if_pos (by omega), ZgT, if_pos (by omega), hget k (by omega)]
   ·rw [get3]
    simp only [ZlT, ZlA, ZlD, hcl, hxl]
    rw [if_neg (by omega), if_pos (by omega)]
    congr 1
    omega
   ·rw [get3]
    simp only [ZlT, ZlA, ZlD, hcl, hxl, hyl]
    rw [if_neg (by omega), if_neg (by omega), ZgO, get3]
    simp only [ZlT, ZlD, hcl, hxl]
    rw [if_neg (by omega), if_pos (by omega), ZgO]
    congr 1
    omega
 ·refine (insC_grow g n cap i vb vcap xs y w hlt hn (by omega) hb hxl hyl hcells hvs hxs hy1).mono ?_
  rintro e w' ⟨rfl, rfl⟩
  have hge := grownCap_ge w (n + 1) cap 105
  have hle := grownCap_le_maxLen w (n + 1) cap 105 hG
  generalize grownCap w (n + 1) cap 105 = G at hge hle
  have h0 := alloc_at w (.cells ((xs.take (i * 3)).toArray ++ Builtin.zeroCells zcpyV.cells (n + 1 - i) ++ Builtin.zeroCells zcpyV.cells (G - (n + 1))) 105 (0, 0))
  generalize hA : (xs.take (i * 3)).toArray ++ Builtin.zeroCells zcpyV.cells (n + 1 - i) ++ Builtin.zeroCells zcpyV.cells (G - (n + 1)) = A at h0
  have hAs : A.size = G * 3 := by rw [<- hA]; simp only [Array.size_append, zeros7, List.size_toArray, ZlT]; omega
  have hAg : ∀ k, k < i * 3 -> A.toList[k]? = xs[k]? := fun k hk => by
   rw [<- hA]
   simp only [Array.toList_append]
   rw [List.append_assoc, List.getElem?_append_left (by simp; omega)]
   simp only [ZgT]
   rw [if_pos hk]
  have hs1 := YaA (g := w.heap.size) (e := 105) y (i * 3) (w.alloc (.cells A 105 (0, 0))).drew A.toList (by rw [Array.toArray_toList]; exact h0) (by simp; omega)
  have hs := YaA (g := w.heap.size) (e := 105) (xs.drop (i * 3)) ((i + 1) * 3) (((w.alloc (.cells A 105 (0, 0))).drew.setCells w.heap.size (i * 3) y).drew) (A.toList.take (i * 3) ++ y ++ A.toList.drop (i * 3 + y.length)) hs1 (by simp; omega)
  refine ⟨_, J, own_allocC hB hlen hge hle ?_ ?_ hs, ?_, fun g' hg' => .inr ?_⟩
  ·simp; omega
  ·rw [show (n + 1) * 3 = n * 3 + 3 by omega]
   refine ins_takeS hxl (by omega) hyl (fun k hk => ?_) (fun k hk => ?_) (fun k h1 h2 => ?_)
   ·rw [get3]
    simp only [ZlT, ZlA, ZlD, ZaL, hAs, hxl, hyl]
    rw [if_pos (by omega), ZgT, if_pos (by omega), get3]
    simp only [ZlT, ZaL, hAs]
    rw [if_pos (by omega), ZgT, if_pos hk, hAg k hk]
   ·rw [get3]
    simp only [ZlT, ZlA, ZlD, ZaL, hAs, hxl, hyl]
    rw [if_pos (by omega), ZgT, if_pos (by omega), get3]
    simp only [ZlT, ZaL, hAs]
    rw [if_neg (by omega), if_pos (by omega)]
    congr 1
    omega
   ·rw [get3]
    simp only [ZlT, ZlA, ZlD, ZaL, hAs, hxl, hyl]
    rw [if_neg (by omega), if_pos (by omega), ZgO]
    congr 1
    omega
  ·have k1 := Turn.behind (alloc_turn w (.cells A 105 (0, 0)) (some g)) (ZnR _) ((Yb1 _ _).trans (Yaz w.heap.size y (i * 3) _))
   exact Turn.behind k1 (ZnR _) ((Yb1 _ _).trans (Yaz w.heap.size (xs.drop (i * 3)) ((i + 1) * 3) _))
  ·simp [blk] at hg'; omega
theorem insT : InsT Tryz.prog 106 105 3 32 := ⟨Enters.of Tryz.func106 rfl rfl, fun h1 h2 h3 h4 h5 h6 h7 h8 h9 h10 h11 => insC_calls h1 h2 h3 h4 h5 h6 h7 h8 h9 h10 h11⟩
end InsH
namespace DelH
def zH : List Value := [.string ⟨#[]⟩, .int .i64 0, .int .i64 0]
theorem run_clear_cells {P : Program} (w : World) (t e ty : TypeId) (z : Value) (zs : List Value) (ht : P.underlying t = some (.slice e)) (hv : ∀ w, (zeroValue e).run P w = .ok z w) (hz : (Builtin.zeroCells z.cells 1).toList = zs) (h1 : ∀ u ∈ zs, u.oneCell' = true) (b o c : Nat)
 (hc : ∀ j, j < zs.length -> (w.cell? ⟨b, o + j, none⟩).isSome = true) (hf : ∀ j, j < zs.length -> w.frozen? ⟨b, o + j, none⟩ = false) :
 (Builtin.clear_ #[t] ty #[.slice (some ⟨b, o, none⟩) 1 c]).run P w = .ok (.tuple #[]) (w.setCells b o zs) := by
 have hst := run_storeCells_cells (P := P) b o zs 0 w (by simpa using hc) (by simpa using hf) h1
 simp only [Nat.add_zero] at hst
 simp [Builtin.clear_, run_underlying ht, hv, hz, hst]
theorem elem_zero {P : Program} {t e : TypeId} {size bytes : Nat} {z : Value} (T : ElemTy P t e size bytes z) (w : World) : (zeroValue e).run P w = .ok z w := by
 obtain ⟨i, hi, h0, _⟩ := info_parts T.hi
 simp [zeroValue, typeInfo, hi, h0]
theorem zc1 : (Builtin.zeroCells InsH.zcpyV.cells 1).toList = zH := by kernel_rfl
theorem zH_one : ∀ u ∈ zH, u.oneCell' = true := fun u hu => by
 simp only [zH, List.mem_cons, List.not_mem_nil, or_false] at hu
 rcases hu with rfl | rfl | rfl <;> rfl
theorem del_walk (b n c i j : Nat) (cs : List Value) (w : World) (hi : i < n) (hj : j = i + 1) (hnc : n <= c) (hc63 : c <= 9223372036854775807) (hcl : cs.length = n * 3)
 (hcs : ∀ j v, cs[j]? = some v -> w.cell? ⟨b, j, none⟩ = some v) (hsp : ∀ j, j < n * 3 -> (w.cell? ⟨b, j, none⟩).isSome = true) (hfz : ∀ j, w.frozen? ⟨b, j, none⟩ = false) (h1c : ∀ v ∈ cs, v.oneCell' = true) :
 Calls Tryz.prog 136 #[.slice (some ⟨b, 0, none⟩) n c, .int .i64 i, .int .i64 j] w fun e w' =>
  e = .returned (.slice (some ⟨b, 0, none⟩) (n - 1) c) /\ w' = (w.drew.setCells b (i * 3) (cs.drop (j * 3))).setCells b ((n - 1) * 3) zH := by
 obtain ⟨i0, hi0, hz0, hz1, hz2⟩ := info_parts InsH.et_cpyI.hi
 have ht := InsH.et_cpyI.ht
 have mixed : Tryz.prog.follows .mixedOrders = true := by kernel_rfl
 have hij : i < j := by omega
 have hjn : j <= n := by omega
 have hsz : (Tryz.prog.info? 105).map (·.size) = some 3 := by rw [hi0]; simp [hz1]
 obtain ⟨news, hnews⟩ : ∃ news, news = cs.drop (j * 3) := ⟨_, rfl⟩
 have hlen : news.length = (n - j) * 3 := by rw [hnews, ZlD, hcl]; omega
 obtain ⟨A, hA, hsrc⟩ : ∃ A : Addr, (if c = j then some (⟨b, 0, none⟩ : Addr) else some ⟨b, j * 3, none⟩) = some A /\ Hid (∀ t u, news[t]? = some u -> w.drew.cell? (A.add t) = some u) := by
  by_cases h : c = j
  ·refine ⟨⟨b, 0, none⟩, by simp [h], fun t u hu => ?_⟩
   have h0 : news.length = 0 := by rw [hlen]; omega
   rw [List.length_eq_zero_iff.1 h0] at hu
   simp at hu
  ·refine ⟨⟨b, j * 3, none⟩, by simp [h], fun t u hu => ?_⟩
   rw [hnews, ZgO] at hu
   rw [Addr.add_lit]
   exact hcs _ _ hu
 have s1 : Hid (news.length = (n - j) * 3) := hlen
 have s2 : Hid (∀ u ∈ news, u.oneCell' = true) := fun u hu => h1c u (by rw [hnews] at hu; exact List.mem_of_mem_drop hu)
 have s3 : Hid (∀ t, t < news.length -> (w.drew.cell? ⟨b, 0 + i * 3 + t, none⟩).isSome = true /\ w.drew.frozen? ⟨b, 0 + i * 3 + t, none⟩ = false) := fun t ht => by
  rw [hlen] at ht
  exact ⟨hsp _ (by omega), hfz _⟩
 obtain ⟨W1, hW1⟩ : ∃ W1, W1 = w.drew.setCells b (0 + i * 3) news := ⟨_, rfl⟩
 have hcl1 : ∀ k, k < n * 3 -> (W1.cell? ⟨b, k, none⟩).isSome = true := fun k hk => by
  rw [hW1]
  exact isSome_setCells b news (0 + i * 3) w.drew (fun j hj => (s3.out j hj).1) k (hsp k hk)
 have hn1 : n - (i + (n - j)) = 1 := by omega
 have hcf : ∀ ty, (Builtin.clear_ #[38] ty #[.slice (some ⟨b, (i + (n - j)) * 3, none⟩) (n - (i + (n - j))) (c - (i + (n - j)))]).run Tryz.prog W1 = .ok (.tuple #[]) (W1.setCells b ((i + (n - j)) * 3) zH) :=
  fun ty => by
   rw [hn1]
   exact run_clear_cells W1 _ _ ty InsH.zcpyV zH ht (elem_zero InsH.et_cpyI) zc1 zH_one b _ _ (fun j hj => hcl1 _ (by have : zH.length = 3 := J; omega)) (fun j hj => by rw [hW1, World.frozen?_setCells]; exact hfz _)
 have hW : Hid (W1 = w.drew.setCells b (0 + i * 3) news) := hW1
 have hj2 : Hid (j = i + 1) := hj
 have X1 : Hid (i + (n - j) = n - 1) := by unfold Hid; omega
 have X2 : Hid (W1 = w.drew.setCells b (i * 3) (cs.drop (j * 3))) := by unfold Hid; rw [hW1, hnews, Nat.zero_add, hj]
 have hic : i <= c := by omega
 have hjc : j <= c := by omega
 clear hW1 hnews hlen hcs hsp hcl1 hj hn1
 go_enter Tryz.func136, Tryz.ntmps136
 go_wp2_with fail
 go_region_law_o (refine step_append_room rfl (.tmp 22) (.tmp 25) 38 rfl 105 i0 3 ht hi0 hz1 b 0 i c (by simp [Act.eval, Act.put]) A (n - j) (c - j) news (by simp [Act.eval, Act.put]) s1.out hsrc.out s2.out (by omega) s3.out ?_; rw [<- hW.out])
 go_wp2
 go_ret
 refine ⟨by rw [<- X1.out]; rfl, ?_⟩
 rw [<- X1.out, <- X2.out]
abbrev fD : Nat := 136
theorem del_calls {B : Nat} {w : World} {v : Value} {n i j : Nat} {xs : List Value} (hown : w.ownsRow B 105 3 v n xs) (hxs : ∀ u ∈ xs, u.oneCell' = true) (hi : i < n) (hj : j = i + 1) :
 Calls Tryz.prog fD #[v, .int .i64 i, .int .i64 j] w fun e w' => ∃ v', e = .returned v' /\ InsEndG 105 3 B w v (n - 1) (xs.take (i * 3) ++ xs.drop (j * 3)) v' w' := by
 have hxl : xs.length = n * 3 := hown.1
 rcases hown.2 with ⟨rfl, h0⟩ | ⟨g, cap, cur, rfl, hg, hh, hn, hmx, hcs, htk⟩
 ·omega
 have hlen : (xs.take (i * 3) ++ xs.drop (j * 3)).length = (n - 1) * 3 := by simp; omega
 have hcl : cur.toList.length = cap * 3 := by rw [ZaL, hcs]
 have hget : ∀ k, k < n * 3 -> cur.toList[k]? = xs[k]? := fun k hk => by rw [<- htk, ZgT, if_pos hk]
 have hcell : ∀ k, w.cell? ⟨g, k, none⟩ = cur[k]? := fun k => by rw [cell_of_row w g k cur 105 (0, 0) hh]
 have hcells : ∀ j u, xs[j]? = some u -> w.cell? ⟨g, j, none⟩ = some u := fun j u hj => by
  have hjl := (ZgS.1 hj).1
  rw [hcell, <- hj, <- hget j (by omega), Array.getElem?_toList]
 have hsome : ∀ j, j < cap * 3 -> (w.cell? ⟨g, j, none⟩).isSome = true := fun j hj => by
  rw [hcell, Array.getElem?_eq_getElem (by omega)]; rfl
 have hfz : ∀ k, w.frozen? ⟨g, k, none⟩ = false := fun k => by unfold World.frozen?; rw [hh]; simp
 have hmx' : cap <= 9223372036854775807 := by unfold maxLen at hmx; omega
 refine (del_walk g n cap i j xs w hi hj hn hmx' hxl hcells (fun j hj => hsome _ (by omega)) hfz hxs).mono ?_
 rintro e w' ⟨rfl, rfl⟩
 have hdl : (xs.drop (j * 3)).length = (n - j) * 3 := by rw [ZlD, hxl]; omega
 have hs1 := YaA (g := g) (e := 105) (xs.drop (j * 3)) (i * 3) w.drew cur.toList (by rw [Array.toArray_toList]; exact hh) (by rw [hdl, hcl]; omega)
 have hL : (cur.toList.take (i * 3) ++ xs.drop (j * 3) ++ cur.toList.drop (i * 3 + (xs.drop (j * 3)).length)).length = cap * 3 := by
  simp only [ZlA, ZlT, ZlD, hcl, hxl]
  omega
 have hs := YaA (g := g) (e := 105) zH ((n - 1) * 3) _ _ hs1 (by rw [hL]; show (n - 1) * 3 + 3 <= _; omega)
 have hti : cur.toList.take (i * 3) = xs.take (i * 3) := by rw [<- htk, List.take_take, Nat.min_eq_left (by omega)]
 refine ⟨_, J, ⟨hlen, .inr ⟨g, cap, _, J, hg, hs, by omega, hmx, ?_, ?_⟩⟩, ((Yb1 w _).trans (Yaz g _ _ _)).trans (Yaz g _ _ _), fun g' hg' => .inl hg'⟩
 ·simp only [List.size_toArray, ZlA, ZlT, ZlD, hcl, hxl]
  have : zH.length = 3 := rfl
  omega
 ·have hm : (cur.toList.take (i * 3) ++ xs.drop (j * 3)).length = (n - 1) * 3 := by rw [hti]; exact hlen
  rw [List.append_assoc, List.take_left' (by rw [ZlT, hL]; omega), List.take_left' hm, hti]
theorem flat_del (xs : Nat -> Nat -> Value) {n k : Nat} (s : Nat) (hk : k < n) : (flat xs n s).take (k * s) ++ (flat xs n s).drop ((k + 1) * s) = flat (fun i j => if i < k then xs i j else xs (i + 1) j) (n - 1) s := by
 have h1 : flat xs n s = flat xs k s ++ flat (fun i => xs (k + i)) (n - k) s := by
  rw [Ya7, show k + (n - k) = n by omega]
  refine Ycp fun i j hi hj => ?_
  by_cases h : i < k
  ·rw [if_pos h]
  ·rw [if_neg h, show k + (i - k) = i by omega]
 have h2 : flat xs n s = flat xs (k + 1) s ++ flat (fun i => xs (k + 1 + i)) (n - (k + 1)) s := by
  rw [Ya7, show k + 1 + (n - (k + 1)) = n by omega]
  refine Ycp fun i j hi hj => ?_
  by_cases h : i < k + 1
  ·rw [if_pos h]
  ·rw [if_neg h, show k + 1 + (i - (k + 1)) = i by omega]
 have e1 : (flat xs n s).take (k * s) = flat xs k s := by rw [h1, List.take_left' (Yal xs k s)]
 have e2 : (flat xs n s).drop ((k + 1) * s) = flat (fun i => xs (k + 1 + i)) (n - (k + 1)) s := by rw [h2, List.drop_left' (Yal xs (k + 1) s)]
 rw [e1, e2, Ya7, show k + (n - (k + 1)) = n - 1 by omega]
 refine Ycp fun i j hi hj => ?_
 by_cases h : i < k
 ·rw [if_pos h, if_pos h]
 ·rw [if_neg h, if_neg h, show k + 1 + (i - k) = i + 1 by omega]
theorem del_get {α : Type} {l : List α} {p i : Nat} (hp : p < l.length) (hi : i < (l.take p ++ l.drop (p + 1)).length) : (l.take p ++ l.drop (p + 1))[i] = if h : i < p then l[i]'(by omega) else l[i + 1]'(by simp at hi; omega) := by
 have hT : (l.take p).length = p := by rw [ZlT]; omega
 by_cases h1 : i < p
 ·rw [dif_pos h1, ZgL (by omega), List.getElem_take]
 ·rw [dif_neg h1, ZgR (by omega), List.getElem_drop]
  congr 1
  omega
end DelH
section
variable {cx : Cx} {ops : Array Oper} {o : Oper} {rest : List Oper} {e : Env} {σ : Obs} {Q : Post}
theorem AOps.delH {s i x : Operand} {ts : Array TypeId} {id dst k : Nat} {els : List (List D)} {m m2 : Int} (hP : cx.P = Tryz.prog) (hg : o.guard = none) (ht : o.dst = some dst) (hdn : Nat.blt dst cx.N = true)
 (ho : o.op = .call { callee := .value (.func DelH.fD), args := #[s, i, x], argTypes := ts }) (hs : e.ev s = .own id) (hm : (id, Ob.row 105 3 els) ∈ σ) (hi : e.ev i = .d (.v (.int .i64 m))) (hk : m = (k : Int)) (hkl : k < els.length)
 (hx : e.ev x = .d (.v (.int .i64 m2))) (hk2 : m2 = ((k + 1 : Nat) : Int))
 (q : AOps cx ops rest ((e.kill id).put (some dst) (.own id)) ((id, .row 105 3 (els.take k ++ els.drop (k + 1))) :: Obs.kill id (Obs.del id σ)) Q) (hfx : cx.free id = true := by rfl) : AOps cx ops (o :: rest) e σ Q := by
 intro a w ⟨F, ρ, hr⟩
 have r1 := YaC (e := e) (x := s) (a := a) (fun t _ => hr.env t)
 have r2 := YaC (e := e) (x := i) (a := a) (fun t _ => hr.env t)
 have r3 := YaC (e := e) (x := x) (a := a) (fun t _ => hr.env t)
 rw [hs] at r1
 rw [hi] at r2
 rw [hx] at r3
 have v1 : a.eval s = ρ id := by generalize a.eval s = v at r1; cases r1; rfl
 have v2 := Ya0 r2
 have v3 := Ya0 r3
 obtain ⟨xs, hown, hlen, hrep, hnF⟩ := hr.obs.ok _ hm
 dsimp only at hown hnF
 have hown' : w.ownsRow cx.B 105 3 (ρ id) els.length (flat xs els.length 3) := hown
 have one1 : ∀ u ∈ flat xs els.length 3, u.oneCell' = true := fun u hu => by
  obtain ⟨l, hl, hu⟩ := List.mem_flatten.1 hu
  obtain ⟨i, hi, rfl⟩ := ZmM.1 hl
  obtain ⟨j, hj, rfl⟩ := ZmM.1 hu
  have hi' : i < els.length := by simpa using hi
  exact (hrep i hi' j (by rw [hlen i hi']; simpa using hj)).1
 have hE : Enters cx.P DelH.fD := by rw [hP]; exact Enters.of Tryz.func136 (by kernel_rfl) rfl
 have hx' : (execOp a.eval o).run cx.P w = .ok (.enter DelH.fD #[a.eval s, a.eval i, a.eval x]) w := by
  obtain ⟨xs, hxs⟩ : ∃ xs : List Operand, xs = [s, i, x] := ⟨_, rfl⟩
  have ho' : o.op = .call { callee := .value (.func DelH.fD), args := xs.toArray, argTypes := ts } := by rw [ho, hxs]
  have h5 := hE (xs.map a.eval).toArray w
  have h6 : (execOp a.eval o).run cx.P w = .ok (.enter DelH.fD (xs.map a.eval).toArray) w := by
   unfold execOp
   simp only [ho', resolve, Deferred.ofValue, Act.eval, invoke, Sem.run_bind, Sem.run_pure, Result.andThen_ok]
   simpa using h5
  rw [hxs] at h6
  exact h6
 have hc := DelH.del_calls (i := k) (j := k + 1) hown' one1 hkl rfl
 rw [v1, v2, v3, hk, hk2] at hx'
 rw [<- hP] at hc
 refine wpList_plain hg fun K hK => ?_
 unfold Oper.wp
 rw [hx']
 refine hc.mono fun _ w' ⟨v', he, hI⟩ => ?_
 subst he
 have hlen2 : (els.take k ++ els.drop (k + 1)).length = els.length - 1 := by simp; omega
 have hturn := hr.turn (ρ' := fun j => if j = id then v' else ρ j) (id := id) (ob := .row 105 3 (els.take k ++ els.drop (k + 1))) (row := blk (ρ id)) (w' := w') (F' := F) (fun j hj => by simp [hj]) hI.turn hfx
  (fun g hg => ⟨hr.kown _ hm g hg, hnF g hg, fun p hp hpi => fun he => hr.obs.apart p hp _ hm hpi g he hg⟩) (fun b hb => hb) (fun b hb => .inl hb) (fun b hb => Nat.lt_of_lt_of_le (hr.lt b hb) hI.turn.size)
  ⟨fun i j => if i < k then xs i j else xs (i + 1) j, by
   dsimp only
   rw [if_pos rfl]
   have h6 := hI.own
   rw [DelH.flat_del xs 3 hkl] at h6
   rw [hlen2]
   exact h6, fun i hi => by
   rw [DelH.del_get hkl hi]
   split
   ·exact hlen _ _
   ·exact hlen _ _, fun i hi j hj => by
   have hr7 : ∀ x d, Rep F w x d -> Rep F w' x d := fun x d h => h.turn hr.lt hnF hI.turn
   have hi2 : i < els.length - 1 := by rw [hlen2] at hi; exact hi
   have hg := DelH.del_get hkl hi
   by_cases h1 : i < k
   ·rw [dif_pos h1] at hg
    simp only [if_pos h1]
    simp only [hg] at hj ⊢
    exact ⟨(hrep i (by omega) j hj).1, hr7 _ _ (hrep i (by omega) j hj).2⟩
   ·rw [dif_neg h1] at hg
    simp only [if_neg h1]
    simp only [hg] at hj ⊢
    exact ⟨(hrep (i + 1) (by omega) j hj).1, hr7 _ _ (hrep (i + 1) (by omega) j hj).2⟩, fun g hg hf => by
   dsimp only at hg
   rw [if_pos rfl] at hg
   rcases hI.new g hg with h6 | h6
   ·exact hnF g h6 hf
   ·have := hr.lt g hf; omega⟩ (fun g hg => by rw [if_pos rfl] at hg; exact hI.new g hg) ((id, .row 105 3 (els.take k ++ els.drop (k + 1))) :: Obs.kill id (Obs.del id σ)) (fun p hp => by
   rcases List.mem_cons.1 hp with rfl | hp
   ·exact .inl J
   ·obtain ⟨q, hq, rfl⟩ := Obs.mem_kill hp
    exact .inr ⟨q, (Obs.mem_del hq).1, (Obs.mem_del hq).2, J⟩)
 have h9 := hturn.put (o := ⟨some dst, .ready 0, 0, "", #[], none⟩) (v := v') (s := .own id) (Ext.refl hturn.lt) (by
  have := RepS.own (F := F) (ρ := fun j => if j = id then v' else ρ j) (w := w') id
  simpa using this) (by simpa [DstOk, Nat.blt_eq] using hdn)
 have := q _ _ ⟨F, _, h9⟩
 rw [<- ht] at this
 exact hK _ _ this
end
end
section
open Go.RowKit
namespace Ty
theorem bu_105 : StructT Tryz.prog 105 (fun i => (#[(0, 1), (1, 1), (2, 1)] : Array (Nat × Nat))[i]?) [(.string ⟨#[]⟩), (.int .i64 0), (.int .i64 0)] := .of (by kernel_rfl) (by kernel_rfl) (by decide)
theorem Yav : Yaf Tryz.prog 108 0 = some 0 := by kernel_rfl
theorem sz_38 : ∀ w, (sizeOf 38).run Tryz.prog w = .ok 1 w := SizeT.of (by kernel_rfl)
end Ty
open Ty
open Go.Lib
theorem snap_fn {σ : Obs} (f : FuncId) : Snap σ (.d (.v (.func (.func f) #[] #[]))) (.clo (.func f) []) := .le (.d _) (fun F w y hy => by
 rw [rep_v hy]
 exact .clo (.func f) [] [] rfl (fun i h1 => absurd h1 (by simp)))
theorem plain2 (a b : Value) : Plain (.tup [.v a, .v b]) := .tup _ (fun d hd => by
 simp only [List.mem_cons, List.not_mem_nil, or_false] at hd
 rcases hd with rfl | rfl <;> exact .v _)
def isC (c : Ctr) (next : Int) (S : List Sal) : Nat × Ob := (600, .cells [.d (.sl (c.als.map Ali.ds)), .d (.sl (c.deals.map Deal.ds)), .d (.sl (c.groups.map Grp.ds)), .d (.v (.int .i64 next)), .own 501, .own 502, .own 503, .d (.sl (S.map Sal.ds)), .own 504])
def isH (L : List Hld) : Nat × Ob := (502, .row 105 3 (L.map Hld.ds))
theorem cen_first {l : List Hld} {k : Nat} {key : KH} (hk : k < l.length) (h : ∀ x ∈ l.take k, x.key ≠ key) (e : l[k].key = key) : cenH l key = l[k].cents := by
 have hs : l = l.take k ++ l[k] :: l.drop (k + 1) := by rw [<- List.drop_eq_getElem_cons hk, List.take_append_drop]
 have e1 : HL l = HL (l.take k) ++ (l[k].key, l[k].cents) :: HL (l.drop (k + 1)) := by
  conv => lhs; rw [hs]
  unfold HL
  rw [ZmA, List.map_cons]
 unfold cenH
 rw [e1, findG_append, cen_none h, Yat, if_pos e]
 rfl
theorem cen_0 {l : List Hld} {key : KH} (h : ∀ x ∈ l, x.key ≠ key) : cenH l key = 0 := by unfold cenH; rw [cen_none h]; rfl
theorem take_ne {l : List Hld} {k : Nat} {key : KH} (hk : k < l.length) (h : ∀ x ∈ l.take k, x.key ≠ key) (e : l[k].key ≠ key) : ∀ x ∈ l.take (k + 1), x.key ≠ key := fun x hx => by
 rw [List.take_add_one, ZgE hk, Option.toList_some, List.mem_append, ZmS] at hx
 rcases hx with hx | rfl
 ·exact h x hx
 ·exact e
theorem del_len {l : List Hld} (k : KH) : (delH l k).length <= l.length := List.length_filter_le _ _
theorem in2 {σ : Obs} {p q : Nat × Ob} (h1 : p ∈ σ) (h2 : q ∈ σ) : ∀ x ∈ [p, q], x ∈ σ := fun x hx => by
 simp only [List.mem_cons, List.not_mem_nil, or_false] at hx
 rcases hx with rfl | rfl
 ·exact h1
 ·exact h2
theorem hold_place {L : List Hld} (ok : Hls L) (x : Hld) : ∃ (M N : List Hld), (hasH L x = true -> M = L) /\ (hasH L x = false -> M = L.take (posH L x) ++ [⟨x.deal, x.period, 0⟩] ++ L.drop (posH L x)) /\ M.length <= L.length + 1 /\
 ∃ hp : posH L x < M.length, M[posH L x].cents = cenH L x.key /\ N = M.set (posH L x) ⟨M[posH L x].deal, M[posH L x].period, M[posH L x].cents + x.cents⟩ /\ addH L x = N /\ ∃ hp2 : posH L x < N.length, N[posH L x].cents = cenH L x.key + x.cents := by
 cases hb : hasH L x with
 | true =>
  obtain ⟨hp, hk⟩ := hasH_mem ok x hb
  have HC : L[posH L x].cents = cenH L x.key := by unfold cenH; rw [<- hk, cen_some ok (ZgM hp)]; rfl
  refine ⟨L, _, fun _ => rfl, fun h => by simp at h, by omega, hp, HC, rfl, ?_, by rw [List.length_set]; exact hp, ?_⟩
  ·rw [add_old ok hp hk]
   have e1 : L[posH L x].deal = x.deal := congrArg Prod.fst hk
   have e2 : L[posH L x].period = x.period := congrArg Prod.snd hk
   rw [e1, e2]
  ·rw [List.getElem_set_self, HC]
 | false =>
  have hple := posH_le L x
  have HC : cenH L x.key = 0 := cen_0 (hasH_not ok x hb)
  have hT : (L.take (posH L x)).length = posH L x := by rw [ZlT]; omega
  have hp : posH L x < (L.take (posH L x) ++ [(⟨x.deal, x.period, 0⟩ : Hld)] ++ L.drop (posH L x)).length := by simp; omega
  have hg : (L.take (posH L x) ++ [(⟨x.deal, x.period, 0⟩ : Hld)] ++ L.drop (posH L x))[posH L x] = ⟨x.deal, x.period, 0⟩ := by
   rw [ZgL (by simp; omega), ZgR (by omega)]
   simp [hT]
  refine ⟨_, _, fun h => by simp at h, fun _ => rfl, by simp; omega, hp, by rw [hg, HC], rfl, ?_, by rw [List.length_set]; exact hp, ?_⟩
  ·rw [add_new ok hb, hg]
   rw [List.append_assoc, List.append_assoc, List.set_append_right _ _ (by omega), hT, Nat.sub_self]
   simp
  ·rw [List.getElem_set_self, hg, HC]
theorem set_ds {l : List Hld} {p : Nat} (hp : p < l.length) (c : Int) : (l.map Hld.ds).set p ([.v (.string l[p].deal), .v (.int .i64 l[p].period)] ++ [.v (.int .i64 c)]) = (l.set p ⟨l[p].deal, l[p].period, c⟩).map Hld.ds := by rw [List.map_set]; rfl
theorem c_bsH (l : List Hld) (x : Hld) (hl : l.length <= 1000000) : Yaq Tryz.prog 135 [.sl (l.map Hld.ds), .agg x.ds, .clo (.func 131) []] (.tup [.v (.int .i64 (posH l x : Int)), .v (.bool (hasH l x))]) := by
 refine Yah (n := 49) (ds' := [.v (.int .i64 (posH l x : Int)), .v (.bool (hasH l x))]) Tryz.func135 J (by kernel_rfl) J [6, 7] J J ?_
 intro B w0 F0 fr
 refine .sr (.sA (.box J J J) ?_)
 refine .aA ?_
 refine .aN ?_
 refine .sr (.mA ?_)
 refine .sA (.lenSl J et_38.ht J) ?_
 refine .aN ?_
 refine .sr (.mA ?_)
 refine .aA ?_
 refine .aN ?_
 refine .seq (.block (.loop (G := Nat × Nat) (fun g => Env.of [(9, .iv g.1), (10, .iv g.2), (8, .iv l.length), (0, .d (.sl (l.map Hld.ds))), (4, .d (.fp x.ds)), (2, .d (.clo (.func 131) []))]) (fun g => []) (fun g => g.1 <= g.2 /\ g.2 <= l.length /\ posH l x = bsr (ltQH l x) g.1 g.2) (fun g => g.2 - g.1) (0, l.length) ⟨ZnZ _, ZnR _, rfl⟩ (Sub.less ⟨(SLe.i64 rfl), (SLe.i64 (by simp)), (SLe.i64 (by simp)), U, U, U, trivial⟩ (fun _ h => h)) ?_))
 rintro ⟨i, j⟩ ⟨hij, hjl, hb⟩
 dsimp only at hij hjl hb ⊢
 refine .seq (.sr (.mA ?_))
 refine .mA ?_
 refine .sA (.lss J J J) (.nil ?_)
 refine .cT J (fun h1 => ?_) fun h1 => ?_
 ·have hlt : i < j := by omega
  refine .skip (.block (.sr (.mA ?_)))
  refine .mA ?_
  refine .sA (.add64 J J J) ?_
  refine .sA (.convSame J (by kernel_rfl) J (wrapU64 (by omega) (by omega))) ?_
  refine .sA (.half J J J) ?_
  refine .sA (.convSame J (by kernel_rfl) J (w64 (by omega) (by omega))) ?_
  refine .aN ?_
  refine .seq (.draw (by kernel_rfl) (by kernel_rfl) ?_)
  refine .sA (.moveD J J) (.sA (.moveD J J) (.sA (.moveD J J) ?_))
  refine .sA (.indexAddr J et_38 J J ((i + j) / 2) (by omega) (Yad (by omega)) J) ?_
  refine .sA (.loadAgg J Ybk J J) (.sA (.loadAgg J Ybk J J) (.sA (.callClo J J (.cons (.rfl' J) (.cons (.rfl' J) .nil)) (c_cmpHld l[(i + j) / 2] x)) (.sA (.lss J J J) ?_)))
  refine .nil ?_
  refine .cT J (fun h2 => ?_) fun h2 => ?_
  ·have HB := bsr_up hlt (ltQH_t (by omega) h2)
   refine .region (.mA ?_)
   refine .sA (.add64 J J J) ?_
   refine .aN ?_
   refine ⟨((i + j) / 2 + 1, j), ⟨by dsimp only; omega, by dsimp only; omega, by dsimp only; rw [hb]; exact HB⟩, (by dsimp only; omega), Sub.less ⟨(SLe.i64 (by dsimp only; omega)), U, U, U, U, U, trivial⟩ (fun _ h => h)⟩
  have HB := bsr_dn hlt (ltQH_f (by omega) h2)
  refine .region (.mA ?_)
  refine .aN ?_
  refine ⟨(i, (i + j) / 2), ⟨by dsimp only; omega, by dsimp only; omega, by dsimp only; rw [hb]; exact HB⟩, (by dsimp only; omega), Sub.less ⟨U, (SLe.i64 (by dsimp only; omega)), U, U, U, U, trivial⟩ (fun _ h => h)⟩
 rw [bsr_end (by omega)] at hb
 refine .exit (.seq (.draw (by kernel_rfl) (by kernel_rfl) ?_))
 refine .sA (.moveD J J) (.sA (.moveD J J) (.sA (.moveD J J) (.sA (.lss J J J) (.sA (.moveD J J) ?_))))
 refine .sT 39 J (fun g3 => ?_) fun g3 => ?_
 ·have hil : i < l.length := by omega
  refine .sG (.moveD J J) ?_
  refine .sG (.moveD J J) ?_
  refine .sG (.moveD J J) ?_
  refine .sG (.indexAddr J et_38 J J i J (Yad hil) J) ?_
  refine .sG (.loadAgg J Ybk J J) ?_
  refine .sG (.loadAgg J Ybk J J) ?_
  refine .sG (.callClo J J (.cons (.rfl' J) (.cons (.rfl' J) .nil)) (c_cmpHld l[i] x)) ?_
  refine .sG (.eql J J J) ?_
  refine .sA (.pickT J J J) (.sA (.assignD J J) (.sA (.assignD J J) ?_))
  refine .nil ?_
  refine .ret ?_
  refine ⟨RetD.eq J ?_, RetD.eq J ?_, trivial⟩
  all_goals (first | rfl | rw [hb] | rw [HX] | rw [hasH_k hil hb])
 have HX : hasH l x = false := hasH_e (by omega) hb
 refine .pA ?_
 refine .pA ?_
 refine .pA ?_
 refine .pA ?_
 refine .pA ?_
 refine .pA ?_
 refine .pA ?_
 refine .pA ?_
 refine .sA (.pickF J J J) (.sA (.assignD J J) (.sA (.assignD J J) ?_))
 refine .nil ?_
 refine .ret ?_
 refine ⟨RetD.eq J ?_, RetD.eq J ?_, trivial⟩
 all_goals (first | rfl | rw [hb] | rw [HX] | rw [hasH_k hil hb])
theorem c_heldOf (l : List Hld) (nm : ByteArray) (p : Int) : Yaq Tryz.prog 104 [.sl (l.map Hld.ds), .v (.string nm), .v (.int .i64 p)] (.v (.int .i64 (cenH l (nm, p)))) := by
 refine Yah (n := 28) (ds' := [.v (.int .i64 (cenH l (nm, p)))]) Tryz.func104 J (by kernel_rfl) J [6] J J ?_
 intro B w0 F0 fr
 refine .bound 0 J (fun hbd0 => ?_)
 rw [ZlM] at hbd0
 refine .sr (.aN ?_)
 refine .seq (.sr (.mA ?_))
 refine .sA (.lenSl J et_38.ht J) ?_
 refine .mN ?_
 refine .block (.loop (G := Nat) (fun k => Env.of [(11, .iv k), (9, .d (.sl (l.map Hld.ds))), (10, .iv (l.map Hld.ds).length), (1, .d (.v (.string nm))), (2, .d (.v (.int .i64 p)))]) (fun k => []) (fun k => k <= l.length /\ ∀ x ∈ l.take k, x.key ≠ (nm, p)) (fun k => l.length - k) 0 ⟨ZnZ _, fun x h => by simp at h⟩ (Sub.less ⟨U, U, U, U, U, trivial⟩ (fun _ h => h)) ?_)
 intro k hk
 refine .sr (.sA (.lss J J J) (.nil ?_))
 refine .seq (.cT J (fun h1 => ?_) fun h1 => ?_)
 ·rw [ZlM] at h1
  have hlt : k < l.length := by omega
  refine .skip (.seq (.block (.sr (.sA (.indexAddr J et_38 J J k J (Yad hlt) J) ?_))))
  refine .sA (.loadAgg J Ybk J J) ?_
  refine .alloc 101 J J J J zt_105 J J J ?_
  refine .store J J J sz_105 J (.head _) J J J (ZnB J) ?_
  refine .freezeCells 8 (ds := l[k].ds) J (.head _) (.nil ?_)
  refine .sr (.sA (.fieldAddr J Ybn J) ?_)
  refine .sA (.load J sc_9 J) ?_
  refine .mA ?_
  refine .sA (.seql J J J) ?_
  refine .mA ?_
  refine .sT 19 J (fun g2 => ?_) fun g2 => ?_
  ·have e1 := g2
   refine .sG (.fieldAddr J Ybf J) ?_
   refine .sG (.load J sc_3 J) ?_
   refine .sG (.moveD J J) ?_
   refine .sG (.eql J J J) ?_
   refine .sA (.pickT J J J) (.nil ?_)
   refine .cT J (fun h3 => ?_) fun h3 => ?_
   ·rw [cen_first hlt hk.2 (Prod.ext e1 h3)]
    refine .sr (.sA (.fieldAddr J YaX J) ?_)
    refine .sA (.load J sc_3 J) ?_
    refine .aN ?_
    refine .ret (rD J ?_)
    all_goals (rfl)
   have HN := take_ne hlt hk.2 (fun e => h3 (congrArg Prod.snd e))
   refine .skip (.region (.sA (.add64 J J J) ?_))
   refine .mN ?_
   refine ⟨k + 1, ⟨by omega, HN⟩, (by dsimp only; omega), Sub.less ⟨U, U, U, U, U, trivial⟩ (fun _ h => h)⟩
  have HN := take_ne hlt hk.2 (fun e => g2 (congrArg Prod.fst e))
  refine .pA ?_
  refine .pA ?_
  refine .pA ?_
  refine .pA ?_
  refine .sA (.pickF J J J) (.nil ?_)
  refine .cond J (fun h => nomatch h) (fun _ => ?_)
  refine .skip (.region (.sA (.add64 J J J) ?_))
  refine .mN ?_
  refine ⟨k + 1, ⟨by omega, HN⟩, (by dsimp only; omega), Sub.less ⟨U, U, U, U, U, trivial⟩ (fun _ h => h)⟩
 rw [ZlM] at h1
 obtain rfl : k = l.length := by omega
 rw [cen_0 (by have := hk.2; rwa [List.take_length] at this)]
 refine .exit (.sr (.aN ?_))
 refine .ret (rD J ?_)
 all_goals (rfl)
theorem c_rel (c : Ctr) (next : Int) (S : List Sal) (L : List Hld) (nm : ByteArray) (ok : Hls L) (hl : L.length <= 200000) : XCall Tryz.prog 98 [.ptr 600 0, .d (.v (.string nm))] [isC c next S, isH L] [isC c next S, isH (delH L (nm, next))] (fun i => Nat.beq i 502) (.v (.int .i64 (cenH L (nm, next)))) := by
 refine xcall_of (n := 49) (ds' := [.v (.int .i64 (cenH L (nm, next)))]) Tryz.func98 J (by kernel_rfl) J [4] J J ?_
 intro B w0 F0 fr ρ0
 refine .sr (.aN ?_)
 refine .seq (.draw (by kernel_rfl) (by kernel_rfl) ?_)
 refine .sA (.moveP J J) (.sA (.nilCheckP J J) (.sA (.fieldAddrP J Yav J) (.sA (.fieldAddrP J YaJ J) (.sA (.loadP J Ycn J (.head _) J) (.sA (.moveD J J) ?_)))))
 refine .sA (.moveP J J) (.sA (.nilCheckP J J) (.sA (.fieldAddrP J Yav J) (.sA (.fieldAddrP J YaB J) (.sA (.loadP J sc_3 J (.head _) J) (.sA (.build J bu_105 (.cons J J (.cons J J .nil)) J) ?_)))))
 refine .sA (.callSnap J (.cons J (.row (.tail _ (.head _))) (.cons J (.d _) (.cons J (snap_fn _) .nil))) (c_bsH L (⟨nm, next, 0⟩ : Hld) (by omega)) (plain2 _ _)) ?_
 refine .sA (.moveD J J) (.sA (.extract J J J) (.sA (.extract J J J) (.sA (.assignD J J) (.sA (.assignD J J) ?_))))
 refine .nil ?_
 refine .seq (.sr (.mA ?_))
 refine .sA (.not J J) (.nil ?_)
 refine .cond J (fun h1 => ?_) (fun h1 => ?_)
 ·replace h1 := Ybb h1
  have hf := hasH_not ok (⟨nm, next, 0⟩ : Hld) (by simpa using h1)
  rw [del_none (k := (nm, next)) hf, cen_0 (key := (nm, next)) hf]
  refine .sr (.aN ?_)
  refine .ret ?_
  refine ⟨⟨RetDX.eq J ?_, trivial⟩, ⟨Yac (.head _) ?_, Yac (.tail _ (.head _)) ?_, trivial⟩⟩
  all_goals (first | rfl | rw [ZmA, List.map_take, List.map_drop])
 replace h1 := Ybc h1
 obtain ⟨hp, hk⟩ := hasH_mem ok (⟨nm, next, 0⟩ : Hld) (by simpa using h1)
 have hk2 : L[posH L (⟨nm, next, 0⟩ : Hld)].key = (nm, next) := hk
 have HD := del_at ok hp hk2
 have HC : cenH L (nm, next) = L[posH L (⟨nm, next, 0⟩ : Hld)].cents := by unfold cenH; rw [<- hk2, cen_some ok (ZgM hp)]; rfl
 rw [HC, HD]
 refine .skip (.sr (.sA (.moveP J J) ?_))
 refine .sA (.nilCheckP J J) (.sA (.fieldAddrP J Yav J) (.sA (.fieldAddrP J YaJ J) (.sA (.loadP J Ycn J (.head _) J) ?_)))
 refine .mA ?_
 refine .sA (.indexOwn J et_38 J J (.tail _ (.head _)) (posH L (⟨nm, next, 0⟩ : Hld)) J (by rw [ZlM]; exact hp)) ?_
 refine .sA (.fieldAddrP J YaX J) (.sA (.loadRow J sc_3 J (.tail _ (.head _)) (posH L (⟨nm, next, 0⟩ : Hld)) 2 J (Yad hp) J) ?_)
 refine .aN ?_
 refine .sr (.sA (.moveP J J) ?_)
 refine .sA (.moveP J J) (.sA (.nilCheckP J J) (.sA (.fieldAddrP J Yav J) (.sA (.fieldAddrP J YaJ J) (.sA (.loadP J Ycn J (.head _) J) ?_))))
 refine .mA ?_
 refine .mA ?_
 refine .sA (.add64 J J J) ?_
 refine .delH J J J J J J (.tail _ (.head _)) J (k := posH L (⟨nm, next, 0⟩ : Hld)) J (by rw [ZlM]; exact hp) J J ?_
 refine .sA (.nilCheckP J J) (.sA (.fieldAddrP J Yav J) (.sA (.fieldAddrP J YaJ J) ?_))
 refine .storeS J J J sz_38 J (.tail _ (.head _)) J (.head _) (ZnB J) (.nil ?_)
 refine .sr (.mA ?_)
 refine .aN ?_
 refine .ret ?_
 refine ⟨⟨RetDX.eq J ?_, trivial⟩, ⟨Yac (.tail _ (.head _)) ?_, Yac (.head _) ?_, trivial⟩⟩
 all_goals (first | rfl | rw [ZmA, List.map_take, List.map_drop])
theorem c_hold (c : Ctr) (next : Int) (S : List Sal) (L : List Hld) (nm : ByteArray) (p w : Int) (ok : Hls L) (hl : L.length <= 200000) (hw : 0 <= w /\ w <= 20000000000000000) (hc : 0 <= cenH L (nm, p) /\ cenH L (nm, p) <= 1000000000000) : XCall Tryz.prog 99 [.ptr 600 0, .d (.agg (⟨nm, p, w⟩ : Hld).ds)] [isC c next S, isH L] [isC c next S, isH (if w = 0 then L else addH L (⟨nm, p, w⟩ : Hld))] (fun i => Nat.beq i 502 || Nat.ble 1000 i) (.v (.int .i64 (if w ≠ 0 /\ 1000000000000 < cenH L (nm, p) + w then 2 else 0))) := by
 refine xcall_of (n := 63) (ds' := [.v (.int .i64 (if w ≠ 0 /\ 1000000000000 < cenH L (nm, p) + w then 2 else 0))]) Tryz.func99 J (by kernel_rfl) J [4] J J ?_
 intro B w0 F0 fr ρ0
 obtain ⟨M, N, hM1, hM2, hMl, hp, hMc, hN, HA, hp2, hNc⟩ := hold_place ok (⟨nm, p, w⟩ : Hld)
 have hple := posH_le L (⟨nm, p, w⟩ : Hld)
 have hT2 : (⟨nm, p, w⟩ : Hld).key = (nm, p) := rfl
 rw [hT2] at hMc hNc
 dsimp only at hM2 hN hNc
 refine .sr (.sA (.box J J J) ?_)
 refine .aN ?_
 refine .seq (.sr (.sA (.fieldAddr J YaX J) ?_))
 refine .sA (.load J sc_3 J) ?_
 refine .sA (.eql J J J) (.nil ?_)
 refine .cT J (fun h1 => ?_) fun h1 => ?_
 ·have h0 : w = 0 := h1
  rw [if_neg (show ¬ (w ≠ 0 /\ 1000000000000 < cenH L (nm, p) + w) from fun hh => hh.1 h0), if_pos h0]
  refine .sr (.aN ?_)
  refine .ret ?_
  refine ⟨⟨RetDX.eq J ?_, trivial⟩, ⟨Yac (.head _) ?_, Yac (.tail _ (.head _)) ?_, trivial⟩⟩
  all_goals (first | rfl | rw [HA])
 have h0 : ¬ w = 0 := h1
 rw [if_neg h0]
 refine .skip (.seq (.draw (by kernel_rfl) (by kernel_rfl) ?_))
 refine .sA (.moveP J J) (.sA (.nilCheckP J J) (.sA (.fieldAddrP J Yav J) (.sA (.fieldAddrP J YaJ J) (.sA (.loadP J Ycn J (.head _) J) (.sA (.loadAgg J Ybk J J) ?_)))))
 refine .sA (.callSnap J (.cons J (.row (.tail _ (.head _))) (.cons J (.d _) (.cons J (snap_fn _) .nil))) (c_bsH L (⟨nm, p, w⟩ : Hld) (by omega)) (plain2 _ _)) ?_
 refine .sA (.moveD J J) (.sA (.extract J J J) (.sA (.extract J J J) (.sA (.assignD J J) (.sA (.assignD J J) ?_))))
 refine .nil ?_
 refine .seq (.sr (.mA ?_))
 refine .sA (.not J J) (.nil ?_)
 refine .cond J (fun h2 => ?_) (fun h2 => ?_)
 ·replace h2 := Ybb h2
  have hb0 : hasH L (⟨nm, p, w⟩ : Hld) = false := by simpa using h2
  have hb : M.map Hld.ds = (L.map Hld.ds).take (posH L (⟨nm, p, w⟩ : Hld)) ++ [(⟨nm, p, 0⟩ : Hld).ds] ++ (L.map Hld.ds).drop (posH L (⟨nm, p, w⟩ : Hld)) := by rw [hM2 hb0, ZmA, ZmA, List.map_take, List.map_drop]; rfl
  refine .drawFreshL 13 [0] [⟨34, 1171, .own 1171, .row 105 3 [(⟨nm, p, 0⟩ : Hld).ds]⟩] (FrOk.one rfl (by simp) rfl rfl rfl) (by kernel_rfl) (by kernel_rfl) (by kernel_rfl) (by kernel_rfl) (by kernel_rfl) ?_
  refine .step J J J (.moveP J J) ?_
  refine .step J J J (.moveP J J) ?_
  refine .step J J J (.nilCheckP J J) ?_
  refine .step J J J (.fieldAddrP J Yav J) ?_
  refine .step J J J (.fieldAddrP J YaJ J) ?_
  refine .step J J J (.loadP J Ycn J (.head _) J) ?_
  refine .step J J J (.moveD J J) ?_
  refine .step J J J (.fieldAddr J Ybn J) ?_
  refine .step J J J (.load J sc_9 J) ?_
  refine .step J J J (.fieldAddr J Ybf J) ?_
  refine .step J J J (.load J sc_3 J) ?_
  refine .step J J J (.build J bu_105 (.cons J J (.cons J J .nil)) J) ?_
  refine .buildS _ (.head _) J J J J J et_38 J J J J J J ?_
  refine .nil ⟨J, trivial⟩ ?_
  -- inserts into 502
  refine .insertK (id := 502) (idx := 1171) (k := (posH L (⟨nm, p, w⟩ : Hld))) InsH.insT J J J J J (.tail _ (.tail _ (.head _))) J J (by rw [ZlM]; exact hple) J (.head _) (by decide) (by rw [ZlM]; omega) ?_
  refine .sA (.nilCheckP J J) (.sA (.fieldAddrP J Yav J) (.sA (.fieldAddrP J YaJ J) ?_))
  refine .storeS J J J sz_38 J (.tail _ (.tail _ (.head _))) J (.head _) (ZnB J) (.nil ?_)
  refine .seq (.obs (σ' := [isC c next S, isH M]) (in2 (.tail _ (.tail _ (.head _))) (Yac (.head _) (by rw [hb]))) ?_)
  refine .drawG (fun k => (Nat.beq k 14) || (Nat.beq k 4 || Nat.beq k 6 || Nat.beq k 8 || Nat.beq k 12)) (fun k => Nat.beq k 14) (fun k h => ZbO.2 (.inl h)) (by kernel_rfl) (by kernel_rfl) (by kernel_rfl) ?_
  refine .step J J J (fun _ => AOp.moveP J J) ?_
  refine .step J J J (fun _ => AOp.nilCheckP J J) ?_
  refine .step J J J (fun _ => AOp.fieldAddrP J Yav J) ?_
  refine .step J J J (fun _ => AOp.fieldAddrP J YaJ J) ?_
  refine .stepS J J J J (.loadP J Ycn J (.head _) J) ?_
  refine .step J J J (fun _ => AOp.moveD J J) ?_
  refine .stepS J J J J (.indexOwn J et_38 J J (.tail _ (.head _)) (posH L (⟨nm, p, w⟩ : Hld)) J (by rw [ZlM]; exact hp)) ?_
  refine .step J J J (fun _ => AOp.fieldAddrP J YaX J) ?_
  refine .stepS J J J J (.loadRow J sc_3 J (.tail _ (.head _)) (posH L (⟨nm, p, w⟩ : Hld)) 2 J (Yad hp) J) ?_
  refine .step J J J (fun _ => AOp.fieldAddr J YaX J) ?_
  refine .step J J J (fun _ => AOp.load J sc_3 J) ?_
  refine .step rfl rfl rfl (fun _ => AOp.add64 rfl rfl rfl (by dsimp only; omega) (by dsimp only; omega)) ?_
  refine .stepS J J J J (.indexOwn J et_38 J J (.tail _ (.head _)) (posH L (⟨nm, p, w⟩ : Hld)) J (by rw [ZlM]; exact hp)) ?_
  refine .step J J J (fun _ => AOp.fieldAddrP J YaX J) ?_
  refine .eff J J J (.storeRow J J sz_3 J (.tail _ (.head _)) J J J (posH L (⟨nm, p, w⟩ : Hld)) 2 J (Yad hp) (ZnB J)) ?_
  refine .nil ?_
  refine .seq (.seq (.obs (σ' := [isC c next S, isH N]) (in2 (.head _) (Yac (.tail _ (.head _)) (by rw [hN, <- set_ds hp]; rfl))) ?_))
  refine .region (.sA (.moveP J J) ?_)
  refine .sA (.nilCheckP J J) (.sA (.fieldAddrP J Yav J) (.sA (.fieldAddrP J YaJ J) (.sA (.loadP J Ycn J (.head _) J) ?_)))
  refine .mA ?_
  refine .sA (.indexOwn J et_38 J J (.tail _ (.head _)) (posH L (⟨nm, p, w⟩ : Hld)) J (by rw [ZlM]; exact hp2)) ?_
  refine .sA (.fieldAddrP J YaX J) (.sA (.loadRow J sc_3 J (.tail _ (.head _)) (posH L (⟨nm, p, w⟩ : Hld)) 2 J (Yad hp2) J) ?_)
  refine .sA (.gtr J J J) (.nil ?_)
  refine .cT J (fun h3 => ?_) fun h3 => ?_
  ·rw [if_pos (show w ≠ 0 /\ 1000000000000 < cenH L (nm, p) + w from ⟨h0, by omega⟩)]
   refine .sr (.aN ?_)
   refine .ret ?_
   refine ⟨⟨RetDX.eq J ?_, trivial⟩, ⟨Yac (.head _) ?_, Yac (.tail _ (.head _)) ?_, trivial⟩⟩
   all_goals (first | rfl | rw [HA])
  rw [if_neg (show ¬ (w ≠ 0 /\ 1000000000000 < cenH L (nm, p) + w) from fun hh => absurd hh.2 (by omega))]
  refine .skip (.sr (.aN ?_))
  refine .ret ?_
  refine ⟨⟨RetDX.eq J ?_, trivial⟩, ⟨Yac (.head _) ?_, Yac (.tail _ (.head _)) ?_, trivial⟩⟩
  all_goals (first | rfl | rw [HA])
 replace h2 := Ybc h2
 have hb0 : hasH L (⟨nm, p, w⟩ : Hld) = true := by simpa using h2
 have hb := hM1 hb0
 refine .skip (.seq (.obs (σ' := [isC c next S, isH M]) (in2 (.head _) (Yac (.tail _ (.head _)) (by rw [hb]))) ?_))
 refine .drawG (fun k => (Nat.beq k 14) || (Nat.beq k 4 || Nat.beq k 6 || Nat.beq k 8 || Nat.beq k 12)) (fun k => Nat.beq k 14) (fun k h => ZbO.2 (.inl h)) (by kernel_rfl) (by kernel_rfl) (by kernel_rfl) ?_
 refine .step J J J (fun _ => AOp.moveP J J) ?_
 refine .step J J J (fun _ => AOp.nilCheckP J J) ?_
 refine .step J J J (fun _ => AOp.fieldAddrP J Yav J) ?_
 refine .step J J J (fun _ => AOp.fieldAddrP J YaJ J) ?_
 refine .stepS J J J J (.loadP J Ycn J (.head _) J) ?_
 refine .step J J J (fun _ => AOp.moveD J J) ?_
 refine .stepS J J J J (.indexOwn J et_38 J J (.tail _ (.head _)) (posH L (⟨nm, p, w⟩ : Hld)) J (by rw [ZlM]; exact hp)) ?_
 refine .step J J J (fun _ => AOp.fieldAddrP J YaX J) ?_
 refine .stepS J J J J (.loadRow J sc_3 J (.tail _ (.head _)) (posH L (⟨nm, p, w⟩ : Hld)) 2 J (Yad hp) J) ?_
 refine .step J J J (fun _ => AOp.fieldAddr J YaX J) ?_
 refine .step J J J (fun _ => AOp.load J sc_3 J) ?_
 refine .step rfl rfl rfl (fun _ => AOp.add64 rfl rfl rfl (by dsimp only; omega) (by dsimp only; omega)) ?_
 refine .stepS J J J J (.indexOwn J et_38 J J (.tail _ (.head _)) (posH L (⟨nm, p, w⟩ : Hld)) J (by rw [ZlM]; exact hp)) ?_
 refine .step J J J (fun _ => AOp.fieldAddrP J YaX J) ?_
 refine .eff J J J (.storeRow J J sz_3 J (.tail _ (.head _)) J J J (posH L (⟨nm, p, w⟩ : Hld)) 2 J (Yad hp) (ZnB J)) ?_
 refine .nil ?_
 refine .seq (.seq (.obs (σ' := [isC c next S, isH N]) (in2 (.head _) (Yac (.tail _ (.head _)) (by rw [hN, <- set_ds hp]; rfl))) ?_))
 refine .region (.sA (.moveP J J) ?_)
 refine .sA (.nilCheckP J J) (.sA (.fieldAddrP J Yav J) (.sA (.fieldAddrP J YaJ J) (.sA (.loadP J Ycn J (.head _) J) ?_)))
 refine .mA ?_
 refine .sA (.indexOwn J et_38 J J (.tail _ (.head _)) (posH L (⟨nm, p, w⟩ : Hld)) J (by rw [ZlM]; exact hp2)) ?_
 refine .sA (.fieldAddrP J YaX J) (.sA (.loadRow J sc_3 J (.tail _ (.head _)) (posH L (⟨nm, p, w⟩ : Hld)) 2 J (Yad hp2) J) ?_)
 refine .sA (.gtr J J J) (.nil ?_)
 refine .cT J (fun h4 => ?_) fun h4 => ?_
 ·rw [if_pos (show w ≠ 0 /\ 1000000000000 < cenH L (nm, p) + w from ⟨h0, by omega⟩)]
  refine .sr (.aN ?_)
  refine .ret ?_
  refine ⟨⟨RetDX.eq J ?_, trivial⟩, ⟨Yac (.head _) ?_, Yac (.tail _ (.head _)) ?_, trivial⟩⟩
  all_goals (first | rfl | rw [HA])
 rw [if_neg (show ¬ (w ≠ 0 /\ 1000000000000 < cenH L (nm, p) + w) from fun hh => absurd hh.2 (by omega))]
 refine .skip (.sr (.aN ?_))
 refine .ret ?_
 refine ⟨⟨RetDX.eq J ?_, trivial⟩, ⟨Yac (.head _) ?_, Yac (.tail _ (.head _)) ?_, trivial⟩⟩
 all_goals (first | rfl | rw [HA])
end
end Go.Proofs.YtcfamaddnmnaeaaGreatDoor
namespace Go.Proofs
open Go.Shelf
def Tryz.sortSale_ren : Go.Shelf.Ren := ⟨fun | 6 => 87 | 15 => 115 | 14 => 132 | 28 => 155 | 29 => 156 | 20 => 181 | 21 => 182 | 22 => 183 | 23 => 184 | 24 => 185 | 25 => 186 | 26 => 187 | 27 => 188 | 46 => 228 | 47 => 206 | 48 => 207 | 49 => 229 | 50 => 230 | 57 => 248 | n => n, fun | 22 => 97 | 24 => 167 | 25 => 174 | 3 => 3 | 39 => 196 | 0 => 0 | 53 => 232 | 55 => 234 | 4 => 4 | 46 => 226 | 45 => 225 | 50 => 141 | 5 => 5 | 9 => 9 | 66 => 267 | 70 => 271 | 76 => 294 | 77 => 295 | n => n, fun | n => n⟩
theorem Tryz.sortSale : Go.Proofs.SlLaysF0.n6 Tryz.prog Tryz.sortSale_ren := {
 mixed := by kernel_rfl
 f6 := ⟨Tryz.f87.name, by decide, ZfC Tryz.func87⟩
 f14 := ⟨Tryz.f132.name, by decide, ZfC Tryz.func132⟩
 f15 := ZfC Tryz.func115
 f20 := ⟨Tryz.f181.name, by decide, ZfC Tryz.func181⟩
 f21 := ⟨Tryz.f182.name, by decide, ZfC Tryz.func182⟩
 f22 := ⟨Tryz.f183.name, by decide, ZfC Tryz.func183⟩
 f23 := ⟨Tryz.f184.name, by decide, ZfC Tryz.func184⟩
 f24 := ⟨Tryz.f185.name, by decide, ZfC Tryz.func185⟩
 f25 := ⟨Tryz.f186.name, by decide, ZfC Tryz.func186⟩
 f26 := ⟨Tryz.f187.name, by decide, ZfC Tryz.func187⟩
 f27 := ⟨Tryz.f188.name, by decide, ZfC Tryz.func188⟩
 f28 := ZfC Tryz.func155
 f29 := ZfC Tryz.func156
 f46 := ⟨Tryz.f228.name, by decide, ZfC Tryz.func228⟩
 f47 := ZfC Tryz.func206
 f48 := ZfC Tryz.func207
 f49 := ⟨Tryz.f229.name, by decide, ZfC Tryz.func229⟩
 f50 := ⟨Tryz.f230.name, by decide, ZfC Tryz.func230⟩
 f57 := ⟨Tryz.f248.name, by decide, ZfC Tryz.func248⟩
 t0 := Tryz.underlying0
 a0 := Tryz.isAgg0
 z0 := Tryz.sizeOf0
 v0 := Tryz.zeroValue0
 t3 := Tryz.underlying3
 a3 := Tryz.isAgg3
 z3 := Tryz.sizeOf3
 v3 := Tryz.zeroValue3
 t4 := Tryz.underlying4
 a4 := Tryz.isAgg4
 z4 := Tryz.sizeOf4
 v4 := Tryz.zeroValue4
 t5 := Tryz.underlying5
 a5 := Tryz.isAgg5
 z5 := Tryz.sizeOf5
 v5 := Tryz.zeroValue5
 t9 := Tryz.underlying9
 a9 := Tryz.isAgg9
 z9 := Tryz.sizeOf9
 v9 := Tryz.zeroValue9
 t22 := Tryz.underlying97
 a22 := Tryz.isAgg97
 z22 := Tryz.sizeOf97
 v22 := Tryz.zeroValue97
 t25 := Tryz.underlying174
 a25 := Tryz.isAgg174
 z25 := Tryz.sizeOf174
 v25 := Tryz.zeroValue174
 t39 := Tryz.underlying196
 a39 := Tryz.isAgg196
 z39 := Tryz.sizeOf196
 v39 := Tryz.zeroValue196
 t45 := Tryz.underlying225
 a45 := Tryz.isAgg225
 z45 := Tryz.sizeOf225
 v45 := Tryz.zeroValue225
 t46 := Tryz.underlying226
 a46 := Tryz.isAgg226
 z46 := Tryz.sizeOf226
 v46 := Tryz.zeroValue226
 t50 := Tryz.underlying141
 a50 := Tryz.isAgg141
 z50 := Tryz.sizeOf141
 v50 := Tryz.zeroValue141
 t53 := Tryz.underlying232
 a53 := Tryz.isAgg232
 z53 := Tryz.sizeOf232
 v53 := Tryz.zeroValue232
 t55 := Tryz.underlying234
 a55 := Tryz.isAgg234
 z55 := Tryz.sizeOf234
 v55 := Tryz.zeroValue234
 t66 := Tryz.underlying267
 a66 := Tryz.isAgg267
 z66 := Tryz.sizeOf267
 v66 := Tryz.zeroValue267
 t70 := Tryz.underlying271
 a70 := Tryz.isAgg271
 z70 := Tryz.sizeOf271
 v70 := Tryz.zeroValue271
 t76 := Tryz.underlying294
 a76 := Tryz.isAgg294
 z76 := Tryz.sizeOf294
 v76 := Tryz.zeroValue294
 t77 := Tryz.underlying295
 a77 := Tryz.isAgg295
 z77 := Tryz.sizeOf295
 v77 := Tryz.zeroValue295 }
def Tryz.sortUnk_ren : Go.Shelf.Ren := ⟨fun | 6 => 90 | 15 => 115 | 14 => 133 | 28 => 155 | 29 => 156 | 20 => 189 | 21 => 190 | 22 => 191 | 23 => 192 | 24 => 193 | 25 => 194 | 26 => 195 | 27 => 196 | 46 => 231 | 47 => 206 | 48 => 207 | 49 => 232 | 50 => 233 | 57 => 249 | n => n, fun | 22 => 98 | 24 => 171 | 25 => 177 | 3 => 3 | 39 => 196 | 0 => 0 | 53 => 232 | 55 => 234 | 4 => 4 | 46 => 226 | 45 => 225 | 50 => 141 | 5 => 5 | 9 => 9 | 66 => 267 | 70 => 271 | 76 => 294 | 77 => 295 | n => n, fun | n => n⟩
theorem Tryz.sortUnk : Go.Proofs.SlLaysF0.n6 Tryz.prog Tryz.sortUnk_ren := {
 mixed := by kernel_rfl
 f6 := ⟨Tryz.f90.name, by decide, ZfC Tryz.func90⟩
 f14 := ⟨Tryz.f133.name, by decide, ZfC Tryz.func133⟩
 f15 := ZfC Tryz.func115
 f20 := ⟨Tryz.f189.name, by decide, ZfC Tryz.func189⟩
 f21 := ⟨Tryz.f190.name, by decide, ZfC Tryz.func190⟩
 f22 := ⟨Tryz.f191.name, by decide, ZfC Tryz.func191⟩
 f23 := ⟨Tryz.f192.name, by decide, ZfC Tryz.func192⟩
 f24 := ⟨Tryz.f193.name, by decide, ZfC Tryz.func193⟩
 f25 := ⟨Tryz.f194.name, by decide, ZfC Tryz.func194⟩
 f26 := ⟨Tryz.f195.name, by decide, ZfC Tryz.func195⟩
 f27 := ⟨Tryz.f196.name, by decide, ZfC Tryz.func196⟩
 f28 := ZfC Tryz.func155
 f29 := ZfC Tryz.func156
 f46 := ⟨Tryz.f231.name, by decide, ZfC Tryz.func231⟩
 f47 := ZfC Tryz.func206
 f48 := ZfC Tryz.func207
 f49 := ⟨Tryz.f232.name, by decide, ZfC Tryz.func232⟩
 f50 := ⟨Tryz.f233.name, by decide, ZfC Tryz.func233⟩
 f57 := ⟨Tryz.f249.name, by decide, ZfC Tryz.func249⟩
 t0 := Tryz.underlying0
 a0 := Tryz.isAgg0
 z0 := Tryz.sizeOf0
 v0 := Tryz.zeroValue0
 t3 := Tryz.underlying3
 a3 := Tryz.isAgg3
 z3 := Tryz.sizeOf3
 v3 := Tryz.zeroValue3
 t4 := Tryz.underlying4
 a4 := Tryz.isAgg4
 z4 := Tryz.sizeOf4
 v4 := Tryz.zeroValue4
 t5 := Tryz.underlying5
 a5 := Tryz.isAgg5
 z5 := Tryz.sizeOf5
 v5 := Tryz.zeroValue5
 t9 := Tryz.underlying9
 a9 := Tryz.isAgg9
 z9 := Tryz.sizeOf9
 v9 := Tryz.zeroValue9
 t22 := Tryz.underlying98
 a22 := Tryz.isAgg98
 z22 := Tryz.sizeOf98
 v22 := Tryz.zeroValue98
 t25 := Tryz.underlying177
 a25 := Tryz.isAgg177
 z25 := Tryz.sizeOf177
 v25 := Tryz.zeroValue177
 t39 := Tryz.underlying196
 a39 := Tryz.isAgg196
 z39 := Tryz.sizeOf196
 v39 := Tryz.zeroValue196
 t45 := Tryz.underlying225
 a45 := Tryz.isAgg225
 z45 := Tryz.sizeOf225
 v45 := Tryz.zeroValue225
 t46 := Tryz.underlying226
 a46 := Tryz.isAgg226
 z46 := Tryz.sizeOf226
 v46 := Tryz.zeroValue226
 t50 := Tryz.underlying141
 a50 := Tryz.isAgg141
 z50 := Tryz.sizeOf141
 v50 := Tryz.zeroValue141
 t53 := Tryz.underlying232
 a53 := Tryz.isAgg232
 z53 := Tryz.sizeOf232
 v53 := Tryz.zeroValue232
 t55 := Tryz.underlying234
 a55 := Tryz.isAgg234
 z55 := Tryz.sizeOf234
 v55 := Tryz.zeroValue234
 t66 := Tryz.underlying267
 a66 := Tryz.isAgg267
 z66 := Tryz.sizeOf267
 v66 := Tryz.zeroValue267
 t70 := Tryz.underlying271
 a70 := Tryz.isAgg271
 z70 := Tryz.sizeOf271
 v70 := Tryz.zeroValue271
 t76 := Tryz.underlying294
 a76 := Tryz.isAgg294
 z76 := Tryz.sizeOf294
 v76 := Tryz.zeroValue294
 t77 := Tryz.underlying295
 a77 := Tryz.isAgg295
 z77 := Tryz.sizeOf295
 v77 := Tryz.zeroValue295 }
def Tryz.cmpI_ren : Go.Shelf.Ren := ⟨fun | 5 => 80 | 7 => 126 | n => n, fun | 22 => 3 | 3 => 3 | 4 => 4 | n => n, fun | n => n⟩
theorem Tryz.cmpI : Go.Proofs.SlLaysC2.n5 Tryz.prog Tryz.cmpI_ren := {
 mixed := by kernel_rfl
 f5 := ⟨Tryz.f80.name, by decide, ZfC Tryz.func80⟩
 f7 := ⟨Tryz.f126.name, by decide, ZfC Tryz.func126⟩
 t3 := Tryz.underlying3
 a3 := Tryz.isAgg3
 z3 := Tryz.sizeOf3
 v3 := Tryz.zeroValue3
 t4 := Tryz.underlying4
 a4 := Tryz.isAgg4
 z4 := Tryz.sizeOf4
 v4 := Tryz.zeroValue4
 t22 := Tryz.underlying3
 a22 := Tryz.isAgg3
 z22 := Tryz.sizeOf3
 v22 := Tryz.zeroValue3 }
end Go.Proofs
namespace Go.Proofs.YtcfamaddnmnaeaaGreatDoor
section
open Go.RowKit Go.Shelf Go.Lib Go.Sort
theorem or2 (a b : Int) (blk : Nat) (W : World) (h0 : W.cell? ⟨blk, 0, none⟩ = some (.int .i64 a)) (h1 : W.cell? ⟨blk, 1, none⟩ = some (.int .i64 b)) :
 Calls Tryz.prog 89 #[.slice (some ⟨blk, 0, none⟩) 2 2] W fun e w' => e = .returned (.int .i64 (if a = 0 then b else a)) /\ w' = W := by
 go_enter Tryz.func89, Tryz.ntmps89
 go_wp2
 refine wp_loop_rounds 3 ?_
 rw [rounds_succ]
 by_cases ha : a = 0
 ·subst ha
  go_wp2
  rw [rounds_succ]
  by_cases hb : b = 0
  ·subst hb
   go_wp2
   rw [rounds_succ]
   go_wp2
   go_ret
   exact ⟨J, J⟩
  ·go_wp2
   go_ret
   exact ⟨J, J⟩
 ·go_wp2
  go_ret
  exact ⟨J, J⟩
theorem or3 (a b c : Int) (blk : Nat) (W : World) (h0 : W.cell? ⟨blk, 0, none⟩ = some (.int .i64 a)) (h1 : W.cell? ⟨blk, 1, none⟩ = some (.int .i64 b)) (h2 : W.cell? ⟨blk, 2, none⟩ = some (.int .i64 c)) :
 Calls Tryz.prog 89 #[.slice (some ⟨blk, 0, none⟩) 3 3] W fun e w' => e = .returned (.int .i64 (if a = 0 then (if b = 0 then c else b) else a)) /\ w' = W := by
 go_enter Tryz.func89, Tryz.ntmps89
 go_wp2
 refine wp_loop_rounds 4 ?_
 rw [rounds_succ]
 by_cases ha : a = 0
 ·subst ha
  go_wp2
  rw [rounds_succ]
  by_cases hb : b = 0
  ·subst hb
   go_wp2
   rw [rounds_succ]
   by_cases hc : c = 0
   ·subst hc
    go_wp2
    rw [rounds_succ]
    go_wp2
    go_ret
    exact ⟨J, J⟩
   ·go_wp2
    go_ret
    exact ⟨J, J⟩
  ·go_wp2
   go_ret
   exact ⟨J, J⟩
 ·go_wp2
  go_ret
  exact ⟨J, J⟩
theorem cmpI_any (a b : Int) (W : World) : Calls Tryz.prog 80 #[.int .i64 a, .int .i64 b] W fun e w' => e = .returned (.int .i64 (Yb3 a b)) /\ w' = W := AnyG.cmp_Compare_int Tryz.cmpI a b W
theorem cmpB_any (a b : ByteArray) (W : World) : Calls Tryz.prog 92 #[.string a, .string b] W fun e w' => e = .returned (.int .i64 (Yax a b)) /\ w' = W := Any.strings_Compare Tryz.l106 a b W
theorem cmpS_any (x1 x2 y1 y2 : Int) (x3 x4 y3 y4 : Value) (W : World) : Calls Tryz.prog 88 #[.agg #[.int .i64 x1, .int .i64 x2, x3, x4], .agg #[.int .i64 y1, .int .i64 y2, y3, y4]] W fun e w' => e = .returned (.int .i64 (if Yb3 x1 y1 = 0 then Yb3 x2 y2 else Yb3 x1 y1)) /\ ∃ q os', w' = grow (W.drewN q) os' := by
 have hcon := fun W' => cmpI_any x1 y1 W'
 have hcon2 := fun W' => cmpI_any x2 y2 W'
 have hor := or2 (Yb3 x1 y1) (Yb3 x2 y2)
 generalize Yb3 x1 y1 = r at *
 generalize Yb3 x2 y2 = s at *
 have hor2 : ∀ (X : World) (b e : Nat), b = X.heap.size -> Calls Tryz.prog 89 #[.slice (some ⟨b, 0, none⟩) 2 2] (X.alloc (.cells #[.int .i64 r, .int .i64 s] e)) fun e' w' => e' = .returned (.int .i64 (if r = 0 then s else r)) /\ w' = X.alloc (.cells #[.int .i64 r, .int .i64 s] e) :=
  fun X b e hb => hor b _ (cell_top hb rfl) (cell_top hb rfl)
 clear hor
 generalize (if r = 0 then s else r) = t at hor2 ⊢
 go_enter Tryz.func88, Tryz.ntmps88
 go_wp2
 generalize hW2 : (W.alloc (Obj.cells #[Value.int IntKind.i64 x1, Value.int IntKind.i64 x2, x3, x4] 167)).alloc (Obj.cells #[Value.int IntKind.i64 y1, Value.int IntKind.i64 y2, y3, y4] 167) = W2
 have c1 : W2.cell? ⟨W.heap.size, 0, none⟩ = some (.int .i64 x1) := by rw [<- hW2]; simp [go_sem]
 have c2 : W2.cell? ⟨W.heap.size, 1, none⟩ = some (.int .i64 x2) := by rw [<- hW2]; simp [go_sem]
 have c3 : W2.cell? ⟨W.heap.size + 1, 0, none⟩ = some (.int .i64 y1) := by rw [<- hW2]; simp [go_sem]
 have c4 : W2.cell? ⟨W.heap.size + 1, 1, none⟩ = some (.int .i64 y2) := by rw [<- hW2]; simp [go_sem]
 have hG : ∃ os, W2 = grow W os := ⟨_, by rw [<- hW2, alloc_eq_grow, alloc_eq_grow, grow_grow]⟩
 clear hW2
 refine wp_region_still_tail 10 (by kernel_rfl) (by kernel_rfl) ?_
 simp only [List.take_succ_cons, List.take_zero, List.drop_succ_cons, List.drop_zero]
 have e3 : ({ W2 with drawn := W2.drawn + 1 } : World) = W2.drew := rfl
 simp only [e3]
 have c1' : W2.drew.cell? ⟨W.heap.size, 0, none⟩ = some (.int .i64 x1) := c1
 have c2' : W2.drew.cell? ⟨W.heap.size, 1, none⟩ = some (.int .i64 x2) := c2
 have c3' : W2.drew.cell? ⟨W.heap.size + 1, 0, none⟩ = some (.int .i64 y1) := c3
 have c4' : W2.drew.cell? ⟨W.heap.size + 1, 1, none⟩ = some (.int .i64 y2) := c4
 have hG' : ∃ q os, W2.drew = grow (W.drewN q) os := by obtain ⟨os, rfl⟩ := hG; exact ⟨1, os, rfl⟩
 clear c1 c2 c3 c4 hG e3
 generalize W2.drew = W3 at *
 still_step
 still_step
 still_step
 still_step
 still_call (hcon _)
 still_step
 still_step
 still_step
 still_step
 still_call (hcon2 _)
 refine wpStill_nil ?_
 clear hcon hcon2 c1' c2' c3' c4'
 go_wp2_with (go_at_call 89; refine (hor2 _ _ _ (by simp)).mono ?_; rintro e w' ⟨rfl, rfl⟩)
 go_ret
 obtain ⟨q, os, rfl⟩ := hG'
 exact ⟨J, q, _, by rw [alloc_eq_grow, grow_grow]⟩
theorem cmpU_any (x1 x2 y1 y2 : ByteArray) (x3 y3 : Int) (x4 x5 y4 y5 : Value) (W : World) : Calls Tryz.prog 91 #[.agg #[.string x1, .string x2, .int .i64 x3, x4, x5], .agg #[.string y1, .string y2, .int .i64 y3, y4, y5]] W fun e w' => e = .returned (.int .i64 (if Yax x1 y1 = 0 then (if Yax x2 y2 = 0 then Yb3 x3 y3 else Yax x2 y2) else Yax x1 y1)) /\ ∃ q os', w' = grow (W.drewN q) os' := by
 have hcon := fun W' => cmpB_any x1 y1 W'
 have hcon2 := fun W' => cmpB_any x2 y2 W'
 have hcon3 := fun W' => cmpI_any x3 y3 W'
 have hor := or3 (Yax x1 y1) (Yax x2 y2) (Yb3 x3 y3)
 generalize Yax x1 y1 = r at *
 generalize Yax x2 y2 = s at *
 generalize Yb3 x3 y3 = u at *
 have hor2 : ∀ (X : World) (b e : Nat), b = X.heap.size -> Calls Tryz.prog 89 #[.slice (some ⟨b, 0, none⟩) 3 3] (X.alloc (.cells #[.int .i64 r, .int .i64 s, .int .i64 u] e)) fun e' w' => e' = .returned (.int .i64 (if r = 0 then (if s = 0 then u else s) else r)) /\ w' = X.alloc (.cells #[.int .i64 r, .int .i64 s, .int .i64 u] e) :=
  fun X b e hb => hor b _ (cell_top hb rfl) (cell_top hb rfl) (cell_top hb rfl)
 clear hor
 generalize (if r = 0 then (if s = 0 then u else s) else r) = t at hor2 ⊢
 go_enter Tryz.func91, Tryz.ntmps91
 go_wp2
 generalize hW2 : (W.alloc (Obj.cells #[Value.string x1, Value.string x2, Value.int IntKind.i64 x3, x4, x5] 171)).alloc (Obj.cells #[Value.string y1, Value.string y2, Value.int IntKind.i64 y3, y4, y5] 171) = W2
 have c1 : W2.cell? ⟨W.heap.size, 0, none⟩ = some (.string x1) := by rw [<- hW2]; simp [go_sem]
 have c2 : W2.cell? ⟨W.heap.size, 1, none⟩ = some (.string x2) := by rw [<- hW2]; simp [go_sem]
 have c5 : W2.cell? ⟨W.heap.size, 2, none⟩ = some (.int .i64 x3) := by rw [<- hW2]; simp [go_sem]
 have c3 : W2.cell? ⟨W.heap.size + 1, 0, none⟩ = some (.string y1) := by rw [<- hW2]; simp [go_sem]
 have c4 : W2.cell? ⟨W.heap.size + 1, 1, none⟩ = some (.string y2) := by rw [<- hW2]; simp [go_sem]
 have c6 : W2.cell? ⟨W.heap.size + 1, 2, none⟩ = some (.int .i64 y3) := by rw [<- hW2]; simp [go_sem]
 have hG : ∃ os, W2 = grow W os := ⟨_, by rw [<- hW2, alloc_eq_grow, alloc_eq_grow, grow_grow]⟩
 clear hW2
 refine wp_region_still_tail 15 (by kernel_rfl) (by kernel_rfl) ?_
 simp only [List.take_succ_cons, List.take_zero, List.drop_succ_cons, List.drop_zero]
 have e3 : ({ W2 with drawn := W2.drawn + 1 } : World) = W2.drew := rfl
 simp only [e3]
 have c1' : W2.drew.cell? ⟨W.heap.size, 0, none⟩ = some (.string x1) := c1
 have c2' : W2.drew.cell? ⟨W.heap.size, 1, none⟩ = some (.string x2) := c2
 have c5' : W2.drew.cell? ⟨W.heap.size, 2, none⟩ = some (.int .i64 x3) := c5
 have c3' : W2.drew.cell? ⟨W.heap.size + 1, 0, none⟩ = some (.string y1) := c3
 have c4' : W2.drew.cell? ⟨W.heap.size + 1, 1, none⟩ = some (.string y2) := c4
 have c6' : W2.drew.cell? ⟨W.heap.size + 1, 2, none⟩ = some (.int .i64 y3) := c6
 have hG' : ∃ q os, W2.drew = grow (W.drewN q) os := by obtain ⟨os, rfl⟩ := hG; exact ⟨1, os, rfl⟩
 clear c1 c2 c3 c4 c5 c6 hG e3
 generalize W2.drew = W3 at *
 iterate 4 still_step
 still_call (hcon _)
 iterate 4 still_step
 still_call (hcon2 _)
 iterate 4 still_step
 still_call (hcon3 _)
 refine wpStill_nil ?_
 clear hcon hcon2 hcon3 c1' c2' c3' c4' c5' c6'
 go_wp2_with (go_at_call 89; refine (hor2 _ _ _ (by simp)).mono ?_; rintro e w' ⟨rfl, rfl⟩)
 go_ret
 obtain ⟨q, os, rfl⟩ := hG'
 exact ⟨J, q, _, by rw [alloc_eq_grow, grow_grow]⟩
theorem repL_vv {F : Nat -> Prop} {w : World} : ∀ {xs : List Value} {vs : List Value}, xs.length = vs.length -> (∀ i (h : i < xs.length) (h' : i < (vs.map D.v).length), Rep F w xs[i] (vs.map D.v)[i]) -> xs = vs := fun hl h => by
 apply List.ext_getElem hl
 intro i h1 h2
 have := h i h1 (by simpa using h2)
 rw [ZgP] at this
 exact rep_v this
theorem cmpT_S : CmpT Tryz.prog 88 4 Sal.ds cmpS := fun F w0 W x y xs ys h1 h2 h3 h4 => by
 have e1 := repL_vv (vs := [.int .i64 x.recd, .int .i64 x.per, .int .i64 x.units, .int .i64 x.money]) (by simpa using h1) h3
 have e2 := repL_vv (vs := [.int .i64 y.recd, .int .i64 y.per, .int .i64 y.units, .int .i64 y.money]) (by simpa using h2) h4
 subst e1; subst e2
 have e3 : cmpS x y = if Yb3 x.recd y.recd = 0 then Yb3 x.per y.per else Yb3 x.recd y.recd := by unfold cmpS; rw [Ycs, orI_one]
 rw [e3]
 exact cmpS_any _ _ _ _ _ _ _ _ W
theorem cmpT_U : CmpT Tryz.prog 91 5 Unk.ds cmpU := fun F w0 W x y xs ys h1 h2 h3 h4 => by
 have e1 := repL_vv (vs := [.string x.source, .string x.title, .int .i64 x.per, .int .i64 x.units, .int .i64 x.money]) (by simpa using h1) h3
 have e2 := repL_vv (vs := [.string y.source, .string y.title, .int .i64 y.per, .int .i64 y.units, .int .i64 y.money]) (by simpa using h2) h4
 subst e1; subst e2
 have e3 : cmpU x y = if Yax x.source y.source = 0 then (if Yax x.title y.title = 0 then Yb3 x.per y.per else Yax x.title y.title) else Yax x.source y.source := by unfold cmpU; rw [Ycs, Ycs, orI_one]
 rw [e3]
 exact cmpU_any _ _ _ _ _ _ _ _ _ _ W
theorem sortT_S : SortT Tryz.prog 87 4 where
 ent := enters_of Tryz.func87 (by kernel_rfl) rfl
 nil fv w := AnyF.slices_SortFunc_none Tryz.sortSale none 0 fv w
 all enc hk h1 cf hO g blk cap d w eg hC hH hb hn := AnyQ.slices_SortFunc Tryz.sortSale 4 (fun w => (AggT.of (by kernel_rfl) : AggT Tryz.prog 167 4).agg w) (fun w => (AggT.of (by kernel_rfl) : AggT Tryz.prog 167 4).size w) enc hk h1 cf hO g #[] blk 0 cap d w eg hC hH hb hn
theorem sortT_U : SortT Tryz.prog 90 5 where
 ent := enters_of Tryz.func90 (by kernel_rfl) rfl
 nil fv w := AnyF.slices_SortFunc_none Tryz.sortUnk none 0 fv w
 all enc hk h1 cf hO g blk cap d w eg hC hH hb hn := AnyQ.slices_SortFunc Tryz.sortUnk 5 (fun w => (AggT.of (by kernel_rfl) : AggT Tryz.prog 171 5).agg w) (fun w => (AggT.of (by kernel_rfl) : AggT Tryz.prog 171 5).size w) enc hk h1 cf hO g #[] blk 0 cap d w eg hC hH hb hn
theorem c_sortS (xs : List Sal) (hn : xs.length < 4611686018427387904) (hd : DistF cmpS xs) (e : Nat) : RCall Tryz.prog 87 e 4 (xs.map Sal.ds) ((YbL cmpS xs).map Sal.ds) [.clo (.func 88) []] (.tup []) :=
 sort_rcall sortT_S swo_S (enters_of Tryz.func88 (by kernel_rfl) rfl) cmpT_S (fun _ => rfl) [.int .i64 0, .int .i64 0, .int .i64 0, .int .i64 0] rfl (by simp [Value.oneCell']) (fun F w i h h' => by
  have hi : i < 4 := h
  match i, hi with
  | 0, _ => exact .v _
  | 1, _ => exact .v _
  | 2, _ => exact .v _
  | 3, _ => exact .v _) xs hn hd e
theorem c_sortU (xs : List Unk) (hn : xs.length < 4611686018427387904) (hd : DistF cmpU xs) (e : Nat) : RCall Tryz.prog 90 e 5 (xs.map Unk.ds) ((YbL cmpU xs).map Unk.ds) [.clo (.func 91) []] (.tup []) :=
 sort_rcall sortT_U swo_U (enters_of Tryz.func91 (by kernel_rfl) rfl) cmpT_U (fun _ => rfl) [.string ⟨#[]⟩, .string ⟨#[]⟩, .int .i64 0, .int .i64 0, .int .i64 0] rfl (by simp [Value.oneCell']) (fun F w i h h' => by
  have hi : i < 5 := h
  match i, hi with
  | 0, _ => exact .v _
  | 1, _ => exact .v _
  | 2, _ => exact .v _
  | 3, _ => exact .v _
  | 4, _ => exact .v _) xs hn hd e
end
section
open Go.RowKit
namespace Ty
theorem ag_165 : AggT Tryz.prog 165 2 := .of (by kernel_rfl)
theorem ag_169 : AggT Tryz.prog 169 3 := .of (by kernel_rfl)
theorem ag_171 : AggT Tryz.prog 171 5 := .of (by kernel_rfl)
theorem bu_122 : StructT Tryz.prog 122 (fun i => (#[(0, 1), (1, 1), (2, 1)] : Array (Nat × Nat))[i]?) [(.string ⟨#[]⟩), (.string ⟨#[]⟩), (.int .i64 0)] := .of (by kernel_rfl) (by kernel_rfl) (by decide)
theorem bu_165 : StructT Tryz.prog 165 (fun i => (#[(0, 1), (1, 1)] : Array (Nat × Nat))[i]?) [(.int .i64 0), (.int .i64 0)] := .of (by kernel_rfl) (by kernel_rfl) (by decide)
theorem bu_167 : StructT Tryz.prog 167 (fun i => (#[(0, 1), (1, 1), (2, 1), (3, 1)] : Array (Nat × Nat))[i]?) [(.int .i64 0), (.int .i64 0), (.int .i64 0), (.int .i64 0)] := .of (by kernel_rfl) (by kernel_rfl) (by decide)
theorem bu_169 : StructT Tryz.prog 169 (fun i => (#[(0, 1), (1, 1), (2, 1)] : Array (Nat × Nat))[i]?) [(.string ⟨#[]⟩), (.string ⟨#[]⟩), (.int .i64 0)] := .of (by kernel_rfl) (by kernel_rfl) (by decide)
theorem bu_171 : StructT Tryz.prog 171 (fun i => (#[(0, 1), (1, 1), (2, 1), (3, 1), (4, 1)] : Array (Nat × Nat))[i]?) [(.string ⟨#[]⟩), (.string ⟨#[]⟩), (.int .i64 0), (.int .i64 0), (.int .i64 0)] := .of (by kernel_rfl) (by kernel_rfl) (by decide)
theorem et_98 : ElemTy Tryz.prog 98 171 5 56 (.agg #[(.string ⟨#[]⟩), (.string ⟨#[]⟩), (.int .i64 0), (.int .i64 0), (.int .i64 0)]) := ⟨by kernel_rfl, by kernel_rfl, by kernel_rfl, by decide⟩
theorem fo_165_0 : Yaf Tryz.prog 165 0 = some 0 := by kernel_rfl
theorem fo_165_1 : Yaf Tryz.prog 165 1 = some 1 := by kernel_rfl
theorem YbM : Yaf Tryz.prog 167 2 = some 2 := by kernel_rfl
theorem fo_171_3 : Yaf Tryz.prog 171 3 = some 3 := by kernel_rfl
theorem fo_171_4 : Yaf Tryz.prog 171 4 = some 4 := by kernel_rfl
theorem mt_159 : Tryz.prog.underlying 159 = some (.map 165 167) := by kernel_rfl
theorem mt_160 : Tryz.prog.underlying 160 = some (.map 169 171) := by kernel_rfl
theorem sz_165 : ∀ w, (sizeOf 165).run Tryz.prog w = .ok 2 w := SizeT.of (by kernel_rfl)
theorem sz_169 : ∀ w, (sizeOf 169).run Tryz.prog w = .ok 3 w := SizeT.of (by kernel_rfl)
theorem sz_171 : ∀ w, (sizeOf 171).run Tryz.prog w = .ok 5 w := SizeT.of (by kernel_rfl)
theorem zt_165 : (Tryz.prog.info? 165).bind (·.zero) = some (.agg #[(.int .i64 0), (.int .i64 0)]) := by kernel_rfl
theorem zt_169 : (Tryz.prog.info? 169).bind (·.zero) = some (.agg #[(.string ⟨#[]⟩), (.string ⟨#[]⟩), (.int .i64 0)]) := by kernel_rfl
theorem zt_171 : (Tryz.prog.info? 171).bind (·.zero) = some (.agg #[(.string ⟨#[]⟩), (.string ⟨#[]⟩), (.int .i64 0), (.int .i64 0), (.int .i64 0)]) := by kernel_rfl
end Ty
open Ty
open Go.Sort Go.Lib
theorem usd_rng {x : Rpt} (h : rptF x = 0) : ∀ u ∈ x.lines, (0 <= u.units /\ u.units <= 1000000000) /\ 0 <= u.money /\ u.money <= 1000000000 := fun u hu => by
 have h0 : ffst (usdF x.lines) x.lines.length = 0 := by
  unfold rptF at h
  split at h
  ·omega
  ·split at h
   ·omega
   ·split at h
    ·omega
    ·exact h
 obtain ⟨k, hk, rfl⟩ := List.mem_iff_getElem.1 hu
 have h1 := Ya2 _ h0 k hk
 unfold usdF at h1
 rw [dif_pos hk] at h1
 split at h1
 ·omega
 ·split at h1
  ·omega
  ·rename_i h2
   exact Decidable.not_not.1 h2
theorem rpt_per {x : Rpt} (h : rptF x = 0) : 0 <= x.period /\ x.period <= 2400 := by
 unfold rptF at h
 split at h
 ·omega
 ·split at h
  ·omega
  ·rename_i h2
   exact (Decidable.not_not.1 h2).2.1
theorem InvS.mono {n m : Int} {s : SU} (h : InvS n s) (hm : n <= m) : InvS m s :=
 ⟨h.n1, h.n2, fun p hp => by have := h.b1 p hp; omega, fun p hp => by have := h.b2 p hp; omega, h.k1, h.k2, by have := h.l1; omega, by have := h.l2; omega⟩
structure RpO (x : Rpt) : Prop where
 src : x.source.size <= maxLen
 per : 0 <= x.period /\ x.period <= 2400
 len : x.lines.length <= 100
 use : ∀ u ∈ x.lines, u.title.size <= maxLen /\ (0 <= u.units /\ u.units <= 1000000000) /\ 0 <= u.money /\ u.money <= 1000000000
theorem rpO {x : Rpt} (h : rptF x = 0) (ho : okRpt x) : RpO x := ⟨ho.1, rpt_per h, rpt_lines h, fun u hu => ⟨ho.2 u hu, usd_rng h u hu⟩⟩
theorem inv_B {a : List Ali} (ha : Als a) {x : Rpt} (hx : RpO x) {n : Int} (hn : 0 <= n) {s : SU} (hs : InvS n s) : ∀ j, j <= x.lines.length -> InvS (n + (j : Int)) (stB a x s j)
 | 0, _ => by simpa [stB] using hs
 | j + 1, hj => by
  rw [stB_next (by omega)]
  have := (inv_B ha hx hn hs j (by omega)).step (by omega) a x x.lines[j] ha.rng ⟨hx.src, hx.per⟩ (hx.use _ (ZgM _))
  exact this.mono (by omega)
theorem inv_A {a : List Ali} (ha : Als a) {V : List Rpt} (hV : ∀ x ∈ V, RpO x) : ∀ k, k <= V.length -> InvS (100 * (k : Int)) (stA a (V.take k))
 | 0, _ => by
  have : stA a (V.take 0) = ([], []) := by simp [stA]
  rw [this]
  exact InvS.nil
 | k + 1, hk => by
  rw [stA_next (by omega)]
  have hx := hV _ (ZgM (show k < V.length by omega))
  have hl := hx.len
  exact (inv_B ha hx (by omega) (inv_A ha hV k (by omega)) _ (ZnR _)).mono (by omega)
theorem put_eq_S (L : List (KS × UM)) (k : KS) (u m : Int) : D.agg [.v (.int .i64 k.1), .v (.int .i64 k.2), .v (.int .i64 ((getS L k).units + u)), .v (.int .i64 ((getS L k).money + m))] = .agg (toS (k, YbE addU (Yap L k) (u, m))).ds := by
 rw [(get_plus_S L k u m).1, (get_plus_S L k u m).2]; rfl
theorem put_eq_U (L : List (KU × UM)) (k : KU) (u m : Int) : D.agg [.v (.string k.1), .v (.string k.2.1), .v (.int .i64 k.2.2), .v (.int .i64 ((getU L k).units + u)), .v (.int .i64 ((getU L k).money + m))] = .agg (toU (k, YbE addU (Yap L k) (u, m))).ds := by
 rw [(get_plus_U L k u m).1, (get_plus_U L k u m).2]; rfl
theorem stU_yes {a : List Ali} {x : Rpt} {s : SU} {u : Usd} (h : Yak a x.source u.title ≠ 0) : stU a x s u = (putG s.1 (Yak a x.source u.title, x.period) (YbE addU (Yap s.1 (Yak a x.source u.title, x.period)) (u.units, u.money)), s.2) := if_pos h
theorem stU_no {a : List Ali} {x : Rpt} {s : SU} {u : Usd} (h : Yak a x.source u.title = 0) : stU a x s u = (s.1, putG s.2 (x.source, u.title, x.period) (YbE addU (Yap s.2 (x.source, u.title, x.period)) (u.units, u.money))) := if_neg (by rw [h]; simp)
theorem nd_len : ∀ {n : Nat} {l : List Nat}, l.Nodup -> (∀ i ∈ l, i < n) -> l.length <= n := fun {n l} h1 h2 => by
 have hp : l.Perm ((List.range n).filter fun i => decide (i ∈ l)) := (List.perm_ext_iff_of_nodup h1 (List.nodup_range.filter _)).2 fun i => by
  rw [List.mem_filter, List.mem_range, decide_eq_true_eq]
  exact ⟨fun h => ⟨h2 i h, h⟩, fun h => h.2⟩
 have := hp.length_eq
 have h3 := List.length_filter_le (fun i => decide (i ∈ l)) (List.range n)
 rw [List.length_range] at h3
 omega
theorem nd_snoc {n : Nat} {l : List Nat} {i : Nat} (h1 : l.Nodup /\ ∀ i ∈ l, i < n) (hi : i < n) (hn : i ∉ l) : (l ++ [i]).Nodup /\ ∀ j ∈ l ++ [i], j < n := by
 refine ⟨List.nodup_append.2 ⟨h1.1, by simp, fun x hx y hy => ?_⟩, fun j hj => ?_⟩
 ·rw [ZmS] at hy
  subst hy
  exact fun e => hn (e ▸ hx)
 ·rcases List.mem_append.1 hj with hj | hj
  ·exact h1.2 j hj
  ·rw [ZmS] at hj; omega
theorem obs_3 {i j m e s : Nat} {r r' : List (List D)} {a a' b b' : Ob} {τ : Obs} (h : r = r') (h2 : a = a') (h3 : b = b') : ∀ p ∈ [(m, Ob.row e s r'), (i, a'), (j, b')], p ∈ (m, Ob.row e s r) :: (i, a) :: (j, b) :: τ := fun p hp => by
 subst h; subst h2; subst h3
 rcases List.mem_cons.1 hp with rfl | hp
 ·exact .head _
 ·rcases List.mem_cons.1 hp with rfl | hp
  ·exact .tail _ (.head _)
  ·rw [ZmS] at hp; subst hp; exact .tail _ (.tail _ (.head _))
theorem pick_ds_S (K : List (KS × UM)) (dn : List Nat) {i : Nat} (hi : i < K.length) : (YbY toS K dn).map Sal.ds ++ [(toS K[i]).ds] = (YbY toS K (dn ++ [i])).map Sal.ds := by rw [pickG_snoc toS K dn hi, ZmA]; rfl
theorem pick_ds_U (K : List (KU × UM)) (dn : List Nat) {i : Nat} (hi : i < K.length) : (YbY toU K dn).map Unk.ds ++ [(toU K[i]).ds] = (YbY toU K (dn ++ [i])).map Unk.ds := by rw [pickG_snoc toU K dn hi, ZmA]; rfl
theorem pick_len {κ τ : Type} [Inhabited κ] (f : κ × UM -> τ) (K : List (κ × UM)) (dn : List Nat) : (YbY f K dn).length = dn.length := ZlM ..
theorem sort_S (a : List Ali) (V : List Rpt) {dn : List Nat} (h : dn.Nodup /\ ∀ i ∈ dn, i < (stA a V).1.length) (ha : ∀ i, i < (stA a V).1.length -> i ∈ dn) : YbL cmpS (YbY toS (stA a V).1 dn) = salesR a V /\ DistF cmpS (YbY toS (stA a V).1 dn) := by
 rw [stA_eq] at *
 exact sort_pick tot_S (key := Sal.key) (fun _ => J) ltOf_S (knA a V) h.1 h.2 ha
theorem sort_U (a : List Ali) (V : List Rpt) {dn : List Nat} (h : dn.Nodup /\ ∀ i ∈ dn, i < (stA a V).2.length) (ha : ∀ i, i < (stA a V).2.length -> i ∈ dn) : YbL cmpU (YbY toU (stA a V).2 dn) = unkR a V /\ DistF cmpU (YbY toU (stA a V).2 dn) := by
 rw [stA_eq] at *
 exact sort_pick tot_U (key := Unk.key) (fun _ => J) ltOf_U (opA a V) h.1 h.2 ha
theorem c_sums (l : List Rpt) (a : List Ali) (hl : Log l) (ho : ∀ x ∈ l, okRpt x) (ha : Als a) : Yaq Tryz.prog 41 [.sl (l.map Rpt.ds), .sl (a.map Ali.ds)] (.tup [.sl ((salesR a (Yaa l)).map Sal.ds), .sl ((unkR a (Yaa l)).map Unk.ds)]) := by
 refine Yah (n := 136) (ds' := [.sl ((salesR a (Yaa l)).map Sal.ds), .sl ((unkR a (Yaa l)).map Unk.ds)]) Tryz.func41 J (by kernel_rfl) J [4, 5] J J ?_
 intro B w0 F0 fr
 have hll := hl.len
 have hvl : (Yaa l).length <= l.length := List.length_filter_le _ _
 have hV : ∀ x ∈ (Yaa l), RpO x := fun x hx => rpO (hl.ok x (List.mem_filter.1 hx).1) (ho x (List.mem_filter.1 hx).1)
 have hal := ha.len
 refine .sr (.aA ?_)
 refine .aN ?_
 refine .sr (.makeMap 91 J J J J J ?_)
 refine .makeMap 92 J J J J J ?_
 refine .sA (.assignO J J) ?_
 refine .sA (.assignO J J) (.nil ?_)
 refine .seq (.sr (.mA ?_))
 refine .sA (.call J (.cons (.rfl' J) .nil) (c_pVal l hl ho)) (.sA (.lenSl J et_22.ht J) ?_)
 refine .mN ?_
 refine .block (.loop (G := Nat) (fun k => Env.of [(29, .iv k), (27, .d (.sl ((Yaa l).map Rpt.ds))), (28, .iv ((Yaa l).map Rpt.ds).length), (1, .d (.sl (a.map Ali.ds))), (6, .own 91), (7, .own 92)]) (fun k => [(92, .map (encU (stA a ((Yaa l).take k)).2)), (91, .map (encS (stA a ((Yaa l).take k)).1))]) (fun k => k <= (Yaa l).length) (fun k => (Yaa l).length - k) 0 (ZnZ _) (Sub.less ⟨U, U, U, U, U, U, trivial⟩ (maps_2 J J)) ?_)
 intro k hk
 refine .sr (.sA (.lss J J J) (.nil ?_))
 refine .seq (.cT J (fun h1 => ?_) fun h1 => ?_)
 ·rw [ZlM] at h1
  have hlt : k < (Yaa l).length := by omega
  have hx := hV _ (ZgM hlt)
  have hA := inv_A ha hV k (by omega)
  have hxl := hx.len
  refine .skip (.seq (.block (.sr (.sA (.indexAddr J et_22 J J k J (Yad hlt) J) ?_))))
  refine .sA (.loadAgg J Ycq J J) ?_
  refine .alloc 103 J J J J zt_80 J J J ?_
  refine .store J J J sz_80 J (.head _) J J J (ZnB J) ?_
  refine .freezeCells 9 (ds := (Yaa l)[k].ds) J (.head _) (.nil ?_)
  refine .sr (.sA (.fieldAddr J fo_80_4 J) ?_)
  refine .sA (.load J sc_78 J) (.sA (.lenSl J et_78.ht J) ?_)
  refine .mN ?_
  refine .block (.loop (G := Nat) (fun j => Env.of [(36, .iv j), (34, .d (.sl ((Yaa l)[k].lines.map Usd.ds))), (35, .iv ((Yaa l)[k].lines.map Usd.ds).length), (9, .d (.fp (Yaa l)[k].ds)), (29, .iv k), (27, .d (.sl ((Yaa l).map Rpt.ds))), (28, .iv ((Yaa l).map Rpt.ds).length), (1, .d (.sl (a.map Ali.ds))), (6, .own 91), (7, .own 92)]) (fun j => [(92, .map (encU (stB a (Yaa l)[k] (stA a ((Yaa l).take k)) j).2)), (91, .map (encS (stB a (Yaa l)[k] (stA a ((Yaa l).take k)) j).1))]) (fun j => j <= (Yaa l)[k].lines.length) (fun j => (Yaa l)[k].lines.length - j) 0 (ZnZ _) (Sub.less ⟨U, U, U, U, U, U, U, U, U, U, trivial⟩ (maps_2 J J)) ?_)
  intro j hj
  refine .sr (.sA (.lss J J J) (.nil ?_))
  refine .seq (.cT J (fun h2 => ?_) fun h2 => ?_)
  ·rw [ZlM] at h2
   have hjl : j < (Yaa l)[k].lines.length := by omega
   have hI := inv_B ha hx (show 0 <= 100 * (k : Int) by omega) hA j (by omega)
   have hu := hx.use _ (ZgM hjl)
   have hper := hx.per
   have HN := stB_next (a := a) (s := (stA a ((Yaa l).take k))) hjl
   refine .skip (.seq (.block (.sr (.sA (.indexAddr J et_78 J J j J (Yad hjl) J) ?_))))
   refine .sA (.loadAgg J ag_75 J J) ?_
   refine .alloc 104 J J J J zt_75 J J J ?_
   refine .store J J J sz_75 J (.head _) J J J (ZnB J) ?_
   refine .freezeCells 11 (ds := (Yaa l)[k].lines[j].ds) J (.head _) (.nil ?_)
   refine .sr (.mA ?_)
   refine .sA (.fieldAddr J YaG J) (.sA (.load J sc_9 J) (.sA (.fieldAddr J Ych J) (.sA (.load J sc_9 J) (.sA (.build J bu_122 (.cons J J (.cons J J .nil)) J) ?_))))
   refine .sA (.call J (.cons (.rfl' J) (.cons (.rfl' J) (.cons (by first | exact ArgOk.rfl' J | exact ArgOk.fn J) .nil))) (c_bsA a ⟨(Yaa l)[k].source, (Yaa l)[k].lines[j].title, 0⟩ (by omega))) ?_
   refine .mA ?_
   refine .sA (.extract J J J) (.sA (.extract J J J) ?_)
   refine .aA ?_
   refine .aN ?_
   refine .seq (.sr (.mN ?_))
   refine .cond J (fun h3 => ?_) (fun h3 => ?_)
   ·skip
    obtain ⟨hp, hre, hmn⟩ := hasA_yes ha h3
    have hrr := ha.rng _ (ZgM hp)
    rw [hre] at hrr
    have hky := keyS_ok (Yak a (Yaa l)[k].source (Yaa l)[k].lines[j].title, (Yaa l)[k].period) (by dsimp only; omega) (by dsimp only; omega)
    have hgb := get_bound_S hI.b1 (by omega) (Yak a (Yaa l)[k].source (Yaa l)[k].lines[j].title, (Yaa l)[k].period)
    rw [stU_yes hmn] at HN
    refine .seq (.drawFresh 9 [⟨14, 105, .ptr 105 0, .cells [.d (.v (.int .i64 0)), .d (.v (.int .i64 0))]⟩] (FrOk.one rfl (by simp) rfl rfl rfl) (by kernel_rfl) (by kernel_rfl) (by kernel_rfl) (by kernel_rfl) ?_)
    refine .step J J J (.moveD J J) ?_
    refine .step J J J (.moveD J J) ?_
    refine .step J J J (.indexAddr J et_32 J J (posA a ⟨(Yaa l)[k].source, (Yaa l)[k].lines[j].title, 0⟩) J (Yad hp) J) ?_
    refine .step J J J (.fieldAddr J fo_122_2 J) ?_
    refine .step J J J (.load J sc_3 J) ?_
    refine .step J J J (.fieldAddr J Ycg J) ?_
    refine .step J J J (.load J sc_3 J) ?_
    refine .step J J J (.build J bu_165 (.cons J J (.cons J J .nil)) J) ?_
    refine .alloc _ (.head _) J J J J J zt_165 J J J J ?_
    refine .nil ⟨J, trivial⟩ ?_
    refine .store J J J sz_165 J (.head _) J J J (ZnB J) ?_
    refine .freezeCells 14 (ds := [.v (.int .i64 a[posA a ⟨(Yaa l)[k].source, (Yaa l)[k].lines[j].title, 0⟩].recd), .v (.int .i64 (Yaa l)[k].period)]) J (.head _) (.nil ?_)
    refine .seq ?_
    rw [hre]
    refine .region (.sA (.moveO J J) ?_)
    refine .sA (.loadAgg J ag_165 J J) (.sA (.lookupX (key := keyS (Yak a (Yaa l)[k].source (Yaa l)[k].lines[j].title, (Yaa l)[k].period)) J mt_S kd_S zt_S zd_S J (.tail _ (.head _)) J (DExact.agg2 _ _) hky (encS_ok hI) (mget_S hI.n1 _)) ?_)
    refine .alloc 106 J J J J zt_167 J J J ?_
    refine .store J J J sz_167 J (.head _) J J J (ZnB J) ?_
    refine .freezeCells 15 (ds := (getS (stB a (Yaa l)[k] (stA a ((Yaa l).take k)) j).1 (Yak a (Yaa l)[k].source (Yaa l)[k].lines[j].title, (Yaa l)[k].period)).ds) J (.head _) (.nil ?_)
    refine .sr (.sA (.moveO J J) ?_)
    refine .sA (.loadAgg J ag_165 J J) (.sA (.fieldAddr J fo_165_0 J) (.sA (.load J sc_3 J) (.sA (.fieldAddr J fo_165_1 J) (.sA (.load J sc_3 J) (.sA (.fieldAddr J YbM J) ?_)))))
    refine .sA (.load J sc_3 J) (.sA (.fieldAddr J fo_75_1 J) (.sA (.load J sc_3 J) ?_))
    refine .sA (.add64 J J J) ?_
    refine .sA (.fieldAddr J Yba J) (.sA (.load J sc_3 J) (.sA (.fieldAddr J fo_75_2 J) (.sA (.load J sc_3 J) ?_)))
    refine .sA (.add64 J J J) ?_
    refine .sA (.build J bu_167 (.cons J J (.cons J J (.cons J J (.cons J J .nil)))) J) ?_
    refine .eff J J (.mapUpdateX (key := keyS (Yak a (Yaa l)[k].source (Yaa l)[k].lines[j].title, (Yaa l)[k].period)) J J mt_S kd_S J (.tail _ (.head _)) J (DExact.agg2 _ _) J hky (encS_ok hI) (mput_S hI.n1 _ _ (put_eq_S (stB a (Yaa l)[k] (stA a ((Yaa l).take k)) j).1 (Yak a (Yaa l)[k].source (Yaa l)[k].lines[j].title, (Yaa l)[k].period) (Yaa l)[k].lines[j].units (Yaa l)[k].lines[j].money))) (.nil ?_)
    refine .exit (.region (.sA (.add64 J J J) ?_))
    refine .mN ?_
    refine ⟨j + 1, (by dsimp only; omega), (by dsimp only; omega), Sub.less ⟨U, U, U, U, U, U, U, U, U, U, trivial⟩ (maps_2 (by rw [HN]) (by rw [HN]))⟩
   have hmn := hasA_no ha h3
   have hky := keyU_ok ((Yaa l)[k].source, (Yaa l)[k].lines[j].title, (Yaa l)[k].period) hx.src hu.1 (by dsimp only; omega)
   have hgb := get_bound_U hI.b2 (by omega) ((Yaa l)[k].source, (Yaa l)[k].lines[j].title, (Yaa l)[k].period)
   rw [stU_no hmn] at HN
   refine .skip (.sr (.sA (.fieldAddr J YaG J) ?_))
   refine .sA (.load J sc_9 J) (.sA (.fieldAddr J Ych J) (.sA (.load J sc_9 J) (.sA (.fieldAddr J Ycg J) (.sA (.load J sc_3 J) (.sA (.build J bu_169 (.cons J J (.cons J J (.cons J J .nil))) J) ?_)))))
   refine .alloc 107 J J J J zt_169 J J J ?_
   refine .store J J J sz_169 J (.head _) J J J (ZnB J) ?_
   refine .freezeCells 16 (ds := [.v (.string (Yaa l)[k].source), .v (.string (Yaa l)[k].lines[j].title), .v (.int .i64 (Yaa l)[k].period)]) J (.head _) (.nil ?_)
   refine .sr (.sA (.moveO J J) ?_)
   refine .sA (.loadAgg J ag_169 J J) (.sA (.lookupX (key := keyU ((Yaa l)[k].source, (Yaa l)[k].lines[j].title, (Yaa l)[k].period)) J mt_U kd_U zt_U zd_U J (.head _) J (DExact.agg3 _ _ _) hky (encU_ok hI) (mget_U hI.n2 _)) ?_)
   refine .alloc 108 J J J J zt_171 J J J ?_
   refine .store J J J sz_171 J (.head _) J J J (ZnB J) ?_
   refine .freezeCells 17 (ds := (getU (stB a (Yaa l)[k] (stA a ((Yaa l).take k)) j).2 ((Yaa l)[k].source, (Yaa l)[k].lines[j].title, (Yaa l)[k].period)).ds) J (.head _) (.nil ?_)
   refine .region (.sA (.moveO J J) ?_)
   refine .sA (.loadAgg J ag_169 J J) (.sA (.fieldAddr J YaG J) (.sA (.load J sc_9 J) (.sA (.fieldAddr J Ych J) (.sA (.load J sc_9 J) (.sA (.fieldAddr J Ycg J) ?_)))))
   refine .sA (.load J sc_3 J) (.sA (.fieldAddr J fo_171_3 J) (.sA (.load J sc_3 J) (.sA (.fieldAddr J fo_75_1 J) (.sA (.load J sc_3 J) ?_))))
   refine .sA (.add64 J J J) ?_
   refine .sA (.fieldAddr J fo_171_4 J) (.sA (.load J sc_3 J) (.sA (.fieldAddr J fo_75_2 J) (.sA (.load J sc_3 J) ?_)))
   refine .sA (.add64 J J J) ?_
   refine .sA (.build J bu_171 (.cons J J (.cons J J (.cons J J (.cons J J (.cons J J .nil))))) J) ?_
   refine .eff J J (.mapUpdateX (key := keyU ((Yaa l)[k].source, (Yaa l)[k].lines[j].title, (Yaa l)[k].period)) J J mt_U kd_U J (.head _) J (DExact.agg3 _ _ _) J hky (encU_ok hI) (mput_U hI.n2 _ _ (put_eq_U (stB a (Yaa l)[k] (stA a ((Yaa l).take k)) j).2 ((Yaa l)[k].source, (Yaa l)[k].lines[j].title, (Yaa l)[k].period) (Yaa l)[k].lines[j].units (Yaa l)[k].lines[j].money))) (.nil ?_)
   refine .region (.sA (.add64 J J J) ?_)
   refine .mN ?_
   refine ⟨j + 1, (by dsimp only; omega), (by dsimp only; omega), Sub.less ⟨U, U, U, U, U, U, U, U, U, U, trivial⟩ (maps_2 (by rw [HN]) (by rw [HN]))⟩
  rw [ZlM] at h2
  obtain rfl : j = (Yaa l)[k].lines.length := by omega
  have HS := stA_next (a := a) hlt
  refine .exit (.region (.sA (.add64 J J J) ?_))
  refine .mN ?_
  refine ⟨k + 1, (by omega), (by dsimp only; omega), Sub.less ⟨U, U, U, U, U, U, trivial⟩ (maps_2 (by rw [HS]) (by rw [HS]))⟩
 rw [ZlM] at h1
 obtain rfl : k = (Yaa l).length := by omega
 rw [List.take_length]
 have hI := inv_A ha hV (Yaa l).length (ZnR _)
 rw [List.take_length] at hI
 have hk1 := hI.l1
 have hk2 := hI.l2
 refine .exit (.sr (.aN ?_))
 refine .seq (.sr (.sA (.moveO J J) ?_))
 refine .range 71 J J J J mt_159 J (.tail _ (.head _)) J ?_
 refine .nil ?_
 refine .block (.adopt 18 61 167 4 J J ?_)
 refine .loop (G := List Nat) (fun dn => Env.of [(111, .ptr 71 0), (18, .own 61), (7, .own 92)]) (fun dn => [(61, .row 167 4 ((YbY toS (stA a (Yaa l)).1 dn).map Sal.ds)), (71, .iter (encS (stA a (Yaa l)).1) dn), (92, .map (encU (stA a (Yaa l)).2))]) (fun dn => dn.Nodup /\ ∀ i ∈ dn, i < (stA a (Yaa l)).1.length) (fun dn => (stA a (Yaa l)).1.length - dn.length) [] ⟨List.nodup_nil, fun i h => absurd h List.not_mem_nil⟩ (Sub.less ⟨U, U, U, trivial⟩ (obs_3 J J J)) ?_
 intro dn hd
 refine .sr (.nextL J J J J J (.tail _ (.head _)) (fun hall => ?_) (fun i hi hni => ?_))
 ·skip
  have hdl := nd_len hd.1 hd.2
  obtain ⟨HS1, HD1⟩ := sort_S a (Yaa l) hd hall
  refine .sA (.extract J J J) (.nil ?_)
  refine .seq (.cond J (fun h => nomatch h) (fun _ => ?_))
  refine .exit (.sr (.aN ?_))
  refine .seq (.sr (.sA (.moveO J J) ?_))
  refine .range 72 J J J J mt_160 J (.tail _ (.tail _ (.head _))) J ?_
  refine .nil ?_
  refine .block (.adopt 21 62 171 5 J J ?_)
  refine .loop (G := List Nat) (fun dm => Env.of [(121, .ptr 72 0), (21, .own 62), (18, .own 61)]) (fun dm => [(62, .row 171 5 ((YbY toU (stA a (Yaa l)).2 dm).map Unk.ds)), (72, .iter (encU (stA a (Yaa l)).2) dm), (61, .row 167 4 ((YbY toS (stA a (Yaa l)).1 dn).map Sal.ds))]) (fun dm => dm.Nodup /\ ∀ i ∈ dm, i < (stA a (Yaa l)).2.length) (fun dm => (stA a (Yaa l)).2.length - dm.length) [] ⟨List.nodup_nil, fun i h => absurd h List.not_mem_nil⟩ (Sub.less ⟨U, U, U, trivial⟩ (obs_3 J J J)) ?_
  intro dm he
  refine .sr (.nextL J J J J J (.tail _ (.head _)) (fun hbll => ?_) (fun i hi hni => ?_))
  ·skip
   have hel := nd_len he.1 he.2
   obtain ⟨HS2, HD2⟩ := sort_U a (Yaa l) he hbll
   refine .sA (.extract J J J) (.nil ?_)
   refine .seq (.cond J (fun h => nomatch h) (fun _ => ?_))
   refine .exit (.sr (.sA (.moveO J J) ?_))
   -- turns 61
   refine .callX J J J (.cons U (.cons (SLe.fn _) .nil)) ((c_sortS _ (by rw [pick_len]; omega) HD1 _) 61) ⟨(.tail _ (.tail _ (.head _))), trivial⟩ J J (fun _ h => nomatch h) ?_
   rw [HS1]
   refine .nil ?_
   refine .sr (.sA (.moveO J J) ?_)
   -- turns 62
   refine .callX J J J (.cons U (.cons (SLe.fn _) .nil)) ((c_sortU _ (by rw [pick_len]; omega) HD2 _) 62) ⟨(.tail _ (.head _)), trivial⟩ J J (fun _ h => nomatch h) ?_
   rw [HS2]
   refine .nil ?_
   refine .sr (.sA (.moveO J J) ?_)
   refine .sA (.moveO J J) (.sA (.assignO J J) ?_)
   refine .sA (.assignO J J) (.nil ?_)
   refine .ret ?_
   refine ⟨RetD.own J (.tail _ (.head _)) ?_, RetD.own J (.head _) ?_, trivial⟩
   all_goals (rfl)
  have hsn := nd_snoc he hi hni
  have hnl := nd_len hsn.1 hsn.2
  rw [ZlA, List.length_singleton] at hnl
  refine .sA (.extract J J J) (.nil ?_)
  refine .seq (.cond J (fun _ => ?_) (fun h => nomatch h))
  refine .skip (.block (.sr (.sA (.entryL J J (.tail _ (.head _)) hi) ?_)))
  refine .sA (.extract J J J) ?_
  refine .alloc 111 J J J J zt_171 J J J ?_
  refine .store J J J sz_171 J (.head _) J J J (ZnB J) ?_
  refine .freezeCells 23 (ds := (toU (stA a (Yaa l)).2[i]).ds) J (.head _) (.nil ?_)
  refine .region (.sA (.moveO J J) ?_)
  refine .sA (.loadAgg J ag_171 J J) ?_
  refine .sA (.buildSlice J et_98 (.cons J J J .nil) J (by decide)) ?_
  -- append 129
  refine .append rfl rfl rfl rfl et_98 rfl (.head _) rfl (fun y hy => by obtain rfl := ZmS.1 hy; rfl) (by simp [YbY]; omega) (by simp [YbY]; omega) ?_
  refine .sA (.assignO J J) (.nil ?_)
  refine ⟨dm ++ [i], hsn, (by dsimp only; rw [ZlA, List.length_singleton]; omega), Sub.less ⟨U, U, U, trivial⟩ (obs_3 (pick_ds_U _ _ hi) rfl rfl)⟩
 have hsn := nd_snoc hd hi hni
 have hnl := nd_len hsn.1 hsn.2
 rw [ZlA, List.length_singleton] at hnl
 refine .sA (.extract J J J) (.nil ?_)
 refine .seq (.cond J (fun _ => ?_) (fun h => nomatch h))
 refine .skip (.block (.sr (.sA (.entryL J J (.tail _ (.head _)) hi) ?_)))
 refine .sA (.extract J J J) ?_
 refine .alloc 112 J J J J zt_167 J J J ?_
 refine .store J J J sz_167 J (.head _) J J J (ZnB J) ?_
 refine .freezeCells 20 (ds := (toS (stA a (Yaa l)).1[i]).ds) J (.head _) (.nil ?_)
 refine .region (.sA (.moveO J J) ?_)
 refine .sA (.loadAgg J ag_167 J J) ?_
 refine .sA (.buildSlice J et_97 (.cons J J J .nil) J (by decide)) ?_
 -- append 119
 refine .append rfl rfl rfl rfl et_97 rfl (.head _) rfl (fun y hy => by obtain rfl := ZmS.1 hy; rfl) (by simp [YbY]; omega) (by simp [YbY]; omega) ?_
 refine .sA (.assignO J J) (.nil ?_)
 refine ⟨dn ++ [i], hsn, (by dsimp only; rw [ZlA, List.length_singleton]; omega), Sub.less ⟨U, U, U, trivial⟩ (obs_3 (pick_ds_S _ _ hi) rfl rfl)⟩
theorem drop_ds {l : List Rpt} (m : Nat) : (l.map Rpt.ds).drop m = (l.drop m).map Rpt.ds := (List.map_drop).symm
theorem c_rVal (l : List Rpt) (hll : l.length <= 300) : Yaq Tryz.prog 101 [.sl (l.map Rpt.ds)] (.sl ((outV l l.length).map Rpt.ds)) := by
 refine Yah (n := 47) (ds' := [.sl ((outV l l.length).map Rpt.ds)]) Tryz.func101 J (by kernel_rfl) J [2] J J ?_
 intro B w0 F0 fr
 refine .sr (.aN ?_)
 refine .sr (.aN ?_)
 refine .seq (.sr (.mA ?_))
 refine .sA (.lenSl J et_22.ht J) ?_
 refine .mN ?_
 refine .block (.adopt 3 61 80 5 J J ?_)
 refine .loop (G := Nat) (fun k => Env.of [(11, .iv k), (9, .d (.sl (l.map Rpt.ds))), (10, .iv (l.map Rpt.ds).length), (0, .d (.sl (l.map Rpt.ds))), (3, .own 61)]) (fun k => [(61, .row 80 5 ((outV l k).map Rpt.ds))]) (fun k => k <= l.length) (fun k => l.length - k) 0 (ZnZ _) (Sub.less ⟨U, U, U, U, U, trivial⟩ (Yaj J)) ?_
 intro k hk
 refine .sr (.sA (.lss J J J) (.nil ?_))
 refine .seq (.cT J (fun h1 => ?_) fun h1 => ?_)
 ·rw [ZlM] at h1
  have hlt : k < l.length := by omega
  have hol := outV_len l k
  refine .skip (.seq (.block (.sr (.mA ?_))))
  refine .sA (.indexAddr J et_22 J J k J (Yad hlt) J) (.sA (.loadAgg J Ycq J J) ?_)
  refine .alloc 101 J J J J zt_80 J J J ?_
  refine .aA ?_
  refine .store J J J sz_80 J (.head _) J J J (ZnB J) ?_
  refine .freezeCells 5 (ds := l[k].ds) J (.head _) (.nil ?_)
  refine .sr (.aN ?_)
  refine .seq (.sr (.mA ?_))
  refine .mA ?_
  refine .sA (.add64 J J J) ?_
  refine .sA (.sliceL rfl et_22 rfl rfl (by omega) (by rw [ZlM]; omega) (fun y hy => by obtain ⟨r, _, rfl⟩ := ZmM.1 hy; rfl)) ?_
  rw [show ((k : Int) + 1).toNat = k + 1 by omega, drop_ds]
  refine .sA (.lenSl J et_22.ht J) ?_
  refine .mN ?_
  refine .block (.loop (G := Nat) (fun j => Env.of [(21, .iv j), (19, .d (.sl ((l.drop (k + 1)).map Rpt.ds))), (20, .d (.v (.int .i64 (((l.drop (k + 1)).map Rpt.ds).length : Int)))), (6, .d (.v (.bool (okI l k j)))), (5, .d (.fp l[k].ds)), (11, .iv k), (9, .d (.sl (l.map Rpt.ds))), (10, .iv (l.map Rpt.ds).length), (0, .d (.sl (l.map Rpt.ds))), (3, .own 61)]) (fun j => [(61, .row 80 5 ((outV l k).map Rpt.ds))]) (fun j => j <= l.length - (k + 1)) (fun j => l.length - (k + 1) - j) 0 (ZnZ _) (Sub.less ⟨U, U, U, U, U, U, U, U, U, U, trivial⟩ (Yaj J)) ?_)
  intro j hj
  refine .sr (.sA (.lss J J J) (.nil ?_))
  refine .seq (.cT J (fun h2 => ?_) fun h2 => ?_)
  ·rw [ZlM, ZlD] at h2
   have hjl : k + 1 + j < l.length := by omega
   have hsg := sg_at (l := l) hlt hjl
   have hnx := okI_next l k j
   rw [hsg] at hnx
   refine .skip (.seq (.block (.sr (.sA (.indexAddr J et_22 J J j J (at_drop hjl) J) ?_))))
   refine .sA (.loadAgg J Ycq J J) ?_
   refine .alloc 102 J J J J zt_80 J J J ?_
   refine .store J J J sz_80 J (.head _) J J J (ZnB J) ?_
   refine .freezeCells 8 (ds := l[k + 1 + j].ds) J (.head _) (.nil ?_)
   refine .seq (.draw (by kernel_rfl) (by kernel_rfl) ?_)
   refine .sA (.fieldAddr J YaG J) (.sA (.load J sc_9 J) (.sA (.fieldAddr J YaG J) (.sA (.load J sc_9 J) (.sA (.seql J J J) (.sA (.moveD J J) ?_)))))
   refine .sT 30 J (fun g3 => ?_) fun g3 => ?_
   ·have e1 := g3
    refine .sG (.moveD J J) ?_
    refine .sG (.loadAgg J Ycq J J) ?_
    refine .sG (.call J (.cons (.rfl' J) (.cons (.rfl' J) .nil)) (c_root l _ hll)) ?_
    refine .sG (.moveD J J) ?_
    refine .sG (.loadAgg J Ycq J J) ?_
    refine .sG (.call J (.cons (.rfl' J) (.cons (.rfl' J) .nil)) (c_root l _ hll)) ?_
    refine .sG (.eql J J J) ?_
    refine .sA (.pickT J J J) ?_
    refine .nil ?_
    refine .cT J (fun h4 => ?_) fun h4 => ?_
    ·have HU : okI l k (j + 1) = false := by rw [hnx, decide_eq_true e1, decide_eq_true h4]; simp
     refine .region (.aN ?_)
     refine .region (.sA (.add64 J J J) ?_)
     refine .mN ?_
     refine ⟨j + 1, (by dsimp only; omega), (by dsimp only; omega), Sub.less ⟨U, U, U, (SLe.of_eq (by rw [HU]; rfl)), U, U, U, U, U, U, trivial⟩ (Yaj rfl)⟩
    have HU : okI l k (j + 1) = okI l k j := by rw [hnx, decide_eq_false h4]; simp
    refine .skip (.region (.sA (.add64 J J J) ?_))
    refine .mN ?_
    refine ⟨j + 1, (by dsimp only; omega), (by dsimp only; omega), Sub.less ⟨U, U, U, (SLe.of_eq (by rw [HU]; rfl)), U, U, U, U, U, U, trivial⟩ (Yaj rfl)⟩
   have HU : okI l k (j + 1) = okI l k j := by rw [hnx, decide_eq_false g3]; simp
   refine .pA ?_
   refine .pA ?_
   refine .pA ?_
   refine .pA ?_
   refine .pA ?_
   refine .pA ?_
   refine .pA ?_
   refine .sA (.pickF J J J) ?_
   refine .nil ?_
   refine .cond J (fun h => nomatch h) (fun _ => ?_)
   refine .skip (.region (.sA (.add64 J J J) ?_))
   refine .mN ?_
   refine ⟨j + 1, (by dsimp only; omega), (by dsimp only; omega), Sub.less ⟨U, U, U, (SLe.of_eq (by rw [HU]; rfl)), U, U, U, U, U, U, trivial⟩ (Yaj rfl)⟩
  rw [ZlM, ZlD] at h2
  obtain rfl : j = l.length - (k + 1) := by omega
  refine .exit (.sr (.mN ?_))
  refine .cond J (fun h5 => ?_) (fun h5 => ?_)
  ·skip
   have HN := outV_yes hlt h5
   refine .region (.sA (.moveO J J) ?_)
   refine .sA (.loadAgg J Ycq J J) ?_
   refine .sA (.buildSlice J et_22 (.cons J J J .nil) J (by decide)) ?_
   -- append 44
   refine .append rfl rfl rfl rfl et_22 rfl (.head _) rfl (fun y hy => by obtain rfl := ZmS.1 hy; rfl) (by simp; omega) (by simp; omega) ?_
   refine .sA (.assignO J J) (.nil ?_)
   refine .region (.sA (.add64 J J J) ?_)
   refine .mN ?_
   refine ⟨k + 1, (by omega), (by dsimp only; omega), Sub.less ⟨U, U, U, U, U, trivial⟩ (Yaj (by rw [HN]; first | done | rfl))⟩
  have HN := outV_no (l := l) (k := k) h5
  refine .skip (.region (.sA (.add64 J J J) ?_))
  refine .mN ?_
  refine ⟨k + 1, (by omega), (by dsimp only; omega), Sub.less ⟨U, U, U, U, U, trivial⟩ (Yaj (by rw [HN]; first | done | rfl))⟩
 rw [ZlM] at h1
 obtain rfl : k = l.length := by omega
 refine .exit (.sr (.sA (.moveO J J) ?_))
 refine .sA (.assignO J J) (.nil ?_)
 refine .ret ?_
 refine ⟨RetD.own J (.head _) ?_, trivial⟩
 all_goals (rfl)
open Go.Sort Go.Lib
section
variable {κ : Type} [DecidableEq κ]
structure Plc (lt : κ -> κ -> Bool) (dz : κ × UM -> List D) (O : List (κ × UM)) (k : κ) (i : Nat) (O1 : List (κ × UM)) (v : UM) : Prop where
 pos : i < O1.length
 at_ : (O1.map dz)[i]? = some (dz (k, v))
 fin : ∀ u m, O1.set i (k, (v.1 + u, v.2 + m)) = addO lt addU (k, (u, m)) O
 len : O1.length <= O.length + 1
 bnd : v = (0, 0) \/ ∃ p ∈ O, p.2 = v
end
theorem plc_ins {κ : Type} [DecidableEq κ] {lt : κ -> κ -> Bool} {dz : κ × UM -> List D} {O : List (κ × UM)} {k : κ} {i : Nat} (hi : i <= O.length) (ha : ∀ o ∈ O.take i, lt o.1 k = true) (hs : i = O.length \/ ∃ h : i < O.length, lt O[i].1 k = false /\ ¬ O[i].1 = k) :
 ∃ O1 v, (O.map dz).take i ++ [dz (k, (0, 0))] ++ (O.map dz).drop i = O1.map dz /\ Plc lt dz O k i O1 v := by
 have hT : (O.take i).length = i := by rw [ZlT]; omega
 refine ⟨O.take i ++ [(k, (0, 0))] ++ O.drop i, (0, 0), by simp [List.map_take, List.map_drop], ?_⟩
 have hl : (O.take i ++ [(k, ((0, 0) : UM))] ++ O.drop i).length = O.length + 1 := by simp; omega
 refine ⟨by omega, ?_, fun u m => ?_, by omega, .inl J⟩
 ·rw [List.getElem?_map, List.getElem?_append_left (by simp; omega), List.getElem?_append_right (by omega)]
  simp [hT]
 ·rw [addO_ins hi ha hs]
  simp [hT]
theorem plc_add {κ : Type} [DecidableEq κ] {lt : κ -> κ -> Bool} {dz : κ × UM -> List D} {O : List (κ × UM)} {k : κ} {i : Nat} (h : i < O.length) (ha : ∀ o ∈ O.take i, lt o.1 k = true) (h1 : lt O[i].1 k = false) (h2 : O[i].1 = k) :
 ∃ O1 v, O.map dz = O1.map dz /\ Plc lt dz O k i O1 v := by
 refine ⟨O, O[i].2, J, h, ?_, fun u m => ?_, by omega, .inr ⟨O[i], ZgM h, J⟩⟩
 ·rw [List.getElem?_map, ZgE h, <- h2]; rfl
 ·rw [addO_add h ha h1 h2]; rfl
theorem take_lt {κ : Type} {lt : κ -> κ -> Bool} {O : List (κ × UM)} {k : κ} {i : Nat} (h : i < O.length) (ha : ∀ o ∈ O.take i, lt o.1 k = true) (h1 : lt O[i].1 k = true) : ∀ o ∈ O.take (i + 1), lt o.1 k = true := fun o ho => by
 rw [List.take_add_one, ZgE h, Option.toList_some, List.mem_append, ZmS] at ho
 rcases ho with ho | rfl
 ·exact ha o ho
 ·exact h1
def dzS (p : KS × UM) : List D := (toS p).ds
def oS (a : List Ali) (l : List Rpt) (x : Rpt) (j : Nat) : List (KS × UM) := foldO ltS addU (knA a l ++ (x.lines.take j).flatMap (knE a x))
theorem foldO_snoc {κ β : Type} [DecidableEq κ] {lt : κ -> κ -> Bool} {add : β -> β -> β} (E : List (κ × β)) (e : κ × β) : foldO lt add (E ++ [e]) = addO lt add e (foldO lt add E) := by
 unfold foldO
 rw [List.foldl_append]; rfl
theorem fm_next {γ : Type} {x : Rpt} {j : Nat} (h : j < x.lines.length) (f : Usd -> List γ) (L : List γ) : L ++ (x.lines.take (j + 1)).flatMap f = (L ++ (x.lines.take j).flatMap f) ++ f x.lines[j] := by
 rw [List.take_add_one, ZgE h, Option.toList_some, List.flatMap_append, List.flatMap_cons, List.flatMap_nil, List.append_nil, List.append_assoc]
theorem oS_0 (a : List Ali) (l : List Rpt) (x : Rpt) : oS a l x 0 = foldO ltS addU (knA a l) := by simp [oS]
theorem kn_snoc (a : List Ali) {V : List Rpt} {k : Nat} (h : k < V.length) : knA a (V.take (k + 1)) = knA a (V.take k) ++ V[k].lines.flatMap (knE a V[k]) := by
 unfold knA
 rw [List.take_add_one, ZgE h, Option.toList_some, List.flatMap_append, List.flatMap_cons, List.flatMap_nil, List.append_nil]
theorem oS_end (a : List Ali) {V : List Rpt} {k : Nat} (h : k < V.length) : oS a (V.take k) V[k] V[k].lines.length = foldO ltS addU (knA a (V.take (k + 1))) := by
 rw [kn_snoc a h]; unfold oS; rw [List.take_length]
theorem oS_yes {a : List Ali} {l : List Rpt} {x : Rpt} {j : Nat} (h : j < x.lines.length) (hm : Yak a x.source x.lines[j].title ≠ 0) : oS a l x (j + 1) = addO ltS addU ((Yak a x.source x.lines[j].title, x.period), (x.lines[j].units, x.lines[j].money)) (oS a l x j) := by
 unfold oS
 rw [fm_next h, show knE a x x.lines[j] = [((Yak a x.source x.lines[j].title, x.period), (x.lines[j].units, x.lines[j].money))] from if_pos hm, foldO_snoc]
theorem oS_no {a : List Ali} {l : List Rpt} {x : Rpt} {j : Nat} (h : j < x.lines.length) (hm : Yak a x.source x.lines[j].title = 0) : oS a l x (j + 1) = oS a l x j := by
 unfold oS
 rw [fm_next h, show knE a x x.lines[j] = [] from if_neg (by rw [hm]; simp), List.append_nil]
theorem stB_fold (a : List Ali) (l : List Rpt) (x : Rpt) (j : Nat) : stB a x (stA a l) j = (foldP addU (knA a l ++ (x.lines.take j).flatMap (knE a x)), foldP addU (opA a l ++ (x.lines.take j).flatMap (opE a x))) := by
 unfold stB
 rw [stX_eq, stA_eq]
 unfold foldP
 rw [List.foldl_append, List.foldl_append]
structure OrdG {κ : Type} (lt : κ -> κ -> Bool) (O : List (κ × UM)) : Prop where
 ri : RiG lt O
 len : O.length <= 30000
 bnd : ∀ p ∈ O, (0 <= p.2.1 /\ p.2.1 <= 30000000000000) /\ 0 <= p.2.2 /\ p.2.2 <= 30000000000000
theorem fold_len {κ : Type} [DecidableEq κ] {lt : κ -> κ -> Bool} (T : Tot lt) (E : List (κ × UM)) : (foldO lt addU E).length = (foldP addU E).length := by
 have nd1 : (foldO lt addU E).Nodup := (foldO_ri (add := addU) T E).imp fun {a b} hab e => by rw [e, T.irr] at hab; cases hab
 have nd2 : (foldP addU E).Nodup := (foldP_nk (add := addU) T E).imp fun {a b} hab e => hab (by rw [e])
 exact ((List.perm_ext_iff_of_nodup nd1 nd2).2 fun p => (fold_mem T E p).symm).length_eq
theorem ord_S {a : List Ali} (ha : Als a) {V : List Rpt} (hV : ∀ x ∈ V, RpO x) {k j : Nat} (hk : k < V.length) (hl : V.length <= 300) (hj : j <= V[k].lines.length) : OrdG ltS (oS a (V.take k) V[k] j) := by
 have hx := hV _ (ZgM hk)
 have hI := inv_B ha hx (show 0 <= 100 * (k : Int) by omega) (inv_A ha hV k (by omega)) j hj
 have hll := hx.len
 rw [stB_fold] at hI
 refine ⟨foldO_ri tot_S _, ?_, fun p hp => ?_⟩
 ·have h1 := hI.l1
  have h2 := fold_len tot_S (knA a (V.take k) ++ (V[k].lines.take j).flatMap (knE a V[k]))
  unfold oS
  dsimp only at h1
  omega
 ·have := hI.b1 p ((fold_mem tot_S _ p).2 hp)
  omega
theorem plc_bnd {κ : Type} [DecidableEq κ] {lt : κ -> κ -> Bool} {dz : κ × UM -> List D} {O O1 : List (κ × UM)} {k : κ} {i : Nat} {v : UM} (h : Plc lt dz O k i O1 v) (hO : OrdG lt O) : (0 <= v.1 /\ v.1 <= 30000000000000) /\ 0 <= v.2 /\ v.2 <= 30000000000000 := by
 rcases h.bnd with rfl | ⟨p, hp, rfl⟩
 ·show (0 <= (0 : Int) /\ (0 : Int) <= 30000000000000) /\ 0 <= (0 : Int) /\ (0 : Int) <= 30000000000000
  omega
 ·exact hO.bnd p hp
theorem set_dzS (O1 : List (KS × UM)) (i : Nat) (k : KS) (v : UM) (u m : Int) : ((O1.map dzS).set i [.v (.int .i64 k.1), .v (.int .i64 k.2), .v (.int .i64 (v.1 + u)), .v (.int .i64 v.2)]).set i [.v (.int .i64 k.1), .v (.int .i64 k.2), .v (.int .i64 (v.1 + u)), .v (.int .i64 (v.2 + m))] = (O1.set i (k, (v.1 + u, v.2 + m))).map dzS := by
 rw [List.set_set, List.map_set]; rfl
theorem ltS_1 {a b : KS} (h : a.1 < b.1) : ltS a b = true := lexL_iff.2 (.inl (by unfold ltI2; exact decide_eq_true h))
theorem ltS_2 {a b : KS} (h : a.1 = b.1) (h2 : a.2 < b.2) : ltS a b = true := lexL_iff.2 (.inr ⟨h, by unfold ltI2; exact decide_eq_true h2⟩)
theorem ltS_0 {a b : KS} (h : ¬ a.1 < b.1) (h2 : ¬ (a.1 = b.1 /\ a.2 < b.2)) : ltS a b = false := by
 cases h3 : ltS a b with
 | false => rfl
 | true =>
  rcases lexL_iff.1 h3 with h4 | ⟨h4, h5⟩
  ·exact absurd (dcT h4) h
  ·exact absurd ⟨h4, dcT h5⟩ h2
theorem meant_hit {a : List Ali} {s t : ByteArray} {k : Nat} (hk : k < a.length) (h0 : ∀ x ∈ a.take k, ¬ (x.source = s /\ x.title = t)) (h1 : a[k].source = s) (h2 : a[k].title = t) : Yak a s t = a[k].recd := by
 have h3 : a.find? (fun x => decide (x.source = s) && decide (x.title = t)) = some a[k] := List.find?_eq_some_iff_getElem.2 ⟨by simp [h1, h2], k, hk, rfl, fun j hj => by
  have := h0 a[j] (List.mem_take_iff_getElem.2 ⟨j, by omega, rfl⟩)
  rw [Bool.not_eq_true', Bool.and_eq_false_iff, decide_eq_false_iff_not, decide_eq_false_iff_not]
  exact Decidable.not_and_iff_not_or_not.1 this⟩
 unfold Yak
 rw [h3]; rfl
theorem meant_next {a : List Ali} {s t : ByteArray} {k : Nat} (hk : k < a.length) (h0 : ∀ x ∈ a.take k, ¬ (x.source = s /\ x.title = t)) (h1 : ¬ (a[k].source = s /\ a[k].title = t)) : ∀ x ∈ a.take (k + 1), ¬ (x.source = s /\ x.title = t) := fun x hx => by
 rw [List.take_add_one, ZgE hk, Option.toList_some, List.mem_append, ZmS] at hx
 rcases hx with hx | rfl
 ·exact h0 x hx
 ·exact h1
theorem c_meant (a : List Ali) (s t : ByteArray) (hal : a.length <= 500) : Yaq Tryz.prog 102 [.sl (a.map Ali.ds), .v (.string s), .v (.string t)] (.v (.int .i64 (Yak a s t))) := by
 refine Yah (n := 28) (ds' := [.v (.int .i64 (Yak a s t))]) Tryz.func102 J (by kernel_rfl) J [6] J J ?_
 intro B w0 F0 fr
 refine .sr (.aN ?_)
 refine .seq (.sr (.mA ?_))
 refine .sA (.lenSl J et_32.ht J) ?_
 refine .mN ?_
 refine .block (.loop (G := Nat) (fun k => Env.of [(11, .iv k), (9, .d (.sl (a.map Ali.ds))), (10, .iv (a.map Ali.ds).length), (1, .d (.v (.string s))), (2, .d (.v (.string t)))]) (fun k => []) (fun k => k <= a.length /\ ∀ x ∈ a.take k, ¬ (x.source = s /\ x.title = t)) (fun k => a.length - k) 0 ⟨ZnZ _, fun x h => by simp at h⟩ (Sub.less ⟨U, U, U, U, U, trivial⟩ (fun _ h => h)) ?_)
 intro k hk
 refine .sr (.sA (.lss J J J) (.nil ?_))
 refine .seq (.cT J (fun h1 => ?_) fun h1 => ?_)
 ·rw [ZlM] at h1
  have hlt : k < a.length := by omega
  refine .skip (.seq (.block (.sr (.sA (.indexAddr J et_32 J J k J (Yad hlt) J) ?_))))
  refine .sA (.loadAgg J ag_122 J J) ?_
  refine .alloc 101 J J J J zt_122 J J J ?_
  refine .store J J J sz_122 J (.head _) J J J (ZnB J) ?_
  refine .freezeCells 8 (ds := a[k].ds) J (.head _) (.nil ?_)
  refine .sr (.sA (.fieldAddr J YbN J) ?_)
  refine .sA (.load J sc_9 J) ?_
  refine .mA ?_
  refine .sA (.seql J J J) ?_
  refine .mA ?_
  refine .sT 19 J (fun g2 => ?_) fun g2 => ?_
  ·have h19 := g2
   refine .sG (.fieldAddr J fo_122_1 J) ?_
   refine .sG (.load J sc_9 J) ?_
   refine .sG (.moveD J J) ?_
   refine .sG (.seql J J J) ?_
   refine .sA (.pickT J J J) (.nil ?_)
   refine .cT J (fun h3 => ?_) fun h3 => ?_
   ·rw [meant_hit hlt hk.2 h19 h3]
    refine .sr (.sA (.fieldAddr J fo_122_2 J) ?_)
    refine .sA (.load J sc_3 J) ?_
    refine .aN ?_
    refine .ret (rD J ?_)
    all_goals (rfl)
   have HN := meant_next hlt hk.2 (fun hh => h3 hh.2)
   refine .skip (.region (.sA (.add64 J J J) ?_))
   refine .mN ?_
   refine ⟨k + 1, ⟨by omega, HN⟩, (by dsimp only; omega), Sub.less ⟨U, U, U, U, U, trivial⟩ (fun _ h => h)⟩
  have HN := meant_next hlt hk.2 (fun hh => g2 hh.1)
  refine .pA ?_
  refine .pA ?_
  refine .pA ?_
  refine .pA ?_
  refine .sA (.pickF J J J) (.nil ?_)
  refine .cond J (fun h => nomatch h) (fun _ => ?_)
  refine .skip (.region (.sA (.add64 J J J) ?_))
  refine .mN ?_
  refine ⟨k + 1, ⟨by omega, HN⟩, (by dsimp only; omega), Sub.less ⟨U, U, U, U, U, trivial⟩ (fun _ h => h)⟩
 rw [ZlM] at h1
 obtain rfl : k = a.length := by omega
 rw [meant_no (a := a) (s := s) (t := t) (fun x hx => hk.2 x (by rw [List.take_length]; exact hx))]
 refine .exit (.sr (.aN ?_))
 refine .ret (rD J ?_)
 all_goals (rfl)
open Go.Sort Go.Lib
theorem dz_map_S (L : List (KS × UM)) : (L.map toS).map Sal.ds = L.map dzS := List.map_map
theorem c_rSales (l : List Rpt) (a : List Ali) (hl : Log l) (ho : ∀ x ∈ l, okRpt x) (ha : Als a) : Yaq Tryz.prog 48 [.sl (l.map Rpt.ds), .sl (a.map Ali.ds)] (.sl ((salesR a (Yaa l)).map Sal.ds)) := by
 refine Yah (n := 122) (ds' := [.sl ((salesR a (Yaa l)).map Sal.ds)]) Tryz.func48 J (by kernel_rfl) J [4] J J ?_
 intro B w0 F0 fr
 have hll := hl.len
 have hvl : (Yaa l).length <= l.length := List.length_filter_le _ _
 have hV : ∀ x ∈ (Yaa l), RpO x := fun x hx => rpO (hl.ok x (List.mem_filter.1 hx).1) (ho x (List.mem_filter.1 hx).1)
 have hal := ha.len
 refine .sr (.aN ?_)
 refine .sr (.aN ?_)
 refine .seq (.sr (.mA ?_))
 refine .sA (.call J (.cons (.rfl' J) .nil) (c_rVal l hll)) ?_
 rw [out_eq hl]
 refine .sA (.lenSl J et_22.ht J) ?_
 refine .mN ?_
 refine .block (.adopt 5 61 167 4 J J ?_)
 refine .loop (G := Nat) (fun k => Env.of [(15, .iv k), (13, .d (.sl ((Yaa l).map Rpt.ds))), (14, .iv ((Yaa l).map Rpt.ds).length), (1, .d (.sl (a.map Ali.ds))), (5, .own 61)]) (fun k => [(61, .row 167 4 ((foldO ltS addU (knA a ((Yaa l).take k))).map dzS))]) (fun k => k <= (Yaa l).length) (fun k => (Yaa l).length - k) 0 (ZnZ _) (Sub.less ⟨U, U, U, U, U, trivial⟩ (Yaj J)) ?_
 intro k hk
 refine .sr (.sA (.lss J J J) (.nil ?_))
 refine .seq (.cT J (fun h1 => ?_) fun h1 => ?_)
 ·rw [ZlM] at h1
  have hlt : k < (Yaa l).length := by omega
  have hx := hV _ (ZgM hlt)
  have hxl := hx.len
  refine .skip (.seq (.block (.sr (.sA (.indexAddr J et_22 J J k J (Yad hlt) J) ?_))))
  refine .sA (.loadAgg J Ycq J J) ?_
  refine .alloc 101 J J J J zt_80 J J J ?_
  refine .store J J J sz_80 J (.head _) J J J (ZnB J) ?_
  refine .freezeCells 7 (ds := (Yaa l)[k].ds) J (.head _) (.nil ?_)
  refine .sr (.sA (.fieldAddr J fo_80_4 J) ?_)
  refine .sA (.load J sc_78 J) (.sA (.lenSl J et_78.ht J) ?_)
  refine .mN ?_
  refine .block (.loop (G := Nat) (fun j => Env.of [(22, .iv j), (20, .d (.sl ((Yaa l)[k].lines.map Usd.ds))), (21, .iv ((Yaa l)[k].lines.map Usd.ds).length), (7, .d (.fp (Yaa l)[k].ds)), (15, .iv k), (13, .d (.sl ((Yaa l).map Rpt.ds))), (14, .iv ((Yaa l).map Rpt.ds).length), (1, .d (.sl (a.map Ali.ds))), (5, .own 61)]) (fun j => [(61, .row 167 4 ((oS a ((Yaa l).take k) (Yaa l)[k] j).map dzS))]) (fun j => j <= (Yaa l)[k].lines.length) (fun j => (Yaa l)[k].lines.length - j) 0 (ZnZ _) (Sub.less ⟨U, U, U, U, U, U, U, U, U, trivial⟩ (Yaj (by rw [oS_0]))) ?_)
  intro j hj
  refine .sr (.sA (.lss J J J) (.nil ?_))
  refine .seq (.cT J (fun h2 => ?_) fun h2 => ?_)
  ·rw [ZlM] at h2
   have hjl : j < (Yaa l)[k].lines.length := by omega
   have hu := hx.use _ (ZgM hjl)
   have hO := ord_S ha hV hlt (by omega) (Nat.le_of_lt hjl)
   have hOl := hO.len
   refine .skip (.seq (.block (.sr (.sA (.indexAddr J et_78 J J j J (Yad hjl) J) ?_))))
   refine .sA (.loadAgg J ag_75 J J) ?_
   refine .alloc 102 J J J J zt_75 J J J ?_
   refine .store J J J sz_75 J (.head _) J J J (ZnB J) ?_
   refine .freezeCells 9 (ds := (Yaa l)[k].lines[j].ds) J (.head _) (.nil ?_)
   refine .sr (.mA ?_)
   refine .sA (.fieldAddr J YaG J) (.sA (.load J sc_9 J) (.sA (.fieldAddr J Ych J) (.sA (.load J sc_9 J) (.sA (.call J (.cons (.rfl' J) (.cons (.rfl' J) (.cons (.rfl' J) .nil))) (c_meant _ _ _ hal)) ?_))))
   refine .aN ?_
   refine .seq (.sr (.mA ?_))
   refine .sA (.eql J J J) (.nil ?_)
   refine .cT J (fun h3 => ?_) fun h3 => ?_
   ·have HN := oS_no (a := a) (l := (Yaa l).take k) hjl h3
    refine .exit (.region (.sA (.add64 J J J) ?_))
    refine .mN ?_
    refine ⟨j + 1, (by dsimp only; omega), (by dsimp only; omega), Sub.less ⟨U, U, U, U, U, U, U, U, U, trivial⟩ (Yaj (by first | (rw [<- HF]; exact HS) | (rw [HN])))⟩
   have HN := oS_yes (a := a) (l := (Yaa l).take k) hjl h3
   refine .skip (.sr (.aN ?_))
   refine .seq (.block (.loop (G := Nat) (fun i => Env.of [(11, .iv i), (10, .iv (Yak a (Yaa l)[k].source (Yaa l)[k].lines[j].title)), (9, .d (.fp (Yaa l)[k].lines[j].ds)), (22, .iv j), (20, .d (.sl ((Yaa l)[k].lines.map Usd.ds))), (21, .iv ((Yaa l)[k].lines.map Usd.ds).length), (7, .d (.fp (Yaa l)[k].ds)), (15, .iv k), (13, .d (.sl ((Yaa l).map Rpt.ds))), (14, .iv ((Yaa l).map Rpt.ds).length), (1, .d (.sl (a.map Ali.ds))), (5, .own 61)]) (fun i => [(61, .row 167 4 ((oS a ((Yaa l).take k) (Yaa l)[k] j).map dzS))]) (fun i => i <= (oS a ((Yaa l).take k) (Yaa l)[k] j).length /\ ∀ o ∈ (oS a ((Yaa l).take k) (Yaa l)[k] j).take i, ltS o.1 ((Yak a (Yaa l)[k].source (Yaa l)[k].lines[j].title), (Yaa l)[k].period) = true) (fun i => (oS a ((Yaa l).take k) (Yaa l)[k] j).length - i) 0 ⟨ZnZ _, fun o h => by simp at h⟩ (Sub.less ⟨U, U, U, U, U, U, U, U, U, U, U, U, trivial⟩ (Yaj rfl)) ?_))
   intro i hi
   refine .seq (.seq (.draw (by kernel_rfl) (by kernel_rfl) ?_))
   refine .sA (.moveD J J) (.sA (.moveO J J) (.sA (.lenOwn J et_97.ht J (.head _)) (.sA (.lss J J J) (.sA (.moveD J J) ?_))))
   refine .sT 38 J (fun g4 => ?_) fun g4 => ?_
   ·rw [ZlM] at g4
    have hil : i < (oS a ((Yaa l).take k) (Yaa l)[k] j).length := by omega
    refine .sG (.moveO J J) ?_
    refine .sG (.moveD J J) ?_
    refine .sG (.indexOwn J et_97 J J (.head _) i J (by rw [ZlM]; omega)) ?_
    refine .sG (.fieldAddrP J fo_167_0 J) ?_
    refine .sG (.loadRow J sc_3 J (.head _) i 0 J (Yad hil) J) ?_
    refine .sG (.moveD J J) ?_
    refine .sG (.lss J J J) ?_
    refine .sG (.moveD J J) ?_
    refine .sT 46 J (fun g5 => ?_) fun g5 => ?_
    ·have HT := take_lt hil hi.2 (ltS_1 (b := ((Yak a (Yaa l)[k].source (Yaa l)[k].lines[j].title), (Yaa l)[k].period)) g5)
     refine .pA ?_
     refine .pA ?_
     refine .pA ?_
     refine .pA ?_
     refine .pA ?_
     refine .pA ?_
     refine .pA ?_
     refine .pA ?_
     refine .pass ⟨54, J, .inr ⟨J, J⟩⟩ J J ?_
     refine .pass ⟨54, J, .inr ⟨J, J⟩⟩ J J ?_
     refine .pass ⟨54, J, .inr ⟨J, J⟩⟩ J J ?_
     refine .pass ⟨54, J, .inr ⟨J, J⟩⟩ J J ?_
     refine .pass ⟨54, J, .inr ⟨J, J⟩⟩ J J ?_
     refine .pass ⟨54, J, .inr ⟨J, J⟩⟩ J J ?_
     refine .pass ⟨54, J, .inr ⟨J, J⟩⟩ J J ?_
     refine .pass ⟨54, J, .inr ⟨J, J⟩⟩ J J ?_
     refine .pA ?_
     refine .sG (.pickT J J J) ?_
     refine .sA (.pickT J J J) ?_
     refine .nil ?_
     refine .cond J (fun _ => ?_) (fun h => nomatch h)
     refine .skip (.block (.region (.mA ?_)))
     refine .sA (.add64 J J J) ?_
     refine .aN ?_
     refine ⟨i + 1, ⟨by omega, HT⟩, (by dsimp only; omega), Sub.less ⟨U, U, U, U, U, U, U, U, U, U, U, U, trivial⟩ (Yaj rfl)⟩
    have g46 := g5
    refine .sG (.moveO J J) ?_
    refine .sG (.moveD J J) ?_
    refine .sG (.indexOwn J et_97 J J (.head _) i J (by rw [ZlM]; omega)) ?_
    refine .sG (.fieldAddrP J fo_167_0 J) ?_
    refine .sG (.loadRow J sc_3 J (.head _) i 0 J (Yad hil) J) ?_
    refine .sG (.moveD J J) ?_
    refine .sG (.eql J J J) ?_
    refine .sG (.moveD J J) ?_
    refine .sT 54 J (fun g6 => ?_) fun g6 => ?_
    ·have g54 := g6
     refine .sG (.moveO J J) ?_
     refine .sG (.moveD J J) ?_
     refine .sG (.indexOwn J et_97 J J (.head _) i J (by rw [ZlM]; omega)) ?_
     refine .sG (.fieldAddrP J fo_167_1 J) ?_
     refine .sG (.loadRow J sc_3 J (.head _) i 1 J (Yad hil) J) ?_
     refine .sG (.fieldAddr J Ycg J) ?_
     refine .sG (.load J sc_3 J) ?_
     refine .sG (.lss J J J) ?_
     refine .sG (.pickT J J J) ?_
     refine .sG (.pickF J J J) ?_
     refine .sA (.pickT J J J) ?_
     refine .nil ?_
     refine .cT J (fun h7 => ?_) fun h7 => ?_
     ·have HT := take_lt hil hi.2 (ltS_2 (b := ((Yak a (Yaa l)[k].source (Yaa l)[k].lines[j].title), (Yaa l)[k].period)) g54 h7)
      refine .skip (.block (.region (.mA ?_)))
      refine .sA (.add64 J J J) ?_
      refine .aN ?_
      refine ⟨i + 1, ⟨by omega, HT⟩, (by dsimp only; omega), Sub.less ⟨U, U, U, U, U, U, U, U, U, U, U, U, trivial⟩ (Yaj rfl)⟩
     have HNL := ltS_0 (b := ((Yak a (Yaa l)[k].source (Yaa l)[k].lines[j].title), (Yaa l)[k].period)) g46 (fun hh => h7 hh.2)
     have g65 := h7
     refine .exit (.seq (.seq (.draw (by kernel_rfl) (by kernel_rfl) ?_)))
     refine .sA (.moveD J J) (.sA (.moveO J J) (.sA (.lenOwn J et_97.ht J (.head _)) (.sA (.eql J J J) (.sA (.moveD J J) ?_))))
     refine .sT 72 J (fun g8 => ?_) fun g8 => ?_
     ·rw [ZlM] at g8; exfalso; omega
     skip
     refine .sG (.moveO J J) ?_
     refine .sG (.moveD J J) ?_
     refine .sG (.indexOwn J et_97 J J (.head _) i J (by rw [ZlM]; omega)) ?_
     refine .sG (.fieldAddrP J fo_167_0 J) ?_
     refine .sG (.loadRow J sc_3 J (.head _) i 0 J (Yad hil) J) ?_
     refine .sG (.moveD J J) ?_
     refine .sG (.neq J J J) ?_
     refine .sA (.pickF J J J) (.sA (.moveD J J) ?_)
     refine .sT 81 J (fun g9 => ?_) fun g9 => ?_
     ·exact absurd g54 g9
     skip
     refine .sG (.moveO J J) ?_
     refine .sG (.moveD J J) ?_
     refine .sG (.indexOwn J et_97 J J (.head _) i J (by rw [ZlM]; omega)) ?_
     refine .sG (.fieldAddrP J fo_167_1 J) ?_
     refine .sG (.loadRow J sc_3 J (.head _) i 1 J (Yad hil) J) ?_
     refine .sG (.fieldAddr J Ycg J) ?_
     refine .sG (.load J sc_3 J) ?_
     refine .sG (.neq J J J) ?_
     refine .sA (.pickF J J J) ?_
     refine .nil ?_
     refine .cT J (fun h10 => ?_) fun h10 => ?_
     ·obtain ⟨O1, v, hW, hP⟩ := plc_ins (lt := ltS) (dz := dzS) (O := (oS a ((Yaa l).take k) (Yaa l)[k] j)) (k := ((Yak a (Yaa l)[k].source (Yaa l)[k].lines[j].title), (Yaa l)[k].period)) (i := i) hi.1 hi.2 (.inr ⟨hil, HNL, fun hh => h10 (congrArg Prod.snd hh)⟩)
      have hb := plc_bnd hP hO
      have hPl := hP.len
      have hPp := hP.pos
      have HF := hP.fin (Yaa l)[k].lines[j].units (Yaa l)[k].lines[j].money
      rw [<- HN] at HF
      have hv1 : (toS (((Yak a (Yaa l)[k].source (Yaa l)[k].lines[j].title), (Yaa l)[k].period), v)).units = v.1 := rfl
      have hv2 : (toS (((Yak a (Yaa l)[k].source (Yaa l)[k].lines[j].title), (Yaa l)[k].period), v)).money = v.2 := rfl
      refine .region (.sA (.moveO J J) ?_)
      refine .mA ?_
      refine .mA ?_
      refine .sA (.fieldAddr J Ycg J) (.sA (.load J sc_3 J) (.sA (.build J bu_167 (.cons J J (.cons J J .nil)) J) ?_))
      refine .buildS 171 J J J J et_97 J J J J J ?_
      -- inserts into 61
      refine .insertK (id := 61) (idx := 171) (k := i) InsS.insT J J J J J (.tail _ (.head _)) J J (by rw [ZlM]; exact hi.1) J (.head _) (by decide) (by rw [ZlM]; omega) ?_
      refine .sA (.assignO J J) (.nil ?_)
      refine .seq (.obs (σ' := [(61, .row 167 4 (O1.map dzS))]) (Yaj hW) ?_)
      refine .drawG (fun k => (Nat.beq k 10) || (Nat.beq k 2 || Nat.beq k 4 || Nat.beq k 8)) (fun k => Nat.beq k 10) (fun k h => ZbO.2 (.inl h)) (by kernel_rfl) (by kernel_rfl) (by kernel_rfl) ?_
      refine .step J J J (fun _ => AOp.moveO J J) ?_
      refine .step J J J (fun _ => AOp.moveD J J) ?_
      refine .stepS J J J J (.indexOwn J et_97 J J (.head _) i J (by rw [ZlM]; omega)) ?_
      refine .step J J J (fun _ => AOp.fieldAddrP J YbM J) ?_
      refine .stepS J J J J (.loadRow J sc_3 J (.head _) i 2 J hP.at_ J) ?_
      refine .step J J J (fun _ => AOp.fieldAddr J fo_75_1 J) ?_
      refine .step J J J (fun _ => AOp.load J sc_3 J) ?_
      refine .step J J J (fun _ => AOp.add64 J J J (by omega) (by omega)) ?_
      refine .stepS J J J J (.indexOwn J et_97 J J (.head _) i J (by rw [ZlM]; omega)) ?_
      refine .step J J J (fun _ => AOp.fieldAddrP J YbM J) ?_
      refine .eff J J J (.storeRow J J sz_3 J (.head _) J J J i 2 J hP.at_ (ZnB J)) ?_
      refine .nil ?_
      refine .obs (σ' := [(61, .row 167 4 ((O1.map dzS).set i [.v (.int .i64 (Yak a (Yaa l)[k].source (Yaa l)[k].lines[j].title)), .v (.int .i64 (Yaa l)[k].period), .v (.int .i64 (v.1 + (Yaa l)[k].lines[j].units)), .v (.int .i64 v.2)]))]) (Yaj J) ?_
      have HS := set_dzS O1 i ((Yak a (Yaa l)[k].source (Yaa l)[k].lines[j].title), (Yaa l)[k].period) v (Yaa l)[k].lines[j].units (Yaa l)[k].lines[j].money
      have hL1 : ((O1.map dzS).set i [.v (.int .i64 (Yak a (Yaa l)[k].source (Yaa l)[k].lines[j].title)), .v (.int .i64 (Yaa l)[k].period), .v (.int .i64 (v.1 + (Yaa l)[k].lines[j].units)), .v (.int .i64 v.2)])[i]? = some [.v (.int .i64 (Yak a (Yaa l)[k].source (Yaa l)[k].lines[j].title)), .v (.int .i64 (Yaa l)[k].period), .v (.int .i64 (v.1 + (Yaa l)[k].lines[j].units)), .v (.int .i64 v.2)] := List.getElem?_set_self (by rw [ZlM]; omega)
      refine .drawG (fun k => (Nat.beq k 10) || (Nat.beq k 2 || Nat.beq k 4 || Nat.beq k 8)) (fun k => Nat.beq k 10) (fun k h => ZbO.2 (.inl h)) (by kernel_rfl) (by kernel_rfl) (by kernel_rfl) ?_
      refine .step J J J (fun _ => AOp.moveO J J) ?_
      refine .step J J J (fun _ => AOp.moveD J J) ?_
      refine .stepS J J J J (.indexOwn J et_97 J J (.head _) i J (by rw [List.length_set, ZlM]; omega)) ?_
      refine .step J J J (fun _ => AOp.fieldAddrP J Yba J) ?_
      refine .stepS J J J J (.loadRow J sc_3 J (.head _) i 3 J hL1 J) ?_
      refine .step J J J (fun _ => AOp.fieldAddr J fo_75_2 J) ?_
      refine .step J J J (fun _ => AOp.load J sc_3 J) ?_
      refine .step J J J (fun _ => AOp.add64 J J J (by omega) (by omega)) ?_
      refine .stepS J J J J (.indexOwn J et_97 J J (.head _) i J (by rw [List.length_set, ZlM]; omega)) ?_
      refine .step J J J (fun _ => AOp.fieldAddrP J Yba J) ?_
      refine .eff J J J (.storeRow J J sz_3 J (.head _) J J J i 3 J hL1 (ZnB J)) ?_
      refine .nil ?_
      refine .region (.sA (.add64 J J J) ?_)
      refine .mN ?_
      refine ⟨j + 1, (by dsimp only; omega), (by dsimp only; omega), Sub.less ⟨U, U, U, U, U, U, U, U, U, trivial⟩ (Yaj (by first | (rw [<- HF]; exact HS) | (rw [HN])))⟩
     obtain ⟨O1, v, hW, hP⟩ := plc_add (lt := ltS) (dz := dzS) hil hi.2 HNL (Prod.ext g54 (by first | exact h10 | exact Decidable.not_not.1 h10))
     have hb := plc_bnd hP hO
     have hPl := hP.len
     have hPp := hP.pos
     have HF := hP.fin (Yaa l)[k].lines[j].units (Yaa l)[k].lines[j].money
     rw [<- HN] at HF
     have hv1 : (toS (((Yak a (Yaa l)[k].source (Yaa l)[k].lines[j].title), (Yaa l)[k].period), v)).units = v.1 := rfl
     have hv2 : (toS (((Yak a (Yaa l)[k].source (Yaa l)[k].lines[j].title), (Yaa l)[k].period), v)).money = v.2 := rfl
     refine .skip (.seq (.obs (σ' := [(61, .row 167 4 (O1.map dzS))]) (Yaj hW) ?_))
     refine .drawG (fun k => (Nat.beq k 10) || (Nat.beq k 2 || Nat.beq k 4 || Nat.beq k 8)) (fun k => Nat.beq k 10) (fun k h => ZbO.2 (.inl h)) (by kernel_rfl) (by kernel_rfl) (by kernel_rfl) ?_
     refine .step J J J (fun _ => AOp.moveO J J) ?_
     refine .step J J J (fun _ => AOp.moveD J J) ?_
     refine .stepS J J J J (.indexOwn J et_97 J J (.head _) i J (by rw [ZlM]; omega)) ?_
     refine .step J J J (fun _ => AOp.fieldAddrP J YbM J) ?_
     refine .stepS J J J J (.loadRow J sc_3 J (.head _) i 2 J hP.at_ J) ?_
     refine .step J J J (fun _ => AOp.fieldAddr J fo_75_1 J) ?_
     refine .step J J J (fun _ => AOp.load J sc_3 J) ?_
     refine .step J J J (fun _ => AOp.add64 J J J (by omega) (by omega)) ?_
     refine .stepS J J J J (.indexOwn J et_97 J J (.head _) i J (by rw [ZlM]; omega)) ?_
     refine .step J J J (fun _ => AOp.fieldAddrP J YbM J) ?_
     refine .eff J J J (.storeRow J J sz_3 J (.head _) J J J i 2 J hP.at_ (ZnB J)) ?_
     refine .nil ?_
     refine .obs (σ' := [(61, .row 167 4 ((O1.map dzS).set i [.v (.int .i64 (Yak a (Yaa l)[k].source (Yaa l)[k].lines[j].title)), .v (.int .i64 (Yaa l)[k].period), .v (.int .i64 (v.1 + (Yaa l)[k].lines[j].units)), .v (.int .i64 v.2)]))]) (Yaj J) ?_
     have HS := set_dzS O1 i ((Yak a (Yaa l)[k].source (Yaa l)[k].lines[j].title), (Yaa l)[k].period) v (Yaa l)[k].lines[j].units (Yaa l)[k].lines[j].money
     have hL1 : ((O1.map dzS).set i [.v (.int .i64 (Yak a (Yaa l)[k].source (Yaa l)[k].lines[j].title)), .v (.int .i64 (Yaa l)[k].period), .v (.int .i64 (v.1 + (Yaa l)[k].lines[j].units)), .v (.int .i64 v.2)])[i]? = some [.v (.int .i64 (Yak a (Yaa l)[k].source (Yaa l)[k].lines[j].title)), .v (.int .i64 (Yaa l)[k].period), .v (.int .i64 (v.1 + (Yaa l)[k].lines[j].units)), .v (.int .i64 v.2)] := List.getElem?_set_self (by rw [ZlM]; omega)
     refine .drawG (fun k => (Nat.beq k 10) || (Nat.beq k 2 || Nat.beq k 4 || Nat.beq k 8)) (fun k => Nat.beq k 10) (fun k h => ZbO.2 (.inl h)) (by kernel_rfl) (by kernel_rfl) (by kernel_rfl) ?_
     refine .step J J J (fun _ => AOp.moveO J J) ?_
     refine .step J J J (fun _ => AOp.moveD J J) ?_
     refine .stepS J J J J (.indexOwn J et_97 J J (.head _) i J (by rw [List.length_set, ZlM]; omega)) ?_
     refine .step J J J (fun _ => AOp.fieldAddrP J Yba J) ?_
     refine .stepS J J J J (.loadRow J sc_3 J (.head _) i 3 J hL1 J) ?_
     refine .step J J J (fun _ => AOp.fieldAddr J fo_75_2 J) ?_
     refine .step J J J (fun _ => AOp.load J sc_3 J) ?_
     refine .step J J J (fun _ => AOp.add64 J J J (by omega) (by omega)) ?_
     refine .stepS J J J J (.indexOwn J et_97 J J (.head _) i J (by rw [List.length_set, ZlM]; omega)) ?_
     refine .step J J J (fun _ => AOp.fieldAddrP J Yba J) ?_
     refine .eff J J J (.storeRow J J sz_3 J (.head _) J J J i 3 J hL1 (ZnB J)) ?_
     refine .nil ?_
     refine .region (.sA (.add64 J J J) ?_)
     refine .mN ?_
     refine ⟨j + 1, (by dsimp only; omega), (by dsimp only; omega), Sub.less ⟨U, U, U, U, U, U, U, U, U, trivial⟩ (Yaj (by first | (rw [<- HF]; exact HS) | (rw [HN])))⟩
    have HNL := ltS_0 (b := ((Yak a (Yaa l)[k].source (Yaa l)[k].lines[j].title), (Yaa l)[k].period)) g46 (fun hh => g6 hh.1)
    have g54 := g6
    refine .pA ?_
    refine .pA ?_
    refine .pA ?_
    refine .pA ?_
    refine .pA ?_
    refine .pA ?_
    refine .pA ?_
    refine .pA ?_
    refine .sG (.pickF J J J) ?_
    refine .sG (.pickF J J J) ?_
    refine .sA (.pickT J J J) ?_
    refine .nil ?_
    refine .cond J (fun h => nomatch h) (fun _ => ?_)
    refine .exit (.seq (.seq (.draw (by kernel_rfl) (by kernel_rfl) ?_)))
    refine .sA (.moveD J J) (.sA (.moveO J J) (.sA (.lenOwn J et_97.ht J (.head _)) (.sA (.eql J J J) (.sA (.moveD J J) ?_))))
    refine .sT 72 J (fun g11 => ?_) fun g11 => ?_
    ·rw [ZlM] at g11; exfalso; omega
    skip
    refine .sG (.moveO J J) ?_
    refine .sG (.moveD J J) ?_
    refine .sG (.indexOwn J et_97 J J (.head _) i J (by rw [ZlM]; omega)) ?_
    refine .sG (.fieldAddrP J fo_167_0 J) ?_
    refine .sG (.loadRow J sc_3 J (.head _) i 0 J (Yad hil) J) ?_
    refine .sG (.moveD J J) ?_
    refine .sG (.neq J J J) ?_
    refine .sA (.pickF J J J) (.sA (.moveD J J) ?_)
    refine .sT 81 J (fun g12 => ?_) fun g12 => ?_
    ·obtain ⟨O1, v, hW, hP⟩ := plc_ins (lt := ltS) (dz := dzS) (O := (oS a ((Yaa l).take k) (Yaa l)[k] j)) (k := ((Yak a (Yaa l)[k].source (Yaa l)[k].lines[j].title), (Yaa l)[k].period)) (i := i) hi.1 hi.2 (.inr ⟨hil, HNL, fun hh => g54 (congrArg Prod.fst hh)⟩)
     have hb := plc_bnd hP hO
     have hPl := hP.len
     have hPp := hP.pos
     have HF := hP.fin (Yaa l)[k].lines[j].units (Yaa l)[k].lines[j].money
     rw [<- HN] at HF
     have hv1 : (toS (((Yak a (Yaa l)[k].source (Yaa l)[k].lines[j].title), (Yaa l)[k].period), v)).units = v.1 := rfl
     have hv2 : (toS (((Yak a (Yaa l)[k].source (Yaa l)[k].lines[j].title), (Yaa l)[k].period), v)).money = v.2 := rfl
     refine .pA ?_
     refine .pA ?_
     refine .pA ?_
     refine .pA ?_
     refine .pA ?_
     refine .pA ?_
     refine .pA ?_
     refine .pA ?_
     refine .sA (.pickT J J J) ?_
     refine .nil ?_
     refine .cond J (fun _ => ?_) (fun h => nomatch h)
     refine .region (.sA (.moveO J J) ?_)
     refine .mA ?_
     refine .mA ?_
     refine .sA (.fieldAddr J Ycg J) (.sA (.load J sc_3 J) (.sA (.build J bu_167 (.cons J J (.cons J J .nil)) J) ?_))
     refine .buildS 171 J J J J et_97 J J J J J ?_
     -- inserts into 61
     refine .insertK (id := 61) (idx := 171) (k := i) InsS.insT J J J J J (.tail _ (.head _)) J J (by rw [ZlM]; exact hi.1) J (.head _) (by decide) (by rw [ZlM]; omega) ?_
     refine .sA (.assignO J J) (.nil ?_)
     refine .seq (.obs (σ' := [(61, .row 167 4 (O1.map dzS))]) (Yaj hW) ?_)
     refine .drawG (fun k => (Nat.beq k 10) || (Nat.beq k 2 || Nat.beq k 4 || Nat.beq k 8)) (fun k => Nat.beq k 10) (fun k h => ZbO.2 (.inl h)) (by kernel_rfl) (by kernel_rfl) (by kernel_rfl) ?_
     refine .step J J J (fun _ => AOp.moveO J J) ?_
     refine .step J J J (fun _ => AOp.moveD J J) ?_
     refine .stepS J J J J (.indexOwn J et_97 J J (.head _) i J (by rw [ZlM]; omega)) ?_
     refine .step J J J (fun _ => AOp.fieldAddrP J YbM J) ?_
     refine .stepS J J J J (.loadRow J sc_3 J (.head _) i 2 J hP.at_ J) ?_
     refine .step J J J (fun _ => AOp.fieldAddr J fo_75_1 J) ?_
     refine .step J J J (fun _ => AOp.load J sc_3 J) ?_
     refine .step J J J (fun _ => AOp.add64 J J J (by omega) (by omega)) ?_
     refine .stepS J J J J (.indexOwn J et_97 J J (.head _) i J (by rw [ZlM]; omega)) ?_
     refine .step J J J (fun _ => AOp.fieldAddrP J YbM J) ?_
     refine .eff J J J (.storeRow J J sz_3 J (.head _) J J J i 2 J hP.at_ (ZnB J)) ?_
     refine .nil ?_
     refine .obs (σ' := [(61, .row 167 4 ((O1.map dzS).set i [.v (.int .i64 (Yak a (Yaa l)[k].source (Yaa l)[k].lines[j].title)), .v (.int .i64 (Yaa l)[k].period), .v (.int .i64 (v.1 + (Yaa l)[k].lines[j].units)), .v (.int .i64 v.2)]))]) (Yaj J) ?_
     have HS := set_dzS O1 i ((Yak a (Yaa l)[k].source (Yaa l)[k].lines[j].title), (Yaa l)[k].period) v (Yaa l)[k].lines[j].units (Yaa l)[k].lines[j].money
     have hL1 : ((O1.map dzS).set i [.v (.int .i64 (Yak a (Yaa l)[k].source (Yaa l)[k].lines[j].title)), .v (.int .i64 (Yaa l)[k].period), .v (.int .i64 (v.1 + (Yaa l)[k].lines[j].units)), .v (.int .i64 v.2)])[i]? = some [.v (.int .i64 (Yak a (Yaa l)[k].source (Yaa l)[k].lines[j].title)), .v (.int .i64 (Yaa l)[k].period), .v (.int .i64 (v.1 + (Yaa l)[k].lines[j].units)), .v (.int .i64 v.2)] := List.getElem?_set_self (by rw [ZlM]; omega)
     refine .drawG (fun k => (Nat.beq k 10) || (Nat.beq k 2 || Nat.beq k 4 || Nat.beq k 8)) (fun k => Nat.beq k 10) (fun k h => ZbO.2 (.inl h)) (by kernel_rfl) (by kernel_rfl) (by kernel_rfl) ?_
     refine .step J J J (fun _ => AOp.moveO J J) ?_
     refine .step J J J (fun _ => AOp.moveD J J) ?_
     refine .stepS J J J J (.indexOwn J et_97 J J (.head _) i J (by rw [List.length_set, ZlM]; omega)) ?_
     refine .step J J J (fun _ => AOp.fieldAddrP J Yba J) ?_
     refine .stepS J J J J (.loadRow J sc_3 J (.head _) i 3 J hL1 J) ?_
     refine .step J J J (fun _ => AOp.fieldAddr J fo_75_2 J) ?_
     refine .step J J J (fun _ => AOp.load J sc_3 J) ?_
     refine .step J J J (fun _ => AOp.add64 J J J (by omega) (by omega)) ?_
     refine .stepS J J J J (.indexOwn J et_97 J J (.head _) i J (by rw [List.length_set, ZlM]; omega)) ?_
     refine .step J J J (fun _ => AOp.fieldAddrP J Yba J) ?_
     refine .eff J J J (.storeRow J J sz_3 J (.head _) J J J i 3 J hL1 (ZnB J)) ?_
     refine .nil ?_
     refine .region (.sA (.add64 J J J) ?_)
     refine .mN ?_
     refine ⟨j + 1, (by dsimp only; omega), (by dsimp only; omega), Sub.less ⟨U, U, U, U, U, U, U, U, U, trivial⟩ (Yaj (by first | (rw [<- HF]; exact HS) | (rw [HN])))⟩
    exact absurd (Decidable.not_not.1 g12) g54
   rw [ZlM] at g4
   have hE : i = (oS a ((Yaa l).take k) (Yaa l)[k] j).length := by omega
   refine .pA ?_
   refine .pA ?_
   refine .pA ?_
   refine .pA ?_
   refine .pA ?_
   refine .pA ?_
   refine .pA ?_
   refine .pA ?_
   refine .pass ⟨46, J, .inr ⟨J, J⟩⟩ J J ?_
   refine .pass ⟨46, J, .inr ⟨J, J⟩⟩ J J ?_
   refine .pass ⟨46, J, .inr ⟨J, J⟩⟩ J J ?_
   refine .pass ⟨46, J, .inr ⟨J, J⟩⟩ J J ?_
   refine .pass ⟨46, J, .inr ⟨J, J⟩⟩ J J ?_
   refine .pass ⟨46, J, .inr ⟨J, J⟩⟩ J J ?_
   refine .pass ⟨46, J, .inr ⟨J, J⟩⟩ J J ?_
   refine .pass ⟨46, J, .inr ⟨J, J⟩⟩ J J ?_
   refine .pass ⟨54, J, .inr ⟨J, J⟩⟩ J J ?_
   refine .pass ⟨54, J, .inr ⟨J, J⟩⟩ J J ?_
   refine .pass ⟨54, J, .inr ⟨J, J⟩⟩ J J ?_
   refine .pass ⟨54, J, .inr ⟨J, J⟩⟩ J J ?_
   refine .pass ⟨54, J, .inr ⟨J, J⟩⟩ J J ?_
   refine .pass ⟨54, J, .inr ⟨J, J⟩⟩ J J ?_
   refine .pass ⟨54, J, .inr ⟨J, J⟩⟩ J J ?_
   refine .pass ⟨54, J, .inr ⟨J, J⟩⟩ J J ?_
   refine .pass ⟨46, J, .inr ⟨J, J⟩⟩ J J ?_
   refine .pA ?_
   refine .sA (.pickF J J J) ?_
   refine .nil ?_
   refine .cond J (fun h => nomatch h) (fun _ => ?_)
   refine .exit (.seq (.seq (.draw (by kernel_rfl) (by kernel_rfl) ?_)))
   refine .sA (.moveD J J) (.sA (.moveO J J) (.sA (.lenOwn J et_97.ht J (.head _)) (.sA (.eql J J J) (.sA (.moveD J J) ?_))))
   refine .sT 72 J (fun g13 => ?_) fun g13 => ?_
   ·obtain ⟨O1, v, hW, hP⟩ := plc_ins (lt := ltS) (dz := dzS) (O := (oS a ((Yaa l).take k) (Yaa l)[k] j)) (k := ((Yak a (Yaa l)[k].source (Yaa l)[k].lines[j].title), (Yaa l)[k].period)) (i := i) hi.1 hi.2 (.inl hE)
    have hb := plc_bnd hP hO
    have hPl := hP.len
    have hPp := hP.pos
    have HF := hP.fin (Yaa l)[k].lines[j].units (Yaa l)[k].lines[j].money
    rw [<- HN] at HF
    have hv1 : (toS (((Yak a (Yaa l)[k].source (Yaa l)[k].lines[j].title), (Yaa l)[k].period), v)).units = v.1 := rfl
    have hv2 : (toS (((Yak a (Yaa l)[k].source (Yaa l)[k].lines[j].title), (Yaa l)[k].period), v)).money = v.2 := rfl
    refine .pA ?_
    refine .pA ?_
    refine .pA ?_
    refine .pA ?_
    refine .pA ?_
    refine .pA ?_
    refine .pA ?_
    refine .sA (.pickT J J J) (.sA (.moveD J J) ?_)
    refine .pA ?_
    refine .pA ?_
    refine .pA ?_
    refine .pA ?_
    refine .pA ?_
    refine .pA ?_
    refine .pA ?_
    refine .pA ?_
    refine .sA (.pickT J J J) ?_
    refine .nil ?_
    refine .cond J (fun _ => ?_) (fun h => nomatch h)
    refine .region (.sA (.moveO J J) ?_)
    refine .mA ?_
    refine .mA ?_
    refine .sA (.fieldAddr J Ycg J) (.sA (.load J sc_3 J) (.sA (.build J bu_167 (.cons J J (.cons J J .nil)) J) ?_))
    refine .buildS 171 J J J J et_97 J J J J J ?_
    -- inserts into 61
    refine .insertK (id := 61) (idx := 171) (k := i) InsS.insT J J J J J (.tail _ (.head _)) J J (by rw [ZlM]; exact hi.1) J (.head _) (by decide) (by rw [ZlM]; omega) ?_
    refine .sA (.assignO J J) (.nil ?_)
    refine .seq (.obs (σ' := [(61, .row 167 4 (O1.map dzS))]) (Yaj hW) ?_)
    refine .drawG (fun k => (Nat.beq k 10) || (Nat.beq k 2 || Nat.beq k 4 || Nat.beq k 8)) (fun k => Nat.beq k 10) (fun k h => ZbO.2 (.inl h)) (by kernel_rfl) (by kernel_rfl) (by kernel_rfl) ?_
    refine .step J J J (fun _ => AOp.moveO J J) ?_
    refine .step J J J (fun _ => AOp.moveD J J) ?_
    refine .stepS J J J J (.indexOwn J et_97 J J (.head _) i J (by rw [ZlM]; omega)) ?_
    refine .step J J J (fun _ => AOp.fieldAddrP J YbM J) ?_
    refine .stepS J J J J (.loadRow J sc_3 J (.head _) i 2 J hP.at_ J) ?_
    refine .step J J J (fun _ => AOp.fieldAddr J fo_75_1 J) ?_
    refine .step J J J (fun _ => AOp.load J sc_3 J) ?_
    refine .step J J J (fun _ => AOp.add64 J J J (by omega) (by omega)) ?_
    refine .stepS J J J J (.indexOwn J et_97 J J (.head _) i J (by rw [ZlM]; omega)) ?_
    refine .step J J J (fun _ => AOp.fieldAddrP J YbM J) ?_
    refine .eff J J J (.storeRow J J sz_3 J (.head _) J J J i 2 J hP.at_ (ZnB J)) ?_
    refine .nil ?_
    refine .obs (σ' := [(61, .row 167 4 ((O1.map dzS).set i [.v (.int .i64 (Yak a (Yaa l)[k].source (Yaa l)[k].lines[j].title)), .v (.int .i64 (Yaa l)[k].period), .v (.int .i64 (v.1 + (Yaa l)[k].lines[j].units)), .v (.int .i64 v.2)]))]) (Yaj J) ?_
    have HS := set_dzS O1 i ((Yak a (Yaa l)[k].source (Yaa l)[k].lines[j].title), (Yaa l)[k].period) v (Yaa l)[k].lines[j].units (Yaa l)[k].lines[j].money
    have hL1 : ((O1.map dzS).set i [.v (.int .i64 (Yak a (Yaa l)[k].source (Yaa l)[k].lines[j].title)), .v (.int .i64 (Yaa l)[k].period), .v (.int .i64 (v.1 + (Yaa l)[k].lines[j].units)), .v (.int .i64 v.2)])[i]? = some [.v (.int .i64 (Yak a (Yaa l)[k].source (Yaa l)[k].lines[j].title)), .v (.int .i64 (Yaa l)[k].period), .v (.int .i64 (v.1 + (Yaa l)[k].lines[j].units)), .v (.int .i64 v.2)] := List.getElem?_set_self (by rw [ZlM]; omega)
    refine .drawG (fun k => (Nat.beq k 10) || (Nat.beq k 2 || Nat.beq k 4 || Nat.beq k 8)) (fun k => Nat.beq k 10) (fun k h => ZbO.2 (.inl h)) (by kernel_rfl) (by kernel_rfl) (by kernel_rfl) ?_
    refine .step J J J (fun _ => AOp.moveO J J) ?_
    refine .step J J J (fun _ => AOp.moveD J J) ?_
    refine .stepS J J J J (.indexOwn J et_97 J J (.head _) i J (by rw [List.length_set, ZlM]; omega)) ?_
    refine .step J J J (fun _ => AOp.fieldAddrP J Yba J) ?_
    refine .stepS J J J J (.loadRow J sc_3 J (.head _) i 3 J hL1 J) ?_
    refine .step J J J (fun _ => AOp.fieldAddr J fo_75_2 J) ?_
    refine .step J J J (fun _ => AOp.load J sc_3 J) ?_
    refine .step J J J (fun _ => AOp.add64 J J J (by omega) (by omega)) ?_
    refine .stepS J J J J (.indexOwn J et_97 J J (.head _) i J (by rw [List.length_set, ZlM]; omega)) ?_
    refine .step J J J (fun _ => AOp.fieldAddrP J Yba J) ?_
    refine .eff J J J (.storeRow J J sz_3 J (.head _) J J J i 3 J hL1 (ZnB J)) ?_
    refine .nil ?_
    refine .region (.sA (.add64 J J J) ?_)
    refine .mN ?_
    refine ⟨j + 1, (by dsimp only; omega), (by dsimp only; omega), Sub.less ⟨U, U, U, U, U, U, U, U, U, trivial⟩ (Yaj (by first | (rw [<- HF]; exact HS) | (rw [HN])))⟩
   rw [ZlM] at g13; exfalso; omega
  rw [ZlM] at h2
  obtain rfl : j = (Yaa l)[k].lines.length := by omega
  have HE := oS_end a hlt
  refine .exit (.region (.sA (.add64 J J J) ?_))
  refine .mN ?_
  refine ⟨k + 1, (by omega), (by dsimp only; omega), Sub.less ⟨U, U, U, U, U, trivial⟩ (Yaj (by rw [HE]))⟩
 rw [ZlM] at h1
 obtain rfl : k = (Yaa l).length := by omega
 rw [List.take_length, <- dz_map_S]
 refine .exit (.sr (.sA (.moveO J J) ?_))
 refine .sA (.assignO J J) (.nil ?_)
 refine .ret ?_
 refine ⟨RetD.own J (.head _) ?_, trivial⟩
 all_goals (rfl)
end
end Go.Proofs.YtcfamaddnmnaeaaGreatDoor
