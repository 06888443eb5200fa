/- slices.insertionSortCmpFunc at []int: what it leaves. -/
import Derived.Test.YtpihcfpdaoflbaaK3
import Derived.BigRegion
namespace Go.Proofs.Ytpihcfpdaoflbaa
open Go.RowKit
attribute [local go_sem ↓] run_min_kept run_max_kept

theorem et_ints : ElemTy Try.prog 22 3 1 8 (.int .i64 0) := ⟨by kernel_rfl, by kernel_rfl, by kernel_rfl, by decide⟩

/-- The first cells of a block of the call's own, from its head on, that are not frozen. -/
def Seg (w : World) (g e : Nat) (xs : List Value) : Prop := ∃ cur : Array Value, w.heap[g]? = some (.cells cur e (0, 0)) ∧ cur.toList.take xs.length = xs

theorem Seg.cell {w : World} {g e : Nat} {xs : List Value} (h : Seg w g e xs) {i : Nat} (hi : i < xs.length) : w.cell? ⟨g, i, none⟩ = some xs[i] := by
  obtain ⟨cur, h1, h2⟩ := h
  rw [cell_of_row w g i cur e (0, 0) h1]
  have h3 : (cur.toList.take xs.length)[i]? = xs[i]? := by rw [h2]
  rw [List.getElem?_take, if_pos hi, List.getElem?_eq_getElem hi] at h3
  simpa using h3
theorem Seg.free {w : World} {g e : Nat} {xs : List Value} (h : Seg w g e xs) (i : Nat) : w.frozen? ⟨g, i, none⟩ = false := by
  obtain ⟨cur, h1, _⟩ := h
  unfold World.frozen?
  rw [h1]
  simp
theorem Seg.set {w : World} {g e : Nat} {xs : List Value} (h : Seg w g e xs) (i : Nat) (u : Value) : Seg (w.setCell ⟨g, i, none⟩ u) g e (xs.set i u) := by
  obtain ⟨cur, h1, h2⟩ := h
  refine ⟨cur.setIfInBounds i u, ?_, ?_⟩
  · unfold World.setCell
    simp [Array.getElem?_modify, h1]
  · rw [List.length_set, Array.toList_setIfInBounds, List.take_set, h2]
theorem Seg.lt {w : World} {g e : Nat} {xs : List Value} (h : Seg w g e xs) : g < w.heap.size := by
  obtain ⟨cur, h1, _⟩ := h
  exact (Array.getElem?_eq_some_iff.1 h1).1
theorem Seg.kept {w w' : World} {g e : Nat} {xs : List Value} (h : Seg w g e xs) (hg : w'.heap[g]? = w.heap[g]?) : Seg w' g e xs := by
  obtain ⟨cur, h1, h2⟩ := h
  exact ⟨cur, by rw [hg]; exact h1, h2⟩
theorem Seg.below {B : Nat} {w w' : World} {g e : Nat} {xs : List Value} (h : Seg w g e xs) (hb : Below B w w') (hB : g < B) : Seg w' g e xs := h.kept (hb.block g hB)

/-- Only block g was written, besides new ones. -/
abbrev Wrote (g : Nat) (w w' : World) : Prop := w.grownBy w' (some g)
theorem Wrote.refl (g : Nat) (w : World) : Wrote g w w := ⟨rfl, rfl, rfl, Nat.le_refl _, fun _ _ _ => rfl⟩
theorem Wrote.trans {g : Nat} {a b c : World} (h : Wrote g a b) (k : Wrote g b c) : Wrote g a c := World.grownBy.trans h k
theorem Wrote.set (g i : Nat) (w : World) (u : Value) : Wrote g w (w.setCell ⟨g, i, none⟩ u) :=
  ⟨rfl, rfl, rfl, by simp [World.setCell], fun k _ hne => Below.heap_setCell w ⟨g, i, none⟩ u k (fun e => hne (by rw [e]))⟩
theorem Wrote.of_below {g : Nat} {w w' : World} (h : Below w.heap.size w w') : Wrote g w w' := ⟨h.os, h.tape, h.output, h.size, fun k hk _ => h.block k hk⟩
theorem Wrote.drew {g : Nat} {w w' : World} (h : Wrote g w w') : Wrote g w w'.drew := ⟨h.os, h.tape, h.output, h.size, h.block⟩
theorem Wrote.drewN {g : Nat} {w w' : World} (h : Wrote g w w') (n : Nat) : Wrote g w (w'.drewN n) := ⟨h.os, h.tape, h.output, h.size, h.block⟩
theorem Wrote.below {g B : Nat} {W w w' : World} (h : Wrote g w w') (hb : Below B W w) (hB : B ≤ w.heap.size) (hg : B ≤ g) : Below B W w' := hb.grown h hB (fun k hk => by cases hk; exact hg)

/-- What the comparing closure does: it returns cf of two elements, and writes nothing that was there; K holds in every world that it meets. -/
structure Cmp (P : Program) (f : FuncId) (cap : Array Value) (g : Nat) (K : World → Prop) (ok : Value → Prop) (cf : Value → Value → Int) : Prop where
  enter : ∀ args w, (callFunc f args).run P w = .ok (.enter f args) w
  keep : ∀ w w', K w → Wrote g w w' → K w'
  call : ∀ w x y, K w → ok x → ok y → Calls P f (#[x, y] ++ cap) w fun e w' => e = .returned (.int .i64 (cf x y)) ∧ Below w.heap.size w w'
  int : ∀ x, ok x → ∃ z, x = .int .i64 z
  dom : ∀ x y, -1 ≤ cf x y ∧ cf x y ≤ 1

/-- One round of the inner loop: while the element before is greater, exchange. -/
def sink (lt : Value → Value → Bool) (a : Nat) (xs : List Value) : Nat → List Value
  | 0 => xs
  | j + 1 => if a < j + 1 ∧ lt (xs.getD (j + 1) undef) (xs.getD j undef) = true then sink lt a ((xs.set (j + 1) (xs.getD j undef)).set j (xs.getD (j + 1) undef)) j else xs
theorem sink_length (lt : Value → Value → Bool) (a : Nat) : ∀ (j : Nat) (xs : List Value), (sink lt a xs j).length = xs.length
  | 0, xs => rfl
  | j + 1, xs => by
    rw [sink]
    split
    · rw [sink_length lt a j]; simp
    · rfl
/-- The outer loop from i on, k rounds. -/
def insTo (lt : Value → Value → Bool) (a : Nat) (xs : List Value) : Nat → List Value
  | 0 => xs
  | k + 1 => sink lt a (insTo lt a xs k) (a + 1 + k)
theorem insTo_length (lt : Value → Value → Bool) (a : Nat) (xs : List Value) : ∀ k, (insTo lt a xs k).length = xs.length
  | 0 => rfl
  | k + 1 => by rw [insTo, sink_length, insTo_length lt a xs k]

def All (ok : Value → Prop) (xs : List Value) : Prop := ∀ x ∈ xs, ok x
theorem All.set {ok : Value → Prop} {xs : List Value} (h : All ok xs) (i : Nat) {u : Value} (hu : ok u) : All ok (xs.set i u) := by
  intro x hx
  rcases List.mem_or_eq_of_mem_set hx with h1 | h1
  · exact h x h1
  · rw [h1]; exact hu
theorem All.getD {ok : Value → Prop} {xs : List Value} (h : All ok xs) {i : Nat} (hi : i < xs.length) : ok (xs.getD i undef) := by
  rw [List.getD_eq_getElem?_getD, List.getElem?_eq_getElem hi, Option.getD_some]
  exact h _ (List.getElem_mem hi)
theorem sink_all {ok : Value → Prop} (lt : Value → Value → Bool) (a : Nat) : ∀ (j : Nat) (xs : List Value), j < xs.length → All ok xs → All ok (sink lt a xs j)
  | 0, xs, _, h => h
  | j + 1, xs, hj, h => by
    rw [sink]
    split
    · exact sink_all lt a j _ (by simp; omega) ((h.set _ (h.getD (by omega))).set _ (h.getD hj))
    · exact h
theorem insTo_all {ok : Value → Prop} (lt : Value → Value → Bool) (a : Nat) (xs : List Value) (h : All ok xs) : ∀ k, a + k < xs.length ∨ k = 0 → All ok (insTo lt a xs k)
  | 0, _ => h
  | k + 1, hk => by
    rw [insTo]
    exact sink_all lt a _ _ (by rw [insTo_length]; omega) (insTo_all lt a xs h k (by omega))

def ltOf (cf : Value → Value → Int) (x y : Value) : Bool := decide (cf x y < 0)

/-- What holds at the outer loop's head. -/
def InsRel (lt : Value → Value → Bool) (g e a b : Nat) (xs : List Value) (w : World) (i : Value) (wr : World) : Prop :=
  ∃ k : Nat, i = .int .i64 (((a + 1 + k : Nat) : Int)) ∧ k ≤ b - a - 1 ∧ Seg wr g e (insTo lt a xs k) ∧ Wrote g w wr
/-- What holds at the inner loop's head: ys is what is there; the rest of the sinking comes to zs. -/
def SinkRel (lt : Value → Value → Bool) (g e a : Nat) (zs : List Value) (ok : Value → Prop) (w : World) (j : Value) (wr : World) : Prop :=
  ∃ (jn : Nat) (ys : List Value), j = .int .i64 jn ∧ a ≤ jn ∧ jn < ys.length ∧ ys.length = zs.length ∧ All ok ys ∧ sink lt a ys jn = zs ∧ Seg wr g e ys ∧ Wrote g w wr
theorem sink_base (lt : Value → Value → Bool) (a : Nat) (xs : List Value) : sink lt a xs a = xs := by
  cases a with
  | zero => rfl
  | succ a => rw [sink, if_neg (by omega)]
theorem sink_no (lt : Value → Value → Bool) (a j : Nat) (xs : List Value) (h : lt (xs.getD (j + 1) undef) (xs.getD j undef) = false) : sink lt a xs (j + 1) = xs := by
  rw [sink, if_neg (by intro hh; rw [h] at hh; exact absurd hh.2 (by decide))]
theorem sink_yes (lt : Value → Value → Bool) (a j : Nat) (xs : List Value) (ha : a < j + 1) (h : lt (xs.getD (j + 1) undef) (xs.getD j undef) = true) : sink lt a xs (j + 1) = sink lt a ((xs.set (j + 1) (xs.getD j undef)).set j (xs.getD (j + 1) undef)) j := by
  rw [sink, if_pos ⟨ha, h⟩]

set_option maxHeartbeats 1600000 in
theorem insertionSort_any (f : FuncId) (cap : Array Value) (g : Nat) (K : World → Prop) (ok : Value → Prop) (cf : Value → Value → Int) (C : Cmp Try.prog f cap g K ok cf)
    (n c a b : Nat) (xs : List Value) (w : World) (hn : xs.length = n) (hbn : b ≤ n) (han : a ≤ n) (hbig : n ≤ 1000000000) (hseg : Seg w g 3 xs) (hK : K w) (hok : All ok xs) :
    Calls Try.prog 25 #[.slice (some ⟨g, 0, none⟩) n c, .int .i64 a, .int .i64 b, .func (.func f) #[] cap] w fun e w' => e = .returned (.tuple #[]) ∧
      Seg w' g 3 (insTo (ltOf cf) a xs (b - a - 1)) ∧ Wrote g w w' := by
  have HS := Lib.hid hseg
  have HK := Lib.hid hK
  have HO := Lib.hid hok
  have HN := Lib.hid hn
  have henter := C.enter
  have HC := Lib.hid C
  clear hseg hK hok hn C
  go_enter Try.func25, Try.ntmps25
  go_wp2_with fail
  go_loopw [8] (fun i wr => InsRel (ltOf cf) g 3 a b xs w i wr) (fun i _ => n + 1 - (intOf i).toNat)
  case atStart => unfold InsRel; exact ⟨0, by go_num, by omega, HS.out, Wrote.refl _ _⟩
  case round =>
    unfold InsRel at hrel
    obtain ⟨k, rfl, hk, hseg, hwr⟩ := hrel
    have HSk := Lib.hid hseg
    have HW := Lib.hid hwr
    clear hseg hwr
    by_cases hlt : a + 1 + k < b
    · go_wp2_with fail
      have hall := insTo_all (ltOf cf) a xs HO.out k (by rw [HN.out]; omega)
      have hlen := insTo_length (ltOf cf) a xs k
      have HA := Lib.hid hall
      have HL := Lib.hid (hlen.trans HN.out)
      have HZ := Lib.hid (show insTo (ltOf cf) a xs (k + 1) = sink (ltOf cf) a (insTo (ltOf cf) a xs k) (a + 1 + k) from rfl)
      clear hall hlen
      obtain ⟨wo, rfl⟩ : ∃ wo : World, wo = wr := ⟨_, rfl⟩
      go_loopw [9] (fun j wr => SinkRel (ltOf cf) g 3 a (insTo (ltOf cf) a xs (k + 1)) ok wo j wr) (fun j _ => (intOf j).toNat)
      case atStart => unfold SinkRel; exact ⟨a + 1 + k, _, by go_num, by omega, by rw [HL.out]; omega, by rw [insTo_length, insTo_length], HA.out, by rw [HZ.out], HSk.out, Wrote.refl _ _⟩
      case round =>
        unfold SinkRel at hrel
        obtain ⟨j, ys, rfl, haj, hjl, hyl, hyo, hsk, hseg, hwr⟩ := hrel
        have HYL := Lib.hid hyl
        have HYO := Lib.hid hyo
        have HSK := Lib.hid hsk
        have HSY := Lib.hid hseg
        have HWY := Lib.hid hwr
        clear hyl hyo hsk hseg hwr
        have hyb : ys.length ≤ n := by have := HN.out; rw [HYL.out, insTo_length]; omega
        by_cases hj : a < j
        · obtain ⟨i, rfl⟩ : ∃ i, j = i + 1 := ⟨j - 1, by omega⟩
          have hc1 := fun n => Later.cell (HSY.out.cell hjl) n
          have hc0 := fun n => Later.cell (HSY.out.cell (show i < ys.length by omega)) n
          have hx := HYO.out.getD hjl
          have hy := HYO.out.getD (show i < ys.length by omega)
          rw [List.getD_eq_getElem?_getD, List.getElem?_eq_getElem hjl, Option.getD_some] at hx
          rw [List.getD_eq_getElem?_getD, List.getElem?_eq_getElem (show i < ys.length by omega), Option.getD_some] at hy
          have hcall := fun n : Later wr => HC.out.call n.u _ _ (HC.out.keep _ _ HK.out ((HW.out.trans HWY.out).trans (Wrote.of_below n.h))) hx hy
          have HX := Lib.hid hx
          have HY := Lib.hid hy
          clear hx hy
          have HXD := Lib.hid (show ys.getD (i + 1) undef = ys[i + 1] by rw [List.getD_eq_getElem?_getD, List.getElem?_eq_getElem hjl, Option.getD_some])
          have HYD := Lib.hid (show ys.getD i undef = ys[i] by rw [List.getD_eq_getElem?_getD, List.getElem?_eq_getElem (show i < ys.length by omega), Option.getD_some])
          generalize ys[i + 1] = x at *
          generalize ys[i] = y at *
          have hg : decide ((a : Int) < (i : Int) + 1) = true := by simp; omega
          have hsub : IntKind.i64.wrap ((i : Int) + 1 - 1) = i := by rw [show (i : Int) + 1 - 1 = i by omega]; exact IntWalk.i64_in _ (by omega)
          go_wp2_with fail
          refine wp_region_later (by kernel_rfl) (by kernel_rfl) ?_
          repeat (go_big_quiet_step (exact Calls.later_of (hcall _)))
          unfold wpQuiet
          rintro _ ⟨m, rfl⟩
          by_cases hc : cf x y < 0
          · have hsm : Seg m.u g 3 ys := HSY.out.below m.h HSY.out.lt
            have hq1 := hc1 m
            have hq0 := hc0 m
            have hf1 := hsm.free (i + 1)
            have hf0 := hsm.free i
            have hwm : Wrote g wo m.u := HWY.out.trans (Wrote.of_below m.h)
            have HSM := Lib.hid hsm
            have HWM := Lib.hid hwm
            clear hsm hwm hcall hc1 hc0
            generalize m.u = wq at *
            obtain ⟨zx, hzx⟩ := HC.out.int _ HX.out
            obtain ⟨zy, hzy⟩ := HC.out.int _ HY.out
            have HZX := Lib.hid hzx
            have HZY := Lib.hid hzy
            have hcell1 : wq.cell? ⟨g, i + 1, none⟩ = some (.int .i64 zx) := by rw [hq1, hzx]
            have hcell0 : wq.cell? ⟨g, i, none⟩ = some (.int .i64 zy) := by rw [hq0, hzy]
            clear hzx hzy hq1 hq0
            go_wp2_with fail
            go_region
            go_wp2_with fail
            unfold SinkRel
            have hlt' : ltOf cf x y = true := by simpa [ltOf] using hc
            refine ⟨⟨i, (ys.set (i + 1) (ys.getD i undef)).set i (ys.getD (i + 1) undef), rfl, by omega, by simp; omega, by simp [HYL.out], ?_, ?_, ?_, ?_⟩, by simp only [intOf]; omega⟩
            · rw [HXD.out, HYD.out]
              exact (HYO.out.set _ HY.out).set _ HX.out
            · rw [← HSK.out, sink_yes _ _ _ _ hj (by rw [HXD.out, HYD.out]; exact hlt')]
            · rw [HXD.out, HYD.out, HZX.out, HZY.out]
              exact ((HSM.out.set _ _).set _ _).kept rfl
            · exact ((HWM.out.trans (Wrote.set _ _ _ _)).trans (Wrote.set _ _ _ _)).drew
          · go_wp2_with fail
            have hlt' : ltOf cf x y = false := by simpa [ltOf] using hc
            have hz := HSK.out
            rw [sink_no _ _ _ _ (by rw [HXD.out, HYD.out]; exact hlt')] at hz
            unfold InsRel
            refine ⟨⟨k + 1, by go_num, by omega, ?_, ?_⟩, by simp only [intOf]; omega⟩
            · rw [← hz]; exact HSY.out.below m.h HSY.out.lt
            · exact HW.out.trans (HWY.out.trans (Wrote.of_below m.h))
        · have hja : j = a := by omega
          subst hja
          have hg : decide ((j : Int) < (j : Int)) = false := by simp
          go_wp2_with fail
          go_quiet (fail)
          go_wp2_with fail
          have hz := HSK.out
          rw [sink_base] at hz
          unfold InsRel
          refine ⟨⟨k + 1, by go_num, by omega, ?_, ?_⟩, by simp only [intOf]; omega⟩
          · rw [← hz]; exact HSY.out.kept rfl
          · exact (HW.out.trans HWY.out).drewN nq
    · go_wp2_with fail
      go_end0
      have hkk : k = b - a - 1 := by omega
      refine ⟨rfl, ?_, HW.out⟩
      rw [← hkk]
      exact HSk.out
end Go.Proofs.Ytpihcfpdaoflbaa
