/- due.Divide, at arguments that it takes. -/
import Derived.Test.YtpihcfpdaoflbaaD2
import Derived.Deep.Cut
namespace Go.Proofs.Ytpihcfpdaoflbaa
open Go.RowKit
attribute [local go_sem ↓] run_min_kept run_max_kept

theorem Seg.wrote {w w' : World} {g g' e : Nat} {xs : List Value} (h : Seg w g e xs) (hw : Wrote g' w w') (hne : g ≠ g') : Seg w' g e xs :=
  h.kept (hw.block g h.lt (fun e => hne (by cases e; rfl)))
theorem Seg.other {w : World} {g g' e i : Nat} {u : Value} {xs : List Value} (h : Seg w g e xs) (hne : g ≠ g') : Seg (w.setCell ⟨g', i, none⟩ u) g e xs := h.wrote (Wrote.set _ _ _ _) hne
theorem Seg.ofRow {w : World} {g e : Nat} {xs : List Value} (h : Row w g e xs) : Seg w g e xs := ⟨xs.toArray, h, by simp⟩
theorem Seg.one {w : World} {g e : Nat} {u : Value} (h : Seg w g e [u]) : w.cell? ⟨g, 0, none⟩ = some u := by simpa using h.cell (i := 0) (by simp)
theorem Seg.put {w : World} {g e : Nat} {u u' : Value} (h : Seg w g e [u]) : Seg (w.setCell ⟨g, 0, none⟩ u') g e [u'] := by simpa using h.set 0 u'

theorem sum_take_le : ∀ (l : List Nat) (k : Nat), (l.take k).sum ≤ l.sum
  | [], k => by simp
  | x :: l, 0 => by simp
  | x :: l, k + 1 => by have := sum_take_le l k; simp only [List.take_succ_cons, List.sum_cons]; omega
theorem sum_le : ∀ (l : List Nat) (m : Nat), (∀ x ∈ l, x ≤ m) → l.sum ≤ l.length * m
  | [], m, _ => by simp
  | x :: l, m, h => by
    have h1 := sum_le l m (fun y hy => h y (by simp [hy]))
    have h2 := h x (by simp)
    simp only [List.sum_cons, List.length_cons, Nat.succ_mul]; omega
theorem sum_snoc (l : List Nat) (k : Nat) (h : k < l.length) : (l.take (k + 1)).sum = (l.take k).sum + l[k] := by
  rw [List.take_succ_eq_append_getElem h, List.sum_append]; simp

theorem Seg.alloc {w : World} {g e : Nat} {xs : List Value} (h : Seg w g e xs) (o : Obj) : Seg (w.alloc o) g e xs := h.kept (heap_alloc_old w o h.lt)

theorem Seg.behind {w w' : World} {g e : Nat} {xs : List Value} (h : Seg w g e xs) (hb : Below w.heap.size w w') : Seg w' g e xs := h.below hb h.lt

/-- The first k of qs, and noughts behind them. -/
def fillTo (qs : List Nat) (k : Nat) : List Nat := qs.take k ++ List.replicate (qs.length - k) 0
theorem fillTo_length (qs : List Nat) (k : Nat) (h : k ≤ qs.length) : (fillTo qs k).length = qs.length := by simp [fillTo]; omega
theorem fillTo_zero (qs : List Nat) : ints (fillTo qs 0) = List.replicate qs.length (.int .i64 0) := by simp [fillTo, ints]
theorem fillTo_all (qs : List Nat) : fillTo qs qs.length = qs := by simp [fillTo]
theorem fillTo_set (qs : List Nat) (k : Nat) (h : k < qs.length) : (ints (fillTo qs k)).set k (.int .i64 (qs[k] : Int)) = ints (fillTo qs (k + 1)) := by
  obtain ⟨m, hm⟩ : ∃ m, qs.length - k = m + 1 := ⟨qs.length - k - 1, by omega⟩
  have hm' : qs.length - (k + 1) = m := by omega
  unfold fillTo ints
  rw [hm, hm', List.replicate_succ, List.take_succ_eq_append_getElem h, List.map_append, List.map_append, List.map_append, List.map_cons, List.set_append_right _ _ (by simp; omega)]
  have hz : k - (List.map (fun (c : Nat) => Value.int .i64 (c : Int)) (qs.take k)).length = 0 := by simp; omega
  rw [hz, List.set_cons_zero]
  simp
theorem fillTo_at (qs : List Nat) (k : Nat) (h : k < qs.length) : (ints (fillTo qs k)).getD k undef = .int .i64 0 := by
  have hl := fillTo_length qs k (by omega)
  rw [ints_getD _ _ (by omega)]
  simp only [fillTo]
  rw [List.getElem_append_right (by simp; omega)]
  simp
theorem fillTo_at' (qs : List Nat) (k : Nat) (h : k < qs.length) : (ints (fillTo qs (k + 1))).getD k undef = .int .i64 (qs[k] : Int) := by
  have hl := fillTo_length qs (k + 1) (by omega)
  rw [ints_getD _ _ (by omega)]
  simp only [fillTo]
  rw [List.getElem_append_left (by simp; omega)]
  simp
theorem Seg.cellD {w : World} {g e : Nat} {xs : List Value} (h : Seg w g e xs) {i : Nat} (hi : i < xs.length) : w.cell? ⟨g, i, none⟩ = some (xs.getD i undef) := by
  rw [h.cell hi, List.getD_eq_getElem?_getD, List.getElem?_eq_getElem hi, Option.getD_some]

/-- What holds while the weights are added up. -/
structure Adding (w0 : World) (total : Nat) (v : Value) (p1 p2 p3 s : Nat) (w : World) : Prop where
  below : Below w0.heap.size w0 w
  s1 : Seg w p1 3 [.int .i64 total]
  s2 : Seg w p2 22 [v]
  s3 : Seg w p3 3 [.int .i64 s]
theorem Adding.behind {w0 : World} {total : Nat} {v : Value} {p1 p2 p3 s : Nat} {w w' : World} (h : Adding w0 total v p1 p2 p3 s w) (hb : Below w.heap.size w w') : Adding w0 total v p1 p2 p3 s w' :=
  ⟨h.below.trans (hb.mono h.below.size), h.s1.behind hb, h.s2.behind hb, h.s3.behind hb⟩
theorem Adding.wrote {w0 : World} {total : Nat} {v : Value} {p1 p2 p3 s g : Nat} {w w' : World} (h : Adding w0 total v p1 p2 p3 s w) (hw : Wrote g w w') (h0 : w0.heap.size ≤ g) (h1 : p1 ≠ g) (h2 : p2 ≠ g) (h3 : p3 ≠ g) : Adding w0 total v p1 p2 p3 s w' :=
  ⟨hw.below h.below h.below.size h0, h.s1.wrote hw h1, h.s2.wrote hw h2, h.s3.wrote hw h3⟩
def AddRel (w0 : World) (total : Nat) (v : Value) (p1 p2 p3 : Nat) (ws : List Nat) (i : Value) (w : World) : Prop :=
  ∃ k : Nat, k ≤ ws.length ∧ i = .int .i64 k ∧ Adding w0 total v p1 p2 p3 (ws.take k).sum w

/-- The whole parts. -/
def parts (total all : Nat) (ws : List Nat) : List Nat := ws.map fun x => total * x / all
theorem parts_length (total all : Nat) (ws : List Nat) : (parts total all ws).length = ws.length := by simp [parts]

theorem mul_div_le' (a s : Nat) : s * (a / s) ≤ a := Nat.mul_div_le a s
theorem parts_le (total s : Nat) : ∀ ws : List Nat, s * (parts total s ws).sum ≤ total * ws.sum
  | [] => by simp [parts]
  | x :: ws => by
    have ih := parts_le total s ws
    have h := mul_div_le' (total * x) s
    unfold parts at *
    simp only [List.map_cons, List.sum_cons, Nat.mul_add]
    omega
theorem parts_sum_le (total : Nat) (ws : List Nat) (hs : 0 < ws.sum) : (parts total ws.sum ws).sum ≤ total := by
  have h := parts_le total ws.sum ws
  rw [Nat.mul_comm total] at h
  exact Nat.le_of_mul_le_mul_left h hs
theorem parts_ge (total s : Nat) (hs : 0 < s) : ∀ ws : List Nat, total * ws.sum ≤ s * (parts total s ws).sum + ws.length * s
  | [] => by simp [parts]
  | x :: ws => by
    have ih := parts_ge total s hs ws
    have h := Nat.div_add_mod (total * x) s
    have h2 := Nat.mod_lt (total * x) hs
    unfold parts at *
    simp only [List.map_cons, List.sum_cons, Nat.mul_add, List.length_cons, Nat.succ_mul]
    omega
theorem parts_left (total : Nat) (ws : List Nat) (hs : 0 < ws.sum) : total ≤ (parts total ws.sum ws).sum + ws.length := by
  have h := parts_ge total ws.sum hs ws
  rw [Nat.mul_comm total, Nat.mul_comm ws.length, ← Nat.mul_add] at h
  exact Nat.le_of_mul_le_mul_left h hs

/-- One more at a place. -/
def bump (o : List Nat) (x : Value) : List Nat := o.set (intOf x).toNat (o.getD (intOf x).toNat 0 + 1)
def bumps (l : List Value) (o : List Nat) : List Nat := l.foldl bump o
theorem bump_length (o : List Nat) (x : Value) : (bump o x).length = o.length := by simp [bump]
theorem bumps_length : ∀ (l : List Value) (o : List Nat), (bumps l o).length = o.length
  | [], o => rfl
  | x :: l, o => by
    have h := bumps_length l (bump o x)
    rw [bump_length] at h
    exact h
theorem bumps_snoc (l : List Value) (x : Value) (o : List Nat) : bumps (l ++ [x]) o = bump (bumps l o) x := by simp [bumps]
theorem bumps_take (l : List Value) (k : Nat) (h : k < l.length) (o : List Nat) : bumps (l.take (k + 1)) o = bump (bumps (l.take k) o) (l.getD k undef) := by
  rw [List.take_succ_eq_append_getElem h, bumps_snoc, List.getD_eq_getElem?_getD, List.getElem?_eq_getElem h, Option.getD_some]
theorem bump_le (o : List Nat) (x : Value) (m : Nat) (h : ∀ y ∈ o, y ≤ m) : ∀ y ∈ bump o x, y ≤ m + 1 := by
  intro y hy
  unfold bump at hy
  rcases List.mem_or_eq_of_mem_set hy with h1 | h1
  · have := h y h1; omega
  · rw [h1, List.getD_eq_getElem?_getD]
    cases hc : o[(intOf x).toNat]? with
    | none => simp
    | some z =>
      have := h z (List.mem_of_getElem? hc)
      simp; omega
theorem bumps_le : ∀ (l : List Value) (o : List Nat) (m : Nat), (∀ y ∈ o, y ≤ m) → ∀ y ∈ bumps l o, y ≤ m + l.length
  | [], o, m, h => by simpa [bumps] using h
  | x :: l, o, m, h => by
    intro y hy
    have := bumps_le l (bump o x) (m + 1) (bump_le o x m h) y hy
    simp only [List.length_cons]; omega
theorem ints_set (o : List Nat) (i u : Nat) : (ints o).set i (.int .i64 (u : Int)) = ints (o.set i u) := by simp [ints, List.map_set]

def BumpRel (w0 : World) (g1 g2 : Nat) (srt : List Value) (qs : List Nat) (m : Nat) (i : Value) (w : World) : Prop :=
  ∃ k : Nat, k ≤ m ∧ i = .int .i64 k ∧ Below w0.heap.size w0 w ∧ Seg w g1 3 (ints (bumps (srt.take k) qs)) ∧ Seg w g2 3 srt

theorem mem_le_sum : ∀ (l : List Nat) (y : Nat), y ∈ l → y ≤ l.sum
  | x :: l, y, h => by
    rcases List.mem_cons.1 h with rfl | h
    · simp
    · have := mem_le_sum l y h
      simp only [List.sum_cons]; omega

def FillRel (w0 : World) (total : Nat) (v : Value) (p1 p2 p3 g1 g2 s : Nat) (qs : List Nat) (left i : Value) (w : World) : Prop :=
  ∃ k : Nat, k ≤ qs.length ∧ i = .int .i64 k ∧ left = .int .i64 ((total : Int) - ((qs.take k).sum : Nat)) ∧ Adding w0 total v p1 p2 p3 s w ∧ Seg w g1 3 (ints (fillTo qs k)) ∧ Seg w g2 3 (ints (fillTo (List.range qs.length) k))

set_option maxHeartbeats 3200000 in
theorem divide_any (total : Nat) (ws : List Nat) (v : Value) (w : World) (h : Sl w 1 v ws.length (ints ws)) (hn0 : 0 < ws.length) (hn : ws.length ≤ 500) (ht : total ≤ 1000000000)
    (hw : ∀ x ∈ ws, x ≤ 1000000000) (hs : 0 < ws.sum)
    (srt : List Value) (hsl : srt.length = ws.length) (hso : All (okIdx ws.length) srt)
    (hsort : ∀ (g p1 p2 p3 : Nat) (u : World), p1 ≠ g → p2 ≠ g → p3 ≠ g → w.heap.size ≤ g → Boxes w total ws.sum v p1 p2 p3 u → Seg u g 3 (ints (List.range ws.length)) →
      Calls Try.prog 17 #[.slice (some ⟨g, 0, none⟩) ws.length ws.length, .func (.func 18) #[] #[.pointer (some ⟨p1, 0, none⟩), .pointer (some ⟨p2, 0, none⟩), .pointer (some ⟨p3, 0, none⟩)]] u fun e w' =>
        e = .returned (.tuple #[]) ∧ Seg w' g 3 srt ∧ Wrote g u w') :
    Calls Try.prog 6 #[.int .i64 total, v] w fun e w' => ∃ g : Nat, e = .returned (.tuple #[.slice (some ⟨g, 0, none⟩) ws.length ws.length, .int .i64 0]) ∧ w.heap.size ≤ g ∧
      Seg w' g 3 (ints (bumps (srt.take (total - (parts total ws.sum ws).sum)) (parts total ws.sum ws))) ∧ Below w.heap.size w w' := by
  have HSO := Lib.hid hso
  have HSL := Lib.hid hsl
  have HSORT := Lib.hid hsort
  clear hso hsl hsort
  have hlen := h.len et_ints.ht 3
  have h1c := h.oneCell
  have HH := Lib.hid h
  have HW := Lib.hid hw
  have hsum := sum_le ws _ hw
  have HB := Lib.hid (show inB (total : Int) 0 1000000000 = true by simp [inB]; omega)
  clear h hw
  go_enter Try.func6, Try.ntmps6
  go_upto_region 1 with fail
  obtain ⟨w1, p1, p2, hw1, hp1, hp2, hs1, hs2, hsz⟩ : ∃ w1 p1 p2, w1 = (w.alloc (.cells #[.int .i64 total] 3)).alloc (.cells #[v] 22) ∧ p1 = w.heap.size ∧ p2 = w.heap.size + 1 ∧ Seg w1 p1 3 [.int .i64 total] ∧ Seg w1 p2 22 [v] ∧ w1.heap.size = w.heap.size + 2 := by
    refine ⟨_, _, _, rfl, rfl, rfl, ⟨#[.int .i64 total], ?_, rfl⟩, ⟨#[v], ?_, rfl⟩, by simp⟩
    · rw [heap_alloc_old _ _ (by simp)]; exact heap_alloc_new w _
    · have := heap_alloc_new (w.alloc (.cells #[.int .i64 total] 3)) (.cells #[v] 22); simpa using this
  have hbel : Below w.heap.size w w1 := by rw [hw1]; exact ((Below.refl _ _).alloc (Nat.le_refl _) _).alloc (by simp) _
  have hvc : v.cells = #[v] := by cases v <;> first | rfl | (simp [Value.oneCell'] at h1c)
  unfold Value.cells at hvc
  rw [hvc, ← hw1, ← hp2, ← hp1]
  clear hvc
  have HP1 := Lib.hid hp1
  have HP2 := Lib.hid hp2
  have HS1 := Lib.hid hs1
  have HS2 := Lib.hid hs2
  have HE := Lib.hid hbel
  have HSZ := Lib.hid hsz
  have hq1 := hs1.one
  have hq2 := hs2.one
  clear hw1 hp1 hp2 hs1 hs2 hbel hsz
  go_wp2_with fail
  refine (within_any _ _ _ _).mono ?_
  rintro e w' ⟨rfl, rfl⟩
  rw [HB.out]
  go_upto_region 8 with fail
  have ha3 : Adding w total v p1 p2 w1.heap.size 0 (w1.alloc (.cells #[.int .i64 0] 3)) :=
    ⟨HE.out.alloc HE.out.size _, HS1.out.alloc _, HS2.out.alloc _, ⟨_, heap_alloc_new _ _, rfl⟩⟩
  obtain ⟨p3, hp3⟩ : ∃ p3, p3 = w1.heap.size := ⟨_, rfl⟩
  rw [← hp3] at ha3 ⊢
  have HP3 := Lib.hid hp3
  generalize w1.alloc (.cells #[.int .i64 0] 3) = w2 at *
  have hr2 := ha3.s2.one
  have HA := Lib.hid ha3
  clear ha3 hp3 hq1 hq2
  go_wp2_with fail
  go_loopw [8, 27] (fun _ i wr => AddRel w total v p1 p2 p3 ws i wr) (fun _ i _ => ws.length - (intOf i).toNat)
  case atStart => unfold AddRel; exact ⟨0, Nat.zero_le _, rfl, HA.out⟩
  case round =>
    unfold AddRel at hrel
    obtain ⟨k, hk, rfl, hadd⟩ := hrel
    by_cases hlt : k < ws.length
    · have hwk := HW.out ws[k] (List.getElem_mem hlt)
      have hsk := sum_snoc ws k hlt
      have hsl := sum_take_le ws (k + 1)
      obtain ⟨ad, hix, hcell⟩ := (HH.out.below hadd.below (Nat.le_refl _)).idx1 et_ints k (by omega) (by omega)
      rw [Int.toNat_natCast, ints_getD ws k hlt] at hcell
      have hq3 := hadd.s3.one
      have hf3 := hadd.s3.free 0
      have HAd := Lib.hid hadd
      have HSK := Lib.hid hsk
      have HBk := Lib.hid (show inB (ws[k] : Int) 0 1000000000 = true by simp [inB]; omega)
      have hyx : ((ws.take k).sum : Int) + (ws[k] : Int) ≤ 500000000000 := by omega
      generalize ws[k] = x at *
      generalize (ws.take k).sum = y at *
      clear hadd hsk
      go_wp2_with fail
      refine (within_any _ _ _ _).mono ?_
      rintro e w' ⟨rfl, rfl⟩
      rw [HBk.out]
      go_wp2_with fail
      unfold AddRel
      refine ⟨⟨k + 1, by omega, by go_num, ?_⟩, by simp only [intOf]; omega⟩
      rw [HSK.out]
      have hd := HAd.out
      have hne1 : p1 ≠ p3 := by rw [HP1.out, HP3.out, HSZ.out]; omega
      have hne2 : p2 ≠ p3 := by rw [HP2.out, HP3.out, HSZ.out]; omega
      exact ⟨(Wrote.set p3 0 wr _).below hd.below hd.below.size (by rw [HP3.out, HSZ.out]; omega), hd.s1.other hne1, hd.s2.other hne2, by have := hd.s3.put (u' := .int .i64 ((y + x : Nat) : Int)); rwa [Int.natCast_add] at this⟩
    · have hk' : k = ws.length := by omega
      subst hk'
      rw [List.take_length] at hadd
      have hq3 := hadd.s3.one
      have hr2 := hadd.s2.one
      have hz : ((ws.sum : Int) == 0) = false := by rw [beq_eq_false_iff_ne]; omega
      have HAd := Lib.hid hadd
      clear hadd
      obtain ⟨wb, rfl⟩ : ∃ wb : World, wb = wr := ⟨_, rfl⟩
      go_upto_region 18 with (at_make; refine wpList_mkRow et_ints _ _ rfl rfl rfl rfl rfl (by omega) (by omega) (Below.refl _ _) (Nat.le_refl _) ?_; intro w3 hrow hbel hsz3)
      obtain ⟨g1, hg1⟩ : ∃ g1, g1 = wb.heap.size := ⟨_, rfl⟩
      have hA3 := HAd.out.behind hbel
      have hl1 := HAd.out.s1.lt
      have hl2 := HAd.out.s2.lt
      have hl3 := HAd.out.s3.lt
      have hl0 := HAd.out.below.size
      rw [← hg1] at hrow hsz3 hl0 hl1 hl2 hl3 ⊢
      have HR1 := Lib.hid (Seg.ofRow hrow)
      have HA3 := Lib.hid hA3
      have hr3 := hA3.s2.one
      clear hrow hbel hA3 hg1 hq3 hr2
      go_upto_region 19 with (at_make; refine wpList_mkRow et_ints _ _ rfl rfl rfl rfl rfl (by omega) (by omega) (Below.refl _ _) (Nat.le_refl _) ?_; intro w4 hrow hbel hsz4)
      obtain ⟨g2, hg2⟩ : ∃ g2, g2 = g1 + 1 := ⟨_, rfl⟩
      have hA4 := HA3.out.behind hbel
      have hR1 := HR1.out.behind hbel
      rw [hsz3] at hrow
      rw [← hg2] at hrow ⊢
      have hne12 : ¬ g1 = g2 := by omega
      have hn11 : ¬ p1 = g1 := by omega
      have hn12 : ¬ p1 = g2 := by omega
      have hn21 : ¬ p2 = g1 := by omega
      have hn22 : ¬ p2 = g2 := by omega
      have hn31 : ¬ p3 = g1 := by omega
      have hn32 : ¬ p3 = g2 := by omega
      have hb1 : w.heap.size ≤ g1 := by omega
      have hb2 : w.heap.size ≤ g2 := by omega
      have HR2 := Lib.hid (Seg.ofRow hrow)
      have HA4 := Lib.hid hA4
      have HR1' := Lib.hid hR1
      have hr1 := hA4.s1.one
      have hr4 := hA4.s2.one
      clear hrow hbel hA4 hg2 hR1 hr3 HR1 hl0 hl1 hl2 hl3 hsz3 hsz4
      obtain ⟨qs, hqs⟩ : ∃ qs, qs = parts total ws.sum ws := ⟨_, rfl⟩
      have hql : qs.length = ws.length := by rw [hqs, parts_length]
      have HSUM := Lib.hid (show ∀ k, (qs.take k).sum ≤ total by intro k; rw [hqs]; exact Nat.le_trans (sum_take_le _ _) (parts_sum_le total ws hs))
      have HQ := Lib.hid hqs
      clear hqs
      go_wp2_with fail
      go_loopw [11, 12, 13, 49] (fun left _ _ i wr => FillRel w total v p1 p2 p3 g1 g2 ws.sum qs left i wr) (fun _ _ _ i _ => ws.length - (intOf i).toNat)
      case atStart =>
        unfold FillRel
        refine ⟨0, Nat.zero_le _, rfl, by simp, HA4.out, ?_, ?_⟩
        · rw [fillTo_zero, hql]; exact HR1'.out
        · rw [fillTo_zero, List.length_range, hql]; exact HR2.out
      case round =>
        unfold FillRel at hrel
        obtain ⟨k, hk, rfl, rfl, hadd, hg1, hg2⟩ := hrel
        by_cases hlt : k < ws.length
        · have HAd := Lib.hid hadd
          have HG1 := Lib.hid hg1
          have HG2 := Lib.hid hg2
          have hl1 := fillTo_length qs k (by omega)
          have hl2 := fillTo_length (List.range qs.length) k (by simp; omega)
          rw [List.length_range] at hl2
          have hc1 := hg1.cellD (i := k) (by rw [ints_length]; omega)
          have hc2 := hg2.cellD (i := k) (by rw [ints_length]; omega)
          rw [fillTo_at _ _ (by omega)] at hc1
          rw [fillTo_at _ _ (by simp; omega)] at hc2
          have hf1 := hg1.free k
          have hf2 := hg2.free k
          have hq1 := hadd.s1.one
          have hq3 := hadd.s3.one
          obtain ⟨ad, hix, hcell⟩ := (HH.out.below hadd.below (Nat.le_refl _)).idx1 et_ints k (by omega) (by omega)
          rw [Int.toNat_natCast, ints_getD ws k hlt] at hcell
          have hwk := HW.out ws[k] (List.getElem_mem hlt)
          have hqk : qs[k]'(by omega) = total * ws[k] / ws.sum := by simp [HQ.out, parts]
          have hT : (total : Int) * (ws[k] : Int) = ((total * ws[k] : Nat) : Int) := by rw [Int.natCast_mul]
          have ht1 : total * ws[k] ≤ 1000000000 * 1000000000 := Nat.mul_le_mul ht hwk
          have hqt : total * ws[k] / ws.sum ≤ total * ws[k] := Nat.div_le_self _ _
          have hD1 : Int.tdiv ((total * ws[k] : Nat) : Int) ((ws.sum : Nat) : Int) = ((total * ws[k] / ws.sum : Nat) : Int) := by rw [Int.ofNat_tdiv]
          have hD2 : ((total * ws[k] : Nat) : Int) / ((ws.sum : Nat) : Int) = ((total * ws[k] / ws.sum : Nat) : Int) := by rw [Int.natCast_ediv]
          rw [← hqk] at hD1 hD2 hqt
          have hst : (qs.take (k + 1)).sum ≤ total := HSUM.out (k + 1)
          have hsn := sum_snoc qs k (by omega)
          have HS2 := Lib.hid (fillTo_set qs k (by omega))
          have hs3 : (ints (fillTo (List.range qs.length) k)).set k (.int .i64 (k : Int)) = ints (fillTo (List.range qs.length) (k + 1)) := by
            have h3 := fillTo_set (List.range qs.length) k (by simp; omega)
            rwa [List.getElem_range] at h3
          have HS3 := Lib.hid hs3
          clear hs3
          have HS4 := Lib.hid hsn
          generalize qs[k]'(by omega) = q at *
          generalize total * ws[k] = t at *
          generalize ws[k] = x at *
          have hsq : (qs.take k).sum + q ≤ total := by omega
          clear hadd hg1 hg2 hr1 hr4 hl1 hl2 hqk hsn hst hwk
          go_upto_region 24 with fail
          have hw5 : Adding w total v p1 p2 p3 ws.sum ((wr.setCell ⟨g1, k, none⟩ (.int .i64 q)).setCell ⟨g2, k, none⟩ (.int .i64 k)) :=
            (HAd.out.wrote (Wrote.set g1 k _ _) hb1 hn11 hn21 hn31).wrote (Wrote.set g2 k _ _) hb2 hn12 hn22 hn32
          have hs5 : Seg ((wr.setCell ⟨g1, k, none⟩ (.int .i64 q)).setCell ⟨g2, k, none⟩ (.int .i64 k)) g1 3 (ints (fillTo qs (k + 1))) := by
            rw [← HS2.out]
            exact (HG1.out.set k _).other hne12
          have ht5 : Seg ((wr.setCell ⟨g1, k, none⟩ (.int .i64 q)).setCell ⟨g2, k, none⟩ (.int .i64 k)) g2 3 (ints (fillTo (List.range qs.length) (k + 1))) := by
            rw [← HS3.out]
            exact (HG2.out.other (fun e => hne12 e.symm)).set k _
          have HW5 := Lib.hid hw5
          have HS5 := Lib.hid hs5
          have HT5 := Lib.hid ht5
          generalize (wr.setCell ⟨g1, k, none⟩ (.int .i64 q)).setCell ⟨g2, k, none⟩ (.int .i64 k) = w6 at *
          have hc6 := hs5.cellD (i := k) (by rw [ints_length, fillTo_length _ _ (by omega)]; omega)
          rw [← HS2.out, List.getD_eq_getElem?_getD, List.getElem?_set_self (by rw [ints_length, fillTo_length _ _ (by omega)]; omega), Option.getD_some] at hc6
          clear hw5 hs5 ht5 hc1 hc2 hf1 hf2 hq1 hq3 hcell
          go_wp2_with fail
          unfold FillRel
          refine ⟨⟨k + 1, by omega, by go_num, by rw [HS4.out]; go_num, HW5.out, HS5.out, HT5.out⟩, by simp only [intOf]; omega⟩
        · have hk' : k = qs.length := by omega
          subst hk'
          rw [List.take_length] at *
          rw [fillTo_all] at hg1
          have hfr : fillTo (List.range qs.length) qs.length = List.range qs.length := by have := fillTo_all (List.range qs.length); rwa [List.length_range] at this
          rw [hfr] at hg2
          have hbx : Boxes w total ws.sum v p1 p2 p3 wr := ⟨hadd.below, hadd.s1.one, hadd.s2.one, hadd.s3.one⟩
          rw [hql] at hg2
          have HC := Lib.hid (HSORT.out g2 p1 p2 p3 wr hn12 hn22 hn32 hb2 hbx hg2)
          have HAd := Lib.hid hadd
          have HG1 := Lib.hid hg1
          have hle := HSUM.out qs.length
          rw [List.take_length] at hle
          have hge : total ≤ qs.sum + ws.length := by rw [HQ.out]; exact parts_left total ws hs
          clear hadd hg1 hg2 hbx hfr hr1 hr4
          obtain ⟨m, hm⟩ : ∃ m : Nat, total - qs.sum = m := ⟨_, rfl⟩
          have hmi : (total : Int) - (qs.sum : Int) = (m : Int) := by omega
          have HM := Lib.hid hm
          rw [hmi]
          clear hm
          go_wp2_with fail
          refine HC.out.mono ?_
          rintro e w7 ⟨rfl, hsrt, hwr⟩
          have HSR := Lib.hid hsrt
          have HG7 := Lib.hid (HG1.out.wrote hwr hne12)
          have HB7 := Lib.hid (hwr.below HAd.out.below HAd.out.below.size hb2)
          have hmn : m ≤ ws.length := by have := HM.out; omega
          clear hsrt hwr
          go_wp2_with fail
          go_loopw [15, 80] (fun _ i wr => BumpRel w g1 g2 srt qs m i wr) (fun _ i _ => m - (intOf i).toNat)
          case atStart => unfold BumpRel; exact ⟨0, Nat.zero_le _, rfl, HB7.out, HG7.out, HSR.out⟩
          case round =>
            unfold BumpRel at hrel
            obtain ⟨k, hk, rfl, hbel, hs1, hs2⟩ := hrel
            by_cases hkm : k < m
            · have hks : k < srt.length := by rw [HSL.out]; omega
              obtain ⟨j, hj, hx⟩ := HSO.out.getD hks
              have hc2 := hs2.cellD hks
              rw [hx] at hc2
              have hol := bumps_length (srt.take k) qs
              have hbt := bumps_take srt k hks qs
              have hole := bumps_le (srt.take k) qs total (fun y hy => Nat.le_trans (mem_le_sum qs y hy) hle)
              rw [hx] at hbt
              generalize bumps (srt.take k) qs = o at *
              have hc1 := hs1.cellD (i := j) (by rw [ints_length]; omega)
              rw [ints_getD _ _ (by omega)] at hc1
              have hoj := hole o[j] (List.getElem_mem _)
              rw [List.length_take] at hoj
              have hf1 := hs1.free j
              have hbv : bump o (.int .i64 j) = o.set j (o[j] + 1) := by simp [bump, intOf, List.getD_eq_getElem?_getD, hol, hql, hj]
              rw [hbv] at hbt
              have HBT := Lib.hid hbt
              have HS1 := Lib.hid hs1
              have HS2 := Lib.hid hs2
              have HBL := Lib.hid hbel
              generalize hz : o[j] = z at *
              clear hbt hs1 hs2 hbel hbv hx hole hz
              go_wp2_with fail
              unfold BumpRel
              refine ⟨⟨k + 1, by omega, by go_num, (Wrote.set g1 j _ _).below HBL.out HBL.out.size hb1, ?_, HS2.out.other (fun e => hne12 e.symm)⟩, by simp only [intOf]; omega⟩
              rw [HBT.out, ← ints_set, Int.natCast_add]
              exact HS1.out.set j _
            · have e : k = m := by omega
              subst e
              have HS1 := Lib.hid hs1
              have HBL := Lib.hid hbel
              clear hs1 hs2 hbel
              go_wp2_with fail
              go_ret2
              refine ⟨g1, rfl, hb1, ?_, HBL.out⟩
              rw [← HQ.out, HM.out]
              exact HS1.out
end Go.Proofs.Ytpihcfpdaoflbaa
