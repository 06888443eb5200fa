/- Walks and laws over abstract values, merged by tools/merge.py. No statement of the seat. -/
import Derived.Lib.SlTrimSet
import Derived.Shelf.Spec.SlicesInsert
import Derived.Shelf.Spec.SlicesInsertGrow
import Derived.Test.YtcfamaddnmnaeaaGreatDoorZB6

namespace Go.Proofs.YtcfamaddnmnaeaaGreatDoor
open Go.RowKit Go.Shelf
set_option linter.unusedVariables false
set_option linter.unusedSimpArgs false

/-! ## Plainly -/
/-- Cut at the first c. -/
def ct (c : UInt8) : List UInt8 → Option (List UInt8 × List UInt8)
  | [] => none
  | b :: l => if b = c then some ([], l) else (ct c l).map fun p => (b :: p.1, p.2)
/-- Cut at each c. -/
def spl (c : UInt8) : List UInt8 → List (List UInt8)
  | [] => [[]]
  | b :: l => if b = c then [] :: spl c l else match spl c l with
    | [] => [[b]]
    | x :: r => (b :: x) :: r
theorem spl_cons (c b : UInt8) (l : List UInt8) : spl c (b :: l) = if b = c then [] :: spl c l else match spl c l with
    | [] => [[b]]
    | x :: r => (b :: x) :: r := rfl
theorem ct_cons (c b : UInt8) (l : List UInt8) : ct c (b :: l) = if b = c then some ([], l) else (ct c l).map fun p => (b :: p.1, p.2) := rfl
theorem spl_ct (c : UInt8) : ∀ l, spl c l = match ct c l with | none => [l] | some p => p.1 :: spl c p.2
  | [] => rfl
  | b :: l => by
    have ih := spl_ct c l
    rw [spl_cons, ct_cons]
    by_cases h : b = c
    · rw [if_pos h, if_pos h]
    · rw [if_neg h, if_neg h, ih]
      cases ct c l with
      | none => rfl
      | some p => rfl
theorem ct_some {c : UInt8} : ∀ {l : List UInt8} {p : List UInt8 × List UInt8}, ct c l = some p → l = p.1 ++ c :: p.2
  | [], p, h => by simp [ct] at h
  | b :: l, p, h => by
    unfold ct at h
    by_cases hb : b = c
    · rw [if_pos hb] at h
      cases h
      rw [hb]; rfl
    · rw [if_neg hb] at h
      obtain ⟨q, hq, rfl⟩ := Option.map_eq_some_iff.1 h
      rw [ct_some hq]; rfl
theorem index_ct (c : UInt8) : ∀ l, Lib.index l [c] = match ct c l with | none => -1 | some p => (p.1.length : Int)
  | [] => rfl
  | b :: l => by
    have ih := index_ct c l
    unfold Lib.index ct
    by_cases h : b = c
    · subst h
      rw [if_pos (by simp [List.isPrefixOf]), if_pos rfl]; rfl
    · rw [if_neg (by simp [List.isPrefixOf, Ne.symm h]), if_neg h, ih]
      cases ct c l with
      | none => rfl
      | some p =>
        show (if ((p.1.length : Int) == -1) = true then (-1 : Int) else (p.1.length : Int) + 1) = ((p.1.length + 1 : Nat) : Int)
        rw [if_neg (by simp)]
        omega
theorem cut_ct (c : UInt8) (l : List UInt8) : Lib.cut l [c] = match ct c l with | none => (l, [], false) | some p => (p.1, p.2, true) := by
  unfold Lib.cut
  rw [index_ct]
  cases h : ct c l with
  | none => rfl
  | some p =>
    have h2 := ct_some h
    simp only
    rw [if_pos (by omega), Int.toNat_natCast]
    congr 1
    · rw [h2, List.take_left]
    · congr 1
      rw [h2]
      show List.drop (p.1.length + 1) (p.1 ++ c :: p.2) = p.2
      rw [List.drop_append]
      simp
theorem count_ct (c : UInt8) (l : List UInt8) : Lib.count l [c] = match ct c l with | none => 0 | some p => Lib.count p.2 [c] + 1 := by
  have hix := index_ct c l
  cases h : ct c l with
  | none => rw [h] at hix; exact Lib.count_miss hix
  | some p =>
    rw [h] at hix
    have h2 := ct_some h
    rw [Lib.count_hit (by simp) hix]
    have : List.drop (p.1.length + [c].length) l = p.2 := by
      rw [h2]
      show List.drop (p.1.length + 1) (p.1 ++ c :: p.2) = p.2
      rw [List.drop_append]
      simp
    rw [this]
    show _ = Lib.count p.2 [c] + 1
    omega
theorem splitK_spl (c : UInt8) : ∀ (k : Nat) (l : List UInt8), Lib.count l [c] = k → Lib.splitK [c] 0 k l = spl c l
  | 0, l, h => by
    rw [spl_ct]
    rw [count_ct] at h
    cases hc : ct c l with
    | none => rfl
    | some p => rw [hc] at h; simp at h
  | k + 1, l, h => by
    rw [spl_ct]
    have h0 := h
    rw [count_ct] at h
    have hix := index_ct c l
    cases hc : ct c l with
    | none => rw [hc] at h; simp at h
    | some p =>
      rw [hc] at h hix
      have h2 := ct_some hc
      unfold Lib.splitK
      rw [if_neg (by rw [hix]; simp), hix, Int.toNat_natCast]
      congr 1
      · rw [h2]; show List.take p.1.length _ = _; rw [List.take_left]
      · have : List.drop (p.1.length + [c].length) l = p.2 := by
          rw [h2]
          show List.drop (p.1.length + 1) (p.1 ++ c :: p.2) = p.2
          rw [List.drop_append]
          simp
        rw [this]
        exact splitK_spl c k p.2 (by simpa using h)
theorem spl_count (c : UInt8) (l : List UInt8) : (spl c l).length = Lib.count l [c] + 1 := by
  have : ∀ k l, Lib.count l [c] = k → (spl c l).length = k + 1 := by
    intro k
    induction k with
    | zero => intro l h; rw [← splitK_spl c 0 l h]; rfl
    | succ k ih =>
      intro l h
      rw [spl_ct]
      rw [count_ct] at h
      cases hc : ct c l with
      | none => rw [hc] at h; simp at h
      | some p => rw [hc] at h; rw [List.length_cons, ih p.2 (by simpa using h)]
  exact this _ l rfl
theorem spl_lens (c : UInt8) : ∀ l, ∀ x ∈ spl c l, x.length ≤ l.length
  | [], x, hx => by simp [spl] at hx; simp [hx]
  | b :: l, x, hx => by
    have ih := spl_lens c l
    unfold spl at hx
    split at hx
    · rcases List.mem_cons.1 hx with rfl | hx
      · simp
      · have := ih x hx; simp; omega
    · split at hx
      · simp at hx; simp [hx]
      · rename_i y r he
        rw [he] at ih
        rcases List.mem_cons.1 hx with rfl | hx
        · have := ih y (by simp); simp; omega
        · have := ih x (by simp [hx]); simp; omega
theorem spl_length_le (c : UInt8) : ∀ l, (spl c l).length ≤ l.length + 1
  | [] => by simp [spl]
  | b :: l => by
    have ih := spl_length_le c l
    unfold spl
    split
    · simp; omega
    · split
      · simp
      · rename_i y r he
        rw [he] at ih
        simp at ih ⊢; omega
/-- All bytes are among cs. -/
theorem dropW_nil {p : UInt8 → Bool} : ∀ {l : List UInt8}, l.dropWhile p = [] ↔ l.all p = true
  | [] => by simp
  | b :: l => by
    rw [List.dropWhile_cons]
    cases h : p b with
    | true => simp [h, dropW_nil (l := l)]
    | false => simp [h]
theorem dropW_hd {p : UInt8 → Bool} : ∀ {l : List UInt8} {x : UInt8} {t : List UInt8}, l.dropWhile p = x :: t → p x = false
  | [], x, t, h => by simp at h
  | b :: l, x, t, h => by
    rw [List.dropWhile_cons] at h
    cases hb : p b with
    | true => rw [hb] at h; exact dropW_hd (by simpa using h)
    | false =>
      rw [hb] at h
      simp at h
      rw [← h.1]; exact hb
theorem trimS_nil (l cs : List UInt8) : Lib.trimS l cs = [] ↔ l.all (cs.contains ·) = true := by
  unfold Lib.trimS Lib.trimLeftS Lib.trimRightS
  rw [dropW_nil]
  constructor
  · intro h
    cases hd : l.reverse.dropWhile (cs.contains ·) with
    | nil => rw [dropW_nil, List.all_reverse] at hd; exact hd
    | cons x t =>
      have h1 := dropW_hd hd
      rw [hd, List.all_reverse] at h
      simp only [List.all_cons, Bool.and_eq_true] at h
      rw [h.1] at h1
      simp at h1
  · intro h
    rw [List.all_reverse, dropW_nil.2 (by rw [List.all_reverse]; exact h)]; rfl
/-! ## The world's facts -/
/-- The library's variable holds some number. -/
theorem ACallT.imp {P : Program} {T T' : World → Prop} {f : FuncId} {ds : List D} {d : D} (h : ACallT P T f ds d) (hi : ∀ w, T' w → T w) : ACallT P T' f ds d := ⟨h.1, fun F w vs hT => h.2 F w vs (hi w hT)⟩
/-! ## The contracts -/
def pcD (l : List UInt8) : List D := [.v (.string (strL l))]
theorem below_drewN (w : World) (n : Nat) : Below w.heap.size w (w.drewN n) := ⟨rfl, rfl, rfl, Nat.le_refl _, fun _ _ => rfl⟩
theorem c_cutA (s : ByteArray) (c : UInt8) (hs : s.size < 4294967281) : ACallT Tryz.prog MaxT 27 [.v (.string s), .v (.string ⟨#[c]⟩)]
  (.tup [.v (.string (strL (Lib.cut s.data.toList [c]).1)), .v (.string (strL (Lib.cut s.data.toList [c]).2.1)), .v (.bool (Lib.cut s.data.toList [c]).2.2)]) :=
 ⟨.of Tryz.func27 (by kernel_rfl) rfl, fun F w vs hT hF hv => by
  rw [repL_v (us := [.string s, .string ⟨#[c]⟩]) hv]
  obtain ⟨m, hm⟩ := hT
  have h := Any.strings_Cut Tryz.l145 s ⟨#[c]⟩ m w hs hm
  change Calls Tryz.prog 27 #[.string s, .string ⟨#[c]⟩] w _ at h
  refine h.mono fun e w' ⟨h1, n, h2⟩ => ?_
  subst h2
  exact ⟨_, F, h1, .tup [_, _, _] [_, _, _] rfl (fun i h1 h2 => by
   match i, h1 with
   | 0, _ => exact .v _
   | 1, _ => exact .v _
   | 2, _ => exact .v _), Ext.of_below hF (below_drewN w n)⟩⟩
theorem c_cutP (s p : ByteArray) : ACall Tryz.prog 30 [.v (.string s), .v (.string p)] (.tup [.v (.string (strL (Lib.trimPrefix s.data.toList p.data.toList))), .v (.bool (Lib.hasPrefix s.data.toList p.data.toList))]) :=
 ⟨.of Tryz.func30 (by kernel_rfl) rfl, fun F w vs hF hv => by
  rw [repL_v (us := [.string s, .string p]) hv]
  have h := Any.strings_CutPrefix Tryz.l103 s p w
  change Calls Tryz.prog 30 #[.string s, .string p] w _ at h
  refine h.mono fun e w' ⟨h1, h2⟩ => ?_
  subst h2
  exact ⟨_, F, h1, .tup [_, _] [_, _] rfl (fun i h1 h2 => by
   match i, h1 with
   | 0, _ => exact .v _
   | 1, _ => exact .v _), Ext.refl hF⟩⟩
def dig10 : ByteArray := ⟨#[48, 49, 50, 51, 52, 53, 54, 55, 56, 57]⟩
theorem c_trimD (s : ByteArray) (hl : s.size ≤ 9223372036854775807) : ACall Tryz.prog 118 [.v (.string s), .v (.string dig10)] (.v (.string (strL (Lib.trimS s.data.toList dig10.data.toList)))) :=
 acall_exact (us := [_, _]) (.of Tryz.func118 (by kernel_rfl) rfl) fun w => by
  have h := Any.strings_Trim_laid Tryz.l160 (by kernel_rfl) s dig10 w hl (by decide) (by
   intro j b hb
   have : ∀ b ∈ dig10.data.toList, b.toNat < 128 := by decide
   exact this b (List.mem_of_getElem? hb))
  change Calls Tryz.prog 118 #[.string s, .string dig10] w _ at h
  exact h
theorem splitB_strL (c : UInt8) (s : ByteArray) : Lib.splitB ⟨#[c]⟩ 0 (Lib.countB s ⟨#[c]⟩) s = (spl c s.data.toList).map strL := by
  have h := Lib.splitB_data ⟨#[c]⟩ 0 (Lib.countB s ⟨#[c]⟩) s
  have h2 : Lib.splitK [c] 0 (Lib.countB s ⟨#[c]⟩) s.data.toList = spl c s.data.toList := splitK_spl c _ _ rfl
  have h3 := h.trans h2
  rw [← h3, List.map_map]
  have : (strL ∘ fun x : ByteArray => x.data.toList) = id := by funext x; cases x; rfl
  rw [this, List.map_id]
theorem c_split (s : ByteArray) (c : UInt8) (hs : s.size < 4294967281) : ACallT Tryz.prog MaxT 71 [.v (.string s), .v (.string ⟨#[c]⟩)] (.sl ((spl c s.data.toList).map pcD)) :=
 ⟨.of Tryz.func71 (by kernel_rfl) rfl, fun F w vs hT hF hv => by
  rw [repL_v (us := [.string s, .string ⟨#[c]⟩]) hv]
  obtain ⟨m, hm⟩ := hT
  have h := Any.strings_Split Tryz.l146 (by kernel_rfl) s ⟨#[c]⟩ m w hs hm (Nat.le_refl 1)
  change Calls Tryz.prog 71 #[.string s, .string ⟨#[c]⟩] w _ at h
  rw [splitB_strL] at h
  refine h.mono fun e w' ⟨h1, h2⟩ => ?_
  subst h2
  have hl : (spl c s.data.toList).length = Lib.countB s ⟨#[c]⟩ + 1 := spl_count c _
  have hll : ((spl c s.data.toList).map pcD).length = Lib.countB s ⟨#[c]⟩ + 1 := by rw [List.length_map, hl]
  have hsz : Lib.countB s ⟨#[c]⟩ ≤ s.size := by
   have := spl_length_le c s.data.toList
   rw [hl, ← Lib.size_eq] at this
   omega
  refine ⟨_, fun b => F b ∨ b = w.heap.size, h1, ?_, fun b hb => .inl hb, fun b hb => ?_, fun b hb => ?_, (Below.refl _ w).alloc (Nat.le_refl _) _⟩
  ·have := Rep.sl (F := fun b => F b ∨ b = w.heap.size) (w := w.alloc (.cells (List.map Value.string (List.map strL (spl c s.data.toList))).toArray (Tryz.l146_ren.t 9))) ⟨w.heap.size, 0, none⟩ (Lib.countB s ⟨#[c]⟩ + 1) 1 ((spl c s.data.toList).map pcD) (fun i _ => .string (strL ((spl c s.data.toList).getD i [])))
    (by omega) (by omega) (fun _ => .inr rfl) (fun i hi => by simp [pcD]) (fun i j hi hj => ?_) (fun i j _ _ => rfl) (fun i hi j hj => ?_)
   ·rw [hll] at this; exact this
   ·have hj0 : j = 0 := by omega
    subst hj0
    have hi' : i < (spl c s.data.toList).length := by simpa using hi
    have := cell_of_row (w.alloc (.cells (List.map Value.string (List.map strL (spl c s.data.toList))).toArray (Tryz.l146_ren.t 9))) w.heap.size i _ _ _ (by simpa using heap_alloc_new w _)
    rw [show (⟨w.heap.size, 0, none⟩ : Addr).add (i * 1 + 0) = ⟨w.heap.size, i, none⟩ by simp [Addr.add]; intro h; exact h.symm, this]
    simp [hi', List.getD_eq_getElem?_getD]
    try omega
   have hj0 : j = 0 := by simp [pcD] at hj; omega
   subst hj0
   have hi' : i < (spl c s.data.toList).length := by simpa using hi
   simp only [List.getElem_map, pcD, List.getElem_cons_zero]
   rw [List.getD_eq_getElem?_getD, List.getElem?_eq_getElem hi']
   exact .v _
  ·rcases hb with hb | rfl
   ·exact .inl hb
   exact .inr (Nat.le_refl _)
  rcases hb with hb | rfl
  ·have := hF b hb; simp; omega
  simp⟩
theorem below_bytesW (w : World) (e : TypeId) (s : ByteArray) : Below w.heap.size w (Lib.bytesWorld w e s) := ⟨rfl, rfl, rfl, by rw [Lib.bytesWorld_size]; omega, fun j hj => Lib.bytesWorld_at_old w e s j hj⟩
theorem c_atoi (s : ByteArray) (n : Int) (hl : s.size ≤ 18) (h : Lib.atoi s.data.toList = some n) : ACall Tryz.prog 119 [.v (.string s)] (.tup [.v (.int .i64 n), .v .nilIface]) :=
 ⟨.of Tryz.func119 (by kernel_rfl) rfl, fun F w vs hF hv => by
  rw [repL_v (us := [.string s]) hv]
  have h := Any.strconv_Atoi Tryz.l172 s n hl h w
  change Calls Tryz.prog 119 #[.string s] w _ at h
  refine h.mono fun e w' ⟨h1, t, h2⟩ => ?_
  subst h2
  exact ⟨_, F, h1, .tup [_, _] [_, _] rfl (fun i h1 h2 => by
   match i, h1 with
   | 0, _ => exact .v _
   | 1, _ => exact .v _), Ext.of_below hF (below_bytesW w _ t)⟩⟩
section
variable {P : Program} {B : Nat} {ops : Array Oper} {o : Oper} {e : Env} {σ : Obs}
end
end Go.Proofs.YtcfamaddnmnaeaaGreatDoor

namespace Go.Proofs.YtcfamaddnmnaeaaGreatDoor
open Go.RowKit Go.Shelf
set_option linter.unusedVariables false
set_option linter.unusedSimpArgs false

/-- Cut at the first k c's. -/
def spk (c : UInt8) : Nat → List UInt8 → List (List UInt8)
  | 0, l => [l]
  | k + 1, l => match ct c l with
    | none => [l]
    | some p => p.1 :: spk c k p.2
theorem spk_succ (c : UInt8) (k : Nat) (l : List UInt8) : spk c (k + 1) l = match ct c l with | none => [l] | some p => p.1 :: spk c k p.2 := rfl
theorem splitK_spk (c : UInt8) : ∀ (k : Nat) (l : List UInt8), Lib.splitK [c] 0 k l = spk c k l
  | 0, l => rfl
  | k + 1, l => by
    have hix := index_ct c l
    unfold Lib.splitK
    rw [spk_succ]
    cases hc : ct c l with
    | none => rw [hc] at hix; rw [hix]; rfl
    | some p =>
      rw [hc] at hix
      have h2 := ct_some hc
      rw [if_neg (by rw [hix]; simp), hix, Int.toNat_natCast]
      congr 1
      · rw [h2]; show List.take p.1.length _ = _; rw [List.take_left]
      · have : List.drop (p.1.length + [c].length) l = p.2 := by
          rw [h2]
          show List.drop (p.1.length + 1) (p.1 ++ c :: p.2) = p.2
          rw [List.drop_append]
          simp
        rw [this]
        exact splitK_spk c k p.2
theorem spk_len (c : UInt8) : ∀ (k : Nat) (l : List UInt8), (spk c k l).length ≤ k + 1
  | 0, l => by simp [spk]
  | k + 1, l => by
    rw [spk_succ]
    split
    · simp
    · rename_i p hp
      have := spk_len c k p.2
      simp; omega
/-- More cuts than signs are no more. -/
theorem spk_more (c : UInt8) : ∀ (n k m : Nat) (l : List UInt8), l.length ≤ n → l.length ≤ k → l.length ≤ m → spk c k l = spk c m l
  | n, 0, 0, l, _, _, _ => rfl
  | n, 0, m + 1, l, _, h, _ => by
    obtain rfl := List.eq_nil_of_length_eq_zero (by omega : l.length = 0)
    rfl
  | n, k + 1, 0, l, _, _, h => by
    obtain rfl := List.eq_nil_of_length_eq_zero (by omega : l.length = 0)
    rfl
  | 0, k + 1, m + 1, l, h, _, _ => by
    obtain rfl := List.eq_nil_of_length_eq_zero (by omega : l.length = 0)
    rfl
  | n + 1, k + 1, m + 1, l, hn, hk, hm => by
    rw [spk_succ, spk_succ]
    cases hc : ct c l with
    | none => rfl
    | some p =>
      have h2 := congrArg List.length (ct_some hc)
      rw [List.length_append, List.length_cons] at h2
      dsimp only
      rw [spk_more c n k m p.2 (by omega) (by omega) (by omega)]
theorem spk_min (c : UInt8) (n : Nat) (l : List UInt8) : spk c (min (n + 1) (l.length + 1) - 1) l = spk c n l := by
  by_cases h : n ≤ l.length
  · rw [show min (n + 1) (l.length + 1) - 1 = n by omega]
  · exact spk_more c l.length _ _ l (Nat.le_refl _) (by omega) (by omega)
theorem splitB_spk (c : UInt8) (k : Nat) (s : ByteArray) : Lib.splitB ⟨#[c]⟩ 0 k s = (spk c k s.data.toList).map strL := by
  have h := Lib.splitB_data ⟨#[c]⟩ 0 k s
  have h3 := h.trans (splitK_spk c k s.data.toList)
  rw [← h3, List.map_map]
  have : (strL ∘ fun x : ByteArray => x.data.toList) = id := by funext x; cases x; rfl
  rw [this, List.map_id]
theorem c_splitN (s : ByteArray) (c : UInt8) (n : Nat) (hs : s.size < 4294967281) (hn : n < 9223372036854775807) : ACallT Tryz.prog MaxT 69 [.v (.string s), .v (.string ⟨#[c]⟩), .v (.int .i64 ((n + 1 : Nat) : Int))] (.sl ((spk c n s.data.toList).map pcD)) :=
 ⟨.of Tryz.func69 (by kernel_rfl) rfl, fun F w vs hT hF hv => by
  rw [repL_v (us := [.string s, .string ⟨#[c]⟩, .int .i64 ((n + 1 : Nat) : Int)]) hv]
  obtain ⟨m, hm⟩ := hT
  have h := Any.strings_SplitN Tryz.l147 (by kernel_rfl) s ⟨#[c]⟩ (n + 1) m w hs hm (Nat.le_refl 1) (by omega) (by omega)
  change Calls Tryz.prog 69 #[.string s, .string ⟨#[c]⟩, .int .i64 ((n + 1 : Nat) : Int)] w _ at h
  have hsl := Lib.size_eq s
  rw [splitB_spk, show min (n + 1) (s.size + 1) - 1 = min (n + 1) (s.data.toList.length + 1) - 1 by rw [hsl], spk_min] at h
  refine h.mono fun e w' ⟨h1, h2⟩ => ?_
  subst h2
  have hlen : ((spk c n s.data.toList).map strL).length = ((spk c n s.data.toList).map pcD).length := by rw [List.length_map, List.length_map]
  have hcap : (spk c n s.data.toList).length ≤ min (n + 1) (s.size + 1) := by
   have h3 := spk_len c (min (n + 1) (s.data.toList.length + 1) - 1) s.data.toList
   rw [spk_min] at h3
   omega
  refine ⟨_, fun b => F b ∨ b = w.heap.size, h1, ?_, fun b hb => .inl hb, fun b hb => ?_, fun b hb => ?_, (Below.refl _ w).alloc (Nat.le_refl _) _⟩
  ·have := Rep.sl (F := fun b => F b ∨ b = w.heap.size) (w := w.alloc (.cells (Lib.cellsOf ((spk c n s.data.toList).map strL) (min (n + 1) (s.size + 1))) (Tryz.l147_ren.t 9))) ⟨w.heap.size, 0, none⟩ (min (n + 1) (s.size + 1)) 1 ((spk c n s.data.toList).map pcD) (fun i _ => .string (strL ((spk c n s.data.toList).getD i [])))
    (by rw [List.length_map]; exact hcap) (by omega) (fun _ => .inr rfl) (fun i hi => by simp [pcD]) (fun i j hi hj => ?_) (fun i j _ _ => rfl) (fun i hi j hj => ?_)
   ·rw [hlen]; exact this
   ·have hj0 : j = 0 := by omega
    subst hj0
    have hi' : i < (spk c n s.data.toList).length := by simpa using hi
    have := cell_of_row (w.alloc (.cells (Lib.cellsOf ((spk c n s.data.toList).map strL) (min (n + 1) (s.size + 1))) (Tryz.l147_ren.t 9))) w.heap.size i _ _ _ (by simpa using heap_alloc_new w _)
    rw [show (⟨w.heap.size, 0, none⟩ : Addr).add (i * 1 + 0) = ⟨w.heap.size, i, none⟩ by simp [Addr.add]; intro h; exact h.symm, this]
    unfold Lib.cellsOf
    rw [List.getElem?_toArray, List.getElem?_append_left (by simpa using hi'), List.getElem?_map, List.getElem?_map, List.getElem?_eq_getElem hi']
    simp [List.getD_eq_getElem?_getD, hi']
   have hj0 : j = 0 := by simp [pcD] at hj; omega
   subst hj0
   have hi' : i < (spk c n s.data.toList).length := by simpa using hi
   simp only [List.getElem_map, pcD, List.getElem_cons_zero]
   rw [List.getD_eq_getElem?_getD, List.getElem?_eq_getElem hi']
   exact .v _
  ·rcases hb with hb | rfl
   ·exact .inl hb
   exact .inr (Nat.le_refl _)
  rcases hb with hb | rfl
  ·have := hF b hb; simp; omega
  simp⟩
end Go.Proofs.YtcfamaddnmnaeaaGreatDoor

namespace Go.Proofs.YtcfamaddnmnaeaaGreatDoor
open Go.RowKit Go.Shelf
set_option linter.unusedVariables false

/-- What Insert does with an own row. -/
structure InsEnd (B : Nat) (e : TypeId) (w : World) (v : Value) (n : Nat) (ys : List Value) (v' : Value) (w' : World) : Prop where
  own : w'.ownsRow B e 1 v' n ys
  turn : Turn w w' (blk v)
  new : ∀ g, blk v' = some g → blk v = some g ∨ w.heap.size ≤ g

end Go.Proofs.YtcfamaddnmnaeaaGreatDoor

namespace Go.Proofs.YtcfamaddnmnaeaaGreatDoor
open Go.RowKit
set_option linter.unusedVariables false

/-- From k on each one waits for all before it but for the first b. -/
def Region.chain1B (ops : Array Oper) (b k : Nat) : Bool := Region.downB ops && Nat.ble k ops.size && Nat.ble b k && (List.range (ops.size - 1)).all fun j =>
  Nat.blt j b || (List.range ops.size).any fun m => Nat.blt j m && (Nat.ble m k || Nat.ble m (j + 1)) && Region.edge ops m j
structure Chain1 (ops : Array Oper) (b k : Nat) : Prop where
  down : Region.downB ops = true
  le : k ≤ ops.size
  bk : b ≤ k
  next : ∀ j, b ≤ j → j < ops.size - 1 → ∃ m, j < m ∧ (m ≤ k ∨ m ≤ j + 1) ∧ Region.edge ops m j = true
theorem Chain1.of {ops : Array Oper} {b k : Nat} (h : Region.chain1B ops b k = true) : Chain1 ops b k := by
  unfold Region.chain1B at h
  simp only [Bool.and_eq_true] at h
  obtain ⟨⟨⟨h1, h2⟩, h5⟩, h3⟩ := h
  refine ⟨h1, Nat.le_of_ble_eq_true h2, Nat.le_of_ble_eq_true h5, fun j hb hj => ?_⟩
  have h4 := List.all_eq_true.1 h3 j (List.mem_range.2 hj)
  rw [Bool.or_eq_true] at h4
  rcases h4 with h4 | h4
  · rw [Nat.blt_eq] at h4; omega
  · obtain ⟨m, _, hm⟩ := List.any_eq_true.1 h4
    simp only [Bool.and_eq_true, Bool.or_eq_true, Nat.blt_eq] at hm
    exact ⟨m, hm.1.1, hm.1.2.imp Nat.le_of_ble_eq_true Nat.le_of_ble_eq_true, hm.2⟩
section
variable {P : Program} {ops : Array Oper} {Q Q0 : Exit → Act → World → Prop} {b k : Nat}
end

theorem put_swap (a : Act) (x y : Option Nat) (u v : Value) (h : ∀ t, x = some t → y ≠ some t) : (a.put x u).put y v = (a.put y v).put x u := by
  cases x with
  | none => rfl
  | some i =>
    cases y with
    | none => rfl
    | some j =>
      have hne : i ≠ j := fun he => h i rfl (by rw [he])
      simp only [Act.put]
      rw [Array.setIfInBounds_comm _ _ hne]
theorem eval_put_other (a : Act) (dst : Option Nat) (u : Value) (y : Operand) (h : ∀ t, y = .tmp t → dst ≠ some t) : (a.put dst u).eval y = a.eval y := Act.eval_put fun d hd hyd => h d hyd hd
theorem wp_put {P : Program} {o : Oper} {ops : Array Oper} {a : Act} {w : World} {d : Nat} {v : Value} {K K' : Act → World → Prop} {Q : Exit → Act → World → Prop} (hs : ∀ cs b, o.op ≠ .select cs b) (hl : d ∉ o.looksAt ops) (hd : o.dst ≠ some d) (hQ : ∀ e a w, e ≠ .normal → ¬ Q e a w)
    (hK : ∀ a' w', (∀ y : Operand, (∀ t, y = .tmp t → o.dst ≠ some t) → a'.eval y = a.eval y) → K (a'.put (some d) v) w' → K' a' w') (h : o.wp P (a.put (some d) v) w K Q) : o.wp P a w K' Q := by
  unfold Oper.wp at *
  rw [execOp_put (ops := ops) o hs a (some d) v (fun t ht => by cases ht; exact hl)] at h
  have sw : ∀ (b : Act) (u : Value), (b.put (some d) v).put o.dst u = (b.put o.dst u).put (some d) v := fun b u => put_swap b (some d) o.dst v u (fun t ht he => by cases ht; exact hd he)
  have ev : ∀ (u : Value) (y : Operand), (∀ t, y = .tmp t → o.dst ≠ some t) → (a.put o.dst u).eval y = a.eval y := fun u y hy => eval_put_other a o.dst u y hy
  generalize (execOp a.eval o).run P w = r at *
  cases r with
  | ok n w' =>
    cases n with
    | value u => simp only [Oper.upon] at h ⊢; rw [sw] at h; exact hK _ _ (ev u) h
    | skip => simp only [Oper.upon] at h ⊢; rw [sw] at h; exact hK _ _ (ev _) h
    | defer c =>
      simp only [Oper.upon] at h ⊢
      refine hK _ _ (fun y hy => ?_) ?_
      · rw [eval_put_other _ o.dst undef y hy]
        cases y <;> rfl
      · rw [← sw]; exact h
    | enter f args =>
      simp only [Oper.upon] at h ⊢
      refine Calls.mono h fun e w'' he => ?_
      cases e with
      | returned u => simp only at he ⊢; rw [sw] at he; exact hK _ _ (ev u) he
      | panicked c => exact absurd he (hQ _ _ _ (by simp))
      | outgrown => obtain ⟨a1, w1, h1⟩ := he; exact absurd h1 (hQ _ _ _ (by simp))
    | row r args =>
      simp only [Oper.upon] at h ⊢
      exact Rows.mono h fun u w'' he => by rw [sw] at he; exact hK _ _ (ev u) he
    | _ => simp only [Oper.upon] at h
  | halt x w' =>
    cases x <;> simp only [Oper.upon] at h ⊢ <;> first | exact absurd h (hQ _ _ _ (by simp)) | exact h
def notSelect (o : Oper) : Bool := match o.op with | .select _ _ => false | _ => true
theorem notSelect_spec {o : Oper} (h : notSelect o = true) : ∀ cs b, o.op ≠ .select cs b := fun cs b he => by unfold notSelect at h; rw [he] at h; simp at h
end Go.Proofs.YtcfamaddnmnaeaaGreatDoor

namespace Go.Proofs.YtcfamaddnmnaeaaGreatDoor
open Go.RowKit Go.Shelf
set_option linter.unusedVariables false

def intC (n : Int) : List D := [.v (.int .i64 n)]
section
variable {cx : Cx} {ops : Array Oper} {o : Oper} {rest : List Oper} {e : Env} {σ : Obs} {Q : Post}
end
section
variable {cx : Cx} {ops : Array Oper} {o : Oper} {rest : List Oper} {e : Env} {σ : Obs} {Q : Post}
end
def apartB (ops : Array Oper) (o0 : Oper) : Bool := (List.range ops.size).all fun j => Nat.beq j 0 || Region.edge ops j 0 || ((ops[j]?).map fun oj => o0.apart ops oj).getD true
def dstB (Φ : List Fr) (l : List Oper) : Bool := Φ.all fun f => (List.range l.length).all fun i => (List.range l.length).all fun j => Nat.beq i j || ((l[i]?).map fun o => neDst o f.dst).getD true || ((l[j]?).map fun o => neDst o f.dst).getD true
def openB (l : List Oper) (k2 k : Nat) (o0 : Oper) : Bool := Nat.blt 0 k2 && Nat.ble k2 k && Region.chainB l.toArray k && Region.chain1B (l.take k).toArray 1 k2 && (l.take k).all notSelect && apartB (l.take k).toArray o0 && (Array.all o0.after fun e => !(Region.binds .any e)) && Region.lexFrom .any (l.take k2).toArray (k2 - 1) 1 ((Array.replicate k2 false).setIfInBounds 0 true)
end Go.Proofs.YtcfamaddnmnaeaaGreatDoor

namespace Go.Proofs.YtcfamaddnmnaeaaGreatDoor
open Go.RowKit
set_option linter.unusedVariables false

def OneC (σ : Obs) (s : S) : Prop := OneS σ s ∨ ∃ id off, s = .ptr id off
theorem OneC.cell {σ : Obs} {s : S} (h : OneC σ s) {B : Nat} {F : Nat → Prop} {ρ : Nat → Value} {w : World} (hσ : ObsOk B F ρ w σ) {u : Value} (hu : RepS F ρ w u s) : ∃ c, u.cells = #[c] ∧ c.oneCell' = true ∧ RepS F ρ w c s := by
  rcases h with h | ⟨id, off, rfl⟩
  · exact h.cell hσ hu
  · cases hu with
    | ptr _ _ g hg => exact ⟨_, rfl, rfl, .ptr id off g hg⟩
section
variable {cx : Cx} {ops : Array Oper} {o : Oper} {rest : List Oper} {e : Env} {σ : Obs} {Q : Post}
end
/-! One object takes another's place. -/
def S.ren (i j : Nat) : S → S
  | .own k => match Nat.beq k i with | true => .own j | false => match Nat.beq k j with | true => .d .any | false => .own k
  | .ptr k off => match Nat.beq k i with | true => .ptr j off | false => match Nat.beq k j with | true => .d .any | false => .ptr k off
  | .d x => .d x
  | .clo f caps => .d .any
theorem RepS.ren {F : Nat → Prop} {ρ ρ' : Nat → Value} {w : World} {x : Value} {s : S} {i j : Nat} (h : RepS F ρ w x s) (hi : ρ' j = ρ i) (hρ : ∀ k, k ≠ j → ρ' k = ρ k) : RepS F ρ' w x (s.ren i j) := by
  cases h with
  | d h => exact .d h
  | own k =>
    cases hb : Nat.beq k i with
    | true => simp only [S.ren, hb]; have := Nat.eq_of_beq_eq_true hb; subst this; rw [← hi]; exact .own j
    | false =>
      cases hc : Nat.beq k j with
      | true => simp only [S.ren, hb, hc]; exact .d (.any _)
      | false => simp only [S.ren, hb, hc]; rw [← hρ k (beq_false hc)]; exact .own k
  | ptr k off g h =>
    cases hb : Nat.beq k i with
    | true => simp only [S.ren, hb]; have := Nat.eq_of_beq_eq_true hb; subst this; exact .ptr j off g (by rw [hi]; exact h)
    | false =>
      cases hc : Nat.beq k j with
      | true => simp only [S.ren, hb, hc]; exact .d (.any _)
      | false => simp only [S.ren, hb, hc]; exact .ptr k off g (by rw [hρ k (beq_false hc)]; exact h)
  | clo f cs caps h => exact .d (.any _)
def Ob.ren (i j : Nat) : Ob → Ob
  | .row e size els => .row e size els
  | .cells ss => .cells (ss.map (S.ren i j))
  | .cellsT e ss => .cellsT e (ss.map (S.ren i j))
  | .map M => .map M
  | .rowS e size els => .rowS e size (els.map fun ss => ss.map (S.ren i j))
  | .bts l => .bts l
  | .val ss => .val (ss.map (S.ren i j))
  | .iter M done => .iter M done
theorem ObOk.ren {B : Nat} {F : Nat → Prop} {ρ ρ' : Nat → Value} {w : World} {k k' : Nat} {o : Ob} {i j : Nat} (h : ObOk B F ρ w k o) (hk : ρ' k' = ρ k) (hi : ρ' j = ρ i) (hρ : ∀ k, k ≠ j → ρ' k = ρ k) : ObOk B F ρ' w k' (o.ren i j) := by
  cases o with
  | row e size els =>
    obtain ⟨xs, h1, h2, h3, h4⟩ := h
    exact ⟨xs, by rw [hk]; exact h1, h2, h3, by rw [hk]; exact h4⟩
  | cells ss =>
    obtain ⟨g, e, cs, h1, h2, h3, h4, h5, h6⟩ := h
    refine ⟨g, e, cs, by rw [hk]; exact h1, h2, h3, h4, by simp [h5], fun j hj hj' => ⟨(h6 j hj (by simpa using hj')).1, ?_⟩⟩
    rw [List.getElem_map]
    exact (h6 j hj (by simpa using hj')).2.ren hi hρ
  | cellsT ty0 ss =>
    obtain ⟨g, cs, h1, h2, h3, h4, h5, h6⟩ := h
    refine ⟨g, cs, by rw [hk]; exact h1, h2, h3, h4, by simp [h5], fun j hj hj' => ⟨(h6 j hj (by simpa using hj')).1, ?_⟩⟩
    rw [List.getElem_map]
    exact (h6 j hj (by simpa using hj')).2.ren hi hρ
  | map M =>
    obtain ⟨b, es, cl, h1, h2, h3, h4, h5, h6⟩ := h
    exact ⟨b, es, cl, by rw [hk]; exact h1, h2, h3, h4, h5, h6⟩
  | rowS e size els =>
    obtain ⟨xs, h1, h2, h3, h4⟩ := h
    refine ⟨xs, by rw [hk, List.length_map]; exact h1, fun k hk => by rw [List.getElem_map, List.length_map]; exact h2 k (by simpa using hk), fun k hk2 j hj => ?_, by rw [hk]; exact h4⟩
    have hk' : k < els.length := by simpa using hk2
    have hj' : j < els[k].length := by simpa using hj
    simp only [List.getElem_map]
    exact ⟨(h3 k hk' j hj').1, (h3 k hk' j hj').2.ren hi hρ⟩
  | bts l =>
    obtain ⟨g, e, cap, cur, fz, h1, h2, h3, h4, h5⟩ := h
    exact ⟨g, e, cap, cur, fz, by rw [hk]; exact h1, h2, h3, h4, h5⟩
  | val ss =>
    obtain ⟨cs, h1, h2, h3⟩ := h
    refine ⟨cs, by rw [hk]; exact h1, by simp [h2], fun j hj hj' => ⟨(h3 j hj (by simpa using hj')).1, ?_⟩⟩
    rw [List.getElem_map]
    exact (h3 j hj (by simpa using hj')).2.ren hi hρ
  | iter M done =>
    obtain ⟨g, b, es, cl, sn, c0, h1, h2, h3, h4, h5, h6, h7, h8⟩ := h
    exact ⟨g, b, es, cl, sn, c0, by rw [hk]; exact h1, h2, h3, h4, h5, h6, h7, h8⟩
section
variable {cx : Cx} {ops : Array Oper} {rest : List Oper} {e : Env} {σ : Obs} {Q : Post}
/-- Object i takes j's place; what j was is gone. -/
theorem R0.rename {F : Nat → Prop} {ρ : Nat → Value} {a : Act} {w : World} (h : R0 cx F ρ e σ a w) {i j : Nat} (hij : i ≠ j) (hfx : cx.free j = true) (σ' : Obs) (hσ : ∀ p ∈ σ', (∃ q ∈ σ, q.1 = i ∧ p = (j, q.2.ren i j)) ∨ ∃ q ∈ σ, q.1 ≠ i ∧ q.1 ≠ j ∧ p = (q.1, q.2.ren i j)) :
    ∃ ρ', R0 cx F ρ' (fun t => (e t).ren i j) σ' a w := by
  obtain ⟨ρ', hρ'⟩ : ∃ ρ' : Nat → Value, ρ' = fun k => if k = j then ρ i else ρ k := ⟨_, rfl⟩
  have hj : ρ' j = ρ i := by simp [hρ']
  have ho : ∀ k, k ≠ j → ρ' k = ρ k := fun k hk => by simp [hρ', hk]
  clear hρ'
  have hcase : ∀ p ∈ σ', ∃ q ∈ σ, q.1 ≠ j ∧ ((q.1 = i ∧ p.1 = j) ∨ (q.1 ≠ i ∧ p.1 = q.1)) ∧ ρ' p.1 = ρ q.1 ∧ p.2 = q.2.ren i j := fun p hp => by
    rcases hσ p hp with ⟨q, hq, h1, rfl⟩ | ⟨q, hq, h1, h2, rfl⟩
    · exact ⟨q, hq, by rw [h1]; exact hij, .inl ⟨h1, rfl⟩, by rw [h1]; exact hj, rfl⟩
    · exact ⟨q, hq, h2, .inr ⟨h1, rfl⟩, ho _ h2, rfl⟩
  refine ⟨ρ', h.size, h.defers, h.lt, h.base, h.new, h.below, h.hB, fun t => (h.env t).ren hj ho, ⟨fun p hp => ?_, fun p hp q hq hne g hg => ?_, fun p hp q hq he => ?_⟩, h.up, fun p hp g hg => ?_, fun k hk => ?_⟩
  · obtain ⟨q, hq, _, _, h1, h2⟩ := hcase p hp
    rw [h2]
    exact (h.obs.ok q hq).ren h1 hj ho
  · obtain ⟨p', hp', hpj, hpc, hpv, _⟩ := hcase p hp
    obtain ⟨q', hq', hqj, hqc, hqv, _⟩ := hcase q hq
    rw [hpv] at hg
    rw [hqv]
    refine h.obs.apart p' hp' q' hq' (fun he => hne ?_) g hg
    rcases hpc with ⟨h1, h2⟩ | ⟨h1, h2⟩ <;> rcases hqc with ⟨h3, h4⟩ | ⟨h3, h4⟩
    · rw [h2, h4]
    · exact absurd (by rw [← he, h1]) h3
    · exact absurd (by rw [he, h3]) h1
    · rw [h2, h4, he]
  · obtain ⟨p', hp', hpj, hpc, hpv, hp2⟩ := hcase p hp
    obtain ⟨q', hq', hqj, hqc, hqv, hq2⟩ := hcase q hq
    have hid : p'.1 = q'.1 := by
      rcases hpc with ⟨h1, h2⟩ | ⟨h1, h2⟩ <;> rcases hqc with ⟨h3, h4⟩ | ⟨h3, h4⟩
      · rw [h1, h3]
      · rw [h2, h4] at he; exact absurd he.symm hqj
      · rw [h2, h4] at he; exact absurd he hpj
      · rw [← h2, ← h4, he]
    have := h.obs.uniq p' hp' q' hq' hid
    rw [← this, ← hp2] at hq2
    exact Prod.ext he hq2.symm
  · obtain ⟨q, hq, _, _, h1, _⟩ := hcase p hp
    rw [h1] at hg
    exact h.kown q hq g hg
  · have : k ≠ j := Cx.free_ne hfx k hk
    rw [ho k this]
    exact h.fixed k hk
theorem AWP.rename {c : Code} (i j : Nat) (σ' : Obs) (hij : i ≠ j) (hfx : cx.free j = true) (hσ : ∀ p ∈ σ', (∃ q ∈ σ, q.1 = i ∧ p = (j, q.2.ren i j)) ∨ ∃ q ∈ σ, q.1 ≠ i ∧ q.1 ≠ j ∧ p = (q.1, q.2.ren i j)) (k : AWP cx c (fun t => (e t).ren i j) σ' Q) : AWP cx c e σ Q :=
  fun a w ⟨F, ρ, hr⟩ => by
    obtain ⟨ρ', h⟩ := hr.rename hij hfx σ' hσ
    exact k a w ⟨F, ρ', h⟩
end
end Go.Proofs.YtcfamaddnmnaeaaGreatDoor

namespace Go.Proofs.YtcfamaddnmnaeaaGreatDoor
open Go.RowKit
set_option linter.unusedVariables false

/-- f returns a struct whose parts are as ss', some of them own objects; the object vid is that struct. -/
def XSCall (P : Program) (f : FuncId) (ss : List S) (σ σ' : Obs) (chg : Nat → Bool) (s : S) : Prop := Enters P f ∧
  ∀ (F : Nat → Prop) (ρ : Nat → Value) (B : Nat) (w : World) (vs : List Value), (∀ b, F b → b < w.heap.size) → B ≤ w.heap.size → ObsOk B F ρ w σ → RepSL F ρ w vs ss →
    Calls P f vs.toArray w fun e w' => ∃ v F' ρ', e = .returned v ∧ RepS F' ρ' w' v s ∧ XEnd B F ρ w σ F' ρ' w' σ' chg

theorem args_R {P : Program} {n : Nat} {ss : List S} {σ : Obs} {chg : Nat → Bool} {F : Nat → Prop} {ρ : Nat → Value} {B : Nat} {w : World} {vs : List Value} {m : Nat} (hN : m = n) (hle : ss.length ≤ n) (hF : ∀ b, F b → b < w.heap.size) (hB : B ≤ w.heap.size) (hσ : ObsOk B F ρ w σ) (hv : RepSL F ρ w vs ss) :
    R ⟨P, n, B, w, F, (fun b => w.heap.size ≤ b ∨ ownB σ ρ b), fun i => !(chg i), ρ⟩ (Env.argsS 0 ss) σ { tmps := vs.toArray ++ Array.replicate (m - vs.toArray.size) undef, defers := [] } w := by
  refine ⟨F, ρ, ?_, rfl, hF, fun b hb => hb, fun b hb => .inl hb, Kept.refl _ _, hB, fun t => ?_, hσ, fun b hb => .inl hb, fun p hp g hg => .inr ⟨p, hp, hg⟩, fun i _ => rfl⟩
  · simp [hN, hv.1]; omega
  · by_cases ht : t < ss.length
    · have := Env.argsS_get ss 0 t ht
      rw [Nat.zero_add] at this
      rw [this]
      have hvt : t < vs.length := by rw [hv.1]; exact ht
      have : (vs.toArray ++ Array.replicate (m - vs.toArray.size) undef).getD t undef = vs[t] := by
        rw [Array.getD_eq_getD_getElem?, Array.getElem?_append_left (by simpa using hvt)]
        simp [hvt]
      rw [this]
      exact hv.2 t hvt ht
    · have := Env.argsS_out ss 0 t (by omega)
      rw [Nat.zero_add] at this
      rw [this]
      exact .d (.any _)
def RetXC (b : Nat) (ds : List D) (σ' : Obs) : Post := fun ex e σ => match ex with
  | .ret => (∃ cid, e b = .ptr cid 0 ∧ (cid, Ob.cells (ds.map S.d)) ∈ σ) ∧ AllIn σ σ'
  | .normal => (∃ cid, e b = .ptr cid 0 ∧ (cid, Ob.cells (ds.map S.d)) ∈ σ) ∧ AllIn σ σ'
  | _ => False
def RetXV (b vid : Nat) (ss' : List S) (σr : Obs) : Post := fun ex e σ => match ex with
  | .ret => (∃ cid ssr, e b = .ptr cid 0 ∧ (cid, Ob.cells ssr) ∈ σ ∧ ssr.map (S.kill vid) = ss' ∧ Obs.fresh vid σr = true ∧ Obs.kill vid σr = σr) ∧ AllIn σ σr
  | .normal => (∃ cid ssr, e b = .ptr cid 0 ∧ (cid, Ob.cells ssr) ∈ σ ∧ ssr.map (S.kill vid) = ss' ∧ Obs.fresh vid σr = true ∧ Obs.kill vid σr = σr) ∧ AllIn σ σr
  | _ => False
section
variable {cx : Cx} {ops : Array Oper} {o : Oper} {rest : List Oper} {e : Env} {σ : Obs} {Q : Post}
end
end Go.Proofs.YtcfamaddnmnaeaaGreatDoor

namespace Go.Proofs.YtcfamaddnmnaeaaGreatDoor
open Go.RowKit
set_option linter.unusedVariables false

/-- One step; sl: who reads objects, ef: who writes them. -/
def HStep (cx : Cx) (ops : Array Oper) (sl ef : Nat → Bool) (I : Obs → Prop) (k : Nat) (o : Oper) (e : Env) (σ : Obs) (e' : Env) (σ' : Obs) : Prop :=
  (GW ops o e true ∧ ∃ s, ((sl k = true ∧ AOp cx.P cx.B ops o e σ s) ∨ (I σ ∧ ∀ τ, I τ → AOp cx.P cx.B ops o e τ s)) ∧ e' = e.put o.dst s ∧ σ' = σ) ∨
  (GW ops o e false ∧ e' = e.put o.dst (.d (.v undef)) ∧ σ' = σ) ∨
  (GW ops o e true ∧ ef k = true ∧ o.dst = none ∧ EOp cx ops o e σ σ' ∧ e' = e ∧ I σ ∧ I σ')

def HRun (cx : Cx) (ops : Array Oper) (sl ef : Nat → Bool) (I : Obs → Prop) : Nat → List Oper → Env → Obs → (Env → Obs → Prop) → Prop
  | _, [], e, σ, Q => Q e σ
  | k, o :: l, e, σ, Q => DstOk cx.N o ∧ ∃ e' σ', HStep cx ops sl ef I k o e σ e' σ' ∧ HRun cx ops sl ef I (k + 1) l e' σ' Q

def anyH (cx : Cx) (ops : Array Oper) (sl ef : Nat → Bool) (I : Obs → Prop) (Q : Env → Obs → Prop) : Nat → Array Bool → Env → Obs → Prop
  | 0, listed, e, σ => Region.ready .any ops listed = [] ∧ Q e σ
  | fuel + 1, listed, e, σ => (Region.ready .any ops listed = [] → Q e σ) ∧
      ∀ i ∈ Region.ready .any ops listed, ∀ o, ops[i]? = some o → ∃ e' σ', HStep cx ops sl ef I i o e σ e' σ' ∧ anyH cx ops sl ef I Q fuel (listed.setIfInBounds i true) e' σ'

section
variable {cx : Cx} {ops : Array Oper} {o : Oper} {rest : List Oper} {e : Env} {σ : Obs} {sl ef : Nat → Bool} {I : Obs → Prop} {n : Nat} {l : List Oper} {Q : Env → Obs → Prop}
end
end Go.Proofs.YtcfamaddnmnaeaaGreatDoor

namespace Go.Proofs.YtcfamaddnmnaeaaGreatDoor
open Go.RowKit
set_option linter.unusedVariables false

/-- What the operation gives depends on x's value alone; or it gives nothing. -/
def PureOp (P : Program) (o : Oper) (x : Operand) : Prop := ∀ u : Value, (∃ v, ∀ (a : Act) (w : World), a.eval x = u → (execOp a.eval o).run P w = .ok (.value v) w) ∨
  (∀ (a : Act) (w : World) (K : Act → World → Prop) (Q : Exit → Act → World → Prop), (∀ e a w, e ≠ .normal → ¬ Q e a w) → a.eval x = u → ¬ o.wp P a w K Q)
theorem PureOp.move {P : Program} {o : Oper} {x : Operand} (h : o.op = .move x) : PureOp P o x := fun u => .inl ⟨u, fun a w hx => by
  unfold execOp
  simp only [h, hx, Sem.run_pure]⟩
theorem PureOp.extract {P : Program} {o : Oper} {x : Operand} {i : Nat} (h : o.op = .extract x i) : PureOp P o x := fun u => by
  by_cases hu : ∃ vs v, u = .tuple vs ∧ vs[i]? = some v
  · obtain ⟨vs, v, rfl, hv⟩ := hu
    refine .inl ⟨v, fun a w hx => ?_⟩
    unfold execOp
    simp only [h, hx, Instr.extract, hv, Sem.run_bind, Sem.run_pure, Result.andThen_ok]
  · refine .inr fun a w K Q hQ hx hw => ?_
    unfold Oper.wp execOp at hw
    simp only [h, hx] at hw
    cases u with
    | tuple vs =>
      cases hv : vs[i]? with
      | some v => exact hu ⟨vs, v, rfl, hv⟩
      | none => simp only [Instr.extract, hv, Sem.run_bind] at hw; exact hw
    | _ => simp only [Instr.extract, Sem.run_bind] at hw; exact hw
/-- Such an operation, if it is ready, may be made first. -/
theorem wpAny_pure {P : Program} {ops : Array Oper} {Q : Exit → Act → World → Prop} {i d : Nat} {oi : Oper} {x : Operand} {u v : Value} (hi : ops[i]? = some oi) (hv : ∀ (a : Act) (w : World), a.eval x = u → (execOp a.eval oi).run P w = .ok (.value v) w) (hlk : ∀ t, x = .tmp t → t ∈ oi.looksAt ops) (hd : oi.dst = some d) (hg : oi.guard = none) (hsel : ∀ (j : Nat) (oj : Oper), ops[j]? = some oj → notSelect oj = true) (hQ : ∀ e a w, e ≠ .normal → ¬ Q e a w) :
    ∀ (fuel : Nat) (listed : Array Bool) (a : Act) (w : World), a.eval x = u →
      (∀ (j : Nat) (oj : Oper), ops[j]? = some oj → j ≠ i → listed.getD j true = false → (∀ e ∈ oj.after, Region.binds .any e = true → e.on ≠ i) → oi.apart ops oj = true) →
      i ∈ Region.ready .any ops listed → wpAny P .any ops Q fuel (listed.setIfInBounds i true) (a.put (some d) v) w → wpAny P .any ops Q (fuel + 1) listed a w := by
  have self : ∀ {fuel : Nat} {listed : Array Bool} {a : Act} {w : World}, a.eval x = u → wpAny P .any ops Q fuel (listed.setIfInBounds i true) (a.put (some d) v) w → wpOp P ops Q i (wpAny P .any ops Q fuel (listed.setIfInBounds i true)) a w := by
    intro fuel listed a w hx H
    unfold wpOp
    simp only [hi]
    have hw : Region.wanted oi (yielded ops a.tmps) = true := by simp [Region.wanted, hg]
    rw [if_pos hw]
    refine .inl ?_
    unfold Oper.wp
    rw [hv a w hx]
    simp only [Oper.upon, hd]
    exact H
  intro fuel
  induction fuel with
  | zero =>
    intro listed a w hx _ hr H
    refine ⟨fun h => (by rw [h] at hr; cases hr), fun j hj => ?_⟩
    by_cases hji : j = i
    · subst hji; exact self hx H
    · have := ready_mono hj hji
      rw [H.1] at this
      cases this
  | succ fuel ih =>
    intro listed a w hx hfree hr H
    refine ⟨fun h => (by rw [h] at hr; cases hr), fun j hj => ?_⟩
    by_cases hji : j = i
    · subst hji; exact self hx H
    · have H2 := H.2 j (ready_mono hj hji)
      obtain ⟨hjun, oj, hoj, hall⟩ := mem_ready.1 hj
      have hnot : ∀ e ∈ oj.after, Region.binds .any e = true → e.on ≠ i := fun e he hb heq => by
        have h1 := hall e he hb
        have h0 := (mem_ready.1 hr).1
        rw [heq] at h1
        rcases Nat.lt_or_ge i listed.size with h' | h'
        · simp [h'] at h0 h1; rw [h0] at h1; cases h1
        · simp [Array.getElem?_eq_none h'] at h1
      obtain ⟨a1, a2, a3⟩ := Oper.apart_spec (hfree j oj hoj hji hjun hnot)
      have hdl : d ∉ oj.looksAt ops := a1 d hd
      have hdd : oj.dst ≠ some d := fun he => a2 d hd he
      have hxo : ∀ t, x = .tmp t → oj.dst ≠ some t := fun t ht he => a3 t he (hlk t ht)
      have next : ∀ a' w', (∀ y : Operand, (∀ t, y = .tmp t → oj.dst ≠ some t) → a'.eval y = a.eval y) → wpAny P .any ops Q fuel ((listed.setIfInBounds i true).setIfInBounds j true) (a'.put (some d) v) w' → wpAny P .any ops Q (fuel + 1) (listed.setIfInBounds j true) a' w' := by
        intro a' w' he h
        refine ih _ _ _ ((he x hxo).trans hx) (fun k ok hk hki hun hno => ?_) (ready_mono hr (Ne.symm hji)) ?_
        · refine hfree k ok hk hki ?_ hno
          by_cases hjk : j = k
          · subst hjk; exact hjun
          · rw [getD_set_ne true hjk] at hun; exact hun
        · rw [Array.setIfInBounds_comm _ _ hji]
          exact h
      unfold wpOp at H2 ⊢
      simp only [hoj] at H2 ⊢
      rw [wanted_put (ops := ops) oj a (some d) v (fun t ht => by cases ht; exact hdl)] at H2
      by_cases hw : Region.wanted oj (yielded ops a.tmps) = true
      · rw [if_pos hw] at H2 ⊢
        rcases H2 with H2 | ⟨_, a1, w1, h1⟩
        · exact .inl (wp_put (ops := ops) (notSelect_spec (hsel j oj hoj)) hdl hdd hQ next H2)
        · exact absurd h1 (hQ _ _ _ (by simp))
      · rw [if_neg hw] at H2 ⊢
        refine next _ _ (fun y hy => eval_put_other a oj.dst undef y hy) ?_
        rw [put_swap a oj.dst (some d) undef v (fun t ht he => hdd (by rw [ht, he]))]
        exact H2
/-- From k on each one waits for all before it, but for those of L ahead of k. -/
def Region.chainLB (ops : Array Oper) (L : Nat → Bool) (k : Nat) : Bool := Region.downB ops && Nat.ble k ops.size && (List.range (ops.size - 1)).all fun j =>
  (L j && Nat.blt j k) || (List.range ops.size).any fun m => Nat.blt j m && (Nat.ble m k || Nat.ble m (j + 1)) && (!(L m) || Nat.ble k m) && Region.edge ops m j
structure ChainL (ops : Array Oper) (L : Nat → Bool) (k : Nat) : Prop where
  down : Region.downB ops = true
  le : k ≤ ops.size
  next : ∀ j, (L j = false ∨ k ≤ j) → j < ops.size - 1 → ∃ m, j < m ∧ (m ≤ k ∨ m ≤ j + 1) ∧ (L m = false ∨ k ≤ m) ∧ Region.edge ops m j = true
theorem ChainL.of {ops : Array Oper} {L : Nat → Bool} {k : Nat} (h : Region.chainLB ops L k = true) : ChainL ops L k := by
  unfold Region.chainLB at h
  simp only [Bool.and_eq_true] at h
  obtain ⟨⟨h1, h2⟩, h3⟩ := h
  refine ⟨h1, Nat.le_of_ble_eq_true h2, fun j hL hj => ?_⟩
  have h4 := List.all_eq_true.1 h3 j (List.mem_range.2 hj)
  rw [Bool.or_eq_true] at h4
  rcases h4 with h4 | h4
  · simp only [Bool.and_eq_true, Nat.blt_eq] at h4
    rcases hL with hL | hL
    · rw [hL] at h4; simp at h4
    · omega
  · obtain ⟨m, _, hm⟩ := List.any_eq_true.1 h4
    simp only [Bool.and_eq_true, Bool.or_eq_true, Nat.blt_eq, Bool.not_eq_true'] at hm
    exact ⟨m, hm.1.1.1, hm.1.1.2.imp Nat.le_of_ble_eq_true Nat.le_of_ble_eq_true, hm.1.2.imp id Nat.le_of_ble_eq_true, hm.2⟩
theorem ChainL.before {ops : Array Oper} {L : Nat → Bool} {k : Nat} (hC : ChainL ops L k) {listed : Array Bool} (hc : Closed ops listed) {i : Nat} (hi : i ∈ Region.ready .any ops listed) (hk : k ≤ i) : ∀ d j, (L j = false ∨ k ≤ j) → j + d = i → 0 < d → listed.getD j false = true := by
  obtain ⟨_, oi, hoi, hall⟩ := mem_ready.1 hi
  have hlt : i < ops.size := (Array.getElem?_eq_some_iff.1 hoi).1
  intro d
  induction d using Nat.strongRecOn with
  | ind d ih =>
    intro j hL hj hd
    obtain ⟨m, h1, h2, h4, h3⟩ := hC.next j hL (by omega)
    obtain ⟨o, ho, e, he, hb, heq⟩ := Region.edge_spec h3
    by_cases hmi : m = i
    · subst hmi
      rw [hoi] at ho; cases ho
      rw [← heq]; exact hall e he hb
    · have := ih (i - m) (by omega) m h4 (by omega) (by omega)
      rw [← heq]; exact hc m o ho this e he hb
section
variable {P : Program} {ops : Array Oper} {Q Q0 : Exit → Act → World → Prop} {k : Nat} {L : Nat → Bool}
theorem wpAny_chainL (hC : ChainL ops L k) : ∀ (l : List Oper) (i : Nat) (listed : Array Bool) (fuel : Nat) (a : Act) (w : World), (∀ j, l[j]? = ops[i + j]?) → i + l.length = ops.size → k ≤ i → listed.size = ops.size →
    (∀ j, j < i → listed.getD j false = true) → (∀ j, i ≤ j → j < ops.size → listed.getD j true = false) → Closed ops listed → l.length ≤ fuel → wpList P ops Q l a w → wpAny P .any ops Q fuel listed a w
  | [], i, listed, fuel, a, w, hl, hsz, hk, hls, h1, h2, hc, hf, h => by
    have hr : Region.ready .any ops listed = [] := by
      refine List.eq_nil_iff_forall_not_mem.2 fun m hm => ?_
      obtain ⟨hu, o, ho, _⟩ := mem_ready.1 hm
      have hlt : m < ops.size := (Array.getElem?_eq_some_iff.1 ho).1
      have := h1 m (by simp at hsz; omega)
      rw [getD_tf (by omega) false true, hu] at this
      simp at this
    cases fuel with
    | zero => exact ⟨hr, h⟩
    | succ f => exact ⟨fun _ => h, fun m hm => by rw [hr] at hm; cases hm⟩
  | o :: l, i, listed, fuel, a, w, hl, hsz, hk, hls, h1, h2, hc, hf, h => by
    have h0 : ops[i]? = some o := by simpa using (hl 0).symm
    have hlt : i < ops.size := (Array.getElem?_eq_some_iff.1 h0).1
    have hl' : ∀ j, l[j]? = ops[i + 1 + j]? := fun j => by have := hl (j + 1); simpa [Nat.add_assoc, Nat.add_comm 1 j] using this
    have hui := h2 i (Nat.le_refl _) hlt
    have hir : i ∈ Region.ready .any ops listed := mem_ready.2 ⟨hui, o, h0, fun e he hb => h1 _ ((Region.down_spec hC.down h0).1 e he hb)⟩
    have hnext : ∀ (a' : Act) (w' : World), wpList P ops Q l a' w' → wpAny P .any ops Q (fuel - 1) (listed.setIfInBounds i true) a' w' := fun a' w' h' =>
      wpAny_chainL hC l (i + 1) _ _ a' w' hl' (by simp at hsz; omega) (by omega) (by simp [hls]) (fun j hj => by
        by_cases hji : i = j
        · subst hji
          simp [Array.getD_eq_getD_getElem?, hls, hlt]
        · rw [getD_set_ne false hji]; exact h1 j (by omega)) (fun j hj hj2 => by rw [getD_set_ne true (by omega)]; exact h2 j (by omega) hj2) (hc.set hir) (by simp at hf; omega) h'
    obtain ⟨f, rfl⟩ : ∃ f, fuel = f + 1 := ⟨fuel - 1, by simp at hf; omega⟩
    refine ⟨fun hr => (by rw [hr] at hir; cases hir), fun m hm => ?_⟩
    obtain ⟨hu, o', ho', _⟩ := mem_ready.1 hm
    have hm2 : m = i := by
      have hmlt : m < ops.size := (Array.getElem?_eq_some_iff.1 ho').1
      rcases Nat.lt_trichotomy m i with hh | hh | hh
      · have := h1 m hh
        rw [getD_tf (by omega) false true, hu] at this
        simp at this
      · exact hh
      · have := hC.before hc hm (by omega) (m - i) i (.inr hk) (by omega) (by omega)
        rw [getD_tf (by omega) false true, hui] at this
        simp at this
    subst hm2
    unfold wpOp
    simp only [h0]
    unfold wpList at h
    by_cases hw : Region.wanted o (yielded ops a.tmps) = true
    · rw [if_pos hw] at h ⊢
      exact h.imp (Oper.wp_mono hnext) id
    · rw [if_neg hw] at h ⊢
      exact hnext _ _ h
/-- The operations of L: pure, unguarded, apart from whoever is not bound to come after. -/
structure LateOk (P : Program) (ops : Array Oper) (L : Nat → Bool) (k : Nat) : Prop where
  op : ∀ i, L i = true → i < k → ∃ oi x d, ops[i]? = some oi ∧ PureOp P oi x ∧ (∀ t, x = .tmp t → t ∈ oi.looksAt ops) ∧ oi.dst = some d ∧ oi.guard = none
  sel : ∀ (j : Nat) (oj : Oper), ops[j]? = some oj → notSelect oj = true
  apart : ∀ i oi, L i = true → i < k → ops[i]? = some oi → ∀ (j : Nat) (oj : Oper), ops[j]? = some oj → j ≠ i → (∀ e ∈ oj.after, Region.binds .any e = true → e.on ≠ i) → (∀ e ∈ oi.after, Region.binds .any e = true → e.on ≠ j) → oi.apart ops oj = true
theorem wpAny_splitL (hC : ChainL ops L k) (hL : LateOk P ops L k) {ops0 : Array Oper} (h0 : ops0.size = k) (hpre : ∀ j, j < k → ops0[j]? = ops[j]?) (hN : ∀ a w, Q0 .normal a w → wpList P ops Q (ops.toList.drop k) a w) (hQ0 : ∀ e a w, e ≠ .normal → ¬ Q0 e a w) (hQ : ∀ e a w, e ≠ .normal → ¬ Q e a w) :
    ∀ (fuel0 : Nat) (listed0 listed : Array Bool) (fuel : Nat) (a : Act) (w : World), listed0.size = k → listed.size = ops.size → (∀ j, j < k → ∀ d, listed0.getD j d = listed.getD j d) → (∀ j, k ≤ j → j < ops.size → listed.getD j true = false) →
      Closed ops listed → fuel0 + (ops.size - k) ≤ fuel → wpAny P .any ops0 Q0 fuel0 listed0 a w → wpAny P .any ops Q fuel listed a w := by
  have hle := hC.le
  have hE : ∀ e a w, e ≠ .normal → Q0 e a w → Q e a w := fun e a w h h2 => absurd h2 (hQ0 e a w h)
  have hd0 : Region.downB ops0 = true := by
    unfold Region.downB
    refine List.all_eq_true.2 fun i hi => ?_
    have hik := List.mem_range.1 hi
    have h1 := List.all_eq_true.1 hC.down i (List.mem_range.2 (by omega))
    rw [hpre i (by omega)]
    exact h1
  have all : ∀ (fuel0 : Nat) (listed0 listed : Array Bool) (fuel : Nat) (a : Act) (w : World), listed0.size = k → listed.size = ops.size → (∀ j, j < k → ∀ d, listed0.getD j d = listed.getD j d) → (∀ j, k ≤ j → j < ops.size → listed.getD j true = false) →
      Closed ops listed → fuel0 + (ops.size - k) ≤ fuel → wpAny P .any ops0 Q0 fuel0 listed0 a w → (∀ j, j < k → listed.getD j false = true) → wpAny P .any ops Q fuel listed a w := by
    intro fuel0 listed0 listed fuel a w hs0 hs hag hun hc hf H hall
    have hr0 : Region.ready .any ops0 listed0 = [] := by
      refine List.eq_nil_iff_forall_not_mem.2 fun m hm => ?_
      obtain ⟨hu, o, ho, _⟩ := mem_ready.1 hm
      have hlt : m < ops0.size := (Array.getElem?_eq_some_iff.1 ho).1
      have h1 := hall m (by omega)
      rw [← hag m (by omega), getD_tf (by omega) false true, hu] at h1
      simp at h1
    have hQ : Q0 .normal a w := by
      cases fuel0 with
      | zero => exact H.2
      | succ f => exact H.1 hr0
    exact wpAny_chainL hC (ops.toList.drop k) k listed fuel a w (fun j => by rw [List.getElem?_drop, Array.getElem?_toList]) (by rw [List.length_drop, Array.length_toList]; omega) (Nat.le_refl _) hs hall hun hc (by rw [List.length_drop, Array.length_toList]; omega) (hN a w hQ)
  intro fuel0
  induction fuel0 with
  | zero =>
    intro listed0 listed fuel a w hs0 hs hag hun hc hf H
    refine all 0 listed0 listed fuel a w hs0 hs hag hun hc hf H fun j hj => ?_
    cases hh : listed.getD j false with
    | true => rfl
    | false =>
      rw [← hag j hj, getD_tf (by omega) false true] at hh
      obtain ⟨m, _, hm⟩ := ready_least hd0 (by omega) j (by omega) hh
      rw [H.1] at hm; cases hm
  | succ fuel0 ih =>
    intro listed0 listed fuel a w hs0 hs hag hun hc hf H
    have hset : ∀ m, m < k → m ∈ Region.ready .any ops listed → ∀ (a' : Act) (w' : World) (f : Nat), fuel0 + (ops.size - k) ≤ f → wpAny P .any ops0 Q0 fuel0 (listed0.setIfInBounds m true) a' w' → wpAny P .any ops Q f (listed.setIfInBounds m true) a' w' := fun m hmk hm a' w' f hf' h' =>
      ih _ _ f a' w' (by simp [hs0]) (by simp [hs]) (fun j hj d => by
        by_cases hmj : m = j
        · subst hmj
          simp [Array.getD_eq_getD_getElem?, hs0, hs, hmk, show m < ops.size by omega]
        · rw [getD_set_ne d hmj, getD_set_ne d hmj]; exact hag j hj d) (fun j hj hj2 => by rw [getD_set_ne true (by omega)]; exact hun j hj hj2) (hc.set hm) hf' h'
    by_cases hall : ∀ j, j < k → listed.getD j false = true
    · exact all _ listed0 listed fuel a w hs0 hs hag hun hc hf H hall
    · obtain ⟨f, rfl⟩ : ∃ f, fuel = f + 1 := ⟨fuel - 1, by omega⟩
      have hready0 : ∀ m, m < k → m ∈ Region.ready .any ops listed → m ∈ Region.ready .any ops0 listed0 := fun m hmk hm => by
        obtain ⟨hu, o, ho, hdep⟩ := mem_ready.1 hm
        exact mem_ready.2 ⟨by rw [hag m hmk]; exact hu, o, by rw [hpre m hmk]; exact ho, fun e he hb => by
          have := (Region.down_spec hC.down ho).1 e he hb
          rw [hag _ (by omega)]; exact hdep e he hb⟩
      by_cases hlate : ∀ j, j < k → L j = false → listed.getD j false = true
      · -- only late ones are left: the least of them is made first
        simp only [Classical.not_forall] at hall
        obtain ⟨j, hj, hjn⟩ := hall
        have hju : listed.getD j true = false := by rw [getD_tf (by omega) true false]; simpa using hjn
        obtain ⟨m, hmj, hm⟩ := ready_least hC.down hs j (by omega) hju
        have hmk : m < k := by omega
        have hmL : L m = true := by
          cases hh : L m with
          | true => rfl
          | false =>
            have := hlate m hmk hh
            rw [getD_tf (by omega) false true, (mem_ready.1 hm).1] at this
            simp at this
        obtain ⟨oi, x, d, hoi, hp, hlk, hd, hg⟩ := hL.op m hmL hmk
        have H1 := H.2 m (hready0 m hmk hm)
        unfold wpOp at H1
        have ho0 : ops0[m]? = some oi := by rw [hpre m hmk]; exact hoi
        simp only [ho0] at H1
        have hw : Region.wanted oi (yielded ops0 a.tmps) = true := by simp [Region.wanted, hg]
        rw [if_pos hw] at H1
        rcases H1 with H1 | ⟨_, a1, w1, h1⟩
        · rcases hp (a.eval x) with ⟨v, hv⟩ | hno
          · unfold Oper.wp at H1
            rw [hv a w rfl] at H1
            simp only [Oper.upon, hd] at H1
            exact wpAny_pure hoi hv hlk hd hg hL.sel hQ f listed a w rfl (fun j oj hoj hji hun hno => hL.apart m oi hmL hmk hoi j oj hoj hji hno fun e he hb heq => by
              obtain ⟨_, o', ho', hdep⟩ := mem_ready.1 hm
              rw [hoi] at ho'; cases ho'
              have h5 := hdep e he hb
              have hjl : j < listed.size := by rw [hs]; exact (Array.getElem?_eq_some_iff.1 hoj).1
              rw [heq, getD_tf hjl false true, hun] at h5
              simp at h5) hm (hset m hmk hm _ _ f (by omega) H1)
          · exact absurd H1 (hno a w _ _ hQ0 rfl)
        · exact absurd h1 (hQ0 _ _ _ (by simp))
      · simp only [Classical.not_forall] at hlate
        obtain ⟨j, hj, hjL, hjn⟩ := hlate
        have hju : listed.getD j true = false := by rw [getD_tf (by omega) true false]; simpa using hjn
        refine ⟨fun hr => ?_, fun m hm => ?_⟩
        · obtain ⟨m, _, hm⟩ := ready_least hC.down hs j (by omega) hju
          rw [hr] at hm; cases hm
        · have hmk : m < k := by
            refine Nat.lt_of_not_le fun hkm => hjn ?_
            exact hC.before hc hm hkm (m - j) j (.inl hjL) (by omega) (by omega)
          have h1 := H.2 m (hready0 m hmk hm)
          obtain ⟨hu, o, ho, hdep⟩ := mem_ready.1 hm
          have ho0 : ops0[m]? = some o := by rw [hpre m hmk]; exact ho
          unfold wpOp at h1 ⊢
          simp only [ho, ho0] at h1 ⊢
          rw [wanted_same (ops := ops) fun p hp => hpre _ (by have := (Region.down_spec hC.down ho).2 p hp; omega)] at h1
          have hnext : ∀ (a' : Act) (w' : World), wpAny P .any ops0 Q0 fuel0 (listed0.setIfInBounds m true) a' w' → wpAny P .any ops Q f (listed.setIfInBounds m true) a' w' := fun a' w' h' => hset m hmk hm a' w' f (by omega) h'
          by_cases hw : Region.wanted o (yielded ops a.tmps) = true
          · rw [if_pos hw] at h1 ⊢
            exact h1.imp (wp_to2 hnext hE) fun h => ⟨h.1, h.2.imp fun _ => Exists.imp fun _ => hE _ _ _ (by simp)⟩
          · rw [if_neg hw] at h1 ⊢
            exact hnext _ _ h1
end
/-- The late ones, by a look at them. -/
def pureB (o : Oper) : Bool := (match o.op with | .move _ => true | .extract _ _ => true | _ => false) && o.guard.isNone && o.dst.isSome
theorem pureB_spec {P : Program} {ops : Array Oper} {o : Oper} (h : pureB o = true) : ∃ x d, PureOp P o x ∧ (∀ t, x = .tmp t → t ∈ o.looksAt ops) ∧ o.dst = some d ∧ o.guard = none := by
  unfold pureB at h
  simp only [Bool.and_eq_true] at h
  obtain ⟨⟨h1, h2⟩, h3⟩ := h
  obtain ⟨d, hd⟩ := Option.isSome_iff_exists.1 h3
  have hg : o.guard = none := by simpa using h2
  cases hop : o.op with
  | move x => exact ⟨x, d, .move hop, fun t ht => looks_op (by rw [hop, ht]; simp [Op.operands]), hd, hg⟩
  | extract x i => exact ⟨x, d, .extract hop, fun t ht => looks_op (by rw [hop, ht]; simp [Op.operands]), hd, hg⟩
  | _ => rw [hop] at h1; simp at h1
def lateB (ops : Array Oper) (L : List Nat) (k : Nat) : Bool := (ops.toList.all notSelect) && L.all fun i => Nat.blt i k && ((ops[i]?).map fun oi => pureB oi && (List.range ops.size).all fun j => Nat.beq j i || Region.edge ops j i || Region.edge ops i j || ((ops[j]?).map fun oj => oi.apart ops oj).getD true).getD false
theorem LateOk.of {P : Program} {ops : Array Oper} {L : List Nat} {k : Nat} (h : lateB ops L k = true) : LateOk P ops (fun i => L.contains i) k := by
  unfold lateB at h
  simp only [Bool.and_eq_true] at h
  have hL : ∀ i, L.contains i = true → ∃ oi, ops[i]? = some oi ∧ pureB oi = true ∧ ∀ j oj, ops[j]? = some oj → j ≠ i → (∀ e ∈ oj.after, Region.binds .any e = true → e.on ≠ i) → (∀ e ∈ oi.after, Region.binds .any e = true → e.on ≠ j) → oi.apart ops oj = true := fun i hi => by
    have h1 := List.all_eq_true.1 h.2 i (List.contains_iff_mem.1 hi)
    simp only [Bool.and_eq_true] at h1
    cases ho : ops[i]? with
    | none => rw [ho] at h1; simp at h1
    | some oi =>
      rw [ho] at h1
      simp only [Option.map_some, Option.getD_some, Bool.and_eq_true] at h1
      refine ⟨oi, rfl, h1.2.1, fun j oj hj hji hn hn2 => ?_⟩
      have h2 := List.all_eq_true.1 h1.2.2 j (List.mem_range.2 (Array.getElem?_eq_some_iff.1 hj).1)
      rw [hj] at h2
      simp only [Option.map_some, Option.getD_some, Bool.or_eq_true] at h2
      rcases h2 with ((h2 | h2) | h2) | h2
      · exact absurd (Nat.eq_of_beq_eq_true h2) hji
      · obtain ⟨o, ho2, e, he, hb, heq⟩ := Region.edge_spec h2
        rw [hj] at ho2; cases ho2
        exact absurd heq (hn e he hb)
      · obtain ⟨o, ho2, e, he, hb, heq⟩ := Region.edge_spec h2
        rw [ho] at ho2; cases ho2
        exact absurd heq (hn2 e he hb)
      · exact h2
  refine ⟨fun i hi _ => ?_, fun j oj hj => List.all_eq_true.1 h.1 oj (by simpa using Array.mem_of_getElem? hj), fun i oi hi _ hoi j oj hj hji hn hn2 => ?_⟩
  · obtain ⟨oi, h1, h2, _⟩ := hL i hi
    obtain ⟨x, d, h3, h4, h5, h6⟩ := pureB_spec (P := P) (ops := ops) h2
    exact ⟨oi, x, d, h1, h3, h4, h5, h6⟩
  · obtain ⟨oi', h1, _, h3⟩ := hL i hi
    rw [hoi] at h1; cases h1
    exact h3 j oj hj hji hn hn2
def QN (Q : Post) : Post := fun ex e σ => match ex with | .normal => Q .normal e σ | _ => False
end Go.Proofs.YtcfamaddnmnaeaaGreatDoor

namespace Go.Proofs.YtcfamaddnmnaeaaGreatDoor
open Go.RowKit
set_option linter.unusedVariables false

def Env.puts (e : Env) : List (Nat × S) → Env
  | [] => e
  | p :: l => Env.puts (e.put (some p.1) p.2) l
theorem puts_other {t : Nat} : ∀ {l : List (Nat × S)} {e : Env}, t ∉ l.map Prod.fst → Env.puts e l t = e t
  | [], _, _ => rfl
  | p :: l, e, h => by
    simp only [List.map_cons, List.mem_cons, not_or] at h
    unfold Env.puts
    rw [puts_other h.2, Env.put_other _ _ _ _ h.1]
theorem puts_put {dst : Option Nat} {s : S} : ∀ {l : List (Nat × S)} {e : Env}, (∀ d, dst = some d → d ∉ l.map Prod.fst) → Env.puts (e.put dst s) l = (Env.puts e l).put dst s
  | [], _, _ => rfl
  | p :: l, e, h => by
    unfold Env.puts
    rw [Env.put_comm e dst (some p.1) s p.2 (fun d hd he => h d hd (by rw [← Option.some.inj he]; simp)), puts_put fun d hd hm => h d hd (by simp only [List.map_cons, List.mem_cons]; exact .inr hm)]
/-- An object that the region makes, and the slots that may hold it. -/
structure Fc where
  id : Nat
  slots : List Nat
def Clean (Φ : List Fc) (e : Env) : Prop := ∀ f ∈ Φ, ∀ t, f.slots.contains t = false → (e t).kill f.id = e t
def QE (e1 : Env) (σ1 : Obs) : Post := fun ex e σ => match ex with | .normal => e = e1 ∧ σ = σ1 | _ => False
/-- An operation that makes or turns objects: the slots that it sets, the objects behind it. -/
def GE (cx : Cx) (ops : Array Oper) (Φ : List Fc) (o : Oper) (e : Env) (σ : Obs) (si : List (Nat × S)) (σ' : Obs) : Prop :=
  ∀ e0 : Env, (∀ t, t ∈ o.looksAt ops → e0 t = e t) → (∀ t, t ∈ si.map Prod.fst → e0 t = e t) → Clean Φ e0 → AOps cx ops [o] e0 σ (QE (Env.puts e0 si) σ')
def LStep (cx : Cx) (ops : Array Oper) (Φ : List Fc) (ef : Nat → Bool) (K : Nat → List Nat) (I : Obs → Prop) (k : Nat) (o : Oper) (e : Env) (σ : Obs) (e' : Env) (σ' : Obs) : Prop :=
  (GW ops o e true ∧ ef k = false ∧ ∃ s, I σ ∧ (∀ τ, I τ → AOp cx.P cx.B ops o e τ s) ∧ (∀ f ∈ Φ, (∃ t, o.dst = some t ∧ f.slots.contains t = true) ∨ s.kill f.id = s) ∧ e' = e.put o.dst s ∧ σ' = σ) ∨
  (GW ops o e false ∧ ef k = false ∧ e' = e.put o.dst (.d (.v undef)) ∧ σ' = σ) ∨
  (GW ops o e true ∧ ef k = true ∧ I σ ∧ I σ' ∧ ∃ si, si.map Prod.fst = K k ∧ GE cx ops Φ o e σ si σ' ∧ (∀ p ∈ si, ∀ f ∈ Φ, f.slots.contains p.1 = true ∨ p.2.kill f.id = p.2) ∧ e' = Env.puts e si)
def LRun (cx : Cx) (ops : Array Oper) (Φ : List Fc) (ef : Nat → Bool) (K : Nat → List Nat) (I : Obs → Prop) : Nat → List Oper → Env → Obs → (Env → Obs → Prop) → Prop
  | _, [], e, σ, Q => Q e σ
  | k, o :: l, e, σ, Q => DstOk cx.N o ∧ ∃ e' σ', LStep cx ops Φ ef K I k o e σ e' σ' ∧ LRun cx ops Φ ef K I (k + 1) l e' σ' Q
def anyL (cx : Cx) (ops : Array Oper) (Φ : List Fc) (ef : Nat → Bool) (K : Nat → List Nat) (I : Obs → Prop) (Q : Env → Obs → Prop) : Nat → Array Bool → Env → Obs → Prop
  | 0, listed, e, σ => Region.ready .any ops listed = [] ∧ Q e σ
  | fuel + 1, listed, e, σ => (Region.ready .any ops listed = [] → Q e σ) ∧
      ∀ i ∈ Region.ready .any ops listed, ∀ o, ops[i]? = some o → ∃ e' σ', LStep cx ops Φ ef K I i o e σ e' σ' ∧ anyL cx ops Φ ef K I Q fuel (listed.setIfInBounds i true) e' σ'
/-- The slots of one are none of the other's. -/
def keysOkB (ops : Array Oper) (K : Nat → List Nat) (i j : Nat) (oi oj : Oper) : Bool :=
  ((K i).all fun k => !((oj.looksAt ops).contains k) && neDst oj k) && ((K j).all fun k => !((oi.looksAt ops).contains k) && neDst oi k) && (!(K i).any fun k => (K j).contains k)
theorem keysOk_l {ops : Array Oper} {K : Nat → List Nat} {i j : Nat} {oi oj : Oper} (h : keysOkB ops K i j oi oj = true) : ∀ k ∈ K i, k ∉ oj.looksAt ops ∧ oj.dst ≠ some k := fun k hk => by
  unfold keysOkB at h
  simp only [Bool.and_eq_true] at h
  have h1 := List.all_eq_true.1 h.1.1 k hk
  simp only [Bool.and_eq_true, Bool.not_eq_true', List.contains_eq_mem, decide_eq_false_iff_not] at h1
  exact ⟨h1.1, neDst_spec h1.2⟩
theorem keysOk_r {ops : Array Oper} {K : Nat → List Nat} {i j : Nat} {oi oj : Oper} (h : keysOkB ops K i j oi oj = true) : ∀ k ∈ K j, k ∉ oi.looksAt ops ∧ oi.dst ≠ some k := fun k hk => by
  unfold keysOkB at h
  simp only [Bool.and_eq_true] at h
  have h1 := List.all_eq_true.1 h.1.2 k hk
  simp only [Bool.and_eq_true, Bool.not_eq_true', List.contains_eq_mem, decide_eq_false_iff_not] at h1
  exact ⟨h1.1, neDst_spec h1.2⟩
theorem GE.same {cx : Cx} {ops : Array Oper} {Φ : List Fc} {o : Oper} {e e' : Env} {σ σ' : Obs} {si : List (Nat × S)} (h : GE cx ops Φ o e σ si σ') (h1 : ∀ t, t ∈ o.looksAt ops → e' t = e t) (h2 : ∀ t, t ∈ si.map Prod.fst → e' t = e t) : GE cx ops Φ o e' σ si σ' :=
  fun e0 k1 k2 k3 => h e0 (fun t ht => (k1 t ht).trans (h1 t ht)) (fun t ht => (k2 t ht).trans (h2 t ht)) k3
theorem anyL_first {cx : Cx} {ops : Array Oper} {Φ : List Fc} {ef : Nat → Bool} {K : Nat → List Nat} {I : Obs → Prop} (hK : ∀ k, ef k = false → K k = []) {Q : Env → Obs → Prop} {i : Nat} {oi : Oper} (hi : ops[i]? = some oi) (late : Nat → Bool)
    (hclos : ∀ j oj, ops[j]? = some oj → late j = true → ∃ e ∈ oj.after, Region.binds .any e = true ∧ (e.on = i ∨ late e.on = true)) :
    ∀ (fuel : Nat) (listed : Array Bool) (e : Env) (σ : Obs) (e1 : Env) (σ1 : Obs), (∀ j, late j = true → listed.getD j false = false) →
      (∀ j oj, ops[j]? = some oj → j ≠ i → listed.getD j true = false → (∀ e ∈ oj.after, Region.binds .any e = true → e.on ≠ i) → oi.apart ops oj = true ∧ (late j = false → (ef i = false ∨ ef j = false) ∧ keysOkB ops K i j oi oj = true)) →
      i ∈ Region.ready .any ops listed → LStep cx ops Φ ef K I i oi e σ e1 σ1 → anyL cx ops Φ ef K I Q fuel (listed.setIfInBounds i true) e1 σ1 → anyL cx ops Φ ef K I Q (fuel + 1) listed e σ := by
  intro fuel
  induction fuel with
  | zero =>
    intro listed e σ e1 σ1 _ _ hr hy H
    refine ⟨fun h => (by rw [h] at hr; cases hr), fun j hj o ho => ?_⟩
    by_cases hji : j = i
    · subst hji
      rw [hi] at ho; cases ho
      exact ⟨e1, σ1, hy, H⟩
    · have := ready_mono hj hji
      rw [H.1] at this
      cases this
  | succ fuel ih =>
    intro listed e σ e1 σ1 hlate hfree hr hy H
    refine ⟨fun h => (by rw [h] at hr; cases hr), fun j hj oj hoj => ?_⟩
    by_cases hji : j = i
    · subst hji
      rw [hi] at hoj; cases hoj
      exact ⟨e1, σ1, hy, H⟩
    · obtain ⟨e2, σ2, h1, h2⟩ := H.2 j (ready_mono hj hji) oj hoj
      obtain ⟨hjun, oj', hoj', hall⟩ := mem_ready.1 hj
      rw [hoj] at hoj'; cases hoj'
      have hnot : ∀ e ∈ oj.after, Region.binds .any e = true → e.on ≠ i := fun e he hb heq => by
        have h1 := hall e he hb
        have h0 := (mem_ready.1 hr).1
        rw [heq] at h1
        rcases Nat.lt_or_ge i listed.size with h' | h'
        · simp [h'] at h0 h1; rw [h0] at h1; cases h1
        · simp [Array.getElem?_eq_none h'] at h1
      have hjl : late j = false := by
        cases hl : late j with
        | false => rfl
        | true =>
          obtain ⟨e, he, hb, hh⟩ := hclos j oj hoj hl
          rcases hh with hh | hh
          · exact absurd hh (hnot e he hb)
          · have h3 := hall e he hb
            rw [hlate _ hh] at h3
            simp at h3
      obtain ⟨hap, hss⟩ := hfree j oj hoj hji hjun hnot
      obtain ⟨hs1, hs2⟩ := hss hjl
      obtain ⟨a1, a2, a3⟩ := Oper.apart_spec hap
      have kl := keysOk_l hs2
      have kr := keysOk_r hs2
      have fin : ∀ ej σj, LStep cx ops Φ ef K I j oj e σ ej σj → LStep cx ops Φ ef K I i oi ej σj e2 σ2 → ∃ e' σ', LStep cx ops Φ ef K I j oj e σ e' σ' ∧ anyL cx ops Φ ef K I Q (fuel + 1) (listed.setIfInBounds j true) e' σ' := fun ej σj hsj hsi => by
        refine ⟨ej, σj, hsj, ?_⟩
        refine ih (listed.setIfInBounds j true) ej σj e2 σ2 (fun k hk => ?_) (fun k ok hk hki hun hno => ?_) (ready_mono hr (Ne.symm hji)) hsi ?_
        · have hkj : j ≠ k := fun h => by rw [h, hk] at hjl; simp at hjl
          rw [getD_set_ne false hkj]
          exact hlate k hk
        · refine hfree k ok hk hki ?_ hno
          by_cases hjk : j = k
          · subst hjk; exact hjun
          · rw [getD_set_ne true hjk] at hun; exact hun
        · rw [Array.setIfInBounds_comm _ _ hji]
          exact h2
      have look1 : ∀ {s : S} t, t ∈ oj.looksAt ops → (e.put oi.dst s) t = e t := fun t ht => put_looks a1 t ht
      have look2 : ∀ {s : S} t, t ∈ oi.looksAt ops → (e.put oj.dst s) t = e t := fun t ht => put_looks a3 t ht
      rcases hy with ⟨hgi, hei, s, hI, hopi, hcl, rfl, rfl⟩ | ⟨hgi, hei, rfl, rfl⟩ | ⟨hgi, hei, hi1, hi2, si, hki, hopi, hci, rfl⟩
      · rcases h1 with ⟨hgj, hej, sj, hIj, hopj, hclj, rfl, rfl⟩ | ⟨hgj, hej, rfl, rfl⟩ | ⟨hgj, hej, hj1, hj2, sj, hkj, hopj, hcj, rfl⟩
        · exact fin (e.put oj.dst sj) _ (.inl ⟨hgj.same fun t ht => (look1 t ht).symm, hej, sj, hIj, fun τ hτ => (hopj τ hτ).same fun t ht => (look1 t ht).symm, hclj, rfl, rfl⟩) (.inl ⟨hgi.same (fun t ht => look2 t ht), hei, s, hI, fun τ hτ => (hopi τ hτ).same (fun t ht => look2 t ht), hcl, (Env.put_comm e oi.dst oj.dst s sj a2), rfl⟩)
        · exact fin (e.put oj.dst (.d (.v undef))) _ (.inr (.inl ⟨hgj.same fun t ht => (look1 t ht).symm, hej, rfl, rfl⟩)) (.inl ⟨hgi.same (fun t ht => look2 t ht), hei, s, hI, fun τ hτ => (hopi τ hτ).same (fun t ht => look2 t ht), hcl, (Env.put_comm e oi.dst oj.dst s _ a2), rfl⟩)
        · have hkd : ∀ d, oi.dst = some d → d ∉ sj.map Prod.fst := fun d hd hm => by rw [hkj] at hm; exact (kr d hm).2 hd
          have hkl : ∀ t, t ∈ oi.looksAt ops → Env.puts e sj t = e t := fun t ht => puts_other fun hm => by rw [hkj] at hm; exact (kr t hm).1 ht
          refine fin (Env.puts e sj) σ2 (.inr (.inr ⟨hgj.same fun t ht => (look1 t ht).symm, hej, hj1, hj2, sj, hkj, hopj.same (fun t ht => (look1 t ht).symm) (fun t ht => ?_), hcj, rfl⟩)) (.inl ⟨hgi.same hkl, hei, s, hj2, fun τ hτ => (hopi τ hτ).same hkl, hcl, puts_put hkd, rfl⟩)
          cases hd : oi.dst with
          | none => rfl
          | some d => exact (Env.put_other _ _ _ _ (fun (he : t = d) => hkd d hd (he ▸ ht))).symm
      · rcases h1 with ⟨hgj, hej, sj, hIj, hopj, hclj, rfl, rfl⟩ | ⟨hgj, hej, rfl, rfl⟩ | ⟨hgj, hej, hj1, hj2, sj, hkj, hopj, hcj, rfl⟩
        · exact fin (e.put oj.dst sj) _ (.inl ⟨hgj.same fun t ht => (look1 t ht).symm, hej, sj, hIj, fun τ hτ => (hopj τ hτ).same fun t ht => (look1 t ht).symm, hclj, rfl, rfl⟩) (.inr (.inl ⟨hgi.same (fun t ht => look2 t ht), hei, (Env.put_comm e oi.dst oj.dst _ sj a2), rfl⟩))
        · exact fin (e.put oj.dst (.d (.v undef))) _ (.inr (.inl ⟨hgj.same fun t ht => (look1 t ht).symm, hej, rfl, rfl⟩)) (.inr (.inl ⟨hgi.same (fun t ht => look2 t ht), hei, (Env.put_comm e oi.dst oj.dst _ _ a2), rfl⟩))
        · have hkd : ∀ d, oi.dst = some d → d ∉ sj.map Prod.fst := fun d hd hm => by rw [hkj] at hm; exact (kr d hm).2 hd
          have hkl : ∀ t, t ∈ oi.looksAt ops → Env.puts e sj t = e t := fun t ht => puts_other fun hm => by rw [hkj] at hm; exact (kr t hm).1 ht
          refine fin (Env.puts e sj) σ2 (.inr (.inr ⟨hgj.same fun t ht => (look1 t ht).symm, hej, hj1, hj2, sj, hkj, hopj.same (fun t ht => (look1 t ht).symm) (fun t ht => ?_), hcj, rfl⟩)) (.inr (.inl ⟨hgi.same hkl, hei, puts_put hkd, rfl⟩))
          cases hd : oi.dst with
          | none => rfl
          | some d => exact (Env.put_other _ _ _ _ (fun (he : t = d) => hkd d hd (he ▸ ht))).symm
      · have hkd : ∀ d, oj.dst = some d → d ∉ si.map Prod.fst := fun d hd hm => by rw [hki] at hm; exact (kl d hm).2 hd
        have hkl : ∀ t, t ∈ oj.looksAt ops → Env.puts e si t = e t := fun t ht => puts_other fun hm => by rw [hki] at hm; exact (kl t hm).1 ht
        have hke : ∀ {s : S} t, t ∈ si.map Prod.fst → (e.put oj.dst s) t = e t := fun {s} t ht => by
          cases hd : oj.dst with
          | none => rfl
          | some d => exact Env.put_other _ _ _ _ (fun he => hkd d hd (he ▸ ht))
        rcases h1 with ⟨hgj, hej, sj, hIj, hopj, hclj, rfl, rfl⟩ | ⟨hgj, hej, rfl, rfl⟩ | ⟨hgj, hej, hj1, hj2, sj, hkj, hopj, hcj, rfl⟩
        · exact fin (e.put oj.dst sj) σ (.inl ⟨hgj.same fun t ht => (hkl t ht).symm, hej, sj, hi1, fun τ hτ => (hopj τ hτ).same fun t ht => (hkl t ht).symm, hclj, rfl, rfl⟩) (.inr (.inr ⟨hgi.same (fun t ht => look2 t ht), hei, hi1, hi2, si, hki, hopi.same (fun t ht => look2 t ht) (fun t ht => hke t ht), hci, (puts_put hkd).symm⟩))
        · exact fin (e.put oj.dst (.d (.v undef))) σ (.inr (.inl ⟨hgj.same fun t ht => (hkl t ht).symm, hej, rfl, rfl⟩)) (.inr (.inr ⟨hgi.same (fun t ht => look2 t ht), hei, hi1, hi2, si, hki, hopi.same (fun t ht => look2 t ht) (fun t ht => hke t ht), hci, (puts_put hkd).symm⟩))
        · rcases hs1 with h | h
          · rw [hei] at h; simp at h
          · rw [hej] at h; simp at h
/-- The check: whoever is free to change places has nothing to do with the other. -/
def Region.keysFree (ops : Array Oper) (ef : Nat → Bool) (K : Nat → List Nat) (listed : Array Bool) (k : Nat) (late : Nat → Bool) : Bool :=
  (List.range ops.size).all fun j =>
    (!(late j) || (!(listed.getD j false) && ((ops[j]?).map fun o => o.after.any fun e => Region.binds .any e && (Nat.beq e.on k || late e.on)).getD true)) &&
    (Nat.beq j k || listed.getD j true || late j || Region.edge ops j k || ((!(ef k) || !(ef j)) && ((ops[k]?).bind fun oi => (ops[j]?).map fun oj => keysOkB ops K k j oi oj).getD false))
def Region.keysFrom (ops : Array Oper) (ef : Nat → Bool) (K : Nat → List Nat) : Nat → Nat → Array Bool → Bool
  | 0, _, _ => true
  | fuel + 1, k, listed => Region.keysFree ops ef K listed k (Region.lateB ops k) && Region.keysFrom ops ef K fuel (k + 1) (listed.setIfInBounds k true)
theorem Region.keysFree_spec {ops : Array Oper} {ef : Nat → Bool} {K : Nat → List Nat} {listed : Array Bool} {k : Nat} {oi : Oper} {late : Nat → Bool} (h : Region.keysFree ops ef K listed k late = true) (hk : ops[k]? = some oi) (hl : ∀ j, late j = true → j < ops.size) :
    (∀ j oj, ops[j]? = some oj → late j = true → ∃ e ∈ oj.after, Region.binds .any e = true ∧ (e.on = k ∨ late e.on = true)) ∧ (∀ j, late j = true → listed.getD j false = false) ∧
    ∀ j oj, ops[j]? = some oj → j ≠ k → listed.getD j true = false → (∀ e ∈ oj.after, Region.binds .any e = true → e.on ≠ k) → late j = false → (ef k = false ∨ ef j = false) ∧ keysOkB ops K k j oi oj = true := by
  have h1 : ∀ j, j < ops.size → _ := fun j hj => List.all_eq_true.1 h j (List.mem_range.2 hj)
  simp only [Bool.and_eq_true] at h1
  refine ⟨fun j oj hoj hlj => ?_, fun j hlj => ?_, fun j oj hoj hjk hun hno hlj => ?_⟩
  · have h2 := (h1 j (Array.getElem?_eq_some_iff.1 hoj).1).1
    rw [hlj, hoj] at h2
    simp only [Bool.not_true, Bool.false_or, Option.map_some, Option.getD_some, Bool.and_eq_true, Array.any_eq_true'] at h2
    obtain ⟨_, e, he, hb⟩ := h2
    simp only [Bool.or_eq_true] at hb
    exact ⟨e, he, hb.1, hb.2.imp Nat.eq_of_beq_eq_true (fun x => x)⟩
  · have h2 := (h1 j (hl j hlj)).1
    rw [hlj] at h2
    simp only [Bool.not_true, Bool.false_or, Bool.and_eq_true, Bool.not_eq_true'] at h2
    exact h2.1
  · have h2 := (h1 j (Array.getElem?_eq_some_iff.1 hoj).1).2
    have hb : Nat.beq j k = false := by rw [Bool.eq_false_iff]; exact fun hh => hjk (Nat.eq_of_beq_eq_true hh)
    rw [hb, hun, hlj, hk, hoj] at h2
    simp only [Bool.false_or, Bool.or_eq_true, Bool.and_eq_true, Bool.not_eq_true', Option.bind_some, Option.map_some, Option.getD_some] at h2
    rcases h2 with h2 | h2
    · obtain ⟨o, ho, e, he, hb2, heq⟩ := Region.edge_spec h2
      rw [hoj] at ho; cases ho
      exact absurd heq (hno e he hb2)
    · exact h2
theorem anyL_lex {cx : Cx} {ops : Array Oper} {Φ : List Fc} {ef : Nat → Bool} {K : Nat → List Nat} {I : Obs → Prop} (hK : ∀ k, ef k = false → K k = []) {Q : Env → Obs → Prop} : ∀ (l : List Oper) (k : Nat) (listed : Array Bool) (e : Env) (σ : Obs), (∀ j, l[j]? = ops[k + j]?) →
    Region.lexFrom .any ops l.length k listed = true → Region.keysFrom ops ef K l.length k listed = true → LRun cx ops Φ ef K I k l e σ Q → anyL cx ops Φ ef K I Q l.length listed e σ
  | [], _, _, _, _, _, hB, _, h => ⟨by simpa [Region.lexFrom] using hB, h⟩
  | o :: l, k, listed, e, σ, hl, hB, hS, h => by
    have h0 : ops[k]? = some o := by simpa using (hl 0).symm
    simp only [List.length_cons, Region.lexFrom, Bool.and_eq_true] at hB
    simp only [List.length_cons, Region.keysFrom, Bool.and_eq_true] at hS
    obtain ⟨⟨hr, hf⟩, hB'⟩ := hB
    have hl' : ∀ j, l[j]? = ops[k + 1 + j]? := fun j => by have := hl (j + 1); simpa [Nat.add_assoc, Nat.add_comm 1 j] using this
    obtain ⟨_, e', σ', hs, hq⟩ := h
    have hgo := anyL_lex hK l (k + 1) _ _ _ hl' hB' hS.2 hq
    obtain ⟨k1, k2, k3⟩ := Region.keysFree_spec hS.1 h0 (fun j hj => by
      unfold Region.lateB at hj
      simp only [Bool.and_eq_true, Nat.blt_eq] at hj
      exact hj.1)
    exact anyL_first hK h0 _ k1 l.length listed e σ e' σ' k2 (fun j oj hj hji hun hno => ⟨Region.free_spec h0 hf j oj hj hji hun hno, fun hl => k3 j oj hj hji hun hno hl⟩) (by simpa using hr) hs hgo
theorem LRun.dsts {cx : Cx} {ops : Array Oper} {Φ : List Fc} {ef : Nat → Bool} {K : Nat → List Nat} {I : Obs → Prop} {Q : Env → Obs → Prop} : ∀ (l : List Oper) (k : Nat) (e : Env) (σ : Obs), LRun cx ops Φ ef K I k l e σ Q → ∀ o ∈ l, DstOk cx.N o
  | [], _, _, _, _, o, ho => by cases ho
  | x :: l, k, e, σ, h, o, ho => by
    obtain ⟨h1, _, _, _, h2⟩ := h
    cases ho with
    | head => exact h1
    | tail _ ho => exact LRun.dsts l _ _ _ h2 o ho
theorem Clean.put {Φ : List Fc} {e : Env} {dst : Option Nat} {s : S} (h : Clean Φ e) (hs : ∀ f ∈ Φ, (∃ t, dst = some t ∧ f.slots.contains t = true) ∨ s.kill f.id = s) : Clean Φ (e.put dst s) := fun f hf t ht => by
  cases dst with
  | none => exact h f hf t ht
  | some d =>
    by_cases hd : t = d
    · subst hd
      rw [Env.put_same]
      rcases hs f hf with ⟨t', h1, h2⟩ | h1
      · cases h1; rw [ht] at h2; simp at h2
      · exact h1
    · rw [Env.put_other _ _ _ _ hd]; exact h f hf t ht
theorem Clean.puts {Φ : List Fc} : ∀ {l : List (Nat × S)} {e : Env}, Clean Φ e → (∀ p ∈ l, ∀ f ∈ Φ, f.slots.contains p.1 = true ∨ p.2.kill f.id = p.2) → Clean Φ (Env.puts e l)
  | [], _, h, _ => h
  | p :: l, e, h, hs => by
    unfold Env.puts
    refine Clean.puts (fun f hf t ht => ?_) fun q hq => hs q (List.mem_cons_of_mem _ hq)
    by_cases hd : t = p.1
    · subst hd
      rw [Env.put_same]
      rcases hs p (by simp) f hf with h1 | h1
      · rw [ht] at h1; simp at h1
      · exact h1
    · rw [Env.put_other _ _ _ _ hd]; exact h f hf t ht
theorem wpAny_of_L {cx : Cx} {ops : Array Oper} {Φ : List Fc} {ef : Nat → Bool} {K : Nat → List Nat} {I : Obs → Prop} {Q : Post} (hQ : ∀ ex e σ, ex ≠ .normal → ¬ Q ex e σ) (hd : ∀ o ∈ ops.toList, DstOk cx.N o) : ∀ (fuel : Nat) (listed : Array Bool) (e : Env) (σ : Obs) (a : Act) (w : World), R cx e σ a w → Clean Φ e →
    anyL cx ops Φ ef K I (fun e σ => Q .normal e σ) fuel listed e σ → wpAny cx.P .any ops (lift cx Q) fuel listed a w
  | 0, _, e, σ, _, _, hr, _, h => ⟨h.1, e, σ, h.2, hr⟩
  | fuel + 1, listed, e, σ, a, w, hr, hc, h => by
    refine ⟨fun h0 => ⟨e, σ, h.1 h0, hr⟩, fun i hi => ?_⟩
    obtain ⟨_, o, ho, _⟩ := mem_ready.1 hi
    obtain ⟨e', σ', hs, hk⟩ := h.2 i hi o ho
    have hdo : DstOk cx.N o := hd o (Array.mem_toList_iff.2 (Array.mem_of_getElem? ho))
    unfold wpOp
    simp only [ho]
    have hR := hr
    obtain ⟨F, ρ, hr⟩ := hr
    rcases hs with ⟨hg, _, s, hI, hop, hcl, rfl, rfl⟩ | ⟨hg, _, rfl, rfl⟩ | ⟨hg, _, _, _, si, _, hop, hci, rfl⟩
    · rw [if_pos (hg.wanted (fun t _ => hr.env t))]
      refine .inl (wp_to ?_ (fun _ _ _ => False.elim) (hop _ hI F ρ w a hr.lt (fun t _ => hr.env t) hr.obs))
      rintro a' w' ⟨v, F', rfl, hv, he⟩
      exact wpAny_of_L hQ hd fuel _ _ _ _ _ ⟨F', ρ, hr.put he hv hdo⟩ (hc.put hcl) hk
    · rw [if_neg (by rw [hg.wanted (fun t _ => hr.env t)]; simp)]
      exact wpAny_of_L hQ hd fuel _ _ _ _ _ ⟨F, ρ, hr.put (Ext.refl hr.lt) repS_undef hdo⟩ (hc.put fun _ _ => .inr rfl) hk
    · have hw : Region.wanted o (yielded ops a.tmps) = true := hg.wanted (fun t _ => hr.env t)
      rw [if_pos hw]
      have h4 := hop e (fun _ _ => rfl) (fun _ _ => rfl) hc a w hR
      unfold wpList at h4
      rw [if_pos hw] at h4
      refine h4.imp (wp_to2 ?_ ?_) fun h => ⟨h.1, ?_⟩
      · rintro a' w' ⟨e', σ'', ⟨rfl, rfl⟩, hr'⟩
        exact wpAny_of_L hQ hd fuel _ _ _ _ _ hr' (hc.puts hci) hk
      · rintro ex a' w' hne ⟨e', σ'', hq, _⟩
        cases ex <;> first | exact absurd rfl hne | exact hq.elim
      · obtain ⟨a', w', e', σ'', hq, _⟩ := h.2
        exact hq.elim
/-- Before the region: no slot but those told holds what it makes or turns. -/
def Env.killOut (f : Fc) (e : Env) : Env := fun t => match f.slots.contains t with | true => e t | false => (e t).kill f.id
def Env.killIds : List Fc → Env → Env
  | [], e => e
  | f :: l, e => Env.killIds l (e.killOut f)
theorem killOut_keep {f : Fc} {g : Fc} {e : Env} (h : Clean [g] e) : Clean [g] (e.killOut f) := fun g' hg t ht => by
  have h1 := h g' hg t ht
  unfold Env.killOut
  cases f.slots.contains t with
  | true => exact h1
  | false => show S.kill g'.id (S.kill f.id (e t)) = S.kill f.id (e t); rw [kill_comm, h1]
theorem killIds_keep {g : Fc} : ∀ {Φ : List Fc} {e : Env}, Clean [g] e → Clean [g] (Env.killIds Φ e)
  | [], _, h => h
  | _ :: l, _, h => killIds_keep (Φ := l) (killOut_keep h)
theorem killOut_clean (f : Fc) (e : Env) : Clean [f] (e.killOut f) := fun g hg t ht => by
  obtain rfl := List.mem_singleton.1 hg
  unfold Env.killOut
  rw [ht]
  exact S.kill_kill g.id (e t)
theorem killIds_clean : ∀ (Φ : List Fc) (e : Env), Clean Φ (Env.killIds Φ e)
  | g :: l, e, f, hf, t, ht => by
    rcases List.mem_cons.1 hf with rfl | hf
    · exact killIds_keep (Φ := l) (killOut_clean f e) f (by simp) t ht
    · exact killIds_clean l (e.killOut g) f hf t ht
theorem R.killOut {cx : Cx} {σ : Obs} {a : Act} {w : World} {e : Env} (f : Fc) : R cx e σ a w → R cx (e.killOut f) σ a w
  | ⟨F, ρ, h⟩ => by
    have henv : ∀ t, RepS F ρ w (a.tmps.getD t undef) (e.killOut f t) := fun t => by
      unfold Env.killOut
      cases f.slots.contains t with
      | true => exact h.env t
      | false => exact (h.killEnv f.id).env t
    exact ⟨F, ρ, h.size, h.defers, h.lt, h.base, h.new, h.below, h.hB, henv, h.obs, h.up, h.kown, h.fixed⟩
theorem R.killIds {cx : Cx} {σ : Obs} {a : Act} {w : World} : ∀ (Φ : List Fc) {e : Env}, R cx e σ a w → R cx (Env.killIds Φ e) σ a w
  | [], _, h => h
  | f :: l, _, h => R.killIds l (R.killOut f h)
section
variable {cx : Cx} {ops : Array Oper} {Φ : List Fc} {ef : Nat → Bool} {K : Nat → List Nat} {I : Obs → Prop} {n : Nat} {o : Oper} {l : List Oper} {e : Env} {σ : Obs} {Q : Env → Obs → Prop}
def cleanS (t : Nat) (s : S) : List Fc → Prop
  | [] => True
  | f :: l => (f.slots.contains t = true ∨ s.kill f.id = s) ∧ cleanS t s l
theorem cleanS.all {t : Nat} {s : S} : ∀ {l : List Fc}, cleanS t s l → ∀ f ∈ l, f.slots.contains t = true ∨ s.kill f.id = s
  | [], _, f, hf => by cases hf
  | g :: l, h, f, hf => by
    cases hf with
    | head => exact h.1
    | tail _ hf => exact cleanS.all h.2 f hf
theorem LRun.nil (h : Q e σ) : LRun cx ops Φ ef K I n [] e σ Q := h
theorem LRun.step {s : S} {t : Nat} (hg : GW ops o e true) (ht : o.dst = some t) (hd : Nat.blt t cx.N = true) (hI : I σ) (h : ∀ τ, I τ → AOp cx.P cx.B ops o e τ s) (k : LRun cx ops Φ ef K I (n + 1) l (e.put (some t) s) σ Q) (he : ef n = false := by rfl) (hc : cleanS t s Φ := by first | exact ⟨.inr rfl, trivial⟩ | exact ⟨.inl rfl, trivial⟩) : LRun cx ops Φ ef K I n (o :: l) e σ Q :=
  ⟨by unfold DstOk; rw [ht]; exact hd, _, _, .inl ⟨hg, he, s, hI, h, fun f hf => (hc.all f hf).imp (fun h => ⟨t, ht, h⟩) id, rfl, rfl⟩, by rw [ht]; exact k⟩
def cleanL (Φ : List Fc) : List (Nat × S) → Prop
  | [] => True
  | p :: l => (∀ f ∈ Φ, f.slots.contains p.1 = true ∨ p.2.kill f.id = p.2) ∧ cleanL Φ l
theorem LRun.eff {si : List (Nat × S)} {σ' : Obs} (hg : GW ops o e true) (hd : DstOk cx.N o) (h1 : I σ) (h2 : I σ') (h : GE cx ops Φ o e σ si σ') (k : LRun cx ops Φ ef K I (n + 1) l (Env.puts e si) σ' Q) (hc : ∀ p ∈ si, ∀ f ∈ Φ, f.slots.contains p.1 = true ∨ p.2.kill f.id = p.2) (he : ef n = true := by rfl) (hk : si.map Prod.fst = K n := by rfl) : LRun cx ops Φ ef K I n (o :: l) e σ Q :=
  ⟨hd, _, _, .inr (.inr ⟨hg, he, h1, h2, si, hk, h, hc, rfl⟩), k⟩
end
end Go.Proofs.YtcfamaddnmnaeaaGreatDoor

namespace Go.Proofs.YtcfamaddnmnaeaaGreatDoor
open Go.RowKit
set_option linter.unusedVariables false

end Go.Proofs.YtcfamaddnmnaeaaGreatDoor

namespace Go.Proofs.YtcfamaddnmnaeaaGreatDoor
open Go.RowKit
set_option linter.unusedVariables false

end Go.Proofs.YtcfamaddnmnaeaaGreatDoor

namespace Go.Proofs.YtcfamaddnmnaeaaGreatDoor
open Go.RowKit Go.Shelf
set_option linter.unusedVariables false

section
variable {cx : Cx} {e : Env} {σ : Obs} {Q : Post}
theorem R0.rowOfS {F : Nat → Prop} {ρ : Nat → Value} {a : Act} {w : World} (h : R0 cx F ρ e σ a w) {id ee size : Nat} {els : List (List S)} {ds : List (List D)} {σs σ' : Obs} (hm : (id, Ob.rowS ee size els) ∈ σ') (hl : els.length = ds.length)
    (hs : ∀ i (k1 : i < els.length) (k2 : i < ds.length), els[i].length = ds[i].length)
    (hr : ∀ i (k1 : i < els.length) (k2 : i < ds.length) j (k3 : j < els[i].length) (k4 : j < ds[i].length), Snap σs els[i][j] ds[i][j]) (h1 : ∀ p ∈ σs, p ∈ σ) (h2 : ∀ p ∈ σ', p ∈ σ) (h3 : ∀ p ∈ σs, ∀ q ∈ σ', q.1 ≠ p.1) :
    R0 cx (endF F ρ σs) ρ e (Obs.upd id (.row ee size ds) σ') a w := by
  have hF2 : ∀ b, endF F ρ σs b → b < w.heap.size := by
    rintro b (hb | ⟨p, hp, hb⟩)
    · exact h.lt b hb
    · exact ((h.obs.ok p (h1 p hp)).blk_lt hb).2
  have h4 : R0 cx (endF F ρ σs) ρ e σ' a w := by
    refine ⟨h.size, h.defers, hF2, fun b hb => .inl (h.base b hb), ?_, h.below, h.hB, fun u => ?_, ?_, h.up, fun p hp => h.kown p (h2 p hp), h.fixed⟩
    · rintro b (hb | ⟨p, hp, hb⟩)
      · exact h.new b hb
      · exact .inr (h.kown p (h1 p hp) b hb)
    · exact RepS.turn (row := none) (h.env u) h.lt (fun g hg => by simp at hg) ⟨rfl, rfl, rfl, Nat.le_refl _, fun _ _ _ => rfl⟩ (fun b hb => .inl hb)
    · refine ⟨fun p hp => ?_, fun p hp q hq => h.obs.apart p (h2 p hp) q (h2 q hq), fun p hp q hq => h.obs.uniq p (h2 p hp) q (h2 q hq)⟩
      refine (h.obs.ok p (h2 p hp)).more h.lt (fun b hb => .inl hb) ?_
      rintro g hg (hf | ⟨q, hq, hb⟩)
      · exact (h.obs.ok p (h2 p hp)).nF hg hf
      · exact h.obs.apart p (h2 p hp) q (h1 q hq) (h3 q hq p hp) g hg hb
  obtain ⟨xs, g1, g2, g3, g4⟩ := h.obs.ok _ (h2 _ hm)
  have k4 : ∀ g, blk (ρ id) = some g → ¬ endF F ρ σs g := fun g hg => (h4.obs.ok _ hm).nF hg
  dsimp only at g1 g4
  refine h4.reOb hm ⟨xs, by rw [← hl]; exact g1, fun i hi => by rw [← hs i (by omega) hi]; exact g2 i (by omega), fun i hi j hj => ?_, fun g hg => k4 g hg⟩
  have hi' : i < els.length := by omega
  have hj' : j < els[i].length := by rw [hs i hi' hi]; exact hj
  exact ⟨(g3 i hi' j hj').1, (hr i hi' hi j hj' hj).rep (h.obs.sub h1) _ (g3 i hi' j hj').2⟩
/-- A row whose cells hold own rows becomes a row of data; what they held is frozen. -/
theorem AWP.rowOfS {c : Code} (id : Nat) {ee size : Nat} {els : List (List S)} (ds : List (List D)) (σs σ' : Obs) (hm : (id, Ob.rowS ee size els) ∈ σ') (hl : els.length = ds.length)
    (hs : ∀ i (k1 : i < els.length) (k2 : i < ds.length), els[i].length = ds[i].length)
    (hr : ∀ i (k1 : i < els.length) (k2 : i < ds.length) j (k3 : j < els[i].length) (k4 : j < ds[i].length), Snap σs els[i][j] ds[i][j]) (h1 : ∀ p ∈ σs, p ∈ σ) (h2 : ∀ p ∈ σ', p ∈ σ) (h3 : ∀ p ∈ σs, ∀ q ∈ σ', q.1 ≠ p.1)
    (k : AWP cx c e (Obs.upd id (.row ee size ds) σ') Q) : AWP cx c e σ Q := fun a w ⟨F, ρ, hr'⟩ => k a w ⟨_, ρ, hr'.rowOfS hm hl hs hr h1 h2 h3⟩
end

section
variable {cx : Cx} {ops : Array Oper} {o : Oper} {rest : List Oper} {e : Env} {σ : Obs} {Q : Post}
end
end Go.Proofs.YtcfamaddnmnaeaaGreatDoor

namespace Go.Proofs.YtcfamaddnmnaeaaGreatDoor
open Go.RowKit
set_option linter.unusedVariables false

/-- append(own, x...): the row has a new name, the old header stays what it was. -/
theorem AOps.appendN {cx : Cx} {ops : Array Oper} {o : Oper} {rest : List Oper} {e : Env} {σ : Obs} {Q : Post} {s x : Operand} {t ee size bytes id dst : Nat} {z : Value} {els els2 : List (List D)} (id2 : Nat) (hg : o.guard = none)
    (ho : o.op = .call { callee := .builtin .append, args := #[s, x], argTypes := #[t, t] }) (hd : o.dst = some dst) (hdn' : Nat.blt dst cx.N = true) (T : ElemTy cx.P t ee size bytes z) (hs : e.ev s = .own id) (hm : (id, Ob.row ee size els) ∈ σ)
    (hx : e.ev x = .d (.sl els2)) (hsz : ∀ y ∈ els2, y.length = size) (hb : (els.length + els2.length) * bytes ≤ 140737488355328) (hn : els.length + els2.length ≤ 9223372036854775807)
    (hid : Obs.fresh id2 σ = true) (k : AOps cx ops rest ((e.kill id2).put (some dst) (.own id2)) ((id2, .row ee size (els ++ els2)) :: Obs.kill id2 (Obs.del id σ)) Q) (hfx : cx.free id2 = true := by rfl) : AOps cx ops (o :: rest) e σ Q := by
  intro a w ⟨F, ρ, hr⟩
  have hdn : dst < cx.N := by simpa [Nat.blt_eq] using hdn'
  have h1 := ev_rep (e := e) (x := s) (a := a) (fun t _ => hr.env t)
  have h2 := ev_rep (e := e) (x := x) (a := a) (fun t _ => hr.env t)
  rw [hs] at h1
  rw [hx] at h2
  obtain ⟨xs, hown, hlen, hrep, hnF⟩ := hr.obs.ok _ hm
  dsimp only at hown hnF
  have hv : a.eval s = ρ id := by generalize a.eval s = v at h1; cases h1; rfl
  -- the source, as a slice of cells
  obtain ⟨ys, hsl, hys⟩ : ∃ ys : Nat → Nat → Value, Sl w size (a.eval x) els2.length (flat ys els2.length size) ∧ ∀ i (h : i < els2.length) j (h' : j < els2[i].length), (ys i j).oneCell' = true ∧ Rep F w (ys i j) els2[i][j] := by
    rcases rep_sl_sl (repS_d h2) with ⟨h3, h4⟩ | ⟨ad, cap, size', vs, h3, hc, hm', hF', hs', hcell, hone, hrep'⟩
    · subst h4
      exact ⟨fun _ _ => undef, by rw [h3]; exact Sl.nil _ _, fun i hi => by simp at hi⟩
    · refine ⟨vs, ⟨flat_length _ _ _, .inr ⟨ad, cap, h3, hc, hm', ?_⟩⟩, fun i hi j hj => ?_⟩
      · intro q hq
        rw [flat_length] at hq
        have hs0 : 0 < size := T.hs
        have e1 : q = (q / size) * size + q % size := by rw [Nat.mul_comm]; exact (Nat.div_add_mod q size).symm
        have hlt1 : q / size < els2.length := Nat.div_lt_of_lt_mul (by rw [Nat.mul_comm]; exact hq)
        have hlt2 : q % size < size := Nat.mod_lt _ hs0
        have hss : size' = size := by rw [← hs' (q / size) hlt1]; exact hsz _ (List.getElem_mem hlt1)
        subst hss
        have h5 := hcell (q / size') (q % size') hlt1 hlt2
        rw [← e1] at h5
        rw [h5]
        have h6 := flatten_get vs size' els2.length (q / size') (q % size') hlt1 hlt2
        rw [← e1] at h6
        have h7 : (flat vs els2.length size')[q]? = some (vs (q / size') (q % size')) := h6
        rw [List.getElem?_eq_getElem (by rw [flat_length]; exact hq)] at h7
        rw [Option.some.inj h7]
      · have hss : size' = size := by rw [← hs' i hi]; exact hsz _ (List.getElem_mem hi)
        exact ⟨hone i j hi (by rw [← hs' i hi]; exact hj), hrep' i hi j hj⟩
  refine wpList_cat2 (B := cx.B) T s x hg ho hown hv rfl hsl ?_ hb hn hr.hB ?_
  · intro u hu
    obtain ⟨q, hq, rfl⟩ := List.getElem_of_mem hu
    rw [flat_length] at hq
    have hs0 : 0 < size := T.hs
    have e1 : q = (q / size) * size + q % size := by rw [Nat.mul_comm]; exact (Nat.div_add_mod q size).symm
    have hlt1 : q / size < els2.length := Nat.div_lt_of_lt_mul (by rw [Nat.mul_comm]; exact hq)
    have hlt2 : q % size < size := Nat.mod_lt _ hs0
    have h6 := flatten_get ys size els2.length (q / size) (q % size) hlt1 hlt2
    rw [← e1] at h6
    have h7 : (flat ys els2.length size)[q]? = some (ys (q / size) (q % size)) := h6
    rw [List.getElem?_eq_getElem (by rw [flat_length]; exact hq)] at h7
    rw [Option.some.inj h7]
    exact (hys _ hlt1 _ (by rw [hsz _ (List.getElem_mem hlt1)]; exact hlt2)).1
  · intro v' w' hown' hgr hat
    rw [hd]
    refine k _ _ ⟨F, fun j => if j = id2 then v' else ρ j, ?_⟩
    have hnewb : ∀ g, blk v' = some g → (ρ id).ownBlock = some g ∨ w.heap.size ≤ g := by
      intro g hg
      have hg' : v'.ownBlock = some g := by
        rcases hown'.2 with ⟨h3, _⟩ | ⟨g', cap, cur, h3, _⟩
        · rw [h3] at hg; simp [blk] at hg
        · rw [h3] at hg ⊢; simpa [Value.ownBlock, blk] using hg
      rcases hat with h3 | ⟨g2, h3, h4⟩
      · exact .inl (by rw [← h3]; exact hg')
      · rw [h3] at hg'
        exact .inr (by have := Option.some.inj hg'; omega)
    have hob' : ∀ g, (ρ id).ownBlock = some g → blk (ρ id) = some g := by
      intro g hg
      rcases hown.2 with ⟨h3, _⟩ | ⟨g', cap, cur, h3, _⟩
      · rw [h3] at hg; simp [Value.ownBlock] at hg
      · rw [h3] at hg ⊢; simpa [Value.ownBlock, blk] using hg
    have hturn : Turn w w' (ρ id).ownBlock := ⟨hgr.os, hgr.tape, hgr.output, hgr.size, hgr.block⟩
    have hsub : ∀ p ∈ Obs.del id σ, p ∈ σ := fun p hp => (Obs.mem_del hp).1
    have hr2 : R0 cx F ρ e (Obs.del id σ) a w := ⟨hr.size, hr.defers, hr.lt, hr.base, hr.new, hr.below, hr.hB, hr.env, hr.obs.sub hsub, hr.up, fun p hp => hr.kown p (hsub p hp), hr.fixed⟩
    have h9 := hr2.turn (ρ' := fun j => if j = id2 then v' else ρ j) (id := id2) (ob := .row ee size (els ++ els2)) (row := (ρ id).ownBlock) (w' := w') (F' := F) (fun j hj => by simp [hj]) hturn hfx
      (fun g hg => ⟨hr.kown _ hm g (hob' g hg), hnF g (hob' g hg), fun p hp hpi => fun he => hr.obs.apart p (Obs.mem_del hp).1 _ hm (Obs.mem_del hp).2 g he (hob' g hg)⟩) (fun b hb => hb) (fun b hb => .inl hb)
      (fun b hb => Nat.lt_of_lt_of_le (hr.lt b hb) hgr.size)
      (by
        refine ⟨fun i j => if i < els.length then xs i j else ys (i - els.length) j, ?_, fun i hi => ?_, fun i hi j hj => ?_, fun g hg hf => ?_⟩
        · dsimp only; rw [if_pos rfl, List.length_append]
          have h3 := flat_append xs ys els.length els2.length size
          unfold flat at h3
          rw [← h3]
          exact hown'
        · by_cases hi' : i < els.length
          · rw [List.getElem_append_left hi']; exact hlen i hi'
          · rw [List.getElem_append_right (by omega)]
            exact hsz _ (List.getElem_mem _)
        · have keep : ∀ {u : Value} {d : D}, Rep F w u d → Rep F w' u d := fun h => h.mono (fun b hb => hb) fun b hb => hgr.block b (hr.lt b hb) (fun he => hnF b (hob' b he.symm) hb)
          by_cases hi' : i < els.length
          · simp only [if_pos hi', List.getElem_append_left hi'] at hj ⊢
            exact ⟨(hrep i hi' j hj).1, keep (hrep i hi' j hj).2⟩
          · simp only [if_neg hi', List.getElem_append_right (show els.length ≤ i by omega)] at hj ⊢
            have := hys (i - els.length) (by simp at hi; omega) j hj
            exact ⟨this.1, keep this.2⟩
        · dsimp only at hg; rw [if_pos rfl] at hg
          rcases hnewb g hg with h3 | h3
          · exact hnF g (hob' g h3) hf
          · have := hr.lt g hf; omega)
      (fun g hg => by
        rw [if_pos rfl] at hg
        exact hnewb g hg)
      ((id2, .row ee size (els ++ els2)) :: Obs.kill id2 (Obs.del id σ)) (fun p hp => by
        cases hp with
        | head => exact .inl rfl
        | tail _ hp =>
          obtain ⟨q, hq, rfl⟩ := Obs.mem_kill hp
          exact .inr ⟨q, hq, Obs.fresh_spec hid q (Obs.mem_del hq).1, rfl⟩)
    have h10 := h9.put (o := ⟨some dst, .ready 0, 0, "", #[], none⟩) (v := v') (s := .own id2) (Ext.refl h9.lt) (by
      have := RepS.own (F := F) (ρ := fun j => if j = id2 then v' else ρ j) (w := w') id2
      simpa using this) (by simpa [DstOk, Nat.blt_eq] using hdn)
    exact h10
/-- Such an append in a drawn region. -/
theorem GE.appendN {cx : Cx} {ops : Array Oper} {Φ : List Fc} {o : Oper} {e : Env} {σ : Obs} {s x : Operand} {t ee size bytes id dst : Nat} {z : Value} {els els2 : List (List D)} {σ' : Obs} (id2 : Nat) {sl : List Nat} (hΦ : ⟨id2, sl⟩ ∈ Φ) (hsl : ∀ t, t ≠ dst → sl.contains t = false) (hg : o.guard = none)
    (ho : o.op = .call { callee := .builtin .append, args := #[s, x], argTypes := #[t, t] }) (hd : o.dst = some dst) (hdn' : Nat.blt dst cx.N = true) (T : ElemTy cx.P t ee size bytes z) (hs : e.ev s = .own id) (hm : (id, Ob.row ee size els) ∈ σ)
    (hx : e.ev x = .d (.sl els2)) (hsz : ∀ y ∈ els2, y.length = size) (hb : (els.length + els2.length) * bytes ≤ 140737488355328) (hn : els.length + els2.length ≤ 9223372036854775807) (hid : Obs.fresh id2 σ = true) (hσ : (id2, .row ee size (els ++ els2)) :: Obs.kill id2 (Obs.del id σ) = σ') (hfx : cx.free id2 = true := by rfl) :
    GE cx ops Φ o e σ [(dst, .own id2)] σ' := fun e0 h1 h2 h3 => by
  have e1 : e0.ev s = e.ev s := ev_same fun t hxt => h1 t (looks_op (by rw [ho, ← hxt]; simp [Op.operands, Call.operands]))
  have e2 : e0.ev x = e.ev x := ev_same fun t hxt => h1 t (looks_op (by rw [ho, ← hxt]; simp [Op.operands, Call.operands]))
  have hp : (e0.kill id2).put (some dst) (.own id2) = Env.puts e0 [(dst, .own id2)] := by
    funext t
    show _ = (e0.put (some dst) (.own id2)) t
    by_cases h4 : t = dst
    · subst h4; rw [Env.put_same, Env.put_same]
    · rw [Env.put_other _ _ _ _ h4, Env.put_other _ _ _ _ h4]; exact h3 _ hΦ t (hsl t h4)
  exact AOps.appendN id2 hg ho hd hdn' T (e1.trans hs) hm (e2.trans hx) hsz hb hn hid (.nil ⟨hp, hσ⟩) hfx
/-- A nil slice within an element of an own row of data: an own row (empty) in it. -/
theorem AWP.adoptRow {cx : Cx} {c : Code} {e : Env} {σ : Obs} {Q : Post} (new e2 s2 id k j : Nat) {ee size : Nat} {els : List (List D)} {ds : List D} (hm : (id, Ob.row ee size els) ∈ σ) (hk : els[k]? = some ds) (hj : ds[j]? = some (.v (.slice none 0 0))) (hid : Obs.fresh new σ = true)
    (q : AWP cx c (e.kill new) (Obs.upd id (.rowS ee size ((els.map fun ds => ds.map S.d).set k ((ds.map S.d).set j (.own new)))) ((new, .row e2 s2 []) :: Obs.kill new σ)) Q) (hfx : cx.free new = true := by rfl) : AWP cx c e σ Q := fun a w ⟨F, ρ, hr⟩ => by
  have hid' := Obs.fresh_spec hid
  have h1 := hr.turn (ρ' := fun j => if j = new then .slice none 0 0 else ρ j) (id := new) (ob := .row e2 s2 []) (row := none) (w' := w) (F' := F) (fun j hj => by simp [hj])
    ⟨rfl, rfl, rfl, Nat.le_refl _, fun _ _ _ => rfl⟩ hfx (fun g hg => by simp at hg) (fun b hb => hb) (fun b hb => .inl hb) hr.lt
    ⟨fun _ _ => undef, by simp [World.ownsRow], fun i hi => by simp at hi, fun i hi => by simp at hi, fun g hg => by simp [blk] at hg⟩ (fun g hg => by simp [blk] at hg) ((new, .row e2 s2 []) :: Obs.kill new σ) (fun p hp => by
      cases hp with
      | head => exact .inl rfl
      | tail _ hp => obtain ⟨q, hq, rfl⟩ := Obs.mem_kill hp; exact .inr ⟨q, hq, hid' q hq, rfl⟩)
  have hmk : ∀ {σ : Obs}, (id, Ob.row ee size els) ∈ σ → (id, Ob.row ee size els) ∈ Obs.kill new σ := by
    intro σ hh
    induction σ with
    | nil => cases hh
    | cons p l ih =>
      cases hh with
      | head => exact .head _
      | tail _ hh => exact .tail _ (ih hh)
  obtain ⟨xs, g1, g2, g3, g4⟩ := h1.obs.ok _ (.tail _ (hmk hm))
  refine q a w ⟨F, _, h1.reOb (.tail _ (hmk hm)) ⟨xs, ?_, fun i hi => ?_, fun i hi p hp => ?_, g4⟩⟩
  · rw [List.length_set, List.length_map]; exact g1
  · have hi' : i < els.length := by simpa using hi
    rw [List.getElem_set]
    split
    · rename_i hki
      subst hki
      obtain ⟨hkl, he⟩ := List.getElem?_eq_some_iff.1 hk
      rw [List.length_set, List.length_map, ← he]; exact g2 k hi'
    · rw [List.getElem_map, List.length_map]; exact g2 i hi'
  · have hi' : i < els.length := by simpa using hi
    obtain ⟨hkl, he⟩ := List.getElem?_eq_some_iff.1 hk
    have hp0 : p < els[i].length := by
      simp only [List.getElem_set] at hp
      split at hp
      · rename_i hki
        subst hki
        rw [List.length_set, List.length_map, ← he] at hp; exact hp
      · rw [List.getElem_map, List.length_map] at hp; exact hp
    refine ⟨(g3 i hi' p hp0).1, ?_⟩
    have h5 := (g3 i hi' p hp0).2
    by_cases hki : k = i
    · subst hki
      by_cases hjp : j = p
      · subst hjp
        obtain ⟨hjl, hje⟩ := List.getElem?_eq_some_iff.1 hj
        have h6 : els[k][j] = .v (.slice none 0 0) := by
          have : ds[j]'hjl = els[k][j] := by congr 1; exact he.symm
          rw [← this]; exact hje
        rw [h6] at h5
        have h7 : xs k j = Value.slice none 0 0 := rep_v h5
        have h8 := RepS.own (F := F) (ρ := fun j => if j = new then Value.slice none 0 0 else ρ j) (w := w) new
        simpa [h7] using h8
      · have : ds[p]'(by rw [← he]; exact hp0) = els[k][p] := by congr 1; exact he.symm
        have h8 : RepS F (fun j => if j = new then Value.slice none 0 0 else ρ j) w (xs k p) (.d (ds[p]'(by rw [← he]; exact hp0))) := by rw [this]; exact .d h5
        simpa [hjp] using h8
    · have h8 : RepS F (fun j => if j = new then Value.slice none 0 0 else ρ j) w (xs i p) (.d els[i][p]) := .d h5
      simpa [hki] using h8
end Go.Proofs.YtcfamaddnmnaeaaGreatDoor

namespace Go.Proofs.YtcfamaddnmnaeaaGreatDoor
open Go.RowKit
set_option linter.unusedVariables false

/-! Types. -/
namespace TyDA
end TyDA
open TyF0 TyF1 TyF2 TyF3 TyF4 TyF5 TyF6 TyF7 TyF8 TyF9 TyF10 TyF11 TyG1 TyG2 TyG5 TyU1 TyU2 TyU3 TyU4 TyM1 TyM2 TyM3 TyDA

open Go.Lib
set_option linter.unusedSimpArgs false
/-! ## Numbers -/
theorem trimP_le (l p : List UInt8) : (Lib.trimPrefix l p).length ≤ l.length := by
  unfold Lib.trimPrefix
  split <;> simp
/-- A number of at most ten digits. -/
def numT (l : List UInt8) : Option Nat := if l = [] ∨ 10 < l.length ∨ (l.head? = some 48 ∧ l ≠ [48]) then none else Lib.decFrom 0 l
theorem dec_all : ∀ (l : List UInt8) (acc : Nat), l.all (dig10.data.toList.contains ·) = (Lib.decFrom acc l).isSome
  | [], _ => rfl
  | b :: l, acc => by
    have hb : dig10.data.toList.contains b = (Lib.digitVal b).isSome := by
      have : dig10.data.toList = [48, 49, 50, 51, 52, 53, 54, 55, 56, 57] := rfl
      rw [this]
      unfold Lib.digitVal
      by_cases h : 48 ≤ b.toNat ∧ b.toNat ≤ 57
      · rw [if_pos h]
        have : b ∈ ([48, 49, 50, 51, 52, 53, 54, 55, 56, 57] : List UInt8) := by
          have h2 : b = UInt8.ofNat b.toNat := by simp
          obtain ⟨h3, h4⟩ := h
          generalize b.toNat = n at *
          have h5 : n = 48 ∨ n = 49 ∨ n = 50 ∨ n = 51 ∨ n = 52 ∨ n = 53 ∨ n = 54 ∨ n = 55 ∨ n = 56 ∨ n = 57 := by omega
          rcases h5 with rfl | rfl | rfl | rfl | rfl | rfl | rfl | rfl | rfl | rfl <;> (rw [h2]; decide)
        simpa using this
      · rw [if_neg h]
        have : b ∉ ([48, 49, 50, 51, 52, 53, 54, 55, 56, 57] : List UInt8) := fun hm => by
          apply h
          simp only [List.mem_cons, List.not_mem_nil, or_false] at hm
          rcases hm with rfl | rfl | rfl | rfl | rfl | rfl | rfl | rfl | rfl | rfl <;> decide
        simpa using this
    simp only [List.all_cons, Lib.decFrom, hb]
    cases hd : Lib.digitVal b with
    | none => rfl
    | some d => simpa using dec_all l (acc * 10 + d)
theorem atoi_dec {l : List UInt8} {v : Nat} (h0 : l ≠ []) (h : Lib.decFrom 0 l = some v) : Lib.atoi l = some (v : Int) := by
  cases l with
  | nil => exact absurd rfl h0
  | cons b l =>
    have hd : ∃ d, Lib.digitVal b = some d := by
      simp only [Lib.decFrom] at h
      cases hb : Lib.digitVal b with
      | none => rw [hb] at h; cases h
      | some d => exact ⟨d, rfl⟩
    obtain ⟨d, hd⟩ := hd
    have hb : 48 ≤ b.toNat := by
      unfold Lib.digitVal at hd
      split at hd
      · omega
      · cases hd
    show (if (b == 45) = true then (Lib.decNat l).map fun (m : Nat) => -(m : Int) else if (b == 43) = true then (Lib.decNat l).map fun (m : Nat) => (m : Int) else (Lib.decNat (b :: l)).map fun (m : Nat) => (m : Int)) = _
    have h1 : ¬ (b == 45) = true := fun e => by have := eq_of_beq e; subst this; revert hb; decide
    have h2 : ¬ (b == 43) = true := fun e => by have := eq_of_beq e; subst this; revert hb; decide
    rw [if_neg h1, if_neg h2]
    unfold Lib.decNat
    rw [if_neg (by simp), h]; rfl
theorem strCons {s : ByteArray} : (s = ⟨#[]⟩) ↔ s.data.toList = [] := by
  constructor
  · intro h; rw [h]
  · intro h
    exact baEq.1 h
theorem one48 {s : ByteArray} : (s = ⟨#[48]⟩) ↔ s.data.toList = [48] := by
  constructor
  · intro h; rw [h]
  · intro h; exact baEq.1 h
theorem hd_at {s : ByteArray} {b : UInt8} {t : List UInt8} (h : s.data.toList = b :: t) : s.data.toList[0]? = some b := by rw [h]; rfl
def numsT : List (List UInt8) → Option (List Int)
  | [] => some []
  | w :: ws => match numT w, numsT ws with
    | some n, some ns => some ((n : Int) :: ns)
    | _, _ => none
theorem numsT_snoc : ∀ (a : List (List UInt8)) (w : List UInt8), numsT (a ++ [w]) = match numsT a, numT w with
    | some ns, some n => some (ns ++ [(n : Int)])
    | _, _ => none
  | [], w => by
    show numsT [w] = _
    unfold numsT
    cases numT w <;> rfl
  | x :: a, w => by
    show (match numT x, numsT (a ++ [w]) with | some n, some ns => some ((n : Int) :: ns) | _, _ => none) = _
    rw [numsT_snoc a w]
    have e : numsT (x :: a) = match numT x, numsT a with | some n, some ns => some ((n : Int) :: ns) | _, _ => none := rfl
    rw [e]
    cases numT x <;> cases numsT a <;> cases numT w <;> rfl
theorem numsT_none : ∀ {ws : List (List UInt8)} {k : Nat} (h : k < ws.length), numT ws[k] = none → numsT ws = none
  | [], k, h, _ => absurd h (Nat.not_lt_zero k)
  | w :: ws, 0, _, h2 => by
    show (match numT w, numsT ws with | some n, some ns => some ((n : Int) :: ns) | _, _ => none) = none
    rw [show numT w = none from h2]
  | w :: ws, k + 1, h, h2 => by
    show (match numT w, numsT ws with | some n, some ns => some ((n : Int) :: ns) | _, _ => none) = none
    rw [numsT_none (ws := ws) (k := k) (by simpa using h) (by simpa using h2)]
    cases numT w <;> rfl
theorem numsT_next {ws : List (List UInt8)} {k : Nat} {ns : List Int} {n : Nat} (h : k < ws.length) (h1 : numsT (ws.take k) = some ns) (h2 : numT ws[k] = some n) : numsT (ws.take (k + 1)) = some (ns ++ [(n : Int)]) := by
  rw [List.take_add_one, List.getElem?_eq_getElem h, Option.toList_some, numsT_snoc, h1, h2]
theorem numsT_len : ∀ {ws : List (List UInt8)} {ns : List Int}, numsT ws = some ns → ns.length = ws.length
  | [], ns, h => by cases h; rfl
  | w :: ws, ns, h => by
    have e : numsT (w :: ws) = match numT w, numsT ws with | some n, some ns => some ((n : Int) :: ns) | _, _ => none := rfl
    rw [e] at h
    split at h
    · rename_i n m h1 h2
      cases h
      rw [List.length_cons, List.length_cons, numsT_len h2]
    · cases h
/-! ## Lines -/
def usedV (l : List UInt8) : Option Usd := match spk 32 2 l with
  | [a, b, t] => if t = [] then none else match numT a, numT b with
    | some n, some m => some ⟨strL t, (n : Int), (m : Int)⟩
    | _, _ => none
  | _ => none
def headV (l : List UInt8) : Option Rpt := match spl 32 l with
  | [s, a, b, c] => if s = [] then none else match numT a, numT b, numT c with
    | some x, some y, some z => some ⟨strL s, (x : Int), (y : Int), (z : Int), []⟩
    | _, _, _ => none
  | _ => none
def addU (x : Rpt) (u : Usd) : Rpt := ⟨x.source, x.no, x.period, x.corrects, x.lines ++ [u]⟩
structure Rg where
  done : List Rpt
  cur : Option Rpt
def Rg.all (r : Rg) : List Rpt := r.done ++ r.cur.toList
def takeV (r : Rg) (l : List UInt8) : Option Rg :=
  if Lib.hasPrefix l [32, 32] = true then match usedV (Lib.trimPrefix l [32, 32]), r.cur with
    | some u, some x => some ⟨r.done, some (addU x u)⟩
    | _, _ => none
  else match headV l with
    | some x => some ⟨r.all, some x⟩
    | none => none
def readR : Nat → Rg → List UInt8 → Int → Rg × Int
  | 0, r, _, i => (r, i)
  | n + 1, r, [], i => (r, 0)
  | n + 1, r, b :: l, i => match ct 10 (b :: l) with
    | none => (r, i)
    | some p => match takeV r p.1 with
      | none => (r, i)
      | some r' => readR n r' p.2 (i + 1)
theorem ct_lt {c : UInt8} {l : List UInt8} {p : List UInt8 × List UInt8} (h : ct c l = some p) : p.1.length + p.2.length + 1 = l.length := by
  rw [ct_some h, List.length_append, List.length_cons]; omega
theorem readR_more : ∀ (n m : Nat) (r : Rg) (l : List UInt8) (i : Int), l.length < n → l.length < m → readR n r l i = readR m r l i
  | 0, _, _, _, _, h, _ => absurd h (Nat.not_lt_zero _)
  | _ + 1, 0, _, _, _, _, h => absurd h (Nat.not_lt_zero _)
  | n + 1, m + 1, r, [], i, _, _ => rfl
  | n + 1, m + 1, r, b :: l, i, hn, hm => by
    unfold readR
    cases hc : ct 10 (b :: l) with
    | none => rfl
    | some p =>
      have hl := ct_lt hc
      dsimp only
      cases takeV r p.1 with
      | none => rfl
      | some r' => exact readR_more n m r' p.2 (i + 1) (by rw [List.length_cons] at *; omega) (by rw [List.length_cons] at *; omega)
def readA (r : Rg) (l : List UInt8) (i : Int) : Rg × Int := readR (l.length + 1) r l i
theorem readA_nil (r : Rg) (i : Int) : readA r [] i = (r, 0) := rfl
theorem readA_bad {r : Rg} {l : List UInt8} {i : Int} (h0 : l ≠ []) (h : ct 10 l = none ∨ ∃ p, ct 10 l = some p ∧ takeV r p.1 = none) : readA r l i = (r, i) := by
  cases l with
  | nil => exact absurd rfl h0
  | cons b l =>
    unfold readA readR
    rcases h with h | ⟨p, h, h2⟩
    · rw [h]
    · rw [h]; dsimp only; rw [h2]
theorem readA_next {r r' : Rg} {l : List UInt8} {i : Int} {p : List UInt8 × List UInt8} (h : ct 10 l = some p) (h2 : takeV r p.1 = some r') : readA r l i = readA r' p.2 (i + 1) := by
  cases l with
  | nil => cases h
  | cons b l =>
    have hl := ct_lt h
    show readR ((b :: l).length + 1) r (b :: l) i = _
    unfold readR
    rw [h]; dsimp only; rw [h2]
    exact readR_more _ _ r' p.2 (i + 1) (by omega) (by omega)

def rg0 : Rg := ⟨[], none⟩
def readV (text : List UInt8) : List Rpt × Int × Int :=
  if 200000 < text.length then ([], 0, 2)
  else if (readA rg0 text 1).2 ≠ 0 then ([], (readA rg0 text 1).2, 10)
  else if logF (readA rg0 text 1).1.all ≠ 0 then ([], 0, logF (readA rg0 text 1).1.all) else ((readA rg0 text 1).1.all, 0, 0)
/-- What is read is right for the machine. -/
structure RgOk (r : Rg) (c : Nat) : Prop where
  rpt : ∀ x ∈ r.all, x.source.size ≤ c ∧ x.lines.length ≤ c ∧ ∀ u ∈ x.lines, u.title.size ≤ c
  len : r.all.length ≤ c
  op : r.cur = none → r.done = []
theorem RgOk.mono {r : Rg} {c c' : Nat} (h : RgOk r c) (hc : c ≤ c') : RgOk r c' := ⟨fun x hx => ⟨Nat.le_trans (h.rpt x hx).1 hc, Nat.le_trans (h.rpt x hx).2.1 hc, fun u hu => Nat.le_trans ((h.rpt x hx).2.2 u hu) hc⟩, Nat.le_trans h.len hc, h.op⟩
theorem RgOk.okr {r : Rg} {c : Nat} (h : RgOk r c) (hc : c ≤ 9223372036854775807) : ∀ x ∈ r.all, okRpt x := fun x hx => ⟨Nat.le_trans (h.rpt x hx).1 hc, fun u hu => Nat.le_trans ((h.rpt x hx).2.2 u hu) hc⟩
theorem rgOk_0 (c : Nat) : RgOk rg0 c := ⟨fun x hx => by simp [rg0, Rg.all] at hx, by simp [rg0, Rg.all], fun _ => rfl⟩
theorem spk_lens (c : UInt8) : ∀ (k : Nat) (l : List UInt8), ∀ x ∈ spk c k l, x.length ≤ l.length
  | 0, l, x, hx => by obtain rfl := List.mem_singleton.1 hx; exact Nat.le_refl _
  | k + 1, l, x, hx => by
    unfold spk at hx
    cases h : ct c l with
    | none => rw [h] at hx; obtain rfl := List.mem_singleton.1 hx; exact Nat.le_refl _
    | some p =>
      rw [h] at hx
      have hl := ct_lt h
      rcases List.mem_cons.1 hx with rfl | hx
      · omega
      · have := spk_lens c k p.2 x hx; omega

theorem used_some {l : List UInt8} {u : Usd} (h : usedV l = some u) : ∃ a b t n m, spk 32 2 l = [a, b, t] ∧ t ≠ [] ∧ numT a = some n ∧ numT b = some m ∧ u = ⟨strL t, (n : Int), (m : Int)⟩ := by
  unfold usedV at h
  split at h
  · rename_i a b t hw
    split at h
    · cases h
    · rename_i h0
      split at h
      · rename_i n m h1 h2
        cases h
        exact ⟨a, b, t, n, m, hw, h0, h1, h2, rfl⟩
      · cases h
  · cases h
theorem head_some {l : List UInt8} {x : Rpt} (h : headV l = some x) : ∃ s a b c n m k, spl 32 l = [s, a, b, c] ∧ s ≠ [] ∧ numT a = some n ∧ numT b = some m ∧ numT c = some k ∧ x = ⟨strL s, (n : Int), (m : Int), (k : Int), []⟩ := by
  unfold headV at h
  split at h
  · rename_i s a b c hw
    split at h
    · cases h
    · rename_i h0
      split at h
      · rename_i n m k h1 h2 h3
        cases h
        exact ⟨s, a, b, c, n, m, k, hw, h0, h1, h2, h3, rfl⟩
      · cases h
  · cases h
section
variable {r r' : Rg} {l : List UInt8}
theorem tk_u {u : Usd} {x : Rpt} (h : Lib.hasPrefix l [32, 32] = true) (h1 : usedV (Lib.trimPrefix l [32, 32]) = some u) (h2 : r.cur = some x) : takeV r l = some ⟨r.done, some (addU x u)⟩ := by unfold takeV; rw [if_pos h, h1, h2]
theorem tk_un (h : Lib.hasPrefix l [32, 32] = true) (h1 : usedV (Lib.trimPrefix l [32, 32]) = none ∨ r.cur = none) : takeV r l = none := by
  unfold takeV
  rw [if_pos h]
  split
  · rename_i u x hu hx
    rcases h1 with h1 | h1
    · rw [hu] at h1; cases h1
    · rw [hx] at h1; cases h1
  · rfl
theorem tk_h {x : Rpt} (h : ¬ Lib.hasPrefix l [32, 32] = true) (h1 : headV l = some x) : takeV r l = some ⟨r.all, some x⟩ := by unfold takeV; rw [if_neg h, h1]
theorem tk_hn (h : ¬ Lib.hasPrefix l [32, 32] = true) (h1 : headV l = none) : takeV r l = none := by unfold takeV; rw [if_neg h, h1]
end
theorem takeV_ok {r r' : Rg} {l : List UInt8} {c : Nat} (hr : RgOk r c) (h : takeV r l = some r') : RgOk r' (c + l.length + 1) := by
  have hm := hr.mono (c' := c + l.length + 1) (by omega)
  unfold takeV at h
  split at h
  · split at h
    · rename_i u x hu hx
      cases h
      obtain ⟨a, b, t, n, m, hw, _, _, _, rfl⟩ := used_some hu
      have hl := spk_lens 32 2 (Lib.trimPrefix l [32, 32]) t (by rw [hw]; simp)
      have h3 := trimP_le l [32, 32]
      have hall : r.all = r.done ++ [x] := by unfold Rg.all; rw [hx]; rfl
      refine ⟨fun y hy => ?_, ?_, fun hh => by cases hh⟩
      · have hy' : y ∈ r.done ++ [addU x ⟨strL t, (n : Int), (m : Int)⟩] := hy
        rcases List.mem_append.1 hy' with hy' | hy'
        · exact hm.rpt y (by rw [hall]; exact List.mem_append_left _ hy')
        · obtain rfl := List.mem_singleton.1 hy'
          have hx2 := hr.rpt x (by rw [hall]; simp)
          refine ⟨by show x.source.size ≤ _; omega, ?_, fun v hv => ?_⟩
          · show (x.lines ++ [_]).length ≤ _
            rw [List.length_append, List.length_singleton]; omega
          · have hv' : v ∈ x.lines ++ [(⟨strL t, (n : Int), (m : Int)⟩ : Usd)] := hv
            rcases List.mem_append.1 hv' with hv' | hv'
            · have := hx2.2.2 v hv'; omega
            · obtain rfl := List.mem_singleton.1 hv'
              show (strL t).size ≤ _
              rw [strL_size]; omega
      · have := hr.len
        rw [hall] at this
        show (r.done ++ [_]).length ≤ _
        simp at this ⊢
        omega
    · cases h
  · split at h
    · rename_i x hx
      cases h
      obtain ⟨s, a, b, c', n, m, k, hw, _, _, _, _, rfl⟩ := head_some hx
      have hl := spl_lens 32 l s (by rw [hw]; simp)
      refine ⟨fun y hy => ?_, ?_, fun hh => by cases hh⟩
      · have hy' : y ∈ r.all ++ [(⟨strL s, (n : Int), (m : Int), (k : Int), []⟩ : Rpt)] := hy
        rcases List.mem_append.1 hy' with hy' | hy'
        · exact hm.rpt y hy'
        · obtain rfl := List.mem_singleton.1 hy'
          exact ⟨by show (strL s).size ≤ _; rw [strL_size]; omega, Nat.zero_le _, fun u hu => by cases hu⟩
      · have := hr.len
        show (r.all ++ [_]).length ≤ _
        rw [List.length_append, List.length_singleton]; omega
    · cases h
/-! ## How it lies -/
def rptS (x : Rpt) : List S := x.ds.map S.d
def lastS (x : Rpt) : List S := [.d (.v (.string x.source)), .d (.v (.int .i64 x.no)), .d (.v (.int .i64 x.period)), .d (.v (.int .i64 x.corrects)), .own 700]
def rdRow (done : List Rpt) (c : List S) : List (List S) := done.map rptS ++ [c]
theorem rdRow_kill (i : Nat) (done : List Rpt) (c : List S) : (rdRow done c).map (fun ss => ss.map (S.kill i)) = rdRow done (c.map (S.kill i)) := by
  unfold rdRow
  rw [List.map_append, List.map_map]
  congr 1
theorem rdRow_set (done : List Rpt) (c c' : List S) : (rdRow done c).set done.length c' = rdRow done c' := by
  unfold rdRow
  rw [List.set_append_right _ _ (by simp)]
  simp
theorem rdRow_at (done : List Rpt) (c : List S) : (rdRow done c)[done.length]? = some c := by
  unfold rdRow
  rw [List.getElem?_append_right (by simp)]
  simp
theorem rdRow_len (done : List Rpt) (c : List S) : (rdRow done c).length = done.length + 1 := by simp [rdRow]
def curL : Option Rpt → List Usd
  | none => []
  | some x => x.lines
def rdO (done : List Rpt) : Option Rpt → List (List S)
  | none => done.map rptS
  | some x => rdRow done (lastS x)
def ob7 (cur : Option Rpt) : Nat × Ob := (700, .row 75 3 ((curL cur).map Usd.ds))
def rdObs (r : Rg) : Obs := [(500, .rowS 80 5 (rdO r.done r.cur)), ob7 r.cur]
theorem rptS_el (x : Rpt) (σ : Obs) : (rptS x).length = x.ds.length ∧ ∀ j (a : j < (rptS x).length) (b : j < x.ds.length), Snap σ (rptS x)[j] x.ds[j] :=
  ⟨by unfold rptS; rw [List.length_map], fun j a b => by
    have : (rptS x)[j] = .d x.ds[j] := by simp [rptS]
    rw [this]
    exact .d _⟩
theorem lastS_el (x : Rpt) : (lastS x).length = x.ds.length ∧ ∀ j (a : j < (lastS x).length) (b : j < x.ds.length), Snap [ob7 (some x)] (lastS x)[j] x.ds[j] :=
  ⟨rfl, fun j a b => by
    match j, a with
    | 0, _ => exact .d _
    | 1, _ => exact .d _
    | 2, _ => exact .d _
    | 3, _ => exact .d _
    | 4, _ => exact .row (e := 75) (size := 3) (.head _)⟩
theorem rd_el {done : List Rpt} {cur : Option Rpt} {i : Nat} {ss : List S} {ds : List D} (h1 : (rdO done cur)[i]? = some ss) (h2 : ((done ++ cur.toList).map Rpt.ds)[i]? = some ds) :
    ss.length = ds.length ∧ ∀ j (a : j < ss.length) (b : j < ds.length), Snap [ob7 cur] ss[j] ds[j] := by
  rw [List.getElem?_map] at h2
  obtain ⟨m, hm, rfl⟩ := Option.map_eq_some_iff.1 h2
  cases cur with
  | none =>
    simp only [rdO, List.getElem?_map] at h1
    obtain ⟨m2, hm2, rfl⟩ := Option.map_eq_some_iff.1 h1
    have : m = m2 := by
      rw [Option.toList_none, List.append_nil, hm2] at hm
      exact (Option.some.inj hm).symm
    subst this
    exact rptS_el m _
  | some c =>
    simp only [rdO, rdRow] at h1
    by_cases hi : i < done.length
    · rw [List.getElem?_append_left (by simpa using hi), List.getElem?_map] at h1
      obtain ⟨m2, hm2, rfl⟩ := Option.map_eq_some_iff.1 h1
      rw [List.getElem?_append_left hi, hm2] at hm
      have : m = m2 := (Option.some.inj hm).symm
      subst this
      exact rptS_el m _
    · rw [List.getElem?_append_right (by simp; omega)] at h1
      rw [List.getElem?_append_right (by omega)] at hm
      have hi0 : i = done.length := by
        rcases Nat.lt_or_ge (i - done.length) 1 with h | h
        · omega
        · rw [List.getElem?_eq_none (by simpa using h)] at hm; cases hm
      subst hi0
      simp at h1 hm
      subst h1; subst hm
      exact lastS_el c
theorem rdO_len (done : List Rpt) (cur : Option Rpt) : (rdO done cur).length = ((done ++ cur.toList).map Rpt.ds).length := by
  cases cur <;> simp [rdO, rdRow]
section
variable {cx : Cx} {e : Env} {Q : Post}
/-- What is held in the last element is frozen: the row is data. -/
theorem AWP.rdFreeze {c : Code} {done : List Rpt} {cur : Option Rpt}
    (k : AWP cx c e [(500, .row 80 5 ((done ++ cur.toList).map Rpt.ds))] Q) {σ : Obs} (hσ : ∀ p ∈ [(500, .rowS 80 5 (rdO done cur)), ob7 cur], p ∈ σ) : AWP cx c e σ Q := by
  refine AWP.obs hσ ?_
  refine AWP.rowOfS 500 ((done ++ cur.toList).map Rpt.ds) [ob7 cur] [(500, .rowS 80 5 (rdO done cur))] (.head _) (rdO_len done cur)
    (fun i k1 k2 => (rd_el (List.getElem?_eq_getElem k1) (List.getElem?_eq_getElem k2)).1) (fun i k1 k2 j k3 k4 => (rd_el (List.getElem?_eq_getElem k1) (List.getElem?_eq_getElem k2)).2 j k3 k4)
    (fun p hp => by obtain rfl := List.mem_singleton.1 hp; simp) (fun p hp => by
      simp only [List.mem_cons, List.not_mem_nil, or_false] at hp ⊢
      rcases hp with rfl; simp)
    (fun p hp q hq => by
      obtain rfl := List.mem_singleton.1 hp
      obtain rfl := List.mem_singleton.1 hq
      show (500 : Nat) ≠ 700; decide) ?_
  exact k
end
def newD (i : ByteArray) (x y z : Int) : List D := [.v (.string i), .v (.int .i64 x), .v (.int .i64 y), .v (.int .i64 z), .v (.slice none 0 0)]
theorem adopt_eq (l : List Rpt) (i : ByteArray) (x y z : Int) : ((l.map Rpt.ds ++ [newD i x y z]).map fun ds => ds.map S.d).set l.length (((newD i x y z).map S.d).set 4 (.own 700)) = rdRow l (lastS ⟨i, x, y, z, []⟩) := by
  unfold rdRow
  rw [List.map_append, List.set_append_right _ _ (by simp)]
  simp [lastS, rptS, newD]
theorem adopt_at (l : List Rpt) (d : List D) : (l.map Rpt.ds ++ [d])[l.length]? = some d := by
  rw [List.getElem?_append_right (by simp)]
  simp
theorem strL_nil {a : List UInt8} : (strL a = ⟨#[]⟩) ↔ a = [] := by rw [strCons, strL_list]
theorem four {l : List (List UInt8)} (h : l.length = 4) : ∃ a b c d, l = [a, b, c, d] := by
  match l, h with
  | [a, b, c, d], _ => exact ⟨a, b, c, d, rfl⟩
theorem three {l : List (List UInt8)} (h : l.length = 3) : ∃ a b c, l = [a, b, c] := by
  match l, h with
  | [a, b, c], _ => exact ⟨a, b, c, rfl⟩
theorem spl_l4 {l a b c d : List UInt8} (h : spl 32 l = [a, b, c, d]) : a.length ≤ l.length ∧ b.length ≤ l.length ∧ c.length ≤ l.length ∧ d.length ≤ l.length :=
  ⟨spl_lens 32 l a (by rw [h]; simp), spl_lens 32 l b (by rw [h]; simp), spl_lens 32 l c (by rw [h]; simp), spl_lens 32 l d (by rw [h]; simp)⟩
theorem spk_l3 {l a b c : List UInt8} (h : spk 32 2 l = [a, b, c]) : a.length ≤ l.length ∧ b.length ≤ l.length ∧ c.length ≤ l.length :=
  ⟨spk_lens 32 2 l a (by rw [h]; simp), spk_lens 32 2 l b (by rw [h]; simp), spk_lens 32 2 l c (by rw [h]; simp)⟩
theorem head_no4 {l : List UInt8} (h : (spl 32 l).length ≠ 4) : headV l = none := by
  unfold headV
  split
  · rename_i hh; rw [hh] at h; simp at h
  · rfl
theorem head_4 {l s a b c : List UInt8} (h : spl 32 l = [s, a, b, c]) : headV l = if s = [] then none else match numT a, numT b, numT c with
    | some x, some y, some z => some ⟨strL s, (x : Int), (y : Int), (z : Int), []⟩
    | _, _, _ => none := by
  unfold headV; rw [h]
theorem used_no3 {l : List UInt8} (h : (spk 32 2 l).length ≠ 3) : usedV l = none := by
  unfold usedV
  split
  · rename_i hh; rw [hh] at h; simp at h
  · rfl
theorem used_3 {l a b t : List UInt8} (h : spk 32 2 l = [a, b, t]) : usedV l = if t = [] then none else match numT a, numT b with
    | some n, some m => some ⟨strL t, (n : Int), (m : Int)⟩
    | _, _ => none := by
  unfold usedV; rw [h]
theorem nums2 {i s : List UInt8} (h : (numsT [i, s]).isSome = true) : ∃ a b, numT i = some a ∧ numT s = some b ∧ numsT [i, s] = some [(a : Int), (b : Int)] := by
  cases h1 : numT i with
  | none => simp [numsT, h1] at h
  | some a =>
    cases h2 : numT s with
    | none => simp [numsT, h1, h2] at h
    | some b => exact ⟨a, b, rfl, rfl, by simp [numsT, h1, h2]⟩
theorem nums2_no {i s : List UInt8} (h : (numsT [i, s]).isSome = false) : numT i = none ∨ numT s = none := by
  cases h1 : numT i with
  | none => exact .inl rfl
  | some a =>
    cases h2 : numT s with
    | none => exact .inr rfl
    | some b => simp [numsT, h1, h2] at h
theorem nums3 {i s t : List UInt8} (h : (numsT [i, s, t]).isSome = true) : ∃ a b c, numT i = some a ∧ numT s = some b ∧ numT t = some c ∧ numsT [i, s, t] = some [(a : Int), (b : Int), (c : Int)] := by
  cases h1 : numT i with
  | none => simp [numsT, h1] at h
  | some a =>
    cases h2 : numT s with
    | none => simp [numsT, h1, h2] at h
    | some b =>
      cases h3 : numT t with
      | none => simp [numsT, h1, h2, h3] at h
      | some c => exact ⟨a, b, c, rfl, rfl, rfl, by simp [numsT, h1, h2, h3]⟩
theorem nums3_no {i s t : List UInt8} (h : (numsT [i, s, t]).isSome = false) : numT i = none ∨ numT s = none ∨ numT t = none := by
  cases h1 : numT i with
  | none => exact .inl rfl
  | some a =>
    cases h2 : numT s with
    | none => exact .inr (.inl rfl)
    | some b =>
      cases h3 : numT t with
      | none => exact .inr (.inr rfl)
      | some c => simp [numsT, h1, h2, h3] at h
theorem head_e {l s a b c : List UInt8} (hw : spl 32 l = [s, a, b, c]) (h : s = []) : headV l = none := by rw [head_4 hw, if_pos h]
theorem head_n {l s a b c : List UInt8} (hw : spl 32 l = [s, a, b, c]) (h : numT a = none ∨ numT b = none ∨ numT c = none) : headV l = none := by
  rw [head_4 hw]
  split
  · rfl
  · split
    · rename_i x y z h1 h2 h3
      rcases h with h | h | h
      · rw [h1] at h; cases h
      · rw [h2] at h; cases h
      · rw [h3] at h; cases h
    · rfl
theorem head_y {l s a b c : List UInt8} {x y z : Nat} (hw : spl 32 l = [s, a, b, c]) (h : ¬ s = []) (h1 : numT a = some x) (h2 : numT b = some y) (h3 : numT c = some z) : headV l = some ⟨strL s, (x : Int), (y : Int), (z : Int), []⟩ := by
  rw [head_4 hw, if_neg h, h1, h2, h3]
theorem used_e {l a b t : List UInt8} (hw : spk 32 2 l = [a, b, t]) (h : t = []) : usedV l = none := by rw [used_3 hw, if_pos h]
theorem used_n {l a b t : List UInt8} (hw : spk 32 2 l = [a, b, t]) (h : numT a = none ∨ numT b = none) : usedV l = none := by
  rw [used_3 hw]
  split
  · rfl
  · split
    · rename_i x y h1 h2
      rcases h with h | h
      · rw [h1] at h; cases h
      · rw [h2] at h; cases h
    · rfl
theorem used_y {l a b t : List UInt8} {x y : Nat} (hw : spk 32 2 l = [a, b, t]) (h : ¬ t = []) (h1 : numT a = some x) (h2 : numT b = some y) : usedV l = some ⟨strL t, (x : Int), (y : Int)⟩ := by
  rw [used_3 hw, if_neg h, h1, h2]

end Go.Proofs.YtcfamaddnmnaeaaGreatDoor
