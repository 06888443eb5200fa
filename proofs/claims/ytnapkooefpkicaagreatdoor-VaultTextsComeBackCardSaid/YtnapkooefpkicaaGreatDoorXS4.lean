/- Walks and laws over abstract values, merged by tools/merge.py. No statement of the seat. -/
import Derived.Lib.SlTrimSet
import Derived.Shelf.Spec.SlicesInsert
import Derived.Shelf.Spec.SlicesInsertGrow
import Derived.Test.YtnapkooefpkicaaGreatDoorXS3

namespace Go.Proofs.YtnapkooefpkicaaGreatDoor
open Go.RowKit Go.Shelf
set_option linter.unusedVariables false
set_option linter.unusedSimpArgs false

/-! ## Plainly -/
/-- Cut at the first c. -/
def ct (c : UInt8) : List UInt8 → Option (List UInt8 × List UInt8)
  | [] => none
  | b :: l => if b = c then some ([], l) else (ct c l).map fun p => (b :: p.1, p.2)
/-- Cut at each c. -/
def spl (c : UInt8) : List UInt8 → List (List UInt8)
  | [] => [[]]
  | b :: l => if b = c then [] :: spl c l else match spl c l with
    | [] => [[b]]
    | x :: r => (b :: x) :: r
theorem spl_cons (c b : UInt8) (l : List UInt8) : spl c (b :: l) = if b = c then [] :: spl c l else match spl c l with
    | [] => [[b]]
    | x :: r => (b :: x) :: r := rfl
theorem ct_cons (c b : UInt8) (l : List UInt8) : ct c (b :: l) = if b = c then some ([], l) else (ct c l).map fun p => (b :: p.1, p.2) := rfl
theorem spl_ne (c : UInt8) : ∀ l, spl c l ≠ []
  | [] => by simp [spl]
  | b :: l => by
    rw [spl_cons]
    split
    · simp
    · split <;> simp
theorem spl_ct (c : UInt8) : ∀ l, spl c l = match ct c l with | none => [l] | some p => p.1 :: spl c p.2
  | [] => rfl
  | b :: l => by
    have ih := spl_ct c l
    rw [spl_cons, ct_cons]
    by_cases h : b = c
    · rw [if_pos h, if_pos h]
    · rw [if_neg h, if_neg h, ih]
      cases ct c l with
      | none => rfl
      | some p => rfl
theorem ct_some {c : UInt8} : ∀ {l : List UInt8} {p : List UInt8 × List UInt8}, ct c l = some p → l = p.1 ++ c :: p.2
  | [], p, h => by simp [ct] at h
  | b :: l, p, h => by
    unfold ct at h
    by_cases hb : b = c
    · rw [if_pos hb] at h
      cases h
      rw [hb]; rfl
    · rw [if_neg hb] at h
      obtain ⟨q, hq, rfl⟩ := Option.map_eq_some_iff.1 h
      rw [ct_some hq]; rfl
theorem index_ct (c : UInt8) : ∀ l, Lib.index l [c] = match ct c l with | none => -1 | some p => (p.1.length : Int)
  | [] => rfl
  | b :: l => by
    have ih := index_ct c l
    unfold Lib.index ct
    by_cases h : b = c
    · subst h
      rw [if_pos (by simp [List.isPrefixOf]), if_pos rfl]; rfl
    · rw [if_neg (by simp [List.isPrefixOf, Ne.symm h]), if_neg h, ih]
      cases ct c l with
      | none => rfl
      | some p =>
        show (if ((p.1.length : Int) == -1) = true then (-1 : Int) else (p.1.length : Int) + 1) = ((p.1.length + 1 : Nat) : Int)
        rw [if_neg (by simp)]
        omega
theorem cut_ct (c : UInt8) (l : List UInt8) : Lib.cut l [c] = match ct c l with | none => (l, [], false) | some p => (p.1, p.2, true) := by
  unfold Lib.cut
  rw [index_ct]
  cases h : ct c l with
  | none => rfl
  | some p =>
    have h2 := ct_some h
    simp only
    rw [if_pos (by omega), Int.toNat_natCast]
    congr 1
    · rw [h2, List.take_left]
    · congr 1
      rw [h2]
      show List.drop (p.1.length + 1) (p.1 ++ c :: p.2) = p.2
      rw [List.drop_append]
      simp
theorem count_ct (c : UInt8) (l : List UInt8) : Lib.count l [c] = match ct c l with | none => 0 | some p => Lib.count p.2 [c] + 1 := by
  have hix := index_ct c l
  cases h : ct c l with
  | none => rw [h] at hix; exact Lib.count_miss hix
  | some p =>
    rw [h] at hix
    have h2 := ct_some h
    rw [Lib.count_hit (by simp) hix]
    have : List.drop (p.1.length + [c].length) l = p.2 := by
      rw [h2]
      show List.drop (p.1.length + 1) (p.1 ++ c :: p.2) = p.2
      rw [List.drop_append]
      simp
    rw [this]
    show _ = Lib.count p.2 [c] + 1
    omega
theorem splitK_spl (c : UInt8) : ∀ (k : Nat) (l : List UInt8), Lib.count l [c] = k → Lib.splitK [c] 0 k l = spl c l
  | 0, l, h => by
    rw [spl_ct]
    rw [count_ct] at h
    cases hc : ct c l with
    | none => rfl
    | some p => rw [hc] at h; simp at h
  | k + 1, l, h => by
    rw [spl_ct]
    have h0 := h
    rw [count_ct] at h
    have hix := index_ct c l
    cases hc : ct c l with
    | none => rw [hc] at h; simp at h
    | some p =>
      rw [hc] at h hix
      have h2 := ct_some hc
      unfold Lib.splitK
      rw [if_neg (by rw [hix]; simp), hix, Int.toNat_natCast]
      congr 1
      · rw [h2]; show List.take p.1.length _ = _; rw [List.take_left]
      · have : List.drop (p.1.length + [c].length) l = p.2 := by
          rw [h2]
          show List.drop (p.1.length + 1) (p.1 ++ c :: p.2) = p.2
          rw [List.drop_append]
          simp
        rw [this]
        exact splitK_spl c k p.2 (by simpa using h)
theorem spl_count (c : UInt8) (l : List UInt8) : (spl c l).length = Lib.count l [c] + 1 := by
  have : ∀ k l, Lib.count l [c] = k → (spl c l).length = k + 1 := by
    intro k
    induction k with
    | zero => intro l h; rw [← splitK_spl c 0 l h]; rfl
    | succ k ih =>
      intro l h
      rw [spl_ct]
      rw [count_ct] at h
      cases hc : ct c l with
      | none => rw [hc] at h; simp at h
      | some p => rw [hc] at h; rw [List.length_cons, ih p.2 (by simpa using h)]
  exact this _ l rfl
theorem spl_lens (c : UInt8) : ∀ l, ∀ x ∈ spl c l, x.length ≤ l.length
  | [], x, hx => by simp [spl] at hx; simp [hx]
  | b :: l, x, hx => by
    have ih := spl_lens c l
    unfold spl at hx
    split at hx
    · rcases List.mem_cons.1 hx with rfl | hx
      · simp
      · have := ih x hx; simp; omega
    · split at hx
      · simp at hx; simp [hx]
      · rename_i y r he
        rw [he] at ih
        rcases List.mem_cons.1 hx with rfl | hx
        · have := ih y (by simp); simp; omega
        · have := ih x (by simp [hx]); simp; omega
theorem spl_length_le (c : UInt8) : ∀ l, (spl c l).length ≤ l.length + 1
  | [] => by simp [spl]
  | b :: l => by
    have ih := spl_length_le c l
    unfold spl
    split
    · simp; omega
    · split
      · simp
      · rename_i y r he
        rw [he] at ih
        simp at ih ⊢; omega
/-- All bytes are among cs. -/
theorem dropW_nil {p : UInt8 → Bool} : ∀ {l : List UInt8}, l.dropWhile p = [] ↔ l.all p = true
  | [] => by simp
  | b :: l => by
    rw [List.dropWhile_cons]
    cases h : p b with
    | true => simp [h, dropW_nil (l := l)]
    | false => simp [h]
theorem dropW_hd {p : UInt8 → Bool} : ∀ {l : List UInt8} {x : UInt8} {t : List UInt8}, l.dropWhile p = x :: t → p x = false
  | [], x, t, h => by simp at h
  | b :: l, x, t, h => by
    rw [List.dropWhile_cons] at h
    cases hb : p b with
    | true => rw [hb] at h; exact dropW_hd (by simpa using h)
    | false =>
      rw [hb] at h
      simp at h
      rw [← h.1]; exact hb
theorem trimS_nil (l cs : List UInt8) : Lib.trimS l cs = [] ↔ l.all (cs.contains ·) = true := by
  unfold Lib.trimS Lib.trimLeftS Lib.trimRightS
  rw [dropW_nil]
  constructor
  · intro h
    cases hd : l.reverse.dropWhile (cs.contains ·) with
    | nil => rw [dropW_nil, List.all_reverse] at hd; exact hd
    | cons x t =>
      have h1 := dropW_hd hd
      rw [hd, List.all_reverse] at h
      simp only [List.all_cons, Bool.and_eq_true] at h
      rw [h.1] at h1
      simp at h1
  · intro h
    rw [List.all_reverse, dropW_nil.2 (by rw [List.all_reverse]; exact h)]; rfl
/-! ## The world's facts -/
/-- The library's variable holds some number. -/
def MaxT (w : World) : Prop := ∃ m, w.cell? ⟨Tryz.l145_ren.g 1, 0, none⟩ = some (.int .i64 m)
theorem maxT_stays : Stays MaxT := fun w w' k ⟨m, hm⟩ => by
  refine ⟨m, ?_⟩
  have hlt := World.block_lt_of_cell? _ _ hm
  dsimp only at hlt
  rw [World.cell?_of_block (k.block _ hlt (fun h => by have h2 : w.heap.size ≤ Tryz.l145_ren.g 1 := h; omega))]
  exact hm
theorem ACallT.imp {P : Program} {T T' : World → Prop} {f : FuncId} {ds : List D} {d : D} (h : ACallT P T f ds d) (hi : ∀ w, T' w → T w) : ACallT P T' f ds d := ⟨h.1, fun F w vs hT => h.2 F w vs (hi w hT)⟩
theorem ACall.toT {P : Program} {T : World → Prop} {f : FuncId} {ds : List D} {d : D} (h : ACall P f ds d) : ACallT P T f ds d := ⟨h.1, fun F w vs _ => h.2 F w vs⟩
/-! ## The contracts -/
def pcD (l : List UInt8) : List D := [.v (.string (strL l))]
theorem below_drewN (w : World) (n : Nat) : Below w.heap.size w (w.drewN n) := ⟨rfl, rfl, rfl, Nat.le_refl _, fun _ _ => rfl⟩
theorem c_cut (s : ByteArray) (c : UInt8) (hs : s.size < 4294967281) : ACallT Tryz.prog MaxT 11 [.v (.string s), .v (.string ⟨#[c]⟩)]
    (.tup [.v (.string (strL (Lib.cut s.data.toList [c]).1)), .v (.string (strL (Lib.cut s.data.toList [c]).2.1)), .v (.bool (Lib.cut s.data.toList [c]).2.2)]) :=
  ⟨.of Tryz.func11 (by kernel_rfl) rfl, fun F w vs hT hF hv => by
    rw [repL_v (us := [.string s, .string ⟨#[c]⟩]) hv]
    obtain ⟨m, hm⟩ := hT
    have h := Any.strings_Cut Tryz.l145 s ⟨#[c]⟩ m w hs hm
    change Calls Tryz.prog 11 #[.string s, .string ⟨#[c]⟩] w _ at h
    refine h.mono fun e w' ⟨h1, n, h2⟩ => ?_
    subst h2
    exact ⟨_, F, h1, .tup [_, _, _] [_, _, _] rfl (fun i h1 h2 => by
      match i, h1 with
      | 0, _ => exact .v _
      | 1, _ => exact .v _
      | 2, _ => exact .v _), Ext.of_below hF (below_drewN w n)⟩⟩
theorem c_cutP (s p : ByteArray) : ACall Tryz.prog 34 [.v (.string s), .v (.string p)] (.tup [.v (.string (strL (Lib.trimPrefix s.data.toList p.data.toList))), .v (.bool (Lib.hasPrefix s.data.toList p.data.toList))]) :=
  ⟨.of Tryz.func34 (by kernel_rfl) rfl, fun F w vs hF hv => by
    rw [repL_v (us := [.string s, .string p]) hv]
    have h := Any.strings_CutPrefix Tryz.l103 s p w
    change Calls Tryz.prog 34 #[.string s, .string p] w _ at h
    refine h.mono fun e w' ⟨h1, h2⟩ => ?_
    subst h2
    exact ⟨_, F, h1, .tup [_, _] [_, _] rfl (fun i h1 h2 => by
      match i, h1 with
      | 0, _ => exact .v _
      | 1, _ => exact .v _), Ext.refl hF⟩⟩
theorem c_ixB (s : ByteArray) (c : UInt8) : ACall Tryz.prog 49 [.v (.string s), .v (.int .u8 (c.toNat : Int))] (.v (.int .i64 (Lib.indexByte s.data.toList c))) :=
  acall_exact (us := [_, _]) (.of Tryz.func49 (by kernel_rfl) rfl) fun w => by
    have h := Any.strings_IndexByte Tryz.l137 s (c.toNat : Int) w
    change Calls Tryz.prog 49 #[.string s, .int .u8 (c.toNat : Int)] w _ at h
    refine h.mono fun _ _ ⟨h1, h2⟩ => ⟨?_, h2 ▸ Below.refl _ _⟩
    rw [h1]
    simp
def dig10 : ByteArray := ⟨#[48, 49, 50, 51, 52, 53, 54, 55, 56, 57]⟩
theorem c_trimD (s : ByteArray) (hl : s.size ≤ 9223372036854775807) : ACall Tryz.prog 47 [.v (.string s), .v (.string dig10)] (.v (.string (strL (Lib.trimS s.data.toList dig10.data.toList)))) :=
  acall_exact (us := [_, _]) (.of Tryz.func47 (by kernel_rfl) rfl) fun w => by
    have h := Any.strings_Trim_laid Tryz.l160 (by kernel_rfl) s dig10 w hl (by decide) (by
      intro j b hb
      have : ∀ b ∈ dig10.data.toList, b.toNat < 128 := by decide
      exact this b (List.mem_of_getElem? hb))
    change Calls Tryz.prog 47 #[.string s, .string dig10] w _ at h
    exact h
theorem splitB_strL (c : UInt8) (s : ByteArray) : Lib.splitB ⟨#[c]⟩ 0 (Lib.countB s ⟨#[c]⟩) s = (spl c s.data.toList).map strL := by
  have h := Lib.splitB_data ⟨#[c]⟩ 0 (Lib.countB s ⟨#[c]⟩) s
  have h2 : Lib.splitK [c] 0 (Lib.countB s ⟨#[c]⟩) s.data.toList = spl c s.data.toList := splitK_spl c _ _ rfl
  have h3 := h.trans h2
  rw [← h3, List.map_map]
  have : (strL ∘ fun x : ByteArray => x.data.toList) = id := by funext x; cases x; rfl
  rw [this, List.map_id]
theorem c_split (s : ByteArray) (c : UInt8) (hs : s.size < 4294967281) : ACallT Tryz.prog MaxT 26 [.v (.string s), .v (.string ⟨#[c]⟩)] (.sl ((spl c s.data.toList).map pcD)) :=
  ⟨.of Tryz.func26 (by kernel_rfl) rfl, fun F w vs hT hF hv => by
    rw [repL_v (us := [.string s, .string ⟨#[c]⟩]) hv]
    obtain ⟨m, hm⟩ := hT
    have h := Any.strings_Split Tryz.l146 (by kernel_rfl) s ⟨#[c]⟩ m w hs hm (Nat.le_refl 1)
    change Calls Tryz.prog 26 #[.string s, .string ⟨#[c]⟩] w _ at h
    rw [splitB_strL] at h
    refine h.mono fun e w' ⟨h1, h2⟩ => ?_
    subst h2
    have hl : (spl c s.data.toList).length = Lib.countB s ⟨#[c]⟩ + 1 := spl_count c _
    have hll : ((spl c s.data.toList).map pcD).length = Lib.countB s ⟨#[c]⟩ + 1 := by rw [List.length_map, hl]
    have hsz : Lib.countB s ⟨#[c]⟩ ≤ s.size := by
      have := spl_length_le c s.data.toList
      rw [hl, ← Lib.size_eq] at this
      omega
    refine ⟨_, fun b => F b ∨ b = w.heap.size, h1, ?_, fun b hb => .inl hb, fun b hb => ?_, fun b hb => ?_, (Below.refl _ w).alloc (Nat.le_refl _) _⟩
    · have := Rep.sl (F := fun b => F b ∨ b = w.heap.size) (w := w.alloc (.cells (List.map Value.string (List.map strL (spl c s.data.toList))).toArray (Tryz.l146_ren.t 9))) ⟨w.heap.size, 0, none⟩ (Lib.countB s ⟨#[c]⟩ + 1) 1 ((spl c s.data.toList).map pcD) (fun i _ => .string (strL ((spl c s.data.toList).getD i [])))
        (by omega) (by omega) (fun _ => .inr rfl) (fun i hi => by simp [pcD]) (fun i j hi hj => ?_) (fun i j _ _ => rfl) (fun i hi j hj => ?_)
      · rw [hll] at this; exact this
      · have hj0 : j = 0 := by omega
        subst hj0
        have hi' : i < (spl c s.data.toList).length := by simpa using hi
        have := cell_of_row (w.alloc (.cells (List.map Value.string (List.map strL (spl c s.data.toList))).toArray (Tryz.l146_ren.t 9))) w.heap.size i _ _ _ (by simpa using heap_alloc_new w _)
        rw [show (⟨w.heap.size, 0, none⟩ : Addr).add (i * 1 + 0) = ⟨w.heap.size, i, none⟩ by simp [Addr.add]; intro h; exact h.symm, this]
        simp [hi', List.getD_eq_getElem?_getD]
        try omega
      · have hj0 : j = 0 := by simp [pcD] at hj; omega
        subst hj0
        have hi' : i < (spl c s.data.toList).length := by simpa using hi
        simp only [List.getElem_map, pcD, List.getElem_cons_zero]
        rw [List.getD_eq_getElem?_getD, List.getElem?_eq_getElem hi']
        exact .v _
    · rcases hb with hb | rfl
      · exact .inl hb
      · exact .inr (Nat.le_refl _)
    · rcases hb with hb | rfl
      · have := hF b hb; simp; omega
      · simp⟩
theorem below_bytesW (w : World) (e : TypeId) (s : ByteArray) : Below w.heap.size w (Lib.bytesWorld w e s) := ⟨rfl, rfl, rfl, by rw [Lib.bytesWorld_size]; omega, fun j hj => Lib.bytesWorld_at_old w e s j hj⟩
theorem c_atoi (s : ByteArray) (n : Int) (hl : s.size ≤ 18) (h : Lib.atoi s.data.toList = some n) : ACall Tryz.prog 48 [.v (.string s)] (.tup [.v (.int .i64 n), .v .nilIface]) :=
  ⟨.of Tryz.func48 (by kernel_rfl) rfl, fun F w vs hF hv => by
    rw [repL_v (us := [.string s]) hv]
    have h := Any.strconv_Atoi Tryz.l172 s n hl h w
    change Calls Tryz.prog 48 #[.string s] w _ at h
    refine h.mono fun e w' ⟨h1, t, h2⟩ => ?_
    subst h2
    exact ⟨_, F, h1, .tup [_, _] [_, _] rfl (fun i h1 h2 => by
      match i, h1 with
      | 0, _ => exact .v _
      | 1, _ => exact .v _), Ext.of_below hF (below_bytesW w _ t)⟩⟩
section
variable {P : Program} {B : Nat} {ops : Array Oper} {o : Oper} {e : Env} {σ : Obs}
/-- err == nil at a nil error. -/
theorem AOp.nilErr {t ty : TypeId} {x : Operand} {ms : Array (String × TypeId)} (ho : o.op = .binOp .eql t x (.const .nilIface) ty) (hu : P.underlying t = some (.interface ms)) (hx : e.ev x = .d (.v .nilIface)) : AOp P B ops o e σ (.d (.v (.bool true))) :=
  .bin (y := .const .nilIface) (u1 := .nilIface) (u2 := .nilIface) (u := .bool true) ho hx rfl fun w => by
    have h1 : (Op.equal t .nilIface .nilIface).run P w = .ok true w := by
      show (Op.equalIn (9999 + 1) t .nilIface .nilIface).run P w = _
      unfold Op.equalIn
      simp [run_underlying hu]
    simp [eqGuard, binOp, h1]
end
end Go.Proofs.YtnapkooefpkicaaGreatDoor


namespace Go.Proofs.YtnapkooefpkicaaGreatDoor
open Go.RowKit
set_option linter.unusedVariables false

/-! Types. -/
namespace TyVE
theorem st_9 : Tryz.prog.underlying 9 = some .string := by kernel_rfl
end TyVE
open TyVE


open Go.Lib
set_option linter.unusedSimpArgs false
/-! ## Digits, plainly -/
def hxD (b : UInt8) : Option Nat := if Lib.indexByte hexT b < 0 then none else some (Lib.indexByte hexT b).toNat
def hxV (acc : Nat) : List UInt8 → Option Nat
  | [] => some acc
  | b :: l => match hxD b with
    | none => none
    | some d => hxV (acc * 16 + d) l
/-- A number of so many digits of base 16. -/
def unhx (l : List UInt8) (m : Nat) : Option Nat := if l.length = m then hxV 0 l else none
theorem indexByte_lt (l : List UInt8) (c : UInt8) : Lib.indexByte l c < (l.length : Int) := by
  induction l with
  | nil => unfold Lib.indexByte; simp
  | cons b l ih =>
    unfold Lib.indexByte
    rw [List.length_cons]
    split
    · omega
    · split <;> omega
theorem hxD_lt {b : UInt8} {d : Nat} (h : hxD b = some d) : d < 16 := by
  unfold hxD at h
  split at h
  · cases h
  · rename_i h1
    cases h
    have := indexByte_lt hexT b
    have h2 : (hexT.length : Int) = 16 := rfl
    omega
theorem hxV_lt : ∀ {l : List UInt8} {acc v : Nat}, hxV acc l = some v → v < (acc + 1) * 16 ^ l.length
  | [], acc, v, h => by cases h; simp
  | b :: l, acc, v, h => by
    unfold hxV at h
    split at h
    · cases h
    · rename_i d hd
      have h1 := hxV_lt h
      have h2 := hxD_lt hd
      rw [List.length_cons, Nat.pow_succ, Nat.mul_comm (16 ^ l.length) 16, ← Nat.mul_assoc]
      refine Nat.lt_of_lt_of_le h1 (Nat.mul_le_mul_right _ ?_)
      omega
theorem unhx_lt {l : List UInt8} {m v : Nat} (h : unhx l m = some v) : v < 16 ^ m := by
  unfold unhx at h
  split at h
  · rename_i hl
    have := hxV_lt h
    rw [hl] at this
    simpa using this
  · cases h
/-- A number of at most nine digits. -/
def numV (l : List UInt8) : Option Nat := if l = [] ∨ 9 < l.length ∨ (l.head? = some 48 ∧ l ≠ [48]) then none else Lib.decFrom 0 l
theorem decFrom_lt : ∀ {l : List UInt8} {acc v : Nat}, Lib.decFrom acc l = some v → v < (acc + 1) * 10 ^ l.length
  | [], acc, v, h => by cases h; simp
  | b :: l, acc, v, h => by
    simp only [Lib.decFrom] at h
    cases hd : Lib.digitVal b with
    | none => rw [hd] at h; cases h
    | some d =>
      rw [hd] at h
      have h1 := decFrom_lt h
      have h2 : d < 10 := by
        unfold Lib.digitVal at hd
        split at hd
        · cases hd; omega
        · cases hd
      rw [List.length_cons, Nat.pow_succ, Nat.mul_comm (10 ^ l.length) 10, ← Nat.mul_assoc]
      refine Nat.lt_of_lt_of_le h1 (Nat.mul_le_mul_right _ ?_)
      omega
theorem numV_lt {l : List UInt8} {v : Nat} (h : numV l = some v) : v < 1000000000 := by
  unfold numV at h
  split at h
  · cases h
  · rename_i hc
    have h1 := decFrom_lt h
    have h2 : l.length ≤ 9 := by
      rcases Nat.lt_or_ge 9 l.length with h3 | h3
      · exact absurd (.inr (.inl h3)) hc
      · exact h3
    have h3 : 10 ^ l.length ≤ 10 ^ 9 := Nat.pow_le_pow_right (by decide) h2
    have h4 : (0 + 1) * 10 ^ l.length = 10 ^ l.length := by omega
    have h5 : (10 : Nat) ^ 9 = 1000000000 := by decide
    omega
theorem dec_all : ∀ (l : List UInt8) (acc : Nat), l.all (dig10.data.toList.contains ·) = (Lib.decFrom acc l).isSome
  | [], _ => rfl
  | b :: l, acc => by
    have hb : dig10.data.toList.contains b = (Lib.digitVal b).isSome := by
      have : dig10.data.toList = [48, 49, 50, 51, 52, 53, 54, 55, 56, 57] := rfl
      rw [this]
      unfold Lib.digitVal
      by_cases h : 48 ≤ b.toNat ∧ b.toNat ≤ 57
      · rw [if_pos h]
        have : b ∈ ([48, 49, 50, 51, 52, 53, 54, 55, 56, 57] : List UInt8) := by
          have h2 : b = UInt8.ofNat b.toNat := by simp
          obtain ⟨h3, h4⟩ := h
          generalize b.toNat = n at *
          have h5 : n = 48 ∨ n = 49 ∨ n = 50 ∨ n = 51 ∨ n = 52 ∨ n = 53 ∨ n = 54 ∨ n = 55 ∨ n = 56 ∨ n = 57 := by omega
          rcases h5 with rfl | rfl | rfl | rfl | rfl | rfl | rfl | rfl | rfl | rfl <;> (rw [h2]; decide)
        simpa using this
      · rw [if_neg h]
        have : b ∉ ([48, 49, 50, 51, 52, 53, 54, 55, 56, 57] : List UInt8) := fun hm => by
          apply h
          simp only [List.mem_cons, List.not_mem_nil, or_false] at hm
          rcases hm with rfl | rfl | rfl | rfl | rfl | rfl | rfl | rfl | rfl | rfl <;> decide
        simpa using this
    simp only [List.all_cons, Lib.decFrom, hb]
    cases hd : Lib.digitVal b with
    | none => rfl
    | some d => simpa using dec_all l (acc * 10 + d)
theorem atoi_dec {l : List UInt8} {v : Nat} (h0 : l ≠ []) (h : Lib.decFrom 0 l = some v) : Lib.atoi l = some (v : Int) := by
  cases l with
  | nil => exact absurd rfl h0
  | cons b l =>
    have hd : ∃ d, Lib.digitVal b = some d := by
      simp only [Lib.decFrom] at h
      cases hb : Lib.digitVal b with
      | none => rw [hb] at h; cases h
      | some d => exact ⟨d, rfl⟩
    obtain ⟨d, hd⟩ := hd
    have hb : 48 ≤ b.toNat := by
      unfold Lib.digitVal at hd
      split at hd
      · omega
      · cases hd
    show (if (b == 45) = true then (Lib.decNat l).map fun (m : Nat) => -(m : Int) else if (b == 43) = true then (Lib.decNat l).map fun (m : Nat) => (m : Int) else (Lib.decNat (b :: l)).map fun (m : Nat) => (m : Int)) = _
    have h1 : ¬ (b == 45) = true := fun e => by have := eq_of_beq e; subst this; revert hb; decide
    have h2 : ¬ (b == 43) = true := fun e => by have := eq_of_beq e; subst this; revert hb; decide
    rw [if_neg h1, if_neg h2]
    unfold Lib.decNat
    rw [if_neg (by simp), h]; rfl
theorem strCons {s : ByteArray} : (s = ⟨#[]⟩) ↔ s.data.toList = [] := by
  constructor
  · intro h; rw [h]
  · intro h
    exact baEq.1 h
theorem one48 {s : ByteArray} : (s = ⟨#[48]⟩) ↔ s.data.toList = [48] := by
  constructor
  · intro h; rw [h]
  · intro h; exact baEq.1 h
theorem wrapU {n : Int} (h0 : 0 ≤ n) (h1 : n < 18446744073709551616) : IntKind.u64.wrap n = n := by rw [IntKind.wrap_u64]; omega
theorem or_low (z d : Int) (h0 : 0 ≤ z) (h1 : z * 16 < 18446744073709551616) (h2 : 0 ≤ d) (h3 : d < 16) : bits .or .u64 (z * 16) d = z * 16 + d := by go_bits2
theorem hd_at {s : ByteArray} {b : UInt8} {t : List UInt8} (h : s.data.toList = b :: t) : s.data.toList[0]? = some b := by rw [h]; rfl
section
variable {P : Program} {B : Nat} {ops : Array Oper} {o : Oper} {e : Env} {σ : Obs}
/-- a << 4 -/
theorem AOp.shl4 {t ty : TypeId} {x y : Operand} {a : Int} {k : IntKind} (ho : o.op = .binOp .shl t x y ty) (hx : e.ev x = .d (.v (.int .u64 a))) (hy : e.ev y = .d (.v (.int k 4))) (h0 : 0 ≤ a) (h1 : a * 16 < 18446744073709551616) : AOp P B ops o e σ (.d (.v (.int .u64 (a * 16)))) :=
  .bin ho hx hy fun w => by
  rw [Sem.run_bind, eqGuard_int]
  simp only [Result.andThen_ok, binOp, Op.shift]
  rw [if_neg (by decide)]
  have h2 : Min.min (Int.toNat 4) IntKind.u64.bits = 4 := by decide
  rw [h2, show (2 : Int) ^ 4 = 16 by decide, wrapU (by omega) h1]
  rfl
/-- a * 16 | d -/
theorem AOp.or16 {t ty : TypeId} {x y : Operand} {a d : Int} (ho : o.op = .binOp .or t x y ty) (hx : e.ev x = .d (.v (.int .u64 (a * 16)))) (hy : e.ev y = .d (.v (.int .u64 d))) (h0 : 0 ≤ a) (h1 : a * 16 < 18446744073709551616) (h2 : 0 ≤ d) (h3 : d < 16) : AOp P B ops o e σ (.d (.v (.int .u64 (a * 16 + d)))) := by
  rw [← or_low a d h0 h1 h2 h3]
  exact .bin ho hx hy fun w => by
    rw [Sem.run_bind, eqGuard_int]
    simp only [Result.andThen_ok, binOp]
    rfl
theorem AOp.mulU {t ty : TypeId} {x y : Operand} {a b : Int} (ho : o.op = .binOp .mul t x y ty) (hx : e.ev x = .d (.v (.int .u64 a))) (hy : e.ev y = .d (.v (.int .u64 b))) (h0 : 0 ≤ a * b) (h1 : a * b < 18446744073709551616) : AOp P B ops o e σ (.d (.v (.int .u64 (a * b)))) := by
  have := AOp.mul (P := P) (B := B) (ops := ops) (σ := σ) ho hx hy; rwa [wrapU h0 h1] at this
theorem AOp.addU {t ty : TypeId} {x y : Operand} {a b : Int} (ho : o.op = .binOp .add t x y ty) (hx : e.ev x = .d (.v (.int .u64 a))) (hy : e.ev y = .d (.v (.int .u64 b))) (h0 : 0 ≤ a + b) (h1 : a + b < 18446744073709551616) : AOp P B ops o e σ (.d (.v (.int .u64 (a + b)))) := by
  have := AOp.add (P := P) (B := B) (ops := ops) (σ := σ) ho hx hy; rwa [wrapU h0 h1] at this
theorem AOp.sub8 {t ty : TypeId} {x y : Operand} {a b : Int} (ho : o.op = .binOp .sub t x y ty) (hx : e.ev x = .d (.v (.int .u8 a))) (hy : e.ev y = .d (.v (.int .u8 b))) (h0 : 0 ≤ a - b) (h1 : a - b < 256) : AOp P B ops o e σ (.d (.v (.int .u8 (a - b)))) := by
  have := AOp.sub (P := P) (B := B) (ops := ops) (σ := σ) ho hx hy
  rwa [show IntKind.u8.wrap (a - b) = a - b by rw [IntKind.wrap_u8']; omega] at this
end
theorem cvU64 : convB Tryz.prog 3 41 .u64 = true := by kernel_rfl
theorem cv8i : convB Tryz.prog 5 3 .i64 = true := by kernel_rfl
theorem ifcE : Tryz.prog.underlying 80 = some (.interface (Tryz.prog.methodsAt 80)) := by kernel_rfl
/-- Where a reading of digits stands. -/
theorem hx_step {l : List UInt8} {k : Nat} {b : UInt8} (h : l[k]? = some b) (acc : Nat) : hxV acc (l.drop k) = match hxD b with | none => none | some d => hxV (acc * 16 + d) (l.drop (k + 1)) := by
  obtain ⟨hk, hb⟩ := List.getElem?_eq_some_iff.1 h
  rw [List.drop_eq_getElem_cons hk, hb]; rfl
theorem dec_step {l : List UInt8} {k : Nat} {b : UInt8} (h : l[k]? = some b) (acc : Nat) : Lib.decFrom acc (l.drop k) = match Lib.digitVal b with | none => none | some d => Lib.decFrom (acc * 10 + d) (l.drop (k + 1)) := by
  obtain ⟨hk, hb⟩ := List.getElem?_eq_some_iff.1 h
  rw [List.drop_eq_getElem_cons hk, hb, Lib.decFrom]
  cases Lib.digitVal b <;> rfl
theorem pow16 {k m : Nat} (h : k < m) (hm : m ≤ 16) : 16 ^ k * 16 ≤ 18446744073709551616 := by
  rw [← Nat.pow_succ]
  exact Nat.le_trans (Nat.pow_le_pow_right (by decide) (by omega : k + 1 ≤ 16)) (by decide)
theorem hxD_ix {b : UInt8} {d : Nat} (h : hxD b = some d) : Lib.indexByte hexT b = (d : Int) := by
  unfold hxD at h
  split at h
  · cases h
  · rename_i h1
    cases h
    omega
theorem c_ixH (b : UInt8) : ACall Tryz.prog 49 [.v (.string ⟨#[48, 49, 50, 51, 52, 53, 54, 55, 56, 57, 97, 98, 99, 100, 101, 102]⟩), .v (.int .u8 (b.toNat : Int))] (.v (.int .i64 (Lib.indexByte hexT b))) := c_ixB ⟨#[48, 49, 50, 51, 52, 53, 54, 55, 56, 57, 97, 98, 99, 100, 101, 102]⟩ b
theorem hxD_no {b : UInt8} (h : Lib.indexByte hexT b < 0) : hxD b = none := if_pos h
theorem hxD_yes {b : UInt8} (h : ¬ Lib.indexByte hexT b < 0) : ∃ d, hxD b = some d := ⟨_, if_neg h⟩
theorem byte_at (s : ByteArray) {k : Nat} (h : k < s.size) : ∃ b, s.data.toList[k]? = some b := by
  have : k < s.data.toList.length := by rw [← Lib.size_eq]; exact h
  exact ⟨_, List.getElem?_eq_getElem this⟩


theorem sle_u64 {a b : Int} (h : a = b) : SLe (.d (.v (.int .u64 a))) (.d (.v (.int .u64 b))) := SLe.of_eq (by rw [h])


set_option maxRecDepth 100000 in
set_option maxHeartbeats 1000000 in
theorem c_unhex (s : ByteArray) (m : Nat) (hm : m ≤ 16) (hs : s.size ≤ 9223372036854775807) : ACall Tryz.prog 28 [.v (.string s), .v (.int .i64 ((m : Nat) : Int))] (.tup [.v (.int .u64 (((unhx s.data.toList m).getD 0 : Nat) : Int)), .v (.bool (unhx s.data.toList m).isSome)]) := by
  refine acall_of (n := 31) (ds' := [.v (.int .u64 (((unhx s.data.toList m).getD 0 : Nat) : Int)), .v (.bool (unhx s.data.toList m).isSome)]) Tryz.func28 rfl (by kernel_rfl) rfl [4, 5] rfl rfl ?_
  intro B w0 F0 fr
  have hsl := Lib.size_eq s
  refine AWP.seq ?_
  refine AWP.region ?_
  refine AOps.step rfl rfl rfl (AOp.assignD rfl rfl) ?_
  refine AOps.step rfl rfl rfl (AOp.assignD rfl rfl) ?_
  refine AOps.nil ?_
  refine AWP.seq ?_
  refine AWP.seq ?_
  refine AWP.region ?_
  refine AOps.step rfl rfl rfl (AOp.moveD rfl rfl) ?_
  refine AOps.step rfl rfl rfl (AOp.lenStr rfl st_9 rfl) ?_
  refine AOps.step rfl rfl rfl (AOp.moveD rfl rfl) ?_
  refine AOps.step rfl rfl rfl (AOp.neq rfl rfl rfl) ?_
  refine AOps.nil ?_
  refine AWP.cond rfl (fun h1 => ?_) (fun h1 => ?_)
  · replace h1 := of_decide_eq_true h1
    have HR : unhx s.data.toList m = none := if_neg (by omega)
    rw [HR]
    refine AWP.seq ?_
    refine AWP.region ?_
    refine AOps.step rfl rfl rfl (AOp.assignD rfl rfl) ?_
    refine AOps.step rfl rfl rfl (AOp.assignD rfl rfl) ?_
    refine AOps.nil ?_
    refine AWP.ret ?_
    refine ⟨RetD.eq rfl ?_, RetD.eq rfl ?_, trivial⟩
    all_goals (rfl)
  · replace h1 := of_decide_eq_false h1
    have hl : s.data.toList.length = m := by omega
    have HU : unhx s.data.toList m = hxV 0 s.data.toList := if_pos hl
    refine AWP.skip ?_
    refine AWP.seq ?_
    refine AWP.region ?_
    refine AOps.step rfl rfl rfl (AOp.assignD rfl rfl) ?_
    refine AOps.nil ?_
    refine AWP.seq ?_
    refine AWP.seq ?_
    refine AWP.region ?_
    refine AOps.step rfl rfl rfl (AOp.moveD rfl rfl) ?_
    refine AOps.step rfl rfl rfl (AOp.lenStr rfl st_9 rfl) ?_
    refine AOps.step rfl rfl rfl (AOp.moveD rfl rfl) ?_
    refine AOps.nil ?_
    refine AWP.block ?_
    refine AWP.loop (G := Nat × Nat) (fun ⟨k, acc⟩ => Env.of [(15, .d (.v (.int .i64 (k : Int)))), (14, .d (.v (.int .i64 (s.size : Int)))), (0, .d (.v (.string s))), (6, .d (.v (.int .u64 (acc : Int))))]) (fun ⟨k, acc⟩ => []) (fun ⟨k, acc⟩ => k ≤ s.size ∧ acc < 16 ^ k ∧ hxV 0 s.data.toList = hxV acc (s.data.toList.drop k)) (fun ⟨k, acc⟩ => s.size - k) (0, 0) ⟨Nat.zero_le _, by decide, rfl⟩ (Sub.less ⟨(SLe.of_eq rfl), (SLe.of_eq rfl), SLe.refl _, (SLe.of_eq rfl), trivial⟩ (fun _ h => h)) ?_
    rintro ⟨k, acc⟩ hk
    dsimp only at hk
    refine AWP.seq ?_
    refine AWP.region ?_
    refine AOps.step rfl rfl rfl (AOp.lss rfl rfl rfl) ?_
    refine AOps.nil ?_
    refine AWP.seq ?_
    refine AWP.cond rfl (fun h2 => ?_) (fun h2 => ?_)
    · replace h2 := of_decide_eq_true h2
      have hlt : k < s.size := by omega
      obtain ⟨b, hb⟩ := byte_at s hlt
      have HS := hx_step hb acc
      have hp := pow16 (k := k) (m := m) (by omega) hm
      refine AWP.skip ?_
      refine AWP.seq ?_
      refine AWP.block ?_
      refine AWP.seq ?_
      refine AWP.region ?_
      refine AOps.step rfl rfl rfl (AOp.moveD rfl rfl) ?_
      refine AOps.step rfl rfl rfl (AOp.assignD rfl rfl) ?_
      refine AOps.nil ?_
      refine AWP.seq ?_
      refine AWP.region ?_
      refine AOps.step rfl rfl rfl (AOp.moveD rfl rfl) ?_
      refine AOps.step rfl rfl rfl (AOp.moveD rfl rfl) ?_
      refine AOps.step rfl rfl rfl (AOp.indexStr rfl st_9 rfl rfl k rfl hb) ?_
      refine AOps.step rfl rfl rfl (AOp.call rfl (.cons (ArgOk.rfl' rfl) (.cons (ArgOk.rfl' rfl) .nil)) (c_ixH b)) ?_
      refine AOps.step rfl rfl rfl (AOp.assignD rfl rfl) ?_
      refine AOps.nil ?_
      refine AWP.seq ?_
      refine AWP.seq ?_
      refine AWP.region ?_
      refine AOps.step rfl rfl rfl (AOp.moveD rfl rfl) ?_
      refine AOps.step rfl rfl rfl (AOp.lss rfl rfl rfl) ?_
      refine AOps.nil ?_
      refine AWP.cond rfl (fun h3 => ?_) (fun h3 => ?_)
      · replace h3 := of_decide_eq_true h3
        have HR : unhx s.data.toList m = none := by rw [HU, hk.2.2, HS, hxD_no h3]
        rw [HR]
        refine AWP.seq ?_
        refine AWP.region ?_
        refine AOps.step rfl rfl rfl (AOp.assignD rfl rfl) ?_
        refine AOps.step rfl rfl rfl (AOp.assignD rfl rfl) ?_
        refine AOps.nil ?_
        refine AWP.ret ?_
        refine ⟨RetD.eq rfl ?_, RetD.eq rfl ?_, trivial⟩
        all_goals (rfl)
      · replace h3 := of_decide_eq_false h3
        obtain ⟨d, hd⟩ := hxD_yes h3
        have hd16 := hxD_lt hd
        have hix := hxD_ix hd
        rw [hd] at HS
        have hac : acc * 16 + d < 16 ^ (k + 1) := by rw [Nat.pow_succ]; omega
        refine AWP.skip ?_
        refine AWP.region ?_
        refine AOps.step rfl rfl rfl (AOp.moveD rfl rfl) ?_
        refine AOps.step rfl rfl rfl (AOp.shl4 rfl rfl rfl (by omega) (by omega)) ?_
        refine AOps.step rfl rfl rfl (AOp.moveD rfl rfl) ?_
        refine AOps.step rfl rfl rfl (AOp.convSame rfl cvU64 rfl (wrapU64 (by omega) (by omega))) ?_
        refine AOps.step rfl rfl rfl (AOp.or16 rfl rfl rfl (by omega) (by omega) (by omega) (by omega)) ?_
        refine AOps.step rfl rfl rfl (AOp.assignD rfl rfl) ?_
        refine AOps.nil ?_
        refine AWP.region ?_
        refine AOps.step rfl rfl rfl (AOp.add64 rfl rfl rfl (by omega) (by omega)) ?_
        refine AOps.step rfl rfl rfl (AOp.moveD rfl rfl) ?_
        refine AOps.nil ?_
        refine ⟨(k + 1, acc * 16 + d), ⟨by omega, hac, by rw [hk.2.2, HS]⟩, (by dsimp only; omega), Sub.less ⟨(SLe.of_eq rfl), SLe.refl _, SLe.refl _, (sle_u64 (by rw [hix]; omega)), trivial⟩ (fun _ h => h)⟩
    · replace h2 := of_decide_eq_false h2
      obtain rfl : k = s.size := by omega
      have HR : unhx s.data.toList m = some acc := by rw [HU, hk.2.2, List.drop_eq_nil_of_le (by omega)]; rfl
      rw [HR]
      refine AWP.exit ?_
      refine AWP.seq ?_
      refine AWP.region ?_
      refine AOps.step rfl rfl rfl (AOp.moveD rfl rfl) ?_
      refine AOps.step rfl rfl rfl (AOp.assignD rfl rfl) ?_
      refine AOps.step rfl rfl rfl (AOp.assignD rfl rfl) ?_
      refine AOps.nil ?_
      refine AWP.ret ?_
      refine ⟨RetD.eq rfl ?_, RetD.eq rfl ?_, trivial⟩
      all_goals (rfl)

set_option maxRecDepth 100000 in
set_option maxHeartbeats 1000000 in
theorem c_rHex (s : ByteArray) (m : Nat) (hm : m ≤ 16) (hs : s.size ≤ 9223372036854775807) : ACall Tryz.prog 35 [.v (.string s), .v (.int .i64 ((m : Nat) : Int))] (.tup [.v (.int .u64 (((unhx s.data.toList m).getD 0 : Nat) : Int)), .v (.bool (unhx s.data.toList m).isSome)]) := by
  refine acall_of (n := 31) (ds' := [.v (.int .u64 (((unhx s.data.toList m).getD 0 : Nat) : Int)), .v (.bool (unhx s.data.toList m).isSome)]) Tryz.func35 rfl (by kernel_rfl) rfl [4, 5] rfl rfl ?_
  intro B w0 F0 fr
  have hsl := Lib.size_eq s
  refine AWP.seq ?_
  refine AWP.region ?_
  refine AOps.step rfl rfl rfl (AOp.assignD rfl rfl) ?_
  refine AOps.step rfl rfl rfl (AOp.assignD rfl rfl) ?_
  refine AOps.nil ?_
  refine AWP.seq ?_
  refine AWP.seq ?_
  refine AWP.region ?_
  refine AOps.step rfl rfl rfl (AOp.moveD rfl rfl) ?_
  refine AOps.step rfl rfl rfl (AOp.lenStr rfl st_9 rfl) ?_
  refine AOps.step rfl rfl rfl (AOp.moveD rfl rfl) ?_
  refine AOps.step rfl rfl rfl (AOp.neq rfl rfl rfl) ?_
  refine AOps.nil ?_
  refine AWP.cond rfl (fun h1 => ?_) (fun h1 => ?_)
  · replace h1 := of_decide_eq_true h1
    have HR : unhx s.data.toList m = none := if_neg (by omega)
    rw [HR]
    refine AWP.seq ?_
    refine AWP.region ?_
    refine AOps.step rfl rfl rfl (AOp.assignD rfl rfl) ?_
    refine AOps.step rfl rfl rfl (AOp.assignD rfl rfl) ?_
    refine AOps.nil ?_
    refine AWP.ret ?_
    refine ⟨RetD.eq rfl ?_, RetD.eq rfl ?_, trivial⟩
    all_goals (rfl)
  · replace h1 := of_decide_eq_false h1
    have hl : s.data.toList.length = m := by omega
    have HU : unhx s.data.toList m = hxV 0 s.data.toList := if_pos hl
    refine AWP.skip ?_
    refine AWP.seq ?_
    refine AWP.region ?_
    refine AOps.step rfl rfl rfl (AOp.assignD rfl rfl) ?_
    refine AOps.nil ?_
    refine AWP.seq ?_
    refine AWP.seq ?_
    refine AWP.region ?_
    refine AOps.step rfl rfl rfl (AOp.moveD rfl rfl) ?_
    refine AOps.step rfl rfl rfl (AOp.lenStr rfl st_9 rfl) ?_
    refine AOps.step rfl rfl rfl (AOp.moveD rfl rfl) ?_
    refine AOps.nil ?_
    refine AWP.block ?_
    refine AWP.loop (G := Nat × Nat) (fun ⟨k, acc⟩ => Env.of [(15, .d (.v (.int .i64 (k : Int)))), (14, .d (.v (.int .i64 (s.size : Int)))), (0, .d (.v (.string s))), (6, .d (.v (.int .u64 (acc : Int))))]) (fun ⟨k, acc⟩ => []) (fun ⟨k, acc⟩ => k ≤ s.size ∧ acc < 16 ^ k ∧ hxV 0 s.data.toList = hxV acc (s.data.toList.drop k)) (fun ⟨k, acc⟩ => s.size - k) (0, 0) ⟨Nat.zero_le _, by decide, rfl⟩ (Sub.less ⟨(SLe.of_eq rfl), (SLe.of_eq rfl), SLe.refl _, (SLe.of_eq rfl), trivial⟩ (fun _ h => h)) ?_
    rintro ⟨k, acc⟩ hk
    dsimp only at hk
    refine AWP.seq ?_
    refine AWP.region ?_
    refine AOps.step rfl rfl rfl (AOp.lss rfl rfl rfl) ?_
    refine AOps.nil ?_
    refine AWP.seq ?_
    refine AWP.cond rfl (fun h2 => ?_) (fun h2 => ?_)
    · replace h2 := of_decide_eq_true h2
      have hlt : k < s.size := by omega
      obtain ⟨b, hb⟩ := byte_at s hlt
      have HS := hx_step hb acc
      have hp := pow16 (k := k) (m := m) (by omega) hm
      refine AWP.skip ?_
      refine AWP.seq ?_
      refine AWP.block ?_
      refine AWP.seq ?_
      refine AWP.region ?_
      refine AOps.step rfl rfl rfl (AOp.moveD rfl rfl) ?_
      refine AOps.step rfl rfl rfl (AOp.assignD rfl rfl) ?_
      refine AOps.nil ?_
      refine AWP.seq ?_
      refine AWP.region ?_
      refine AOps.step rfl rfl rfl (AOp.moveD rfl rfl) ?_
      refine AOps.step rfl rfl rfl (AOp.moveD rfl rfl) ?_
      refine AOps.step rfl rfl rfl (AOp.indexStr rfl st_9 rfl rfl k rfl hb) ?_
      refine AOps.step rfl rfl rfl (AOp.call rfl (.cons (ArgOk.rfl' rfl) (.cons (ArgOk.rfl' rfl) .nil)) (c_ixH b)) ?_
      refine AOps.step rfl rfl rfl (AOp.assignD rfl rfl) ?_
      refine AOps.nil ?_
      refine AWP.seq ?_
      refine AWP.seq ?_
      refine AWP.region ?_
      refine AOps.step rfl rfl rfl (AOp.moveD rfl rfl) ?_
      refine AOps.step rfl rfl rfl (AOp.lss rfl rfl rfl) ?_
      refine AOps.nil ?_
      refine AWP.cond rfl (fun h3 => ?_) (fun h3 => ?_)
      · replace h3 := of_decide_eq_true h3
        have HR : unhx s.data.toList m = none := by rw [HU, hk.2.2, HS, hxD_no h3]
        rw [HR]
        refine AWP.seq ?_
        refine AWP.region ?_
        refine AOps.step rfl rfl rfl (AOp.assignD rfl rfl) ?_
        refine AOps.step rfl rfl rfl (AOp.assignD rfl rfl) ?_
        refine AOps.nil ?_
        refine AWP.ret ?_
        refine ⟨RetD.eq rfl ?_, RetD.eq rfl ?_, trivial⟩
        all_goals (rfl)
      · replace h3 := of_decide_eq_false h3
        obtain ⟨d, hd⟩ := hxD_yes h3
        have hd16 := hxD_lt hd
        have hix := hxD_ix hd
        rw [hd] at HS
        have hac : acc * 16 + d < 16 ^ (k + 1) := by rw [Nat.pow_succ]; omega
        refine AWP.skip ?_
        refine AWP.region ?_
        refine AOps.step rfl rfl rfl (AOp.moveD rfl rfl) ?_
        refine AOps.step rfl rfl rfl (AOp.mulU rfl rfl rfl (by omega) (by omega)) ?_
        refine AOps.step rfl rfl rfl (AOp.moveD rfl rfl) ?_
        refine AOps.step rfl rfl rfl (AOp.convSame rfl cvU64 rfl (wrapU64 (by omega) (by omega))) ?_
        refine AOps.step rfl rfl rfl (AOp.addU rfl rfl rfl (by omega) (by omega)) ?_
        refine AOps.step rfl rfl rfl (AOp.assignD rfl rfl) ?_
        refine AOps.nil ?_
        refine AWP.region ?_
        refine AOps.step rfl rfl rfl (AOp.add64 rfl rfl rfl (by omega) (by omega)) ?_
        refine AOps.step rfl rfl rfl (AOp.moveD rfl rfl) ?_
        refine AOps.nil ?_
        refine ⟨(k + 1, acc * 16 + d), ⟨by omega, hac, by rw [hk.2.2, HS]⟩, (by dsimp only; omega), Sub.less ⟨(SLe.of_eq rfl), SLe.refl _, SLe.refl _, (sle_u64 (by rw [hix]; omega)), trivial⟩ (fun _ h => h)⟩
    · replace h2 := of_decide_eq_false h2
      obtain rfl : k = s.size := by omega
      have HR : unhx s.data.toList m = some acc := by rw [HU, hk.2.2, List.drop_eq_nil_of_le (by omega)]; rfl
      rw [HR]
      refine AWP.exit ?_
      refine AWP.seq ?_
      refine AWP.region ?_
      refine AOps.step rfl rfl rfl (AOp.moveD rfl rfl) ?_
      refine AOps.step rfl rfl rfl (AOp.assignD rfl rfl) ?_
      refine AOps.step rfl rfl rfl (AOp.assignD rfl rfl) ?_
      refine AOps.nil ?_
      refine AWP.ret ?_
      refine ⟨RetD.eq rfl ?_, RetD.eq rfl ?_, trivial⟩
      all_goals (rfl)

set_option maxRecDepth 100000 in
set_option maxHeartbeats 1000000 in
theorem c_pNum (s : ByteArray) (hs : s.size ≤ 9223372036854775807) : ACall Tryz.prog 27 [.v (.string s)] (.tup [.v (.int .i64 (((numV s.data.toList).getD 0 : Nat) : Int)), .v (.bool (numV s.data.toList).isSome)]) := by
  refine acall_of (n := 35) (ds' := [.v (.int .i64 (((numV s.data.toList).getD 0 : Nat) : Int)), .v (.bool (numV s.data.toList).isSome)]) Tryz.func27 rfl (by kernel_rfl) rfl [2, 3] rfl rfl ?_
  intro B w0 F0 fr
  have hsl := Lib.size_eq s
  refine AWP.seq ?_
  refine AWP.region ?_
  refine AOps.step rfl rfl rfl (AOp.assignD rfl rfl) ?_
  refine AOps.step rfl rfl rfl (AOp.assignD rfl rfl) ?_
  refine AOps.nil ?_
  refine AWP.seq ?_
  refine AWP.seq ?_
  refine AWP.region ?_
  refine AOps.step rfl rfl rfl (AOp.moveD rfl rfl) ?_
  refine AOps.step rfl rfl rfl (AOp.seql rfl rfl rfl) ?_
  refine AOps.step rfl rfl rfl (AOp.moveD rfl rfl) ?_
  refine AOps.split 8 rfl (fun g1 => ?_) (fun g1 => ?_)
  · replace g1 := of_decide_eq_true g1
    have g8 := strCons.1 g1
    have HN : numV s.data.toList = none := if_pos (.inl g8)
    refine AOps.pass ⟨8, rfl, .inl ⟨_, rfl, rfl⟩⟩ rfl rfl ?_
    refine AOps.pass ⟨8, rfl, .inl ⟨_, rfl, rfl⟩⟩ rfl rfl ?_
    refine AOps.pass ⟨8, rfl, .inl ⟨_, rfl, rfl⟩⟩ rfl rfl ?_
    refine AOps.step rfl rfl rfl (AOp.pickT rfl rfl rfl) ?_
    refine AOps.step rfl rfl rfl (AOp.moveD rfl rfl) ?_
    refine AOps.pass ⟨13, rfl, .inl ⟨_, rfl, rfl⟩⟩ rfl rfl ?_
    refine AOps.pass ⟨13, rfl, .inl ⟨_, rfl, rfl⟩⟩ rfl rfl ?_
    refine AOps.pass ⟨13, rfl, .inl ⟨_, rfl, rfl⟩⟩ rfl rfl ?_
    refine AOps.step rfl rfl rfl (AOp.pickT rfl rfl rfl) ?_
    refine AOps.step rfl rfl rfl (AOp.moveD rfl rfl) ?_
    refine AOps.pass ⟨18, rfl, .inl ⟨_, rfl, rfl⟩⟩ rfl rfl ?_
    refine AOps.pass ⟨18, rfl, .inl ⟨_, rfl, rfl⟩⟩ rfl rfl ?_
    refine AOps.pass ⟨18, rfl, .inl ⟨_, rfl, rfl⟩⟩ rfl rfl ?_
    refine AOps.pass ⟨18, rfl, .inl ⟨_, rfl, rfl⟩⟩ rfl rfl ?_
    refine AOps.pass ⟨22, rfl, .inr ⟨rfl, rfl⟩⟩ rfl rfl ?_
    refine AOps.pass ⟨22, rfl, .inr ⟨rfl, rfl⟩⟩ rfl rfl ?_
    refine AOps.pass ⟨18, rfl, .inl ⟨_, rfl, rfl⟩⟩ rfl rfl ?_
    refine AOps.step rfl rfl rfl (AOp.pickT rfl rfl rfl) ?_
    refine AOps.nil ?_
    refine AWP.cond rfl (fun _ => ?_) (fun h => nomatch h)
    refine AWP.seq ?_
    refine AWP.region ?_
    refine AOps.step rfl rfl rfl (AOp.assignD rfl rfl) ?_
    refine AOps.step rfl rfl rfl (AOp.assignD rfl rfl) ?_
    refine AOps.nil ?_
    refine AWP.ret ?_
    refine ⟨RetD.eq rfl ?_, RetD.eq rfl ?_, trivial⟩
    all_goals (first | rfl | (rw [HN]; rfl))
  · replace g1 := of_decide_eq_false g1
    have hne : s.data.toList ≠ [] := fun hh => g1 (strCons.2 hh)
    refine AOps.step ⟨8, rfl, .inl ⟨_, rfl, rfl⟩⟩ rfl rfl (AOp.moveD rfl rfl) ?_
    refine AOps.step ⟨8, rfl, .inl ⟨_, rfl, rfl⟩⟩ rfl rfl (AOp.lenStr rfl st_9 rfl) ?_
    refine AOps.step ⟨8, rfl, .inl ⟨_, rfl, rfl⟩⟩ rfl rfl (AOp.gtr rfl rfl rfl) ?_
    refine AOps.step rfl rfl rfl (AOp.pickF rfl rfl rfl) ?_
    refine AOps.step rfl rfl rfl (AOp.moveD rfl rfl) ?_
    refine AOps.split 13 rfl (fun g2 => ?_) (fun g2 => ?_)
    · replace g2 := of_decide_eq_true g2
      have HN : numV s.data.toList = none := if_pos (.inr (.inl (by omega)))
      refine AOps.pass ⟨13, rfl, .inl ⟨_, rfl, rfl⟩⟩ rfl rfl ?_
      refine AOps.pass ⟨13, rfl, .inl ⟨_, rfl, rfl⟩⟩ rfl rfl ?_
      refine AOps.pass ⟨13, rfl, .inl ⟨_, rfl, rfl⟩⟩ rfl rfl ?_
      refine AOps.step rfl rfl rfl (AOp.pickT rfl rfl rfl) ?_
      refine AOps.step rfl rfl rfl (AOp.moveD rfl rfl) ?_
      refine AOps.pass ⟨18, rfl, .inl ⟨_, rfl, rfl⟩⟩ rfl rfl ?_
      refine AOps.pass ⟨18, rfl, .inl ⟨_, rfl, rfl⟩⟩ rfl rfl ?_
      refine AOps.pass ⟨18, rfl, .inl ⟨_, rfl, rfl⟩⟩ rfl rfl ?_
      refine AOps.pass ⟨18, rfl, .inl ⟨_, rfl, rfl⟩⟩ rfl rfl ?_
      refine AOps.pass ⟨22, rfl, .inr ⟨rfl, rfl⟩⟩ rfl rfl ?_
      refine AOps.pass ⟨22, rfl, .inr ⟨rfl, rfl⟩⟩ rfl rfl ?_
      refine AOps.pass ⟨18, rfl, .inl ⟨_, rfl, rfl⟩⟩ rfl rfl ?_
      refine AOps.step rfl rfl rfl (AOp.pickT rfl rfl rfl) ?_
      refine AOps.nil ?_
      refine AWP.cond rfl (fun _ => ?_) (fun h => nomatch h)
      refine AWP.seq ?_
      refine AWP.region ?_
      refine AOps.step rfl rfl rfl (AOp.assignD rfl rfl) ?_
      refine AOps.step rfl rfl rfl (AOp.assignD rfl rfl) ?_
      refine AOps.nil ?_
      refine AWP.ret ?_
      refine ⟨RetD.eq rfl ?_, RetD.eq rfl ?_, trivial⟩
      all_goals (first | rfl | (rw [HN]; rfl))
    · replace g2 := of_decide_eq_false g2
      have h9 : s.size ≤ 9 := by omega
      refine AOps.step ⟨13, rfl, .inl ⟨_, rfl, rfl⟩⟩ rfl rfl (AOp.moveD rfl rfl) ?_
      refine AOps.step ⟨13, rfl, .inl ⟨_, rfl, rfl⟩⟩ rfl rfl (AOp.call rfl (.cons (ArgOk.rfl' rfl) (.cons (ArgOk.rfl' rfl) .nil)) (c_trimD s hs)) ?_
      refine AOps.step ⟨13, rfl, .inl ⟨_, rfl, rfl⟩⟩ rfl rfl (AOp.sneq rfl rfl rfl) ?_
      refine AOps.step rfl rfl rfl (AOp.pickF rfl rfl rfl) ?_
      refine AOps.step rfl rfl rfl (AOp.moveD rfl rfl) ?_
      refine AOps.split 18 rfl (fun g3 => ?_) (fun g3 => ?_)
      · replace g3 := of_decide_eq_true g3
        have HN : numV s.data.toList = none := by
          have hd : ¬ s.data.toList.all (dig10.data.toList.contains ·) = true := fun hh => g3 (by rw [(trimS_nil _ _).2 hh]; rfl)
          rw [dec_all _ 0] at hd
          unfold numV
          split
          · rfl
          · simpa using hd
        refine AOps.pass ⟨18, rfl, .inl ⟨_, rfl, rfl⟩⟩ rfl rfl ?_
        refine AOps.pass ⟨18, rfl, .inl ⟨_, rfl, rfl⟩⟩ rfl rfl ?_
        refine AOps.pass ⟨18, rfl, .inl ⟨_, rfl, rfl⟩⟩ rfl rfl ?_
        refine AOps.pass ⟨18, rfl, .inl ⟨_, rfl, rfl⟩⟩ rfl rfl ?_
        refine AOps.pass ⟨22, rfl, .inr ⟨rfl, rfl⟩⟩ rfl rfl ?_
        refine AOps.pass ⟨22, rfl, .inr ⟨rfl, rfl⟩⟩ rfl rfl ?_
        refine AOps.pass ⟨18, rfl, .inl ⟨_, rfl, rfl⟩⟩ rfl rfl ?_
        refine AOps.step rfl rfl rfl (AOp.pickT rfl rfl rfl) ?_
        refine AOps.nil ?_
        refine AWP.cond rfl (fun _ => ?_) (fun h => nomatch h)
        refine AWP.seq ?_
        refine AWP.region ?_
        refine AOps.step rfl rfl rfl (AOp.assignD rfl rfl) ?_
        refine AOps.step rfl rfl rfl (AOp.assignD rfl rfl) ?_
        refine AOps.nil ?_
        refine AWP.ret ?_
        refine ⟨RetD.eq rfl ?_, RetD.eq rfl ?_, trivial⟩
        all_goals (first | rfl | (rw [HN]; rfl))
      · replace g3 := of_decide_eq_false g3
        have hal : s.data.toList.all (dig10.data.toList.contains ·) = true := (trimS_nil _ _).1 (by have := Decidable.not_not.1 g3; rw [strCons, strL_list] at this; exact this)
        rw [dec_all _ 0] at hal
        obtain ⟨v, hv⟩ := Option.isSome_iff_exists.1 hal
        obtain ⟨b0, t0, h0⟩ := List.exists_cons_of_ne_nil hne
        refine AOps.step ⟨18, rfl, .inl ⟨_, rfl, rfl⟩⟩ rfl rfl (AOp.moveD rfl rfl) ?_
        refine AOps.step ⟨18, rfl, .inl ⟨_, rfl, rfl⟩⟩ rfl rfl (AOp.indexStr rfl st_9 rfl rfl 0 rfl (hd_at h0)) ?_
        refine AOps.step ⟨18, rfl, .inl ⟨_, rfl, rfl⟩⟩ rfl rfl (AOp.eql rfl rfl rfl) ?_
        refine AOps.step ⟨18, rfl, .inl ⟨_, rfl, rfl⟩⟩ rfl rfl (AOp.moveD rfl rfl) ?_
        refine AOps.split 22 rfl (fun g4 => ?_) (fun g4 => ?_)
        · replace g4 := of_decide_eq_true g4
          have hb0 : b0 = 48 := by apply UInt8.toNat_inj.1; show b0.toNat = 48; omega
          refine AOps.step ⟨22, rfl, .inl ⟨_, rfl, rfl⟩⟩ rfl rfl (AOp.moveD rfl rfl) ?_
          refine AOps.step ⟨22, rfl, .inl ⟨_, rfl, rfl⟩⟩ rfl rfl (AOp.sneq rfl rfl rfl) ?_
          refine AOps.step ⟨18, rfl, .inl ⟨_, rfl, rfl⟩⟩ rfl rfl (AOp.pickT rfl rfl rfl) ?_
          refine AOps.step rfl rfl rfl (AOp.pickF rfl rfl rfl) ?_
          refine AOps.nil ?_
          refine AWP.cond rfl (fun h5 => ?_) (fun h5 => ?_)
          · replace h5 := of_decide_eq_true h5
            first | rw [HN] | (have HR : numV s.data.toList = none := if_pos (.inr (.inr ⟨by rw [h0, hb0]; rfl, fun hh => h5 (one48.2 hh)⟩)); rw [HR])
            refine AWP.seq ?_
            refine AWP.region ?_
            refine AOps.step rfl rfl rfl (AOp.assignD rfl rfl) ?_
            refine AOps.step rfl rfl rfl (AOp.assignD rfl rfl) ?_
            refine AOps.nil ?_
            refine AWP.ret ?_
            refine ⟨RetD.eq rfl ?_, RetD.eq rfl ?_, trivial⟩
            all_goals (first | rfl | (rw [HN]; rfl))
          · replace h5 := of_decide_eq_false h5
            have HR : numV s.data.toList = some v := by
              first
              | exact HN
              | (have h1 := one48.1 (Decidable.not_not.1 h5)
                 unfold numV
                 rw [if_neg, hv]
                 rintro (hh | hh | hh)
                 · exact hne hh
                 · omega
                 · exact hh.2 h1)
            rw [HR]
            refine AWP.skip ?_
            refine AWP.seq ?_
            refine AWP.region ?_
            refine AOps.step rfl rfl rfl (AOp.moveD rfl rfl) ?_
            refine AOps.step rfl rfl rfl (AOp.call rfl (.cons (ArgOk.rfl' rfl) .nil) (c_atoi s (v : Int) (by omega) (atoi_dec hne hv))) ?_
            refine AOps.step rfl rfl rfl (AOp.moveD rfl rfl) ?_
            refine AOps.step rfl rfl rfl (AOp.extract rfl rfl rfl) ?_
            refine AOps.step rfl rfl rfl (AOp.extract rfl rfl rfl) ?_
            refine AOps.step rfl rfl rfl (AOp.assignD rfl rfl) ?_
            refine AOps.step rfl rfl rfl (AOp.assignD rfl rfl) ?_
            refine AOps.nil ?_
            refine AWP.seq ?_
            refine AWP.draw (by kernel_rfl) (by kernel_rfl) ?_
            refine DRun.step rfl rfl rfl (AOp.moveD rfl rfl) ?_
            refine DRun.step rfl rfl rfl (AOp.moveD rfl rfl) ?_
            refine DRun.step rfl rfl rfl (AOp.nilErr rfl ifcE rfl) ?_
            refine DRun.step rfl rfl rfl (AOp.assignD rfl rfl) ?_
            refine DRun.step rfl rfl rfl (AOp.assignD rfl rfl) ?_
            refine DRun.nil ?_
            refine AWP.ret ?_
            refine ⟨RetD.eq rfl ?_, RetD.eq rfl ?_, trivial⟩
            all_goals (first | rfl | (rw [HN]; rfl))
        · replace g4 := of_decide_eq_false g4
          have HN : numV s.data.toList = some v := by
            unfold numV
            rw [if_neg, hv]
            rintro (hh | hh | hh)
            · exact hne hh
            · omega
            · rw [h0] at hh
              have := Option.some.inj hh.1
              rw [this] at g4
              exact g4 (by decide)
          refine AOps.pass ⟨22, rfl, .inl ⟨_, rfl, rfl⟩⟩ rfl rfl ?_
          refine AOps.pass ⟨22, rfl, .inl ⟨_, rfl, rfl⟩⟩ rfl rfl ?_
          refine AOps.step ⟨18, rfl, .inl ⟨_, rfl, rfl⟩⟩ rfl rfl (AOp.pickF rfl rfl rfl) ?_
          refine AOps.step rfl rfl rfl (AOp.pickF rfl rfl rfl) ?_
          refine AOps.nil ?_
          refine AWP.cond rfl (fun h => nomatch h) (fun _ => ?_)
          refine AWP.skip ?_
          refine AWP.seq ?_
          refine AWP.region ?_
          refine AOps.step rfl rfl rfl (AOp.moveD rfl rfl) ?_
          refine AOps.step rfl rfl rfl (AOp.call rfl (.cons (ArgOk.rfl' rfl) .nil) (c_atoi s (v : Int) (by omega) (atoi_dec hne hv))) ?_
          refine AOps.step rfl rfl rfl (AOp.moveD rfl rfl) ?_
          refine AOps.step rfl rfl rfl (AOp.extract rfl rfl rfl) ?_
          refine AOps.step rfl rfl rfl (AOp.extract rfl rfl rfl) ?_
          refine AOps.step rfl rfl rfl (AOp.assignD rfl rfl) ?_
          refine AOps.step rfl rfl rfl (AOp.assignD rfl rfl) ?_
          refine AOps.nil ?_
          refine AWP.seq ?_
          refine AWP.draw (by kernel_rfl) (by kernel_rfl) ?_
          refine DRun.step rfl rfl rfl (AOp.moveD rfl rfl) ?_
          refine DRun.step rfl rfl rfl (AOp.moveD rfl rfl) ?_
          refine DRun.step rfl rfl rfl (AOp.nilErr rfl ifcE rfl) ?_
          refine DRun.step rfl rfl rfl (AOp.assignD rfl rfl) ?_
          refine DRun.step rfl rfl rfl (AOp.assignD rfl rfl) ?_
          refine DRun.nil ?_
          refine AWP.ret ?_
          refine ⟨RetD.eq rfl ?_, RetD.eq rfl ?_, trivial⟩
          all_goals (first | rfl | (rw [HN]; rfl))

set_option maxRecDepth 100000 in
set_option maxHeartbeats 1000000 in
theorem c_whole9 (s : ByteArray) (hs : s.size ≤ 9223372036854775807) : ACall Tryz.prog 36 [.v (.string s), .v (.int .i64 9)] (.tup [.v (.int .i64 (((numV s.data.toList).getD 0 : Nat) : Int)), .v (.bool (numV s.data.toList).isSome)]) := by
  refine acall_of (n := 51) (ds' := [.v (.int .i64 (((numV s.data.toList).getD 0 : Nat) : Int)), .v (.bool (numV s.data.toList).isSome)]) Tryz.func36 rfl (by kernel_rfl) rfl [4, 5] rfl rfl ?_
  intro B w0 F0 fr
  have hsl := Lib.size_eq s
  refine AWP.seq ?_
  refine AWP.region ?_
  refine AOps.step rfl rfl rfl (AOp.assignD rfl rfl) ?_
  refine AOps.step rfl rfl rfl (AOp.assignD rfl rfl) ?_
  refine AOps.nil ?_
  refine AWP.seq ?_
  refine AWP.seq ?_
  refine AWP.region ?_
  refine AOps.step rfl rfl rfl (AOp.moveD rfl rfl) ?_
  refine AOps.step rfl rfl rfl (AOp.seql rfl rfl rfl) ?_
  refine AOps.step rfl rfl rfl (AOp.moveD rfl rfl) ?_
  refine AOps.split 10 rfl (fun g1 => ?_) (fun g1 => ?_)
  · replace g1 := of_decide_eq_true g1
    have HN : numV s.data.toList = none := if_pos (.inl (strCons.1 g1))
    refine AOps.pass ⟨10, rfl, .inl ⟨_, rfl, rfl⟩⟩ rfl rfl ?_
    refine AOps.pass ⟨10, rfl, .inl ⟨_, rfl, rfl⟩⟩ rfl rfl ?_
    refine AOps.pass ⟨10, rfl, .inl ⟨_, rfl, rfl⟩⟩ rfl rfl ?_
    refine AOps.pass ⟨10, rfl, .inl ⟨_, rfl, rfl⟩⟩ rfl rfl ?_
    refine AOps.step rfl rfl rfl (AOp.pickT rfl rfl rfl) ?_
    refine AOps.step rfl rfl rfl (AOp.moveD rfl rfl) ?_
    refine AOps.pass ⟨16, rfl, .inl ⟨_, rfl, rfl⟩⟩ rfl rfl ?_
    refine AOps.pass ⟨16, rfl, .inl ⟨_, rfl, rfl⟩⟩ rfl rfl ?_
    refine AOps.pass ⟨16, rfl, .inl ⟨_, rfl, rfl⟩⟩ rfl rfl ?_
    refine AOps.pass ⟨16, rfl, .inl ⟨_, rfl, rfl⟩⟩ rfl rfl ?_
    refine AOps.pass ⟨20, rfl, .inr ⟨rfl, rfl⟩⟩ rfl rfl ?_
    refine AOps.pass ⟨20, rfl, .inr ⟨rfl, rfl⟩⟩ rfl rfl ?_
    refine AOps.pass ⟨20, rfl, .inr ⟨rfl, rfl⟩⟩ rfl rfl ?_
    refine AOps.pass ⟨16, rfl, .inl ⟨_, rfl, rfl⟩⟩ rfl rfl ?_
    refine AOps.step rfl rfl rfl (AOp.pickT rfl rfl rfl) ?_
    refine AOps.nil ?_
    refine AWP.cond rfl (fun _ => ?_) (fun h => nomatch h)
    refine AWP.seq ?_
    refine AWP.region ?_
    refine AOps.step rfl rfl rfl (AOp.assignD rfl rfl) ?_
    refine AOps.step rfl rfl rfl (AOp.assignD rfl rfl) ?_
    refine AOps.nil ?_
    refine AWP.ret ?_
    refine ⟨RetD.eq rfl ?_, RetD.eq rfl ?_, trivial⟩
    all_goals (first | rfl | (rw [HN]; rfl))
  · replace g1 := of_decide_eq_false g1
    have hne : s.data.toList ≠ [] := fun hh => g1 (strCons.2 hh)
    refine AOps.step ⟨10, rfl, .inl ⟨_, rfl, rfl⟩⟩ rfl rfl (AOp.moveD rfl rfl) ?_
    refine AOps.step ⟨10, rfl, .inl ⟨_, rfl, rfl⟩⟩ rfl rfl (AOp.lenStr rfl st_9 rfl) ?_
    refine AOps.step ⟨10, rfl, .inl ⟨_, rfl, rfl⟩⟩ rfl rfl (AOp.moveD rfl rfl) ?_
    refine AOps.step ⟨10, rfl, .inl ⟨_, rfl, rfl⟩⟩ rfl rfl (AOp.gtr rfl rfl rfl) ?_
    refine AOps.step rfl rfl rfl (AOp.pickF rfl rfl rfl) ?_
    refine AOps.step rfl rfl rfl (AOp.moveD rfl rfl) ?_
    refine AOps.split 16 rfl (fun g2 => ?_) (fun g2 => ?_)
    · replace g2 := of_decide_eq_true g2
      have HN : numV s.data.toList = none := if_pos (.inr (.inl (by omega)))
      refine AOps.pass ⟨16, rfl, .inl ⟨_, rfl, rfl⟩⟩ rfl rfl ?_
      refine AOps.pass ⟨16, rfl, .inl ⟨_, rfl, rfl⟩⟩ rfl rfl ?_
      refine AOps.pass ⟨16, rfl, .inl ⟨_, rfl, rfl⟩⟩ rfl rfl ?_
      refine AOps.pass ⟨16, rfl, .inl ⟨_, rfl, rfl⟩⟩ rfl rfl ?_
      refine AOps.pass ⟨20, rfl, .inr ⟨rfl, rfl⟩⟩ rfl rfl ?_
      refine AOps.pass ⟨20, rfl, .inr ⟨rfl, rfl⟩⟩ rfl rfl ?_
      refine AOps.pass ⟨20, rfl, .inr ⟨rfl, rfl⟩⟩ rfl rfl ?_
      refine AOps.pass ⟨16, rfl, .inl ⟨_, rfl, rfl⟩⟩ rfl rfl ?_
      refine AOps.step rfl rfl rfl (AOp.pickT rfl rfl rfl) ?_
      refine AOps.nil ?_
      refine AWP.cond rfl (fun _ => ?_) (fun h => nomatch h)
      refine AWP.seq ?_
      refine AWP.region ?_
      refine AOps.step rfl rfl rfl (AOp.assignD rfl rfl) ?_
      refine AOps.step rfl rfl rfl (AOp.assignD rfl rfl) ?_
      refine AOps.nil ?_
      refine AWP.ret ?_
      refine ⟨RetD.eq rfl ?_, RetD.eq rfl ?_, trivial⟩
      all_goals (first | rfl | (rw [HN]; rfl))
    · replace g2 := of_decide_eq_false g2
      have h9 : s.size ≤ 9 := by omega
      obtain ⟨b0, t0, h0⟩ := List.exists_cons_of_ne_nil hne
      refine AOps.step ⟨16, rfl, .inl ⟨_, rfl, rfl⟩⟩ rfl rfl (AOp.moveD rfl rfl) ?_
      refine AOps.step ⟨16, rfl, .inl ⟨_, rfl, rfl⟩⟩ rfl rfl (AOp.lenStr rfl st_9 rfl) ?_
      refine AOps.step ⟨16, rfl, .inl ⟨_, rfl, rfl⟩⟩ rfl rfl (AOp.gtr rfl rfl rfl) ?_
      refine AOps.step ⟨16, rfl, .inl ⟨_, rfl, rfl⟩⟩ rfl rfl (AOp.moveD rfl rfl) ?_
      refine AOps.split 20 rfl (fun g3 => ?_) (fun g3 => ?_)
      · replace g3 := of_decide_eq_true g3
        have hl1 : 1 < s.size := by omega
        refine AOps.step ⟨20, rfl, .inl ⟨_, rfl, rfl⟩⟩ rfl rfl (AOp.moveD rfl rfl) ?_
        refine AOps.step ⟨20, rfl, .inl ⟨_, rfl, rfl⟩⟩ rfl rfl (AOp.indexStr rfl st_9 rfl rfl 0 rfl (hd_at h0)) ?_
        refine AOps.step ⟨20, rfl, .inl ⟨_, rfl, rfl⟩⟩ rfl rfl (AOp.eql rfl rfl rfl) ?_
        refine AOps.step ⟨16, rfl, .inl ⟨_, rfl, rfl⟩⟩ rfl rfl (AOp.pickT rfl rfl rfl) ?_
        refine AOps.step rfl rfl rfl (AOp.pickF rfl rfl rfl) ?_
        refine AOps.nil ?_
        refine AWP.cond rfl (fun h4 => ?_) (fun h4 => ?_)
        · replace h4 := of_decide_eq_true h4
          have HR : numV s.data.toList = none := by
            have hb0 : b0 = 48 := UInt8.toNat_inj.1 (show b0.toNat = 48 by omega)
            exact if_pos (.inr (.inr ⟨by rw [h0, hb0]; rfl, fun hh => by rw [hh] at hsl; simp at hsl; omega⟩))
          rw [HR]
          refine AWP.seq ?_
          refine AWP.region ?_
          refine AOps.step rfl rfl rfl (AOp.assignD rfl rfl) ?_
          refine AOps.step rfl rfl rfl (AOp.assignD rfl rfl) ?_
          refine AOps.nil ?_
          refine AWP.ret ?_
          refine ⟨RetD.eq rfl ?_, RetD.eq rfl ?_, trivial⟩
          all_goals (first | rfl | (rw [HN]; rfl))
        · replace h4 := of_decide_eq_false h4
          have HR : numV s.data.toList = Lib.decFrom 0 s.data.toList := by
            refine if_neg ?_
            rintro (hh | hh | hh)
            · exact hne hh
            · omega
            · rw [h0] at hh
              have := Option.some.inj hh.1
              rw [this] at h4
              exact h4 (by decide)
          rw [HR]
          refine AWP.skip ?_
          refine AWP.seq ?_
          refine AWP.region ?_
          refine AOps.step rfl rfl rfl (AOp.assignD rfl rfl) ?_
          refine AOps.nil ?_
          refine AWP.seq ?_
          refine AWP.seq ?_
          refine AWP.region ?_
          refine AOps.step rfl rfl rfl (AOp.moveD rfl rfl) ?_
          refine AOps.step rfl rfl rfl (AOp.lenStr rfl st_9 rfl) ?_
          refine AOps.step rfl rfl rfl (AOp.moveD rfl rfl) ?_
          refine AOps.nil ?_
          refine AWP.block ?_
          refine AWP.loop (G := Nat × Nat) (fun ⟨k, acc⟩ => Env.of [(28, .d (.v (.int .i64 (k : Int)))), (27, .d (.v (.int .i64 (s.size : Int)))), (0, .d (.v (.string s))), (6, .d (.v (.int .i64 (acc : Int))))]) (fun ⟨k, acc⟩ => []) (fun ⟨k, acc⟩ => k ≤ s.size ∧ acc < 10 ^ k ∧ Lib.decFrom 0 s.data.toList = Lib.decFrom acc (s.data.toList.drop k)) (fun ⟨k, acc⟩ => s.size - k) (0, 0) ⟨Nat.zero_le _, by decide, rfl⟩ (Sub.less ⟨(SLe.of_eq rfl), (SLe.of_eq rfl), SLe.refl _, (SLe.of_eq rfl), trivial⟩ (fun _ h => h)) ?_
          rintro ⟨k, acc⟩ hk
          dsimp only at hk
          refine AWP.seq ?_
          refine AWP.region ?_
          refine AOps.step rfl rfl rfl (AOp.lss rfl rfl rfl) ?_
          refine AOps.nil ?_
          refine AWP.seq ?_
          refine AWP.cond rfl (fun h5 => ?_) (fun h5 => ?_)
          · replace h5 := of_decide_eq_true h5
            have hlt : k < s.size := by omega
            obtain ⟨b, hb⟩ := byte_at s hlt
            have HS := dec_step hb acc
            refine AWP.skip ?_
            refine AWP.seq ?_
            refine AWP.block ?_
            refine AWP.seq ?_
            refine AWP.region ?_
            refine AOps.step rfl rfl rfl (AOp.moveD rfl rfl) ?_
            refine AOps.step rfl rfl rfl (AOp.assignD rfl rfl) ?_
            refine AOps.nil ?_
            refine AWP.seq ?_
            refine AWP.seq ?_
            refine AWP.region ?_
            refine AOps.step rfl rfl rfl (AOp.moveD rfl rfl) ?_
            refine AOps.step rfl rfl rfl (AOp.moveD rfl rfl) ?_
            refine AOps.step rfl rfl rfl (AOp.indexStr rfl st_9 rfl rfl k rfl hb) ?_
            refine AOps.step rfl rfl rfl (AOp.lss rfl rfl rfl) ?_
            refine AOps.step rfl rfl rfl (AOp.moveD rfl rfl) ?_
            refine AOps.split 35 rfl (fun g6 => ?_) (fun g6 => ?_)
            · replace g6 := of_decide_eq_true g6
              have hb48 : b.toNat < 48 := by omega
              have hd : Lib.digitVal b = none := if_neg (by omega)
              have HX : Lib.decFrom 0 s.data.toList = none := by rw [hk.2.2, HS, hd]
              rw [HX]
              refine AOps.pass ⟨35, rfl, .inl ⟨_, rfl, rfl⟩⟩ rfl rfl ?_
              refine AOps.pass ⟨35, rfl, .inl ⟨_, rfl, rfl⟩⟩ rfl rfl ?_
              refine AOps.pass ⟨35, rfl, .inl ⟨_, rfl, rfl⟩⟩ rfl rfl ?_
              refine AOps.pass ⟨35, rfl, .inl ⟨_, rfl, rfl⟩⟩ rfl rfl ?_
              refine AOps.step rfl rfl rfl (AOp.pickT rfl rfl rfl) ?_
              refine AOps.nil ?_
              refine AWP.cond rfl (fun _ => ?_) (fun h => nomatch h)
              refine AWP.seq ?_
              refine AWP.region ?_
              refine AOps.step rfl rfl rfl (AOp.assignD rfl rfl) ?_
              refine AOps.step rfl rfl rfl (AOp.assignD rfl rfl) ?_
              refine AOps.nil ?_
              refine AWP.ret ?_
              refine ⟨RetD.eq rfl ?_, RetD.eq rfl ?_, trivial⟩
              all_goals (first | rfl | (rw [HN]; rfl))
            · replace g6 := of_decide_eq_false g6
              have hb48 : 48 ≤ b.toNat := by omega
              refine AOps.step ⟨35, rfl, .inl ⟨_, rfl, rfl⟩⟩ rfl rfl (AOp.moveD rfl rfl) ?_
              refine AOps.step ⟨35, rfl, .inl ⟨_, rfl, rfl⟩⟩ rfl rfl (AOp.moveD rfl rfl) ?_
              refine AOps.step ⟨35, rfl, .inl ⟨_, rfl, rfl⟩⟩ rfl rfl (AOp.indexStr rfl st_9 rfl rfl k rfl hb) ?_
              refine AOps.step ⟨35, rfl, .inl ⟨_, rfl, rfl⟩⟩ rfl rfl (AOp.gtr rfl rfl rfl) ?_
              refine AOps.step rfl rfl rfl (AOp.pickF rfl rfl rfl) ?_
              refine AOps.nil ?_
              refine AWP.cond rfl (fun h7 => ?_) (fun h7 => ?_)
              · replace h7 := of_decide_eq_true h7
                have hb57 : 57 < b.toNat := by omega
                have hd : Lib.digitVal b = none := if_neg (by omega)
                have HX : Lib.decFrom 0 s.data.toList = none := by rw [hk.2.2, HS, hd]
                rw [HX]
                refine AWP.seq ?_
                refine AWP.region ?_
                refine AOps.step rfl rfl rfl (AOp.assignD rfl rfl) ?_
                refine AOps.step rfl rfl rfl (AOp.assignD rfl rfl) ?_
                refine AOps.nil ?_
                refine AWP.ret ?_
                refine ⟨RetD.eq rfl ?_, RetD.eq rfl ?_, trivial⟩
                all_goals (first | rfl | (rw [HN]; rfl))
              · replace h7 := of_decide_eq_false h7
                have hb57 : b.toNat ≤ 57 := by omega
                have hd : Lib.digitVal b = some (b.toNat - 48) := if_pos ⟨hb48, hb57⟩
                rw [hd] at HS
                have hac : acc * 10 + (b.toNat - 48) < 10 ^ (k + 1) := by rw [Nat.pow_succ]; omega
                have hp10 : 10 ^ k ≤ 10 ^ 9 := Nat.pow_le_pow_right (by decide) (by omega)
                have hp9 : (10 : Nat) ^ 9 = 1000000000 := by decide
                refine AWP.skip ?_
                refine AWP.region ?_
                refine AOps.step rfl rfl rfl (AOp.moveD rfl rfl) ?_
                refine AOps.step rfl rfl rfl (AOp.mul64 rfl rfl rfl (by omega) (by omega)) ?_
                refine AOps.step rfl rfl rfl (AOp.moveD rfl rfl) ?_
                refine AOps.step rfl rfl rfl (AOp.moveD rfl rfl) ?_
                refine AOps.step rfl rfl rfl (AOp.indexStr rfl st_9 rfl rfl k rfl hb) ?_
                refine AOps.step rfl rfl rfl (AOp.sub8 rfl rfl rfl (by omega) (by omega)) ?_
                refine AOps.step rfl rfl rfl (AOp.convSame rfl cv8i rfl (w64 (by omega) (by omega))) ?_
                refine AOps.step rfl rfl rfl (AOp.add64 rfl rfl rfl (by omega) (by omega)) ?_
                refine AOps.step rfl rfl rfl (AOp.assignD rfl rfl) ?_
                refine AOps.nil ?_
                refine AWP.region ?_
                refine AOps.step rfl rfl rfl (AOp.add64 rfl rfl rfl (by omega) (by omega)) ?_
                refine AOps.step rfl rfl rfl (AOp.moveD rfl rfl) ?_
                refine AOps.nil ?_
                refine ⟨(k + 1, acc * 10 + (b.toNat - 48)), ⟨by omega, hac, by rw [hk.2.2, HS]⟩, (by dsimp only; omega), Sub.less ⟨(SLe.of_eq rfl), SLe.refl _, SLe.refl _, (sle_int (by omega)), trivial⟩ (fun _ h => h)⟩
          · replace h5 := of_decide_eq_false h5
            obtain rfl : k = s.size := by omega
            have HX : Lib.decFrom 0 s.data.toList = some acc := by rw [hk.2.2, List.drop_eq_nil_of_le (by omega)]; rfl
            rw [HX]
            refine AWP.exit ?_
            refine AWP.seq ?_
            refine AWP.region ?_
            refine AOps.step rfl rfl rfl (AOp.moveD rfl rfl) ?_
            refine AOps.step rfl rfl rfl (AOp.assignD rfl rfl) ?_
            refine AOps.step rfl rfl rfl (AOp.assignD rfl rfl) ?_
            refine AOps.nil ?_
            refine AWP.ret ?_
            refine ⟨RetD.eq rfl ?_, RetD.eq rfl ?_, trivial⟩
            all_goals (first | rfl | (rw [HN]; rfl))
      · replace g3 := of_decide_eq_false g3
        have HC : ¬ (s.data.toList = [] ∨ 9 < s.data.toList.length ∨ (s.data.toList.head? = some 48 ∧ s.data.toList ≠ [48])) := by
          rintro (hh | hh | hh)
          · exact hne hh
          · omega
          · rw [h0] at hh hsl
            have ht : t0 = [] := List.eq_nil_of_length_eq_zero (by simp at hsl; omega)
            rw [ht] at hh
            exact hh.2 (by have := Option.some.inj hh.1; rw [this])
        have HR : numV s.data.toList = Lib.decFrom 0 s.data.toList := if_neg HC
        rw [HR]
        refine AOps.pass ⟨20, rfl, .inl ⟨_, rfl, rfl⟩⟩ rfl rfl ?_
        refine AOps.pass ⟨20, rfl, .inl ⟨_, rfl, rfl⟩⟩ rfl rfl ?_
        refine AOps.pass ⟨20, rfl, .inl ⟨_, rfl, rfl⟩⟩ rfl rfl ?_
        refine AOps.step ⟨16, rfl, .inl ⟨_, rfl, rfl⟩⟩ rfl rfl (AOp.pickF rfl rfl rfl) ?_
        refine AOps.step rfl rfl rfl (AOp.pickF rfl rfl rfl) ?_
        refine AOps.nil ?_
        refine AWP.cond rfl (fun h => nomatch h) (fun _ => ?_)
        refine AWP.skip ?_
        refine AWP.seq ?_
        refine AWP.region ?_
        refine AOps.step rfl rfl rfl (AOp.assignD rfl rfl) ?_
        refine AOps.nil ?_
        refine AWP.seq ?_
        refine AWP.seq ?_
        refine AWP.region ?_
        refine AOps.step rfl rfl rfl (AOp.moveD rfl rfl) ?_
        refine AOps.step rfl rfl rfl (AOp.lenStr rfl st_9 rfl) ?_
        refine AOps.step rfl rfl rfl (AOp.moveD rfl rfl) ?_
        refine AOps.nil ?_
        refine AWP.block ?_
        refine AWP.loop (G := Nat × Nat) (fun ⟨k, acc⟩ => Env.of [(28, .d (.v (.int .i64 (k : Int)))), (27, .d (.v (.int .i64 (s.size : Int)))), (0, .d (.v (.string s))), (6, .d (.v (.int .i64 (acc : Int))))]) (fun ⟨k, acc⟩ => []) (fun ⟨k, acc⟩ => k ≤ s.size ∧ acc < 10 ^ k ∧ Lib.decFrom 0 s.data.toList = Lib.decFrom acc (s.data.toList.drop k)) (fun ⟨k, acc⟩ => s.size - k) (0, 0) ⟨Nat.zero_le _, by decide, rfl⟩ (Sub.less ⟨(SLe.of_eq rfl), (SLe.of_eq rfl), SLe.refl _, (SLe.of_eq rfl), trivial⟩ (fun _ h => h)) ?_
        rintro ⟨k, acc⟩ hk
        dsimp only at hk
        refine AWP.seq ?_
        refine AWP.region ?_
        refine AOps.step rfl rfl rfl (AOp.lss rfl rfl rfl) ?_
        refine AOps.nil ?_
        refine AWP.seq ?_
        refine AWP.cond rfl (fun h8 => ?_) (fun h8 => ?_)
        · replace h8 := of_decide_eq_true h8
          have hlt : k < s.size := by omega
          obtain ⟨b, hb⟩ := byte_at s hlt
          have HS := dec_step hb acc
          refine AWP.skip ?_
          refine AWP.seq ?_
          refine AWP.block ?_
          refine AWP.seq ?_
          refine AWP.region ?_
          refine AOps.step rfl rfl rfl (AOp.moveD rfl rfl) ?_
          refine AOps.step rfl rfl rfl (AOp.assignD rfl rfl) ?_
          refine AOps.nil ?_
          refine AWP.seq ?_
          refine AWP.seq ?_
          refine AWP.region ?_
          refine AOps.step rfl rfl rfl (AOp.moveD rfl rfl) ?_
          refine AOps.step rfl rfl rfl (AOp.moveD rfl rfl) ?_
          refine AOps.step rfl rfl rfl (AOp.indexStr rfl st_9 rfl rfl k rfl hb) ?_
          refine AOps.step rfl rfl rfl (AOp.lss rfl rfl rfl) ?_
          refine AOps.step rfl rfl rfl (AOp.moveD rfl rfl) ?_
          refine AOps.split 35 rfl (fun g9 => ?_) (fun g9 => ?_)
          · replace g9 := of_decide_eq_true g9
            have hb48 : b.toNat < 48 := by omega
            have hd : Lib.digitVal b = none := if_neg (by omega)
            have HX : Lib.decFrom 0 s.data.toList = none := by rw [hk.2.2, HS, hd]
            rw [HX]
            refine AOps.pass ⟨35, rfl, .inl ⟨_, rfl, rfl⟩⟩ rfl rfl ?_
            refine AOps.pass ⟨35, rfl, .inl ⟨_, rfl, rfl⟩⟩ rfl rfl ?_
            refine AOps.pass ⟨35, rfl, .inl ⟨_, rfl, rfl⟩⟩ rfl rfl ?_
            refine AOps.pass ⟨35, rfl, .inl ⟨_, rfl, rfl⟩⟩ rfl rfl ?_
            refine AOps.step rfl rfl rfl (AOp.pickT rfl rfl rfl) ?_
            refine AOps.nil ?_
            refine AWP.cond rfl (fun _ => ?_) (fun h => nomatch h)
            refine AWP.seq ?_
            refine AWP.region ?_
            refine AOps.step rfl rfl rfl (AOp.assignD rfl rfl) ?_
            refine AOps.step rfl rfl rfl (AOp.assignD rfl rfl) ?_
            refine AOps.nil ?_
            refine AWP.ret ?_
            refine ⟨RetD.eq rfl ?_, RetD.eq rfl ?_, trivial⟩
            all_goals (first | rfl | (rw [HN]; rfl))
          · replace g9 := of_decide_eq_false g9
            have hb48 : 48 ≤ b.toNat := by omega
            refine AOps.step ⟨35, rfl, .inl ⟨_, rfl, rfl⟩⟩ rfl rfl (AOp.moveD rfl rfl) ?_
            refine AOps.step ⟨35, rfl, .inl ⟨_, rfl, rfl⟩⟩ rfl rfl (AOp.moveD rfl rfl) ?_
            refine AOps.step ⟨35, rfl, .inl ⟨_, rfl, rfl⟩⟩ rfl rfl (AOp.indexStr rfl st_9 rfl rfl k rfl hb) ?_
            refine AOps.step ⟨35, rfl, .inl ⟨_, rfl, rfl⟩⟩ rfl rfl (AOp.gtr rfl rfl rfl) ?_
            refine AOps.step rfl rfl rfl (AOp.pickF rfl rfl rfl) ?_
            refine AOps.nil ?_
            refine AWP.cond rfl (fun h10 => ?_) (fun h10 => ?_)
            · replace h10 := of_decide_eq_true h10
              have hb57 : 57 < b.toNat := by omega
              have hd : Lib.digitVal b = none := if_neg (by omega)
              have HX : Lib.decFrom 0 s.data.toList = none := by rw [hk.2.2, HS, hd]
              rw [HX]
              refine AWP.seq ?_
              refine AWP.region ?_
              refine AOps.step rfl rfl rfl (AOp.assignD rfl rfl) ?_
              refine AOps.step rfl rfl rfl (AOp.assignD rfl rfl) ?_
              refine AOps.nil ?_
              refine AWP.ret ?_
              refine ⟨RetD.eq rfl ?_, RetD.eq rfl ?_, trivial⟩
              all_goals (first | rfl | (rw [HN]; rfl))
            · replace h10 := of_decide_eq_false h10
              have hb57 : b.toNat ≤ 57 := by omega
              have hd : Lib.digitVal b = some (b.toNat - 48) := if_pos ⟨hb48, hb57⟩
              rw [hd] at HS
              have hac : acc * 10 + (b.toNat - 48) < 10 ^ (k + 1) := by rw [Nat.pow_succ]; omega
              have hp10 : 10 ^ k ≤ 10 ^ 9 := Nat.pow_le_pow_right (by decide) (by omega)
              have hp9 : (10 : Nat) ^ 9 = 1000000000 := by decide
              refine AWP.skip ?_
              refine AWP.region ?_
              refine AOps.step rfl rfl rfl (AOp.moveD rfl rfl) ?_
              refine AOps.step rfl rfl rfl (AOp.mul64 rfl rfl rfl (by omega) (by omega)) ?_
              refine AOps.step rfl rfl rfl (AOp.moveD rfl rfl) ?_
              refine AOps.step rfl rfl rfl (AOp.moveD rfl rfl) ?_
              refine AOps.step rfl rfl rfl (AOp.indexStr rfl st_9 rfl rfl k rfl hb) ?_
              refine AOps.step rfl rfl rfl (AOp.sub8 rfl rfl rfl (by omega) (by omega)) ?_
              refine AOps.step rfl rfl rfl (AOp.convSame rfl cv8i rfl (w64 (by omega) (by omega))) ?_
              refine AOps.step rfl rfl rfl (AOp.add64 rfl rfl rfl (by omega) (by omega)) ?_
              refine AOps.step rfl rfl rfl (AOp.assignD rfl rfl) ?_
              refine AOps.nil ?_
              refine AWP.region ?_
              refine AOps.step rfl rfl rfl (AOp.add64 rfl rfl rfl (by omega) (by omega)) ?_
              refine AOps.step rfl rfl rfl (AOp.moveD rfl rfl) ?_
              refine AOps.nil ?_
              refine ⟨(k + 1, acc * 10 + (b.toNat - 48)), ⟨by omega, hac, by rw [hk.2.2, HS]⟩, (by dsimp only; omega), Sub.less ⟨(SLe.of_eq rfl), SLe.refl _, SLe.refl _, (sle_int (by omega)), trivial⟩ (fun _ h => h)⟩
        · replace h8 := of_decide_eq_false h8
          obtain rfl : k = s.size := by omega
          have HX : Lib.decFrom 0 s.data.toList = some acc := by rw [hk.2.2, List.drop_eq_nil_of_le (by omega)]; rfl
          rw [HX]
          refine AWP.exit ?_
          refine AWP.seq ?_
          refine AWP.region ?_
          refine AOps.step rfl rfl rfl (AOp.moveD rfl rfl) ?_
          refine AOps.step rfl rfl rfl (AOp.assignD rfl rfl) ?_
          refine AOps.step rfl rfl rfl (AOp.assignD rfl rfl) ?_
          refine AOps.nil ?_
          refine AWP.ret ?_
          refine ⟨RetD.eq rfl ?_, RetD.eq rfl ?_, trivial⟩
          all_goals (first | rfl | (rw [HN]; rfl))

end Go.Proofs.YtnapkooefpkicaaGreatDoor


namespace Go.Proofs.YtnapkooefpkicaaGreatDoor
open Go.RowKit Go.Shelf
set_option linter.unusedVariables false

theorem setCells_turn (g : Nat) : ∀ (vs : List Value) (o : Nat) (w : World), Turn w (w.setCells g o vs) (some g)
  | [], _, _ => ⟨rfl, rfl, rfl, Nat.le_refl _, fun _ _ _ => rfl⟩
  | v :: vs, o, w => (setCell_turn w g o v).trans (setCells_turn g vs (o + 1) _)
theorem setCells_heap {g : Nat} {e : TypeId} : ∀ (vs : List Value) (o : Nat) (w : World) (cur : List Value), w.heap[g]? = some (.cells cur.toArray e (0, 0)) → o + vs.length ≤ cur.length →
    (w.setCells g o vs).heap[g]? = some (.cells (cur.take o ++ vs ++ cur.drop (o + vs.length)).toArray e (0, 0))
  | [], o, w, cur, h, _ => by simpa [World.setCells] using h
  | v :: vs, o, w, cur, h, hl => by
    simp only [List.length_cons] at hl
    have hset : (w.setCell ⟨g, o, none⟩ v).heap[g]? = some (.cells (cur.set o v).toArray e (0, 0)) := by
      unfold World.setCell
      simp [Array.getElem?_modify, h]
    rw [World.setCells, setCells_heap vs (o + 1) _ _ hset (by simp; omega)]
    congr 3
    have hn : o < cur.length := by omega
    apply List.ext_getElem?
    intro k
    rw [get3, get3]
    simp only [List.length_take, List.length_set, List.length_cons, Nat.min_eq_left (show o + 1 ≤ cur.length by omega), Nat.min_eq_left (show o ≤ cur.length by omega)]
    by_cases k1 : k < o
    · rw [if_pos (by omega), if_pos k1, List.getElem?_take, List.getElem?_take, if_pos (by omega), if_pos k1, List.getElem?_set, if_neg (by omega)]
    · by_cases k2 : k = o
      · subst k2
        rw [if_pos (by omega), if_neg (by omega), if_pos (by omega), List.getElem?_take, if_pos (by omega), List.getElem?_set, if_pos rfl, if_pos hn, Nat.sub_self]
        rfl
      · rw [if_neg (show ¬ k < o + 1 by omega), if_neg k1]
        by_cases k3 : k < o + 1 + vs.length
        · rw [if_pos k3, if_pos (by omega), show k - o = (k - (o + 1)) + 1 by omega, List.getElem?_cons_succ]
        · rw [if_neg k3, if_neg (by omega), List.getElem?_drop, List.getElem?_drop, List.getElem?_set, if_neg (by omega)]
          congr 1
          omega

/-- What Insert does with an own row. -/
structure InsEnd (B : Nat) (e : TypeId) (w : World) (v : Value) (n : Nat) (ys : List Value) (v' : Value) (w' : World) : Prop where
  own : w'.ownsRow B e 1 v' n ys
  turn : Turn w w' (blk v)
  new : ∀ g, blk v' = some g → blk v = some g ∨ w.heap.size ≤ g

theorem drew_turn (w : World) (row : Option Nat) : Turn w w.drew row := ⟨rfl, rfl, rfl, Nat.le_refl _, fun _ _ _ => rfl⟩
theorem alloc_turn (w : World) (o : Obj) (row : Option Nat) : Turn w (w.alloc o) row :=
  have h := (Below.refl w.heap.size w).alloc (Nat.le_refl _) o
  ⟨h.os, h.tape, h.output, h.size, fun k hk _ => h.block k hk⟩
theorem Turn.widen {w w' : World} {row : Option Nat} (h : Turn w w' none) : Turn w w' row := ⟨h.os, h.tape, h.output, h.size, fun k hk _ => h.block k hk (by simp)⟩
/-- A block that was not there: the world as it was is what counts. -/
theorem Turn.behind {w a b : World} {g : Nat} {row : Option Nat} (h : Turn w a row) (hg : w.heap.size ≤ g) (k : Turn a b (some g)) : Turn w b row :=
  ⟨k.os.trans h.os, k.tape.trans h.tape, k.output.trans h.output, Nat.le_trans h.size k.size, fun i hi hne => (k.block i (Nat.lt_of_lt_of_le hi h.size) (fun e => by have := Option.some.inj e; omega)).trans (h.block i hi hne)⟩

theorem ins_take {xs F : List Value} {x : Value} {i n : Nat} (hn : xs.length = n) (hi : i ≤ n) (h1 : ∀ k, k < i → F[k]? = xs[k]?) (h2 : F[i]? = some x) (h3 : ∀ k, i ≤ k → k < n → F[k + 1]? = xs[k]?) : F.take (n + 1) = xs.take i ++ [x] ++ xs.drop i := by
  apply List.ext_getElem?
  intro k
  have hL : (F.take (n + 1))[k]? = if k < n + 1 then F[k]? else none := by rw [List.getElem?_take]
  have hT : (xs.take i).length = i := by rw [List.length_take]; omega
  rw [hL, get3, hT]
  by_cases k1 : k < i
  · rw [if_pos (by omega), if_pos k1, h1 k k1, List.getElem?_take, if_pos k1]
  · rw [if_neg k1]
    by_cases k2 : k = i
    · subst k2
      rw [if_pos (by omega), if_pos (by simp), h2]
      simp
    · have hc : ¬ k < i + [x].length := by simp; omega
      rw [if_neg hc]
      by_cases k3 : k < n + 1
      · rw [if_pos k3, List.getElem?_drop]
        have := h3 (k - 1) (by omega) (by omega)
        rw [show k - 1 + 1 = k by omega] at this
        rw [this]
        congr 1
        simp
        omega
      · rw [if_neg k3, List.getElem?_eq_none (by simp; omega)]
theorem zeros_size (k : Nat) : (Builtin.zeroCells (Value.int .i64 0).cells k).size = k := by simp [Builtin.zeroCells, Value.cells]
theorem own_alloc {w : World} {B n cap : Nat} {ty : TypeId} {ys : List Value} {A : Array Value} (hB : B ≤ w.heap.size) (hn : ys.length = n) (hc : n ≤ cap) (hm : cap ≤ maxLen) (hA : A.size = cap) (hy : A.toList.take n = ys) {w' : World} (hw : w'.heap[w.heap.size]? = some (.cells A ty (0, 0))) :
    w'.ownsRow B ty 1 (.slice (some ⟨w.heap.size, 0, none⟩) n cap) n ys :=
  ⟨by omega, .inr ⟨w.heap.size, cap, A, rfl, hB, hw, hc, hm, by omega, by rw [Nat.mul_one]; exact hy⟩⟩
theorem alloc_at (w : World) (o : Obj) : (w.alloc o).heap[w.heap.size]? = some o := (MapKept.heap_alloc w o).1

theorem insert_calls {P : Program} {r : Ren} (L : Lays2.n21 P r) {B : Nat} {w : World} {v : Value} {n i vb vcap : Nat} {xs : List Value} {x : Value} {ecur : Array Value} {ety : TypeId} (hown : w.ownsRow B (r.t 3) 1 v n xs) (hxs : ∀ u ∈ xs, u.oneCell' = true) (hi : i ≤ n) (hB : B ≤ w.heap.size) (hb : (n + 1) * 8 ≤ 140737488355328)
    (hvb : w.heap[vb]? = some (.cells ecur ety (0, 0))) (hx : ecur[0]? = some x) (hx1 : x.oneCell' = true) (hne : blk v ≠ some vb) :
    Calls P (r.f 21) #[v, .int .i64 i, .slice (some ⟨vb, 0, none⟩) 1 vcap] w fun e w' => ∃ v', e = .returned v' ∧ InsEnd B (r.t 3) w v (n + 1) (xs.take i ++ [x] ++ xs.drop i) v' w' := by
  have hxl : xs.length = n := by have := hown.1; omega
  have hG : n + 1 ≤ maxLen := by unfold maxLen; omega
  have hvs : ∀ j u, [x][j]? = some u → w.cell? ⟨vb, 0 + j, none⟩ = some u := fun j u hj => by
    cases j with
    | zero =>
      have : x = u := by simpa using hj
      subst this
      rw [cell_of_row w vb (0 + 0) ecur ety (0, 0) hvb]; simpa using hx
    | succ j => simp at hj
  have h1v : ∀ u ∈ [x], u.oneCell' = true := fun u hu => by simp at hu; rw [hu]; exact hx1
  have hlen : (xs.take i ++ [x] ++ xs.drop i).length = n + 1 := by simp; omega
  rcases hown.2 with ⟨rfl, h0⟩ | ⟨g, cap, cur, rfl, hg, hh, hn, hmx, hcs, htk⟩
  · subst h0
    have hx0 : xs = [] := List.eq_nil_of_length_eq_zero hxl
    subst hx0
    have hi0 : i = 0 := by omega
    subst hi0
    refine (Any2.slices_Insert_int_end_grow L none 0 0 vb 0 1 vcap [] [x] w (by omega) (by omega) (by omega) (by omega) rfl rfl (fun _ => rfl) (fun a ha => by simp at ha) hvs h1v).mono ?_
    rintro e w' ⟨rfl, rfl⟩
    have hge := grownCap_ge w (0 + 1) 0 (r.t 3)
    have hle := grownCap_le_maxLen w (0 + 1) 0 (r.t 3) hG
    generalize grownCap w (0 + 1) 0 (r.t 3) = G at *
    refine ⟨_, rfl, own_alloc hB (by simp) hge hle ?_ ?_ (alloc_at w.drew _), (drew_turn w _).trans (alloc_turn _ _ _), fun g hg => .inr ?_⟩
    · rw [Array.size_append, zeros_size]; simp; omega
    · simp
    · simp [blk] at hg; omega
  · have hcl : cur.toList.length = cap := by rw [Array.length_toList, hcs, Nat.mul_one]
    rw [Nat.mul_one] at htk
    have hget : ∀ k, k < n → cur.toList[k]? = xs[k]? := fun k hk => by rw [← htk, List.getElem?_take, if_pos hk]
    have hcell : ∀ k, w.cell? ⟨g, k, none⟩ = cur[k]? := fun k => by rw [cell_of_row w g k cur (r.t 3) (0, 0) hh]
    have hcells : ∀ j u, xs[j]? = some u → w.cell? ⟨g, 0 + j, none⟩ = some u := fun j u hj => by
      have hjl := (List.getElem?_eq_some_iff.1 hj).1
      rw [hcell, Nat.zero_add, ← hj, ← hget j (by omega), Array.getElem?_toList]
    have hsome : ∀ j, j < cap → (w.cell? ⟨g, j, none⟩).isSome = true := fun j hj => by
      rw [hcell, Array.getElem?_eq_getElem (by omega)]; rfl
    have hfz : ∀ k, w.frozen? ⟨g, k, none⟩ = false := fun k => by unfold World.frozen?; rw [hh]; simp
    have hfv : ∀ k, w.frozen? ⟨vb, k, none⟩ = false := fun k => by unfold World.frozen?; rw [hvb]; simp
    have hmx' : cap ≤ 9223372036854775807 := by unfold maxLen at hmx; omega
    by_cases hend : i = n
    · subst hend
      have hys : xs.take i ++ [x] ++ xs.drop i = xs ++ [x] := by rw [List.take_of_length_le (by omega), List.drop_eq_nil_of_le (by omega), List.append_nil]
      rw [hys]
      by_cases hroom : i + 1 ≤ cap
      · refine (Any2.slices_Insert_int_end_room L g 0 i cap vb 0 1 vcap [x] w (by omega) hroom hmx' rfl (fun j hj => ?_) (fun j hj => hfz _) hvs h1v).mono ?_
        · exact hsome _ (by omega)
        rintro e w' ⟨rfl, rfl⟩
        have hs := setCells_heap (g := g) (e := r.t 3) [x] (0 + i) w cur.toList (by simpa using hh) (by simp; omega)
        refine ⟨_, rfl, ⟨by simp; omega, .inr ⟨g, cap, _, rfl, hg, hs, hroom, hmx, ?_, ?_⟩⟩, setCells_turn g _ _ w, fun g' hg' => .inl hg'⟩
        · simp; omega
        · rw [Nat.mul_one, ← hys]
          refine ins_take hxl (Nat.le_refl _) (fun k hk => ?_) ?_ (fun k h1 h2 => by omega)
          · rw [get3]
            simp only [List.length_take, Nat.zero_add]
            rw [if_pos (by omega), List.getElem?_take, if_pos hk, hget k hk]
          · rw [get3]
            simp only [List.length_take, Nat.zero_add]
            rw [if_neg (by omega), if_pos (by simp; omega), show i - min i cur.toList.length = 0 by omega]
            rfl
      · refine (Any2.slices_Insert_int_end_grow L (some ⟨g, 0, none⟩) i cap vb 0 1 vcap xs [x] w (by omega) hn (by omega) hb hxl rfl (fun h => by simp at h) (fun a ha j u hj => ?_) hvs h1v).mono ?_
        · have := Option.some.inj ha
          subst this
          rw [addr_add]
          exact hcells j u hj
        rintro e w' ⟨rfl, rfl⟩
        have hge := grownCap_ge w (i + 1) cap (r.t 3)
        have hle := grownCap_le_maxLen w (i + 1) cap (r.t 3) hG
        refine ⟨_, rfl, own_alloc hB (by simp; omega) hge hle ?_ ?_ (alloc_at w.drew _), (drew_turn w _).trans (alloc_turn _ _ _), fun g hg => .inr ?_⟩
        · rw [Array.size_append, zeros_size]; simp; omega
        · simp only [Array.toList_append]
          rw [List.take_append_of_le_length (by simp; omega), List.take_of_length_le (by simp; omega)]
        · simp [blk] at hg; omega
    · have hlt : i < n := by omega
      by_cases hroom : n + 1 ≤ cap
      · refine (Any2.slices_Insert_int_shift L g 0 n cap i vb 0 1 vcap xs [x] w hlt (by omega) hroom hmx' (fun h => hne (by rw [h]; rfl)) hxl rfl hcells (fun j hj => hsome _ (by omega)) (fun j hj => hfz _) hvs hxs h1v ety (r.t 3) ecur.size cur.size (by unfold World.shape?; rw [hvb]) (by unfold World.shape?; rw [hh]) (by omega) (hfv _) (hfv _)).mono ?_
        rintro e w' ⟨rfl, rfl⟩
        have hs1 := setCells_heap (g := g) (e := r.t 3) (xs.drop i) (0 + (i + 1)) w.drew cur.toList (by rw [Array.toArray_toList]; exact hh) (by simp; omega)
        have hs := setCells_heap (g := g) (e := r.t 3) [x] (0 + i) _ _ hs1 (by simp; omega)
        refine ⟨_, rfl, ⟨by simp; omega, .inr ⟨g, cap, _, rfl, hg, hs, hroom, hmx, ?_, ?_⟩⟩, ((drew_turn w _).trans (setCells_turn g _ _ _)).trans (setCells_turn g _ _ _), fun g' hg' => .inl hg'⟩
        · simp; omega
        · rw [Nat.mul_one]
          refine ins_take hxl (by omega) (fun k hk => ?_) ?_ (fun k h1 h2 => ?_)
          · rw [get3]
            simp only [List.length_take, List.length_append, List.length_drop, Nat.zero_add, hcl, hxl]
            rw [if_pos (by omega), List.getElem?_take, if_pos hk, get3]
            simp only [List.length_take, hcl]
            rw [if_pos (by omega), List.getElem?_take, if_pos (by omega), hget k (by omega)]
          · rw [get3]
            simp only [List.length_take, List.length_append, List.length_drop, Nat.zero_add, hcl, hxl]
            rw [if_neg (by omega), if_pos (by simp; omega)]
            rw [show i - min i (min (i + 1) cap + (n - i) + (cap - (i + 1 + (n - i)))) = 0 by omega]
            rfl
          · rw [get3]
            simp only [List.length_take, List.length_append, List.length_drop, Nat.zero_add, hcl, hxl, List.length_cons, List.length_nil]
            rw [if_neg (by omega), if_neg (by omega), List.getElem?_drop, get3]
            simp only [List.length_take, List.length_drop, hcl, hxl]
            rw [if_neg (by omega), if_pos (by omega), List.getElem?_drop]
            congr 1
            omega
      · refine (Any2.slices_Insert_int_grow L g 0 n cap i vb 0 1 vcap xs [x] w hlt (by omega) hn (by omega) hb hxl rfl hcells hvs hxs h1v).mono ?_
        rintro e w' ⟨rfl, rfl⟩
        have hge := grownCap_ge w (n + 1) cap (r.t 3)
        have hle := grownCap_le_maxLen w (n + 1) cap (r.t 3) hG
        generalize grownCap w (n + 1) cap (r.t 3) = G at hge hle
        have h0 := alloc_at w (.cells ((xs.take i).toArray ++ Builtin.zeroCells (Value.int .i64 0).cells (n + 1 - i) ++ Builtin.zeroCells (Value.int .i64 0).cells (G - (n + 1))) (r.t 3) (0, 0))
        generalize hA : (xs.take i).toArray ++ Builtin.zeroCells (Value.int .i64 0).cells (n + 1 - i) ++ Builtin.zeroCells (Value.int .i64 0).cells (G - (n + 1)) = A at h0
        have hAs : A.size = G := by rw [← hA]; simp only [Array.size_append, zeros_size]; simp; omega
        have hAg : ∀ k, k < i → A.toList[k]? = xs[k]? := fun k hk => by
          rw [← hA]
          simp only [Array.toList_append]
          rw [List.append_assoc, List.getElem?_append_left (by simp; omega)]
          simp only [List.getElem?_take]
          rw [if_pos hk]
        have hs1 := setCells_heap (g := w.heap.size) (e := r.t 3) [x] i (w.alloc (.cells A (r.t 3) (0, 0))).drew A.toList (by rw [Array.toArray_toList]; exact h0) (by simp; omega)
        have hs := setCells_heap (g := w.heap.size) (e := r.t 3) (xs.drop i) (i + 1) (((w.alloc (.cells A (r.t 3) (0, 0))).drew.setCells w.heap.size i [x]).drew) (A.toList.take i ++ [x] ++ A.toList.drop (i + [x].length)) hs1 (by simp; omega)
        refine ⟨_, rfl, own_alloc hB (by simp; omega) hge hle ?_ ?_ hs, ?_, fun g' hg' => .inr ?_⟩
        · simp; omega
        · refine ins_take hxl (by omega) (fun k hk => ?_) ?_ (fun k h1 h2 => ?_)
          · rw [get3]
            simp only [List.length_take, List.length_append, List.length_drop, Array.length_toList, hAs, hxl]
            rw [if_pos (by omega), List.getElem?_take, if_pos (by omega), get3]
            simp only [List.length_take, Array.length_toList, hAs]
            rw [if_pos (by omega), List.getElem?_take, if_pos hk, hAg k hk]
          · rw [get3]
            simp only [List.length_take, List.length_append, List.length_drop, Array.length_toList, hAs, hxl, List.length_cons, List.length_nil]
            rw [if_pos (by omega), List.getElem?_take, if_pos (by omega), get3]
            simp only [List.length_take, Array.length_toList, hAs]
            rw [if_neg (by omega), if_pos (by simp; omega), show i - min i G = 0 by omega]
            rfl
          · rw [get3]
            simp only [List.length_take, List.length_append, List.length_drop, Array.length_toList, hAs, hxl, List.length_cons, List.length_nil]
            rw [if_neg (by omega), if_pos (by omega), List.getElem?_drop]
            congr 1
            omega
        · have k1 := Turn.behind (alloc_turn w (.cells A (r.t 3) (0, 0)) (some g)) (Nat.le_refl _) ((drew_turn _ _).trans (setCells_turn w.heap.size [x] i _))
          exact Turn.behind k1 (Nat.le_refl _) ((drew_turn _ _).trans (setCells_turn w.heap.size (xs.drop i) (i + 1) _))
        · simp [blk] at hg'; omega
end Go.Proofs.YtnapkooefpkicaaGreatDoor


namespace Go.Proofs.YtnapkooefpkicaaGreatDoor
open Go.RowKit
set_option linter.unusedVariables false

/-- From k on each one waits for all before it but for the first b. -/
def Region.chain1B (ops : Array Oper) (b k : Nat) : Bool := Region.downB ops && Nat.ble k ops.size && Nat.ble b k && (List.range (ops.size - 1)).all fun j =>
  Nat.blt j b || (List.range ops.size).any fun m => Nat.blt j m && (Nat.ble m k || Nat.ble m (j + 1)) && Region.edge ops m j
structure Chain1 (ops : Array Oper) (b k : Nat) : Prop where
  down : Region.downB ops = true
  le : k ≤ ops.size
  bk : b ≤ k
  next : ∀ j, b ≤ j → j < ops.size - 1 → ∃ m, j < m ∧ (m ≤ k ∨ m ≤ j + 1) ∧ Region.edge ops m j = true
theorem Chain1.of {ops : Array Oper} {b k : Nat} (h : Region.chain1B ops b k = true) : Chain1 ops b k := by
  unfold Region.chain1B at h
  simp only [Bool.and_eq_true] at h
  obtain ⟨⟨⟨h1, h2⟩, h5⟩, h3⟩ := h
  refine ⟨h1, Nat.le_of_ble_eq_true h2, Nat.le_of_ble_eq_true h5, fun j hb hj => ?_⟩
  have h4 := List.all_eq_true.1 h3 j (List.mem_range.2 hj)
  rw [Bool.or_eq_true] at h4
  rcases h4 with h4 | h4
  · rw [Nat.blt_eq] at h4; omega
  · obtain ⟨m, _, hm⟩ := List.any_eq_true.1 h4
    simp only [Bool.and_eq_true, Bool.or_eq_true, Nat.blt_eq] at hm
    exact ⟨m, hm.1.1, hm.1.2.imp Nat.le_of_ble_eq_true Nat.le_of_ble_eq_true, hm.2⟩
theorem Chain1.before {ops : Array Oper} {b k : Nat} (hC : Chain1 ops b k) {listed : Array Bool} (hc : Closed ops listed) {i : Nat} (hi : i ∈ Region.ready .any ops listed) (hk : k ≤ i) : ∀ d j, b ≤ j → j + d = i → 0 < d → listed.getD j false = true := by
  obtain ⟨_, oi, hoi, hall⟩ := mem_ready.1 hi
  have hlt : i < ops.size := (Array.getElem?_eq_some_iff.1 hoi).1
  intro d
  induction d using Nat.strongRecOn with
  | ind d ih =>
    intro j hbj hj hd
    obtain ⟨m, h1, h2, h3⟩ := hC.next j hbj (by omega)
    obtain ⟨o, ho, e, he, hb, heq⟩ := Region.edge_spec h3
    by_cases hmi : m = i
    · subst hmi
      rw [hoi] at ho; cases ho
      rw [← heq]; exact hall e he hb
    · have := ih (i - m) (by omega) m (by omega) (by omega) (by omega)
      rw [← heq]; exact hc m o ho this e he hb
section
variable {P : Program} {ops : Array Oper} {Q Q0 : Exit → Act → World → Prop} {b k : Nat}
theorem wpAny_chain1 (hC : Chain1 ops b k) : ∀ (l : List Oper) (i : Nat) (listed : Array Bool) (fuel : Nat) (a : Act) (w : World), (∀ j, l[j]? = ops[i + j]?) → i + l.length = ops.size → k ≤ i → listed.size = ops.size →
    (∀ j, j < i → listed.getD j false = true) → (∀ j, i ≤ j → j < ops.size → listed.getD j true = false) → Closed ops listed → l.length ≤ fuel → wpList P ops Q l a w → wpAny P .any ops Q fuel listed a w
  | [], i, listed, fuel, a, w, hl, hsz, hk, hls, h1, h2, hc, hf, h => by
    have hr : Region.ready .any ops listed = [] := by
      refine List.eq_nil_iff_forall_not_mem.2 fun m hm => ?_
      obtain ⟨hu, o, ho, _⟩ := mem_ready.1 hm
      have hlt : m < ops.size := (Array.getElem?_eq_some_iff.1 ho).1
      have := h1 m (by simp at hsz; omega)
      rw [getD_tf (by omega) false true, hu] at this
      simp at this
    cases fuel with
    | zero => exact ⟨hr, h⟩
    | succ f => exact ⟨fun _ => h, fun m hm => by rw [hr] at hm; cases hm⟩
  | o :: l, i, listed, fuel, a, w, hl, hsz, hk, hls, h1, h2, hc, hf, h => by
    have h0 : ops[i]? = some o := by simpa using (hl 0).symm
    have hlt : i < ops.size := (Array.getElem?_eq_some_iff.1 h0).1
    have hl' : ∀ j, l[j]? = ops[i + 1 + j]? := fun j => by have := hl (j + 1); simpa [Nat.add_assoc, Nat.add_comm 1 j] using this
    have hui := h2 i (Nat.le_refl _) hlt
    have hir : i ∈ Region.ready .any ops listed := mem_ready.2 ⟨hui, o, h0, fun e he hb => h1 _ ((Region.down_spec hC.down h0).1 e he hb)⟩
    have hnext : ∀ (a' : Act) (w' : World), wpList P ops Q l a' w' → wpAny P .any ops Q (fuel - 1) (listed.setIfInBounds i true) a' w' := fun a' w' h' =>
      wpAny_chain1 hC l (i + 1) _ _ a' w' hl' (by simp at hsz; omega) (by omega) (by simp [hls]) (fun j hj => by
        by_cases hji : i = j
        · subst hji
          simp [Array.getD_eq_getD_getElem?, hls, hlt]
        · rw [getD_set_ne false hji]; exact h1 j (by omega)) (fun j hj hj2 => by rw [getD_set_ne true (by omega)]; exact h2 j (by omega) hj2) (hc.set hir) (by simp at hf; omega) h'
    obtain ⟨f, rfl⟩ : ∃ f, fuel = f + 1 := ⟨fuel - 1, by simp at hf; omega⟩
    refine ⟨fun hr => (by rw [hr] at hir; cases hir), fun m hm => ?_⟩
    obtain ⟨hu, o', ho', _⟩ := mem_ready.1 hm
    have hm2 : m = i := by
      have hmlt : m < ops.size := (Array.getElem?_eq_some_iff.1 ho').1
      rcases Nat.lt_trichotomy m i with hh | hh | hh
      · have := h1 m hh
        rw [getD_tf (by omega) false true, hu] at this
        simp at this
      · exact hh
      · have := hC.before hc hm (by omega) (m - i) i (by have := hC.bk; omega) (by omega) (by omega)
        rw [getD_tf (by omega) false true, hui] at this
        simp at this
    subst hm2
    unfold wpOp
    simp only [h0]
    unfold wpList at h
    by_cases hw : Region.wanted o (yielded ops a.tmps) = true
    · rw [if_pos hw] at h ⊢
      exact h.imp (Oper.wp_mono hnext) id
    · rw [if_neg hw] at h ⊢
      exact hnext _ _ h
theorem wpAny_split1 (hC : Chain1 ops b k) {ops0 : Array Oper} (h0 : ops0.size = k) (hpre : ∀ j, j < k → ops0[j]? = ops[j]?) (hN : ∀ a w, Q0 .normal a w → wpList P ops Q (ops.toList.drop k) a w) (hE : ∀ e a w, e ≠ .normal → Q0 e a w → Q e a w) :
    ∀ (fuel0 : Nat) (listed0 listed : Array Bool) (fuel : Nat) (a : Act) (w : World), listed0.size = k → listed.size = ops.size → (∀ j, j < k → ∀ d, listed0.getD j d = listed.getD j d) → (∀ j, k ≤ j → j < ops.size → listed.getD j true = false) →
      Closed ops listed → (∀ j, j < b → listed.getD j false = true) → fuel0 + (ops.size - k) ≤ fuel → wpAny P .any ops0 Q0 fuel0 listed0 a w → wpAny P .any ops Q fuel listed a w := by
  have hle := hC.le
  have hd0 : Region.downB ops0 = true := by
    unfold Region.downB
    refine List.all_eq_true.2 fun i hi => ?_
    have hik := List.mem_range.1 hi
    have h1 := List.all_eq_true.1 hC.down i (List.mem_range.2 (by omega))
    rw [hpre i (by omega)]
    exact h1
  have all : ∀ (fuel0 : Nat) (listed0 listed : Array Bool) (fuel : Nat) (a : Act) (w : World), listed0.size = k → listed.size = ops.size → (∀ j, j < k → ∀ d, listed0.getD j d = listed.getD j d) → (∀ j, k ≤ j → j < ops.size → listed.getD j true = false) →
      Closed ops listed → (∀ j, j < b → listed.getD j false = true) → fuel0 + (ops.size - k) ≤ fuel → wpAny P .any ops0 Q0 fuel0 listed0 a w → (∀ j, j < k → listed.getD j false = true) → wpAny P .any ops Q fuel listed a w := by
    intro fuel0 listed0 listed fuel a w hs0 hs hag hun hc hbl hf H hall
    have hr0 : Region.ready .any ops0 listed0 = [] := by
      refine List.eq_nil_iff_forall_not_mem.2 fun m hm => ?_
      obtain ⟨hu, o, ho, _⟩ := mem_ready.1 hm
      have hlt : m < ops0.size := (Array.getElem?_eq_some_iff.1 ho).1
      have h1 := hall m (by omega)
      rw [← hag m (by omega), getD_tf (by omega) false true, hu] at h1
      simp at h1
    have hQ : Q0 .normal a w := by
      cases fuel0 with
      | zero => exact H.2
      | succ f => exact H.1 hr0
    exact wpAny_chain1 hC (ops.toList.drop k) k listed fuel a w (fun j => by rw [List.getElem?_drop, Array.getElem?_toList]) (by rw [List.length_drop, Array.length_toList]; omega) (Nat.le_refl _) hs hall hun hc (by rw [List.length_drop, Array.length_toList]; omega) (hN a w hQ)
  intro fuel0
  induction fuel0 with
  | zero =>
    intro listed0 listed fuel a w hs0 hs hag hun hc hbl hf H
    refine all 0 listed0 listed fuel a w hs0 hs hag hun hc hbl hf H fun j hj => ?_
    cases hh : listed.getD j false with
    | true => rfl
    | false =>
      rw [← hag j hj, getD_tf (by omega) false true] at hh
      obtain ⟨m, _, hm⟩ := ready_least hd0 (by omega) j (by omega) hh
      rw [H.1] at hm; cases hm
  | succ fuel0 ih =>
    intro listed0 listed fuel a w hs0 hs hag hun hc hbl hf H
    by_cases hall : ∀ j, j < k → listed.getD j false = true
    · exact all _ listed0 listed fuel a w hs0 hs hag hun hc hbl hf H hall
    · simp only [Classical.not_forall] at hall
      obtain ⟨j, hj, hjn⟩ := hall
      have hju : listed.getD j true = false := by rw [getD_tf (by omega) true false]; simpa using hjn
      obtain ⟨f, rfl⟩ : ∃ f, fuel = f + 1 := ⟨fuel - 1, by omega⟩
      refine ⟨fun hr => ?_, fun m hm => ?_⟩
      · obtain ⟨m, _, hm⟩ := ready_least hC.down hs j (by omega) hju
        rw [hr] at hm; cases hm
      · obtain ⟨hu, o, ho, hdep⟩ := mem_ready.1 hm
        have hmlt : m < ops.size := (Array.getElem?_eq_some_iff.1 ho).1
        have hmk : m < k := by
          refine Nat.lt_of_not_le fun hkm => hjn ?_
          exact hC.before hc hm hkm (m - j) j (Nat.le_of_not_lt fun hh => hjn (hbl j hh)) (by omega) (by omega)
        have ho0 : ops0[m]? = some o := by rw [hpre m hmk]; exact ho
        have hm0 : m ∈ Region.ready .any ops0 listed0 := mem_ready.2 ⟨by rw [hag m hmk]; exact hu, o, ho0, fun e he hb => by
          have := (Region.down_spec hC.down ho).1 e he hb
          rw [hag _ (by omega)]; exact hdep e he hb⟩
        have h1 := H.2 m hm0
        unfold wpOp at h1 ⊢
        simp only [ho, ho0] at h1 ⊢
        rw [wanted_same (ops := ops) fun p hp => hpre _ (by have := (Region.down_spec hC.down ho).2 p hp; omega)] at h1
        have hnext : ∀ (a' : Act) (w' : World), wpAny P .any ops0 Q0 fuel0 (listed0.setIfInBounds m true) a' w' → wpAny P .any ops Q f (listed.setIfInBounds m true) a' w' := fun a' w' h' =>
          ih _ _ f a' w' (by simp [hs0]) (by simp [hs]) (fun j hj d => by
            by_cases hmj : m = j
            · subst hmj
              simp [Array.getD_eq_getD_getElem?, hs0, hs, hmk, hmlt]
            · rw [getD_set_ne d hmj, getD_set_ne d hmj]; exact hag j hj d) (fun j hj hj2 => by rw [getD_set_ne true (by omega)]; exact hun j hj hj2) (hc.set hm) (fun j hj => getD_set_true (hbl j hj)) (by omega) h'
        by_cases hw : Region.wanted o (yielded ops a.tmps) = true
        · rw [if_pos hw] at h1 ⊢
          exact h1.imp (wp_to2 hnext hE) fun h => ⟨h.1, h.2.imp fun _ => Exists.imp fun _ => hE _ _ _ (by simp)⟩
        · rw [if_neg hw] at h1 ⊢
          exact hnext _ _ h1
end

theorem put_swap (a : Act) (x y : Option Nat) (u v : Value) (h : ∀ t, x = some t → y ≠ some t) : (a.put x u).put y v = (a.put y v).put x u := by
  cases x with
  | none => rfl
  | some i =>
    cases y with
    | none => rfl
    | some j =>
      have hne : i ≠ j := fun he => h i rfl (by rw [he])
      simp only [Act.put]
      rw [Array.setIfInBounds_comm _ _ hne]
theorem eval_put_other (a : Act) (dst : Option Nat) (u : Value) (y : Operand) (h : ∀ t, y = .tmp t → dst ≠ some t) : (a.put dst u).eval y = a.eval y := Act.eval_put fun d hd hyd => h d hyd hd
theorem wp_put {P : Program} {o : Oper} {ops : Array Oper} {a : Act} {w : World} {d : Nat} {v : Value} {K K' : Act → World → Prop} {Q : Exit → Act → World → Prop} (hs : ∀ cs b, o.op ≠ .select cs b) (hl : d ∉ o.looksAt ops) (hd : o.dst ≠ some d) (hQ : ∀ e a w, e ≠ .normal → ¬ Q e a w)
    (hK : ∀ a' w', (∀ y : Operand, (∀ t, y = .tmp t → o.dst ≠ some t) → a'.eval y = a.eval y) → K (a'.put (some d) v) w' → K' a' w') (h : o.wp P (a.put (some d) v) w K Q) : o.wp P a w K' Q := by
  unfold Oper.wp at *
  rw [execOp_put (ops := ops) o hs a (some d) v (fun t ht => by cases ht; exact hl)] at h
  have sw : ∀ (b : Act) (u : Value), (b.put (some d) v).put o.dst u = (b.put o.dst u).put (some d) v := fun b u => put_swap b (some d) o.dst v u (fun t ht he => by cases ht; exact hd he)
  have ev : ∀ (u : Value) (y : Operand), (∀ t, y = .tmp t → o.dst ≠ some t) → (a.put o.dst u).eval y = a.eval y := fun u y hy => eval_put_other a o.dst u y hy
  generalize (execOp a.eval o).run P w = r at *
  cases r with
  | ok n w' =>
    cases n with
    | value u => simp only [Oper.upon] at h ⊢; rw [sw] at h; exact hK _ _ (ev u) h
    | skip => simp only [Oper.upon] at h ⊢; rw [sw] at h; exact hK _ _ (ev _) h
    | defer c =>
      simp only [Oper.upon] at h ⊢
      refine hK _ _ (fun y hy => ?_) ?_
      · rw [eval_put_other _ o.dst undef y hy]
        cases y <;> rfl
      · rw [← sw]; exact h
    | enter f args =>
      simp only [Oper.upon] at h ⊢
      refine Calls.mono h fun e w'' he => ?_
      cases e with
      | returned u => simp only at he ⊢; rw [sw] at he; exact hK _ _ (ev u) he
      | panicked c => exact absurd he (hQ _ _ _ (by simp))
      | outgrown => obtain ⟨a1, w1, h1⟩ := he; exact absurd h1 (hQ _ _ _ (by simp))
    | row r args =>
      simp only [Oper.upon] at h ⊢
      exact Rows.mono h fun u w'' he => by rw [sw] at he; exact hK _ _ (ev u) he
    | _ => simp only [Oper.upon] at h
  | halt x w' =>
    cases x <;> simp only [Oper.upon] at h ⊢ <;> first | exact absurd h (hQ _ _ _ (by simp)) | exact h
def notSelect (o : Oper) : Bool := match o.op with | .select _ _ => false | _ => true
theorem notSelect_spec {o : Oper} (h : notSelect o = true) : ∀ cs b, o.op ≠ .select cs b := fun cs b he => by unfold notSelect at h; rw [he] at h; simp at h
/-- A move that is ready may be made first. -/
theorem wpAny_move {P : Program} {ops : Array Oper} {Q : Exit → Act → World → Prop} {i d : Nat} {oi : Oper} {x : Operand} (hi : ops[i]? = some oi) (hop : oi.op = .move x) (hd : oi.dst = some d) (hg : oi.guard = none) (hsel : ∀ (j : Nat) (oj : Oper), ops[j]? = some oj → notSelect oj = true) (hQ : ∀ e a w, e ≠ .normal → ¬ Q e a w) :
    ∀ (fuel : Nat) (listed : Array Bool) (a : Act) (w : World),
      (∀ (j : Nat) (oj : Oper), ops[j]? = some oj → j ≠ i → listed.getD j true = false → (∀ e ∈ oj.after, Region.binds .any e = true → e.on ≠ i) → oi.apart ops oj = true) →
      i ∈ Region.ready .any ops listed → wpAny P .any ops Q fuel (listed.setIfInBounds i true) (a.put (some d) (a.eval x)) w → wpAny P .any ops Q (fuel + 1) listed a w := by
  have self : ∀ {fuel : Nat} {listed : Array Bool} {a : Act} {w : World}, wpAny P .any ops Q fuel (listed.setIfInBounds i true) (a.put (some d) (a.eval x)) w → wpOp P ops Q i (wpAny P .any ops Q fuel (listed.setIfInBounds i true)) a w := by
    intro fuel listed a w H
    unfold wpOp
    simp only [hi]
    have hw : Region.wanted oi (yielded ops a.tmps) = true := by simp [Region.wanted, hg]
    rw [if_pos hw]
    refine .inl ?_
    unfold Oper.wp execOp
    simp only [hop, Sem.run_pure, Oper.upon, hd]
    exact H
  intro fuel
  induction fuel with
  | zero =>
    intro listed a w _ hr H
    refine ⟨fun h => (by rw [h] at hr; cases hr), fun j hj => ?_⟩
    by_cases hji : j = i
    · subst hji; exact self H
    · have := ready_mono hj hji
      rw [H.1] at this
      cases this
  | succ fuel ih =>
    intro listed a w hfree hr H
    refine ⟨fun h => (by rw [h] at hr; cases hr), fun j hj => ?_⟩
    by_cases hji : j = i
    · subst hji; exact self H
    · have H2 := H.2 j (ready_mono hj hji)
      obtain ⟨hjun, oj, hoj, hall⟩ := mem_ready.1 hj
      have hnot : ∀ e ∈ oj.after, Region.binds .any e = true → e.on ≠ i := fun e he hb heq => by
        have h1 := hall e he hb
        have h0 := (mem_ready.1 hr).1
        rw [heq] at h1
        rcases Nat.lt_or_ge i listed.size with h' | h'
        · simp [h'] at h0 h1; rw [h0] at h1; cases h1
        · simp [Array.getElem?_eq_none h'] at h1
      obtain ⟨a1, a2, a3⟩ := Oper.apart_spec (hfree j oj hoj hji hjun hnot)
      have hdl : d ∉ oj.looksAt ops := a1 d hd
      have hdd : oj.dst ≠ some d := fun he => a2 d hd he
      have hx : ∀ t, x = .tmp t → oj.dst ≠ some t := fun t ht he => a3 t he (looks_op (by rw [hop, ht]; simp [Op.operands]))
      have next : ∀ a' w', (∀ y : Operand, (∀ t, y = .tmp t → oj.dst ≠ some t) → a'.eval y = a.eval y) → wpAny P .any ops Q fuel ((listed.setIfInBounds i true).setIfInBounds j true) (a'.put (some d) (a.eval x)) w' → wpAny P .any ops Q (fuel + 1) (listed.setIfInBounds j true) a' w' := by
        intro a' w' he h
        refine ih _ _ _ (fun k ok hk hki hun hno => ?_) (ready_mono hr (Ne.symm hji)) ?_
        · refine hfree k ok hk hki ?_ hno
          by_cases hjk : j = k
          · subst hjk; exact hjun
          · rw [getD_set_ne true hjk] at hun; exact hun
        · rw [he x hx, Array.setIfInBounds_comm _ _ hji]
          exact h
      unfold wpOp at H2 ⊢
      simp only [hoj] at H2 ⊢
      rw [wanted_put (ops := ops) oj a (some d) (a.eval x) (fun t ht => by cases ht; exact hdl)] at H2
      by_cases hw : Region.wanted oj (yielded ops a.tmps) = true
      · rw [if_pos hw] at H2 ⊢
        rcases H2 with H2 | ⟨_, a1, w1, h1⟩
        · exact .inl (wp_put (ops := ops) (notSelect_spec (hsel j oj hoj)) hdl hdd hQ next H2)
        · exact absurd h1 (hQ _ _ _ (by simp))
      · rw [if_neg hw] at H2 ⊢
        refine next _ _ (fun y hy => eval_put_other a oj.dst undef y hy) ?_
        rw [put_swap a oj.dst (some d) undef (a.eval x) (fun t ht he => hdd (by rw [ht, he]))]
        exact H2
end Go.Proofs.YtnapkooefpkicaaGreatDoor


namespace Go.Proofs.YtnapkooefpkicaaGreatDoor
open Go.RowKit Go.Shelf
set_option linter.unusedVariables false

def intC (n : Int) : List D := [.v (.int .i64 n)]
theorem row_ints {B : Nat} {F : Nat → Prop} {ρ : Nat → Value} {w : World} {id e : Nat} {l : List Int} (h : ObOk B F ρ w id (.row e 1 (l.map intC))) : w.ownsRow B e 1 (ρ id) l.length (l.map (Value.int .i64)) ∧ ∀ g, blk (ρ id) = some g → ¬ F g := by
  obtain ⟨xs, h1, h2, h3, h4⟩ := h
  refine ⟨?_, h4⟩
  have he : (((List.range (l.map intC).length).map fun i => (List.range 1).map (xs i)).flatten) = l.map (Value.int .i64) := by
    have h5 : ((List.range (l.map intC).length).map fun i => (List.range 1).map (xs i)) = l.map (fun n => [Value.int .i64 n]) := by
      apply List.ext_getElem
      · simp
      · intro i hi hi2
        have hl : i < l.length := by simpa using hi2
        have h6 := (h3 i (by simpa using hl) 0 (by simp [intC])).2
        simp only [List.getElem_map, intC, List.getElem_cons_zero] at h6
        have h7 := rep_v h6
        simp [List.range_succ, h7]
    rw [h5]
    clear h1 h2 h3 h4 h5
    induction l with
    | nil => rfl
    | cons a l ih => simp [ih]
  rw [he] at h1
  simpa using h1
theorem ints_row {B : Nat} {F : Nat → Prop} {ρ : Nat → Value} {w : World} {id e : Nat} {l : List Int} (h : w.ownsRow B e 1 (ρ id) l.length (l.map (Value.int .i64))) (hn : ∀ g, blk (ρ id) = some g → ¬ F g) : ObOk B F ρ w id (.row e 1 (l.map intC)) := by
  refine ⟨fun i _ => Value.int .i64 (l.getD i 0), ?_, fun i hi => by simp [intC], fun i hi j hj => ⟨rfl, ?_⟩, hn⟩
  · have h5 : (((List.range (l.map intC).length).map fun i => (List.range 1).map (fun _ => Value.int .i64 (l.getD i 0))).flatten) = l.map (Value.int .i64) := by
      have h6 : ((List.range (l.map intC).length).map fun i => (List.range 1).map (fun _ => Value.int .i64 (l.getD i 0))) = l.map (fun n => [Value.int .i64 n]) := by
        apply List.ext_getElem
        · simp
        · intro i hi hi2
          have hl : i < l.length := by simpa using hi2
          simp [List.range_succ, List.getD_eq_getElem?_getD, hl]
      rw [h6]
      clear h6 h hn
      induction l with
      | nil => rfl
      | cons a l ih => simp [ih]
    rw [h5, List.length_map]
    exact h
  · have hl : i < l.length := by simpa using hi
    have hj0 : j = 0 := by simp [intC] at hj; exact hj
    subst hj0
    simp only [List.getElem_map, intC, List.getElem_cons_zero, List.getD_eq_getElem?_getD, List.getElem?_eq_getElem hl, Option.getD_some]
    exact .v _
section
variable {cx : Cx} {ops : Array Oper} {o : Oper} {rest : List Oper} {e : Env} {σ : Obs} {Q : Post}
/-- slices.Insert(s, i, x) at an own []int. -/
theorem AOps.insertI {r : Ren} (L : Lays2.n21 cx.P r) {s i x : Operand} {ts : Array TypeId} {id idx ex dst k : Nat} {l : List Int} {m y : Int} (σ' : Obs) (hg : o.guard = none) (ht : o.dst = some dst) (hdn : Nat.blt dst cx.N = true)
    (ho : o.op = .call { callee := .value (.func (r.f 21)), args := #[s, i, x], argTypes := ts }) (hs : e.ev s = .own id) (hm : (id, Ob.row (r.t 3) 1 (l.map intC)) ∈ σ) (hi : e.ev i = .d (.v (.int .i64 m))) (hk : m = (k : Int)) (hkl : k ≤ l.length)
    (hx : e.ev x = .own idx) (hmx : (idx, Ob.row ex 1 [intC y]) ∈ σ) (hne : idx ≠ id) (hb : (l.length + 1) * 8 ≤ 140737488355328)
    (hσ : ∀ p ∈ σ', p = (id, Ob.row (r.t 3) 1 ((l.take k ++ [y] ++ l.drop k).map intC)) ∨ ∃ q ∈ σ, q.1 ≠ id ∧ p = (q.1, q.2.kill id))
    (q : AOps cx ops rest ((e.kill id).put (some dst) (.own id)) σ' Q) (hfx : cx.free id = true) : AOps cx ops (o :: rest) e σ Q := by
  intro a w ⟨F, ρ, hr⟩
  have r1 := ev_rep (e := e) (x := s) (a := a) (fun t _ => hr.env t)
  have r2 := ev_rep (e := e) (x := i) (a := a) (fun t _ => hr.env t)
  have r3 := ev_rep (e := e) (x := x) (a := a) (fun t _ => hr.env t)
  rw [hs] at r1
  rw [hi] at r2
  rw [hx] at r3
  have v1 : a.eval s = ρ id := by generalize a.eval s = v at r1; cases r1; rfl
  have v2 := repS_v r2
  have v3 : a.eval x = ρ idx := by generalize a.eval x = v at r3; cases r3; rfl
  obtain ⟨hown, hnF⟩ := row_ints (hr.obs.ok _ hm)
  have hox := (row_ints (l := [y]) (hr.obs.ok _ hmx)).1
  dsimp only at hown hox hnF
  rcases hox.2 with ⟨_, h0⟩ | ⟨vb, vcap, ecur, hvb, _, hh, hn1, _, hcs, htk⟩
  · simp at h0
  have hx0 : ecur[0]? = some (Value.int .i64 y) := by
    have h5 : (ecur.toList.take 1)[0]? = some (Value.int .i64 y) := by
      have : ecur.toList.take 1 = [Value.int .i64 y] := by simpa using htk
      rw [this]; rfl
    rw [List.getElem?_take, if_pos (by omega), Array.getElem?_toList] at h5
    exact h5
  have hE : Enters cx.P (r.f 21) := Enters.of L.f21 rfl rfl
  have hx' : (execOp a.eval o).run cx.P w = .ok (.enter (r.f 21) #[a.eval s, a.eval i, a.eval x]) w := by
    obtain ⟨xs, hxs⟩ : ∃ xs : List Operand, xs = [s, i, x] := ⟨_, rfl⟩
    have ho' : o.op = .call { callee := .value (.func (r.f 21)), args := xs.toArray, argTypes := ts } := by rw [ho, hxs]
    have h5 := hE (xs.map a.eval).toArray w
    have h6 : (execOp a.eval o).run cx.P w = .ok (.enter (r.f 21) (xs.map a.eval).toArray) w := by
      unfold execOp
      simp only [ho', resolve, Deferred.ofValue, Act.eval, invoke, Sem.run_bind, Sem.run_pure, Result.andThen_ok]
      simpa using h5
    rw [hxs] at h6
    exact h6
  have hc := insert_calls L (i := k) (vb := vb) (vcap := vcap) (x := Value.int .i64 y) hown (fun u hu => by obtain ⟨n, _, rfl⟩ := List.mem_map.1 hu; rfl) hkl hr.hB hb hh hx0 rfl (fun he => hr.obs.apart _ hmx _ hm hne vb (by dsimp only; rw [hvb]; rfl) (by dsimp only; exact he))
  rw [v1, v2, v3, hvb, hk] at hx'
  refine wpList_plain hg fun K hK => ?_
  unfold Oper.wp
  rw [hx']
  refine hc.mono fun _ w' ⟨v', he, hI⟩ => ?_
  subst he
  have hB' : ∀ g, blk (ρ id) = some g → ¬ F g := hnF
  have hturn := hr.turn (ρ' := fun j => if j = id then v' else ρ j) (id := id) (ob := .row (r.t 3) 1 ((l.take k ++ [y] ++ l.drop k).map intC)) (row := blk (ρ id)) (w' := w') (F' := F) (fun j hj => by simp [hj]) hI.turn hfx
    (fun g hg => ⟨hr.kown _ hm g hg, hnF g hg, fun p hp hpi => fun he => hr.obs.apart p hp _ hm hpi g he hg⟩) (fun b hb => hb) (fun b hb => .inl hb) (fun b hb => Nat.lt_of_lt_of_le (hr.lt b hb) hI.turn.size)
    (ints_row (by
      rw [if_pos rfl]
      have h6 := hI.own
      have h7 : (l.map (Value.int .i64)).take k ++ [Value.int .i64 y] ++ (l.map (Value.int .i64)).drop k = (l.take k ++ [y] ++ l.drop k).map (Value.int .i64) := by simp
      rw [h7] at h6
      have h8 : (l.take k ++ [y] ++ l.drop k).length = l.length + 1 := by simp; omega
      rw [h8]
      exact h6) (fun g hg hf => by
      rw [if_pos rfl] at hg
      rcases hI.new g hg with h6 | h6
      · exact hnF g h6 hf
      · have := hr.lt g hf; omega)) (fun g hg => by rw [if_pos rfl] at hg; exact hI.new g hg) σ' hσ
  have h9 := hturn.put (o := ⟨some dst, .ready 0, 0, "", #[], none⟩) (v := v') (s := .own id) (Ext.refl hturn.lt) (by
      have := RepS.own (F := F) (ρ := fun j => if j = id then v' else ρ j) (w := w') id
      simpa using this) (by simpa [DstOk, Nat.blt_eq] using hdn)
  have := q _ _ ⟨F, _, h9⟩
  rw [← ht] at this
  exact hK _ _ this
end
section
variable {cx : Cx} {ops : Array Oper} {o : Oper} {rest : List Oper} {e : Env} {σ : Obs} {Q : Post}
/-- []T{x}, T of one cell: an own row of one element. -/
theorem AOps.build1 {t el bytes dst : Nat} {z : Value} {x : Operand} {d : D} (id : Nat) (hg : o.guard = none) (ht : o.dst = some dst) (hdn : Nat.blt dst cx.N = true) (ho : o.op = .buildSlice t 1 #[(0, x)]) (T : ElemTy cx.P t el 1 bytes z) (hx : e.ev x = .d d) (h1 : d.one = true) (h2 : d.parts.length = 1) (hid : Obs.fresh id σ = true)
    (k : AOps cx ops rest ((e.kill id).put (some dst) (.own id)) ((id, .row el 1 [d.parts]) :: Obs.kill id σ) Q) (hfx : cx.free id = true := by rfl) : AOps cx ops (o :: rest) e σ Q := by
  intro a w ⟨F, ρ, hr⟩
  have hdn' : dst < cx.N := by simpa [Nat.blt_eq] using hdn
  have r1 := ev_rep (e := e) (x := x) (a := a) (fun t _ => hr.env t)
  rw [hx] at r1
  obtain ⟨h3, h4⟩ := parts_rep (repS_d r1) h1
  have hcl : (a.eval x).cells.toList.length = 1 := by rw [h3.1]; exact h2
  obtain ⟨c, hc⟩ := List.length_eq_one_iff.1 hcl
  have hc' : (a.eval x).cells = #[c] := by rw [← Array.toList_inj]; exact hc
  obtain ⟨i, hi, hz0, hz1, hz2⟩ := info_parts T.hi
  have hzc : z.cells.size = 1 := T.hz
  obtain ⟨cs', h5, h6⟩ := fill_inorder (size := 1) 0 [(0, a.eval x)] ((Array.range 1).map (fun j => z.cells[j % z.cells.size]!)) (fun j hj => by
    have hj0 : j = 0 := by simpa using hj
    subst hj0
    exact ⟨rfl, by simp [hc']⟩) (by simp)
  have h7 : cs'.toList = [c] := by simpa [hc] using h6
  have hcs : cs' = #[c] := by rw [← Array.toList_inj]; exact h7
  have hrun : (execOp a.eval o).run cx.P w = .ok (.value (.slice (some ⟨w.heap.size, 0, none⟩) 1 1)) (w.alloc (.cells #[c] el)) := by
    unfold execOp
    simp only [ho, Instr.buildSlice, Sem.run_bind, run_underlying T.ht, Result.andThen_ok, T.sizeOf]
    rw [if_neg (show ¬ (1 * 1 > 2 ^ 24) by decide), if_neg (show ¬ (1 * 1 = 0) by decide)]
    have hprog : (program : Sem Program).run cx.P w = .ok cx.P w := rfl
    simp only [Sem.run_bind, zeroValue, typeInfo, hprog, Result.andThen_ok, hi, Sem.run_pure, hz0]
    have h8 : Array.map (fun (p : Nat × Operand) => (p.fst, a.eval p.snd)) #[(0, x)] = #[(0, a.eval x)] := by simp
    rw [h8]
    rw [hcs] at h5
    simp only [Nat.mul_one, List.toArray] at h5 ⊢
    first | rw [h5] | skip
    rfl
  have hrow : (w.alloc (.cells #[c] el)).ownsRow cx.B el 1 (.slice (some ⟨w.heap.size, 0, none⟩) 1 1) 1 [c] :=
    ⟨by simp, .inr ⟨w.heap.size, 1, #[c], rfl, hr.hB, heap_alloc_new w _, Nat.le_refl _, by unfold maxLen; omega, by simp, by simp⟩⟩
  obtain ⟨ρ', h9⟩ := hr.newRow (v := .slice (some ⟨w.heap.size, 0, none⟩) 1 1) (els := [d.parts]) (Obs.fresh_spec hid) hdn' ((Below.refl _ _).alloc (Nat.le_refl _) (.cells #[c] el))
    ⟨fun _ _ => c, by dsimp only; rw [if_pos rfl]; exact hrow, fun i hi => by
      have : i = 0 := by simpa using hi
      subst this
      simpa using h2, fun i hi j hj => by
      have : i = 0 := by simpa using hi
      subst this
      have hj' : j < d.parts.length := by simpa using hj
      have hj0 : j = 0 := by omega
      subst hj0
      refine ⟨h4 c (by rw [hc]; simp), ?_⟩
      have h10 := h3.2 0 (by rw [hc]; simp) (by omega)
      simp only [hc, List.getElem_cons_zero] at h10
      have hE : Ext F w F (w.alloc (.cells #[c] el)) := Ext.of_below hr.lt ((Below.refl _ _).alloc (Nat.le_refl _) _)
      simpa using h10.ext hr.lt hE, fun g hg hf => by dsimp only at hg; rw [if_pos rfl] at hg; simp [blk] at hg; have := hr.lt g hf; omega⟩
    (fun g hg => by simp [blk] at hg; omega) hfx
  refine wpList_plain hg fun K hK => ?_
  unfold Oper.wp
  rw [hrun]
  have := k _ _ ⟨F, ρ', h9⟩
  rw [← ht] at this
  exact hK _ _ this
theorem XRun.build1 {Φ : List Fr} {l : List Oper} {Qe : Env → Prop} {t el bytes : Nat} {z : Value} {x : Operand} {d : D} (f : Fr) (hf : f ∈ Φ) (hg : GW ops o e true) (hgn : o.guard = none) (ht : o.dst = some f.dst) (hd : Nat.blt f.dst cx.N = true) (ho : o.op = .buildSlice t 1 #[(0, x)]) (T : ElemTy cx.P t el 1 bytes z) (hx : e.ev x = .d d) (h1 : d.one = true) (h2 : d.parts.length = 1)
    (hob : f.ob = .row el 1 [d.parts]) (hs : f.s0 = .own f.id) (k : XRun cx ops σ Φ l (e.put (some f.dst) f.s0) Qe) (hfx : cx.free f.id = true := by rfl) : XRun cx ops σ Φ (o :: l) e Qe :=
  ⟨by unfold DstOk; rw [ht]; exact hd, _, .inl ⟨hg, .inl ⟨f, hf, ⟨ht, fun e0 σ _ he hfr => by
    have h3 : e0.ev x = e.ev x := ev_same fun t ht => he t (looks_op (by rw [ho, ht]; simp [Op.operands]))
    exact AOps.build1 f.id hgn ht hd ho T (h3.trans hx) h1 h2 hfr (.nil ⟨by rw [hs], by rw [hob]⟩) hfx⟩, rfl⟩⟩, by rw [ht]; exact k⟩
end
def apartB (ops : Array Oper) (o0 : Oper) : Bool := (List.range ops.size).all fun j => Nat.beq j 0 || Region.edge ops j 0 || ((ops[j]?).map fun oj => o0.apart ops oj).getD true
theorem apartB_spec {ops : Array Oper} {o0 : Oper} (h : apartB ops o0 = true) {j : Nat} {oj : Oper} (hj : ops[j]? = some oj) (h0 : j ≠ 0) (hn : ∀ e ∈ oj.after, Region.binds .any e = true → e.on ≠ 0) : o0.apart ops oj = true := by
  have h1 := List.all_eq_true.1 h j (List.mem_range.2 (Array.getElem?_eq_some_iff.1 hj).1)
  rw [hj] at h1
  simp only [Option.map_some, Option.getD_some, Bool.or_eq_true] at h1
  rcases h1 with (h1 | h1) | h1
  · exact absurd (Nat.eq_of_beq_eq_true h1) h0
  · obtain ⟨o, ho, e, he, hb, heq⟩ := Region.edge_spec h1
    rw [hj] at ho; cases ho
    exact absurd heq (hn e he hb)
  · exact h1
def dstB (Φ : List Fr) (l : List Oper) : Bool := Φ.all fun f => (List.range l.length).all fun i => (List.range l.length).all fun j => Nat.beq i j || ((l[i]?).map fun o => neDst o f.dst).getD true || ((l[j]?).map fun o => neDst o f.dst).getD true
def openB (l : List Oper) (k2 k : Nat) (o0 : Oper) : Bool := Nat.blt 0 k2 && Nat.ble k2 k && Region.chainB l.toArray k && Region.chain1B (l.take k).toArray 1 k2 && (l.take k).all notSelect && apartB (l.take k).toArray o0 && (Array.all o0.after fun e => !(Region.binds .any e)) && Region.lexFrom .any (l.take k2).toArray (k2 - 1) 1 ((Array.replicate k2 false).setIfInBounds 0 true)
/-- A region that draws its order, whose first operation is a move: it may be made first; then the operations up to k2 in any order, then one after the other. -/
theorem AWP.drawMove {cx : Cx} {rid : Nat} {o0 : Oper} {l1 : List Oper} {e : Env} {σ : Obs} {Q : Post} {x : Operand} {d0 : Nat} {s0 : S} (k2 k : Nat) (Φ : List Fr) (ok : FrOk cx Φ σ) (hm : cx.P.follows .mixedOrders = true) (hB : openB (o0 :: l1) k2 k o0 = true)
    (hop : o0.op = .move x) (hd : o0.dst = some d0) (hg : o0.guard = none) (hdn : Nat.blt d0 cx.N = true) (hx : e.ev x = s0) (hlk : dstB Φ ((o0 :: l1).take k2) = true)
    (h : XRun cx ((o0 :: l1).take k2).toArray σ Φ ((o0 :: l1).take k2).tail (Env.killAll Φ (e.put (some d0) s0)) (fun e => AOps cx ((o0 :: l1).take k).toArray (((o0 :: l1).take k).drop k2) e (frObs Φ ++ σ) (fun ex e σ => match ex with | .normal => AOps cx (o0 :: l1).toArray ((o0 :: l1).drop k) e σ Q | _ => False))) :
    AWP cx (.region rid (o0 :: l1).toArray true) e σ Q := by
  intro a w ⟨F, ρ, hr⟩
  unfold openB at hB
  simp only [Bool.and_eq_true] at hB
  obtain ⟨⟨⟨⟨⟨⟨⟨hB1, hB2⟩, hB3⟩, hB4⟩, hB5⟩, hB6⟩, hB7⟩, hB8⟩ := hB
  generalize hl : (o0 :: l1) = l at *
  have hk2 : 0 < k2 := by simpa [Nat.blt_eq] using hB1
  have hkk : k2 ≤ k := Nat.le_of_ble_eq_true hB2
  have hch := Chain.of hB3
  have hkl : k ≤ l.length := by simpa using hch.le
  have hch1 := Chain1.of hB4
  have hl0 : l[0]? = some o0 := by rw [← hl]; rfl
  have hone : ∀ f ∈ Φ, ∀ (i j : Nat) (o o' : Oper), (l.take k2).toArray[i]? = some o → (l.take k2).toArray[j]? = some o' → o.dst = some f.dst → o'.dst = some f.dst → i = j := fun f hf i j o o' hi hj ho ho' => by
    rw [List.getElem?_toArray] at hi hj
    have h3 := List.all_eq_true.1 (List.all_eq_true.1 (List.all_eq_true.1 hlk f hf) i (List.mem_range.2 (List.getElem?_eq_some_iff.1 hi).1)) j (List.mem_range.2 (List.getElem?_eq_some_iff.1 hj).1)
    rw [hi, hj] at h3
    simp only [Option.map_some, Option.getD_some, Bool.or_eq_true] at h3
    rcases h3 with (h3 | h3) | h3
    · exact Nat.eq_of_beq_eq_true h3
    · exact absurd ho (neDst_spec h3)
    · exact absurd ho' (neDst_spec h3)
  -- the state after the move
  have hput : R cx (e.put (some d0) s0) σ (a.put (some d0) (a.eval x)) { w with drawn := w.drawn + 1 } := by
    have h1 := hr.drew.put (o := o0) (v := a.eval x) (s := s0) (Ext.refl hr.drew.lt) (by rw [← hx]; exact ev_rep fun t _ => hr.drew.env t) (by unfold DstOk; rw [hd]; exact hdn)
    rw [hd] at h1
    exact ⟨F, ρ, h1⟩
  have hlen2 : (l.take k2).length = k2 := by rw [List.length_take]; omega
  have htail : ∀ j, (l.take k2).tail[j]? = (l.take k2).toArray[1 + j]? := fun j => by rw [List.getElem?_toArray, List.getElem?_tail, Nat.add_comm]
  have htl : (l.take k2).tail.length = k2 - 1 := by rw [List.length_tail, hlen2]
  have h1 := anyX_lex (l.take k2).tail 1 ((Array.replicate k2 false).setIfInBounds 0 true) _ htail (by rw [htl]; exact hB8) h
  have hdst : ∀ o ∈ (l.take k2).toArray.toList, DstOk cx.N o := fun o ho => by
    have ho' : o ∈ l.take k2 := by simpa using ho
    have hcons : l.take k2 = o0 :: (l.take k2).tail := by
      rw [← hl]
      cases k2 with
      | zero => omega
      | succ n => rfl
    rw [hcons] at ho'
    rcases List.mem_cons.1 ho' with rfl | ho'
    · unfold DstOk; rw [hd]; exact hdn
    · exact XRun.dsts _ _ h o ho'
  have h2 := wpAny_of_X (cx := cx) (ops := (l.take k2).toArray) (Q := fun ex e σ => match ex with | .normal => AOps cx (l.take k).toArray ((l.take k).drop k2) e σ (fun ex e σ => match ex with | .normal => AOps cx l.toArray (l.drop k) e σ Q | _ => False) | _ => False) hdst hone ok _ _ (Env.killAll Φ (e.put (some d0) s0)) _ _
    ⟨[], fun g hg => (nomatch hg), fun g hg => (nomatch hg), fun g hg => (nomatch hg), fun f hf _ t => killAll_all Φ _ f hf t, R.killAll Φ hput⟩ h1
  rw [htl] at h2
  have hlenk : (l.take k).length = k := by rw [List.length_take]; omega
  have hsz : (l.take k).toArray.size = k := by simp; omega
  -- up to k
  have h3 : wpAny cx.P .any (l.take k).toArray (lift cx fun ex e σ => match ex with | .normal => AOps cx l.toArray (l.drop k) e σ Q | _ => False) (k - 1) ((Array.replicate k false).setIfInBounds 0 true) (a.put (some d0) (a.eval x)) { w with drawn := w.drawn + 1 } := by
    refine wpAny_split1 hch1 (ops0 := (l.take k2).toArray) (by simp; omega) (fun j hj => ?_) ?_ ?_ (k2 - 1) _ _ _ _ _ (by simp) (by simp [hsz]) ?_ ?_ ?_ ?_ (by rw [hsz]; omega) h2
    · rw [List.getElem?_toArray, List.getElem?_toArray, List.getElem?_take, List.getElem?_take, if_pos hj, if_pos (by omega)]
    · rintro a w ⟨e, σ, h3, h4⟩
      have := h3 a w h4
      simpa using this
    · rintro ex a w hne ⟨e, σ, h3, _⟩
      cases ex <;> first | exact absurd rfl hne | exact h3.elim
    · intro j hj d
      by_cases hj0 : 0 = j
      · subst hj0
        simp [Array.getD_eq_getD_getElem?, hk2, show 0 < k by omega]
      · rw [getD_set_ne d hj0, getD_set_ne d hj0]
        simp [Array.getD_eq_getD_getElem?, hj, show j < k by omega]
    · intro j hj hj2
      rw [hsz] at hj2
      rw [getD_set_ne true (by omega)]
      simp [Array.getD_eq_getD_getElem?, hj2]
    · intro i o ho hi e he hb
      by_cases hi0 : 0 = i
      · subst hi0
        rw [List.getElem?_toArray, List.getElem?_take, if_pos (by omega), hl0] at ho
        cases ho
        have := Array.all_eq_true_iff_forall_mem.1 hB7 e he
        rw [hb] at this
        simp at this
      · rw [getD_set_ne false hi0] at hi
        have hik : i < k := by have := (Array.getElem?_eq_some_iff.1 ho).1; omega
        simp [Array.getD_eq_getD_getElem?, hik] at hi
    · intro j hj
      have : j = 0 := by omega
      subst this
      simp [Array.getD_eq_getD_getElem?, show 0 < k by omega]
  have h4 : wpAny cx.P .any (l.take k).toArray (lift cx fun ex e σ => match ex with | .normal => AOps cx l.toArray (l.drop k) e σ Q | _ => False) (k - 1 + 1) (Array.replicate k false) a { w with drawn := w.drawn + 1 } := by
    refine wpAny_move (i := 0) (oi := o0) (x := x) (d := d0) (by rw [List.getElem?_toArray, List.getElem?_take, if_pos (by omega), hl0]) hop hd hg (fun j oj hj => ?_) ?_ _ _ _ _ (fun j oj hj hj0 _ hn => apartB_spec hB6 hj hj0 hn) (mem_ready.2 ⟨by simp [Array.getD_eq_getD_getElem?, show 0 < k by omega], o0, by rw [List.getElem?_toArray, List.getElem?_take, if_pos (by omega), hl0], fun e he hb => ?_⟩) h3
    · rw [List.getElem?_toArray] at hj
      exact List.all_eq_true.1 hB5 _ (List.mem_of_getElem? hj)
    · rintro ex a w hne ⟨e, σ, h3, _⟩
      cases ex <;> first | exact absurd rfl hne | exact h3.elim
    · have := Array.all_eq_true_iff_forall_mem.1 hB7 e he
      rw [hb] at this
      simp at this
  have h5 : wpAny cx.P .any (l.take k).toArray (lift cx fun ex e σ => match ex with | .normal => AOps cx l.toArray (l.drop k) e σ Q | _ => False) (l.take k).length (Array.replicate (l.take k).toArray.size false) a { w with drawn := w.drawn + 1 } := by
    rw [hlenk, hsz]
    rw [show k - 1 + 1 = k by omega] at h4
    exact h4
  refine wp_region_any hm (wpAny_split hch (ops0 := (l.take k).toArray) (by simp; omega) (fun j hj => by simp [hj]) ?_ ?_ (l.take k).length _ _ _ _ _ (by simp; omega) (by simp) ?_ ?_ ?_ (by simp; omega) h5)
  · rintro a w ⟨e, σ, h3, h4⟩
    have := h3 a w h4
    simpa using this
  · rintro ex a w hne ⟨e, σ, h3, _⟩
    cases ex <;> first | exact absurd rfl hne | exact h3.elim
  · intro j hj d
    have h5 : j < l.length := by omega
    have h6 : j < min k l.length := by omega
    simp [Array.getD_eq_getD_getElem?, h5, h6]
  · intro j hj hj2
    have : j < l.length := by simpa using hj2
    simp [Array.getD_eq_getD_getElem?, this]
  · intro i o ho hi
    have : i < l.length := by simpa using (Array.getElem?_eq_some_iff.1 ho).1
    simp [Array.getD_eq_getD_getElem?, this] at hi
end Go.Proofs.YtnapkooefpkicaaGreatDoor


namespace Go.Proofs.YtnapkooefpkicaaGreatDoor
open Go.RowKit
set_option linter.unusedVariables false

def OneC (σ : Obs) (s : S) : Prop := OneS σ s ∨ ∃ id off, s = .ptr id off
theorem OneC.cell {σ : Obs} {s : S} (h : OneC σ s) {B : Nat} {F : Nat → Prop} {ρ : Nat → Value} {w : World} (hσ : ObsOk B F ρ w σ) {u : Value} (hu : RepS F ρ w u s) : ∃ c, u.cells = #[c] ∧ c.oneCell' = true ∧ RepS F ρ w c s := by
  rcases h with h | ⟨id, off, rfl⟩
  · exact h.cell hσ hu
  · cases hu with
    | ptr _ _ g hg => exact ⟨_, rfl, rfl, .ptr id off g hg⟩
/-- A new own block of cells, of whatever. -/
theorem R0.newCellsS {cx : Cx} {F : Nat → Prop} {ρ : Nat → Value} {e : Env} {σ : Obs} {a : Act} {w : World} (h : R0 cx F ρ e σ a w) {id dst : Nat} {ty : TypeId} {cs : List Value} {ss : List S} (hid : ∀ p ∈ σ, p.1 ≠ id) (hd : dst < cx.N) (hl : cs.length = ss.length) (hr : ∀ j (h1 : j < cs.length) (h2 : j < ss.length), cs[j].oneCell' = true ∧ RepS F ρ w cs[j] ss[j]) (hfx : cx.free id = true) :
    ∃ ρ', R0 cx F ρ' ((e.kill id).put (some dst) (.ptr id 0)) ((id, .cells (ss.map (S.kill id))) :: Obs.kill id σ) (a.put (some dst) (.pointer (some ⟨w.heap.size, 0, none⟩))) (w.alloc (.cells cs.toArray ty)) := by
  refine ⟨fun j => if j = id then .pointer (some ⟨w.heap.size, 0, none⟩) else ρ j, ?_⟩
  have hE : Ext F w F (w.alloc (.cells cs.toArray ty)) := Ext.of_below h.lt ((Below.refl _ _).alloc (Nat.le_refl _) _)
  have h2 := h.turn (ρ' := fun j => if j = id then .pointer (some ⟨w.heap.size, 0, none⟩) else ρ j) (id := id) (ob := .cells (ss.map (S.kill id))) (row := none) (w' := w.alloc (.cells cs.toArray ty)) (F' := F) (fun j hj => by simp [hj])
    ⟨hE.below.os, hE.below.tape, hE.below.output, hE.below.size, fun k hk _ => hE.below.block k hk⟩ hfx (fun g hg => by simp at hg) (fun b hb => hb) (fun b hb => .inl hb) hE.lt
    ⟨w.heap.size, ty, cs, by simp, h.hB, fun hf => by have := h.lt _ hf; omega, by simpa using heap_alloc_new w _, by simpa using hl, fun j hj hj' => by
      rw [List.getElem_map]
      have hj2 : j < ss.length := by simpa using hj'
      exact ⟨(hr j hj hj2).1, ((hr j hj hj2).2.ext h.lt hE).kill id (fun i hi => by simp [hi])⟩⟩
    (fun g hg => by simp [blk] at hg; exact .inr (by omega)) ((id, .cells (ss.map (S.kill id))) :: Obs.kill id σ) (fun p hp => by
      cases hp with
      | head => exact .inl rfl
      | tail _ hp => obtain ⟨q, hq, rfl⟩ := Obs.mem_kill hp; exact .inr ⟨q, hq, hid q hq, rfl⟩)
  have h3 := h2.put (o := ⟨some dst, .ready 0, 0, "", #[], none⟩) (v := .pointer (some ⟨w.heap.size, 0, none⟩)) (s := .ptr id 0) (Ext.refl h2.lt) (.ptr id 0 w.heap.size (by simp [blk])) (by simpa [DstOk, Nat.blt_eq] using hd)
  exact h3
section
variable {cx : Cx} {ops : Array Oper} {o : Oper} {rest : List Oper} {e : Env} {σ : Obs} {Q : Post}
theorem val_at {B : Nat} {F : Nat → Prop} {ρ : Nat → Value} {w : World} {vid : Nat} {ss : List S} {v : Value} (hσ : ObsOk B F ρ w σ) (hm : (vid, Ob.val ss) ∈ σ) (h : RepS F ρ w v (.own vid)) : ∃ cs : List Value, v = .agg cs.toArray ∧ cs.length = ss.length ∧ ∀ j (h1 : j < cs.length) (h2 : j < ss.length), cs[j].oneCell' = true ∧ RepS F ρ w cs[j] ss[j] := by
  obtain ⟨cs, h1, h2, h3⟩ := hσ.ok _ hm
  dsimp only at h1
  refine ⟨cs, ?_, h2, h3⟩
  cases h
  exact h1
/-- A parameter with own parts, boxed. -/
theorem AOps.boxVal {t dst vid : Nat} {x : Operand} {ss : List S} (id : Nat) (hg : o.guard = none) (ht : o.dst = some dst) (hdn : Nat.blt dst cx.N = true) (ho : o.op = .box t x) (hx : e.ev x = .own vid) (hm : (vid, Ob.val ss) ∈ σ) (hid : Obs.fresh id σ = true)
    (k : AOps cx ops rest ((e.kill id).put (some dst) (.ptr id 0)) ((id, .cells (ss.map (S.kill id))) :: Obs.kill id σ) Q) (hfx : cx.free id = true := by rfl) : AOps cx ops (o :: rest) e σ Q := by
  intro a w ⟨F, ρ, hr⟩
  have h2 := ev_rep (e := e) (x := x) (a := a) (fun t _ => hr.env t)
  rw [hx] at h2
  obtain ⟨cs, hv, hl, hc⟩ := val_at hr.obs hm h2
  obtain ⟨ρ', h5⟩ := hr.newCellsS (ty := t) (Obs.fresh_spec hid) (by simpa [Nat.blt_eq] using hdn) hl hc hfx
  refine wpList_plain hg fun K hK => ?_
  unfold Oper.wp execOp
  simp only [ho, Instr.box, newVar, newRow, hv, Value.cells]
  have := k _ _ ⟨F, ρ', h5⟩
  rw [← ht] at this
  exact hK _ _ this
theorem set_mid {α : Type} (cs vs : List α) (off size j : Nat) (hv : vs.length = size) (hle : off + size ≤ cs.length) (hj : j < (cs.take off ++ vs ++ cs.drop (off + size)).length) : (cs.take off ++ vs ++ cs.drop (off + size))[j] = if h : off ≤ j ∧ j < off + size then vs[j - off]'(by omega) else cs[j]'(by simp at hj; omega) := by
  by_cases j1 : j < off
  · rw [dif_neg (by omega), List.getElem_append_left (by simp; omega), List.getElem_append_left (by simp; omega), List.getElem_take]
  · by_cases j2 : j < off + size
    · rw [dif_pos ⟨by omega, j2⟩, List.getElem_append_left (by simp; omega), List.getElem_append_right (by simp; omega)]
      have e1 : (List.take off cs).length = off := by simp; omega
      simp only [e1]
    · rw [dif_neg (by omega), List.getElem_append_right (by simp; omega), List.getElem_drop]
      have e1 : (List.take off cs ++ vs).length = off + size := by simp; omega
      have e2 : off + size + (j - (off + size)) = j := by omega
      simp only [e1, e2]
theorem R0.storeIn {F : Nat → Prop} {ρ : Nat → Value} {a : Act} {w : World} (hr : R0 cx F ρ e σ a w) {t id off size : Nat} {x : Operand} {v : Value} {ss ss' : List S} (hs : ∀ w, (sizeOf t).run cx.P w = .ok size w) (hx : e.ev x = .ptr id off) (hm : (id, Ob.cells ss) ∈ σ) (hl : v.cells.size = size) (hl' : ss'.length = size)
    (hc : ∀ j (h1 : j < v.cells.toList.length) (h2 : j < ss'.length), v.cells.toList[j].oneCell' = true ∧ RepS F ρ w v.cells.toList[j] ss'[j]) (hle : off + size ≤ ss.length) :
    ∃ w', (Instr.storeAt t (a.eval x) v).run cx.P w = .ok () w' ∧ ∀ e2, R0 cx F ρ e2 σ a w → R0 cx F ρ e2 (Obs.upd id (.cells (ss.take off ++ ss' ++ ss.drop (off + size))) σ) a w' := by
  obtain ⟨g, ty, cs, hv, hρ, hB, hF, hh, hcl, hcs⟩ := cells_of hr hx hm
  have h4 : ∀ u ∈ v.cells.toList, u.oneCell' = true := fun u hu => by
    obtain ⟨j, hj, rfl⟩ := List.getElem_of_mem hu
    exact (hc j hj (by rw [hl', ← hl]; simpa using hj)).1
  obtain ⟨w', h5, h6, h7⟩ := storeVar_run (P := cx.P) (off := off) hs hl hh (by omega) h4
  have hlen : v.cells.toList.length = size := by rw [Array.length_toList]; exact hl
  refine ⟨w', ?_, fun e2 hr2 => hr2.write hρ hm hB hF h6 h7 (by simp; omega) (fun j hj hj' => ?_)⟩
  · simp only [Instr.storeAt, hv, Instr.sureAddr, Sem.run_bind, Sem.run_pure, Result.andThen_ok, h5]
  · rw [set_mid cs v.cells.toList off size j hlen (by omega) hj, set_mid ss ss' off size j hl' hle hj']
    by_cases hjj : off ≤ j ∧ j < off + size
    · rw [dif_pos hjj, dif_pos hjj]
      exact hc _ _ _
    · rw [dif_neg hjj, dif_neg hjj]
      exact hcs _ _ _
/-- A struct with own parts, stored. -/
theorem EOp.storeVal {t id off size vid : Nat} {x y : Operand} {ss ss' : List S} (ht : o.dst = none) (ho : o.op = .store t x y) (hs : ∀ w, (sizeOf t).run cx.P w = .ok size w) (hx : e.ev x = .ptr id off) (hm : (id, Ob.cells ss) ∈ σ) (hy : e.ev y = .own vid) (hmv : (vid, Ob.val ss') ∈ σ) (hl' : ss'.length = size)
    (hle : off + size ≤ ss.length) : EOp cx ops o e σ (Obs.upd id (.cells (ss.take off ++ ss' ++ ss.drop (off + size))) σ) := by
  intro F ρ a w e0 hr ha
  have hop : ∀ y ∈ o.op.operands.toList, RepS F ρ w (a.eval y) (e.ev y) := fun y hy => ev_rep fun t ht => ha t (looks_op (by rw [← ht]; exact hy))
  have r1 := hop x (by rw [ho]; simp [Op.operands])
  have r2 := hop y (by rw [ho]; simp [Op.operands])
  rw [hx] at r1
  rw [hy] at r2
  obtain ⟨cs, hv, hl, hc⟩ := val_at hr.obs hmv r2
  obtain ⟨g, ty, cs0, hρ, hB, hF, hh, hcl, hcs⟩ := hr.obs.ok _ hm
  dsimp only at hρ
  have hxv := ptr_at r1 (g := g) (by rw [hρ]; rfl)
  have h4 : ∀ u ∈ (a.eval y).cells.toList, u.oneCell' = true := fun u hu => by
    rw [hv] at hu
    simp only [Value.cells] at hu
    obtain ⟨j, hj, rfl⟩ := List.getElem_of_mem hu
    have hj' : j < cs.length := by simpa using hj
    simpa using (hc j hj' (by omega)).1
  have hsz : (a.eval y).cells.size = size := by rw [hv]; simp [Value.cells]; omega
  obtain ⟨w', h5, h6, h7⟩ := storeVar_run (P := cx.P) (off := off) hs hsz hh (by omega) h4
  unfold Oper.wp execOp
  simp only [ho, Instr.storeAt, hxv, Instr.sureAddr, Sem.run_bind, Sem.run_pure, Result.andThen_ok, h5]
  refine ⟨by rw [ht]; rfl, fun e2 hr2 => ⟨F, ρ, ?_⟩⟩
  have hcl2 : (a.eval y).cells.toList = cs := by rw [hv]; simp [Value.cells]
  rw [hcl2] at h7
  refine hr2.write hρ hm hB hF h6 h7 (by simp; omega) (fun j hj hj' => ?_)
  rw [set_mid cs0 cs off size j (by omega) (by omega) hj, set_mid ss ss' off size j hl' hle hj']
  by_cases hjj : off ≤ j ∧ j < off + size
  · rw [dif_pos hjj, dif_pos hjj]
    exact hc _ _ _
  · rw [dif_neg hjj, dif_neg hjj]
    exact hcs _ _ _
/-- Whatever is one cell, stored. -/
theorem EOp.storeC {t id off : Nat} {x y : Operand} {s : S} {ss : List S} (ht : o.dst = none) (ho : o.op = .store t x y) (hs : ∀ w, (sizeOf t).run cx.P w = .ok 1 w) (hx : e.ev x = .ptr id off) (hm : (id, Ob.cells ss) ∈ σ) (hy : e.ev y = s) (h1 : OneC σ s) (hle : off < ss.length) :
    EOp cx ops o e σ (Obs.upd id (.cells (ss.take off ++ [s] ++ ss.drop (off + 1))) σ) := by
  intro F ρ a w e0 hr ha
  have hop : ∀ y ∈ o.op.operands.toList, RepS F ρ w (a.eval y) (e.ev y) := fun y hy => ev_rep fun t ht => ha t (looks_op (by rw [← ht]; exact hy))
  have r1 := hop x (by rw [ho]; simp [Op.operands])
  have r2 := hop y (by rw [ho]; simp [Op.operands])
  rw [hx] at r1
  rw [hy] at r2
  obtain ⟨c, hc, hone, hcr⟩ := h1.cell hr.obs r2
  obtain ⟨g, ty, cs0, hρ, hB, hF, hh, hcl, hcs⟩ := hr.obs.ok _ hm
  dsimp only at hρ
  have hxv := ptr_at r1 (g := g) (by rw [hρ]; rfl)
  obtain ⟨w', h5, h6, h7⟩ := storeVar_run (P := cx.P) (off := off) (v := a.eval y) (size := 1) hs (by rw [hc]; rfl) hh (by omega) (by rw [hc]; intro u hu; simp at hu; rw [hu]; exact hone)
  unfold Oper.wp execOp
  simp only [ho, Instr.storeAt, hxv, Instr.sureAddr, Sem.run_bind, Sem.run_pure, Result.andThen_ok, h5]
  refine ⟨by rw [ht]; rfl, fun e2 hr2 => ⟨F, ρ, ?_⟩⟩
  rw [hc] at h7
  refine hr2.write hρ hm hB hF h6 h7 (by simp; omega) (fun j hj hj' => ?_)
  rw [set_mid cs0 [c] off 1 j rfl (by omega) hj, set_mid ss [s] off 1 j rfl (by omega) hj']
  by_cases hjj : off ≤ j ∧ j < off + 1
  · rw [dif_pos hjj, dif_pos hjj]
    have : j - off = 0 := by omega
    simp only [this, List.getElem_cons_zero]
    exact ⟨hone, hcr⟩
  · rw [dif_neg hjj, dif_neg hjj]
    exact hcs _ _ _
/-- Cells that hold own parts become data. -/
theorem R0.freezeCell {F : Nat → Prop} {ρ : Nat → Value} {a : Act} {w : World} (h : R0 cx F ρ e σ a w) {id off : Nat} {ss : List S} {s : S} {d : D} {σs σ' : Obs} (hm : (id, Ob.cells ss) ∈ σ') (ho : ss[off]? = some s) (hs : Snap σs s d) (h1 : ∀ p ∈ σs, p ∈ σ) (h2 : ∀ p ∈ σ', p ∈ σ) (h3 : ∀ p ∈ σs, ∀ q ∈ σ', q.1 ≠ p.1) :
    R0 cx (endF F ρ σs) ρ e (Obs.upd id (.cells (ss.set off (.d d))) σ') a w := by
  have hF2 : ∀ b, endF F ρ σs b → b < w.heap.size := by
    rintro b (hb | ⟨p, hp, hb⟩)
    · exact h.lt b hb
    · exact ((h.obs.ok p (h1 p hp)).blk_lt hb).2
  have h4 : R0 cx (endF F ρ σs) ρ e σ' a w := by
    refine ⟨h.size, h.defers, hF2, fun b hb => .inl (h.base b hb), ?_, h.below, h.hB, fun u => ?_, ?_, h.up, fun p hp => h.kown p (h2 p hp), h.fixed⟩
    · rintro b (hb | ⟨p, hp, hb⟩)
      · exact h.new b hb
      · exact .inr (h.kown p (h1 p hp) b hb)
    · exact RepS.turn (row := none) (h.env u) h.lt (fun g hg => by simp at hg) ⟨rfl, rfl, rfl, Nat.le_refl _, fun _ _ _ => rfl⟩ (fun b hb => .inl hb)
    · refine ⟨fun p hp => ?_, fun p hp q hq => h.obs.apart p (h2 p hp) q (h2 q hq), fun p hp q hq => h.obs.uniq p (h2 p hp) q (h2 q hq)⟩
      refine (h.obs.ok p (h2 p hp)).more h.lt (fun b hb => .inl hb) ?_
      rintro g hg (hf | ⟨q, hq, hb⟩)
      · exact (h.obs.ok p (h2 p hp)).nF hg hf
      · exact h.obs.apart p (h2 p hp) q (h1 q hq) (h3 q hq p hp) g hg hb
  obtain ⟨g, ty, cs, g2, g3, g4, g5, g6, g7⟩ := h.obs.ok _ (h2 _ hm)
  dsimp only at g2
  have hof : off < ss.length := (List.getElem?_eq_some_iff.1 ho).1
  have hoe : ss[off] = s := (List.getElem?_eq_some_iff.1 ho).2
  refine h4.reOb hm ?_
  obtain ⟨g', ty', cs', k2, k3, k4, k5, k6, k7⟩ := h4.obs.ok _ hm
  dsimp only at k2
  refine ⟨g', ty', cs', k2, k3, k4, k5, by simpa using k6, fun j hj hj' => ⟨(k7 j hj (by simpa using hj')).1, ?_⟩⟩
  rw [List.getElem_set]
  by_cases hjo : off = j
  · rw [if_pos hjo]
    subst hjo
    have hgg : g = g' := by rw [g2] at k2; simpa using k2
    subst hgg
    rw [g5] at k5
    have hcc : cs = cs' := (show cs = cs' ∧ ty = ty' by simpa using (Option.some.inj k5)).1
    subst hcc
    have h8 := (g7 off hj hof).2
    rw [hoe] at h8
    exact .d (hs.rep (h.obs.sub h1) _ h8)
  · rw [if_neg hjo]
    exact (k7 j hj (by simpa using hj')).2
theorem AWP.freezeCell {c : Code} (id off : Nat) {ss : List S} {s : S} {d : D} (σs σ' : Obs) (hm : (id, Ob.cells ss) ∈ σ') (ho : ss[off]? = some s) (hs : Snap σs s d) (h1 : ∀ p ∈ σs, p ∈ σ) (h2 : ∀ p ∈ σ', p ∈ σ) (h3 : ∀ p ∈ σs, ∀ q ∈ σ', q.1 ≠ p.1)
    (k : AWP cx c e (Obs.upd id (.cells (ss.set off (.d d))) σ') Q) : AWP cx c e σ Q := fun a w ⟨F, ρ, hr⟩ => k a w ⟨_, ρ, hr.freezeCell hm ho hs h1 h2 h3⟩
end
/-! One object takes another's place. -/
def S.ren (i j : Nat) : S → S
  | .own k => match Nat.beq k i with | true => .own j | false => match Nat.beq k j with | true => .d .any | false => .own k
  | .ptr k off => match Nat.beq k i with | true => .ptr j off | false => match Nat.beq k j with | true => .d .any | false => .ptr k off
  | .d x => .d x
  | .clo f caps => .d .any
theorem RepS.ren {F : Nat → Prop} {ρ ρ' : Nat → Value} {w : World} {x : Value} {s : S} {i j : Nat} (h : RepS F ρ w x s) (hi : ρ' j = ρ i) (hρ : ∀ k, k ≠ j → ρ' k = ρ k) : RepS F ρ' w x (s.ren i j) := by
  cases h with
  | d h => exact .d h
  | own k =>
    cases hb : Nat.beq k i with
    | true => simp only [S.ren, hb]; have := Nat.eq_of_beq_eq_true hb; subst this; rw [← hi]; exact .own j
    | false =>
      cases hc : Nat.beq k j with
      | true => simp only [S.ren, hb, hc]; exact .d (.any _)
      | false => simp only [S.ren, hb, hc]; rw [← hρ k (beq_false hc)]; exact .own k
  | ptr k off g h =>
    cases hb : Nat.beq k i with
    | true => simp only [S.ren, hb]; have := Nat.eq_of_beq_eq_true hb; subst this; exact .ptr j off g (by rw [hi]; exact h)
    | false =>
      cases hc : Nat.beq k j with
      | true => simp only [S.ren, hb, hc]; exact .d (.any _)
      | false => simp only [S.ren, hb, hc]; exact .ptr k off g (by rw [hρ k (beq_false hc)]; exact h)
  | clo f cs caps h => exact .d (.any _)
def Ob.ren (i j : Nat) : Ob → Ob
  | .row e size els => .row e size els
  | .cells ss => .cells (ss.map (S.ren i j))
  | .cellsT e ss => .cellsT e (ss.map (S.ren i j))
  | .map M => .map M
  | .rowS e size els => .rowS e size (els.map fun ss => ss.map (S.ren i j))
  | .bts l => .bts l
  | .val ss => .val (ss.map (S.ren i j))
  | .iter M done => .iter M done
theorem ObOk.ren {B : Nat} {F : Nat → Prop} {ρ ρ' : Nat → Value} {w : World} {k k' : Nat} {o : Ob} {i j : Nat} (h : ObOk B F ρ w k o) (hk : ρ' k' = ρ k) (hi : ρ' j = ρ i) (hρ : ∀ k, k ≠ j → ρ' k = ρ k) : ObOk B F ρ' w k' (o.ren i j) := by
  cases o with
  | row e size els =>
    obtain ⟨xs, h1, h2, h3, h4⟩ := h
    exact ⟨xs, by rw [hk]; exact h1, h2, h3, by rw [hk]; exact h4⟩
  | cells ss =>
    obtain ⟨g, e, cs, h1, h2, h3, h4, h5, h6⟩ := h
    refine ⟨g, e, cs, by rw [hk]; exact h1, h2, h3, h4, by simp [h5], fun j hj hj' => ⟨(h6 j hj (by simpa using hj')).1, ?_⟩⟩
    rw [List.getElem_map]
    exact (h6 j hj (by simpa using hj')).2.ren hi hρ
  | cellsT ty0 ss =>
    obtain ⟨g, cs, h1, h2, h3, h4, h5, h6⟩ := h
    refine ⟨g, cs, by rw [hk]; exact h1, h2, h3, h4, by simp [h5], fun j hj hj' => ⟨(h6 j hj (by simpa using hj')).1, ?_⟩⟩
    rw [List.getElem_map]
    exact (h6 j hj (by simpa using hj')).2.ren hi hρ
  | map M =>
    obtain ⟨b, es, cl, h1, h2, h3, h4, h5, h6⟩ := h
    exact ⟨b, es, cl, by rw [hk]; exact h1, h2, h3, h4, h5, h6⟩
  | rowS e size els =>
    obtain ⟨xs, h1, h2, h3, h4⟩ := h
    refine ⟨xs, by rw [hk, List.length_map]; exact h1, fun k hk => by rw [List.getElem_map, List.length_map]; exact h2 k (by simpa using hk), fun k hk2 j hj => ?_, by rw [hk]; exact h4⟩
    have hk' : k < els.length := by simpa using hk2
    have hj' : j < els[k].length := by simpa using hj
    simp only [List.getElem_map]
    exact ⟨(h3 k hk' j hj').1, (h3 k hk' j hj').2.ren hi hρ⟩
  | bts l =>
    obtain ⟨g, e, cap, cur, fz, h1, h2, h3, h4, h5⟩ := h
    exact ⟨g, e, cap, cur, fz, by rw [hk]; exact h1, h2, h3, h4, h5⟩
  | val ss =>
    obtain ⟨cs, h1, h2, h3⟩ := h
    refine ⟨cs, by rw [hk]; exact h1, by simp [h2], fun j hj hj' => ⟨(h3 j hj (by simpa using hj')).1, ?_⟩⟩
    rw [List.getElem_map]
    exact (h3 j hj (by simpa using hj')).2.ren hi hρ
  | iter M done =>
    obtain ⟨g, b, es, cl, sn, c0, h1, h2, h3, h4, h5, h6, h7, h8⟩ := h
    exact ⟨g, b, es, cl, sn, c0, by rw [hk]; exact h1, h2, h3, h4, h5, h6, h7, h8⟩
section
variable {cx : Cx} {ops : Array Oper} {rest : List Oper} {e : Env} {σ : Obs} {Q : Post}
/-- Object i takes j's place; what j was is gone. -/
theorem R0.rename {F : Nat → Prop} {ρ : Nat → Value} {a : Act} {w : World} (h : R0 cx F ρ e σ a w) {i j : Nat} (hij : i ≠ j) (hfx : cx.free j = true) (σ' : Obs) (hσ : ∀ p ∈ σ', (∃ q ∈ σ, q.1 = i ∧ p = (j, q.2.ren i j)) ∨ ∃ q ∈ σ, q.1 ≠ i ∧ q.1 ≠ j ∧ p = (q.1, q.2.ren i j)) :
    ∃ ρ', R0 cx F ρ' (fun t => (e t).ren i j) σ' a w := by
  obtain ⟨ρ', hρ'⟩ : ∃ ρ' : Nat → Value, ρ' = fun k => if k = j then ρ i else ρ k := ⟨_, rfl⟩
  have hj : ρ' j = ρ i := by simp [hρ']
  have ho : ∀ k, k ≠ j → ρ' k = ρ k := fun k hk => by simp [hρ', hk]
  clear hρ'
  have hcase : ∀ p ∈ σ', ∃ q ∈ σ, q.1 ≠ j ∧ ((q.1 = i ∧ p.1 = j) ∨ (q.1 ≠ i ∧ p.1 = q.1)) ∧ ρ' p.1 = ρ q.1 ∧ p.2 = q.2.ren i j := fun p hp => by
    rcases hσ p hp with ⟨q, hq, h1, rfl⟩ | ⟨q, hq, h1, h2, rfl⟩
    · exact ⟨q, hq, by rw [h1]; exact hij, .inl ⟨h1, rfl⟩, by rw [h1]; exact hj, rfl⟩
    · exact ⟨q, hq, h2, .inr ⟨h1, rfl⟩, ho _ h2, rfl⟩
  refine ⟨ρ', h.size, h.defers, h.lt, h.base, h.new, h.below, h.hB, fun t => (h.env t).ren hj ho, ⟨fun p hp => ?_, fun p hp q hq hne g hg => ?_, fun p hp q hq he => ?_⟩, h.up, fun p hp g hg => ?_, fun k hk => ?_⟩
  · obtain ⟨q, hq, _, _, h1, h2⟩ := hcase p hp
    rw [h2]
    exact (h.obs.ok q hq).ren h1 hj ho
  · obtain ⟨p', hp', hpj, hpc, hpv, _⟩ := hcase p hp
    obtain ⟨q', hq', hqj, hqc, hqv, _⟩ := hcase q hq
    rw [hpv] at hg
    rw [hqv]
    refine h.obs.apart p' hp' q' hq' (fun he => hne ?_) g hg
    rcases hpc with ⟨h1, h2⟩ | ⟨h1, h2⟩ <;> rcases hqc with ⟨h3, h4⟩ | ⟨h3, h4⟩
    · rw [h2, h4]
    · exact absurd (by rw [← he, h1]) h3
    · exact absurd (by rw [he, h3]) h1
    · rw [h2, h4, he]
  · obtain ⟨p', hp', hpj, hpc, hpv, hp2⟩ := hcase p hp
    obtain ⟨q', hq', hqj, hqc, hqv, hq2⟩ := hcase q hq
    have hid : p'.1 = q'.1 := by
      rcases hpc with ⟨h1, h2⟩ | ⟨h1, h2⟩ <;> rcases hqc with ⟨h3, h4⟩ | ⟨h3, h4⟩
      · rw [h1, h3]
      · rw [h2, h4] at he; exact absurd he.symm hqj
      · rw [h2, h4] at he; exact absurd he hpj
      · rw [← h2, ← h4, he]
    have := h.obs.uniq p' hp' q' hq' hid
    rw [← this, ← hp2] at hq2
    exact Prod.ext he hq2.symm
  · obtain ⟨q, hq, _, _, h1, _⟩ := hcase p hp
    rw [h1] at hg
    exact h.kown q hq g hg
  · have : k ≠ j := Cx.free_ne hfx k hk
    rw [ho k this]
    exact h.fixed k hk
theorem AWP.rename {c : Code} (i j : Nat) (σ' : Obs) (hij : i ≠ j) (hfx : cx.free j = true) (hσ : ∀ p ∈ σ', (∃ q ∈ σ, q.1 = i ∧ p = (j, q.2.ren i j)) ∨ ∃ q ∈ σ, q.1 ≠ i ∧ q.1 ≠ j ∧ p = (q.1, q.2.ren i j)) (k : AWP cx c (fun t => (e t).ren i j) σ' Q) : AWP cx c e σ Q :=
  fun a w ⟨F, ρ, hr⟩ => by
    obtain ⟨ρ', h⟩ := hr.rename hij hfx σ' hσ
    exact k a w ⟨F, ρ', h⟩
end
/-- A function that is handed on is a closure that captured nothing. -/
theorem ArgOk.fn {e : Env} {x : Operand} {f : Fn} (h : e.ev x = .d (.v (.func f #[] #[]))) : ArgOk e x (.clo f []) := ⟨_, h, fun F w y hy => by
  rw [rep_v hy]
  exact .clo f [] [] rfl (fun i h1 => absurd h1 (by simp))⟩
end Go.Proofs.YtnapkooefpkicaaGreatDoor


namespace Go.Proofs.YtnapkooefpkicaaGreatDoor
open Go.RowKit
set_option linter.unusedVariables false

/-- f returns a struct whose parts are as ss', some of them own objects; the object vid is that struct. -/
def XSCall (P : Program) (f : FuncId) (ss : List S) (σ σ' : Obs) (chg : Nat → Bool) (s : S) : Prop := Enters P f ∧
  ∀ (F : Nat → Prop) (ρ : Nat → Value) (B : Nat) (w : World) (vs : List Value), (∀ b, F b → b < w.heap.size) → B ≤ w.heap.size → ObsOk B F ρ w σ → RepSL F ρ w vs ss →
    Calls P f vs.toArray w fun e w' => ∃ v F' ρ', e = .returned v ∧ RepS F' ρ' w' v s ∧ XEnd B F ρ w σ F' ρ' w' σ' chg

theorem args_R {P : Program} {n : Nat} {ss : List S} {σ : Obs} {chg : Nat → Bool} {F : Nat → Prop} {ρ : Nat → Value} {B : Nat} {w : World} {vs : List Value} {m : Nat} (hN : m = n) (hle : ss.length ≤ n) (hF : ∀ b, F b → b < w.heap.size) (hB : B ≤ w.heap.size) (hσ : ObsOk B F ρ w σ) (hv : RepSL F ρ w vs ss) :
    R ⟨P, n, B, w, F, (fun b => w.heap.size ≤ b ∨ ownB σ ρ b), fun i => !(chg i), ρ⟩ (Env.argsS 0 ss) σ { tmps := vs.toArray ++ Array.replicate (m - vs.toArray.size) undef, defers := [] } w := by
  refine ⟨F, ρ, ?_, rfl, hF, fun b hb => hb, fun b hb => .inl hb, Kept.refl _ _, hB, fun t => ?_, hσ, fun b hb => .inl hb, fun p hp g hg => .inr ⟨p, hp, hg⟩, fun i _ => rfl⟩
  · simp [hN, hv.1]; omega
  · by_cases ht : t < ss.length
    · have := Env.argsS_get ss 0 t ht
      rw [Nat.zero_add] at this
      rw [this]
      have hvt : t < vs.length := by rw [hv.1]; exact ht
      have : (vs.toArray ++ Array.replicate (m - vs.toArray.size) undef).getD t undef = vs[t] := by
        rw [Array.getD_eq_getD_getElem?, Array.getElem?_append_left (by simpa using hvt)]
        simp [hvt]
      rw [this]
      exact hv.2 t hvt ht
    · have := Env.argsS_out ss 0 t (by omega)
      rw [Nat.zero_add] at this
      rw [this]
      exact .d (.any _)
/-- What a result in a cell comes to. -/
theorem res_cell {cx : Cx} {F : Nat → Prop} {ρ : Nat → Value} {e : Env} {σ : Obs} {a : Act} {w : World} {fn : Func} {b t size cid : Nat} {ss : List S} (h : R0 cx F ρ e σ a w) (hr : fn.results = #[.cell b t]) (hT : AggT cx.P t size) (he : e b = .ptr cid 0) (hm : (cid, Ob.cells ss) ∈ σ) (hl : ss.length = size) :
    ∃ cs : List Value, (results fn a.tmps).run cx.P w = .ok (.agg cs.toArray) w ∧ cs.length = ss.length ∧ ∀ j (h1 : j < cs.length) (h2 : j < ss.length), cs[j].oneCell' = true ∧ RepS F ρ w cs[j] ss[j] := by
  obtain ⟨g, ty, cs, k1, k2, k3, k4, k5, k6⟩ := h.obs.ok _ hm
  dsimp only at k1
  have hv : a.tmps.getD b undef = .pointer (some ⟨g, 0, none⟩) := by
    have := h.env b
    rw [he] at this
    exact ptr_at this (by rw [k1]; rfl)
  have hcells : (loadCells ⟨g, 0, none⟩ cs.length).run cx.P w = .ok cs.toArray w := run_loadCells_list w _ cs (fun j v hj => by
    rw [addr_add, cell_of_row w g (0 + j) cs.toArray ty (0, 0) k4]
    simpa using hj)
  have hn : cs.length = size := by omega
  rw [hn] at hcells
  refine ⟨cs, ?_, k5, k6⟩
  have h1 : (List.mapM (resSem a.tmps) [ResultVar.cell b t] : Sem (List Value)).run cx.P w = .ok [.agg cs.toArray] w := by
    rw [List.mapM_cons, Sem.run_bind]
    have h2 : (resSem a.tmps (.cell b t)).run cx.P w = .ok (.agg cs.toArray) w := by
      simp only [resSem, hv, asAddr, Sem.run_bind, Sem.run_pure, Result.andThen_ok, loadVar, hT.agg w, if_true, hT.size w, hcells]
    rw [h2]
    rfl
  unfold results
  rw [hr, Sem.run_bind]
  have h2 : (Array.mapM (fun r => match r with | ResultVar.tmp t => pure (a.tmps.getD t undef) | ResultVar.cell b t => do loadVar t (← asAddr (a.tmps.getD b undef))) [ResultVar.cell b t].toArray : Sem (Array Value)).run cx.P w = .ok [Value.agg cs.toArray].toArray w := by
    rw [List.mapM_toArray, Sem.run_map]
    have h4 : (List.mapM (fun r => match r with | ResultVar.tmp t => pure (a.tmps.getD t undef) | ResultVar.cell b t => do loadVar t (← asAddr (a.tmps.getD b undef))) [ResultVar.cell b t] : Sem (List Value)).run cx.P w = .ok [.agg cs.toArray] w := h1
    rw [h4]
    rfl
  exact (congrArg (fun r => Result.andThen r _) h2).trans rfl
def RetXC (b : Nat) (ds : List D) (σ' : Obs) : Post := fun ex e σ => match ex with
  | .ret => (∃ cid, e b = .ptr cid 0 ∧ (cid, Ob.cells (ds.map S.d)) ∈ σ) ∧ AllIn σ σ'
  | .normal => (∃ cid, e b = .ptr cid 0 ∧ (cid, Ob.cells (ds.map S.d)) ∈ σ) ∧ AllIn σ σ'
  | _ => False
theorem xcall_ofC {P : Program} {f : FuncId} {fn : Func} {c : Code} {n b t size : Nat} {ss : List S} {σ σ' : Obs} {chg : Nat → Bool} {ds : List D} (hf : P.funcs[f]? = some fn) (hb : fn.body = some c) (hn : (fn.name == "runtime.NumGoroutine") = false) (hN : fn.ntmps = n)
    (hr : fn.results = #[.cell b t]) (hT : AggT P t size) (hl : ds.length = size) (hle' : Nat.ble ss.length n = true)
    (h : ∀ B w0 F0 fr ρ0, AWP ⟨P, n, B, w0, F0, fr, fun i => !(chg i), ρ0⟩ c (Env.argsS 0 ss) σ (RetXC b ds σ')) : XCall P f ss σ σ' chg (.agg ds) := by
  have hle : ss.length ≤ n := Nat.le_of_ble_eq_true hle'
  refine ⟨Enters.of hf hn (by rw [hb]; rfl), fun F ρ B w vs hF hB hσ hv => ?_⟩
  refine calls_of_wp hf hb ?_
  refine wp_mono (h _ _ _ _ _ _ _ (args_R hN hle hF hB hσ hv)) ?_
  rintro ex a w' ⟨e', σe, hq, F', ρ', hr'⟩
  have hends : (∃ cid, e' b = .ptr cid 0 ∧ (cid, Ob.cells (ds.map S.d)) ∈ σe) ∧ AllIn σe σ' → bodyPost P fn (fun e w' => ∃ v F' ρ', e = .returned v ∧ Rep F' w' v (.agg ds) ∧ XEnd B F ρ w σ F' ρ' w' σ' chg) .ret a w' := by
    rintro ⟨⟨cid, h1, h2⟩, hin⟩
    have hin := hin.mem
    obtain ⟨cs, k1, k2, k3⟩ := res_cell hr' hr hT h1 h2 (by simpa using hl)
    refine ⟨hr'.defers, _, k1, _, F', ρ', rfl, ?_, ?_⟩
    · refine .agg cs ds (by simpa using k2) (fun i hi => (k3 i hi (by rw [← k2]; exact hi)).1) (fun i hi hi2 => ?_)
      have := (k3 i hi (by rw [← k2]; exact hi)).2
      rw [List.getElem_map] at this
      exact repS_d this
    · exact ⟨hr'.base, hr'.new, hr'.lt, hr'.below, hr'.obs.sub hin, fun p hp => hr'.kown p (hin p hp), fun i hi => hr'.fixed i (by show (!(chg i)) = true; rw [hi]; rfl)⟩
  cases ex with
  | ret => exact hends hq
  | normal => exact hends hq
  | exit id => exact hq.elim
  | goto l => exact hq.elim
  | panic c => exact hq.elim
  | outgrown => exact hq.elim
def RetXV (b vid : Nat) (ss' : List S) (σr : Obs) : Post := fun ex e σ => match ex with
  | .ret => (∃ cid ssr, e b = .ptr cid 0 ∧ (cid, Ob.cells ssr) ∈ σ ∧ ssr.map (S.kill vid) = ss' ∧ Obs.fresh vid σr = true ∧ Obs.kill vid σr = σr) ∧ AllIn σ σr
  | .normal => (∃ cid ssr, e b = .ptr cid 0 ∧ (cid, Ob.cells ssr) ∈ σ ∧ ssr.map (S.kill vid) = ss' ∧ Obs.fresh vid σr = true ∧ Obs.kill vid σr = σr) ∧ AllIn σ σr
  | _ => False
/-- Its result: a struct with own parts, out of a cell. -/
theorem xval_of {P : Program} {f : FuncId} {fn : Func} {c : Code} {n b t size vid : Nat} {ss ss' : List S} {σ σr : Obs} {chg : Nat → Bool} (hf : P.funcs[f]? = some fn) (hb : fn.body = some c) (hn : (fn.name == "runtime.NumGoroutine") = false) (hN : fn.ntmps = n)
    (hr : fn.results = #[.cell b t]) (hT : AggT P t size) (hl : ss'.length = size) (hle' : Nat.ble ss.length n = true) (hvid : chg vid = true)
    (h : ∀ B w0 F0 fr ρ0, AWP ⟨P, n, B, w0, F0, fr, fun i => !(chg i), ρ0⟩ c (Env.argsS 0 ss) σ (RetXV b vid ss' σr)) : XSCall P f ss σ ((vid, .val ss') :: σr) chg (.own vid) := by
  have hle : ss.length ≤ n := Nat.le_of_ble_eq_true hle'
  refine ⟨Enters.of hf hn (by rw [hb]; rfl), fun F ρ B w vs hF hB hσ hv => ?_⟩
  refine calls_of_wp hf hb ?_
  refine wp_mono (h _ _ _ _ _ _ _ (args_R hN hle hF hB hσ hv)) ?_
  rintro ex a w' ⟨e', σe, hq, F', ρ', hr'⟩
  have hends : (∃ cid ssr, e' b = .ptr cid 0 ∧ (cid, Ob.cells ssr) ∈ σe ∧ ssr.map (S.kill vid) = ss' ∧ Obs.fresh vid σr = true ∧ Obs.kill vid σr = σr) ∧ AllIn σe σr →
      bodyPost P fn (fun e w' => ∃ v F' ρ', e = .returned v ∧ RepS F' ρ' w' v (.own vid) ∧ XEnd B F ρ w σ F' ρ' w' ((vid, .val ss') :: σr) chg) .ret a w' := by
    rintro ⟨⟨cid, ssr, h1, h2, h3, h4, h5⟩, hin⟩
    have hin := hin.mem
    have hls : ssr.length = size := by rw [← hl, ← h3]; simp
    obtain ⟨cs, k1, k2, k3⟩ := res_cell hr' hr hT h1 h2 hls
    have hT := hr'.turn (ρ' := fun j => if j = vid then .agg cs.toArray else ρ' j) (id := vid) (ob := .val ss') (row := none) (w' := w') (F' := F') (fun j hj => by simp [hj])
      ⟨rfl, rfl, rfl, Nat.le_refl _, fun _ _ _ => rfl⟩ (by unfold Cx.free; dsimp only; rw [hvid]; rfl) (fun g hg => by simp at hg) (fun b hb => hb) (fun b hb => .inl hb) hr'.lt
      ⟨cs, by simp, by rw [← h3]; simpa using k2, fun j hj hj' => by
        subst h3
        rw [List.getElem_map]
        have hj2 : j < ssr.length := by simpa using hj'
        exact ⟨(k3 j hj hj2).1, (k3 j hj hj2).2.kill vid (fun i hi => by simp [hi])⟩⟩ (fun g hg => by simp [blk] at hg) ((vid, .val ss') :: σr) (fun p hp => by
        rcases List.mem_cons.1 hp with rfl | hp
        · exact .inl rfl
        · rw [← h5] at hp
          obtain ⟨q, hq, rfl⟩ := Obs.mem_kill hp
          exact .inr ⟨q, hin q hq, Obs.fresh_spec h4 q hq, rfl⟩)
    refine ⟨hr'.defers, _, k1, _, F', _, rfl, ?_, hT.base, hT.new, hT.lt, hT.below, hT.obs, hT.kown, fun i hi => hT.fixed i (by show (!(chg i)) = true; rw [hi]; rfl)⟩
    have := RepS.own (F := F') (ρ := fun j => if j = vid then Value.agg cs.toArray else ρ' j) (w := w') vid
    simpa using this
  cases ex with
  | ret => exact hends hq
  | normal => exact hends hq
  | exit id => exact hq.elim
  | goto l => exact hq.elim
  | panic c => exact hq.elim
  | outgrown => exact hq.elim
section
variable {cx : Cx} {ops : Array Oper} {o : Oper} {rest : List Oper} {e : Env} {σ : Obs} {Q : Post}
theorem AOps.callXS {f : FuncId} {xs : List Operand} {ts : Array TypeId} {ss : List S} {σc σ' : Obs} {chg : Nat → Bool} {s : S} (hg : o.guard = none) (hd : DstOk cx.N o)
    (ho : o.op = .call { callee := .value (.func f), args := xs.toArray, argTypes := ts }) (ha : ArgsS e xs ss) (h : XSCall cx.P f ss σc σ' chg s) (hin : AllIn σ σc)
    (h1 : Obs.allIds (fun i => !(chg i)) (Obs.dels σc σ) = true) (h2 : Obs.allIds (fun i => Obs.allIds (fun j => !(Nat.beq i j)) (Obs.dels σc σ)) σ' = true) (h3 : ∀ i, chg i = true → cx.fixp i = false)
    (k : AOps cx ops rest ((e.killP chg).put o.dst s) (Obs.join σ' (Obs.killP chg (Obs.dels σc σ))) Q) : AOps cx ops (o :: rest) e σ Q := by
  intro a w ⟨F, ρ, hr⟩
  have h4 := h.2 F ρ cx.B w _ hr.lt hr.hB (hr.obs.sub hin.mem) (ArgsS.rep hr.env ha)
  have h5 := h.1 (xs.map a.eval).toArray w
  have hx : (execOp a.eval o).run cx.P w = .ok (.enter f (xs.map a.eval).toArray) w := by
    unfold execOp
    simp only [ho, resolve, Deferred.ofValue, Act.eval, invoke, Sem.run_bind, Sem.run_pure, Result.andThen_ok]
    simpa using h5
  refine wpList_plain hg fun K hK => ?_
  unfold Oper.wp
  rw [hx]
  refine h4.mono fun _ w' ⟨v, F', ρ', he, hv, hE⟩ => ?_
  subst he
  exact hK _ _ (k _ _ ⟨F', ρ', (hr.after hin.mem hE h1 h2 h3).put (Ext.refl hE.lt) hv hd⟩)
end
end Go.Proofs.YtnapkooefpkicaaGreatDoor


namespace Go.Proofs.YtnapkooefpkicaaGreatDoor
open Go.RowKit
set_option linter.unusedVariables false

/-- One step; sl: who reads objects, ef: who writes them. -/
def HStep (cx : Cx) (ops : Array Oper) (sl ef : Nat → Bool) (I : Obs → Prop) (k : Nat) (o : Oper) (e : Env) (σ : Obs) (e' : Env) (σ' : Obs) : Prop :=
  (GW ops o e true ∧ ∃ s, ((sl k = true ∧ AOp cx.P cx.B ops o e σ s) ∨ (I σ ∧ ∀ τ, I τ → AOp cx.P cx.B ops o e τ s)) ∧ e' = e.put o.dst s ∧ σ' = σ) ∨
  (GW ops o e false ∧ e' = e.put o.dst (.d (.v undef)) ∧ σ' = σ) ∨
  (GW ops o e true ∧ ef k = true ∧ o.dst = none ∧ EOp cx ops o e σ σ' ∧ e' = e ∧ I σ ∧ I σ')

def HRun (cx : Cx) (ops : Array Oper) (sl ef : Nat → Bool) (I : Obs → Prop) : Nat → List Oper → Env → Obs → (Env → Obs → Prop) → Prop
  | _, [], e, σ, Q => Q e σ
  | k, o :: l, e, σ, Q => DstOk cx.N o ∧ ∃ e' σ', HStep cx ops sl ef I k o e σ e' σ' ∧ HRun cx ops sl ef I (k + 1) l e' σ' Q

def anyH (cx : Cx) (ops : Array Oper) (sl ef : Nat → Bool) (I : Obs → Prop) (Q : Env → Obs → Prop) : Nat → Array Bool → Env → Obs → Prop
  | 0, listed, e, σ => Region.ready .any ops listed = [] ∧ Q e σ
  | fuel + 1, listed, e, σ => (Region.ready .any ops listed = [] → Q e σ) ∧
      ∀ i ∈ Region.ready .any ops listed, ∀ o, ops[i]? = some o → ∃ e' σ', HStep cx ops sl ef I i o e σ e' σ' ∧ anyH cx ops sl ef I Q fuel (listed.setIfInBounds i true) e' σ'

theorem anyH_first {cx : Cx} {ops : Array Oper} {sl ef : Nat → Bool} {I : Obs → Prop} (hse : ∀ k, ef k = true → sl k = true) {Q : Env → Obs → Prop} {i : Nat} {oi : Oper} (hi : ops[i]? = some oi) (late : Nat → Bool)
    (hclos : ∀ j oj, ops[j]? = some oj → late j = true → ∃ e ∈ oj.after, Region.binds .any e = true ∧ (e.on = i ∨ late e.on = true)) :
    ∀ (fuel : Nat) (listed : Array Bool) (e : Env) (σ : Obs) (e1 : Env) (σ1 : Obs), (∀ j, late j = true → listed.getD j false = false) →
      (∀ j oj, ops[j]? = some oj → j ≠ i → listed.getD j true = false → (∀ e ∈ oj.after, Region.binds .any e = true → e.on ≠ i) → oi.apart ops oj = true ∧ (late j = false → (ef i = false ∨ sl j = false) ∧ (sl i = false ∨ ef j = false))) →
      i ∈ Region.ready .any ops listed → HStep cx ops sl ef I i oi e σ e1 σ1 → anyH cx ops sl ef I Q fuel (listed.setIfInBounds i true) e1 σ1 → anyH cx ops sl ef I Q (fuel + 1) listed e σ := by
  intro fuel
  induction fuel with
  | zero =>
    intro listed e σ e1 σ1 _ _ hr hy H
    refine ⟨fun h => (by rw [h] at hr; cases hr), fun j hj o ho => ?_⟩
    by_cases hji : j = i
    · subst hji
      rw [hi] at ho; cases ho
      exact ⟨e1, σ1, hy, H⟩
    · have := ready_mono hj hji
      rw [H.1] at this
      cases this
  | succ fuel ih =>
    intro listed e σ e1 σ1 hlate hfree hr hy H
    refine ⟨fun h => (by rw [h] at hr; cases hr), fun j hj oj hoj => ?_⟩
    by_cases hji : j = i
    · subst hji
      rw [hi] at hoj; cases hoj
      exact ⟨e1, σ1, hy, H⟩
    · obtain ⟨e2, σ2, h1, h2⟩ := H.2 j (ready_mono hj hji) oj hoj
      obtain ⟨hjun, oj', hoj', hall⟩ := mem_ready.1 hj
      rw [hoj] at hoj'; cases hoj'
      have hnot : ∀ e ∈ oj.after, Region.binds .any e = true → e.on ≠ i := fun e he hb heq => by
        have h1 := hall e he hb
        have h0 := (mem_ready.1 hr).1
        rw [heq] at h1
        rcases Nat.lt_or_ge i listed.size with h' | h'
        · simp [h'] at h0 h1; rw [h0] at h1; cases h1
        · simp [Array.getElem?_eq_none h'] at h1
      have hjl : late j = false := by
        cases hl : late j with
        | false => rfl
        | true =>
          obtain ⟨e, he, hb, hh⟩ := hclos j oj hoj hl
          rcases hh with hh | hh
          · exact absurd hh (hnot e he hb)
          · have h3 := hall e he hb
            rw [hlate _ hh] at h3
            simp at h3
      obtain ⟨hap, hss⟩ := hfree j oj hoj hji hjun hnot
      obtain ⟨hs1, hs2⟩ := hss hjl
      obtain ⟨a1, a2, a3⟩ := Oper.apart_spec hap
      have fin : ∀ ej σj, HStep cx ops sl ef I j oj e σ ej σj → HStep cx ops sl ef I i oi ej σj e2 σ2 → ∃ e' σ', HStep cx ops sl ef I j oj e σ e' σ' ∧ anyH cx ops sl ef I Q (fuel + 1) (listed.setIfInBounds j true) e' σ' := fun ej σj hsj hsi => by
        refine ⟨ej, σj, hsj, ?_⟩
        refine ih (listed.setIfInBounds j true) ej σj e2 σ2 (fun k hk => ?_) (fun k ok hk hki hun hno => ?_) (ready_mono hr (Ne.symm hji)) hsi ?_
        · have hkj : j ≠ k := fun h => by rw [h, hk] at hjl; simp at hjl
          rw [getD_set_ne false hkj]
          exact hlate k hk
        · refine hfree k ok hk hki ?_ hno
          by_cases hjk : j = k
          · subst hjk; exact hjun
          · rw [getD_set_ne true hjk] at hun; exact hun
        · rw [Array.setIfInBounds_comm _ _ hji]
          exact h2
      rcases hy with ⟨hgi, s, hopi, rfl, rfl⟩ | ⟨hgi, rfl, rfl⟩ | ⟨hgi, hefi, hdi, hopi, rfl, hi1, hi2⟩
      · rcases h1 with ⟨hgj, sj, hopj, rfl, rfl⟩ | ⟨hgj, rfl, rfl⟩ | ⟨hgj, hefj, hdj, hopj, rfl, hj1, hj2⟩
        · refine fin (e.put oj.dst sj) _ (.inl ⟨hgj.same fun t ht => (put_looks a1 t ht).symm, sj, ?_, rfl, rfl⟩) (.inl ⟨hgi.same (put_looks a3), s, ?_, (Env.put_comm e oi.dst oj.dst s sj a2), rfl⟩)
          · exact hopj.imp (fun h => ⟨h.1, h.2.same fun t ht => (put_looks a1 t ht).symm⟩) (fun h => ⟨h.1, fun τ hτ => (h.2 τ hτ).same fun t ht => (put_looks a1 t ht).symm⟩)
          · exact hopi.imp (fun h => ⟨h.1, h.2.same (put_looks a3)⟩) (fun h => ⟨h.1, fun τ hτ => (h.2 τ hτ).same (put_looks a3)⟩)
        · refine fin (e.put oj.dst (.d (.v undef))) _ (.inr (.inl ⟨hgj.same fun t ht => (put_looks a1 t ht).symm, rfl, rfl⟩)) (.inl ⟨hgi.same (put_looks a3), s, ?_, (Env.put_comm e oi.dst oj.dst s _ a2), rfl⟩)
          exact hopi.imp (fun h => ⟨h.1, h.2.same (put_looks a3)⟩) (fun h => ⟨h.1, fun τ hτ => (h.2 τ hτ).same (put_looks a3)⟩)
        · have hsi : sl i = false := by
            rcases hs2 with h | h
            · exact h
            · rw [hefj] at h; simp at h
          refine fin e σ2 (.inr (.inr ⟨hgj.same fun t ht => (put_looks a1 t ht).symm, hefj, hdj, hopj.same fun t ht => (put_looks a1 t ht).symm, rfl, hj1, hj2⟩)) (.inl ⟨hgi, s, .inr ?_, rfl, rfl⟩)
          rcases hopi with h | h
          · rw [h.1] at hsi; simp at hsi
          · exact ⟨hj2, h.2⟩
      · rcases h1 with ⟨hgj, sj, hopj, rfl, rfl⟩ | ⟨hgj, rfl, rfl⟩ | ⟨hgj, hefj, hdj, hopj, rfl, hj1, hj2⟩
        · refine fin (e.put oj.dst sj) _ (.inl ⟨hgj.same fun t ht => (put_looks a1 t ht).symm, sj, ?_, rfl, rfl⟩) (.inr (.inl ⟨hgi.same (put_looks a3), (Env.put_comm e oi.dst oj.dst _ sj a2), rfl⟩))
          exact hopj.imp (fun h => ⟨h.1, h.2.same fun t ht => (put_looks a1 t ht).symm⟩) (fun h => ⟨h.1, fun τ hτ => (h.2 τ hτ).same fun t ht => (put_looks a1 t ht).symm⟩)
        · exact fin (e.put oj.dst (.d (.v undef))) _ (.inr (.inl ⟨hgj.same fun t ht => (put_looks a1 t ht).symm, rfl, rfl⟩)) (.inr (.inl ⟨hgi.same (put_looks a3), (Env.put_comm e oi.dst oj.dst _ _ a2), rfl⟩))
        · exact fin e σ2 (.inr (.inr ⟨hgj.same fun t ht => (put_looks a1 t ht).symm, hefj, hdj, hopj.same fun t ht => (put_looks a1 t ht).symm, rfl, hj1, hj2⟩)) (.inr (.inl ⟨hgi, rfl, rfl⟩))
      · have hsj : sl j = false := by
          rcases hs1 with h | h
          · rw [hefi] at h; simp at h
          · exact h
        rcases h1 with ⟨hgj, sj, hopj, rfl, rfl⟩ | ⟨hgj, rfl, rfl⟩ | ⟨hgj, hefj, hdj, hopj, rfl, hj1, hj2⟩
        · have hall : ∀ τ, I τ → AOp cx.P cx.B ops oj e1 τ sj := by
            rcases hopj with h | h
            · rw [h.1] at hsj; simp at hsj
            · exact h.2
          exact fin (e1.put oj.dst sj) σ (.inl ⟨hgj, sj, .inr ⟨hi1, hall⟩, rfl, rfl⟩) (.inr (.inr ⟨hgi.same (put_looks a3), hefi, hdi, hopi.same (put_looks a3), rfl, hi1, hi2⟩))
        · exact fin (e1.put oj.dst (.d (.v undef))) σ (.inr (.inl ⟨hgj, rfl, rfl⟩)) (.inr (.inr ⟨hgi.same (put_looks a3), hefi, hdi, hopi.same (put_looks a3), rfl, hi1, hi2⟩))
        · rw [hse j hefj] at hsj; simp at hsj

theorem anyH_lex {cx : Cx} {ops : Array Oper} {sl ef : Nat → Bool} {I : Obs → Prop} (hse : ∀ k, ef k = true → sl k = true) {Q : Env → Obs → Prop} : ∀ (l : List Oper) (k : Nat) (listed : Array Bool) (e : Env) (σ : Obs), (∀ j, l[j]? = ops[k + j]?) →
    Region.lexFrom .any ops l.length k listed = true → Region.sensFrom ops sl ef l.length k listed = true → HRun cx ops sl ef I k l e σ Q → anyH cx ops sl ef I Q l.length listed e σ
  | [], _, _, _, _, _, hB, _, h => ⟨by simpa [Region.lexFrom] using hB, h⟩
  | o :: l, k, listed, e, σ, hl, hB, hS, h => by
    have h0 : ops[k]? = some o := by simpa using (hl 0).symm
    simp only [List.length_cons, Region.lexFrom, Bool.and_eq_true] at hB
    simp only [List.length_cons, Region.sensFrom, Bool.and_eq_true] at hS
    obtain ⟨⟨hr, hf⟩, hB'⟩ := hB
    have hl' : ∀ j, l[j]? = ops[k + 1 + j]? := fun j => by have := hl (j + 1); simpa [Nat.add_assoc, Nat.add_comm 1 j] using this
    obtain ⟨_, e', σ', hs, hK⟩ := h
    have hgo := anyH_lex hse l (k + 1) _ _ _ hl' hB' hS.2 hK
    by_cases hc : (sl k || ef k) = true
    · have h1 := hS.1
      rw [if_pos hc] at h1
      obtain ⟨k1, k2, k3⟩ := Region.sensFree_spec h1 (fun j hj => by
        unfold Region.lateB at hj
        simp only [Bool.and_eq_true, Nat.blt_eq] at hj
        exact hj.1)
      exact anyH_first hse h0 _ k1 l.length listed e σ e' σ' k2 (fun j oj hj hji hun hno => ⟨Region.free_spec h0 hf j oj hj hji hun hno, fun hl => k3 j oj hj hji hun hl⟩) (by simpa using hr) hs hgo
    · have h2 : sl k = false ∧ ef k = false := by simpa using hc
      exact anyH_first hse h0 (fun _ => false) (fun _ _ _ h => by simp at h) l.length listed e σ e' σ' (fun _ h => by simp at h) (fun j oj hj hji hun hno => ⟨Region.free_spec h0 hf j oj hj hji hun hno, fun _ => ⟨.inl h2.2, .inl h2.1⟩⟩) (by simpa using hr) hs hgo

theorem HRun.dsts {cx : Cx} {ops : Array Oper} {sl ef : Nat → Bool} {I : Obs → Prop} {Q : Env → Obs → Prop} : ∀ (l : List Oper) (k : Nat) (e : Env) (σ : Obs), HRun cx ops sl ef I k l e σ Q → ∀ o ∈ l, DstOk cx.N o
  | [], _, _, _, _, o, ho => by cases ho
  | x :: l, k, e, σ, h, o, ho => by
    obtain ⟨h1, _, _, _, h2⟩ := h
    cases ho with
    | head => exact h1
    | tail _ ho => exact HRun.dsts l _ _ _ h2 o ho

theorem wpAny_of_H {cx : Cx} {ops : Array Oper} {sl ef : Nat → Bool} {I : Obs → Prop} {Q : Post} (hd : ∀ o ∈ ops.toList, DstOk cx.N o) : ∀ (fuel : Nat) (listed : Array Bool) (e : Env) (σ : Obs) (a : Act) (w : World), R cx e σ a w →
    anyH cx ops sl ef I (fun e σ => Q .normal e σ) fuel listed e σ → wpAny cx.P .any ops (lift cx Q) fuel listed a w
  | 0, _, e, σ, _, _, hr, h => ⟨h.1, e, σ, h.2, hr⟩
  | fuel + 1, listed, e, σ, a, w, hr, h => by
    refine ⟨fun h0 => ⟨e, σ, h.1 h0, hr⟩, fun i hi => ?_⟩
    obtain ⟨_, o, ho, _⟩ := mem_ready.1 hi
    obtain ⟨e', σ', hs, hk⟩ := h.2 i hi o ho
    have hdo : DstOk cx.N o := hd o (Array.mem_toList_iff.2 (Array.mem_of_getElem? ho))
    unfold wpOp
    simp only [ho]
    obtain ⟨F, ρ, hr⟩ := hr
    rcases hs with ⟨hg, s, hop, rfl, rfl⟩ | ⟨hg, rfl, rfl⟩ | ⟨hg, _, hdst, hop, rfl, _, _⟩
    · rw [if_pos (hg.wanted (fun t _ => hr.env t))]
      have hop' : AOp cx.P cx.B ops o e σ' s := by
        rcases hop with h | h
        · exact h.2
        · exact h.2 _ h.1
      refine .inl (wp_to ?_ (fun _ _ _ => False.elim) (hop' F ρ w a hr.lt (fun t _ => hr.env t) hr.obs))
      rintro a' w' ⟨v, F', rfl, hv, he⟩
      exact wpAny_of_H hd fuel _ _ _ _ _ ⟨F', ρ, hr.put he hv hdo⟩ hk
    · rw [if_neg (by rw [hg.wanted (fun t _ => hr.env t)]; simp)]
      exact wpAny_of_H hd fuel _ _ _ _ _ ⟨F, ρ, hr.put (Ext.refl hr.lt) repS_undef hdo⟩ hk
    · rw [if_pos (hg.wanted (fun t _ => hr.env t))]
      refine .inl (wp_to ?_ (fun _ _ _ => False.elim) (hop F ρ a w e' hr (fun t _ => hr.env t)))
      rintro a' w' ⟨rfl, h3⟩
      obtain ⟨F', ρ', h4⟩ := h3 e' hr
      exact wpAny_of_H hd fuel _ _ _ _ _ ⟨F', ρ', h4⟩ hk

/-- A region that draws its order and writes, walked once, in the order of the text. -/
theorem AWP.drawH {cx : Cx} {id : Nat} {l : List Oper} {e : Env} {σ : Obs} {Q : Post} (sl ef : Nat → Bool) (I : Obs → Prop) (hse : ∀ k, ef k = true → sl k = true) (hm : cx.P.follows .mixedOrders = true) (hB : Region.lexB .any l.toArray = true)
    (hS : Region.sensFrom l.toArray sl ef l.length 0 (Array.replicate l.length false) = true) (h : HRun cx l.toArray sl ef I 0 l e σ (fun e σ => Q .normal e σ)) : AWP cx (.region id l.toArray true) e σ Q := by
  intro a w ⟨F, ρ, hr⟩
  simp only [Region.lexB, Bool.and_eq_true] at hB
  have h1 := anyH_lex hse l 0 (Array.replicate l.toArray.size false) e σ (by simp) (by simpa using hB.2) (by simpa using hS) h
  exact wp_region_any hm (wpAny_of_H (by simpa using HRun.dsts l 0 e σ h) _ _ e σ a _ ⟨F, ρ, hr.drew⟩ (by simpa using h1))
section
variable {cx : Cx} {ops : Array Oper} {o : Oper} {rest : List Oper} {e : Env} {σ : Obs} {sl ef : Nat → Bool} {I : Obs → Prop} {n : Nat} {l : List Oper} {Q : Env → Obs → Prop}
theorem HRun.nil (h : Q e σ) : HRun cx ops sl ef I n [] e σ Q := h
/-- It reads no object. -/
theorem HRun.step {s : S} {t : Nat} (hg : GW ops o e true) (ht : o.dst = some t) (hd : Nat.blt t cx.N = true) (hI : I σ) (h : ∀ τ, I τ → AOp cx.P cx.B ops o e τ s) (k : HRun cx ops sl ef I (n + 1) l (e.put (some t) s) σ Q) : HRun cx ops sl ef I n (o :: l) e σ Q :=
  ⟨by unfold DstOk; rw [ht]; exact hd, _, _, .inl ⟨hg, s, .inr ⟨hI, h⟩, rfl, rfl⟩, by rw [ht]; exact k⟩
theorem HRun.cons {s : S} (hg : GW ops o e true) (ht : o.dst = none) (hI : I σ) (h : ∀ τ, I τ → AOp cx.P cx.B ops o e τ s) (k : HRun cx ops sl ef I (n + 1) l e σ Q) : HRun cx ops sl ef I n (o :: l) e σ Q :=
  ⟨by unfold DstOk; rw [ht], _, _, .inl ⟨hg, s, .inr ⟨hI, h⟩, rfl, rfl⟩, by rw [ht]; exact k⟩
/-- It reads objects. -/
theorem HRun.stepS {s : S} {t : Nat} (hs : sl n = true) (hg : GW ops o e true) (ht : o.dst = some t) (hd : Nat.blt t cx.N = true) (h : AOp cx.P cx.B ops o e σ s) (k : HRun cx ops sl ef I (n + 1) l (e.put (some t) s) σ Q) : HRun cx ops sl ef I n (o :: l) e σ Q :=
  ⟨by unfold DstOk; rw [ht]; exact hd, _, _, .inl ⟨hg, s, .inl ⟨hs, h⟩, rfl, rfl⟩, by rw [ht]; exact k⟩
theorem HRun.pass {t : Nat} (hg : GW ops o e false) (ht : o.dst = some t) (hd : Nat.blt t cx.N = true) (k : HRun cx ops sl ef I (n + 1) l (e.put (some t) (.d (.v undef))) σ Q) : HRun cx ops sl ef I n (o :: l) e σ Q :=
  ⟨by unfold DstOk; rw [ht]; exact hd, _, _, .inr (.inl ⟨hg, rfl, rfl⟩), by rw [ht]; exact k⟩
theorem HRun.split (t : Nat) {b : Bool} (ht : e t = .d (.v (.bool b))) (h1 : b = true → HRun cx ops sl ef I n l (e.put (some t) (.d (.v (.bool true)))) σ Q) (h0 : b = false → HRun cx ops sl ef I n l (e.put (some t) (.d (.v (.bool false)))) σ Q) : HRun cx ops sl ef I n l e σ Q := by
  cases b with
  | true => have := h1 rfl; rwa [Env.put_id ht] at this
  | false => have := h0 rfl; rwa [Env.put_id ht] at this
/-- It writes. -/
theorem HRun.eff {σ' : Obs} (hf : ef n = true) (hg : GW ops o e true) (ht : o.dst = none) (h : EOp cx ops o e σ σ') (h1 : I σ) (h2 : I σ') (k : HRun cx ops sl ef I (n + 1) l e σ' Q) : HRun cx ops sl ef I n (o :: l) e σ Q :=
  ⟨by unfold DstOk; rw [ht], _, _, .inr (.inr ⟨hg, hf, ht, h, rfl, h1, h2⟩), k⟩
end
/-- A struct with own parts, loaded in a drawn region. -/
theorem XRun.loadVal {cx : Cx} {ops : Array Oper} {σ : Obs} {Φ : List Fr} {e : Env} {Qe : Env → Prop} {o : Oper} {l : List Oper} {t cid off size : Nat} {x : Operand} {ss : List S} (f : Fr) (hf : f ∈ Φ) (hg : GW ops o e true) (hgn : o.guard = none) (ht : o.dst = some f.dst) (hd : Nat.blt f.dst cx.N = true) (ho : o.op = .load t x) (hT : AggT cx.P t size)
    (hx : e.ev x = .ptr cid off) (hm : (cid, Ob.cells ss) ∈ σ) (hl : off + size ≤ ss.length) (hob : f.ob = .val (((ss.drop off).take size).map (S.kill f.id))) (hs : f.s0 = .own f.id) (k : XRun cx ops σ Φ l (e.put (some f.dst) f.s0) Qe) (hfx : cx.free f.id = true := by rfl) : XRun cx ops σ Φ (o :: l) e Qe :=
  ⟨by unfold DstOk; rw [ht]; exact hd, _, .inl ⟨hg, .inl ⟨f, hf, ⟨ht, fun e0 σ hτ he hfr => by
    have h2 : e0.ev x = e.ev x := ev_same fun t ht => he t (looks_op (by rw [ho, ht]; simp [Op.operands]))
    exact AOps.loadVal f.id hgn ht hd ho hT (h2.trans hx) (hτ _ hm) hl hfr (.nil ⟨by rw [hs], by rw [hob]⟩) hfx⟩, rfl⟩⟩, by rw [ht]; exact k⟩
end Go.Proofs.YtnapkooefpkicaaGreatDoor


namespace Go.Proofs.YtnapkooefpkicaaGreatDoor
open Go.RowKit
set_option linter.unusedVariables false

/-- What the operation gives depends on x's value alone; or it gives nothing. -/
def PureOp (P : Program) (o : Oper) (x : Operand) : Prop := ∀ u : Value, (∃ v, ∀ (a : Act) (w : World), a.eval x = u → (execOp a.eval o).run P w = .ok (.value v) w) ∨
  (∀ (a : Act) (w : World) (K : Act → World → Prop) (Q : Exit → Act → World → Prop), (∀ e a w, e ≠ .normal → ¬ Q e a w) → a.eval x = u → ¬ o.wp P a w K Q)
theorem PureOp.move {P : Program} {o : Oper} {x : Operand} (h : o.op = .move x) : PureOp P o x := fun u => .inl ⟨u, fun a w hx => by
  unfold execOp
  simp only [h, hx, Sem.run_pure]⟩
theorem PureOp.extract {P : Program} {o : Oper} {x : Operand} {i : Nat} (h : o.op = .extract x i) : PureOp P o x := fun u => by
  by_cases hu : ∃ vs v, u = .tuple vs ∧ vs[i]? = some v
  · obtain ⟨vs, v, rfl, hv⟩ := hu
    refine .inl ⟨v, fun a w hx => ?_⟩
    unfold execOp
    simp only [h, hx, Instr.extract, hv, Sem.run_bind, Sem.run_pure, Result.andThen_ok]
  · refine .inr fun a w K Q hQ hx hw => ?_
    unfold Oper.wp execOp at hw
    simp only [h, hx] at hw
    cases u with
    | tuple vs =>
      cases hv : vs[i]? with
      | some v => exact hu ⟨vs, v, rfl, hv⟩
      | none => simp only [Instr.extract, hv, Sem.run_bind] at hw; exact hw
    | _ => simp only [Instr.extract, Sem.run_bind] at hw; exact hw
/-- Such an operation, if it is ready, may be made first. -/
theorem wpAny_pure {P : Program} {ops : Array Oper} {Q : Exit → Act → World → Prop} {i d : Nat} {oi : Oper} {x : Operand} {u v : Value} (hi : ops[i]? = some oi) (hv : ∀ (a : Act) (w : World), a.eval x = u → (execOp a.eval oi).run P w = .ok (.value v) w) (hlk : ∀ t, x = .tmp t → t ∈ oi.looksAt ops) (hd : oi.dst = some d) (hg : oi.guard = none) (hsel : ∀ (j : Nat) (oj : Oper), ops[j]? = some oj → notSelect oj = true) (hQ : ∀ e a w, e ≠ .normal → ¬ Q e a w) :
    ∀ (fuel : Nat) (listed : Array Bool) (a : Act) (w : World), a.eval x = u →
      (∀ (j : Nat) (oj : Oper), ops[j]? = some oj → j ≠ i → listed.getD j true = false → (∀ e ∈ oj.after, Region.binds .any e = true → e.on ≠ i) → oi.apart ops oj = true) →
      i ∈ Region.ready .any ops listed → wpAny P .any ops Q fuel (listed.setIfInBounds i true) (a.put (some d) v) w → wpAny P .any ops Q (fuel + 1) listed a w := by
  have self : ∀ {fuel : Nat} {listed : Array Bool} {a : Act} {w : World}, a.eval x = u → wpAny P .any ops Q fuel (listed.setIfInBounds i true) (a.put (some d) v) w → wpOp P ops Q i (wpAny P .any ops Q fuel (listed.setIfInBounds i true)) a w := by
    intro fuel listed a w hx H
    unfold wpOp
    simp only [hi]
    have hw : Region.wanted oi (yielded ops a.tmps) = true := by simp [Region.wanted, hg]
    rw [if_pos hw]
    refine .inl ?_
    unfold Oper.wp
    rw [hv a w hx]
    simp only [Oper.upon, hd]
    exact H
  intro fuel
  induction fuel with
  | zero =>
    intro listed a w hx _ hr H
    refine ⟨fun h => (by rw [h] at hr; cases hr), fun j hj => ?_⟩
    by_cases hji : j = i
    · subst hji; exact self hx H
    · have := ready_mono hj hji
      rw [H.1] at this
      cases this
  | succ fuel ih =>
    intro listed a w hx hfree hr H
    refine ⟨fun h => (by rw [h] at hr; cases hr), fun j hj => ?_⟩
    by_cases hji : j = i
    · subst hji; exact self hx H
    · have H2 := H.2 j (ready_mono hj hji)
      obtain ⟨hjun, oj, hoj, hall⟩ := mem_ready.1 hj
      have hnot : ∀ e ∈ oj.after, Region.binds .any e = true → e.on ≠ i := fun e he hb heq => by
        have h1 := hall e he hb
        have h0 := (mem_ready.1 hr).1
        rw [heq] at h1
        rcases Nat.lt_or_ge i listed.size with h' | h'
        · simp [h'] at h0 h1; rw [h0] at h1; cases h1
        · simp [Array.getElem?_eq_none h'] at h1
      obtain ⟨a1, a2, a3⟩ := Oper.apart_spec (hfree j oj hoj hji hjun hnot)
      have hdl : d ∉ oj.looksAt ops := a1 d hd
      have hdd : oj.dst ≠ some d := fun he => a2 d hd he
      have hxo : ∀ t, x = .tmp t → oj.dst ≠ some t := fun t ht he => a3 t he (hlk t ht)
      have next : ∀ a' w', (∀ y : Operand, (∀ t, y = .tmp t → oj.dst ≠ some t) → a'.eval y = a.eval y) → wpAny P .any ops Q fuel ((listed.setIfInBounds i true).setIfInBounds j true) (a'.put (some d) v) w' → wpAny P .any ops Q (fuel + 1) (listed.setIfInBounds j true) a' w' := by
        intro a' w' he h
        refine ih _ _ _ ((he x hxo).trans hx) (fun k ok hk hki hun hno => ?_) (ready_mono hr (Ne.symm hji)) ?_
        · refine hfree k ok hk hki ?_ hno
          by_cases hjk : j = k
          · subst hjk; exact hjun
          · rw [getD_set_ne true hjk] at hun; exact hun
        · rw [Array.setIfInBounds_comm _ _ hji]
          exact h
      unfold wpOp at H2 ⊢
      simp only [hoj] at H2 ⊢
      rw [wanted_put (ops := ops) oj a (some d) v (fun t ht => by cases ht; exact hdl)] at H2
      by_cases hw : Region.wanted oj (yielded ops a.tmps) = true
      · rw [if_pos hw] at H2 ⊢
        rcases H2 with H2 | ⟨_, a1, w1, h1⟩
        · exact .inl (wp_put (ops := ops) (notSelect_spec (hsel j oj hoj)) hdl hdd hQ next H2)
        · exact absurd h1 (hQ _ _ _ (by simp))
      · rw [if_neg hw] at H2 ⊢
        refine next _ _ (fun y hy => eval_put_other a oj.dst undef y hy) ?_
        rw [put_swap a oj.dst (some d) undef v (fun t ht he => hdd (by rw [ht, he]))]
        exact H2
/-- From k on each one waits for all before it, but for those of L ahead of k. -/
def Region.chainLB (ops : Array Oper) (L : Nat → Bool) (k : Nat) : Bool := Region.downB ops && Nat.ble k ops.size && (List.range (ops.size - 1)).all fun j =>
  (L j && Nat.blt j k) || (List.range ops.size).any fun m => Nat.blt j m && (Nat.ble m k || Nat.ble m (j + 1)) && (!(L m) || Nat.ble k m) && Region.edge ops m j
structure ChainL (ops : Array Oper) (L : Nat → Bool) (k : Nat) : Prop where
  down : Region.downB ops = true
  le : k ≤ ops.size
  next : ∀ j, (L j = false ∨ k ≤ j) → j < ops.size - 1 → ∃ m, j < m ∧ (m ≤ k ∨ m ≤ j + 1) ∧ (L m = false ∨ k ≤ m) ∧ Region.edge ops m j = true
theorem ChainL.of {ops : Array Oper} {L : Nat → Bool} {k : Nat} (h : Region.chainLB ops L k = true) : ChainL ops L k := by
  unfold Region.chainLB at h
  simp only [Bool.and_eq_true] at h
  obtain ⟨⟨h1, h2⟩, h3⟩ := h
  refine ⟨h1, Nat.le_of_ble_eq_true h2, fun j hL hj => ?_⟩
  have h4 := List.all_eq_true.1 h3 j (List.mem_range.2 hj)
  rw [Bool.or_eq_true] at h4
  rcases h4 with h4 | h4
  · simp only [Bool.and_eq_true, Nat.blt_eq] at h4
    rcases hL with hL | hL
    · rw [hL] at h4; simp at h4
    · omega
  · obtain ⟨m, _, hm⟩ := List.any_eq_true.1 h4
    simp only [Bool.and_eq_true, Bool.or_eq_true, Nat.blt_eq, Bool.not_eq_true'] at hm
    exact ⟨m, hm.1.1.1, hm.1.1.2.imp Nat.le_of_ble_eq_true Nat.le_of_ble_eq_true, hm.1.2.imp id Nat.le_of_ble_eq_true, hm.2⟩
theorem ChainL.before {ops : Array Oper} {L : Nat → Bool} {k : Nat} (hC : ChainL ops L k) {listed : Array Bool} (hc : Closed ops listed) {i : Nat} (hi : i ∈ Region.ready .any ops listed) (hk : k ≤ i) : ∀ d j, (L j = false ∨ k ≤ j) → j + d = i → 0 < d → listed.getD j false = true := by
  obtain ⟨_, oi, hoi, hall⟩ := mem_ready.1 hi
  have hlt : i < ops.size := (Array.getElem?_eq_some_iff.1 hoi).1
  intro d
  induction d using Nat.strongRecOn with
  | ind d ih =>
    intro j hL hj hd
    obtain ⟨m, h1, h2, h4, h3⟩ := hC.next j hL (by omega)
    obtain ⟨o, ho, e, he, hb, heq⟩ := Region.edge_spec h3
    by_cases hmi : m = i
    · subst hmi
      rw [hoi] at ho; cases ho
      rw [← heq]; exact hall e he hb
    · have := ih (i - m) (by omega) m h4 (by omega) (by omega)
      rw [← heq]; exact hc m o ho this e he hb
section
variable {P : Program} {ops : Array Oper} {Q Q0 : Exit → Act → World → Prop} {k : Nat} {L : Nat → Bool}
theorem wpAny_chainL (hC : ChainL ops L k) : ∀ (l : List Oper) (i : Nat) (listed : Array Bool) (fuel : Nat) (a : Act) (w : World), (∀ j, l[j]? = ops[i + j]?) → i + l.length = ops.size → k ≤ i → listed.size = ops.size →
    (∀ j, j < i → listed.getD j false = true) → (∀ j, i ≤ j → j < ops.size → listed.getD j true = false) → Closed ops listed → l.length ≤ fuel → wpList P ops Q l a w → wpAny P .any ops Q fuel listed a w
  | [], i, listed, fuel, a, w, hl, hsz, hk, hls, h1, h2, hc, hf, h => by
    have hr : Region.ready .any ops listed = [] := by
      refine List.eq_nil_iff_forall_not_mem.2 fun m hm => ?_
      obtain ⟨hu, o, ho, _⟩ := mem_ready.1 hm
      have hlt : m < ops.size := (Array.getElem?_eq_some_iff.1 ho).1
      have := h1 m (by simp at hsz; omega)
      rw [getD_tf (by omega) false true, hu] at this
      simp at this
    cases fuel with
    | zero => exact ⟨hr, h⟩
    | succ f => exact ⟨fun _ => h, fun m hm => by rw [hr] at hm; cases hm⟩
  | o :: l, i, listed, fuel, a, w, hl, hsz, hk, hls, h1, h2, hc, hf, h => by
    have h0 : ops[i]? = some o := by simpa using (hl 0).symm
    have hlt : i < ops.size := (Array.getElem?_eq_some_iff.1 h0).1
    have hl' : ∀ j, l[j]? = ops[i + 1 + j]? := fun j => by have := hl (j + 1); simpa [Nat.add_assoc, Nat.add_comm 1 j] using this
    have hui := h2 i (Nat.le_refl _) hlt
    have hir : i ∈ Region.ready .any ops listed := mem_ready.2 ⟨hui, o, h0, fun e he hb => h1 _ ((Region.down_spec hC.down h0).1 e he hb)⟩
    have hnext : ∀ (a' : Act) (w' : World), wpList P ops Q l a' w' → wpAny P .any ops Q (fuel - 1) (listed.setIfInBounds i true) a' w' := fun a' w' h' =>
      wpAny_chainL hC l (i + 1) _ _ a' w' hl' (by simp at hsz; omega) (by omega) (by simp [hls]) (fun j hj => by
        by_cases hji : i = j
        · subst hji
          simp [Array.getD_eq_getD_getElem?, hls, hlt]
        · rw [getD_set_ne false hji]; exact h1 j (by omega)) (fun j hj hj2 => by rw [getD_set_ne true (by omega)]; exact h2 j (by omega) hj2) (hc.set hir) (by simp at hf; omega) h'
    obtain ⟨f, rfl⟩ : ∃ f, fuel = f + 1 := ⟨fuel - 1, by simp at hf; omega⟩
    refine ⟨fun hr => (by rw [hr] at hir; cases hir), fun m hm => ?_⟩
    obtain ⟨hu, o', ho', _⟩ := mem_ready.1 hm
    have hm2 : m = i := by
      have hmlt : m < ops.size := (Array.getElem?_eq_some_iff.1 ho').1
      rcases Nat.lt_trichotomy m i with hh | hh | hh
      · have := h1 m hh
        rw [getD_tf (by omega) false true, hu] at this
        simp at this
      · exact hh
      · have := hC.before hc hm (by omega) (m - i) i (.inr hk) (by omega) (by omega)
        rw [getD_tf (by omega) false true, hui] at this
        simp at this
    subst hm2
    unfold wpOp
    simp only [h0]
    unfold wpList at h
    by_cases hw : Region.wanted o (yielded ops a.tmps) = true
    · rw [if_pos hw] at h ⊢
      exact h.imp (Oper.wp_mono hnext) id
    · rw [if_neg hw] at h ⊢
      exact hnext _ _ h
/-- The operations of L: pure, unguarded, apart from whoever is not bound to come after. -/
structure LateOk (P : Program) (ops : Array Oper) (L : Nat → Bool) (k : Nat) : Prop where
  op : ∀ i, L i = true → i < k → ∃ oi x d, ops[i]? = some oi ∧ PureOp P oi x ∧ (∀ t, x = .tmp t → t ∈ oi.looksAt ops) ∧ oi.dst = some d ∧ oi.guard = none
  sel : ∀ (j : Nat) (oj : Oper), ops[j]? = some oj → notSelect oj = true
  apart : ∀ i oi, L i = true → i < k → ops[i]? = some oi → ∀ (j : Nat) (oj : Oper), ops[j]? = some oj → j ≠ i → (∀ e ∈ oj.after, Region.binds .any e = true → e.on ≠ i) → (∀ e ∈ oi.after, Region.binds .any e = true → e.on ≠ j) → oi.apart ops oj = true
theorem wpAny_splitL (hC : ChainL ops L k) (hL : LateOk P ops L k) {ops0 : Array Oper} (h0 : ops0.size = k) (hpre : ∀ j, j < k → ops0[j]? = ops[j]?) (hN : ∀ a w, Q0 .normal a w → wpList P ops Q (ops.toList.drop k) a w) (hQ0 : ∀ e a w, e ≠ .normal → ¬ Q0 e a w) (hQ : ∀ e a w, e ≠ .normal → ¬ Q e a w) :
    ∀ (fuel0 : Nat) (listed0 listed : Array Bool) (fuel : Nat) (a : Act) (w : World), listed0.size = k → listed.size = ops.size → (∀ j, j < k → ∀ d, listed0.getD j d = listed.getD j d) → (∀ j, k ≤ j → j < ops.size → listed.getD j true = false) →
      Closed ops listed → fuel0 + (ops.size - k) ≤ fuel → wpAny P .any ops0 Q0 fuel0 listed0 a w → wpAny P .any ops Q fuel listed a w := by
  have hle := hC.le
  have hE : ∀ e a w, e ≠ .normal → Q0 e a w → Q e a w := fun e a w h h2 => absurd h2 (hQ0 e a w h)
  have hd0 : Region.downB ops0 = true := by
    unfold Region.downB
    refine List.all_eq_true.2 fun i hi => ?_
    have hik := List.mem_range.1 hi
    have h1 := List.all_eq_true.1 hC.down i (List.mem_range.2 (by omega))
    rw [hpre i (by omega)]
    exact h1
  have all : ∀ (fuel0 : Nat) (listed0 listed : Array Bool) (fuel : Nat) (a : Act) (w : World), listed0.size = k → listed.size = ops.size → (∀ j, j < k → ∀ d, listed0.getD j d = listed.getD j d) → (∀ j, k ≤ j → j < ops.size → listed.getD j true = false) →
      Closed ops listed → fuel0 + (ops.size - k) ≤ fuel → wpAny P .any ops0 Q0 fuel0 listed0 a w → (∀ j, j < k → listed.getD j false = true) → wpAny P .any ops Q fuel listed a w := by
    intro fuel0 listed0 listed fuel a w hs0 hs hag hun hc hf H hall
    have hr0 : Region.ready .any ops0 listed0 = [] := by
      refine List.eq_nil_iff_forall_not_mem.2 fun m hm => ?_
      obtain ⟨hu, o, ho, _⟩ := mem_ready.1 hm
      have hlt : m < ops0.size := (Array.getElem?_eq_some_iff.1 ho).1
      have h1 := hall m (by omega)
      rw [← hag m (by omega), getD_tf (by omega) false true, hu] at h1
      simp at h1
    have hQ : Q0 .normal a w := by
      cases fuel0 with
      | zero => exact H.2
      | succ f => exact H.1 hr0
    exact wpAny_chainL hC (ops.toList.drop k) k listed fuel a w (fun j => by rw [List.getElem?_drop, Array.getElem?_toList]) (by rw [List.length_drop, Array.length_toList]; omega) (Nat.le_refl _) hs hall hun hc (by rw [List.length_drop, Array.length_toList]; omega) (hN a w hQ)
  intro fuel0
  induction fuel0 with
  | zero =>
    intro listed0 listed fuel a w hs0 hs hag hun hc hf H
    refine all 0 listed0 listed fuel a w hs0 hs hag hun hc hf H fun j hj => ?_
    cases hh : listed.getD j false with
    | true => rfl
    | false =>
      rw [← hag j hj, getD_tf (by omega) false true] at hh
      obtain ⟨m, _, hm⟩ := ready_least hd0 (by omega) j (by omega) hh
      rw [H.1] at hm; cases hm
  | succ fuel0 ih =>
    intro listed0 listed fuel a w hs0 hs hag hun hc hf H
    have hset : ∀ m, m < k → m ∈ Region.ready .any ops listed → ∀ (a' : Act) (w' : World) (f : Nat), fuel0 + (ops.size - k) ≤ f → wpAny P .any ops0 Q0 fuel0 (listed0.setIfInBounds m true) a' w' → wpAny P .any ops Q f (listed.setIfInBounds m true) a' w' := fun m hmk hm a' w' f hf' h' =>
      ih _ _ f a' w' (by simp [hs0]) (by simp [hs]) (fun j hj d => by
        by_cases hmj : m = j
        · subst hmj
          simp [Array.getD_eq_getD_getElem?, hs0, hs, hmk, show m < ops.size by omega]
        · rw [getD_set_ne d hmj, getD_set_ne d hmj]; exact hag j hj d) (fun j hj hj2 => by rw [getD_set_ne true (by omega)]; exact hun j hj hj2) (hc.set hm) hf' h'
    by_cases hall : ∀ j, j < k → listed.getD j false = true
    · exact all _ listed0 listed fuel a w hs0 hs hag hun hc hf H hall
    · obtain ⟨f, rfl⟩ : ∃ f, fuel = f + 1 := ⟨fuel - 1, by omega⟩
      have hready0 : ∀ m, m < k → m ∈ Region.ready .any ops listed → m ∈ Region.ready .any ops0 listed0 := fun m hmk hm => by
        obtain ⟨hu, o, ho, hdep⟩ := mem_ready.1 hm
        exact mem_ready.2 ⟨by rw [hag m hmk]; exact hu, o, by rw [hpre m hmk]; exact ho, fun e he hb => by
          have := (Region.down_spec hC.down ho).1 e he hb
          rw [hag _ (by omega)]; exact hdep e he hb⟩
      by_cases hlate : ∀ j, j < k → L j = false → listed.getD j false = true
      · -- only late ones are left: the least of them is made first
        simp only [Classical.not_forall] at hall
        obtain ⟨j, hj, hjn⟩ := hall
        have hju : listed.getD j true = false := by rw [getD_tf (by omega) true false]; simpa using hjn
        obtain ⟨m, hmj, hm⟩ := ready_least hC.down hs j (by omega) hju
        have hmk : m < k := by omega
        have hmL : L m = true := by
          cases hh : L m with
          | true => rfl
          | false =>
            have := hlate m hmk hh
            rw [getD_tf (by omega) false true, (mem_ready.1 hm).1] at this
            simp at this
        obtain ⟨oi, x, d, hoi, hp, hlk, hd, hg⟩ := hL.op m hmL hmk
        have H1 := H.2 m (hready0 m hmk hm)
        unfold wpOp at H1
        have ho0 : ops0[m]? = some oi := by rw [hpre m hmk]; exact hoi
        simp only [ho0] at H1
        have hw : Region.wanted oi (yielded ops0 a.tmps) = true := by simp [Region.wanted, hg]
        rw [if_pos hw] at H1
        rcases H1 with H1 | ⟨_, a1, w1, h1⟩
        · rcases hp (a.eval x) with ⟨v, hv⟩ | hno
          · unfold Oper.wp at H1
            rw [hv a w rfl] at H1
            simp only [Oper.upon, hd] at H1
            exact wpAny_pure hoi hv hlk hd hg hL.sel hQ f listed a w rfl (fun j oj hoj hji hun hno => hL.apart m oi hmL hmk hoi j oj hoj hji hno fun e he hb heq => by
              obtain ⟨_, o', ho', hdep⟩ := mem_ready.1 hm
              rw [hoi] at ho'; cases ho'
              have h5 := hdep e he hb
              have hjl : j < listed.size := by rw [hs]; exact (Array.getElem?_eq_some_iff.1 hoj).1
              rw [heq, getD_tf hjl false true, hun] at h5
              simp at h5) hm (hset m hmk hm _ _ f (by omega) H1)
          · exact absurd H1 (hno a w _ _ hQ0 rfl)
        · exact absurd h1 (hQ0 _ _ _ (by simp))
      · simp only [Classical.not_forall] at hlate
        obtain ⟨j, hj, hjL, hjn⟩ := hlate
        have hju : listed.getD j true = false := by rw [getD_tf (by omega) true false]; simpa using hjn
        refine ⟨fun hr => ?_, fun m hm => ?_⟩
        · obtain ⟨m, _, hm⟩ := ready_least hC.down hs j (by omega) hju
          rw [hr] at hm; cases hm
        · have hmk : m < k := by
            refine Nat.lt_of_not_le fun hkm => hjn ?_
            exact hC.before hc hm hkm (m - j) j (.inl hjL) (by omega) (by omega)
          have h1 := H.2 m (hready0 m hmk hm)
          obtain ⟨hu, o, ho, hdep⟩ := mem_ready.1 hm
          have ho0 : ops0[m]? = some o := by rw [hpre m hmk]; exact ho
          unfold wpOp at h1 ⊢
          simp only [ho, ho0] at h1 ⊢
          rw [wanted_same (ops := ops) fun p hp => hpre _ (by have := (Region.down_spec hC.down ho).2 p hp; omega)] at h1
          have hnext : ∀ (a' : Act) (w' : World), wpAny P .any ops0 Q0 fuel0 (listed0.setIfInBounds m true) a' w' → wpAny P .any ops Q f (listed.setIfInBounds m true) a' w' := fun a' w' h' => hset m hmk hm a' w' f (by omega) h'
          by_cases hw : Region.wanted o (yielded ops a.tmps) = true
          · rw [if_pos hw] at h1 ⊢
            exact h1.imp (wp_to2 hnext hE) fun h => ⟨h.1, h.2.imp fun _ => Exists.imp fun _ => hE _ _ _ (by simp)⟩
          · rw [if_neg hw] at h1 ⊢
            exact hnext _ _ h1
end
/-- The late ones, by a look at them. -/
def pureB (o : Oper) : Bool := (match o.op with | .move _ => true | .extract _ _ => true | _ => false) && o.guard.isNone && o.dst.isSome
theorem pureB_spec {P : Program} {ops : Array Oper} {o : Oper} (h : pureB o = true) : ∃ x d, PureOp P o x ∧ (∀ t, x = .tmp t → t ∈ o.looksAt ops) ∧ o.dst = some d ∧ o.guard = none := by
  unfold pureB at h
  simp only [Bool.and_eq_true] at h
  obtain ⟨⟨h1, h2⟩, h3⟩ := h
  obtain ⟨d, hd⟩ := Option.isSome_iff_exists.1 h3
  have hg : o.guard = none := by simpa using h2
  cases hop : o.op with
  | move x => exact ⟨x, d, .move hop, fun t ht => looks_op (by rw [hop, ht]; simp [Op.operands]), hd, hg⟩
  | extract x i => exact ⟨x, d, .extract hop, fun t ht => looks_op (by rw [hop, ht]; simp [Op.operands]), hd, hg⟩
  | _ => rw [hop] at h1; simp at h1
def lateB (ops : Array Oper) (L : List Nat) (k : Nat) : Bool := (ops.toList.all notSelect) && L.all fun i => Nat.blt i k && ((ops[i]?).map fun oi => pureB oi && (List.range ops.size).all fun j => Nat.beq j i || Region.edge ops j i || Region.edge ops i j || ((ops[j]?).map fun oj => oi.apart ops oj).getD true).getD false
theorem LateOk.of {P : Program} {ops : Array Oper} {L : List Nat} {k : Nat} (h : lateB ops L k = true) : LateOk P ops (fun i => L.contains i) k := by
  unfold lateB at h
  simp only [Bool.and_eq_true] at h
  have hL : ∀ i, L.contains i = true → ∃ oi, ops[i]? = some oi ∧ pureB oi = true ∧ ∀ j oj, ops[j]? = some oj → j ≠ i → (∀ e ∈ oj.after, Region.binds .any e = true → e.on ≠ i) → (∀ e ∈ oi.after, Region.binds .any e = true → e.on ≠ j) → oi.apart ops oj = true := fun i hi => by
    have h1 := List.all_eq_true.1 h.2 i (List.contains_iff_mem.1 hi)
    simp only [Bool.and_eq_true] at h1
    cases ho : ops[i]? with
    | none => rw [ho] at h1; simp at h1
    | some oi =>
      rw [ho] at h1
      simp only [Option.map_some, Option.getD_some, Bool.and_eq_true] at h1
      refine ⟨oi, rfl, h1.2.1, fun j oj hj hji hn hn2 => ?_⟩
      have h2 := List.all_eq_true.1 h1.2.2 j (List.mem_range.2 (Array.getElem?_eq_some_iff.1 hj).1)
      rw [hj] at h2
      simp only [Option.map_some, Option.getD_some, Bool.or_eq_true] at h2
      rcases h2 with ((h2 | h2) | h2) | h2
      · exact absurd (Nat.eq_of_beq_eq_true h2) hji
      · obtain ⟨o, ho2, e, he, hb, heq⟩ := Region.edge_spec h2
        rw [hj] at ho2; cases ho2
        exact absurd heq (hn e he hb)
      · obtain ⟨o, ho2, e, he, hb, heq⟩ := Region.edge_spec h2
        rw [ho] at ho2; cases ho2
        exact absurd heq (hn2 e he hb)
      · exact h2
  refine ⟨fun i hi _ => ?_, fun j oj hj => List.all_eq_true.1 h.1 oj (by simpa using Array.mem_of_getElem? hj), fun i oi hi _ hoi j oj hj hji hn hn2 => ?_⟩
  · obtain ⟨oi, h1, h2, _⟩ := hL i hi
    obtain ⟨x, d, h3, h4, h5, h6⟩ := pureB_spec (P := P) (ops := ops) h2
    exact ⟨oi, x, d, h1, h3, h4, h5, h6⟩
  · obtain ⟨oi', h1, _, h3⟩ := hL i hi
    rw [hoi] at h1; cases h1
    exact h3 j oj hj hji hn hn2
def QN (Q : Post) : Post := fun ex e σ => match ex with | .normal => Q .normal e σ | _ => False
/-- A region that draws its order and makes new objects, whose operations from k on come one after the other, but for the late ones. -/
theorem AWP.drawFreshL {cx : Cx} {rid : Nat} {l : List Oper} {e : Env} {σ : Obs} {Q : Post} (k : Nat) (L : List Nat) (Φ : List Fr) (ok : FrOk cx Φ σ) (hm : cx.P.follows .mixedOrders = true) (hB : Region.lexB .any (l.take k).toArray = true) (hC : Region.chainLB l.toArray (fun i => L.contains i) k = true) (hL : lateB l.toArray L k = true) (hlk : dstB Φ (l.take k) = true)
    (h : XRun cx (l.take k).toArray σ Φ (l.take k) (Env.killAll Φ e) (fun e => AOps cx l.toArray (l.drop k) e (frObs Φ ++ σ) (QN Q))) : AWP cx (.region rid l.toArray true) e σ Q := by
  intro a w ⟨F, ρ, hr⟩
  simp only [Region.lexB, Bool.and_eq_true] at hB
  have hch := ChainL.of hC
  have hkl : k ≤ l.length := by simpa using hch.le
  have h1 := anyX_lex (l.take k) 0 (Array.replicate (l.take k).toArray.size false) (Env.killAll Φ e) (by simp) (by simpa using hB.2) h
  have hone : ∀ f ∈ Φ, ∀ (i j : Nat) (o o' : Oper), (l.take k).toArray[i]? = some o → (l.take k).toArray[j]? = some o' → o.dst = some f.dst → o'.dst = some f.dst → i = j := fun f hf i j o o' hi hj ho ho' => by
    rw [List.getElem?_toArray] at hi hj
    have h3 := List.all_eq_true.1 (List.all_eq_true.1 (List.all_eq_true.1 hlk f hf) i (List.mem_range.2 (List.getElem?_eq_some_iff.1 hi).1)) j (List.mem_range.2 (List.getElem?_eq_some_iff.1 hj).1)
    rw [hi, hj] at h3
    simp only [Option.map_some, Option.getD_some, Bool.or_eq_true] at h3
    rcases h3 with (h3 | h3) | h3
    · exact Nat.eq_of_beq_eq_true h3
    · exact absurd ho (neDst_spec h3)
    · exact absurd ho' (neDst_spec h3)
  have h2 := wpAny_of_X (cx := cx) (ops := (l.take k).toArray) (Q := fun ex e σ => match ex with | .normal => AOps cx l.toArray (l.drop k) e σ (QN Q) | _ => False) (fun o ho => XRun.dsts _ _ h o (by simpa using ho)) hone ok _ _ (Env.killAll Φ e) _ _
    ⟨[], fun g hg => (nomatch hg), fun g hg => (nomatch hg), fun g hg => (nomatch hg), fun f hf _ t => killAll_all Φ _ f hf t, R.killAll Φ ⟨F, ρ, hr.drew⟩⟩ h1
  have h3 : wpAny cx.P .any l.toArray (lift cx (QN Q)) l.toArray.size (Array.replicate l.toArray.size false) a { w with drawn := w.drawn + 1 } := by
    refine wpAny_splitL hch (LateOk.of hL) (ops0 := (l.take k).toArray) (by simp; omega) (fun j hj => ?_) ?_ ?_ ?_ (l.take k).length _ _ _ _ _ (by simp; omega) (by simp) ?_ ?_ ?_ (by simp; omega) h2
    · rw [List.getElem?_toArray, List.getElem?_toArray, List.getElem?_take, if_pos hj]
    · rintro a w ⟨e, σ, h3, h4⟩
      have := h3 a w h4
      simpa using this
    · rintro ex a w hne ⟨e, σ, h3, _⟩
      cases ex <;> first | exact absurd rfl hne | exact h3.elim
    · rintro ex a w hne ⟨e, σ, h3, _⟩
      cases ex <;> first | exact absurd rfl hne | exact h3.elim
    · intro j hj d
      have h5 : j < l.length := by omega
      have h6 : j < min k l.length := by omega
      simp [Array.getD_eq_getD_getElem?, h5, h6]
    · intro j hj hj2
      have : j < l.length := by simpa using hj2
      simp [Array.getD_eq_getD_getElem?, this]
    · intro i o ho hi
      have : i < l.length := by simpa using (Array.getElem?_eq_some_iff.1 ho).1
      simp [Array.getD_eq_getD_getElem?, this] at hi
  refine wp_mono (wp_region_any hm h3) ?_
  rintro ex a w ⟨e, σ, h4, h5⟩
  cases ex with
  | normal => exact ⟨e, σ, h4, h5⟩
  | exit id => exact h4.elim
  | goto l => exact h4.elim
  | ret => exact h4.elim
  | panic c => exact h4.elim
  | outgrown => exact h4.elim
end Go.Proofs.YtnapkooefpkicaaGreatDoor


namespace Go.Proofs.YtnapkooefpkicaaGreatDoor
open Go.RowKit
set_option linter.unusedVariables false

def Env.puts (e : Env) : List (Nat × S) → Env
  | [] => e
  | p :: l => Env.puts (e.put (some p.1) p.2) l
theorem puts_other {t : Nat} : ∀ {l : List (Nat × S)} {e : Env}, t ∉ l.map Prod.fst → Env.puts e l t = e t
  | [], _, _ => rfl
  | p :: l, e, h => by
    simp only [List.map_cons, List.mem_cons, not_or] at h
    unfold Env.puts
    rw [puts_other h.2, Env.put_other _ _ _ _ h.1]
theorem puts_put {dst : Option Nat} {s : S} : ∀ {l : List (Nat × S)} {e : Env}, (∀ d, dst = some d → d ∉ l.map Prod.fst) → Env.puts (e.put dst s) l = (Env.puts e l).put dst s
  | [], _, _ => rfl
  | p :: l, e, h => by
    unfold Env.puts
    rw [Env.put_comm e dst (some p.1) s p.2 (fun d hd he => h d hd (by rw [← Option.some.inj he]; simp)), puts_put fun d hd hm => h d hd (by simp only [List.map_cons, List.mem_cons]; exact .inr hm)]
/-- An object that the region makes, and the slots that may hold it. -/
structure Fc where
  id : Nat
  slots : List Nat
def Clean (Φ : List Fc) (e : Env) : Prop := ∀ f ∈ Φ, ∀ t, f.slots.contains t = false → (e t).kill f.id = e t
def QE (e1 : Env) (σ1 : Obs) : Post := fun ex e σ => match ex with | .normal => e = e1 ∧ σ = σ1 | _ => False
/-- An operation that makes or turns objects: the slots that it sets, the objects behind it. -/
def GE (cx : Cx) (ops : Array Oper) (Φ : List Fc) (o : Oper) (e : Env) (σ : Obs) (si : List (Nat × S)) (σ' : Obs) : Prop :=
  ∀ e0 : Env, (∀ t, t ∈ o.looksAt ops → e0 t = e t) → (∀ t, t ∈ si.map Prod.fst → e0 t = e t) → Clean Φ e0 → AOps cx ops [o] e0 σ (QE (Env.puts e0 si) σ')
def LStep (cx : Cx) (ops : Array Oper) (Φ : List Fc) (ef : Nat → Bool) (K : Nat → List Nat) (I : Obs → Prop) (k : Nat) (o : Oper) (e : Env) (σ : Obs) (e' : Env) (σ' : Obs) : Prop :=
  (GW ops o e true ∧ ef k = false ∧ ∃ s, I σ ∧ (∀ τ, I τ → AOp cx.P cx.B ops o e τ s) ∧ (∀ f ∈ Φ, (∃ t, o.dst = some t ∧ f.slots.contains t = true) ∨ s.kill f.id = s) ∧ e' = e.put o.dst s ∧ σ' = σ) ∨
  (GW ops o e false ∧ ef k = false ∧ e' = e.put o.dst (.d (.v undef)) ∧ σ' = σ) ∨
  (GW ops o e true ∧ ef k = true ∧ I σ ∧ I σ' ∧ ∃ si, si.map Prod.fst = K k ∧ GE cx ops Φ o e σ si σ' ∧ (∀ p ∈ si, ∀ f ∈ Φ, f.slots.contains p.1 = true ∨ p.2.kill f.id = p.2) ∧ e' = Env.puts e si)
def LRun (cx : Cx) (ops : Array Oper) (Φ : List Fc) (ef : Nat → Bool) (K : Nat → List Nat) (I : Obs → Prop) : Nat → List Oper → Env → Obs → (Env → Obs → Prop) → Prop
  | _, [], e, σ, Q => Q e σ
  | k, o :: l, e, σ, Q => DstOk cx.N o ∧ ∃ e' σ', LStep cx ops Φ ef K I k o e σ e' σ' ∧ LRun cx ops Φ ef K I (k + 1) l e' σ' Q
def anyL (cx : Cx) (ops : Array Oper) (Φ : List Fc) (ef : Nat → Bool) (K : Nat → List Nat) (I : Obs → Prop) (Q : Env → Obs → Prop) : Nat → Array Bool → Env → Obs → Prop
  | 0, listed, e, σ => Region.ready .any ops listed = [] ∧ Q e σ
  | fuel + 1, listed, e, σ => (Region.ready .any ops listed = [] → Q e σ) ∧
      ∀ i ∈ Region.ready .any ops listed, ∀ o, ops[i]? = some o → ∃ e' σ', LStep cx ops Φ ef K I i o e σ e' σ' ∧ anyL cx ops Φ ef K I Q fuel (listed.setIfInBounds i true) e' σ'
/-- The slots of one are none of the other's. -/
def keysOkB (ops : Array Oper) (K : Nat → List Nat) (i j : Nat) (oi oj : Oper) : Bool :=
  ((K i).all fun k => !((oj.looksAt ops).contains k) && neDst oj k) && ((K j).all fun k => !((oi.looksAt ops).contains k) && neDst oi k) && (!(K i).any fun k => (K j).contains k)
theorem keysOk_l {ops : Array Oper} {K : Nat → List Nat} {i j : Nat} {oi oj : Oper} (h : keysOkB ops K i j oi oj = true) : ∀ k ∈ K i, k ∉ oj.looksAt ops ∧ oj.dst ≠ some k := fun k hk => by
  unfold keysOkB at h
  simp only [Bool.and_eq_true] at h
  have h1 := List.all_eq_true.1 h.1.1 k hk
  simp only [Bool.and_eq_true, Bool.not_eq_true', List.contains_eq_mem, decide_eq_false_iff_not] at h1
  exact ⟨h1.1, neDst_spec h1.2⟩
theorem keysOk_r {ops : Array Oper} {K : Nat → List Nat} {i j : Nat} {oi oj : Oper} (h : keysOkB ops K i j oi oj = true) : ∀ k ∈ K j, k ∉ oi.looksAt ops ∧ oi.dst ≠ some k := fun k hk => by
  unfold keysOkB at h
  simp only [Bool.and_eq_true] at h
  have h1 := List.all_eq_true.1 h.1.2 k hk
  simp only [Bool.and_eq_true, Bool.not_eq_true', List.contains_eq_mem, decide_eq_false_iff_not] at h1
  exact ⟨h1.1, neDst_spec h1.2⟩
theorem GE.same {cx : Cx} {ops : Array Oper} {Φ : List Fc} {o : Oper} {e e' : Env} {σ σ' : Obs} {si : List (Nat × S)} (h : GE cx ops Φ o e σ si σ') (h1 : ∀ t, t ∈ o.looksAt ops → e' t = e t) (h2 : ∀ t, t ∈ si.map Prod.fst → e' t = e t) : GE cx ops Φ o e' σ si σ' :=
  fun e0 k1 k2 k3 => h e0 (fun t ht => (k1 t ht).trans (h1 t ht)) (fun t ht => (k2 t ht).trans (h2 t ht)) k3
theorem anyL_first {cx : Cx} {ops : Array Oper} {Φ : List Fc} {ef : Nat → Bool} {K : Nat → List Nat} {I : Obs → Prop} (hK : ∀ k, ef k = false → K k = []) {Q : Env → Obs → Prop} {i : Nat} {oi : Oper} (hi : ops[i]? = some oi) (late : Nat → Bool)
    (hclos : ∀ j oj, ops[j]? = some oj → late j = true → ∃ e ∈ oj.after, Region.binds .any e = true ∧ (e.on = i ∨ late e.on = true)) :
    ∀ (fuel : Nat) (listed : Array Bool) (e : Env) (σ : Obs) (e1 : Env) (σ1 : Obs), (∀ j, late j = true → listed.getD j false = false) →
      (∀ j oj, ops[j]? = some oj → j ≠ i → listed.getD j true = false → (∀ e ∈ oj.after, Region.binds .any e = true → e.on ≠ i) → oi.apart ops oj = true ∧ (late j = false → (ef i = false ∨ ef j = false) ∧ keysOkB ops K i j oi oj = true)) →
      i ∈ Region.ready .any ops listed → LStep cx ops Φ ef K I i oi e σ e1 σ1 → anyL cx ops Φ ef K I Q fuel (listed.setIfInBounds i true) e1 σ1 → anyL cx ops Φ ef K I Q (fuel + 1) listed e σ := by
  intro fuel
  induction fuel with
  | zero =>
    intro listed e σ e1 σ1 _ _ hr hy H
    refine ⟨fun h => (by rw [h] at hr; cases hr), fun j hj o ho => ?_⟩
    by_cases hji : j = i
    · subst hji
      rw [hi] at ho; cases ho
      exact ⟨e1, σ1, hy, H⟩
    · have := ready_mono hj hji
      rw [H.1] at this
      cases this
  | succ fuel ih =>
    intro listed e σ e1 σ1 hlate hfree hr hy H
    refine ⟨fun h => (by rw [h] at hr; cases hr), fun j hj oj hoj => ?_⟩
    by_cases hji : j = i
    · subst hji
      rw [hi] at hoj; cases hoj
      exact ⟨e1, σ1, hy, H⟩
    · obtain ⟨e2, σ2, h1, h2⟩ := H.2 j (ready_mono hj hji) oj hoj
      obtain ⟨hjun, oj', hoj', hall⟩ := mem_ready.1 hj
      rw [hoj] at hoj'; cases hoj'
      have hnot : ∀ e ∈ oj.after, Region.binds .any e = true → e.on ≠ i := fun e he hb heq => by
        have h1 := hall e he hb
        have h0 := (mem_ready.1 hr).1
        rw [heq] at h1
        rcases Nat.lt_or_ge i listed.size with h' | h'
        · simp [h'] at h0 h1; rw [h0] at h1; cases h1
        · simp [Array.getElem?_eq_none h'] at h1
      have hjl : late j = false := by
        cases hl : late j with
        | false => rfl
        | true =>
          obtain ⟨e, he, hb, hh⟩ := hclos j oj hoj hl
          rcases hh with hh | hh
          · exact absurd hh (hnot e he hb)
          · have h3 := hall e he hb
            rw [hlate _ hh] at h3
            simp at h3
      obtain ⟨hap, hss⟩ := hfree j oj hoj hji hjun hnot
      obtain ⟨hs1, hs2⟩ := hss hjl
      obtain ⟨a1, a2, a3⟩ := Oper.apart_spec hap
      have kl := keysOk_l hs2
      have kr := keysOk_r hs2
      have fin : ∀ ej σj, LStep cx ops Φ ef K I j oj e σ ej σj → LStep cx ops Φ ef K I i oi ej σj e2 σ2 → ∃ e' σ', LStep cx ops Φ ef K I j oj e σ e' σ' ∧ anyL cx ops Φ ef K I Q (fuel + 1) (listed.setIfInBounds j true) e' σ' := fun ej σj hsj hsi => by
        refine ⟨ej, σj, hsj, ?_⟩
        refine ih (listed.setIfInBounds j true) ej σj e2 σ2 (fun k hk => ?_) (fun k ok hk hki hun hno => ?_) (ready_mono hr (Ne.symm hji)) hsi ?_
        · have hkj : j ≠ k := fun h => by rw [h, hk] at hjl; simp at hjl
          rw [getD_set_ne false hkj]
          exact hlate k hk
        · refine hfree k ok hk hki ?_ hno
          by_cases hjk : j = k
          · subst hjk; exact hjun
          · rw [getD_set_ne true hjk] at hun; exact hun
        · rw [Array.setIfInBounds_comm _ _ hji]
          exact h2
      have look1 : ∀ {s : S} t, t ∈ oj.looksAt ops → (e.put oi.dst s) t = e t := fun t ht => put_looks a1 t ht
      have look2 : ∀ {s : S} t, t ∈ oi.looksAt ops → (e.put oj.dst s) t = e t := fun t ht => put_looks a3 t ht
      rcases hy with ⟨hgi, hei, s, hI, hopi, hcl, rfl, rfl⟩ | ⟨hgi, hei, rfl, rfl⟩ | ⟨hgi, hei, hi1, hi2, si, hki, hopi, hci, rfl⟩
      · rcases h1 with ⟨hgj, hej, sj, hIj, hopj, hclj, rfl, rfl⟩ | ⟨hgj, hej, rfl, rfl⟩ | ⟨hgj, hej, hj1, hj2, sj, hkj, hopj, hcj, rfl⟩
        · exact fin (e.put oj.dst sj) _ (.inl ⟨hgj.same fun t ht => (look1 t ht).symm, hej, sj, hIj, fun τ hτ => (hopj τ hτ).same fun t ht => (look1 t ht).symm, hclj, rfl, rfl⟩) (.inl ⟨hgi.same (fun t ht => look2 t ht), hei, s, hI, fun τ hτ => (hopi τ hτ).same (fun t ht => look2 t ht), hcl, (Env.put_comm e oi.dst oj.dst s sj a2), rfl⟩)
        · exact fin (e.put oj.dst (.d (.v undef))) _ (.inr (.inl ⟨hgj.same fun t ht => (look1 t ht).symm, hej, rfl, rfl⟩)) (.inl ⟨hgi.same (fun t ht => look2 t ht), hei, s, hI, fun τ hτ => (hopi τ hτ).same (fun t ht => look2 t ht), hcl, (Env.put_comm e oi.dst oj.dst s _ a2), rfl⟩)
        · have hkd : ∀ d, oi.dst = some d → d ∉ sj.map Prod.fst := fun d hd hm => by rw [hkj] at hm; exact (kr d hm).2 hd
          have hkl : ∀ t, t ∈ oi.looksAt ops → Env.puts e sj t = e t := fun t ht => puts_other fun hm => by rw [hkj] at hm; exact (kr t hm).1 ht
          refine fin (Env.puts e sj) σ2 (.inr (.inr ⟨hgj.same fun t ht => (look1 t ht).symm, hej, hj1, hj2, sj, hkj, hopj.same (fun t ht => (look1 t ht).symm) (fun t ht => ?_), hcj, rfl⟩)) (.inl ⟨hgi.same hkl, hei, s, hj2, fun τ hτ => (hopi τ hτ).same hkl, hcl, puts_put hkd, rfl⟩)
          cases hd : oi.dst with
          | none => rfl
          | some d => exact (Env.put_other _ _ _ _ (fun (he : t = d) => hkd d hd (he ▸ ht))).symm
      · rcases h1 with ⟨hgj, hej, sj, hIj, hopj, hclj, rfl, rfl⟩ | ⟨hgj, hej, rfl, rfl⟩ | ⟨hgj, hej, hj1, hj2, sj, hkj, hopj, hcj, rfl⟩
        · exact fin (e.put oj.dst sj) _ (.inl ⟨hgj.same fun t ht => (look1 t ht).symm, hej, sj, hIj, fun τ hτ => (hopj τ hτ).same fun t ht => (look1 t ht).symm, hclj, rfl, rfl⟩) (.inr (.inl ⟨hgi.same (fun t ht => look2 t ht), hei, (Env.put_comm e oi.dst oj.dst _ sj a2), rfl⟩))
        · exact fin (e.put oj.dst (.d (.v undef))) _ (.inr (.inl ⟨hgj.same fun t ht => (look1 t ht).symm, hej, rfl, rfl⟩)) (.inr (.inl ⟨hgi.same (fun t ht => look2 t ht), hei, (Env.put_comm e oi.dst oj.dst _ _ a2), rfl⟩))
        · have hkd : ∀ d, oi.dst = some d → d ∉ sj.map Prod.fst := fun d hd hm => by rw [hkj] at hm; exact (kr d hm).2 hd
          have hkl : ∀ t, t ∈ oi.looksAt ops → Env.puts e sj t = e t := fun t ht => puts_other fun hm => by rw [hkj] at hm; exact (kr t hm).1 ht
          refine fin (Env.puts e sj) σ2 (.inr (.inr ⟨hgj.same fun t ht => (look1 t ht).symm, hej, hj1, hj2, sj, hkj, hopj.same (fun t ht => (look1 t ht).symm) (fun t ht => ?_), hcj, rfl⟩)) (.inr (.inl ⟨hgi.same hkl, hei, puts_put hkd, rfl⟩))
          cases hd : oi.dst with
          | none => rfl
          | some d => exact (Env.put_other _ _ _ _ (fun (he : t = d) => hkd d hd (he ▸ ht))).symm
      · have hkd : ∀ d, oj.dst = some d → d ∉ si.map Prod.fst := fun d hd hm => by rw [hki] at hm; exact (kl d hm).2 hd
        have hkl : ∀ t, t ∈ oj.looksAt ops → Env.puts e si t = e t := fun t ht => puts_other fun hm => by rw [hki] at hm; exact (kl t hm).1 ht
        have hke : ∀ {s : S} t, t ∈ si.map Prod.fst → (e.put oj.dst s) t = e t := fun {s} t ht => by
          cases hd : oj.dst with
          | none => rfl
          | some d => exact Env.put_other _ _ _ _ (fun he => hkd d hd (he ▸ ht))
        rcases h1 with ⟨hgj, hej, sj, hIj, hopj, hclj, rfl, rfl⟩ | ⟨hgj, hej, rfl, rfl⟩ | ⟨hgj, hej, hj1, hj2, sj, hkj, hopj, hcj, rfl⟩
        · exact fin (e.put oj.dst sj) σ (.inl ⟨hgj.same fun t ht => (hkl t ht).symm, hej, sj, hi1, fun τ hτ => (hopj τ hτ).same fun t ht => (hkl t ht).symm, hclj, rfl, rfl⟩) (.inr (.inr ⟨hgi.same (fun t ht => look2 t ht), hei, hi1, hi2, si, hki, hopi.same (fun t ht => look2 t ht) (fun t ht => hke t ht), hci, (puts_put hkd).symm⟩))
        · exact fin (e.put oj.dst (.d (.v undef))) σ (.inr (.inl ⟨hgj.same fun t ht => (hkl t ht).symm, hej, rfl, rfl⟩)) (.inr (.inr ⟨hgi.same (fun t ht => look2 t ht), hei, hi1, hi2, si, hki, hopi.same (fun t ht => look2 t ht) (fun t ht => hke t ht), hci, (puts_put hkd).symm⟩))
        · rcases hs1 with h | h
          · rw [hei] at h; simp at h
          · rw [hej] at h; simp at h
/-- The check: whoever is free to change places has nothing to do with the other. -/
def Region.keysFree (ops : Array Oper) (ef : Nat → Bool) (K : Nat → List Nat) (listed : Array Bool) (k : Nat) (late : Nat → Bool) : Bool :=
  (List.range ops.size).all fun j =>
    (!(late j) || (!(listed.getD j false) && ((ops[j]?).map fun o => o.after.any fun e => Region.binds .any e && (Nat.beq e.on k || late e.on)).getD true)) &&
    (Nat.beq j k || listed.getD j true || late j || Region.edge ops j k || ((!(ef k) || !(ef j)) && ((ops[k]?).bind fun oi => (ops[j]?).map fun oj => keysOkB ops K k j oi oj).getD false))
def Region.keysFrom (ops : Array Oper) (ef : Nat → Bool) (K : Nat → List Nat) : Nat → Nat → Array Bool → Bool
  | 0, _, _ => true
  | fuel + 1, k, listed => Region.keysFree ops ef K listed k (Region.lateB ops k) && Region.keysFrom ops ef K fuel (k + 1) (listed.setIfInBounds k true)
theorem Region.keysFree_spec {ops : Array Oper} {ef : Nat → Bool} {K : Nat → List Nat} {listed : Array Bool} {k : Nat} {oi : Oper} {late : Nat → Bool} (h : Region.keysFree ops ef K listed k late = true) (hk : ops[k]? = some oi) (hl : ∀ j, late j = true → j < ops.size) :
    (∀ j oj, ops[j]? = some oj → late j = true → ∃ e ∈ oj.after, Region.binds .any e = true ∧ (e.on = k ∨ late e.on = true)) ∧ (∀ j, late j = true → listed.getD j false = false) ∧
    ∀ j oj, ops[j]? = some oj → j ≠ k → listed.getD j true = false → (∀ e ∈ oj.after, Region.binds .any e = true → e.on ≠ k) → late j = false → (ef k = false ∨ ef j = false) ∧ keysOkB ops K k j oi oj = true := by
  have h1 : ∀ j, j < ops.size → _ := fun j hj => List.all_eq_true.1 h j (List.mem_range.2 hj)
  simp only [Bool.and_eq_true] at h1
  refine ⟨fun j oj hoj hlj => ?_, fun j hlj => ?_, fun j oj hoj hjk hun hno hlj => ?_⟩
  · have h2 := (h1 j (Array.getElem?_eq_some_iff.1 hoj).1).1
    rw [hlj, hoj] at h2
    simp only [Bool.not_true, Bool.false_or, Option.map_some, Option.getD_some, Bool.and_eq_true, Array.any_eq_true'] at h2
    obtain ⟨_, e, he, hb⟩ := h2
    simp only [Bool.or_eq_true] at hb
    exact ⟨e, he, hb.1, hb.2.imp Nat.eq_of_beq_eq_true (fun x => x)⟩
  · have h2 := (h1 j (hl j hlj)).1
    rw [hlj] at h2
    simp only [Bool.not_true, Bool.false_or, Bool.and_eq_true, Bool.not_eq_true'] at h2
    exact h2.1
  · have h2 := (h1 j (Array.getElem?_eq_some_iff.1 hoj).1).2
    have hb : Nat.beq j k = false := by rw [Bool.eq_false_iff]; exact fun hh => hjk (Nat.eq_of_beq_eq_true hh)
    rw [hb, hun, hlj, hk, hoj] at h2
    simp only [Bool.false_or, Bool.or_eq_true, Bool.and_eq_true, Bool.not_eq_true', Option.bind_some, Option.map_some, Option.getD_some] at h2
    rcases h2 with h2 | h2
    · obtain ⟨o, ho, e, he, hb2, heq⟩ := Region.edge_spec h2
      rw [hoj] at ho; cases ho
      exact absurd heq (hno e he hb2)
    · exact h2
theorem anyL_lex {cx : Cx} {ops : Array Oper} {Φ : List Fc} {ef : Nat → Bool} {K : Nat → List Nat} {I : Obs → Prop} (hK : ∀ k, ef k = false → K k = []) {Q : Env → Obs → Prop} : ∀ (l : List Oper) (k : Nat) (listed : Array Bool) (e : Env) (σ : Obs), (∀ j, l[j]? = ops[k + j]?) →
    Region.lexFrom .any ops l.length k listed = true → Region.keysFrom ops ef K l.length k listed = true → LRun cx ops Φ ef K I k l e σ Q → anyL cx ops Φ ef K I Q l.length listed e σ
  | [], _, _, _, _, _, hB, _, h => ⟨by simpa [Region.lexFrom] using hB, h⟩
  | o :: l, k, listed, e, σ, hl, hB, hS, h => by
    have h0 : ops[k]? = some o := by simpa using (hl 0).symm
    simp only [List.length_cons, Region.lexFrom, Bool.and_eq_true] at hB
    simp only [List.length_cons, Region.keysFrom, Bool.and_eq_true] at hS
    obtain ⟨⟨hr, hf⟩, hB'⟩ := hB
    have hl' : ∀ j, l[j]? = ops[k + 1 + j]? := fun j => by have := hl (j + 1); simpa [Nat.add_assoc, Nat.add_comm 1 j] using this
    obtain ⟨_, e', σ', hs, hq⟩ := h
    have hgo := anyL_lex hK l (k + 1) _ _ _ hl' hB' hS.2 hq
    obtain ⟨k1, k2, k3⟩ := Region.keysFree_spec hS.1 h0 (fun j hj => by
      unfold Region.lateB at hj
      simp only [Bool.and_eq_true, Nat.blt_eq] at hj
      exact hj.1)
    exact anyL_first hK h0 _ k1 l.length listed e σ e' σ' k2 (fun j oj hj hji hun hno => ⟨Region.free_spec h0 hf j oj hj hji hun hno, fun hl => k3 j oj hj hji hun hno hl⟩) (by simpa using hr) hs hgo
theorem LRun.dsts {cx : Cx} {ops : Array Oper} {Φ : List Fc} {ef : Nat → Bool} {K : Nat → List Nat} {I : Obs → Prop} {Q : Env → Obs → Prop} : ∀ (l : List Oper) (k : Nat) (e : Env) (σ : Obs), LRun cx ops Φ ef K I k l e σ Q → ∀ o ∈ l, DstOk cx.N o
  | [], _, _, _, _, o, ho => by cases ho
  | x :: l, k, e, σ, h, o, ho => by
    obtain ⟨h1, _, _, _, h2⟩ := h
    cases ho with
    | head => exact h1
    | tail _ ho => exact LRun.dsts l _ _ _ h2 o ho
theorem Clean.put {Φ : List Fc} {e : Env} {dst : Option Nat} {s : S} (h : Clean Φ e) (hs : ∀ f ∈ Φ, (∃ t, dst = some t ∧ f.slots.contains t = true) ∨ s.kill f.id = s) : Clean Φ (e.put dst s) := fun f hf t ht => by
  cases dst with
  | none => exact h f hf t ht
  | some d =>
    by_cases hd : t = d
    · subst hd
      rw [Env.put_same]
      rcases hs f hf with ⟨t', h1, h2⟩ | h1
      · cases h1; rw [ht] at h2; simp at h2
      · exact h1
    · rw [Env.put_other _ _ _ _ hd]; exact h f hf t ht
theorem Clean.puts {Φ : List Fc} : ∀ {l : List (Nat × S)} {e : Env}, Clean Φ e → (∀ p ∈ l, ∀ f ∈ Φ, f.slots.contains p.1 = true ∨ p.2.kill f.id = p.2) → Clean Φ (Env.puts e l)
  | [], _, h, _ => h
  | p :: l, e, h, hs => by
    unfold Env.puts
    refine Clean.puts (fun f hf t ht => ?_) fun q hq => hs q (List.mem_cons_of_mem _ hq)
    by_cases hd : t = p.1
    · subst hd
      rw [Env.put_same]
      rcases hs p (by simp) f hf with h1 | h1
      · rw [ht] at h1; simp at h1
      · exact h1
    · rw [Env.put_other _ _ _ _ hd]; exact h f hf t ht
theorem wpAny_of_L {cx : Cx} {ops : Array Oper} {Φ : List Fc} {ef : Nat → Bool} {K : Nat → List Nat} {I : Obs → Prop} {Q : Post} (hQ : ∀ ex e σ, ex ≠ .normal → ¬ Q ex e σ) (hd : ∀ o ∈ ops.toList, DstOk cx.N o) : ∀ (fuel : Nat) (listed : Array Bool) (e : Env) (σ : Obs) (a : Act) (w : World), R cx e σ a w → Clean Φ e →
    anyL cx ops Φ ef K I (fun e σ => Q .normal e σ) fuel listed e σ → wpAny cx.P .any ops (lift cx Q) fuel listed a w
  | 0, _, e, σ, _, _, hr, _, h => ⟨h.1, e, σ, h.2, hr⟩
  | fuel + 1, listed, e, σ, a, w, hr, hc, h => by
    refine ⟨fun h0 => ⟨e, σ, h.1 h0, hr⟩, fun i hi => ?_⟩
    obtain ⟨_, o, ho, _⟩ := mem_ready.1 hi
    obtain ⟨e', σ', hs, hk⟩ := h.2 i hi o ho
    have hdo : DstOk cx.N o := hd o (Array.mem_toList_iff.2 (Array.mem_of_getElem? ho))
    unfold wpOp
    simp only [ho]
    have hR := hr
    obtain ⟨F, ρ, hr⟩ := hr
    rcases hs with ⟨hg, _, s, hI, hop, hcl, rfl, rfl⟩ | ⟨hg, _, rfl, rfl⟩ | ⟨hg, _, _, _, si, _, hop, hci, rfl⟩
    · rw [if_pos (hg.wanted (fun t _ => hr.env t))]
      refine .inl (wp_to ?_ (fun _ _ _ => False.elim) (hop _ hI F ρ w a hr.lt (fun t _ => hr.env t) hr.obs))
      rintro a' w' ⟨v, F', rfl, hv, he⟩
      exact wpAny_of_L hQ hd fuel _ _ _ _ _ ⟨F', ρ, hr.put he hv hdo⟩ (hc.put hcl) hk
    · rw [if_neg (by rw [hg.wanted (fun t _ => hr.env t)]; simp)]
      exact wpAny_of_L hQ hd fuel _ _ _ _ _ ⟨F, ρ, hr.put (Ext.refl hr.lt) repS_undef hdo⟩ (hc.put fun _ _ => .inr rfl) hk
    · have hw : Region.wanted o (yielded ops a.tmps) = true := hg.wanted (fun t _ => hr.env t)
      rw [if_pos hw]
      have h4 := hop e (fun _ _ => rfl) (fun _ _ => rfl) hc a w hR
      unfold wpList at h4
      rw [if_pos hw] at h4
      refine h4.imp (wp_to2 ?_ ?_) fun h => ⟨h.1, ?_⟩
      · rintro a' w' ⟨e', σ'', ⟨rfl, rfl⟩, hr'⟩
        exact wpAny_of_L hQ hd fuel _ _ _ _ _ hr' (hc.puts hci) hk
      · rintro ex a' w' hne ⟨e', σ'', hq, _⟩
        cases ex <;> first | exact absurd rfl hne | exact hq.elim
      · obtain ⟨a', w', e', σ'', hq, _⟩ := h.2
        exact hq.elim
/-- Before the region: no slot but those told holds what it makes or turns. -/
def Env.killOut (f : Fc) (e : Env) : Env := fun t => match f.slots.contains t with | true => e t | false => (e t).kill f.id
def Env.killIds : List Fc → Env → Env
  | [], e => e
  | f :: l, e => Env.killIds l (e.killOut f)
theorem killOut_keep {f : Fc} {g : Fc} {e : Env} (h : Clean [g] e) : Clean [g] (e.killOut f) := fun g' hg t ht => by
  have h1 := h g' hg t ht
  unfold Env.killOut
  cases f.slots.contains t with
  | true => exact h1
  | false => show S.kill g'.id (S.kill f.id (e t)) = S.kill f.id (e t); rw [kill_comm, h1]
theorem killIds_keep {g : Fc} : ∀ {Φ : List Fc} {e : Env}, Clean [g] e → Clean [g] (Env.killIds Φ e)
  | [], _, h => h
  | _ :: l, _, h => killIds_keep (Φ := l) (killOut_keep h)
theorem killOut_clean (f : Fc) (e : Env) : Clean [f] (e.killOut f) := fun g hg t ht => by
  obtain rfl := List.mem_singleton.1 hg
  unfold Env.killOut
  rw [ht]
  exact S.kill_kill g.id (e t)
theorem killIds_clean : ∀ (Φ : List Fc) (e : Env), Clean Φ (Env.killIds Φ e)
  | g :: l, e, f, hf, t, ht => by
    rcases List.mem_cons.1 hf with rfl | hf
    · exact killIds_keep (Φ := l) (killOut_clean f e) f (by simp) t ht
    · exact killIds_clean l (e.killOut g) f hf t ht
theorem R.killOut {cx : Cx} {σ : Obs} {a : Act} {w : World} {e : Env} (f : Fc) : R cx e σ a w → R cx (e.killOut f) σ a w
  | ⟨F, ρ, h⟩ => by
    have henv : ∀ t, RepS F ρ w (a.tmps.getD t undef) (e.killOut f t) := fun t => by
      unfold Env.killOut
      cases f.slots.contains t with
      | true => exact h.env t
      | false => exact (h.killEnv f.id).env t
    exact ⟨F, ρ, h.size, h.defers, h.lt, h.base, h.new, h.below, h.hB, henv, h.obs, h.up, h.kown, h.fixed⟩
theorem R.killIds {cx : Cx} {σ : Obs} {a : Act} {w : World} : ∀ (Φ : List Fc) {e : Env}, R cx e σ a w → R cx (Env.killIds Φ e) σ a w
  | [], _, h => h
  | f :: l, _, h => R.killIds l (R.killOut f h)
/-- Such a region, walked once, in the order of the text. -/
theorem AWP.drawL {cx : Cx} {id : Nat} {l : List Oper} {e : Env} {σ : Obs} {Q : Post} (Φ : List Fc) (E : List (Nat × List Nat)) (I : Obs → Prop) (hm : cx.P.follows .mixedOrders = true) (hB : Region.lexB .any l.toArray = true)
    (hS : Region.keysFrom l.toArray (fun k => E.any fun p => Nat.beq p.1 k) (fun k => ((E.find? fun p => Nat.beq p.1 k).map Prod.snd).getD []) l.length 0 (Array.replicate l.length false) = true)
    (h : LRun cx l.toArray Φ (fun k => E.any fun p => Nat.beq p.1 k) (fun k => ((E.find? fun p => Nat.beq p.1 k).map Prod.snd).getD []) I 0 l (Env.killIds Φ e) σ (fun e σ => Q .normal e σ)) : AWP cx (.region id l.toArray true) e σ Q := by
  intro a w ⟨F, ρ, hr⟩
  simp only [Region.lexB, Bool.and_eq_true] at hB
  have hK : ∀ k, (E.any fun p => Nat.beq p.1 k) = false → ((E.find? fun p => Nat.beq p.1 k).map Prod.snd).getD [] = [] := fun k hk => by
    have : E.find? (fun p => Nat.beq p.1 k) = none := List.find?_eq_none.2 fun p hp hh => by
      have : (E.any fun p => Nat.beq p.1 k) = true := List.any_eq_true.2 ⟨p, hp, hh⟩
      rw [hk] at this
      simp at this
    rw [this]; rfl
  have h1 := anyL_lex hK l 0 (Array.replicate l.toArray.size false) _ σ (by simp) (by simpa using hB.2) (by simpa using hS) h
  have h2 : wpAny cx.P .any l.toArray (lift cx (QN Q)) l.toArray.size (Array.replicate l.toArray.size false) a { w with drawn := w.drawn + 1 } :=
    wpAny_of_L (Q := QN Q) (fun ex e σ hne hq => by cases ex <;> first | exact absurd rfl hne | exact hq.elim) (by simpa using LRun.dsts l 0 _ σ h) _ _ _ σ a _ (R.killIds Φ ⟨F, ρ, hr.drew⟩) (killIds_clean Φ e) h1
  refine wp_mono (wp_region_any hm h2) ?_
  rintro ex a w ⟨e, σ, h4, h5⟩
  cases ex with
  | normal => exact ⟨e, σ, h4, h5⟩
  | exit id => exact h4.elim
  | goto l => exact h4.elim
  | ret => exact h4.elim
  | panic c => exact h4.elim
  | outgrown => exact h4.elim
/-- The same, with a tail that waits for all before it. -/
theorem AWP.drawLTail {cx : Cx} {id : Nat} {l : List Oper} {e : Env} {σ : Obs} {Q : Post} (k : Nat) (Φ : List Fc) (E : List (Nat × List Nat)) (I : Obs → Prop) (hm : cx.P.follows .mixedOrders = true) (hB : Region.lexB .any (l.take k).toArray = true)
    (hS : Region.keysFrom (l.take k).toArray (fun k => E.any fun p => Nat.beq p.1 k) (fun k => ((E.find? fun p => Nat.beq p.1 k).map Prod.snd).getD []) (l.take k).length 0 (Array.replicate (l.take k).length false) = true) (hC : Region.chainB l.toArray k = true)
    (h : LRun cx (l.take k).toArray Φ (fun k => E.any fun p => Nat.beq p.1 k) (fun k => ((E.find? fun p => Nat.beq p.1 k).map Prod.snd).getD []) I 0 (l.take k) (Env.killIds Φ e) σ (fun e σ => AOps cx l.toArray (l.drop k) e σ Q)) : AWP cx (.region id l.toArray true) e σ Q := by
  intro a w ⟨F, ρ, hr⟩
  simp only [Region.lexB, Bool.and_eq_true] at hB
  have hch := Chain.of hC
  have hkl : k ≤ l.length := by simpa using hch.le
  have hK : ∀ k, (E.any fun p => Nat.beq p.1 k) = false → ((E.find? fun p => Nat.beq p.1 k).map Prod.snd).getD [] = [] := fun k hk => by
    have : E.find? (fun p => Nat.beq p.1 k) = none := List.find?_eq_none.2 fun p hp hh => by
      have : (E.any fun p => Nat.beq p.1 k) = true := List.any_eq_true.2 ⟨p, hp, hh⟩
      rw [hk] at this
      simp at this
    rw [this]; rfl
  have h1 := anyL_lex hK (l.take k) 0 (Array.replicate (l.take k).toArray.size false) _ σ (by simp) (by simpa using hB.2) (by simpa using hS) h
  have h2 := wpAny_of_L (cx := cx) (ops := (l.take k).toArray) (Q := fun ex e σ => match ex with | .normal => AOps cx l.toArray (l.drop k) e σ Q | _ => False) (fun ex e σ hne hq => by cases ex <;> first | exact absurd rfl hne | exact hq.elim) (by simpa using LRun.dsts _ 0 _ σ h) _ _ _ σ a _ (R.killIds Φ ⟨F, ρ, hr.drew⟩) (killIds_clean Φ e) h1
  refine wp_region_any hm (wpAny_split hch (ops0 := (l.take k).toArray) (by simp; omega) (fun j hj => by simp [hj]) ?_ ?_ (l.take k).length _ _ _ _ _ (by simp; omega) (by simp) ?_ ?_ ?_ (by simp; omega) h2)
  · rintro a w ⟨e, σ, h3, h4⟩
    have := h3 a w h4
    simpa using this
  · rintro ex a w hne ⟨e, σ, h3, _⟩
    cases ex <;> first | exact absurd rfl hne | exact h3.elim
  · intro j hj d
    have h5 : j < l.length := by omega
    have h6 : j < min k l.length := by omega
    simp [Array.getD_eq_getD_getElem?, h5, h6]
  · intro j hj hj2
    have : j < l.length := by simpa using hj2
    simp [Array.getD_eq_getD_getElem?, this]
  · intro i o ho hi
    have : i < l.length := by simpa using (Array.getElem?_eq_some_iff.1 ho).1
    simp [Array.getD_eq_getD_getElem?, this] at hi
section
variable {cx : Cx} {ops : Array Oper} {Φ : List Fc} {ef : Nat → Bool} {K : Nat → List Nat} {I : Obs → Prop} {n : Nat} {o : Oper} {l : List Oper} {e : Env} {σ : Obs} {Q : Env → Obs → Prop}
def cleanS (t : Nat) (s : S) : List Fc → Prop
  | [] => True
  | f :: l => (f.slots.contains t = true ∨ s.kill f.id = s) ∧ cleanS t s l
theorem cleanS.all {t : Nat} {s : S} : ∀ {l : List Fc}, cleanS t s l → ∀ f ∈ l, f.slots.contains t = true ∨ s.kill f.id = s
  | [], _, f, hf => by cases hf
  | g :: l, h, f, hf => by
    cases hf with
    | head => exact h.1
    | tail _ hf => exact cleanS.all h.2 f hf
theorem LRun.nil (h : Q e σ) : LRun cx ops Φ ef K I n [] e σ Q := h
theorem LRun.step {s : S} {t : Nat} (hg : GW ops o e true) (ht : o.dst = some t) (hd : Nat.blt t cx.N = true) (hI : I σ) (h : ∀ τ, I τ → AOp cx.P cx.B ops o e τ s) (k : LRun cx ops Φ ef K I (n + 1) l (e.put (some t) s) σ Q) (he : ef n = false := by rfl) (hc : cleanS t s Φ := by first | exact ⟨.inr rfl, trivial⟩ | exact ⟨.inl rfl, trivial⟩) : LRun cx ops Φ ef K I n (o :: l) e σ Q :=
  ⟨by unfold DstOk; rw [ht]; exact hd, _, _, .inl ⟨hg, he, s, hI, h, fun f hf => (hc.all f hf).imp (fun h => ⟨t, ht, h⟩) id, rfl, rfl⟩, by rw [ht]; exact k⟩
theorem LRun.pass {t : Nat} (hg : GW ops o e false) (ht : o.dst = some t) (hd : Nat.blt t cx.N = true) (k : LRun cx ops Φ ef K I (n + 1) l (e.put (some t) (.d (.v undef))) σ Q) (he : ef n = false := by rfl) : LRun cx ops Φ ef K I n (o :: l) e σ Q :=
  ⟨by unfold DstOk; rw [ht]; exact hd, _, _, .inr (.inl ⟨hg, he, rfl, rfl⟩), by rw [ht]; exact k⟩
def cleanL (Φ : List Fc) : List (Nat × S) → Prop
  | [] => True
  | p :: l => (∀ f ∈ Φ, f.slots.contains p.1 = true ∨ p.2.kill f.id = p.2) ∧ cleanL Φ l
theorem LRun.eff {si : List (Nat × S)} {σ' : Obs} (hg : GW ops o e true) (hd : DstOk cx.N o) (h1 : I σ) (h2 : I σ') (h : GE cx ops Φ o e σ si σ') (k : LRun cx ops Φ ef K I (n + 1) l (Env.puts e si) σ' Q) (hc : ∀ p ∈ si, ∀ f ∈ Φ, f.slots.contains p.1 = true ∨ p.2.kill f.id = p.2) (he : ef n = true := by rfl) (hk : si.map Prod.fst = K n := by rfl) : LRun cx ops Φ ef K I n (o :: l) e σ Q :=
  ⟨hd, _, _, .inr (.inr ⟨hg, he, h1, h2, si, hk, h, hc, rfl⟩), k⟩
/-- A store. -/
theorem GE.store {σ' : Obs} (hg : o.guard = none) (ht : o.dst = none) (h : EOp cx ops o e σ σ') : GE cx ops Φ o e σ [] σ' := fun e0 h1 _ _ =>
  AOps.eff hg ht (h.same fun t ht => h1 t ht) (.nil ⟨rfl, rfl⟩)
theorem pair_eq {id a b : Nat} {e0 e : Env} (hab : a ≠ b) (hb : e0 b = e b) (hc : ∀ t, t ≠ a → t ≠ b → (e0 t).kill id = e0 t) : (e0.kill id).put (some a) (.own id) = Env.puts e0 [(b, (e b).kill id), (a, .own id)] := by
  funext t
  show _ = ((e0.put (some b) ((e b).kill id)).put (some a) (.own id)) t
  by_cases h1 : t = a
  · subst h1; rw [Env.put_same, Env.put_same]
  · rw [Env.put_other _ _ _ _ h1, Env.put_other _ _ _ _ h1]
    by_cases h2 : t = b
    · subst h2; rw [Env.put_same]; show (e0 t).kill id = _; rw [hb]
    · rw [Env.put_other _ _ _ _ h2]; exact hc t h1 h2
/-- A call that makes an own row, and the one other slot that is to hold it. -/
theorem GE.callO {f : FuncId} {xs : List Operand} {ts : Array TypeId} {ds : List D} {ee size dst : Nat} {els : List (List D)} {σ' : Obs} (id b : Nat) {sl : List Nat} (hΦ : ⟨id, sl⟩ ∈ Φ) (hsl : ∀ t, t ≠ dst → t ≠ b → sl.contains t = false) (hab : dst ≠ b) (hg : o.guard = none) (ht : o.dst = some dst) (hdn : Nat.blt dst cx.N = true)
    (ho : o.op = .call { callee := .value (.func f), args := xs.toArray, argTypes := ts }) (ha : ArgsOk e xs ds) (h : OCall cx.P f ds ee size els) (hid : Obs.fresh id σ = true) (hσ : (id, .row ee size els) :: Obs.kill id σ = σ') (hfx : cx.free id = true := by rfl) :
    GE cx ops Φ o e σ [(b, (e b).kill id), (dst, .own id)] σ' := fun e0 h1 h2 h3 => by
  have hev : ∀ x ∈ xs, e0.ev x = e.ev x := fun x hx => ev_same fun t hxt => h1 t (looks_op (by rw [ho, ← hxt]; simp [Op.operands, Call.operands, hx]))
  have ha0 : ArgsOk e0 xs ds := by
    have key : ∀ (xs : List Operand) (ds : List D), (∀ x ∈ xs, e0.ev x = e.ev x) → ArgsOk e xs ds → ArgsOk e0 xs ds := by
      intro xs
      induction xs with
      | nil => intro ds _ h; cases ds <;> exact h
      | cons x xs ih =>
        intro ds hx h
        cases ds with
        | nil => exact h
        | cons d ds =>
          obtain ⟨⟨d0, h1, h2⟩, h3⟩ := h
          exact ⟨⟨d0, (hx x (by simp)).trans h1, h2⟩, ih ds (fun y hy => hx y (by simp [hy])) h3⟩
    exact key xs ds hev ha
  have hp := pair_eq (id := id) (e0 := e0) (e := e) hab (h2 b (by simp)) fun t ht1 ht2 => h3 _ hΦ t (hsl t ht1 ht2)
  exact AOps.callO id hg ht hdn ho ha0 h hid (.nil ⟨hp, hσ⟩) hfx
/-- An append to it. -/
theorem GE.append {s x : Operand} {t ee size bytes dst : Nat} {z : Value} {els els2 : List (List D)} {σ' : Obs} (id b : Nat) {sl : List Nat} (hΦ : ⟨id, sl⟩ ∈ Φ) (hsl : ∀ t, t ≠ dst → t ≠ b → sl.contains t = false) (hab : dst ≠ b) (hg : o.guard = none)
    (ho : o.op = .call { callee := .builtin .append, args := #[s, x], argTypes := #[t, t] }) (hd : o.dst = some dst) (hdn' : Nat.blt dst cx.N = true) (T : ElemTy cx.P t ee size bytes z) (hs : e.ev s = .own id) (hm : (id, Ob.row ee size els) ∈ σ)
    (hx : e.ev x = .d (.sl els2)) (hsz : ∀ y ∈ els2, y.length = size) (hb : (els.length + els2.length) * bytes ≤ 140737488355328) (hn : els.length + els2.length ≤ 9223372036854775807) (hσ : Obs.upd id (.row ee size (els ++ els2)) (Obs.kill id σ) = σ') (hfx : cx.free id = true := by rfl) :
    GE cx ops Φ o e σ [(b, (e b).kill id), (dst, .own id)] σ' := fun e0 h1 h2 h3 => by
  have e1 : e0.ev s = e.ev s := ev_same fun t hxt => h1 t (looks_op (by rw [ho, ← hxt]; simp [Op.operands, Call.operands]))
  have e2 : e0.ev x = e.ev x := ev_same fun t hxt => h1 t (looks_op (by rw [ho, ← hxt]; simp [Op.operands, Call.operands]))
  have hp := pair_eq (id := id) (e0 := e0) (e := e) hab (h2 b (by simp)) fun t ht1 ht2 => h3 _ hΦ t (hsl t ht1 ht2)
  exact AOps.append hg ho hd hdn' T (e1.trans hs) hm (e2.trans hx) hsz hb hn (.nil ⟨hp, hσ⟩) hfx
theorem triple_eq {id a b c : Nat} {e0 e : Env} (hab : a ≠ b) (hac : a ≠ c) (hbc : b ≠ c) (hb : e0 b = e b) (hcc : e0 c = e c) (hc : ∀ t, t ≠ a → t ≠ b → t ≠ c → (e0 t).kill id = e0 t) : (e0.kill id).put (some a) (.own id) = Env.puts e0 [(c, (e c).kill id), (b, (e b).kill id), (a, .own id)] := by
  funext t
  show _ = (((e0.put (some c) ((e c).kill id)).put (some b) ((e b).kill id)).put (some a) (.own id)) t
  by_cases h1 : t = a
  · subst h1; rw [Env.put_same, Env.put_same]
  · rw [Env.put_other _ _ _ _ h1, Env.put_other _ _ _ _ h1]
    by_cases h2 : t = b
    · subst h2; rw [Env.put_same]; show (e0 t).kill id = _; rw [hb]
    · rw [Env.put_other _ _ _ _ h2]
      by_cases h3 : t = c
      · subst h3; rw [Env.put_same]; show (e0 t).kill id = _; rw [hcc]
      · rw [Env.put_other _ _ _ _ h3]; exact hc t h1 h2 h3
/-- An append to a row that two other slots hold. -/
theorem GE.append3 {s x : Operand} {t ee size bytes dst : Nat} {z : Value} {els els2 : List (List D)} {σ' : Obs} (id b c : Nat) {sl : List Nat} (hΦ : ⟨id, sl⟩ ∈ Φ) (hsl : ∀ t, t ≠ dst → t ≠ b → t ≠ c → sl.contains t = false) (hab : dst ≠ b) (hac : dst ≠ c) (hbc : b ≠ c) (hg : o.guard = none)
    (ho : o.op = .call { callee := .builtin .append, args := #[s, x], argTypes := #[t, t] }) (hd : o.dst = some dst) (hdn' : Nat.blt dst cx.N = true) (T : ElemTy cx.P t ee size bytes z) (hs : e.ev s = .own id) (hm : (id, Ob.row ee size els) ∈ σ)
    (hx : e.ev x = .d (.sl els2)) (hsz : ∀ y ∈ els2, y.length = size) (hb : (els.length + els2.length) * bytes ≤ 140737488355328) (hn : els.length + els2.length ≤ 9223372036854775807) (hσ : Obs.upd id (.row ee size (els ++ els2)) (Obs.kill id σ) = σ') (hfx : cx.free id = true := by rfl) :
    GE cx ops Φ o e σ [(c, (e c).kill id), (b, (e b).kill id), (dst, .own id)] σ' := fun e0 h1 h2 h3 => by
  have e1 : e0.ev s = e.ev s := ev_same fun t hxt => h1 t (looks_op (by rw [ho, ← hxt]; simp [Op.operands, Call.operands]))
  have e2 : e0.ev x = e.ev x := ev_same fun t hxt => h1 t (looks_op (by rw [ho, ← hxt]; simp [Op.operands, Call.operands]))
  have hp := triple_eq (id := id) (e0 := e0) (e := e) hab hac hbc (h2 b (by simp)) (h2 c (by simp)) fun t ht1 ht2 ht3 => h3 _ hΦ t (hsl t ht1 ht2 ht3)
  exact AOps.append hg ho hd hdn' T (e1.trans hs) hm (e2.trans hx) hsz hb hn (.nil ⟨hp, hσ⟩) hfx
end
/-- Data, stored into own cells. -/
theorem EOp.store {cx : Cx} {ops : Array Oper} {o : Oper} {e : Env} {σ : Obs} {t id off size : Nat} {x y : Operand} {d : D} {ss : List S} (ht : o.dst = none) (ho : o.op = .store t x y) (hs : ∀ w, (sizeOf t).run cx.P w = .ok size w) (hx : e.ev x = .ptr id off) (hm : (id, Ob.cells ss) ∈ σ) (hy : e.ev y = .d d) (h1 : d.one = true) (hl : d.parts.length = size)
    (hle : off + size ≤ ss.length) : EOp cx ops o e σ (Obs.upd id (.cells (ss.take off ++ d.parts.map S.d ++ ss.drop (off + size))) σ) := by
  intro F ρ a w e0 hr ha
  have hop : ∀ y ∈ o.op.operands.toList, RepS F ρ w (a.eval y) (e.ev y) := fun y hy => ev_rep fun t ht => ha t (looks_op (by rw [← ht]; exact hy))
  have r1 := hop x (by rw [ho]; simp [Op.operands])
  have r2 := hop y (by rw [ho]; simp [Op.operands])
  rw [hx] at r1
  rw [hy] at r2
  obtain ⟨h3, h4⟩ := parts_rep (repS_d r2) h1
  obtain ⟨g, ty, cs, hρ, hB, hF, hh, hcl, hcs⟩ := hr.obs.ok _ hm
  dsimp only at hρ
  have hxv := ptr_at r1 (g := g) (by rw [hρ]; rfl)
  have hsz : (a.eval y).cells.size = size := by have := h3.1; rw [Array.length_toList] at this; omega
  obtain ⟨w', h5, h6, h7⟩ := storeVar_run (P := cx.P) (off := off) hs hsz hh (by omega) h4
  unfold Oper.wp execOp
  simp only [ho, Instr.storeAt, hxv, Instr.sureAddr, Sem.run_bind, Sem.run_pure, Result.andThen_ok, h5]
  refine ⟨by rw [ht]; rfl, fun e2 hr2 => ⟨F, ρ, ?_⟩⟩
  refine hr2.write hρ hm hB hF h6 h7 (by simp; omega) (fun j hj hj' => by
    have hlen : (a.eval y).cells.toList.length = size := by rw [Array.length_toList]; exact hsz
    by_cases j1 : j < off
    · rw [List.getElem_append_left (by simp; omega), List.getElem_append_left (by simp; omega), List.getElem_append_left (by simp; omega), List.getElem_append_left (by simp; omega), List.getElem_take, List.getElem_take]
      exact hcs j (by omega) (by omega)
    · by_cases j2 : j < off + size
      · rw [List.getElem_append_left (by simp; omega), List.getElem_append_right (by simp; omega), List.getElem_append_left (by simp; omega), List.getElem_append_right (by simp; omega), List.getElem_map]
        have e1 : (List.take off cs).length = off := by simp; omega
        have e2 : (List.take off ss).length = off := by simp; omega
        simp only [e1, e2]
        exact ⟨h4 _ (List.getElem_mem _), .d (h3.2 _ _ _)⟩
      · rw [List.getElem_append_right (by simp; omega), List.getElem_append_right (by simp; omega), List.getElem_drop, List.getElem_drop]
        have e1 : (List.take off cs ++ (a.eval y).cells.toList).length = off + size := by simp; omega
        have e2 : (List.take off ss ++ d.parts.map S.d).length = off + size := by simp; omega
        simp only [e1, e2]
        exact hcs _ _ _)
end Go.Proofs.YtnapkooefpkicaaGreatDoor


namespace Go.Proofs.YtnapkooefpkicaaGreatDoor
open Go.RowKit
set_option linter.unusedVariables false

theorem AOp.callCloSnap {P : Program} {B : Nat} {ops : Array Oper} {o : Oper} {e : Env} {σ : Obs} {x : Operand} {f : FuncId} {xs : List Operand} {ts : Array TypeId} {ds caps : List D} {d : D}
    (ho : o.op = .call { callee := .value x, args := xs.toArray, argTypes := ts }) (hx : e.ev x = .d (.clo (.func f) caps)) (ha : SnapArgs e σ xs ds) (h : ACall P f (ds ++ caps) d) (hp : Plain d) : AOp P B ops o e σ (.d d) := by
  intro F ρ w a hF hr hσ
  have hr' : ∀ y ∈ o.op.operands.toList, RepS F ρ w (a.eval y) (e.ev y) := fun y hy => ev_rep fun t ht => hr t (looks_op (by rw [← ht]; exact hy))
  have h1 := ha.rep (a := a) hσ fun x hx => hr' x (by rw [ho]; simp [Op.operands, Call.operands, hx])
  have hF2 : ∀ b, endF F ρ σ b → b < w.heap.size := by
    rintro b (hb | ⟨p, hp, hb⟩)
    · exact hF b hb
    · exact ((hσ.ok p hp).blk_lt hb).2
  have hc := hr' x (by rw [ho]; simp [Op.operands, Call.operands])
  rw [hx] at hc
  have hc2 := (Snap.d (σ := σ) (.clo (.func f) caps)).rep hσ _ hc
  generalize hv : a.eval x = v at hc2
  cases hc2 with
  | clo _ cs _ hl hcs =>
    have h2 := h.2 (endF F ρ σ) w (xs.map a.eval ++ cs) hF2 (RepL.append h1 ⟨hl, hcs⟩)
    have h3 := h.1 (xs.map a.eval ++ cs).toArray w
    have hrun : (execOp a.eval o).run P w = .ok (.enter f (xs.map a.eval ++ cs).toArray) w := by
      unfold execOp
      simp only [ho, resolve, Deferred.ofValue, hv, invoke, Sem.run_bind, Sem.run_pure, Result.andThen_ok]
      simpa using h3
    unfold Oper.wp
    rw [hrun]
    refine h2.mono fun _ w' ⟨v, F', he, hv, hE⟩ => ?_
    subst he
    exact ⟨v, F, rfl, .d (hp.rep _ hv), Ext.of_below hF hE.below⟩
end Go.Proofs.YtnapkooefpkicaaGreatDoor


namespace Go.Proofs.YtnapkooefpkicaaGreatDoor
open Go.RowKit
set_option linter.unusedVariables false

theorem AOps.callOS {cx : Cx} {ops : Array Oper} {o : Oper} {rest : List Oper} {e : Env} {σ : Obs} {Q : Post} {f : FuncId} {xs : List Operand} {ts : Array TypeId} {ds : List D} {ee size dst : Nat} {els : List (List D)} (id : Nat) (hg : o.guard = none) (ht : o.dst = some dst) (hdn : Nat.blt dst cx.N = true)
    (ho : o.op = .call { callee := .value (.func f), args := xs.toArray, argTypes := ts }) (ha : SnapArgs e σ xs ds) (h : OCall cx.P f ds ee size els) (hpl : ∀ y ∈ els, ∀ d ∈ y, Plain d) (hid : Obs.fresh id σ = true)
    (k : AOps cx ops rest ((e.kill id).put (some dst) (.own id)) ((id, .row ee size els) :: Obs.kill id σ) Q) (hfx : cx.free id = true := by rfl) : AOps cx ops (o :: rest) e σ Q := by
  intro a w ⟨F, ρ, hr⟩
  have hdn' : dst < cx.N := by simpa [Nat.blt_eq] using hdn
  have hF2 : ∀ b, endF F ρ σ b → b < w.heap.size := by
    rintro b (hb | ⟨p, hp, hb⟩)
    · exact hr.lt b hb
    · exact ((hr.obs.ok p hp).blk_lt hb).2
  have h4 := h.2 (endF F ρ σ) w (xs.map a.eval) hF2 (ha.rep (a := a) hr.obs fun x _ => ev_rep fun t _ => hr.env t)
  have h5 := h.1 (xs.map a.eval).toArray w
  have hx : (execOp a.eval o).run cx.P w = .ok (.enter f (xs.map a.eval).toArray) w := by
    unfold execOp
    simp only [ho, resolve, Deferred.ofValue, Act.eval, invoke, Sem.run_bind, Sem.run_pure, Result.andThen_ok]
    simpa using h5
  refine wpList_plain hg fun K hK => ?_
  unfold Oper.wp
  rw [hx]
  refine h4.mono fun _ w' ⟨v, F', he, hE, hob⟩ => ?_
  subst he
  have hE2 : Ext F w F w' := Ext.of_below hr.lt hE.below
  have hnew : ∀ g, blk v = some g → w.heap.size ≤ g := fun g hg => (hob.blk_lt hg).1
  have hob2 : ObOk w.heap.size F (fun _ => v) w' 0 (.row ee size els) := by
    obtain ⟨ys, h1, h2, h3, h4⟩ := hob
    refine ⟨ys, h1, h2, fun i hi j hj => ⟨(h3 i hi j hj).1, (hpl _ (List.getElem_mem hi) _ (List.getElem_mem hj)).rep _ (h3 i hi j hj).2⟩, fun g hg hf => ?_⟩
    have := hnew g hg
    have := hr.lt g hf
    omega
  obtain ⟨ρ', h6⟩ := hr.newObF (ob := .row ee size els) (v := v) (Obs.fresh_spec hid) hdn' hE2 (obOk_base hob2 hr.hB (by simp)) hnew hfx
  have := k _ _ ⟨F, ρ', h6⟩
  rw [← ht] at this
  exact hK _ _ this
end Go.Proofs.YtnapkooefpkicaaGreatDoor


namespace Go.Proofs.YtnapkooefpkicaaGreatDoor
open Go.RowKit Go.Shelf
set_option linter.unusedVariables false

/-- copy(d, s), elements of whatever size. -/
theorem run_copy_sz {P : Program} (w : World) (dT sT ty elem : TypeId) (size b o dLen dCap : Nat) (a : Addr) (sLen sCap : Nat) (cs : List Value)
    (hu : P.underlying dT = some (.slice elem)) (hs : (P.info? elem).map (·.size) = some size) (hn : cs.length = Nat.min sLen dLen * size)
    (hsrc : ∀ j v, cs[j]? = some v → w.cell? (a.add j) = some v) (hc : ∀ j, j < cs.length → (w.cell? ⟨b, o + j, none⟩).isSome = true) (hf : ∀ j, j < cs.length → w.frozen? ⟨b, o + j, none⟩ = false) (h1 : ∀ v ∈ cs, v.oneCell' = true) :
    (Builtin.copy_ #[dT, sT] ty #[.slice (some ⟨b, o, none⟩) dLen dCap, .slice (some a) sLen sCap]).run P w = .ok (goInt (Nat.min sLen dLen)) (w.setCells b o cs) := by
  have hl := run_firstCells_some (P := P) w size (Nat.min sLen dLen) a sLen sCap cs hn hsrc
  have hst := run_storeCells_cells (P := P) b o cs 0 w (by simpa using hc) (by simpa using hf) h1
  cases hq : P.info? elem with
  | none => simp [hq] at hs
  | some i =>
    have hi : i.size = size := by simpa [hq] using hs
    simp only [Nat.min_def] at hl
    simp [Builtin.copy_, run_underlying hu, Builtin.lenOf, sizeOf, typeInfo, hq, hi, Nat.min_def, hl, hst]

/-- What an insertion leaves, told cell by cell. -/
theorem ins_takeS {xs F x : List Value} {i n s : Nat} (hn : xs.length = n) (hi : i ≤ n) (hx : x.length = s) (h1 : ∀ k, k < i → F[k]? = xs[k]?) (h2 : ∀ k, k < s → F[i + k]? = x[k]?) (h3 : ∀ k, i ≤ k → k < n → F[k + s]? = xs[k]?) : F.take (n + s) = xs.take i ++ x ++ xs.drop i := by
  apply List.ext_getElem?
  intro k
  have hL : (F.take (n + s))[k]? = if k < n + s then F[k]? else none := by rw [List.getElem?_take]
  have hT : (xs.take i).length = i := by rw [List.length_take]; omega
  rw [hL, get3, hT, hx]
  by_cases k1 : k < i
  · rw [if_pos (by omega), if_pos k1, h1 k k1, List.getElem?_take, if_pos k1]
  · rw [if_neg k1]
    by_cases k2 : k < i + s
    · rw [if_pos (by omega), if_pos k2]
      have := h2 (k - i) (by omega)
      rw [show i + (k - i) = k by omega] at this
      exact this
    · rw [if_neg k2]
      by_cases k3 : k < n + s
      · rw [if_pos k3, List.getElem?_drop]
        have := h3 (k - s) (by omega) (by omega)
        rw [show k - s + s = k by omega] at this
        rw [this]
        congr 1
        omega
      · rw [if_neg k3, List.getElem?_eq_none (by simp; omega)]

section
variable {cx : Cx} {e : Env} {σ : Obs} {Q : Post}
theorem R0.rowOfS {F : Nat → Prop} {ρ : Nat → Value} {a : Act} {w : World} (h : R0 cx F ρ e σ a w) {id ee size : Nat} {els : List (List S)} {ds : List (List D)} {σs σ' : Obs} (hm : (id, Ob.rowS ee size els) ∈ σ') (hl : els.length = ds.length)
    (hs : ∀ i (k1 : i < els.length) (k2 : i < ds.length), els[i].length = ds[i].length)
    (hr : ∀ i (k1 : i < els.length) (k2 : i < ds.length) j (k3 : j < els[i].length) (k4 : j < ds[i].length), Snap σs els[i][j] ds[i][j]) (h1 : ∀ p ∈ σs, p ∈ σ) (h2 : ∀ p ∈ σ', p ∈ σ) (h3 : ∀ p ∈ σs, ∀ q ∈ σ', q.1 ≠ p.1) :
    R0 cx (endF F ρ σs) ρ e (Obs.upd id (.row ee size ds) σ') a w := by
  have hF2 : ∀ b, endF F ρ σs b → b < w.heap.size := by
    rintro b (hb | ⟨p, hp, hb⟩)
    · exact h.lt b hb
    · exact ((h.obs.ok p (h1 p hp)).blk_lt hb).2
  have h4 : R0 cx (endF F ρ σs) ρ e σ' a w := by
    refine ⟨h.size, h.defers, hF2, fun b hb => .inl (h.base b hb), ?_, h.below, h.hB, fun u => ?_, ?_, h.up, fun p hp => h.kown p (h2 p hp), h.fixed⟩
    · rintro b (hb | ⟨p, hp, hb⟩)
      · exact h.new b hb
      · exact .inr (h.kown p (h1 p hp) b hb)
    · exact RepS.turn (row := none) (h.env u) h.lt (fun g hg => by simp at hg) ⟨rfl, rfl, rfl, Nat.le_refl _, fun _ _ _ => rfl⟩ (fun b hb => .inl hb)
    · refine ⟨fun p hp => ?_, fun p hp q hq => h.obs.apart p (h2 p hp) q (h2 q hq), fun p hp q hq => h.obs.uniq p (h2 p hp) q (h2 q hq)⟩
      refine (h.obs.ok p (h2 p hp)).more h.lt (fun b hb => .inl hb) ?_
      rintro g hg (hf | ⟨q, hq, hb⟩)
      · exact (h.obs.ok p (h2 p hp)).nF hg hf
      · exact h.obs.apart p (h2 p hp) q (h1 q hq) (h3 q hq p hp) g hg hb
  obtain ⟨xs, g1, g2, g3, g4⟩ := h.obs.ok _ (h2 _ hm)
  have k4 : ∀ g, blk (ρ id) = some g → ¬ endF F ρ σs g := fun g hg => (h4.obs.ok _ hm).nF hg
  dsimp only at g1 g4
  refine h4.reOb hm ⟨xs, by rw [← hl]; exact g1, fun i hi => by rw [← hs i (by omega) hi]; exact g2 i (by omega), fun i hi j hj => ?_, fun g hg => k4 g hg⟩
  have hi' : i < els.length := by omega
  have hj' : j < els[i].length := by rw [hs i hi' hi]; exact hj
  exact ⟨(g3 i hi' j hj').1, (hr i hi' hi j hj' hj).rep (h.obs.sub h1) _ (g3 i hi' j hj').2⟩
/-- A row whose cells hold own rows becomes a row of data; what they held is frozen. -/
theorem AWP.rowOfS {c : Code} (id : Nat) {ee size : Nat} {els : List (List S)} (ds : List (List D)) (σs σ' : Obs) (hm : (id, Ob.rowS ee size els) ∈ σ') (hl : els.length = ds.length)
    (hs : ∀ i (k1 : i < els.length) (k2 : i < ds.length), els[i].length = ds[i].length)
    (hr : ∀ i (k1 : i < els.length) (k2 : i < ds.length) j (k3 : j < els[i].length) (k4 : j < ds[i].length), Snap σs els[i][j] ds[i][j]) (h1 : ∀ p ∈ σs, p ∈ σ) (h2 : ∀ p ∈ σ', p ∈ σ) (h3 : ∀ p ∈ σs, ∀ q ∈ σ', q.1 ≠ p.1)
    (k : AWP cx c e (Obs.upd id (.row ee size ds) σ') Q) : AWP cx c e σ Q := fun a w ⟨F, ρ, hr'⟩ => k a w ⟨_, ρ, hr'.rowOfS hm hl hs hr h1 h2 h3⟩
end

section
variable {cx : Cx} {ops : Array Oper} {o : Oper} {rest : List Oper} {e : Env} {σ : Obs} {Q : Post}
/-- []T{x}: an own row of one element. -/
theorem AOps.buildS {t el size bytes dst : Nat} {z : Value} {x : Operand} {d : D} (id : Nat) (hg : o.guard = none) (ht : o.dst = some dst) (hdn : Nat.blt dst cx.N = true) (ho : o.op = .buildSlice t 1 #[(0, x)]) (T : ElemTy cx.P t el size bytes z) (hsz : Nat.ble size 1000 = true) (hx : e.ev x = .d d) (h1 : d.one = true) (h2 : d.parts.length = size) (hid : Obs.fresh id σ = true)
    (k : AOps cx ops rest ((e.kill id).put (some dst) (.own id)) ((id, .row el size [d.parts]) :: Obs.kill id σ) Q) (hfx : cx.free id = true := by rfl) : AOps cx ops (o :: rest) e σ Q := by
  intro a w ⟨F, ρ, hr⟩
  have hsz' : size ≤ 1000 := by simpa [Nat.ble_eq] using hsz
  have hdn' : dst < cx.N := by simpa [Nat.blt_eq] using hdn
  have r1 := ev_rep (e := e) (x := x) (a := a) (fun t _ => hr.env t)
  rw [hx] at r1
  obtain ⟨h3, h4⟩ := parts_rep (repS_d r1) h1
  have hcl : (a.eval x).cells.toList.length = size := by rw [h3.1]; exact h2
  obtain ⟨c, hc⟩ : ∃ c, c = (a.eval x).cells.toList := ⟨_, rfl⟩
  have hcl' : c.length = size := by rw [hc]; exact hcl
  obtain ⟨i, hi, hz0, hz1, hz2⟩ := info_parts T.hi
  have hzc : z.cells.size = size := T.hz
  have hs0 : 0 < size := T.hs
  obtain ⟨cs', h5, h6⟩ := fill_inorder (size := size) 0 [(0, a.eval x)] ((Array.range size).map (fun j => z.cells[j % z.cells.size]!)) (fun j hj => by
    have hj0 : j = 0 := by simpa using hj
    subst hj0
    refine ⟨rfl, ?_⟩
    have : (a.eval x).cells.size = size := by rw [← Array.length_toList]; exact hcl
    simpa using this) (by simp)
  have h7 : cs'.toList = c := by
    have h9 : List.drop size (List.map (fun j => z.cells[j % z.cells.size]!) (List.range size)) = [] := List.drop_eq_nil_of_le (by simp)
    simpa [← hc, h9] using h6
  have hcs : cs' = c.toArray := by rw [← h7]
  have hrun : (execOp a.eval o).run cx.P w = .ok (.value (.slice (some ⟨w.heap.size, 0, none⟩) 1 1)) (w.alloc (.cells c.toArray el)) := by
    unfold execOp
    simp only [ho, Instr.buildSlice, Sem.run_bind, run_underlying T.ht, Result.andThen_ok, T.sizeOf]
    rw [if_neg (show ¬ (1 * size > 2 ^ 24) by omega), if_neg (show ¬ (1 * size = 0) by omega)]
    have hprog : (program : Sem Program).run cx.P w = .ok cx.P w := rfl
    simp only [Sem.run_bind, zeroValue, typeInfo, hprog, Result.andThen_ok, hi, Sem.run_pure, hz0]
    have h8 : Array.map (fun (p : Nat × Operand) => (p.fst, a.eval p.snd)) #[(0, x)] = #[(0, a.eval x)] := by simp
    rw [h8]
    rw [hcs] at h5
    simp only [Nat.one_mul, List.toArray] at h5 ⊢
    first | rw [h5] | skip
    rfl
  have hrow : (w.alloc (.cells c.toArray el)).ownsRow cx.B el size (.slice (some ⟨w.heap.size, 0, none⟩) 1 1) 1 c :=
    ⟨by rw [Nat.one_mul]; exact hcl', .inr ⟨w.heap.size, 1, c.toArray, rfl, hr.hB, heap_alloc_new w _, Nat.le_refl _, by unfold maxLen; omega, by simpa using hcl', by rw [Nat.one_mul, ← hcl']; simp⟩⟩
  have hfl : flat (fun _ j => c.getD j undef) 1 size = c := by
    unfold flat
    simp only [List.range_one, List.map_cons, List.map_nil, List.flatten_cons, List.flatten_nil, List.append_nil]
    apply List.ext_getElem
    · simp [hcl']
    · intro j hj hj2
      simp [List.getD_eq_getElem?_getD, hj2]
  obtain ⟨ρ', h9⟩ := hr.newRow (v := .slice (some ⟨w.heap.size, 0, none⟩) 1 1) (els := [d.parts]) (Obs.fresh_spec hid) hdn' ((Below.refl _ _).alloc (Nat.le_refl _) (.cells c.toArray el))
    ⟨fun _ j => c.getD j undef, by dsimp only; rw [if_pos rfl]; show World.ownsRow _ _ _ _ _ _ (flat (fun _ j => c.getD j undef) 1 size); rw [hfl]; exact hrow, fun i hi => by
      have : i = 0 := by simpa using hi
      subst this
      simpa using h2, fun i hi j hj => by
      have : i = 0 := by simpa using hi
      subst this
      have hj' : j < d.parts.length := by simpa using hj
      have hjc : j < c.length := by omega
      have hgd : c.getD j undef = c[j] := by simp [List.getD_eq_getElem?_getD, hjc]
      dsimp only
      rw [hgd]
      subst hc
      refine ⟨h4 _ (List.getElem_mem hjc), ?_⟩
      have h10 := h3.2 j hjc (by omega)
      have hE : Ext F w F (w.alloc (.cells (a.eval x).cells.toList.toArray el)) := Ext.of_below hr.lt ((Below.refl _ _).alloc (Nat.le_refl _) _)
      simpa using h10.ext hr.lt hE, fun g hg hf => by dsimp only at hg; rw [if_pos rfl] at hg; simp [blk] at hg; have := hr.lt g hf; omega⟩
    (fun g hg => by simp [blk] at hg; omega) hfx
  refine wpList_plain hg fun K hK => ?_
  unfold Oper.wp
  rw [hrun]
  have := k _ _ ⟨F, ρ', h9⟩
  rw [← ht] at this
  exact hK _ _ this
theorem XRun.buildS {Φ : List Fr} {l : List Oper} {Qe : Env → Prop} {t el size bytes : Nat} {z : Value} {x : Operand} {d : D} (f : Fr) (hf : f ∈ Φ) (hg : GW ops o e true) (hgn : o.guard = none) (ht : o.dst = some f.dst) (hd : Nat.blt f.dst cx.N = true) (ho : o.op = .buildSlice t 1 #[(0, x)]) (T : ElemTy cx.P t el size bytes z) (hsz : Nat.ble size 1000 = true) (hx : e.ev x = .d d) (h1 : d.one = true) (h2 : d.parts.length = size)
    (hob : f.ob = .row el size [d.parts]) (hs : f.s0 = .own f.id) (k : XRun cx ops σ Φ l (e.put (some f.dst) f.s0) Qe) (hfx : cx.free f.id = true := by rfl) : XRun cx ops σ Φ (o :: l) e Qe :=
  ⟨by unfold DstOk; rw [ht]; exact hd, _, .inl ⟨hg, .inl ⟨f, hf, ⟨ht, fun e0 σ _ he hfr => by
    have h3 : e0.ev x = e.ev x := ev_same fun t ht => he t (looks_op (by rw [ho, ht]; simp [Op.operands]))
    exact AOps.buildS f.id hgn ht hd ho T hsz (h3.trans hx) h1 h2 hfr (.nil ⟨by rw [hs], by rw [hob]⟩) hfx⟩, rfl⟩⟩, by rw [ht]; exact k⟩
end
end Go.Proofs.YtnapkooefpkicaaGreatDoor


namespace Go.Proofs.YtnapkooefpkicaaGreatDoor
open Go.RowKit
set_option linter.unusedVariables false

/-- append(own, x...): the row has a new name, the old header stays what it was. -/
theorem AOps.appendN {cx : Cx} {ops : Array Oper} {o : Oper} {rest : List Oper} {e : Env} {σ : Obs} {Q : Post} {s x : Operand} {t ee size bytes id dst : Nat} {z : Value} {els els2 : List (List D)} (id2 : Nat) (hg : o.guard = none)
    (ho : o.op = .call { callee := .builtin .append, args := #[s, x], argTypes := #[t, t] }) (hd : o.dst = some dst) (hdn' : Nat.blt dst cx.N = true) (T : ElemTy cx.P t ee size bytes z) (hs : e.ev s = .own id) (hm : (id, Ob.row ee size els) ∈ σ)
    (hx : e.ev x = .d (.sl els2)) (hsz : ∀ y ∈ els2, y.length = size) (hb : (els.length + els2.length) * bytes ≤ 140737488355328) (hn : els.length + els2.length ≤ 9223372036854775807)
    (hid : Obs.fresh id2 σ = true) (k : AOps cx ops rest ((e.kill id2).put (some dst) (.own id2)) ((id2, .row ee size (els ++ els2)) :: Obs.kill id2 (Obs.del id σ)) Q) (hfx : cx.free id2 = true := by rfl) : AOps cx ops (o :: rest) e σ Q := by
  intro a w ⟨F, ρ, hr⟩
  have hdn : dst < cx.N := by simpa [Nat.blt_eq] using hdn'
  have h1 := ev_rep (e := e) (x := s) (a := a) (fun t _ => hr.env t)
  have h2 := ev_rep (e := e) (x := x) (a := a) (fun t _ => hr.env t)
  rw [hs] at h1
  rw [hx] at h2
  obtain ⟨xs, hown, hlen, hrep, hnF⟩ := hr.obs.ok _ hm
  dsimp only at hown hnF
  have hv : a.eval s = ρ id := by generalize a.eval s = v at h1; cases h1; rfl
  -- the source, as a slice of cells
  obtain ⟨ys, hsl, hys⟩ : ∃ ys : Nat → Nat → Value, Sl w size (a.eval x) els2.length (flat ys els2.length size) ∧ ∀ i (h : i < els2.length) j (h' : j < els2[i].length), (ys i j).oneCell' = true ∧ Rep F w (ys i j) els2[i][j] := by
    rcases rep_sl_sl (repS_d h2) with ⟨h3, h4⟩ | ⟨ad, cap, size', vs, h3, hc, hm', hF', hs', hcell, hone, hrep'⟩
    · subst h4
      exact ⟨fun _ _ => undef, by rw [h3]; exact Sl.nil _ _, fun i hi => by simp at hi⟩
    · refine ⟨vs, ⟨flat_length _ _ _, .inr ⟨ad, cap, h3, hc, hm', ?_⟩⟩, fun i hi j hj => ?_⟩
      · intro q hq
        rw [flat_length] at hq
        have hs0 : 0 < size := T.hs
        have e1 : q = (q / size) * size + q % size := by rw [Nat.mul_comm]; exact (Nat.div_add_mod q size).symm
        have hlt1 : q / size < els2.length := Nat.div_lt_of_lt_mul (by rw [Nat.mul_comm]; exact hq)
        have hlt2 : q % size < size := Nat.mod_lt _ hs0
        have hss : size' = size := by rw [← hs' (q / size) hlt1]; exact hsz _ (List.getElem_mem hlt1)
        subst hss
        have h5 := hcell (q / size') (q % size') hlt1 hlt2
        rw [← e1] at h5
        rw [h5]
        have h6 := flatten_get vs size' els2.length (q / size') (q % size') hlt1 hlt2
        rw [← e1] at h6
        have h7 : (flat vs els2.length size')[q]? = some (vs (q / size') (q % size')) := h6
        rw [List.getElem?_eq_getElem (by rw [flat_length]; exact hq)] at h7
        rw [Option.some.inj h7]
      · have hss : size' = size := by rw [← hs' i hi]; exact hsz _ (List.getElem_mem hi)
        exact ⟨hone i j hi (by rw [← hs' i hi]; exact hj), hrep' i hi j hj⟩
  refine wpList_cat2 (B := cx.B) T s x hg ho hown hv rfl hsl ?_ hb hn hr.hB ?_
  · intro u hu
    obtain ⟨q, hq, rfl⟩ := List.getElem_of_mem hu
    rw [flat_length] at hq
    have hs0 : 0 < size := T.hs
    have e1 : q = (q / size) * size + q % size := by rw [Nat.mul_comm]; exact (Nat.div_add_mod q size).symm
    have hlt1 : q / size < els2.length := Nat.div_lt_of_lt_mul (by rw [Nat.mul_comm]; exact hq)
    have hlt2 : q % size < size := Nat.mod_lt _ hs0
    have h6 := flatten_get ys size els2.length (q / size) (q % size) hlt1 hlt2
    rw [← e1] at h6
    have h7 : (flat ys els2.length size)[q]? = some (ys (q / size) (q % size)) := h6
    rw [List.getElem?_eq_getElem (by rw [flat_length]; exact hq)] at h7
    rw [Option.some.inj h7]
    exact (hys _ hlt1 _ (by rw [hsz _ (List.getElem_mem hlt1)]; exact hlt2)).1
  · intro v' w' hown' hgr hat
    rw [hd]
    refine k _ _ ⟨F, fun j => if j = id2 then v' else ρ j, ?_⟩
    have hnewb : ∀ g, blk v' = some g → (ρ id).ownBlock = some g ∨ w.heap.size ≤ g := by
      intro g hg
      have hg' : v'.ownBlock = some g := by
        rcases hown'.2 with ⟨h3, _⟩ | ⟨g', cap, cur, h3, _⟩
        · rw [h3] at hg; simp [blk] at hg
        · rw [h3] at hg ⊢; simpa [Value.ownBlock, blk] using hg
      rcases hat with h3 | ⟨g2, h3, h4⟩
      · exact .inl (by rw [← h3]; exact hg')
      · rw [h3] at hg'
        exact .inr (by have := Option.some.inj hg'; omega)
    have hob' : ∀ g, (ρ id).ownBlock = some g → blk (ρ id) = some g := by
      intro g hg
      rcases hown.2 with ⟨h3, _⟩ | ⟨g', cap, cur, h3, _⟩
      · rw [h3] at hg; simp [Value.ownBlock] at hg
      · rw [h3] at hg ⊢; simpa [Value.ownBlock, blk] using hg
    have hturn : Turn w w' (ρ id).ownBlock := ⟨hgr.os, hgr.tape, hgr.output, hgr.size, hgr.block⟩
    have hsub : ∀ p ∈ Obs.del id σ, p ∈ σ := fun p hp => (Obs.mem_del hp).1
    have hr2 : R0 cx F ρ e (Obs.del id σ) a w := ⟨hr.size, hr.defers, hr.lt, hr.base, hr.new, hr.below, hr.hB, hr.env, hr.obs.sub hsub, hr.up, fun p hp => hr.kown p (hsub p hp), hr.fixed⟩
    have h9 := hr2.turn (ρ' := fun j => if j = id2 then v' else ρ j) (id := id2) (ob := .row ee size (els ++ els2)) (row := (ρ id).ownBlock) (w' := w') (F' := F) (fun j hj => by simp [hj]) hturn hfx
      (fun g hg => ⟨hr.kown _ hm g (hob' g hg), hnF g (hob' g hg), fun p hp hpi => fun he => hr.obs.apart p (Obs.mem_del hp).1 _ hm (Obs.mem_del hp).2 g he (hob' g hg)⟩) (fun b hb => hb) (fun b hb => .inl hb)
      (fun b hb => Nat.lt_of_lt_of_le (hr.lt b hb) hgr.size)
      (by
        refine ⟨fun i j => if i < els.length then xs i j else ys (i - els.length) j, ?_, fun i hi => ?_, fun i hi j hj => ?_, fun g hg hf => ?_⟩
        · dsimp only; rw [if_pos rfl, List.length_append]
          have h3 := flat_append xs ys els.length els2.length size
          unfold flat at h3
          rw [← h3]
          exact hown'
        · by_cases hi' : i < els.length
          · rw [List.getElem_append_left hi']; exact hlen i hi'
          · rw [List.getElem_append_right (by omega)]
            exact hsz _ (List.getElem_mem _)
        · have keep : ∀ {u : Value} {d : D}, Rep F w u d → Rep F w' u d := fun h => h.mono (fun b hb => hb) fun b hb => hgr.block b (hr.lt b hb) (fun he => hnF b (hob' b he.symm) hb)
          by_cases hi' : i < els.length
          · simp only [if_pos hi', List.getElem_append_left hi'] at hj ⊢
            exact ⟨(hrep i hi' j hj).1, keep (hrep i hi' j hj).2⟩
          · simp only [if_neg hi', List.getElem_append_right (show els.length ≤ i by omega)] at hj ⊢
            have := hys (i - els.length) (by simp at hi; omega) j hj
            exact ⟨this.1, keep this.2⟩
        · dsimp only at hg; rw [if_pos rfl] at hg
          rcases hnewb g hg with h3 | h3
          · exact hnF g (hob' g h3) hf
          · have := hr.lt g hf; omega)
      (fun g hg => by
        rw [if_pos rfl] at hg
        exact hnewb g hg)
      ((id2, .row ee size (els ++ els2)) :: Obs.kill id2 (Obs.del id σ)) (fun p hp => by
        cases hp with
        | head => exact .inl rfl
        | tail _ hp =>
          obtain ⟨q, hq, rfl⟩ := Obs.mem_kill hp
          exact .inr ⟨q, hq, Obs.fresh_spec hid q (Obs.mem_del hq).1, rfl⟩)
    have h10 := h9.put (o := ⟨some dst, .ready 0, 0, "", #[], none⟩) (v := v') (s := .own id2) (Ext.refl h9.lt) (by
      have := RepS.own (F := F) (ρ := fun j => if j = id2 then v' else ρ j) (w := w') id2
      simpa using this) (by simpa [DstOk, Nat.blt_eq] using hdn)
    exact h10
/-- Such an append in a drawn region. -/
theorem GE.appendN {cx : Cx} {ops : Array Oper} {Φ : List Fc} {o : Oper} {e : Env} {σ : Obs} {s x : Operand} {t ee size bytes id dst : Nat} {z : Value} {els els2 : List (List D)} {σ' : Obs} (id2 : Nat) {sl : List Nat} (hΦ : ⟨id2, sl⟩ ∈ Φ) (hsl : ∀ t, t ≠ dst → sl.contains t = false) (hg : o.guard = none)
    (ho : o.op = .call { callee := .builtin .append, args := #[s, x], argTypes := #[t, t] }) (hd : o.dst = some dst) (hdn' : Nat.blt dst cx.N = true) (T : ElemTy cx.P t ee size bytes z) (hs : e.ev s = .own id) (hm : (id, Ob.row ee size els) ∈ σ)
    (hx : e.ev x = .d (.sl els2)) (hsz : ∀ y ∈ els2, y.length = size) (hb : (els.length + els2.length) * bytes ≤ 140737488355328) (hn : els.length + els2.length ≤ 9223372036854775807) (hid : Obs.fresh id2 σ = true) (hσ : (id2, .row ee size (els ++ els2)) :: Obs.kill id2 (Obs.del id σ) = σ') (hfx : cx.free id2 = true := by rfl) :
    GE cx ops Φ o e σ [(dst, .own id2)] σ' := fun e0 h1 h2 h3 => by
  have e1 : e0.ev s = e.ev s := ev_same fun t hxt => h1 t (looks_op (by rw [ho, ← hxt]; simp [Op.operands, Call.operands]))
  have e2 : e0.ev x = e.ev x := ev_same fun t hxt => h1 t (looks_op (by rw [ho, ← hxt]; simp [Op.operands, Call.operands]))
  have hp : (e0.kill id2).put (some dst) (.own id2) = Env.puts e0 [(dst, .own id2)] := by
    funext t
    show _ = (e0.put (some dst) (.own id2)) t
    by_cases h4 : t = dst
    · subst h4; rw [Env.put_same, Env.put_same]
    · rw [Env.put_other _ _ _ _ h4, Env.put_other _ _ _ _ h4]; exact h3 _ hΦ t (hsl t h4)
  exact AOps.appendN id2 hg ho hd hdn' T (e1.trans hs) hm (e2.trans hx) hsz hb hn hid (.nil ⟨hp, hσ⟩) hfx
/-- A nil slice within an element of an own row of data: an own row (empty) in it. -/
theorem AWP.adoptRow {cx : Cx} {c : Code} {e : Env} {σ : Obs} {Q : Post} (new e2 s2 id k j : Nat) {ee size : Nat} {els : List (List D)} {ds : List D} (hm : (id, Ob.row ee size els) ∈ σ) (hk : els[k]? = some ds) (hj : ds[j]? = some (.v (.slice none 0 0))) (hid : Obs.fresh new σ = true)
    (q : AWP cx c (e.kill new) (Obs.upd id (.rowS ee size ((els.map fun ds => ds.map S.d).set k ((ds.map S.d).set j (.own new)))) ((new, .row e2 s2 []) :: Obs.kill new σ)) Q) (hfx : cx.free new = true := by rfl) : AWP cx c e σ Q := fun a w ⟨F, ρ, hr⟩ => by
  have hid' := Obs.fresh_spec hid
  have h1 := hr.turn (ρ' := fun j => if j = new then .slice none 0 0 else ρ j) (id := new) (ob := .row e2 s2 []) (row := none) (w' := w) (F' := F) (fun j hj => by simp [hj])
    ⟨rfl, rfl, rfl, Nat.le_refl _, fun _ _ _ => rfl⟩ hfx (fun g hg => by simp at hg) (fun b hb => hb) (fun b hb => .inl hb) hr.lt
    ⟨fun _ _ => undef, by simp [World.ownsRow], fun i hi => by simp at hi, fun i hi => by simp at hi, fun g hg => by simp [blk] at hg⟩ (fun g hg => by simp [blk] at hg) ((new, .row e2 s2 []) :: Obs.kill new σ) (fun p hp => by
      cases hp with
      | head => exact .inl rfl
      | tail _ hp => obtain ⟨q, hq, rfl⟩ := Obs.mem_kill hp; exact .inr ⟨q, hq, hid' q hq, rfl⟩)
  have hmk : ∀ {σ : Obs}, (id, Ob.row ee size els) ∈ σ → (id, Ob.row ee size els) ∈ Obs.kill new σ := by
    intro σ hh
    induction σ with
    | nil => cases hh
    | cons p l ih =>
      cases hh with
      | head => exact .head _
      | tail _ hh => exact .tail _ (ih hh)
  obtain ⟨xs, g1, g2, g3, g4⟩ := h1.obs.ok _ (.tail _ (hmk hm))
  refine q a w ⟨F, _, h1.reOb (.tail _ (hmk hm)) ⟨xs, ?_, fun i hi => ?_, fun i hi p hp => ?_, g4⟩⟩
  · rw [List.length_set, List.length_map]; exact g1
  · have hi' : i < els.length := by simpa using hi
    rw [List.getElem_set]
    split
    · rename_i hki
      subst hki
      obtain ⟨hkl, he⟩ := List.getElem?_eq_some_iff.1 hk
      rw [List.length_set, List.length_map, ← he]; exact g2 k hi'
    · rw [List.getElem_map, List.length_map]; exact g2 i hi'
  · have hi' : i < els.length := by simpa using hi
    obtain ⟨hkl, he⟩ := List.getElem?_eq_some_iff.1 hk
    have hp0 : p < els[i].length := by
      simp only [List.getElem_set] at hp
      split at hp
      · rename_i hki
        subst hki
        rw [List.length_set, List.length_map, ← he] at hp; exact hp
      · rw [List.getElem_map, List.length_map] at hp; exact hp
    refine ⟨(g3 i hi' p hp0).1, ?_⟩
    have h5 := (g3 i hi' p hp0).2
    by_cases hki : k = i
    · subst hki
      by_cases hjp : j = p
      · subst hjp
        obtain ⟨hjl, hje⟩ := List.getElem?_eq_some_iff.1 hj
        have h6 : els[k][j] = .v (.slice none 0 0) := by
          have : ds[j]'hjl = els[k][j] := by congr 1; exact he.symm
          rw [← this]; exact hje
        rw [h6] at h5
        have h7 : xs k j = Value.slice none 0 0 := rep_v h5
        have h8 := RepS.own (F := F) (ρ := fun j => if j = new then Value.slice none 0 0 else ρ j) (w := w) new
        simpa [h7] using h8
      · have : ds[p]'(by rw [← he]; exact hp0) = els[k][p] := by congr 1; exact he.symm
        have h8 : RepS F (fun j => if j = new then Value.slice none 0 0 else ρ j) w (xs k p) (.d (ds[p]'(by rw [← he]; exact hp0))) := by rw [this]; exact .d h5
        simpa [hjp] using h8
    · have h8 : RepS F (fun j => if j = new then Value.slice none 0 0 else ρ j) w (xs i p) (.d els[i][p]) := .d h5
      simpa [hki] using h8
end Go.Proofs.YtnapkooefpkicaaGreatDoor
