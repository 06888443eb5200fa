/- The library's functions that Fold calls, told over abstract values. No statement of the seat. -/
import Derived.Test.YtajghehicmlajaaDoorA24
import Derived.Test.YtajghehicmlajaaDoorB0
import Derived.Test.YtajghehicmlajaaDoorH1
import Derived.Test.YtajghehicmlajaaDoorShelf
namespace Go.Proofs.YtajghehicmlajaaDoor
open Go.RowKit
set_option linter.unusedVariables false

/-- The table lies where it was laid. -/
def TabT (w : World) : Prop := Lib.TabIs Tryd.prog w "strings.asciiSpace" .u8 Lib.asciiSpaceTab
theorem tabT_stays : Stays TabT := fun w w' k h => by
  unfold TabT Lib.TabIs World.var? at h ⊢
  rw [Option.bind_eq_some_iff] at h ⊢
  obtain ⟨g, hg, h2⟩ := h
  refine ⟨g, hg, ?_⟩
  have hlt : g < w.heap.size := by
    rcases Nat.lt_or_ge g w.heap.size with hl | hl
    · exact hl
    · rw [Array.getElem?_eq_none hl] at h2; cases h2
  rw [k.block g hlt (by omega)]
  exact h2
theorem c_hasPrefix (s p : ByteArray) : ACall Tryd.prog 21 [.v (.string s), .v (.string p)] (.v (.bool (Lib.hasPrefix s.data.toList p.data.toList))) :=
  acall_exact (us := [_, _]) (.of Tryd.func21 (by kernel_rfl) rfl) fun w => by
    have h := Any.strings_HasPrefix Tryd.l99 s p w
    change Calls Tryd.prog 21 #[.string s, .string p] w _ at h
    exact h.mono fun _ _ ⟨h1, h2⟩ => ⟨h1, h2 ▸ Below.refl _ _⟩
theorem c_trimSuffix (s p : ByteArray) (hs : s.size ≤ 9223372036854775807) : ACall Tryd.prog 17 [.v (.string s), .v (.string p)] (.v (.string ⟨(Lib.trimSuffix s.data.toList p.data.toList).toArray⟩)) :=
  acall_exact (us := [_, _]) (.of Tryd.func17 (by kernel_rfl) rfl) fun w => by
    have h := Any.strings_TrimSuffix Tryd.l102 s p w hs
    change Calls Tryd.prog 17 #[.string s, .string p] w _ at h
    exact h.mono fun _ _ ⟨h1, h2⟩ => ⟨h1, h2 ▸ Below.refl _ _⟩
theorem c_cutPrefix (s p : ByteArray) : ACall Tryd.prog 18 [.v (.string s), .v (.string p)] (.tup [.v (.string ⟨(Lib.trimPrefix s.data.toList p.data.toList).toArray⟩), .v (.bool (Lib.hasPrefix s.data.toList p.data.toList))]) :=
  ⟨.of Tryd.func18 (by kernel_rfl) rfl, fun F w vs hF hv => by
    rw [repL_v (us := [.string s, .string p]) hv]
    have h := Any.strings_CutPrefix Tryd.l103 s p w
    change Calls Tryd.prog 18 #[.string s, .string p] w _ at h
    refine h.mono fun e w' ⟨h1, h2⟩ => ?_
    subst h2
    exact ⟨_, F, h1, .tup [_, _] [_, _] rfl (fun i h1 h2 => by
      match i, h1 with
      | 0, _ => exact .v _
      | 1, _ => exact .v _), Ext.refl hF⟩⟩
def fldD (l : List UInt8) : List D := [.v (.string ⟨l.toArray⟩)]
theorem c_fields (s : ByteArray) (hs : s.size < 4294967281) (ha : ∀ (j : Nat) b, s.data.toList[j]? = some b → b.toNat < 128) : ACallT Tryd.prog TabT 20 [.v (.string s)] (.sl ((Lib.fields s.data.toList).map fldD)) :=
  ⟨.of Tryd.func20 (by kernel_rfl) rfl, fun F w vs hT hF hv => by
    rw [repL_v (us := [.string s]) hv]
    have h := Any.strings_Fields Tryd.l157 (by kernel_rfl) (by kernel_rfl) s w hs ha hT
    change Calls Tryd.prog 20 #[.string s] w _ at h
    refine h.mono fun e w' ⟨h1, h2⟩ => ?_
    subst h2
    have hl : ((Lib.fields s.data.toList).map fun l => Value.string ⟨l.toArray⟩).length = (Lib.fields s.data.toList).length := List.length_map ..
    have hN : (Lib.fields s.data.toList).length ≤ s.size := by
      rw [Lib.fields_length, Lib.size_eq]
      have key : ∀ (l : List UInt8) (ws : Bool), Lib.cntF ws l ≤ l.length := by
        intro l
        induction l with
        | nil => intro ws; exact Nat.le_refl _
        | cons b l ih => intro ws; have := ih (Lib.isSp b); unfold Lib.cntF; simp only [List.length_cons]; split <;> omega
      exact key _ _
    obtain ⟨F', hr, hE⟩ := rep_newRow (w := w) (w' := w.alloc (.cells ((Lib.fields s.data.toList).map fun l => Value.string ⟨l.toArray⟩).toArray (Tryd.l157_ren.t 9))) (F := F) (A := w.heap.size) (c := (Lib.fields s.data.toList).length) (vals := (Lib.fields s.data.toList).map fun l => Value.string ⟨l.toArray⟩) hF (Nat.le_refl _) (by show w.heap.size < (w.heap.push _).size; rw [Array.size_push]; omega) ((Below.refl _ w).alloc (Nat.le_refl _) _) (by rw [hl]; exact Nat.le_refl _) (by omega)
      (fun i hi => by
        have hg : (w.alloc (.cells ((Lib.fields s.data.toList).map fun l => Value.string ⟨l.toArray⟩).toArray (Tryd.l157_ren.t 9))).heap[w.heap.size]? = some (.cells ((Lib.fields s.data.toList).map fun l => Value.string ⟨l.toArray⟩).toArray (Tryd.l157_ren.t 9)) := Array.getElem?_push_size
        unfold World.cell?
        rw [hg]
        simp) (fun v hv => by obtain ⟨l, _, rfl⟩ := List.mem_map.1 hv; rfl)
    rw [hl, List.map_map] at hr
    exact ⟨_, F', h1, hr, hE⟩⟩
theorem c_join (xs : List (List UInt8)) (sep : ByteArray) (hN : xs.length ≤ 140737488355328) (hlen : (Lib.join xs sep.data.toList).length ≤ 140737488355328) :
    ACall Tryd.prog 19 [.sl (xs.map fldD), .v (.string sep)] (.v (.string ⟨(Lib.join xs sep.data.toList).toArray⟩)) :=
  ⟨.of Tryd.func19 (by kernel_rfl) rfl, fun F w vs hF hv => by
    obtain ⟨v0, v1, rfl⟩ : ∃ v0 v1, vs = [v0, v1] := by
      match vs, hv.1 with
      | [v0, v1], _ => exact ⟨v0, v1, rfl⟩
    have r0 := hv.2 0 (by simp) (by simp)
    have r1 := hv.2 1 (by simp) (by simp)
    simp only [List.getElem_cons_zero, List.getElem_cons_succ] at r0 r1
    obtain rfl := rep_v r1
    have hx : Builder.Extra Tryd.prog Tryd.l156_ren := by
      exact { sizeBuilder := by kernel_rfl, liesBuilder := by kernel_rfl, t5 := Tryd.l157.t5, a5 := Tryd.l157.a5, z5 := Tryd.l157.z5, v5 := Tryd.l157.v5, infoByte := by kernel_rfl, cellsByte := by kernel_rfl, sizeByte := by kernel_rfl, neB5 := of_decide_eq_true (by kernel_rfl) }
    have h0 := sl_of_rep (xs.map fun l => (⟨l.toArray⟩ : ByteArray)) (fun b => .string b) (by rw [List.map_map]; exact r0)
    have he : (xs.map fun l => (⟨l.toArray⟩ : ByteArray)).map (·.data.toList) = xs := by rw [List.map_map]; simp [Function.comp_def]
    have hl : (xs.map fun l => (⟨l.toArray⟩ : ByteArray)).length = xs.length := List.length_map ..
    rcases h0.2 with ⟨rfl, h2⟩ | ⟨ad, cap, rfl, h2, h3, h4⟩
    · have hx0 : xs = [] := List.eq_nil_of_length_eq_zero (by rw [← hl]; exact h2)
      subst hx0
      have h := Any.strings_Join_none Tryd.l156 hx none 0 sep w
      change Calls Tryd.prog 19 #[.slice none 0 0, .string sep] w _ at h
      exact h.mono fun e w' ⟨h5, h6⟩ => by subst h6; exact ⟨_, F, h5, .v _, Ext.refl hF⟩
    · by_cases hz : xs = []
      · subst hz
        have h := Any.strings_Join_none Tryd.l156 hx (some ad) cap sep w
        change Calls Tryd.prog 19 #[.slice (some ad) 0 cap, .string sep] w _ at h
        exact h.mono fun e w' ⟨h5, h6⟩ => by subst h6; exact ⟨_, F, h5, .v _, Ext.refl hF⟩
      · have hp : 0 < xs.length := List.length_pos_iff.2 hz
        have c0 := h4 0 (by rw [List.length_map, hl]; exact hp)
        obtain ⟨bk, o, sp⟩ := ad
        have hsp : sp = none := by
          cases sp with
          | none => rfl
          | some q =>
            rw [show (Addr.add ⟨bk, o, some q⟩ 0) = ⟨bk, o, some q⟩ from rfl] at c0
            unfold World.cell? at c0
            split at c0
            · simp at c0
            · cases c0
        subst hsp
        have hcells : ∀ (j : Nat) x, (xs.map fun l => (⟨l.toArray⟩ : ByteArray))[j]? = some x → w.cell? ⟨bk, o + j, none⟩ = some (.string x) := fun j x hj => by
          obtain ⟨hj1, hj2⟩ := List.getElem?_eq_some_iff.1 hj
          have := h4 j (by rw [List.length_map]; exact hj1)
          rw [List.getElem_map, hj2] at this
          have e : (Addr.add ⟨bk, o, none⟩ j) = ⟨bk, o + j, none⟩ := by unfold Addr.add; by_cases h0 : j = 0 <;> simp [h0]
          rw [e] at this
          exact this
        have hbk : bk < w.heap.size := by
          have := hcells 0 _ (List.getElem?_eq_getElem (by rw [hl]; exact hp))
          exact World.block_lt_of_cell? _ _ this
        have h := Any.strings_Join Tryd.l156 hx bk o cap (xs.map fun l => (⟨l.toArray⟩ : ByteArray)) sep w hcells hbk (by rw [hl]; exact hN) h2 (by rw [he]; exact hlen)
        rw [he, show Tryd.l156_ren.f 156 = 19 from rfl] at h
        exact h.mono fun e w' ⟨h5, h6⟩ => ⟨_, F, h5, .v _, Ext.of_below hF h6⟩⟩
end Go.Proofs.YtajghehicmlajaaDoor
