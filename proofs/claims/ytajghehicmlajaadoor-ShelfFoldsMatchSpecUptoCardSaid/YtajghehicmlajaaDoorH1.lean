/- Fold: the law in plain words. No program in sight. -/
import Derived.Lib.FieldsLaws
import Derived.Lib.Fields
import Derived.Lib.Join
import Derived.Lib.Strings
namespace Go.Proofs.YtajghehicmlajaaDoor
open Go.Lib
set_option linter.unusedVariables false

def lowB (b : UInt8) : UInt8 := if 65 ≤ b.toNat ∧ b.toNat ≤ 90 then UInt8.ofNat (b.toNat + 32) else b
def alnB (b : UInt8) : Bool := (decide (97 ≤ b.toNat) && decide (b.toNat ≤ 122)) || (decide (48 ≤ b.toNat) && decide (b.toNat ≤ 57))
def pStep (b : List UInt8) (c : UInt8) : List UInt8 := if alnB (lowB c) then b ++ [lowB c] else if b ≠ [] ∧ b.getLast? ≠ some 32 then b ++ [32] else b
def rMap (c : UInt8) : UInt8 := if alnB (lowB c) then lowB c else 32
theorem alnB_sp_nat : ∀ n : Fin 256, alnB (UInt8.ofNat n.val) = true → isSp (UInt8.ofNat n.val) = false ∧ UInt8.ofNat n.val ≠ 32 := by decide +kernel
theorem alnB_sp {b : UInt8} (h : alnB b = true) : isSp b = false ∧ b ≠ 32 := by
  have := alnB_sp_nat ⟨b.toNat, b.toNat_lt⟩
  simp only [UInt8.ofNat_toNat] at this
  exact this h
/-- What was read: whole fields, and the one under way. -/
def pj (ds : List (List UInt8)) (cur : List UInt8) : List UInt8 := (ds.map (· ++ [32])).flatten ++ cur
theorem pj_done (ds : List (List UInt8)) (cur : List UInt8) : pj ds cur ++ [32] = pj (ds ++ [cur]) [] := by unfold pj; simp
theorem pj_cur (ds : List (List UInt8)) (cur : List UInt8) (x : UInt8) : pj ds cur ++ [x] = pj ds (cur ++ [x]) := by unfold pj; simp
theorem join_snoc : ∀ (ds : List (List UInt8)) (c : List UInt8), join (ds ++ [c]) [32] = pj ds c
  | [], c => by rw [List.nil_append, join_one]; simp [pj]
  | d :: ds, c => by
    have h := join_snoc ds c
    have hne : ds ++ [c] ≠ [] := by simp
    obtain ⟨x, r, hx⟩ := List.exists_cons_of_ne_nil hne
    rw [List.cons_append, join_cons, hx]
    rw [hx, join_cons] at h
    unfold joinTail at h ⊢
    rw [List.map_cons, List.flatten_cons, List.append_assoc, h]
    unfold pj
    simp
theorem trim_snoc (l : List UInt8) : trimSuffix (l ++ [32]) [32] = l := by
  unfold trimSuffix hasSuffix
  rw [if_pos (by simp)]
  simp
theorem trim_not {l : List UInt8} (h : l.getLast? ≠ some 32) : trimSuffix l [32] = l := by
  unfold trimSuffix hasSuffix
  rw [if_neg]
  intro hs
  rw [List.isSuffixOf_iff_suffix] at hs
  obtain ⟨t, rfl⟩ := hs
  simp at h
theorem fold_go : ∀ (l : List UInt8) (ds : List (List UInt8)) (cur : List UInt8), (∀ b ∈ cur, b ≠ 32) →
    trimSuffix (l.foldl pStep (pj ds cur)) [32] = join (ds ++ fieldsGo cur (l.map rMap)) [32]
  | [], ds, cur, hc => by
    rw [List.map_nil, List.foldl_nil]
    unfold fieldsGo
    cases cur with
    | nil =>
      simp only [List.isEmpty_nil, if_true, List.append_nil]
      rcases List.eq_nil_or_concat ds with rfl | ⟨e, d, rfl⟩
      · rfl
      · rw [List.concat_eq_append, join_snoc, ← pj_done, trim_snoc]
    | cons x r =>
      simp only [List.isEmpty_cons, Bool.false_eq_true, if_false]
      rw [join_snoc, trim_not]
      unfold pj
      rw [List.getLast?_append]
      have h1 : (x :: r).getLast? = some ((x :: r).getLast (by simp)) := List.getLast?_eq_some_getLast (by simp)
      rw [h1]
      simp only [Option.some_or]
      intro h2
      exact hc _ (List.getLast_mem _) (Option.some.inj h2)
  | c :: l, ds, cur, hc => by
    rw [List.map_cons, List.foldl_cons]
    by_cases ha : alnB (lowB c) = true
    · have h1 : pStep (pj ds cur) c = pj ds (cur ++ [lowB c]) := by unfold pStep; rw [if_pos ha, pj_cur]
      have h2 : rMap c = lowB c := if_pos ha
      rw [h1, h2, fieldsGo_more _ _ _ (alnB_sp ha).1]
      exact fold_go l ds _ fun b hb => by
        rcases List.mem_append.1 hb with hb | hb
        · exact hc b hb
        · rw [List.mem_singleton] at hb; subst hb; exact (alnB_sp ha).2
    · have h2 : rMap c = 32 := if_neg ha
      rw [h2]
      cases cur with
      | nil =>
        have h1 : pStep (pj ds []) c = pj ds [] := by
          unfold pStep
          rw [if_neg ha, if_neg]
          rintro ⟨hn, hl⟩
          rcases List.eq_nil_or_concat ds with rfl | ⟨e, d, rfl⟩
          · exact hn rfl
          · rw [List.concat_eq_append, ← pj_done] at hl
            simp at hl
        rw [h1, fieldsGo_sp _ _ rfl]
        exact fold_go l ds [] hc
      | cons x r =>
        have h1 : pStep (pj ds (x :: r)) c = pj (ds ++ [x :: r]) [] := by
          unfold pStep
          rw [if_neg ha, if_pos, pj_done]
          refine ⟨by simp [pj], ?_⟩
          unfold pj
          rw [List.getLast?_append]
          have h1 : (x :: r).getLast? = some ((x :: r).getLast (by simp)) := List.getLast?_eq_some_getLast (by simp)
          rw [h1]
          simp only [Option.some_or]
          intro h2
          exact hc _ (List.getLast_mem _) (Option.some.inj h2)
        rw [h1, fieldsGo_end _ _ _ rfl (by simp)]
        have := fold_go l (ds ++ [x :: r]) [] (fun b hb => by cases hb)
        rw [this, List.append_assoc]
        rfl
/-- Fold's first half. -/
theorem fold_eq (l : List UInt8) : trimSuffix (l.foldl pStep []) [32] = join (fields (l.map rMap)) [32] := by
  have := fold_go l [] [] (fun b hb => by cases hb)
  simpa [pj, fields] using this
/-- The article away. -/
def strip (s : List UInt8) : List UInt8 := if hasPrefix s [116, 104, 101, 32] then s.drop 4 else if hasPrefix s [97, 110, 32] then s.drop 3 else if hasPrefix s [97, 32] then s.drop 2 else s
def foldS (l : List UInt8) : List UInt8 := strip (trimSuffix (l.foldl pStep []) [32])
theorem fold_len (l : List UInt8) : ∀ k, ((l.take k).foldl pStep []).length ≤ k := by
  have h : ∀ (m : List UInt8) (b : List UInt8), (m.foldl pStep b).length ≤ b.length + m.length := by
    intro m
    induction m with
    | nil => intro b; simp
    | cons c m ih =>
      intro b
      rw [List.foldl_cons]
      have h1 : (pStep b c).length ≤ b.length + 1 := by
        unfold pStep
        split
        · simp
        · split <;> simp
      have := ih (pStep b c)
      simp only [List.length_cons]
      omega
  intro k
  have := h (l.take k) []
  simp only [List.length_nil, Nat.zero_add, List.length_take] at this
  omega
end Go.Proofs.YtajghehicmlajaaDoor
