/- Walks and laws over abstract values, merged by tools/merge.py. No statement of the seat. -/
import Derived.Test.YtcfamaddnmnaeaaGreatDoorZB7

namespace Go.Proofs.YtcfamaddnmnaeaaGreatDoor
open Go.RowKit
set_option linter.unusedVariables false

/-! Types. -/
namespace TyDK
end TyDK
open TyF0 TyF1 TyF2 TyF3 TyF4 TyF5 TyF6 TyF7 TyF8 TyF9 TyF10 TyF11 TyG1 TyG2 TyG5 TyU1 TyU2 TyU3 TyU4 TyM1 TyM2 TyM3 TyDA TyDK

open Go.Lib
set_option linter.unusedSimpArgs false
def noc (c : UInt8) (l : List UInt8) : Prop := ∀ b ∈ l, b ≠ c
theorem spl_noc {c : UInt8} : ∀ {x : List UInt8}, noc c x → spl c x = [x] ∧ ∀ r, spl c (x ++ c :: r) = x :: spl c r
  | [], _ => ⟨rfl, fun r => by show spl c (c :: r) = _; rw [spl_cons, if_pos rfl]⟩
  | b :: x, h => by
    obtain ⟨h1, h2⟩ := spl_noc (x := x) fun d hd => h d (by simp [hd])
    have hb : b ≠ c := h b (by simp)
    refine ⟨?_, fun r => ?_⟩
    · rw [spl_cons, if_neg hb, h1]
    · show spl c (b :: (x ++ c :: r)) = _
      rw [spl_cons, if_neg hb, h2 r]
theorem decFrom_snoc : ∀ (l : List UInt8) (b : UInt8) (acc : Nat), Lib.decFrom acc (l ++ [b]) = match Lib.decFrom acc l with
    | none => none
    | some v => match Lib.digitVal b with
      | none => none
      | some d => some (v * 10 + d)
  | [], b, acc => by
    show Lib.decFrom acc [b] = _
    simp only [Lib.decFrom]
    cases Lib.digitVal b <;> rfl
  | x :: l, b, acc => by
    rw [List.cons_append]
    simp only [Lib.decFrom]
    cases Lib.digitVal x with
    | none => rfl
    | some d => exact decFrom_snoc l b (acc * 10 + d)
theorem dec_ind (u : Nat) : Lib.decFrom 0 (Lib.decDigits u) = some u ∧ (∀ b ∈ Lib.decDigits u, 48 ≤ b.toNat ∧ b.toNat ≤ 57) ∧ (1 ≤ u → (Lib.decDigits u).head? ≠ some 48) ∧ Lib.decDigits u ≠ [] := by
  induction u using Nat.strongRecOn with
  | _ u ih =>
    have hd : ∀ d, d < 10 → (UInt8.ofNat (48 + d)).toNat = 48 + d := by decide
    have hv : ∀ d, d < 10 → Lib.digitVal (UInt8.ofNat (48 + d)) = some d := by decide
    by_cases h : u < 10
    · have e : Lib.decDigits u = [UInt8.ofNat (48 + u)] := by rw [Lib.decDigits, dif_pos h]
      rw [e]
      refine ⟨?_, fun b hb => ?_, fun h1 he => ?_, by simp⟩
      · simp only [Lib.decFrom, hv u h]; simp
      · obtain rfl := List.mem_singleton.1 hb
        rw [hd u h]; omega
      · have := congrArg UInt8.toNat (Option.some.inj he)
        rw [hd u h] at this
        have h48 : (48 : UInt8).toNat = 48 := rfl
        omega
    · have e : Lib.decDigits u = Lib.decDigits (u / 10) ++ [UInt8.ofNat (48 + u % 10)] := by rw [Lib.decDigits, dif_neg h]
      obtain ⟨i1, i2, i3, i4⟩ := ih (u / 10) (by omega)
      rw [e]
      refine ⟨?_, fun b hb => ?_, fun _ => ?_, by simp⟩
      · rw [decFrom_snoc, i1]
        simp only [hv _ (Nat.mod_lt u (by decide : 0 < 10))]
        congr 1
        omega
      · rcases List.mem_append.1 hb with hb | hb
        · exact i2 b hb
        · obtain rfl := List.mem_singleton.1 hb
          rw [hd _ (Nat.mod_lt u (by decide : 0 < 10))]; omega
      · cases hx : Lib.decDigits (u / 10) with
        | nil => exact absurd hx i4
        | cons b t =>
          have := i3 (by omega)
          rw [hx] at this
          simpa using this
theorem nDig_le : ∀ (k u : Nat), u < 10 ^ (k + 1) → Lib.nDigits u ≤ k + 1
  | 0, u, h => by rw [Lib.nDigits_small (by simpa using h)]; omega
  | k + 1, u, h => by
    by_cases hu : u < 10
    · rw [Lib.nDigits_small hu]; omega
    · rw [Lib.nDigits_big hu]
      have := nDig_le k (u / 10) (by rw [Nat.pow_succ] at h; omega)
      omega
theorem dec_ne {u : Nat} : noc 32 (Lib.decDigits u) ∧ noc 10 (Lib.decDigits u) := by
  obtain ⟨_, h2, _, _⟩ := dec_ind u
  constructor <;> intro b hb he <;> (have := h2 b hb; rw [he] at this; revert this; decide)
theorem name_ne {l : List UInt8} (h : isName l = true) : noc 32 l ∧ noc 10 l ∧ l ≠ [] := by
  unfold isName at h
  simp only [Bool.and_eq_true, decide_eq_true_eq, List.all_eq_true] at h
  have h32 : nameB 32 = false := by decide
  have h10 : nameB 10 = false := by decide
  refine ⟨fun b hb e => ?_, fun b hb e => ?_, fun e => ?_⟩
  · have := h.2 b hb; rw [e, h32] at this; cases this
  · have := h.2 b hb; rw [e, h10] at this; cases this
  · rw [e] at h; simp at h

theorem num_read {u : Nat} (h : u < 10000000000) : numT (Lib.decDigits u) = some u := by
  obtain ⟨h1, _, h3, h4⟩ := dec_ind u
  have hl : (Lib.decDigits u).length ≤ 10 := by rw [Lib.decDigits_length]; exact nDig_le 9 u (by omega)
  unfold numT
  rw [if_neg, h1]
  rintro (hh | hh | hh)
  · exact h4 hh
  · omega
  · rcases Nat.eq_zero_or_pos u with h0 | h0
    · subst h0
      exact hh.2 (by rw [Lib.decDigits, dif_pos (by omega)]; rfl)
    · exact h3 h0 hh.1
/-! ## Words and lines -/
def dcL (n : Int) : List UInt8 := Lib.decDigits n.toNat
theorem dc_read {n : Int} (h : 0 ≤ n ∧ n < 10000000000) : numT (dcL n) = some n.toNat := num_read (by omega)
theorem dc_ne (n : Int) : noc 32 (dcL n) ∧ noc 10 (dcL n) := dec_ne
def uLine (u : Usd) : List UInt8 := 32 :: 32 :: (dcL u.units ++ 32 :: (dcL u.money ++ 32 :: u.title.data.toList))
def hLine (x : Rpt) : List UInt8 := x.source.data.toList ++ 32 :: (dcL x.no ++ 32 :: (dcL x.period ++ 32 :: dcL x.corrects))
def rLines (x : Rpt) : List (List UInt8) := hLine x :: x.lines.map uLine
def lines (l : List Rpt) : List (List UInt8) := l.flatMap rLines
def unl (L : List (List UInt8)) : List UInt8 := L.flatMap fun x => x ++ [10]
theorem noc_app {c : UInt8} {a b : List UInt8} (ha : noc c a) (hb : noc c b) : noc c (a ++ b) := fun x hx => (List.mem_append.1 hx).elim (ha x) (hb x)
theorem noc_cons {c x : UInt8} {l : List UInt8} (hx : x ≠ c) (h : noc c l) : noc c (x :: l) := fun b hb => by
  rcases List.mem_cons.1 hb with rfl | hb
  · exact hx
  · exact h b hb

theorem title_ne {s : ByteArray} (h : titleOk s = true) : s.data.toList ≠ [] ∧ noc 10 s.data.toList := by
  unfold titleOk titleB at h
  simp only [Bool.and_eq_true, decide_eq_true_eq, List.all_eq_true] at h
  refine ⟨fun e => ?_, fun b hb he => ?_⟩
  · have := h.1.1.1.1.1; rw [e] at this; simp at this
  · have := h.2 b hb
    unfold prB at this
    simp only [Bool.and_eq_true, decide_eq_true_eq] at this
    rw [he] at this
    revert this; decide
/-! ## A right report's lines -/
structure UOk (u : Usd) : Prop where
  title : u.title.data.toList ≠ [] ∧ noc 10 u.title.data.toList
  units : 0 ≤ u.units ∧ u.units < 10000000000
  money : 0 ≤ u.money ∧ u.money < 10000000000
structure ROk (x : Rpt) : Prop where
  source : x.source.data.toList ≠ [] ∧ noc 32 x.source.data.toList ∧ noc 10 x.source.data.toList
  no : 0 ≤ x.no ∧ x.no < 10000000000
  period : 0 ≤ x.period ∧ x.period < 10000000000
  corrects : 0 ≤ x.corrects ∧ x.corrects < 10000000000
  lines : ∀ u ∈ x.lines, UOk u
theorem ct_noc {c : UInt8} : ∀ {x : List UInt8} (r : List UInt8), noc c x → ct c (x ++ c :: r) = some (x, r)
  | [], r, _ => by show ct c (c :: r) = _; rw [ct_cons, if_pos rfl]
  | b :: x, r, h => by
    have h1 := ct_noc (x := x) r fun d hd => h d (by simp [hd])
    rw [List.cons_append, ct_cons, if_neg (h b (by simp)), h1]; rfl
theorem spk_noc {c : UInt8} {x r : List UInt8} {k : Nat} (h : noc c x) : spk c (k + 1) (x ++ c :: r) = x :: spk c k r := by rw [spk_succ, ct_noc r h]

def bare (x : Rpt) : Rpt := ⟨x.source, x.no, x.period, x.corrects, []⟩
theorem u_read {u : Usd} (h : UOk u) : Lib.hasPrefix (uLine u) [32, 32] = true ∧ usedV (Lib.trimPrefix (uLine u) [32, 32]) = some u := by
  have hp : Lib.hasPrefix (uLine u) [32, 32] = true := by unfold uLine; rfl
  refine ⟨hp, ?_⟩
  have et : Lib.trimPrefix (uLine u) [32, 32] = dcL u.units ++ 32 :: (dcL u.money ++ 32 :: u.title.data.toList) := by unfold Lib.trimPrefix; rw [if_pos hp]; rfl
  have hs : spk 32 2 (dcL u.units ++ 32 :: (dcL u.money ++ 32 :: u.title.data.toList)) = [dcL u.units, dcL u.money, u.title.data.toList] := by
    rw [spk_noc (dc_ne _).1, spk_noc (dc_ne _).1]; rfl
  rw [et, used_y hs h.title.1 (dc_read h.units) (dc_read h.money), Int.toNat_of_nonneg h.units.1, Int.toNat_of_nonneg h.money.1]
  rfl
theorem h_read {x : Rpt} (h : ROk x) : headV (hLine x) = some (bare x) := by
  have hs : spl 32 (hLine x) = [x.source.data.toList, dcL x.no, dcL x.period, dcL x.corrects] := by
    unfold hLine
    rw [(spl_noc h.source.2.1).2, (spl_noc (dc_ne _).1).2, (spl_noc (dc_ne _).1).2, (spl_noc (dc_ne _).1).1]
  rw [head_y hs h.source.1 (dc_read h.no) (dc_read h.period) (dc_read h.corrects), Int.toNat_of_nonneg h.no.1, Int.toNat_of_nonneg h.period.1, Int.toNat_of_nonneg h.corrects.1]
  rfl
theorem h_pre {x : Rpt} (h : ROk x) : ¬ Lib.hasPrefix (hLine x) [32, 32] = true := by
  obtain ⟨h1, h2, _⟩ := h.source
  unfold hLine
  cases hx : x.source.data.toList with
  | nil => exact absurd hx h1
  | cons b t =>
    have hb : b ≠ 32 := h2 b (by rw [hx]; simp)
    intro hh
    have := List.isPrefixOf_iff_prefix.1 (show ([32, 32] : List UInt8).isPrefixOf _ = true from hh)
    obtain ⟨r, hr⟩ := this
    have := (List.cons.inj hr).1
    exact hb this.symm
/-! ## Line after line -/
def run (r : Rg) : List (List UInt8) → Option Rg
  | [] => some r
  | x :: L => match takeV r x with
    | none => none
    | some r' => run r' L
theorem run_app : ∀ {L L' : List (List UInt8)} {r r' : Rg}, run r L = some r' → run r (L ++ L') = run r' L'
  | [], L', r, r', h => by cases h; rfl
  | x :: L, L', r, r', h => by
    show (match takeV r x with | none => none | some r' => run r' (L ++ L')) = _
    have h' : (match takeV r x with | none => none | some r' => run r' L) = some r' := h
    cases ht : takeV r x with
    | none => rw [ht] at h'; cases h'
    | some r2 => rw [ht] at h'; exact run_app h'
theorem run_read : ∀ {L : List (List UInt8)} {r r' : Rg} {i : Int}, (∀ x ∈ L, noc 10 x) → run r L = some r' → readA r (unl L) i = (r', 0)
  | [], r, r', i, _, h => by cases h; exact readA_nil r i
  | x :: L, r, r', i, hn, h => by
    have h' : (match takeV r x with | none => none | some r' => run r' L) = some r' := h
    cases ht : takeV r x with
    | none => rw [ht] at h'; cases h'
    | some r2 =>
      rw [ht] at h'
      have e : unl (x :: L) = x ++ 10 :: unl L := by unfold unl; rw [List.flatMap_cons]; simp
      rw [e, readA_next (ct_noc (unl L) (hn x (by simp))) ht]
      exact run_read (fun y hy => hn y (by simp [hy])) h'

theorem run_used : ∀ {us : List Usd} {done : List Rpt} {x : Rpt}, (∀ u ∈ us, UOk u) → run ⟨done, some x⟩ (us.map uLine) = some ⟨done, some ⟨x.source, x.no, x.period, x.corrects, x.lines ++ us⟩⟩
  | [], done, x, _ => by rw [List.append_nil]; rfl
  | u :: us, done, x, h => by
    obtain ⟨h1, h2⟩ := u_read (h u (by simp))
    show (match takeV ⟨done, some x⟩ (uLine u) with | none => none | some r' => run r' (us.map uLine)) = _
    rw [tk_u (r := ⟨done, some x⟩) h1 h2 rfl]
    show run ⟨done, some (addU x u)⟩ (us.map uLine) = _
    rw [run_used fun v hv => h v (by simp [hv])]
    show some (⟨done, some ⟨x.source, x.no, x.period, x.corrects, (x.lines ++ [u]) ++ us⟩⟩ : Rg) = _
    rw [List.append_assoc]; rfl
theorem run_rpt {r : Rg} {x : Rpt} (h : ROk x) : run r (rLines x) = some ⟨r.all, some x⟩ := by
  show (match takeV r (hLine x) with | none => none | some r' => run r' (x.lines.map uLine)) = _
  rw [tk_h (r := r) (h_pre h) (h_read h)]
  show run ⟨r.all, some (bare x)⟩ (x.lines.map uLine) = _
  rw [run_used h.lines]
  rfl
theorem run_rpts : ∀ {l : List Rpt} {r : Rg}, (∀ x ∈ l, ROk x) → ∃ r', run r (lines l) = some r' ∧ r'.all = r.all ++ l
  | [], r, _ => ⟨r, rfl, by rw [List.append_nil]⟩
  | x :: l, r, h => by
    obtain ⟨r', h1, h2⟩ := run_rpts (l := l) (r := ⟨r.all, some x⟩) fun y hy => h y (by simp [hy])
    refine ⟨r', ?_, ?_⟩
    · unfold lines
      rw [List.flatMap_cons, run_app (run_rpt (h x (by simp)))]
      exact h1
    · rw [h2]
      show (r.all ++ [x]) ++ l = _
      simp
/-! ## Right logs -/
theorem rOk_of {x : Rpt} (h : rptF x = 0) : ROk x := by
  unfold rptF at h
  split at h
  · omega
  · rename_i h1
    split at h
    · omega
    · rename_i h2
      split at h
      · omega
      · have hn : nameOk x.source = true := by simpa using h1
        have h2 := Classical.not_not.1 h2
        refine ⟨?_, by omega, by omega, by omega, fun u hu => ?_⟩
        · unfold nameOk at hn
          have h5 := name_ne hn
          exact ⟨h5.2.2, h5.1, h5.2.1⟩
        · obtain ⟨k, hk, rfl⟩ := List.mem_iff_getElem.1 hu
          have h3 := ffst_all _ h k hk
          unfold usdF at h3
          rw [dif_pos hk] at h3
          split at h3
          · omega
          · rename_i h4
            split at h3
            · omega
            · rename_i h5
              have h5 := Classical.not_not.1 h5
              exact ⟨title_ne (by simpa using h4), by omega, by omega⟩
theorem log_ok {l : List Rpt} (h : logF l = 0) : l.length ≤ 300 ∧ ∀ x ∈ l, rptF x = 0 := by
  unfold logF at h
  split at h
  · omega
  · refine ⟨by omega, fun x hx => ?_⟩
    obtain ⟨k, hk, rfl⟩ := List.mem_iff_getElem.1 hx
    have h3 := ffst_all _ h k hk
    unfold repF at h3
    rw [dif_pos hk] at h3
    split at h3
    · rename_i h4; exact absurd h3 h4
    · rename_i h4; exact Classical.not_not.1 h4
theorem hLine_ne {x : Rpt} (h : ROk x) : noc 10 (hLine x) := by
  unfold hLine
  exact noc_app h.source.2.2 (noc_cons (by decide) (noc_app (dc_ne _).2 (noc_cons (by decide) (noc_app (dc_ne _).2 (noc_cons (by decide) (dc_ne _).2)))))
theorem uLine_ne {u : Usd} (h : UOk u) : noc 10 (uLine u) := by
  unfold uLine
  exact noc_cons (by decide) (noc_cons (by decide) (noc_app (dc_ne _).2 (noc_cons (by decide) (noc_app (dc_ne _).2 (noc_cons (by decide) h.title.2)))))
theorem lines_ne {l : List Rpt} (h : ∀ x ∈ l, ROk x) : ∀ y ∈ lines l, noc 10 y := fun y hy => by
  unfold lines at hy
  obtain ⟨x, hx, hy⟩ := List.mem_flatMap.1 hy
  unfold rLines at hy
  rcases List.mem_cons.1 hy with rfl | hy
  · exact hLine_ne (h x hx)
  · obtain ⟨u, hu, rfl⟩ := List.mem_map.1 hy
    exact uLine_ne ((h x hx).lines u hu)
theorem text_back {l : List Rpt} (h : logF l = 0) (hl : (unl (lines l)).length ≤ 200000) : readV (unl (lines l)) = (l, 0, 0) := by
  have hr : ∀ x ∈ l, ROk x := fun x hx => rOk_of ((log_ok h).2 x hx)
  obtain ⟨r', h1, h2⟩ := run_rpts (l := l) (r := rg0) hr
  have h3 := run_read (i := 1) (lines_ne hr) h1
  have h4 : r'.all = l := by rw [h2]; rfl
  unfold readV
  rw [if_neg (by omega), h3]
  show (if (0 : Int) ≠ 0 then _ else if logF r'.all ≠ 0 then _ else (r'.all, 0, 0)) = _
  rw [h4, if_neg (by decide), if_neg (by rw [h]; decide)]
def textV (l : List Rpt) : ByteArray × Int := if logF l ≠ 0 then (⟨#[]⟩, logF l) else if 200000 < (unl (lines l)).length then (⟨#[]⟩, 2) else (strL (unl (lines l)), 0)
theorem textV_c {l : List Rpt} (h : logF l ≠ 0) : textV l = (⟨#[]⟩, logF l) := if_pos h
theorem textV_l {l : List Rpt} (h : logF l = 0) (h2 : 200000 < (unl (lines l)).length) : textV l = (⟨#[]⟩, 2) := by unfold textV; rw [if_neg (fun hh => hh h), if_pos h2]
theorem textV_0 {l : List Rpt} (h : logF l = 0) (h2 : ¬ 200000 < (unl (lines l)).length) : textV l = (strL (unl (lines l)), 0) := by unfold textV; rw [if_neg (fun hh => hh h), if_neg h2]
theorem text_same {l : List Rpt} (h : (textV l).2 = 0) : readV (textV l).1.data.toList = (l, 0, 0) := by
  by_cases h1 : logF l = 0
  · by_cases h2 : 200000 < (unl (lines l)).length
    · rw [textV_l h1 h2] at h; cases h
    · rw [textV_0 h1 h2]
      show readV (strL (unl (lines l))).data.toList = _
      rw [strL_list]
      exact text_back h1 (by omega)
  · rw [textV_c h1] at h; exact absurd h h1

end Go.Proofs.YtcfamaddnmnaeaaGreatDoor

namespace Go.Proofs.YtcfamaddnmnaeaaGreatDoor
open Go.RowKit
set_option linter.unusedVariables false
set_option linter.unusedSimpArgs false
theorem blenW (g n cap : Nat) (ad : Option Addr) (w : World) (h : w.cell? ⟨g, 1, none⟩ = some (.slice ad n cap)) : Calls Tryz.prog 38 #[.pointer (some ⟨g, 0, none⟩)] w fun e w' => e = .returned (.int .i64 (n : Int)) ∧ w' = w := by
  go_enter Tryz.func38, Tryz.ntmps38
  go_wp2
  all_goals go_ret
  all_goals exact ⟨rfl, rfl⟩
theorem c_blen (id r : Nat) (hne : id ≠ r) (l : List UInt8) : XCall Tryz.prog 38 [.ptr id 0] (Bld id r l) (Bld id r l) (fun _ => false) (.v (.int .i64 (l.length : Int))) := by
 refine ⟨.of Tryz.func38 (by kernel_rfl) rfl, fun F ρ B w vs hF hB hσ hv => ?_⟩
 obtain ⟨g, hb⟩ := bldW_of hne hσ
 obtain rfl := repSL_ptr hb.ptr hv
 obtain ⟨ad, cap, hs⟩ : ∃ ad cap, ρ r = .slice ad l.length cap := by
  rcases hb.own.2 with ⟨h1, h2⟩ | ⟨k, cap, cur, h2, _⟩
  ·exact ⟨none, 0, by rw [h1, h2]⟩
  exact ⟨_, cap, h2⟩
 have hc : w.cell? ⟨g, 1, none⟩ = some (.slice ad l.length cap) := by
  rw [cell_of_row w g 1 _ _ (0, 0) hb.heap, ← hs]; rfl
 refine (blenW g l.length cap ad w hc).mono fun e' w' ⟨he, hw⟩ => ?_
 subst hw
 exact ⟨_, F, ρ, he, .v _, fun _ h => h, fun _ h => .inl h, hF, Kept.refl _ _, hσ, fun p hp b hb2 => .inr ⟨p, hp, hb2⟩, fun _ _ => rfl⟩
end Go.Proofs.YtcfamaddnmnaeaaGreatDoor

namespace Go.Proofs.YtcfamaddnmnaeaaGreatDoor
open Go.RowKit
set_option linter.unusedVariables false

/-! Types. -/
namespace TyDM
end TyDM
open TyF0 TyF1 TyF2 TyF3 TyF4 TyF5 TyF6 TyF7 TyF8 TyF9 TyF10 TyF11 TyG1 TyG2 TyG5 TyU1 TyU2 TyU3 TyU4 TyM1 TyM2 TyM3 TyDA TyDK TyDM

open Go.Lib
set_option linter.unusedSimpArgs false
def TBM (w : World) : Prop := TabI w ∧ MaxT w
theorem tbm_stays : Stays TBM := fun w w' k h => ⟨tabI_at.stays w w' k h.1, maxT_stays w w' k h.2⟩
theorem ACallT.tab {f : FuncId} {ds : List D} {d : D} (h : ACallT Tryz.prog TabI f ds d) : ACallT Tryz.prog TBM f ds d := h.imp fun _ h => h.1
theorem ACallT.max {f : FuncId} {ds : List D} {d : D} (h : ACallT Tryz.prog MaxT f ds d) : ACallT Tryz.prog TBM f ds d := h.imp fun _ h => h.2
theorem bld_same {id r : Nat} {l l' : List UInt8} {τ : Obs} (h : l = l') : ∀ p ∈ Bld id r l', p ∈ Obs.join (Bld id r l) τ := fun p hp => by
  subst h
  rcases List.mem_cons.1 hp with rfl | hp
  · exact .head _
  · rw [List.mem_singleton] at hp; subst hp; exact .tail _ (.head _)
theorem obs_fix {X Y : Ob} (t : List UInt8) : Obs.del 101 (Obs.upd 101 X ((101, Y) :: Obs.kill 101 (Bld 901 801 t))) = Bld 901 801 t := by cases t <;> rfl
theorem ba_app (a b : ByteArray) : (a ++ b).data.toList = a.data.toList ++ b.data.toList := by simp
theorem szMk (a : Array UInt8) : ByteArray.size ⟨a⟩ = a.size := rfl
theorem itoa_dc {n : Int} (h : 0 ≤ n) : itoaB n = strL (dcL n) := by
  unfold itoaB dcL strL
  unfold Lib.itoa
  first
    | rw [if_neg (by omega)]
    | rw [if_pos h]

theorem c_itoaL (n : Int) (h : 0 ≤ n ∧ n < 10000000000) : ACallT Tryz.prog TBM 37 [.v (.int .i64 n)] (.v (.string (strL (dcL n)))) := by
 have := (c_itoa n (by omega) (by omega)).tab
 rwa [itoa_dc h.1] at this
/-! ## Sizes -/
theorem dc_len {n : Int} (h : 0 ≤ n ∧ n < 10000000000) : (dcL n).length ≤ 10 := by
  unfold dcL
  rw [Lib.decDigits_length]
  exact nDig_le 9 n.toNat (by omega)
theorem name_len {s : ByteArray} (h : nameOk s = true) : s.size ≤ 40 := by
  unfold nameOk isName at h
  simp only [Bool.and_eq_true, decide_eq_true_eq] at h
  rw [Lib.size_eq]; exact h.1.1.2
theorem title_len {s : ByteArray} (h : titleOk s = true) : s.size ≤ 100 := by
  unfold titleOk titleB at h
  simp only [Bool.and_eq_true, decide_eq_true_eq] at h
  rw [Lib.size_eq]; exact h.1.1.1.1.2
structure RSz (x : Rpt) : Prop where
  source : x.source.size ≤ 40
  lines : x.lines.length ≤ 100
  titles : ∀ u ∈ x.lines, u.title.size ≤ 100
theorem rsz_of {x : Rpt} (h : rptF x = 0) : RSz x := by
  have h0 := h
  unfold rptF at h
  split at h
  · omega
  · rename_i h1
    split at h
    · omega
    · split at h
      · omega
      · refine ⟨name_len (by simpa using h1), by omega, fun u hu => ?_⟩
        obtain ⟨k, hk, rfl⟩ := List.mem_iff_getElem.1 hu
        have h3 := ffst_all _ h k hk
        unfold usdF at h3
        rw [dif_pos hk] at h3
        split at h3
        · omega
        · rename_i h4
          exact title_len (by simpa using h4)
theorem uLine_len {u : Usd} (h : UOk u) (ht : u.title.size ≤ 100) : (uLine u).length ≤ 124 := by
  have h1 := dc_len h.units
  have h2 := dc_len h.money
  rw [Lib.size_eq] at ht
  unfold uLine
  simp only [List.length_cons, List.length_append]
  omega
theorem hLine_len {x : Rpt} (h : ROk x) (hz : RSz x) : (hLine x).length ≤ 73 := by
  have h1 := dc_len h.no
  have h2 := dc_len h.period
  have h3 := dc_len h.corrects
  have h4 := hz.source
  rw [Lib.size_eq] at h4
  unfold hLine
  simp only [List.length_cons, List.length_append]
  omega
theorem unl_cons (x : List UInt8) (L : List (List UInt8)) : unl (x :: L) = x ++ 10 :: unl L := by unfold unl; rw [List.flatMap_cons]; simp
theorem unl_app (L M : List (List UInt8)) : unl (L ++ M) = unl L ++ unl M := by unfold unl; rw [List.flatMap_append]
/-- What is written behind k reports. -/
def rT (l : List Rpt) (k : Nat) : List UInt8 := unl (lines (l.take k))
def uT (x : Rpt) (i : Nat) : List UInt8 := unl ((x.lines.take i).map uLine)
theorem rT_0 (l : List Rpt) : rT l 0 = [] := rfl
theorem uT_0 (x : Rpt) : uT x 0 = [] := rfl
theorem uT_next {x : Rpt} {i : Nat} (h : i < x.lines.length) : uT x (i + 1) = uT x i ++ (uLine x.lines[i] ++ [10]) := by
  unfold uT
  rw [List.take_add_one, List.getElem?_eq_getElem h, Option.toList_some, List.map_append, unl_app]
  congr 1
  show unl [uLine x.lines[i]] = _
  rw [unl_cons]; rfl
theorem rT_next {l : List Rpt} {k : Nat} (h : k < l.length) : rT l (k + 1) = (rT l k ++ (hLine l[k] ++ [10])) ++ uT l[k] l[k].lines.length := by
  unfold rT uT lines
  rw [List.take_add_one, List.getElem?_eq_getElem h, Option.toList_some, List.flatMap_append, unl_app, List.take_length, List.append_assoc]
  congr 1
  show unl (rLines l[k] ++ []) = _
  rw [List.append_nil]
  unfold rLines
  rw [unl_cons]; simp
theorem rT_all (l : List Rpt) : rT l l.length = unl (lines l) := by unfold rT; rw [List.take_length]
theorem uT_len {x : Rpt} (h : ROk x) (hz : RSz x) : ∀ i, i ≤ x.lines.length → (uT x i).length ≤ 125 * i
  | 0, _ => by rw [uT_0]; simp
  | i + 1, hi => by
    have ih := uT_len h hz i (by omega)
    have h1 := uLine_len (h.lines _ (List.getElem_mem (show i < x.lines.length by omega))) (hz.titles _ (List.getElem_mem (show i < x.lines.length by omega)))
    rw [uT_next (by omega), List.length_append, List.length_append, List.length_singleton]
    omega
theorem rT_mono {l : List Rpt} {k : Nat} (hk : k ≤ l.length) : (rT l k).length ≤ (unl (lines l)).length := by
  unfold rT
  have : lines l = lines (l.take k) ++ lines (l.drop k) := by unfold lines; rw [← List.flatMap_append, List.take_append_drop]
  rw [this, unl_app, List.length_append]
  omega
theorem rT_len {l : List Rpt} (h : ∀ x ∈ l, ROk x ∧ RSz x) : ∀ k, k ≤ l.length → (rT l k).length ≤ 12600 * k
  | 0, _ => by rw [rT_0]; simp
  | k + 1, hk => by
    have ih := rT_len h k (by omega)
    have hx := h _ (List.getElem_mem (show k < l.length by omega))
    have h1 := hLine_len hx.1 hx.2
    have h2 := uT_len hx.1 hx.2 _ (Nat.le_refl l[k].lines.length)
    have h3 := hx.2.lines
    rw [rT_next (by omega), List.length_append, List.length_append, List.length_append, List.length_singleton]
    omega

end Go.Proofs.YtcfamaddnmnaeaaGreatDoor

namespace Go.Proofs.YtcfamaddnmnaeaaGreatDoor
open Go.RowKit
set_option linter.unusedVariables false

/-! Types. -/
namespace TyDB
theorem et_146 : ElemTy Tryz.prog 146 9 1 16 (.string ⟨#[]⟩) := ⟨by kernel_rfl, by kernel_rfl, by kernel_rfl, by decide⟩
end TyDB
open TyF0 TyF1 TyF2 TyF3 TyF4 TyF5 TyF6 TyF7 TyF8 TyF9 TyF10 TyF11 TyG1 TyG2 TyG5 TyU1 TyU2 TyU3 TyU4 TyM1 TyM2 TyM3 TyDA TyDK TyDM TyDB

theorem ifcE : Tryz.prog.underlying 90 = some (.interface (Tryz.prog.methodsAt 90)) := by kernel_rfl

section
variable {P : Program} {B : Nat} {ops : Array Oper} {o : Oper} {e : Env} {σ : Obs}
end
set_option linter.unusedSimpArgs false
section
variable {P : Program} {B : Nat} {ops : Array Oper} {o : Oper} {e : Env} {σ : Obs}
theorem AOp.neErr {t ty : TypeId} {x : Operand} {ms : Array (String × TypeId)} (ho : o.op = .binOp .neq t x (.const .nilIface) ty) (hu : P.underlying t = some (.interface ms)) (hx : e.ev x = .d (.v .nilIface)) : AOp P B ops o e σ (.d (.v (.bool false))) :=
  .bin (y := .const .nilIface) (u1 := .nilIface) (u2 := .nilIface) (u := .bool false) ho hx rfl fun w => by
    have h1 : (Op.equal t .nilIface .nilIface).run P w = .ok true w := by
      show (Op.equalIn (9999 + 1) t .nilIface .nilIface).run P w = _
      unfold Op.equalIn
      simp [run_underlying hu]
    simp [eqGuard, binOp, h1]
end
theorem c_trimL (l : List UInt8) (h : l.length ≤ 9223372036854775807) : ACall Tryz.prog 118 [.v (.string (strL l)), .v (.string ⟨#[48, 49, 50, 51, 52, 53, 54, 55, 56, 57]⟩)] (.v (.string (strL (Lib.trimS l dig10.data.toList)))) := by
 have := c_trimD (strL l) (by rw [strL_size]; exact h)
 rw [strL_list] at this
 exact this
theorem c_atoiL (l : List UInt8) (n : Int) (h : l.length ≤ 18) (h2 : Lib.atoi l = some n) : ACall Tryz.prog 119 [.v (.string (strL l))] (.tup [.v (.int .i64 n), .v .nilIface]) := c_atoi (strL l) n (by rw [strL_size]; exact h) (by rw [strL_list]; exact h2)

set_option maxRecDepth 100000 in
set_option maxHeartbeats 1000000 in
theorem c_pNums (ws : List (List UInt8)) (n : Nat) (hl : ∀ x ∈ ws, x.length ≤ n) (hn : n ≤ 9223372036854775807) (hw : ws.length ≤ 1000000) : ACall Tryz.prog 70 [.sl (ws.map pcD)] (.tup [.sl (((numsT ws).getD []).map intD), .v (.bool (numsT ws).isSome)]) := by
  refine acall_of (n := 49) (ds' := [.sl (((numsT ws).getD []).map intD), .v (.bool (numsT ws).isSome)]) Tryz.func70 rfl (by kernel_rfl) rfl [2, 3] rfl rfl ?_
  intro B w0 F0 fr
  refine .sr ?_
  refine .aA ?_
  refine .aA (.nil ?_)
  refine .sr ?_
  refine .aA (.nil ?_)
  refine .seq ?_
  refine .sr ?_
  refine .mA ?_
  refine .sA (.lenSl rfl et_146.ht rfl) ?_
  refine .mA (.nil ?_)
  refine .block ?_
  refine .adopt 4 1 3 1 rfl rfl ?_
  refine .loop (G := Nat × List Int) (fun ⟨k, ns⟩ => Env.of [(11, .d (.v (.int .i64 (k : Int)))), (9, .d (.sl (ws.map pcD))), (10, .d (.v (.int .i64 ((ws.map pcD).length : Int)))), (4, .own 1)]) (fun ⟨k, ns⟩ => [(1, .row 3 1 (ns.map intD))]) (fun ⟨k, ns⟩ => k ≤ ws.length ∧ numsT (ws.take k) = some ns) (fun ⟨k, ns⟩ => ws.length - k) (0, []) ⟨Nat.zero_le _, rfl⟩ (Sub.less ⟨(SLe.of_eq rfl), SLe.refl _, SLe.refl _, SLe.refl _, trivial⟩ (row_same rfl)) ?_
  rintro ⟨k, ns⟩ ⟨hkl, hk⟩
  try dsimp only at hkl hk
  refine .sr ?_
  refine .sA (.lss rfl rfl rfl) (.nil ?_)
  refine .seq ?_
  refine .cond rfl (fun h1 => ?_) (fun h1 => ?_)
  · replace h1 := of_decide_eq_true h1
    rw [List.length_map] at h1
    have hlt : k < ws.length := by omega
    have hln := numsT_len hk
    have hq : ns.length ≤ k := by rw [hln, List.length_take]; omega
    refine .skip ?_
    refine .seq ?_
    refine .block ?_
    refine .sr ?_
    refine .sA (.indexAddr rfl et_146 rfl rfl k rfl (at_lst hlt) rfl) ?_
    refine .sA (.load rfl sc_9 rfl) ?_
    refine .aA (.nil ?_)
    refine .seq ?_
    refine .sr ?_
    refine .mA ?_
    refine .sA (.seql rfl rfl rfl) ?_
    refine .mA ?_
    refine .split 17 rfl (fun g2 => ?_) (fun g2 => ?_)
    · replace g2 := of_decide_eq_true g2
      have HN : numT ws[k] = none := if_pos (.inl (strL_nil.1 g2))
      have HR := numsT_none hlt HN
      rw [HR]
      refine .pA ?_
      refine .pA ?_
      refine .pA ?_
      refine .sA (.pickT rfl rfl rfl) ?_
      refine .mA ?_
      refine .pA ?_
      refine .pA ?_
      refine .pA ?_
      refine .sA (.pickT rfl rfl rfl) ?_
      refine .mA ?_
      refine .pA ?_
      refine .pA ?_
      refine .pA ?_
      refine .pA ?_
      refine .pass ⟨31, rfl, .inr ⟨rfl, rfl⟩⟩ rfl rfl ?_
      refine .pass ⟨31, rfl, .inr ⟨rfl, rfl⟩⟩ rfl rfl ?_
      refine .pA ?_
      refine .sA (.pickT rfl rfl rfl) (.nil ?_)
      refine .cond rfl (fun _ => ?_) (fun h => nomatch h)
      refine .sr ?_
      refine .aA ?_
      refine .aA (.nil ?_)
      refine .ret ?_
      refine ⟨RetD.nil rfl, RetD.eq rfl ?_, trivial⟩
      all_goals (rfl)
    replace g2 := of_decide_eq_false g2
    have hne : ws[k] ≠ [] := fun hh => g2 (strL_nil.2 hh)
    refine .sG (.moveD rfl rfl) ?_
    refine .sG (.lenStr rfl st_9 rfl) ?_
    refine .sG (.gtr rfl rfl rfl) ?_
    refine .sA (.pickF rfl rfl rfl) ?_
    refine .mA ?_
    refine .split 22 rfl (fun g3 => ?_) (fun g3 => ?_)
    · replace g3 := of_decide_eq_true g3
      rw [strL_size] at g3
      have HN : numT ws[k] = none := if_pos (.inr (.inl (by omega)))
      have HR := numsT_none hlt HN
      rw [HR]
      refine .pA ?_
      refine .pA ?_
      refine .pA ?_
      refine .sA (.pickT rfl rfl rfl) ?_
      refine .mA ?_
      refine .pA ?_
      refine .pA ?_
      refine .pA ?_
      refine .pA ?_
      refine .pass ⟨31, rfl, .inr ⟨rfl, rfl⟩⟩ rfl rfl ?_
      refine .pass ⟨31, rfl, .inr ⟨rfl, rfl⟩⟩ rfl rfl ?_
      refine .pA ?_
      refine .sA (.pickT rfl rfl rfl) (.nil ?_)
      refine .cond rfl (fun _ => ?_) (fun h => nomatch h)
      refine .sr ?_
      refine .aA ?_
      refine .aA (.nil ?_)
      refine .ret ?_
      refine ⟨RetD.nil rfl, RetD.eq rfl ?_, trivial⟩
      all_goals (rfl)
    replace g3 := of_decide_eq_false g3
    rw [strL_size] at g3
    have h10 : ws[k].length ≤ 10 := by omega
    refine .sG (.moveD rfl rfl) ?_
    refine .sG (.call rfl (.cons (.rfl' rfl) (.cons (.rfl' rfl) .nil)) (c_trimL ws[k] (by have := hl _ (List.getElem_mem hlt); omega))) ?_
    refine .sG (.sneq rfl rfl rfl) ?_
    refine .sA (.pickF rfl rfl rfl) ?_
    refine .mA ?_
    refine .split 27 rfl (fun g4 => ?_) (fun g4 => ?_)
    · replace g4 := of_decide_eq_true g4
      have HN : numT ws[k] = none := by
        have hd : ¬ ws[k].all (dig10.data.toList.contains ·) = true := fun hh => g4 (by rw [(trimS_nil _ _).2 hh]; rfl)
        rw [dec_all _ 0] at hd
        unfold numT
        split
        · rfl
        simpa using hd
      have HR := numsT_none hlt HN
      rw [HR]
      refine .pA ?_
      refine .pA ?_
      refine .pA ?_
      refine .pA ?_
      refine .pass ⟨31, rfl, .inr ⟨rfl, rfl⟩⟩ rfl rfl ?_
      refine .pass ⟨31, rfl, .inr ⟨rfl, rfl⟩⟩ rfl rfl ?_
      refine .pA ?_
      refine .sA (.pickT rfl rfl rfl) (.nil ?_)
      refine .cond rfl (fun _ => ?_) (fun h => nomatch h)
      refine .sr ?_
      refine .aA ?_
      refine .aA (.nil ?_)
      refine .ret ?_
      refine ⟨RetD.nil rfl, RetD.eq rfl ?_, trivial⟩
      all_goals (rfl)
    replace g4 := of_decide_eq_false g4
    have hal : ws[k].all (dig10.data.toList.contains ·) = true := (trimS_nil _ _).1 (by have := Decidable.not_not.1 g4; rw [strCons, strL_list] at this; exact this)
    rw [dec_all _ 0] at hal
    obtain ⟨v, hv⟩ := Option.isSome_iff_exists.1 hal
    obtain ⟨b0, t0, h0⟩ := List.exists_cons_of_ne_nil hne
    refine .sG (.moveD rfl rfl) ?_
    refine .sG (.indexStr rfl st_9 rfl rfl 0 rfl (hd_at (s := strL ws[k]) (by rw [strL_list]; exact h0))) ?_
    refine .sG (.eql rfl rfl rfl) ?_
    refine .sG (.moveD rfl rfl) ?_
    refine .split 31 rfl (fun g5 => ?_) (fun g5 => ?_)
    · replace g5 := of_decide_eq_true g5
      have hb0 : b0 = 48 := by apply UInt8.toNat_inj.1; show b0.toNat = 48; omega
      refine .sG (.moveD rfl rfl) ?_
      refine .sG (.sneq rfl rfl rfl) ?_
      refine .sG (.pickT rfl rfl rfl) ?_
      refine .sA (.pickF rfl rfl rfl) (.nil ?_)
      refine .cond rfl (fun h6 => ?_) (fun h6 => ?_)
      · replace h6 := of_decide_eq_true h6
        have HZ : numT ws[k] = none := by
          first
          | exact HN
          | exact if_pos (.inr (.inr ⟨by rw [h0, hb0]; rfl, fun hh => h6 (one48.2 (by rw [strL_list]; exact hh))⟩))
        have HR := numsT_none hlt HZ
        rw [HR]
        refine .sr ?_
        refine .aA ?_
        refine .aA (.nil ?_)
        refine .ret ?_
        refine ⟨RetD.nil rfl, RetD.eq rfl ?_, trivial⟩
        all_goals (rfl)
      replace h6 := of_decide_eq_false h6
      have HV : numT ws[k] = some v := by
        first
        | exact HN
        | (have h1 := one48.1 (Decidable.not_not.1 h6)
           rw [strL_list] at h1
           unfold numT
           rw [if_neg, hv]
           rintro (hh | hh | hh)
           · exact hne hh
           · omega
           exact hh.2 h1)
      have HX := numsT_next hlt hk HV
      refine .skip ?_
      refine .sr ?_
      refine .mA ?_
      refine .sA (.call rfl (.cons (.rfl' rfl) .nil) (c_atoiL ws[k] (v : Int) (by omega) (atoi_dec hne hv))) ?_
      refine .mA ?_
      refine .sA (.extract rfl rfl rfl) ?_
      refine .sA (.extract rfl rfl rfl) ?_
      refine .aA ?_
      refine .aA (.nil ?_)
      refine .seq ?_
      refine .sr ?_
      refine .mA ?_
      refine .sA (.neErr rfl ifcE rfl) (.nil ?_)
      refine .cond rfl (fun h => nomatch h) (fun _ => ?_)
      refine .skip ?_
      refine .region ?_
      refine .sA (.moveO rfl rfl) ?_
      refine .mA ?_
      refine .sA (.buildSlice rfl et_37 (.cons rfl rfl rfl .nil) rfl (by decide)) ?_
      -- append 46
      refine .append rfl rfl rfl rfl et_37 rfl (.head _) rfl (fun y hy => by obtain rfl := List.mem_singleton.1 hy; rfl) (by simp; omega) (by simp; omega) ?_
      refine .sA (.assignO rfl rfl) (.nil ?_)
      refine .region ?_
      refine .sA (.add64 rfl rfl rfl (by omega) (by omega)) ?_
      refine .mA (.nil ?_)
      refine ⟨(k + 1, ns ++ [(v : Int)]), ⟨by show k + 1 ≤ _; omega, HX⟩, (by dsimp only; omega), Sub.less ⟨(SLe.of_eq rfl), SLe.refl _, SLe.refl _, SLe.refl _, trivial⟩ (row_same (by rw [List.map_append]; rfl))⟩
    replace g5 := of_decide_eq_false g5
    have HN : numT ws[k] = some v := by
      unfold numT
      rw [if_neg, hv]
      rintro (hh | hh | hh)
      · exact hne hh
      · omega
      rw [h0] at hh
      have := Option.some.inj hh.1
      rw [this] at g5
      exact g5 (by decide)
    have HX := numsT_next hlt hk HN
    refine .pA ?_
    refine .pA ?_
    refine .sG (.pickF rfl rfl rfl) ?_
    refine .sA (.pickF rfl rfl rfl) (.nil ?_)
    refine .cond rfl (fun h => nomatch h) (fun _ => ?_)
    refine .skip ?_
    refine .sr ?_
    refine .mA ?_
    refine .sA (.call rfl (.cons (.rfl' rfl) .nil) (c_atoiL ws[k] (v : Int) (by omega) (atoi_dec hne hv))) ?_
    refine .mA ?_
    refine .sA (.extract rfl rfl rfl) ?_
    refine .sA (.extract rfl rfl rfl) ?_
    refine .aA ?_
    refine .aA (.nil ?_)
    refine .seq ?_
    refine .sr ?_
    refine .mA ?_
    refine .sA (.neErr rfl ifcE rfl) (.nil ?_)
    refine .cond rfl (fun h => nomatch h) (fun _ => ?_)
    refine .skip ?_
    refine .region ?_
    refine .sA (.moveO rfl rfl) ?_
    refine .mA ?_
    refine .sA (.buildSlice rfl et_37 (.cons rfl rfl rfl .nil) rfl (by decide)) ?_
    -- append 46
    refine .append rfl rfl rfl rfl et_37 rfl (.head _) rfl (fun y hy => by obtain rfl := List.mem_singleton.1 hy; rfl) (by simp; omega) (by simp; omega) ?_
    refine .sA (.assignO rfl rfl) (.nil ?_)
    refine .region ?_
    refine .sA (.add64 rfl rfl rfl (by omega) (by omega)) ?_
    refine .mA (.nil ?_)
    refine ⟨(k + 1, ns ++ [(v : Int)]), ⟨by show k + 1 ≤ _; omega, HX⟩, (by dsimp only; omega), Sub.less ⟨(SLe.of_eq rfl), SLe.refl _, SLe.refl _, SLe.refl _, trivial⟩ (row_same (by rw [List.map_append]; rfl))⟩
  replace h1 := of_decide_eq_false h1
  rw [List.length_map] at h1
  obtain rfl : k = ws.length := by omega
  have HR : numsT ws = some ns := by have := hk; rwa [List.take_length] at this
  rw [HR]
  refine .exit ?_
  refine .sr ?_
  refine .sA (.moveO rfl rfl) ?_
  refine .sA (.assignO rfl rfl) ?_
  refine .aA (.nil ?_)
  refine .ret ?_
  refine ⟨RetD.own rfl (.head _) ?_, RetD.eq rfl ?_, trivial⟩
  all_goals (rfl)

end Go.Proofs.YtcfamaddnmnaeaaGreatDoor

namespace Go.Proofs.YtcfamaddnmnaeaaGreatDoor
open Go.RowKit
set_option linter.unusedVariables false

theorem AWP.drawLTailL {cx : Cx} {id : Nat} {l : List Oper} {e : Env} {σ : Obs} {Q : Post} (k : Nat) (L : List Nat) (Φ : List Fc) (E : List (Nat × List Nat)) (I : Obs → Prop) (hm : cx.P.follows .mixedOrders = true) (hB : Region.lexB .any (l.take k).toArray = true)
    (hS : Region.keysFrom (l.take k).toArray (fun k => E.any fun p => Nat.beq p.1 k) (fun k => ((E.find? fun p => Nat.beq p.1 k).map Prod.snd).getD []) (l.take k).length 0 (Array.replicate (l.take k).length false) = true) (hC : Region.chainLB l.toArray (fun i => L.contains i) k = true) (hL : lateB l.toArray L k = true)
    (h : LRun cx (l.take k).toArray Φ (fun k => E.any fun p => Nat.beq p.1 k) (fun k => ((E.find? fun p => Nat.beq p.1 k).map Prod.snd).getD []) I 0 (l.take k) (Env.killIds Φ e) σ (fun e σ => AOps cx l.toArray (l.drop k) e σ (QN Q))) : AWP cx (.region id l.toArray true) e σ Q := by
  intro a w ⟨F, ρ, hr⟩
  simp only [Region.lexB, Bool.and_eq_true] at hB
  have hch := ChainL.of hC
  have hkl : k ≤ l.length := by simpa using hch.le
  have hK : ∀ k, (E.any fun p => Nat.beq p.1 k) = false → ((E.find? fun p => Nat.beq p.1 k).map Prod.snd).getD [] = [] := fun k hk => by
    have : E.find? (fun p => Nat.beq p.1 k) = none := List.find?_eq_none.2 fun p hp hh => by
      have : (E.any fun p => Nat.beq p.1 k) = true := List.any_eq_true.2 ⟨p, hp, hh⟩
      rw [hk] at this
      simp at this
    rw [this]; rfl
  have h1 := anyL_lex hK (l.take k) 0 (Array.replicate (l.take k).toArray.size false) _ σ (by simp) (by simpa using hB.2) (by simpa using hS) h
  have h2 := wpAny_of_L (cx := cx) (ops := (l.take k).toArray) (Q := fun ex e σ => match ex with | .normal => AOps cx l.toArray (l.drop k) e σ (QN Q) | _ => False) (fun ex e σ hne hq => by cases ex <;> first | exact absurd rfl hne | exact hq.elim) (by simpa using LRun.dsts _ 0 _ σ h) _ _ _ σ a { w with drawn := w.drawn + 1 } (R.killIds Φ ⟨F, ρ, hr.drew⟩) (killIds_clean Φ e) h1
  have h3 : wpAny cx.P .any l.toArray (lift cx (QN Q)) l.toArray.size (Array.replicate l.toArray.size false) a { w with drawn := w.drawn + 1 } := by
    refine wpAny_splitL hch (LateOk.of hL) (ops0 := (l.take k).toArray) (by simp; omega) (fun j hj => ?_) ?_ ?_ ?_ (l.take k).length _ _ _ _ _ (by simp; omega) (by simp) ?_ ?_ ?_ (by simp; omega) h2
    · rw [List.getElem?_toArray, List.getElem?_toArray, List.getElem?_take, if_pos hj]
    · rintro a w ⟨e, σ, h3, h4⟩
      have := h3 a w h4
      simpa using this
    · rintro ex a w hne ⟨e, σ, h3, _⟩
      cases ex <;> first | exact absurd rfl hne | exact h3.elim
    · rintro ex a w hne ⟨e, σ, h3, _⟩
      cases ex <;> first | exact absurd rfl hne | exact h3.elim
    · intro j hj d
      have h5 : j < l.length := by omega
      have h6 : j < min k l.length := by omega
      simp [Array.getD_eq_getD_getElem?, h5, h6]
    · intro j hj hj2
      have : j < l.length := by simpa using hj2
      simp [Array.getD_eq_getD_getElem?, this]
    · intro i o ho hi
      have : i < l.length := by simpa using (Array.getElem?_eq_some_iff.1 ho).1
      simp [Array.getD_eq_getD_getElem?, this] at hi
  refine wp_mono (wp_region_any hm h3) ?_
  rintro ex a w ⟨e, σ, h4, h5⟩
  cases ex with
  | normal => exact ⟨e, σ, h4, h5⟩
  | exit id => exact h4.elim
  | goto l => exact h4.elim
  | ret => exact h4.elim
  | panic c => exact h4.elim
  | outgrown => exact h4.elim
end Go.Proofs.YtcfamaddnmnaeaaGreatDoor

namespace Go.Proofs.YtcfamaddnmnaeaaGreatDoor
open Go.RowKit
set_option linter.unusedVariables false
section
variable {cx : Cx} {ops : Array Oper} {o : Oper} {rest : List Oper} {e : Env} {σ : Obs} {Q : Post}
end
end Go.Proofs.YtcfamaddnmnaeaaGreatDoor

namespace Go.Proofs.YtcfamaddnmnaeaaGreatDoor
open Go.RowKit
set_option linter.unusedVariables false

def X2CallT (P : Program) (g : Nat) (T : World → Prop) (f : FuncId) (ss : List S) (σ σ' : Obs) (chg : Nat → Bool) (s0 s1 : S) : Prop := Enters P f ∧
  ∀ (F : Nat → Prop) (ρ : Nat → Value) (B : Nat) (w : World) (vs : List Value), T w → ¬ ownB σ ρ g → (∀ b, F b → b < w.heap.size) → B ≤ w.heap.size → ObsOk B F ρ w σ → RepSL F ρ w vs ss →
    Calls P f vs.toArray w fun e w' => ∃ v0 v1 F' ρ', e = .returned (.tuple #[v0, v1]) ∧ RepS F' ρ' w' v0 s0 ∧ RepS F' ρ' w' v1 s1 ∧ XEnd B F ρ w σ F' ρ' w' σ' chg
def RetX2 (t0 t1 : Nat) (s0 s1 : S) (σ' : Obs) : Post := fun ex e σ => match ex with
  | .ret => (SLe (e t0) s0 ∧ SLe (e t1) s1) ∧ AllIn σ σ'
  | .normal => (SLe (e t0) s0 ∧ SLe (e t1) s1) ∧ AllIn σ σ'
  | _ => False
theorem x2callT_of {g : Nat} {T : World → Prop} {P : Program} {f : FuncId} {fn : Func} {c : Code} {n : Nat} {ss : List S} {σ σ' : Obs} {chg : Nat → Bool} {s0 s1 : S} (hf : P.funcs[f]? = some fn) (hb : fn.body = some c) (hn : (fn.name == "runtime.NumGoroutine") = false) (hN : fn.ntmps = n)
    (t0 t1 : Nat) (hr : fn.results = #[.tmp t0, .tmp t1]) (hle' : Nat.ble ss.length n = true)
    (hs : StaysAt g T) (h : ∀ B w0 F0 fr ρ0, TC g T ⟨P, n, B, w0, F0, fr, fun i => !(chg i), ρ0⟩ → AWP ⟨P, n, B, w0, F0, fr, fun i => !(chg i), ρ0⟩ c (Env.argsS 0 ss) σ (RetX2 t0 t1 s0 s1 σ')) : X2CallT P g T f ss σ σ' chg s0 s1 := by
  have hle : ss.length ≤ n := Nat.le_of_ble_eq_true hle'
  refine ⟨Enters.of hf hn (by rw [hb]; rfl), fun F ρ B w vs hT hgo hF hB hσ hv => ?_⟩
  refine calls_of_wp hf hb ?_
  refine wp_mono (h _ _ _ _ _ ⟨hs, hT, fun k => k.elim (fun k => by have := hs.1 _ hT; omega) hgo⟩ _ _ (args_R hN hle hF hB hσ hv)) ?_
  rintro ex a w' ⟨e', σe, hq, F', ρ', hr'⟩
  have hres : (results fn a.tmps).run P w' = .ok (.tuple #[a.tmps.getD t0 undef, a.tmps.getD t1 undef]) w' := by
    unfold results
    rw [hr, Sem.run_bind]
    have h2 : (Array.mapM (fun r => match r with | ResultVar.tmp t => pure (a.tmps.getD t undef) | ResultVar.cell b t => do loadVar t (← asAddr (a.tmps.getD b undef))) [ResultVar.tmp t0, ResultVar.tmp t1].toArray : Sem (Array Value)).run P w' = .ok [a.tmps.getD t0 undef, a.tmps.getD t1 undef].toArray w' := by
      rw [List.mapM_toArray, Sem.run_map]
      rfl
    exact (congrArg (fun r => Result.andThen r _) h2).trans rfl
  have hends : (SLe (e' t0) s0 ∧ SLe (e' t1) s1) ∧ AllIn σe σ' → bodyPost P fn (fun e w' => ∃ v0 v1 F' ρ', e = .returned (.tuple #[v0, v1]) ∧ RepS F' ρ' w' v0 s0 ∧ RepS F' ρ' w' v1 s1 ∧ XEnd B F ρ w σ F' ρ' w' σ' chg) .ret a w' := by
    rintro ⟨⟨h1, h2⟩, hin⟩
    have hin := hin.mem
    exact ⟨hr'.defers, _, hres, _, _, F', ρ', rfl, h1 _ _ _ _ (hr'.env t0), h2 _ _ _ _ (hr'.env t1), hr'.base, hr'.new, hr'.lt, hr'.below, hr'.obs.sub hin, fun p hp => hr'.kown p (hin p hp), fun i hi => hr'.fixed i (by show (!(chg i)) = true; rw [hi]; rfl)⟩
  cases ex with
  | ret => exact hends hq
  | normal => exact hends hq
  | exit id => exact hq.elim
  | goto l => exact hq.elim
  | panic c => exact hq.elim
  | outgrown => exact hq.elim
section
variable {cx : Cx} {ops : Array Oper} {o om o1 o2 : Oper} {rest : List Oper} {e : Env} {σ : Obs} {Q : Post}
theorem extract_ok {a : Act} {o : Oper} {t i : Nat} {P : Program} {w : World} {cs : Array Value} {v : Value} (ho : o.op = .extract (.tmp t) i) (ht : a.tmps.getD t undef = .tuple cs) (hv : cs[i]? = some v) : (execOp a.eval o).run P w = .ok (.value v) w := by
  obtain ⟨hlt, rfl⟩ := Array.getElem?_eq_some_iff.1 hv
  have he : a.eval (.tmp t) = .tuple cs := ht
  unfold execOp
  simp [ho, he, Instr.extract, hlt]
theorem AOps.callX2T {g : Nat} {T : World → Prop} {f : FuncId} {xs : List Operand} {ts : Array TypeId} {ss : List S} {σc σ' : Obs} {chg : Nat → Bool} {s0 s1 : S} {t tm t1 t2 : Nat} (hg : o.guard = none) (ht : o.dst = some t) (hd : Nat.blt t cx.N = true)
    (ho : o.op = .call { callee := .value (.func f), args := xs.toArray, argTypes := ts }) (hT : TC g T cx) (ha : ArgsS e xs ss) (h : X2CallT cx.P g T f ss σc σ' chg s0 s1) (hin : AllIn σ σc)
    (h1 : Obs.allIds (fun i => !(chg i)) (Obs.dels σc σ) = true) (h2 : Obs.allIds (fun i => Obs.allIds (fun j => !(Nat.beq i j)) (Obs.dels σc σ)) σ' = true) (h3 : ∀ i, chg i = true → cx.fixp i = false)
    (hgm : om.guard = none) (hom : om.op = .move (.tmp t)) (htm : om.dst = some tm) (hdm : Nat.blt tm cx.N = true)
    (hg1 : o1.guard = none) (ho1 : o1.op = .extract (.tmp tm) 0) (ht1 : o1.dst = some t1) (hd1 : Nat.blt t1 cx.N = true) (hne : Nat.beq tm t1 = false)
    (hg2 : o2.guard = none) (ho2 : o2.op = .extract (.tmp tm) 1) (ht2 : o2.dst = some t2) (hd2 : Nat.blt t2 cx.N = true)
    (k : AOps cx ops rest (((((e.killP chg).put (some t) (.d .any)).put (some tm) (.d .any)).put (some t1) s0).put (some t2) s1) (Obs.join σ' (Obs.killP chg (Obs.dels σc σ))) Q) : AOps cx ops (o :: om :: o1 :: o2 :: rest) e σ Q := by
  intro a w ⟨F, ρ, hr⟩
  have h4 := h.2 F ρ cx.B w _ (hT.now hr.below) (fun ⟨p, hp, hb⟩ => hT.fr (hr.kown p (hin.mem p hp) g hb)) hr.lt hr.hB (hr.obs.sub hin.mem) (ArgsS.rep hr.env ha)
  have h5 := h.1 (xs.map a.eval).toArray w
  have hx : (execOp a.eval o).run cx.P w = .ok (.enter f (xs.map a.eval).toArray) w := by
    unfold execOp
    simp only [ho, resolve, Deferred.ofValue, Act.eval, invoke, Sem.run_bind, Sem.run_pure, Result.andThen_ok]
    simpa using h5
  refine wpList_plain hg fun K hK => ?_
  unfold Oper.wp
  rw [hx]
  refine h4.mono fun _ w' ⟨v0, v1, F', ρ', he, hv0, hv1, hE⟩ => ?_
  subst he
  refine hK _ _ ?_
  rw [ht]
  have hsz : a.tmps.size = cx.N := hr.size
  have htl : t < a.tmps.size := by rw [hsz]; simpa [Nat.blt_eq] using hd
  have html : tm < (a.put (some t) (.tuple #[v0, v1])).tmps.size := by rw [put_size, hsz]; simpa [Nat.blt_eq] using hdm
  have hA := (hr.after hin.mem hE h1 h2 h3)
  have hB := hA.put (o := o) (Ext.refl hE.lt) (v := .tuple #[v0, v1]) (s := .d .any) (.d (.any _)) (by unfold DstOk; rw [ht]; exact hd)
  have hM := hB.put (o := om) (Ext.refl hE.lt) (v := .tuple #[v0, v1]) (s := .d .any) (.d (.any _)) (by unfold DstOk; rw [htm]; exact hdm)
  have hC := hM.put (o := o1) (Ext.refl hE.lt) hv0 (by unfold DstOk; rw [ht1]; exact hd1)
  have hD := hC.put (o := o2) (Ext.refl hE.lt) hv1 (by unfold DstOk; rw [ht2]; exact hd2)
  rw [ht, htm, ht1, ht2] at hD
  have e0 : (a.put (some t) (.tuple #[v0, v1])).tmps.getD t undef = .tuple #[v0, v1] := put_getD_same htl
  have e1 : ((a.put (some t) (.tuple #[v0, v1])).put (some tm) (.tuple #[v0, v1])).tmps.getD tm undef = .tuple #[v0, v1] := put_getD_same html
  have hnt : tm ≠ t1 := fun hh => by rw [hh] at hne; simp at hne
  have e2 : (((a.put (some t) (.tuple #[v0, v1])).put (some tm) (.tuple #[v0, v1])).put (some t1) v0).tmps.getD tm undef = .tuple #[v0, v1] := by rw [put_getD_other hnt]; exact e1
  have hxm : (execOp (a.put (some t) (.tuple #[v0, v1])).eval om).run cx.P w' = .ok (.value (.tuple #[v0, v1])) w' := by
    have he : (a.put (some t) (.tuple #[v0, v1])).eval (.tmp t) = .tuple #[v0, v1] := e0
    unfold execOp
    simp only [hom, he]; rfl
  refine wpList_plain hgm fun K0 hK0 => ?_
  unfold Oper.wp
  rw [hxm, Oper.upon_value, htm]
  refine hK0 _ _ ?_
  refine wpList_plain hg1 fun K1 hK1 => ?_
  unfold Oper.wp
  rw [extract_ok (v := v0) ho1 e1 rfl, Oper.upon_value, ht1]
  refine hK1 _ _ ?_
  refine wpList_plain hg2 fun K2 hK2 => ?_
  unfold Oper.wp
  rw [extract_ok (v := v1) ho2 e2 rfl, Oper.upon_value, ht2]
  refine hK2 _ _ ?_
  exact k _ _ ⟨F', ρ', hD⟩
end
end Go.Proofs.YtcfamaddnmnaeaaGreatDoor

namespace Go.Proofs.YtcfamaddnmnaeaaGreatDoor
open Go.RowKit
set_option linter.unusedVariables false

/-! Types. -/
namespace TyDC
theorem bu_75 : StructT Tryz.prog 75 (fun i => (#[(0, 1), (1, 1), (2, 1)] : Array (Nat × Nat))[i]?) [(.string ⟨#[]⟩), (.int .i64 0), (.int .i64 0)] := .of (by kernel_rfl) (by kernel_rfl) (by decide)
theorem bu_80 : StructT Tryz.prog 80 (fun i => (#[(0, 1), (1, 1), (2, 1), (3, 1), (4, 1)] : Array (Nat × Nat))[i]?) [(.string ⟨#[]⟩), (.int .i64 0), (.int .i64 0), (.int .i64 0), (.slice none 0 0)] := .of (by kernel_rfl) (by kernel_rfl) (by decide)
end TyDC
open TyF0 TyF1 TyF2 TyF3 TyF4 TyF5 TyF6 TyF7 TyF8 TyF9 TyF10 TyF11 TyG1 TyG2 TyG5 TyU1 TyU2 TyU3 TyU4 TyM1 TyM2 TyM3 TyDA TyDK TyDM TyDB TyDC

theorem maxT_at : StaysAt (Tryz.l144_ren.g 1) MaxT := by
  refine ⟨fun w ⟨m, hm⟩ => ?_, fun w w' k ⟨m, hm⟩ => ⟨m, ?_⟩⟩
  · exact World.block_lt_of_cell? _ _ hm
  · rw [World.cell?_of_block k]; exact hm

abbrev gMax : Nat := Tryz.l144_ren.g 1
theorem c_cutP2 (s : ByteArray) : ACall Tryz.prog 30 [.v (.string s), .v (.string ⟨#[32, 32]⟩)] (.tup [.v (.string (strL (Lib.trimPrefix s.data.toList [32, 32]))), .v (.bool (Lib.hasPrefix s.data.toList [32, 32]))]) := c_cutP s ⟨#[32, 32]⟩

set_option linter.unusedSimpArgs false
theorem c_split3 (l : List UInt8) (hs : l.length < 4294967281) : ACallT Tryz.prog MaxT 69 [.v (.string (strL l)), .v (.string ⟨#[32]⟩), .v (.int .i64 3)] (.sl ((spk 32 2 l).map pcD)) := by
 have := c_splitN (strL l) 32 2 (by rw [strL_size]; exact hs) (by decide)
 rw [strL_list] at this
 exact this
theorem rdRow_ren (i j : Nat) (done : List Rpt) (c : List S) : (rdRow done c).map (fun ss => ss.map (S.ren i j)) = rdRow done (c.map (S.ren i j)) := by
  unfold rdRow
  rw [List.map_append, List.map_map]
  congr 1
theorem rdS_len (done : List Rpt) (x : Rpt) : (rdO (Rg.mk done (some x)).done (Rg.mk done (some x)).cur).length = done.length + 1 := rdRow_len done (lastS x)
def resS : Option Rg → S
  | none => .d (.v (.slice none 0 0))
  | some _ => .own 500
theorem clean1 {a ia : Nat} : ∀ p ∈ [(a, S.own ia)], ∀ f ∈ [(⟨ia, [a]⟩ : Fc)], f.slots.contains p.1 = true ∨ p.2.kill f.id = p.2 := fun p hp f hf => by
  obtain rfl := List.mem_singleton.1 hp
  obtain rfl := List.mem_singleton.1 hf
  exact .inl (by simp)

set_option maxRecDepth 100000 in
set_option maxHeartbeats 8000000 in
theorem c_pLine (done : List Rpt) (cur : Option Rpt) (line : ByteArray) (hl : line.size ≤ 200000) (hd : (done ++ cur.toList).length ≤ 300000) (hc : (curL cur).length ≤ 300000) (hop : cur = none → done = []) :
    X2CallT Tryz.prog gMax MaxT 28 [.own 500, .d (.v (.string line))] (rdObs (⟨done, cur⟩ : Rg)) (rdObs ((takeV (⟨done, cur⟩ : Rg) line.data.toList).getD (⟨done, cur⟩ : Rg))) (fun i => Nat.beq i 500 || Nat.beq i 700 || Nat.beq i 710) (resS (takeV (⟨done, cur⟩ : Rg) line.data.toList)) (.d (.v (.bool (takeV (⟨done, cur⟩ : Rg) line.data.toList).isSome))) := by
  refine x2callT_of (n := 105) Tryz.func28 rfl (by kernel_rfl) rfl 4 5 rfl rfl maxT_at ?_
  intro B w0 F0 fr ρ0 hT
  have hsl := Lib.size_eq line
  have htl := trimP_le line.data.toList [32, 32]
  refine .sr ?_
  refine .aA ?_
  refine .aA (.nil ?_)
  refine .seq ?_
  refine .sr ?_
  refine .mA ?_
  refine .sA (.call rfl (.cons (.rfl' rfl) (.cons (.rfl' rfl) .nil)) (c_cutP2 line)) ?_
  refine .mA ?_
  refine .sA (.extract rfl rfl rfl) ?_
  refine .sA (.extract rfl rfl rfl) ?_
  refine .aA ?_
  refine .aA (.nil ?_)
  refine .sr ?_
  refine .mA (.nil ?_)
  refine .cond rfl (fun h1 => ?_) (fun h1 => ?_)
  · skip
    have p2 := h1
    refine .sr ?_
    refine .mA ?_
    -- wants the world
    refine .callTC rfl rfl rfl hT (.cons (.rfl' rfl) (.cons (.rfl' rfl) (.cons (.rfl' rfl) .nil))) (c_split3 (Lib.trimPrefix line.data.toList [32, 32]) (by omega)) ?_
    refine .aA (.nil ?_)
    refine .seq ?_
    refine .sr ?_
    refine .mA ?_
    refine .sA (.lenSl rfl et_146.ht rfl) ?_
    refine .sA (.neq rfl rfl rfl) ?_
    refine .mA ?_
    refine .split 26 rfl (fun g2 => ?_) (fun g2 => ?_)
    · replace g2 := of_decide_eq_true g2
      rw [List.length_map] at g2
      have HT := tk_un (r := (⟨done, cur⟩ : Rg)) p2 (.inl (used_no3 (by omega)))
      rw [HT]
      refine .pA ?_
      refine .pA ?_
      refine .pA ?_
      refine .pA ?_
      refine .sA (.pickT rfl rfl rfl) ?_
      refine .mA ?_
      refine .pA ?_
      refine .pA ?_
      refine .pA ?_
      refine .sA (.pickT rfl rfl rfl) (.nil ?_)
      refine .cond rfl (fun _ => ?_) (fun h => nomatch h)
      refine .sr ?_
      refine .aA ?_
      refine .aA (.nil ?_)
      refine .ret ?_
      exact ⟨⟨SLe.refl _, SLe.refl _⟩, mem_ob_eq (.head _) rfl, mem_ob_eq (.tail _ (.head _)) rfl, trivial⟩
    replace g2 := of_decide_eq_false g2
    rw [List.length_map] at g2
    obtain ⟨a, b, t, hw⟩ := three (l := (spk 32 2 (Lib.trimPrefix line.data.toList [32, 32]))) (by omega)
    obtain ⟨la, lb, lt⟩ := spk_l3 hw
    refine .sG (.moveD rfl rfl) ?_
    refine .sG (.indexAddr rfl et_146 rfl rfl 2 rfl (show ((spk 32 2 (Lib.trimPrefix line.data.toList [32, 32])).map pcD)[2]? = some (pcD t) by rw [hw]; rfl) rfl) ?_
    refine .sG (.load rfl sc_9 rfl) ?_
    refine .sG (.seql rfl rfl rfl) ?_
    refine .sA (.pickF rfl rfl rfl) ?_
    refine .mA ?_
    refine .split 32 rfl (fun g3 => ?_) (fun g3 => ?_)
    · replace g3 := of_decide_eq_true g3
      have HT := tk_un (r := (⟨done, cur⟩ : Rg)) p2 (.inl (used_e hw (strL_nil.1 g3)))
      rw [HT]
      refine .pA ?_
      refine .pA ?_
      refine .pA ?_
      refine .sA (.pickT rfl rfl rfl) (.nil ?_)
      refine .cond rfl (fun _ => ?_) (fun h => nomatch h)
      refine .sr ?_
      refine .aA ?_
      refine .aA (.nil ?_)
      refine .ret ?_
      exact ⟨⟨SLe.refl _, SLe.refl _⟩, mem_ob_eq (.head _) rfl, mem_ob_eq (.tail _ (.head _)) rfl, trivial⟩
    replace g3 := of_decide_eq_false g3
    have ht : ¬ t = [] := fun hh => g3 (strL_nil.2 hh)
    refine .sG (.moveO rfl rfl) ?_
    refine .sG (.weak (.lenOwn rfl et_22.ht rfl (Obs.weak_mem (.head _)))) ?_
    refine .sG (.eql rfl rfl rfl) ?_
    refine .sA (.pickF rfl rfl rfl) (.nil ?_)
    refine .cond rfl (fun h4 => ?_) (fun h4 => ?_)
    · replace h4 := of_decide_eq_true h4
      first
      | rw [HT]
      | (have HC : cur = none := by
           cases cur with
           | none => rfl
           | some x => (rw [List.length_map, rdO_len, List.length_map] at h4; simp at h4; omega)
         have HT := tk_un (r := (⟨done, cur⟩ : Rg)) p2 (.inr HC)
         rw [HT])
      refine .sr ?_
      refine .aA ?_
      refine .aA (.nil ?_)
      refine .ret ?_
      exact ⟨⟨SLe.refl _, SLe.refl _⟩, mem_ob_eq (.head _) rfl, mem_ob_eq (.tail _ (.head _)) rfl, trivial⟩
    replace h4 := of_decide_eq_false h4
    obtain ⟨x, rfl⟩ : ∃ x, cur = some x := by
      cases cur with
      | none => exact absurd (by rw [hop rfl]; rfl) h4
      | some x => exact ⟨x, rfl⟩
    have hd2 : done.length + 1 ≤ 300000 := by have := hd; rw [List.length_append] at this; exact this
    refine .skip ?_
    refine .sr ?_
    refine .mA ?_
    refine .sA (.sliceH rfl et_146 rfl rfl (by omega) (by rw [List.length_map, hw]; show (2 : Int) ≤ 3; decide) (fun y hy => by obtain ⟨z, _, rfl⟩ := List.mem_map.1 hy; rfl)) ?_
    rw [show ((spk 32 2 (Lib.trimPrefix line.data.toList [32, 32])).map pcD).take (2 : Int).toNat = [a, b].map pcD by rw [hw]; rfl]
    refine .sA (.call rfl (.cons (.rfl' rfl) .nil) (c_pNums [a, b] 200000 (fun y hy => by simp only [List.mem_cons, List.not_mem_nil, or_false] at hy; rcases hy with rfl | rfl <;> omega) (by decide) (by show 2 ≤ 1000000; decide))) ?_
    refine .mA ?_
    refine .sA (.extract rfl rfl rfl) ?_
    refine .sA (.extract rfl rfl rfl) ?_
    refine .aA ?_
    refine .aA (.nil ?_)
    refine .seq ?_
    refine .sr ?_
    refine .mA ?_
    refine .sA (.not rfl rfl) (.nil ?_)
    refine .cond rfl (fun h5 => ?_) (fun h5 => ?_)
    · replace h5 := bnot_t h5
      have HT := tk_un (r := ⟨done, some x⟩) p2 (.inl (used_n hw (nums2_no (by simpa using h5))))
      rw [HT]
      refine .sr ?_
      refine .aA ?_
      refine .aA (.nil ?_)
      refine .ret ?_
      exact ⟨⟨SLe.refl _, SLe.refl _⟩, mem_ob_eq (.head _) rfl, mem_ob_eq (.tail _ (.head _)) rfl, trivial⟩
    replace h5 := bnot_f h5
    obtain ⟨n, m, na, nb, nab⟩ := nums2 (i := a) (s := b) (by simpa using h5)
    have HT := tk_u (r := ⟨done, some x⟩) p2 (used_y hw ht na nb) rfl
    rw [HT, nab]
    refine .skip ?_
    refine .sr ?_
    refine .sA (.moveO rfl rfl) ?_
    refine .sA (.moveO rfl rfl) ?_
    refine .sA (.weak (.lenOwn rfl et_22.ht rfl (Obs.weak_mem (.head _)))) ?_
    refine .sA (.sub64 rfl rfl rfl (by rw [List.length_map, rdS_len]; omega) (by rw [List.length_map, rdS_len]; omega)) ?_
    refine .sA (.weak (.indexOwn rfl et_22 rfl rfl (Obs.weak_mem (.head _)) done.length (by rw [List.length_map, rdS_len]; omega) (by rw [List.length_map, rdS_len]; omega))) ?_
    refine .sA (.assignP rfl rfl) (.nil ?_)
    refine .seq ?_
    refine .drawLTailL 17 [] [⟨710, [66]⟩] [(16, [66])] (fun τ => (500, Ob.rowS 80 5 (rdRow done (lastS x))) ∈ τ) (by kernel_rfl) (by kernel_rfl) (by kernel_rfl) (by kernel_rfl) (by kernel_rfl) ?_
    refine .step rfl rfl rfl (.head _) (fun τ hτ => AOp.moveP rfl rfl) ?_ rfl ⟨.inr rfl, trivial⟩
    refine .step rfl rfl rfl (.head _) (fun τ hτ => AOp.moveP rfl rfl) ?_ rfl ⟨.inr rfl, trivial⟩
    refine .step rfl rfl rfl (.head _) (fun τ hτ => AOp.nilCheckP rfl rfl) ?_ rfl ⟨.inr rfl, trivial⟩
    refine .step rfl rfl rfl (.head _) (fun τ hτ => AOp.fieldAddrP rfl fo_80_4 rfl) ?_ rfl ⟨.inr rfl, trivial⟩
    refine .step rfl rfl rfl (.head _) (fun τ hτ => AOp.loadRowS rfl sc_78 rfl hτ done.length 4 rfl (rdRow_at _ _) rfl) ?_ rfl ⟨.inr rfl, trivial⟩
    refine .step rfl rfl rfl (.head _) (fun τ hτ => AOp.moveD rfl rfl) ?_ rfl ⟨.inr rfl, trivial⟩
    refine .step rfl rfl rfl (.head _) (fun τ hτ => AOp.indexAddr rfl et_146 rfl rfl 2 rfl (show ((spk 32 2 (Lib.trimPrefix line.data.toList [32, 32])).map pcD)[2]? = some (pcD t) by rw [hw]; rfl) rfl) ?_ rfl ⟨.inr rfl, trivial⟩
    refine .step rfl rfl rfl (.head _) (fun τ hτ => AOp.load rfl sc_9 rfl) ?_ rfl ⟨.inr rfl, trivial⟩
    refine .step rfl rfl rfl (.head _) (fun τ hτ => AOp.moveD rfl rfl) ?_ rfl ⟨.inr rfl, trivial⟩
    refine .step rfl rfl rfl (.head _) (fun τ hτ => AOp.indexAddr rfl et_37 rfl rfl 0 rfl rfl rfl) ?_ rfl ⟨.inr rfl, trivial⟩
    refine .step rfl rfl rfl (.head _) (fun τ hτ => AOp.load rfl sc_3 rfl) ?_ rfl ⟨.inr rfl, trivial⟩
    refine .step rfl rfl rfl (.head _) (fun τ hτ => AOp.moveD rfl rfl) ?_ rfl ⟨.inr rfl, trivial⟩
    refine .step rfl rfl rfl (.head _) (fun τ hτ => AOp.indexAddr rfl et_37 rfl rfl 1 rfl rfl rfl) ?_ rfl ⟨.inr rfl, trivial⟩
    refine .step rfl rfl rfl (.head _) (fun τ hτ => AOp.load rfl sc_3 rfl) ?_ rfl ⟨.inr rfl, trivial⟩
    refine .step rfl rfl rfl (.head _) (fun τ hτ => AOp.build rfl bu_75 (.cons rfl rfl (.cons rfl rfl (.cons rfl rfl .nil))) rfl) ?_ rfl ⟨.inr rfl, trivial⟩
    refine .step rfl rfl rfl (.head _) (fun τ hτ => AOp.buildSlice rfl et_78 (.cons rfl rfl rfl .nil) rfl (by decide)) ?_ rfl ⟨.inr rfl, trivial⟩
    refine .eff rfl rfl (.head _) (.tail _ (.head _)) (GE.appendN (σ' := [(710, .row 75 3 (x.lines.map Usd.ds ++ [[.v (.string (strL t)), .v (.int .i64 (n : Int)), .v (.int .i64 (m : Int))]])), (500, .rowS 80 5 (rdRow done (lastS x)))]) 710 (.head _) (fun t h1 => by simp [h1]) rfl rfl rfl rfl et_78 rfl (.tail _ (.head _)) rfl (fun y hy => by obtain rfl := List.mem_singleton.1 hy; rfl) (by simp [curL] at *; omega) (by simp [curL] at *; omega) rfl (by show [_, (500, Ob.rowS 80 5 ((rdRow done (lastS x)).map _))] = _; rw [rdRow_kill]; rfl)) ?_ clean1
    refine .nil ?_
    refine .sA (.nilCheckP rfl rfl) ?_
    refine .sA (.fieldAddrP rfl fo_80_4 rfl) ?_
    refine .eff rfl rfl (.storeRowS rfl rfl sz_78 rfl (.tail _ (.head _)) rfl (OneS.own (.head _)) done.length 4 rfl (rdRow_at _ _) (by decide)) (.nil ?_)
    refine .seq ?_
    refine .obsEq [(710, .row 75 3 ((x.lines ++ [(⟨strL t, (n : Int), (m : Int)⟩ : Usd)]).map Usd.ds)), (500, .rowS 80 5 (rdRow done [.d (.v (.string x.source)), .d (.v (.int .i64 x.no)), .d (.v (.int .i64 x.period)), .d (.v (.int .i64 x.corrects)), .own 710]))] (by show [_, (500, Ob.rowS 80 5 ((rdRow done _).set done.length _))] = _; rw [rdRow_set, List.map_append]; rfl) ?_
    refine .rename 710 700 [(700, .row 75 3 ((x.lines ++ [(⟨strL t, (n : Int), (m : Int)⟩ : Usd)]).map Usd.ds)), (500, .rowS 80 5 (rdRow done (lastS x)))] (by decide) rfl (fun p hp => by
        simp only [List.mem_cons, List.not_mem_nil, or_false] at hp
        rcases hp with rfl | rfl
        · exact .inl ⟨_, .head _, rfl, rfl⟩
        exact .inr ⟨_, .tail _ (.head _), Nat.ne_of_beq_eq_false rfl, Nat.ne_of_beq_eq_false rfl, by show (500, Ob.rowS 80 5 (rdRow done (lastS x))) = (500, Ob.rowS 80 5 ((rdRow done [.d (.v (.string x.source)), .d (.v (.int .i64 x.no)), .d (.v (.int .i64 x.period)), .d (.v (.int .i64 x.corrects)), .own 710]).map (fun ss => ss.map (S.ren 710 700)))); rw [rdRow_ren]; rfl⟩) ?_
    refine .region ?_
    refine .sA (.moveO rfl rfl) ?_
    refine .sA (.assignO rfl rfl) ?_
    refine .aA (.nil ?_)
    refine .ret ?_
    exact ⟨⟨SLe.refl _, SLe.refl _⟩, mem_ob_eq (.tail _ (.head _)) rfl, mem_ob_eq (.head _) rfl, trivial⟩
  have p2 : ¬ Lib.hasPrefix line.data.toList [32, 32] = true := by rw [h1]; decide
  refine .skip ?_
  refine .sr ?_
  refine .mA ?_
  -- wants the world
  refine .callTC rfl rfl rfl hT (.cons (.rfl' rfl) (.cons (.rfl' rfl) .nil)) (c_split line 32 (by omega)) ?_
  refine .aA (.nil ?_)
  refine .seq ?_
  refine .sr ?_
  refine .mA ?_
  refine .sA (.lenSl rfl et_146.ht rfl) ?_
  refine .sA (.neq rfl rfl rfl) ?_
  refine .mA ?_
  refine .split 75 rfl (fun g6 => ?_) (fun g6 => ?_)
  · replace g6 := of_decide_eq_true g6
    rw [List.length_map] at g6
    have HT := tk_hn (r := (⟨done, cur⟩ : Rg)) p2 (head_no4 (by omega))
    rw [HT]
    refine .pA ?_
    refine .pA ?_
    refine .pA ?_
    refine .pA ?_
    refine .sA (.pickT rfl rfl rfl) (.nil ?_)
    refine .cond rfl (fun _ => ?_) (fun h => nomatch h)
    refine .sr ?_
    refine .aA ?_
    refine .aA (.nil ?_)
    refine .ret ?_
    exact ⟨⟨SLe.refl _, SLe.refl _⟩, mem_ob_eq (.head _) rfl, mem_ob_eq (.tail _ (.head _)) rfl, trivial⟩
  replace g6 := of_decide_eq_false g6
  rw [List.length_map] at g6
  obtain ⟨s, a, b, c, hw⟩ := four (l := (spl 32 line.data.toList)) (by omega)
  obtain ⟨ls, la, lb, lc⟩ := spl_l4 hw
  refine .sG (.moveD rfl rfl) ?_
  refine .sG (.indexAddr rfl et_146 rfl rfl 0 rfl (show ((spl 32 line.data.toList).map pcD)[0]? = some (pcD s) by rw [hw]; rfl) rfl) ?_
  refine .sG (.load rfl sc_9 rfl) ?_
  refine .sG (.seql rfl rfl rfl) ?_
  refine .sA (.pickF rfl rfl rfl) (.nil ?_)
  refine .cond rfl (fun h7 => ?_) (fun h7 => ?_)
  · replace h7 := of_decide_eq_true h7
    first
    | rw [HT]
    | (have HT := tk_hn (r := (⟨done, cur⟩ : Rg)) p2 (head_e hw (strL_nil.1 h7))
       rw [HT])
    refine .sr ?_
    refine .aA ?_
    refine .aA (.nil ?_)
    refine .ret ?_
    exact ⟨⟨SLe.refl _, SLe.refl _⟩, mem_ob_eq (.head _) rfl, mem_ob_eq (.tail _ (.head _)) rfl, trivial⟩
  replace h7 := of_decide_eq_false h7
  have hs : ¬ s = [] := fun hh => h7 (strL_nil.2 hh)
  refine .skip ?_
  refine .sr ?_
  refine .mA ?_
  refine .sA (.sliceL rfl et_146 rfl rfl (by omega) (by rw [List.length_map, hw]; show (1 : Int) ≤ 4; decide) (fun y hy => by obtain ⟨z, _, rfl⟩ := List.mem_map.1 hy; rfl)) ?_
  rw [show ((spl 32 line.data.toList).map pcD).drop (1 : Int).toNat = [a, b, c].map pcD by rw [hw]; rfl]
  refine .sA (.call rfl (.cons (.rfl' rfl) .nil) (c_pNums [a, b, c] 200000 (fun y hy => by simp only [List.mem_cons, List.not_mem_nil, or_false] at hy; rcases hy with rfl | rfl | rfl <;> omega) (by decide) (by show 3 ≤ 1000000; decide))) ?_
  refine .mA ?_
  refine .sA (.extract rfl rfl rfl) ?_
  refine .sA (.extract rfl rfl rfl) ?_
  refine .aA ?_
  refine .aA (.nil ?_)
  refine .seq ?_
  refine .sr ?_
  refine .mA ?_
  refine .sA (.not rfl rfl) (.nil ?_)
  refine .cond rfl (fun h8 => ?_) (fun h8 => ?_)
  · replace h8 := bnot_t h8
    have HT := tk_hn (r := (⟨done, cur⟩ : Rg)) p2 (head_n hw (nums3_no (by simpa using h8)))
    rw [HT]
    refine .sr ?_
    refine .aA ?_
    refine .aA (.nil ?_)
    refine .ret ?_
    exact ⟨⟨SLe.refl _, SLe.refl _⟩, mem_ob_eq (.head _) rfl, mem_ob_eq (.tail _ (.head _)) rfl, trivial⟩
  replace h8 := bnot_f h8
  obtain ⟨u, v, z, nu, nv, nz, nuv⟩ := nums3 (i := a) (s := b) (t := c) (by simpa using h8)
  have HT := tk_h (r := (⟨done, cur⟩ : Rg)) p2 (head_y hw hs nu nv nz)
  rw [HT, nuv]
  refine .skip ?_
  refine .seq ?_
  refine .rdFreeze (done := done) (cur := cur) ?_ (fun p hp => hp)
  refine .drawTail 15 (by kernel_rfl) (by kernel_rfl) (by kernel_rfl) ?_
  refine .sA (.moveO rfl rfl) ?_
  refine .sA (.moveD rfl rfl) ?_
  refine .sA (.indexAddr rfl et_146 rfl rfl 0 rfl (show ((spl 32 line.data.toList).map pcD)[0]? = some (pcD s) by rw [hw]; rfl) rfl) ?_
  refine .sA (.load rfl sc_9 rfl) ?_
  refine .sA (.moveD rfl rfl) ?_
  refine .sA (.indexAddr rfl et_37 rfl rfl 0 rfl rfl rfl) ?_
  refine .sA (.load rfl sc_3 rfl) ?_
  refine .sA (.moveD rfl rfl) ?_
  refine .sA (.indexAddr rfl et_37 rfl rfl 1 rfl rfl rfl) ?_
  refine .sA (.load rfl sc_3 rfl) ?_
  refine .sA (.moveD rfl rfl) ?_
  refine .sA (.indexAddr rfl et_37 rfl rfl 2 rfl rfl rfl) ?_
  refine .sA (.load rfl sc_3 rfl) ?_
  refine .sA (.build rfl bu_80 (.cons rfl rfl (.cons rfl rfl (.cons rfl rfl (.cons rfl rfl .nil)))) rfl) ?_
  refine .sA (.buildSlice rfl et_22 (.cons rfl rfl rfl .nil) rfl (by decide)) ?_
  refine .nil ?_
  -- append 104
  refine .append rfl rfl rfl rfl et_22 rfl (.head _) rfl (fun y hy => by obtain rfl := List.mem_singleton.1 hy; rfl) (by simp at hd ⊢; omega) (by simp at hd ⊢; omega) ?_
  refine .sA (.assignO rfl rfl) ?_
  refine .aA (.nil ?_)
  refine .adoptRow 700 75 3 500 (done ++ cur.toList).length 4 (.head _) (adopt_at _ _) rfl rfl ?_
  refine .obsEq [(700, .row 75 3 []), (500, .rowS 80 5 (rdRow (done ++ cur.toList) (lastS ⟨strL s, (u : Int), (v : Int), (z : Int), []⟩)))] (by rw [← adopt_eq]; rfl) ?_
  refine .ret ?_
  exact ⟨⟨SLe.refl _, SLe.refl _⟩, mem_ob_eq (.tail _ (.head _)) rfl, mem_ob_eq (.head _) rfl, trivial⟩

end Go.Proofs.YtcfamaddnmnaeaaGreatDoor

namespace Go.Proofs.YtcfamaddnmnaeaaGreatDoor
open Go.RowKit
set_option linter.unusedVariables false

/-! Types. -/
namespace TyDD
end TyDD
open TyF0 TyF1 TyF2 TyF3 TyF4 TyF5 TyF6 TyF7 TyF8 TyF9 TyF10 TyF11 TyG1 TyG2 TyG5 TyU1 TyU2 TyU3 TyU4 TyM1 TyM2 TyM3 TyDA TyDK TyDM TyDB TyDC TyDD

theorem c_cutL (l : List UInt8) (c : UInt8) (hs : l.length < 4294967281) : ACallT Tryz.prog MaxT 27 [.v (.string (strL l)), .v (.string ⟨#[c]⟩)]
  (.tup [.v (.string (strL (Lib.cut l [c]).1)), .v (.string (strL (Lib.cut l [c]).2.1)), .v (.bool (Lib.cut l [c]).2.2)]) := c_cutA (strL l) c (by rw [strL_size]; exact hs)

set_option linter.unusedSimpArgs false
def lnX (l : List UInt8) : List UInt8 := ((ct 10 l).map Prod.fst).getD l
def lnR (l : List UInt8) : List UInt8 := ((ct 10 l).map Prod.snd).getD []
theorem c_cutN (l : List UInt8) (hs : l.length < 4294967281) : ACallT Tryz.prog MaxT 27 [.v (.string (strL l)), .v (.string ⟨#[10]⟩)] (.tup [.v (.string (strL (lnX l))), .v (.string (strL (lnR l))), .v (.bool (ct 10 l).isSome)]) := by
 have h := c_cutL l 10 hs
 rw [cut_ct] at h
 unfold lnX lnR
 cases hc : ct 10 l with
 | none => rw [hc] at h; exact h
 | some p => rw [hc] at h; exact h
section
variable {r : Rg} {l t : List UInt8} {i : Int}
theorem lnX_len (l : List UInt8) : (lnX l).length ≤ l.length := by
  unfold lnX
  cases h : ct 10 l with
  | none => exact Nat.le_refl _
  | some p => have := ct_lt h; show p.1.length ≤ _; omega
theorem readV_l (h : 200000 < t.length) : readV t = ([], 0, 2) := if_pos h
theorem readV_bad (h0 : ¬ 200000 < t.length) (h : readA rg0 t 1 = (r, i)) (hi : i ≠ 0) : readV t = ([], i, 10) := by
  unfold readV
  rw [if_neg h0, h, if_pos hi]
theorem readV_chk (h0 : ¬ 200000 < t.length) (h : readA rg0 t 1 = (r, 0)) (hc : logF r.all ≠ 0) : readV t = ([], 0, logF r.all) := by
  unfold readV
  rw [if_neg h0, h, if_neg (fun hh => hh rfl), if_pos hc]
theorem readV_ok (h0 : ¬ 200000 < t.length) (h : readA rg0 t 1 = (r, 0)) (hc : logF r.all = 0) : readV t = (r.all, 0, 0) := by
  unfold readV
  rw [if_neg h0, h, if_neg (fun hh => hh rfl), if_neg (fun hh => hh hc)]
theorem RgOk.cs {c : Nat} (h : RgOk r c) : (curL r.cur).length ≤ c := by
  cases hc : r.cur with
  | none => exact Nat.zero_le _
  | some x => exact (h.rpt x (by unfold Rg.all; rw [hc]; simp)).2.1
end

set_option maxRecDepth 100000 in
set_option maxHeartbeats 4000000 in
theorem c_pRead (s : ByteArray) : ACallT Tryz.prog MaxT 8 [.v (.string s)] (.tup [.sl ((readV s.data.toList).1.map Rpt.ds), .v (.int .i64 (readV s.data.toList).2.1), .v (.int .i64 (readV s.data.toList).2.2)]) := by
  refine acall_ofT (n := 42) (ds' := [.sl ((readV s.data.toList).1.map Rpt.ds), .v (.int .i64 (readV s.data.toList).2.1), .v (.int .i64 (readV s.data.toList).2.2)]) Tryz.func8 rfl (by kernel_rfl) rfl [2, 3, 4] rfl rfl ?_
  intro B w0 F0 hT
  have hsl := Lib.size_eq s
  refine .sr ?_
  refine .aA ?_
  refine .aA ?_
  refine .aA (.nil ?_)
  refine .seq ?_
  refine .sr ?_
  refine .mA ?_
  refine .sA (.lenStr rfl st_9 rfl) ?_
  refine .sA (.gtr rfl rfl rfl) (.nil ?_)
  refine .cond rfl (fun h1 => ?_) (fun h1 => ?_)
  · replace h1 := of_decide_eq_true h1
    rw [readV_l (by omega)]
    refine .sr ?_
    refine .aA ?_
    refine .aA ?_
    refine .aA (.nil ?_)
    refine .ret ?_
    refine ⟨RetD.nil rfl, RetD.eq rfl ?_, RetD.eq rfl ?_, trivial⟩
    all_goals (first | rfl | simp)
  replace h1 := of_decide_eq_false h1
  have h0 : ¬ 200000 < s.data.toList.length := by omega
  refine .skip ?_
  refine .sr ?_
  refine .sA (.assign rfl) (.nil ?_)
  refine .seq ?_
  refine .seq ?_
  refine .adopt 5 500 80 5 rfl rfl ?_
  refine .rowToS 500 (.head _) ?_
  refine .adopt 2 700 75 3 rfl rfl ?_
  refine .obs (σ' := rdObs rg0) (fun p hp => by
    simp only [rdObs, List.mem_cons, List.not_mem_nil, or_false] at hp
    rcases hp with rfl | rfl
    · exact .tail _ (.head _)
    exact .head _) ?_
  refine .region ?_
  refine .aA (.nil ?_)
  refine .block ?_
  refine .loop (G := List UInt8 × Rg × Nat) (fun ⟨y, r, n⟩ => Env.of [(0, .d (.v (.string (strL y)))), (6, .d (.v (.int .i64 ((n : Int) + 1)))), (5, .own 500)]) (fun ⟨y, r, n⟩ => (rdObs r)) (fun ⟨y, r, n⟩ => readA rg0 s.data.toList 1 = readA r y ((n : Int) + 1) ∧ RgOk r (s.size - y.length) ∧ y.length ≤ s.size ∧ n + y.length ≤ s.size) (fun ⟨y, r, n⟩ => y.length) (s.data.toList, rg0, 0) ⟨rfl, rgOk_0 _, by show s.data.toList.length ≤ _; omega, by show 0 + s.data.toList.length ≤ _; omega⟩ (Sub.less ⟨(SLe.of_eq rfl), (SLe.of_eq rfl), SLe.refl _, trivial⟩ (fun _ h => h)) ?_
  rintro ⟨y, r, n⟩ ⟨hR, HO, hy1, hy2⟩
  try dsimp only at hR HO hy1 hy2
  refine .seq ?_
  refine .sr ?_
  refine .mA ?_
  refine .sA (.sneq rfl rfl rfl) (.nil ?_)
  refine .cond rfl (fun h2 => ?_) (fun h2 => ?_)
  · replace h2 := of_decide_eq_true h2
    have hy : y ≠ [] := fun hh => h2 (strL_nil.2 hh)
    have hal := HO.len
    have hcl := HO.cs
    have hxl := lnX_len y
    refine .skip ?_
    refine .seq ?_
    refine .block ?_
    refine .sr ?_
    refine .mA ?_
    -- wants the world
    refine .callT rfl rfl rfl hT maxT_stays rfl (.cons (.rfl' rfl) (.cons (.rfl' rfl) .nil)) (c_cutN y (by omega)) ?_
    refine .mA ?_
    refine .sA (.extract rfl rfl rfl) ?_
    refine .sA (.extract rfl rfl rfl) ?_
    refine .sA (.extract rfl rfl rfl) ?_
    refine .aA ?_
    refine .aA ?_
    refine .aA (.nil ?_)
    refine .sr ?_
    refine .aA (.nil ?_)
    refine .seq ?_
    refine .sr ?_
    refine .mA (.nil ?_)
    refine .cond rfl (fun h3 => ?_) (fun h3 => ?_)
    · skip
      obtain ⟨⟨x, z⟩, hct⟩ : ∃ p, ct 10 y = some p := Option.isSome_iff_exists.1 (by simpa using h3)
      have hX : lnX y = x := by unfold lnX; rw [hct]; rfl
      have hZ : lnR y = z := by unfold lnR; rw [hct]; rfl
      have hln := ct_lt hct
      try dsimp only at hln
      rw [hX, hZ]
      refine .region ?_
      refine .sA (.moveO rfl rfl) ?_
      refine .mA ?_
      refine .callX2T rfl rfl rfl rfl (TC.of maxT_at hT) (.cons (SLe.refl _) (.cons (SLe.refl _) .nil)) (c_pLine r.done r.cur (strL x) (by rw [strL_size]; omega) (by show r.all.length ≤ _; omega) (by omega) HO.op) ⟨(.head _), (.tail _ (.head _)), trivial⟩ rfl rfl (fun _ h => rfl) rfl rfl rfl rfl rfl rfl rfl rfl rfl rfl rfl rfl rfl ?_
      skip
      skip
      skip
      refine .sA (.assign rfl) ?_
      refine .aA (.nil ?_)
      refine .seq ?_
      refine .sr ?_
      refine .mA ?_
      refine .sA (.not rfl rfl) (.nil ?_)
      refine .cond rfl (fun h4 => ?_) (fun h4 => ?_)
      · replace h4 := bnot_t h4
        have hz : takeV (⟨r.done, r.cur⟩ : Rg) (strL x).data.toList = none := by simpa using h4
        have hn : takeV r x = none := hz
        have HV := readV_bad h0 (hR.trans (readA_bad hy (.inr ⟨_, hct, hn⟩))) (by omega)
        rw [HV]
        refine .sr ?_
        refine .mA ?_
        refine .aA ?_
        refine .aA ?_
        refine .aA (.nil ?_)
        refine .ret ?_
        refine ⟨RetD.nil rfl, RetD.eq rfl ?_, RetD.eq rfl ?_, trivial⟩
        all_goals (first | rfl | simp)
      replace h4 := bnot_f h4
      obtain ⟨r2, HN⟩ : ∃ r2, takeV (⟨r.done, r.cur⟩ : Rg) (strL x).data.toList = some r2 := Option.isSome_iff_exists.1 (by simpa using h4)
      have hr2 : takeV r x = some r2 := HN
      rw [HN]
      have HO2 := (takeV_ok HO hr2).mono (c' := s.size - z.length) (by omega)
      have HA := hR.trans (readA_next hct hr2)
      refine .skip ?_
      refine .region ?_
      refine .mA ?_
      refine .aA (.nil ?_)
      refine .region ?_
      refine .mA ?_
      refine .sA (.add64 rfl rfl rfl (by omega) (by omega)) ?_
      refine .aA (.nil ?_)
      refine ⟨(z, r2, n + 1), ⟨by show _ = readA r2 z (((n + 1 : Nat) : Int) + 1); rw [show ((n + 1 : Nat) : Int) + 1 = (n : Int) + 1 + 1 by omega]; exact HA, HO2, by show z.length ≤ _; omega, by show n + 1 + z.length ≤ _; omega⟩, (by dsimp only; omega), Sub.less ⟨(SLe.of_eq rfl), (SLe.of_eq (by congr 1)), SLe.refl _, trivial⟩ (fun _ h => h)⟩
    have hct : ct 10 y = none := by
      cases hh : ct 10 y with
      | none => rfl
      | some v => rw [hh] at h3; cases h3
    have HV := readV_bad h0 (hR.trans (readA_bad hy (.inl hct))) (by omega)
    rw [HV]
    refine .skip ?_
    refine .seq ?_
    refine .sr ?_
    refine .mA ?_
    refine .sA (.not rfl rfl) (.nil ?_)
    refine .cond rfl (fun _ => ?_) (fun h => nomatch h)
    refine .sr ?_
    refine .mA ?_
    refine .aA ?_
    refine .aA ?_
    refine .aA (.nil ?_)
    refine .ret ?_
    refine ⟨RetD.nil rfl, RetD.eq rfl ?_, RetD.eq rfl ?_, trivial⟩
    all_goals (first | rfl | simp)
  replace h2 := of_decide_eq_false h2
  have hy : y = [] := strL_nil.1 (by first | exact h2 | exact Decidable.not_not.1 h2)
  subst hy
  rw [readA_nil] at hR
  refine .exit ?_
  refine .seq ?_
  refine .seq ?_
  refine .rdFreeze (done := r.done) (cur := r.cur) ?_ (fun p hp => hp)
  refine .region ?_
  refine .freeze 5 rfl (.head _) ?_
  refine .mA ?_
  -- wants the world
  refine .callT rfl rfl rfl hT maxT_stays rfl (.cons (.rfl' rfl) .nil) (c_pLog r.all (HO.okr (by omega))) ?_
  refine .aA (.nil ?_)
  refine .sr ?_
  refine .mA ?_
  refine .sA (.neq rfl rfl rfl) (.nil ?_)
  refine .cond rfl (fun h5 => ?_) (fun h5 => ?_)
  · replace h5 := of_decide_eq_true h5
    rw [readV_chk h0 hR h5]
    refine .sr ?_
    refine .mA ?_
    refine .aA ?_
    refine .aA ?_
    refine .aA (.nil ?_)
    refine .ret ?_
    refine ⟨RetD.nil rfl, RetD.eq rfl ?_, RetD.eq rfl ?_, trivial⟩
    all_goals (first | rfl | simp)
  replace h5 := of_decide_eq_false h5
  rw [readV_ok h0 hR (by first | exact h5 | exact Decidable.not_not.1 h5)]
  refine .skip ?_
  refine .sr ?_
  refine .mA ?_
  refine .aA ?_
  refine .aA ?_
  refine .aA (.nil ?_)
  refine .ret ?_
  refine ⟨RetD.eq rfl ?_, RetD.eq rfl ?_, RetD.eq rfl ?_, trivial⟩
  all_goals (first | rfl | simp)

end Go.Proofs.YtcfamaddnmnaeaaGreatDoor

namespace Go.Proofs.YtcfamaddnmnaeaaGreatDoor
open Go.RowKit
set_option linter.unusedVariables false

/-! Types. -/
namespace TyDE
end TyDE
open TyF0 TyF1 TyF2 TyF3 TyF4 TyF5 TyF6 TyF7 TyF8 TyF9 TyF10 TyF11 TyG1 TyG2 TyG5 TyU1 TyU2 TyU3 TyU4 TyM1 TyM2 TyM3 TyDA TyDK TyDM TyDB TyDC TyDD TyDE

set_option linter.unusedSimpArgs false
def numI (w : List UInt8) : Int := (((numT w).getD 0 : Nat) : Int)
def uZ : Usd := ⟨⟨#[]⟩, 0, 0⟩
def rZ : Rpt := ⟨⟨#[]⟩, 0, 0, 0, []⟩
def refU (l : List UInt8) : Usd := match spk 32 2 l with
  | [a, b, t] => if t = [] then uZ else ⟨strL t, numI a, numI b⟩
  | _ => uZ
def refH (l : List UInt8) : Rpt := match spl 32 l with
  | [s, a, b, c] => if s = [] then rZ else ⟨strL s, numI a, numI b, numI c, []⟩
  | _ => rZ
def rhD (x : Rpt) : List D := newD x.source x.no x.period x.corrects
end Go.Proofs.YtcfamaddnmnaeaaGreatDoor

namespace Go.Proofs.YtcfamaddnmnaeaaGreatDoor
open Go.RowKit
set_option linter.unusedVariables false

/-! Types. -/
namespace TyDF
end TyDF
open TyF0 TyF1 TyF2 TyF3 TyF4 TyF5 TyF6 TyF7 TyF8 TyF9 TyF10 TyF11 TyG1 TyG2 TyG5 TyU1 TyU2 TyU3 TyU4 TyM1 TyM2 TyM3 TyDA TyDK TyDM TyDB TyDC TyDD TyDE TyDF

set_option linter.unusedSimpArgs false
end Go.Proofs.YtcfamaddnmnaeaaGreatDoor

namespace Go.Proofs.YtcfamaddnmnaeaaGreatDoor
open Go.RowKit
set_option linter.unusedVariables false

/-! Types. -/
namespace TyDN
end TyDN
open TyF0 TyF1 TyF2 TyF3 TyF4 TyF5 TyF6 TyF7 TyF8 TyF9 TyF10 TyF11 TyG1 TyG2 TyG5 TyU1 TyU2 TyU3 TyU4 TyM1 TyM2 TyM3 TyDA TyDK TyDM TyDB TyDC TyDD TyDE TyDF TyDN

open Go.Lib
set_option linter.unusedSimpArgs false
section
variable {P : Program} {B : Nat} {ops : Array Oper} {o : Oper} {e : Env} {σ : Obs}
theorem AOp.cat {t ty : TypeId} {x y : Operand} {a b : ByteArray} (ho : o.op = .binOp .add t x y ty) (hx : e.ev x = .d (.v (.string a))) (hy : e.ev y = .d (.v (.string b))) (hl : a.size + b.size ≤ 9223372036854775807) :
    AOp P B ops o e σ (.d (.v (.string (a ++ b)))) :=
  .bin ho hx hy fun w => by
    rw [Sem.run_bind, eqGuard_str]
    exact run_string_add_sum (P := P) (w := w) a b hl
end
theorem obs_fix2 {X Y : Ob} (t : List UInt8) : Obs.del 102 (Obs.upd 102 X ((102, Y) :: Obs.kill 102 (Bld 901 801 t))) = Bld 901 801 t := by cases t <;> rfl

def hB (x : Rpt) : ByteArray := x.source ++ ⟨#[32]⟩ ++ strL (dcL x.no) ++ ⟨#[32]⟩ ++ strL (dcL x.period) ++ ⟨#[32]⟩ ++ strL (dcL x.corrects) ++ ⟨#[10]⟩
def uB (u : Usd) : ByteArray := (⟨#[32, 32]⟩ : ByteArray) ++ strL (dcL u.units) ++ ⟨#[32]⟩ ++ strL (dcL u.money) ++ ⟨#[32]⟩ ++ u.title ++ ⟨#[10]⟩
theorem hB_list (x : Rpt) : (hB x).data.toList = hLine x ++ [10] := by
  unfold hB hLine
  simp [ba_app, strL_list]
theorem uB_list (u : Usd) : (uB u).data.toList = uLine u ++ [10] := by
  unfold uB uLine
  simp [ba_app, strL_list]
theorem hB_size (x : Rpt) : (hB x).size = (hLine x).length + 1 := by rw [Lib.size_eq, hB_list, List.length_append]; rfl
theorem uB_size (u : Usd) : (uB u).size = (uLine u).length + 1 := by rw [Lib.size_eq, uB_list, List.length_append]; rfl
/-- The text behind a report's first line and i of its lines. -/
def rU (l : List Rpt) (k i : Nat) (h : k < l.length) : List UInt8 := rT l k ++ (hLine l[k] ++ [10]) ++ uT l[k] i
theorem rU_0 {l : List Rpt} {k : Nat} (h : k < l.length) : rT l k ++ (hB l[k]).data.toList = rU l k 0 h := by unfold rU; rw [uT_0, List.append_nil, hB_list]
theorem rU_next {l : List Rpt} {k i : Nat} (h : k < l.length) (hi : i < l[k].lines.length) : rU l k i h ++ (uB l[k].lines[i]).data.toList = rU l k (i + 1) h := by unfold rU; rw [uT_next hi, uB_list, List.append_assoc, List.append_assoc]
theorem rU_end {l : List Rpt} {k : Nat} (h : k < l.length) : rU l k l[k].lines.length h = rT l (k + 1) := by unfold rU; rw [rT_next h]

set_option maxRecDepth 100000 in
set_option maxHeartbeats 4000000 in
theorem c_pText (l : List Rpt) (hl : ∀ x ∈ l, okRpt x) : ACallT Tryz.prog TBM 12 [.sl (l.map Rpt.ds)] (.tup [.v (.string (textV l).1), .v (.int .i64 (textV l).2)]) := by
  refine acall_ofT (n := 67) (ds' := [.v (.string (textV l).1), .v (.int .i64 (textV l).2)]) Tryz.func12 rfl (by kernel_rfl) rfl [2, 3] rfl rfl ?_
  intro B w0 F0 hT
  refine .sr ?_
  refine .aA ?_
  refine .aA (.nil ?_)
  refine .seq ?_
  refine .sr ?_
  refine .mA ?_
  -- wants the world
  refine .callT rfl rfl rfl hT tbm_stays rfl (.cons (.rfl' rfl) .nil) (c_pLog l hl).max ?_
  refine .aA (.nil ?_)
  refine .sr ?_
  refine .mA ?_
  refine .sA (.neq rfl rfl rfl) (.nil ?_)
  refine .cond rfl (fun h1 => ?_) (fun h1 => ?_)
  · replace h1 := of_decide_eq_true h1
    rw [textV_c h1]
    refine .sr ?_
    refine .mA ?_
    refine .aA ?_
    refine .aA (.nil ?_)
    refine .ret ?_
    refine ⟨RetD.eq rfl ?_, RetD.eq rfl ?_, trivial⟩
    all_goals (rfl)
  replace h1 := of_decide_eq_false h1
  have h0 : logF l = 0 := Decidable.not_not.1 h1
  have hln := (log_ok h0).1
  have hr : ∀ x ∈ l, ROk x ∧ RSz x := fun x hx => ⟨rOk_of ((log_ok h0).2 x hx), rsz_of ((log_ok h0).2 x hx)⟩
  refine .skip ?_
  refine .sr ?_
  refine .allocB 901 801 (by decide) rfl rfl rfl rfl rfl rfl rfl ?_
  refine .nil ?_
  refine .seq ?_
  refine .sr ?_
  refine .mA ?_
  refine .sA (.lenSl rfl et_22.ht rfl) ?_
  refine .mA (.nil ?_)
  refine .block ?_
  refine .loop (G := Nat) (fun k => Env.of [(17, .d (.v (.int .i64 (k : Int)))), (15, .d (.sl (l.map Rpt.ds))), (16, .d (.v (.int .i64 ((l.map Rpt.ds).length : Int)))), (5, .ptr 901 0)]) (fun k => (Bld 901 801 (rT l k))) (fun k => k ≤ l.length ∧ (rT l k).length ≤ 200000) (fun k => l.length - k) 0 ⟨Nat.zero_le _, by rw [rT_0]; decide⟩ (Sub.less ⟨(SLe.of_eq rfl), SLe.refl _, SLe.refl _, SLe.refl _, trivial⟩ (bld_same (rT_0 l).symm)) ?_
  intro k hk
  refine .sr ?_
  refine .sA (.lss rfl rfl rfl) (.nil ?_)
  refine .seq ?_
  refine .cond rfl (fun h2 => ?_) (fun h2 => ?_)
  · replace h2 := of_decide_eq_true h2
    rw [List.length_map] at h2
    have hlt : k < l.length := by omega
    obtain ⟨hrk, hzk⟩ := hr _ (List.getElem_mem hlt)
    have hRT := rT_len hr k hk.1
    have hhl := hLine_len hrk hzk
    have hn1 := dc_len hrk.no
    have hn2 := dc_len hrk.period
    have hn3 := dc_len hrk.corrects
    have hss := hzk.source
    have hlc := hzk.lines
    refine .skip ?_
    refine .seq ?_
    refine .block ?_
    refine .sr ?_
    refine .sA (.indexAddr rfl et_22 rfl rfl k rfl (at_lst hlt) rfl) ?_
    refine .sA (.loadAgg rfl ag_80 rfl rfl) ?_
    refine .alloc 101 rfl rfl rfl rfl zt_80 rfl rfl rfl ?_
    refine .store rfl rfl rfl sz_80 rfl (.head _) rfl rfl rfl (Nat.le_of_ble_eq_true rfl) ?_
    refine .freezeCells 7 (ds := l[k].ds) rfl (.head _) (.nil ?_)
    refine .seq ?_
    refine .obsEq _ (obs_fix _) ?_
    refine .drawTailK 18 (by kernel_rfl) (by kernel_rfl) (by kernel_rfl) ?_
    refine .step rfl rfl rfl (AOp.toK (.fieldAddr rfl fo_80_0 rfl)) ?_
    refine .step rfl rfl rfl (AOp.toK (.load rfl sc_9 rfl)) ?_
    refine .step rfl rfl rfl (AOp.toK (.cat rfl rfl rfl (by (try simp only [ByteArray.size_append, strL_size, szMk, List.size_toArray, List.length_cons, List.length_nil]); omega))) ?_
    refine .step rfl rfl rfl (AOp.toK (.fieldAddr rfl fo_80_1 rfl)) ?_
    refine .step rfl rfl rfl (AOp.toK (.load rfl sc_3 rfl)) ?_
    refine .step rfl rfl rfl (AOpK.callT tbm_stays rfl hT rfl (.cons (.rfl' rfl) .nil) (c_itoaL l[k].no hrk.no)) ?_
    refine .step rfl rfl rfl (AOp.toK (.cat rfl rfl rfl (by (try simp only [ByteArray.size_append, strL_size, szMk, List.size_toArray, List.length_cons, List.length_nil]); omega))) ?_
    refine .step rfl rfl rfl (AOp.toK (.cat rfl rfl rfl (by (try simp only [ByteArray.size_append, strL_size, szMk, List.size_toArray, List.length_cons, List.length_nil]); omega))) ?_
    refine .step rfl rfl rfl (AOp.toK (.fieldAddr rfl fo_80_2 rfl)) ?_
    refine .step rfl rfl rfl (AOp.toK (.load rfl sc_3 rfl)) ?_
    refine .step rfl rfl rfl (AOpK.callT tbm_stays rfl hT rfl (.cons (.rfl' rfl) .nil) (c_itoaL l[k].period hrk.period)) ?_
    refine .step rfl rfl rfl (AOp.toK (.cat rfl rfl rfl (by (try simp only [ByteArray.size_append, strL_size, szMk, List.size_toArray, List.length_cons, List.length_nil]); omega))) ?_
    refine .step rfl rfl rfl (AOp.toK (.cat rfl rfl rfl (by (try simp only [ByteArray.size_append, strL_size, szMk, List.size_toArray, List.length_cons, List.length_nil]); omega))) ?_
    refine .step rfl rfl rfl (AOp.toK (.fieldAddr rfl fo_80_3 rfl)) ?_
    refine .step rfl rfl rfl (AOp.toK (.load rfl sc_3 rfl)) ?_
    refine .step rfl rfl rfl (AOpK.callT tbm_stays rfl hT rfl (.cons (.rfl' rfl) .nil) (c_itoaL l[k].corrects hrk.corrects)) ?_
    refine .step rfl rfl rfl (AOp.toK (.cat rfl rfl rfl (by (try simp only [ByteArray.size_append, strL_size, szMk, List.size_toArray, List.length_cons, List.length_nil]); omega))) ?_
    refine .step rfl rfl rfl (AOp.toK (.cat rfl rfl rfl (by (try simp only [ByteArray.size_append, strL_size, szMk, List.size_toArray, List.length_cons, List.length_nil]); omega))) ?_
    refine .nil ?_
    -- writes 901 801
    refine .callX rfl rfl rfl (.cons (SLe.refl _) (.cons (SLe.refl _) .nil)) (c_ws 901 801 (by decide) (rT l k) (hB l[k]) (by rw [hB_size]; omega) (by rw [hB_size]; omega)) ⟨(.head _), (.tail _ (.head _)), trivial⟩ rfl rfl (fun _ h => rfl) ?_
    refine .nil ?_
    refine .seq ?_
    refine .sr ?_
    refine .sA (.fieldAddr rfl fo_80_4 rfl) ?_
    refine .sA (.load rfl sc_78 rfl) ?_
    refine .sA (.lenSl rfl et_78.ht rfl) ?_
    refine .mA (.nil ?_)
    refine .block ?_
    refine .loop (G := Nat) (fun i => Env.of [(43, .d (.v (.int .i64 (i : Int)))), (41, .d (.sl (l[k].lines.map Usd.ds))), (42, .d (.v (.int .i64 ((l[k].lines.map Usd.ds).length : Int)))), (17, .d (.v (.int .i64 (k : Int)))), (15, .d (.sl (l.map Rpt.ds))), (16, .d (.v (.int .i64 ((l.map Rpt.ds).length : Int)))), (5, .ptr 901 0)]) (fun i => (Bld 901 801 (rU l k i hlt))) (fun i => i ≤ l[k].lines.length) (fun i => l[k].lines.length - i) 0 (Nat.zero_le _) (Sub.less ⟨(SLe.of_eq rfl), SLe.refl _, SLe.refl _, SLe.refl _, SLe.refl _, SLe.refl _, SLe.refl _, trivial⟩ (bld_same (rU_0 hlt))) ?_
    intro i hi
    refine .sr ?_
    refine .sA (.lss rfl rfl rfl) (.nil ?_)
    refine .seq ?_
    refine .cond rfl (fun h3 => ?_) (fun h3 => ?_)
    · replace h3 := of_decide_eq_true h3
      rw [List.length_map] at h3
      have hil : i < l[k].lines.length := by omega
      have huk := hrk.lines _ (List.getElem_mem hil)
      have htz := hzk.titles _ (List.getElem_mem hil)
      have hul := uLine_len huk htz
      have hut := uT_len hrk hzk i (by omega)
      have hm1 := dc_len huk.units
      have hm2 := dc_len huk.money
      have hrl : (rU l k i hlt).length = (rT l k).length + ((hLine l[k]).length + 1) + (uT l[k] i).length := by unfold rU; rw [List.length_append, List.length_append, List.length_append]; rfl
      refine .skip ?_
      refine .seq ?_
      refine .block ?_
      refine .sr ?_
      refine .sA (.indexAddr rfl et_78 rfl rfl i rfl (at_lst hil) rfl) ?_
      refine .sA (.loadAgg rfl ag_75 rfl rfl) ?_
      refine .alloc 102 rfl rfl rfl rfl zt_75 rfl rfl rfl ?_
      refine .store rfl rfl rfl sz_75 rfl (.head _) rfl rfl rfl (Nat.le_of_ble_eq_true rfl) ?_
      refine .freezeCells 9 (ds := l[k].lines[i].ds) rfl (.head _) (.nil ?_)
      refine .obsEq _ (obs_fix2 _) ?_
      refine .drawTailK 14 (by kernel_rfl) (by kernel_rfl) (by kernel_rfl) ?_
      refine .step rfl rfl rfl (AOp.toK (.fieldAddr rfl fo_75_1 rfl)) ?_
      refine .step rfl rfl rfl (AOp.toK (.load rfl sc_3 rfl)) ?_
      refine .step rfl rfl rfl (AOpK.callT tbm_stays rfl hT rfl (.cons (.rfl' rfl) .nil) (c_itoaL l[k].lines[i].units huk.units)) ?_
      refine .step rfl rfl rfl (AOp.toK (.cat rfl rfl rfl (by (try simp only [ByteArray.size_append, strL_size, szMk, List.size_toArray, List.length_cons, List.length_nil]); omega))) ?_
      refine .step rfl rfl rfl (AOp.toK (.cat rfl rfl rfl (by (try simp only [ByteArray.size_append, strL_size, szMk, List.size_toArray, List.length_cons, List.length_nil]); omega))) ?_
      refine .step rfl rfl rfl (AOp.toK (.fieldAddr rfl fo_75_2 rfl)) ?_
      refine .step rfl rfl rfl (AOp.toK (.load rfl sc_3 rfl)) ?_
      refine .step rfl rfl rfl (AOpK.callT tbm_stays rfl hT rfl (.cons (.rfl' rfl) .nil) (c_itoaL l[k].lines[i].money huk.money)) ?_
      refine .step rfl rfl rfl (AOp.toK (.cat rfl rfl rfl (by (try simp only [ByteArray.size_append, strL_size, szMk, List.size_toArray, List.length_cons, List.length_nil]); omega))) ?_
      refine .step rfl rfl rfl (AOp.toK (.cat rfl rfl rfl (by (try simp only [ByteArray.size_append, strL_size, szMk, List.size_toArray, List.length_cons, List.length_nil]); omega))) ?_
      refine .step rfl rfl rfl (AOp.toK (.fieldAddr rfl fo_75_0 rfl)) ?_
      refine .step rfl rfl rfl (AOp.toK (.load rfl sc_9 rfl)) ?_
      refine .step rfl rfl rfl (AOp.toK (.cat rfl rfl rfl (by (try simp only [ByteArray.size_append, strL_size, szMk, List.size_toArray, List.length_cons, List.length_nil]); omega))) ?_
      refine .step rfl rfl rfl (AOp.toK (.cat rfl rfl rfl (by (try simp only [ByteArray.size_append, strL_size, szMk, List.size_toArray, List.length_cons, List.length_nil]); omega))) ?_
      refine .nil ?_
      -- writes 901 801
      refine .callX rfl rfl rfl (.cons (SLe.refl _) (.cons (SLe.refl _) .nil)) (c_ws 901 801 (by decide) (rU l k i hlt) (uB l[k].lines[i]) (by rw [uB_size]; omega) (by rw [uB_size]; omega)) ⟨(.head _), (.tail _ (.head _)), trivial⟩ rfl rfl (fun _ h => rfl) ?_
      refine .nil ?_
      refine .region ?_
      refine .sA (.add64 rfl rfl rfl (by omega) (by omega)) ?_
      refine .mA (.nil ?_)
      refine ⟨i + 1, (by omega), (by dsimp only; omega), Sub.less ⟨(SLe.of_eq rfl), SLe.refl _, SLe.refl _, SLe.refl _, SLe.refl _, SLe.refl _, SLe.refl _, trivial⟩ (bld_same (rU_next hlt hil))⟩
    replace h3 := of_decide_eq_false h3
    rw [List.length_map] at h3
    obtain rfl : i = l[k].lines.length := by omega
    refine .exit ?_
    refine .sr ?_
    -- writes 901 801
    refine .callX rfl rfl rfl (.cons (SLe.refl _) .nil) (c_blen 901 801 (by decide) _) ⟨(.head _), (.tail _ (.head _)), trivial⟩ rfl rfl (fun _ h => rfl) ?_
    refine .sA (.gtr rfl rfl rfl) (.nil ?_)
    refine .cond rfl (fun h4 => ?_) (fun h4 => ?_)
    · replace h4 := of_decide_eq_true h4
      rw [rU_end hlt] at h4
      have hmo := rT_mono (l := l) (k := k + 1) (by omega)
      rw [textV_l h0 (by omega)]
      refine .sr ?_
      refine .aA ?_
      refine .aA (.nil ?_)
      refine .ret ?_
      refine ⟨RetD.eq rfl ?_, RetD.eq rfl ?_, trivial⟩
      all_goals (rfl)
    replace h4 := of_decide_eq_false h4
    rw [rU_end hlt] at h4
    have hle : (rT l (k + 1)).length ≤ 200000 := by omega
    refine .skip ?_
    refine .region ?_
    refine .sA (.add64 rfl rfl rfl (by omega) (by omega)) ?_
    refine .mA (.nil ?_)
    refine ⟨k + 1, ⟨by omega, hle⟩, (by dsimp only; omega), Sub.less ⟨(SLe.of_eq rfl), SLe.refl _, SLe.refl _, SLe.refl _, trivial⟩ (bld_same (by rw [rU_end]))⟩
  replace h2 := of_decide_eq_false h2
  rw [List.length_map] at h2
  obtain rfl : k = l.length := by omega
  have hle := hk.2
  rw [rT_all] at hle
  rw [textV_0 h0 (by omega), rT_all]
  refine .exit ?_
  refine .sr ?_
  -- writes 901 801
  refine .callX rfl rfl rfl (.cons (SLe.refl _) .nil) (c_bstrA 901 801 (by decide) _) ⟨(.head _), (.tail _ (.head _)), trivial⟩ rfl rfl (fun _ h => nomatch h) ?_
  refine .aA ?_
  refine .aA (.nil ?_)
  refine .ret ?_
  refine ⟨RetD.eq rfl ?_, RetD.eq rfl ?_, trivial⟩
  all_goals (rfl)

set_option maxRecDepth 100000 in
set_option maxHeartbeats 4000000 in
theorem c_rText (l : List Rpt) (hl : ∀ x ∈ l, okRpt x) : ACallT Tryz.prog TBM 13 [.sl (l.map Rpt.ds)] (.tup [.v (.string (textV l).1), .v (.int .i64 (textV l).2)]) := by
  refine acall_ofT (n := 67) (ds' := [.v (.string (textV l).1), .v (.int .i64 (textV l).2)]) Tryz.func13 rfl (by kernel_rfl) rfl [2, 3] rfl rfl ?_
  intro B w0 F0 hT
  refine .sr ?_
  refine .aA ?_
  refine .aA (.nil ?_)
  refine .seq ?_
  refine .sr ?_
  refine .mA ?_
  -- wants the world
  refine .callT rfl rfl rfl hT tbm_stays rfl (.cons (.rfl' rfl) .nil) (c_rLog l hl).max ?_
  refine .aA (.nil ?_)
  refine .sr ?_
  refine .mA ?_
  refine .sA (.neq rfl rfl rfl) (.nil ?_)
  refine .cond rfl (fun h1 => ?_) (fun h1 => ?_)
  · replace h1 := of_decide_eq_true h1
    rw [textV_c h1]
    refine .sr ?_
    refine .mA ?_
    refine .aA ?_
    refine .aA (.nil ?_)
    refine .ret ?_
    refine ⟨RetD.eq rfl ?_, RetD.eq rfl ?_, trivial⟩
    all_goals (rfl)
  replace h1 := of_decide_eq_false h1
  have h0 : logF l = 0 := Decidable.not_not.1 h1
  have hln := (log_ok h0).1
  have hr : ∀ x ∈ l, ROk x ∧ RSz x := fun x hx => ⟨rOk_of ((log_ok h0).2 x hx), rsz_of ((log_ok h0).2 x hx)⟩
  refine .skip ?_
  refine .sr ?_
  refine .allocB 901 801 (by decide) rfl rfl rfl rfl rfl rfl rfl ?_
  refine .nil ?_
  refine .seq ?_
  refine .sr ?_
  refine .mA ?_
  refine .sA (.lenSl rfl et_22.ht rfl) ?_
  refine .mA (.nil ?_)
  refine .block ?_
  refine .loop (G := Nat) (fun k => Env.of [(17, .d (.v (.int .i64 (k : Int)))), (15, .d (.sl (l.map Rpt.ds))), (16, .d (.v (.int .i64 ((l.map Rpt.ds).length : Int)))), (5, .ptr 901 0)]) (fun k => (Bld 901 801 (rT l k))) (fun k => k ≤ l.length) (fun k => l.length - k) 0 (Nat.zero_le _) (Sub.less ⟨(SLe.of_eq rfl), SLe.refl _, SLe.refl _, SLe.refl _, trivial⟩ (bld_same (rT_0 l).symm)) ?_
  intro k hk
  refine .sr ?_
  refine .sA (.lss rfl rfl rfl) (.nil ?_)
  refine .seq ?_
  refine .cond rfl (fun h2 => ?_) (fun h2 => ?_)
  · replace h2 := of_decide_eq_true h2
    rw [List.length_map] at h2
    have hlt : k < l.length := by omega
    obtain ⟨hrk, hzk⟩ := hr _ (List.getElem_mem hlt)
    have hRT := rT_len hr k hk
    have hhl := hLine_len hrk hzk
    have hn1 := dc_len hrk.no
    have hn2 := dc_len hrk.period
    have hn3 := dc_len hrk.corrects
    have hss := hzk.source
    have hlc := hzk.lines
    refine .skip ?_
    refine .seq ?_
    refine .block ?_
    refine .sr ?_
    refine .sA (.indexAddr rfl et_22 rfl rfl k rfl (at_lst hlt) rfl) ?_
    refine .sA (.loadAgg rfl ag_80 rfl rfl) ?_
    refine .alloc 101 rfl rfl rfl rfl zt_80 rfl rfl rfl ?_
    refine .store rfl rfl rfl sz_80 rfl (.head _) rfl rfl rfl (Nat.le_of_ble_eq_true rfl) ?_
    refine .freezeCells 7 (ds := l[k].ds) rfl (.head _) (.nil ?_)
    refine .seq ?_
    refine .obsEq _ (obs_fix _) ?_
    refine .drawTailK 18 (by kernel_rfl) (by kernel_rfl) (by kernel_rfl) ?_
    refine .step rfl rfl rfl (AOp.toK (.fieldAddr rfl fo_80_0 rfl)) ?_
    refine .step rfl rfl rfl (AOp.toK (.load rfl sc_9 rfl)) ?_
    refine .step rfl rfl rfl (AOp.toK (.cat rfl rfl rfl (by (try simp only [ByteArray.size_append, strL_size, szMk, List.size_toArray, List.length_cons, List.length_nil]); omega))) ?_
    refine .step rfl rfl rfl (AOp.toK (.fieldAddr rfl fo_80_1 rfl)) ?_
    refine .step rfl rfl rfl (AOp.toK (.load rfl sc_3 rfl)) ?_
    refine .step rfl rfl rfl (AOpK.callT tbm_stays rfl hT rfl (.cons (.rfl' rfl) .nil) (c_itoaL l[k].no hrk.no)) ?_
    refine .step rfl rfl rfl (AOp.toK (.cat rfl rfl rfl (by (try simp only [ByteArray.size_append, strL_size, szMk, List.size_toArray, List.length_cons, List.length_nil]); omega))) ?_
    refine .step rfl rfl rfl (AOp.toK (.cat rfl rfl rfl (by (try simp only [ByteArray.size_append, strL_size, szMk, List.size_toArray, List.length_cons, List.length_nil]); omega))) ?_
    refine .step rfl rfl rfl (AOp.toK (.fieldAddr rfl fo_80_2 rfl)) ?_
    refine .step rfl rfl rfl (AOp.toK (.load rfl sc_3 rfl)) ?_
    refine .step rfl rfl rfl (AOpK.callT tbm_stays rfl hT rfl (.cons (.rfl' rfl) .nil) (c_itoaL l[k].period hrk.period)) ?_
    refine .step rfl rfl rfl (AOp.toK (.cat rfl rfl rfl (by (try simp only [ByteArray.size_append, strL_size, szMk, List.size_toArray, List.length_cons, List.length_nil]); omega))) ?_
    refine .step rfl rfl rfl (AOp.toK (.cat rfl rfl rfl (by (try simp only [ByteArray.size_append, strL_size, szMk, List.size_toArray, List.length_cons, List.length_nil]); omega))) ?_
    refine .step rfl rfl rfl (AOp.toK (.fieldAddr rfl fo_80_3 rfl)) ?_
    refine .step rfl rfl rfl (AOp.toK (.load rfl sc_3 rfl)) ?_
    refine .step rfl rfl rfl (AOpK.callT tbm_stays rfl hT rfl (.cons (.rfl' rfl) .nil) (c_itoaL l[k].corrects hrk.corrects)) ?_
    refine .step rfl rfl rfl (AOp.toK (.cat rfl rfl rfl (by (try simp only [ByteArray.size_append, strL_size, szMk, List.size_toArray, List.length_cons, List.length_nil]); omega))) ?_
    refine .step rfl rfl rfl (AOp.toK (.cat rfl rfl rfl (by (try simp only [ByteArray.size_append, strL_size, szMk, List.size_toArray, List.length_cons, List.length_nil]); omega))) ?_
    refine .nil ?_
    -- writes 901 801
    refine .callX rfl rfl rfl (.cons (SLe.refl _) (.cons (SLe.refl _) .nil)) (c_ws 901 801 (by decide) (rT l k) (hB l[k]) (by rw [hB_size]; omega) (by rw [hB_size]; omega)) ⟨(.head _), (.tail _ (.head _)), trivial⟩ rfl rfl (fun _ h => rfl) ?_
    refine .nil ?_
    refine .sr ?_
    refine .sA (.fieldAddr rfl fo_80_4 rfl) ?_
    refine .sA (.load rfl sc_78 rfl) ?_
    refine .sA (.lenSl rfl et_78.ht rfl) ?_
    refine .mA (.nil ?_)
    refine .block ?_
    refine .loop (G := Nat) (fun i => Env.of [(43, .d (.v (.int .i64 (i : Int)))), (41, .d (.sl (l[k].lines.map Usd.ds))), (42, .d (.v (.int .i64 ((l[k].lines.map Usd.ds).length : Int)))), (17, .d (.v (.int .i64 (k : Int)))), (15, .d (.sl (l.map Rpt.ds))), (16, .d (.v (.int .i64 ((l.map Rpt.ds).length : Int)))), (5, .ptr 901 0)]) (fun i => (Bld 901 801 (rU l k i hlt))) (fun i => i ≤ l[k].lines.length) (fun i => l[k].lines.length - i) 0 (Nat.zero_le _) (Sub.less ⟨(SLe.of_eq rfl), SLe.refl _, SLe.refl _, SLe.refl _, SLe.refl _, SLe.refl _, SLe.refl _, trivial⟩ (bld_same (rU_0 hlt))) ?_
    intro i hi
    refine .sr ?_
    refine .sA (.lss rfl rfl rfl) (.nil ?_)
    refine .seq ?_
    refine .cond rfl (fun h3 => ?_) (fun h3 => ?_)
    · replace h3 := of_decide_eq_true h3
      rw [List.length_map] at h3
      have hil : i < l[k].lines.length := by omega
      have huk := hrk.lines _ (List.getElem_mem hil)
      have htz := hzk.titles _ (List.getElem_mem hil)
      have hul := uLine_len huk htz
      have hut := uT_len hrk hzk i (by omega)
      have hm1 := dc_len huk.units
      have hm2 := dc_len huk.money
      have hrl : (rU l k i hlt).length = (rT l k).length + ((hLine l[k]).length + 1) + (uT l[k] i).length := by unfold rU; rw [List.length_append, List.length_append, List.length_append]; rfl
      refine .skip ?_
      refine .seq ?_
      refine .block ?_
      refine .sr ?_
      refine .sA (.indexAddr rfl et_78 rfl rfl i rfl (at_lst hil) rfl) ?_
      refine .sA (.loadAgg rfl ag_75 rfl rfl) ?_
      refine .alloc 102 rfl rfl rfl rfl zt_75 rfl rfl rfl ?_
      refine .store rfl rfl rfl sz_75 rfl (.head _) rfl rfl rfl (Nat.le_of_ble_eq_true rfl) ?_
      refine .freezeCells 9 (ds := l[k].lines[i].ds) rfl (.head _) (.nil ?_)
      refine .obsEq _ (obs_fix2 _) ?_
      refine .drawTailK 14 (by kernel_rfl) (by kernel_rfl) (by kernel_rfl) ?_
      refine .step rfl rfl rfl (AOp.toK (.fieldAddr rfl fo_75_1 rfl)) ?_
      refine .step rfl rfl rfl (AOp.toK (.load rfl sc_3 rfl)) ?_
      refine .step rfl rfl rfl (AOpK.callT tbm_stays rfl hT rfl (.cons (.rfl' rfl) .nil) (c_itoaL l[k].lines[i].units huk.units)) ?_
      refine .step rfl rfl rfl (AOp.toK (.cat rfl rfl rfl (by (try simp only [ByteArray.size_append, strL_size, szMk, List.size_toArray, List.length_cons, List.length_nil]); omega))) ?_
      refine .step rfl rfl rfl (AOp.toK (.cat rfl rfl rfl (by (try simp only [ByteArray.size_append, strL_size, szMk, List.size_toArray, List.length_cons, List.length_nil]); omega))) ?_
      refine .step rfl rfl rfl (AOp.toK (.fieldAddr rfl fo_75_2 rfl)) ?_
      refine .step rfl rfl rfl (AOp.toK (.load rfl sc_3 rfl)) ?_
      refine .step rfl rfl rfl (AOpK.callT tbm_stays rfl hT rfl (.cons (.rfl' rfl) .nil) (c_itoaL l[k].lines[i].money huk.money)) ?_
      refine .step rfl rfl rfl (AOp.toK (.cat rfl rfl rfl (by (try simp only [ByteArray.size_append, strL_size, szMk, List.size_toArray, List.length_cons, List.length_nil]); omega))) ?_
      refine .step rfl rfl rfl (AOp.toK (.cat rfl rfl rfl (by (try simp only [ByteArray.size_append, strL_size, szMk, List.size_toArray, List.length_cons, List.length_nil]); omega))) ?_
      refine .step rfl rfl rfl (AOp.toK (.fieldAddr rfl fo_75_0 rfl)) ?_
      refine .step rfl rfl rfl (AOp.toK (.load rfl sc_9 rfl)) ?_
      refine .step rfl rfl rfl (AOp.toK (.cat rfl rfl rfl (by (try simp only [ByteArray.size_append, strL_size, szMk, List.size_toArray, List.length_cons, List.length_nil]); omega))) ?_
      refine .step rfl rfl rfl (AOp.toK (.cat rfl rfl rfl (by (try simp only [ByteArray.size_append, strL_size, szMk, List.size_toArray, List.length_cons, List.length_nil]); omega))) ?_
      refine .nil ?_
      -- writes 901 801
      refine .callX rfl rfl rfl (.cons (SLe.refl _) (.cons (SLe.refl _) .nil)) (c_ws 901 801 (by decide) (rU l k i hlt) (uB l[k].lines[i]) (by rw [uB_size]; omega) (by rw [uB_size]; omega)) ⟨(.head _), (.tail _ (.head _)), trivial⟩ rfl rfl (fun _ h => rfl) ?_
      refine .nil ?_
      refine .region ?_
      refine .sA (.add64 rfl rfl rfl (by omega) (by omega)) ?_
      refine .mA (.nil ?_)
      refine ⟨i + 1, (by omega), (by dsimp only; omega), Sub.less ⟨(SLe.of_eq rfl), SLe.refl _, SLe.refl _, SLe.refl _, SLe.refl _, SLe.refl _, SLe.refl _, trivial⟩ (bld_same (rU_next hlt hil))⟩
    replace h3 := of_decide_eq_false h3
    rw [List.length_map] at h3
    obtain rfl : i = l[k].lines.length := by omega
    refine .exit ?_
    refine .region ?_
    refine .sA (.add64 rfl rfl rfl (by omega) (by omega)) ?_
    refine .mA (.nil ?_)
    refine ⟨k + 1, (by omega), (by dsimp only; omega), Sub.less ⟨(SLe.of_eq rfl), SLe.refl _, SLe.refl _, SLe.refl _, trivial⟩ (bld_same (by rw [rU_end]))⟩
  replace h2 := of_decide_eq_false h2
  rw [List.length_map] at h2
  obtain rfl : k = l.length := by omega
  refine .exit ?_
  refine .seq ?_
  refine .sr ?_
  -- writes 901 801
  refine .callX rfl rfl rfl (.cons (SLe.refl _) .nil) (c_blen 901 801 (by decide) _) ⟨(.head _), (.tail _ (.head _)), trivial⟩ rfl rfl (fun _ h => rfl) ?_
  refine .sA (.gtr rfl rfl rfl) (.nil ?_)
  refine .cond rfl (fun h4 => ?_) (fun h4 => ?_)
  · replace h4 := of_decide_eq_true h4
    rw [rT_all] at h4
    rw [textV_l h0 (by omega)]
    refine .sr ?_
    refine .aA ?_
    refine .aA (.nil ?_)
    refine .ret ?_
    refine ⟨RetD.eq rfl ?_, RetD.eq rfl ?_, trivial⟩
    all_goals (rfl)
  replace h4 := of_decide_eq_false h4
  rw [rT_all] at h4
  rw [textV_0 h0 (by omega), rT_all]
  refine .skip ?_
  refine .sr ?_
  -- writes 901 801
  refine .callX rfl rfl rfl (.cons (SLe.refl _) .nil) (c_bstrA 901 801 (by decide) _) ⟨(.head _), (.tail _ (.head _)), trivial⟩ rfl rfl (fun _ h => nomatch h) ?_
  refine .aA ?_
  refine .aA (.nil ?_)
  refine .ret ?_
  refine ⟨RetD.eq rfl ?_, RetD.eq rfl ?_, trivial⟩
  all_goals (rfl)

set_option maxRecDepth 100000 in
set_option maxHeartbeats 1000000 in
theorem lawTexts (l : List Rpt) (hl : ∀ x ∈ l, okRpt x) : ACallT Tryz.prog TBM 4 [.sl (l.map Rpt.ds)] (.v (.bool true)) := by
 refine acall_ofT (n := 50) (ds' := [.v (.bool true)]) Tryz.func4 rfl (by kernel_rfl) rfl [2] rfl rfl ?_
 intro B w0 F0 hT
 refine .sr ?_
 refine .aA (.nil ?_)
 refine .sr ?_
 refine .mA ?_
 -- wants the world
 refine .callT rfl rfl rfl hT tbm_stays rfl (.cons (.rfl' rfl) .nil) (c_pText l hl) ?_
 refine .mA ?_
 refine .sA (.extract rfl rfl rfl) ?_
 refine .sA (.extract rfl rfl rfl) ?_
 refine .aA ?_
 refine .aA (.nil ?_)
 refine .sr ?_
 refine .mA ?_
 -- wants the world
 refine .callT rfl rfl rfl hT tbm_stays rfl (.cons (.rfl' rfl) .nil) (c_rText l hl) ?_
 refine .mA ?_
 refine .sA (.extract rfl rfl rfl) ?_
 refine .sA (.extract rfl rfl rfl) ?_
 refine .aA ?_
 refine .aA (.nil ?_)
 refine .seq ?_
 refine .sr ?_
 refine .mA ?_
 refine .mA ?_
 refine .sA (.neq rfl rfl rfl) ?_
 refine .mA ?_
 refine .split 22 rfl (fun g1 => ?_) (fun g1 => ?_)
 ·replace g1 := of_decide_eq_true g1
  exact absurd rfl g1
 replace g1 := of_decide_eq_false g1
 refine .sG (.moveD rfl rfl) ?_
 refine .sG (.moveD rfl rfl) ?_
 refine .sG (.sneq rfl rfl rfl) ?_
 refine .sA (.pickF rfl rfl rfl) ?_
 refine .mA ?_
 refine .split 27 rfl (fun g2 => ?_) (fun g2 => ?_)
 ·replace g2 := of_decide_eq_true g2
  exact absurd rfl g2
 replace g2 := of_decide_eq_false g2
 skip
 refine .sG (.call rfl .nil c_awake) ?_
 refine .sG (.not rfl rfl) ?_
 refine .sA (.pickF rfl rfl rfl) (.nil ?_)
 refine .cond rfl (fun h => nomatch h) (fun _ => ?_)
 refine .skip ?_
 refine .seq ?_
 refine .sr ?_
 refine .mA ?_
 refine .sA (.neq rfl rfl rfl) (.nil ?_)
 refine .cond rfl (fun h3 => ?_) (fun h3 => ?_)
 ·replace h3 := of_decide_eq_true h3
  skip
  refine .sr ?_
  refine .aA (.nil ?_)
  refine .ret ?_
  refine ⟨RetD.eq rfl ?_, trivial⟩
  all_goals (first | rfl | (simp [HS]))
 replace h3 := of_decide_eq_false h3
 have h0 : (textV l).2 = 0 := Decidable.not_not.1 h3
 have HS := text_same h0
 refine .skip ?_
 refine .sr ?_
 refine .mA ?_
 -- wants the world
 refine .callT rfl rfl rfl hT tbm_stays rfl (.cons (.rfl' rfl) .nil) (c_pRead (textV l).1).max ?_
 refine .mA ?_
 refine .sA (.extract rfl rfl rfl) ?_
 refine .sA (.extract rfl rfl rfl) ?_
 refine .sA (.extract rfl rfl rfl) ?_
 refine .aA ?_
 refine .aA ?_
 refine .aA (.nil ?_)
 refine .sr ?_
 refine .mA ?_
 refine .sA (.eql rfl rfl rfl) ?_
 refine .mA ?_
 refine .split 41 rfl (fun g4 => ?_) (fun g4 => ?_)
 ·replace g4 := of_decide_eq_true g4
  refine .sG (.moveD rfl rfl) ?_
  refine .sG (.eql rfl rfl rfl) ?_
  refine .sA (.pickT rfl rfl rfl) ?_
  refine .mA ?_
  refine .split 45 rfl (fun g5 => ?_) (fun g5 => ?_)
  ·replace g5 := of_decide_eq_true g5
   refine .sG (.moveD rfl rfl) ?_
   refine .sG (.moveD rfl rfl) ?_
   refine .sG (.call rfl (.cons (.rfl' rfl) (.cons (.rfl' rfl) .nil)) (c_sameL _ _)) ?_
   refine .sA (.pickT rfl rfl rfl) ?_
   refine .aA (.nil ?_)
   refine .ret ?_
   refine ⟨RetD.eq rfl ?_, trivial⟩
   all_goals (first | rfl | (simp [HS]))
  replace g5 := of_decide_eq_false g5
  exact absurd (by rw [HS]) g5
 replace g4 := of_decide_eq_false g4
 exact absurd (by rw [HS]) g4

end Go.Proofs.YtcfamaddnmnaeaaGreatDoor
