/- Earned and Recouped of the program and of the reference. Printed by tools/tiers.py. -/
import Derived.Test.YtpihcfpdaoflbaaT2
import Derived.OwnWalk
namespace Go.Proofs.Ytpihcfpdaoflbaa
open Go.RowKit
attribute [local go_sem ↓] run_min_kept run_max_kept

/-- What Earned answers. -/
def EarnedOf (ts : List (Int × Int)) (m n f : Int) : Prop :=
  if tFaults ts ≠ 0 then n = 0 ∧ f = tFaults ts else if inB m 0 1000000000000 = false then n = 0 ∧ f = 1 else n = earnedT ts m ∧ f = 0

/-- n is the least money that earns c. -/
structure Least (ts : List (Int × Int)) (c n : Int) : Prop where
  h0 : 0 ≤ n
  h1 : n ≤ 1000000000000
  enough : c ≤ earnedT ts n
  least : ∀ k, 0 ≤ k → k < n → earnedT ts k < c
theorem Least.unique {ts : List (Int × Int)} {c n n' : Int} (h : Least ts c n) (h' : Least ts c n') : n = n' := by
  rcases Int.lt_trichotomy n n' with hlt | heq | hlt
  · have h2 := h'.least n h.h0 hlt; have h3 := h.enough; omega
  · exact heq
  · have h2 := h.least n' h'.h0 hlt; have h3 := h'.enough; omega

/-- What Recouped answers. -/
def RecOf (ts : List (Int × Int)) (c n : Int) (b : Bool) (f : Int) : Prop :=
  if tFaults ts ≠ 0 then n = 0 ∧ b = false ∧ f = tFaults ts else if inB c 0 1000000000000 = false then n = 0 ∧ b = false ∧ f = 1
  else if earnedT ts 1000000000000 < c then n = 0 ∧ b = false ∧ f = 0 else b = true ∧ f = 0 ∧ Least ts c n

theorem tTerm_mono (ts : List (Int × Int)) (hv : ∀ t ∈ ts, TierIn t) {m m' : Int} (h : m ≤ m') (k : Nat) (hk : k < ts.length) : tTerm ts m k ≤ tTerm ts m' k := by
  have ht := hv ts[k] (List.getElem_mem hk)
  unfold TierIn at ht
  have he : tEnd ts m k ≤ tEnd ts m' k := by unfold tEnd; split <;> omega
  unfold tTerm
  rw [getD_at ts k hk]
  exact Int.mul_le_mul_of_nonneg_right (by omega) (by omega)
theorem tSum_mono (ts : List (Int × Int)) (hv : ∀ t ∈ ts, TierIn t) {m m' : Int} (h : m ≤ m') : ∀ k, k ≤ ts.length → tSum ts m k ≤ tSum ts m' k
  | 0, _ => by simp [tSum]
  | k + 1, hk => by
    have h1 := tSum_mono ts hv h k (by omega)
    have h2 := tTerm_mono ts hv h k (by omega)
    rw [tSum, tSum]; omega
theorem earnedT_mono (ts : List (Int × Int)) (hv : ∀ t ∈ ts, TierIn t) {m m' : Int} (h : m ≤ m') : earnedT ts m ≤ earnedT ts m' := by
  have := tSum_mono ts hv h ts.length (Nat.le_refl _)
  unfold earnedT; omega
theorem earnedT_zero (ts : List (Int × Int)) (hv : ∀ t ∈ ts, TierIn t) : earnedT ts 0 = 0 := by
  have : ∀ k, k ≤ ts.length → tSum ts 0 k = 0 := by
    intro k
    induction k with
    | zero => intro _; rfl
    | succ k ih =>
      intro hk
      have ht := hv ts[k] (List.getElem_mem (by omega))
      have he : tEnd ts 0 k = 0 := by
        unfold tEnd
        split
        · rename_i h
          have := hv ts[k + 1] (List.getElem_mem h)
          unfold TierIn at this
          rw [getD_at ts _ h]; omega
        · rfl
      unfold TierIn at ht
      rw [tSum, ih (by omega), tTerm, he, getD_at ts k (by omega), show max 0 (0 - ts[k].1) = 0 by omega]
      simp
  unfold earnedT
  rw [this _ (Nat.le_refl _)]; rfl
theorem earnedT_in (ts : List (Int × Int)) (hn : ts.length ≤ 10) (hv : ∀ t ∈ ts, TierIn t) (m : Int) (h0 : 0 ≤ m) (h1 : m ≤ 1000000000000) : 0 ≤ earnedT ts m ∧ earnedT ts m ≤ 10000000000000 := by
  have := tSum_in ts hv m h0 h1 ts.length (Nat.le_refl _)
  unfold earnedT; omega

def RecRet (ts : List (Int × Int)) (c : Int) (e : Ending) : Prop := ∃ (n : Int) (b : Bool) (f : Int), e = .returned (.tuple #[.int .i64 n, .bool b, .int .i64 f]) ∧ RecOf ts c n b f

/-- What holds while the least is sought. -/
def Seek (ts : List (Int × Int)) (c : Int) (lo hi : Value) : Prop :=
  ∃ l h : Int, lo = .int .i64 l ∧ hi = .int .i64 h ∧ 0 ≤ l ∧ l ≤ h ∧ h ≤ 1000000000000 ∧ c ≤ earnedT ts h ∧ ∀ k, 0 ≤ k → k < l → earnedT ts k < c

set_option maxHeartbeats 800000 in
theorem pEarned_any (v : Value) (ts : List (Int × Int)) (m : Int) (w : World) (h : Sl w 2 v ts.length (tcells ts)) :
    Calls Try.prog 10 #[v, .int .i64 m] w fun e w' => ∃ n f : Int, e = .returned (.tuple #[.int .i64 n, .int .i64 f]) ∧ EarnedOf ts m n f ∧ Below w.heap.size w w' := by
  have HC := Lib.hid (pCheck_any v ts w h)
  have HH := Lib.hid h
  clear h
  by_cases hf : tFaults ts = 0
  · have HF := Lib.hid hf
    have hin := tFaults_in ts hf
    have HV := Lib.hid (tiers_in ts hf)
    have hn := hin.1
    clear hf hin
    by_cases hb : inB m 0 1000000000000 = false
    · have HB := Lib.hid hb
      have HR := Lib.hid (show EarnedOf ts m 0 1 by unfold EarnedOf; rw [if_neg (by rw [HF.out]; decide), if_pos hb]; exact ⟨rfl, rfl⟩)
      clear hb
      go_enter Try.func10, Try.ntmps10
      go_wp2_with fail
      refine HC.out.mono ?_
      rintro e w1 ⟨rfl, hbel⟩
      have HL := Lib.hid hbel
      clear hbel
      rw [HF.out]
      go_wp2_with fail
      refine (within_any _ _ _ _).mono ?_
      rintro e w' ⟨rfl, rfl⟩
      rw [HB.out]
      go_wp2_with fail
      go_ret2
      exact ⟨_, _, rfl, HR.out, HL.out⟩
    · have hb' : inB m 0 1000000000000 = true := by cases hh : inB m 0 1000000000000 <;> simp_all
      have HB := Lib.hid hb'
      have HM := Lib.hid (show 0 ≤ m ∧ m ≤ 1000000000000 from of_decide_eq_true hb')
      have HR := Lib.hid (show EarnedOf ts m (earnedT ts m) 0 by unfold EarnedOf; rw [if_neg (by rw [HF.out]; decide), if_neg hb]; exact ⟨rfl, rfl⟩)
      clear hb hb'
      go_enter Try.func10, Try.ntmps10
      go_wp2_with fail
      refine HC.out.mono ?_
      rintro e w1 ⟨rfl, hbel⟩
      have HL := Lib.hid hbel
      clear hbel
      rw [HF.out]
      go_wp2_with fail
      refine (within_any _ _ _ _).mono ?_
      rintro e w' ⟨rfl, rfl⟩
      rw [HB.out]
      go_wp2_with fail
      refine (pEarned_in v ts m w1 (HH.out.below HL.out (Nat.le_refl _)) hn HV.out HM.out.1 HM.out.2).mono ?_
      rintro e w2 ⟨rfl, hb2⟩
      have HL2 := Lib.hid (HL.out.trans (hb2.mono HL.out.size))
      clear hb2
      go_wp2_with fail
      go_ret2
      exact ⟨_, _, rfl, HR.out, HL2.out⟩
  · have hne : (tFaults ts != 0) = true := by simpa using hf
    have HR := Lib.hid (show EarnedOf ts m 0 (tFaults ts) by unfold EarnedOf; rw [if_pos hf]; exact ⟨rfl, rfl⟩)
    generalize tFaults ts = tf at *
    clear hf
    go_enter Try.func10, Try.ntmps10
    go_wp2_with fail
    refine HC.out.mono ?_
    rintro e w1 ⟨rfl, hbel⟩
    have HL := Lib.hid hbel
    clear hbel
    go_wp2_with fail
    go_ret2
    exact ⟨_, _, rfl, HR.out, HL.out⟩

set_option maxHeartbeats 1600000 in
theorem pRecouped_any (v : Value) (ts : List (Int × Int)) (c : Int) (w : World) (h : Sl w 2 v ts.length (tcells ts)) :
    Calls Try.prog 14 #[v, .int .i64 c] w fun e w' => RecRet ts c e ∧ Below w.heap.size w w' := by
  have HC := Lib.hid (pCheck_any v ts w h)
  have HH := Lib.hid h
  clear h
  by_cases hf : tFaults ts = 0
  · have HF := Lib.hid hf
    have hin := tFaults_in ts hf
    have HV := Lib.hid (tiers_in ts hf)
    have hn := hin.1
    clear hf hin
    by_cases hb : inB c 0 1000000000000 = false
    · have HB := Lib.hid hb
      have HR := Lib.hid (show RecOf ts c 0 false 1 by unfold RecOf; rw [if_neg (by rw [HF.out]; decide), if_pos hb]; exact ⟨rfl, rfl, rfl⟩)
      clear hb
      go_enter Try.func14, Try.ntmps14
      go_wp2_with fail
      refine HC.out.mono ?_
      rintro e w1 ⟨rfl, hbel⟩
      have HL := Lib.hid hbel
      clear hbel
      rw [HF.out]
      go_wp2_with fail
      refine (within_any _ _ _ _).mono ?_
      rintro e w' ⟨rfl, rfl⟩
      rw [HB.out]
      go_wp2_with fail
      go_ret3
      exact ⟨⟨_, _, _, rfl, HR.out⟩, HL.out⟩
    · have hb' : inB c 0 1000000000000 = true := by cases hh : inB c 0 1000000000000 <;> simp_all
      have HB := Lib.hid hb'
      have hc01 : 0 ≤ c ∧ c ≤ 1000000000000 := of_decide_eq_true hb'
      have hR0 := fun (h : earnedT ts 1000000000000 < c) => show RecOf ts c 0 false 0 by unfold RecOf; rw [if_neg (by rw [HF.out]; decide), if_neg hb, if_pos h]; exact ⟨rfl, rfl, rfl⟩
      have hR1 := fun (h : ¬ earnedT ts 1000000000000 < c) (n : Int) (hl : Least ts c n) => show RecOf ts c n true 0 by unfold RecOf; rw [if_neg (by rw [HF.out]; decide), if_neg hb, if_neg h]; exact ⟨rfl, rfl, hl⟩
      have HR0 := Lib.hid hR0
      have HR1 := Lib.hid hR1
      clear hb hb' hR0 hR1
      have HEI := Lib.hid (fun m h0 h1 => earnedT_in ts hn HV.out m h0 h1)
      have HMono := Lib.hid (fun (m m' : Int) (h : m ≤ m') => earnedT_mono ts HV.out h)
      have htop := HEI.out 1000000000000 (by omega) (by omega)
      go_enter Try.func14, Try.ntmps14
      go_wp2_with fail
      refine HC.out.mono ?_
      rintro e w1 ⟨rfl, hbel⟩
      have HL := Lib.hid hbel
      clear hbel
      rw [HF.out]
      go_wp2_with fail
      refine (within_any _ _ _ _).mono ?_
      rintro e w' ⟨rfl, rfl⟩
      rw [HB.out]
      go_wp2_with fail
      refine (pEarned_in v ts 1000000000000 w1 (HH.out.below HL.out (Nat.le_refl _)) hn HV.out (by omega) (by omega)).mono ?_
      rintro e w2 ⟨rfl, hb2⟩
      have HL2 := Lib.hid (HL.out.trans (hb2.mono HL.out.size))
      clear hb2
      by_cases hlt : earnedT ts 1000000000000 < c
      · go_wp2_with fail
        go_ret3
        exact ⟨⟨_, _, _, rfl, HR0.out hlt⟩, HL2.out⟩
      · have HT := Lib.hid (show c ≤ earnedT ts 1000000000000 by omega)
        have HR2 := Lib.hid (HR1.out (by omega))
        go_wp2_with fail
        go_loopw [8, 9] (fun lo hi wr => Seek ts c lo hi ∧ Below w.heap.size w wr) (fun lo hi _ => (intOf hi - intOf lo).toNat)
        case atStart => exact ⟨⟨0, 1000000000000, rfl, rfl, by omega, by omega, by omega, HT.out, fun k h0 h1 => by omega⟩, HL2.out⟩
        case round =>
          unfold Seek at hrel
          obtain ⟨⟨lo, hi, rfl, rfl, hl0, hlh, hh1, hen, hle⟩, hbel⟩ := hrel
          have HEN := Lib.hid hen
          have HLE := Lib.hid hle
          have HBL := Lib.hid hbel
          clear hen hle hbel
          by_cases hlo : lo < hi
          · obtain ⟨mid, hmid⟩ : ∃ mid, (lo + hi) / 2 = mid := ⟨_, rfl⟩
            have hm0 : lo ≤ mid := by omega
            have hm1 : mid < hi := by omega
            have HIM := HEI.out mid (by omega) (by omega)
            go_wp2_with fail
            refine (pEarned_in v ts mid wr (HH.out.below HBL.out (Nat.le_refl _)) hn HV.out (by omega) (by omega)).mono ?_
            rintro e w3 ⟨rfl, hb3⟩
            have HB3 := Lib.hid (HBL.out.trans (hb3.mono HBL.out.size))
            clear hb3
            by_cases hge : c ≤ earnedT ts mid
            · have HGE := Lib.hid hge
              go_wp2_with fail
              go_roundw
              case rel => exact ⟨⟨lo, mid, rfl, rfl, hl0, hm0, by omega, HGE.out, HLE.out⟩, HB3.out⟩
              case measure => simp [intOf]; omega
            · have HGE := Lib.hid (show earnedT ts mid < c by omega)
              go_wp2_with fail
              go_roundw
              case rel =>
                refine ⟨⟨mid + 1, hi, by go_num, rfl, by omega, by omega, by omega, HEN.out, fun k h0 h1 => ?_⟩, HB3.out⟩
                have h2 := HMono.out k mid (by omega)
                have h3 := HGE.out
                omega
              case measure => simp [intOf]; omega
          · have e : hi = lo := by omega
            subst e
            go_wp2_with fail
            go_ret3
            exact ⟨⟨_, _, _, rfl, HR2.out _ ⟨hl0, hh1, HEN.out, HLE.out⟩⟩, HBL.out⟩
  · have hne : (tFaults ts != 0) = true := by simpa using hf
    have HR := Lib.hid (show RecOf ts c 0 false (tFaults ts) by unfold RecOf; rw [if_pos hf]; exact ⟨rfl, rfl, rfl⟩)
    generalize tFaults ts = tf at *
    clear hf
    go_enter Try.func14, Try.ntmps14
    go_wp2_with fail
    refine HC.out.mono ?_
    rintro e w1 ⟨rfl, hbel⟩
    have HL := Lib.hid hbel
    clear hbel
    go_wp2_with fail
    go_ret3
    exact ⟨⟨_, _, _, rfl, HR.out⟩, HL.out⟩

set_option maxHeartbeats 800000 in
theorem rEarned_any (v : Value) (ts : List (Int × Int)) (m : Int) (w : World) (h : Sl w 2 v ts.length (tcells ts)) :
    Calls Try.prog 11 #[v, .int .i64 m] w fun e w' => ∃ n f : Int, e = .returned (.tuple #[.int .i64 n, .int .i64 f]) ∧ EarnedOf ts m n f ∧ Below w.heap.size w w' := by
  have HC := Lib.hid (rCheck_any v ts w h)
  have HH := Lib.hid h
  clear h
  by_cases hf : tFaults ts = 0
  · have HF := Lib.hid hf
    have hin := tFaults_in ts hf
    have HV := Lib.hid (tiers_in ts hf)
    have hn := hin.1
    clear hf hin
    by_cases hb : inB m 0 1000000000000 = false
    · have HB := Lib.hid hb
      have HR := Lib.hid (show EarnedOf ts m 0 1 by unfold EarnedOf; rw [if_neg (by rw [HF.out]; decide), if_pos hb]; exact ⟨rfl, rfl⟩)
      clear hb
      go_enter Try.func11, Try.ntmps11
      go_wp2_with fail
      refine HC.out.mono ?_
      rintro e w1 ⟨rfl, hbel⟩
      have HL := Lib.hid hbel
      clear hbel
      rw [HF.out]
      go_wp2_with fail
      refine (rwithin_any _ _ _ _).mono ?_
      rintro e w' ⟨rfl, rfl⟩
      rw [HB.out]
      go_wp2_with fail
      go_ret2
      exact ⟨_, _, rfl, HR.out, HL.out⟩
    · have hb' : inB m 0 1000000000000 = true := by cases hh : inB m 0 1000000000000 <;> simp_all
      have HB := Lib.hid hb'
      have HM := Lib.hid (show 0 ≤ m ∧ m ≤ 1000000000000 from of_decide_eq_true hb')
      have HR := Lib.hid (show EarnedOf ts m (earnedT ts m) 0 by unfold EarnedOf; rw [if_neg (by rw [HF.out]; decide), if_neg hb]; exact ⟨rfl, rfl⟩)
      clear hb hb'
      go_enter Try.func11, Try.ntmps11
      go_wp2_with fail
      refine HC.out.mono ?_
      rintro e w1 ⟨rfl, hbel⟩
      have HL := Lib.hid hbel
      clear hbel
      rw [HF.out]
      go_wp2_with fail
      refine (rwithin_any _ _ _ _).mono ?_
      rintro e w' ⟨rfl, rfl⟩
      rw [HB.out]
      go_wp2_with fail
      refine (rEarned_in v ts m w1 (HH.out.below HL.out (Nat.le_refl _)) hn HV.out HM.out.1 HM.out.2).mono ?_
      rintro e w2 ⟨rfl, hb2⟩
      have HL2 := Lib.hid (HL.out.trans (hb2.mono HL.out.size))
      clear hb2
      go_wp2_with fail
      go_ret2
      exact ⟨_, _, rfl, HR.out, HL2.out⟩
  · have hne : (tFaults ts != 0) = true := by simpa using hf
    have HR := Lib.hid (show EarnedOf ts m 0 (tFaults ts) by unfold EarnedOf; rw [if_pos hf]; exact ⟨rfl, rfl⟩)
    generalize tFaults ts = tf at *
    clear hf
    go_enter Try.func11, Try.ntmps11
    go_wp2_with fail
    refine HC.out.mono ?_
    rintro e w1 ⟨rfl, hbel⟩
    have HL := Lib.hid hbel
    clear hbel
    go_wp2_with fail
    go_ret2
    exact ⟨_, _, rfl, HR.out, HL.out⟩

set_option maxHeartbeats 1600000 in
theorem rRecouped_any (v : Value) (ts : List (Int × Int)) (c : Int) (w : World) (h : Sl w 2 v ts.length (tcells ts)) :
    Calls Try.prog 15 #[v, .int .i64 c] w fun e w' => RecRet ts c e ∧ Below w.heap.size w w' := by
  have HC := Lib.hid (rCheck_any v ts w h)
  have HH := Lib.hid h
  clear h
  by_cases hf : tFaults ts = 0
  · have HF := Lib.hid hf
    have hin := tFaults_in ts hf
    have HV := Lib.hid (tiers_in ts hf)
    have hn := hin.1
    clear hf hin
    by_cases hb : inB c 0 1000000000000 = false
    · have HB := Lib.hid hb
      have HR := Lib.hid (show RecOf ts c 0 false 1 by unfold RecOf; rw [if_neg (by rw [HF.out]; decide), if_pos hb]; exact ⟨rfl, rfl, rfl⟩)
      clear hb
      go_enter Try.func15, Try.ntmps15
      go_wp2_with fail
      refine HC.out.mono ?_
      rintro e w1 ⟨rfl, hbel⟩
      have HL := Lib.hid hbel
      clear hbel
      rw [HF.out]
      go_wp2_with fail
      refine (rwithin_any _ _ _ _).mono ?_
      rintro e w' ⟨rfl, rfl⟩
      rw [HB.out]
      go_wp2_with fail
      go_ret3
      exact ⟨⟨_, _, _, rfl, HR.out⟩, HL.out⟩
    · have hb' : inB c 0 1000000000000 = true := by cases hh : inB c 0 1000000000000 <;> simp_all
      have HB := Lib.hid hb'
      have hc01 : 0 ≤ c ∧ c ≤ 1000000000000 := of_decide_eq_true hb'
      have hR0 := fun (h : earnedT ts 1000000000000 < c) => show RecOf ts c 0 false 0 by unfold RecOf; rw [if_neg (by rw [HF.out]; decide), if_neg hb, if_pos h]; exact ⟨rfl, rfl, rfl⟩
      have hR1 := fun (h : ¬ earnedT ts 1000000000000 < c) (n : Int) (hl : Least ts c n) => show RecOf ts c n true 0 by unfold RecOf; rw [if_neg (by rw [HF.out]; decide), if_neg hb, if_neg h]; exact ⟨rfl, rfl, hl⟩
      have HR0 := Lib.hid hR0
      have HR1 := Lib.hid hR1
      clear hb hb' hR0 hR1
      have HEI := Lib.hid (fun m h0 h1 => earnedT_in ts hn HV.out m h0 h1)
      have HMono := Lib.hid (fun (m m' : Int) (h : m ≤ m') => earnedT_mono ts HV.out h)
      have htop := HEI.out 1000000000000 (by omega) (by omega)
      go_enter Try.func15, Try.ntmps15
      go_wp2_with fail
      refine HC.out.mono ?_
      rintro e w1 ⟨rfl, hbel⟩
      have HL := Lib.hid hbel
      clear hbel
      rw [HF.out]
      go_wp2_with fail
      refine (rwithin_any _ _ _ _).mono ?_
      rintro e w' ⟨rfl, rfl⟩
      rw [HB.out]
      go_wp2_with fail
      refine (rEarned_in v ts 1000000000000 w1 (HH.out.below HL.out (Nat.le_refl _)) hn HV.out (by omega) (by omega)).mono ?_
      rintro e w2 ⟨rfl, hb2⟩
      have HL2 := Lib.hid (HL.out.trans (hb2.mono HL.out.size))
      clear hb2
      by_cases hlt : earnedT ts 1000000000000 < c
      · go_wp2_with fail
        go_ret3
        exact ⟨⟨_, _, _, rfl, HR0.out hlt⟩, HL2.out⟩
      · have HT := Lib.hid (show c ≤ earnedT ts 1000000000000 by omega)
        have HR2 := Lib.hid (HR1.out (by omega))
        go_wp2_with fail
        go_loopw [8, 9] (fun lo hi wr => Seek ts c lo hi ∧ Below w.heap.size w wr) (fun lo hi _ => (intOf hi - intOf lo).toNat)
        case atStart => exact ⟨⟨0, 1000000000000, rfl, rfl, by omega, by omega, by omega, HT.out, fun k h0 h1 => by omega⟩, HL2.out⟩
        case round =>
          unfold Seek at hrel
          obtain ⟨⟨lo, hi, rfl, rfl, hl0, hlh, hh1, hen, hle⟩, hbel⟩ := hrel
          have HEN := Lib.hid hen
          have HLE := Lib.hid hle
          have HBL := Lib.hid hbel
          clear hen hle hbel
          by_cases hlo : lo < hi
          · obtain ⟨mid, hmid⟩ : ∃ mid, (lo + hi) / 2 = mid := ⟨_, rfl⟩
            have hm0 : lo ≤ mid := by omega
            have hm1 : mid < hi := by omega
            have HIM := HEI.out mid (by omega) (by omega)
            go_wp2_with fail
            refine (rEarned_in v ts mid wr (HH.out.below HBL.out (Nat.le_refl _)) hn HV.out (by omega) (by omega)).mono ?_
            rintro e w3 ⟨rfl, hb3⟩
            have HB3 := Lib.hid (HBL.out.trans (hb3.mono HBL.out.size))
            clear hb3
            by_cases hge : c ≤ earnedT ts mid
            · have HGE := Lib.hid hge
              go_wp2_with fail
              go_roundw
              case rel => exact ⟨⟨lo, mid, rfl, rfl, hl0, hm0, by omega, HGE.out, HLE.out⟩, HB3.out⟩
              case measure => simp [intOf]; omega
            · have HGE := Lib.hid (show earnedT ts mid < c by omega)
              go_wp2_with fail
              go_roundw
              case rel =>
                refine ⟨⟨mid + 1, hi, by go_num, rfl, by omega, by omega, by omega, HEN.out, fun k h0 h1 => ?_⟩, HB3.out⟩
                have h2 := HMono.out k mid (by omega)
                have h3 := HGE.out
                omega
              case measure => simp [intOf]; omega
          · have e : hi = lo := by omega
            subst e
            go_wp2_with fail
            go_ret3
            exact ⟨⟨_, _, _, rfl, HR2.out _ ⟨hl0, hh1, HEN.out, HLE.out⟩⟩, HBL.out⟩
  · have hne : (tFaults ts != 0) = true := by simpa using hf
    have HR := Lib.hid (show RecOf ts c 0 false (tFaults ts) by unfold RecOf; rw [if_pos hf]; exact ⟨rfl, rfl, rfl⟩)
    generalize tFaults ts = tf at *
    clear hf
    go_enter Try.func15, Try.ntmps15
    go_wp2_with fail
    refine HC.out.mono ?_
    rintro e w1 ⟨rfl, hbel⟩
    have HL := Lib.hid hbel
    clear hbel
    go_wp2_with fail
    go_ret3
    exact ⟨⟨_, _, _, rfl, HR.out⟩, HL.out⟩
end Go.Proofs.Ytpihcfpdaoflbaa
