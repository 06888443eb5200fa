/- Walks over abstract values. Printed by tools/gen.py. No statement of the seat. -/
import Derived.Test.YtkflhehocbaoiaaDoorV6
namespace Go.Proofs.YtkflhehocbaoiaaDoor
open Go.RowKit
set_option linter.unusedVariables false

/-! Types. -/
namespace TyV7
theorem ag_25 : AggT Tryd.prog 25 4 := .of (by kernel_rfl)
theorem ar_75 : ArrT Tryd.prog 75 3 256 1 := .of (by kernel_rfl) (by kernel_rfl)
theorem cv_3_5 : convB Tryd.prog 3 5 .u8 = true := by kernel_rfl
theorem et_22 : ElemTy Tryd.prog 22 5 1 1 (.int .u8 0) := ⟨by kernel_rfl, by kernel_rfl, by kernel_rfl, by decide⟩
theorem et_33 : ElemTy Tryd.prog 33 22 1 24 (.slice none 0 0) := ⟨by kernel_rfl, by kernel_rfl, by kernel_rfl, by decide⟩
theorem fo_25_2 : fieldOff Tryd.prog 25 2 = some 2 := by kernel_rfl
theorem sc_22 : Scal Tryd.prog 22 := .of (by kernel_rfl)
theorem sc_3 : Scal Tryd.prog 3 := .of (by kernel_rfl)
theorem sc_5 : Scal Tryd.prog 5 := .of (by kernel_rfl)
theorem sz_3 : ∀ w, (sizeOf 3).run Tryd.prog w = .ok 1 w := SizeT.of (by kernel_rfl)
theorem sz_5 : ∀ w, (sizeOf 5).run Tryd.prog w = .ok 1 w := SizeT.of (by kernel_rfl)
theorem zt_75 : (Tryd.prog.info? 75).bind (·.zero) = some (.agg #[(.int .i64 0), (.int .i64 0), (.int .i64 0), (.int .i64 0), (.int .i64 0), (.int .i64 0), (.int .i64 0), (.int .i64 0), (.int .i64 0), (.int .i64 0), (.int .i64 0), (.int .i64 0), (.int .i64 0), (.int .i64 0), (.int .i64 0), (.int .i64 0), (.int .i64 0), (.int .i64 0), (.int .i64 0), (.int .i64 0), (.int .i64 0), (.int .i64 0), (.int .i64 0), (.int .i64 0), (.int .i64 0), (.int .i64 0), (.int .i64 0), (.int .i64 0), (.int .i64 0), (.int .i64 0), (.int .i64 0), (.int .i64 0), (.int .i64 0), (.int .i64 0), (.int .i64 0), (.int .i64 0), (.int .i64 0), (.int .i64 0), (.int .i64 0), (.int .i64 0), (.int .i64 0), (.int .i64 0), (.int .i64 0), (.int .i64 0), (.int .i64 0), (.int .i64 0), (.int .i64 0), (.int .i64 0), (.int .i64 0), (.int .i64 0), (.int .i64 0), (.int .i64 0), (.int .i64 0), (.int .i64 0), (.int .i64 0), (.int .i64 0), (.int .i64 0), (.int .i64 0), (.int .i64 0), (.int .i64 0), (.int .i64 0), (.int .i64 0), (.int .i64 0), (.int .i64 0), (.int .i64 0), (.int .i64 0), (.int .i64 0), (.int .i64 0), (.int .i64 0), (.int .i64 0), (.int .i64 0), (.int .i64 0), (.int .i64 0), (.int .i64 0), (.int .i64 0), (.int .i64 0), (.int .i64 0), (.int .i64 0), (.int .i64 0), (.int .i64 0), (.int .i64 0), (.int .i64 0), (.int .i64 0), (.int .i64 0), (.int .i64 0), (.int .i64 0), (.int .i64 0), (.int .i64 0), (.int .i64 0), (.int .i64 0), (.int .i64 0), (.int .i64 0), (.int .i64 0), (.int .i64 0), (.int .i64 0), (.int .i64 0), (.int .i64 0), (.int .i64 0), (.int .i64 0), (.int .i64 0), (.int .i64 0), (.int .i64 0), (.int .i64 0), (.int .i64 0), (.int .i64 0), (.int .i64 0), (.int .i64 0), (.int .i64 0), (.int .i64 0), (.int .i64 0), (.int .i64 0), (.int .i64 0), (.int .i64 0), (.int .i64 0), (.int .i64 0), (.int .i64 0), (.int .i64 0), (.int .i64 0), (.int .i64 0), (.int .i64 0), (.int .i64 0), (.int .i64 0), (.int .i64 0), (.int .i64 0), (.int .i64 0), (.int .i64 0), (.int .i64 0), (.int .i64 0), (.int .i64 0), (.int .i64 0), (.int .i64 0), (.int .i64 0), (.int .i64 0), (.int .i64 0), (.int .i64 0), (.int .i64 0), (.int .i64 0), (.int .i64 0), (.int .i64 0), (.int .i64 0), (.int .i64 0), (.int .i64 0), (.int .i64 0), (.int .i64 0), (.int .i64 0), (.int .i64 0), (.int .i64 0), (.int .i64 0), (.int .i64 0), (.int .i64 0), (.int .i64 0), (.int .i64 0), (.int .i64 0), (.int .i64 0), (.int .i64 0), (.int .i64 0), (.int .i64 0), (.int .i64 0), (.int .i64 0), (.int .i64 0), (.int .i64 0), (.int .i64 0), (.int .i64 0), (.int .i64 0), (.int .i64 0), (.int .i64 0), (.int .i64 0), (.int .i64 0), (.int .i64 0), (.int .i64 0), (.int .i64 0), (.int .i64 0), (.int .i64 0), (.int .i64 0), (.int .i64 0), (.int .i64 0), (.int .i64 0), (.int .i64 0), (.int .i64 0), (.int .i64 0), (.int .i64 0), (.int .i64 0), (.int .i64 0), (.int .i64 0), (.int .i64 0), (.int .i64 0), (.int .i64 0), (.int .i64 0), (.int .i64 0), (.int .i64 0), (.int .i64 0), (.int .i64 0), (.int .i64 0), (.int .i64 0), (.int .i64 0), (.int .i64 0), (.int .i64 0), (.int .i64 0), (.int .i64 0), (.int .i64 0), (.int .i64 0), (.int .i64 0), (.int .i64 0), (.int .i64 0), (.int .i64 0), (.int .i64 0), (.int .i64 0), (.int .i64 0), (.int .i64 0), (.int .i64 0), (.int .i64 0), (.int .i64 0), (.int .i64 0), (.int .i64 0), (.int .i64 0), (.int .i64 0), (.int .i64 0), (.int .i64 0), (.int .i64 0), (.int .i64 0), (.int .i64 0), (.int .i64 0), (.int .i64 0), (.int .i64 0), (.int .i64 0), (.int .i64 0), (.int .i64 0), (.int .i64 0), (.int .i64 0), (.int .i64 0), (.int .i64 0), (.int .i64 0), (.int .i64 0), (.int .i64 0), (.int .i64 0), (.int .i64 0), (.int .i64 0), (.int .i64 0), (.int .i64 0), (.int .i64 0), (.int .i64 0), (.int .i64 0), (.int .i64 0), (.int .i64 0), (.int .i64 0), (.int .i64 0), (.int .i64 0), (.int .i64 0), (.int .i64 0), (.int .i64 0), (.int .i64 0), (.int .i64 0), (.int .i64 0), (.int .i64 0), (.int .i64 0), (.int .i64 0)]) := by kernel_rfl
end TyV7
open TyV7

set_option maxRecDepth 100000 in
set_option maxHeartbeats 1000000 in
theorem c_vote (cs : List (List UInt8)) (p : Nat) (hc : cs.length ≤ 20) : ACall Tryd.prog 42 [.sl (cs.map (slD u8D)), .v (.int .i64 p)] (.v (.int .u8 ((voteB cs p).toNat : Int))) := by
  refine acall_of (n := 43) (ds' := [.v (.int .u8 ((voteB cs p).toNat : Int))]) Tryd.func42 rfl (by kernel_rfl) rfl [4] rfl rfl ?_
  intro B w0 F0
  refine AWP.seq ?_
  refine AWP.region ?_
  refine AOps.step rfl rfl rfl (AOp.assignD rfl rfl) ?_
  refine AOps.nil ?_
  refine AWP.seq ?_
  refine AWP.region ?_
  refine AOps.alloc 101 rfl rfl rfl rfl zt_75 rfl rfl rfl ?_
  refine AOps.nil ?_
  refine AWP.seq ?_
  refine AWP.seq ?_
  refine AWP.region ?_
  refine AOps.step rfl rfl rfl (AOp.moveD rfl rfl) ?_
  refine AOps.step rfl rfl rfl (AOp.lenSl rfl et_33.ht rfl) ?_
  refine AOps.step rfl rfl rfl (AOp.moveD rfl rfl) ?_
  refine AOps.nil ?_
  refine AWP.block ?_
  refine AWP.loop (G := Nat) (fun k => Env.of [(12, .d (.v (.int .i64 (k : Int)))), (10, .d (.sl (cs.map (slD u8D)))), (11, .d (.v (.int .i64 ((cs.map (slD u8D)).length : Int)))), (1, .d (.v (.int .i64 (p : Int)))), (5, .ptr 101 0)]) (fun k => [(101, .cells (cntS (cntK cs p k)))]) (fun k => k ≤ cs.length) (fun k => cs.length - k) 0 (Nat.zero_le _) (Sub.less ⟨(SLe.of_eq rfl), SLe.refl _, SLe.refl _, SLe.refl _, SLe.refl _, trivial⟩ (by dsimp only; rw [cntS_zero]; exact fun _ h => h)) ?_
  intro k hk
  refine AWP.seq ?_
  refine AWP.region ?_
  refine AOps.step rfl rfl rfl (AOp.lss rfl rfl rfl) ?_
  refine AOps.nil ?_
  refine AWP.seq ?_
  refine AWP.cond rfl (fun h1 => ?_) (fun h1 => ?_)
  · replace h1 := of_decide_eq_true h1
    rw [List.length_map] at h1
    have hlt : k < cs.length := by omega
    have hcl := cntK_le cs p k
    refine AWP.skip ?_
    refine AWP.seq ?_
    refine AWP.block ?_
    refine AWP.seq ?_
    refine AWP.region ?_
    refine AOps.step rfl rfl rfl (AOp.indexAddr rfl et_33 rfl rfl k rfl (at_map hlt) rfl) ?_
    refine AOps.step rfl rfl rfl (AOp.load rfl sc_22 rfl) ?_
    refine AOps.step rfl rfl rfl (AOp.assignD rfl rfl) ?_
    refine AOps.nil ?_
    refine AWP.seq ?_
    refine AWP.region ?_
    refine AOps.step rfl rfl rfl (AOp.moveD rfl rfl) ?_
    refine AOps.step rfl rfl rfl (AOp.moveD rfl rfl) ?_
    refine AOps.step rfl rfl rfl (AOp.lenSl rfl et_22.ht rfl) ?_
    refine AOps.step rfl rfl rfl (AOp.lss rfl rfl rfl) ?_
    refine AOps.nil ?_
    refine AWP.cond rfl (fun h2 => ?_) (fun h2 => ?_)
    · replace h2 := of_decide_eq_true h2
      rw [List.length_map] at h2
      obtain ⟨c, hcc⟩ : ∃ c, cs[k][p]? = some c := ⟨cs[k][p]'(by omega), List.getElem?_eq_getElem (by omega)⟩
      have hu := cntS_upd cs p k hlt c hcc
      have hc8 := c.toNat_lt
      have hclc := hcl c.toNat
      refine AWP.region ?_
      refine AOps.step rfl rfl rfl (AOp.moveD rfl rfl) ?_
      refine AOps.step rfl rfl rfl (AOp.moveD rfl rfl) ?_
      refine AOps.step rfl rfl rfl (AOp.indexAddr rfl et_22 rfl rfl p rfl (at_map2 hcc) rfl) ?_
      refine AOps.step rfl rfl rfl (AOp.load rfl sc_5 rfl) ?_
      refine AOps.step rfl rfl rfl (AOp.indexArrP rfl ar_75 rfl rfl c.toNat rfl hc8) ?_
      refine AOps.step rfl rfl rfl (AOp.loadP rfl sc_3 rfl (.head _) (cntS_at _ _ hc8)) ?_
      refine AOps.step rfl rfl rfl (AOp.add64 rfl rfl rfl (by omega) (by omega)) ?_
      refine AOps.step rfl rfl rfl (AOp.indexArrP rfl ar_75 rfl rfl c.toNat rfl hc8) ?_
      refine AOps.store rfl rfl rfl sz_3 rfl (.head _) rfl rfl rfl (by simp [cntS]; omega) ?_
      refine AOps.nil ?_
      refine AWP.region ?_
      refine AOps.step rfl rfl rfl (AOp.add64 rfl rfl rfl (by omega) (by omega)) ?_
      refine AOps.step rfl rfl rfl (AOp.moveD rfl rfl) ?_
      refine AOps.nil ?_
      refine ⟨k + 1, (by omega), (by dsimp only; omega), Sub.less ⟨(SLe.of_eq rfl), SLe.refl _, SLe.refl _, SLe.refl _, SLe.refl _, trivial⟩ (by dsimp only; rw [← hu]; exact fun _ h => h)⟩
    · replace h2 := of_decide_eq_false h2
      rw [List.length_map] at h2
      have hu := cntK_none cs p k hlt (by omega)
      refine AWP.skip ?_
      refine AWP.region ?_
      refine AOps.step rfl rfl rfl (AOp.add64 rfl rfl rfl (by omega) (by omega)) ?_
      refine AOps.step rfl rfl rfl (AOp.moveD rfl rfl) ?_
      refine AOps.nil ?_
      refine ⟨k + 1, (by omega), (by dsimp only; omega), Sub.less ⟨(SLe.of_eq rfl), SLe.refl _, SLe.refl _, SLe.refl _, SLe.refl _, trivial⟩ (by dsimp only; rw [hu]; exact fun _ h => h)⟩
  · replace h1 := of_decide_eq_false h1
    rw [List.length_map] at h1
    obtain rfl : k = cs.length := by omega
    refine AWP.exit ?_
    refine AWP.seq ?_
    refine AWP.region ?_
    refine AOps.step rfl rfl rfl (AOp.assignD rfl rfl) ?_
    refine AOps.nil ?_
    refine AWP.seq ?_
    refine AWP.seq ?_
    refine AWP.region ?_
    refine AOps.step rfl rfl rfl (AOp.moveD rfl rfl) ?_
    refine AOps.nil ?_
    refine AWP.block ?_
    refine AWP.loop (G := Nat) (fun k => Env.of [(29, .d (.v (.int .i64 (k : Int)))), (8, .d (.v (.int .i64 (bestR (cntK cs p cs.length) k : Int)))), (5, .ptr 101 0)]) (fun k => [(101, .cells (cntS (cntK cs p cs.length)))]) (fun k => k ≤ 256) (fun k => 256 - k) 0 (Nat.zero_le _) (Sub.less ⟨(SLe.of_eq rfl), (SLe.of_eq rfl), SLe.refl _, trivial⟩ (fun _ h => h)) ?_
    intro k hk
    refine AWP.seq ?_
    refine AWP.region ?_
    refine AOps.step rfl rfl rfl (AOp.lss rfl rfl rfl) ?_
    refine AOps.nil ?_
    refine AWP.seq ?_
    refine AWP.cond rfl (fun h3 => ?_) (fun h3 => ?_)
    · replace h3 := of_decide_eq_true h3
      have hlt : k < 256 := by omega
      have hbl := (bestR_lt (cntK cs p cs.length) k).1
      refine AWP.skip ?_
      refine AWP.seq ?_
      refine AWP.block ?_
      refine AWP.seq ?_
      refine AWP.region ?_
      refine AOps.step rfl rfl rfl (AOp.moveD rfl rfl) ?_
      refine AOps.step rfl rfl rfl (AOp.assignD rfl rfl) ?_
      refine AOps.nil ?_
      refine AWP.seq ?_
      refine AWP.draw (by kernel_rfl) (by kernel_rfl) ?_
      refine DRun.step rfl rfl rfl (AOp.moveD rfl rfl) ?_
      refine DRun.step rfl rfl rfl (AOp.indexArrP rfl ar_75 rfl rfl k rfl hlt) ?_
      refine DRun.step rfl rfl rfl (AOp.loadP rfl sc_3 rfl (.head _) (cntS_at _ _ hlt)) ?_
      refine DRun.step rfl rfl rfl (AOp.moveD rfl rfl) ?_
      refine DRun.step rfl rfl rfl (AOp.indexArrP rfl ar_75 rfl rfl _ rfl (show bestR (cntK cs p cs.length) k < 256 by omega)) ?_
      refine DRun.step rfl rfl rfl (AOp.loadP rfl sc_3 rfl (.head _) (cntS_at _ _ (by omega))) ?_
      refine DRun.step rfl rfl rfl (AOp.gtr rfl rfl rfl) ?_
      refine DRun.nil ?_
      refine AWP.cond rfl (fun h4 => ?_) (fun h4 => ?_)
      · replace h4 := of_decide_eq_true h4
        have hb : bestR (cntK cs p cs.length) (k + 1) = k := by simp only [bestR]; rw [if_pos (by omega)]
        refine AWP.region ?_
        refine AOps.step rfl rfl rfl (AOp.moveD rfl rfl) ?_
        refine AOps.step rfl rfl rfl (AOp.assignD rfl rfl) ?_
        refine AOps.nil ?_
        refine AWP.region ?_
        refine AOps.step rfl rfl rfl (AOp.add64 rfl rfl rfl (by omega) (by omega)) ?_
        refine AOps.step rfl rfl rfl (AOp.moveD rfl rfl) ?_
        refine AOps.nil ?_
        refine ⟨k + 1, (by omega), (by dsimp only; omega), Sub.less ⟨(SLe.of_eq rfl), (SLe.of_eq (by rw [hb]; rfl)), SLe.refl _, trivial⟩ (fun _ h => h)⟩
      · replace h4 := of_decide_eq_false h4
        have hb : bestR (cntK cs p cs.length) (k + 1) = bestR (cntK cs p cs.length) k := by simp only [bestR]; rw [if_neg (by omega)]
        refine AWP.skip ?_
        refine AWP.region ?_
        refine AOps.step rfl rfl rfl (AOp.add64 rfl rfl rfl (by omega) (by omega)) ?_
        refine AOps.step rfl rfl rfl (AOp.moveD rfl rfl) ?_
        refine AOps.nil ?_
        refine ⟨k + 1, (by omega), (by dsimp only; omega), Sub.less ⟨(SLe.of_eq rfl), (SLe.of_eq (by rw [hb]; rfl)), SLe.refl _, trivial⟩ (fun _ h => h)⟩
    · replace h3 := of_decide_eq_false h3
      obtain rfl : k = 256 := by omega
      refine AWP.exit ?_
      refine AWP.seq ?_
      refine AWP.region ?_
      refine AOps.step rfl rfl rfl (AOp.moveD rfl rfl) ?_
      refine AOps.step rfl rfl rfl (AOp.convInt rfl cv_3_5 rfl) ?_
      refine AOps.step rfl rfl rfl (AOp.assignD rfl rfl) ?_
      refine AOps.nil ?_
      refine AWP.ret ?_
      refine ⟨RetD.eq rfl ?_, trivial⟩
      all_goals (rw [voteB_nat])


/-- The block that is found: the first right one's, or the votes. -/
def repB (n b : Nat) (sums : List Nat) (cs : List (List UInt8)) (i : Nat) : List UInt8 :=
  match cs.find? fun c => rightB n b sums (c.take n) i with
  | some c => chunk (c.take n) b i
  | none => (List.range (min b (n - i * b))).map fun k => voteB cs (i * b + k)
theorem repB_yes {n b : Nat} {sums : List Nat} {cs : List (List UInt8)} {i k : Nat} (hk : k < cs.length) (h : ∀ c ∈ cs.take k, rightB n b sums (c.take n) i = false) (hr : rightB n b sums (cs[k].take n) i = true) : repB n b sums cs i = chunk (cs[k].take n) b i := by
  have : cs.find? (fun c => rightB n b sums (c.take n) i) = some cs[k] := by
    rw [List.find?_eq_some_iff_getElem]
    refine ⟨hr, k, hk, rfl, fun j hj => ?_⟩
    have := h cs[j] (by rw [List.mem_take_iff_getElem]; exact ⟨j, by omega, rfl⟩)
    simp [this]
  unfold repB
  rw [this]
theorem repB_no {n b : Nat} {sums : List Nat} {cs : List (List UInt8)} {i : Nat} (h : ∀ c ∈ cs.take cs.length, rightB n b sums (c.take n) i = false) : repB n b sums cs i = (List.range (min b (n - i * b))).map fun k => voteB cs (i * b + k) := by
  have : cs.find? (fun c => rightB n b sums (c.take n) i) = none := by
    rw [List.find?_eq_none]
    intro c hc
    rw [h c (by rw [List.take_length]; exact hc)]
    simp
  unfold repB
  rw [this]
theorem repB_len (n b : Nat) (sums : List Nat) (cs : List (List UInt8)) (i : Nat) : (repB n b sums cs i).length ≤ b := by
  unfold repB
  split
  · unfold chunk; exact List.length_take_le _ _
  · simp; omega
theorem right_fnv {n b : Nat} {sums : List Nat} {bs : List UInt8} {i : Nat} (h : rightB n b sums bs i = true) : fnv (chunk bs b i) = sums.getD i 0 := by
  unfold rightB at h
  simp only [Bool.and_eq_true, decide_eq_true_eq] at h
  omega
theorem take_false {α : Type} {p : α → Bool} {l : List α} {k : Nat} (hk : k < l.length) (h : ∀ c ∈ l.take k, p c = false) (h2 : p l[k] = false) : ∀ c ∈ l.take (k + 1), p c = false := by
  intro c hc
  rw [List.take_succ_eq_append_getElem hk, List.mem_append] at hc
  rcases hc with hc | hc
  · exact h c hc
  · simp at hc; rw [hc]; exact h2
/-- The votes so far, the rest zero. -/
def fillD' (f : Nat → UInt8) (sz k : Nat) : List (List D) := (List.range sz).map fun j => if j < k then u8D (f j) else [D.v (.int .u8 0)]
theorem fill_zero (f : Nat → UInt8) (sz : Nat) : fillD' f sz 0 = List.replicate sz [D.v (.int .u8 0)] := by
  unfold fillD'
  simp only [Nat.not_lt_zero, if_false]
  rw [List.map_const', List.length_range]
theorem fill_succ (f : Nat → UInt8) (sz k : Nat) : (fillD' f sz k).set k (u8D (f k)) = fillD' f sz (k + 1) := by
  unfold fillD'
  rw [range_set]
  apply List.map_congr_left
  intro j _
  by_cases h : j = k
  · subst h; simp
  · rw [if_neg h]
    by_cases h2 : j < k
    · rw [if_pos h2, if_pos (by omega)]
    · rw [if_neg h2, if_neg (by omega)]
theorem fill_all (f : Nat → UInt8) (sz : Nat) : fillD' f sz sz = ((List.range sz).map f).map u8D := by
  unfold fillD'
  rw [List.map_map]
  apply List.map_congr_left
  intro j hj
  rw [if_pos (by simpa using hj)]
  rfl
theorem fill_len (f : Nat → UInt8) (sz k : Nat) : (fillD' f sz k).length = sz := by simp [fillD']
theorem fill_at (f : Nat → UInt8) (sz k : Nat) (h : k < sz) : (fillD' f sz k)[k]? = some [D.v (.int .u8 0)] := by simp [fillD', h]
theorem min_nat (n b i : Nat) (h : i * b ≤ n) : min (b : Int) ((n : Int) - (i : Int) * (b : Int)) = ((min b (n - i * b) : Nat) : Int) := by
  rw [← Int.natCast_mul]; omega


set_option maxRecDepth 100000 in
set_option maxHeartbeats 1000000 in
theorem c_repaired (item : ByteArray) (n b : Nat) (sums : List Nat) (cs : List (List UInt8)) (i : Nat) (hb1 : 1 ≤ b) (hb : b ≤ 20000) (hn : n ≤ 20000) (hl : sums.length ≤ 1000) (hi : i < sums.length) (hin : i * b ≤ n) (hc : cs.length ≤ 20) : ACall Tryd.prog 31 [.agg (manD item n b sums), .sl (cs.map (slD u8D)), .v (.int .i64 i)] (.sl ((repB n b sums cs i).map u8D)) := by
  have hm := mulb i b (by omega) hb
  have hmn := min_nat n b i hin
  have hmc : (i : Int) * (b : Int) = ((i * b : Nat) : Int) := (Int.natCast_mul i b).symm
  refine acall_of (n := 53) (ds' := [.sl ((repB n b sums cs i).map u8D)]) Tryd.func31 rfl (by kernel_rfl) rfl [6] rfl rfl ?_
  intro B w0 F0
  refine AWP.seq ?_
  refine AWP.region ?_
  refine AOps.step rfl rfl rfl (AOp.box rfl rfl rfl) ?_
  refine AOps.step rfl rfl rfl (AOp.assignD rfl rfl) ?_
  refine AOps.nil ?_
  refine AWP.seq ?_
  refine AWP.seq ?_
  refine AWP.region ?_
  refine AOps.step rfl rfl rfl (AOp.moveD rfl rfl) ?_
  refine AOps.step rfl rfl rfl (AOp.lenSl rfl et_33.ht rfl) ?_
  refine AOps.step rfl rfl rfl (AOp.moveD rfl rfl) ?_
  refine AOps.nil ?_
  refine AWP.block ?_
  refine AWP.loop (G := Nat) (fun k => Env.of [(13, .d (.v (.int .i64 (k : Int)))), (11, .d (.sl (cs.map (slD u8D)))), (12, .d (.v (.int .i64 ((cs.map (slD u8D)).length : Int)))), (1, .d (.sl (cs.map (slD u8D)))), (3, .d (.fp (manD item n b sums))), (2, .d (.v (.int .i64 (i : Int))))]) (fun k => []) (fun k => k ≤ cs.length ∧ ∀ c ∈ cs.take k, rightB n b sums (c.take n) i = false) (fun k => cs.length - k) 0 ⟨Nat.zero_le _, fun c h => by simp at h⟩ (Sub.less ⟨(SLe.of_eq rfl), SLe.refl _, SLe.refl _, SLe.refl _, SLe.refl _, SLe.refl _, trivial⟩ (fun _ h => h)) ?_
  intro k hk
  refine AWP.seq ?_
  refine AWP.region ?_
  refine AOps.step rfl rfl rfl (AOp.lss rfl rfl rfl) ?_
  refine AOps.nil ?_
  refine AWP.seq ?_
  refine AWP.cond rfl (fun h1 => ?_) (fun h1 => ?_)
  · replace h1 := of_decide_eq_true h1
    rw [List.length_map] at h1
    have hlt : k < cs.length := by omega
    refine AWP.skip ?_
    refine AWP.seq ?_
    refine AWP.block ?_
    refine AWP.seq ?_
    refine AWP.region ?_
    refine AOps.step rfl rfl rfl (AOp.indexAddr rfl et_33 rfl rfl k rfl (at_map hlt) rfl) ?_
    refine AOps.step rfl rfl rfl (AOp.load rfl sc_22 rfl) ?_
    refine AOps.step rfl rfl rfl (AOp.assignD rfl rfl) ?_
    refine AOps.nil ?_
    refine AWP.seq ?_
    refine AWP.draw (by kernel_rfl) (by kernel_rfl) ?_
    refine DRun.step rfl rfl rfl (AOp.loadAgg rfl ag_25 rfl rfl) ?_
    refine DRun.step rfl rfl rfl (AOp.loadAgg rfl ag_25 rfl rfl) ?_
    refine DRun.step rfl rfl rfl (AOp.moveD rfl rfl) ?_
    refine DRun.step rfl rfl rfl (AOp.call rfl (.cons (ArgOk.rfl' rfl) (.cons (ArgOk.rfl' rfl) .nil)) (c_whole item n b sums cs[k])) ?_
    refine DRun.step rfl rfl rfl (AOp.moveD rfl rfl) ?_
    refine DRun.step rfl rfl rfl (AOp.call rfl (.cons (ArgOk.rfl' rfl) (.cons (ArgOk.rfl' rfl) (.cons (ArgOk.rfl' rfl) .nil))) (c_pright item n b sums (cs[k].take n) i hb hn hl hi)) ?_
    refine DRun.nil ?_
    refine AWP.cond rfl (fun h2 => ?_) (fun h2 => ?_)
    · skip
      have hR := repB_yes hlt hk.2 h2
      refine AWP.seq ?_
      refine AWP.draw (by kernel_rfl) (by kernel_rfl) ?_
      refine DRun.step rfl rfl rfl (AOp.loadAgg rfl ag_25 rfl rfl) ?_
      refine DRun.step rfl rfl rfl (AOp.moveD rfl rfl) ?_
      refine DRun.step rfl rfl rfl (AOp.call rfl (.cons (ArgOk.rfl' rfl) (.cons (ArgOk.rfl' rfl) .nil)) (c_whole item n b sums cs[k])) ?_
      refine DRun.step rfl rfl rfl (AOp.fieldAddr rfl fo_25_2 rfl) ?_
      refine DRun.step rfl rfl rfl (AOp.load rfl sc_3 rfl) ?_
      refine DRun.step rfl rfl rfl (AOp.moveD rfl rfl) ?_
      refine DRun.step rfl rfl rfl (AOp.call rfl (.cons (ArgOk.rfl' rfl) (.cons (ArgOk.rfl' rfl) (.cons (ArgOk.rfl' rfl) .nil))) (c_blockOf (cs[k].take n) b i (by omega) (by omega))) ?_
      refine DRun.step rfl rfl rfl (AOp.assignD rfl rfl) ?_
      refine DRun.nil ?_
      refine AWP.ret ?_
      refine ⟨RetD.eq rfl ?_, trivial⟩
      all_goals (first | (rw [hR]; done) | (rw [hR]; rfl) | (rw [fill_all]; done))
    · skip
      have hT := take_false hlt hk.2 h2
      refine AWP.skip ?_
      refine AWP.region ?_
      refine AOps.step rfl rfl rfl (AOp.add64 rfl rfl rfl (by omega) (by omega)) ?_
      refine AOps.step rfl rfl rfl (AOp.moveD rfl rfl) ?_
      refine AOps.nil ?_
      refine ⟨k + 1, ⟨by omega, hT⟩, (by dsimp only; omega), Sub.less ⟨(SLe.of_eq rfl), SLe.refl _, SLe.refl _, SLe.refl _, SLe.refl _, SLe.refl _, trivial⟩ (fun _ h => h)⟩
  · replace h1 := of_decide_eq_false h1
    rw [List.length_map] at h1
    have hR := repB_no (fun c hc2 => hk.2 c (by rw [show k = cs.length by omega]; exact hc2))
    rw [hR]
    refine AWP.exit ?_
    refine AWP.seq ?_
    refine AWP.region ?_
    refine AOps.step rfl rfl rfl (AOp.loadAgg rfl ag_25 rfl rfl) ?_
    refine AOps.step rfl rfl rfl (AOp.moveD rfl rfl) ?_
    refine AOps.step rfl rfl rfl (AOp.call rfl (.cons (ArgOk.rfl' rfl) (.cons (ArgOk.rfl' rfl) .nil)) (c_sizeOf item n b sums i hb hn (by omega))) ?_
    refine AOps.makeI 101 (min b (n - i * b)) rfl rfl rfl rfl et_22 rfl rfl hmn (by omega) (by omega) rfl rfl ?_
    refine AOps.step rfl rfl rfl (AOp.assignO rfl rfl) ?_
    refine AOps.nil ?_
    refine AWP.seq ?_
    refine AWP.seq ?_
    refine AWP.region ?_
    refine AOps.step rfl rfl rfl (AOp.moveO rfl rfl) ?_
    refine AOps.step rfl rfl rfl (AOp.lenOwn rfl et_22.ht rfl (.head _)) ?_
    refine AOps.step rfl rfl rfl (AOp.moveD rfl rfl) ?_
    refine AOps.nil ?_
    refine AWP.block ?_
    refine AWP.loop (G := Nat) (fun k => Env.of [(37, .d (.v (.int .i64 (k : Int)))), (36, .d (.v (.int .i64 (((fillD' (fun j => voteB cs (i * b + j)) (min b (n - i * b)) k).length : Nat) : Int)))), (1, .d (.sl (cs.map (slD u8D)))), (3, .d (.fp (manD item n b sums))), (2, .d (.v (.int .i64 (i : Int)))), (9, .own 101)]) (fun k => [(101, .row 5 1 (fillD' (fun j => voteB cs (i * b + j)) (min b (n - i * b)) k))]) (fun k => k ≤ (min b (n - i * b))) (fun k => (min b (n - i * b)) - k) 0 (Nat.zero_le _) (Sub.less ⟨(SLe.of_eq rfl), (SLe.of_eq (by rw [fill_zero]; rfl)), SLe.refl _, SLe.refl _, SLe.refl _, SLe.refl _, trivial⟩ (by rw [fill_zero]; exact fun _ h => h)) ?_
    intro k hk
    refine AWP.seq ?_
    refine AWP.region ?_
    refine AOps.step rfl rfl rfl (AOp.lss rfl rfl rfl) ?_
    refine AOps.nil ?_
    refine AWP.seq ?_
    refine AWP.cond rfl (fun h3 => ?_) (fun h3 => ?_)
    · replace h3 := of_decide_eq_true h3
      rw [fill_len] at h3
      have hlt : k < min b (n - i * b) := by omega
      have hfl := fill_len (fun j => voteB cs (i * b + j)) (min b (n - i * b)) k
      refine AWP.skip ?_
      refine AWP.seq ?_
      refine AWP.block ?_
      refine AWP.seq ?_
      refine AWP.region ?_
      refine AOps.step rfl rfl rfl (AOp.moveD rfl rfl) ?_
      refine AOps.step rfl rfl rfl (AOp.assignD rfl rfl) ?_
      refine AOps.nil ?_
      refine AWP.region ?_
      refine AOps.step rfl rfl rfl (AOp.moveO rfl rfl) ?_
      refine AOps.step rfl rfl rfl (AOp.moveD rfl rfl) ?_
      refine AOps.step rfl rfl rfl (AOp.moveD rfl rfl) ?_
      refine AOps.step rfl rfl rfl (AOp.moveD rfl rfl) ?_
      refine AOps.step rfl rfl rfl (AOp.fieldAddr rfl fo_25_2 rfl) ?_
      refine AOps.step rfl rfl rfl (AOp.load rfl sc_3 rfl) ?_
      refine AOps.step rfl rfl rfl (AOp.mul64 rfl rfl rfl (by omega) (by omega)) ?_
      refine AOps.step rfl rfl rfl (AOp.moveD rfl rfl) ?_
      refine AOps.step rfl rfl rfl (AOp.add64 rfl rfl rfl (by omega) (by omega)) ?_
      refine AOps.step rfl rfl rfl (AOp.call rfl (.cons (ArgOk.rfl' rfl) (.cons (ArgOk.rfl' rfl) .nil)) (by have := c_voted cs (i * b + k) hc; rw [Int.natCast_add, Int.natCast_mul] at this; exact this)) ?_
      refine AOps.step rfl rfl rfl (AOp.indexOwn rfl et_22 rfl rfl (.head _) k rfl (by omega)) ?_
      refine AOps.storeRow rfl rfl rfl sz_5 rfl (.head _) rfl rfl rfl k 0 rfl (fill_at _ _ _ hlt) (by decide) ?_
      refine AOps.nil ?_
      refine AWP.region ?_
      refine AOps.step rfl rfl rfl (AOp.add64 rfl rfl rfl (by omega) (by omega)) ?_
      refine AOps.step rfl rfl rfl (AOp.moveD rfl rfl) ?_
      refine AOps.nil ?_
      refine ⟨k + 1, (by omega), (by dsimp only; omega), Sub.less ⟨(SLe.of_eq rfl), (SLe.of_eq (by rw [fill_len, fill_len]; rfl)), SLe.refl _, SLe.refl _, SLe.refl _, SLe.refl _, trivial⟩ (by dsimp only; rw [← fill_succ]; exact fun _ h => h)⟩
    · replace h3 := of_decide_eq_false h3
      rw [fill_len] at h3
      obtain rfl : k = min b (n - i * b) := by omega
      refine AWP.exit ?_
      refine AWP.seq ?_
      refine AWP.region ?_
      refine AOps.step rfl rfl rfl (AOp.moveO rfl rfl) ?_
      refine AOps.step rfl rfl rfl (AOp.assignO rfl rfl) ?_
      refine AOps.nil ?_
      refine AWP.ret ?_
      refine ⟨RetD.own rfl (.head _) ?_, trivial⟩
      all_goals (first | (rw [hR]; done) | (rw [hR]; rfl) | (rw [fill_all]; done))

end Go.Proofs.YtkflhehocbaoiaaDoor
