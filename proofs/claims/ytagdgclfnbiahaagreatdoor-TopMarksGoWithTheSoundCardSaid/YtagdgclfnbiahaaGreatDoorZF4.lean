/- Walks and laws over abstract values, merged by tools/merge.py. No statement of the seat. -/
import Derived.WalkKit
import Derived.Ground.NamesProg
import Derived.Shelf.Small.Bits
import Derived.Test.YtagdgclfnbiahaaGreatDoorProg
import Derived.Test.YtagdgclfnbiahaaGreatDoorZF3

namespace Go.Proofs.YtagdgclfnbiahaaGreatDoor
open Go.RowKit
set_option linter.unusedVariables false

/-- What the operation gives depends on x's value alone; or it gives nothing. -/
def PureOp (P : Program) (o : Oper) (x : Operand) : Prop := ∀ u : Value, (∃ v, ∀ (a : Act) (w : World), a.eval x = u → (execOp a.eval o).run P w = .ok (.value v) w) ∨
  (∀ (a : Act) (w : World) (K : Act → World → Prop) (Q : Exit → Act → World → Prop), (∀ e a w, e ≠ .normal → ¬ Q e a w) → a.eval x = u → ¬ o.wp P a w K Q)
/-- From k on each one waits for all before it, but for those of L ahead of k. -/
def Region.chainLB (ops : Array Oper) (L : Nat → Bool) (k : Nat) : Bool := Region.downB ops && Nat.ble k ops.size && (List.range (ops.size - 1)).all fun j =>
  (L j && Nat.blt j k) || (List.range ops.size).any fun m => Nat.blt j m && (Nat.ble m k || Nat.ble m (j + 1)) && (!(L m) || Nat.ble k m) && Region.edge ops m j
structure ChainL (ops : Array Oper) (L : Nat → Bool) (k : Nat) : Prop where
  down : Region.downB ops = true
  le : k ≤ ops.size
  next : ∀ j, (L j = false ∨ k ≤ j) → j < ops.size - 1 → ∃ m, j < m ∧ (m ≤ k ∨ m ≤ j + 1) ∧ (L m = false ∨ k ≤ m) ∧ Region.edge ops m j = true
section
variable {P : Program} {ops : Array Oper} {Q Q0 : Exit → Act → World → Prop} {k : Nat} {L : Nat → Bool}
/-- The operations of L: pure, unguarded, apart from whoever is not bound to come after. -/
structure LateOk (P : Program) (ops : Array Oper) (L : Nat → Bool) (k : Nat) : Prop where
  op : ∀ i, L i = true → i < k → ∃ oi x d, ops[i]? = some oi ∧ PureOp P oi x ∧ (∀ t, x = .tmp t → t ∈ oi.looksAt ops) ∧ oi.dst = some d ∧ oi.guard = none
  sel : ∀ (j : Nat) (oj : Oper), ops[j]? = some oj → notSelect oj = true
  apart : ∀ i oi, L i = true → i < k → ops[i]? = some oi → ∀ (j : Nat) (oj : Oper), ops[j]? = some oj → j ≠ i → (∀ e ∈ oj.after, Region.binds .any e = true → e.on ≠ i) → (∀ e ∈ oi.after, Region.binds .any e = true → e.on ≠ j) → oi.apart ops oj = true
end
/-- The late ones, by a look at them. -/
def pureB (o : Oper) : Bool := (match o.op with | .move _ => true | .extract _ _ => true | _ => false) && o.guard.isNone && o.dst.isSome
def lateB (ops : Array Oper) (L : List Nat) (k : Nat) : Bool := (ops.toList.all notSelect) && L.all fun i => Nat.blt i k && ((ops[i]?).map fun oi => pureB oi && (List.range ops.size).all fun j => Nat.beq j i || Region.edge ops j i || Region.edge ops i j || ((ops[j]?).map fun oj => oi.apart ops oj).getD true).getD false
def QN (Q : Post) : Post := fun ex e σ => match ex with | .normal => Q .normal e σ | _ => False
end Go.Proofs.YtagdgclfnbiahaaGreatDoor

namespace Go.Proofs.YtagdgclfnbiahaaGreatDoor
open Go.RowKit
set_option linter.unusedVariables false

/-! Types. -/
namespace TyXD
theorem ag_34 : AggT Tryz.prog 34 2 := .of (by kernel_rfl)
theorem bu_24 : StructT Tryz.prog 24 (fun i => (#[(0, 1), (1, 1)] : Array (Nat × Nat))[i]?) [(.int .i64 0), (.slice none 0 0)] := .of (by kernel_rfl) (by kernel_rfl) (by decide)
theorem sz_22 : ∀ w, (sizeOf 22).run Tryz.prog w = .ok 1 w := SizeT.of (by kernel_rfl)
theorem sz_24 : ∀ w, (sizeOf 24).run Tryz.prog w = .ok 2 w := SizeT.of (by kernel_rfl)
theorem zt_24 : (Tryz.prog.info? 24).bind (·.zero) = some (.agg #[(.int .i64 0), (.slice none 0 0)]) := by kernel_rfl
end TyXD
open TyXA TyXB TyXC TyXD

set_option linter.unusedSimpArgs false
def orI (l : List Int) : Int := (l.find? fun x => decide (x ≠ 0)).getD 0
theorem orI_yes {l : List Int} {k : Nat} (hk : k < l.length) (h : ∀ c ∈ l.take k, decide (c ≠ 0) = false) (h2 : l[k] ≠ 0) : orI l = l[k] := by
  unfold orI
  have e : l = l.take k ++ l[k] :: l.drop (k + 1) := by rw [← List.drop_eq_getElem_cons hk, List.take_append_drop]
  have h3 : (l.take k).find? (fun x => decide (x ≠ 0)) = none := List.find?_eq_none.2 fun x hx => by rw [h x hx]; simp
  have h4 : l.find? (fun x => decide (x ≠ 0)) = some l[k] := by
    have : (l.take k ++ l[k] :: l.drop (k + 1)).find? (fun x => decide (x ≠ 0)) = some l[k] := by
      rw [List.find?_append, h3, List.find?_cons, decide_eq_true h2]; rfl
    rw [← e] at this; exact this
  rw [h4]; rfl
theorem orI_no {l : List Int} (h : ∀ c ∈ l.take l.length, decide (c ≠ 0) = false) : orI l = 0 := by
  unfold orI
  rw [List.find?_eq_none.2 fun x hx => by rw [h x (by rw [List.take_length]; exact hx)]; simp]
  rfl
theorem take_false' {α : Type} {p : α → Bool} {l : List α} {k : Nat} (hk : k < l.length) (h : ∀ c ∈ l.take k, p c = false) (h2 : p l[k] = false) : ∀ c ∈ l.take (k + 1), p c = false := by
  intro c hc
  rw [List.take_add_one, List.getElem?_eq_getElem hk] at hc
  simp only [Option.toList_some, List.mem_append, List.mem_singleton] at hc
  rcases hc with h1 | h1
  · exact h c h1
  · rw [h1]; exact h2

def ap0 (d : Int) : Nat := (max 0 (-d)).toNat
def apN (x y : List Int) (d : Int) : Nat := (min (y.length : Int) ((x.length : Int) - d) - max 0 (-d)).toNat
def apS (x y : List Int) (d : Int) : Nat → Int
  | 0 => 0
  | j + 1 => apS x y d j + xorV (x.getD (((ap0 d + j : Nat) : Int) + d).toNat 0) (y.getD (ap0 d + j) 0)
theorem apS_rng (x y : List Int) (d : Int) : ∀ j, 0 ≤ apS x y d j ∧ apS x y d j ≤ 127 * (j : Int)
  | 0 => ⟨Int.le_refl _, Int.le_refl _⟩
  | j + 1 => by
    have ih := apS_rng x y d j
    have h := xor_rng (x.getD (((ap0 d + j : Nat) : Int) + d).toNat 0) (y.getD (ap0 d + j) 0)
    show 0 ≤ apS x y d j + _ ∧ apS x y d j + _ ≤ _
    omega
/-- How many bits differ where y lies in x from f on. -/
def apF (x y : List Int) (f : Nat) : Int := apS x y (f : Int) y.length
theorem apN_in {x y : List Int} {f : Nat} (h : f + y.length ≤ x.length) : apN x y (f : Int) = y.length := by unfold apN; omega
theorem apN_out {x y : List Int} {d : Int} (h : d < 0 ∨ (x.length : Int) < d + y.length) (hy : 0 < y.length) : apN x y d < y.length := by unfold apN; omega
theorem apF_0 {x : List Int} {f n : Nat} (h : f + n ≤ x.length) : apF x ((x.drop f).take n) f = 0 := by
  have hl : ((x.drop f).take n).length = n := by rw [List.length_take, List.length_drop]; omega
  unfold apF
  rw [hl]
  have key : ∀ j, j ≤ n → apS x ((x.drop f).take n) (f : Int) j = 0 := by
    intro j
    induction j with
    | zero => intro _; rfl
    | succ j ih =>
      intro hj
      show apS x _ (f : Int) j + _ = 0
      have e0 : ap0 (f : Int) = 0 := by unfold ap0; omega
      have e : ((x.drop f).take n).getD (ap0 (f : Int) + j) 0 = x.getD (((ap0 (f : Int) + j : Nat) : Int) + (f : Int)).toNat 0 := by
        rw [e0, Nat.zero_add, show (((j : Nat) : Int) + (f : Int)).toNat = f + j by omega, List.getD_eq_getElem?_getD, List.getD_eq_getElem?_getD, List.getElem?_take, if_pos (by omega), List.getElem?_drop]
      rw [ih (by omega), e, xor_self]; rfl
  exact key n (Nat.le_refl _)
def betV (b1 b2 : Int) : Int := if b1 < b2 then -1 else if b2 < b1 then 1 else 0
theorem bet_or {b1 b2 c : Int} (hc : 0 < c) : orI [if b1 * c < b2 * c then -1 else if b2 * c < b1 * c then 1 else 0, if c < c then -1 else if c < c then 1 else 0] = betV b1 b2 := by
  have h1 : b1 * c < b2 * c ↔ b1 < b2 := Int.mul_lt_mul_right hc
  have h2 : b2 * c < b1 * c ↔ b2 < b1 := Int.mul_lt_mul_right hc
  rw [if_neg (Int.lt_irrefl c), if_neg (Int.lt_irrefl c)]
  unfold betV
  by_cases h3 : b1 < b2
  · rw [if_pos (h1.2 h3), if_pos h3]; rfl
  · rw [if_neg (fun hh => h3 (h1.1 hh)), if_neg h3]
    by_cases h4 : b2 < b1
    · rw [if_pos (h2.2 h4), if_pos h4]; rfl
    · rw [if_neg (fun hh => h4 (h2.1 hh)), if_neg h4]; rfl
theorem mems3 {σ : Obs} {p q r : Nat × Ob} (h1 : p ∈ σ) (h2 : q ∈ σ) (h3 : r ∈ σ) : ∀ x ∈ [p, q, r], x ∈ σ := fun x hx => by
  simp only [List.mem_cons, List.not_mem_nil, or_false] at hx
  rcases hx with rfl | rfl | rfl
  · exact h1
  · exact h2
  · exact h3
def hitD (nm : ByteArray) (o b c : Int) : List D := [.v (.string nm), .v (.int .i64 o), .v (.int .i64 b), .v (.int .i64 c)]

theorem sI_len (l : List Int) : ∀ y ∈ l.map sI, y.length = 1 := fun y hy => by obtain ⟨z, _, rfl⟩ := List.mem_map.1 hy; rfl

set_option maxRecDepth 100000 in
set_option maxHeartbeats 1000000 in
theorem c_clI (l : List Int) (hl : l.length ≤ 1000000) : OCall Tryz.prog 15 [.sl (l.map sI)] 3 1 (l.map sI) := by
 refine ocall_of (n := 8) Tryz.func15 rfl (by kernel_rfl) rfl 2 rfl rfl ?_
 intro B w0 F0 fr
 refine (Classical.em (l = [])).elim (fun hn => ?_) (fun hn => ?_)
 subst hn
 refine .nilOr 0 rfl ?_ (fun ad cap hcap => ?_)
 ·skip
  refine .sr ?_
  refine .aA (.nil ?_)
  refine .seq ?_
  refine .sr ?_
  refine .mA ?_
  refine .sA (.eqNilV rfl Tryz.underlying25 rfl rfl) (.nil ?_)
  refine .cond rfl (fun _ => ?_) (fun h => nomatch h)
  refine .sr ?_
  refine .aA (.nil ?_)
  refine .adopt 2 51 3 1 rfl rfl ?_
  refine .ret ?_
  refine ⟨51, rfl, mem_row_eq (.head _) ?_⟩
  first | rfl | simp
 ·skip
  refine .sr ?_
  refine .aA (.nil ?_)
  refine .seq ?_
  refine .sr ?_
  refine .mA ?_
  refine .sA (.eqNilV rfl Tryz.underlying25 rfl rfl) (.nil ?_)
  refine .cond rfl (fun h => nomatch h) (fun _ => ?_)
  refine .skip ?_
  refine .sr ?_
  refine .build0 102 rfl rfl rfl rfl et_25 rfl ?_
  refine .mA ?_
  refine .le 6 rfl (SLe.d (Le.empty hcap)) ?_
  -- append 7
  refine .append rfl rfl rfl rfl et_25 rfl (.head _) rfl (fun y hy => by first | exact absurd hy List.not_mem_nil | (obtain ⟨x, _, rfl⟩ := List.mem_map.1 hy; rfl)) (by simp; try omega) (by simp; try omega) ?_
  refine .sA (.assignO rfl rfl) (.nil ?_)
  refine .ret ?_
  refine ⟨102, rfl, mem_row_eq (.head _) ?_⟩
  first | rfl | simp
 refine .sr ?_
 refine .aA (.nil ?_)
 refine .seq ?_
 refine .sr ?_
 refine .mA ?_
 refine .sA (.eqNilS rfl Tryz.underlying25 rfl rfl (fun h => hn (List.map_eq_nil_iff.1 h))) (.nil ?_)
 refine .cond rfl (fun h => nomatch h) (fun _ => ?_)
 refine .skip ?_
 refine .sr ?_
 refine .build0 103 rfl rfl rfl rfl et_25 rfl ?_
 refine .mA ?_
 -- append 7
 refine .append rfl rfl rfl rfl et_25 rfl (.head _) rfl (fun y hy => by first | exact absurd hy List.not_mem_nil | (obtain ⟨x, _, rfl⟩ := List.mem_map.1 hy; rfl)) (by simp; try omega) (by simp; try omega) ?_
 refine .sA (.assignO rfl rfl) (.nil ?_)
 refine .ret ?_
 refine ⟨103, rfl, mem_row_eq (.head _) ?_⟩
 first | rfl | simp

set_option maxRecDepth 100000 in
set_option maxHeartbeats 4000000 in
theorem c_cut (s : Snd) (a n : Nat) (ok : SndOk s) (h : a + n ≤ s.len) : ACall Tryz.prog 7 [.agg s.ds, .agg [.v (.int .i64 (a : Int)), .v (.int .i64 ((a + n : Nat) : Int))]] (.tup [.agg (cutS s a n).ds, .v (.int .i64 0)]) := by
 refine acall_ofR (n := 48) (ds' := [.agg (cutS s a n).ds, .v (.int .i64 0)]) Tryz.func7 rfl (by kernel_rfl) rfl [.cell 4 24, .tmp 5] rfl rfl ?_
 intro B w0 F0 fr
 have htl := ok.tl
 have hln := ok.len
 refine .sr ?_
 refine .sA (.box rfl rfl rfl) ?_
 refine .sA (.box rfl rfl rfl) ?_
 refine .alloc 904 rfl rfl rfl rfl zt_24 rfl rfl rfl ?_
 refine .aA (.nil ?_)
 refine .seq ?_
 refine .sr ?_
 refine .sA (.loadAgg rfl ag_24 rfl rfl) ?_
 refine .sA (.call rfl (.cons (.rfl' rfl) .nil) (c_chk s)) ?_
 refine .aA (.nil ?_)
 refine .sr ?_
 refine .mA ?_
 refine .sA (.neq rfl rfl rfl) (.nil ?_)
 refine .cond rfl (fun h1 => ?_) (fun h1 => ?_)
 ·replace h1 := of_decide_eq_true h1
  exact absurd (sndF_ok ok) h1
 replace h1 := of_decide_eq_false h1
 refine .skip ?_
 refine .seq ?_
 refine .sr ?_
 refine .sA (.loadAgg rfl ag_24 rfl rfl) ?_
 refine .sA (.loadAgg rfl ag_34 rfl rfl) ?_
 refine .sA (.call rfl (.cons (.rfl' rfl) (.cons (.rfl' rfl) .nil)) (c_ckC s a n htl.1 h)) ?_
 refine .aA (.nil ?_)
 refine .sr ?_
 refine .mA ?_
 refine .sA (.neq rfl rfl rfl) (.nil ?_)
 refine .cond rfl (fun h2 => ?_) (fun h2 => ?_)
 ·replace h2 := of_decide_eq_true h2
  exact absurd rfl h2
 replace h2 := of_decide_eq_false h2
 refine .skip ?_
 refine .sr ?_
 refine .sA (.fieldAddr rfl fo_24_0 rfl) ?_
 refine .sA (.load rfl sc_3 rfl) ?_
 refine .sA (.build rfl bu_24 (.cons rfl rfl .nil) rfl) ?_
 refine .alloc 908 rfl rfl rfl rfl zt_24 rfl rfl rfl ?_
 refine .store rfl rfl rfl sz_24 rfl (.head _) rfl rfl rfl (Nat.le_of_ble_eq_true rfl) (.nil ?_)
 refine .seq ?_
 refine .seq ?_
 refine .adoptCell 61 25 1 908 1 (.head _) rfl rfl ?_
 refine .region ?_
 refine .sA (.fieldAddr rfl fo_24_1 rfl) ?_
 refine .sA (.load rfl sc_22 rfl) ?_
 refine .sA (.lenSl rfl et_22.ht rfl) ?_
 refine .mA (.nil ?_)
 refine .block ?_
 refine .loop (G := Nat) (fun k => Env.of [(30, .d (.v (.int .i64 (k : Int)))), (28, .d (.sl (s.tracks.map trD))), (29, .d (.v (.int .i64 ((s.tracks.map trD).length : Int)))), (3, .d (.fp [.v (.int .i64 (a : Int)), .v (.int .i64 ((a + n : Nat) : Int))])), (8, .ptr 908 0), (4, .ptr 904 0)]) (fun k => [(61, .row 25 1 (((s.tracks.take k).map (cutT a n)).map trD)), (908, .cells [.d (.v (.int .i64 s.rate)), .own 61]), (904, .cells [.d (.v (.int .i64 0)), .d (.v (.slice none 0 0))])]) (fun k => k ≤ s.tracks.length) (fun k => s.tracks.length - k) 0 (Nat.zero_le _) (Sub.less ⟨(SLe.of_eq rfl), SLe.refl _, SLe.refl _, SLe.refl _, SLe.refl _, SLe.refl _, trivial⟩ (mems3 (.head _) (.tail _ (.head _)) (.tail _ (.tail _ (.head _))))) ?_
 intro k hk
 refine .sr ?_
 refine .sA (.lss rfl rfl rfl) (.nil ?_)
 refine .seq ?_
 refine .cond rfl (fun h3 => ?_) (fun h3 => ?_)
 ·replace h3 := of_decide_eq_true h3
  rw [List.length_map] at h3
  have hlt : k < s.tracks.length := by omega
  have hte := ok.eq _ (List.getElem_mem hlt)
  have HCT : ((s.tracks[k].map sI).drop (a : Int).toNat).take (((a + n : Nat) : Int).toNat - (a : Int).toNat) = (cutT a n s.tracks[k]).map sI := by
   rw [← List.map_drop, ← List.map_take]
   show List.map sI ((s.tracks[k].drop a).take (a + n - a)) = _
   rw [Nat.add_sub_cancel_left]; rfl
  refine .skip ?_
  refine .seq ?_
  refine .block ?_
  refine .sr ?_
  refine .sA (.indexAddr rfl et_22 rfl rfl k rfl (at_lst hlt) rfl) ?_
  refine .sA (.load rfl sc_25 rfl) ?_
  refine .aA (.nil ?_)
  refine .drawTail 10 (by kernel_rfl) (by kernel_rfl) (by kernel_rfl) ?_
  refine .sA (.fieldAddrP rfl fo_24_1 rfl) ?_
  refine .sA (.loadP rfl sc_22 rfl (.tail _ (.head _)) rfl) ?_
  refine .sA (.moveD rfl rfl) ?_
  refine .sA (.fieldAddr rfl fo_34_0 rfl) ?_
  refine .sA (.load rfl sc_3 rfl) ?_
  refine .sA (.fieldAddr rfl fo_34_1 rfl) ?_
  refine .sA (.load rfl sc_3 rfl) ?_
  refine .sA (.sliceLH rfl et_25 rfl rfl rfl (by omega) (by omega) (by rw [List.length_map]; omega) (sI_len _)) ?_
  rw [HCT]
  refine .sA (.call rfl (.cons (.rfl' rfl) .nil) (c_clI (cutT a n s.tracks[k]) (by have := ok.eq _ (List.getElem_mem hlt); unfold cutT; rw [List.length_take, List.length_drop]; omega)).toA) ?_
  refine .sA (.buildSlice rfl et_22 (.cons rfl rfl rfl .nil) rfl (by decide)) ?_
  refine .nil ?_
  -- append 44
  refine .append rfl rfl rfl rfl et_22 rfl (.head _) rfl (by simp [D.parts, trD]) (by simp; omega) (by simp; omega) ?_
  refine .sA (.fieldAddrP rfl fo_24_1 rfl) ?_
  refine .storeS rfl rfl rfl sz_22 rfl (.tail _ (.head _)) rfl (.head _) (Nat.le_of_ble_eq_true rfl) (.nil ?_)
  refine .region ?_
  refine .sA (.add64 rfl rfl rfl (by omega) (by omega)) ?_
  refine .mA (.nil ?_)
  refine ⟨k + 1, (by omega), (by dsimp only; omega), Sub.less ⟨(SLe.of_eq rfl), SLe.refl _, SLe.refl _, SLe.refl _, SLe.refl _, SLe.refl _, trivial⟩ (mems3 (mem_ob_eq (.head _) (row_eqP (by rw [takeS hlt, List.map_append, List.map_append]; rfl))) (.tail _ (.head _)) (.tail _ (.tail _ (.head _))))⟩
 replace h3 := of_decide_eq_false h3
 rw [List.length_map] at h3
 obtain rfl : k = s.tracks.length := by omega
 rw [List.take_length]
 refine .exit ?_
 refine .seq ?_
 refine .freezeIn 908 1 rfl (.head _) (.head _) ?_
 refine .region ?_
 refine .sA (.loadPU rfl ag_24 rfl (.head _) rfl rfl) ?_
 refine .store rfl rfl rfl sz_24 rfl (.tail _ (.head _)) rfl rfl rfl (Nat.le_of_ble_eq_true rfl) ?_
 refine .aA (.nil ?_)
 refine .ret ?_
 refine ⟨RetR.agg rfl (.tail _ (.head _)) ag_24 rfl (.cons (by first | exact CellD.nil | exact CellD.d | exact CellD.eq (by simp) | (refine CellD.own (by first | exact .head _ | exact .tail _ (.head _)) ?_; rfl)) (.cons (by first | exact CellD.nil | exact CellD.d | exact CellD.eq (by simp) | (refine CellD.own (by first | exact .head _ | exact .tail _ (.head _)) ?_; rfl)) .nil)), RetD.eq rfl ?_, trivial⟩
 all_goals (first | rfl)

end Go.Proofs.YtagdgclfnbiahaaGreatDoor

namespace Go.Proofs.YtagdgclfnbiahaaGreatDoor
open Go.RowKit
set_option linter.unusedVariables false

/-! Types. -/
namespace TyXE
theorem cv_3_79 : convB Tryz.prog 3 79 .u64 = true := by kernel_rfl
theorem fo_43_2 : fieldOff Tryz.prog 43 2 = some 2 := by kernel_rfl
theorem fo_43_3 : fieldOff Tryz.prog 43 3 = some 3 := by kernel_rfl
end TyXE
open TyXA TyXB TyXC TyXD TyXE

set_option linter.unusedSimpArgs false
theorem getD_at {l : List Int} {k : Nat} (h : k < l.length) : l.getD k 0 = l[k] := by rw [List.getD_eq_getElem?_getD, List.getElem?_eq_getElem h]; rfl
/-- How many places have been looked at behind t steps. -/
def cT (L n t : Nat) : Nat := min (t + 1 - n) (L + 1)
def fnd (c : Nat) : Bool := decide (0 < c)
def bO (F : Nat → Int) (c : Nat) : Int := if c = 0 then 0 else (bst F (c - 1) : Int)
def bB (F : Nat → Int) (c : Nat) : Int := if c = 0 then 0 else F (bst F (c - 1))
def bC (n c : Nat) : Int := if c = 0 then 0 else 8 * (n : Int)
def bN (nm : ByteArray) (c : Nat) : ByteArray := if c = 0 then ⟨#[]⟩ else nm
def bCells (nm : ByteArray) (F : Nat → Int) (n c : Nat) : Nat × Ob := (910, .cells [.d (.v (.string (bN nm c))), .d (.v (.int .i64 (bO F c))), .d (.v (.int .i64 (bB F c))), .d (.v (.int .i64 (bC n c)))])
theorem bst_up {F : Nat → Int} {d : Nat} (h : d = 0 ∨ F d < bB F d) : bst F d = d := by
  cases d with
  | zero => rfl
  | succ d =>
    have h2 : F (d + 1) < F (bst F d) := by
      rcases h with h | h
      · exact absurd h (Nat.succ_ne_zero d)
      · unfold bB at h
        rw [if_neg (Nat.succ_ne_zero d)] at h
        exact h
    exact if_pos h2
theorem bst_stay {F : Nat → Int} {d : Nat} (h0 : 0 < d) (h : ¬ F d < bB F d) : bst F d = bst F (d - 1) := by
  cases d with
  | zero => exact absurd h0 (Nat.lt_irrefl 0)
  | succ d =>
    have h2 : ¬ F (d + 1) < F (bst F d) := fun hh => h (by unfold bB; rw [if_neg (Nat.succ_ne_zero d)]; exact hh)
    exact if_neg h2
theorem cells_up {nm : ByteArray} {F : Nat → Int} {n d : Nat} (h : bst F d = d) : bCells nm F n (d + 1) = (910, .cells [.d (.v (.string nm)), .d (.v (.int .i64 (d : Int))), .d (.v (.int .i64 (F d))), .d (.v (.int .i64 (8 * (n : Int))))]) := by
  unfold bCells bN bO bB bC
  rw [if_neg (Nat.succ_ne_zero d), if_neg (Nat.succ_ne_zero d), if_neg (Nat.succ_ne_zero d), if_neg (Nat.succ_ne_zero d), Nat.add_sub_cancel, h]
theorem cells_stay {nm : ByteArray} {F : Nat → Int} {n d : Nat} (h0 : 0 < d) (h : bst F d = bst F (d - 1)) : bCells nm F n (d + 1) = bCells nm F n d := by
  unfold bCells bN bO bB bC
  rw [if_neg (Nat.succ_ne_zero d), if_neg (Nat.succ_ne_zero d), if_neg (Nat.succ_ne_zero d), if_neg (Nat.succ_ne_zero d), if_neg (Nat.ne_of_gt h0), if_neg (Nat.ne_of_gt h0), if_neg (Nat.ne_of_gt h0), if_neg (Nat.ne_of_gt h0), Nat.add_sub_cancel, h]
theorem bB_rng {x y : List Int} (c : Nat) : 0 ≤ bB (apF x y) c ∧ bB (apF x y) c ≤ 127 * (y.length : Int) := by
  unfold bB
  split
  · omega
  · exact apS_rng x y _ _

set_option maxRecDepth 100000 in
set_option maxHeartbeats 1000000 in
theorem c_apart (x y : List Int) (d : Int) (hx : x.length ≤ 500) (hy : y.length ≤ 500) (hd : -500 ≤ d ∧ d ≤ 500) : ACall Tryz.prog 36 [.sl (x.map sI), .sl (y.map sI), .v (.int .i64 d)] (.tup [.v (.int .i64 (apS x y d (apN x y d))), .v (.int .i64 (apN x y d : Int))]) := by
 refine acall_of (n := 45) (ds' := [.v (.int .i64 (apS x y d (apN x y d))), .v (.int .i64 (apN x y d : Int))]) Tryz.func36 rfl (by kernel_rfl) rfl [6, 7] rfl rfl ?_
 intro B w0 F0 fr
 have ha0 : ((ap0 d : Nat) : Int) = max 0 (-d) := by unfold ap0; omega
 have hN0 : ((apN x y d : Nat) : Int) = max 0 (min (y.length : Int) ((x.length : Int) - d) - max 0 (-d)) := by unfold apN; omega
 refine .sr ?_
 refine .aA ?_
 refine .aA (.nil ?_)
 refine .seq ?_
 refine .sr ?_
 refine .mA ?_
 refine .sA (.neg64 rfl rfl (by omega) (by omega)) ?_
 refine .sA (.max rfl rfl rfl) ?_
 refine .aA (.nil ?_)
 refine .block ?_
 refine .loop (G := Nat) (fun j => Env.of [(8, .d (.v (.int .i64 (((ap0 d + j) : Nat) : Int)))), (6, .d (.v (.int .i64 (apS x y d j)))), (7, .d (.v (.int .i64 (j : Int)))), (0, .d (.sl (x.map sI))), (1, .d (.sl (y.map sI))), (2, .d (.v (.int .i64 d)))]) (fun j => []) (fun j => j ≤ apN x y d) (fun j => apN x y d - j) 0 (Nat.zero_le _) (Sub.less ⟨(SLe.i64 (by omega)), (SLe.i64 rfl), (SLe.i64 rfl), SLe.refl _, SLe.refl _, SLe.refl _, trivial⟩ (fun _ h => h)) ?_
 intro j hk
 refine .seq ?_
 refine .sr ?_
 refine .mA ?_
 refine .mA ?_
 refine .sA (.lenSl rfl et_25.ht rfl) ?_
 refine .sA (.lss rfl rfl rfl) ?_
 refine .mA ?_
 refine .split 16 rfl (fun g1 => ?_) (fun g1 => ?_)
 ·replace g1 := of_decide_eq_true g1
  rw [List.length_map] at g1
  refine .sG (.moveD rfl rfl) ?_
  refine .sG (.moveD rfl rfl) ?_
  refine .sG (.add64 rfl rfl rfl (by omega) (by omega)) ?_
  refine .sG (.moveD rfl rfl) ?_
  refine .sG (.lenSl rfl et_25.ht rfl) ?_
  refine .sG (.lss rfl rfl rfl) ?_
  refine .sA (.pickT rfl rfl rfl) (.nil ?_)
  refine .cond rfl (fun h2 => ?_) (fun h2 => ?_)
  ·replace h2 := of_decide_eq_true h2
   rw [List.length_map] at h2
   have hjN : j < apN x y d := by omega
   have hyl : (ap0 d + j) < y.length := by omega
   have hxl : ((((ap0 d + j) : Nat) : Int) + d).toNat < x.length := by omega
   have hap := apS_rng x y d j
   have hpr := xor_rng x[((((ap0 d + j) : Nat) : Int) + d).toNat] y[(ap0 d + j)]
   unfold xorV at hpr
   refine .skip ?_
   refine .seq ?_
   refine .block ?_
   refine .seq ?_
   refine .draw (by kernel_rfl) (by kernel_rfl) ?_
   refine .sA (.moveD rfl rfl) ?_
   refine .sA (.moveD rfl rfl) ?_
   refine .sA (.moveD rfl rfl) ?_
   refine .sA (.moveD rfl rfl) ?_
   refine .sA (.add64 rfl rfl rfl (by omega) (by omega)) ?_
   refine .sA (.indexAddr rfl et_25 rfl rfl ((((ap0 d + j) : Nat) : Int) + d).toNat (by omega) (at_lst hxl) rfl) ?_
   refine .sA (.load rfl sc_3 rfl) ?_
   refine .sA (.moveD rfl rfl) ?_
   refine .sA (.moveD rfl rfl) ?_
   refine .sA (.indexAddr rfl et_25 rfl rfl (ap0 d + j) rfl (at_lst hyl) rfl) ?_
   refine .sA (.load rfl sc_3 rfl) ?_
   refine .sA (.xorG rfl rfl rfl) ?_
   refine .sA (.convInt rfl cv_3_79 rfl) ?_
   refine .sA (.call rfl (.cons (.rfl' rfl) .nil) (c_pop _)) ?_
   refine .sA (.add64 rfl rfl rfl (by omega) (by omega)) ?_
   refine .sA (.assignD rfl rfl) ?_
   refine .nil ?_
   refine .region ?_
   refine .mA ?_
   refine .sA (.add64 rfl rfl rfl (by omega) (by omega)) ?_
   refine .aA (.nil ?_)
   refine .region ?_
   refine .mA ?_
   refine .sA (.add64 rfl rfl rfl (by omega) (by omega)) ?_
   refine .aA (.nil ?_)
   refine ⟨j + 1, (by omega), (by dsimp only; omega), Sub.less ⟨(SLe.i64 (by omega)), (SLe.i64 (by show _ = apS x y d j + xorV _ _; rw [getD_at hxl, getD_at hyl]; rfl)), (SLe.i64 (by omega)), SLe.refl _, SLe.refl _, SLe.refl _, trivial⟩ (fun _ h => h)⟩
  replace h2 := of_decide_eq_false h2
  rw [List.length_map] at h2
  have hje : j = apN x y d := by omega
  rw [hje]
  refine .exit ?_
  refine .sr ?_
  refine .mA ?_
  refine .mA ?_
  refine .aA ?_
  refine .aA (.nil ?_)
  refine .ret ?_
  refine ⟨RetD.eq rfl ?_, RetD.eq rfl ?_, trivial⟩
  all_goals (first | rfl)
 replace g1 := of_decide_eq_false g1
 rw [List.length_map] at g1
 have hje : j = apN x y d := by omega
 rw [hje]
 refine .pA ?_
 refine .pA ?_
 refine .pA ?_
 refine .pA ?_
 refine .pA ?_
 refine .pA ?_
 refine .sA (.pickF rfl rfl rfl) (.nil ?_)
 refine .cond rfl (fun h => nomatch h) (fun _ => ?_)
 refine .exit ?_
 refine .sr ?_
 refine .mA ?_
 refine .mA ?_
 refine .aA ?_
 refine .aA (.nil ?_)
 refine .ret ?_
 refine ⟨RetD.eq rfl ?_, RetD.eq rfl ?_, trivial⟩
 all_goals (first | rfl)

set_option maxRecDepth 100000 in
set_option maxHeartbeats 1000000 in
theorem c_isNaN (n : Int) : ACall Tryz.prog 62 [.v (.int .i64 n)] (.v (.bool false)) := by
 refine acall_of (n := 6) (ds' := [.v (.bool false)]) Tryz.func62 rfl (by kernel_rfl) rfl [2] rfl rfl ?_
 intro B w0 F0 fr
 refine .sr ?_
 refine .aA (.nil ?_)
 refine .sr ?_
 refine .mA ?_
 refine .mA ?_
 refine .sA (.neq rfl rfl rfl) ?_
 refine .aA (.nil ?_)
 refine .ret ?_
 refine ⟨RetD.eq rfl ?_, trivial⟩
 all_goals (simp)

set_option maxRecDepth 100000 in
set_option maxHeartbeats 1000000 in
theorem c_cmpInt (a b : Int) : ACall Tryz.prog 39 [.v (.int .i64 a), .v (.int .i64 b)] (.v (.int .i64 (if a < b then -1 else if b < a then 1 else 0))) := by
 refine acall_of (n := 20) (ds' := [.v (.int .i64 (if a < b then -1 else if b < a then 1 else 0))]) Tryz.func39 rfl (by kernel_rfl) rfl [4] rfl rfl ?_
 intro B w0 F0 fr
 refine .sr ?_
 refine .aA (.nil ?_)
 refine .sr ?_
 refine .mA ?_
 refine .sA (.call rfl (.cons (.rfl' rfl) .nil) (c_isNaN _)) ?_
 refine .aA (.nil ?_)
 refine .sr ?_
 refine .mA ?_
 refine .sA (.call rfl (.cons (.rfl' rfl) .nil) (c_isNaN _)) ?_
 refine .aA (.nil ?_)
 refine .seq ?_
 refine .sr ?_
 refine .mA (.nil ?_)
 refine .cond rfl (fun h => nomatch h) (fun _ => ?_)
 refine .skip ?_
 refine .seq ?_
 refine .sr ?_
 refine .mA (.nil ?_)
 refine .cond rfl (fun h => nomatch h) (fun _ => ?_)
 refine .skip ?_
 refine .seq ?_
 refine .sr ?_
 refine .mA ?_
 refine .mA ?_
 refine .sA (.lss rfl rfl rfl) (.nil ?_)
 refine .cond rfl (fun h1 => ?_) (fun h1 => ?_)
 ·replace h1 := of_decide_eq_true h1
  rw [if_pos h1]
  refine .sr ?_
  refine .aA (.nil ?_)
  refine .ret ?_
  refine ⟨RetD.eq rfl ?_, trivial⟩
  all_goals (rfl)
 replace h1 := of_decide_eq_false h1
 rw [if_neg h1]
 refine .skip ?_
 refine .seq ?_
 refine .sr ?_
 refine .mA ?_
 refine .mA ?_
 refine .sA (.gtr rfl rfl rfl) (.nil ?_)
 refine .cond rfl (fun h2 => ?_) (fun h2 => ?_)
 ·replace h2 := of_decide_eq_true h2
  rw [if_pos h2]
  refine .sr ?_
  refine .aA (.nil ?_)
  refine .ret ?_
  refine ⟨RetD.eq rfl ?_, trivial⟩
  all_goals (rfl)
 replace h2 := of_decide_eq_false h2
 rw [if_neg h2]
 refine .skip ?_
 refine .sr ?_
 refine .aA (.nil ?_)
 refine .ret ?_
 refine ⟨RetD.eq rfl ?_, trivial⟩
 all_goals (rfl)

set_option maxRecDepth 100000 in
set_option maxHeartbeats 1000000 in
theorem c_or (l : List Int) : ACall Tryz.prog 22 [.sl (l.map sI)] (.v (.int .i64 (orI l))) := by
 refine acall_of (n := 18) (ds' := [.v (.int .i64 (orI l))]) Tryz.func22 rfl (by kernel_rfl) rfl [2] rfl rfl ?_
 intro B w0 F0 fr
 refine .bound 0 rfl (fun hbd0 => ?_)
 rw [List.length_map] at hbd0
 refine .sr ?_
 refine .aA (.nil ?_)
 refine .sr ?_
 refine .aA (.nil ?_)
 refine .seq ?_
 refine .sr ?_
 refine .mA ?_
 refine .sA (.lenSl rfl et_25.ht rfl) ?_
 refine .mA (.nil ?_)
 refine .block ?_
 refine .loop (G := Nat) (fun k => Env.of [(8, .d (.v (.int .i64 (k : Int)))), (6, .d (.sl (l.map sI))), (7, .d (.v (.int .i64 ((l.map sI).length : Int)))), (3, .d (.v (.int .i64 0)))]) (fun k => []) (fun k => k ≤ l.length ∧ ∀ c ∈ l.take k, decide (c ≠ 0) = false) (fun k => l.length - k) 0 ⟨Nat.zero_le _, fun c h => by simp at h⟩ (Sub.less ⟨(SLe.of_eq rfl), SLe.refl _, SLe.refl _, SLe.refl _, trivial⟩ (fun _ h => h)) ?_
 intro k hk
 refine .sr ?_
 refine .sA (.lss rfl rfl rfl) (.nil ?_)
 refine .seq ?_
 refine .cond rfl (fun h1 => ?_) (fun h1 => ?_)
 ·replace h1 := of_decide_eq_true h1
  rw [List.length_map] at h1
  have hlt : k < l.length := by omega
  refine .skip ?_
  refine .seq ?_
  refine .block ?_
  refine .sr ?_
  refine .sA (.indexAddr rfl et_25 rfl rfl k rfl (at_lst hlt) rfl) ?_
  refine .sA (.load rfl sc_3 rfl) ?_
  refine .aA (.nil ?_)
  refine .sr ?_
  refine .mA ?_
  refine .mA ?_
  refine .sA (.neq rfl rfl rfl) (.nil ?_)
  refine .cond rfl (fun h2 => ?_) (fun h2 => ?_)
  ·replace h2 := of_decide_eq_true h2
   rw [orI_yes hlt hk.2 h2]
   refine .sr ?_
   refine .mA ?_
   refine .aA (.nil ?_)
   refine .ret ?_
   refine ⟨RetD.eq rfl ?_, trivial⟩
   all_goals (rfl)
  replace h2 := of_decide_eq_false h2
  have hT := take_false' (p := fun x : Int => decide (x ≠ 0)) hlt hk.2 (decide_eq_false h2)
  refine .skip ?_
  refine .region ?_
  refine .sA (.add64 rfl rfl rfl (by omega) (by omega)) ?_
  refine .mA (.nil ?_)
  refine ⟨k + 1, ⟨by omega, hT⟩, (by dsimp only; omega), Sub.less ⟨(SLe.of_eq rfl), SLe.refl _, SLe.refl _, SLe.refl _, trivial⟩ (fun _ h => h)⟩
 replace h1 := of_decide_eq_false h1
 rw [List.length_map] at h1
 rw [orI_no (fun c hc => hk.2 c (by rw [show k = l.length by omega]; exact hc))]
 refine .exit ?_
 refine .sr ?_
 refine .mA ?_
 refine .aA (.nil ?_)
 refine .ret ?_
 refine ⟨RetD.eq rfl ?_, trivial⟩
 all_goals (rfl)

set_option maxRecDepth 100000 in
set_option maxHeartbeats 1000000 in
theorem c_better (n1 n2 : ByteArray) (o1 o2 b1 b2 c : Int) (hc : 1 ≤ c ∧ c ≤ 4000) (h1 : 0 ≤ b1 ∧ b1 ≤ 63500) (h2 : 0 ≤ b2 ∧ b2 ≤ 63500) : ACall Tryz.prog 23 [.agg (hitD n1 o1 b1 c), .agg (hitD n2 o2 b2 c)] (.v (.int .i64 (betV b1 b2))) := by
 refine acall_of (n := 23) (ds' := [.v (.int .i64 (betV b1 b2))]) Tryz.func23 rfl (by kernel_rfl) rfl [4] rfl rfl ?_
 intro B w0 F0 fr
 have m1 : 0 ≤ b1 * c ∧ b1 * c ≤ 63500 * 4000 := ⟨Int.mul_nonneg h1.1 (by omega), Int.mul_le_mul h1.2 hc.2 (by omega) (by decide)⟩
 have m2 : 0 ≤ b2 * c ∧ b2 * c ≤ 63500 * 4000 := ⟨Int.mul_nonneg h2.1 (by omega), Int.mul_le_mul h2.2 hc.2 (by omega) (by decide)⟩
 have HO := bet_or (b1 := b1) (b2 := b2) (c := c) (by omega)
 refine .sr ?_
 refine .sA (.box rfl rfl rfl) ?_
 refine .sA (.box rfl rfl rfl) ?_
 refine .aA (.nil ?_)
 refine .seq ?_
 refine .draw (by kernel_rfl) (by kernel_rfl) ?_
 refine .sA (.fieldAddr rfl fo_43_2 rfl) ?_
 refine .sA (.load rfl sc_3 rfl) ?_
 refine .sA (.fieldAddr rfl fo_43_3 rfl) ?_
 refine .sA (.load rfl sc_3 rfl) ?_
 refine .sA (.mul64 rfl rfl rfl (by omega) (by omega)) ?_
 refine .sA (.fieldAddr rfl fo_43_2 rfl) ?_
 refine .sA (.load rfl sc_3 rfl) ?_
 refine .sA (.fieldAddr rfl fo_43_3 rfl) ?_
 refine .sA (.load rfl sc_3 rfl) ?_
 refine .sA (.mul64 rfl rfl rfl (by omega) (by omega)) ?_
 refine .sA (.call rfl (.cons (.rfl' rfl) (.cons (.rfl' rfl) .nil)) (c_cmpInt _ _)) ?_
 refine .sA (.fieldAddr rfl fo_43_3 rfl) ?_
 refine .sA (.load rfl sc_3 rfl) ?_
 refine .sA (.fieldAddr rfl fo_43_3 rfl) ?_
 refine .sA (.load rfl sc_3 rfl) ?_
 refine .sA (.call rfl (.cons (.rfl' rfl) (.cons (.rfl' rfl) .nil)) (c_cmpInt _ _)) ?_
 refine .sA (.buildSlice rfl et_25 (.cons rfl rfl rfl (.cons rfl rfl rfl .nil)) rfl (by decide)) ?_
 refine .sA (.call rfl (.cons (.rfl' rfl) .nil) (c_or [if b1 * c < b2 * c then -1 else if b2 * c < b1 * c then 1 else 0, if c < c then -1 else if c < c then 1 else 0])) ?_
 refine .sA (.assignD rfl rfl) ?_
 refine .nil ?_
 refine .ret ?_
 refine ⟨RetD.eq rfl ?_, trivial⟩
 all_goals (rw [HO])

end Go.Proofs.YtagdgclfnbiahaaGreatDoor

namespace Go.Proofs
open Go.Shelf
def Tryz.l125_ren : Go.Shelf.Ren := ⟨fun | 125 => 38 | 128 => 60 | 129 => 61 | n => n, fun | 46 => 79 | 3 => 3 | 51 => 84 | 53 => 89 | 4 => 4 | 5 => 5 | 9 => 9 | n => n, fun | n => n⟩
theorem Tryz.l125 : Go.Proofs.Lays.n125 Tryz.prog Tryz.l125_ren := {
  mixed := by kernel_rfl
  f125 := Tryz.func38.trans (congrArg some (by kernel_rfl))
  f128 := Tryz.func60.trans (congrArg some (by kernel_rfl))
  f129 := Tryz.func61.trans (congrArg some (by kernel_rfl))
  t3 := Tryz.underlying3
  a3 := Tryz.isAgg3
  z3 := Tryz.sizeOf3
  v3 := Tryz.zeroValue3
  t4 := Tryz.underlying4
  a4 := Tryz.isAgg4
  z4 := Tryz.sizeOf4
  v4 := Tryz.zeroValue4
  t5 := Tryz.underlying5
  a5 := Tryz.isAgg5
  z5 := Tryz.sizeOf5
  v5 := Tryz.zeroValue5
  t9 := Tryz.underlying9
  a9 := Tryz.isAgg9
  z9 := Tryz.sizeOf9
  v9 := Tryz.zeroValue9
  t46 := Tryz.underlying79
  a46 := Tryz.isAgg79
  z46 := Tryz.sizeOf79
  v46 := Tryz.zeroValue79
  t51 := Tryz.underlying84
  a51 := Tryz.isAgg84
  z51 := Tryz.sizeOf84
  v51 := Tryz.zeroValue84
  t53 := Tryz.underlying89
  a53 := Tryz.isAgg89
  z53 := Tryz.sizeOf89
  v53 := Tryz.zeroValue89 }
end Go.Proofs

namespace Go.Proofs.YtagdgclfnbiahaaGreatDoor
open Go.RowKit
set_option linter.unusedVariables false

def Env.puts (e : Env) : List (Nat × S) → Env
  | [] => e
  | p :: l => Env.puts (e.put (some p.1) p.2) l
/-- An object that the region makes, and the slots that may hold it. -/
structure Fc where
  id : Nat
  slots : List Nat
def Clean (Φ : List Fc) (e : Env) : Prop := ∀ f ∈ Φ, ∀ t, f.slots.contains t = false → (e t).kill f.id = e t
def QE (e1 : Env) (σ1 : Obs) : Post := fun ex e σ => match ex with | .normal => e = e1 ∧ σ = σ1 | _ => False
/-- An operation that makes or turns objects: the slots that it sets, the objects behind it. -/
def GE (cx : Cx) (ops : Array Oper) (Φ : List Fc) (o : Oper) (e : Env) (σ : Obs) (si : List (Nat × S)) (σ' : Obs) : Prop :=
  ∀ e0 : Env, (∀ t, t ∈ o.looksAt ops → e0 t = e t) → (∀ t, t ∈ si.map Prod.fst → e0 t = e t) → Clean Φ e0 → AOps cx ops [o] e0 σ (QE (Env.puts e0 si) σ')
def LStep (cx : Cx) (ops : Array Oper) (Φ : List Fc) (ef : Nat → Bool) (K : Nat → List Nat) (I : Obs → Prop) (k : Nat) (o : Oper) (e : Env) (σ : Obs) (e' : Env) (σ' : Obs) : Prop :=
  (GW ops o e true ∧ ef k = false ∧ ∃ s, I σ ∧ (∀ τ, I τ → AOp cx.P cx.B ops o e τ s) ∧ (∀ f ∈ Φ, (∃ t, o.dst = some t ∧ f.slots.contains t = true) ∨ s.kill f.id = s) ∧ e' = e.put o.dst s ∧ σ' = σ) ∨
  (GW ops o e false ∧ ef k = false ∧ e' = e.put o.dst (.d (.v undef)) ∧ σ' = σ) ∨
  (GW ops o e true ∧ ef k = true ∧ I σ ∧ I σ' ∧ ∃ si, si.map Prod.fst = K k ∧ GE cx ops Φ o e σ si σ' ∧ (∀ p ∈ si, ∀ f ∈ Φ, f.slots.contains p.1 = true ∨ p.2.kill f.id = p.2) ∧ e' = Env.puts e si)
def LRun (cx : Cx) (ops : Array Oper) (Φ : List Fc) (ef : Nat → Bool) (K : Nat → List Nat) (I : Obs → Prop) : Nat → List Oper → Env → Obs → (Env → Obs → Prop) → Prop
  | _, [], e, σ, Q => Q e σ
  | k, o :: l, e, σ, Q => DstOk cx.N o ∧ ∃ e' σ', LStep cx ops Φ ef K I k o e σ e' σ' ∧ LRun cx ops Φ ef K I (k + 1) l e' σ' Q
def anyL (cx : Cx) (ops : Array Oper) (Φ : List Fc) (ef : Nat → Bool) (K : Nat → List Nat) (I : Obs → Prop) (Q : Env → Obs → Prop) : Nat → Array Bool → Env → Obs → Prop
  | 0, listed, e, σ => Region.ready .any ops listed = [] ∧ Q e σ
  | fuel + 1, listed, e, σ => (Region.ready .any ops listed = [] → Q e σ) ∧
      ∀ i ∈ Region.ready .any ops listed, ∀ o, ops[i]? = some o → ∃ e' σ', LStep cx ops Φ ef K I i o e σ e' σ' ∧ anyL cx ops Φ ef K I Q fuel (listed.setIfInBounds i true) e' σ'
/-- The slots of one are none of the other's. -/
def keysOkB (ops : Array Oper) (K : Nat → List Nat) (i j : Nat) (oi oj : Oper) : Bool :=
  ((K i).all fun k => !((oj.looksAt ops).contains k) && neDst oj k) && ((K j).all fun k => !((oi.looksAt ops).contains k) && neDst oi k) && (!(K i).any fun k => (K j).contains k)
/-- The check: whoever is free to change places has nothing to do with the other. -/
def Region.keysFree (ops : Array Oper) (ef : Nat → Bool) (K : Nat → List Nat) (listed : Array Bool) (k : Nat) (late : Nat → Bool) : Bool :=
  (List.range ops.size).all fun j =>
    (!(late j) || (!(listed.getD j false) && ((ops[j]?).map fun o => o.after.any fun e => Region.binds .any e && (Nat.beq e.on k || late e.on)).getD true)) &&
    (Nat.beq j k || listed.getD j true || late j || Region.edge ops j k || ((!(ef k) || !(ef j)) && ((ops[k]?).bind fun oi => (ops[j]?).map fun oj => keysOkB ops K k j oi oj).getD false))
def Region.keysFrom (ops : Array Oper) (ef : Nat → Bool) (K : Nat → List Nat) : Nat → Nat → Array Bool → Bool
  | 0, _, _ => true
  | fuel + 1, k, listed => Region.keysFree ops ef K listed k (Region.lateB ops k) && Region.keysFrom ops ef K fuel (k + 1) (listed.setIfInBounds k true)
/-- Before the region: no slot but those told holds what it makes or turns. -/
def Env.killOut (f : Fc) (e : Env) : Env := fun t => match f.slots.contains t with | true => e t | false => (e t).kill f.id
def Env.killIds : List Fc → Env → Env
  | [], e => e
  | f :: l, e => Env.killIds l (e.killOut f)
section
variable {cx : Cx} {ops : Array Oper} {Φ : List Fc} {ef : Nat → Bool} {K : Nat → List Nat} {I : Obs → Prop} {n : Nat} {o : Oper} {l : List Oper} {e : Env} {σ : Obs} {Q : Env → Obs → Prop}
def cleanS (t : Nat) (s : S) : List Fc → Prop
  | [] => True
  | f :: l => (f.slots.contains t = true ∨ s.kill f.id = s) ∧ cleanS t s l
theorem cleanS.all {t : Nat} {s : S} : ∀ {l : List Fc}, cleanS t s l → ∀ f ∈ l, f.slots.contains t = true ∨ s.kill f.id = s
  | [], _, f, hf => by cases hf
  | g :: l, h, f, hf => by
    cases hf with
    | head => exact h.1
    | tail _ hf => exact cleanS.all h.2 f hf
theorem LRun.nil (h : Q e σ) : LRun cx ops Φ ef K I n [] e σ Q := h
def cleanL (Φ : List Fc) : List (Nat × S) → Prop
  | [] => True
  | p :: l => (∀ f ∈ Φ, f.slots.contains p.1 = true ∨ p.2.kill f.id = p.2) ∧ cleanL Φ l
end
/-- Data, stored into own cells. -/
theorem EOp.store {cx : Cx} {ops : Array Oper} {o : Oper} {e : Env} {σ : Obs} {t id off size : Nat} {x y : Operand} {d : D} {ss : List S} (ht : o.dst = none) (ho : o.op = .store t x y) (hs : ∀ w, (sizeOf t).run cx.P w = .ok size w) (hx : e.ev x = .ptr id off) (hm : (id, Ob.cells ss) ∈ σ) (hy : e.ev y = .d d) (h1 : d.one = true) (hl : d.parts.length = size)
    (hle : off + size ≤ ss.length) : EOp cx ops o e σ (Obs.upd id (.cells (ss.take off ++ d.parts.map S.d ++ ss.drop (off + size))) σ) := by
  intro F ρ a w e0 hr ha
  have hop : ∀ y ∈ o.op.operands.toList, RepS F ρ w (a.eval y) (e.ev y) := fun y hy => ev_rep fun t ht => ha t (looks_op (by rw [← ht]; exact hy))
  have r1 := hop x (by rw [ho]; simp [Op.operands])
  have r2 := hop y (by rw [ho]; simp [Op.operands])
  rw [hx] at r1
  rw [hy] at r2
  obtain ⟨h3, h4⟩ := parts_rep (repS_d r2) h1
  obtain ⟨g, ty, cs, hρ, hB, hF, hh, hcl, hcs⟩ := hr.obs.ok _ hm
  dsimp only at hρ
  have hxv := ptr_at r1 (g := g) (by rw [hρ]; rfl)
  have hsz : (a.eval y).cells.size = size := by have := h3.1; rw [Array.length_toList] at this; omega
  obtain ⟨w', h5, h6, h7⟩ := storeVar_run (P := cx.P) (off := off) hs hsz hh (by omega) h4
  unfold Oper.wp execOp
  simp only [ho, Instr.storeAt, hxv, Instr.sureAddr, Sem.run_bind, Sem.run_pure, Result.andThen_ok, h5]
  refine ⟨by rw [ht]; rfl, fun e2 hr2 => ⟨F, ρ, ?_⟩⟩
  refine hr2.write hρ hm hB hF h6 h7 (by simp; omega) (fun j hj hj' => by
    have hlen : (a.eval y).cells.toList.length = size := by rw [Array.length_toList]; exact hsz
    by_cases j1 : j < off
    · rw [List.getElem_append_left (by simp; omega), List.getElem_append_left (by simp; omega), List.getElem_append_left (by simp; omega), List.getElem_append_left (by simp; omega), List.getElem_take, List.getElem_take]
      exact hcs j (by omega) (by omega)
    · by_cases j2 : j < off + size
      · rw [List.getElem_append_left (by simp; omega), List.getElem_append_right (by simp; omega), List.getElem_append_left (by simp; omega), List.getElem_append_right (by simp; omega), List.getElem_map]
        have e1 : (List.take off cs).length = off := by simp; omega
        have e2 : (List.take off ss).length = off := by simp; omega
        simp only [e1, e2]
        exact ⟨h4 _ (List.getElem_mem _), .d (h3.2 _ _ _)⟩
      · rw [List.getElem_append_right (by simp; omega), List.getElem_append_right (by simp; omega), List.getElem_drop, List.getElem_drop]
        have e1 : (List.take off cs ++ (a.eval y).cells.toList).length = off + size := by simp; omega
        have e2 : (List.take off ss ++ d.parts.map S.d).length = off + size := by simp; omega
        simp only [e1, e2]
        exact hcs _ _ _)
end Go.Proofs.YtagdgclfnbiahaaGreatDoor

namespace Go.Proofs.YtagdgclfnbiahaaGreatDoor
open Go.RowKit
set_option linter.unusedVariables false

/-! Types. -/
namespace TyXF
theorem ag_43 : AggT Tryz.prog 43 4 := .of (by kernel_rfl)
theorem bu_43 : StructT Tryz.prog 43 (fun i => (#[(0, 1), (1, 1), (2, 1), (3, 1)] : Array (Nat × Nat))[i]?) [(.string ⟨#[]⟩), (.int .i64 0), (.int .i64 0), (.int .i64 0)] := .of (by kernel_rfl) (by kernel_rfl) (by decide)
theorem sz_43 : ∀ w, (sizeOf 43).run Tryz.prog w = .ok 4 w := SizeT.of (by kernel_rfl)
theorem zt_43 : (Tryz.prog.info? 43).bind (·.zero) = some (.agg #[(.string ⟨#[]⟩), (.int .i64 0), (.int .i64 0), (.int .i64 0)]) := by kernel_rfl
end TyXF
open TyXA TyXB TyXC TyXD TyXE TyXF

open Go.Shelf
set_option linter.unusedSimpArgs false
theorem betV_lt {b1 b2 : Int} : betV b1 b2 < 0 ↔ b1 < b2 := by
  unfold betV
  by_cases h : b1 < b2
  · rw [if_pos h]; exact ⟨fun _ => h, fun _ => by decide⟩
  · rw [if_neg h]
    refine ⟨fun h2 => ?_, fun h2 => absurd h2 h⟩
    by_cases h3 : b2 < b1
    · rw [if_pos h3] at h2; exact absurd h2 (by decide)
    · rw [if_neg h3] at h2; exact absurd h2 (by decide)
theorem fnd_s (d : Nat) : fnd (d + 1) = true := decide_eq_true (Nat.succ_pos d)
theorem fnd_p {d : Nat} (h : 0 < d) : fnd d = true := decide_eq_true h
theorem cells_end (nm : ByteArray) (F : Nat → Int) (n L : Nat) : bCells nm F n (L + 1) = (910, .cells [.d (.v (.string nm)), .d (.v (.int .i64 (bst F L : Int))), .d (.v (.int .i64 (F (bst F L)))), .d (.v (.int .i64 (8 * (n : Int))))]) := by
  unfold bCells bN bO bB bC
  rw [if_neg (Nat.succ_ne_zero L), if_neg (Nat.succ_ne_zero L), if_neg (Nat.succ_ne_zero L), if_neg (Nat.succ_ne_zero L), Nat.add_sub_cancel]
theorem mems2 {σ : Obs} {p q : Nat × Ob} (h1 : p ∈ σ) (h2 : q ∈ σ) : ∀ x ∈ [p, q], x ∈ σ := fun x hx => by
  simp only [List.mem_cons, List.not_mem_nil, or_false] at hx
  rcases hx with rfl | rfl
  · exact h1
  · exact h2
theorem c_bLen : ACall Tryz.prog 38 [.v (.int .u64 1)] (.v (.int .i64 1)) :=
 acall_exact (us := [_]) (.of Tryz.func38 (by kernel_rfl) rfl) fun w => by
  have h := Any.bits_Len Tryz.l125 1 w (by decide) (by decide)
  change Calls Tryz.prog 38 #[.int .u64 1] w _ at h
  exact h.mono fun _ _ ⟨h1, h2⟩ => ⟨h1, h2 ▸ Below.refl _ _⟩

set_option maxRecDepth 100000 in
set_option maxHeartbeats 4000000 in
theorem c_hit (nm : ByteArray) (M W : List Int) (hM : M.length ≤ 500) (hW : 0 < W.length) (hWM : W.length ≤ M.length) (h0 : apF M W (bst (apF M W) (M.length - W.length)) = 0) : ACall Tryz.prog 19 [.agg [.v (.string nm), .sl (M.map sI)], .sl (W.map sI), .v (.int .i64 (W.length : Int)), .v (.int .i64 100)] (.tup [.agg (hitD nm (bst (apF M W) (M.length - W.length) : Int) 0 (8 * (W.length : Int))), .v (.bool true)]) := by
 refine acall_ofR (n := 69) (ds' := [.agg (hitD nm (bst (apF M W) (M.length - W.length) : Int) 0 (8 * (W.length : Int))), .v (.bool true)]) Tryz.func19 rfl (by kernel_rfl) rfl [.cell 8 43, .tmp 9] rfl rfl ?_
 intro B w0 F0 fr
 have HC0 : cT (M.length - W.length) W.length 0 = 0 := by unfold cT; omega
 refine .sr ?_
 refine .sA (.box rfl rfl rfl) ?_
 refine .alloc 908 rfl rfl rfl rfl zt_43 rfl rfl rfl ?_
 refine .aA (.nil ?_)
 refine .sr ?_
 refine .sA (.build rfl bu_43 .nil rfl) ?_
 refine .alloc 910 rfl rfl rfl rfl zt_43 rfl rfl rfl ?_
 refine .store rfl rfl rfl sz_43 rfl (.head _) rfl rfl rfl (Nat.le_of_ble_eq_true rfl) ?_
 refine .aA (.nil ?_)
 refine .seq ?_
 refine .sr ?_
 refine .mA ?_
 refine .sA (.lenSl rfl et_25.ht rfl) ?_
 rw [List.length_map]
 refine .sA (.sub64 rfl rfl rfl (by omega) (by omega)) ?_
 refine .aA (.nil ?_)
 refine .block ?_
 refine .loop (G := Nat) (fun t => Env.of [(12, .d (.v (.int .i64 (1 - (W.length : Int) + (t : Int))))), (11, .d (.v (.bool (fnd (cT (M.length - W.length) W.length t))))), (4, .d (.fp [.v (.string nm), .sl (M.map sI)])), (1, .d (.sl (W.map sI))), (2, .d (.v (.int .i64 (W.length : Int)))), (3, .d (.v (.int .i64 100))), (10, .ptr 910 0), (8, .ptr 908 0)]) (fun t => [bCells nm (apF M W) W.length (cT (M.length - W.length) W.length t), (908, .cells [.d (.v (.string ⟨#[]⟩)), .d (.v (.int .i64 0)), .d (.v (.int .i64 0)), .d (.v (.int .i64 0))])]) (fun t => t ≤ M.length + W.length - 1) (fun t => M.length + W.length - 1 - t) 0 (Nat.zero_le _) (Sub.less ⟨(SLe.i64 (by omega)), (SLe.of_eq (by rw [HC0]; rfl)), SLe.refl _, SLe.refl _, SLe.refl _, SLe.refl _, SLe.refl _, SLe.refl _, trivial⟩ (mems2 (by rw [HC0]; exact (.head _)) (.tail _ (.head _)))) ?_
 intro t ht
 refine .seq ?_
 refine .sr ?_
 refine .mA ?_
 refine .sA (.fieldAddr rfl fo_40_1 rfl) ?_
 refine .sA (.load rfl sc_25 rfl) ?_
 refine .sA (.lenSl rfl et_25.ht rfl) ?_
 refine .sA (.lss rfl rfl rfl) (.nil ?_)
 refine .cond rfl (fun h1 => ?_) (fun h1 => ?_)
 ·replace h1 := of_decide_eq_true h1
  rw [List.length_map] at h1
  have hlt : t < M.length + W.length - 1 := by omega
  refine .skip ?_
  refine .seq ?_
  refine .block ?_
  refine .sr ?_
  refine .sA (.fieldAddr rfl fo_40_1 rfl) ?_
  refine .sA (.load rfl sc_25 rfl) ?_
  refine .mA ?_
  refine .mA ?_
  refine .sA (.call rfl (.cons (.rfl' rfl) (.cons (.rfl' rfl) (.cons (.rfl' rfl) .nil))) (c_apart M W (1 - (W.length : Int) + (t : Int)) hM (by omega) (by omega))) ?_
  refine .mA ?_
  refine .sA (.extract rfl rfl rfl) ?_
  refine .sA (.extract rfl rfl rfl) ?_
  refine .aA ?_
  refine .aA (.nil ?_)
  refine .seq ?_
  refine .sr ?_
  refine .mA ?_
  refine .mA ?_
  refine .sA (.lss rfl rfl rfl) (.nil ?_)
  refine .cond rfl (fun h2 => ?_) (fun h2 => ?_)
  ·replace h2 := of_decide_eq_true h2
   have hout : (1 - (W.length : Int) + (t : Int)) < 0 ∨ (M.length : Int) < (1 - (W.length : Int) + (t : Int)) + W.length := Classical.byContradiction fun hn => by
    have := apN_in (x := M) (y := W) (f := t + 1 - W.length) (by omega)
    rw [show ((t + 1 - W.length : Nat) : Int) = (1 - (W.length : Int) + (t : Int)) by omega] at this
    omega
   have HC : cT (M.length - W.length) W.length (t + 1) = cT (M.length - W.length) W.length t := by unfold cT; omega
   refine .exit ?_
   refine .region ?_
   refine .mA ?_
   refine .sA (.add64 rfl rfl rfl (by omega) (by omega)) ?_
   refine .aA (.nil ?_)
   refine ⟨t + 1, (by omega), (by dsimp only; omega), Sub.less ⟨(SLe.i64 (by omega)), (SLe.of_eq (by first | (rw [HC]; rfl) | (rw [HCn, fnd_s]; first | rfl | exact congrArg (fun b => S.d (D.v (.bool b))) (fnd_p hd1)))), SLe.refl _, SLe.refl _, SLe.refl _, SLe.refl _, SLe.refl _, SLe.refl _, trivial⟩ (mems2 (by first | (rw [HC]; exact (.head _)) | (rw [HCn, cells_up hbst]; exact (.head _)) | (rw [HCn, cells_stay hd1 hbst]; exact (.head _))) (.tail _ (.head _)))⟩
  replace h2 := of_decide_eq_false h2
  have hin : 0 ≤ (1 - (W.length : Int) + (t : Int)) ∧ (1 - (W.length : Int) + (t : Int)) + W.length ≤ M.length := Classical.byContradiction fun hn => by
   have := apN_out (x := M) (y := W) (d := (1 - (W.length : Int) + (t : Int))) (by omega) hW
   omega
  obtain ⟨dd, hdd⟩ : ∃ dd : Nat, (dd : Int) = (1 - (W.length : Int) + (t : Int)) := ⟨((1 - (W.length : Int) + (t : Int))).toNat, by omega⟩
  have HN := apN_in (x := M) (y := W) (f := dd) (by omega)
  have HCt : cT (M.length - W.length) W.length t = dd := by unfold cT; omega
  have HCn : cT (M.length - W.length) W.length (t + 1) = dd + 1 := by unfold cT; omega
  rw [HCt]
  rw [← hdd, HN]
  have hF1 : 0 ≤ apF M W dd ∧ apF M W dd ≤ 63500 := by
   have := apS_rng M W (dd : Int) W.length
   unfold apF; omega
  have hF2 : 0 ≤ bB (apF M W) dd ∧ bB (apF M W) dd ≤ 63500 := by
   have := bB_rng (x := M) (y := W) dd
   omega
  refine .skip ?_
  refine .sr ?_
  refine .sA (.fieldAddr rfl fo_40_0 rfl) ?_
  refine .sA (.load rfl sc_9 rfl) ?_
  refine .mA ?_
  refine .mA ?_
  refine .mA ?_
  refine .sA (.mul64 rfl rfl rfl (by omega) (by omega)) ?_
  refine .sA (.build rfl bu_43 (.cons rfl rfl (.cons rfl rfl (.cons rfl rfl (.cons rfl rfl .nil)))) rfl) ?_
  refine .alloc 103 rfl rfl rfl rfl zt_43 rfl rfl rfl ?_
  refine .store rfl rfl rfl sz_43 rfl (.head _) rfl rfl rfl (Nat.le_of_ble_eq_true rfl) ?_
  refine .freezeCells 15 (ds := (hitD nm (dd : Int) (apF M W dd) (8 * (W.length : Int)))) rfl (.head _) (.nil ?_)
  refine .sr ?_
  refine .mA ?_
  refine .sA (.not rfl rfl) ?_
  refine .mA ?_
  refine .split 47 rfl (fun g3 => ?_) (fun g3 => ?_)
  ·replace g3 := bnot_t g3
   have hd0 : dd = 0 := by unfold fnd at g3; simpa using g3
   have hbst := bst_up (F := apF M W) (d := dd) (.inl hd0)
   refine .pA ?_
   refine .pA ?_
   refine .pA ?_
   refine .pA ?_
   refine .sA (.pickT rfl rfl rfl) (.nil ?_)
   refine .cond rfl (fun _ => ?_) (fun h => nomatch h)
   refine .region ?_
   refine .sA (.loadAgg rfl ag_43 rfl rfl) ?_
   refine .store rfl rfl rfl sz_43 rfl (.head _) rfl rfl rfl (Nat.le_of_ble_eq_true rfl) ?_
   refine .aA (.nil ?_)
   refine .region ?_
   refine .mA ?_
   refine .sA (.add64 rfl rfl rfl (by omega) (by omega)) ?_
   refine .aA (.nil ?_)
   refine ⟨t + 1, (by omega), (by dsimp only; omega), Sub.less ⟨(SLe.i64 (by omega)), (SLe.of_eq (by first | (rw [HC]; rfl) | (rw [HCn, fnd_s]; first | rfl | exact congrArg (fun b => S.d (D.v (.bool b))) (fnd_p hd1)))), SLe.refl _, SLe.refl _, SLe.refl _, SLe.refl _, SLe.refl _, SLe.refl _, trivial⟩ (mems2 (by first | (rw [HC]; exact (.head _)) | (rw [HCn, cells_up hbst]; exact (.head _)) | (rw [HCn, cells_stay hd1 hbst]; exact (.head _))) (.tail _ (.head _)))⟩
  replace g3 := bnot_f g3
  have hd1 : 0 < dd := by
   unfold fnd at g3
   simp at g3
   omega
  have hbC : bC W.length dd = 8 * (W.length : Int) := if_neg (by omega)
  refine .sG (.loadAgg rfl ag_43 rfl rfl) ?_
  refine .sG (.loadPU rfl ag_43 rfl (.head _) rfl rfl) ?_
  refine .sG (.call rfl (.cons (.rfl' rfl) (.cons ⟨_, rfl, Le.of_eq (by rw [← hbC]; rfl)⟩ .nil)) (c_better nm (bN nm dd) dd (bO (apF M W) dd) (apF M W dd) (bB (apF M W) dd) (8 * (W.length : Int)) (by omega) hF1 hF2)) ?_
  refine .sG (.lss rfl rfl rfl) ?_
  refine .sA (.pickF rfl rfl rfl) (.nil ?_)
  refine .cond rfl (fun h4 => ?_) (fun h4 => ?_)
  ·replace h4 := of_decide_eq_true h4
   have hbst := bst_up (F := apF M W) (d := dd) (.inr (betV_lt.1 h4))
   refine .region ?_
   refine .sA (.loadAgg rfl ag_43 rfl rfl) ?_
   refine .store rfl rfl rfl sz_43 rfl (.head _) rfl rfl rfl (Nat.le_of_ble_eq_true rfl) ?_
   refine .aA (.nil ?_)
   refine .region ?_
   refine .mA ?_
   refine .sA (.add64 rfl rfl rfl (by omega) (by omega)) ?_
   refine .aA (.nil ?_)
   refine ⟨t + 1, (by omega), (by dsimp only; omega), Sub.less ⟨(SLe.i64 (by omega)), (SLe.of_eq (by first | (rw [HC]; rfl) | (rw [HCn, fnd_s]; first | rfl | exact congrArg (fun b => S.d (D.v (.bool b))) (fnd_p hd1)))), SLe.refl _, SLe.refl _, SLe.refl _, SLe.refl _, SLe.refl _, SLe.refl _, trivial⟩ (mems2 (by first | (rw [HC]; exact (.head _)) | (rw [HCn, cells_up hbst]; exact (.head _)) | (rw [HCn, cells_stay hd1 hbst]; exact (.head _))) (.tail _ (.head _)))⟩
  replace h4 := of_decide_eq_false h4
  have hbst := bst_stay (F := apF M W) hd1 (fun hh => h4 (betV_lt.2 hh))
  refine .skip ?_
  refine .region ?_
  refine .mA ?_
  refine .sA (.add64 rfl rfl rfl (by omega) (by omega)) ?_
  refine .aA (.nil ?_)
  refine ⟨t + 1, (by omega), (by dsimp only; omega), Sub.less ⟨(SLe.i64 (by omega)), (SLe.of_eq (by first | (rw [HC]; rfl) | (rw [HCn, fnd_s]; first | rfl | exact congrArg (fun b => S.d (D.v (.bool b))) (fnd_p hd1)))), SLe.refl _, SLe.refl _, SLe.refl _, SLe.refl _, SLe.refl _, SLe.refl _, trivial⟩ (mems2 (by first | (rw [HC]; exact (.head _)) | (rw [HCn, cells_up hbst]; exact (.head _)) | (rw [HCn, cells_stay hd1 hbst]; exact (.head _))) (.tail _ (.head _)))⟩
 replace h1 := of_decide_eq_false h1
 rw [List.length_map] at h1
 obtain rfl : t = M.length + W.length - 1 := by omega
 have HC : cT (M.length - W.length) W.length (M.length + W.length - 1) = (M.length - W.length) + 1 := by unfold cT; omega
 rw [HC, cells_end, h0, fnd_s]
 refine .exit ?_
 refine .seq ?_
 refine .drawH (fun k => Nat.beq k 15 || false) (fun k => Nat.beq k 15) (fun τ => (910, Ob.cells [.d (.v (.string nm)), .d (.v (.int .i64 (bst (apF M W) (M.length - W.length) : Int))), .d (.v (.int .i64 0)), .d (.v (.int .i64 (8 * (W.length : Int))))]) ∈ τ) (fun k h => Bool.or_eq_true_iff.2 (.inl h)) (by kernel_rfl) (by kernel_rfl) (by kernel_rfl) ?_
 refine .step rfl rfl rfl (.head _) (fun τ hτ => AOp.loadPU rfl ag_43 rfl hτ rfl rfl) ?_
 refine .step rfl rfl rfl (.head _) (fun τ hτ => AOp.moveD rfl rfl) ?_
 refine .step rfl rfl rfl (.head _) (fun τ hτ => AOp.moveD rfl rfl) ?_
 refine .step ⟨56, rfl, .inl ⟨_, rfl, rfl⟩⟩ rfl rfl (.head _) (fun τ hτ => AOp.fieldAddrP rfl fo_43_3 rfl) ?_
 refine .step ⟨56, rfl, .inl ⟨_, rfl, rfl⟩⟩ rfl rfl (.head _) (fun τ hτ => AOp.loadP rfl sc_3 rfl hτ rfl) ?_
 refine .step ⟨56, rfl, .inl ⟨_, rfl, rfl⟩⟩ rfl rfl (.head _) (fun τ hτ => AOp.fieldAddrP rfl fo_43_2 rfl) ?_
 refine .step ⟨56, rfl, .inl ⟨_, rfl, rfl⟩⟩ rfl rfl (.head _) (fun τ hτ => AOp.loadP rfl sc_3 rfl hτ rfl) ?_
 refine .step ⟨56, rfl, .inl ⟨_, rfl, rfl⟩⟩ rfl rfl (.head _) (fun τ hτ => AOp.sub64 rfl rfl rfl (by omega) (by omega)) ?_
 refine .step ⟨56, rfl, .inl ⟨_, rfl, rfl⟩⟩ rfl rfl (.head _) (fun τ hτ => AOp.mul64 rfl rfl rfl (by omega) (by omega)) ?_
 refine .step ⟨56, rfl, .inl ⟨_, rfl, rfl⟩⟩ rfl rfl (.head _) (fun τ hτ => AOp.moveD rfl rfl) ?_
 refine .step ⟨56, rfl, .inl ⟨_, rfl, rfl⟩⟩ rfl rfl (.head _) (fun τ hτ => AOp.fieldAddrP rfl fo_43_3 rfl) ?_
 refine .step ⟨56, rfl, .inl ⟨_, rfl, rfl⟩⟩ rfl rfl (.head _) (fun τ hτ => AOp.loadP rfl sc_3 rfl hτ rfl) ?_
 refine .step ⟨56, rfl, .inl ⟨_, rfl, rfl⟩⟩ rfl rfl (.head _) (fun τ hτ => AOp.mul64 rfl rfl rfl (by omega) (by omega)) ?_
 refine .step ⟨56, rfl, .inl ⟨_, rfl, rfl⟩⟩ rfl rfl (.head _) (fun τ hτ => AOp.geq rfl rfl rfl) ?_
 rw [show decide (100 * (8 * (W.length : Int)) ≤ 100 * (8 * (W.length : Int) - 0)) = true from decide_eq_true (by omega)]
 refine .step rfl rfl rfl (.head _) (fun τ hτ => AOp.pickT rfl rfl rfl) ?_
 refine .eff rfl rfl rfl (.store rfl rfl sz_43 rfl (.tail _ (.head _)) rfl rfl rfl (Nat.le_of_ble_eq_true rfl)) (.head _) (.head _) ?_
 refine .step rfl rfl rfl (.head _) (fun τ hτ => AOp.assignD rfl rfl) ?_
 refine .nil ?_
 refine .ret ?_
 refine ⟨RetR.agg rfl (.tail _ (.head _)) ag_43 rfl (.cons (by first | exact CellD.nil | exact CellD.d | exact CellD.eq (by simp) | (refine CellD.own (by first | exact .head _ | exact .tail _ (.head _)) ?_; rfl)) (.cons (by first | exact CellD.nil | exact CellD.d | exact CellD.eq (by simp) | (refine CellD.own (by first | exact .head _ | exact .tail _ (.head _)) ?_; rfl)) (.cons (by first | exact CellD.nil | exact CellD.d | exact CellD.eq (by simp) | (refine CellD.own (by first | exact .head _ | exact .tail _ (.head _)) ?_; rfl)) (.cons (by first | exact CellD.nil | exact CellD.d | exact CellD.eq (by simp) | (refine CellD.own (by first | exact .head _ | exact .tail _ (.head _)) ?_; rfl)) .nil)))), RetD.eq rfl ?_, trivial⟩
 all_goals (first | rfl)

set_option maxRecDepth 100000 in
set_option maxHeartbeats 1000000 in
theorem c_ins1 (h : List D) (f : Nat) : RCall Tryz.prog 52 43 4 [h] [h] [.v (.int .i64 0), .v (.int .i64 1), .clo (.func f) []] (.tup []) := by
 refine RCall.of1 (chg := fun i => Nat.ble 1000 i) (xcall_of (n := 53) (ds' := []) Tryz.func52 rfl (by kernel_rfl) rfl [] rfl rfl ?_) rfl
 intro B w0 F0 fr ρ0
 refine .sr ?_
 refine .mA ?_
 refine .sA (.add64 rfl rfl rfl (by omega) (by omega)) ?_
 refine .aA (.nil ?_)
 refine .block ?_
 refine .loop (G := Nat) (fun k => Env.of [(8, .d (.v (.int .i64 1))), (2, .d (.v (.int .i64 1)))]) (fun k => [(1, .row 43 4 [h])]) (fun k => k = 0) (fun k => k) 0 rfl (Sub.less ⟨(SLe.i64 rfl), SLe.refl _, trivial⟩ (fun _ h => h)) ?_
 intro k hk
 refine .seq ?_
 refine .sr ?_
 refine .mA ?_
 refine .mA ?_
 refine .sA (.lss rfl rfl rfl) (.nil ?_)
 refine .cond rfl (fun h1 => ?_) (fun h1 => ?_)
 ·replace h1 := of_decide_eq_true h1
  omega
 replace h1 := of_decide_eq_false h1
 refine .exit ?_
 refine ⟨trivial, ⟨mem_row_eq (.head _) ?_, trivial⟩⟩
 all_goals (first | rfl)

set_option maxRecDepth 100000 in
set_option maxHeartbeats 1000000 in
theorem c_pdq1 (h : List D) (f : Nat) (lim : Int) : RCall Tryz.prog 37 43 4 [h] [h] [.v (.int .i64 0), .v (.int .i64 1), .v (.int .i64 lim), .clo (.func f) []] (.tup []) := by
 refine RCall.of1 (chg := fun i => Nat.ble 1000 i) (xcall_of (n := 148) (ds' := []) Tryz.func37 rfl (by kernel_rfl) rfl [] rfl rfl ?_) rfl
 intro B w0 F0 fr ρ0
 refine .sr ?_
 refine .aA (.nil ?_)
 refine .sr ?_
 refine .aA (.nil ?_)
 refine .block ?_
 refine .loop (G := Nat) (fun k => Env.of [(0, .own 1), (1, .d (.v (.int .i64 0))), (2, .d (.v (.int .i64 1))), (4, .d (.clo (.func f) []))]) (fun k => [(1, .row 43 4 [h])]) (fun k => k = 0) (fun k => k) 0 rfl (Sub.less ⟨SLe.refl _, SLe.refl _, SLe.refl _, SLe.refl _, trivial⟩ (fun _ h => h)) ?_
 intro k hk
 refine .block ?_
 refine .sr ?_
 refine .mA ?_
 refine .mA ?_
 refine .sA (.sub64 rfl rfl rfl (by omega) (by omega)) ?_
 refine .aA (.nil ?_)
 refine .seq ?_
 refine .sr ?_
 refine .mA ?_
 refine .sA (.leq rfl rfl rfl) (.nil ?_)
 refine .cond rfl (fun h1 => ?_) (fun h1 => ?_)
 ·replace h1 := of_decide_eq_true h1
  refine .sr ?_
  refine .sA (.moveO rfl rfl) ?_
  refine .mA ?_
  refine .mA ?_
  refine .mA ?_
  -- turns 1
  refine .callX rfl rfl rfl (.cons (SLe.refl _) (.cons (SLe.refl _) (.cons (SLe.refl _) (.cons (SLe.refl _) .nil)))) ((c_ins1 h f) 1) ⟨(.head _), trivial⟩ rfl rfl (fun _ h => nomatch h) ?_
  refine .nil ?_
  refine .ret ?_
  refine ⟨trivial, ⟨mem_row_eq (.head _) ?_, trivial⟩⟩
  all_goals (first | rfl)
 replace h1 := of_decide_eq_false h1
 exact absurd (by decide) h1

end Go.Proofs.YtagdgclfnbiahaaGreatDoor

namespace Go.Proofs.YtagdgclfnbiahaaGreatDoor
open Go.RowKit
set_option linter.unusedVariables false

/-! Types. -/
namespace TyXG
theorem ag_66 : AggT Tryz.prog 66 2 := .of (by kernel_rfl)
theorem ag_69 : AggT Tryz.prog 69 3 := .of (by kernel_rfl)
theorem bt_4 : Tryz.prog.underlying 4 = some .bool := by kernel_rfl
theorem bu_66 : StructT Tryz.prog 66 (fun i => (#[(0, 1), (1, 1)] : Array (Nat × Nat))[i]?) [(.bool false), (.slice none 0 0)] := .of (by kernel_rfl) (by kernel_rfl) (by decide)
theorem bu_69 : StructT Tryz.prog 69 (fun i => (#[(0, 2), (2, 1)] : Array (Nat × Nat))[i]?) [(.bool false), (.slice none 0 0), (.slice none 0 0)] := .of (by kernel_rfl) (by kernel_rfl) (by decide)
theorem et_64 : ElemTy Tryz.prog 64 84 1 4 (.int .u32 0) := ⟨by kernel_rfl, by kernel_rfl, by kernel_rfl, by decide⟩
theorem fo_66_0 : fieldOff Tryz.prog 66 0 = some 0 := by kernel_rfl
theorem fo_66_1 : fieldOff Tryz.prog 66 1 = some 1 := by kernel_rfl
theorem fo_69_0 : fieldOff Tryz.prog 69 0 = some 0 := by kernel_rfl
theorem fo_69_1 : fieldOff Tryz.prog 69 1 = some 2 := by kernel_rfl
theorem fv_66_1 : fieldB Tryz.prog 66 1 1 = true := by kernel_rfl
theorem sc_4 : Scal Tryz.prog 4 := .of (by kernel_rfl)
theorem sc_64 : Scal Tryz.prog 64 := .of (by kernel_rfl)
theorem sc_84 : Scal Tryz.prog 84 := .of (by kernel_rfl)
theorem sz_66 : ∀ w, (sizeOf 66).run Tryz.prog w = .ok 2 w := SizeT.of (by kernel_rfl)
theorem sz_69 : ∀ w, (sizeOf 69).run Tryz.prog w = .ok 3 w := SizeT.of (by kernel_rfl)
theorem zt_66 : (Tryz.prog.info? 66).bind (·.zero) = some (.agg #[(.bool false), (.slice none 0 0)]) := by kernel_rfl
theorem zt_69 : (Tryz.prog.info? 69).bind (·.zero) = some (.agg #[(.bool false), (.slice none 0 0), (.slice none 0 0)]) := by kernel_rfl
end TyXG
open TyXA TyXB TyXC TyXD TyXE TyXF TyXG

set_option linter.unusedSimpArgs false
section
variable {P : Program} {B : Nat} {ops : Array Oper} {o : Oper} {e : Env} {σ : Obs}
theorem AOp.toE {a c : Int} {k : IntKind} (h : AOp P B ops o e σ (.d (.v (.int k a)))) (he : a = c) : AOp P B ops o e σ (.d (.v (.int k c))) := he ▸ h
end
theorem w32 {n : Int} (h0 : 0 ≤ n) (h1 : n < 4294967296) : IntKind.u32.wrap n = n := by rw [IntKind.wrap_u32]; omega
def u32E (n : Int) : List D := [.v (.int .u32 n)]
/-- A word and zeros above it. -/
def uL (a : Int) (k : Nat) : List (List D) := u32E a :: List.replicate k (u32E 0)
theorem uL_len (a : Int) (k : Nat) : (uL a k).length = k + 1 := by unfold uL; rw [List.length_cons, List.length_replicate]
theorem uL_at (a : Int) (k : Nat) : (uL a k)[k]? = some (u32E (if k = 0 then a else 0)) := by
  unfold uL
  cases k with
  | zero => rfl
  | succ k => rw [List.getElem?_cons_succ, List.getElem?_replicate, if_pos (Nat.lt_succ_self k), if_neg (Nat.succ_ne_zero k)]
theorem uL_take (a : Int) (k : Nat) : (uL a (k + 1)).take (k + 1) = uL a k := by
  unfold uL
  rw [List.take_succ_cons, List.take_replicate, Nat.min_eq_left (Nat.le_succ k)]
theorem uL_sz (a : Int) (k : Nat) : ∀ y ∈ uL a k, y.length = 1 := fun y hy => by
  unfold uL at hy
  rcases List.mem_cons.1 hy with rfl | hy
  · rfl
  · rw [List.eq_of_mem_replicate hy]; rfl
def natI (a : Int) : List D := [.v (.bool false), .sl [u32E a]]

set_option maxRecDepth 100000 in
set_option maxHeartbeats 1000000 in
theorem c_trim (a : Int) (ha : 0 < a ∧ a < 4294967296) (k : Nat) (hk : k ≤ 10) : ACall Tryz.prog 72 [.sl (uL a k)] (.sl (uL a 0)) := by
 refine acall_of (n := 21) (ds' := [.sl (uL a 0)]) Tryz.func72 rfl (by kernel_rfl) rfl [2] rfl rfl ?_
 intro B w0 F0 fr
 refine .sr ?_
 refine .aA (.nil ?_)
 refine .seq ?_
 refine .block ?_
 refine .loop (G := Nat) (fun j => Env.of [(0, .d (.sl (uL a j)))]) (fun j => []) (fun j => j ≤ k) (fun j => j) k (Nat.le_refl _) (Sub.less ⟨SLe.refl _, trivial⟩ (fun _ h => h)) ?_
 intro j hjk
 refine .seq ?_
 refine .sr ?_
 refine .mA ?_
 refine .sA (.lenSl rfl et_64.ht rfl) ?_
 rw [uL_len]
 refine .sA (.gtr rfl rfl rfl) ?_
 refine .mA ?_
 refine .split 6 rfl (fun g1 => ?_) (fun g1 => ?_)
 ·replace g1 := of_decide_eq_true g1
  refine .sG (.moveD rfl rfl) ?_
  refine .sG (.moveD rfl rfl) ?_
  refine .sG (.lenSl rfl et_64.ht rfl) ?_
  rw [uL_len]
  refine .sG (.sub64 rfl rfl rfl (by omega) (by omega)) ?_
  refine .sG (.indexAddr rfl et_64 rfl rfl j (by omega) (uL_at a j) rfl) ?_
  refine .sG (.load rfl sc_84 rfl) ?_
  refine .sG (.eql rfl rfl rfl) ?_
  refine .sA (.pickT rfl rfl rfl) (.nil ?_)
  refine .cond rfl (fun h2 => ?_) (fun h2 => ?_)
  ·replace h2 := of_decide_eq_true h2
   have hj : j ≠ 0 := fun e => by rw [if_pos e] at h2; omega
   obtain ⟨i, rfl⟩ : ∃ i, j = i + 1 := ⟨j - 1, by omega⟩
   have HT : (uL a (i + 1)).take ((((i + 1 + 1 : Nat) : Int)) - 1).toNat = uL a i := by rw [show ((((i + 1 + 1 : Nat) : Int)) - 1).toNat = i + 1 by omega]; exact uL_take a i
   refine .skip ?_
   refine .block ?_
   refine .region ?_
   refine .mA ?_
   refine .mA ?_
   refine .sA (.lenSl rfl et_64.ht rfl) ?_
   rw [uL_len]
   refine .sA (.sub64 rfl rfl rfl (by omega) (by omega)) ?_
   refine .sA (.sliceH rfl et_64 rfl rfl (by omega) (by rw [uL_len]; omega) (uL_sz _ _)) ?_
   rw [HT]
   refine .aA (.nil ?_)
   refine ⟨i, (by omega), (by dsimp only; omega), Sub.less ⟨SLe.refl _, trivial⟩ (fun _ h => h)⟩
  replace h2 := of_decide_eq_false h2
  have hj : j = 0 := Classical.byContradiction fun e => h2 (if_neg e)
  subst hj
  refine .exit ?_
  refine .sr ?_
  refine .mA ?_
  refine .aA (.nil ?_)
  refine .ret ?_
  refine ⟨RetD.eq rfl ?_, trivial⟩
  all_goals (first | rfl)
 replace g1 := of_decide_eq_false g1
 omega

set_option maxRecDepth 100000 in
set_option maxHeartbeats 1000000 in
theorem c_natOf (a : Int) (ha : 0 < a ∧ a < 4294967296) : ACall Tryz.prog 48 [.v (.int .u64 a)] (.sl (uL a 0)) := by
 refine acall_of (n := 10) (ds' := [.sl (uL a 0)]) Tryz.func48 rfl (by kernel_rfl) rfl [2] rfl rfl ?_
 intro B w0 F0 fr
 refine .sr ?_
 refine .aA (.nil ?_)
 refine .sr ?_
 refine .mA ?_
 refine .sA (.convSame rfl (by kernel_rfl) rfl (w32 (by omega) (by omega))) ?_
 refine .mA ?_
 refine .sA (.toE (c := 0) (.shrG rfl rfl rfl (by decide) (by decide)) (Int.ediv_eq_zero_of_lt (by omega) (by show a < 4294967296; omega))) ?_
 refine .sA (.convSame rfl (by kernel_rfl) rfl (w32 (by decide) (by decide))) ?_
 refine .sA (.buildSlice rfl et_64 (.cons rfl rfl rfl (.cons rfl rfl rfl .nil)) rfl (by decide)) ?_
 refine .sA (.call rfl (.cons (.rfl' rfl) .nil) (c_trim a ha 1 (by decide))) ?_
 refine .aA (.nil ?_)
 refine .ret ?_
 refine ⟨RetD.eq rfl ?_, trivial⟩
 all_goals (rfl)

set_option maxRecDepth 100000 in
set_option maxHeartbeats 1000000 in
theorem c_small (a : Int) (ha : 0 < a ∧ a < 4294967296) : ACall Tryz.prog 64 [.sl (uL a 0)] (.tup [.v (.int .u64 a), .v (.bool true)]) := by
 refine acall_of (n := 26) (ds' := [.v (.int .u64 a), .v (.bool true)]) Tryz.func64 rfl (by kernel_rfl) rfl [2, 3] rfl rfl ?_
 intro B w0 F0 fr
 refine .sr ?_
 refine .aA ?_
 refine .aA (.nil ?_)
 refine .seq ?_
 refine .sr ?_
 refine .mA ?_
 refine .sA (.lenSl rfl et_64.ht rfl) ?_
 rw [uL_len]
 refine .nil ?_
 refine .block ?_
 refine .sr ?_
 refine .sA (.eql rfl rfl rfl) ?_
 refine .aA (.nil ?_)
 refine .cond rfl (fun h1 => ?_) (fun h1 => ?_)
 ·replace h1 := of_decide_eq_true h1
  exact absurd h1 (by decide)
 replace h1 := of_decide_eq_false h1
 refine .sr ?_
 refine .sA (.eql rfl rfl rfl) ?_
 refine .aA (.nil ?_)
 refine .cond rfl (fun h2 => ?_) (fun h2 => ?_)
 ·replace h2 := of_decide_eq_true h2
  refine .sr ?_
  refine .mA ?_
  refine .sA (.indexAddr rfl et_64 rfl rfl 0 rfl (uL_at a 0) rfl) ?_
  refine .sA (.load rfl sc_84 rfl) ?_
  refine .sA (.convSame rfl (by kernel_rfl) rfl (wrapU64 (by omega) (by omega))) ?_
  refine .aA ?_
  refine .aA (.nil ?_)
  refine .ret ?_
  refine ⟨RetD.eq rfl ?_, RetD.eq rfl ?_, trivial⟩
  all_goals (rfl)
 replace h2 := of_decide_eq_false h2
 exact absurd h2 (by decide)

set_option maxRecDepth 100000 in
set_option maxHeartbeats 1000000 in
theorem c_mul64  : ACall Tryz.prog 73 [.v (.int .u64 3), .v (.int .u64 1)] (.tup [.v (.int .u64 0), .v (.int .u64 3)]) := by
 refine acall_of (n := 51) (ds' := [.v (.int .u64 0), .v (.int .u64 3)]) Tryz.func73 rfl (by kernel_rfl) rfl [4, 5] rfl rfl ?_
 intro B w0 F0 fr
 refine .sr ?_
 refine .aA ?_
 refine .aA (.nil ?_)
 refine .sr ?_
 refine .mA ?_
 refine .sA (.toE (c := 3) (.andG rfl rfl rfl) (by decide +kernel)) ?_
 refine .aA (.nil ?_)
 refine .sr ?_
 refine .mA ?_
 refine .sA (.toE (c := 0) (.shrG rfl rfl rfl (by decide) (by decide)) (by decide)) ?_
 refine .aA (.nil ?_)
 refine .sr ?_
 refine .mA ?_
 refine .sA (.toE (c := 1) (.andG rfl rfl rfl) (by decide +kernel)) ?_
 refine .aA (.nil ?_)
 refine .sr ?_
 refine .mA ?_
 refine .sA (.toE (c := 0) (.shrG rfl rfl rfl (by decide) (by decide)) (by decide)) ?_
 refine .aA (.nil ?_)
 refine .sr ?_
 refine .mA ?_
 refine .mA ?_
 refine .sA (.toE (c := 3) (.mul rfl rfl rfl) (by decide)) ?_
 refine .aA (.nil ?_)
 refine .sr ?_
 refine .mA ?_
 refine .mA ?_
 refine .sA (.toE (c := 0) (.mul rfl rfl rfl) (by decide)) ?_
 refine .mA ?_
 refine .sA (.toE (c := 0) (.shrG rfl rfl rfl (by decide) (by decide)) (by decide)) ?_
 refine .sA (.toE (c := 0) (.add rfl rfl rfl) (by decide)) ?_
 refine .aA (.nil ?_)
 refine .sr ?_
 refine .mA ?_
 refine .sA (.toE (c := 0) (.andG rfl rfl rfl) (by decide +kernel)) ?_
 refine .aA (.nil ?_)
 refine .sr ?_
 refine .mA ?_
 refine .sA (.toE (c := 0) (.shrG rfl rfl rfl (by decide) (by decide)) (by decide)) ?_
 refine .aA (.nil ?_)
 refine .sr ?_
 refine .mA ?_
 refine .mA ?_
 refine .mA ?_
 refine .sA (.toE (c := 0) (.mul rfl rfl rfl) (by decide)) ?_
 refine .sA (.toE (c := 0) (.add rfl rfl rfl) (by decide)) ?_
 refine .aA (.nil ?_)
 refine .sr ?_
 refine .mA ?_
 refine .mA ?_
 refine .sA (.toE (c := 0) (.mul rfl rfl rfl) (by decide)) ?_
 refine .mA ?_
 refine .sA (.toE (c := 0) (.add rfl rfl rfl) (by decide)) ?_
 refine .mA ?_
 refine .sA (.toE (c := 0) (.shrG rfl rfl rfl (by decide) (by decide)) (by decide)) ?_
 refine .sA (.toE (c := 0) (.add rfl rfl rfl) (by decide)) ?_
 refine .aA (.nil ?_)
 refine .sr ?_
 refine .mA ?_
 refine .mA ?_
 refine .sA (.toE (c := 3) (.mul rfl rfl rfl) (by decide)) ?_
 refine .aA (.nil ?_)
 refine .ret ?_
 refine ⟨RetD.eq rfl ?_, RetD.eq rfl ?_, trivial⟩
 all_goals (rfl)

set_option maxRecDepth 100000 in
set_option maxHeartbeats 1000000 in
theorem c_nMul  : ACall Tryz.prog 49 [.sl (uL 3 0), .sl (uL 1 0)] (.sl (uL 3 0)) := by
 refine acall_of (n := 103) (ds' := [.sl (uL 3 0)]) Tryz.func49 rfl (by kernel_rfl) rfl [4] rfl rfl ?_
 intro B w0 F0 fr
 refine .sr ?_
 refine .aA (.nil ?_)
 refine .seq ?_
 refine .sr ?_
 refine .mA ?_
 refine .sA (.call rfl (.cons (.rfl' rfl) .nil) (c_small 3 (by decide))) ?_
 refine .mA ?_
 refine .sA (.extract rfl rfl rfl) ?_
 refine .sA (.extract rfl rfl rfl) ?_
 refine .aA ?_
 refine .aA (.nil ?_)
 refine .sr ?_
 refine .mA (.nil ?_)
 refine .cond rfl (fun h1 => ?_) (fun h1 => ?_)
 ·skip
  refine .sr ?_
  refine .mA ?_
  refine .sA (.call rfl (.cons (.rfl' rfl) .nil) (c_small 1 (by decide))) ?_
  refine .mA ?_
  refine .sA (.extract rfl rfl rfl) ?_
  refine .sA (.extract rfl rfl rfl) ?_
  refine .aA ?_
  refine .aA (.nil ?_)
  refine .sr ?_
  refine .mA (.nil ?_)
  refine .cond rfl (fun h2 => ?_) (fun h2 => ?_)
  ·skip
   refine .sr ?_
   refine .mA ?_
   refine .mA ?_
   refine .sA (.call rfl (.cons (.rfl' rfl) (.cons (.rfl' rfl) .nil)) c_mul64) ?_
   refine .mA ?_
   refine .sA (.extract rfl rfl rfl) ?_
   refine .sA (.extract rfl rfl rfl) ?_
   refine .aA ?_
   refine .aA (.nil ?_)
   refine .sr ?_
   refine .mA ?_
   refine .sA (.convSame rfl (by kernel_rfl) rfl (w32 (by decide) (by decide))) ?_
   refine .mA ?_
   refine .sA (.toE (c := 0) (.shrG rfl rfl rfl (by decide) (by decide)) (by decide)) ?_
   refine .sA (.convSame rfl (by kernel_rfl) rfl (w32 (by decide) (by decide))) ?_
   refine .mA ?_
   refine .sA (.convSame rfl (by kernel_rfl) rfl (w32 (by decide) (by decide))) ?_
   refine .mA ?_
   refine .sA (.toE (c := 0) (.shrG rfl rfl rfl (by decide) (by decide)) (by decide)) ?_
   refine .sA (.convSame rfl (by kernel_rfl) rfl (w32 (by decide) (by decide))) ?_
   refine .sA (.buildSlice rfl et_64 (.cons rfl rfl rfl (.cons rfl rfl rfl (.cons rfl rfl rfl (.cons rfl rfl rfl .nil)))) rfl (by decide)) ?_
   refine .sA (.call rfl (.cons (.rfl' rfl) .nil) (c_trim 3 (by decide) 3 (by decide))) ?_
   refine .aA (.nil ?_)
   refine .ret ?_
   refine ⟨RetD.eq rfl ?_, trivial⟩
   all_goals (rfl)
  exact absurd h2 (by decide)
 exact absurd h1 (by decide)

set_option maxRecDepth 100000 in
set_option maxHeartbeats 1000000 in
theorem c_iMul  : ACall Tryz.prog 32 [.agg (natI 3), .agg (natI 1)] (.agg (natI 3)) := by
 refine acall_ofR (n := 23) (ds' := [.agg (natI 3)]) Tryz.func32 rfl (by kernel_rfl) rfl [.cell 4 66] rfl rfl ?_
 intro B w0 F0 fr
 refine .sr ?_
 refine .sA (.box rfl rfl rfl) ?_
 refine .sA (.box rfl rfl rfl) ?_
 refine .alloc 904 rfl rfl rfl rfl zt_66 rfl rfl rfl (.nil ?_)
 refine .sr ?_
 refine .sA (.fieldAddr rfl fo_66_1 rfl) ?_
 refine .sA (.load rfl sc_64 rfl) ?_
 refine .sA (.fieldAddr rfl fo_66_1 rfl) ?_
 refine .sA (.load rfl sc_64 rfl) ?_
 refine .sA (.call rfl (.cons (.rfl' rfl) (.cons (.rfl' rfl) .nil)) c_nMul) ?_
 refine .aA (.nil ?_)
 refine .sr ?_
 refine .sA (.fieldAddr rfl fo_66_0 rfl) ?_
 refine .sA (.load rfl sc_4 rfl) ?_
 refine .sA (.fieldAddr rfl fo_66_0 rfl) ?_
 refine .sA (.load rfl sc_4 rfl) ?_
 refine .sA (.bneq rfl bt_4 rfl rfl) ?_
 refine .mA ?_
 refine .split 16 rfl (fun g1 => ?_) (fun g1 => ?_)
 ·replace g1 := of_decide_eq_true g1
  exact absurd g1 (by decide)
 replace g1 := of_decide_eq_false g1
 refine .pA ?_
 refine .pA ?_
 refine .pA ?_
 refine .sA (.pickF rfl rfl rfl) ?_
 refine .mA ?_
 refine .sA (.build rfl bu_66 (.cons rfl rfl (.cons rfl rfl .nil)) rfl) ?_
 refine .store rfl rfl rfl sz_66 rfl (.head _) rfl rfl rfl (Nat.le_of_ble_eq_true rfl) (.nil ?_)
 refine .ret ?_
 refine ⟨RetR.agg rfl (.head _) ag_66 rfl (.cons (by first | exact CellD.nil | exact CellD.d | exact CellD.eq (by simp) | (refine CellD.own (by first | exact .head _ | exact .tail _ (.head _)) ?_; rfl)) (.cons (by first | exact CellD.nil | exact CellD.d | exact CellD.eq (by simp) | (refine CellD.own (by first | exact .head _ | exact .tail _ (.head _)) ?_; rfl)) .nil)), trivial⟩
 all_goals (rfl)

set_option maxRecDepth 100000 in
set_option maxHeartbeats 1000000 in
theorem c_numOf (a : Int) (ha : 0 < a ∧ a < 4294967296) : ACall Tryz.prog 31 [.v (.int .i64 a)] (.agg (natI a)) := by
 refine acall_ofR (n := 14) (ds' := [.agg (natI a)]) Tryz.func31 rfl (by kernel_rfl) rfl [.cell 2 66] rfl rfl ?_
 intro B w0 F0 fr
 refine .sr ?_
 refine .alloc 902 rfl rfl rfl rfl zt_66 rfl rfl rfl (.nil ?_)
 refine .seq ?_
 refine .sr ?_
 refine .mA ?_
 refine .sA (.lss rfl rfl rfl) (.nil ?_)
 refine .cond rfl (fun h1 => ?_) (fun h1 => ?_)
 ·replace h1 := of_decide_eq_true h1
  omega
 replace h1 := of_decide_eq_false h1
 refine .skip ?_
 refine .sr ?_
 refine .mA ?_
 refine .sA (.convSame rfl (by kernel_rfl) rfl (wrapU64 (by omega) (by omega))) ?_
 refine .sA (.call rfl (.cons (.rfl' rfl) .nil) (c_natOf a ha)) ?_
 refine .sA (.build rfl bu_66 (.cons rfl rfl (.cons rfl rfl .nil)) rfl) ?_
 refine .store rfl rfl rfl sz_66 rfl (.head _) rfl rfl rfl (Nat.le_of_ble_eq_true rfl) (.nil ?_)
 refine .ret ?_
 refine ⟨RetR.agg rfl (.head _) ag_66 rfl (.cons (by first | exact CellD.nil | exact CellD.d | exact CellD.eq (by simp) | (refine CellD.own (by first | exact .head _ | exact .tail _ (.head _)) ?_; rfl)) (.cons (by first | exact CellD.nil | exact CellD.d | exact CellD.eq (by simp) | (refine CellD.own (by first | exact .head _ | exact .tail _ (.head _)) ?_; rfl)) .nil)), trivial⟩
 all_goals (rfl)

set_option maxRecDepth 100000 in
set_option maxHeartbeats 1000000 in
theorem c_gcd  : ACall Tryz.prog 46 [.sl (uL 3 0), .sl (uL 2 0)] (.sl (uL 1 0)) := by
 refine acall_of (n := 45) (ds' := [.sl (uL 1 0)]) Tryz.func46 rfl (by kernel_rfl) rfl [4] rfl rfl ?_
 intro B w0 F0 fr
 refine .sr ?_
 refine .aA (.nil ?_)
 refine .seq ?_
 refine .block ?_
 refine .loop (G := Nat) (fun k => Env.of [(0, .d (.sl (uL 3 0))), (1, .d (.sl (uL 2 0)))]) (fun k => []) (fun k => k = 0) (fun k => k) 0 rfl (Sub.less ⟨SLe.refl _, SLe.refl _, trivial⟩ (fun _ h => h)) ?_
 intro k hk
 refine .seq ?_
 refine .sr ?_
 refine .mA ?_
 refine .sA (.lenSl rfl et_64.ht rfl) ?_
 refine .sA (.gtr rfl rfl rfl) (.nil ?_)
 refine .cond rfl (fun h1 => ?_) (fun h1 => ?_)
 ·replace h1 := of_decide_eq_true h1
  refine .skip ?_
  refine .block ?_
  refine .sr ?_
  refine .mA ?_
  refine .sA (.call rfl (.cons (.rfl' rfl) .nil) (c_small 3 (by decide))) ?_
  refine .mA ?_
  refine .sA (.extract rfl rfl rfl) ?_
  refine .sA (.extract rfl rfl rfl) ?_
  refine .aA ?_
  refine .aA (.nil ?_)
  refine .sr ?_
  refine .mA ?_
  refine .sA (.call rfl (.cons (.rfl' rfl) .nil) (c_small 2 (by decide))) ?_
  refine .mA ?_
  refine .sA (.extract rfl rfl rfl) ?_
  refine .sA (.extract rfl rfl rfl) ?_
  refine .aA ?_
  refine .aA (.nil ?_)
  refine .seq ?_
  refine .sr ?_
  refine .mA ?_
  refine .mA ?_
  refine .split 25 rfl (fun g2 => ?_) (fun g2 => ?_)
  ·skip
   refine .sG (.moveD rfl rfl) ?_
   refine .sA (.pickT rfl rfl rfl) (.nil ?_)
   refine .cond rfl (fun h3 => ?_) (fun h3 => ?_)
   ·skip
    refine .seq ?_
    refine .block ?_
    refine .loop (G := Nat) (fun i => Env.of [(5, .d (.v (.int .u64 (3 - (i : Int))))), (7, .d (.v (.int .u64 (2 - (i : Int)))))]) (fun i => []) (fun i => i ≤ 2) (fun i => 2 - i) 0 (Nat.zero_le _) (Sub.less ⟨(SLe.of_eq rfl), (SLe.of_eq rfl), trivial⟩ (fun _ h => h)) ?_
    intro i hi
    refine .seq ?_
    refine .sr ?_
    refine .mA ?_
    refine .sA (.gtr rfl rfl rfl) (.nil ?_)
    refine .cond rfl (fun h4 => ?_) (fun h4 => ?_)
    ·replace h4 := of_decide_eq_true h4
     have hi2 : i < 2 := by omega
     refine .skip ?_
     refine .block ?_
     refine .draw (by kernel_rfl) (by kernel_rfl) ?_
     refine .sA (.moveD rfl rfl) ?_
     refine .sA (.moveD rfl rfl) ?_
     refine .sA (.moveD rfl rfl) ?_
     refine .sA (.toE (c := 1 - (i : Int)) (.rem rfl rfl rfl (by omega)) (by rcases (show i = 0 ∨ i = 1 by omega) with rfl | rfl <;> rfl)) ?_
     refine .sA (.assignD rfl rfl) ?_
     refine .sA (.assignD rfl rfl) ?_
     refine .nil ?_
     refine ⟨i + 1, (by omega), (by dsimp only; omega), Sub.less ⟨(SLe.of_eq (by rw [show (3 : Int) - ((i + 1 : Nat) : Int) = 2 - (i : Int) by omega]; rfl)), (SLe.of_eq (by rw [show (2 : Int) - ((i + 1 : Nat) : Int) = 1 - (i : Int) by omega]; rfl)), trivial⟩ (fun _ h => h)⟩
    replace h4 := of_decide_eq_false h4
    obtain rfl : i = 2 := by omega
    refine .exit ?_
    refine .sr ?_
    refine .mA ?_
    refine .sA (.call rfl (.cons (.rfl' rfl) .nil) (c_natOf 1 (by decide))) ?_
    refine .aA (.nil ?_)
    refine .ret ?_
    refine ⟨RetD.eq rfl ?_, trivial⟩
    all_goals (rfl)
   exact absurd h3 (by decide)
  exact absurd g2 (by decide)
 replace h1 := of_decide_eq_false h1
 exact absurd h1 (by decide)

set_option maxRecDepth 100000 in
set_option maxHeartbeats 1000000 in
theorem c_over  : ACall Tryz.prog 30 [.agg (natI 3), .sl (uL 2 0)] (.agg [.v (.bool false), .sl (uL 3 0), .sl (uL 2 0)]) := by
 refine acall_ofR (n := 63) (ds' := [.agg [.v (.bool false), .sl (uL 3 0), .sl (uL 2 0)]]) Tryz.func30 rfl (by kernel_rfl) rfl [.cell 4 69] rfl rfl ?_
 intro B w0 F0 fr
 refine .sr ?_
 refine .sA (.box rfl rfl rfl) ?_
 refine .alloc 904 rfl rfl rfl rfl zt_69 rfl rfl rfl (.nil ?_)
 refine .seq ?_
 refine .sr ?_
 refine .sA (.fieldAddr rfl fo_66_1 rfl) ?_
 refine .sA (.load rfl sc_64 rfl) ?_
 refine .sA (.lenSl rfl et_64.ht rfl) ?_
 refine .sA (.eql rfl rfl rfl) (.nil ?_)
 refine .cond rfl (fun h1 => ?_) (fun h1 => ?_)
 ·replace h1 := of_decide_eq_true h1
  exact absurd h1 (by decide)
 replace h1 := of_decide_eq_false h1
 refine .skip ?_
 refine .seq ?_
 refine .sr ?_
 refine .mA ?_
 refine .sA (.lenSl rfl et_64.ht rfl) ?_
 refine .sA (.eql rfl rfl rfl) ?_
 refine .mA ?_
 refine .split 19 rfl (fun g2 => ?_) (fun g2 => ?_)
 ·replace g2 := of_decide_eq_true g2
  refine .sG (.moveD rfl rfl) ?_
  refine .sG (.indexAddr rfl et_64 rfl rfl 0 rfl (uL_at 2 0) rfl) ?_
  refine .sG (.load rfl sc_84 rfl) ?_
  refine .sG (.eql rfl rfl rfl) ?_
  refine .sA (.pickT rfl rfl rfl) (.nil ?_)
  refine .cond rfl (fun h3 => ?_) (fun h3 => ?_)
  ·replace h3 := of_decide_eq_true h3
   exact absurd h3 (by decide)
  replace h3 := of_decide_eq_false h3
  refine .skip ?_
  refine .sr ?_
  refine .sA (.fieldAddr rfl fo_66_1 rfl) ?_
  refine .sA (.load rfl sc_64 rfl) ?_
  refine .mA ?_
  refine .sA (.call rfl (.cons (.rfl' rfl) (.cons (.rfl' rfl) .nil)) c_gcd) ?_
  refine .aA (.nil ?_)
  refine .seq ?_
  refine .sr ?_
  refine .mA ?_
  refine .sA (.lenSl rfl et_64.ht rfl) ?_
  refine .sA (.eql rfl rfl rfl) ?_
  refine .mA ?_
  refine .split 35 rfl (fun g4 => ?_) (fun g4 => ?_)
  ·replace g4 := of_decide_eq_true g4
   refine .sG (.moveD rfl rfl) ?_
   refine .sG (.indexAddr rfl et_64 rfl rfl 0 rfl (uL_at 1 0) rfl) ?_
   refine .sG (.load rfl sc_84 rfl) ?_
   refine .sG (.eql rfl rfl rfl) ?_
   refine .sA (.pickT rfl rfl rfl) (.nil ?_)
   refine .cond rfl (fun h5 => ?_) (fun h5 => ?_)
   ·replace h5 := of_decide_eq_true h5
    refine .sr ?_
    refine .sA (.loadAgg rfl ag_66 rfl rfl) ?_
    refine .mA ?_
    refine .sA (.build rfl bu_69 (.cons rfl rfl (.cons rfl rfl .nil)) rfl) ?_
    refine .store rfl rfl rfl sz_69 rfl (.head _) rfl rfl rfl (Nat.le_of_ble_eq_true rfl) (.nil ?_)
    refine .ret ?_
    refine ⟨RetR.agg rfl (.head _) ag_69 rfl (.cons (by first | exact CellD.nil | exact CellD.d | exact CellD.eq (by simp) | (refine CellD.own (by first | exact .head _ | exact .tail _ (.head _)) ?_; rfl)) (.cons (by first | exact CellD.nil | exact CellD.d | exact CellD.eq (by simp) | (refine CellD.own (by first | exact .head _ | exact .tail _ (.head _)) ?_; rfl)) (.cons (by first | exact CellD.nil | exact CellD.d | exact CellD.eq (by simp) | (refine CellD.own (by first | exact .head _ | exact .tail _ (.head _)) ?_; rfl)) .nil))), trivial⟩
    all_goals (rfl)
   replace h5 := of_decide_eq_false h5
   exact absurd h5 (by decide)
  replace g4 := of_decide_eq_false g4
  exact absurd g4 (by decide)
 replace g2 := of_decide_eq_false g2
 exact absurd g2 (by decide)

set_option maxRecDepth 100000 in
set_option maxHeartbeats 1000000 in
theorem c_nCmp  : ACall Tryz.prog 67 [.sl (uL 3 0), .sl (uL 2 0)] (.v (.int .i64 1)) := by
 refine acall_of (n := 41) (ds' := [.v (.int .i64 1)]) Tryz.func67 rfl (by kernel_rfl) rfl [4] rfl rfl ?_
 intro B w0 F0 fr
 refine .sr ?_
 refine .aA (.nil ?_)
 refine .seq ?_
 refine .sr ?_
 refine .mA ?_
 refine .sA (.lenSl rfl et_64.ht rfl) ?_
 refine .mA ?_
 refine .sA (.lenSl rfl et_64.ht rfl) ?_
 refine .sA (.neq rfl rfl rfl) (.nil ?_)
 refine .cond rfl (fun h1 => ?_) (fun h1 => ?_)
 ·replace h1 := of_decide_eq_true h1
  exact absurd h1 (by decide)
 replace h1 := of_decide_eq_false h1
 refine .skip ?_
 refine .seq ?_
 refine .sr ?_
 refine .mA ?_
 refine .sA (.lenSl rfl et_64.ht rfl) ?_
 refine .sA (.sub64 rfl rfl rfl (by decide) (by decide)) ?_
 refine .aA (.nil ?_)
 refine .block ?_
 refine .loop (G := Nat) (fun k => Env.of [(5, .d (.v (.int .i64 0))), (0, .d (.sl (uL 3 0))), (1, .d (.sl (uL 2 0)))]) (fun k => []) (fun k => k = 0) (fun k => k) 0 rfl (Sub.less ⟨(SLe.of_eq rfl), SLe.refl _, SLe.refl _, trivial⟩ (fun _ h => h)) ?_
 intro k hk
 refine .seq ?_
 refine .sr ?_
 refine .mA ?_
 refine .sA (.geq rfl rfl rfl) (.nil ?_)
 refine .cond rfl (fun h2 => ?_) (fun h2 => ?_)
 ·replace h2 := of_decide_eq_true h2
  refine .skip ?_
  refine .seq ?_
  refine .block ?_
  refine .seq ?_
  refine .draw (by kernel_rfl) (by kernel_rfl) ?_
  refine .sA (.moveD rfl rfl) ?_
  refine .sA (.moveD rfl rfl) ?_
  refine .sA (.indexAddr rfl et_64 rfl rfl 0 rfl (uL_at 3 0) rfl) ?_
  refine .sA (.load rfl sc_84 rfl) ?_
  refine .sA (.moveD rfl rfl) ?_
  refine .sA (.moveD rfl rfl) ?_
  refine .sA (.indexAddr rfl et_64 rfl rfl 0 rfl (uL_at 2 0) rfl) ?_
  refine .sA (.load rfl sc_84 rfl) ?_
  refine .sA (.neq rfl rfl rfl) ?_
  refine .nil ?_
  refine .cond rfl (fun h3 => ?_) (fun h3 => ?_)
  ·replace h3 := of_decide_eq_true h3
   refine .seq ?_
   refine .seq ?_
   refine .draw (by kernel_rfl) (by kernel_rfl) ?_
   refine .sA (.moveD rfl rfl) ?_
   refine .sA (.moveD rfl rfl) ?_
   refine .sA (.indexAddr rfl et_64 rfl rfl 0 rfl (uL_at 3 0) rfl) ?_
   refine .sA (.load rfl sc_84 rfl) ?_
   refine .sA (.moveD rfl rfl) ?_
   refine .sA (.moveD rfl rfl) ?_
   refine .sA (.indexAddr rfl et_64 rfl rfl 0 rfl (uL_at 2 0) rfl) ?_
   refine .sA (.load rfl sc_84 rfl) ?_
   refine .sA (.lss rfl rfl rfl) ?_
   refine .nil ?_
   refine .cond rfl (fun h4 => ?_) (fun h4 => ?_)
   ·replace h4 := of_decide_eq_true h4
    exact absurd h4 (by decide)
   replace h4 := of_decide_eq_false h4
   refine .skip ?_
   refine .sr ?_
   refine .aA (.nil ?_)
   refine .ret ?_
   refine ⟨RetD.eq rfl ?_, trivial⟩
   all_goals (rfl)
  replace h3 := of_decide_eq_false h3
  exact absurd h3 (by decide)
 replace h2 := of_decide_eq_false h2
 exact absurd h2 (by decide)

set_option maxRecDepth 100000 in
set_option maxHeartbeats 1000000 in
theorem c_nDiv  : ACall Tryz.prog 47 [.sl (uL 3 0), .sl (uL 2 0)] (.tup [.sl (uL 1 0), .sl (uL 1 0)]) := by
 refine acall_of (n := 127) (ds' := [.sl (uL 1 0), .sl (uL 1 0)]) Tryz.func47 rfl (by kernel_rfl) rfl [4, 5] rfl rfl ?_
 intro B w0 F0 fr
 refine .sr ?_
 refine .aA ?_
 refine .aA (.nil ?_)
 refine .seq ?_
 refine .sr ?_
 refine .mA ?_
 refine .mA ?_
 refine .sA (.call rfl (.cons (.rfl' rfl) (.cons (.rfl' rfl) .nil)) c_nCmp) ?_
 refine .sA (.lss rfl rfl rfl) (.nil ?_)
 refine .cond rfl (fun h1 => ?_) (fun h1 => ?_)
 ·replace h1 := of_decide_eq_true h1
  exact absurd h1 (by decide)
 replace h1 := of_decide_eq_false h1
 refine .skip ?_
 refine .seq ?_
 refine .sr ?_
 refine .mA ?_
 refine .sA (.call rfl (.cons (.rfl' rfl) .nil) (c_small 3 (by decide))) ?_
 refine .mA ?_
 refine .sA (.extract rfl rfl rfl) ?_
 refine .sA (.extract rfl rfl rfl) ?_
 refine .aA ?_
 refine .aA (.nil ?_)
 refine .sr ?_
 refine .mA (.nil ?_)
 refine .cond rfl (fun h2 => ?_) (fun h2 => ?_)
 ·skip
  refine .sr ?_
  refine .mA ?_
  refine .sA (.call rfl (.cons (.rfl' rfl) .nil) (c_small 2 (by decide))) ?_
  refine .mA ?_
  refine .sA (.extract rfl rfl rfl) ?_
  refine .sA (.extract rfl rfl rfl) ?_
  refine .aA ?_
  refine .aA (.nil ?_)
  refine .seq ?_
  refine .draw (by kernel_rfl) (by kernel_rfl) ?_
  refine .sA (.moveD rfl rfl) ?_
  refine .sA (.moveD rfl rfl) ?_
  refine .sA (.toE (c := 1) (.quo rfl rfl rfl (by decide)) (by decide)) ?_
  refine .sA (.call rfl (.cons (.rfl' rfl) .nil) (c_natOf 1 (by decide))) ?_
  refine .sA (.moveD rfl rfl) ?_
  refine .sA (.moveD rfl rfl) ?_
  refine .sA (.toE (c := 1) (.rem rfl rfl rfl (by decide)) (by decide)) ?_
  refine .sA (.call rfl (.cons (.rfl' rfl) .nil) (c_natOf 1 (by decide))) ?_
  refine .sA (.assignD rfl rfl) ?_
  refine .sA (.assignD rfl rfl) ?_
  refine .nil ?_
  refine .ret ?_
  refine ⟨RetD.eq rfl ?_, RetD.eq rfl ?_, trivial⟩
  all_goals (rfl)
 exact absurd h2 (by decide)

set_option maxRecDepth 100000 in
set_option maxHeartbeats 1000000 in
theorem c_floor  : ACall Tryz.prog 42 [.agg [.v (.bool false), .sl (uL 3 0), .sl (uL 2 0)]] (.agg (natI 1)) := by
 refine acall_ofR (n := 31) (ds' := [.agg (natI 1)]) Tryz.func42 rfl (by kernel_rfl) rfl [.cell 2 66] rfl rfl ?_
 intro B w0 F0 fr
 refine .sr ?_
 refine .sA (.box rfl rfl rfl) ?_
 refine .alloc 902 rfl rfl rfl rfl zt_66 rfl rfl rfl (.nil ?_)
 refine .sr ?_
 refine .sA (.fieldAddr rfl fo_69_0 rfl) ?_
 refine .sA (.fieldAddr rfl fo_66_1 rfl) ?_
 refine .sA (.load rfl sc_64 rfl) ?_
 refine .sA (.fieldAddr rfl fo_69_1 rfl) ?_
 refine .sA (.load rfl sc_64 rfl) ?_
 refine .sA (.call rfl (.cons (.rfl' rfl) (.cons (.rfl' rfl) .nil)) c_nDiv) ?_
 refine .mA ?_
 refine .sA (.extract rfl rfl rfl) ?_
 refine .sA (.extract rfl rfl rfl) ?_
 refine .aA ?_
 refine .aA (.nil ?_)
 refine .seq ?_
 refine .sr ?_
 refine .sA (.fieldAddr rfl fo_69_0 rfl) ?_
 refine .sA (.fieldAddr rfl fo_66_0 rfl) ?_
 refine .sA (.load rfl sc_4 rfl) ?_
 refine .sA (.not rfl rfl) (.nil ?_)
 refine .cond rfl (fun h1 => ?_) (fun h1 => ?_)
 ·replace h1 := bnot_t h1
  refine .sr ?_
  refine .mA ?_
  refine .sA (.build rfl bu_66 (.cons rfl rfl (.cons rfl rfl .nil)) rfl) ?_
  refine .store rfl rfl rfl sz_66 rfl (.head _) rfl rfl rfl (Nat.le_of_ble_eq_true rfl) (.nil ?_)
  refine .ret ?_
  refine ⟨RetR.agg rfl (.head _) ag_66 rfl (.cons (by first | exact CellD.nil | exact CellD.d | exact CellD.eq (by simp) | (refine CellD.own (by first | exact .head _ | exact .tail _ (.head _)) ?_; rfl)) (.cons (by first | exact CellD.nil | exact CellD.d | exact CellD.eq (by simp) | (refine CellD.own (by first | exact .head _ | exact .tail _ (.head _)) ?_; rfl)) .nil)), trivial⟩
  all_goals (rfl)
 replace h1 := bnot_f h1
 exact absurd h1 (by decide)

set_option maxRecDepth 100000 in
set_option maxHeartbeats 1000000 in
theorem c_round  : ACall Tryz.prog 29 [.agg [.v (.bool false), .sl (uL 3 0), .sl (uL 2 0)], .v (.int .i64 1)] (.agg (natI 1)) := by
 refine acall_ofR (n := 16) (ds' := [.agg (natI 1)]) Tryz.func29 rfl (by kernel_rfl) rfl [.cell 4 66] rfl rfl ?_
 intro B w0 F0 fr
 refine .sr ?_
 refine .sA (.box rfl rfl rfl) ?_
 refine .alloc 904 rfl rfl rfl rfl zt_66 rfl rfl rfl (.nil ?_)
 refine .seq ?_
 refine .sr ?_
 refine .mA (.nil ?_)
 refine .block ?_
 refine .sr ?_
 refine .sA (.eql rfl rfl rfl) ?_
 refine .aA (.nil ?_)
 refine .cond rfl (fun h1 => ?_) (fun h1 => ?_)
 ·replace h1 := of_decide_eq_true h1
  refine .sr ?_
  refine .sA (.loadAgg rfl ag_69 rfl rfl) ?_
  refine .sA (.call rfl (.cons (.rfl' rfl) .nil) c_floor) ?_
  refine .store rfl rfl rfl sz_66 rfl (.head _) rfl rfl rfl (Nat.le_of_ble_eq_true rfl) (.nil ?_)
  refine .ret ?_
  refine ⟨RetR.agg rfl (.head _) ag_66 rfl (.cons (by first | exact CellD.nil | exact CellD.d | exact CellD.eq (by simp) | (refine CellD.own (by first | exact .head _ | exact .tail _ (.head _)) ?_; rfl)) (.cons (by first | exact CellD.nil | exact CellD.d | exact CellD.eq (by simp) | (refine CellD.own (by first | exact .head _ | exact .tail _ (.head _)) ?_; rfl)) .nil)), trivial⟩
  all_goals (rfl)
 replace h1 := of_decide_eq_false h1
 exact absurd h1 (by decide)

set_option maxRecDepth 100000 in
set_option maxHeartbeats 1000000 in
theorem c_iSmall  : ACall Tryz.prog 41 [.agg (natI 1)] (.tup [.v (.int .i64 1), .v (.bool true)]) := by
 refine acall_of (n := 25) (ds' := [.v (.int .i64 1), .v (.bool true)]) Tryz.func41 rfl (by kernel_rfl) rfl [2, 3] rfl rfl ?_
 intro B w0 F0 fr
 refine .sr ?_
 refine .sA (.box rfl rfl rfl) ?_
 refine .aA ?_
 refine .aA (.nil ?_)
 refine .sr ?_
 refine .sA (.fieldAddr rfl fo_66_1 rfl) ?_
 refine .sA (.load rfl sc_64 rfl) ?_
 refine .sA (.call rfl (.cons (.rfl' rfl) .nil) (c_small 1 (by decide))) ?_
 refine .mA ?_
 refine .sA (.extract rfl rfl rfl) ?_
 refine .sA (.extract rfl rfl rfl) ?_
 refine .aA ?_
 refine .aA (.nil ?_)
 refine .seq ?_
 refine .sr ?_
 refine .mA ?_
 refine .sA (.not rfl rfl) ?_
 refine .mA ?_
 refine .split 14 rfl (fun g1 => ?_) (fun g1 => ?_)
 ·replace g1 := bnot_t g1
  exact absurd g1 (by decide)
 replace g1 := bnot_f g1
 refine .sG (.moveD rfl rfl) ?_
 refine .sG (.geq rfl rfl rfl) ?_
 refine .sA (.pickF rfl rfl rfl) (.nil ?_)
 refine .cond rfl (fun h2 => ?_) (fun h2 => ?_)
 ·replace h2 := of_decide_eq_true h2
  exact absurd h2 (by decide)
 replace h2 := of_decide_eq_false h2
 refine .skip ?_
 refine .seq ?_
 refine .sr ?_
 refine .sA (.fieldAddr rfl fo_66_0 rfl) ?_
 refine .sA (.load rfl sc_4 rfl) (.nil ?_)
 refine .cond rfl (fun h3 => ?_) (fun h3 => ?_)
 ·skip
  exact absurd h3 (by decide)
 refine .skip ?_
 refine .sr ?_
 refine .mA ?_
 refine .sA (.convSame rfl (by kernel_rfl) rfl (w64 (by decide) (by decide))) ?_
 refine .aA ?_
 refine .aA (.nil ?_)
 refine .ret ?_
 refine ⟨RetD.eq rfl ?_, RetD.eq rfl ?_, trivial⟩
 all_goals (rfl)

set_option maxRecDepth 100000 in
set_option maxHeartbeats 1000000 in
theorem c_isPos (n : Int) : ACall Tryz.prog 25 [.v (.int .i64 n)] (.v (.bool (decide (-10000000000000 ≤ n ∧ n ≤ 10000000000000)))) := by
 refine acall_of (n := 9) (ds' := [.v (.bool (decide (-10000000000000 ≤ n ∧ n ≤ 10000000000000)))]) Tryz.func25 rfl (by kernel_rfl) rfl [2] rfl rfl ?_
 intro B w0 F0 fr
 refine .sr ?_
 refine .aA (.nil ?_)
 refine .sr ?_
 refine .mA ?_
 refine .sA (.geq rfl rfl rfl) ?_
 refine .mA ?_
 refine .split 5 rfl (fun g1 => ?_) (fun g1 => ?_)
 ·replace g1 := of_decide_eq_true g1
  refine .sG (.moveD rfl rfl) ?_
  refine .sG (.leq rfl rfl rfl) ?_
  refine .sA (.pickT rfl rfl rfl) ?_
  refine .aA (.nil ?_)
  refine .ret ?_
  refine ⟨RetD.eq rfl ?_, trivial⟩
  all_goals (simp; omega)
 replace g1 := of_decide_eq_false g1
 refine .pA ?_
 refine .pA ?_
 refine .sA (.pickF rfl rfl rfl) ?_
 refine .aA (.nil ?_)
 refine .ret ?_
 refine ⟨RetD.eq rfl ?_, trivial⟩
 all_goals (simp; omega)

set_option maxRecDepth 100000 in
set_option maxHeartbeats 1000000 in
theorem c_isWay (n : Int) : ACall Tryz.prog 27 [.v (.int .i64 n)] (.v (.bool (decide (1 ≤ n ∧ n ≤ 3)))) := by
 refine acall_of (n := 9) (ds' := [.v (.bool (decide (1 ≤ n ∧ n ≤ 3)))]) Tryz.func27 rfl (by kernel_rfl) rfl [2] rfl rfl ?_
 intro B w0 F0 fr
 refine .sr ?_
 refine .aA (.nil ?_)
 refine .sr ?_
 refine .mA ?_
 refine .sA (.geq rfl rfl rfl) ?_
 refine .mA ?_
 refine .split 5 rfl (fun g1 => ?_) (fun g1 => ?_)
 ·replace g1 := of_decide_eq_true g1
  refine .sG (.moveD rfl rfl) ?_
  refine .sG (.leq rfl rfl rfl) ?_
  refine .sA (.pickT rfl rfl rfl) ?_
  refine .aA (.nil ?_)
  refine .ret ?_
  refine ⟨RetD.eq rfl ?_, trivial⟩
  all_goals (simp; omega)
 replace g1 := of_decide_eq_false g1
 refine .pA ?_
 refine .pA ?_
 refine .sA (.pickF rfl rfl rfl) ?_
 refine .aA (.nil ?_)
 refine .ret ?_
 refine ⟨RetD.eq rfl ?_, trivial⟩
 all_goals (simp; omega)

set_option maxRecDepth 100000 in
set_option maxHeartbeats 1000000 in
theorem c_position  : ACall Tryz.prog 28 [.agg (natI 1)] (.tup [.v (.int .i64 1), .v (.int .i64 0)]) := by
 refine acall_of (n := 19) (ds' := [.v (.int .i64 1), .v (.int .i64 0)]) Tryz.func28 rfl (by kernel_rfl) rfl [2, 3] rfl rfl ?_
 intro B w0 F0 fr
 refine .sr ?_
 refine .sA (.box rfl rfl rfl) ?_
 refine .aA ?_
 refine .aA (.nil ?_)
 refine .sr ?_
 refine .sA (.loadAgg rfl ag_66 rfl rfl) ?_
 refine .sA (.call rfl (.cons (.rfl' rfl) .nil) c_iSmall) ?_
 refine .mA ?_
 refine .sA (.extract rfl rfl rfl) ?_
 refine .sA (.extract rfl rfl rfl) ?_
 refine .aA ?_
 refine .aA (.nil ?_)
 refine .seq ?_
 refine .sr ?_
 refine .mA ?_
 refine .sA (.not rfl rfl) ?_
 refine .mA ?_
 refine .split 13 rfl (fun g1 => ?_) (fun g1 => ?_)
 ·replace g1 := bnot_t g1
  exact absurd g1 (by decide)
 replace g1 := bnot_f g1
 refine .sG (.moveD rfl rfl) ?_
 refine .sG (.call rfl (.cons (.rfl' rfl) .nil) (c_isPos 1)) ?_
 refine .sG (.not rfl rfl) ?_
 refine .sA (.pickF rfl rfl rfl) (.nil ?_)
 refine .cond rfl (fun h2 => ?_) (fun h2 => ?_)
 ·replace h2 := bnot_t h2; replace h2 := of_decide_eq_false h2
  exact absurd h2 (by decide)
 replace h2 := bnot_f h2; replace h2 := of_decide_eq_true h2
 refine .skip ?_
 refine .sr ?_
 refine .mA ?_
 refine .aA ?_
 refine .aA (.nil ?_)
 refine .ret ?_
 refine ⟨RetD.eq rfl ?_, RetD.eq rfl ?_, trivial⟩
 all_goals (rfl)

set_option maxRecDepth 100000 in
set_option maxHeartbeats 1000000 in
theorem c_convert  : ACall Tryz.prog 12 [.v (.int .i64 3), .v (.int .i64 2), .v (.int .i64 1), .v (.int .i64 1)] (.tup [.v (.int .i64 1), .v (.int .i64 0)]) := by
 refine acall_of (n := 38) (ds' := [.v (.int .i64 1), .v (.int .i64 0)]) Tryz.func12 rfl (by kernel_rfl) rfl [8, 9] rfl rfl ?_
 intro B w0 F0 fr
 refine .sr ?_
 refine .aA ?_
 refine .aA (.nil ?_)
 refine .seq ?_
 refine .block ?_
 refine .seq ?_
 refine .sr ?_
 refine .mA ?_
 refine .sA (.call rfl (.cons (.rfl' rfl) .nil) (c_isPos 3)) ?_
 refine .sA (.not rfl rfl) ?_
 refine .aA (.nil ?_)
 refine .cond rfl (fun h1 => ?_) (fun h1 => ?_)
 ·replace h1 := bnot_t h1; replace h1 := of_decide_eq_false h1
  exact absurd h1 (by decide)
 replace h1 := bnot_f h1; replace h1 := of_decide_eq_true h1
 refine .sr ?_
 refine .mA ?_
 refine .sA (.call rfl (.cons (.rfl' rfl) .nil) (c_rate 2)) ?_
 refine .sA (.not rfl rfl) ?_
 refine .aA (.nil ?_)
 refine .cond rfl (fun h2 => ?_) (fun h2 => ?_)
 ·replace h2 := bnot_t h2; replace h2 := of_decide_eq_false h2
  exact absurd h2 (by decide)
 replace h2 := bnot_f h2; replace h2 := of_decide_eq_true h2
 refine .region ?_
 refine .mA ?_
 refine .sA (.call rfl (.cons (.rfl' rfl) .nil) (c_rate 1)) ?_
 refine .sA (.not rfl rfl) ?_
 refine .aA (.nil ?_)
 refine .cond rfl (fun h3 => ?_) (fun h3 => ?_)
 ·replace h3 := bnot_t h3; replace h3 := of_decide_eq_false h3
  exact absurd h3 (by decide)
 replace h3 := bnot_f h3; replace h3 := of_decide_eq_true h3
 refine .sr ?_
 refine .mA ?_
 refine .sA (.call rfl (.cons (.rfl' rfl) .nil) (c_isWay 1)) ?_
 refine .sA (.not rfl rfl) ?_
 refine .aA (.nil ?_)
 refine .cond rfl (fun h4 => ?_) (fun h4 => ?_)
 ·replace h4 := bnot_t h4; replace h4 := of_decide_eq_false h4
  exact absurd h4 (by decide)
 replace h4 := bnot_f h4; replace h4 := of_decide_eq_true h4
 refine .skip ?_
 refine .sr ?_
 refine .mA ?_
 refine .sA (.call rfl (.cons (.rfl' rfl) .nil) (c_numOf 3 (by decide))) ?_
 refine .mA ?_
 refine .sA (.call rfl (.cons (.rfl' rfl) .nil) (c_numOf 1 (by decide))) ?_
 refine .sA (.call rfl (.cons (.rfl' rfl) (.cons (.rfl' rfl) .nil)) c_iMul) ?_
 refine .mA ?_
 refine .sA (.call rfl (.cons (.rfl' rfl) .nil) (c_numOf 2 (by decide))) ?_
 refine .sA (.field rfl fv_66_1 rfl rfl) ?_
 refine .sA (.call rfl (.cons (.rfl' rfl) (.cons (.rfl' rfl) .nil)) c_over) ?_
 refine .mA ?_
 refine .sA (.call rfl (.cons (.rfl' rfl) (.cons (.rfl' rfl) .nil)) c_round) ?_
 refine .sA (.call rfl (.cons (.rfl' rfl) .nil) c_position) ?_
 refine .sA (.extract rfl rfl rfl) ?_
 refine .sA (.extract rfl rfl rfl) ?_
 refine .aA ?_
 refine .aA (.nil ?_)
 refine .ret ?_
 refine ⟨RetD.eq rfl ?_, RetD.eq rfl ?_, trivial⟩
 all_goals (rfl)

set_option maxRecDepth 100000 in
set_option maxHeartbeats 1000000 in
theorem c_alive  : ACall Tryz.prog 5 [] (.v (.bool true)) := by
 refine acall_of (n := 13) (ds' := [.v (.bool true)]) Tryz.func5 rfl (by kernel_rfl) rfl [0] rfl rfl ?_
 intro B w0 F0 fr
 refine .sr ?_
 refine .aA (.nil ?_)
 refine .sr ?_
 refine .sA (.call rfl (.cons (.rfl' rfl) (.cons (.rfl' rfl) (.cons (.rfl' rfl) (.cons (.rfl' rfl) .nil)))) c_convert) ?_
 refine .mA ?_
 refine .sA (.extract rfl rfl rfl) ?_
 refine .sA (.extract rfl rfl rfl) ?_
 refine .aA ?_
 refine .aA (.nil ?_)
 refine .sr ?_
 refine .mA ?_
 refine .sA (.eql rfl rfl rfl) ?_
 refine .mA ?_
 refine .split 9 rfl (fun g1 => ?_) (fun g1 => ?_)
 ·replace g1 := of_decide_eq_true g1
  refine .sG (.moveD rfl rfl) ?_
  refine .sG (.eql rfl rfl rfl) ?_
  refine .sA (.pickT rfl rfl rfl) ?_
  refine .aA (.nil ?_)
  refine .ret ?_
  refine ⟨RetD.eq rfl ?_, trivial⟩
  all_goals (rfl)
 replace g1 := of_decide_eq_false g1
 exact absurd g1 (by decide)

end Go.Proofs.YtagdgclfnbiahaaGreatDoor

namespace Go.Proofs.YtagdgclfnbiahaaGreatDoor
open Go.RowKit
set_option linter.unusedVariables false

/-! Types. -/
namespace TyXH
theorem bu_34 : StructT Tryz.prog 34 (fun i => (#[(0, 1), (1, 1)] : Array (Nat × Nat))[i]?) [(.int .i64 0), (.int .i64 0)] := .of (by kernel_rfl) (by kernel_rfl) (by decide)
theorem bu_40 : StructT Tryz.prog 40 (fun i => (#[(0, 1), (1, 1)] : Array (Nat × Nat))[i]?) [(.string ⟨#[]⟩), (.slice none 0 0)] := .of (by kernel_rfl) (by kernel_rfl) (by decide)
theorem et_36 : ElemTy Tryz.prog 36 43 4 40 (.agg #[(.string ⟨#[]⟩), (.int .i64 0), (.int .i64 0), (.int .i64 0)]) := ⟨by kernel_rfl, by kernel_rfl, by kernel_rfl, by decide⟩
theorem fo_43_1 : fieldOff Tryz.prog 43 1 = some 1 := by kernel_rfl
end TyXH
open TyXA TyXB TyXC TyXD TyXE TyXF TyXG TyXH

set_option linter.unusedSimpArgs false
theorem SLe.fnH (f : Nat) : SLe (.d (.v (.func (.func f) #[] #[]))) (.d (.clo (.func f) [])) := fun F ρ w x h => by
  cases h with
  | d h =>
    rw [rep_v h]
    exact .d (.clo (.func f) [] [] rfl (fun i h1 => absurd h1 (by simp)))
def belV (x n : Int) : Int := if x.tmod n < 0 then x.tmod n + n else x.tmod n
theorem tm_rng {x n : Int} (hn : 0 < n) : -n < x.tmod n ∧ x.tmod n < n := ⟨Int.lt_tmod_of_pos x hn, Int.tmod_lt_of_pos x hn⟩
theorem bel_rng {x n : Int} (hn : 0 < n) : 0 ≤ belV x n ∧ belV x n < n := by
  have := tm_rng (x := x) hn
  unfold belV
  split <;> omega
theorem mrkL_len (s : Snd) (p : Nat) : (mrkL s p).length = mrkN s p := by unfold mrkL; rw [List.length_map, List.length_range]
theorem mrkL_rng (s : Snd) (p : Nat) : ∀ m ∈ mrkL s p, 0 ≤ m ∧ m ≤ 255 := fun m hm => by
  unfold mrkL at hm
  obtain ⟨k, _, rfl⟩ := List.mem_map.1 hm
  exact mk_rng _ _
theorem mrkR_0 {s : Snd} {p : Int} (h : mrkR s p = 0) : SndOk s ∧ (1 ≤ p ∧ p ≤ 100000) ∧ s.len / p.toNat ≤ 508 := by
  unfold mrkR at h
  by_cases h1 : mrkF s p ≠ 0
  · rw [if_pos h1] at h; exact absurd h h1
  rw [if_neg h1] at h
  obtain ⟨h2, h3⟩ := mrkF_ok (Decidable.not_not.1 h1)
  by_cases h4 : 500 + 8 < s.len / p.toNat
  · rw [if_pos h4] at h; exact absurd h (by decide)
  · exact ⟨sndOk h2, h3, by omega⟩
theorem mrkR_ok {s : Snd} {p : Int} (h1 : SndOk s) (h2 : 1 ≤ p ∧ p ≤ 100000) (h3 : s.len / p.toNat ≤ 508) : mrkR s p = 0 := by
  have h : mrkF s p = 0 := by unfold mrkF; rw [sndF_ok h1, if_neg (by decide), if_neg (fun hh => hh h2)]
  unfold mrkR
  rw [h, if_neg (by decide), if_neg (by omega)]
/-- The first least place is not behind one where nothing differs. -/
theorem bst_zero {M W : List Int} {f L : Nat} (hf : f ≤ L) (h : apF M W f = 0) : apF M W (bst (apF M W) L) = 0 ∧ bst (apF M W) L ≤ f := by
  obtain ⟨h1, h2, h3⟩ := bst_spec (apF M W) L
  have h4 := h2 f hf
  have h5 := (apS_rng M W ((bst (apF M W) L : Nat) : Int) W.length).1
  have e : apF M W (bst (apF M W) L) = 0 := by
    have : 0 ≤ apF M W (bst (apF M W) L) := h5
    omega
  refine ⟨e, Nat.le_of_not_lt fun hh => ?_⟩
  have := h3 f hh
  omega

set_option maxRecDepth 100000 in
set_option maxHeartbeats 1000000 in
theorem c_srt1 (h : List D) (f : Nat) : RCall Tryz.prog 20 43 4 [h] [h] [.clo (.func f) []] (.tup []) := by
 refine RCall.of1 (chg := fun i => Nat.ble 1000 i) (xcall_of (n := 14) (ds' := []) Tryz.func20 rfl (by kernel_rfl) rfl [] rfl rfl ?_) rfl
 intro B w0 F0 fr ρ0
 refine .sr ?_
 refine .sA (.moveO rfl rfl) ?_
 refine .sA (.lenOwn rfl et_36.ht rfl (.head _)) ?_
 refine .aA (.nil ?_)
 refine .region ?_
 refine .sA (.moveO rfl rfl) ?_
 refine .mA ?_
 refine .mA ?_
 refine .sA (.convSame rfl (by kernel_rfl) rfl (wrapU64 (by simp) (by simp))) ?_
 refine .sA (.call rfl (.cons (.rfl' rfl) .nil) c_bLen) ?_
 refine .mA ?_
 -- turns 1
 refine .callX rfl rfl rfl (.cons (SLe.refl _) (.cons (SLe.refl _) (.cons (SLe.refl _) (.cons (SLe.refl _) (.cons (SLe.refl _) .nil))))) ((c_pdq1 h f 1) 1) ⟨(.head _), trivial⟩ rfl rfl (fun _ h => nomatch h) ?_
 refine .nil ?_
 refine ⟨trivial, ⟨mem_row_eq (.head _) ?_, trivial⟩⟩
 all_goals (first | rfl)

set_option maxRecDepth 100000 in
set_option maxHeartbeats 4000000 in
theorem c_loc (M W : List Int) (hM : M.length ≤ 500) (hW : 0 < W.length) (hWM : W.length ≤ M.length) (hMr : ∀ m ∈ M, 0 ≤ m ∧ m ≤ 255) (hWr : ∀ m ∈ W, 0 ≤ m ∧ m ≤ 255) (h0 : apF M W (bst (apF M W) (M.length - W.length)) = 0) : ACall Tryz.prog 9 [.sl [[.v (.string ⟨#[97]⟩), .sl (M.map sI)]], .sl (W.map sI), .v (.int .i64 (W.length : Int)), .v (.int .i64 100)] (.tup [.sl [(hitD ⟨#[97]⟩ (bst (apF M W) (M.length - W.length) : Int) 0 (8 * (W.length : Int)))], .v (.int .i64 0)]) := by
 refine acall_of (n := 58) (ds' := [.sl [(hitD ⟨#[97]⟩ (bst (apF M W) (M.length - W.length) : Int) 0 (8 * (W.length : Int)))], .v (.int .i64 0)]) Tryz.func9 rfl (by kernel_rfl) rfl [8, 9] rfl rfl ?_
 intro B w0 F0 fr
 refine .sr ?_
 refine .aA ?_
 refine .aA (.nil ?_)
 refine .seq ?_
 refine .sr ?_
 refine .mA ?_
 refine .sA (.call rfl (.cons (.rfl' rfl) .nil) (c_ckS M hM hMr)) ?_
 refine .aA (.nil ?_)
 refine .sr ?_
 refine .mA ?_
 refine .sA (.neq rfl rfl rfl) (.nil ?_)
 refine .cond rfl (fun h1 => ?_) (fun h1 => ?_)
 ·replace h1 := of_decide_eq_true h1
  exact absurd rfl h1
 replace h1 := of_decide_eq_false h1
 refine .skip ?_
 refine .seq ?_
 refine .sr ?_
 refine .mA ?_
 refine .sA (.buildSlice rfl et_22 (.cons rfl rfl rfl .nil) rfl (by decide)) ?_
 refine .sA (.call rfl (.cons (.rfl' rfl) .nil) (c_ckM W (by omega) hWr)) ?_
 refine .aA (.nil ?_)
 refine .sr ?_
 refine .mA ?_
 refine .sA (.neq rfl rfl rfl) (.nil ?_)
 refine .cond rfl (fun h2 => ?_) (fun h2 => ?_)
 ·replace h2 := of_decide_eq_true h2
  exact absurd rfl h2
 replace h2 := of_decide_eq_false h2
 refine .skip ?_
 refine .seq ?_
 refine .sr ?_
 refine .mA ?_
 refine .mA ?_
 refine .sA (.call rfl (.cons (.rfl' rfl) (.cons (.rfl' rfl) .nil)) (c_ckF W.length (by omega))) ?_
 refine .aA (.nil ?_)
 refine .sr ?_
 refine .mA ?_
 refine .sA (.neq rfl rfl rfl) (.nil ?_)
 refine .cond rfl (fun h3 => ?_) (fun h3 => ?_)
 ·replace h3 := of_decide_eq_true h3
  exact absurd rfl h3
 replace h3 := of_decide_eq_false h3
 refine .skip ?_
 refine .sr ?_
 refine .aA (.nil ?_)
 refine .seq ?_
 refine .sr ?_
 refine .mA ?_
 refine .sA (.lenSl rfl et_41.ht rfl) ?_
 refine .mA (.nil ?_)
 refine .block ?_
 refine .adopt 13 61 43 4 rfl rfl ?_
 refine .loop (G := Nat) (fun k => Env.of [(37, .d (.v (.int .i64 (k : Int)))), (35, .d (.sl [[.v (.string ⟨#[97]⟩), .sl (M.map sI)]])), (36, .d (.v (.int .i64 (([[.v (.string ⟨#[97]⟩), .sl (M.map sI)]]).length : Int)))), (1, .d (.sl (W.map sI))), (2, .d (.v (.int .i64 (W.length : Int)))), (3, .d (.v (.int .i64 100))), (13, .own 61)]) (fun k => [(61, .row 43 4 (List.replicate k (hitD ⟨#[97]⟩ (bst (apF M W) (M.length - W.length) : Int) 0 (8 * (W.length : Int)))))]) (fun k => k ≤ 1) (fun k => 1 - k) 0 (Nat.zero_le _) (Sub.less ⟨(SLe.of_eq rfl), SLe.refl _, SLe.refl _, SLe.refl _, SLe.refl _, SLe.refl _, SLe.refl _, trivial⟩ (row_sameP rfl)) ?_
 intro k hk
 refine .sr ?_
 refine .sA (.lss rfl rfl rfl) (.nil ?_)
 refine .seq ?_
 refine .cond rfl (fun h4 => ?_) (fun h4 => ?_)
 ·replace h4 := of_decide_eq_true h4
  have hk0 : k = 0 := by simp at h4; omega
  refine .skip ?_
  refine .seq ?_
  refine .block ?_
  refine .sr ?_
  refine .sA (.indexAddr rfl et_41 rfl rfl k rfl (by rw [hk0]; rfl) rfl) ?_
  refine .sA (.loadAgg rfl ag_40 rfl rfl) ?_
  refine .alloc 101 rfl rfl rfl rfl zt_40 rfl rfl rfl ?_
  refine .store rfl rfl rfl sz_40 rfl (.head _) rfl rfl rfl (Nat.le_of_ble_eq_true rfl) ?_
  refine .freezeCells 15 (ds := [.v (.string ⟨#[97]⟩), .sl (M.map sI)]) rfl (.head _) (.nil ?_)
  refine .sr ?_
  refine .sA (.loadAgg rfl ag_40 rfl rfl) ?_
  refine .mA ?_
  refine .mA ?_
  refine .mA ?_
  refine .sA (.call rfl (.cons (.rfl' rfl) (.cons (.rfl' rfl) (.cons (.rfl' rfl) (.cons (.rfl' rfl) .nil)))) (c_hit ⟨#[97]⟩ M W hM hW hWM h0)) ?_
  refine .mA ?_
  refine .sA (.extract rfl rfl rfl) ?_
  refine .sA (.extract rfl rfl rfl) ?_
  refine .alloc 102 rfl rfl rfl rfl zt_43 rfl rfl rfl ?_
  refine .store rfl rfl rfl sz_43 rfl (.head _) rfl rfl rfl (Nat.le_of_ble_eq_true rfl) ?_
  refine .freezeCells 16 (ds := (hitD ⟨#[97]⟩ (bst (apF M W) (M.length - W.length) : Int) 0 (8 * (W.length : Int)))) rfl (.head _) ?_
  refine .aA (.nil ?_)
  refine .sr ?_
  refine .mA (.nil ?_)
  refine .cond rfl (fun h5 => ?_) (fun h5 => ?_)
  ·skip
   refine .region ?_
   refine .sA (.moveO rfl rfl) ?_
   refine .sA (.loadAgg rfl ag_43 rfl rfl) ?_
   refine .sA (.buildSlice rfl et_36 (.cons rfl rfl rfl .nil) rfl (by decide)) ?_
   -- append 53
   refine .append rfl rfl rfl rfl et_36 rfl (.head _) rfl (by simp [D.parts, hitD]) (by simp; omega) (by simp; omega) ?_
   refine .sA (.assignO rfl rfl) (.nil ?_)
   refine .region ?_
   refine .sA (.add64 rfl rfl rfl (by omega) (by omega)) ?_
   refine .mA (.nil ?_)
   refine ⟨k + 1, (by omega), (by dsimp only; omega), Sub.less ⟨(SLe.of_eq rfl), SLe.refl _, SLe.refl _, SLe.refl _, SLe.refl _, SLe.refl _, SLe.refl _, trivial⟩ (row_sameP (by rw [hk0]; rfl))⟩
  exact absurd h5 (by decide)
 replace h4 := of_decide_eq_false h4
 have hk1 : k = 1 := by simp at h4; omega
 subst hk1
 refine .exit ?_
 refine .sr ?_
 refine .sA (.moveO rfl rfl) ?_
 -- turns 61
 refine .callX rfl rfl rfl (.cons (SLe.refl _) (.cons (SLe.fnH _) .nil)) ((c_srt1 (hitD ⟨#[97]⟩ (bst (apF M W) (M.length - W.length) : Int) 0 (8 * (W.length : Int))) 21) 61) ⟨(.head _), trivial⟩ rfl rfl (fun _ h => nomatch h) ?_
 refine .nil ?_
 refine .sr ?_
 refine .sA (.moveO rfl rfl) ?_
 refine .sA (.assignO rfl rfl) ?_
 refine .aA (.nil ?_)
 refine .ret ?_
 refine ⟨RetD.own rfl (.head _) ?_, RetD.eq rfl ?_, trivial⟩
 all_goals (first | rfl)

set_option maxRecDepth 100000 in
set_option maxHeartbeats 1000000 in
theorem c_below (x n : Int) (hn : 0 < n ∧ n ≤ 1000000) : ACall Tryz.prog 6 [.v (.int .i64 x), .v (.int .i64 n)] (.v (.int .i64 (belV x n))) := by
 refine acall_of (n := 14) (ds' := [.v (.int .i64 (belV x n))]) Tryz.func6 rfl (by kernel_rfl) rfl [4] rfl rfl ?_
 intro B w0 F0 fr
 have hr := tm_rng (x := x) hn.1
 refine .sr ?_
 refine .aA (.nil ?_)
 refine .sr ?_
 refine .mA ?_
 refine .mA ?_
 refine .sA (.rem rfl rfl rfl (by omega)) ?_
 refine .aA (.nil ?_)
 refine .seq ?_
 refine .sr ?_
 refine .mA ?_
 refine .sA (.lss rfl rfl rfl) (.nil ?_)
 refine .cond rfl (fun h1 => ?_) (fun h1 => ?_)
 ·replace h1 := of_decide_eq_true h1
  have HB : belV x n = x.tmod n + n := if_pos h1
  rw [HB]
  refine .region ?_
  refine .mA ?_
  refine .mA ?_
  refine .sA (.add64 rfl rfl rfl (by omega) (by omega)) ?_
  refine .aA (.nil ?_)
  refine .sr ?_
  refine .mA ?_
  refine .aA (.nil ?_)
  refine .ret ?_
  refine ⟨RetD.eq rfl ?_, trivial⟩
  all_goals (first | rfl)
 replace h1 := of_decide_eq_false h1
 have HB : belV x n = x.tmod n := if_neg h1
 rw [HB]
 refine .skip ?_
 refine .sr ?_
 refine .mA ?_
 refine .aA (.nil ?_)
 refine .ret ?_
 refine ⟨RetD.eq rfl ?_, trivial⟩
 all_goals (first | rfl)

set_option maxRecDepth 100000 in
set_option maxHeartbeats 1000000 in
theorem c_eqI (l : List Int) : ACall Tryz.prog 8 [.sl (l.map sI), .sl (l.map sI)] (.v (.bool true)) := by
 refine acall_of (n := 26) (ds' := [.v (.bool true)]) Tryz.func8 rfl (by kernel_rfl) rfl [4] rfl rfl ?_
 intro B w0 F0 fr
 refine .bound 0 rfl (fun hbd0 => ?_)
 rw [List.length_map] at hbd0
 refine .sr ?_
 refine .aA (.nil ?_)
 refine .seq ?_
 refine .sr ?_
 refine .mA ?_
 refine .sA (.lenSl rfl et_25.ht rfl) ?_
 refine .mA ?_
 refine .sA (.lenSl rfl et_25.ht rfl) ?_
 refine .sA (.neq rfl rfl rfl) (.nil ?_)
 refine .cond rfl (fun h1 => ?_) (fun h1 => ?_)
 ·replace h1 := of_decide_eq_true h1
  exact absurd rfl h1
 replace h1 := of_decide_eq_false h1
 refine .skip ?_
 refine .seq ?_
 refine .sr ?_
 refine .mA ?_
 refine .sA (.lenSl rfl et_25.ht rfl) ?_
 refine .mA (.nil ?_)
 refine .block ?_
 refine .loop (G := Nat) (fun k => Env.of [(13, .d (.v (.int .i64 (k : Int)))), (0, .d (.sl (l.map sI))), (1, .d (.sl (l.map sI))), (12, .d (.v (.int .i64 ((l.map sI).length : Int))))]) (fun k => []) (fun k => k ≤ l.length) (fun k => l.length - k) 0 (Nat.zero_le _) (Sub.less ⟨(SLe.of_eq rfl), SLe.refl _, SLe.refl _, SLe.refl _, trivial⟩ (fun _ h => h)) ?_
 intro k hk
 refine .sr ?_
 refine .sA (.lss rfl rfl rfl) (.nil ?_)
 refine .seq ?_
 refine .cond rfl (fun h2 => ?_) (fun h2 => ?_)
 ·replace h2 := of_decide_eq_true h2
  rw [List.length_map] at h2
  have hlt : k < l.length := by omega
  refine .skip ?_
  refine .seq ?_
  refine .block ?_
  refine .sr ?_
  refine .mA ?_
  refine .aA (.nil ?_)
  refine .seq ?_
  refine .draw (by kernel_rfl) (by kernel_rfl) ?_
  refine .sA (.moveD rfl rfl) ?_
  refine .sA (.moveD rfl rfl) ?_
  refine .sA (.indexAddr rfl et_25 rfl rfl k rfl (at_lst hlt) rfl) ?_
  refine .sA (.load rfl sc_3 rfl) ?_
  refine .sA (.moveD rfl rfl) ?_
  refine .sA (.moveD rfl rfl) ?_
  refine .sA (.indexAddr rfl et_25 rfl rfl k rfl (at_lst hlt) rfl) ?_
  refine .sA (.load rfl sc_3 rfl) ?_
  refine .sA (.neq rfl rfl rfl) ?_
  refine .nil ?_
  refine .cond rfl (fun h3 => ?_) (fun h3 => ?_)
  ·replace h3 := of_decide_eq_true h3
   exact absurd rfl h3
  replace h3 := of_decide_eq_false h3
  refine .skip ?_
  refine .region ?_
  refine .sA (.add64 rfl rfl rfl (by omega) (by omega)) ?_
  refine .mA (.nil ?_)
  refine ⟨k + 1, (by omega), (by dsimp only; omega), Sub.less ⟨(SLe.of_eq rfl), SLe.refl _, SLe.refl _, SLe.refl _, trivial⟩ (fun _ h => h)⟩
 replace h2 := of_decide_eq_false h2
 refine .exit ?_
 refine .sr ?_
 refine .aA (.nil ?_)
 refine .ret ?_
 refine ⟨RetD.eq rfl ?_, trivial⟩
 all_goals (rfl)

set_option maxRecDepth 100000 in
set_option maxHeartbeats 4000000 in
theorem lawMarks (s : Snd) (p z n : Int) : ACall Tryz.prog 3 [.agg s.ds, .v (.int .i64 p), .v (.int .i64 z), .v (.int .i64 n)] (.v (.bool true)) := by
 refine acall_of (n := 110) (ds' := [.v (.bool true)]) Tryz.func3 rfl (by kernel_rfl) rfl [8] rfl rfl ?_
 intro B w0 F0 fr
 refine .sr ?_
 refine .sA (.box rfl rfl rfl) ?_
 refine .aA (.nil ?_)
 refine .sr ?_
 refine .sA (.loadAgg rfl ag_24 rfl rfl) ?_
 refine .mA ?_
 refine .sA (.call rfl (.cons (.rfl' rfl) (.cons (.rfl' rfl) .nil)) (c_marks s p)) ?_
 refine .mA ?_
 refine .sA (.extract rfl rfl rfl) ?_
 refine .sA (.extract rfl rfl rfl) ?_
 refine .aA ?_
 refine .aA (.nil ?_)
 refine .seq ?_
 refine .sr ?_
 refine .mA ?_
 refine .sA (.neq rfl rfl rfl) ?_
 refine .mA ?_
 refine .split 22 rfl (fun g1 => ?_) (fun g1 => ?_)
 ·replace g1 := of_decide_eq_true g1
  skip
  refine .pA ?_
  refine .pA ?_
  refine .pA ?_
  refine .sA (.pickT rfl rfl rfl) (.nil ?_)
  refine .cond rfl (fun _ => ?_) (fun h => nomatch h)
  refine .sr ?_
  refine .sA (.call rfl .nil c_alive) ?_
  refine .aA (.nil ?_)
  refine .ret ?_
  refine ⟨RetD.eq rfl ?_, trivial⟩
  all_goals (first | rfl | (rw [decide_eq_true (show ((bst (apF (mrkL s p.toNat) (((mrkL s p.toNat).drop f).take q)) ((mrkL s p.toNat).length - q) : Nat) : Int) ≤ (f : Int) by omega)]))
 replace g1 := of_decide_eq_false g1
 have hR : mrkR s p = 0 := Decidable.not_not.1 g1
 obtain ⟨ok, hp, hdv⟩ := mrkR_0 hR
 have hpe : ((p.toNat : Nat) : Int) = p := by omega
 have hML := mrkL_len s p.toNat
 have hMN : mrkN s p.toNat = s.len / p.toNat - 8 := rfl
 rw [mrkV_ok hR]
 refine .sG (.moveD rfl rfl) ?_
 refine .sG (.lenSl rfl et_25.ht rfl) ?_
 refine .sG (.eql rfl rfl rfl) ?_
 refine .sA (.pickF rfl rfl rfl) (.nil ?_)
 refine .cond rfl (fun h2 => ?_) (fun h2 => ?_)
 ·replace h2 := of_decide_eq_true h2
  refine .sr ?_
  refine .sA (.call rfl .nil c_alive) ?_
  refine .aA (.nil ?_)
  refine .ret ?_
  refine ⟨RetD.eq rfl ?_, trivial⟩
  all_goals (first | rfl | (rw [decide_eq_true (show ((bst (apF (mrkL s p.toNat) (((mrkL s p.toNat).drop f).take q)) ((mrkL s p.toNat).length - q) : Nat) : Int) ≤ (f : Int) by omega)]))
 replace h2 := of_decide_eq_false h2
 rw [List.length_map] at h2
 have hpos : 0 < (mrkL s p.toNat).length := by omega
 refine .skip ?_
 refine .sr ?_
 refine .mA ?_
 refine .mA ?_
 refine .sA (.lenSl rfl et_25.ht rfl) ?_
 rw [List.length_map]
 refine .sA (.call rfl (.cons (.rfl' rfl) (.cons (.rfl' rfl) .nil)) (c_below z ((mrkL s p.toNat).length : Int) (by omega))) ?_
 have hbf := bel_rng (x := z) (n := ((mrkL s p.toNat).length : Int)) (by omega)
 obtain ⟨f, hf⟩ : ∃ f : Nat, belV z ((mrkL s p.toNat).length : Int) = (f : Int) := ⟨(belV z ((mrkL s p.toNat).length : Int)).toNat, by omega⟩
 rw [hf] at hbf ⊢
 refine .aA (.nil ?_)
 refine .sr ?_
 refine .mA ?_
 refine .mA ?_
 refine .sA (.lenSl rfl et_25.ht rfl) ?_
 rw [List.length_map]
 refine .mA ?_
 refine .sA (.sub64 rfl rfl rfl (by omega) (by omega)) ?_
 refine .sA (.call rfl (.cons (.rfl' rfl) (.cons (.rfl' rfl) .nil)) (c_below n (((mrkL s p.toNat).length : Int) - (f : Int)) (by omega))) ?_
 have hbq := bel_rng (x := n) (n := ((mrkL s p.toNat).length : Int) - (f : Int)) (by omega)
 obtain ⟨g, hg⟩ : ∃ g : Nat, belV n (((mrkL s p.toNat).length : Int) - (f : Int)) = (g : Int) := ⟨(belV n (((mrkL s p.toNat).length : Int) - (f : Int))).toNat, by omega⟩
 rw [hg] at hbq ⊢
 refine .sA (.add64 rfl rfl rfl (by omega) (by omega)) ?_
 obtain ⟨q, hq⟩ : ∃ q : Nat, (1 : Int) + (g : Int) = (q : Int) := ⟨g + 1, by omega⟩
 rw [hq]
 have hfq : f + q ≤ mrkN s p.toNat := by omega
 obtain ⟨hcl, hcm⟩ := mrk_cut ok (p := p.toNat) (f := f) (n := q) (by omega) hfq (by omega)
 have hsum : f * p.toNat + (q + 8) * p.toNat = (f + q + 8) * p.toNat := by rw [← Nat.add_mul, ← Nat.add_assoc]
 have hcut : f * p.toNat + (q + 8) * p.toNat ≤ s.len := by rw [hsum]; exact hcl
 have hlen := ok.len
 have HA : (f : Int) * p = ((f * p.toNat : Nat) : Int) := by rw [Int.natCast_mul, hpe]
 have HB : ((f : Int) + (q : Int) + 8) * p = ((f * p.toNat + (q + 8) * p.toNat : Nat) : Int) := by rw [hsum, Int.natCast_mul, hpe]; rfl
 have okc := cut_ok ok hcut
 have hcn := cut_len ok hcut
 have hqd : (q + 8) * p.toNat / p.toNat = q + 8 := Nat.mul_div_cancel _ (by omega)
 have HC0 : mrkR (cutS s (f * p.toNat) ((q + 8) * p.toNat)) p = 0 := mrkR_ok okc hp (by rw [hcn, hqd]; omega)
 have HCV : mrkV (cutS s (f * p.toNat) ((q + 8) * p.toNat)) p = (((mrkL s p.toNat).drop f).take q) := (mrkV_ok HC0).trans hcm
 have hWl : (((mrkL s p.toNat).drop f).take q).length = q := by rw [List.length_take, List.length_drop]; omega
 have hz := bst_zero (M := (mrkL s p.toNat)) (W := (((mrkL s p.toNat).drop f).take q)) (f := f) (L := (mrkL s p.toNat).length - q) (by omega) (apF_0 (by omega))
 have HL := c_loc (mrkL s p.toNat) (((mrkL s p.toNat).drop f).take q) (by omega) (by omega) (by omega) (mrkL_rng _ _) (fun m hm => mrkL_rng _ _ m (List.mem_of_mem_drop (List.mem_of_mem_take hm))) (by rw [hWl]; exact hz.1)
 rw [hWl] at HL
 have HSL : (((mrkL s p.toNat).map sI).drop (f : Int).toNat).take (((f : Int) + (q : Int)).toNat - (f : Int).toNat) = (((mrkL s p.toNat).drop f).take q).map sI := by
  rw [show ((f : Int) + (q : Int)).toNat - (f : Int).toNat = q by omega, ← List.map_drop, ← List.map_take]; rfl
 refine .aA (.nil ?_)
 refine .sr ?_
 refine .sA (.loadAgg rfl ag_24 rfl rfl) ?_
 refine .mA ?_
 refine .mA ?_
 refine .sA (.mul64 rfl rfl rfl (by rw [HA]; omega) (by rw [HA]; omega)) ?_
 rw [HA]
 refine .mA ?_
 refine .mA ?_
 refine .sA (.add64 rfl rfl rfl (by omega) (by omega)) ?_
 refine .sA (.add64 rfl rfl rfl (by omega) (by omega)) ?_
 refine .mA ?_
 refine .sA (.mul64 rfl rfl rfl (by rw [HB]; omega) (by rw [HB]; omega)) ?_
 rw [HB]
 refine .sA (.build rfl bu_34 (.cons rfl rfl (.cons rfl rfl .nil)) rfl) ?_
 refine .sA (.call rfl (.cons (.rfl' rfl) (.cons (.rfl' rfl) .nil)) (c_cut s (f * p.toNat) ((q + 8) * p.toNat) ok hcut)) ?_
 refine .mA ?_
 refine .sA (.extract rfl rfl rfl) ?_
 refine .sA (.extract rfl rfl rfl) ?_
 refine .alloc 101 rfl rfl rfl rfl zt_24 rfl rfl rfl ?_
 refine .store rfl rfl rfl sz_24 rfl (.head _) rfl rfl rfl (Nat.le_of_ble_eq_true rfl) ?_
 refine .freezeCells 11 (ds := (cutS s (f * p.toNat) ((q + 8) * p.toNat)).ds) rfl (.head _) ?_
 refine .aA (.nil ?_)
 refine .seq ?_
 refine .sr ?_
 refine .mA ?_
 refine .sA (.neq rfl rfl rfl) (.nil ?_)
 refine .cond rfl (fun h3 => ?_) (fun h3 => ?_)
 ·replace h3 := of_decide_eq_true h3
  exact absurd rfl h3
 replace h3 := of_decide_eq_false h3
 refine .skip ?_
 refine .sr ?_
 refine .sA (.loadAgg rfl ag_24 rfl rfl) ?_
 refine .mA ?_
 refine .sA (.call rfl (.cons (.rfl' rfl) (.cons (.rfl' rfl) .nil)) (c_marks (cutS s (f * p.toNat) ((q + 8) * p.toNat)) p)) ?_
 rw [HC0, HCV]
 refine .mA ?_
 refine .sA (.extract rfl rfl rfl) ?_
 refine .sA (.extract rfl rfl rfl) ?_
 refine .aA ?_
 refine .aA (.nil ?_)
 refine .seq ?_
 refine .sr ?_
 refine .mA ?_
 refine .sA (.neq rfl rfl rfl) ?_
 refine .mA ?_
 refine .split 64 rfl (fun g4 => ?_) (fun g4 => ?_)
 ·replace g4 := of_decide_eq_true g4
  exact absurd rfl g4
 replace g4 := of_decide_eq_false g4
 refine .sG (.moveD rfl rfl) ?_
 refine .sG (.moveD rfl rfl) ?_
 refine .sG (.moveD rfl rfl) ?_
 refine .sG (.moveD rfl rfl) ?_
 refine .sG (.moveD rfl rfl) ?_
 refine .sG (.add64 rfl rfl rfl (by omega) (by omega)) ?_
 refine .sG (.sliceLH rfl et_25 rfl rfl rfl (by omega) (by omega) (by rw [List.length_map]; omega) (sI_len _)) ?_
 rw [HSL]
 refine .sG (.call rfl (.cons (.rfl' rfl) (.cons (.rfl' rfl) .nil)) (c_eqI _)) ?_
 refine .sG (.not rfl rfl) ?_
 refine .sA (.pickF rfl rfl rfl) ?_
 refine .mA ?_
 refine .sG (.call rfl .nil c_alive) ?_
 refine .sG (.not rfl rfl) ?_
 refine .sA (.pickF rfl rfl rfl) (.nil ?_)
 refine .cond rfl (fun h => nomatch h) (fun _ => ?_)
 refine .skip ?_
 refine .sr ?_
 refine .mA ?_
 refine .sA (.build rfl bu_40 (.cons rfl rfl (.cons rfl rfl .nil)) rfl) ?_
 refine .sA (.buildSlice rfl et_41 (.cons rfl rfl rfl .nil) rfl (by decide)) ?_
 refine .mA ?_
 refine .mA ?_
 refine .sA (.call rfl (.cons (.rfl' rfl) (.cons (.rfl' rfl) (.cons (.rfl' rfl) (.cons (.rfl' rfl) .nil)))) HL) ?_
 refine .mA ?_
 refine .sA (.extract rfl rfl rfl) ?_
 refine .sA (.extract rfl rfl rfl) ?_
 refine .aA ?_
 refine .aA (.nil ?_)
 refine .sr ?_
 refine .mA ?_
 refine .sA (.eql rfl rfl rfl) ?_
 refine .mA ?_
 refine .split 90 rfl (fun g5 => ?_) (fun g5 => ?_)
 ·replace g5 := of_decide_eq_true g5
  refine .sG (.moveD rfl rfl) ?_
  refine .sG (.lenSl rfl et_36.ht rfl) ?_
  refine .sG (.eql rfl rfl rfl) ?_
  refine .sA (.pickT rfl rfl rfl) ?_
  refine .mA ?_
  refine .split 95 rfl (fun g6 => ?_) (fun g6 => ?_)
  ·replace g6 := of_decide_eq_true g6
   refine .sG (.moveD rfl rfl) ?_
   refine .sG (.indexAddr rfl et_36 rfl rfl 0 rfl rfl rfl) ?_
   refine .sG (.fieldAddr rfl fo_43_2 rfl) ?_
   refine .sG (.load rfl sc_3 rfl) ?_
   refine .sG (.eql rfl rfl rfl) ?_
   refine .sA (.pickT rfl rfl rfl) ?_
   refine .mA ?_
   refine .split 102 rfl (fun g7 => ?_) (fun g7 => ?_)
   ·replace g7 := of_decide_eq_true g7
    refine .sG (.moveD rfl rfl) ?_
    refine .sG (.indexAddr rfl et_36 rfl rfl 0 rfl rfl rfl) ?_
    refine .sG (.fieldAddr rfl fo_43_1 rfl) ?_
    refine .sG (.load rfl sc_3 rfl) ?_
    refine .sG (.moveD rfl rfl) ?_
    refine .sG (.leq rfl rfl rfl) ?_
    refine .sA (.pickT rfl rfl rfl) ?_
    refine .aA (.nil ?_)
    refine .ret ?_
    refine ⟨RetD.eq rfl ?_, trivial⟩
    all_goals (first | rfl | (rw [decide_eq_true (show ((bst (apF (mrkL s p.toNat) (((mrkL s p.toNat).drop f).take q)) ((mrkL s p.toNat).length - q) : Nat) : Int) ≤ (f : Int) by omega)]))
   replace g7 := of_decide_eq_false g7
   exact absurd rfl g7
  replace g6 := of_decide_eq_false g6
  exact absurd rfl g6
 replace g5 := of_decide_eq_false g5
 exact absurd rfl g5

end Go.Proofs.YtagdgclfnbiahaaGreatDoor
