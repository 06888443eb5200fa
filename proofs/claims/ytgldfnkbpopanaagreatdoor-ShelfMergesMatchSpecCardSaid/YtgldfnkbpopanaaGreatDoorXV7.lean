/- Walks and laws over abstract values, merged by tools/merge.py. No statement of the seat. -/
import Derived.Test.YtgldfnkbpopanaaGreatDoorXV6

namespace Go.Proofs.YtgldfnkbpopanaaGreatDoor
open Go.RowKit
set_option linter.unusedVariables false
section
variable {cx : Cx} {e : Env} {σ : Obs} {Q : Post}
theorem R0.freezeMap0 {F : Nat → Prop} {ρ : Nat → Value} {a : Act} {w : World} (h : R0 cx F ρ e σ a w) {id : Nat} {M0 M : List (Value × D)} (hm : (id, Ob.map M0) ∈ σ) (hp : M0.Perm M) : ∃ F', R0 cx F' ρ e (Obs.del id σ) a w ∧ Rep F' w (ρ id) (.fm M) := by
  refine ⟨_, h.freezeAny hm, ?_⟩
  obtain ⟨b, es, clock, h2, h3, h4, h5, h6, h7⟩ := h.obs.ok _ hm
  dsimp only at h2
  rw [h2]
  exact .fm b clock es M0 M hp (.inr rfl) h5 h6 (fun i h1 h2 => (h7 i h1 h2).1) fun i h1 h2 => (h7 i h1 h2).2.mono (fun _ h => .inl h) fun _ _ => rfl
theorem R0.freezeMapIn {F : Nat → Prop} {ρ : Nat → Value} {a : Act} {w : World} (h : R0 cx F ρ e σ a w) {c off id : Nat} {ss : List S} {M0 M : List (Value × D)} (hc : (c, Ob.cells ss) ∈ Obs.del id σ) (hs : ss[off]? = some (.own id)) (hm : (id, Ob.map M0) ∈ σ) (hp : M0.Perm M) :
    ∃ F', R0 cx F' ρ e (Obs.upd c (.cells (ss.set off (.d (.fm M)))) (Obs.del id σ)) a w := by
  obtain ⟨F', h1, h2⟩ := h.freezeMap0 hm hp
  exact ⟨F', h1.recell hc hs fun x hx => by cases hx; exact .d h2⟩
theorem AWP.freezeMapIn {cd : Code} (c off : Nat) {id : Nat} {ss : List S} {M0 : List (Value × D)} (M : List (Value × D)) (hs : ss[off]? = some (.own id)) (hc : (c, Ob.cells ss) ∈ Obs.del id σ) (hm : (id, Ob.map M0) ∈ σ) (hp : M0.Perm M)
    (k : AWP cx cd e (Obs.upd c (.cells (ss.set off (.d (.fm M)))) (Obs.del id σ)) Q) : AWP cx cd e σ Q := fun a w ⟨_, ρ, hr⟩ => by
  obtain ⟨F', h⟩ := hr.freezeMapIn hc hs hm hp
  exact k a w ⟨F', ρ, h⟩
end
theorem perm_map_inv {α β : Type} {g : α → β} : ∀ {M : List β} {l : List α}, M.Perm (l.map g) → ∃ l0 : List α, l0.Perm l ∧ M = l0.map g
  | [], l, h => by
    have := h.symm.length_eq
    rw [List.length_map] at this
    obtain rfl := List.eq_nil_of_length_eq_zero this
    exact ⟨[], List.Perm.refl _, rfl⟩
  | b :: M, l, h => by
    have hb : b ∈ l.map g := h.mem_iff.1 List.mem_cons_self
    obtain ⟨x, hx, rfl⟩ := List.mem_map.1 hb
    obtain ⟨l1, l2, rfl⟩ := List.append_of_mem hx
    have h2 : (g x :: M).Perm (g x :: (l1 ++ l2).map g) := by
      refine h.trans ?_
      rw [List.map_append, List.map_cons, List.map_append]
      exact List.perm_middle
    obtain ⟨l0, h3, rfl⟩ := perm_map_inv ((List.perm_cons _).1 h2)
    exact ⟨x :: l0, (h3.cons x).trans List.perm_middle.symm, rfl⟩

/-! Types. -/
namespace TyLK
theorem mt_61 : Tryz.prog.underlying 61 = some (.map 3 70) := by kernel_rfl
theorem mt_62 : Tryz.prog.underlying 62 = some (.map 3 75) := by kernel_rfl
end TyLK
open TyH3 TyH5 TyJ3 TyJ4 TyJ5 TyKA TyKB TyKC TyKD TyKE TyKF TyKG TyLA TyLB TyLC TyLD TyLE TyLF TyLG TyLH TyLI TyLJ TyLK

set_option linter.unusedSimpArgs false
theorem nd_len : ∀ {n : Nat} {l : List Nat}, l.Nodup → (∀ i ∈ l, i < n) → l.length ≤ n := fun {n l} h1 h2 => by
  have hp : l.Perm ((List.range n).filter fun i => decide (i ∈ l)) := (List.perm_ext_iff_of_nodup h1 (List.nodup_range.filter _)).2 fun i => by
    rw [List.mem_filter, List.mem_range, decide_eq_true_eq]
    exact ⟨fun h => ⟨h2 i h, h⟩, fun h => h.2⟩
  have := hp.length_eq
  have h3 := List.length_filter_le (fun i => decide (i ∈ l)) (List.range n)
  rw [List.length_range] at h3
  omega
theorem nd_snoc {n : Nat} {l : List Nat} {i : Nat} (h1 : l.Nodup ∧ ∀ i ∈ l, i < n) (hi : i < n) (hn : i ∉ l) : (l ++ [i]).Nodup ∧ ∀ j ∈ l ++ [i], j < n := by
  refine ⟨List.nodup_append.2 ⟨h1.1, by simp, fun x hx y hy => ?_⟩, fun j hj => ?_⟩
  · rw [List.mem_singleton] at hy
    subst hy
    exact fun e => hn (e ▸ hx)
  · rcases List.mem_append.1 hj with hj | hj
    · exact h1.2 j hj
    · rw [List.mem_singleton] at hj; omega
section
variable {β : Type}
def pickL (L : GL β) (dn : List Nat) : GL β := dn.filterMap fun i => L[i]?
theorem pickL_next {L : GL β} {dn : List Nat} {i : Nat} (h : i < L.length) : pickL L (dn ++ [i]) = pickL L dn ++ [L[i]] := by
  unfold pickL
  rw [List.filterMap_append]
  simp [h]
theorem pick_put {T L : GL β} {dn : List Nat} {i : Nat} (h : i < L.length) : putAll T (pickL L (dn ++ [i])) = putG (putAll T (pickL L dn)) L[i].1 L[i].2 := by
  rw [pickL_next h, putAll_append]; rfl
theorem range_get (L : GL β) : ∀ n, n ≤ L.length → (List.range n).filterMap (fun i => L[i]?) = L.take n
  | 0, _ => by simp
  | n + 1, h => by
    rw [List.range_succ, List.filterMap_append, range_get L n (by omega), List.take_add_one]
    have : n < L.length := by omega
    simp [this]
theorem pickL_perm {L : GL β} {dn : List Nat} (hd : dn.Nodup ∧ ∀ i ∈ dn, i < L.length) (hall : ∀ i, i < L.length → i ∈ dn) : (pickL L dn).Perm L := by
  have h1 : dn.Perm (List.range L.length) := (List.perm_ext_iff_of_nodup hd.1 List.nodup_range).2 fun i => by
    rw [List.mem_range]; exact ⟨hd.2 i, hall i⟩
  have h2 := h1.filterMap (fun i => L[i]?)
  rw [range_get L L.length (Nat.le_refl _), List.take_length] at h2
  exact h2
theorem nk_perm {L L' : GL β} (h : NkG L) (hp : L.Perm L') : NkG L' := hp.pairwise h fun h e => h e.symm
theorem find_perm {L L' : GL β} (h : NkG L) (hp : L.Perm L') (k : Int) : findG L k = findG L' k := by
  have key : ∀ {A B : GL β}, NkG A → NkG B → A.Perm B → ∀ v, findG A k = some v → findG B k = some v := fun {A B} hA hB hAB v hv => by
    have h1 := (mem_find hB (p := (k, v))).1 (hAB.mem_iff.1 (find_mem hv))
    exact h1
  have h' := nk_perm h hp
  cases hv : findG L k with
  | some v => exact (key h h' hp v hv).symm
  | none =>
    cases hw : findG L' k with
    | none => rfl
    | some v => rw [key h' h hp.symm v hw] at hv; cases hv
/-- i is L with E put over it, in whatever order. -/
structure Ov (L E i : GL β) : Prop where
  nk : NkG i
  keys : KeysOk i
  find : ∀ k, findG i k = match findG E k with | some v => some v | none => findG L k
  len : i.length ≤ L.length + E.length
theorem ov_end {L E E0 : GL β} (hL : NkG L) (hE : NkG E) (kL : KeysOk L) (kE : KeysOk E) (hp : E0.Perm E) {dn : List Nat} (hd : dn.Nodup ∧ ∀ i ∈ dn, i < E0.length) (hall : ∀ i, i < E0.length → i ∈ dn) : Ov L E (putAll L (pickL E0 dn)) := by
  have h1 := (pickL_perm hd hall).trans hp
  have h2 := nk_perm hE h1.symm
  refine ⟨putAll_nk hL, putAll_keys kL fun p hq => kE p (h1.mem_iff.1 hq), fun k => ?_, ?_⟩
  · rw [putAll_find h2, find_perm h2 h1]; first | done | (cases findG E k <;> rfl)
  · have := putAll_len (pickL E0 dn) L
    rw [h1.length_eq] at this; exact this
theorem Ov.perm {L E i : GL β} (h : Ov L E i) (hE : NkG E) (hL : NkG L) : i.Perm (putAll L E) := perm_find h.nk (putAll_nk hL) fun k => by rw [h.find, putAll_find hE]; first | done | (cases findG E k <;> rfl)
end
theorem keys_perm {β : Type} {L L' : GL β} (h : KeysOk L) (hp : L'.Perm L) : KeysOk L' := fun p hq => h p (hp.mem_iff.1 hq)
theorem keys_pick {β : Type} {L : GL β} (h : KeysOk L) (dn : List Nat) : KeysOk (pickL L dn) := fun p hp => by
  obtain ⟨i, _, h2⟩ := List.mem_filterMap.1 hp
  exact h p (List.mem_of_getElem? h2)

set_option maxRecDepth 100000 in
set_option maxHeartbeats 1000000 in
theorem c_copyT (T X : TL) (hT : NkG T) (hX : NkG X) (kT : KeysOk T) (kX : KeysOk X) : XCallE (ι := TL) Tryz.prog 73 [.own 91, .d (.fm (encT X))] [(91, .map (encT T))] (fun i => [(91, .map (encT i))]) (Ov T X) (fun i => Nat.ble 2000 i) (.tup []) := by
 refine xcallE_of (n := 16) (ds' := []) Tryz.func73 rfl (by kernel_rfl) rfl [] rfl rfl ?_
 intro B w0 F0 fr ρ0
 refine .sr ?_
 refine .mA ?_
 refine .rangeF 2071 rfl rfl rfl rfl mt_61 rfl rfl (fun M0 hM0 => ?_)
 obtain ⟨X0, hX0, rfl⟩ := perm_map_inv (g := fun p : Int × Option Thg => (kI p.1, ptD p.2)) (l := X) hM0
 have kX0 := keys_perm kX hX0
 refine .nil ?_
 refine .block ?_
 refine .loop (G := List Nat) (fun dn => Env.of [(7, .ptr 2071 0), (0, .own 91)]) (fun dn => [(2071, .iter (encT X0) dn), (91, .map (encT (putAll T (pickL X0 dn))))]) (fun dn => dn.Nodup ∧ ∀ i ∈ dn, i < X0.length) (fun dn => X0.length - dn.length) [] ⟨List.nodup_nil, fun i h => absurd h List.not_mem_nil⟩ (Sub.less ⟨SLe.refl _, SLe.refl _, trivial⟩ (obs_e rfl)) ?_
 intro dn hd
 refine .sr ?_
 refine .nextL rfl rfl rfl rfl rfl (.head _) (fun hall => ?_) (fun i hi hni => ?_)
 ·skip
  have HO := ov_end hT hX kT kX hX0 hd hall
  refine .sA (.extract rfl rfl rfl) (.nil ?_)
  refine .seq ?_
  refine .cond rfl (fun h => nomatch h) (fun _ => ?_)
  refine .exit ?_
  refine ⟨putAll T (pickL X0 dn), HO, trivial, ⟨mem_ob_eq (.tail _ (.head _)) ?_, trivial⟩⟩
  all_goals (rfl)
 have hsn := nd_snoc hd hi hni
 have hnl := nd_len hsn.1 hsn.2
 rw [List.length_append, List.length_singleton] at hnl
 have HN := pick_put (T := T) (dn := dn) hi
 refine .sA (.extract rfl rfl rfl) (.nil ?_)
 refine .seq ?_
 refine .cond rfl (fun _ => ?_) (fun h => nomatch h)
 refine .skip ?_
 refine .block ?_
 refine .sr ?_
 refine .sA (.entryL rfl rfl (.head _) hi) ?_
 refine .sA (.extract rfl rfl rfl) ?_
 refine .sA (.extract rfl rfl rfl) ?_
 refine .aA ?_
 refine .aA (.nil ?_)
 refine .region ?_
 refine .sA (.moveO rfl rfl) ?_
 refine .mA ?_
 refine .mA ?_
 refine .eff rfl rfl (.mapUpdateX (key := kI X0[i].1) (d := ptD X0[i].2) rfl rfl mt_T kd_int rfl (.tail _ (.head _)) rfl (DExact.v _) rfl (kI_ok (kX0 _ (List.getElem_mem hi))) (enc_keys (putAll_keys kT (keys_pick kX0 dn))) (mput_T (putAll_nk hT) _ _)) (.nil ?_)
 refine ⟨dn ++ [i], hsn, (by dsimp only; rw [List.length_append, List.length_singleton]; omega), Sub.less ⟨SLe.refl _, SLe.refl _, trivial⟩ (obs_e (by rw [← HN]; rfl))⟩

set_option maxRecDepth 100000 in
set_option maxHeartbeats 1000000 in
theorem c_copyM (T X : ML) (hT : NkG T) (hX : NkG X) (kT : KeysOk T) (kX : KeysOk X) : XCallE (ι := ML) Tryz.prog 74 [.own 92, .d (.fm (encM X))] [(92, .map (encM T))] (fun i => [(92, .map (encM i))]) (Ov T X) (fun i => Nat.ble 2000 i) (.tup []) := by
 refine xcallE_of (n := 16) (ds' := []) Tryz.func74 rfl (by kernel_rfl) rfl [] rfl rfl ?_
 intro B w0 F0 fr ρ0
 refine .sr ?_
 refine .mA ?_
 refine .rangeF 2071 rfl rfl rfl rfl mt_62 rfl rfl (fun M0 hM0 => ?_)
 obtain ⟨X0, hX0, rfl⟩ := perm_map_inv (g := fun p : Int × Option Int => (kI p.1, pmD p.2)) (l := X) hM0
 have kX0 := keys_perm kX hX0
 refine .nil ?_
 refine .block ?_
 refine .loop (G := List Nat) (fun dn => Env.of [(7, .ptr 2071 0), (0, .own 92)]) (fun dn => [(2071, .iter (encM X0) dn), (92, .map (encM (putAll T (pickL X0 dn))))]) (fun dn => dn.Nodup ∧ ∀ i ∈ dn, i < X0.length) (fun dn => X0.length - dn.length) [] ⟨List.nodup_nil, fun i h => absurd h List.not_mem_nil⟩ (Sub.less ⟨SLe.refl _, SLe.refl _, trivial⟩ (obs_e rfl)) ?_
 intro dn hd
 refine .sr ?_
 refine .nextL rfl rfl rfl rfl rfl (.head _) (fun hall => ?_) (fun i hi hni => ?_)
 ·skip
  have HO := ov_end hT hX kT kX hX0 hd hall
  refine .sA (.extract rfl rfl rfl) (.nil ?_)
  refine .seq ?_
  refine .cond rfl (fun h => nomatch h) (fun _ => ?_)
  refine .exit ?_
  refine ⟨putAll T (pickL X0 dn), HO, trivial, ⟨mem_ob_eq (.tail _ (.head _)) ?_, trivial⟩⟩
  all_goals (rfl)
 have hsn := nd_snoc hd hi hni
 have hnl := nd_len hsn.1 hsn.2
 rw [List.length_append, List.length_singleton] at hnl
 have HN := pick_put (T := T) (dn := dn) hi
 refine .sA (.extract rfl rfl rfl) (.nil ?_)
 refine .seq ?_
 refine .cond rfl (fun _ => ?_) (fun h => nomatch h)
 refine .skip ?_
 refine .block ?_
 refine .sr ?_
 refine .sA (.entryL rfl rfl (.head _) hi) ?_
 refine .sA (.extract rfl rfl rfl) ?_
 refine .sA (.extract rfl rfl rfl) ?_
 refine .aA ?_
 refine .aA (.nil ?_)
 refine .region ?_
 refine .sA (.moveO rfl rfl) ?_
 refine .mA ?_
 refine .mA ?_
 refine .eff rfl rfl (.mapUpdateX (key := kI X0[i].1) (d := pmD X0[i].2) rfl rfl mt_M kd_int rfl (.tail _ (.head _)) rfl (DExact.v _) rfl (kI_ok (kX0 _ (List.getElem_mem hi))) (enc_keys (putAll_keys kT (keys_pick kX0 dn))) (mput_M (putAll_nk hT) _ _)) (.nil ?_)
 refine ⟨dn ++ [i], hsn, (by dsimp only; rw [List.length_append, List.length_singleton]; omega), Sub.less ⟨SLe.refl _, SLe.refl _, trivial⟩ (obs_e (by rw [← HN]; rfl))⟩

set_option maxRecDepth 100000 in
set_option maxHeartbeats 1000000 in
theorem c_over (T X : TL) (M Y : ML) (hT : NkG T) (hX : NkG X) (hM : NkG M) (hY : NkG Y) (kT : KeysOk T) (kX : KeysOk X) (kM : KeysOk M) (kY : KeysOk Y) : XCallE (ι := TL × ML) Tryz.prog 29 [.own 100, .d (.agg [.fm (encT X), .fm (encM Y)])] [(100, .val [.own 91, .own 92]), (91, .map (encT T)), (92, .map (encM M))] (fun i => [(100, .val [.own 91, .own 92]), (91, .map (encT i.1)), (92, .map (encM i.2))]) (fun i => Ov T X i.1 ∧ Ov M Y i.2) (fun i => Nat.ble 1000 i) (.tup []) := by
 refine xcallE_of (n := 14) (ds' := []) Tryz.func29 rfl (by kernel_rfl) rfl [] rfl rfl ?_
 intro B w0 F0 fr ρ0
 refine .sr ?_
 refine .boxVal 1001 rfl rfl rfl rfl rfl (.head _) rfl ?_
 refine .sA (.box rfl rfl rfl) (.nil ?_)
 refine .sr ?_
 refine .sA (.fieldAddrP rfl fo_64_0 rfl) ?_
 refine .sA (.loadP rfl sc_61 rfl (.head _) rfl) ?_
 refine .sA (.fieldAddr rfl fo_64_0 rfl) ?_
 refine .sA (.load rfl sc_61 rfl) ?_
 refine .callXE rfl rfl rfl (ArgsS.cons (SLe.refl _) (ArgsS.cons (SLe.refl _) ArgsS.nil)) (c_copyT T X hT hX kT kX) ⟨(.tail _ (.tail _ (.head _))), trivial⟩ rfl (fun _ => rfl) (fun i h => by show (!(Nat.ble 1000 i)) = false; rw [show Nat.ble 1000 i = true from Nat.ble_eq_true_of_le (Nat.le_trans (by decide : 1000 ≤ 2000) (Nat.le_of_ble_eq_true h))]; rfl) (fun T2 hT2 => ?_)
 refine .nil ?_
 refine .region ?_
 refine .sA (.fieldAddrP rfl fo_64_1 rfl) ?_
 refine .sA (.loadP rfl sc_62 rfl (.tail _ (.head _)) rfl) ?_
 refine .sA (.fieldAddr rfl fo_64_1 rfl) ?_
 refine .sA (.load rfl sc_62 rfl) ?_
 refine .callXE rfl rfl rfl (ArgsS.cons (SLe.refl _) (ArgsS.cons (SLe.refl _) ArgsS.nil)) (c_copyM M Y hM hY kM kY) ⟨(.tail _ (.tail _ (.tail _ (.head _)))), trivial⟩ rfl (fun _ => rfl) (fun i h => by show (!(Nat.ble 1000 i)) = false; rw [show Nat.ble 1000 i = true from Nat.ble_eq_true_of_le (Nat.le_trans (by decide : 1000 ≤ 2000) (Nat.le_of_ble_eq_true h))]; rfl) (fun M2 hM2 => ?_)
 refine .nil ?_
 refine ⟨(T2, M2), ⟨hT2, hM2⟩, trivial, ⟨mem_ob_eq (.tail _ (.tail _ (.tail _ (.head _)))) ?_, mem_ob_eq (.tail _ (.head _)) ?_, mem_ob_eq (.head _) ?_, trivial⟩⟩
 all_goals (rfl)


/-! Types. -/
namespace TyLL
theorem ag_35 : AggT Tryz.prog 35 4 := .of (by kernel_rfl)
theorem bu_25 : StructT Tryz.prog 25 (fun i => (#[(0, 1), (1, 1)] : Array (Nat × Nat))[i]?) [(.slice none 0 0), (.slice none 0 0)] := .of (by kernel_rfl) (by kernel_rfl) (by decide)
theorem bu_85 : StructT Tryz.prog 85 (fun i => (#[(0, 1), (1, 1)] : Array (Nat × Nat))[i]?) [(.int .i64 0), (.int .i64 0)] := .of (by kernel_rfl) (by kernel_rfl) (by decide)
theorem sz_22 : ∀ w, (sizeOf 22).run Tryz.prog w = .ok 1 w := SizeT.of (by kernel_rfl)
theorem sz_23 : ∀ w, (sizeOf 23).run Tryz.prog w = .ok 1 w := SizeT.of (by kernel_rfl)
theorem sz_25 : ∀ w, (sizeOf 25).run Tryz.prog w = .ok 2 w := SizeT.of (by kernel_rfl)
theorem sz_35 : ∀ w, (sizeOf 35).run Tryz.prog w = .ok 4 w := SizeT.of (by kernel_rfl)
theorem zt_25 : (Tryz.prog.info? 25).bind (·.zero) = some (.agg #[(.slice none 0 0), (.slice none 0 0)]) := by kernel_rfl
theorem zt_35 : (Tryz.prog.info? 35).bind (·.zero) = some (.agg #[(.slice none 0 0), (.slice none 0 0), (.slice none 0 0), (.slice none 0 0)]) := by kernel_rfl
end TyLL
open TyH3 TyH5 TyJ3 TyJ4 TyJ5 TyKA TyKB TyKC TyKD TyKE TyKF TyKG TyLA TyLB TyLC TyLD TyLE TyLF TyLG TyLH TyLI TyLJ TyLK TyLL

set_option linter.unusedSimpArgs false
theorem AOp.ptNe {P : Program} {B : Nat} {ops : Array Oper} {o : Oper} {e : Env} {σ : Obs} {t ty el : TypeId} {x y : Operand} {p : Option Thg} (ho : o.op = .binOp .neq t x y ty) (ht : P.underlying t = some (.pointer el)) (hx : e.ev x = .d (ptD p)) (hy : e.ev y = .d (.v (.pointer none))) : AOp P B ops o e σ (.d (.v (.bool (decide (p ≠ none))))) := by
  cases p with
  | none => exact AOp.nilNe ho ht hx hy
  | some a => rw [decide_eq_true (by simp : some a ≠ none)]; exact AOp.fpNe ho ht hx hy
theorem AOp.pmNe {P : Program} {B : Nat} {ops : Array Oper} {o : Oper} {e : Env} {σ : Obs} {t ty el : TypeId} {x y : Operand} {p : Option Int} (ho : o.op = .binOp .neq t x y ty) (ht : P.underlying t = some (.pointer el)) (hx : e.ev x = .d (pmD p)) (hy : e.ev y = .d (.v (.pointer none))) : AOp P B ops o e σ (.d (.v (.bool (decide (p ≠ none))))) := by
  cases p with
  | none => exact AOp.nilNe ho ht hx hy
  | some a => rw [decide_eq_true (by simp : some a ≠ none)]; exact AOp.fpNe ho ht hx hy
section
variable {β : Type}
def valsTo (T : GL (Option β)) (n : Nat) : GL β := ((keysG T).take n).filterMap fun k => (findG T k).join.map fun v => (k, v)
def noneTo (T : GL (Option β)) (n : Nat) : List Int := ((keysG T).take n).filter fun k => (findG T k).join.isNone
theorem valsTo_all (T : GL (Option β)) : valsTo T (keysG T).length = valsG T := by unfold valsTo; rw [List.take_length]; rfl
theorem noneTo_all (T : GL (Option β)) : noneTo T (keysG T).length = noneG T := by unfold noneTo; rw [List.take_length]; rfl
theorem to_some {T : GL (Option β)} {n : Nat} (h : n < (keysG T).length) {v : β} (hv : (findG T (keysG T)[n]).join = some v) : valsTo T (n + 1) = valsTo T n ++ [((keysG T)[n], v)] ∧ noneTo T (n + 1) = noneTo T n := by
  unfold valsTo noneTo
  rw [List.take_add_one, List.getElem?_eq_getElem h, Option.toList_some, List.filterMap_append, List.filter_append]
  refine ⟨?_, ?_⟩
  · rw [List.filterMap_cons_some (by rw [hv]; rfl)]; rfl
  · rw [List.filter_cons_of_neg (by rw [hv]; simp)]; simp
theorem to_none {T : GL (Option β)} {n : Nat} (h : n < (keysG T).length) (hv : (findG T (keysG T)[n]).join = none) : valsTo T (n + 1) = valsTo T n ∧ noneTo T (n + 1) = noneTo T n ++ [(keysG T)[n]] := by
  unfold valsTo noneTo
  rw [List.take_add_one, List.getElem?_eq_getElem h, Option.toList_some, List.filterMap_append, List.filter_append]
  refine ⟨?_, ?_⟩
  · rw [List.filterMap_cons_none (by rw [hv]; rfl)]; simp
  · rw [List.filter_cons_of_pos (by rw [hv]; rfl)]; rfl
theorem valsTo_len (T : GL (Option β)) (n : Nat) : (valsTo T n).length ≤ T.length := by
  unfold valsTo
  have := List.length_filterMap_le (fun k => (findG T k).join.map fun v => (k, v)) ((keysG T).take n)
  have h2 := keysG_len T
  rw [List.length_take] at this; omega
theorem noneTo_len (T : GL (Option β)) (n : Nat) : (noneTo T n).length ≤ T.length := by
  unfold noneTo
  have := List.length_filter_le (fun k => (findG T k).join.isNone) ((keysG T).take n)
  have h2 := keysG_len T
  rw [List.length_take] at this; omega
theorem keysG_ok {T : GL β} (h : KeysOk T) {n : Int} (hn : n ∈ keysG T) : i64 n := by
  rw [keysG_mem] at hn
  obtain ⟨v, hv⟩ := Option.isSome_iff_exists.1 hn
  exact h _ (find_mem hv)
end
def mvO (p : Int × Int) : Mvd := ⟨p.1, p.2⟩
/-- Written out. -/
def chgO (T : TL) (M : ML) : Chg := ⟨(valsG T).map (·.2), noneG T, (valsG M).map mvO, noneG M⟩
def ctlO (T : TL) (M : ML) : Ctl := ⟨(valsG T).map (·.2), (valsG M).map mvO⟩
def PrtOk (T : TL) : Prop := ∀ k t, findG T k = some (some t) → t.parts.length ≤ 1048576
theorem PrtOk.join {T : TL} (h : PrtOk T) {k : Int} {t : Thg} (ht : (findG T k).join = some t) : t.parts.length ≤ 1048576 := by
  cases hf : findG T k with
  | none => rw [hf] at ht; cases ht
  | some o =>
    rw [hf] at ht
    cases o with
    | none => cases ht
    | some u =>
      obtain rfl : u = t := Option.some.inj ht
      exact h k u hf

set_option maxRecDepth 100000 in
set_option maxHeartbeats 4000000 in
theorem c_chg (T : TL) (M : ML) (hT : NkG T) (hM : NkG M) (kT : KeysOk T) (kM : KeysOk M) (hl : T.length ≤ 1048576) (hm : M.length ≤ 1048576) (pT : PrtOk T) : ACall Tryz.prog 80 [.agg [.fm (encT T), .fm (encM M)]] (.agg (chgO T M).ds) := by
 refine acall_ofR (n := 72) (ds' := [.agg (chgO T M).ds]) Tryz.func80 rfl (by kernel_rfl) rfl [.cell 2 35] rfl rfl ?_
 intro B w0 F0 fr
 have q1 := keysG_len T
 have q2 := keysG_len M
 refine .sr ?_
 refine .sA (.box rfl rfl rfl) ?_
 refine .alloc 101 rfl rfl rfl rfl zt_35 rfl rfl rfl (.nil ?_)
 refine .sr ?_
 refine .alloc 102 rfl rfl rfl rfl zt_35 rfl rfl rfl ?_
 refine .adoptCell 201 41 7 102 0 (.head _) rfl rfl ?_
 refine .adoptCell 202 3 1 102 1 (.tail _ (.head _)) rfl rfl ?_
 refine .adoptCell 203 85 2 102 2 (.tail _ (.tail _ (.head _))) rfl rfl ?_
 refine .adoptCell 204 3 1 102 3 (.tail _ (.tail _ (.tail _ (.head _)))) rfl rfl ?_
 refine .nil ?_
 refine .seq ?_
 refine .sr ?_
 refine .sA (.fieldAddr rfl fo_64_0 rfl) ?_
 refine .sA (.load rfl sc_61 rfl) ?_
 refine .sA (.call rfl (.cons (.rfl' rfl) .nil) (c_keysT T hT kT hl).toA) ?_
 refine .sA (.lenSl rfl et_33.ht rfl) ?_
 refine .mA (.nil ?_)
 refine .block ?_
 refine .loop (G := Nat) (fun k => Env.of [(14, .d (.v (.int .i64 (k : Int)))), (12, .d (.sl ((keysG T).map intD))), (13, .d (.v (.int .i64 (((keysG T).map intD).length : Int)))), (1, .d (.fp [.fm (encT T), .fm (encM M)])), (2, .ptr 101 0), (3, .ptr 102 0)]) (fun k => [(204, .row 3 1 (([] : List Int).map intD)), (203, .row 85 2 (([] : GL Int).map fun p => (mvO p).ds)), (202, .row 3 1 ((noneTo T k).map intD)), (201, .row 41 7 ((valsTo T k).map fun p => p.2.ds)), (102, .cells [.own 201, .own 202, .own 203, .own 204]), (101, .cells [.d (.v (.slice none 0 0)), .d (.v (.slice none 0 0)), .d (.v (.slice none 0 0)), .d (.v (.slice none 0 0))])]) (fun k => k ≤ (keysG T).length) (fun k => (keysG T).length - k) 0 (Nat.zero_le _) (Sub.less ⟨(SLe.of_eq rfl), SLe.refl _, SLe.refl _, SLe.refl _, SLe.refl _, SLe.refl _, trivial⟩ (obs_e rfl)) ?_
 intro k hk
 refine .sr ?_
 refine .sA (.lss rfl rfl rfl) (.nil ?_)
 refine .seq ?_
 refine .cond rfl (fun h1 => ?_) (fun h1 => ?_)
 ·replace h1 := of_decide_eq_true h1
  rw [List.length_map] at h1
  have hltk : k < (keysG T).length := by omega
  have hbkk := keysG_ok kT (List.getElem_mem hltk)
  have hv1 := valsTo_len T k
  have hv2 := noneTo_len T k
  refine .skip ?_
  refine .seq ?_
  refine .block ?_
  refine .sr ?_
  refine .sA (.indexAddr rfl et_33 rfl rfl k rfl (at_lst hltk) rfl) ?_
  refine .sA (.load rfl sc_3 rfl) ?_
  refine .aA (.nil ?_)
  refine .sr ?_
  refine .sA (.fieldAddr rfl fo_64_0 rfl) ?_
  refine .sA (.load rfl sc_61 rfl) ?_
  refine .mA ?_
  refine .sA (.lookupF (key := kI (keysG T)[k]) rfl mt_T kd_int zt_pT zd_p rfl rfl (DExact.v _) (kI_ok hbkk) (enc_keys kT) (mget_T hT _)) ?_
  refine .aA (.nil ?_)
  refine .sr ?_
  refine .mA ?_
  refine .sA (.ptNe rfl pt_th rfl rfl) (.nil ?_)
  refine .cond rfl (fun h2 => ?_) (fun h2 => ?_)
  ·replace h2 := of_decide_eq_true h2
   obtain ⟨t, ht⟩ := Option.ne_none_iff_exists'.1 h2
   rw [ht]
   obtain ⟨HV, HN⟩ := to_some hltk ht
   refine .drawTail 7 (by kernel_rfl) (by kernel_rfl) (by kernel_rfl) ?_
   refine .sA (.fieldAddrP rfl fo_35_0 rfl) ?_
   refine .sA (.loadP rfl sc_22 rfl (.tail _ (.tail _ (.tail _ (.tail _ (.head _))))) rfl) ?_
   refine .sA (.moveD rfl rfl) ?_
   refine .sA (.nilCheck rfl rfl) ?_
   refine .sA (.loadAgg rfl ag_41 rfl rfl) ?_
   refine .sA (.call rfl (.cons (.rfl' rfl) .nil) (c_own t (pT.join ht))) ?_
   refine .sA (.buildSlice rfl et_22 (.cons rfl rfl rfl .nil) rfl (by decide)) ?_
   refine .nil ?_
   -- append 31
   refine .append rfl rfl rfl rfl et_22 rfl (.tail _ (.tail _ (.tail _ (.head _)))) rfl (fun y hy => by obtain rfl := List.mem_singleton.1 hy; rfl) (by simp; omega) (by simp; omega) ?_
   refine .sA (.fieldAddrP rfl fo_35_0 rfl) ?_
   refine .storeS rfl rfl rfl sz_22 rfl (.tail _ (.tail _ (.tail _ (.tail _ (.head _))))) rfl (.tail _ (.tail _ (.tail _ (.head _)))) (Nat.le_of_ble_eq_true rfl) (.nil ?_)
   refine .region ?_
   refine .sA (.add64 rfl rfl rfl (by omega) (by omega)) ?_
   refine .mA (.nil ?_)
   refine ⟨k + 1, (by omega), (by dsimp only; omega), Sub.less ⟨(SLe.of_eq rfl), SLe.refl _, SLe.refl _, SLe.refl _, SLe.refl _, SLe.refl _, trivial⟩ (obs_e (by dsimp only; rw [HV, HN, List.map_append]; rfl))⟩
  replace h2 := of_decide_eq_false h2
  have ht := Decidable.not_not.1 h2
  obtain ⟨HV, HN⟩ := to_none hltk ht
  refine .region ?_
  refine .sA (.fieldAddrP rfl fo_35_1 rfl) ?_
  refine .sA (.loadP rfl sc_33 rfl (.tail _ (.tail _ (.tail _ (.tail _ (.head _))))) rfl) ?_
  refine .mA ?_
  refine .sA (.buildSlice rfl et_33 (.cons rfl rfl rfl .nil) rfl (by decide)) ?_
  -- append 37
  refine .append rfl rfl rfl rfl et_33 rfl (.tail _ (.tail _ (.head _))) rfl (fun y hy => by obtain rfl := List.mem_singleton.1 hy; rfl) (by simp; omega) (by simp; omega) ?_
  refine .sA (.fieldAddrP rfl fo_35_1 rfl) ?_
  refine .storeS rfl rfl rfl sz_33 rfl (.tail _ (.tail _ (.tail _ (.tail _ (.head _))))) rfl (.tail _ (.tail _ (.head _))) (Nat.le_of_ble_eq_true rfl) (.nil ?_)
  refine .region ?_
  refine .sA (.add64 rfl rfl rfl (by omega) (by omega)) ?_
  refine .mA (.nil ?_)
  refine ⟨k + 1, (by omega), (by dsimp only; omega), Sub.less ⟨(SLe.of_eq rfl), SLe.refl _, SLe.refl _, SLe.refl _, SLe.refl _, SLe.refl _, trivial⟩ (obs_e (by dsimp only; rw [HV, HN, List.map_append]; rfl))⟩
 replace h1 := of_decide_eq_false h1
 rw [List.length_map] at h1
 obtain rfl : k = (keysG T).length := by omega
 rw [valsTo_all, noneTo_all]
 refine .exit ?_
 refine .seq ?_
 refine .sr ?_
 refine .sA (.fieldAddr rfl fo_64_1 rfl) ?_
 refine .sA (.load rfl sc_62 rfl) ?_
 refine .sA (.call rfl (.cons (.rfl' rfl) .nil) (c_keysM M hM kM hm).toA) ?_
 refine .sA (.lenSl rfl et_33.ht rfl) ?_
 refine .mA (.nil ?_)
 refine .block ?_
 refine .loop (G := Nat) (fun j => Env.of [(44, .d (.v (.int .i64 (j : Int)))), (42, .d (.sl ((keysG M).map intD))), (43, .d (.v (.int .i64 (((keysG M).map intD).length : Int)))), (1, .d (.fp [.fm (encT T), .fm (encM M)])), (2, .ptr 101 0), (3, .ptr 102 0)]) (fun j => [(204, .row 3 1 ((noneTo M j).map intD)), (203, .row 85 2 ((valsTo M j).map fun p => (mvO p).ds)), (202, .row 3 1 ((noneG T).map intD)), (201, .row 41 7 ((valsG T).map fun p => p.2.ds)), (102, .cells [.own 201, .own 202, .own 203, .own 204]), (101, .cells [.d (.v (.slice none 0 0)), .d (.v (.slice none 0 0)), .d (.v (.slice none 0 0)), .d (.v (.slice none 0 0))])]) (fun j => j ≤ (keysG M).length) (fun j => (keysG M).length - j) 0 (Nat.zero_le _) (Sub.less ⟨(SLe.of_eq rfl), SLe.refl _, SLe.refl _, SLe.refl _, SLe.refl _, SLe.refl _, trivial⟩ (obs_e rfl)) ?_
 intro j hj
 refine .sr ?_
 refine .sA (.lss rfl rfl rfl) (.nil ?_)
 refine .seq ?_
 refine .cond rfl (fun h3 => ?_) (fun h3 => ?_)
 ·replace h3 := of_decide_eq_true h3
  rw [List.length_map] at h3
  have hltj : j < (keysG M).length := by omega
  have hbkj := keysG_ok kM (List.getElem_mem hltj)
  have hv1 := valsTo_len M j
  have hv2 := noneTo_len M j
  refine .skip ?_
  refine .seq ?_
  refine .block ?_
  refine .sr ?_
  refine .sA (.indexAddr rfl et_33 rfl rfl j rfl (at_lst hltj) rfl) ?_
  refine .sA (.load rfl sc_3 rfl) ?_
  refine .aA (.nil ?_)
  refine .sr ?_
  refine .sA (.fieldAddr rfl fo_64_1 rfl) ?_
  refine .sA (.load rfl sc_62 rfl) ?_
  refine .mA ?_
  refine .sA (.lookupF (key := kI (keysG M)[j]) rfl mt_M kd_int zt_pM zd_p rfl rfl (DExact.v _) (kI_ok hbkj) (enc_keys kM) (mget_M hM _)) ?_
  refine .aA (.nil ?_)
  refine .sr ?_
  refine .mA ?_
  refine .sA (.pmNe rfl pt_in rfl rfl) (.nil ?_)
  refine .cond rfl (fun h4 => ?_) (fun h4 => ?_)
  ·replace h4 := of_decide_eq_true h4
   obtain ⟨t, ht⟩ := Option.ne_none_iff_exists'.1 h4
   rw [ht]
   obtain ⟨HV, HN⟩ := to_some hltj ht
   refine .drawTail 8 (by kernel_rfl) (by kernel_rfl) (by kernel_rfl) ?_
   refine .sA (.fieldAddrP rfl fo_35_2 rfl) ?_
   refine .sA (.loadP rfl sc_23 rfl (.tail _ (.tail _ (.tail _ (.tail _ (.head _))))) rfl) ?_
   refine .sA (.moveD rfl rfl) ?_
   refine .sA (.moveD rfl rfl) ?_
   refine .sA (.nilCheck rfl rfl) ?_
   refine .sA (.load rfl sc_3 rfl) ?_
   refine .sA (.build rfl bu_85 (.cons rfl rfl (.cons rfl rfl .nil)) rfl) ?_
   refine .sA (.buildSlice rfl et_23 (.cons rfl rfl rfl .nil) rfl (by decide)) ?_
   refine .nil ?_
   -- append 62
   refine .append rfl rfl rfl rfl et_23 rfl (.tail _ (.head _)) rfl (fun y hy => by obtain rfl := List.mem_singleton.1 hy; rfl) (by simp; omega) (by simp; omega) ?_
   refine .sA (.fieldAddrP rfl fo_35_2 rfl) ?_
   refine .storeS rfl rfl rfl sz_23 rfl (.tail _ (.tail _ (.tail _ (.tail _ (.head _))))) rfl (.tail _ (.head _)) (Nat.le_of_ble_eq_true rfl) (.nil ?_)
   refine .region ?_
   refine .sA (.add64 rfl rfl rfl (by omega) (by omega)) ?_
   refine .mA (.nil ?_)
   refine ⟨j + 1, (by dsimp only; omega), (by dsimp only; omega), Sub.less ⟨(SLe.of_eq rfl), SLe.refl _, SLe.refl _, SLe.refl _, SLe.refl _, SLe.refl _, trivial⟩ (obs_e (by dsimp only; rw [HV, HN, List.map_append]; rfl))⟩
  replace h4 := of_decide_eq_false h4
  have ht := Decidable.not_not.1 h4
  obtain ⟨HV, HN⟩ := to_none hltj ht
  refine .region ?_
  refine .sA (.fieldAddrP rfl fo_35_3 rfl) ?_
  refine .sA (.loadP rfl sc_33 rfl (.tail _ (.tail _ (.tail _ (.tail _ (.head _))))) rfl) ?_
  refine .mA ?_
  refine .sA (.buildSlice rfl et_33 (.cons rfl rfl rfl .nil) rfl (by decide)) ?_
  -- append 68
  refine .append rfl rfl rfl rfl et_33 rfl (.head _) rfl (fun y hy => by obtain rfl := List.mem_singleton.1 hy; rfl) (by simp; omega) (by simp; omega) ?_
  refine .sA (.fieldAddrP rfl fo_35_3 rfl) ?_
  refine .storeS rfl rfl rfl sz_33 rfl (.tail _ (.tail _ (.tail _ (.tail _ (.head _))))) rfl (.head _) (Nat.le_of_ble_eq_true rfl) (.nil ?_)
  refine .region ?_
  refine .sA (.add64 rfl rfl rfl (by omega) (by omega)) ?_
  refine .mA (.nil ?_)
  refine ⟨j + 1, (by dsimp only; omega), (by dsimp only; omega), Sub.less ⟨(SLe.of_eq rfl), SLe.refl _, SLe.refl _, SLe.refl _, SLe.refl _, SLe.refl _, trivial⟩ (obs_e (by dsimp only; rw [HV, HN, List.map_append]; rfl))⟩
 replace h3 := of_decide_eq_false h3
 rw [List.length_map] at h3
 obtain rfl : j = (keysG M).length := by omega
 rw [valsTo_all, noneTo_all]
 refine .exit ?_
 refine .seq ?_
 refine .freezeIn 102 0 rfl (.tail _ (.tail _ (.tail _ (.head _)))) (.tail _ (.tail _ (.tail _ (.head _)))) ?_
 refine .freezeIn 102 1 rfl (.tail _ (.tail _ (.head _))) (.tail _ (.tail _ (.head _))) ?_
 refine .freezeIn 102 2 rfl (.tail _ (.head _)) (.tail _ (.head _)) ?_
 refine .freezeIn 102 3 rfl (.head _) (.head _) ?_
 refine .region ?_
 refine .sA (.loadPU rfl ag_35 rfl (.head _) rfl rfl) ?_
 refine .store rfl rfl rfl sz_35 rfl (.tail _ (.head _)) rfl rfl rfl (Nat.le_of_ble_eq_true rfl) (.nil ?_)
 refine .ret ?_
 refine ⟨RetR.agg rfl (.tail _ (.head _)) ag_35 rfl (.cons (by first | exact CellD.nil | exact CellD.d | exact CellD.eq (by simp [chgO, Function.comp_def]; try rfl) | (refine CellD.own (by first | exact .head _ | exact .tail _ (.head _)) ?_; rfl)) (.cons (by first | exact CellD.nil | exact CellD.d | exact CellD.eq (by simp [chgO, Function.comp_def]; try rfl) | (refine CellD.own (by first | exact .head _ | exact .tail _ (.head _)) ?_; rfl)) (.cons (by first | exact CellD.nil | exact CellD.d | exact CellD.eq (by simp [chgO, Function.comp_def]; try rfl) | (refine CellD.own (by first | exact .head _ | exact .tail _ (.head _)) ?_; rfl)) (.cons (by first | exact CellD.nil | exact CellD.d | exact CellD.eq (by simp [chgO, Function.comp_def]; try rfl) | (refine CellD.own (by first | exact .head _ | exact .tail _ (.head _)) ?_; rfl)) .nil)))), trivial⟩
 all_goals (rfl)

set_option maxRecDepth 100000 in
set_option maxHeartbeats 1000000 in
theorem c_cat (T : TL) (M : ML) (hT : NkG T) (hM : NkG M) (kT : KeysOk T) (kM : KeysOk M) (hl : T.length ≤ 1048576) (hm : M.length ≤ 1048576) (pT : PrtOk T) : ACall Tryz.prog 37 [.agg [.fm (encT T), .fm (encM M)]] (.agg (ctlO T M).ds) := by
 refine acall_ofR (n := 11) (ds' := [.agg (ctlO T M).ds]) Tryz.func37 rfl (by kernel_rfl) rfl [.cell 2 25] rfl rfl ?_
 intro B w0 F0 fr
 refine .sr ?_
 refine .sA (.box rfl rfl rfl) ?_
 refine .alloc 101 rfl rfl rfl rfl zt_25 rfl rfl rfl (.nil ?_)
 refine .sr ?_
 refine .sA (.loadAgg rfl ag_64 rfl rfl) ?_
 refine .sA (.call rfl (.cons (.rfl' rfl) .nil) (c_chg _ _ (by first | assumption | omega) (by first | assumption | omega) (by first | assumption | omega) (by first | assumption | omega) (by first | assumption | omega) (by first | assumption | omega) (by first | assumption | omega))) ?_
 refine .alloc 102 rfl rfl rfl rfl zt_35 rfl rfl rfl ?_
 refine .store rfl rfl rfl sz_35 rfl (.head _) rfl rfl rfl (Nat.le_of_ble_eq_true rfl) ?_
 refine .freezeCells 3 (ds := (chgO T M).ds) rfl (.head _) (.nil ?_)
 refine .sr ?_
 refine .sA (.fieldAddr rfl fo_35_0 rfl) ?_
 refine .sA (.load rfl sc_22 rfl) ?_
 refine .sA (.fieldAddr rfl fo_35_2 rfl) ?_
 refine .sA (.load rfl sc_23 rfl) ?_
 refine .sA (.build rfl bu_25 (.cons rfl rfl (.cons rfl rfl .nil)) rfl) ?_
 refine .store rfl rfl rfl sz_25 rfl (.head _) rfl rfl rfl (Nat.le_of_ble_eq_true rfl) (.nil ?_)
 refine .ret ?_
 refine ⟨RetR.agg rfl (.head _) ag_25 rfl (.cons (by first | exact CellD.nil | exact CellD.d | exact CellD.eq (by simp) | (refine CellD.own (by first | exact .head _ | exact .tail _ (.head _)) ?_; rfl)) (.cons (by first | exact CellD.nil | exact CellD.d | exact CellD.eq (by simp) | (refine CellD.own (by first | exact .head _ | exact .tail _ (.head _)) ?_; rfl)) .nil)), trivial⟩
 all_goals (rfl)


/-! Types. -/
namespace TyLM
end TyLM
open TyH3 TyH5 TyJ3 TyJ4 TyJ5 TyKA TyKB TyKC TyKD TyKE TyKF TyKG TyLA TyLB TyLC TyLD TyLE TyLF TyLG TyLH TyLI TyLJ TyLK TyLL TyLM

set_option linter.unusedSimpArgs false
section
variable {β : Type} {R : β → Prop}
/-- Every number is one, what is there is as R says. -/
def VOk (R : β → Prop) (T : GL (Option β)) : Prop := ∀ p ∈ T, i64 p.1 ∧ ∀ v, p.2 = some v → R v
theorem VOk.keys {T : GL (Option β)} (h : VOk R T) : KeysOk T := fun p hp => (h p hp).1
theorem VOk.find {T : GL (Option β)} (h : VOk R T) {k : Int} {v : β} (hf : (findG T k).join = some v) : i64 k ∧ R v := by
  cases ho : findG T k with
  | none => rw [ho] at hf; cases hf
  | some o =>
    rw [ho] at hf
    have h1 := h _ (find_mem ho)
    exact ⟨h1.1, h1.2 v hf⟩
theorem VOk.nil : VOk R ([] : GL (Option β)) := fun p hp => by cases hp
theorem VOk.put {L E : GL (Option β)} (h : VOk R L) (hE : VOk R E) : VOk R (putAll L E) := fun p hp => (putAll_mem hp).elim (hE p) (h p)
theorem VOk.look {E : GL β} (h : ∀ p ∈ E, i64 p.1 ∧ R p.2) : VOk R (lookE E) := fun p hp => by
  obtain ⟨q, hq, rfl⟩ := List.mem_map.1 hp
  exact ⟨(h q hq).1, fun v hv => by obtain rfl := Option.some.inj hv; exact (h q hq).2⟩
theorem VOk.gone {l : List Int} (h : ∀ n ∈ l, i64 n) : VOk R (goneE l) := fun p hp => by
  obtain ⟨q, hq, rfl⟩ := List.mem_map.1 hp
  exact ⟨h q hq, fun v hv => by cases hv⟩
theorem VOk.ofE {E : GL β} (h : ∀ p ∈ E, i64 p.1 ∧ R p.2) : VOk R (ofE E) := VOk.nil.put (VOk.look h)
theorem VOk.xE {E : GL β} (h : ∀ p ∈ E, i64 p.1 ∧ R p.2) {l : List Int} (hl : ∀ n ∈ l, i64 n) : VOk R (xE E l) := (VOk.ofE h).put (VOk.gone hl)
theorem VOk.from [DecidableEq β] {A B : GL (Option β)} (h : VOk R A) {ids : List Int} (hi : ∀ n ∈ ids, i64 n) : VOk R (fromE A B ids) := fun p hp => by
  have h1 := (mem_find (fromE_nk A B ids)).1 hp
  rw [fromE_find] at h1
  by_cases hc : p.1 ∈ ids ∧ (findG A p.1).join ≠ (findG B p.1).join
  · rw [if_pos hc] at h1
    refine ⟨hi _ hc.1, fun v hv => ?_⟩
    rw [hv] at h1
    exact (h.find (Option.some.inj h1)).2
  · rw [if_neg hc] at h1; cases h1
theorem VOk.vals {T : GL (Option β)} (hN : NkG T) (h : VOk R T) : ∀ p ∈ valsG T, i64 p.1 ∧ R p.2 := fun p hp => by
  have h1 := (mem_find (valsG_ri hN).nk).1 hp
  rw [valsG_find hN] at h1
  exact h.find h1
theorem VOk.mem_keys {T : GL (Option β)} (h : VOk R T) : ∀ n ∈ keysG T, i64 n := fun n hn => keysG_ok h.keys hn
theorem ofE_len (E : GL β) : (ofE E).length ≤ E.length := by
  have := putAll_len (lookE E) []
  unfold ofE
  simp [lookE] at this ⊢; exact this
theorem xE_len (E : GL β) (l : List Int) : (xE E l).length ≤ E.length + l.length := by
  have h1 := putAll_len (goneE l : GL (Option β)) (ofE E)
  have h2 := ofE_len E
  have h3 : (goneE l : GL (Option β)).length = l.length := List.length_map ..
  unfold xE; omega
end
def RT (t : Thg) : Prop := ThgOk t ∧ t.parts.length ≤ 1048576
theorem VOk.prt {T : TL} (h : VOk RT T) : PrtOk T := fun k t hk => (h.find (k := k) (v := t) (by rw [hk]; rfl)).2.2
theorem idxL_ok {l : List Thg} (h : ∀ t ∈ l, ThgOk t) (hp : ∀ t ∈ l, t.parts.length ≤ 1048576) : ∀ p ∈ idxL l, i64 p.1 ∧ RT p.2 := fun p hq => by
  obtain ⟨t, ht, rfl⟩ := List.mem_map.1 hq
  exact ⟨(h t ht).id, h t ht, hp t ht⟩
theorem mvL_ok {l : List Mvd} (h : ∀ m ∈ l, i64 m.src ∧ i64 m.dst) : ∀ p ∈ mvL l, i64 p.1 ∧ i64 p.2 := fun p hq => by
  obtain ⟨t, ht, rfl⟩ := List.mem_map.1 hq
  exact h t ht
theorem ctlO_ok {T : TL} {M : ML} (nT : NkG T) (nM : NkG M) (hT : VOk RT T) (hM : VOk i64 M) : CtlOk (ctlO T M) :=
  ⟨fun t ht => by obtain ⟨p, hp, rfl⟩ := List.mem_map.1 ht; exact (VOk.vals nT hT p hp).2.1, fun m hm => by obtain ⟨p, hp, rfl⟩ := List.mem_map.1 hm; exact VOk.vals nM hM p hp⟩
theorem ctlO_parts {T : TL} {M : ML} (nT : NkG T) (hT : VOk RT T) : ∀ t ∈ (ctlO T M).things, t.parts.length ≤ 1048576 := fun t ht => by
  obtain ⟨p, hp, rfl⟩ := List.mem_map.1 ht; exact (VOk.vals nT hT p hp).2.2
section
variable {β : Type} [DecidableEq β]
theorem fromTo_nk (A B : GL (Option β)) (ids : List Int) (n : Nat) : NkG (fromTo A B ids n) := fromE_nk _ _ _
theorem fromTo_keys {R : β → Prop} {A B : GL (Option β)} (h : VOk R A) {ids : List Int} (hi : ∀ n ∈ ids, i64 n) (n : Nat) : KeysOk (fromTo A B ids n) := (VOk.from h fun m hm => hi m (List.mem_of_mem_take hm)).keys
end

set_option maxRecDepth 100000 in
set_option maxHeartbeats 4000000 in
theorem c_from (a1 b1 : TL) (a2 b2 : ML) (is js : List Int) (nA : NkG a1) (nB : NkG b1) (nC : NkG a2) (nE : NkG b2) (hA : VOk RT a1) (hB : VOk RT b1) (hC : VOk i64 a2) (hE : VOk i64 b2) (hi : ∀ n ∈ is, i64 n) (hj : ∀ n ∈ js, i64 n) (li : is.length ≤ 1048576) (lj : js.length ≤ 1048576) : ACall Tryz.prog 90 [.agg [.fm (encT a1), .fm (encM a2)], .agg [.fm (encT b1), .fm (encM b2)], .sl (is.map intD), .sl (js.map intD)] (.agg (chgO (fromE a1 b1 is) (fromE a2 b2 js)).ds) := by
 refine acall_ofR (n := 65) (ds' := [.agg (chgO (fromE a1 b1 is) (fromE a2 b2 js)).ds]) Tryz.func90 rfl (by kernel_rfl) rfl [.cell 8 35] rfl rfl ?_
 intro B w0 F0 fr
 refine .sr ?_
 refine .sA (.box rfl rfl rfl) ?_
 refine .sA (.box rfl rfl rfl) ?_
 refine .alloc 101 rfl rfl rfl rfl zt_35 rfl rfl rfl (.nil ?_)
 refine .sr ?_
 refine .callXS rfl rfl rfl ArgsS.nil (c_new.toX 99 91 92 (by decide) (by decide) (by decide)) trivial rfl rfl (fun _ _ => rfl) ?_
 refine .alloc 102 rfl rfl rfl rfl zt_64 rfl rfl rfl ?_
 refine .eff rfl rfl (.storeVal (ss' := [.own 91, .own 92]) rfl rfl sz_64 rfl (.head _) rfl (.tail _ (.head _)) rfl (Nat.le_refl 2)) (.nil ?_)
 refine .seq ?_
 refine .sr ?_
 refine .mA ?_
 refine .sA (.lenSl rfl et_33.ht rfl) ?_
 refine .mA (.nil ?_)
 refine .block ?_
 refine .loop (G := Nat) (fun k => Env.of [(17, .d (.v (.int .i64 (k : Int)))), (15, .d (.sl (is.map intD))), (16, .d (.v (.int .i64 ((is.map intD).length : Int)))), (4, .d (.fp [.fm (encT a1), .fm (encM a2)])), (5, .d (.fp [.fm (encT b1), .fm (encM b2)])), (3, .d (.sl (js.map intD))), (8, .ptr 101 0), (9, .ptr 102 0)]) (fun k => [(102, .cells [.own 91, .own 92]), (101, .cells [.d (.v (.slice none 0 0)), .d (.v (.slice none 0 0)), .d (.v (.slice none 0 0)), .d (.v (.slice none 0 0))]), (91, .map (encT (fromTo a1 b1 is k))), (92, .map (encM []))]) (fun k => k ≤ is.length) (fun k => is.length - k) 0 (Nat.zero_le _) (Sub.less ⟨(SLe.of_eq rfl), SLe.refl _, SLe.refl _, SLe.refl _, SLe.refl _, SLe.refl _, SLe.refl _, SLe.refl _, trivial⟩ (in4 (.head _) (.tail _ (.tail _ (.tail _ (.tail _ (.head _))))) (.tail _ (.tail _ (.head _))) (.tail _ (.tail _ (.tail _ (.head _)))))) ?_
 intro k hk
 refine .sr ?_
 refine .sA (.lss rfl rfl rfl) (.nil ?_)
 refine .seq ?_
 refine .cond rfl (fun h1 => ?_) (fun h1 => ?_)
 ·replace h1 := of_decide_eq_true h1
  rw [List.length_map] at h1
  have hlk : k < is.length := by omega
  have hbk := hi _ (List.getElem_mem hlk)
  refine .skip ?_
  refine .seq ?_
  refine .block ?_
  refine .sr ?_
  refine .sA (.indexAddr rfl et_33 rfl rfl k rfl (at_lst hlk) rfl) ?_
  refine .sA (.load rfl sc_3 rfl) ?_
  refine .aA (.nil ?_)
  refine .sr ?_
  refine .sA (.fieldAddr rfl fo_64_0 rfl) ?_
  refine .sA (.load rfl sc_61 rfl) ?_
  refine .mA ?_
  refine .sA (.lookupF (key := kI is[k]) rfl mt_T kd_int zt_pT zd_p rfl rfl (DExact.v _) (kI_ok hbk) (enc_keys hA.keys) (mget_T nA _)) ?_
  refine .sA (.fieldAddr rfl fo_64_0 rfl) ?_
  refine .sA (.load rfl sc_61 rfl) ?_
  refine .mA ?_
  refine .sA (.lookupF (key := kI is[k]) rfl mt_T kd_int zt_pT zd_p rfl rfl (DExact.v _) (kI_ok hbk) (enc_keys hB.keys) (mget_T nB _)) ?_
  refine .sA (.call rfl (.cons (.rfl' rfl) (.cons (.rfl' rfl) .nil)) (c_sameThing _ _)) ?_
  refine .sA (.not rfl rfl) (.nil ?_)
  refine .cond rfl (fun h2 => ?_) (fun h2 => ?_)
  ·replace h2 := bnot_t h2; replace h2 := of_decide_eq_false h2
   have HN := fromTo_next (A := a1) (B := b1) hlk
   rw [if_neg h2] at HN
   refine .region ?_
   refine .sA (.fieldAddrP rfl fo_64_0 rfl) ?_
   refine .sA (.loadP rfl sc_61 rfl (.head _) rfl) ?_
   refine .mA ?_
   refine .sA (.fieldAddr rfl fo_64_0 rfl) ?_
   refine .sA (.load rfl sc_61 rfl) ?_
   refine .mA ?_
   refine .sA (.lookupF (key := kI is[k]) rfl mt_T kd_int zt_pT zd_p rfl rfl (DExact.v _) (kI_ok hbk) (enc_keys hA.keys) (mget_T nA _)) ?_
   refine .eff rfl rfl (.mapUpdateX (key := kI is[k]) (d := ptD (findG a1 is[k]).join) rfl rfl mt_T kd_int rfl (.tail _ (.tail _ (.head _))) rfl (DExact.v _) rfl (kI_ok hbk) (enc_keys (fromTo_keys hA hi k)) (mput_T (fromTo_nk a1 b1 is k) _ _)) (.nil ?_)
   refine .region ?_
   refine .sA (.add64 rfl rfl rfl (by omega) (by omega)) ?_
   refine .mA (.nil ?_)
   refine ⟨k + 1, (by omega), (by dsimp only; omega), Sub.less ⟨(SLe.of_eq rfl), SLe.refl _, SLe.refl _, SLe.refl _, SLe.refl _, SLe.refl _, SLe.refl _, SLe.refl _, trivial⟩ (obs_e (by dsimp only; rw [HN]; first | done | rfl))⟩
  replace h2 := bnot_f h2; replace h2 := of_decide_eq_true h2
  have HN := fromTo_next (A := a1) (B := b1) hlk
  rw [if_pos h2] at HN
  refine .skip ?_
  refine .region ?_
  refine .sA (.add64 rfl rfl rfl (by omega) (by omega)) ?_
  refine .mA (.nil ?_)
  refine ⟨k + 1, (by omega), (by dsimp only; omega), Sub.less ⟨(SLe.of_eq rfl), SLe.refl _, SLe.refl _, SLe.refl _, SLe.refl _, SLe.refl _, SLe.refl _, SLe.refl _, trivial⟩ (obs_e (by dsimp only; rw [HN]; first | done | rfl))⟩
 replace h1 := of_decide_eq_false h1
 rw [List.length_map] at h1
 obtain rfl : k = is.length := by omega
 rw [fromTo_all]
 refine .exit ?_
 refine .seq ?_
 refine .sr ?_
 refine .mA ?_
 refine .sA (.lenSl rfl et_33.ht rfl) ?_
 refine .mA (.nil ?_)
 refine .block ?_
 refine .loop (G := Nat) (fun j => Env.of [(41, .d (.v (.int .i64 (j : Int)))), (39, .d (.sl (js.map intD))), (40, .d (.v (.int .i64 ((js.map intD).length : Int)))), (4, .d (.fp [.fm (encT a1), .fm (encM a2)])), (5, .d (.fp [.fm (encT b1), .fm (encM b2)])), (8, .ptr 101 0), (9, .ptr 102 0)]) (fun j => [(102, .cells [.own 91, .own 92]), (101, .cells [.d (.v (.slice none 0 0)), .d (.v (.slice none 0 0)), .d (.v (.slice none 0 0)), .d (.v (.slice none 0 0))]), (91, .map (encT (fromE a1 b1 is))), (92, .map (encM (fromTo a2 b2 js j)))]) (fun j => j ≤ js.length) (fun j => js.length - j) 0 (Nat.zero_le _) (Sub.less ⟨(SLe.of_eq rfl), SLe.refl _, SLe.refl _, SLe.refl _, SLe.refl _, SLe.refl _, SLe.refl _, trivial⟩ (obs_e rfl)) ?_
 intro j hjj
 refine .sr ?_
 refine .sA (.lss rfl rfl rfl) (.nil ?_)
 refine .seq ?_
 refine .cond rfl (fun h3 => ?_) (fun h3 => ?_)
 ·replace h3 := of_decide_eq_true h3
  rw [List.length_map] at h3
  have hlj : j < js.length := by omega
  have hbj := hj _ (List.getElem_mem hlj)
  refine .skip ?_
  refine .seq ?_
  refine .block ?_
  refine .sr ?_
  refine .sA (.indexAddr rfl et_33 rfl rfl j rfl (at_lst hlj) rfl) ?_
  refine .sA (.load rfl sc_3 rfl) ?_
  refine .aA (.nil ?_)
  refine .sr ?_
  refine .sA (.fieldAddr rfl fo_64_1 rfl) ?_
  refine .sA (.load rfl sc_62 rfl) ?_
  refine .mA ?_
  refine .sA (.lookupF (key := kI js[j]) rfl mt_M kd_int zt_pM zd_p rfl rfl (DExact.v _) (kI_ok hbj) (enc_keys hC.keys) (mget_M nC _)) ?_
  refine .sA (.fieldAddr rfl fo_64_1 rfl) ?_
  refine .sA (.load rfl sc_62 rfl) ?_
  refine .mA ?_
  refine .sA (.lookupF (key := kI js[j]) rfl mt_M kd_int zt_pM zd_p rfl rfl (DExact.v _) (kI_ok hbj) (enc_keys hE.keys) (mget_M nE _)) ?_
  refine .sA (.call rfl (.cons (.rfl' rfl) (.cons (.rfl' rfl) .nil)) (c_sameTo _ _)) ?_
  refine .sA (.not rfl rfl) (.nil ?_)
  refine .cond rfl (fun h4 => ?_) (fun h4 => ?_)
  ·replace h4 := bnot_t h4; replace h4 := of_decide_eq_false h4
   have HN := fromTo_next (A := a2) (B := b2) hlj
   rw [if_neg h4] at HN
   refine .region ?_
   refine .sA (.fieldAddrP rfl fo_64_1 rfl) ?_
   refine .sA (.loadP rfl sc_62 rfl (.head _) rfl) ?_
   refine .mA ?_
   refine .sA (.fieldAddr rfl fo_64_1 rfl) ?_
   refine .sA (.load rfl sc_62 rfl) ?_
   refine .mA ?_
   refine .sA (.lookupF (key := kI js[j]) rfl mt_M kd_int zt_pM zd_p rfl rfl (DExact.v _) (kI_ok hbj) (enc_keys hC.keys) (mget_M nC _)) ?_
   refine .eff rfl rfl (.mapUpdateX (key := kI js[j]) (d := pmD (findG a2 js[j]).join) rfl rfl mt_M kd_int rfl (.tail _ (.tail _ (.tail _ (.head _)))) rfl (DExact.v _) rfl (kI_ok hbj) (enc_keys (fromTo_keys hC hj j)) (mput_M (fromTo_nk a2 b2 js j) _ _)) (.nil ?_)
   refine .region ?_
   refine .sA (.add64 rfl rfl rfl (by omega) (by omega)) ?_
   refine .mA (.nil ?_)
   refine ⟨j + 1, (by dsimp only; omega), (by dsimp only; omega), Sub.less ⟨(SLe.of_eq rfl), SLe.refl _, SLe.refl _, SLe.refl _, SLe.refl _, SLe.refl _, SLe.refl _, trivial⟩ (obs_e (by dsimp only; rw [HN]; first | done | rfl))⟩
  replace h4 := bnot_f h4; replace h4 := of_decide_eq_true h4
  have HN := fromTo_next (A := a2) (B := b2) hlj
  rw [if_pos h4] at HN
  refine .skip ?_
  refine .region ?_
  refine .sA (.add64 rfl rfl rfl (by omega) (by omega)) ?_
  refine .mA (.nil ?_)
  refine ⟨j + 1, (by dsimp only; omega), (by dsimp only; omega), Sub.less ⟨(SLe.of_eq rfl), SLe.refl _, SLe.refl _, SLe.refl _, SLe.refl _, SLe.refl _, SLe.refl _, trivial⟩ (obs_e (by dsimp only; rw [HN]; first | done | rfl))⟩
 replace h3 := of_decide_eq_false h3
 rw [List.length_map] at h3
 obtain rfl : j = js.length := by omega
 rw [fromTo_all]
 refine .exit ?_
 refine .seq ?_
 refine .freezeMapIn 102 0 (encT (fromE a1 b1 is)) rfl (.head _) (.tail _ (.tail _ (.head _))) (List.Perm.refl _) ?_
 refine .freezeMapIn 102 1 (encM (fromE a2 b2 js)) rfl (.head _) (.tail _ (.tail _ (.head _))) (List.Perm.refl _) ?_
 refine .region ?_
 refine .sA (.loadPU rfl ag_64 rfl (.head _) rfl rfl) ?_
 refine .sA (.call rfl (.cons (.rfl' rfl) .nil) (c_chg (fromE a1 b1 is) (fromE a2 b2 js) (fromE_nk _ _ _) (fromE_nk _ _ _) (VOk.from hA hi).keys (VOk.from hC hj).keys (Nat.le_trans (fromE_len _ _ _) li) (Nat.le_trans (fromE_len _ _ _) lj) (VOk.from hA hi).prt)) ?_
 refine .store rfl rfl rfl sz_35 rfl (.tail _ (.head _)) rfl rfl rfl (Nat.le_of_ble_eq_true rfl) (.nil ?_)
 refine .ret ?_
 refine ⟨RetR.agg rfl (.tail _ (.head _)) ag_35 rfl (.cons (by first | exact CellD.nil | exact CellD.d | exact CellD.eq (by simp) | (refine CellD.own (by first | exact .head _ | exact .tail _ (.head _)) ?_; rfl)) (.cons (by first | exact CellD.nil | exact CellD.d | exact CellD.eq (by simp) | (refine CellD.own (by first | exact .head _ | exact .tail _ (.head _)) ?_; rfl)) (.cons (by first | exact CellD.nil | exact CellD.d | exact CellD.eq (by simp) | (refine CellD.own (by first | exact .head _ | exact .tail _ (.head _)) ?_; rfl)) (.cons (by first | exact CellD.nil | exact CellD.d | exact CellD.eq (by simp) | (refine CellD.own (by first | exact .head _ | exact .tail _ (.head _)) ?_; rfl)) .nil)))), trivial⟩
 all_goals (rfl)


/-! Types. -/
namespace TyLN
end TyLN
open TyH3 TyH5 TyJ3 TyJ4 TyJ5 TyKA TyKB TyKC TyKD TyKE TyKF TyKG TyLA TyLB TyLC TyLD TyLE TyLF TyLG TyLH TyLI TyLJ TyLK TyLL TyLM TyLN

set_option linter.unusedSimpArgs false
abbrev cT (c : Ctl) : TL := ofE (idxL c.things)
abbrev cM (c : Ctl) : ML := ofE (mvL c.moved)
abbrev xT (x : Chg) : TL := xE (idxL x.put) x.drop
abbrev xM (x : Chg) : ML := xE (mvL x.add) x.back
abbrev nowT (c : Ctl) (x : Chg) : TL := putAll (cT c) (xT x)
abbrev nowM (c : Ctl) (x : Chg) : ML := putAll (cM c) (xM x)
def outC (c : Ctl) (x : Chg) : Ctl := ctlO (nowT c x) (nowM c x)
def backX (c : Ctl) (x : Chg) : Chg := chgO (fromE (cT c) (nowT c x) (keysG (xT x))) (fromE (cM c) (nowM c x) (keysG (xM x)))
def zC : Ctl := ⟨[], []⟩
def zX : Chg := ⟨[], [], [], []⟩
def appV (c : Ctl) (x : Chg) : Ctl × Chg × Int := if chkF (outC c x) = 0 then (outC c x, backX c x, 0) else (zC, zX, chkF (outC c x))
def applyV (c : Ctl) (x : Chg) : Ctl × Chg × Int := if chkF c = 0 then (if chgF x = 0 then appV c x else (zC, zX, chgF x)) else (zC, zX, chkF c)
/-- What came in: numbers in bounds, not too many parts. -/
structure CIn (c : Ctl) : Prop where
  ok : CtlOk c
  parts : ∀ t ∈ c.things, t.parts.length ≤ 1048576
structure XIn (x : Chg) : Prop where
  ok : ChgOk x
  parts : ∀ t ∈ x.put, t.parts.length ≤ 1048576
theorem cIn {c : Ctl} (h : CtlOk c) (h0 : chkF c = 0) : CIn c := ⟨h, fun t ht => by
  obtain ⟨k, hk, rfl⟩ := List.mem_iff_getElem.1 ht
  exact Nat.le_trans (thg_parts ((catOk h0).th k hk)) (by decide)⟩
theorem CIn.vT {c : Ctl} (h : CIn c) : VOk RT (cT c) := VOk.ofE (idxL_ok h.ok.things h.parts)
theorem CIn.vM {c : Ctl} (h : CIn c) : VOk i64 (cM c) := VOk.ofE (mvL_ok h.ok.moved)
theorem XIn.vT {x : Chg} (h : XIn x) : VOk RT (xT x) := VOk.xE (idxL_ok h.ok.put h.parts) h.ok.drop
theorem XIn.vM {x : Chg} (h : XIn x) : VOk i64 (xM x) := VOk.xE (mvL_ok h.ok.add) h.ok.back
theorem limX {x : Chg} (h : chgF x = 0) : LimX x := by
  unfold chgF at h
  by_cases hL : 300 < x.put.length ∨ 300 < x.drop.length ∨ 300 < x.add.length ∨ 300 < x.back.length
  · rw [if_pos hL] at h; omega
  · unfold LimX; omega
theorem cT_len {c : Ctl} (h : Lim c) : (cT c).length ≤ 300 := Nat.le_trans (ofE_len _) (by unfold idxL; rw [List.length_map]; exact h.1)
theorem cM_len {c : Ctl} (h : Lim c) : (cM c).length ≤ 300 := Nat.le_trans (ofE_len _) (by unfold mvL; rw [List.length_map]; exact h.2)
theorem xT_len {x : Chg} (h : LimX x) : (xT x).length ≤ 600 := by
  have h1 : (xT x).length ≤ (idxL x.put).length + x.drop.length := xE_len (idxL x.put) x.drop
  have h2 : (idxL x.put).length = x.put.length := List.length_map ..
  have := h.1; have := h.2.1; omega
theorem xM_len {x : Chg} (h : LimX x) : (xM x).length ≤ 600 := by
  have h1 : (xM x).length ≤ (mvL x.add).length + x.back.length := xE_len (mvL x.add) x.back
  have h2 : (mvL x.add).length = x.add.length := List.length_map ..
  have := h.2.2.1; have := h.2.2.2; omega
theorem nowT_len {c : Ctl} {x : Chg} (h : Lim c) (hx : LimX x) : (nowT c x).length ≤ 900 := by
  have h1 : (nowT c x).length ≤ (cT c).length + (xT x).length := putAll_len (xT x) (cT c)
  have := cT_len h; have := xT_len hx; omega
theorem nowM_len {c : Ctl} {x : Chg} (h : Lim c) (hx : LimX x) : (nowM c x).length ≤ 900 := by
  have h1 : (nowM c x).length ≤ (cM c).length + (xM x).length := putAll_len (xM x) (cM c)
  have := cM_len h; have := xM_len hx; omega
theorem nowT_nk (c : Ctl) (x : Chg) : NkG (nowT c x) := putAll_nk (ofE_nk _)
theorem nowM_nk (c : Ctl) (x : Chg) : NkG (nowM c x) := putAll_nk (ofE_nk _)
theorem nowT_v {c : Ctl} {x : Chg} (h : CIn c) (hx : XIn x) : VOk RT (nowT c x) := h.vT.put hx.vT
theorem nowM_v {c : Ctl} {x : Chg} (h : CIn c) (hx : XIn x) : VOk i64 (nowM c x) := h.vM.put hx.vM
theorem out_in {c : Ctl} {x : Chg} (h : CIn c) (hx : XIn x) : CIn (outC c x) := ⟨ctlO_ok (nowT_nk c x) (nowM_nk c x) (nowT_v h hx) (nowM_v h hx), ctlO_parts (nowT_nk c x) (nowT_v h hx)⟩
theorem app_0 {c : Ctl} {x : Chg} (h : chkF (outC c x) = 0) : appV c x = (outC c x, backX c x, 0) := if_pos h
theorem app_f {c : Ctl} {x : Chg} (h : chkF (outC c x) ≠ 0) : appV c x = (zC, zX, chkF (outC c x)) := if_neg h


/-! Types. -/
namespace TyLO
theorem bu_35 : StructT Tryz.prog 35 (fun i => (#[(0, 1), (1, 1), (2, 1), (3, 1)] : Array (Nat × Nat))[i]?) [(.slice none 0 0), (.slice none 0 0), (.slice none 0 0), (.slice none 0 0)] := .of (by kernel_rfl) (by kernel_rfl) (by decide)
end TyLO
open TyH3 TyH5 TyJ3 TyJ4 TyJ5 TyKA TyKB TyKC TyKD TyKE TyKF TyKG TyLA TyLB TyLC TyLD TyLE TyLF TyLG TyLH TyLI TyLJ TyLK TyLL TyLM TyLN TyLO

set_option maxRecDepth 100000 in
set_option maxHeartbeats 4000000 in
theorem c_app (c : Ctl) (x : Chg) (hc : CIn c) (hx : XIn x) (hl : Lim c) (hlx : LimX x) : ACallT Tryz.prog MaxT 46 [.agg c.ds, .agg x.ds] (.tup [.agg (appV c x).1.ds, .agg (appV c x).2.1.ds, .v (.int .i64 (appV c x).2.2)]) := by
 refine acall_ofRT (n := 40) (ds' := [.agg (appV c x).1.ds, .agg (appV c x).2.1.ds, .v (.int .i64 (appV c x).2.2)]) Tryz.func46 rfl (by kernel_rfl) rfl [.cell 4 25, .cell 5 35, .tmp 6] rfl rfl ?_
 intro B w0 F0 hT
 have HC := c_ofC c hl hc.ok hc.parts
 have HX := c_ofX x hlx hx.ok hx.parts
 have n1 := nowT_len hl hlx
 have n2 := nowM_len hl hlx
 have n3 := xT_len hlx
 have n4 := xM_len hlx
 have v1 := nowT_v hc hx
 have v2 := nowM_v hc hx
 refine .sr ?_
 refine .sA (.box rfl rfl rfl) ?_
 refine .sA (.box rfl rfl rfl) ?_
 refine .alloc 101 rfl rfl rfl rfl zt_25 rfl rfl rfl ?_
 refine .alloc 102 rfl rfl rfl rfl zt_35 rfl rfl rfl ?_
 refine .aA (.nil ?_)
 refine .seq ?_
 refine .weaken (e' := Env.of [(2, .d (.fp c.ds)), (3, .d (.fp x.ds)), (4, .ptr 101 0), (5, .ptr 102 0)]) (σ' := [(102, .cells [.d (.v (.slice none 0 0)), .d (.v (.slice none 0 0)), .d (.v (.slice none 0 0)), .d (.v (.slice none 0 0))]), (101, .cells [.d (.v (.slice none 0 0)), .d (.v (.slice none 0 0))])]) (Sub.less ⟨SLe.refl _, SLe.refl _, SLe.refl _, SLe.refl _, trivial⟩ (fun p h => h)) ?_
 refine .drawGroups 9 [⟨15, .own 99, [(99, .val [.own 91, .own 92]), (91, .map (encT (cT c))), (92, .map (encM (cM c)))], fun n => Nat.beq n 99 || Nat.beq n 91 || Nat.beq n 92⟩, ⟨7, .ptr 103 0, [(103, .cells [.d (.v (.map none)), .d (.v (.map none))])], fun n => Nat.beq n 103⟩, ⟨8, .ptr 104 0, [(104, .cells [.d (.v (.map none)), .d (.v (.map none))])], fun n => Nat.beq n 104⟩, ⟨9, .ptr 105 0, [(105, .cells [.d (.v (.map none)), .d (.v (.map none))])], fun n => Nat.beq n 105⟩] (by
  constructor
  ·intro f hf g hg h; simp only [List.mem_cons, List.not_mem_nil, or_false] at hf hg; rcases hf with rfl | rfl | rfl | rfl <;> rcases hg with rfl | rfl | rfl | rfl <;> first | rfl | (exfalso; dsimp only at h; omega)
  ·intro f hf; simp only [List.mem_cons, List.not_mem_nil, or_false] at hf; rcases hf with rfl | rfl | rfl | rfl <;> exact ⟨rfl, by intro h; cases h⟩
  ·intro f hf g hg hne; simp only [List.mem_cons, List.not_mem_nil, or_false] at hf hg; rcases hf with rfl | rfl | rfl | rfl <;> rcases hg with rfl | rfl | rfl | rfl <;> first | exact absurd rfl hne | exact ⟨rfl, fun p hp => by (simp only [List.mem_cons, List.not_mem_nil, or_false] at hp; rcases hp with rfl | rfl | rfl <;> rfl)⟩ | exact ⟨rfl, fun p hp => by (simp only [List.mem_cons, List.not_mem_nil, or_false] at hp; subst hp; rfl)⟩
  ·intro f hf p hp; simp only [List.mem_cons, List.not_mem_nil, or_false] at hf hp; rcases hf with rfl | rfl | rfl | rfl <;> rcases hp with rfl | rfl <;> rfl
  intro f hf; simp only [List.mem_cons, List.not_mem_nil, or_false] at hf; rcases hf with rfl | rfl | rfl | rfl <;> rfl) (by kernel_rfl) (by kernel_rfl) (by kernel_rfl) (by kernel_rfl) ?_
 refine .step rfl rfl rfl (.loadAgg rfl ag_25 rfl rfl) ?_ rfl ⟨.inl rfl, .inl rfl, .inl rfl, .inl rfl, trivial⟩
 refine .step rfl rfl rfl (.call rfl (.cons (.rfl' rfl) .nil) HC.toA) ?_ rfl ⟨.inl rfl, .inl rfl, .inl rfl, .inl rfl, trivial⟩
 refine .step rfl rfl rfl (.loadAgg rfl ag_25 rfl rfl) ?_ rfl ⟨.inl rfl, .inl rfl, .inl rfl, .inl rfl, trivial⟩
 refine .callS 99 91 92 _ (.head _) rfl rfl rfl rfl rfl (.cons (.rfl' rfl) .nil) HC (by decide) (by decide) (by decide) rfl rfl rfl ?_
 refine .step rfl rfl rfl (.loadAgg rfl ag_35 rfl rfl) ?_ rfl ⟨.inl rfl, .inl rfl, .inl rfl, .inl rfl, trivial⟩
 refine .step rfl rfl rfl (.call rfl (.cons (.rfl' rfl) .nil) HX.toA) ?_ rfl ⟨.inl rfl, .inl rfl, .inl rfl, .inl rfl, trivial⟩
 refine .alloc 103 _ (.tail _ (.head _)) rfl rfl rfl rfl rfl zt_64 rfl rfl rfl rfl rfl ?_
 refine .alloc 104 _ (.tail _ (.tail _ (.head _))) rfl rfl rfl rfl rfl zt_64 rfl rfl rfl rfl rfl ?_
 refine .alloc 105 _ (.tail _ (.tail _ (.tail _ (.head _)))) rfl rfl rfl rfl rfl zt_64 rfl rfl rfl rfl rfl ?_
 refine .nil ⟨rfl, rfl, rfl, rfl, trivial⟩ ?_
 refine .store rfl rfl rfl sz_64 rfl (.tail _ (.tail _ (.tail _ (.head _)))) rfl rfl rfl (Nat.le_of_ble_eq_true rfl) ?_
 refine .freezeCells 7 (ds := [.fm (encT (cT c)), .fm (encM (cM c))]) rfl (.tail _ (.tail _ (.tail _ (.head _)))) ?_
 refine .eff rfl rfl (.storeVal (ss' := [.own 91, .own 92]) rfl rfl sz_64 rfl (.tail _ (.tail _ (.tail _ (.head _)))) rfl (.head _) rfl (Nat.le_refl 2)) ?_
 refine .store rfl rfl rfl sz_64 rfl (.tail _ (.tail _ (.tail _ (.tail _ (.head _))))) rfl rfl rfl (Nat.le_of_ble_eq_true rfl) ?_
 refine .freezeCells 9 (ds := [.fm (encT (xT x)), .fm (encM (xM x))]) rfl (.tail _ (.tail _ (.tail _ (.tail _ (.head _))))) (.nil ?_)
 refine .seq ?_
 refine .weaken (e' := Env.of [(4, .ptr 101 0), (5, .ptr 102 0), (7, .d (.fp [.fm (encT (cT c)), .fm (encM (cM c))])), (8, .ptr 104 0), (9, .d (.fp [.fm (encT (xT x)), .fm (encM (xM x))]))]) (σ' := [(99, .val [.own 91, .own 92]), (91, .map (encT (cT c))), (92, .map (encM (cM c))), (104, .cells [.own 91, .own 92]), (102, .cells [.d (.v (.slice none 0 0)), .d (.v (.slice none 0 0)), .d (.v (.slice none 0 0)), .d (.v (.slice none 0 0))]), (101, .cells [.d (.v (.slice none 0 0)), .d (.v (.slice none 0 0))])]) (Sub.less ⟨SLe.refl _, SLe.refl _, SLe.refl _, SLe.refl _, SLe.refl _, trivial⟩ (fun p h => h)) ?_
 refine .region ?_
 refine .loadVal 100 rfl rfl rfl rfl ag_64 rfl (.tail _ (.tail _ (.tail _ (.head _)))) (Nat.le_refl 2) rfl ?_
 refine .sA (.loadAgg rfl ag_64 rfl rfl) ?_
 refine .callXE rfl rfl rfl (ArgsS.cons (SLe.refl _) (ArgsS.cons (SLe.refl _) ArgsS.nil)) (c_over (cT c) (xT x) (cM c) (xM x) (ofE_nk _) (xE_nk _ _) (ofE_nk _) (xE_nk _ _) hc.vT.keys hx.vT.keys hc.vM.keys hx.vM.keys) ⟨(.head _), (.tail _ (.tail _ (.head _))), (.tail _ (.tail _ (.tail _ (.head _)))), trivial⟩ rfl (fun _ => rfl) (fun _ _ => rfl) (fun i hi => ?_)
 refine .nil ?_
 refine .seq ?_
 refine .freezeMapIn 104 0 (encT (nowT c x)) rfl (.tail _ (.tail _ (.tail _ (.head _)))) (.tail _ (.head _)) ((hi.1.perm (xE_nk _ _) (ofE_nk _)).map _) ?_
 refine .freezeMapIn 104 1 (encM (nowM c x)) rfl (.tail _ (.tail _ (.head _))) (.tail _ (.head _)) ((hi.2.perm (xE_nk _ _) (ofE_nk _)).map _) ?_
 refine .obs (σ' := [(104, .cells [.d (.fm (encT (nowT c x))), .d (.fm (encM (nowM c x)))]), (102, .cells [.d (.v (.slice none 0 0)), .d (.v (.slice none 0 0)), .d (.v (.slice none 0 0)), .d (.v (.slice none 0 0))]), (101, .cells [.d (.v (.slice none 0 0)), .d (.v (.slice none 0 0))])]) (fun p h => .tail _ (.tail _ h)) ?_
 refine .weaken (e' := Env.of [(4, .ptr 101 0), (5, .ptr 102 0), (7, .d (.fp [.fm (encT (cT c)), .fm (encM (cM c))])), (8, .ptr 104 0), (9, .d (.fp [.fm (encT (xT x)), .fm (encM (xM x))]))]) (σ' := [(104, .cells [.d (.fm (encT (nowT c x))), .d (.fm (encM (nowM c x)))]), (102, .cells [.d (.v (.slice none 0 0)), .d (.v (.slice none 0 0)), .d (.v (.slice none 0 0)), .d (.v (.slice none 0 0))]), (101, .cells [.d (.v (.slice none 0 0)), .d (.v (.slice none 0 0))])]) (Sub.less ⟨SLe.refl _, SLe.refl _, SLe.refl _, SLe.refl _, SLe.refl _, trivial⟩ (fun p h => h)) ?_
 refine .freezeCells 8 (ds := [.fm (encT (nowT c x)), .fm (encM (nowM c x))]) rfl (.head _) ?_
 refine .region ?_
 refine .sA (.loadAgg rfl ag_64 rfl rfl) ?_
 refine .sA (.call rfl (.cons (.rfl' rfl) .nil) (c_cat (nowT c x) (nowM c x) (nowT_nk c x) (nowM_nk c x) v1.keys v2.keys (by omega) (by omega) v1.prt)) ?_
 refine .alloc 103 rfl rfl rfl rfl zt_25 rfl rfl rfl ?_
 refine .store rfl rfl rfl sz_25 rfl (.head _) rfl rfl rfl (Nat.le_of_ble_eq_true rfl) ?_
 refine .freezeCells 10 (ds := (outC c x).ds) rfl (.head _) (.nil ?_)
 refine .seq ?_
 refine .seq ?_
 refine .weaken (e' := Env.of [(4, .ptr 101 0), (5, .ptr 102 0), (7, .d (.fp [.fm (encT (cT c)), .fm (encM (cM c))])), (8, .d (.fp [.fm (encT (nowT c x)), .fm (encM (nowM c x))])), (9, .d (.fp [.fm (encT (xT x)), .fm (encM (xM x))])), (10, .d (.fp (outC c x).ds))]) (σ' := [(102, .cells [.d (.v (.slice none 0 0)), .d (.v (.slice none 0 0)), .d (.v (.slice none 0 0)), .d (.v (.slice none 0 0))]), (101, .cells [.d (.v (.slice none 0 0)), .d (.v (.slice none 0 0))])]) (Sub.less ⟨SLe.refl _, SLe.refl _, SLe.refl _, SLe.refl _, SLe.refl _, SLe.refl _, trivial⟩ (fun p h => h)) ?_
 refine .region ?_
 refine .sA (.loadAgg rfl ag_25 rfl rfl) ?_
 -- wants the world
 refine .callT rfl rfl rfl hT maxT_stays rfl (.cons (.rfl' rfl) .nil) (c_pChk _ (out_in hc hx).ok) ?_
 refine .aA (.nil ?_)
 refine .sr ?_
 refine .mA ?_
 refine .sA (.neq rfl rfl rfl) (.nil ?_)
 refine .cond rfl (fun h1 => ?_) (fun h1 => ?_)
 ·replace h1 := of_decide_eq_true h1
  rw [app_f (by first | exact h1 | omega)]
  refine .sr ?_
  refine .sA (.build rfl bu_25 .nil rfl) ?_
  refine .sA (.build rfl bu_35 .nil rfl) ?_
  refine .mA ?_
  refine .store rfl rfl rfl sz_25 rfl (.tail _ (.head _)) rfl rfl rfl (Nat.le_of_ble_eq_true rfl) ?_
  refine .store rfl rfl rfl sz_35 rfl (.head _) rfl rfl rfl (Nat.le_of_ble_eq_true rfl) ?_
  refine .aA (.nil ?_)
  refine .ret ?_
  refine ⟨RetR.agg rfl (.tail _ (.head _)) ag_25 rfl (.cons (by first | exact CellD.nil | exact CellD.d | exact CellD.eq (by simp) | (refine CellD.own (by first | exact .head _ | exact .tail _ (.head _)) ?_; rfl)) (.cons (by first | exact CellD.nil | exact CellD.d | exact CellD.eq (by simp) | (refine CellD.own (by first | exact .head _ | exact .tail _ (.head _)) ?_; rfl)) .nil)), RetR.agg rfl (.head _) ag_35 rfl (.cons (by first | exact CellD.nil | exact CellD.d | exact CellD.eq (by simp) | (refine CellD.own (by first | exact .head _ | exact .tail _ (.head _)) ?_; rfl)) (.cons (by first | exact CellD.nil | exact CellD.d | exact CellD.eq (by simp) | (refine CellD.own (by first | exact .head _ | exact .tail _ (.head _)) ?_; rfl)) (.cons (by first | exact CellD.nil | exact CellD.d | exact CellD.eq (by simp) | (refine CellD.own (by first | exact .head _ | exact .tail _ (.head _)) ?_; rfl)) (.cons (by first | exact CellD.nil | exact CellD.d | exact CellD.eq (by simp) | (refine CellD.own (by first | exact .head _ | exact .tail _ (.head _)) ?_; rfl)) .nil)))), RetD.eq rfl ?_, trivial⟩
  all_goals (rfl)
 replace h1 := of_decide_eq_false h1
 rw [app_0 (by first | exact h1 | omega)]
 refine .skip ?_
 refine .seq ?_
 refine .drawTail 10 (by kernel_rfl) (by kernel_rfl) (by kernel_rfl) ?_
 refine .sA (.loadAgg rfl ag_25 rfl rfl) ?_
 refine .sA (.loadAgg rfl ag_64 rfl rfl) ?_
 refine .sA (.loadAgg rfl ag_64 rfl rfl) ?_
 refine .sA (.fieldAddr rfl fo_64_0 rfl) ?_
 refine .sA (.load rfl sc_61 rfl) ?_
 refine .sA (.call rfl (.cons (.rfl' rfl) .nil) (c_keysT (xT x) (xE_nk _ _) hx.vT.keys (by omega)).toA) ?_
 refine .sA (.fieldAddr rfl fo_64_1 rfl) ?_
 refine .sA (.load rfl sc_62 rfl) ?_
 refine .sA (.call rfl (.cons (.rfl' rfl) .nil) (c_keysM (xM x) (xE_nk _ _) hx.vM.keys (by omega)).toA) ?_
 refine .sA (.call rfl (.cons (.rfl' rfl) (.cons (.rfl' rfl) (.cons (.rfl' rfl) (.cons (.rfl' rfl) .nil)))) (c_from (cT c) (nowT c x) (cM c) (nowM c x) _ _ (ofE_nk _) (nowT_nk c x) (ofE_nk _) (nowM_nk c x) hc.vT v1 hc.vM v2 hx.vT.mem_keys hx.vM.mem_keys (by rw [keysG_len]; omega) (by rw [keysG_len]; omega))) ?_
 refine .nil ?_
 refine .store rfl rfl rfl sz_25 rfl (.tail _ (.head _)) rfl rfl rfl (Nat.le_of_ble_eq_true rfl) ?_
 refine .store rfl rfl rfl sz_35 rfl (.head _) rfl rfl rfl (Nat.le_of_ble_eq_true rfl) ?_
 refine .aA (.nil ?_)
 refine .ret ?_
 refine ⟨RetR.agg rfl (.tail _ (.head _)) ag_25 rfl (.cons (by first | exact CellD.nil | exact CellD.d | exact CellD.eq (by simp) | (refine CellD.own (by first | exact .head _ | exact .tail _ (.head _)) ?_; rfl)) (.cons (by first | exact CellD.nil | exact CellD.d | exact CellD.eq (by simp) | (refine CellD.own (by first | exact .head _ | exact .tail _ (.head _)) ?_; rfl)) .nil)), RetR.agg rfl (.head _) ag_35 rfl (.cons (by first | exact CellD.nil | exact CellD.d | exact CellD.eq (by simp) | (refine CellD.own (by first | exact .head _ | exact .tail _ (.head _)) ?_; rfl)) (.cons (by first | exact CellD.nil | exact CellD.d | exact CellD.eq (by simp) | (refine CellD.own (by first | exact .head _ | exact .tail _ (.head _)) ?_; rfl)) (.cons (by first | exact CellD.nil | exact CellD.d | exact CellD.eq (by simp) | (refine CellD.own (by first | exact .head _ | exact .tail _ (.head _)) ?_; rfl)) (.cons (by first | exact CellD.nil | exact CellD.d | exact CellD.eq (by simp) | (refine CellD.own (by first | exact .head _ | exact .tail _ (.head _)) ?_; rfl)) .nil)))), RetD.eq rfl ?_, trivial⟩
 all_goals (rfl)


/-- One step; sl: who reads objects, ef: who writes them. -/
def HStep (cx : Cx) (ops : Array Oper) (sl ef : Nat → Bool) (I : Obs → Prop) (k : Nat) (o : Oper) (e : Env) (σ : Obs) (e' : Env) (σ' : Obs) : Prop :=
  (GW ops o e true ∧ ∃ s, ((sl k = true ∧ AOp cx.P cx.B ops o e σ s) ∨ (I σ ∧ ∀ τ, I τ → AOp cx.P cx.B ops o e τ s)) ∧ e' = e.put o.dst s ∧ σ' = σ) ∨
  (GW ops o e false ∧ e' = e.put o.dst (.d (.v undef)) ∧ σ' = σ) ∨
  (GW ops o e true ∧ ef k = true ∧ o.dst = none ∧ EOp cx ops o e σ σ' ∧ e' = e ∧ I σ ∧ I σ')

def HRun (cx : Cx) (ops : Array Oper) (sl ef : Nat → Bool) (I : Obs → Prop) : Nat → List Oper → Env → Obs → (Env → Obs → Prop) → Prop
  | _, [], e, σ, Q => Q e σ
  | k, o :: l, e, σ, Q => DstOk cx.N o ∧ ∃ e' σ', HStep cx ops sl ef I k o e σ e' σ' ∧ HRun cx ops sl ef I (k + 1) l e' σ' Q

def anyH (cx : Cx) (ops : Array Oper) (sl ef : Nat → Bool) (I : Obs → Prop) (Q : Env → Obs → Prop) : Nat → Array Bool → Env → Obs → Prop
  | 0, listed, e, σ => Region.ready .any ops listed = [] ∧ Q e σ
  | fuel + 1, listed, e, σ => (Region.ready .any ops listed = [] → Q e σ) ∧
      ∀ i ∈ Region.ready .any ops listed, ∀ o, ops[i]? = some o → ∃ e' σ', HStep cx ops sl ef I i o e σ e' σ' ∧ anyH cx ops sl ef I Q fuel (listed.setIfInBounds i true) e' σ'

section
variable {cx : Cx} {ops : Array Oper} {o : Oper} {rest : List Oper} {e : Env} {σ : Obs} {sl ef : Nat → Bool} {I : Obs → Prop} {n : Nat} {l : List Oper} {Q : Env → Obs → Prop}
end

/-- What the operation gives depends on x's value alone; or it gives nothing. -/
def PureOp (P : Program) (o : Oper) (x : Operand) : Prop := ∀ u : Value, (∃ v, ∀ (a : Act) (w : World), a.eval x = u → (execOp a.eval o).run P w = .ok (.value v) w) ∨
  (∀ (a : Act) (w : World) (K : Act → World → Prop) (Q : Exit → Act → World → Prop), (∀ e a w, e ≠ .normal → ¬ Q e a w) → a.eval x = u → ¬ o.wp P a w K Q)
theorem PureOp.move {P : Program} {o : Oper} {x : Operand} (h : o.op = .move x) : PureOp P o x := fun u => .inl ⟨u, fun a w hx => by
  unfold execOp
  simp only [h, hx, Sem.run_pure]⟩
theorem PureOp.extract {P : Program} {o : Oper} {x : Operand} {i : Nat} (h : o.op = .extract x i) : PureOp P o x := fun u => by
  by_cases hu : ∃ vs v, u = .tuple vs ∧ vs[i]? = some v
  · obtain ⟨vs, v, rfl, hv⟩ := hu
    refine .inl ⟨v, fun a w hx => ?_⟩
    unfold execOp
    simp only [h, hx, Instr.extract, hv, Sem.run_bind, Sem.run_pure, Result.andThen_ok]
  · refine .inr fun a w K Q hQ hx hw => ?_
    unfold Oper.wp execOp at hw
    simp only [h, hx] at hw
    cases u with
    | tuple vs =>
      cases hv : vs[i]? with
      | some v => exact hu ⟨vs, v, rfl, hv⟩
      | none => simp only [Instr.extract, hv, Sem.run_bind] at hw; exact hw
    | _ => simp only [Instr.extract, Sem.run_bind] at hw; exact hw
/-- From k on each one waits for all before it, but for those of L ahead of k. -/
def Region.chainLB (ops : Array Oper) (L : Nat → Bool) (k : Nat) : Bool := Region.downB ops && Nat.ble k ops.size && (List.range (ops.size - 1)).all fun j =>
  (L j && Nat.blt j k) || (List.range ops.size).any fun m => Nat.blt j m && (Nat.ble m k || Nat.ble m (j + 1)) && (!(L m) || Nat.ble k m) && Region.edge ops m j
structure ChainL (ops : Array Oper) (L : Nat → Bool) (k : Nat) : Prop where
  down : Region.downB ops = true
  le : k ≤ ops.size
  next : ∀ j, (L j = false ∨ k ≤ j) → j < ops.size - 1 → ∃ m, j < m ∧ (m ≤ k ∨ m ≤ j + 1) ∧ (L m = false ∨ k ≤ m) ∧ Region.edge ops m j = true
theorem ChainL.of {ops : Array Oper} {L : Nat → Bool} {k : Nat} (h : Region.chainLB ops L k = true) : ChainL ops L k := by
  unfold Region.chainLB at h
  simp only [Bool.and_eq_true] at h
  obtain ⟨⟨h1, h2⟩, h3⟩ := h
  refine ⟨h1, Nat.le_of_ble_eq_true h2, fun j hL hj => ?_⟩
  have h4 := List.all_eq_true.1 h3 j (List.mem_range.2 hj)
  rw [Bool.or_eq_true] at h4
  rcases h4 with h4 | h4
  · simp only [Bool.and_eq_true, Nat.blt_eq] at h4
    rcases hL with hL | hL
    · rw [hL] at h4; simp at h4
    · omega
  · obtain ⟨m, _, hm⟩ := List.any_eq_true.1 h4
    simp only [Bool.and_eq_true, Bool.or_eq_true, Nat.blt_eq, Bool.not_eq_true'] at hm
    exact ⟨m, hm.1.1.1, hm.1.1.2.imp Nat.le_of_ble_eq_true Nat.le_of_ble_eq_true, hm.1.2.imp id Nat.le_of_ble_eq_true, hm.2⟩
section
variable {P : Program} {ops : Array Oper} {Q Q0 : Exit → Act → World → Prop} {k : Nat} {L : Nat → Bool}
/-- The operations of L: pure, unguarded, apart from whoever is not bound to come after. -/
structure LateOk (P : Program) (ops : Array Oper) (L : Nat → Bool) (k : Nat) : Prop where
  op : ∀ i, L i = true → i < k → ∃ oi x d, ops[i]? = some oi ∧ PureOp P oi x ∧ (∀ t, x = .tmp t → t ∈ oi.looksAt ops) ∧ oi.dst = some d ∧ oi.guard = none
  sel : ∀ (j : Nat) (oj : Oper), ops[j]? = some oj → notSelect oj = true
  apart : ∀ i oi, L i = true → i < k → ops[i]? = some oi → ∀ (j : Nat) (oj : Oper), ops[j]? = some oj → j ≠ i → (∀ e ∈ oj.after, Region.binds .any e = true → e.on ≠ i) → (∀ e ∈ oi.after, Region.binds .any e = true → e.on ≠ j) → oi.apart ops oj = true
end
/-- The late ones, by a look at them. -/
def pureB (o : Oper) : Bool := (match o.op with | .move _ => true | .extract _ _ => true | _ => false) && o.guard.isNone && o.dst.isSome
theorem pureB_spec {P : Program} {ops : Array Oper} {o : Oper} (h : pureB o = true) : ∃ x d, PureOp P o x ∧ (∀ t, x = .tmp t → t ∈ o.looksAt ops) ∧ o.dst = some d ∧ o.guard = none := by
  unfold pureB at h
  simp only [Bool.and_eq_true] at h
  obtain ⟨⟨h1, h2⟩, h3⟩ := h
  obtain ⟨d, hd⟩ := Option.isSome_iff_exists.1 h3
  have hg : o.guard = none := by simpa using h2
  cases hop : o.op with
  | move x => exact ⟨x, d, .move hop, fun t ht => looks_op (by rw [hop, ht]; simp [Op.operands]), hd, hg⟩
  | extract x i => exact ⟨x, d, .extract hop, fun t ht => looks_op (by rw [hop, ht]; simp [Op.operands]), hd, hg⟩
  | _ => rw [hop] at h1; simp at h1
def lateB (ops : Array Oper) (L : List Nat) (k : Nat) : Bool := (ops.toList.all notSelect) && L.all fun i => Nat.blt i k && ((ops[i]?).map fun oi => pureB oi && (List.range ops.size).all fun j => Nat.beq j i || Region.edge ops j i || Region.edge ops i j || ((ops[j]?).map fun oj => oi.apart ops oj).getD true).getD false
theorem LateOk.of {P : Program} {ops : Array Oper} {L : List Nat} {k : Nat} (h : lateB ops L k = true) : LateOk P ops (fun i => L.contains i) k := by
  unfold lateB at h
  simp only [Bool.and_eq_true] at h
  have hL : ∀ i, L.contains i = true → ∃ oi, ops[i]? = some oi ∧ pureB oi = true ∧ ∀ j oj, ops[j]? = some oj → j ≠ i → (∀ e ∈ oj.after, Region.binds .any e = true → e.on ≠ i) → (∀ e ∈ oi.after, Region.binds .any e = true → e.on ≠ j) → oi.apart ops oj = true := fun i hi => by
    have h1 := List.all_eq_true.1 h.2 i (List.contains_iff_mem.1 hi)
    simp only [Bool.and_eq_true] at h1
    cases ho : ops[i]? with
    | none => rw [ho] at h1; simp at h1
    | some oi =>
      rw [ho] at h1
      simp only [Option.map_some, Option.getD_some, Bool.and_eq_true] at h1
      refine ⟨oi, rfl, h1.2.1, fun j oj hj hji hn hn2 => ?_⟩
      have h2 := List.all_eq_true.1 h1.2.2 j (List.mem_range.2 (Array.getElem?_eq_some_iff.1 hj).1)
      rw [hj] at h2
      simp only [Option.map_some, Option.getD_some, Bool.or_eq_true] at h2
      rcases h2 with ((h2 | h2) | h2) | h2
      · exact absurd (Nat.eq_of_beq_eq_true h2) hji
      · obtain ⟨o, ho2, e, he, hb, heq⟩ := Region.edge_spec h2
        rw [hj] at ho2; cases ho2
        exact absurd heq (hn e he hb)
      · obtain ⟨o, ho2, e, he, hb, heq⟩ := Region.edge_spec h2
        rw [ho] at ho2; cases ho2
        exact absurd heq (hn2 e he hb)
      · exact h2
  refine ⟨fun i hi _ => ?_, fun j oj hj => List.all_eq_true.1 h.1 oj (by simpa using Array.mem_of_getElem? hj), fun i oi hi _ hoi j oj hj hji hn hn2 => ?_⟩
  · obtain ⟨oi, h1, h2, _⟩ := hL i hi
    obtain ⟨x, d, h3, h4, h5, h6⟩ := pureB_spec (P := P) (ops := ops) h2
    exact ⟨oi, x, d, h1, h3, h4, h5, h6⟩
  · obtain ⟨oi', h1, _, h3⟩ := hL i hi
    rw [hoi] at h1; cases h1
    exact h3 j oj hj hji hn hn2
def QN (Q : Post) : Post := fun ex e σ => match ex with | .normal => Q .normal e σ | _ => False

def Env.puts (e : Env) : List (Nat × S) → Env
  | [] => e
  | p :: l => Env.puts (e.put (some p.1) p.2) l
/-- An object that the region makes, and the slots that may hold it. -/
structure Fc where
  id : Nat
  slots : List Nat
def Clean (Φ : List Fc) (e : Env) : Prop := ∀ f ∈ Φ, ∀ t, f.slots.contains t = false → (e t).kill f.id = e t
def QE (e1 : Env) (σ1 : Obs) : Post := fun ex e σ => match ex with | .normal => e = e1 ∧ σ = σ1 | _ => False
/-- An operation that makes or turns objects: the slots that it sets, the objects behind it. -/
def GE (cx : Cx) (ops : Array Oper) (Φ : List Fc) (o : Oper) (e : Env) (σ : Obs) (si : List (Nat × S)) (σ' : Obs) : Prop :=
  ∀ e0 : Env, (∀ t, t ∈ o.looksAt ops → e0 t = e t) → (∀ t, t ∈ si.map Prod.fst → e0 t = e t) → Clean Φ e0 → AOps cx ops [o] e0 σ (QE (Env.puts e0 si) σ')
def LStep (cx : Cx) (ops : Array Oper) (Φ : List Fc) (ef : Nat → Bool) (K : Nat → List Nat) (I : Obs → Prop) (k : Nat) (o : Oper) (e : Env) (σ : Obs) (e' : Env) (σ' : Obs) : Prop :=
  (GW ops o e true ∧ ef k = false ∧ ∃ s, I σ ∧ (∀ τ, I τ → AOp cx.P cx.B ops o e τ s) ∧ (∀ f ∈ Φ, (∃ t, o.dst = some t ∧ f.slots.contains t = true) ∨ s.kill f.id = s) ∧ e' = e.put o.dst s ∧ σ' = σ) ∨
  (GW ops o e false ∧ ef k = false ∧ e' = e.put o.dst (.d (.v undef)) ∧ σ' = σ) ∨
  (GW ops o e true ∧ ef k = true ∧ I σ ∧ I σ' ∧ ∃ si, si.map Prod.fst = K k ∧ GE cx ops Φ o e σ si σ' ∧ (∀ p ∈ si, ∀ f ∈ Φ, f.slots.contains p.1 = true ∨ p.2.kill f.id = p.2) ∧ e' = Env.puts e si)
def LRun (cx : Cx) (ops : Array Oper) (Φ : List Fc) (ef : Nat → Bool) (K : Nat → List Nat) (I : Obs → Prop) : Nat → List Oper → Env → Obs → (Env → Obs → Prop) → Prop
  | _, [], e, σ, Q => Q e σ
  | k, o :: l, e, σ, Q => DstOk cx.N o ∧ ∃ e' σ', LStep cx ops Φ ef K I k o e σ e' σ' ∧ LRun cx ops Φ ef K I (k + 1) l e' σ' Q
def anyL (cx : Cx) (ops : Array Oper) (Φ : List Fc) (ef : Nat → Bool) (K : Nat → List Nat) (I : Obs → Prop) (Q : Env → Obs → Prop) : Nat → Array Bool → Env → Obs → Prop
  | 0, listed, e, σ => Region.ready .any ops listed = [] ∧ Q e σ
  | fuel + 1, listed, e, σ => (Region.ready .any ops listed = [] → Q e σ) ∧
      ∀ i ∈ Region.ready .any ops listed, ∀ o, ops[i]? = some o → ∃ e' σ', LStep cx ops Φ ef K I i o e σ e' σ' ∧ anyL cx ops Φ ef K I Q fuel (listed.setIfInBounds i true) e' σ'
/-- The slots of one are none of the other's. -/
def keysOkB (ops : Array Oper) (K : Nat → List Nat) (i j : Nat) (oi oj : Oper) : Bool :=
  ((K i).all fun k => !((oj.looksAt ops).contains k) && neDst oj k) && ((K j).all fun k => !((oi.looksAt ops).contains k) && neDst oi k) && (!(K i).any fun k => (K j).contains k)
/-- The check: whoever is free to change places has nothing to do with the other. -/
def Region.keysFree (ops : Array Oper) (ef : Nat → Bool) (K : Nat → List Nat) (listed : Array Bool) (k : Nat) (late : Nat → Bool) : Bool :=
  (List.range ops.size).all fun j =>
    (!(late j) || (!(listed.getD j false) && ((ops[j]?).map fun o => o.after.any fun e => Region.binds .any e && (Nat.beq e.on k || late e.on)).getD true)) &&
    (Nat.beq j k || listed.getD j true || late j || Region.edge ops j k || ((!(ef k) || !(ef j)) && ((ops[k]?).bind fun oi => (ops[j]?).map fun oj => keysOkB ops K k j oi oj).getD false))
def Region.keysFrom (ops : Array Oper) (ef : Nat → Bool) (K : Nat → List Nat) : Nat → Nat → Array Bool → Bool
  | 0, _, _ => true
  | fuel + 1, k, listed => Region.keysFree ops ef K listed k (Region.lateB ops k) && Region.keysFrom ops ef K fuel (k + 1) (listed.setIfInBounds k true)
/-- Before the region: no slot but those told holds what it makes or turns. -/
def Env.killOut (f : Fc) (e : Env) : Env := fun t => match f.slots.contains t with | true => e t | false => (e t).kill f.id
def Env.killIds : List Fc → Env → Env
  | [], e => e
  | f :: l, e => Env.killIds l (e.killOut f)
section
variable {cx : Cx} {ops : Array Oper} {Φ : List Fc} {ef : Nat → Bool} {K : Nat → List Nat} {I : Obs → Prop} {n : Nat} {o : Oper} {l : List Oper} {e : Env} {σ : Obs} {Q : Env → Obs → Prop}
def cleanS (t : Nat) (s : S) : List Fc → Prop
  | [] => True
  | f :: l => (f.slots.contains t = true ∨ s.kill f.id = s) ∧ cleanS t s l
def cleanL (Φ : List Fc) : List (Nat × S) → Prop
  | [] => True
  | p :: l => (∀ f ∈ Φ, f.slots.contains p.1 = true ∨ p.2.kill f.id = p.2) ∧ cleanL Φ l
end
/-- Data, stored into own cells. -/
theorem EOp.store {cx : Cx} {ops : Array Oper} {o : Oper} {e : Env} {σ : Obs} {t id off size : Nat} {x y : Operand} {d : D} {ss : List S} (ht : o.dst = none) (ho : o.op = .store t x y) (hs : ∀ w, (sizeOf t).run cx.P w = .ok size w) (hx : e.ev x = .ptr id off) (hm : (id, Ob.cells ss) ∈ σ) (hy : e.ev y = .d d) (h1 : d.one = true) (hl : d.parts.length = size)
    (hle : off + size ≤ ss.length) : EOp cx ops o e σ (Obs.upd id (.cells (ss.take off ++ d.parts.map S.d ++ ss.drop (off + size))) σ) := by
  intro F ρ a w e0 hr ha
  have hop : ∀ y ∈ o.op.operands.toList, RepS F ρ w (a.eval y) (e.ev y) := fun y hy => ev_rep fun t ht => ha t (looks_op (by rw [← ht]; exact hy))
  have r1 := hop x (by rw [ho]; simp [Op.operands])
  have r2 := hop y (by rw [ho]; simp [Op.operands])
  rw [hx] at r1
  rw [hy] at r2
  obtain ⟨h3, h4⟩ := parts_rep (repS_d r2) h1
  obtain ⟨g, ty, cs, hρ, hB, hF, hh, hcl, hcs⟩ := hr.obs.ok _ hm
  dsimp only at hρ
  have hxv := ptr_at r1 (g := g) (by rw [hρ]; rfl)
  have hsz : (a.eval y).cells.size = size := by have := h3.1; rw [Array.length_toList] at this; omega
  obtain ⟨w', h5, h6, h7⟩ := storeVar_run (P := cx.P) (off := off) hs hsz hh (by omega) h4
  unfold Oper.wp execOp
  simp only [ho, Instr.storeAt, hxv, Instr.sureAddr, Sem.run_bind, Sem.run_pure, Result.andThen_ok, h5]
  refine ⟨by rw [ht]; rfl, fun e2 hr2 => ⟨F, ρ, ?_⟩⟩
  refine hr2.write hρ hm hB hF h6 h7 (by simp; omega) (fun j hj hj' => by
    have hlen : (a.eval y).cells.toList.length = size := by rw [Array.length_toList]; exact hsz
    by_cases j1 : j < off
    · rw [List.getElem_append_left (by simp; omega), List.getElem_append_left (by simp; omega), List.getElem_append_left (by simp; omega), List.getElem_append_left (by simp; omega), List.getElem_take, List.getElem_take]
      exact hcs j (by omega) (by omega)
    · by_cases j2 : j < off + size
      · rw [List.getElem_append_left (by simp; omega), List.getElem_append_right (by simp; omega), List.getElem_append_left (by simp; omega), List.getElem_append_right (by simp; omega), List.getElem_map]
        have e1 : (List.take off cs).length = off := by simp; omega
        have e2 : (List.take off ss).length = off := by simp; omega
        simp only [e1, e2]
        exact ⟨h4 _ (List.getElem_mem _), .d (h3.2 _ _ _)⟩
      · rw [List.getElem_append_right (by simp; omega), List.getElem_append_right (by simp; omega), List.getElem_drop, List.getElem_drop]
        have e1 : (List.take off cs ++ (a.eval y).cells.toList).length = off + size := by simp; omega
        have e2 : (List.take off ss ++ d.parts.map S.d).length = off + size := by simp; omega
        simp only [e1, e2]
        exact hcs _ _ _)

/-! Types. -/
namespace TyLP
end TyLP
open TyH3 TyH5 TyJ3 TyJ4 TyJ5 TyKA TyKB TyKC TyKD TyKE TyKF TyKG TyLA TyLB TyLC TyLD TyLE TyLF TyLG TyLH TyLI TyLJ TyLK TyLL TyLM TyLN TyLO TyLP

set_option linter.unusedSimpArgs false
theorem applyV_c {c : Ctl} {x : Chg} (h : chkF c ≠ 0) : applyV c x = (zC, zX, chkF c) := if_neg h
theorem applyV_x {c : Ctl} {x : Chg} (h : chkF c = 0) (h2 : chgF x ≠ 0) : applyV c x = (zC, zX, chgF x) := by unfold applyV; rw [if_pos h, if_neg h2]
theorem applyV_0 {c : Ctl} {x : Chg} (h : chkF c = 0) (h2 : chgF x = 0) : applyV c x = appV c x := by unfold applyV; rw [if_pos h, if_pos h2]
abbrev cmpT (x y : Chg) : TL := putAll (xT x) (xT y)
abbrev cmpM (x y : Chg) : ML := putAll (xM x) (xM y)
def compX (x y : Chg) : Chg := chgO (cmpT x y) (cmpM x y)
def composeV (x y : Chg) : Chg × Int := if chgF x = 0 then (if chgF y = 0 then (if chgF (compX x y) = 0 then (compX x y, 0) else (zX, chgF (compX x y))) else (zX, chgF y)) else (zX, chgF x)
def differX (a b : Ctl) : Chg := chgO (fromE (cT b) (cT a) (keysG (cT a) ++ keysG (cT b))) (fromE (cM b) (cM a) (keysG (cM a) ++ keysG (cM b)))
def differV (a b : Ctl) : Chg × Int := if chkF a = 0 then (if chkF b = 0 then (differX a b, 0) else (zX, chkF b)) else (zX, chkF a)
set_option maxRecDepth 100000 in
set_option maxHeartbeats 1000000 in
theorem c_pApply (c : Ctl) (x : Chg) (hc : CtlOk c) (hx : XIn x) : ACallT Tryz.prog MaxT 12 [.agg c.ds, .agg x.ds] (.tup [.agg (applyV c x).1.ds, .agg (applyV c x).2.1.ds, .v (.int .i64 (applyV c x).2.2)]) := by
 refine acall_ofRT (n := 29) (ds' := [.agg (applyV c x).1.ds, .agg (applyV c x).2.1.ds, .v (.int .i64 (applyV c x).2.2)]) Tryz.func12 rfl (by kernel_rfl) rfl [.cell 4 25, .cell 5 35, .tmp 6] rfl rfl ?_
 intro B w0 F0 hT
 refine .sr ?_
 refine .sA (.box rfl rfl rfl) ?_
 refine .sA (.box rfl rfl rfl) ?_
 refine .alloc 101 rfl rfl rfl rfl zt_25 rfl rfl rfl ?_
 refine .alloc 102 rfl rfl rfl rfl zt_35 rfl rfl rfl ?_
 refine .aA (.nil ?_)
 refine .seq ?_
 refine .sr ?_
 refine .sA (.loadAgg rfl ag_25 rfl rfl) ?_
 -- wants the world
 refine .callT rfl rfl rfl hT maxT_stays rfl (.cons (.rfl' rfl) .nil) (c_pChk c hc) ?_
 refine .aA (.nil ?_)
 refine .sr ?_
 refine .mA ?_
 refine .sA (.neq rfl rfl rfl) (.nil ?_)
 refine .cond rfl (fun h1 => ?_) (fun h1 => ?_)
 ·replace h1 := of_decide_eq_true h1
  rw [applyV_c (by first | exact h1 | omega)]
  refine .sr ?_
  refine .sA (.build rfl bu_25 .nil rfl) ?_
  refine .sA (.build rfl bu_35 .nil rfl) ?_
  refine .mA ?_
  refine .store rfl rfl rfl sz_25 rfl (.tail _ (.head _)) rfl rfl rfl (Nat.le_of_ble_eq_true rfl) ?_
  refine .store rfl rfl rfl sz_35 rfl (.head _) rfl rfl rfl (Nat.le_of_ble_eq_true rfl) ?_
  refine .aA (.nil ?_)
  refine .ret ?_
  refine ⟨RetR.agg rfl (.tail _ (.head _)) ag_25 rfl (.cons (by first | exact CellD.nil | exact CellD.d | exact CellD.eq (by simp) | (refine CellD.own (by first | exact .head _ | exact .tail _ (.head _)) ?_; rfl)) (.cons (by first | exact CellD.nil | exact CellD.d | exact CellD.eq (by simp) | (refine CellD.own (by first | exact .head _ | exact .tail _ (.head _)) ?_; rfl)) .nil)), RetR.agg rfl (.head _) ag_35 rfl (.cons (by first | exact CellD.nil | exact CellD.d | exact CellD.eq (by simp) | (refine CellD.own (by first | exact .head _ | exact .tail _ (.head _)) ?_; rfl)) (.cons (by first | exact CellD.nil | exact CellD.d | exact CellD.eq (by simp) | (refine CellD.own (by first | exact .head _ | exact .tail _ (.head _)) ?_; rfl)) (.cons (by first | exact CellD.nil | exact CellD.d | exact CellD.eq (by simp) | (refine CellD.own (by first | exact .head _ | exact .tail _ (.head _)) ?_; rfl)) (.cons (by first | exact CellD.nil | exact CellD.d | exact CellD.eq (by simp) | (refine CellD.own (by first | exact .head _ | exact .tail _ (.head _)) ?_; rfl)) .nil)))), RetD.eq rfl ?_, trivial⟩
  all_goals (rfl)
 replace h1 := of_decide_eq_false h1
 have hk0 : chkF c = 0 := (by first | exact h1 | omega)
 refine .skip ?_
 refine .seq ?_
 refine .sr ?_
 refine .sA (.loadAgg rfl ag_35 rfl rfl) ?_
 refine .sA (.call rfl (.cons (.rfl' rfl) .nil) (c_pCC x)) ?_
 refine .aA (.nil ?_)
 refine .sr ?_
 refine .mA ?_
 refine .sA (.neq rfl rfl rfl) (.nil ?_)
 refine .cond rfl (fun h2 => ?_) (fun h2 => ?_)
 ·replace h2 := of_decide_eq_true h2
  rw [applyV_x hk0 (by first | exact h2 | omega)]
  refine .sr ?_
  refine .sA (.build rfl bu_25 .nil rfl) ?_
  refine .sA (.build rfl bu_35 .nil rfl) ?_
  refine .mA ?_
  refine .store rfl rfl rfl sz_25 rfl (.tail _ (.head _)) rfl rfl rfl (Nat.le_of_ble_eq_true rfl) ?_
  refine .store rfl rfl rfl sz_35 rfl (.head _) rfl rfl rfl (Nat.le_of_ble_eq_true rfl) ?_
  refine .aA (.nil ?_)
  refine .ret ?_
  refine ⟨RetR.agg rfl (.tail _ (.head _)) ag_25 rfl (.cons (by first | exact CellD.nil | exact CellD.d | exact CellD.eq (by simp) | (refine CellD.own (by first | exact .head _ | exact .tail _ (.head _)) ?_; rfl)) (.cons (by first | exact CellD.nil | exact CellD.d | exact CellD.eq (by simp) | (refine CellD.own (by first | exact .head _ | exact .tail _ (.head _)) ?_; rfl)) .nil)), RetR.agg rfl (.head _) ag_35 rfl (.cons (by first | exact CellD.nil | exact CellD.d | exact CellD.eq (by simp) | (refine CellD.own (by first | exact .head _ | exact .tail _ (.head _)) ?_; rfl)) (.cons (by first | exact CellD.nil | exact CellD.d | exact CellD.eq (by simp) | (refine CellD.own (by first | exact .head _ | exact .tail _ (.head _)) ?_; rfl)) (.cons (by first | exact CellD.nil | exact CellD.d | exact CellD.eq (by simp) | (refine CellD.own (by first | exact .head _ | exact .tail _ (.head _)) ?_; rfl)) (.cons (by first | exact CellD.nil | exact CellD.d | exact CellD.eq (by simp) | (refine CellD.own (by first | exact .head _ | exact .tail _ (.head _)) ?_; rfl)) .nil)))), RetD.eq rfl ?_, trivial⟩
  all_goals (rfl)
 replace h2 := of_decide_eq_false h2
 have hx0 : chgF x = 0 := (by first | exact h2 | omega)
 rw [applyV_0 hk0 hx0]
 refine .skip ?_
 refine .sr ?_
 refine .sA (.loadAgg rfl ag_25 rfl rfl) ?_
 refine .sA (.loadAgg rfl ag_35 rfl rfl) ?_
 -- wants the world
 refine .callT rfl rfl rfl hT maxT_stays rfl (.cons (.rfl' rfl) (.cons (.rfl' rfl) .nil)) (c_app c x (cIn hc hk0) hx (catOk hk0).lim (limX hx0)) ?_
 refine .sA (.extract rfl rfl rfl) ?_
 refine .sA (.extract rfl rfl rfl) ?_
 refine .sA (.extract rfl rfl rfl) ?_
 refine .store rfl rfl rfl sz_25 rfl (.tail _ (.head _)) rfl rfl rfl (Nat.le_of_ble_eq_true rfl) ?_
 refine .store rfl rfl rfl sz_35 rfl (.head _) rfl rfl rfl (Nat.le_of_ble_eq_true rfl) ?_
 refine .aA (.nil ?_)
 refine .ret ?_
 refine ⟨RetR.agg rfl (.tail _ (.head _)) ag_25 rfl (.cons (by first | exact CellD.nil | exact CellD.d | exact CellD.eq (by simp) | (refine CellD.own (by first | exact .head _ | exact .tail _ (.head _)) ?_; rfl)) (.cons (by first | exact CellD.nil | exact CellD.d | exact CellD.eq (by simp) | (refine CellD.own (by first | exact .head _ | exact .tail _ (.head _)) ?_; rfl)) .nil)), RetR.agg rfl (.head _) ag_35 rfl (.cons (by first | exact CellD.nil | exact CellD.d | exact CellD.eq (by simp) | (refine CellD.own (by first | exact .head _ | exact .tail _ (.head _)) ?_; rfl)) (.cons (by first | exact CellD.nil | exact CellD.d | exact CellD.eq (by simp) | (refine CellD.own (by first | exact .head _ | exact .tail _ (.head _)) ?_; rfl)) (.cons (by first | exact CellD.nil | exact CellD.d | exact CellD.eq (by simp) | (refine CellD.own (by first | exact .head _ | exact .tail _ (.head _)) ?_; rfl)) (.cons (by first | exact CellD.nil | exact CellD.d | exact CellD.eq (by simp) | (refine CellD.own (by first | exact .head _ | exact .tail _ (.head _)) ?_; rfl)) .nil)))), RetD.eq rfl ?_, trivial⟩
 all_goals (rfl)


/-! Types. -/
namespace TyLQ
end TyLQ
open TyH3 TyH5 TyJ3 TyJ4 TyJ5 TyKA TyKB TyKC TyKD TyKE TyKF TyKG TyLA TyLB TyLC TyLD TyLE TyLF TyLG TyLH TyLI TyLJ TyLK TyLL TyLM TyLN TyLO TyLP TyLQ


/-! Types. -/
namespace TyLR
end TyLR
open TyH3 TyH5 TyJ3 TyJ4 TyJ5 TyKA TyKB TyKC TyKD TyKE TyKF TyKG TyLA TyLB TyLC TyLD TyLE TyLF TyLG TyLH TyLI TyLJ TyLK TyLL TyLM TyLN TyLO TyLP TyLQ TyLR

set_option linter.unusedSimpArgs false
set_option linter.unusedSectionVars false
section
variable {β : Type} [DecidableEq β]
/-- Numbers that rise. -/
def UpL (l : List Int) : Prop := l.Pairwise fun x y => x < y
/-- A half of a catalogue behind a half of a change. -/
def stepG (E P : GL β) (l : List Int) : GL β := valsG (putAll (ofE E) (xE P l))
theorem now_nk (E : GL β) (X : GL (Option β)) : NkG (putAll (ofE E) X) := putAll_nk (ofE_nk _)
theorem step_ri (E P : GL β) (l : List Int) : RiK (stepG E P l) := valsG_ri (now_nk _ _)
theorem now_find {E P : GL β} {l : List Int} (hE : NkG E) (hP : NkG P) (hl : UpL l) (k : Int) : findG (putAll (ofE E) (xE P l)) k = if k ∈ l then some none else match findG P k with | some v => some (some v) | none => (findG E k).map some := by
  rw [putAll_find (xE_nk P l), xE_find hP hl, ofE_find hE]
  by_cases hk : k ∈ l
  · rw [if_pos hk, if_pos hk]
  · rw [if_neg hk, if_neg hk]; cases findG P k <;> rfl
theorem step_find {E P : GL β} {l : List Int} (hE : NkG E) (hP : NkG P) (hl : UpL l) (k : Int) : findG (stepG E P l) k = if k ∈ l then none else match findG P k with | some v => some v | none => findG E k := by
  unfold stepG
  rw [valsG_find (now_nk _ _), now_find hE hP hl]
  by_cases hk : k ∈ l
  · rw [if_pos hk, if_pos hk]; rfl
  · rw [if_neg hk, if_neg hk]
    cases findG P k with
    | some v => rfl
    | none => cases findG E k <;> rfl
/-- F leads from A to B. -/
structure IsDif (F : GL (Option β)) (A B : GL β) : Prop where
  nk : NkG F
  find : ∀ k, findG F k = if findG A k = findG B k then none else some (findG B k)
theorem back_dif {E P : GL β} {l : List Int} (hE : NkG E) (hP : NkG P) (hl : UpL l) : IsDif (fromE (ofE E) (putAll (ofE E) (xE P l)) (keysG (xE P l))) (stepG E P l) E := by
  refine ⟨fromE_nk _ _ _, fun k => ?_⟩
  have e1 : (findG (ofE E) k).join = findG E k := by rw [ofE_find hE]; cases findG E k <;> rfl
  have e2 : (findG (putAll (ofE E) (xE P l)) k).join = findG (stepG E P l) k := by unfold stepG; rw [valsG_find (now_nk _ _)]
  rw [fromE_find, e1, e2]
  by_cases hk : k ∈ keysG (xE P l)
  · by_cases he : findG (stepG E P l) k = findG E k
    · rw [if_pos he, if_neg (fun h => h.2 he.symm)]
    · rw [if_neg he, if_pos ⟨hk, fun h => he h.symm⟩]
  · have he : findG (stepG E P l) k = findG E k := by
      rw [keysG_mem, xE_find hP hl] at hk
      rw [step_find hE hP hl]
      by_cases h1 : k ∈ l
      · rw [if_pos h1] at hk; exact absurd rfl hk
      · rw [if_neg h1] at hk ⊢
        cases h2 : findG P k with
        | none => rfl
        | some v => rw [h2] at hk; exact absurd rfl hk
    rw [if_pos he, if_neg (fun h => hk h.1)]
theorem IsDif.vals {F : GL (Option β)} {A B : GL β} (h : IsDif F A B) (k : Int) : findG (valsG F) k = if findG A k = findG B k then none else findG B k := by
  rw [valsG_find h.nk, h.find]
  by_cases he : findG A k = findG B k
  · rw [if_pos he, if_pos he]; rfl
  · rw [if_neg he, if_neg he]; rfl
theorem IsDif.gone {F : GL (Option β)} {A B : GL β} (h : IsDif F A B) (k : Int) : k ∈ noneG F ↔ findG A k ≠ findG B k ∧ findG B k = none := by
  rw [noneG_mem, h.find]
  by_cases he : findG A k = findG B k
  · rw [if_pos he]; simp [he]
  · rw [if_neg he]; simp [he]
end
/-! ## Things and ids -/
theorem idxL_vals {T : TL} (h : ∀ p ∈ valsG T, p.2.id = p.1) : idxL ((valsG T).map (·.2)) = valsG T := by
  unfold idxL
  rw [List.map_map]
  have h1 : ∀ p ∈ valsG T, ((fun t : Thg => (t.id, t)) ∘ fun x : Int × Thg => x.2) p = id p := fun p hp => Prod.ext (h p hp) rfl
  rw [List.map_congr_left h1, List.map_id]
theorem mvL_vals (M : ML) : mvL ((valsG M).map mvO) = valsG M := by
  unfold mvL
  rw [List.map_map]
  have h1 : ∀ p ∈ valsG M, ((fun x : Mvd => (x.src, x.dst)) ∘ mvO) p = id p := fun p hp => rfl
  rw [List.map_congr_left h1, List.map_id]
/-- The things stand at their own numbers. -/
def IdT (T : TL) : Prop := ∀ p ∈ T, ∀ t, p.2 = some t → t.id = p.1
theorem IdT.vals {T : TL} (hN : NkG T) (h : IdT T) : ∀ p ∈ valsG T, p.2.id = p.1 := fun p hp => by
  have h1 := (mem_find (valsG_ri hN).nk).1 hp
  rw [valsG_find hN] at h1
  cases hf : findG T p.1 with
  | none => rw [hf] at h1; cases h1
  | some o => rw [hf] at h1; exact h _ (find_mem hf) p.2 h1
theorem IdT.put {L E : TL} (h : IdT L) (hE : IdT E) : IdT (putAll L E) := fun p hp => (putAll_mem hp).elim (hE p) (h p)
theorem IdT.nil : IdT [] := fun p hp => by cases hp
theorem IdT.ofE (l : List Thg) : IdT (ofE (idxL l)) := IdT.nil.put fun p hp t ht => by
  simp only [lookE, idxL, List.map_map, List.mem_map] at hp
  obtain ⟨u, _, rfl⟩ := hp
  obtain rfl := Option.some.inj ht; rfl
theorem IdT.xE (l : List Thg) (g : List Int) : IdT (xE (idxL l) g) := (IdT.ofE l).put fun p hp t ht => by
  obtain ⟨n, _, rfl⟩ := List.mem_map.1 hp
  cases ht
/-! ## Right catalogues, right changes -/
theorem rikT {l : List Thg} (h : RisT l) : RiK (idxL l) := by
  unfold RiK idxL
  rw [List.pairwise_map]
  exact List.pairwise_iff_getElem.2 fun i j hi hj hij => h.up i j hi hj hij
theorem rikM {l : List Mvd} (h : RisM l) : RiK (mvL l) := by
  unfold RiK mvL
  rw [List.pairwise_map]
  exact List.pairwise_iff_getElem.2 fun i j hi hj hij => h.up i j hi hj hij
theorem up_all {l : List Int} (h : upF (atI l) l.length = true) : UpL l := by
  have h1 := up_iff.1 h
  have h2 : ∀ d i, (hi : i + d + 1 < l.length) → l[i]'(by omega) < l[i + d + 1] := by
    intro d
    induction d with
    | zero =>
      intro i hi
      have := h1 (i + 1) (by omega) (by omega)
      rw [atI_eq (by omega), atI_eq (by omega)] at this
      simpa using this
    | succ d ih =>
      intro i hi
      have := h1 (i + d + 1 + 1) (by omega) (by omega)
      rw [atI_eq (by omega), atI_eq (by omega)] at this
      have h3 := ih i (by omega)
      have h4 : l[i + d + 1 + 1 - 1]'(by omega) = l[i + d + 1]'(by omega) := by congr 1
      rw [h4] at this
      exact Int.lt_trans h3 this
  exact List.pairwise_iff_getElem.2 fun i j hi hj hij => by
    obtain ⟨d, rfl⟩ : ∃ d, j = i + d + 1 := ⟨j - i - 1, by omega⟩
    exact h2 d i hj
structure XOk (x : Chg) : Prop where
  lim : LimX x
  put : RiK (idxL x.put)
  drop : UpL x.drop
  add : RiK (mvL x.add)
  back : UpL x.back
theorem xOk {x : Chg} (h : chgF x = 0) : XOk x := by
  have hl := limX h
  unfold chgF at h
  have hL : ¬ (300 < x.put.length ∨ 300 < x.drop.length ∨ 300 < x.add.length ∨ 300 < x.back.length) := by obtain ⟨h1, h2, h3, h4⟩ := hl; omega
  rw [if_neg hL] at h
  by_cases hu : upF (atI (x.put.map Thg.id)) x.put.length = true ∧ upF (atI x.drop) x.drop.length = true ∧ upF (atI (x.add.map Mvd.src)) x.add.length = true ∧ upF (atI x.back) x.back.length = true
  · obtain ⟨h1, h2, h3, h4⟩ := hu
    have u1 := up_all (l := x.put.map Thg.id) (by rw [List.length_map]; exact h1)
    have u3 := up_all (l := x.add.map Mvd.src) (by rw [List.length_map]; exact h3)
    exact ⟨hl, List.pairwise_map.2 (List.pairwise_map.1 u1), up_all h2, List.pairwise_map.2 (List.pairwise_map.1 u3), up_all h4⟩
  · rw [if_pos hu] at h; omega

/-! Types. -/
namespace TyLS
end TyLS
open TyH3 TyH5 TyJ3 TyJ4 TyJ5 TyKA TyKB TyKC TyKD TyKE TyKF TyKG TyLA TyLB TyLC TyLD TyLE TyLF TyLG TyLH TyLI TyLJ TyLK TyLL TyLM TyLN TyLO TyLP TyLQ TyLR TyLS

set_option linter.unusedSimpArgs false
theorem nowT_id (c : Ctl) (x : Chg) : IdT (nowT c x) := (IdT.ofE _).put (IdT.xE _ _)
theorem out_things (c : Ctl) (x : Chg) : idxL (outC c x).things = stepG (idxL c.things) (idxL x.put) x.drop := idxL_vals ((nowT_id c x).vals (nowT_nk c x))
theorem out_moved (c : Ctl) (x : Chg) : mvL (outC c x).moved = stepG (mvL c.moved) (mvL x.add) x.back := mvL_vals _
theorem nkT {c : Ctl} (h : chkF c = 0) : RiK (idxL c.things) := rikT (catOk h).ris
theorem nkM {c : Ctl} (h : chkF c = 0) : RiK (mvL c.moved) := rikM (catOk h).rism
/-- What the change that leads back is. -/
theorem backT_dif {c : Ctl} {x : Chg} (hc : chkF c = 0) (hx : chgF x = 0) : IsDif (fromE (cT c) (nowT c x) (keysG (xT x))) (idxL (outC c x).things) (idxL c.things) := by
  have h := back_dif (nkT hc).nk (xOk hx).put.nk (xOk hx).drop
  rw [← out_things] at h; exact h
theorem backM_dif {c : Ctl} {x : Chg} (hc : chkF c = 0) (hx : chgF x = 0) : IsDif (fromE (cM c) (nowM c x) (keysG (xM x))) (mvL (outC c x).moved) (mvL c.moved) := by
  have h := back_dif (nkM hc).nk (xOk hx).add.nk (xOk hx).back
  rw [← out_moved] at h; exact h

/-! Types. -/
namespace TyLT
end TyLT
open TyH3 TyH5 TyJ3 TyJ4 TyJ5 TyKA TyKB TyKC TyKD TyKE TyKF TyKG TyLA TyLB TyLC TyLD TyLE TyLF TyLG TyLH TyLI TyLJ TyLK TyLL TyLM TyLN TyLO TyLP TyLQ TyLR TyLS TyLT

set_option maxRecDepth 100000 in
set_option maxHeartbeats 1000000 in
theorem c_sameTs (l r : List Thg) : ACall Tryz.prog 39 [.sl (l.map Thg.ds), .sl (r.map Thg.ds)] (.v (.bool (decide (l = r)))) := by
 refine acall_of (n := 27) (ds' := [.v (.bool (decide (l = r)))]) Tryz.func39 rfl (by kernel_rfl) rfl [4] rfl rfl ?_
 intro B w0 F0 fr
 refine .bound 0 rfl (fun hbd0 => ?_)
 rw [List.length_map] at hbd0
 refine .bound 1 rfl (fun hbd1 => ?_)
 rw [List.length_map] at hbd1
 refine .sr ?_
 refine .aA (.nil ?_)
 refine .seq ?_
 refine .sr ?_
 refine .mA ?_
 refine .sA (.lenSl rfl et_22.ht rfl) ?_
 refine .mA ?_
 refine .sA (.lenSl rfl et_22.ht rfl) ?_
 refine .sA (.neq rfl rfl rfl) (.nil ?_)
 refine .cond rfl (fun h1 => ?_) (fun h1 => ?_)
 ·replace h1 := of_decide_eq_true h1
  rw [List.length_map, List.length_map] at h1
  rw [decide_eq_false (show ¬ l = r from fun e => h1 (by rw [e]))]
  refine .sr ?_
  refine .aA (.nil ?_)
  refine .ret ?_
  refine ⟨RetD.eq rfl ?_, trivial⟩
  all_goals (rfl)
 replace h1 := of_decide_eq_false h1
 rw [List.length_map, List.length_map] at h1
 have hle : l.length = r.length := by omega
 refine .skip ?_
 refine .seq ?_
 refine .sr ?_
 refine .mA ?_
 refine .sA (.lenSl rfl et_22.ht rfl) ?_
 refine .mA (.nil ?_)
 refine .block ?_
 refine .loop (G := Nat) (fun k => Env.of [(13, .d (.v (.int .i64 (k : Int)))), (0, .d (.sl (l.map Thg.ds))), (1, .d (.sl (r.map Thg.ds))), (12, .d (.v (.int .i64 ((l.map Thg.ds).length : Int))))]) (fun k => []) (fun k => k ≤ l.length ∧ l.take k = r.take k) (fun k => l.length - k) 0 ⟨Nat.zero_le _, by simp⟩ (Sub.less ⟨(SLe.of_eq rfl), SLe.refl _, SLe.refl _, SLe.refl _, trivial⟩ (fun _ h => h)) ?_
 intro k hk
 refine .sr ?_
 refine .sA (.lss rfl rfl rfl) (.nil ?_)
 refine .seq ?_
 refine .cond rfl (fun h2 => ?_) (fun h2 => ?_)
 ·replace h2 := of_decide_eq_true h2
  rw [List.length_map] at h2
  have hlt : k < l.length := by omega
  have hlr : k < r.length := by omega
  refine .skip ?_
  refine .seq ?_
  refine .block ?_
  refine .sr ?_
  refine .mA ?_
  refine .aA (.nil ?_)
  refine .seq ?_
  refine .draw (by kernel_rfl) (by kernel_rfl) ?_
  refine .sA (.moveD rfl rfl) ?_
  refine .sA (.moveD rfl rfl) ?_
  refine .sA (.indexAddr rfl et_22 rfl rfl k rfl (at_lst hlt) rfl) ?_
  refine .sA (.loadAgg rfl ag_41 rfl rfl) ?_
  refine .sA (.moveD rfl rfl) ?_
  refine .sA (.moveD rfl rfl) ?_
  refine .sA (.indexAddr rfl et_22 rfl rfl k rfl (at_lst hlr) rfl) ?_
  refine .sA (.loadAgg rfl ag_41 rfl rfl) ?_
  refine .sA (.call rfl (.cons (.rfl' rfl) (.cons (.rfl' rfl) .nil)) (c_same _ _)) ?_
  refine .sA (.not rfl rfl) ?_
  refine .nil ?_
  refine .cond rfl (fun h3 => ?_) (fun h3 => ?_)
  ·replace h3 := bnot_t h3; replace h3 := of_decide_eq_false h3
   rw [decide_eq_false (show ¬ l = r from fun e => h3 (by subst e; rfl))]
   refine .sr ?_
   refine .aA (.nil ?_)
   refine .ret ?_
   refine ⟨RetD.eq rfl ?_, trivial⟩
   all_goals (rfl)
  replace h3 := bnot_f h3; replace h3 := of_decide_eq_true h3
  have hT := take_eq hlt hlr hk.2 (by first | exact h3 | exact Decidable.not_not.1 h3)
  refine .skip ?_
  refine .region ?_
  refine .sA (.add64 rfl rfl rfl (by omega) (by omega)) ?_
  refine .mA (.nil ?_)
  refine ⟨k + 1, ⟨by omega, hT⟩, (by dsimp only; omega), Sub.less ⟨(SLe.of_eq rfl), SLe.refl _, SLe.refl _, SLe.refl _, trivial⟩ (fun _ h => h)⟩
 replace h2 := of_decide_eq_false h2
 rw [List.length_map] at h2
 obtain rfl : k = l.length := by omega
 rw [decide_eq_true (take_all_eq hle hk.2)]
 refine .exit ?_
 refine .sr ?_
 refine .aA (.nil ?_)
 refine .ret ?_
 refine ⟨RetD.eq rfl ?_, trivial⟩
 all_goals (rfl)

theorem chg_dec {a b : Chg} (h1 : a.put = b.put) (h2 : a.drop = b.drop) (h3 : a.add = b.add) : decide (a.back = b.back) = decide (a = b) := by
  cases a; cases b
  dsimp only at h1 h2 h3 ⊢
  subst h1 h2 h3
  simp

set_option maxRecDepth 100000 in
set_option maxHeartbeats 1000000 in
theorem c_sameX (a b : Chg) : ACall Tryz.prog 24 [.agg a.ds, .agg b.ds] (.v (.bool (decide (a = b)))) := by
 refine acall_of (n := 31) (ds' := [.v (.bool (decide (a = b)))]) Tryz.func24 rfl (by kernel_rfl) rfl [4] rfl rfl ?_
 intro B w0 F0 fr
 refine .sr ?_
 refine .sA (.box rfl rfl rfl) ?_
 refine .sA (.box rfl rfl rfl) ?_
 refine .aA (.nil ?_)
 refine .sr ?_
 refine .sA (.fieldAddr rfl fo_35_0 rfl) ?_
 refine .sA (.load rfl sc_22 rfl) ?_
 refine .sA (.fieldAddr rfl fo_35_0 rfl) ?_
 refine .sA (.load rfl sc_22 rfl) ?_
 refine .sA (.call rfl (.cons (.rfl' rfl) (.cons (.rfl' rfl) .nil)) (c_sameTs _ _)) ?_
 refine .mA ?_
 refine .split 10 rfl (fun g1 => ?_) (fun g1 => ?_)
 ·replace g1 := of_decide_eq_true g1
  have e1 := g1
  refine .sG (.fieldAddr rfl fo_35_1 rfl) ?_
  refine .sG (.load rfl sc_33 rfl) ?_
  refine .sG (.fieldAddr rfl fo_35_1 rfl) ?_
  refine .sG (.load rfl sc_33 rfl) ?_
  refine .sG (.call rfl (.cons (.rfl' rfl) (.cons (.rfl' rfl) .nil)) (c_eqI _ _)) ?_
  refine .sA (.pickT rfl rfl rfl) ?_
  refine .mA ?_
  refine .split 17 rfl (fun g2 => ?_) (fun g2 => ?_)
  ·replace g2 := of_decide_eq_true g2
   have e2 := g2
   refine .sG (.fieldAddr rfl fo_35_2 rfl) ?_
   refine .sG (.load rfl sc_23 rfl) ?_
   refine .sG (.fieldAddr rfl fo_35_2 rfl) ?_
   refine .sG (.load rfl sc_23 rfl) ?_
   refine .sG (.call rfl (.cons (.rfl' rfl) (.cons (.rfl' rfl) .nil)) (c_eqM _ _)) ?_
   refine .sA (.pickT rfl rfl rfl) ?_
   refine .mA ?_
   refine .split 24 rfl (fun g3 => ?_) (fun g3 => ?_)
   ·replace g3 := of_decide_eq_true g3
    rw [← chg_dec e1 e2 g3]
    refine .sG (.fieldAddr rfl fo_35_3 rfl) ?_
    refine .sG (.load rfl sc_33 rfl) ?_
    refine .sG (.fieldAddr rfl fo_35_3 rfl) ?_
    refine .sG (.load rfl sc_33 rfl) ?_
    refine .sG (.call rfl (.cons (.rfl' rfl) (.cons (.rfl' rfl) .nil)) (c_eqI _ _)) ?_
    refine .sA (.pickT rfl rfl rfl) ?_
    refine .aA (.nil ?_)
    refine .ret ?_
    refine ⟨RetD.eq rfl ?_, trivial⟩
    all_goals (rfl)
   replace g3 := of_decide_eq_false g3
   rw [decide_eq_false (show ¬ a = b from fun e => g3 (by rw [e]))]
   refine .pA ?_
   refine .pA ?_
   refine .pA ?_
   refine .pA ?_
   refine .pA ?_
   refine .sA (.pickF rfl rfl rfl) ?_
   refine .aA (.nil ?_)
   refine .ret ?_
   refine ⟨RetD.eq rfl ?_, trivial⟩
   all_goals (rfl)
  replace g2 := of_decide_eq_false g2
  rw [decide_eq_false (show ¬ a = b from fun e => g2 (by rw [e]))]
  refine .pA ?_
  refine .pA ?_
  refine .pA ?_
  refine .pA ?_
  refine .pA ?_
  refine .sA (.pickF rfl rfl rfl) ?_
  refine .mA ?_
  refine .pA ?_
  refine .pA ?_
  refine .pA ?_
  refine .pA ?_
  refine .pA ?_
  refine .sA (.pickF rfl rfl rfl) ?_
  refine .aA (.nil ?_)
  refine .ret ?_
  refine ⟨RetD.eq rfl ?_, trivial⟩
  all_goals (rfl)
 replace g1 := of_decide_eq_false g1
 rw [decide_eq_false (show ¬ a = b from fun e => g1 (by rw [e]))]
 refine .pA ?_
 refine .pA ?_
 refine .pA ?_
 refine .pA ?_
 refine .pA ?_
 refine .sA (.pickF rfl rfl rfl) ?_
 refine .mA ?_
 refine .pA ?_
 refine .pA ?_
 refine .pA ?_
 refine .pA ?_
 refine .pA ?_
 refine .sA (.pickF rfl rfl rfl) ?_
 refine .mA ?_
 refine .pA ?_
 refine .pA ?_
 refine .pA ?_
 refine .pA ?_
 refine .pA ?_
 refine .sA (.pickF rfl rfl rfl) ?_
 refine .aA (.nil ?_)
 refine .ret ?_
 refine ⟨RetD.eq rfl ?_, trivial⟩
 all_goals (rfl)


/-! Types. -/
namespace TyLU
end TyLU
open TyH3 TyH5 TyJ3 TyJ4 TyJ5 TyKA TyKB TyKC TyKD TyKE TyKF TyKG TyLA TyLB TyLC TyLD TyLE TyLF TyLG TyLH TyLI TyLJ TyLK TyLL TyLM TyLN TyLO TyLP TyLQ TyLR TyLS TyLT TyLU

end Go.Proofs.YtgldfnkbpopanaaGreatDoor
