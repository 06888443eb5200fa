/- Walks and laws over abstract values, merged by tools/merge.py. No statement of the seat. -/
import Derived.Shelf.SlSortCmp.WholeK
import Derived.Lib.RowBridge
import Derived.StillTailTactics
import Derived.WalkKit
import Derived.Ground.NamesProg
import Derived.Shelf.SlSortCmp.NoneTotal
import Derived.Shelf.SlicesG.Cmp
import Derived.Ground.SlsfProg
import Derived.Ground.SlgcProg
import Derived.Test.YtgldfnkbpopanaaGreatDoorProg
import Derived.Test.YtgldfnkbpopanaaGreatDoorXV9

namespace Go.Proofs.YtgldfnkbpopanaaGreatDoor
open Go.RowKit
set_option linter.unusedVariables false

/-! Types. -/
namespace TyUB
end TyUB
open TyH3 TyH5 TyJ3 TyJ4 TyJ5 TyKA TyKB TyKC TyKD TyKE TyKF TyKG TyLA TyLB TyLC TyLD TyLE TyLF TyLG TyLH TyLI TyLJ TyLK TyLL TyLM TyLN TyLO TyLP TyLQ TyLR TyLS TyLT TyLU TyLV TyLW TyLX TyLY TyMA TyNA TyNC TyNE TyKH TyNF TyUC TyKI TyUA TyUD TyUB

set_option linter.unusedSimpArgs false
structure Spl (c : Ctl) (id fresh : Int) (title : ByteArray) (us : List Int) : Prop where
  ok : chkF c = 0
  ti : thereB c.things id = true
  rng : 1 ≤ fresh ∧ fresh ≤ 1000000
  nt : thereB c.things fresh = false
  nm : hasM c.moved fresh = false
  us : ffst (usF c id us) us.length = 0
theorem spl_of {c : Ctl} {id fresh : Int} {title : ByteArray} {us : List Int} (h : chkF c = 0) (h2 : splO c id fresh title us = 0) : Spl c id fresh title us := by
  unfold splO at h2
  have t1 : ∀ {x : Bool}, ¬ x = false → x = true := fun {x} hx => by cases x <;> simp_all
  have t2 : ∀ {x : Bool}, ¬ x = true → x = false := fun {x} hx => by cases x <;> simp_all
  split at h2
  · omega
  · rename_i k1
    split at h2
    · omega
    · rename_i k2
      split at h2
      · omega
      · rename_i k3
        split at h2
        · omega
        · exact ⟨h, t1 k1, by omega, t2 fun hh => k3 (.inl hh), t2 fun hh => k3 (.inr hh), h2⟩
section
variable {c : Ctl} {id fresh : Int} {title : ByteArray} {us : List Int}
/-- A thing behind the split. -/
def sp1 (id fresh : Int) (us : List Int) (t : Thg) : Thg := if t.id ∈ us then renF t id fresh else t
abbrev spA (c : Ctl) (id fresh : Int) (title : ByteArray) (us : List Int) : Ctl := outC c (splX c id fresh title us)
end

section
variable {cx : Cx} {ops : Array Oper} {o : Oper} {rest : List Oper} {e : Env} {σ : Obs} {Q : Post}
end
section
variable {cx : Cx} {ops : Array Oper} {σ : Obs} {Φ : List Fg} {e : Env} {Qe : Env → Prop} {o : Oper} {l : List Oper}
/-- What a part of the struct is, whatever the region has made so far. -/
def PartG (ops : Array Oper) (σ : Obs) (Φ : List Fg) (o : Oper) (e : Env) (s : S) : Prop := ∀ τ : Obs, (∀ p ∈ σ, p ∈ τ) → (∀ g ∈ Φ, (∃ t, t ∈ o.looksAt ops ∧ (e t).killP g.chg ≠ e t) → ∀ p ∈ g.obs, p ∈ τ) → OneS τ s
theorem PartG.own {i ee size : Nat} {els : List (List D)} {g : Fg} (hg : g ∈ Φ) {t : Nat} (ht : t ∈ o.looksAt ops) (hk : (e t).killP g.chg ≠ e t) (hm : (i, Ob.row ee size els) ∈ g.obs) : PartG ops σ Φ o e (.own i) := fun _ _ h => .own (h g hg ⟨t, ht, hk⟩ _ hm)
end
section
variable {cx : Cx} {ops : Array Oper} {Φ : List Fc} {o : Oper} {e : Env} {σ : Obs}
end
section
variable {cx : Cx} {ops : Array Oper} {o : Oper} {rest : List Oper} {e : Env} {σ : Obs} {Q : Post}
theorem AOps.build1P {t dst : Nat} {x0 : Operand} {s0 : S} {places : Nat → Option (Nat × Nat)} {z0 z1 z2 z3 : Value} (id : Nat) (hg : o.guard = none) (ht : o.dst = some dst) (hdn : Nat.blt dst cx.N = true) (ho : o.op = .build t #[(0, x0)]) (T : StructT cx.P t places [z0, z1, z2, z3])
    (hp0 : places 0 = some (0, 1)) (e0 : e.ev x0 = s0) (o0 : OneS σ s0) (b1 : z1.oneCell' = true) (b2 : z2.oneCell' = true) (b3 : z3.oneCell' = true) (hid : Obs.fresh id σ = true)
    (k : AOps cx ops rest ((e.kill id).put (some dst) (.own id)) ((id, .val ([s0, .d (.v z1), .d (.v z2), .d (.v z3)].map (S.kill id))) :: Obs.kill id σ) Q) (hfx : cx.free id = true := by rfl) : AOps cx ops (o :: rest) e σ Q := by
  intro a w ⟨F, ρ, hr⟩
  have r0' := ev_rep (e := e) (x := x0) (a := a) (fun t _ => hr.env t)
  rw [e0] at r0'
  obtain ⟨c0, a0, b0, r0⟩ := o0.cell hr.obs r0'
  refine wpList_plain hg fun K hK => ?_
  unfold Oper.wp execOp
  simp only [ho, Sem.run_bind]
  rw [T.run w]
  have hfill : Instr.fill places [z0, z1, z2, z3].toArray (Array.map (fun p => (p.1, a.eval p.2)) #[(0, x0)]).toList = some #[c0, z1, z2, z3] := by
    simp [Instr.fill, hp0, a0]
  rw [hfill]
  simp only [Result.andThen_ok, Sem.run_pure]
  obtain ⟨ρ', h8⟩ := hr.newObF (id := id) (dst := dst) (ob := .val ([s0, .d (.v z1), .d (.v z2), .d (.v z3)].map (S.kill id))) (v := .agg #[c0, z1, z2, z3]) (Obs.fresh_spec hid) (by simpa [Nat.blt_eq] using hdn) (Ext.refl hr.lt) (by
    refine ⟨[c0, z1, z2, z3], by simp, rfl, fun m hm hm' => ?_⟩
    match m, hm with
    | 0, _ => exact ⟨b0, r0.kill id (fun i hi => by simp [hi])⟩
    | 1, _ => exact ⟨b1, .d (.v _)⟩
    | 2, _ => exact ⟨b2, .d (.v _)⟩
    | 3, _ => exact ⟨b3, .d (.v _)⟩) (fun g hg => by simp [blk] at hg) hfx
  have := k _ _ ⟨F, ρ', h8⟩
  rw [← ht] at this
  exact hK _ _ this
theorem Le.agg {ds ds' : List D} (hl : ds.length = ds'.length) (h : ∀ i (h1 : i < ds.length) (h2 : i < ds'.length), Le ds[i] ds'[i]) : Le (.agg ds) (.agg ds') := fun F w x hx => by
  cases hx with
  | agg cs _ hl2 hone hr => exact .agg cs ds' (hl2.trans hl) hone fun i h1 h2 => h i (by omega) h2 F w _ (hr i h1 (by omega))
/-- A struct whose first part is a row, the others nothing. -/
theorem Le.one4 {d : D} : Le (.agg [d, .v (.slice none 0 0), .v (.slice none 0 0), .v (.slice none 0 0)]) (.agg [d, .sl [], .sl [], .sl []]) := .agg rfl fun i h1 h2 => by
  match i, h1 with
  | 0, _ => exact Le.refl _
  | 1, _ => exact Le.nil
  | 2, _ => exact Le.nil
  | 3, _ => exact Le.nil
end

/-! Types. -/
namespace TyUE
end TyUE
open TyH3 TyH5 TyJ3 TyJ4 TyJ5 TyKA TyKB TyKC TyKD TyKE TyKF TyKG TyLA TyLB TyLC TyLD TyLE TyLF TyLG TyLH TyLI TyLJ TyLK TyLL TyLM TyLN TyLO TyLP TyLQ TyLR TyLS TyLT TyLU TyLV TyLW TyLX TyLY TyMA TyNA TyNC TyNE TyKH TyNF TyUC TyKI TyUA TyUD TyUB TyUE

set_option linter.unusedSimpArgs false
def ixM (p : Mvd → Bool) (l : List Mvd) : Int := if l.any p = true then (l.findIdx p : Int) else -1
section
variable {p : Mvd → Bool} {l : List Mvd} {k : Nat}
theorem ix_hit (hk : k < l.length) (h : ∀ x ∈ l.take k, p x = false) (h2 : p l[k] = true) : ixM p l = (k : Int) := by
  unfold ixM
  rw [if_pos (List.any_eq_true.2 ⟨_, List.getElem_mem hk, h2⟩)]
  congr 1
  refine (List.findIdx_eq hk).2 ⟨h2, fun j hj => ?_⟩
  exact h _ (List.mem_take_iff_getElem.2 ⟨j, by omega, rfl⟩)
theorem ix_no (h : ∀ x ∈ l, p x = false) : ixM p l = -1 := by
  unfold ixM
  rw [if_neg]
  intro hh
  obtain ⟨x, hx, h2⟩ := List.any_eq_true.1 hh
  rw [h x hx] at h2; cases h2
theorem ix_next (hk : k < l.length) (h : ∀ x ∈ l.take k, p x = false) (h2 : p l[k] = false) : ∀ x ∈ l.take (k + 1), p x = false := fun x hx => by
  rw [List.take_add_one, List.getElem?_eq_getElem hk, Option.toList_some, List.mem_append, List.mem_singleton] at hx
  rcases hx with hx | rfl
  · exact h x hx
  · exact h2
theorem ix_any : decide (ixM p l ≥ 0) = l.any p := by
  unfold ixM
  cases h : l.any p with
  | true => rw [if_pos rfl]; exact decide_eq_true (Int.natCast_nonneg _)
  | false => rw [if_neg (by decide)]; rfl
theorem any_has {m : List Mvd} {id : Int} : (m.any fun x => decide (x.src = id)) = hasM m id := by
  cases h : hasM m id with
  | true =>
    unfold hasM at h
    rw [List.any_eq_true]
    rcases hf : findG (mvL m) id with _ | v
    · rw [hf] at h; cases h
    · have h1 := find_mem hf
      obtain ⟨x, hx, he⟩ := List.mem_map.1 h1
      exact ⟨x, hx, decide_eq_true (congrArg Prod.fst he)⟩
  | false =>
    rw [List.any_eq_false]
    intro x hx he
    have h1 := of_decide_eq_true he
    unfold hasM at h
    rcases hf : findG (mvL m) id with _ | v
    · exact findM_none.1 hf x hx h1
    · rw [hf] at h; cases h
end
section
variable {c : Ctl} {id fresh : Int} {title : ByteArray} {us : List Int} {k : Nat}
theorem spO_9 (h : thereB c.things id = false) : splO c id fresh title us = 9 := if_pos h
theorem spO_1 (h : thereB c.things id = true) (h2 : fresh < 1 ∨ 1000000 < fresh) : splO c id fresh title us = 1 := by unfold splO; rw [if_neg (by rw [h]; decide), if_pos h2]
theorem spO_7 (h : thereB c.things id = true) (h2 : ¬ (fresh < 1 ∨ 1000000 < fresh)) (h3 : thereB c.things fresh = true ∨ hasM c.moved fresh = true) : splO c id fresh title us = 7 := by unfold splO; rw [if_neg (by rw [h]; decide), if_neg h2, if_pos h3]
theorem spO_3 (h : thereB c.things id = true) (h2 : ¬ (fresh < 1 ∨ 1000000 < fresh)) (h3 : ¬ (thereB c.things fresh = true ∨ hasM c.moved fresh = true)) (h4 : titleOk title = false) : splO c id fresh title us = 3 := by unfold splO; rw [if_neg (by rw [h]; decide), if_neg h2, if_neg h3, if_pos h4]
theorem spO_u (h : thereB c.things id = true) (h2 : ¬ (fresh < 1 ∨ 1000000 < fresh)) (h3 : ¬ (thereB c.things fresh = true ∨ hasM c.moved fresh = true)) (h4 : titleOk title = true) : splO c id fresh title us = ffst (usF c id us) us.length := by unfold splO; rw [if_neg (by rw [h]; decide), if_neg h2, if_neg h3, if_neg (by rw [h4]; decide)]
theorem usF_9 (hk : k < us.length) (h : thereB c.things us[k] = false) : usF c id us k = 9 := by unfold usF; rw [dif_pos hk, if_pos h]
theorem usF_8 (hk : k < us.length) (h : thereB c.things us[k] = true) (h2 : 0 < k ∧ us[k] ≤ (us[k-1]'(by omega))) : usF c id us k = 8 := by unfold usF; rw [dif_pos hk, if_neg (by rw [h]; decide), if_pos h2]
theorem usF_11 (hk : k < us.length) (h : thereB c.things us[k] = true) (h2 : ¬ (0 < k ∧ us[k] ≤ (us[k-1]'(by omega)))) (h3 : usesB (getT c.things us[k]) id = false) : usF c id us k = 11 := by unfold usF; rw [dif_pos hk, if_neg (by rw [h]; decide), if_neg h2, if_pos h3]
theorem usF_0 (hk : k < us.length) (h : thereB c.things us[k] = true) (h2 : ¬ (0 < k ∧ us[k] ≤ (us[k-1]'(by omega)))) (h3 : usesB (getT c.things us[k]) id = true) : usF c id us k = 0 := by unfold usF; rw [dif_pos hk, if_neg (by rw [h]; decide), if_neg h2, if_neg (by rw [h3]; decide)]
theorem us_hit {n : Int} (hk : k < us.length) (h0 : ffst (usF c id us) k = 0) (h : usF c id us k = n) (hn : n ≠ 0) : ffst (usF c id us) us.length = n := by rw [ffst_hit h0 (by rw [h]; exact hn) _ hk, h]
theorem splV_c (h : chkF c ≠ 0) : splV c id fresh title us = (zX, chkF c) := if_neg h
theorem splV_o {n : Int} (h : chkF c = 0) (h2 : splO c id fresh title us = n) (hn : n ≠ 0) : splV c id fresh title us = (zX, n) := by unfold splV; rw [if_pos h, if_neg (by rw [h2]; exact hn), h2]
theorem splV_f (h : chkF c = 0) (h2 : splO c id fresh title us = 0) (h3 : (applyV c (splX c id fresh title us)).2.2 ≠ 0) : splV c id fresh title us = (zX, (applyV c (splX c id fresh title us)).2.2) := by unfold splV; rw [if_pos h, if_pos h2, if_neg h3]
theorem splV_0 (h : chkF c = 0) (h2 : splO c id fresh title us = 0) (h3 : (applyV c (splX c id fresh title us)).2.2 = 0) : splV c id fresh title us = (splX c id fresh title us, 0) := by unfold splV; rw [if_pos h, if_pos h2, if_pos h3]
theorem us_len (h : Spl c id fresh title us) : us.length ≤ c.things.length := by
  have h1 := us_up h.us
  have h2 := sub_len (l := us) (l' := c.things.map Thg.id) (h1.imp fun hab e => by rw [e] at hab; exact absurd hab (Int.lt_irrefl _)) fun u hu => by
    obtain ⟨k, hk, rfl⟩ := List.mem_iff_getElem.1 hu
    obtain ⟨g1, g2⟩ := getT_id (us_0 hk (ffst_all _ h.us k hk)).1
    exact List.mem_map.2 ⟨_, g2, g1⟩
  simpa using h2
theorem newT_ok (hc : CtlOk c) (hf : i64 fresh) (ht : title.size ≤ 9223372036854775807) : ThgOk (newT c id fresh title) := by
  have h := getT_ok hc.things id
  exact ⟨hf, h.kind, ht, by (show (⟨#[]⟩ : ByteArray).size ≤ _); decide, h.since, h.parent, h.parts⟩
theorem splX_in (hc : CtlOk c) (h : chkF c = 0) (hf : i64 fresh) (ht : title.size ≤ 9223372036854775807) : XIn (splX c id fresh title us) := by
  have hp := (catOk h).parts
  have hx : ∀ t ∈ (splX c id fresh title us).put, t = newT c id fresh title ∨ ∃ u, t = renF (getT c.things u) id fresh := fun t hq => by
    have key : ∀ (E l : List Thg) (a : Thg), a ∈ putsF Thg.id l E → a ∈ l ∨ a ∈ E := by
      intro E
      induction E with
      | nil => intro l a ha; exact .inl ha
      | cons e E ih =>
        intro l a ha
        rcases ih _ _ ha with h1 | h1
        · rcases putF_mem (f := Thg.id) h1 with rfl | h2
          · exact .inr (List.mem_cons_self)
          · exact .inl h2
        · exact .inr (List.mem_cons_of_mem _ h1)
    rcases key _ _ _ (show t ∈ putsF Thg.id [newT c id fresh title] (splL c id fresh us us.length) from hq) with h1 | h1
    · exact .inl (List.mem_singleton.1 h1)
    · obtain ⟨u, _, rfl⟩ := List.mem_map.1 h1
      exact .inr ⟨u, rfl⟩
  refine ⟨⟨fun t hq => ?_, fun n hn => absurd hn List.not_mem_nil, fun m hm => absurd hm List.not_mem_nil, fun n hn => absurd hn List.not_mem_nil⟩, fun t hq => ?_⟩
  · rcases hx t hq with rfl | ⟨u, rfl⟩
    · exact newT_ok hc hf ht
    · exact renF_ok hf (getT_ok hc.things u)
  · rcases hx t hq with rfl | ⟨u, rfl⟩
    · exact Nat.le_trans (hp id) (by decide)
    · show ((getT c.things u).parts.map (renN id fresh)).length ≤ 1048576
      rw [List.length_map]; exact Nat.le_trans (hp u) (by decide)
theorem puts_len : ∀ (E l : List Thg), (putsF Thg.id l E).length ≤ l.length + E.length
  | [], l => by show l.length ≤ _; simp
  | e :: E, l => by
    have h1 := puts_len E (putF Thg.id l e)
    have h2 := putF_len (f := Thg.id) l e
    show (putsF Thg.id (putF Thg.id l e) E).length ≤ _
    rw [List.length_cons]; omega
theorem psN_next (h : k < us.length) : putsF Thg.id [newT c id fresh title] (splL c id fresh us (k + 1)) = putF Thg.id (putsF Thg.id [newT c id fresh title] (splL c id fresh us k)) (renF (getT c.things us[k]) id fresh) := by
  rw [splL_next h]
  unfold putsF
  rw [List.foldl_append]; rfl
theorem user_has (h : chkF c = 0) {n : Int} (hn : thereB c.things n = true) : decide (n ∈ pikL (usesB · id) c.things) = usesB (getT c.things n) id := by
  have h1 := usr_mem (id := id) h hn
  cases hu : usesB (getT c.things n) id with
  | true => exact decide_eq_true (h1.2 hu)
  | false => exact decide_eq_false fun hh => by have := h1.1 hh; rw [hu] at this; cases this
end

set_option maxRecDepth 100000 in
set_option maxHeartbeats 1000000 in
theorem c_ixM (l : List Mvd) (p : Mvd → Bool) (f : Nat) (caps : List D) (hf : ∀ x ∈ l, ACall Tryz.prog f (.agg x.ds :: caps) (.v (.bool (p x)))) : ACall Tryz.prog 128 [.sl (l.map Mvd.ds), .clo (.func f) caps] (.v (.int .i64 (ixM p l))) := by
 refine acall_of (n := 19) (ds' := [.v (.int .i64 (ixM p l))]) Tryz.func128 rfl (by kernel_rfl) rfl [4] rfl rfl ?_
 intro B w0 F0 fr
 refine .bound 0 rfl (fun hbd0 => ?_)
 rw [List.length_map] at hbd0
 refine .sr ?_
 refine .aA (.nil ?_)
 refine .seq ?_
 refine .sr ?_
 refine .mA ?_
 refine .sA (.lenSl rfl et_23.ht rfl) ?_
 refine .mA (.nil ?_)
 refine .block ?_
 refine .loop (G := Nat) (fun k => Env.of [(8, .d (.v (.int .i64 (k : Int)))), (0, .d (.sl (l.map Mvd.ds))), (1, .d (.clo (.func f) caps)), (7, .d (.v (.int .i64 ((l.map Mvd.ds).length : Int))))]) (fun k => []) (fun k => k ≤ l.length ∧ ∀ x ∈ l.take k, p x = false) (fun k => l.length - k) 0 ⟨Nat.zero_le _, fun x hx => by simp at hx⟩ (Sub.less ⟨(SLe.of_eq rfl), SLe.refl _, SLe.refl _, SLe.refl _, trivial⟩ (fun _ h => h)) ?_
 intro k hk
 refine .sr ?_
 refine .sA (.lss rfl rfl rfl) (.nil ?_)
 refine .seq ?_
 refine .cond rfl (fun h1 => ?_) (fun h1 => ?_)
 ·replace h1 := of_decide_eq_true h1
  rw [List.length_map] at h1
  have hlt : k < l.length := by omega
  refine .skip ?_
  refine .seq ?_
  refine .block ?_
  refine .sr ?_
  refine .mA ?_
  refine .aA (.nil ?_)
  refine .sr ?_
  refine .mA ?_
  refine .mA ?_
  refine .mA ?_
  refine .sA (.indexAddr rfl et_23 rfl rfl k rfl (at_lst hlt) rfl) ?_
  refine .sA (.loadAgg rfl ag_85 rfl rfl) ?_
  refine .sA (.callClo rfl rfl (.cons (.rfl' rfl) .nil) (hf _ (List.getElem_mem hlt))) (.nil ?_)
  refine .cond rfl (fun h2 => ?_) (fun h2 => ?_)
  ·skip
   rw [ix_hit hlt hk.2 h2]
   refine .sr ?_
   refine .mA ?_
   refine .aA (.nil ?_)
   refine .ret ?_
   refine ⟨RetD.eq rfl ?_, trivial⟩
   all_goals (rfl)
  have HN := ix_next hlt hk.2 h2
  refine .skip ?_
  refine .region ?_
  refine .sA (.add64 rfl rfl rfl (by omega) (by omega)) ?_
  refine .mA (.nil ?_)
  refine ⟨k + 1, ⟨by omega, HN⟩, (by dsimp only; omega), Sub.less ⟨(SLe.of_eq rfl), SLe.refl _, SLe.refl _, SLe.refl _, trivial⟩ (fun _ h => h)⟩
 replace h1 := of_decide_eq_false h1
 rw [List.length_map] at h1
 obtain rfl : k = l.length := by omega
 rw [ix_no (by have := hk.2; rwa [List.take_length] at this)]
 refine .exit ?_
 refine .sr ?_
 refine .aA (.nil ?_)
 refine .ret ?_
 refine ⟨RetD.eq rfl ?_, trivial⟩
 all_goals (rfl)

set_option maxRecDepth 100000 in
set_option maxHeartbeats 1000000 in
theorem c_cnM (l : List Mvd) (p : Mvd → Bool) (f : Nat) (caps : List D) (hf : ∀ x ∈ l, ACall Tryz.prog f (.agg x.ds :: caps) (.v (.bool (p x)))) : ACall Tryz.prog 96 [.sl (l.map Mvd.ds), .clo (.func f) caps] (.v (.bool (l.any p))) := by
 refine acall_of (n := 9) (ds' := [.v (.bool (l.any p))]) Tryz.func96 rfl (by kernel_rfl) rfl [4] rfl rfl ?_
 intro B w0 F0 fr
 refine .sr ?_
 refine .aA (.nil ?_)
 refine .sr ?_
 refine .mA ?_
 refine .mA ?_
 refine .sA (.call rfl (.cons (.rfl' rfl) (.cons (.rfl' rfl) .nil)) (c_ixM l p f caps hf)) ?_
 refine .sA (.geq rfl rfl rfl) ?_
 refine .aA (.nil ?_)
 refine .ret ?_
 refine ⟨RetD.eq rfl ?_, trivial⟩
 all_goals (first | rfl | (rw [← ix_any]; first | done | rfl))

set_option maxRecDepth 100000 in
set_option maxHeartbeats 1000000 in
theorem c_ckS1 (x : Mvd) (id : Int) : ACall Tryz.prog 97 [.agg x.ds, .fp [.v (.int .i64 id)]] (.v (.bool (decide (x.src = id)))) := by
 refine acall_of (n := 8) (ds' := [.v (.bool (decide (x.src = id)))]) Tryz.func97 rfl (by kernel_rfl) rfl [3] rfl rfl ?_
 intro B w0 F0 fr
 refine .sr ?_
 refine .sA (.box rfl rfl rfl) ?_
 refine .aA (.nil ?_)
 refine .sr ?_
 refine .sA (.fieldAddr rfl fo_85_0 rfl) ?_
 refine .sA (.load rfl sc_3 rfl) ?_
 refine .sA (.load rfl sc_3 rfl) ?_
 refine .sA (.eql rfl rfl rfl) ?_
 refine .aA (.nil ?_)
 refine .ret ?_
 refine ⟨RetD.eq rfl ?_, trivial⟩
 all_goals (rfl)

set_option maxRecDepth 100000 in
set_option maxHeartbeats 1000000 in
theorem c_ckS (c : Ctl) (id fresh : Int) (title : ByteArray) (us : List Int) (hc : CtlOk c) (hr : RisT c.things) (hi : i64 id) (hf : i64 fresh) (ht : title.size ≤ 9223372036854775807) (hu : ∀ n ∈ us, i64 n) : ACallT Tryz.prog MaxT 55 [.agg c.ds, .fm (idxM c.things), .v (.int .i64 id), .v (.int .i64 fresh), .v (.string title), .sl (us.map intD)] (.v (.int .i64 (splO c id fresh title us))) := by
 refine acall_ofT (n := 85) (ds' := [.v (.int .i64 (splO c id fresh title us))]) Tryz.func55 rfl (by kernel_rfl) rfl [12] rfl rfl ?_
 intro B w0 F0 hT
 refine .bound 5 rfl (fun hbd5 => ?_)
 rw [List.length_map] at hbd5
 refine .sr ?_
 refine .sA (.box rfl rfl rfl) ?_
 refine .sA (.box rfl rfl rfl) ?_
 refine .aA (.nil ?_)
 refine .seq ?_
 refine .sr ?_
 refine .mA ?_
 refine .mA ?_
 refine .sA (.lookupOkF (key := kI id) rfl mt_idx kd_int zt_thg zd_thg rfl rfl (DExact.v _) (kI_ok hi) (idxM_keys hc.things) _ (getok_idx hr.nk _)) ?_
 refine .mA ?_
 refine .sA (.extract rfl rfl rfl) ?_
 refine .sA (.extract rfl rfl rfl) ?_
 refine .alloc 101 rfl rfl rfl rfl zt_41 rfl rfl rfl ?_
 refine .store rfl rfl rfl sz_41 rfl (.head _) rfl rfl rfl (Nat.le_of_ble_eq_true rfl) ?_
 refine .freezeCells 13 (ds := (getT c.things id).ds) rfl (.head _) ?_
 refine .aA (.nil ?_)
 refine .sr ?_
 refine .mA ?_
 refine .sA (.not rfl rfl) (.nil ?_)
 refine .cond rfl (fun h1 => ?_) (fun h1 => ?_)
 ·replace h1 := bnot_t h1
  rw [spO_9 h1]
  refine .sr ?_
  refine .aA (.nil ?_)
  refine .ret ?_
  refine ⟨RetD.eq rfl ?_, trivial⟩
  all_goals (rfl)
 replace h1 := bnot_f h1
 have t1 := h1
 refine .skip ?_
 refine .seq ?_
 refine .sr ?_
 refine .sA (.load rfl sc_3 rfl) ?_
 refine .sA (.lss rfl rfl rfl) ?_
 refine .mA ?_
 refine .split 31 rfl (fun g2 => ?_) (fun g2 => ?_)
 ·replace g2 := of_decide_eq_true g2
  rw [spO_1 t1 (.inl g2)]
  refine .pA ?_
  refine .pA ?_
  refine .sA (.pickT rfl rfl rfl) (.nil ?_)
  refine .cond rfl (fun _ => ?_) (fun h => nomatch h)
  refine .sr ?_
  refine .aA (.nil ?_)
  refine .ret ?_
  refine ⟨RetD.eq rfl ?_, trivial⟩
  all_goals (rfl)
 replace g2 := of_decide_eq_false g2
 have q1 := g2
 refine .sG (.load rfl sc_3 rfl) ?_
 refine .sG (.gtr rfl rfl rfl) ?_
 refine .sA (.pickF rfl rfl rfl) (.nil ?_)
 refine .cond rfl (fun h3 => ?_) (fun h3 => ?_)
 ·replace h3 := of_decide_eq_true h3
  rw [spO_1 t1 (.inr (by omega))]
  refine .sr ?_
  refine .aA (.nil ?_)
  refine .ret ?_
  refine ⟨RetD.eq rfl ?_, trivial⟩
  all_goals (rfl)
 replace h3 := of_decide_eq_false h3
 have r1 : ¬ (fresh < 1 ∨ 1000000 < fresh) := by omega
 refine .skip ?_
 refine .seq ?_
 refine .sr ?_
 refine .mA ?_
 refine .sA (.load rfl sc_3 rfl) ?_
 refine .sA (.lookupOkF (key := kI fresh) rfl mt_idx kd_int zt_thg zd_thg rfl rfl (DExact.v _) (kI_ok hf) (idxM_keys hc.things) _ (getok_idx hr.nk _)) ?_
 refine .mA ?_
 refine .sA (.extract rfl rfl rfl) ?_
 refine .sA (.extract rfl rfl rfl) ?_
 refine .alloc 102 rfl rfl rfl rfl zt_41 rfl rfl rfl ?_
 refine .store rfl rfl rfl sz_41 rfl (.head _) rfl rfl rfl (Nat.le_of_ble_eq_true rfl) ?_
 refine .freezeCells 15 (ds := (getT c.things fresh).ds) rfl (.head _) ?_
 refine .aA (.nil ?_)
 refine .sr ?_
 refine .mA ?_
 refine .mA ?_
 refine .split 42 rfl (fun g4 => ?_) (fun g4 => ?_)
 ·skip
  rw [spO_7 t1 r1 (.inl g4)]
  refine .pA ?_
  refine .pA ?_
  refine .pA ?_
  refine .pA ?_
  refine .sA (.pickT rfl rfl rfl) (.nil ?_)
  refine .cond rfl (fun _ => ?_) (fun h => nomatch h)
  refine .sr ?_
  refine .aA (.nil ?_)
  refine .ret ?_
  refine ⟨RetD.eq rfl ?_, trivial⟩
  all_goals (rfl)
 have nt := g4
 refine .sG (.fieldAddr rfl fo_25_1 rfl) ?_
 refine .sG (.load rfl sc_23 rfl) ?_
 refine .sG (.makeFunc rfl (.cons (.rfl' rfl) .nil)) ?_
 refine .sG (.call rfl (.cons (.rfl' rfl) (.cons (.rfl' rfl) .nil)) (c_cnM c.moved (fun x => decide (x.src = fresh)) _ _ (fun x _ => c_ckS1 x fresh))) ?_
 rw [any_has]
 refine .sA (.pickF rfl rfl rfl) (.nil ?_)
 refine .cond rfl (fun h5 => ?_) (fun h5 => ?_)
 ·skip
  rw [spO_7 t1 r1 (.inr h5)]
  refine .sr ?_
  refine .aA (.nil ?_)
  refine .ret ?_
  refine ⟨RetD.eq rfl ?_, trivial⟩
  all_goals (rfl)
 have r2 : ¬ (thereB c.things fresh = true ∨ hasM c.moved fresh = true) := by rw [nt, h5]; decide
 refine .skip ?_
 refine .seq ?_
 refine .sr ?_
 refine .mA ?_
 -- wants the world
 refine .callT rfl rfl rfl hT maxT_stays rfl (.cons (.rfl' rfl) .nil) (c_pTitle title ht) ?_
 refine .sA (.not rfl rfl) (.nil ?_)
 refine .cond rfl (fun h6 => ?_) (fun h6 => ?_)
 ·replace h6 := bnot_t h6
  rw [spO_3 t1 r1 r2 h6]
  refine .sr ?_
  refine .aA (.nil ?_)
  refine .ret ?_
  refine ⟨RetD.eq rfl ?_, trivial⟩
  all_goals (rfl)
 replace h6 := bnot_f h6
 have HO := spO_u (us := us) t1 r1 r2 h6
 refine .skip ?_
 refine .seq ?_
 refine .sr ?_
 refine .mA ?_
 refine .sA (.lenSl rfl et_33.ht rfl) ?_
 refine .mA (.nil ?_)
 refine .block ?_
 refine .loop (G := Nat) (fun k => Env.of [(53, .d (.v (.int .i64 (k : Int)))), (51, .d (.sl (us.map intD))), (52, .d (.v (.int .i64 ((us.map intD).length : Int)))), (5, .d (.sl (us.map intD))), (1, .d (.fm (idxM c.things))), (2, .d (.v (.int .i64 id))), (6, .d (.fp c.ds))]) (fun k => []) (fun k => k ≤ us.length ∧ ffst (usF c id us) k = 0) (fun k => us.length - k) 0 ⟨Nat.zero_le _, rfl⟩ (Sub.less ⟨(SLe.of_eq rfl), SLe.refl _, SLe.refl _, SLe.refl _, SLe.refl _, SLe.refl _, SLe.refl _, trivial⟩ (fun _ h => h)) ?_
 intro k hk
 refine .sr ?_
 refine .sA (.lss rfl rfl rfl) (.nil ?_)
 refine .seq ?_
 refine .cond rfl (fun h7 => ?_) (fun h7 => ?_)
 ·replace h7 := of_decide_eq_true h7
  rw [List.length_map] at h7
  have hlt : k < us.length := by omega
  refine .skip ?_
  refine .seq ?_
  refine .block ?_
  refine .sr ?_
  refine .mA ?_
  refine .sA (.indexAddr rfl et_33 rfl rfl k rfl (at_lst hlt) rfl) ?_
  refine .sA (.load rfl sc_3 rfl) ?_
  refine .aA ?_
  refine .aA (.nil ?_)
  refine .sr ?_
  refine .mA ?_
  refine .mA ?_
  refine .sA (.lookupOkF (key := kI us[k]) rfl mt_idx kd_int zt_thg zd_thg rfl rfl (DExact.v _) (kI_ok (hu _ (List.getElem_mem hlt))) (idxM_keys hc.things) _ (getok_idx hr.nk _)) ?_
  refine .mA ?_
  refine .sA (.extract rfl rfl rfl) ?_
  refine .sA (.extract rfl rfl rfl) ?_
  refine .alloc 103 rfl rfl rfl rfl zt_41 rfl rfl rfl ?_
  refine .store rfl rfl rfl sz_41 rfl (.head _) rfl rfl rfl (Nat.le_of_ble_eq_true rfl) ?_
  refine .freezeCells 19 (ds := (getT c.things us[k]).ds) rfl (.head _) ?_
  refine .aA (.nil ?_)
  refine .block ?_
  refine .sr ?_
  refine .mA ?_
  refine .sA (.not rfl rfl) ?_
  refine .aA (.nil ?_)
  refine .cond rfl (fun h8 => ?_) (fun h8 => ?_)
  ·replace h8 := bnot_t h8
   rw [HO, us_hit hlt hk.2 (usF_9 hlt h8) (by decide)]
   refine .sr ?_
   refine .aA (.nil ?_)
   refine .ret ?_
   refine ⟨RetD.eq rfl ?_, trivial⟩
   all_goals (rfl)
  replace h8 := bnot_f h8
  have u1 := h8
  refine .sr ?_
  refine .mA ?_
  refine .sA (.gtr rfl rfl rfl) ?_
  refine .mA ?_
  refine .split 70 rfl (fun g9 => ?_) (fun g9 => ?_)
  ·replace g9 := of_decide_eq_true g9
   have hk0 : 0 < k := by omega
   refine .sG (.moveD rfl rfl) ?_
   refine .sG (.moveD rfl rfl) ?_
   refine .sG (.moveD rfl rfl) ?_
   refine .sG (.sub64 rfl rfl rfl (by omega) (by omega)) ?_
   refine .sG (.indexAddr rfl et_33 rfl rfl (k - 1) (by omega) (at_lst (by omega)) rfl) ?_
   refine .sG (.load rfl sc_3 rfl) ?_
   refine .sG (.leq rfl rfl rfl) ?_
   refine .sA (.pickT rfl rfl rfl) ?_
   refine .aA (.nil ?_)
   refine .cond rfl (fun h10 => ?_) (fun h10 => ?_)
   ·replace h10 := of_decide_eq_true h10
    rw [HO, us_hit hlt hk.2 (usF_8 hlt u1 ⟨hk0, h10⟩) (by decide)]
    refine .sr ?_
    refine .aA (.nil ?_)
    refine .ret ?_
    refine ⟨RetD.eq rfl ?_, trivial⟩
    all_goals (rfl)
   replace h10 := of_decide_eq_false h10
   have u2 : ¬ (0 < k ∧ us[k] ≤ (us[k-1]'(by omega))) := fun hh => by have := hh.2; omega
   refine .sr ?_
   refine .sA (.loadAgg rfl ag_41 rfl rfl) ?_
   refine .mA ?_
   refine .sA (.call rfl (.cons (.rfl' rfl) (.cons (.rfl' rfl) .nil)) (c_usesB _ _)) ?_
   refine .sA (.not rfl rfl) ?_
   refine .aA (.nil ?_)
   refine .cond rfl (fun h11 => ?_) (fun h11 => ?_)
   ·replace h11 := bnot_t h11
    rw [HO, us_hit hlt hk.2 (usF_11 hlt u1 u2 h11) (by decide)]
    refine .sr ?_
    refine .aA (.nil ?_)
    refine .ret ?_
    refine ⟨RetD.eq rfl ?_, trivial⟩
    all_goals (rfl)
   replace h11 := bnot_f h11
   have HN := ffst_next hk.2 (usF_0 hlt u1 u2 h11)
   refine .skip ?_
   refine .region ?_
   refine .sA (.add64 rfl rfl rfl (by omega) (by omega)) ?_
   refine .mA (.nil ?_)
   refine ⟨k + 1, ⟨by omega, HN⟩, (by dsimp only; omega), Sub.less ⟨(SLe.of_eq rfl), SLe.refl _, SLe.refl _, SLe.refl _, SLe.refl _, SLe.refl _, SLe.refl _, trivial⟩ (fun _ h => h)⟩
  replace g9 := of_decide_eq_false g9
  have u2 : ¬ (0 < k ∧ us[k] ≤ (us[k-1]'(by omega))) := by omega
  refine .pA ?_
  refine .pA ?_
  refine .pA ?_
  refine .pA ?_
  refine .pA ?_
  refine .pA ?_
  refine .pA ?_
  refine .sA (.pickF rfl rfl rfl) ?_
  refine .aA (.nil ?_)
  refine .cond rfl (fun h => nomatch h) (fun _ => ?_)
  refine .sr ?_
  refine .sA (.loadAgg rfl ag_41 rfl rfl) ?_
  refine .mA ?_
  refine .sA (.call rfl (.cons (.rfl' rfl) (.cons (.rfl' rfl) .nil)) (c_usesB _ _)) ?_
  refine .sA (.not rfl rfl) ?_
  refine .aA (.nil ?_)
  refine .cond rfl (fun h12 => ?_) (fun h12 => ?_)
  ·replace h12 := bnot_t h12
   rw [HO, us_hit hlt hk.2 (usF_11 hlt u1 u2 h12) (by decide)]
   refine .sr ?_
   refine .aA (.nil ?_)
   refine .ret ?_
   refine ⟨RetD.eq rfl ?_, trivial⟩
   all_goals (rfl)
  replace h12 := bnot_f h12
  have HN := ffst_next hk.2 (usF_0 hlt u1 u2 h12)
  refine .skip ?_
  refine .region ?_
  refine .sA (.add64 rfl rfl rfl (by omega) (by omega)) ?_
  refine .mA (.nil ?_)
  refine ⟨k + 1, ⟨by omega, HN⟩, (by dsimp only; omega), Sub.less ⟨(SLe.of_eq rfl), SLe.refl _, SLe.refl _, SLe.refl _, SLe.refl _, SLe.refl _, SLe.refl _, trivial⟩ (fun _ h => h)⟩
 replace h7 := of_decide_eq_false h7
 rw [List.length_map] at h7
 obtain rfl : k = us.length := by omega
 rw [HO, hk.2]
 refine .exit ?_
 refine .sr ?_
 refine .aA (.nil ?_)
 refine .ret ?_
 refine ⟨RetD.eq rfl ?_, trivial⟩
 all_goals (rfl)

set_option maxRecDepth 100000 in
set_option maxHeartbeats 4000000 in
theorem c_rSplit (c : Ctl) (id fresh : Int) (title : ByteArray) (us : List Int) (hc : CtlOk c) (hi : i64 id) (hf : i64 fresh) (ht : title.size ≤ 9223372036854775807) (hu : ∀ n ∈ us, i64 n) : ACallT Tryz.prog MaxT 25 [.agg c.ds, .v (.int .i64 id), .v (.int .i64 fresh), .v (.string title), .sl (us.map intD)] (.tup [.agg (splV c id fresh title us).1.ds, .v (.int .i64 (splV c id fresh title us).2)]) := by
 refine acall_ofRT (n := 160) (ds' := [.agg (splV c id fresh title us).1.ds, .v (.int .i64 (splV c id fresh title us).2)]) Tryz.func25 rfl (by kernel_rfl) rfl [.cell 10 35, .tmp 11] rfl rfl ?_
 intro B w0 F0 hT
 refine .bound 4 rfl (fun hbd4 => ?_)
 rw [List.length_map] at hbd4
 refine .sr ?_
 refine .sA (.box rfl rfl rfl) ?_
 refine .alloc 301 rfl rfl rfl rfl zt_35 rfl rfl rfl ?_
 refine .aA (.nil ?_)
 refine .seq ?_
 refine .sr ?_
 refine .sA (.loadAgg rfl ag_25 rfl rfl) ?_
 -- wants the world
 refine .callT rfl rfl rfl hT maxT_stays rfl (.cons (.rfl' rfl) .nil) (c_rChk c hc) ?_
 refine .aA (.nil ?_)
 refine .sr ?_
 refine .mA ?_
 refine .sA (.neq rfl rfl rfl) (.nil ?_)
 refine .cond rfl (fun h1 => ?_) (fun h1 => ?_)
 ·replace h1 := of_decide_eq_true h1
  rw [splV_c (by first | exact h1 | omega)]
  refine .sr ?_
  refine .sA (.build rfl bu_35 .nil rfl) ?_
  refine .mA ?_
  refine .store rfl rfl rfl sz_35 rfl (.head _) rfl rfl rfl (Nat.le_of_ble_eq_true rfl) ?_
  refine .aA (.nil ?_)
  refine .ret ?_
  refine ⟨RetR.agg rfl (.head _) ag_35 rfl (.cons .nil (.cons .nil (.cons .nil (.cons .nil .nil)))), RetD.eq rfl ?_, trivial⟩
  all_goals (first | rfl | (rw [apply_same]; first | done | rfl))
 replace h1 := of_decide_eq_false h1
 have k0 : chkF c = 0 := (by first | exact h1 | omega)
 have HC := catOk k0
 have hl := HC.lim
 have hl1 := hl.1
 have hl2 := hl.2
 have hr := HC.ris
 have hpk : ∀ n, (getT c.things n).parts.length ≤ 1048576 := fun n => Nat.le_trans (HC.parts n) (by decide)
 refine .skip ?_
 refine .sr ?_
 refine .sA (.loadAgg rfl ag_25 rfl rfl) ?_
 refine .mA ?_
 refine .sA (.call rfl (.cons (.rfl' rfl) (.cons (.rfl' rfl) .nil)) (c_thing c id hl.two)) ?_
 refine .mA ?_
 refine .sA (.extract rfl rfl rfl) ?_
 refine .sA (.extract rfl rfl rfl) ?_
 refine .alloc 102 rfl rfl rfl rfl zt_41 rfl rfl rfl ?_
 refine .store rfl rfl rfl sz_41 rfl (.head _) rfl rfl rfl (Nat.le_of_ble_eq_true rfl) ?_
 refine .freezeCells 13 (ds := (getT c.things id).ds) rfl (.head _) ?_
 refine .aA (.nil ?_)
 refine .sr ?_
 refine .sA (.loadAgg rfl ag_25 rfl rfl) ?_
 refine .mA ?_
 refine .sA (.call rfl (.cons (.rfl' rfl) (.cons (.rfl' rfl) .nil)) (c_thing c fresh hl.two)) ?_
 refine .mA ?_
 refine .sA (.extract rfl rfl rfl) ?_
 refine .sA (.extract rfl rfl rfl) ?_
 refine .alloc 103 rfl rfl rfl rfl zt_41 rfl rfl rfl ?_
 refine .store rfl rfl rfl sz_41 rfl (.head _) rfl rfl rfl (Nat.le_of_ble_eq_true rfl) ?_
 refine .freezeCells 15 (ds := (getT c.things fresh).ds) rfl (.head _) ?_
 refine .aA (.nil ?_)
 refine .sr ?_
 refine .sA (.loadAgg rfl ag_25 rfl rfl) ?_
 refine .mA ?_
 refine .sA (.call rfl (.cons (.rfl' rfl) (.cons (.rfl' rfl) .nil)) (c_moved c fresh hl.two)) ?_
 refine .mA ?_
 refine .sA (.extract rfl rfl rfl) ?_
 refine .sA (.extract rfl rfl rfl) ?_
 refine .aA ?_
 refine .aA (.nil ?_)
 refine .seq ?_
 refine .block ?_
 refine .sr ?_
 refine .mA ?_
 refine .sA (.not rfl rfl) ?_
 refine .aA (.nil ?_)
 refine .cond rfl (fun h2 => ?_) (fun h2 => ?_)
 ·replace h2 := bnot_t h2
  rw [splV_o k0 (spO_9 h2) (by decide)]
  refine .sr ?_
  refine .sA (.build rfl bu_35 .nil rfl) ?_
  refine .store rfl rfl rfl sz_35 rfl (.head _) rfl rfl rfl (Nat.le_of_ble_eq_true rfl) ?_
  refine .aA (.nil ?_)
  refine .ret ?_
  refine ⟨RetR.agg rfl (.head _) ag_35 rfl (.cons .nil (.cons .nil (.cons .nil (.cons .nil .nil)))), RetD.eq rfl ?_, trivial⟩
  all_goals (first | rfl | (rw [apply_same]; first | done | rfl))
 replace h2 := bnot_f h2
 have t1 := h2
 refine .sr ?_
 refine .mA ?_
 refine .sA (.call rfl (.cons (.rfl' rfl) (.cons (.rfl' rfl) (.cons (.rfl' rfl) .nil))) (c_rIn _ _ _)) ?_
 refine .sA (.not rfl rfl) ?_
 refine .aA (.nil ?_)
 refine .cond rfl (fun h3 => ?_) (fun h3 => ?_)
 ·replace h3 := bnot_t h3; replace h3 := of_decide_eq_false h3
  rw [splV_o k0 (spO_1 t1 (by omega)) (by decide)]
  refine .sr ?_
  refine .sA (.build rfl bu_35 .nil rfl) ?_
  refine .store rfl rfl rfl sz_35 rfl (.head _) rfl rfl rfl (Nat.le_of_ble_eq_true rfl) ?_
  refine .aA (.nil ?_)
  refine .ret ?_
  refine ⟨RetR.agg rfl (.head _) ag_35 rfl (.cons .nil (.cons .nil (.cons .nil (.cons .nil .nil)))), RetD.eq rfl ?_, trivial⟩
  all_goals (first | rfl | (rw [apply_same]; first | done | rfl))
 replace h3 := bnot_f h3; replace h3 := of_decide_eq_true h3
 have r1 : ¬ (fresh < 1 ∨ 1000000 < fresh) := by omega
 refine .sr ?_
 refine .mA ?_
 refine .mA ?_
 refine .split 66 rfl (fun g4 => ?_) (fun g4 => ?_)
 ·skip
  rw [splV_o k0 (spO_7 t1 r1 (.inl g4)) (by decide)]
  refine .pA ?_
  refine .sA (.pickT rfl rfl rfl) ?_
  refine .aA (.nil ?_)
  refine .cond rfl (fun _ => ?_) (fun h => nomatch h)
  refine .sr ?_
  refine .sA (.build rfl bu_35 .nil rfl) ?_
  refine .store rfl rfl rfl sz_35 rfl (.head _) rfl rfl rfl (Nat.le_of_ble_eq_true rfl) ?_
  refine .aA (.nil ?_)
  refine .ret ?_
  refine ⟨RetR.agg rfl (.head _) ag_35 rfl (.cons .nil (.cons .nil (.cons .nil (.cons .nil .nil)))), RetD.eq rfl ?_, trivial⟩
  all_goals (first | rfl | (rw [apply_same]; first | done | rfl))
 have nt := g4
 refine .sG (.moveD rfl rfl) ?_
 refine .sA (.pickF rfl rfl rfl) ?_
 refine .aA (.nil ?_)
 refine .cond rfl (fun h5 => ?_) (fun h5 => ?_)
 ·skip
  rw [splV_o k0 (spO_7 t1 r1 (.inr h5)) (by decide)]
  refine .sr ?_
  refine .sA (.build rfl bu_35 .nil rfl) ?_
  refine .store rfl rfl rfl sz_35 rfl (.head _) rfl rfl rfl (Nat.le_of_ble_eq_true rfl) ?_
  refine .aA (.nil ?_)
  refine .ret ?_
  refine ⟨RetR.agg rfl (.head _) ag_35 rfl (.cons .nil (.cons .nil (.cons .nil (.cons .nil .nil)))), RetD.eq rfl ?_, trivial⟩
  all_goals (first | rfl | (rw [apply_same]; first | done | rfl))
 have r2 : ¬ (thereB c.things fresh = true ∨ hasM c.moved fresh = true) := by rw [nt, h5]; decide
 refine .sr ?_
 refine .mA ?_
 -- wants the world
 refine .callT rfl rfl rfl hT maxT_stays rfl (.cons (.rfl' rfl) .nil) (c_rTitle title ht) ?_
 refine .sA (.not rfl rfl) ?_
 refine .aA (.nil ?_)
 refine .cond rfl (fun h6 => ?_) (fun h6 => ?_)
 ·replace h6 := bnot_t h6
  rw [splV_o k0 (spO_3 t1 r1 r2 h6) (by decide)]
  refine .sr ?_
  refine .sA (.build rfl bu_35 .nil rfl) ?_
  refine .store rfl rfl rfl sz_35 rfl (.head _) rfl rfl rfl (Nat.le_of_ble_eq_true rfl) ?_
  refine .aA (.nil ?_)
  refine .ret ?_
  refine ⟨RetR.agg rfl (.head _) ag_35 rfl (.cons .nil (.cons .nil (.cons .nil (.cons .nil .nil)))), RetD.eq rfl ?_, trivial⟩
  all_goals (first | rfl | (rw [apply_same]; first | done | rfl))
 replace h6 := bnot_f h6
 have HO := spO_u (us := us) t1 r1 r2 h6
 refine .skip ?_
 refine .seq ?_
 refine .sr ?_
 refine .mA ?_
 refine .sA (.lenSl rfl et_33.ht rfl) ?_
 refine .mA (.nil ?_)
 refine .block ?_
 refine .loop (G := Nat) (fun k => Env.of [(77, .d (.v (.int .i64 (k : Int)))), (75, .d (.sl (us.map intD))), (76, .d (.v (.int .i64 ((us.map intD).length : Int)))), (1, .d (.v (.int .i64 id))), (2, .d (.v (.int .i64 fresh))), (4, .d (.sl (us.map intD))), (5, .d (.fp c.ds)), (10, .ptr 301 0), (3, .d (.v (.string title))), (13, .d (.fp (getT c.things id).ds))]) (fun k => [(301, .cells [.d (.v (.slice none 0 0)), .d (.v (.slice none 0 0)), .d (.v (.slice none 0 0)), .d (.v (.slice none 0 0))])]) (fun k => k ≤ us.length ∧ ffst (usF c id us) k = 0) (fun k => us.length - k) 0 ⟨Nat.zero_le _, rfl⟩ (Sub.less ⟨(SLe.of_eq rfl), SLe.refl _, SLe.refl _, SLe.refl _, SLe.refl _, SLe.refl _, SLe.refl _, SLe.refl _, SLe.refl _, SLe.refl _, trivial⟩ (obs_e rfl)) ?_
 intro k hk
 refine .sr ?_
 refine .sA (.lss rfl rfl rfl) (.nil ?_)
 refine .seq ?_
 refine .cond rfl (fun h7 => ?_) (fun h7 => ?_)
 ·replace h7 := of_decide_eq_true h7
  rw [List.length_map] at h7
  have hlt : k < us.length := by omega
  refine .skip ?_
  refine .seq ?_
  refine .block ?_
  refine .sr ?_
  refine .mA ?_
  refine .sA (.indexAddr rfl et_33 rfl rfl k rfl (at_lst hlt) rfl) ?_
  refine .sA (.load rfl sc_3 rfl) ?_
  refine .aA ?_
  refine .aA (.nil ?_)
  refine .sr ?_
  refine .sA (.loadAgg rfl ag_25 rfl rfl) ?_
  refine .mA ?_
  refine .sA (.call rfl (.cons (.rfl' rfl) (.cons (.rfl' rfl) .nil)) (c_thing c us[k] hl.two)) ?_
  refine .mA ?_
  refine .sA (.extract rfl rfl rfl) ?_
  refine .sA (.extract rfl rfl rfl) ?_
  refine .alloc 104 rfl rfl rfl rfl zt_41 rfl rfl rfl ?_
  refine .store rfl rfl rfl sz_41 rfl (.head _) rfl rfl rfl (Nat.le_of_ble_eq_true rfl) ?_
  refine .freezeCells 21 (ds := (getT c.things us[k]).ds) rfl (.head _) ?_
  refine .aA (.nil ?_)
  refine .block ?_
  refine .sr ?_
  refine .mA ?_
  refine .sA (.not rfl rfl) ?_
  refine .aA (.nil ?_)
  refine .cond rfl (fun h8 => ?_) (fun h8 => ?_)
  ·replace h8 := bnot_t h8
   rw [splV_o k0 (HO.trans (us_hit hlt hk.2 (usF_9 hlt h8) (by decide))) (by decide)]
   refine .sr ?_
   refine .sA (.build rfl bu_35 .nil rfl) ?_
   refine .store rfl rfl rfl sz_35 rfl (.head _) rfl rfl rfl (Nat.le_of_ble_eq_true rfl) ?_
   refine .aA (.nil ?_)
   refine .ret ?_
   refine ⟨RetR.agg rfl (.head _) ag_35 rfl (.cons .nil (.cons .nil (.cons .nil (.cons .nil .nil)))), RetD.eq rfl ?_, trivial⟩
   all_goals (first | rfl | (rw [apply_same]; first | done | rfl))
  replace h8 := bnot_f h8
  have u1 := h8
  refine .sr ?_
  refine .mA ?_
  refine .sA (.gtr rfl rfl rfl) ?_
  refine .mA ?_
  refine .split 95 rfl (fun g9 => ?_) (fun g9 => ?_)
  ·replace g9 := of_decide_eq_true g9
   have hk0 : 0 < k := by omega
   refine .sG (.moveD rfl rfl) ?_
   refine .sG (.moveD rfl rfl) ?_
   refine .sG (.moveD rfl rfl) ?_
   refine .sG (.sub64 rfl rfl rfl (by omega) (by omega)) ?_
   refine .sG (.indexAddr rfl et_33 rfl rfl (k - 1) (by omega) (at_lst (by omega)) rfl) ?_
   refine .sG (.load rfl sc_3 rfl) ?_
   refine .sG (.leq rfl rfl rfl) ?_
   refine .sA (.pickT rfl rfl rfl) ?_
   refine .aA (.nil ?_)
   refine .cond rfl (fun h10 => ?_) (fun h10 => ?_)
   ·replace h10 := of_decide_eq_true h10
    rw [splV_o k0 (HO.trans (us_hit hlt hk.2 (usF_8 hlt u1 ⟨hk0, h10⟩) (by decide))) (by decide)]
    refine .sr ?_
    refine .sA (.build rfl bu_35 .nil rfl) ?_
    refine .store rfl rfl rfl sz_35 rfl (.head _) rfl rfl rfl (Nat.le_of_ble_eq_true rfl) ?_
    refine .aA (.nil ?_)
    refine .ret ?_
    refine ⟨RetR.agg rfl (.head _) ag_35 rfl (.cons .nil (.cons .nil (.cons .nil (.cons .nil .nil)))), RetD.eq rfl ?_, trivial⟩
    all_goals (first | rfl | (rw [apply_same]; first | done | rfl))
   replace h10 := of_decide_eq_false h10
   have u2 : ¬ (0 < k ∧ us[k] ≤ (us[k-1]'(by omega))) := fun hh => by have := hh.2; omega
   refine .sr ?_
   refine .sA (.loadAgg rfl ag_25 rfl rfl) ?_
   refine .mA ?_
   refine .sA (.call rfl (.cons (.rfl' rfl) (.cons (.rfl' rfl) .nil)) (c_users c id hc hl)) ?_
   refine .mA ?_
   refine .sA (.call rfl (.cons (.rfl' rfl) (.cons (.rfl' rfl) .nil)) (c_containsInt _ _)) ?_
   refine .sA (.not rfl rfl) ?_
   refine .aA (.nil ?_)
   refine .cond rfl (fun h11 => ?_) (fun h11 => ?_)
   ·replace h11 := bnot_t h11; replace h11 := of_decide_eq_false h11
    have u3 : usesB (getT c.things us[k]) id = false := by rw [← user_has k0 u1]; exact decide_eq_false h11
    rw [splV_o k0 (HO.trans (us_hit hlt hk.2 (usF_11 hlt u1 u2 u3) (by decide))) (by decide)]
    refine .sr ?_
    refine .sA (.build rfl bu_35 .nil rfl) ?_
    refine .store rfl rfl rfl sz_35 rfl (.head _) rfl rfl rfl (Nat.le_of_ble_eq_true rfl) ?_
    refine .aA (.nil ?_)
    refine .ret ?_
    refine ⟨RetR.agg rfl (.head _) ag_35 rfl (.cons .nil (.cons .nil (.cons .nil (.cons .nil .nil)))), RetD.eq rfl ?_, trivial⟩
    all_goals (first | rfl | (rw [apply_same]; first | done | rfl))
   replace h11 := bnot_f h11; replace h11 := of_decide_eq_true h11
   have u3 : usesB (getT c.things us[k]) id = true := by rw [← user_has k0 u1]; exact decide_eq_true h11
   have HN := ffst_next hk.2 (usF_0 hlt u1 u2 u3)
   refine .skip ?_
   refine .region ?_
   refine .sA (.add64 rfl rfl rfl (by omega) (by omega)) ?_
   refine .mA (.nil ?_)
   refine ⟨k + 1, ⟨by omega, HN⟩, (by dsimp only; omega), Sub.less ⟨(SLe.of_eq rfl), SLe.refl _, SLe.refl _, SLe.refl _, SLe.refl _, SLe.refl _, SLe.refl _, SLe.refl _, SLe.refl _, SLe.refl _, trivial⟩ (obs_e rfl)⟩
  replace g9 := of_decide_eq_false g9
  have u2 : ¬ (0 < k ∧ us[k] ≤ (us[k-1]'(by omega))) := by omega
  refine .pA ?_
  refine .pA ?_
  refine .pA ?_
  refine .pA ?_
  refine .pA ?_
  refine .pA ?_
  refine .pA ?_
  refine .sA (.pickF rfl rfl rfl) ?_
  refine .aA (.nil ?_)
  refine .cond rfl (fun h => nomatch h) (fun _ => ?_)
  refine .sr ?_
  refine .sA (.loadAgg rfl ag_25 rfl rfl) ?_
  refine .mA ?_
  refine .sA (.call rfl (.cons (.rfl' rfl) (.cons (.rfl' rfl) .nil)) (c_users c id hc hl)) ?_
  refine .mA ?_
  refine .sA (.call rfl (.cons (.rfl' rfl) (.cons (.rfl' rfl) .nil)) (c_containsInt _ _)) ?_
  refine .sA (.not rfl rfl) ?_
  refine .aA (.nil ?_)
  refine .cond rfl (fun h12 => ?_) (fun h12 => ?_)
  ·replace h12 := bnot_t h12; replace h12 := of_decide_eq_false h12
   have u3 : usesB (getT c.things us[k]) id = false := by rw [← user_has k0 u1]; exact decide_eq_false h12
   rw [splV_o k0 (HO.trans (us_hit hlt hk.2 (usF_11 hlt u1 u2 u3) (by decide))) (by decide)]
   refine .sr ?_
   refine .sA (.build rfl bu_35 .nil rfl) ?_
   refine .store rfl rfl rfl sz_35 rfl (.head _) rfl rfl rfl (Nat.le_of_ble_eq_true rfl) ?_
   refine .aA (.nil ?_)
   refine .ret ?_
   refine ⟨RetR.agg rfl (.head _) ag_35 rfl (.cons .nil (.cons .nil (.cons .nil (.cons .nil .nil)))), RetD.eq rfl ?_, trivial⟩
   all_goals (first | rfl | (rw [apply_same]; first | done | rfl))
  replace h12 := bnot_f h12; replace h12 := of_decide_eq_true h12
  have u3 : usesB (getT c.things us[k]) id = true := by rw [← user_has k0 u1]; exact decide_eq_true h12
  have HN := ffst_next hk.2 (usF_0 hlt u1 u2 u3)
  refine .skip ?_
  refine .region ?_
  refine .sA (.add64 rfl rfl rfl (by omega) (by omega)) ?_
  refine .mA (.nil ?_)
  refine ⟨k + 1, ⟨by omega, HN⟩, (by dsimp only; omega), Sub.less ⟨(SLe.of_eq rfl), SLe.refl _, SLe.refl _, SLe.refl _, SLe.refl _, SLe.refl _, SLe.refl _, SLe.refl _, SLe.refl _, SLe.refl _, trivial⟩ (obs_e rfl)⟩
 replace h7 := of_decide_eq_false h7
 rw [List.length_map] at h7
 obtain rfl : k = us.length := by omega
 have ho : splO c id fresh title us = 0 := by rw [HO]; exact hk.2
 have hS := spl_of k0 ho
 have hul := us_len hS
 have hpl : (splX c id fresh title us).put.length ≤ 1048576 := by have h1 := puts_len (splL c id fresh us us.length) [(newT c id fresh title)]; have h2 := splL_len (c := c) (id := id) (fresh := fresh) (us := us) (n := us.length); simp at h1; show (putsF Thg.id [(newT c id fresh title)] (splL c id fresh us us.length)).length ≤ 1048576; omega
 refine .exit ?_
 refine .sr ?_
 refine .mA ?_
 refine .sA (.fieldAddr rfl fo_41_1 rfl) ?_
 refine .sA (.load rfl sc_3 rfl) ?_
 refine .mA ?_
 refine .sA (.fieldAddr rfl fo_41_4 rfl) ?_
 refine .sA (.load rfl sc_3 rfl) ?_
 refine .sA (.fieldAddr rfl fo_41_5 rfl) ?_
 refine .sA (.load rfl sc_3 rfl) ?_
 refine .sA (.fieldAddr rfl fo_41_6 rfl) ?_
 refine .sA (.load rfl sc_33 rfl) ?_
 refine .sA (.build rfl bu_41 (.cons rfl rfl (.cons rfl rfl (.cons rfl rfl (.cons rfl rfl (.cons rfl rfl (.cons rfl rfl .nil)))))) rfl) ?_
 refine .sA (.buildSlice rfl et_22 (.cons rfl rfl rfl .nil) rfl (by decide)) ?_
 refine .sA (.build rfl bu_35 (.cons rfl rfl .nil) rfl) ?_
 refine .alloc 303 rfl rfl rfl rfl zt_35 rfl rfl rfl ?_
 refine .store rfl rfl rfl sz_35 rfl (.head _) rfl rfl rfl (Nat.le_of_ble_eq_true rfl) (.nil ?_)
 refine .seq ?_
 refine .sr ?_
 refine .mA ?_
 refine .sA (.lenSl rfl et_33.ht rfl) ?_
 refine .mA (.nil ?_)
 refine .block ?_
 refine .loop (G := Nat) (fun j => Env.of [(129, .d (.v (.int .i64 (j : Int)))), (127, .d (.sl (us.map intD))), (128, .d (.v (.int .i64 ((us.map intD).length : Int)))), (1, .d (.v (.int .i64 id))), (2, .d (.v (.int .i64 fresh))), (4, .d (.sl (us.map intD))), (5, .d (.fp c.ds)), (10, .ptr 301 0), (23, .ptr 303 0)]) (fun j => [(303, .cells [.d (.sl ((putsF Thg.id [(newT c id fresh title)] (splL c id fresh us j)).map Thg.ds)), .d (.v (.slice none 0 0)), .d (.v (.slice none 0 0)), .d (.v (.slice none 0 0))]), (301, .cells [.d (.v (.slice none 0 0)), .d (.v (.slice none 0 0)), .d (.v (.slice none 0 0)), .d (.v (.slice none 0 0))])]) (fun j => j ≤ us.length) (fun j => us.length - j) 0 (Nat.zero_le _) (Sub.less ⟨(SLe.of_eq rfl), SLe.refl _, SLe.refl _, SLe.refl _, SLe.refl _, SLe.refl _, SLe.refl _, SLe.refl _, SLe.refl _, trivial⟩ (obs_e rfl)) ?_
 intro j hj
 refine .sr ?_
 refine .sA (.lss rfl rfl rfl) (.nil ?_)
 refine .seq ?_
 refine .cond rfl (fun h13 => ?_) (fun h13 => ?_)
 ·replace h13 := of_decide_eq_true h13
  rw [List.length_map] at h13
  have hjt : j < us.length := by omega
  have hq := splL_len (c := c) (id := id) (fresh := fresh) (us := us) (n := j)
  refine .skip ?_
  refine .seq ?_
  refine .block ?_
  refine .sr ?_
  refine .sA (.indexAddr rfl et_33 rfl rfl j rfl (at_lst hjt) rfl) ?_
  refine .sA (.load rfl sc_3 rfl) ?_
  refine .aA (.nil ?_)
  refine .sr ?_
  refine .sA (.loadAgg rfl ag_25 rfl rfl) ?_
  refine .mA ?_
  refine .sA (.call rfl (.cons (.rfl' rfl) (.cons (.rfl' rfl) .nil)) (c_thing c us[j] hl.two)) ?_
  refine .mA ?_
  refine .sA (.extract rfl rfl rfl) ?_
  refine .sA (.extract rfl rfl rfl) ?_
  refine .alloc 106 rfl rfl rfl rfl zt_41 rfl rfl rfl ?_
  refine .store rfl rfl rfl sz_41 rfl (.head _) rfl rfl rfl (Nat.le_of_ble_eq_true rfl) ?_
  refine .freezeCells 26 (ds := (getT c.things us[j]).ds) rfl (.head _) ?_
  refine .aA (.nil ?_)
  refine .drawG (fun k => (Nat.beq k 8) || (Nat.beq k 1)) (fun k => Nat.beq k 8) (fun k h => Bool.or_eq_true_iff.2 (.inl h)) (by kernel_rfl) (by kernel_rfl) (by kernel_rfl) ?_
  refine .step rfl rfl rfl (fun _ => AOp.fieldAddrP rfl fo_35_0 rfl) ?_
  refine .stepS rfl rfl rfl rfl (.loadP rfl sc_22 rfl (.head _) rfl) ?_
  refine .step rfl rfl rfl (fun _ => AOp.loadAgg rfl ag_41 rfl rfl) ?_
  refine .step rfl rfl rfl (fun _ => AOp.moveD rfl rfl) ?_
  refine .step rfl rfl rfl (fun _ => AOp.moveD rfl rfl) ?_
  refine .step rfl rfl rfl (fun _ => AOp.call rfl (.cons (.rfl' rfl) (.cons (.rfl' rfl) (.cons (.rfl' rfl) .nil))) (c_instead _ id fresh (hpk _))) ?_
  refine .step rfl rfl rfl (fun _ => AOp.call rfl (.cons (.rfl' rfl) (.cons (.rfl' rfl) .nil)) (c_putT (putsF Thg.id [(newT c id fresh title)] (splL c id fresh us j)) _ (by have h1 := puts_len (splL c id fresh us j) [(newT c id fresh title)]; simp at h1; omega))) ?_
  refine .step rfl rfl rfl (fun _ => AOp.fieldAddrP rfl fo_35_0 rfl) ?_
  refine .eff rfl rfl rfl (.store rfl rfl sz_22 rfl (.head _) rfl rfl rfl (Nat.le_of_ble_eq_true rfl)) ?_
  refine .nil ?_
  refine .region ?_
  refine .sA (.add64 rfl rfl rfl (by omega) (by omega)) ?_
  refine .mA (.nil ?_)
  refine ⟨j + 1, (by dsimp only; omega), (by dsimp only; omega), Sub.less ⟨(SLe.of_eq rfl), SLe.refl _, SLe.refl _, SLe.refl _, SLe.refl _, SLe.refl _, SLe.refl _, SLe.refl _, SLe.refl _, trivial⟩ (obs_e (by dsimp only; rw [psN_next hjt]; first | done | rfl))⟩
 replace h13 := of_decide_eq_false h13
 rw [List.length_map] at h13
 obtain rfl : j = us.length := by omega
 refine .exit ?_
 refine .seq ?_
 refine .sr ?_
 refine .sA (.loadAgg rfl ag_25 rfl rfl) ?_
 refine .sA (.loadPU rfl ag_35 rfl (.head _) rfl rfl) ?_
 -- wants the world
 refine .callT rfl rfl rfl hT maxT_stays rfl (.cons (.rfl' rfl) (.cons ⟨_, rfl, Le.one4⟩ .nil)) (c_rApply c (splX c id fresh title us) hc (splX_in hc k0 hf ht).ok hpl (by show 0 ≤ 1048576; decide)) ?_
 refine .mA ?_
 refine .sA (.extract rfl rfl rfl) ?_
 refine .sA (.extract rfl rfl rfl) ?_
 refine .sA (.extract rfl rfl rfl) ?_
 refine .alloc 107 rfl rfl rfl rfl zt_25 rfl rfl rfl ?_
 refine .alloc 108 rfl rfl rfl rfl zt_35 rfl rfl rfl ?_
 refine .store rfl rfl rfl sz_25 rfl (.tail _ (.head _)) rfl rfl rfl (Nat.le_of_ble_eq_true rfl) ?_
 refine .freezeCells 28 (ds := (applyR c (splX c id fresh title us)).1.ds) rfl (.tail _ (.head _)) ?_
 refine .store rfl rfl rfl sz_35 rfl (.head _) rfl rfl rfl (Nat.le_of_ble_eq_true rfl) ?_
 refine .freezeCells 29 (ds := (applyR c (splX c id fresh title us)).2.1.ds) rfl (.head _) ?_
 refine .aA (.nil ?_)
 refine .sr ?_
 refine .mA ?_
 refine .sA (.neq rfl rfl rfl) (.nil ?_)
 refine .cond rfl (fun h14 => ?_) (fun h14 => ?_)
 ·replace h14 := of_decide_eq_true h14
  rw [splV_f k0 ho (by rw [apply_same]; first | exact h14 | omega)]
  refine .sr ?_
  refine .sA (.build rfl bu_35 .nil rfl) ?_
  refine .mA ?_
  refine .store rfl rfl rfl sz_35 rfl (.tail _ (.head _)) rfl rfl rfl (Nat.le_of_ble_eq_true rfl) ?_
  refine .aA (.nil ?_)
  refine .ret ?_
  refine ⟨RetR.agg rfl (.tail _ (.head _)) ag_35 rfl (.cons .nil (.cons .nil (.cons .nil (.cons .nil .nil)))), RetD.eq rfl ?_, trivial⟩
  all_goals (first | rfl | (rw [apply_same]; first | done | rfl))
 replace h14 := of_decide_eq_false h14
 rw [splV_0 k0 ho (by rw [apply_same]; first | exact h14 | omega)]
 refine .skip ?_
 refine .sr ?_
 refine .sA (.loadPU rfl ag_35 rfl (.head _) rfl rfl) ?_
 refine .store rfl rfl rfl sz_35 rfl (.tail _ (.head _)) rfl rfl rfl (Nat.le_of_ble_eq_true rfl) ?_
 refine .aA (.nil ?_)
 refine .ret ?_
 refine ⟨RetR.agg rfl (.tail _ (.head _)) ag_35 rfl (.cons (by first | exact CellD.nil | exact CellD.d | exact CellD.eq (by simp) | (refine CellD.own (by first | exact .head _ | exact .tail _ (.head _)) ?_; rfl)) (.cons (by first | exact CellD.nil | exact CellD.d | exact CellD.eq (by simp) | (refine CellD.own (by first | exact .head _ | exact .tail _ (.head _)) ?_; rfl)) (.cons (by first | exact CellD.nil | exact CellD.d | exact CellD.eq (by simp) | (refine CellD.own (by first | exact .head _ | exact .tail _ (.head _)) ?_; rfl)) (.cons (by first | exact CellD.nil | exact CellD.d | exact CellD.eq (by simp) | (refine CellD.own (by first | exact .head _ | exact .tail _ (.head _)) ?_; rfl)) .nil)))), RetD.eq rfl ?_, trivial⟩
 all_goals (first | rfl | (rw [apply_same]; first | done | rfl))

end Go.Proofs.YtgldfnkbpopanaaGreatDoor

namespace Go.Proofs.YtgldfnkbpopanaaGreatDoor
open Go.RowKit Go.Shelf Go.Lib Go.Sort
set_option linter.unusedVariables false
set_option linter.unusedSimpArgs false

theorem rngK {α : Type} [Inhabited α] (n : Nat) (i : Nat) (h : i < n) : (Array.range n)[i]! = i := by
  rw [getElem!_pos (Array.range n) i (by simpa using h)]; simp
/-! ## A row of structs, by its elements' numbers -/
section
variable {α : Type} [Inhabited α]
theorem put_blockG (enc : α → List Value) (k : Nat) {w : World} {g n e : Nat} {cur : Array Value} {os : Array Obj} {zs : Array α} (h : w.heap[g]? = some (.cells cur e (0, 0))) :
    (Sort.grow (putRowK enc k (Sort.ahead w n) g 0 zs) os).heap[g]? = some (.cells (Sort.putCells id 0 (flatK enc k zs) cur) e (0, 0)) ∧
    (∀ j, j < w.heap.size → j ≠ g → (Sort.grow (putRowK enc k (Sort.ahead w n) g 0 zs) os).heap[j]? = w.heap[j]?) := by
  unfold putRowK
  have hg : g < w.heap.size := (Array.getElem?_eq_some_iff.1 h).1
  have hs : ∀ j, j < w.heap.size → (Sort.grow (Sort.putRow id (Sort.ahead w n) g 0 (flatK enc k zs)) os).heap[j]? = (Sort.putRow id (Sort.ahead w n) g 0 (flatK enc k zs)).heap[j]? := fun j hj => Sort.heap_grow_old _ _ (by rw [Sort.size_putRow]; exact hj)
  refine ⟨?_, fun j hj hne => ?_⟩
  · rw [hs g hg]
    show (w.heap.modify g _)[g]? = _
    rw [Array.getElem?_modify, if_pos rfl, h]
    rfl
  · rw [hs j hj]
    show (w.heap.modify g _)[j]? = _
    rw [Array.getElem?_modify, if_neg (Ne.symm hne)]
theorem put_cellsG (enc : α → List Value) (k : Nat) (zs : Array α) (cur : Array Value) (hl : zs.size * k ≤ cur.size) (i c : Nat) (hi : i < zs.size) (hc : c < k) : (Sort.putCells id 0 (flatK enc k zs) cur)[i * k + c]? = some ((enc zs[i]!)[c]!) := by
  have hk0 : 0 < k := by omega
  have hb : i * k + c < zs.size * k := by
    have := Nat.mul_le_mul_right k (show i + 1 ≤ zs.size by omega)
    rw [Nat.add_mul, Nat.one_mul] at this
    omega
  unfold Sort.putCells
  rw [Array.getElem?_mapIdx, Array.getElem?_eq_getElem (by omega), Option.map_some, if_pos ⟨Nat.zero_le _, by rw [size_flatK]; omega⟩]
  rw [Nat.sub_zero, get_flatK enc k zs _ hb]
  have e1 : (i * k + c) / k = i := by rw [Nat.mul_comm, Nat.mul_add_div hk0, Nat.div_eq_of_lt hc, Nat.add_zero]
  have e2 : (i * k + c) % k = c := by rw [Nat.mul_comm, Nat.mul_add_mod, Nat.mod_eq_of_lt hc]
  rw [e1, e2]
  rfl
end
theorem repSL_fn {F : Nat → Prop} {ρ : Nat → Value} {w : World} {vs : List Value} {id : Nat} {f : Fn} (h : RepSL F ρ w vs [.own id, .d (.clo f [])]) : vs = [ρ id, .func f #[] #[]] := by
  obtain ⟨v, u, rfl⟩ : ∃ v u, vs = [v, u] := by
    match vs, h.1 with
    | [v, u], _ => exact ⟨v, u, rfl⟩
  have h1 := h.2 0 (by simp) (by simp)
  have h2 := h.2 1 (by simp) (by simp)
  simp only [List.getElem_cons_zero, List.getElem_cons_succ] at h1 h2
  cases h1
  have h3 := repS_d h2
  cases h3 with
  | clo _ cs _ hl _ =>
    have : cs = [] := List.eq_nil_of_length_eq_zero hl
    subst this
    rfl

/-! ## Sorted lists, whatever the order -/
section
variable {α : Type} (cf : α → α → Int)
def sortF (l : List α) : List α := l.mergeSort fun x y => !(ltOf cf y x)
def DistF (l : List α) : Prop := l.Pairwise fun x y => ltOf cf x y = true ∨ ltOf cf y x = true
def RiseF (l : List α) : Prop := l.Pairwise fun x y => ltOf cf x y = true
variable {cf}
theorem sortF_perm (l : List α) : (sortF cf l).Perm l := List.mergeSort_perm l _
theorem sortF_pw (hO : SWO (ltOf cf)) (l : List α) : (sortF cf l).Pairwise fun x y => ltOf cf y x = false := by
  unfold sortF
  have := List.pairwise_mergeSort (le := fun x y => !(ltOf cf y x)) (fun a b c h1 h2 => by
    simp only [Bool.not_eq_true'] at h1 h2 ⊢
    exact hO.ntrans _ _ _ h2 h1) (fun a b => by
    rw [Bool.or_eq_true, Bool.not_eq_true', Bool.not_eq_true']
    cases h : ltOf cf b a with
    | false => exact .inl rfl
    | true => exact .inr (hO.asymmA h)) l
  exact this.imp fun h => by simpa using h
theorem distF_symm {l r : List α} (hp : l.Perm r) (h : DistF cf l) : DistF cf r := (hp.pairwise_iff (fun {a b} h => h.symm)).1 h
theorem riseF_of {l : List α} (hd : DistF cf l) (hs : l.Pairwise fun x y => ltOf cf y x = false) : RiseF cf l := by
  refine (List.Pairwise.and hd hs).imp fun {a b} ⟨h2, h3⟩ => ?_
  rcases h2 with h2 | h2
  · exact h2
  · rw [h3] at h2; cases h2
theorem sortF_rise (hO : SWO (ltOf cf)) {l : List α} (h : DistF cf l) : RiseF cf (sortF cf l) := riseF_of (distF_symm (sortF_perm l).symm h) (sortF_pw hO l)
theorem riseF_uniq (hO : SWO (ltOf cf)) {l r : List α} (h1 : RiseF cf l) (h2 : RiseF cf r) (hm : ∀ x, x ∈ l ↔ x ∈ r) : l = r := by
  have nd : ∀ {l : List α}, RiseF cf l → l.Nodup := fun h => h.imp fun {a b} hab e => by rw [e, hO.irrefl] at hab; cases hab
  have hp : l.Perm r := (List.perm_ext_iff_of_nodup (nd h1) (nd h2)).2 hm
  refine List.Perm.eq_of_pairwise (le := fun x y => ltOf cf x y = true) (fun a b _ _ h3 h4 => ?_) h1 h2 hp
  have := hO.asymmA h3
  rw [h4] at this
  cases this
theorem sortF_uniq (hO : SWO (ltOf cf)) {l r : List α} (hd : DistF cf l) (hp : r.Perm l) (hs : r.Pairwise fun x y => ltOf cf y x = false) : r = sortF cf l := by
  refine riseF_uniq hO (riseF_of (distF_symm hp.symm hd) hs) (sortF_rise hO hd) fun x => ?_
  rw [hp.mem_iff, (sortF_perm l).mem_iff]
end
/-- slices.SortFunc at structs of k cells, in whatever world. -/
structure SortT (P : Program) (sf k : Nat) : Prop where
  ent : ∀ args w, (callFunc sf args).run P w = .ok (.enter sf args) w
  nil : ∀ fv w, Calls P sf #[.slice none 0 0, fv] w fun e w' => e = .returned (.tuple #[]) ∧ w' = w
  all : ∀ (enc : Nat → List Value), (∀ x, (enc x).length = k) → (∀ x, ∀ v ∈ enc x, v.oneCell' = true) → ∀ (cf : Nat → Nat → Int), SWO (ltOf cf) → ∀ (g blk cap : Nat) (d : Array Nat) (w : World), (∀ args w, (callFunc g args).run P w = .ok (.enter g args) w) → CmpLays P g #[] enc k cf blk 0 d.size w → HoldsK enc k w blk 0 d → blk < w.heap.size → d.size < 4611686018427387904 →
    Calls P sf #[.slice (some ⟨blk, 0, none⟩) d.size cap, .func (.func g) #[] #[]] w fun e w' => e = .returned (.tuple #[]) ∧ ∃ d' n os, PermIn 0 d.size d d' ∧ SortedIn (ltOf cf) 0 d.size d' ∧ w' = sortWorldK enc k w blk 0 n d' os
section
variable {α : Type} [Inhabited α] (dz : α → List D) (k : Nat) (cf : α → α → Int)
/-- The elements' order, by a closure that looks at their cells. -/
def CmpT (P : Program) (g k : Nat) (dz : α → List D) (cf : α → α → Int) : Prop := ∀ (F : Nat → Prop) (w0 W : World) (x y : α) (xs ys : List Value), xs.length = k → ys.length = k → (∀ i (h : i < xs.length) (h' : i < (dz x).length), Rep F w0 xs[i] (dz x)[i]) → (∀ i (h : i < ys.length) (h' : i < (dz y).length), Rep F w0 ys[i] (dz y)[i]) →
  Calls P g #[.agg xs.toArray, .agg ys.toArray] W fun e w' => e = .returned (.int .i64 (cf x y)) ∧ ∃ q os', w' = grow (W.drewN q) os'
variable {dz k cf}
/-- The cells of the element with a number. -/
def encF (ys : Nat → Nat → Value) (zs : List Value) (k n i : Nat) : List Value := if i < n then (List.range k).map (ys i) else zs
def cfF (cf : α → α → Int) (xs : List α) (i j : Nat) : Int := cf (xs.getD i default) (xs.getD j default)
theorem swoF (hO : SWO (ltOf cf)) (xs : List α) : SWO (ltOf (cfF cf xs)) where
  irrefl x := hO.irrefl (xs.getD x default)
  trans x y z h1 h2 := hO.trans (xs.getD x default) (xs.getD y default) (xs.getD z default) h1 h2
  ntrans x y z h1 h2 := hO.ntrans (xs.getD x default) (xs.getD y default) (xs.getD z default) h1 h2
set_option maxHeartbeats 2000000 in
theorem sort_rcall {P : Program} {sf g : Nat} (T : SortT P sf k) (hO : SWO (ltOf cf)) (eg : ∀ args w, (callFunc g args).run P w = .ok (.enter g args) w) (hC : CmpT P g k dz cf) (hdz : ∀ x, (dz x).length = k)
    (zs : List Value) (hzl : zs.length = k) (hz1 : ∀ v ∈ zs, v.oneCell' = true) (hzr : ∀ F w i (h : i < zs.length) (h' : i < (dz default).length), Rep F w zs[i] (dz default)[i])
    (xs : List α) (hn : xs.length < 4611686018427387904) (hd : DistF cf xs) (e : Nat) : RCall P sf e k (xs.map dz) ((sortF cf xs).map dz) [.clo (.func g) []] (.tup []) := by
  intro id
  refine ⟨T.ent, fun F ρ B w vs hF hB hσ hv => ?_⟩
  obtain rfl := repSL_fn hv
  have hsl : (sortF cf xs).length = xs.length := (sortF_perm xs).length_eq
  have hl : (xs.map dz).length = xs.length := List.length_map ..
  obtain ⟨ys, h1, h2, h3, h4⟩ := hσ.ok _ (List.mem_singleton.2 rfl)
  rw [hl] at h1
  have h1' : w.ownsRow B e k (ρ id) xs.length (flat ys xs.length k) := h1
  have hcell : ∀ i, (hi : i < xs.length) → ∀ c, (hc : c < k) → (ys i c).oneCell' = true ∧ Rep F w (ys i c) ((dz xs[i])[c]'(by rw [hdz]; exact hc)) := fun i hi c hc => by
    have := h3 i (by rw [hl]; exact hi) c (by rw [List.getElem_map, hdz]; exact hc)
    simpa only [List.getElem_map] using this
  rcases h1'.2 with ⟨h5, h6⟩ | ⟨g0, cap, cur, h5, h6, h7, h8, h9, h10, h11⟩
  · have h6' := List.eq_nil_of_length_eq_zero h6
    subst h6'
    rw [h5]
    refine (T.nil (.func (.func g) #[] #[]) w).mono fun e' w' ⟨he, hw⟩ => ?_
    subst hw
    refine ⟨_, F, ρ, he, .tup [] [] rfl (fun i h1 => by simp at h1), fun _ hb => hb, fun _ hb => .inl hb, hF, Kept.refl _ _, ?_, ?_, fun _ _ => rfl⟩
    · have : (sortF cf ([] : List α)).map dz = ([] : List α).map dz := by unfold sortF; rw [List.mergeSort_nil]
      rw [this]
      exact hσ
    · intro p hp b hb
      have : p = (id, .row e k ((sortF cf ([] : List α)).map dz)) := by simpa using hp
      subst this
      rw [h5] at hb
      simp [blk] at hb
  · rw [h5]
    have hg : g0 < w.heap.size := (Array.getElem?_eq_some_iff.1 h7).1
    have hcur : ∀ i c, i < xs.length → c < k → cur[i * k + c]? = some (ys i c) := fun i c hi hc => by
      have hcc := row_cell h1' h5 h7 hi hc
      rwa [cell_of_row w g0 (i * k + c) cur e (0, 0) h7] at hcc
    have hdm : ∀ j, j < xs.length * k → j / k < xs.length ∧ j % k < k ∧ j / k * k + j % k = j := fun j hj => by
      have hk0 : 0 < k := Nat.pos_of_ne_zero fun h => by subst h; simp at hj
      exact ⟨(Nat.div_lt_iff_lt_mul hk0).2 hj, Nat.mod_lt _ hk0, by rw [Nat.mul_comm]; exact Nat.div_add_mod j k⟩
    have hE : ∀ i, (encF ys zs k xs.length i).length = k := fun i => by
      unfold encF
      split
      · simp
      · exact hzl
    have hEat : ∀ i c, i < xs.length → c < k → (encF ys zs k xs.length i)[c]! = ys i c := fun i c hi hc => by
      unfold encF
      rw [if_pos hi, getElem!_pos _ c (by simpa using hc)]
      simp
    have hH : HoldsK (encF ys zs k xs.length) k w g0 0 (Array.range xs.length) := by
      intro j hj
      have hj' : j < xs.length * k := by simpa using hj
      obtain ⟨hpi, hpc, hpe⟩ := hdm j hj'
      have h12 := hcur (j / k) (j % k) hpi hpc
      rw [hpe] at h12
      rw [Nat.zero_add, cell_of_row w g0 j cur e (0, 0) h7, h12, get_flatK _ k _ _ (by simpa using hj'), rngK (α := Nat) _ _ hpi]
      refine ⟨by rw [hEat _ _ hpi hpc]; rfl, ?_⟩
      unfold World.frozen?
      rw [h7]
      simp
    have hRep : ∀ x, ∀ i (h : i < (encF ys zs k xs.length x).length) (h' : i < (dz (xs.getD x default)).length), Rep F w (encF ys zs k xs.length x)[i] (dz (xs.getD x default))[i] := fun x i h h' => by
      have hi : i < k := by rw [hE] at h; exact h
      by_cases hx : x < xs.length
      · have e1 : (encF ys zs k xs.length x)[i] = ys x i := by
          have := hEat x i hx hi
          rwa [getElem!_pos _ i h] at this
        have e2 : xs.getD x default = xs[x] := by rw [List.getD_eq_getElem?_getD, List.getElem?_eq_getElem hx]; rfl
        simp only [e1, e2]
        exact (hcell x hx i hi).2
      · have e1 : encF ys zs k xs.length x = zs := if_neg hx
        have e2 : xs.getD x default = default := by rw [List.getD_eq_getElem?_getD, List.getElem?_eq_none (by omega)]; rfl
        simp only [e1, e2]
        exact hzr F w i (by rw [hzl]; exact hi) _
    have hL : CmpLays P g #[] (encF ys zs k xs.length) k (cfF cf xs) g0 0 (Array.range xs.length).size w := fun m os dk _ x y =>
      hC F w _ (xs.getD x default) (xs.getD y default) _ _ (hE x) (hE y) (hRep x) (hRep y)
    have h := T.all (encF ys zs k xs.length) hE
      (fun x v hv => by
        unfold encF at hv
        by_cases hx : x < xs.length
        · rw [if_pos hx] at hv
          obtain ⟨c, hc, rfl⟩ := List.mem_map.1 hv
          exact (hcell x hx c (List.mem_range.1 hc)).1
        · rw [if_neg hx] at hv
          exact hz1 v hv) (cfF cf xs) (swoF hO xs) g g0 cap (Array.range xs.length) w eg hL hH hg (by simpa using hn)
    rw [show (Array.range xs.length).size = xs.length by simp] at h
    refine h.mono fun e' w' ⟨he, d', n, os, hp, hs, hw⟩ => ?_
    obtain ⟨hp1, _, hp3⟩ := hp
    have hds : d'.size = xs.length := by rw [hp1]; simp
    have hperm : d'.toList.Perm (List.range xs.length) := by
      have e1 : d'.extract 0 xs.length = d' := by rw [← hds]; exact Array.extract_size
      have e2 : (Array.range xs.length).extract 0 xs.length = Array.range xs.length := by
        have := Array.extract_size (xs := Array.range xs.length)
        rwa [show (Array.range xs.length).size = xs.length by simp] at this
      rw [e1, e2] at hp3
      simpa using hp3
    have hlt : ∀ i, i < xs.length → d'[i]! < xs.length := fun i hi => by
      rw [getElem!_pos d' i (by omega)]
      have : d'[i] ∈ d'.toList := by rw [Array.mem_toList_iff]; exact Array.getElem_mem _
      exact List.mem_range.1 (hperm.mem_iff.1 this)
    have hsort : (d'.toList.map fun i => xs.getD i default) = sortF cf xs := by
      refine sortF_uniq hO hd ?_ ?_
      · have h12 := hperm.map fun i => xs.getD i default
        have h13 : (List.range xs.length).map (fun i => xs.getD i default) = xs := by
          apply List.ext_getElem
          · simp
          · intro i a1 a2
            simp [List.getD_eq_getElem?_getD, List.getElem?_eq_getElem a2]
        rwa [h13] at h12
      · rw [List.pairwise_map, List.pairwise_iff_getElem]
        intro i j hi hj hij
        have hj' : j < xs.length := by rw [← hds]; simpa using hj
        have h12 := hs i j (Nat.zero_le _) hij (by rw [← hds]; simpa using hj)
        rw [getElem!_pos d' i (by omega), getElem!_pos d' j (by omega)] at h12
        have h13 : ltOf cf (xs.getD d'[j] default) (xs.getD d'[i] default) = false := h12
        simpa using h13
    have hat : ∀ i, (hi : i < xs.length) → (sortF cf xs)[i]'(by rw [hsl]; exact hi) = xs[d'[i]!]'(hlt i hi) := fun i hi => by
      have h12 : (d'.toList.map fun i => xs.getD i default)[i]? = some (xs[d'[i]!]'(hlt i hi)) := by
        rw [List.getElem?_map, Array.getElem?_toList, Array.getElem?_eq_getElem (by omega)]
        have := hlt i hi
        rw [getElem!_pos d' i (by omega)] at this
        simp only [Option.map_some, List.getD_eq_getElem?_getD, List.getElem?_eq_getElem this, Option.getD_some]
        congr 1
        simp [getElem!_pos d' i (by omega)]
      rw [hsort, List.getElem?_eq_getElem (by rw [hsl]; exact hi)] at h12
      exact Option.some.inj h12
    have hw2 : w' = Sort.grow (putRowK (encF ys zs k xs.length) k (Sort.ahead w n) g0 0 d') os := hw
    obtain ⟨hb1, hb2⟩ := put_blockG (encF ys zs k xs.length) k (n := n) (os := os) (zs := d') h7
    have hsz : w.heap.size ≤ w'.heap.size := by rw [hw2, Sort.size_grow, size_putRowK]; exact Nat.le_add_right _ _
    have hob : ownB [(id, Ob.row e k (xs.map dz))] ρ g0 := ⟨_, List.mem_singleton.2 rfl, by rw [h5]; rfl⟩
    have hnF : ¬ F g0 := h4 g0 (by rw [h5]; rfl)
    have hkeep : ∀ b, F b → w'.heap[b]? = w.heap[b]? := fun b hb => by
      rw [hw2]
      exact hb2 b (hF b hb) (fun e => hnF (e ▸ hb))
    refine ⟨_, F, ρ, he, .tup [] [] rfl (fun i h1 => by simp at h1), fun _ hb => hb, fun _ hb => .inl hb, fun b hb => Nat.lt_of_lt_of_le (hF b hb) hsz, ⟨by rw [hw2]; rfl, by rw [hw2]; rfl, by rw [hw2]; rfl, hsz, fun k hk hne => ?_⟩, ?_, ?_, fun _ _ => rfl⟩
    · rw [hw2]
      exact hb2 k hk (fun he => hne (.inr (he ▸ hob)))
    · refine ⟨fun p hp => ?_, fun p hp q hq hne => ?_, fun p hp q hq _ => ?_⟩
      · have : p = (id, .row e k ((sortF cf xs).map dz)) := by simpa using hp
        subst this
        have hl2 : ((sortF cf xs).map dz).length = xs.length := by rw [List.length_map, hsl]
        have hc2 : ∀ i c, i < xs.length → c < k → (Sort.putCells _root_.id 0 (flatK (encF ys zs k xs.length) k d') cur)[i * k + c]? = some (ys d'[i]! c) := fun i c hi hc => by
          rw [put_cellsG (encF ys zs k xs.length) k d' cur (by rw [hds, h10]; exact Nat.mul_le_mul_right k h8) i c (by omega) hc, hEat _ _ (hlt i hi) hc]
        refine ⟨fun i c => ys d'[i]! c, ?_, fun i hi => by rw [List.getElem_map, hdz], fun i hi c hc => ?_, fun g' hg' => ?_⟩
        · rw [hl2]
          refine ⟨flat_length _ _ _, .inr ⟨g0, cap, _, h5, h6, by rw [hw2]; exact hb1, h8, h9, by simp [Sort.putCells, h10], ?_⟩⟩
          apply List.ext_getElem?
          intro p
          by_cases hp : p < xs.length * k
          · obtain ⟨hpi, hpc, hpe⟩ := hdm p hp
            have := flatten_get (fun i c => ys d'[i]! c) k xs.length (p / k) (p % k) hpi hpc
            rw [hpe] at this
            have h12 := hc2 (p / k) (p % k) hpi hpc
            rw [hpe] at h12
            rw [this, List.getElem?_take, if_pos hp, Array.getElem?_toList, h12]
          · rw [List.getElem?_eq_none (by rw [List.length_take]; omega)]
            exact (List.getElem?_eq_none (by have := flat_length (fun i c => ys d'[i]! c) xs.length k; unfold flat at this; rw [this]; omega)).symm
        · rw [hl2] at hi
          have hc5 : c < k := by rw [List.getElem_map, hdz] at hc; exact hc
          have h12 := hcell d'[i]! (hlt i hi) c hc5
          refine ⟨h12.1, ?_⟩
          simp only [List.getElem_map]
          have h13 := h12.2.mono (F' := F) (w' := w') (fun _ h => h) hkeep
          have e1 := hat i hi
          simp only [e1]
          exact h13
        · rw [h5] at hg'
          simp [blk] at hg'
          subst hg'
          exact hnF
      · have h1 : p = (id, .row e k ((sortF cf xs).map dz)) := by simpa using hp
        have h2 : q = (id, .row e k ((sortF cf xs).map dz)) := by simpa using hq
        rw [h1, h2] at hne
        exact absurd rfl hne
      · have h1 : p = (id, .row e k ((sortF cf xs).map dz)) := by simpa using hp
        have h2 : q = (id, .row e k ((sortF cf xs).map dz)) := by simpa using hq
        rw [h1, h2]
    · intro p hp g' hg'
      have : p = (id, .row e k ((sortF cf xs).map dz)) := by simpa using hp
      subst this
      exact .inr ⟨_, List.mem_singleton.2 rfl, hg'⟩
end
end Go.Proofs.YtgldfnkbpopanaaGreatDoor

namespace Go.Proofs
open Go.Shelf
def Tryz.sortThing_ren : Go.Shelf.Ren := ⟨fun | 6 => 57 | 15 => 102 | 14 => 101 | 28 => 137 | 29 => 138 | 20 => 129 | 21 => 130 | 22 => 131 | 23 => 132 | 24 => 133 | 25 => 134 | 26 => 135 | 27 => 136 | 46 => 157 | 47 => 158 | 48 => 159 | 49 => 160 | 50 => 161 | 57 => 178 | n => n, fun | 22 => 22 | 24 => 41 | 25 => 104 | 3 => 3 | 39 => 145 | 0 => 0 | 53 => 169 | 55 => 171 | 4 => 4 | 46 => 163 | 45 => 162 | 50 => 95 | 5 => 5 | 9 => 9 | 66 => 182 | 70 => 75 | 76 => 194 | 77 => 195 | n => n, fun | n => n⟩
theorem Tryz.sortThing : Go.Proofs.SlLaysF0.n6 Tryz.prog Tryz.sortThing_ren := {
  mixed := by kernel_rfl
  f6 := ⟨Tryz.f57.name, by decide, Tryz.func57.trans (congrArg some (by kernel_rfl))⟩
  f14 := ⟨Tryz.f101.name, by decide, Tryz.func101.trans (congrArg some (by kernel_rfl))⟩
  f15 := Tryz.func102.trans (congrArg some (by kernel_rfl))
  f20 := ⟨Tryz.f129.name, by decide, Tryz.func129.trans (congrArg some (by kernel_rfl))⟩
  f21 := ⟨Tryz.f130.name, by decide, Tryz.func130.trans (congrArg some (by kernel_rfl))⟩
  f22 := ⟨Tryz.f131.name, by decide, Tryz.func131.trans (congrArg some (by kernel_rfl))⟩
  f23 := ⟨Tryz.f132.name, by decide, Tryz.func132.trans (congrArg some (by kernel_rfl))⟩
  f24 := ⟨Tryz.f133.name, by decide, Tryz.func133.trans (congrArg some (by kernel_rfl))⟩
  f25 := ⟨Tryz.f134.name, by decide, Tryz.func134.trans (congrArg some (by kernel_rfl))⟩
  f26 := ⟨Tryz.f135.name, by decide, Tryz.func135.trans (congrArg some (by kernel_rfl))⟩
  f27 := ⟨Tryz.f136.name, by decide, Tryz.func136.trans (congrArg some (by kernel_rfl))⟩
  f28 := Tryz.func137.trans (congrArg some (by kernel_rfl))
  f29 := Tryz.func138.trans (congrArg some (by kernel_rfl))
  f46 := ⟨Tryz.f157.name, by decide, Tryz.func157.trans (congrArg some (by kernel_rfl))⟩
  f47 := Tryz.func158.trans (congrArg some (by kernel_rfl))
  f48 := Tryz.func159.trans (congrArg some (by kernel_rfl))
  f49 := ⟨Tryz.f160.name, by decide, Tryz.func160.trans (congrArg some (by kernel_rfl))⟩
  f50 := ⟨Tryz.f161.name, by decide, Tryz.func161.trans (congrArg some (by kernel_rfl))⟩
  f57 := ⟨Tryz.f178.name, by decide, Tryz.func178.trans (congrArg some (by kernel_rfl))⟩
  t0 := Tryz.underlying0
  a0 := Tryz.isAgg0
  z0 := Tryz.sizeOf0
  v0 := Tryz.zeroValue0
  t3 := Tryz.underlying3
  a3 := Tryz.isAgg3
  z3 := Tryz.sizeOf3
  v3 := Tryz.zeroValue3
  t4 := Tryz.underlying4
  a4 := Tryz.isAgg4
  z4 := Tryz.sizeOf4
  v4 := Tryz.zeroValue4
  t5 := Tryz.underlying5
  a5 := Tryz.isAgg5
  z5 := Tryz.sizeOf5
  v5 := Tryz.zeroValue5
  t9 := Tryz.underlying9
  a9 := Tryz.isAgg9
  z9 := Tryz.sizeOf9
  v9 := Tryz.zeroValue9
  t22 := Tryz.underlying22
  a22 := Tryz.isAgg22
  z22 := Tryz.sizeOf22
  v22 := Tryz.zeroValue22
  t25 := Tryz.underlying104
  a25 := Tryz.isAgg104
  z25 := Tryz.sizeOf104
  v25 := Tryz.zeroValue104
  t39 := Tryz.underlying145
  a39 := Tryz.isAgg145
  z39 := Tryz.sizeOf145
  v39 := Tryz.zeroValue145
  t45 := Tryz.underlying162
  a45 := Tryz.isAgg162
  z45 := Tryz.sizeOf162
  v45 := Tryz.zeroValue162
  t46 := Tryz.underlying163
  a46 := Tryz.isAgg163
  z46 := Tryz.sizeOf163
  v46 := Tryz.zeroValue163
  t50 := Tryz.underlying95
  a50 := Tryz.isAgg95
  z50 := Tryz.sizeOf95
  v50 := Tryz.zeroValue95
  t53 := Tryz.underlying169
  a53 := Tryz.isAgg169
  z53 := Tryz.sizeOf169
  v53 := Tryz.zeroValue169
  t55 := Tryz.underlying171
  a55 := Tryz.isAgg171
  z55 := Tryz.sizeOf171
  v55 := Tryz.zeroValue171
  t66 := Tryz.underlying182
  a66 := Tryz.isAgg182
  z66 := Tryz.sizeOf182
  v66 := Tryz.zeroValue182
  t70 := Tryz.underlying75
  a70 := Tryz.isAgg75
  z70 := Tryz.sizeOf75
  v70 := Tryz.zeroValue75
  t76 := Tryz.underlying194
  a76 := Tryz.isAgg194
  z76 := Tryz.sizeOf194
  v76 := Tryz.zeroValue194
  t77 := Tryz.underlying195
  a77 := Tryz.isAgg195
  z77 := Tryz.sizeOf195
  v77 := Tryz.zeroValue195 }
def Tryz.cmpI_ren : Go.Shelf.Ren := ⟨fun | 5 => 36 | 7 => 79 | n => n, fun | 22 => 3 | 3 => 3 | 4 => 4 | n => n, fun | n => n⟩
theorem Tryz.cmpI : Go.Proofs.SlLaysC2.n5 Tryz.prog Tryz.cmpI_ren := {
  mixed := by kernel_rfl
  f5 := ⟨Tryz.f36.name, by decide, Tryz.func36.trans (congrArg some (by kernel_rfl))⟩
  f7 := ⟨Tryz.f79.name, by decide, Tryz.func79.trans (congrArg some (by kernel_rfl))⟩
  t3 := Tryz.underlying3
  a3 := Tryz.isAgg3
  z3 := Tryz.sizeOf3
  v3 := Tryz.zeroValue3
  t4 := Tryz.underlying4
  a4 := Tryz.isAgg4
  z4 := Tryz.sizeOf4
  v4 := Tryz.zeroValue4
  t22 := Tryz.underlying3
  a22 := Tryz.isAgg3
  z22 := Tryz.sizeOf3
  v22 := Tryz.zeroValue3 }
end Go.Proofs

namespace Go.Proofs.YtgldfnkbpopanaaGreatDoor
open Go.RowKit Go.Shelf Go.Lib Go.Sort
set_option linter.unusedVariables false
set_option linter.unusedSimpArgs false

def cmpH (x y : Thg) : Int := if x.id < y.id then -1 else if y.id < x.id then 1 else 0
theorem ltOf_H (x y : Thg) : ltOf cmpH x y = decide (x.id < y.id) := by
  unfold ltOf cmpH
  by_cases h : x.id < y.id
  · simp [h]
  · by_cases h2 : y.id < x.id <;> simp [h, h2]
theorem swo_H : SWO (ltOf cmpH) where
  irrefl x := by rw [ltOf_H]; simp
  trans x y z h1 h2 := by rw [ltOf_H] at *; simp at *; omega
  ntrans x y z h1 h2 := by rw [ltOf_H] at *; simp at *; omega
theorem cmpH_int (a b : Int) (W : World) : Calls Tryz.prog 36 #[.int .i64 a, .int .i64 b] W fun e w' => e = .returned (.int .i64 (if a < b then -1 else if b < a then 1 else 0)) ∧ w' = W := AnyG.cmp_Compare_int Tryz.cmpI a b W
set_option maxHeartbeats 2000000 in
set_option maxRecDepth 1000000 in
theorem cmpH_any (x1 y1 : Int) (x2 x3 x4 x5 x6 x7 y2 y3 y4 y5 y6 y7 : Value) (W : World) : Calls Tryz.prog 58 #[.agg #[.int .i64 x1, x2, x3, x4, x5, x6, x7], .agg #[.int .i64 y1, y2, y3, y4, y5, y6, y7]] W fun e w' => e = .returned (.int .i64 (if x1 < y1 then -1 else if y1 < x1 then 1 else 0)) ∧ ∃ q os', w' = grow (W.drewN q) os' := by
  have hcon := fun W' => cmpH_int x1 y1 W'
  generalize (if x1 < y1 then -1 else if y1 < x1 then 1 else 0 : Int) = r at *
  go_enter Tryz.func58, Tryz.ntmps58
  go_wp2_with (go_at_call 36; refine (hcon _).mono ?_; rintro e w' ⟨rfl, rfl⟩)
  all_goals go_ret
  all_goals exact ⟨rfl, 0, _, by rw [alloc_eq_grow, alloc_eq_grow, grow_grow]; rfl⟩
theorem len7 {l : List Value} (h : l.length = 7) : ∃ a b c d e f g, l = [a, b, c, d, e, f, g] := by
  match l, h with
  | [a, b, c, d, e, f, g], _ => exact ⟨a, b, c, d, e, f, g, rfl⟩
theorem cmpT_H : CmpT Tryz.prog 58 7 Thg.ds cmpH := fun F w0 W x y xs ys h1 h2 h3 h4 => by
  obtain ⟨a1, a2, a3, a4, a5, a6, a7, rfl⟩ := len7 h1
  obtain ⟨b1, b2, b3, b4, b5, b6, b7, rfl⟩ := len7 h2
  have e1 : a1 = .int .i64 x.id := rep_v (h3 0 (Nat.zero_lt_succ _) (Nat.zero_lt_succ _))
  have e2 : b1 = .int .i64 y.id := rep_v (h4 0 (Nat.zero_lt_succ _) (Nat.zero_lt_succ _))
  subst e1; subst e2
  exact cmpH_any _ _ _ _ _ _ _ _ _ _ _ _ _ _ W
theorem sortT_H : SortT Tryz.prog 57 7 where
  ent := enters_of Tryz.func57 (by kernel_rfl) rfl
  nil fv w := AnyF.slices_SortFunc_none Tryz.sortThing none 0 fv w
  all enc hk h1 cf hO g blk cap d w eg hC hH hb hn := AnyQ.slices_SortFunc Tryz.sortThing 7 (fun w => (AggT.of (by kernel_rfl) : AggT Tryz.prog 41 7).agg w) (fun w => (AggT.of (by kernel_rfl) : AggT Tryz.prog 41 7).size w) enc hk h1 cf hO g #[] blk 0 cap d w eg hC hH hb hn
theorem c_sortH (xs : List Thg) (hn : xs.length < 4611686018427387904) (hd : DistF cmpH xs) (e : Nat) : RCall Tryz.prog 57 e 7 (xs.map Thg.ds) ((sortF cmpH xs).map Thg.ds) [.clo (.func 58) []] (.tup []) :=
 sort_rcall sortT_H swo_H (enters_of Tryz.func58 (by kernel_rfl) rfl) cmpT_H (fun _ => rfl) [.int .i64 0, .int .i64 0, .string ⟨#[]⟩, .string ⟨#[]⟩, .int .i64 0, .int .i64 0, .slice none 0 0] rfl (by simp [Value.oneCell']) (fun F w i h h' => by
  have hi : i < 7 := h
  match i, hi with
  | 0, _ => exact .v _
  | 1, _ => exact .v _
  | 2, _ => exact .v _
  | 3, _ => exact .v _
  | 4, _ => exact .v _
  | 5, _ => exact .v _
  | 6, _ => exact .nil) xs hn hd e
section
variable {c : Ctl} {id fresh : Int} {title : ByteArray} {us : List Int}
theorem spl_dist (h : ffst (usF c id us) us.length = 0) (hf : thereB c.things fresh = false) : DistF cmpH (newT c id fresh title :: splL c id fresh us us.length) := by
  have r := spl_ris (fresh := fresh) h
  refine List.pairwise_cons.2 ⟨fun t ht => ?_, ?_⟩
  · have hne : t.id ≠ fresh := fun he => by
      have h2 : t.id ∈ us := by rw [← spl_ids (fresh := fresh) h]; exact List.mem_map.2 ⟨t, ht, rfl⟩
      obtain ⟨k, hk, hke⟩ := List.mem_iff_getElem.1 h2
      have h3 := (us_0 hk (ffst_all _ h k hk)).1
      rw [hke, he, hf] at h3; cases h3
    rw [ltOf_H, ltOf_H]
    have e : (newT c id fresh title).id = fresh := rfl
    rw [e]
    rcases Int.lt_or_gt_of_ne hne with h3 | h3
    · exact .inr (decide_eq_true h3)
    · exact .inl (decide_eq_true h3)
  · exact List.Pairwise.imp (fun {a b} hab => .inl (by rw [ltOf_H]; exact decide_eq_true hab)) r
theorem spl_sorted (h : ffst (usF c id us) us.length = 0) (hf : thereB c.things fresh = false) : sortF cmpH (newT c id fresh title :: splL c id fresh us us.length) = putsF Thg.id [newT c id fresh title] (splL c id fresh us us.length) :=
  spl_sort h hf (List.Pairwise.imp (fun {a b} hab => by rw [ltOf_H] at hab; exact of_decide_eq_true hab) (sortF_rise swo_H (spl_dist h hf))) (sortF_perm _)
end
end Go.Proofs.YtgldfnkbpopanaaGreatDoor

namespace Go.Proofs.YtgldfnkbpopanaaGreatDoor
open Go.RowKit
set_option linter.unusedVariables false

/-! Types. -/
namespace TyUH
end TyUH
open TyH3 TyH5 TyJ3 TyJ4 TyJ5 TyKA TyKB TyKC TyKD TyKE TyKF TyKG TyLA TyLB TyLC TyLD TyLE TyLF TyLG TyLH TyLI TyLJ TyLK TyLL TyLM TyLN TyLO TyLP TyLQ TyLR TyLS TyLT TyLU TyLV TyLW TyLX TyLY TyMA TyNA TyNC TyNE TyKH TyNF TyUC TyKI TyUA TyUD TyUB TyUE TyUH

theorem SLe.fnS (f : Nat) : SLe (.d (.v (.func (.func f) #[] #[]))) (.d (.clo (.func f) [])) := fun F ρ w x h => by
  cases repS_v h
  exact .d (.clo _ [] [] rfl (fun i h => absurd h (Nat.not_lt_zero i)))

set_option maxRecDepth 100000 in
set_option maxHeartbeats 4000000 in
theorem c_pSplit (c : Ctl) (id fresh : Int) (title : ByteArray) (us : List Int) (hc : CtlOk c) (hi : i64 id) (hf : i64 fresh) (ht : title.size ≤ 9223372036854775807) (hu : ∀ n ∈ us, i64 n) : ACallT Tryz.prog MaxT 22 [.agg c.ds, .v (.int .i64 id), .v (.int .i64 fresh), .v (.string title), .sl (us.map intD)] (.tup [.agg (splV c id fresh title us).1.ds, .v (.int .i64 (splV c id fresh title us).2)]) := by
 refine acall_ofRT (n := 86) (ds' := [.agg (splV c id fresh title us).1.ds, .v (.int .i64 (splV c id fresh title us).2)]) Tryz.func22 rfl (by kernel_rfl) rfl [.cell 10 35, .tmp 11] rfl rfl ?_
 intro B w0 F0 hT
 refine .bound 4 rfl (fun hbd4 => ?_)
 rw [List.length_map] at hbd4
 refine .sr ?_
 refine .sA (.box rfl rfl rfl) ?_
 refine .alloc 301 rfl rfl rfl rfl zt_35 rfl rfl rfl ?_
 refine .aA (.nil ?_)
 refine .seq ?_
 refine .sr ?_
 refine .sA (.loadAgg rfl ag_25 rfl rfl) ?_
 -- wants the world
 refine .callT rfl rfl rfl hT maxT_stays rfl (.cons (.rfl' rfl) .nil) (c_pChk c hc) ?_
 refine .aA (.nil ?_)
 refine .sr ?_
 refine .mA ?_
 refine .sA (.neq rfl rfl rfl) (.nil ?_)
 refine .cond rfl (fun h1 => ?_) (fun h1 => ?_)
 ·replace h1 := of_decide_eq_true h1
  rw [splV_c (by first | exact h1 | omega)]
  refine .sr ?_
  refine .sA (.build rfl bu_35 .nil rfl) ?_
  refine .mA ?_
  refine .store rfl rfl rfl sz_35 rfl (.head _) rfl rfl rfl (Nat.le_of_ble_eq_true rfl) ?_
  refine .aA (.nil ?_)
  refine .ret ?_
  refine ⟨RetR.agg rfl (.head _) ag_35 rfl (.cons .nil (.cons .nil (.cons .nil (.cons .nil .nil)))), RetD.eq rfl ?_, trivial⟩
  all_goals (rfl)
 replace h1 := of_decide_eq_false h1
 have k0 : chkF c = 0 := (by first | exact h1 | omega)
 have HC := catOk k0
 have hl := HC.lim
 have hl1 := hl.1
 have hl2 := hl.2
 have hr := HC.ris
 have hpk : ∀ n, (getT c.things n).parts.length ≤ 1048576 := fun n => Nat.le_trans (HC.parts n) (by decide)
 refine .skip ?_
 refine .sr ?_
 refine .sA (.loadAgg rfl ag_25 rfl rfl) ?_
 refine .sA (.call rfl (.cons (.rfl' rfl) .nil) (c_idxOf c hl hc hr)) ?_
 refine .aA (.nil ?_)
 refine .seq ?_
 refine .sr ?_
 refine .sA (.loadAgg rfl ag_25 rfl rfl) ?_
 refine .mA ?_
 refine .mA ?_
 refine .mA ?_
 refine .mA ?_
 refine .mA ?_
 -- wants the world
 refine .callT rfl rfl rfl hT maxT_stays rfl (.cons (.rfl' rfl) (.cons (.rfl' rfl) (.cons (.rfl' rfl) (.cons (.rfl' rfl) (.cons (.rfl' rfl) (.cons (.rfl' rfl) .nil)))))) (c_ckS c id fresh title us hc hr hi hf ht hu) ?_
 refine .aA (.nil ?_)
 refine .sr ?_
 refine .mA ?_
 refine .sA (.neq rfl rfl rfl) (.nil ?_)
 refine .cond rfl (fun h2 => ?_) (fun h2 => ?_)
 ·replace h2 := of_decide_eq_true h2
  rw [splV_o k0 rfl (by first | exact h2 | omega)]
  refine .sr ?_
  refine .sA (.build rfl bu_35 .nil rfl) ?_
  refine .mA ?_
  refine .store rfl rfl rfl sz_35 rfl (.head _) rfl rfl rfl (Nat.le_of_ble_eq_true rfl) ?_
  refine .aA (.nil ?_)
  refine .ret ?_
  refine ⟨RetR.agg rfl (.head _) ag_35 rfl (.cons .nil (.cons .nil (.cons .nil (.cons .nil .nil)))), RetD.eq rfl ?_, trivial⟩
  all_goals (rfl)
 replace h2 := of_decide_eq_false h2
 have ho : splO c id fresh title us = 0 := (by first | exact h2 | omega)
 have hS := spl_of k0 ho
 have hul := us_len hS
 refine .skip ?_
 refine .sr ?_
 refine .mA ?_
 refine .mA ?_
 refine .sA (.lookupF (key := kI id) rfl mt_idx kd_int zt_thg zd_thg rfl rfl (DExact.v _) (kI_ok hi) (idxM_keys hc.things) (get_idx hr.nk _)) ?_
 refine .sA (.call rfl (.cons (.rfl' rfl) .nil) (c_own _ (hpk id))) ?_
 refine .alloc 302 rfl rfl rfl rfl zt_41 rfl rfl rfl ?_
 refine .store rfl rfl rfl sz_41 rfl (.head _) rfl rfl rfl (Nat.le_of_ble_eq_true rfl) (.nil ?_)
 refine .sr ?_
 refine .mA ?_
 refine .mA ?_
 refine .sA (.fieldAddrP rfl fo_41_0 rfl) ?_
 refine .store rfl rfl rfl sz_3 rfl (.head _) rfl rfl rfl (Nat.le_of_ble_eq_true rfl) ?_
 refine .sA (.fieldAddrP rfl fo_41_2 rfl) ?_
 refine .store rfl rfl rfl sz_9 rfl (.head _) rfl rfl rfl (Nat.le_of_ble_eq_true rfl) ?_
 refine .sA (.fieldAddrP rfl fo_41_3 rfl) ?_
 refine .store rfl rfl rfl sz_9 rfl (.head _) rfl rfl rfl (Nat.le_of_ble_eq_true rfl) (.nil ?_)
 refine .sr ?_
 refine .sA (.loadPU rfl ag_41 rfl (.head _) rfl rfl) ?_
 refine .buildS 201 rfl rfl rfl rfl et_22 rfl rfl rfl rfl rfl ?_
 refine .build1P (s0 := .own 201) 199 rfl rfl rfl rfl bu_35 rfl rfl (.own (.head _)) rfl rfl rfl rfl ?_
 refine .alloc 303 rfl rfl rfl rfl zt_35 rfl rfl rfl ?_
 refine .eff rfl rfl (.storeVal (ss' := [.own 201, .d (.v (.slice none 0 0)), .d (.v (.slice none 0 0)), .d (.v (.slice none 0 0))]) rfl rfl sz_35 rfl (.head _) rfl (.tail _ (.head _)) rfl (Nat.le_refl 4)) (.nil ?_)
 refine .seq ?_
 refine .sr ?_
 refine .mA ?_
 refine .sA (.lenSl rfl et_33.ht rfl) ?_
 refine .mA (.nil ?_)
 refine .block ?_
 refine .loop (G := Nat) (fun k => Env.of [(55, .d (.v (.int .i64 (k : Int)))), (53, .d (.sl (us.map intD))), (54, .d (.v (.int .i64 ((us.map intD).length : Int)))), (1, .d (.v (.int .i64 id))), (2, .d (.v (.int .i64 fresh))), (5, .d (.fp c.ds)), (10, .ptr 301 0), (13, .d (.fm (idxM c.things))), (16, .ptr 303 0)]) (fun k => [(201, .row 41 7 (((newT c id fresh title) :: splL c id fresh us k).map Thg.ds)), (303, .cells [.own 201, .d (.v (.slice none 0 0)), .d (.v (.slice none 0 0)), .d (.v (.slice none 0 0))]), (301, .cells [.d (.v (.slice none 0 0)), .d (.v (.slice none 0 0)), .d (.v (.slice none 0 0)), .d (.v (.slice none 0 0))])]) (fun k => k ≤ us.length) (fun k => us.length - k) 0 (Nat.zero_le _) (Sub.less ⟨(SLe.of_eq rfl), SLe.refl _, SLe.refl _, SLe.refl _, SLe.refl _, SLe.refl _, SLe.refl _, SLe.refl _, SLe.refl _, trivial⟩ (in3 (.tail _ (.tail _ (.head _))) (.head _) (.tail _ (.tail _ (.tail _ (.tail _ (.head _))))))) ?_
 intro k hk
 refine .sr ?_
 refine .sA (.lss rfl rfl rfl) (.nil ?_)
 refine .seq ?_
 refine .cond rfl (fun h3 => ?_) (fun h3 => ?_)
 ·replace h3 := of_decide_eq_true h3
  rw [List.length_map] at h3
  have hlt : k < us.length := by omega
  have hq := splL_len (c := c) (id := id) (fresh := fresh) (us := us) (n := k)
  refine .skip ?_
  refine .seq ?_
  refine .block ?_
  refine .sr ?_
  refine .sA (.indexAddr rfl et_33 rfl rfl k rfl (at_lst hlt) rfl) ?_
  refine .sA (.load rfl sc_3 rfl) ?_
  refine .aA (.nil ?_)
  refine .drawTail 9 (by kernel_rfl) (by kernel_rfl) (by kernel_rfl) ?_
  refine .sA (.fieldAddrP rfl fo_35_0 rfl) ?_
  refine .sA (.loadP rfl sc_22 rfl (.tail _ (.head _)) rfl) ?_
  refine .sA (.moveD rfl rfl) ?_
  refine .sA (.moveD rfl rfl) ?_
  refine .sA (.lookupF (key := kI us[k]) rfl mt_idx kd_int zt_thg zd_thg rfl rfl (DExact.v _) (kI_ok (hu _ (List.getElem_mem hlt))) (idxM_keys hc.things) (get_idx hr.nk _)) ?_
  refine .sA (.moveD rfl rfl) ?_
  refine .sA (.moveD rfl rfl) ?_
  refine .sA (.call rfl (.cons (.rfl' rfl) (.cons (.rfl' rfl) (.cons (.rfl' rfl) .nil))) (c_ren _ id fresh (hpk _))) ?_
  refine .sA (.buildSlice rfl et_22 (.cons rfl rfl rfl .nil) rfl (by decide)) ?_
  refine .nil ?_
  -- append 68
  refine .append rfl rfl rfl rfl et_22 rfl (.head _) rfl (fun y hy => by obtain rfl := List.mem_singleton.1 hy; rfl) (by simp; omega) (by simp; omega) ?_
  refine .sA (.fieldAddrP rfl fo_35_0 rfl) ?_
  refine .storeS rfl rfl rfl sz_22 rfl (.tail _ (.head _)) rfl (.head _) (Nat.le_of_ble_eq_true rfl) (.nil ?_)
  refine .region ?_
  refine .sA (.add64 rfl rfl rfl (by omega) (by omega)) ?_
  refine .mA (.nil ?_)
  refine ⟨k + 1, (by omega), (by dsimp only; omega), Sub.less ⟨(SLe.of_eq rfl), SLe.refl _, SLe.refl _, SLe.refl _, SLe.refl _, SLe.refl _, SLe.refl _, SLe.refl _, SLe.refl _, trivial⟩ (obs_e (by dsimp only; rw [splL_next hlt, ← List.cons_append, List.map_append]; rfl))⟩
 replace h3 := of_decide_eq_false h3
 rw [List.length_map] at h3
 obtain rfl : k = us.length := by omega
 refine .exit ?_
 refine .sr ?_
 refine .sA (.fieldAddrP rfl fo_35_0 rfl) ?_
 refine .sA (.loadP rfl sc_22 rfl (.tail _ (.head _)) rfl) ?_
 -- turns 201
 refine .callX rfl rfl rfl (.cons (SLe.refl _) (.cons (SLe.fnS _) .nil)) ((c_sortH ((newT c id fresh title) :: splL c id fresh us us.length) (by have := splL_len (c := c) (id := id) (fresh := fresh) (us := us) (n := us.length); rw [List.length_cons]; omega) (spl_dist hS.us hS.nt) _) 201) ⟨(.head _), trivial⟩ rfl rfl (fun _ h => nomatch h) ?_
 refine .nil ?_
 refine .seq ?_
 refine .seq ?_
 refine .freezeIn 303 0 rfl (.head _) (.head _) ?_
 rw [spl_sorted hS.us hS.nt]
 refine .region ?_
 refine .sA (.loadAgg rfl ag_25 rfl rfl) ?_
 refine .sA (.loadPU rfl ag_35 rfl (.head _) rfl rfl) ?_
 -- wants the world
 refine .callT rfl rfl rfl hT maxT_stays rfl (.cons (.rfl' rfl) (.cons ⟨_, rfl, Le.one4⟩ .nil)) (c_pApply c (splX c id fresh title us) hc (splX_in hc k0 hf ht)) ?_
 refine .mA ?_
 refine .sA (.extract rfl rfl rfl) ?_
 refine .sA (.extract rfl rfl rfl) ?_
 refine .sA (.extract rfl rfl rfl) ?_
 refine .alloc 105 rfl rfl rfl rfl zt_25 rfl rfl rfl ?_
 refine .alloc 106 rfl rfl rfl rfl zt_35 rfl rfl rfl ?_
 refine .store rfl rfl rfl sz_25 rfl (.tail _ (.head _)) rfl rfl rfl (Nat.le_of_ble_eq_true rfl) ?_
 refine .freezeCells 19 (ds := (applyV c (splX c id fresh title us)).1.ds) rfl (.tail _ (.head _)) ?_
 refine .store rfl rfl rfl sz_35 rfl (.head _) rfl rfl rfl (Nat.le_of_ble_eq_true rfl) ?_
 refine .freezeCells 20 (ds := (applyV c (splX c id fresh title us)).2.1.ds) rfl (.head _) ?_
 refine .aA (.nil ?_)
 refine .sr ?_
 refine .mA ?_
 refine .sA (.neq rfl rfl rfl) (.nil ?_)
 refine .cond rfl (fun h4 => ?_) (fun h4 => ?_)
 ·replace h4 := of_decide_eq_true h4
  rw [splV_f k0 ho (by first | exact h4 | omega)]
  refine .sr ?_
  refine .sA (.build rfl bu_35 .nil rfl) ?_
  refine .mA ?_
  refine .store rfl rfl rfl sz_35 rfl (.tail _ (.head _)) rfl rfl rfl (Nat.le_of_ble_eq_true rfl) ?_
  refine .aA (.nil ?_)
  refine .ret ?_
  refine ⟨RetR.agg rfl (.tail _ (.head _)) ag_35 rfl (.cons .nil (.cons .nil (.cons .nil (.cons .nil .nil)))), RetD.eq rfl ?_, trivial⟩
  all_goals (rfl)
 replace h4 := of_decide_eq_false h4
 rw [splV_0 k0 ho (by first | exact h4 | omega)]
 refine .skip ?_
 refine .sr ?_
 refine .sA (.loadPU rfl ag_35 rfl (.head _) rfl rfl) ?_
 refine .store rfl rfl rfl sz_35 rfl (.tail _ (.head _)) rfl rfl rfl (Nat.le_of_ble_eq_true rfl) ?_
 refine .aA (.nil ?_)
 refine .ret ?_
 refine ⟨RetR.agg rfl (.tail _ (.head _)) ag_35 rfl (.cons (by first | exact CellD.nil | exact CellD.d | exact CellD.eq (by simp) | (refine CellD.own (by first | exact .head _ | exact .tail _ (.head _)) ?_; rfl)) (.cons (by first | exact CellD.nil | exact CellD.d | exact CellD.eq (by simp) | (refine CellD.own (by first | exact .head _ | exact .tail _ (.head _)) ?_; rfl)) (.cons (by first | exact CellD.nil | exact CellD.d | exact CellD.eq (by simp) | (refine CellD.own (by first | exact .head _ | exact .tail _ (.head _)) ?_; rfl)) (.cons (by first | exact CellD.nil | exact CellD.d | exact CellD.eq (by simp) | (refine CellD.own (by first | exact .head _ | exact .tail _ (.head _)) ?_; rfl)) .nil)))), RetD.eq rfl ?_, trivial⟩
 all_goals (rfl)


/-! Types. -/
namespace TyUG
end TyUG
open TyH3 TyH5 TyJ3 TyJ4 TyJ5 TyKA TyKB TyKC TyKD TyKE TyKF TyKG TyLA TyLB TyLC TyLD TyLE TyLF TyLG TyLH TyLI TyLJ TyLK TyLL TyLM TyLN TyLO TyLP TyLQ TyLR TyLS TyLT TyLU TyLV TyLW TyLX TyLY TyMA TyNA TyNC TyNE TyKH TyNF TyUC TyKI TyUA TyUD TyUB TyUE TyUH TyUG

set_option linter.unusedSimpArgs false

/-! Types. -/
namespace TyUF
end TyUF
open TyH3 TyH5 TyJ3 TyJ4 TyJ5 TyKA TyKB TyKC TyKD TyKE TyKF TyKG TyLA TyLB TyLC TyLD TyLE TyLF TyLG TyLH TyLI TyLJ TyLK TyLL TyLM TyLN TyLO TyLP TyLQ TyLR TyLS TyLT TyLU TyLV TyLW TyLX TyLY TyMA TyNA TyNC TyNE TyKH TyNF TyUC TyKI TyUA TyUD TyUB TyUE TyUH TyUG TyUF

set_option maxRecDepth 100000 in
set_option maxHeartbeats 1000000 in
theorem lawMrg (c : Ctl) (a b fresh : Int) (title : ByteArray) (us : List Int) (hc : CtlOk c) (ha : i64 a) (hb : i64 b) (hf : i64 fresh) (ht : title.size ≤ 9223372036854775807) (hu : ∀ n ∈ us, i64 n) : ACallT Tryz.prog MaxT 7 [.agg c.ds, .v (.int .i64 a), .v (.int .i64 b), .v (.int .i64 fresh), .v (.string title), .sl (us.map intD)] (.v (.bool true)) := by
 refine acall_ofT (n := 69) (ds' := [.v (.bool true)]) Tryz.func7 rfl (by kernel_rfl) rfl [12] rfl rfl ?_
 intro B w0 F0 hT
 refine .sr ?_
 refine .sA (.box rfl rfl rfl) ?_
 refine .aA (.nil ?_)
 refine .sr ?_
 refine .sA (.loadAgg rfl ag_25 rfl rfl) ?_
 refine .mA ?_
 refine .mA ?_
 -- wants the world
 refine .callT rfl rfl rfl hT maxT_stays rfl (.cons (.rfl' rfl) (.cons (.rfl' rfl) (.cons (.rfl' rfl) .nil))) (c_pMerge c a b hc ha hb) ?_
 refine .mA ?_
 refine .sA (.extract rfl rfl rfl) ?_
 refine .sA (.extract rfl rfl rfl) ?_
 refine .alloc 101 rfl rfl rfl rfl zt_35 rfl rfl rfl ?_
 refine .store rfl rfl rfl sz_35 rfl (.head _) rfl rfl rfl (Nat.le_of_ble_eq_true rfl) ?_
 refine .aA (.nil ?_)
 refine .sr ?_
 refine .sA (.loadAgg rfl ag_25 rfl rfl) ?_
 refine .mA ?_
 refine .mA ?_
 -- wants the world
 refine .callT rfl rfl rfl hT maxT_stays rfl (.cons (.rfl' rfl) (.cons (.rfl' rfl) (.cons (.rfl' rfl) .nil))) (c_rMerge c a b hc ha hb) ?_
 refine .mA ?_
 refine .sA (.extract rfl rfl rfl) ?_
 refine .sA (.extract rfl rfl rfl) ?_
 refine .alloc 102 rfl rfl rfl rfl zt_35 rfl rfl rfl ?_
 refine .store rfl rfl rfl sz_35 rfl (.head _) rfl rfl rfl (Nat.le_of_ble_eq_true rfl) ?_
 refine .aA (.nil ?_)
 refine .seq ?_
 refine .sr ?_
 refine .mA ?_
 refine .mA ?_
 refine .sA (.neq rfl rfl rfl) ?_
 refine .mA ?_
 refine .split 34 rfl (fun g1 => ?_) (fun g1 => ?_)
 ·replace g1 := of_decide_eq_true g1
  exact absurd rfl g1
 replace g1 := of_decide_eq_false g1
 refine .sG (.loadPU rfl ag_35 rfl (.tail _ (.head _)) rfl rfl) ?_
 refine .sG (.loadPU rfl ag_35 rfl (.head _) rfl rfl) ?_
 refine .sG (.call rfl (.cons (.rfl' rfl) (.cons (.rfl' rfl) .nil)) (c_sameX _ _)) ?_
 refine .sG (.not rfl rfl) ?_
 refine .sA (.pickF rfl rfl rfl) (.nil ?_)
 refine .cond rfl (fun h2 => ?_) (fun h2 => ?_)
 ·replace h2 := bnot_t h2; replace h2 := of_decide_eq_false h2
  exact absurd rfl h2
 replace h2 := bnot_f h2; replace h2 := of_decide_eq_true h2
 refine .skip ?_
 refine .sr ?_
 refine .sA (.loadAgg rfl ag_25 rfl rfl) ?_
 refine .mA ?_
 refine .mA ?_
 refine .mA ?_
 refine .mA ?_
 -- wants the world
 refine .callT rfl rfl rfl hT maxT_stays rfl (.cons (.rfl' rfl) (.cons (.rfl' rfl) (.cons (.rfl' rfl) (.cons (.rfl' rfl) (.cons (.rfl' rfl) .nil))))) (c_pSplit c a fresh title us hc ha hf ht hu) ?_
 refine .mA ?_
 refine .sA (.extract rfl rfl rfl) ?_
 refine .sA (.extract rfl rfl rfl) ?_
 refine .store rfl rfl rfl sz_35 rfl (.tail _ (.head _)) rfl rfl rfl (Nat.le_of_ble_eq_true rfl) ?_
 refine .aA (.nil ?_)
 refine .sr ?_
 refine .sA (.loadAgg rfl ag_25 rfl rfl) ?_
 refine .mA ?_
 refine .mA ?_
 refine .mA ?_
 refine .mA ?_
 -- wants the world
 refine .callT rfl rfl rfl hT maxT_stays rfl (.cons (.rfl' rfl) (.cons (.rfl' rfl) (.cons (.rfl' rfl) (.cons (.rfl' rfl) (.cons (.rfl' rfl) .nil))))) (c_rSplit c a fresh title us hc ha hf ht hu) ?_
 refine .mA ?_
 refine .sA (.extract rfl rfl rfl) ?_
 refine .sA (.extract rfl rfl rfl) ?_
 refine .store rfl rfl rfl sz_35 rfl (.head _) rfl rfl rfl (Nat.le_of_ble_eq_true rfl) ?_
 refine .aA (.nil ?_)
 refine .sr ?_
 refine .mA ?_
 refine .mA ?_
 refine .sA (.eql rfl rfl rfl) ?_
 refine .mA ?_
 refine .split 61 rfl (fun g3 => ?_) (fun g3 => ?_)
 ·replace g3 := of_decide_eq_true g3
  refine .sG (.loadPU rfl ag_35 rfl (.tail _ (.head _)) rfl rfl) ?_
  refine .sG (.loadPU rfl ag_35 rfl (.head _) rfl rfl) ?_
  refine .sG (.call rfl (.cons (.rfl' rfl) (.cons (.rfl' rfl) .nil)) (c_sameX _ _)) ?_
  refine .sA (.pickT rfl rfl rfl) ?_
  refine .mA ?_
  refine .split 66 rfl (fun g4 => ?_) (fun g4 => ?_)
  ·replace g4 := of_decide_eq_true g4
   refine .sG (.call rfl .nil c_awake) ?_
   refine .sA (.pickT rfl rfl rfl) ?_
   refine .aA (.nil ?_)
   refine .ret ?_
   refine ⟨RetD.eq rfl ?_, trivial⟩
   all_goals (first | rfl | simp)
  replace g4 := of_decide_eq_false g4
  exact absurd rfl g4
 replace g3 := of_decide_eq_false g3
 exact absurd rfl g3

end Go.Proofs.YtgldfnkbpopanaaGreatDoor
