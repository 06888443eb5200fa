/- Walks and laws over abstract values, merged by tools/merge.py. No statement of the seat. -/
import Derived.Test.YtgldfnkbpopanaaGreatDoorXV8

namespace Go.Proofs.YtgldfnkbpopanaaGreatDoor
open Go.RowKit
set_option linter.unusedVariables false

/-! Types. -/
namespace TyNE
end TyNE
open TyH3 TyH5 TyJ3 TyJ4 TyJ5 TyKA TyKB TyKC TyKD TyKE TyKF TyKG TyLA TyLB TyLC TyLD TyLE TyLF TyLG TyLH TyLI TyLJ TyLK TyLL TyLM TyLN TyLO TyLP TyLQ TyLR TyLS TyLT TyLU TyLV TyLW TyLX TyLY TyMA TyNA TyNC TyNE

set_option linter.unusedSimpArgs false
/-- A thing that uses another one in the place of one. -/
def renN (a b n : Int) : Int := if n = a then b else n
def renF (t : Thg) (a b : Int) : Thg := ⟨t.id, t.kind, t.title, t.code, t.since, renN a b t.parent, t.parts.map (renN a b)⟩
/-- The thing that another one becomes: the program's, the reference's. -/
def mrgP (g k : Thg) : Int := if k.parent = 0 ∨ k.parent = g.id then (if g.parent = k.id then 0 else g.parent) else renN g.id k.id k.parent
def mrgF (g k : Thg) : Thg := ⟨k.id, k.kind, k.title, if k.code = ⟨#[]⟩ then g.code else k.code, if g.since < k.since then g.since else k.since, mrgP g k, if k.parts.length = 0 then g.parts.map (renN g.id k.id) else k.parts.map (renN g.id k.id)⟩
def inhF (k g : Thg) : Thg := ⟨k.id, k.kind, k.title, if k.code = ⟨#[]⟩ then g.code else k.code, if g.since < k.since then g.since else k.since, if k.parent = 0 ∨ k.parent = g.id then (if g.parent = k.id then 0 else g.parent) else k.parent, if k.parts.length = 0 then g.parts else k.parts⟩
theorem ren_id {a b : Int} {l : List Int} (h : ¬ a ∈ l) : l.map (renN a b) = l := by
  have : l.map (renN a b) = l.map id := List.map_congr_left fun n hn => (if_neg (fun he : n = a => h (by rw [← he]; exact hn)) : renN a b n = n)
  rw [this, List.map_id]
theorem mrg_inh {g k : Thg} (h1 : ¬ g.id ∈ k.parts) (h2 : ¬ g.id ∈ g.parts) : mrgF g k = inhF k g := by
  have hp : mrgP g k = if k.parent = 0 ∨ k.parent = g.id then (if g.parent = k.id then 0 else g.parent) else k.parent := by
    unfold mrgP
    by_cases h : k.parent = 0 ∨ k.parent = g.id
    · rw [if_pos h, if_pos h]
    · rw [if_neg h, if_neg h]; exact if_neg fun he => h (.inr he)
  unfold mrgF inhF
  rw [ren_id h1, ren_id h2, hp]
/-- Parts are recordings; what has parts is none. -/
theorem part_kind {c : Ctl} (h : chkF c = 0) {t : Thg} (ht : t ∈ c.things) {n : Int} (hn : n ∈ t.parts) : thereB c.things n = true ∧ (getT c.things n).kind = 2 ∧ ¬ t.kind ≤ 2 := by
  obtain ⟨k, hk, rfl⟩ := List.mem_iff_getElem.1 ht
  obtain ⟨j, hj, rfl⟩ := List.mem_iff_getElem.1 hn
  have hc := catOk h
  have hl := hc.lk k hk
  have h0 : parF c.things c.things[k] = 0 := Classical.byContradiction fun hh => by
    unfold linkF at hl; rw [if_pos hh] at hl; exact hh hl
  have h1 : ffst (ptF c.things c.things[k]) c.things[k].parts.length = 0 := Classical.byContradiction fun hh => by
    unfold linkF at hl; rw [if_neg (by omega), if_pos hh] at hl; exact hh hl
  have h2 := ffst_all _ h1 j hj
  have h3 : thereB c.things c.things[k].parts[j] = true := by
    cases hb : thereB c.things c.things[k].parts[j] with
    | true => rfl
    | false => rw [pt_9 hj hb] at h2; omega
  have h4 : (getT c.things c.things[k].parts[j]).kind = 2 := Classical.byContradiction fun hh => by
    rw [pt_6 hj h3 hh] at h2; omega
  refine ⟨h3, h4, fun hh => ?_⟩
  have h5 := hc.th k hk
  unfold thgF at h5
  split at h5
  · omega
  · split at h5
    · omega
    · split at h5
      · rename_i hx; exact hx.2 h5
      · split at h5
        · omega
        · rename_i h6
          split at h5
          · omega
          · rename_i h7
            exact h7 (.inr (.inr ⟨hh, by omega⟩))
def mrgT (c : Ctl) (a b : Int) (t : Thg) : Thg := if t.id = b then mrgF (getT c.things a) (getT c.things b) else renF t a b
def mrgB (c : Ctl) (a b : Int) (t : Thg) : Bool := !decide (t.id = a) && !decide (t = mrgT c a b t)
/-- The program's change; the reference's catalogue. -/
def mrgL (c : Ctl) (a b : Int) (n : Nat) : List Thg := ((c.things.take n).filter (mrgB c a b)).map (mrgT c a b)
def mrgX (c : Ctl) (a b : Int) : Chg := ⟨mrgL c a b c.things.length, [a], [⟨a, b⟩], []⟩
def refT (c : Ctl) (a b : Int) (t : Thg) : Thg := if t.id = b then inhF t (getT c.things a) else renF t a b
def nA (a : Int) (t : Thg) : Bool := !decide (t.id = a)
def refL (c : Ctl) (a b : Int) (n : Nat) : List Thg := ((c.things.take n).filter (nA a)).map (refT c a b)
def refC (c : Ctl) (a b : Int) : Ctl := ⟨refL c a b c.things.length, putF Mvd.src c.moved ⟨a, b⟩⟩
def mrgO (c : Ctl) (a b : Int) : Int :=
  if thereB c.things a = false ∨ thereB c.things b = false then 9
  else if a = b then 7
  else if (getT c.things a).kind ≠ (getT c.things b).kind then 6
  else if (getT c.things a).code ≠ ⟨#[]⟩ ∧ (getT c.things b).code ≠ ⟨#[]⟩ then 12 else 0
structure Mrg (c : Ctl) (a b : Int) : Prop where
  ok : chkF c = 0
  ta : thereB c.things a = true
  tb : thereB c.things b = true
  ne : a ≠ b
  kind : (getT c.things a).kind = (getT c.things b).kind
section
variable {c : Ctl} {a b : Int}
theorem Mrg.same (h : Mrg c a b) : ∀ t ∈ c.things, mrgT c a b t = refT c a b t := fun t ht => by
  unfold mrgT refT
  by_cases hb : t.id = b
  · rw [if_pos hb, if_pos hb]
    have hr := (catOk h.ok).ris
    have e1 : getT c.things b = t := by rw [← hb]; exact (hr.get ht).1
    obtain ⟨ga, gm⟩ := getT_id h.ta
    rw [e1]
    refine mrg_inh (fun hn => ?_) fun hn => ?_
    · obtain ⟨_, k2, k3⟩ := part_kind h.ok ht hn
      rw [ga, h.kind, e1] at k2
      omega
    · obtain ⟨_, k2, k3⟩ := part_kind h.ok gm hn
      rw [ga] at k2
      omega
  · rw [if_neg hb, if_neg hb]
theorem refT_id (t : Thg) : (refT c a b t).id = t.id := by
  unfold refT
  by_cases h : t.id = b
  · rw [if_pos h]; rfl
  · rw [if_neg h]; rfl
theorem put_eq (h : Mrg c a b) : (btwP (idxL c.things) (idxL (refC c a b).things)).map (·.2) = mrgL c a b c.things.length := by
  have hr := (catOk h.ok).ris
  have key : ∀ l : List Thg, (∀ t ∈ l, t ∈ c.things) → ((idxL ((l.filter (nA a)).map (refT c a b))).filter (newB (idxL c.things))).map (·.2) = (l.filter (mrgB c a b)).map (mrgT c a b) := by
    intro l
    induction l with
    | nil => intro _; rfl
    | cons t l ih =>
      intro hl
      have ih := ih fun u hu => hl u (List.mem_cons_of_mem _ hu)
      have ht := hl t List.mem_cons_self
      have hs := h.same t ht
      by_cases ha : t.id = a
      · have e1 : nA a t = false := by unfold nA; rw [decide_eq_true ha]; rfl
        have e2 : mrgB c a b t = false := by unfold mrgB; rw [decide_eq_true ha]; rfl
        rw [List.filter_cons_of_neg (by rw [e1]; decide), List.filter_cons_of_neg (by rw [e2]; decide)]
        exact ih
      · have e1 : nA a t = true := by unfold nA; rw [decide_eq_false ha]; rfl
        rw [List.filter_cons_of_pos e1, List.map_cons]
        show ((((refT c a b t).id, refT c a b t) :: idxL ((l.filter (nA a)).map (refT c a b))).filter (newB (idxL c.things))).map (·.2) = _
        have hf : findG (idxL c.things) (refT c a b t).id = some t := by
          rw [refT_id]
          have := (hr.get ht).1
          have h2 := (hr.get ht).2
          unfold getT at this; unfold thereB at h2
          cases hq : findT c.things t.id with
          | none => rw [hq] at h2; cases h2
          | some u => rw [hq] at this; exact (show findG (idxL c.things) t.id = some u from hq).trans (congrArg some this)
        by_cases he : t = mrgT c a b t
        · have e2 : mrgB c a b t = false := by unfold mrgB; rw [decide_eq_true he]; simp
          have e3 : newB (idxL c.things) ((refT c a b t).id, refT c a b t) = false := by
            unfold newB
            rw [hf, ← hs, ← he]; simp
          rw [List.filter_cons_of_neg (by rw [e3]; decide), List.filter_cons_of_neg (by rw [e2]; decide)]
          exact ih
        · have e2 : mrgB c a b t = true := by unfold mrgB; rw [decide_eq_false ha, decide_eq_false he]; rfl
          have e3 : newB (idxL c.things) ((refT c a b t).id, refT c a b t) = true := by
            unfold newB
            rw [hf, ← hs]
            exact decide_eq_true fun hh => he (Option.some.inj hh)
          rw [List.filter_cons_of_pos e3, List.filter_cons_of_pos e2, List.map_cons, List.map_cons, ih, hs]
  have := key c.things fun t ht => ht
  unfold mrgL btwP
  rw [List.take_length, ← this]
  show _ = ((idxL ((c.things.filter (nA a)).map (refT c a b))).filter (newB (idxL c.things))).map (·.2)
  unfold refC refL
  rw [List.take_length]
theorem drop_eq (h : Mrg c a b) : btwG (idxL c.things) (idxL (refC c a b).things) = [a] := by
  have hr := (catOk h.ok).ris
  have hu : UpL (btwG (idxL c.things) (idxL (refC c a b).things)) := by
    have h1 : RiK ((idxL c.things).filter (goneB (idxL (refC c a b).things))) := (rikT hr).sublist List.filter_sublist
    unfold UpL btwG
    rw [List.pairwise_map]; exact h1
  refine up_ext hu (List.pairwise_singleton ..) fun k => ?_
  unfold btwG
  rw [List.mem_singleton, List.mem_map]
  have hfind : ∀ n, findG (idxL (refC c a b).things) n = none ↔ ∀ t ∈ c.things, t.id ≠ a → t.id ≠ n := fun n => by
    show findT (refC c a b).things n = none ↔ _
    rw [findT_none]
    unfold refC refL
    rw [List.take_length]
    constructor
    · intro hh t ht hta
      have := hh (refT c a b t) (List.mem_map.2 ⟨t, List.mem_filter.2 ⟨ht, by unfold nA; simp [hta]⟩, rfl⟩)
      rwa [refT_id] at this
    · intro hh u hu
      obtain ⟨t, ht, rfl⟩ := List.mem_map.1 hu
      obtain ⟨h1, h2⟩ := List.mem_filter.1 ht
      rw [refT_id]
      exact hh t h1 (by unfold nA at h2; simpa using h2)
  constructor
  · rintro ⟨p, hp, rfl⟩
    obtain ⟨h1, h2⟩ := List.mem_filter.1 hp
    obtain ⟨t, ht, rfl⟩ := List.mem_map.1 h1
    have h3 := (hfind t.id).1 (of_decide_eq_true h2)
    exact Classical.byContradiction fun hne => h3 t ht hne rfl
  · rintro rfl
    obtain ⟨g1, g2⟩ := getT_id h.ta
    refine ⟨(k, getT c.things k), List.mem_filter.2 ⟨List.mem_map.2 ⟨_, g2, by rw [g1]⟩, decide_eq_true ((hfind k).2 fun t ht hta => hta)⟩, rfl⟩
theorem no_moved (h : chkF c = 0) (ha : thereB c.things a = true) : findG (mvL c.moved) a = none := findM_none.2 fun m hm he => by
  obtain ⟨k, hk, rfl⟩ := List.mem_iff_getElem.1 hm
  have h1 : mvdF c = 0 := by
    unfold chkF at h
    split at h
    · omega
    · split at h
      · rename_i h2; exact absurd h h2
      · split at h
        · rename_i h2; exact absurd h h2
        · exact h
  have h2 : ffst (mvF c) c.moved.length = 0 := by
    unfold mvdF at h1
    split at h1
    · rename_i h2; exact absurd h1 h2
    · rename_i h2; omega
  have h3 := ffst_all _ h2 k hk
  unfold mvF at h3
  rw [dif_pos hk] at h3
  split at h3
  · omega
  · split at h3
    · omega
    · split at h3
      · omega
      · rename_i h4; exact h4 (by rw [he]; exact ha)
theorem back_eq (h : Mrg c a b) : btwG (mvL c.moved) (mvL (refC c a b).moved) = [] := by
  have rM : RisBy Mvd.src c.moved := risM_by.1 (rikM (catOk h.ok).rism)
  unfold btwG
  rw [List.map_eq_nil_iff, List.filter_eq_nil_iff]
  intro p hp hg
  have h1 := of_decide_eq_true hg
  have h2 : findG (mvL c.moved) p.1 = some p.2 := (mem_find (rikM (catOk h.ok).rism).nk).1 hp
  have h3 := findBy_M (refC c a b).moved p.1
  rw [h1] at h3
  have h4 : findBy Mvd.src (putF Mvd.src c.moved ⟨a, b⟩) p.1 = none := Option.map_eq_none_iff.1 h3
  rw [putF_find rM] at h4
  have h5 := findBy_M c.moved p.1
  rw [h2] at h5
  split at h4
  · cases h4
  · rw [show findBy (·.src) c.moved p.1 = none from h4] at h5; cases h5
theorem add_eq (h : Mrg c a b) : (btwP (mvL c.moved) (mvL (refC c a b).moved)).map mvO = [⟨a, b⟩] := by
  have rM : RisBy Mvd.src c.moved := risM_by.1 (rikM (catOk h.ok).rism)
  have rN : RiK (mvL (refC c a b).moved) := risM_by.2 (putF_ris rM)
  have e : btwP (mvL c.moved) (mvL (refC c a b).moved) = [(a, b)] := by
    refine rik_ext (rN.sublist List.filter_sublist) (List.pairwise_singleton ..) fun k => ?_
    unfold btwP
    rw [find_filter rN.nk]
    have hk : findG (mvL (refC c a b).moved) k = if a = k then some b else findG (mvL c.moved) k := by
      have h3 := findBy_M (refC c a b).moved k
      have h5 := findBy_M c.moved k
      rw [← h3, ← h5]
      show (findBy Mvd.src (putF Mvd.src c.moved ⟨a, b⟩) k).map (·.dst) = _
      rw [putF_find rM]
      by_cases ha : a = k
      · rw [if_pos ha, if_pos ha]; rfl
      · rw [if_neg ha, if_neg ha]
    rw [hk, findG_cons, findG_nil]
    dsimp only
    by_cases ha : a = k
    · subst ha
      rw [if_pos rfl, if_pos rfl]
      dsimp only
      unfold newB
      rw [if_pos (by rw [no_moved h.ok h.ta]; simp)]
    · rw [if_neg ha, if_neg ha]
      cases hf : findG (mvL c.moved) k with
      | none => rfl
      | some v =>
        dsimp only
        unfold newB
        rw [if_neg (by dsimp only; rw [hf]; simp)]
  rw [e]; rfl
theorem mrg_same (h : Mrg c a b) : btwX c (refC c a b) = mrgX c a b := by
  unfold btwX mrgX
  rw [put_eq h, drop_eq h, add_eq h, back_eq h]
end


/-! Types. -/
namespace TyKH
end TyKH
open TyH3 TyH5 TyJ3 TyJ4 TyJ5 TyKA TyKB TyKC TyKD TyKE TyKF TyKG TyLA TyLB TyLC TyLD TyLE TyLF TyLG TyLH TyLI TyLJ TyLK TyLL TyLM TyLN TyLO TyLP TyLQ TyLR TyLS TyLT TyLU TyLV TyLW TyLX TyLY TyMA TyNA TyNC TyNE TyKH

def findF (c : Ctl) (id : Int) : Int := if chkF c ≠ 0 then chkF c else if (ledC c id).isSome = true then 0 else 9
def findV (c : Ctl) (id : Int) : Int := if chkF c ≠ 0 then 0 else (ledC c id).getD 0
def usesB (t : Thg) (id : Int) : Bool := decide (t.parent = id) || decide (id ∈ t.parts)
theorem uses_a {t : Thg} {id : Int} (h : t.parent = id) : usesB t id = true := by unfold usesB; rw [decide_eq_true h]; rfl
theorem uses_b {t : Thg} {id : Int} (h : ¬ t.parent = id) : usesB t id = decide (id ∈ t.parts) := by unfold usesB; rw [decide_eq_false h]; rfl
def pikL (p : Thg → Bool) (l : List Thg) : List Int := (l.filter p).map (·.id)
theorem pik_y {p : Thg → Bool} {l : List Thg} {k : Nat} (hk : k < l.length) (h : p l[k] = true) : pikL p (l.take (k + 1)) = pikL p (l.take k) ++ [l[k].id] := by
  unfold pikL
  rw [List.take_add_one, List.getElem?_eq_getElem hk, Option.toList_some, List.filter_append, List.map_append]
  simp [h]
theorem pik_n {p : Thg → Bool} {l : List Thg} {k : Nat} (hk : k < l.length) (h : p l[k] = false) : pikL p (l.take (k + 1)) = pikL p (l.take k) := by
  unfold pikL
  rw [List.take_add_one, List.getElem?_eq_getElem hk, Option.toList_some, List.filter_append, List.map_append]
  simp [h]
theorem pik_len (p : Thg → Bool) (l : List Thg) : (pikL p l).length ≤ l.length := by unfold pikL; rw [List.length_map]; exact List.length_filter_le _ _
theorem pik_tlen (p : Thg → Bool) (l : List Thg) (k : Nat) : (pikL p (l.take k)).length ≤ k := Nat.le_trans (pik_len _ _) (by rw [List.length_take]; omega)
def useF (c : Ctl) (id : Int) : Int := if chkF c ≠ 0 then chkF c else if thereB c.things id = true then 0 else 9
def useV (c : Ctl) (id : Int) : List Int := if chkF c ≠ 0 then [] else if thereB c.things id = true then pikL (usesB · id) c.things else []
def onceL (l : List Int) : List Int := l.foldl (fun o n => if n ∈ o then o else o ++ [n]) []
set_option maxRecDepth 100000 in
set_option maxHeartbeats 1000000 in
theorem c_usesB (t : Thg) (id : Int) : ACall Tryz.prog 99 [.agg t.ds, .v (.int .i64 id)] (.v (.bool (usesB t id))) := by
 refine acall_of (n := 15) (ds' := [.v (.bool (usesB t id))]) Tryz.func99 rfl (by kernel_rfl) rfl [4] rfl rfl ?_
 intro B w0 F0 fr
 refine .sr ?_
 refine .sA (.box rfl rfl rfl) ?_
 refine .aA (.nil ?_)
 refine .sr ?_
 refine .sA (.fieldAddr rfl fo_41_5 rfl) ?_
 refine .sA (.load rfl sc_3 rfl) ?_
 refine .mA ?_
 refine .sA (.eql rfl rfl rfl) ?_
 refine .mA ?_
 refine .split 9 rfl (fun g1 => ?_) (fun g1 => ?_)
 ·replace g1 := of_decide_eq_true g1
  rw [uses_a g1]
  refine .pA ?_
  refine .pA ?_
  refine .pA ?_
  refine .pA ?_
  refine .sA (.pickT rfl rfl rfl) ?_
  refine .aA (.nil ?_)
  refine .ret ?_
  refine ⟨RetD.eq rfl ?_, trivial⟩
  all_goals (rfl)
 replace g1 := of_decide_eq_false g1
 rw [uses_b g1]
 refine .sG (.fieldAddr rfl fo_41_6 rfl) ?_
 refine .sG (.load rfl sc_33 rfl) ?_
 refine .sG (.moveD rfl rfl) ?_
 refine .sG (.call rfl (.cons (.rfl' rfl) (.cons (.rfl' rfl) .nil)) (c_containsInt _ _)) ?_
 refine .sA (.pickF rfl rfl rfl) ?_
 refine .aA (.nil ?_)
 refine .ret ?_
 refine ⟨RetD.eq rfl ?_, trivial⟩
 all_goals (rfl)

set_option maxRecDepth 100000 in
set_option maxHeartbeats 1000000 in
theorem c_users (c : Ctl) (id : Int) (hc : CtlOk c) (hl : Lim c) : ACall Tryz.prog 67 [.agg c.ds, .v (.int .i64 id)] (.sl ((pikL (usesB · id) c.things).map intD)) := by
 refine acall_of (n := 32) (ds' := [.sl ((pikL (usesB · id) c.things).map intD)]) Tryz.func67 rfl (by kernel_rfl) rfl [4] rfl rfl ?_
 intro B w0 F0 fr
 have hl1 := hl.1
 refine .sr ?_
 refine .sA (.box rfl rfl rfl) ?_
 refine .aA (.nil ?_)
 refine .sr ?_
 refine .aA (.nil ?_)
 refine .seq ?_
 refine .sr ?_
 refine .sA (.fieldAddr rfl fo_25_0 rfl) ?_
 refine .sA (.load rfl sc_22 rfl) ?_
 refine .sA (.lenSl rfl et_22.ht rfl) ?_
 refine .mA (.nil ?_)
 refine .block ?_
 refine .adopt 5 1 3 1 rfl rfl ?_
 refine .loop (G := Nat) (fun k => Env.of [(11, .d (.v (.int .i64 (k : Int)))), (9, .d (.sl (c.things.map Thg.ds))), (10, .d (.v (.int .i64 ((c.things.map Thg.ds).length : Int)))), (5, .own 1), (2, .d (.fp c.ds)), (1, .d (.v (.int .i64 id)))]) (fun k => [(1, .row 3 1 ((pikL (usesB · id) (c.things.take k)).map intD))]) (fun k => k ≤ c.things.length) (fun k => c.things.length - k) 0 (Nat.zero_le _) (Sub.less ⟨(SLe.of_eq rfl), SLe.refl _, SLe.refl _, SLe.refl _, SLe.refl _, SLe.refl _, trivial⟩ (row_same rfl)) ?_
 intro k hk
 refine .sr ?_
 refine .sA (.lss rfl rfl rfl) (.nil ?_)
 refine .seq ?_
 refine .cond rfl (fun h1 => ?_) (fun h1 => ?_)
 ·replace h1 := of_decide_eq_true h1
  rw [List.length_map] at h1
  have hlt : k < c.things.length := by omega
  have hbk := hc.things _ (List.getElem_mem hlt)
  refine .skip ?_
  refine .seq ?_
  refine .block ?_
  refine .sr ?_
  refine .sA (.indexAddr rfl et_22 rfl rfl k rfl (at_lst hlt) rfl) ?_
  refine .sA (.loadAgg rfl ag_41 rfl rfl) ?_
  refine .alloc 101 rfl rfl rfl rfl zt_41 rfl rfl rfl ?_
  refine .store rfl rfl rfl sz_41 rfl (.head _) rfl rfl rfl (Nat.le_of_ble_eq_true rfl) ?_
  refine .freezeCells 7 (ds := c.things[k].ds) rfl (.head _) (.nil ?_)
  refine .sr ?_
  refine .sA (.fieldAddr rfl fo_41_5 rfl) ?_
  refine .sA (.load rfl sc_3 rfl) ?_
  refine .mA ?_
  refine .sA (.eql rfl rfl rfl) ?_
  refine .mA ?_
  refine .split 19 rfl (fun g2 => ?_) (fun g2 => ?_)
  ·replace g2 := of_decide_eq_true g2
   have HU : usesB c.things[k] id = true := uses_a g2
   refine .pA ?_
   refine .pA ?_
   refine .pA ?_
   refine .pA ?_
   refine .sA (.pickT rfl rfl rfl) (.nil ?_)
   refine .cond rfl (fun _ => ?_) (fun h => nomatch h)
   refine .region ?_
   refine .sA (.moveO rfl rfl) ?_
   refine .sA (.fieldAddr rfl fo_41_0 rfl) ?_
   refine .sA (.load rfl sc_3 rfl) ?_
   refine .sA (.buildSlice rfl et_33 (.cons rfl rfl rfl .nil) rfl (by decide)) ?_
   -- append 29
   refine .append rfl rfl rfl rfl et_33 rfl (.head _) rfl (fun y hy => by obtain rfl := List.mem_singleton.1 hy; rfl) (by have := pik_tlen (usesB · id) c.things k; simp; omega) (by have := pik_tlen (usesB · id) c.things k; simp; omega) ?_
   refine .sA (.assignO rfl rfl) (.nil ?_)
   refine .region ?_
   refine .sA (.add64 rfl rfl rfl (by omega) (by omega)) ?_
   refine .mA (.nil ?_)
   refine ⟨k + 1, (by omega), (by dsimp only; omega), Sub.less ⟨(SLe.of_eq rfl), SLe.refl _, SLe.refl _, SLe.refl _, SLe.refl _, SLe.refl _, trivial⟩ (row_same (by first | (rw [pik_y hlt HU, List.map_append]; rfl) | rw [pik_n hlt HU]))⟩
  replace g2 := of_decide_eq_false g2
  have hnu := g2
  refine .sG (.fieldAddr rfl fo_41_6 rfl) ?_
  refine .sG (.load rfl sc_33 rfl) ?_
  refine .sG (.moveD rfl rfl) ?_
  refine .sG (.call rfl (.cons (.rfl' rfl) (.cons (.rfl' rfl) .nil)) (c_containsInt _ _)) ?_
  refine .sA (.pickF rfl rfl rfl) (.nil ?_)
  refine .cond rfl (fun h3 => ?_) (fun h3 => ?_)
  ·replace h3 := of_decide_eq_true h3
   have HU : usesB c.things[k] id = true := by rw [uses_b hnu]; exact decide_eq_true h3
   refine .region ?_
   refine .sA (.moveO rfl rfl) ?_
   refine .sA (.fieldAddr rfl fo_41_0 rfl) ?_
   refine .sA (.load rfl sc_3 rfl) ?_
   refine .sA (.buildSlice rfl et_33 (.cons rfl rfl rfl .nil) rfl (by decide)) ?_
   -- append 29
   refine .append rfl rfl rfl rfl et_33 rfl (.head _) rfl (fun y hy => by obtain rfl := List.mem_singleton.1 hy; rfl) (by have := pik_tlen (usesB · id) c.things k; simp; omega) (by have := pik_tlen (usesB · id) c.things k; simp; omega) ?_
   refine .sA (.assignO rfl rfl) (.nil ?_)
   refine .region ?_
   refine .sA (.add64 rfl rfl rfl (by omega) (by omega)) ?_
   refine .mA (.nil ?_)
   refine ⟨k + 1, (by omega), (by dsimp only; omega), Sub.less ⟨(SLe.of_eq rfl), SLe.refl _, SLe.refl _, SLe.refl _, SLe.refl _, SLe.refl _, trivial⟩ (row_same (by first | (rw [pik_y hlt HU, List.map_append]; rfl) | rw [pik_n hlt HU]))⟩
  replace h3 := of_decide_eq_false h3
  have HU : usesB c.things[k] id = false := by rw [uses_b hnu]; exact decide_eq_false h3
  refine .skip ?_
  refine .region ?_
  refine .sA (.add64 rfl rfl rfl (by omega) (by omega)) ?_
  refine .mA (.nil ?_)
  refine ⟨k + 1, (by omega), (by dsimp only; omega), Sub.less ⟨(SLe.of_eq rfl), SLe.refl _, SLe.refl _, SLe.refl _, SLe.refl _, SLe.refl _, trivial⟩ (row_same (by first | (rw [pik_y hlt HU, List.map_append]; rfl) | rw [pik_n hlt HU]))⟩
 replace h1 := of_decide_eq_false h1
 rw [List.length_map] at h1
 obtain rfl : k = c.things.length := by omega
 rw [List.take_length]
 refine .exit ?_
 refine .sr ?_
 refine .sA (.moveO rfl rfl) ?_
 refine .sA (.assignO rfl rfl) (.nil ?_)
 refine .ret ?_
 refine ⟨RetD.own rfl (.head _) ?_, trivial⟩
 all_goals (rfl)


/-! Types. -/
namespace TyNF
end TyNF
open TyH3 TyH5 TyJ3 TyJ4 TyJ5 TyKA TyKB TyKC TyKD TyKE TyKF TyKG TyLA TyLB TyLC TyLD TyLE TyLF TyLG TyLH TyLI TyLJ TyLK TyLL TyLM TyLN TyLO TyLP TyLQ TyLR TyLS TyLT TyLU TyLV TyLW TyLX TyLY TyMA TyNA TyNC TyNE TyKH TyNF

set_option linter.unusedSimpArgs false
/-- What Merge returns. -/
def mrgV (c : Ctl) (a b : Int) : Chg × Int := if chkF c = 0 then (if mrgO c a b = 0 then (if (applyV c (mrgX c a b)).2.2 = 0 then (mrgX c a b, 0) else (zX, (applyV c (mrgX c a b)).2.2)) else (zX, mrgO c a b)) else (zX, chkF c)
section
variable {c : Ctl} {a b : Int}
theorem mrgV_c (h : chkF c ≠ 0) : mrgV c a b = (zX, chkF c) := if_neg h
theorem mrgV_o {n : Int} (h : chkF c = 0) (h2 : mrgO c a b = n) (hn : n ≠ 0) : mrgV c a b = (zX, n) := by unfold mrgV; rw [if_pos h, if_neg (by rw [h2]; exact hn), h2]
theorem mrgV_f (h : chkF c = 0) (h2 : mrgO c a b = 0) (h3 : (applyV c (mrgX c a b)).2.2 ≠ 0) : mrgV c a b = (zX, (applyV c (mrgX c a b)).2.2) := by unfold mrgV; rw [if_pos h, if_pos h2, if_neg h3]
theorem mrgV_0 (h : chkF c = 0) (h2 : mrgO c a b = 0) (h3 : (applyV c (mrgX c a b)).2.2 = 0) : mrgV c a b = (mrgX c a b, 0) := by unfold mrgV; rw [if_pos h, if_pos h2, if_pos h3]
theorem mrgO_9 (h : thereB c.things a = false ∨ thereB c.things b = false) : mrgO c a b = 9 := if_pos h
theorem mrgO_7 (h : ¬ (thereB c.things a = false ∨ thereB c.things b = false)) (h2 : a = b) : mrgO c a b = 7 := by unfold mrgO; rw [if_neg h, if_pos h2]
theorem mrgO_6 (h : ¬ (thereB c.things a = false ∨ thereB c.things b = false)) (h2 : ¬ a = b) (h3 : (getT c.things a).kind ≠ (getT c.things b).kind) : mrgO c a b = 6 := by unfold mrgO; rw [if_neg h, if_neg h2, if_pos h3]
theorem mrgO_12 (h : ¬ (thereB c.things a = false ∨ thereB c.things b = false)) (h2 : ¬ a = b) (h3 : ¬ (getT c.things a).kind ≠ (getT c.things b).kind) (h4 : (getT c.things a).code ≠ ⟨#[]⟩ ∧ (getT c.things b).code ≠ ⟨#[]⟩) : mrgO c a b = 12 := by unfold mrgO; rw [if_neg h, if_neg h2, if_neg h3, if_pos h4]
theorem mrgO_0 (h : ¬ (thereB c.things a = false ∨ thereB c.things b = false)) (h2 : ¬ a = b) (h3 : ¬ (getT c.things a).kind ≠ (getT c.things b).kind) (h4 : ¬ ((getT c.things a).code ≠ ⟨#[]⟩ ∧ (getT c.things b).code ≠ ⟨#[]⟩)) : mrgO c a b = 0 := by unfold mrgO; rw [if_neg h, if_neg h2, if_neg h3, if_neg h4]
theorem mrg_of (h : chkF c = 0) (h2 : mrgO c a b = 0) : Mrg c a b := by
  unfold mrgO at h2
  split at h2
  · omega
  · rename_i k1
    split at h2
    · omega
    · rename_i k2
      split at h2
      · omega
      · rename_i k3
        have t1 : ∀ {x : Bool}, ¬ x = false → x = true := fun {x} hx => by cases x <;> simp_all
        exact ⟨h, t1 fun hh => k1 (.inl hh), t1 fun hh => k1 (.inr hh), k2, Classical.not_not.1 k3⟩
end
/-! ## Split -/
def usF (c : Ctl) (id : Int) (us : List Int) (k : Nat) : Int :=
  if h : k < us.length then
    if thereB c.things us[k] = false then 9
    else if 0 < k ∧ us[k] ≤ (us[k-1]'(by omega)) then 8
    else if usesB (getT c.things us[k]) id = false then 11 else 0
  else 0
def splO (c : Ctl) (id fresh : Int) (title : ByteArray) (us : List Int) : Int :=
  if thereB c.things id = false then 9
  else if fresh < 1 ∨ 1000000 < fresh then 1
  else if thereB c.things fresh = true ∨ hasM c.moved fresh = true then 7
  else if titleOk title = false then 3
  else ffst (usF c id us) us.length
def newT (c : Ctl) (id fresh : Int) (title : ByteArray) : Thg := ⟨fresh, (getT c.things id).kind, title, ⟨#[]⟩, (getT c.things id).since, (getT c.things id).parent, (getT c.things id).parts⟩
def splL (c : Ctl) (id fresh : Int) (us : List Int) (n : Nat) : List Thg := (us.take n).map fun u => renF (getT c.things u) id fresh
def splX (c : Ctl) (id fresh : Int) (title : ByteArray) (us : List Int) : Chg := ⟨putsF Thg.id [newT c id fresh title] (splL c id fresh us us.length), [], [], []⟩
def splV (c : Ctl) (id fresh : Int) (title : ByteArray) (us : List Int) : Chg × Int := if chkF c = 0 then (if splO c id fresh title us = 0 then (if (applyV c (splX c id fresh title us)).2.2 = 0 then (splX c id fresh title us, 0) else (zX, (applyV c (splX c id fresh title us)).2.2)) else (zX, splO c id fresh title us)) else (zX, chkF c)
def usrL (c : Ctl) (id : Int) : List Int := (c.things.filter fun t => usesB t id).map Thg.id
theorem usr_mem {c : Ctl} (h : chkF c = 0) {id n : Int} (hn : thereB c.things n = true) : n ∈ usrL c id ↔ usesB (getT c.things n) id = true := by
  have hr := (catOk h).ris
  obtain ⟨g1, g2⟩ := getT_id hn
  unfold usrL
  rw [List.mem_map]
  constructor
  · rintro ⟨t, ht, rfl⟩
    obtain ⟨h1, h2⟩ := List.mem_filter.1 ht
    rw [(hr.get h1).1]; exact h2
  · intro hu
    exact ⟨_, List.mem_filter.2 ⟨g2, hu⟩, g1⟩
section
variable {c : Ctl} {id fresh : Int} {title : ByteArray} {us : List Int} {n : Nat}
theorem splL_next (h : n < us.length) : splL c id fresh us (n + 1) = splL c id fresh us n ++ [renF (getT c.things us[n]) id fresh] := by
  unfold splL
  rw [List.take_add_one, List.getElem?_eq_getElem h, Option.toList_some, List.map_append]; rfl
theorem splL_len : (splL c id fresh us n).length ≤ us.length := by unfold splL; rw [List.length_map, List.length_take]; omega
theorem us_0 {k : Nat} (hk : k < us.length) (h : usF c id us k = 0) : thereB c.things us[k] = true ∧ (∀ h0 : 0 < k, (us[k-1]'(by omega)) < us[k]) ∧ usesB (getT c.things us[k]) id = true := by
  unfold usF at h
  rw [dif_pos hk] at h
  have t1 : ∀ {x : Bool}, ¬ x = false → x = true := fun {x} hx => by cases x <;> simp_all
  split at h
  · omega
  · rename_i h1
    split at h
    · omega
    · rename_i h2
      split at h
      · omega
      · rename_i h3
        exact ⟨t1 h1, fun h0 => by
          have : ¬ us[k] ≤ (us[k-1]'(by omega)) := fun hh => h2 ⟨h0, hh⟩
          omega, t1 h3⟩
theorem us_up (h : ffst (usF c id us) us.length = 0) : us.Pairwise fun x y => x < y := List.pairwise_iff_getElem.2 fun i j hi hj hij => by
  induction j with
  | zero => omega
  | succ j ih =>
    have h1 := (us_0 hj (ffst_all _ h _ hj)).2.1 (by omega)
    simp only [Nat.add_sub_cancel] at h1
    by_cases he : i = j
    · subst he; exact h1
    · have := ih (by omega) (by omega); omega
theorem spl_ids (h : ffst (usF c id us) us.length = 0) : (splL c id fresh us us.length).map Thg.id = us := by
  unfold splL
  rw [List.take_length, List.map_map]
  refine (List.map_congr_left (g := fun x => x) fun u hu => ?_).trans (List.map_id us)
  obtain ⟨k, hk, rfl⟩ := List.mem_iff_getElem.1 hu
  exact (getT_id (us_0 hk (ffst_all _ h k hk)).1).1
theorem spl_ris (h : ffst (usF c id us) us.length = 0) : RisBy Thg.id (splL c id fresh us us.length) := by
  have h1 := us_up h
  have h2 := spl_ids (fresh := fresh) h
  unfold RisBy
  rw [← h2, List.pairwise_map] at h1
  exact h1
/-- Whatever rises and has the same elements is what the reference puts together. -/
theorem spl_sort (h : ffst (usF c id us) us.length = 0) (hf : thereB c.things fresh = false) {l : List Thg} (hl : RisBy Thg.id l) (hp : l.Perm (newT c id fresh title :: splL c id fresh us us.length)) : l = putsF Thg.id [newT c id fresh title] (splL c id fresh us us.length) := by
  have r1 := spl_ris (fresh := fresh) h
  have r0 : RisBy Thg.id [newT c id fresh title] := List.pairwise_singleton ..
  refine risBy_ext hl (putsF_ris _ r0) fun k => ?_
  rw [putsF_find k _ r1 r0]
  have hmem : ∀ t, t ∈ l ↔ t = newT c id fresh title ∨ t ∈ splL c id fresh us us.length := fun t => by rw [hp.mem_iff, List.mem_cons]
  have hne : ∀ t ∈ splL c id fresh us us.length, t.id ≠ fresh := fun t ht he => by
    have h2 : t.id ∈ us := by rw [← spl_ids (fresh := fresh) h]; exact List.mem_map.2 ⟨t, ht, rfl⟩
    obtain ⟨k, hk, hke⟩ := List.mem_iff_getElem.1 h2
    have h3 := (us_0 hk (ffst_all _ h k hk)).1
    rw [hke, he, hf] at h3; cases h3
  cases hs : findBy Thg.id (splL c id fresh us us.length) k with
  | some t =>
    obtain ⟨m1, m2⟩ := findBy_some hs
    have := hl.find ((hmem t).2 (.inr m1))
    rw [m2] at this; exact this
  | none =>
    rw [findBy_cons, findBy_nil]
    by_cases hk : (newT c id fresh title).id = k
    · rw [if_pos hk]
      have := hl.find ((hmem _).2 (.inl rfl))
      rw [hk] at this; exact this
    · rw [if_neg hk]
      refine findBy_none.2 fun t ht he => ?_
      rcases (hmem t).1 ht with rfl | ht
      · exact hk he
      · exact findBy_none.1 hs t ht he
end


/-! Types. -/
namespace TyUC
theorem fv_41_6 : fieldB Tryz.prog 41 6 6 = true := by kernel_rfl
theorem sz_3 : ∀ w, (sizeOf 3).run Tryz.prog w = .ok 1 w := SizeT.of (by kernel_rfl)
theorem sz_9 : ∀ w, (sizeOf 9).run Tryz.prog w = .ok 1 w := SizeT.of (by kernel_rfl)
end TyUC
open TyH3 TyH5 TyJ3 TyJ4 TyJ5 TyKA TyKB TyKC TyKD TyKE TyKF TyKG TyLA TyLB TyLC TyLD TyLE TyLF TyLG TyLH TyLI TyLJ TyLK TyLL TyLM TyLN TyLO TyLP TyLQ TyLR TyLS TyLT TyLU TyLV TyLW TyLX TyLY TyMA TyNA TyNC TyNE TyKH TyNF TyUC

set_option linter.unusedSimpArgs false
/-- A thing whose parts are the object 71. -/
def thgS (t : Thg) : List S := [.d (.v (.int .i64 t.id)), .d (.v (.int .i64 t.kind)), .d (.v (.string t.title)), .d (.v (.string t.code)), .d (.v (.int .i64 t.since)), .d (.v (.int .i64 t.parent)), .own 71]
theorem hag_thg : AggT Tryz.prog 41 7 := .of (by kernel_rfl)
theorem hsz_thg : ∀ w, (sizeOf 41).run Tryz.prog w = .ok 7 w := SizeT.of (by kernel_rfl)
theorem in3 {σ : Obs} {a b c : Nat × Ob} (h1 : a ∈ σ) (h2 : b ∈ σ) (h3 : c ∈ σ) : ∀ p ∈ [a, b, c], p ∈ σ := fun p hp => by
  simp only [List.mem_cons, List.not_mem_nil, or_false] at hp
  rcases hp with rfl | rfl | rfl <;> assumption
section
variable {a b : Int} {l : List Int} {k : Nat}
/-- The first k parts renamed. -/
def rnTo (a b : Int) (l : List Int) (k : Nat) : List Int := (l.take k).map (renN a b) ++ l.drop k
theorem rnTo_0 : rnTo a b l 0 = l := rfl
theorem rnTo_len : (rnTo a b l k).length = l.length := by unfold rnTo; rw [List.length_append, List.length_map, List.length_take, List.length_drop]; omega
theorem rnTo_all : rnTo a b l l.length = l.map (renN a b) := by unfold rnTo; rw [List.take_length, List.drop_length, List.append_nil]
theorem rnTo_get (h : k < l.length) : (rnTo a b l k)[k]? = some l[k] := by
  unfold rnTo
  rw [List.getElem?_append_right (by rw [List.length_map, List.length_take]; omega), List.length_map, List.length_take, List.getElem?_drop, Nat.min_eq_left (by omega), Nat.sub_self, Nat.add_zero, List.getElem?_eq_getElem h]
theorem rn_at (h : k < l.length) : ((rnTo a b l k).map intD)[k]? = some (intD l[k]) := by rw [List.getElem?_map, rnTo_get h]; rfl
theorem rnTo_next (h : k < l.length) : rnTo a b l (k + 1) = (rnTo a b l k).set k (renN a b l[k]) := by
  unfold rnTo
  rw [List.set_append_right k (renN a b l[k]) (by rw [List.length_map, List.length_take]; omega), List.length_map, List.length_take, Nat.min_eq_left (by omega), Nat.sub_self, List.drop_eq_getElem_cons h, List.set_cons_zero, List.take_add_one, List.getElem?_eq_getElem h, Option.toList_some, List.map_append, List.append_assoc]
  rfl
theorem rnTo_hit (h : k < l.length) (he : l[k] = a) : rnTo a b l (k + 1) = (rnTo a b l k).set k b := by rw [rnTo_next h, show renN a b l[k] = b from if_pos he]
theorem rnTo_no (h : k < l.length) (he : ¬ l[k] = a) : rnTo a b l (k + 1) = rnTo a b l k := by
  rw [rnTo_next h, show renN a b l[k] = l[k] from if_neg he]
  apply List.ext_getElem?
  intro i
  rw [List.getElem?_set]
  by_cases hi : k = i
  · subst hi; rw [if_pos rfl, rnTo_get h, if_pos (by rw [rnTo_len]; exact h)]
  · rw [if_neg hi]
theorem rn_set {x : Int} : ((rnTo a b l k).set k x).map intD = ((rnTo a b l k).map intD).set k (intD x) := List.map_set
end

set_option maxRecDepth 100000 in
set_option maxHeartbeats 1000000 in
theorem c_ownX (t : Thg) (hl : t.parts.length ≤ 1048576) : XSCall Tryz.prog 56 [.d (.agg t.ds)] [] [(100, .val (thgS t)), (71, .row 3 1 (t.parts.map intD))] (fun i => Nat.blt i 102) (.own 100) := by
 refine xval_of (n := 8) (b := 2) (t := 41) (size := 7) (vid := 100) (ss' := thgS t) Tryz.func56 rfl (by kernel_rfl) rfl rfl hag_thg rfl rfl rfl ?_
 intro B w0 F0 fr ρ0
 refine .sr ?_
 refine .boxOwn 11 rfl rfl rfl rfl rfl rfl rfl ?_
 refine .alloc 12 rfl rfl rfl rfl zt_41 rfl rfl rfl (.nil ?_)
 refine .sr ?_
 refine .sA (.fieldAddrP rfl fo_41_6 rfl) ?_
 refine .sA (.loadP rfl sc_33 rfl (.tail _ (.head _)) rfl) ?_
 refine .callO 71 rfl rfl rfl rfl (.cons (.rfl' rfl) .nil) (c_clInt t.parts hl) rfl ?_
 refine .sA (.fieldAddrP rfl fo_41_6 rfl) ?_
 refine .storeS rfl rfl rfl sz_33 rfl (.tail _ (.tail _ (.head _))) rfl (.head _) (Nat.le_of_ble_eq_true rfl) (.nil ?_)
 refine .sr ?_
 refine .loadVal 13 rfl rfl rfl rfl hag_thg rfl (.tail _ (.tail _ (.head _))) (Nat.le_refl 7) rfl ?_
 refine .eff rfl rfl (.storeVal (ss' := thgS t) rfl rfl hsz_thg rfl (.tail _ (.tail _ (.head _))) rfl (.head _) rfl (Nat.le_refl 7)) (.nil ?_)
 refine .ret ?_
 refine ⟨⟨12, thgS t, rfl, .tail _ (.tail _ (.head _)), rfl, rfl, rfl⟩, AllIn.of fun p hp => by obtain rfl := List.mem_singleton.1 hp; exact .tail _ (.head _)⟩

set_option maxRecDepth 100000 in
set_option maxHeartbeats 1000000 in
theorem c_ren (t : Thg) (a b : Int) (hl : t.parts.length ≤ 1048576) : ACall Tryz.prog 42 [.agg t.ds, .v (.int .i64 a), .v (.int .i64 b)] (.agg (renF t a b).ds) := by
 refine acall_ofR (n := 35) (ds' := [.agg (renF t a b).ds]) Tryz.func42 rfl (by kernel_rfl) rfl [.cell 6 41] rfl rfl ?_
 intro B w0 F0 fr
 refine .sr ?_
 refine .boxOwn 301 rfl rfl rfl rfl rfl rfl rfl ?_
 refine .alloc 302 rfl rfl rfl rfl zt_41 rfl rfl rfl (.nil ?_)
 refine .sr ?_
 refine .sA (.loadPU rfl ag_41 rfl (.tail _ (.head _)) rfl rfl) ?_
 refine .callXS rfl rfl rfl (ArgsS.cons (SLe.refl _) ArgsS.nil) (c_ownX t hl) trivial rfl rfl (fun _ _ => rfl) ?_
 refine .eff rfl rfl (.storeVal (ss' := thgS t) rfl rfl hsz_thg rfl (.tail _ (.tail _ (.tail _ (.head _)))) rfl (.head _) rfl (Nat.le_refl 7)) (.nil ?_)
 refine .seq ?_
 refine .sr ?_
 refine .sA (.fieldAddrP rfl fo_41_5 rfl) ?_
 refine .sA (.loadP rfl sc_3 rfl (.tail _ (.tail _ (.tail _ (.head _)))) rfl) ?_
 refine .mA ?_
 refine .sA (.eql rfl rfl rfl) (.nil ?_)
 refine .cond rfl (fun h1 => ?_) (fun h1 => ?_)
 ·replace h1 := of_decide_eq_true h1
  have HP : renN a b t.parent = b := if_pos h1
  refine .region ?_
  refine .mA ?_
  refine .sA (.fieldAddrP rfl fo_41_5 rfl) ?_
  refine .store rfl rfl rfl sz_3 rfl (.tail _ (.tail _ (.tail _ (.head _)))) rfl rfl rfl (Nat.le_of_ble_eq_true rfl) (.nil ?_)
  refine .seq ?_
  refine .sr ?_
  refine .sA (.fieldAddrP rfl fo_41_6 rfl) ?_
  refine .sA (.loadP rfl sc_33 rfl (.tail _ (.tail _ (.tail _ (.head _)))) rfl) ?_
  refine .sA (.lenOwn rfl et_33.ht rfl (.tail _ (.head _))) ?_
  refine .mA (.nil ?_)
  refine .block ?_
  refine .loop (G := Nat) (fun k => Env.of [(20, .d (.v (.int .i64 (k : Int)))), (18, .own 71), (19, .d (.v (.int .i64 ((t.parts.map intD).length : Int)))), (1, .d (.v (.int .i64 a))), (2, .d (.v (.int .i64 b))), (3, .ptr 301 0), (6, .ptr 302 0)]) (fun k => [(71, .row 3 1 ((rnTo a b t.parts k).map intD)), (301, .cells [.d (.v (.int .i64 t.id)), .d (.v (.int .i64 t.kind)), .d (.v (.string t.title)), .d (.v (.string t.code)), .d (.v (.int .i64 t.since)), .d (.v (.int .i64 (renN a b t.parent))), .own 71]), (302, .cells [.d (.v (.int .i64 0)), .d (.v (.int .i64 0)), .d (.v (.string ⟨#[]⟩)), .d (.v (.string ⟨#[]⟩)), .d (.v (.int .i64 0)), .d (.v (.int .i64 0)), .d (.v (.slice none 0 0))])]) (fun k => k ≤ t.parts.length) (fun k => t.parts.length - k) 0 (Nat.zero_le _) (Sub.less ⟨(SLe.of_eq rfl), SLe.refl _, SLe.refl _, SLe.refl _, SLe.refl _, SLe.refl _, SLe.refl _, trivial⟩ (by rw [HP, rnTo_0]; exact in3 (.tail _ (.head _)) (.tail _ (.tail _ (.tail _ (.head _)))) (.tail _ (.tail _ (.head _))))) ?_
  intro k hk
  refine .sr ?_
  refine .sA (.lss rfl rfl rfl) (.nil ?_)
  refine .seq ?_
  refine .cond rfl (fun h2 => ?_) (fun h2 => ?_)
  ·replace h2 := of_decide_eq_true h2
   rw [List.length_map] at h2
   have hlt : k < t.parts.length := by omega
   refine .skip ?_
   refine .seq ?_
   refine .block ?_
   refine .sr ?_
   refine .mA ?_
   refine .sA (.indexOwn rfl et_33 rfl rfl (.head _) k (by omega) (by rw [List.length_map, rnTo_len]; omega)) ?_
   refine .sA (.loadRow rfl sc_3 rfl (.head _) k 0 rfl (rn_at hlt) rfl) ?_
   refine .aA ?_
   refine .aA (.nil ?_)
   refine .sr ?_
   refine .mA ?_
   refine .mA ?_
   refine .sA (.eql rfl rfl rfl) (.nil ?_)
   refine .cond rfl (fun h3 => ?_) (fun h3 => ?_)
   ·replace h3 := of_decide_eq_true h3
    have HB := rnTo_hit (b := b) hlt h3
    refine .region ?_
    refine .sA (.fieldAddrP rfl fo_41_6 rfl) ?_
    refine .sA (.loadP rfl sc_33 rfl (.tail _ (.head _)) rfl) ?_
    refine .mA ?_
    refine .mA ?_
    refine .sA (.indexOwn rfl et_33 rfl rfl (.head _) k (by omega) (by rw [List.length_map, rnTo_len]; omega)) ?_
    refine .storeRow rfl rfl rfl sz_3 rfl (.head _) rfl rfl rfl k 0 rfl (rn_at hlt) (Nat.le_of_ble_eq_true rfl) (.nil ?_)
    refine .region ?_
    refine .sA (.add64 rfl rfl rfl (by omega) (by omega)) ?_
    refine .mA (.nil ?_)
    refine ⟨k + 1, (by omega), (by dsimp only; omega), Sub.less ⟨(SLe.of_eq rfl), SLe.refl _, SLe.refl _, SLe.refl _, SLe.refl _, SLe.refl _, SLe.refl _, trivial⟩ (obs_e (by dsimp only; rw [HB]; first | done | rfl | (rw [rn_set]; rfl)))⟩
   replace h3 := of_decide_eq_false h3
   have HB := rnTo_no (b := b) hlt h3
   refine .skip ?_
   refine .region ?_
   refine .sA (.add64 rfl rfl rfl (by omega) (by omega)) ?_
   refine .mA (.nil ?_)
   refine ⟨k + 1, (by omega), (by dsimp only; omega), Sub.less ⟨(SLe.of_eq rfl), SLe.refl _, SLe.refl _, SLe.refl _, SLe.refl _, SLe.refl _, SLe.refl _, trivial⟩ (obs_e (by dsimp only; rw [HB]; first | done | rfl | (rw [rn_set]; rfl)))⟩
  replace h2 := of_decide_eq_false h2
  rw [List.length_map] at h2
  obtain rfl : k = t.parts.length := by omega
  rw [rnTo_all]
  refine .exit ?_
  refine .seq ?_
  refine .freezeIn 301 6 rfl (.head _) (.head _) ?_
  refine .region ?_
  refine .sA (.loadPU rfl ag_41 rfl (.head _) rfl rfl) ?_
  refine .store rfl rfl rfl sz_41 rfl (.tail _ (.head _)) rfl rfl rfl (Nat.le_of_ble_eq_true rfl) (.nil ?_)
  refine .ret ?_
  refine ⟨RetR.agg rfl (.tail _ (.head _)) ag_41 rfl (.cons .d (.cons .d (.cons .d (.cons .d (.cons .d (.cons .d (.cons .d .nil))))))), trivial⟩
  all_goals (rfl)
 replace h1 := of_decide_eq_false h1
 have HP : renN a b t.parent = t.parent := if_neg h1
 refine .skip ?_
 refine .seq ?_
 refine .sr ?_
 refine .sA (.fieldAddrP rfl fo_41_6 rfl) ?_
 refine .sA (.loadP rfl sc_33 rfl (.tail _ (.tail _ (.tail _ (.head _)))) rfl) ?_
 refine .sA (.lenOwn rfl et_33.ht rfl (.tail _ (.head _))) ?_
 refine .mA (.nil ?_)
 refine .block ?_
 refine .loop (G := Nat) (fun k => Env.of [(20, .d (.v (.int .i64 (k : Int)))), (18, .own 71), (19, .d (.v (.int .i64 ((t.parts.map intD).length : Int)))), (1, .d (.v (.int .i64 a))), (2, .d (.v (.int .i64 b))), (3, .ptr 301 0), (6, .ptr 302 0)]) (fun k => [(71, .row 3 1 ((rnTo a b t.parts k).map intD)), (301, .cells [.d (.v (.int .i64 t.id)), .d (.v (.int .i64 t.kind)), .d (.v (.string t.title)), .d (.v (.string t.code)), .d (.v (.int .i64 t.since)), .d (.v (.int .i64 (renN a b t.parent))), .own 71]), (302, .cells [.d (.v (.int .i64 0)), .d (.v (.int .i64 0)), .d (.v (.string ⟨#[]⟩)), .d (.v (.string ⟨#[]⟩)), .d (.v (.int .i64 0)), .d (.v (.int .i64 0)), .d (.v (.slice none 0 0))])]) (fun k => k ≤ t.parts.length) (fun k => t.parts.length - k) 0 (Nat.zero_le _) (Sub.less ⟨(SLe.of_eq rfl), SLe.refl _, SLe.refl _, SLe.refl _, SLe.refl _, SLe.refl _, SLe.refl _, trivial⟩ (by rw [HP, rnTo_0]; exact in3 (.tail _ (.head _)) (.tail _ (.tail _ (.tail _ (.head _)))) (.tail _ (.tail _ (.head _))))) ?_
 intro k hk
 refine .sr ?_
 refine .sA (.lss rfl rfl rfl) (.nil ?_)
 refine .seq ?_
 refine .cond rfl (fun h4 => ?_) (fun h4 => ?_)
 ·replace h4 := of_decide_eq_true h4
  rw [List.length_map] at h4
  have hlt : k < t.parts.length := by omega
  refine .skip ?_
  refine .seq ?_
  refine .block ?_
  refine .sr ?_
  refine .mA ?_
  refine .sA (.indexOwn rfl et_33 rfl rfl (.head _) k (by omega) (by rw [List.length_map, rnTo_len]; omega)) ?_
  refine .sA (.loadRow rfl sc_3 rfl (.head _) k 0 rfl (rn_at hlt) rfl) ?_
  refine .aA ?_
  refine .aA (.nil ?_)
  refine .sr ?_
  refine .mA ?_
  refine .mA ?_
  refine .sA (.eql rfl rfl rfl) (.nil ?_)
  refine .cond rfl (fun h5 => ?_) (fun h5 => ?_)
  ·replace h5 := of_decide_eq_true h5
   have HB := rnTo_hit (b := b) hlt h5
   refine .region ?_
   refine .sA (.fieldAddrP rfl fo_41_6 rfl) ?_
   refine .sA (.loadP rfl sc_33 rfl (.tail _ (.head _)) rfl) ?_
   refine .mA ?_
   refine .mA ?_
   refine .sA (.indexOwn rfl et_33 rfl rfl (.head _) k (by omega) (by rw [List.length_map, rnTo_len]; omega)) ?_
   refine .storeRow rfl rfl rfl sz_3 rfl (.head _) rfl rfl rfl k 0 rfl (rn_at hlt) (Nat.le_of_ble_eq_true rfl) (.nil ?_)
   refine .region ?_
   refine .sA (.add64 rfl rfl rfl (by omega) (by omega)) ?_
   refine .mA (.nil ?_)
   refine ⟨k + 1, (by omega), (by dsimp only; omega), Sub.less ⟨(SLe.of_eq rfl), SLe.refl _, SLe.refl _, SLe.refl _, SLe.refl _, SLe.refl _, SLe.refl _, trivial⟩ (obs_e (by dsimp only; rw [HB]; first | done | rfl | (rw [rn_set]; rfl)))⟩
  replace h5 := of_decide_eq_false h5
  have HB := rnTo_no (b := b) hlt h5
  refine .skip ?_
  refine .region ?_
  refine .sA (.add64 rfl rfl rfl (by omega) (by omega)) ?_
  refine .mA (.nil ?_)
  refine ⟨k + 1, (by omega), (by dsimp only; omega), Sub.less ⟨(SLe.of_eq rfl), SLe.refl _, SLe.refl _, SLe.refl _, SLe.refl _, SLe.refl _, SLe.refl _, trivial⟩ (obs_e (by dsimp only; rw [HB]; first | done | rfl | (rw [rn_set]; rfl)))⟩
 replace h4 := of_decide_eq_false h4
 rw [List.length_map] at h4
 obtain rfl : k = t.parts.length := by omega
 rw [rnTo_all]
 refine .exit ?_
 refine .seq ?_
 refine .freezeIn 301 6 rfl (.head _) (.head _) ?_
 refine .region ?_
 refine .sA (.loadPU rfl ag_41 rfl (.head _) rfl rfl) ?_
 refine .store rfl rfl rfl sz_41 rfl (.tail _ (.head _)) rfl rfl rfl (Nat.le_of_ble_eq_true rfl) (.nil ?_)
 refine .ret ?_
 refine ⟨RetR.agg rfl (.tail _ (.head _)) ag_41 rfl (.cons .d (.cons .d (.cons .d (.cons .d (.cons .d (.cons .d (.cons .d .nil))))))), trivial⟩
 all_goals (rfl)

set_option maxRecDepth 100000 in
set_option maxHeartbeats 1000000 in
theorem c_instead (t : Thg) (a b : Int) (hl : t.parts.length ≤ 1048576) : ACall Tryz.prog 61 [.agg t.ds, .v (.int .i64 a), .v (.int .i64 b)] (.agg (renF t a b).ds) := by
 refine acall_ofR (n := 37) (ds' := [.agg (renF t a b).ds]) Tryz.func61 rfl (by kernel_rfl) rfl [.cell 6 41] rfl rfl ?_
 intro B w0 F0 fr
 refine .sr ?_
 refine .boxOwn 301 rfl rfl rfl rfl rfl rfl rfl ?_
 refine .alloc 302 rfl rfl rfl rfl zt_41 rfl rfl rfl (.nil ?_)
 refine .seq ?_
 refine .sr ?_
 refine .sA (.fieldAddrP rfl fo_41_5 rfl) ?_
 refine .sA (.loadP rfl sc_3 rfl (.tail _ (.head _)) rfl) ?_
 refine .mA ?_
 refine .sA (.eql rfl rfl rfl) (.nil ?_)
 refine .cond rfl (fun h1 => ?_) (fun h1 => ?_)
 ·replace h1 := of_decide_eq_true h1
  have HP : renN a b t.parent = b := if_pos h1
  refine .region ?_
  refine .mA ?_
  refine .sA (.fieldAddrP rfl fo_41_5 rfl) ?_
  refine .store rfl rfl rfl sz_3 rfl (.tail _ (.head _)) rfl rfl rfl (Nat.le_of_ble_eq_true rfl) (.nil ?_)
  refine .sr ?_
  refine .sA (.fieldAddrP rfl fo_41_6 rfl) ?_
  refine .sA (.loadP rfl sc_33 rfl (.tail _ (.head _)) rfl) ?_
  refine .callO 71 rfl rfl rfl rfl (.cons (.rfl' rfl) .nil) (c_clInt t.parts hl) rfl ?_
  refine .sA (.fieldAddrP rfl fo_41_6 rfl) ?_
  refine .storeS rfl rfl rfl sz_33 rfl (.tail _ (.tail _ (.head _))) rfl (.head _) (Nat.le_of_ble_eq_true rfl) (.nil ?_)
  refine .seq ?_
  refine .sr ?_
  refine .sA (.fieldAddrP rfl fo_41_6 rfl) ?_
  refine .sA (.loadP rfl sc_33 rfl (.tail _ (.tail _ (.head _))) rfl) ?_
  refine .sA (.lenOwn rfl et_33.ht rfl (.head _)) ?_
  refine .mA (.nil ?_)
  refine .block ?_
  refine .loop (G := Nat) (fun k => Env.of [(22, .d (.v (.int .i64 (k : Int)))), (20, .own 71), (21, .d (.v (.int .i64 ((t.parts.map intD).length : Int)))), (1, .d (.v (.int .i64 a))), (2, .d (.v (.int .i64 b))), (3, .ptr 301 0), (6, .ptr 302 0)]) (fun k => [(71, .row 3 1 ((rnTo a b t.parts k).map intD)), (301, .cells [.d (.v (.int .i64 t.id)), .d (.v (.int .i64 t.kind)), .d (.v (.string t.title)), .d (.v (.string t.code)), .d (.v (.int .i64 t.since)), .d (.v (.int .i64 (renN a b t.parent))), .own 71]), (302, .cells [.d (.v (.int .i64 0)), .d (.v (.int .i64 0)), .d (.v (.string ⟨#[]⟩)), .d (.v (.string ⟨#[]⟩)), .d (.v (.int .i64 0)), .d (.v (.int .i64 0)), .d (.v (.slice none 0 0))])]) (fun k => k ≤ t.parts.length) (fun k => t.parts.length - k) 0 (Nat.zero_le _) (Sub.less ⟨(SLe.of_eq rfl), SLe.refl _, SLe.refl _, SLe.refl _, SLe.refl _, SLe.refl _, SLe.refl _, trivial⟩ (by rw [HP, rnTo_0]; exact in3 (.head _) (.tail _ (.tail _ (.head _))) (.tail _ (.head _)))) ?_
  intro k hk
  refine .sr ?_
  refine .sA (.lss rfl rfl rfl) (.nil ?_)
  refine .seq ?_
  refine .cond rfl (fun h2 => ?_) (fun h2 => ?_)
  ·replace h2 := of_decide_eq_true h2
   rw [List.length_map] at h2
   have hlt : k < t.parts.length := by omega
   refine .skip ?_
   refine .seq ?_
   refine .block ?_
   refine .sr ?_
   refine .mA ?_
   refine .sA (.indexOwn rfl et_33 rfl rfl (.head _) k (by omega) (by rw [List.length_map, rnTo_len]; omega)) ?_
   refine .sA (.loadRow rfl sc_3 rfl (.head _) k 0 rfl (rn_at hlt) rfl) ?_
   refine .aA ?_
   refine .aA (.nil ?_)
   refine .sr ?_
   refine .mA ?_
   refine .mA ?_
   refine .sA (.eql rfl rfl rfl) (.nil ?_)
   refine .cond rfl (fun h3 => ?_) (fun h3 => ?_)
   ·replace h3 := of_decide_eq_true h3
    have HB := rnTo_hit (b := b) hlt h3
    refine .region ?_
    refine .sA (.fieldAddrP rfl fo_41_6 rfl) ?_
    refine .sA (.loadP rfl sc_33 rfl (.tail _ (.head _)) rfl) ?_
    refine .mA ?_
    refine .mA ?_
    refine .sA (.indexOwn rfl et_33 rfl rfl (.head _) k (by omega) (by rw [List.length_map, rnTo_len]; omega)) ?_
    refine .storeRow rfl rfl rfl sz_3 rfl (.head _) rfl rfl rfl k 0 rfl (rn_at hlt) (Nat.le_of_ble_eq_true rfl) (.nil ?_)
    refine .region ?_
    refine .sA (.add64 rfl rfl rfl (by omega) (by omega)) ?_
    refine .mA (.nil ?_)
    refine ⟨k + 1, (by omega), (by dsimp only; omega), Sub.less ⟨(SLe.of_eq rfl), SLe.refl _, SLe.refl _, SLe.refl _, SLe.refl _, SLe.refl _, SLe.refl _, trivial⟩ (obs_e (by dsimp only; rw [HB]; first | done | rfl | (rw [rn_set]; rfl)))⟩
   replace h3 := of_decide_eq_false h3
   have HB := rnTo_no (b := b) hlt h3
   refine .skip ?_
   refine .region ?_
   refine .sA (.add64 rfl rfl rfl (by omega) (by omega)) ?_
   refine .mA (.nil ?_)
   refine ⟨k + 1, (by omega), (by dsimp only; omega), Sub.less ⟨(SLe.of_eq rfl), SLe.refl _, SLe.refl _, SLe.refl _, SLe.refl _, SLe.refl _, SLe.refl _, trivial⟩ (obs_e (by dsimp only; rw [HB]; first | done | rfl | (rw [rn_set]; rfl)))⟩
  replace h2 := of_decide_eq_false h2
  rw [List.length_map] at h2
  obtain rfl : k = t.parts.length := by omega
  rw [rnTo_all]
  refine .exit ?_
  refine .seq ?_
  refine .freezeIn 301 6 rfl (.head _) (.head _) ?_
  refine .region ?_
  refine .sA (.loadPU rfl ag_41 rfl (.head _) rfl rfl) ?_
  refine .store rfl rfl rfl sz_41 rfl (.tail _ (.head _)) rfl rfl rfl (Nat.le_of_ble_eq_true rfl) (.nil ?_)
  refine .ret ?_
  refine ⟨RetR.agg rfl (.tail _ (.head _)) ag_41 rfl (.cons .d (.cons .d (.cons .d (.cons .d (.cons .d (.cons .d (.cons .d .nil))))))), trivial⟩
  all_goals (rfl)
 replace h1 := of_decide_eq_false h1
 have HP : renN a b t.parent = t.parent := if_neg h1
 refine .skip ?_
 refine .sr ?_
 refine .sA (.fieldAddrP rfl fo_41_6 rfl) ?_
 refine .sA (.loadP rfl sc_33 rfl (.tail _ (.head _)) rfl) ?_
 refine .callO 71 rfl rfl rfl rfl (.cons (.rfl' rfl) .nil) (c_clInt t.parts hl) rfl ?_
 refine .sA (.fieldAddrP rfl fo_41_6 rfl) ?_
 refine .storeS rfl rfl rfl sz_33 rfl (.tail _ (.tail _ (.head _))) rfl (.head _) (Nat.le_of_ble_eq_true rfl) (.nil ?_)
 refine .seq ?_
 refine .sr ?_
 refine .sA (.fieldAddrP rfl fo_41_6 rfl) ?_
 refine .sA (.loadP rfl sc_33 rfl (.tail _ (.tail _ (.head _))) rfl) ?_
 refine .sA (.lenOwn rfl et_33.ht rfl (.head _)) ?_
 refine .mA (.nil ?_)
 refine .block ?_
 refine .loop (G := Nat) (fun k => Env.of [(22, .d (.v (.int .i64 (k : Int)))), (20, .own 71), (21, .d (.v (.int .i64 ((t.parts.map intD).length : Int)))), (1, .d (.v (.int .i64 a))), (2, .d (.v (.int .i64 b))), (3, .ptr 301 0), (6, .ptr 302 0)]) (fun k => [(71, .row 3 1 ((rnTo a b t.parts k).map intD)), (301, .cells [.d (.v (.int .i64 t.id)), .d (.v (.int .i64 t.kind)), .d (.v (.string t.title)), .d (.v (.string t.code)), .d (.v (.int .i64 t.since)), .d (.v (.int .i64 (renN a b t.parent))), .own 71]), (302, .cells [.d (.v (.int .i64 0)), .d (.v (.int .i64 0)), .d (.v (.string ⟨#[]⟩)), .d (.v (.string ⟨#[]⟩)), .d (.v (.int .i64 0)), .d (.v (.int .i64 0)), .d (.v (.slice none 0 0))])]) (fun k => k ≤ t.parts.length) (fun k => t.parts.length - k) 0 (Nat.zero_le _) (Sub.less ⟨(SLe.of_eq rfl), SLe.refl _, SLe.refl _, SLe.refl _, SLe.refl _, SLe.refl _, SLe.refl _, trivial⟩ (by rw [HP, rnTo_0]; exact in3 (.head _) (.tail _ (.tail _ (.head _))) (.tail _ (.head _)))) ?_
 intro k hk
 refine .sr ?_
 refine .sA (.lss rfl rfl rfl) (.nil ?_)
 refine .seq ?_
 refine .cond rfl (fun h4 => ?_) (fun h4 => ?_)
 ·replace h4 := of_decide_eq_true h4
  rw [List.length_map] at h4
  have hlt : k < t.parts.length := by omega
  refine .skip ?_
  refine .seq ?_
  refine .block ?_
  refine .sr ?_
  refine .mA ?_
  refine .sA (.indexOwn rfl et_33 rfl rfl (.head _) k (by omega) (by rw [List.length_map, rnTo_len]; omega)) ?_
  refine .sA (.loadRow rfl sc_3 rfl (.head _) k 0 rfl (rn_at hlt) rfl) ?_
  refine .aA ?_
  refine .aA (.nil ?_)
  refine .sr ?_
  refine .mA ?_
  refine .mA ?_
  refine .sA (.eql rfl rfl rfl) (.nil ?_)
  refine .cond rfl (fun h5 => ?_) (fun h5 => ?_)
  ·replace h5 := of_decide_eq_true h5
   have HB := rnTo_hit (b := b) hlt h5
   refine .region ?_
   refine .sA (.fieldAddrP rfl fo_41_6 rfl) ?_
   refine .sA (.loadP rfl sc_33 rfl (.tail _ (.head _)) rfl) ?_
   refine .mA ?_
   refine .mA ?_
   refine .sA (.indexOwn rfl et_33 rfl rfl (.head _) k (by omega) (by rw [List.length_map, rnTo_len]; omega)) ?_
   refine .storeRow rfl rfl rfl sz_3 rfl (.head _) rfl rfl rfl k 0 rfl (rn_at hlt) (Nat.le_of_ble_eq_true rfl) (.nil ?_)
   refine .region ?_
   refine .sA (.add64 rfl rfl rfl (by omega) (by omega)) ?_
   refine .mA (.nil ?_)
   refine ⟨k + 1, (by omega), (by dsimp only; omega), Sub.less ⟨(SLe.of_eq rfl), SLe.refl _, SLe.refl _, SLe.refl _, SLe.refl _, SLe.refl _, SLe.refl _, trivial⟩ (obs_e (by dsimp only; rw [HB]; first | done | rfl | (rw [rn_set]; rfl)))⟩
  replace h5 := of_decide_eq_false h5
  have HB := rnTo_no (b := b) hlt h5
  refine .skip ?_
  refine .region ?_
  refine .sA (.add64 rfl rfl rfl (by omega) (by omega)) ?_
  refine .mA (.nil ?_)
  refine ⟨k + 1, (by omega), (by dsimp only; omega), Sub.less ⟨(SLe.of_eq rfl), SLe.refl _, SLe.refl _, SLe.refl _, SLe.refl _, SLe.refl _, SLe.refl _, trivial⟩ (obs_e (by dsimp only; rw [HB]; first | done | rfl | (rw [rn_set]; rfl)))⟩
 replace h4 := of_decide_eq_false h4
 rw [List.length_map] at h4
 obtain rfl : k = t.parts.length := by omega
 rw [rnTo_all]
 refine .exit ?_
 refine .seq ?_
 refine .freezeIn 301 6 rfl (.head _) (.head _) ?_
 refine .region ?_
 refine .sA (.loadPU rfl ag_41 rfl (.head _) rfl rfl) ?_
 refine .store rfl rfl rfl sz_41 rfl (.tail _ (.head _)) rfl rfl rfl (Nat.le_of_ble_eq_true rfl) (.nil ?_)
 refine .ret ?_
 refine ⟨RetR.agg rfl (.tail _ (.head _)) ag_41 rfl (.cons .d (.cons .d (.cons .d (.cons .d (.cons .d (.cons .d (.cons .d .nil))))))), trivial⟩
 all_goals (rfl)

theorem ifmin (x y : Int) : min x y = if y < x then y else x := by split <;> omega
def mrgC (g k : Thg) : ByteArray := if k.code = ⟨#[]⟩ then g.code else k.code
def mrgS (g k : Thg) : Int := if g.since < k.since then g.since else k.since
def mrgR (g k : Thg) : List Int := if k.parts.length = 0 then g.parts.map (renN g.id k.id) else k.parts.map (renN g.id k.id)
def inhR (k g : Thg) : List Int := if k.parts.length = 0 then g.parts else k.parts
def inhP (k g : Thg) : Int := if k.parent = 0 ∨ k.parent = g.id then (if g.parent = k.id then 0 else g.parent) else k.parent

set_option maxRecDepth 100000 in
set_option maxHeartbeats 1000000 in
theorem c_merged (g k : Thg) (hg : g.parts.length ≤ 1048576) (hk : k.parts.length ≤ 1048576) : ACall Tryz.prog 43 [.agg g.ds, .agg k.ds] (.agg (mrgF g k).ds) := by
 refine acall_ofR (n := 56) (ds' := [.agg (mrgF g k).ds]) Tryz.func43 rfl (by kernel_rfl) rfl [.cell 4 41] rfl rfl ?_
 intro B w0 F0 fr
 refine .sr ?_
 refine .sA (.box rfl rfl rfl) ?_
 refine .sA (.box rfl rfl rfl) ?_
 refine .alloc 301 rfl rfl rfl rfl zt_41 rfl rfl rfl (.nil ?_)
 refine .sr ?_
 refine .sA (.loadAgg rfl ag_41 rfl rfl) ?_
 refine .sA (.fieldAddr rfl fo_41_0 rfl) ?_
 refine .sA (.load rfl sc_3 rfl) ?_
 refine .sA (.fieldAddr rfl fo_41_0 rfl) ?_
 refine .sA (.load rfl sc_3 rfl) ?_
 refine .sA (.call rfl (.cons (.rfl' rfl) (.cons (.rfl' rfl) (.cons (.rfl' rfl) .nil))) (c_ren _ _ _ (by assumption))) ?_
 refine .alloc 302 rfl rfl rfl rfl zt_41 rfl rfl rfl ?_
 refine .store rfl rfl rfl sz_41 rfl (.head _) rfl rfl rfl (Nat.le_of_ble_eq_true rfl) (.nil ?_)
 refine .seqJ (True) (Env.of [(2, .d (.fp g.ds)), (3, .d (.fp k.ds)), (4, .ptr 301 0), (5, .ptr 302 0)]) [(302, .cells [.d (.v (.int .i64 k.id)), .d (.v (.int .i64 k.kind)), .d (.v (.string k.title)), .d (.v (.string k.code)), .d (.v (.int .i64 k.since)), .d (.v (.int .i64 (mrgP g k))), .d (.sl ((k.parts.map (renN g.id k.id)).map intD))]), (301, .cells [.d (.v (.int .i64 0)), .d (.v (.int .i64 0)), .d (.v (.string ⟨#[]⟩)), .d (.v (.string ⟨#[]⟩)), .d (.v (.int .i64 0)), .d (.v (.int .i64 0)), .d (.v (.slice none 0 0))])] ?_ (fun _ => ?_)
 ·skip
  refine .sr ?_
  refine .sA (.fieldAddr rfl fo_41_5 rfl) ?_
  refine .sA (.load rfl sc_3 rfl) ?_
  refine .sA (.eql rfl rfl rfl) ?_
  refine .mA ?_
  refine .split 15 rfl (fun g1 => ?_) (fun g1 => ?_)
  ·replace g1 := of_decide_eq_true g1
   have HO : k.parent = 0 ∨ k.parent = g.id := .inl g1
   refine .pA ?_
   refine .pA ?_
   refine .pA ?_
   refine .pA ?_
   refine .pA ?_
   refine .sA (.pickT rfl rfl rfl) (.nil ?_)
   refine .cond rfl (fun _ => ?_) (fun h => nomatch h)
   refine .sr ?_
   refine .sA (.fieldAddr rfl fo_41_5 rfl) ?_
   refine .sA (.load rfl sc_3 rfl) ?_
   refine .sA (.fieldAddrP rfl fo_41_5 rfl) ?_
   refine .store rfl rfl rfl sz_3 rfl (.head _) rfl rfl rfl (Nat.le_of_ble_eq_true rfl) (.nil ?_)
   refine .sr ?_
   refine .sA (.fieldAddr rfl fo_41_5 rfl) ?_
   refine .sA (.load rfl sc_3 rfl) ?_
   refine .sA (.fieldAddr rfl fo_41_0 rfl) ?_
   refine .sA (.load rfl sc_3 rfl) ?_
   refine .sA (.eql rfl rfl rfl) (.nil ?_)
   refine .cond rfl (fun h2 => ?_) (fun h2 => ?_)
   ·replace h2 := of_decide_eq_true h2
    have HJ : mrgP g k = 0 := by unfold mrgP; rw [if_pos HO, if_pos h2]
    refine .region ?_
    refine .sA (.fieldAddrP rfl fo_41_5 rfl) ?_
    refine .store rfl rfl rfl sz_3 rfl (.head _) rfl rfl rfl (Nat.le_of_ble_eq_true rfl) (.nil ?_)
    refine ⟨?_, Sub.less ⟨SLe.refl _, SLe.refl _, SLe.refl _, SLe.refl _, trivial⟩ (obs_e (by rw [HJ]; first | done | rfl))⟩
    trivial
   replace h2 := of_decide_eq_false h2
   have HJ : mrgP g k = g.parent := by unfold mrgP; rw [if_pos HO, if_neg h2]
   refine .skip ?_
   refine ⟨?_, Sub.less ⟨SLe.refl _, SLe.refl _, SLe.refl _, SLe.refl _, trivial⟩ (obs_e (by rw [HJ]; first | done | rfl))⟩
   trivial
  replace g1 := of_decide_eq_false g1
  have hn0 := g1
  refine .sG (.fieldAddr rfl fo_41_5 rfl) ?_
  refine .sG (.load rfl sc_3 rfl) ?_
  refine .sG (.fieldAddr rfl fo_41_0 rfl) ?_
  refine .sG (.load rfl sc_3 rfl) ?_
  refine .sG (.eql rfl rfl rfl) ?_
  refine .sA (.pickF rfl rfl rfl) (.nil ?_)
  refine .cond rfl (fun h3 => ?_) (fun h3 => ?_)
  ·replace h3 := of_decide_eq_true h3
   have HO : k.parent = 0 ∨ k.parent = g.id := .inr h3
   refine .sr ?_
   refine .sA (.fieldAddr rfl fo_41_5 rfl) ?_
   refine .sA (.load rfl sc_3 rfl) ?_
   refine .sA (.fieldAddrP rfl fo_41_5 rfl) ?_
   refine .store rfl rfl rfl sz_3 rfl (.head _) rfl rfl rfl (Nat.le_of_ble_eq_true rfl) (.nil ?_)
   refine .sr ?_
   refine .sA (.fieldAddr rfl fo_41_5 rfl) ?_
   refine .sA (.load rfl sc_3 rfl) ?_
   refine .sA (.fieldAddr rfl fo_41_0 rfl) ?_
   refine .sA (.load rfl sc_3 rfl) ?_
   refine .sA (.eql rfl rfl rfl) (.nil ?_)
   refine .cond rfl (fun h4 => ?_) (fun h4 => ?_)
   ·replace h4 := of_decide_eq_true h4
    have HJ : mrgP g k = 0 := by unfold mrgP; rw [if_pos HO, if_pos h4]
    refine .region ?_
    refine .sA (.fieldAddrP rfl fo_41_5 rfl) ?_
    refine .store rfl rfl rfl sz_3 rfl (.head _) rfl rfl rfl (Nat.le_of_ble_eq_true rfl) (.nil ?_)
    refine ⟨?_, Sub.less ⟨SLe.refl _, SLe.refl _, SLe.refl _, SLe.refl _, trivial⟩ (obs_e (by rw [HJ]; first | done | rfl))⟩
    trivial
   replace h4 := of_decide_eq_false h4
   have HJ : mrgP g k = g.parent := by unfold mrgP; rw [if_pos HO, if_neg h4]
   refine .skip ?_
   refine ⟨?_, Sub.less ⟨SLe.refl _, SLe.refl _, SLe.refl _, SLe.refl _, trivial⟩ (obs_e (by rw [HJ]; first | done | rfl))⟩
   trivial
  replace h3 := of_decide_eq_false h3
  have HJ : mrgP g k = renN g.id k.id k.parent := if_neg (fun hh => hh.elim hn0 h3)
  refine .skip ?_
  refine ⟨?_, Sub.less ⟨SLe.refl _, SLe.refl _, SLe.refl _, SLe.refl _, trivial⟩ (obs_e (by rw [HJ]; first | done | rfl))⟩
  trivial
 refine .seqJ (True) (Env.of [(2, .d (.fp g.ds)), (3, .d (.fp k.ds)), (4, .ptr 301 0), (5, .ptr 302 0)]) [(302, .cells [.d (.v (.int .i64 k.id)), .d (.v (.int .i64 k.kind)), .d (.v (.string k.title)), .d (.v (.string (mrgC g k))), .d (.v (.int .i64 k.since)), .d (.v (.int .i64 (mrgP g k))), .d (.sl ((k.parts.map (renN g.id k.id)).map intD))]), (301, .cells [.d (.v (.int .i64 0)), .d (.v (.int .i64 0)), .d (.v (.string ⟨#[]⟩)), .d (.v (.string ⟨#[]⟩)), .d (.v (.int .i64 0)), .d (.v (.int .i64 0)), .d (.v (.slice none 0 0))])] ?_ (fun _ => ?_)
 ·skip
  refine .sr ?_
  refine .sA (.fieldAddrP rfl fo_41_3 rfl) ?_
  refine .sA (.loadP rfl sc_9 rfl (.head _) rfl) ?_
  refine .sA (.seql rfl rfl rfl) (.nil ?_)
  refine .cond rfl (fun h5 => ?_) (fun h5 => ?_)
  ·replace h5 := of_decide_eq_true h5
   have HJ : mrgC g k = g.code := if_pos h5
   refine .region ?_
   refine .sA (.fieldAddr rfl fo_41_3 rfl) ?_
   refine .sA (.load rfl sc_9 rfl) ?_
   refine .sA (.fieldAddrP rfl fo_41_3 rfl) ?_
   refine .store rfl rfl rfl sz_9 rfl (.head _) rfl rfl rfl (Nat.le_of_ble_eq_true rfl) (.nil ?_)
   refine ⟨?_, Sub.less ⟨SLe.refl _, SLe.refl _, SLe.refl _, SLe.refl _, trivial⟩ (obs_e (by rw [HJ]; first | done | rfl))⟩
   trivial
  replace h5 := of_decide_eq_false h5
  have HJ : mrgC g k = k.code := if_neg h5
  refine .skip ?_
  refine ⟨?_, Sub.less ⟨SLe.refl _, SLe.refl _, SLe.refl _, SLe.refl _, trivial⟩ (obs_e (by rw [HJ]; first | done | rfl))⟩
  trivial
 refine .seqJ (True) (Env.of [(2, .d (.fp g.ds)), (3, .d (.fp k.ds)), (4, .ptr 301 0), (5, .ptr 302 0)]) [(302, .cells [.d (.v (.int .i64 k.id)), .d (.v (.int .i64 k.kind)), .d (.v (.string k.title)), .d (.v (.string (mrgC g k))), .d (.v (.int .i64 k.since)), .d (.v (.int .i64 (mrgP g k))), .d (.sl ((mrgR g k).map intD))]), (301, .cells [.d (.v (.int .i64 0)), .d (.v (.int .i64 0)), .d (.v (.string ⟨#[]⟩)), .d (.v (.string ⟨#[]⟩)), .d (.v (.int .i64 0)), .d (.v (.int .i64 0)), .d (.v (.slice none 0 0))])] ?_ (fun _ => ?_)
 ·skip
  refine .sr ?_
  refine .sA (.fieldAddrP rfl fo_41_6 rfl) ?_
  refine .sA (.loadP rfl sc_33 rfl (.head _) rfl) ?_
  refine .sA (.lenSl rfl et_33.ht rfl) ?_
  refine .sA (.eql rfl rfl rfl) (.nil ?_)
  refine .cond rfl (fun h6 => ?_) (fun h6 => ?_)
  ·replace h6 := of_decide_eq_true h6
   rw [List.length_map, List.length_map] at h6
   have HJ : mrgR g k = g.parts.map (renN g.id k.id) := if_pos (by omega)
   refine .region ?_
   refine .sA (.loadAgg rfl ag_41 rfl rfl) ?_
   refine .sA (.fieldAddr rfl fo_41_0 rfl) ?_
   refine .sA (.load rfl sc_3 rfl) ?_
   refine .sA (.fieldAddr rfl fo_41_0 rfl) ?_
   refine .sA (.load rfl sc_3 rfl) ?_
   refine .sA (.call rfl (.cons (.rfl' rfl) (.cons (.rfl' rfl) (.cons (.rfl' rfl) .nil))) (c_ren _ _ _ (by assumption))) ?_
   refine .sA (.field rfl fv_41_6 rfl rfl) ?_
   refine .sA (.fieldAddrP rfl fo_41_6 rfl) ?_
   refine .store rfl rfl rfl sz_33 rfl (.head _) rfl rfl rfl (Nat.le_of_ble_eq_true rfl) (.nil ?_)
   refine ⟨?_, Sub.less ⟨SLe.refl _, SLe.refl _, SLe.refl _, SLe.refl _, trivial⟩ (obs_e (by rw [HJ]; first | done | rfl))⟩
   trivial
  replace h6 := of_decide_eq_false h6
  rw [List.length_map, List.length_map] at h6
  have HJ : mrgR g k = k.parts.map (renN g.id k.id) := if_neg (by omega)
  refine .skip ?_
  refine ⟨?_, Sub.less ⟨SLe.refl _, SLe.refl _, SLe.refl _, SLe.refl _, trivial⟩ (obs_e (by rw [HJ]; first | done | rfl))⟩
  trivial
 refine .sr ?_
 refine .sA (.fieldAddrP rfl fo_41_4 rfl) ?_
 refine .sA (.loadP rfl sc_3 rfl (.head _) rfl) ?_
 refine .sA (.fieldAddr rfl fo_41_4 rfl) ?_
 refine .sA (.load rfl sc_3 rfl) ?_
 refine .sA (.min rfl rfl rfl) ?_
 rw [ifmin]
 refine .sA (.fieldAddrP rfl fo_41_4 rfl) ?_
 refine .store rfl rfl rfl sz_3 rfl (.head _) rfl rfl rfl (Nat.le_of_ble_eq_true rfl) (.nil ?_)
 refine .sr ?_
 refine .sA (.loadPU rfl ag_41 rfl (.head _) rfl rfl) ?_
 refine .store rfl rfl rfl sz_41 rfl (.tail _ (.head _)) rfl rfl rfl (Nat.le_of_ble_eq_true rfl) (.nil ?_)
 refine .ret ?_
 refine ⟨RetR.agg rfl (.tail _ (.head _)) ag_41 rfl (.cons .d (.cons .d (.cons .d (.cons .d (.cons .d (.cons .d (.cons .d .nil))))))), trivial⟩
 all_goals (rfl)

set_option maxRecDepth 100000 in
set_option maxHeartbeats 1000000 in
theorem c_inh (k g : Thg) : ACall Tryz.prog 60 [.agg k.ds, .agg g.ds] (.agg (inhF k g).ds) := by
 refine acall_ofR (n := 44) (ds' := [.agg (inhF k g).ds]) Tryz.func60 rfl (by kernel_rfl) rfl [.cell 4 41] rfl rfl ?_
 intro B w0 F0 fr
 refine .sr ?_
 refine .boxOwn 301 rfl rfl rfl rfl rfl rfl rfl ?_
 refine .sA (.box rfl rfl rfl) ?_
 refine .alloc 302 rfl rfl rfl rfl zt_41 rfl rfl rfl (.nil ?_)
 refine .seqJ (True) (Env.of [(2, .ptr 301 0), (3, .d (.fp g.ds)), (4, .ptr 302 0)]) [(302, .cells [.d (.v (.int .i64 0)), .d (.v (.int .i64 0)), .d (.v (.string ⟨#[]⟩)), .d (.v (.string ⟨#[]⟩)), .d (.v (.int .i64 0)), .d (.v (.int .i64 0)), .d (.v (.slice none 0 0))]), (301, .cells [.d (.v (.int .i64 k.id)), .d (.v (.int .i64 k.kind)), .d (.v (.string k.title)), .d (.v (.string (mrgC g k))), .d (.v (.int .i64 k.since)), .d (.v (.int .i64 k.parent)), .d (.sl (k.parts.map intD))])] ?_ (fun _ => ?_)
 ·skip
  refine .sr ?_
  refine .sA (.fieldAddrP rfl fo_41_3 rfl) ?_
  refine .sA (.loadP rfl sc_9 rfl (.tail _ (.head _)) rfl) ?_
  refine .sA (.seql rfl rfl rfl) (.nil ?_)
  refine .cond rfl (fun h1 => ?_) (fun h1 => ?_)
  ·replace h1 := of_decide_eq_true h1
   have HJ : mrgC g k = g.code := if_pos h1
   refine .region ?_
   refine .sA (.fieldAddr rfl fo_41_3 rfl) ?_
   refine .sA (.load rfl sc_9 rfl) ?_
   refine .sA (.fieldAddrP rfl fo_41_3 rfl) ?_
   refine .store rfl rfl rfl sz_9 rfl (.tail _ (.head _)) rfl rfl rfl (Nat.le_of_ble_eq_true rfl) (.nil ?_)
   refine ⟨?_, Sub.less ⟨SLe.refl _, SLe.refl _, SLe.refl _, trivial⟩ (obs_e (by rw [HJ]; first | done | rfl))⟩
   trivial
  replace h1 := of_decide_eq_false h1
  have HJ : mrgC g k = k.code := if_neg h1
  refine .skip ?_
  refine ⟨?_, Sub.less ⟨SLe.refl _, SLe.refl _, SLe.refl _, trivial⟩ (obs_e (by rw [HJ]; first | done | rfl))⟩
  trivial
 refine .seqJ (True) (Env.of [(2, .ptr 301 0), (3, .d (.fp g.ds)), (4, .ptr 302 0)]) [(302, .cells [.d (.v (.int .i64 0)), .d (.v (.int .i64 0)), .d (.v (.string ⟨#[]⟩)), .d (.v (.string ⟨#[]⟩)), .d (.v (.int .i64 0)), .d (.v (.int .i64 0)), .d (.v (.slice none 0 0))]), (301, .cells [.d (.v (.int .i64 k.id)), .d (.v (.int .i64 k.kind)), .d (.v (.string k.title)), .d (.v (.string (mrgC g k))), .d (.v (.int .i64 k.since)), .d (.v (.int .i64 k.parent)), .d (.sl ((inhR k g).map intD))])] ?_ (fun _ => ?_)
 ·skip
  refine .sr ?_
  refine .sA (.fieldAddrP rfl fo_41_6 rfl) ?_
  refine .sA (.loadP rfl sc_33 rfl (.tail _ (.head _)) rfl) ?_
  refine .sA (.lenSl rfl et_33.ht rfl) ?_
  refine .sA (.eql rfl rfl rfl) (.nil ?_)
  refine .cond rfl (fun h2 => ?_) (fun h2 => ?_)
  ·replace h2 := of_decide_eq_true h2
   rw [List.length_map] at h2
   have HJ : inhR k g = g.parts := if_pos (by omega)
   refine .region ?_
   refine .sA (.fieldAddr rfl fo_41_6 rfl) ?_
   refine .sA (.load rfl sc_33 rfl) ?_
   refine .sA (.fieldAddrP rfl fo_41_6 rfl) ?_
   refine .store rfl rfl rfl sz_33 rfl (.tail _ (.head _)) rfl rfl rfl (Nat.le_of_ble_eq_true rfl) (.nil ?_)
   refine ⟨?_, Sub.less ⟨SLe.refl _, SLe.refl _, SLe.refl _, trivial⟩ (obs_e (by rw [HJ]; first | done | rfl))⟩
   trivial
  replace h2 := of_decide_eq_false h2
  rw [List.length_map] at h2
  have HJ : inhR k g = k.parts := if_neg (by omega)
  refine .skip ?_
  refine ⟨?_, Sub.less ⟨SLe.refl _, SLe.refl _, SLe.refl _, trivial⟩ (obs_e (by rw [HJ]; first | done | rfl))⟩
  trivial
 refine .sr ?_
 refine .sA (.fieldAddrP rfl fo_41_4 rfl) ?_
 refine .sA (.loadP rfl sc_3 rfl (.tail _ (.head _)) rfl) ?_
 refine .sA (.fieldAddr rfl fo_41_4 rfl) ?_
 refine .sA (.load rfl sc_3 rfl) ?_
 refine .sA (.min rfl rfl rfl) ?_
 rw [ifmin]
 refine .sA (.fieldAddrP rfl fo_41_4 rfl) ?_
 refine .store rfl rfl rfl sz_3 rfl (.tail _ (.head _)) rfl rfl rfl (Nat.le_of_ble_eq_true rfl) (.nil ?_)
 refine .seqJ (True) (Env.of [(2, .ptr 301 0), (3, .d (.fp g.ds)), (4, .ptr 302 0)]) [(302, .cells [.d (.v (.int .i64 0)), .d (.v (.int .i64 0)), .d (.v (.string ⟨#[]⟩)), .d (.v (.string ⟨#[]⟩)), .d (.v (.int .i64 0)), .d (.v (.int .i64 0)), .d (.v (.slice none 0 0))]), (301, .cells [.d (.v (.int .i64 k.id)), .d (.v (.int .i64 k.kind)), .d (.v (.string k.title)), .d (.v (.string (mrgC g k))), .d (.v (.int .i64 (mrgS g k))), .d (.v (.int .i64 (inhP k g))), .d (.sl ((inhR k g).map intD))])] ?_ (fun _ => ?_)
 ·skip
  refine .sr ?_
  refine .sA (.fieldAddrP rfl fo_41_5 rfl) ?_
  refine .sA (.loadP rfl sc_3 rfl (.tail _ (.head _)) rfl) ?_
  refine .sA (.eql rfl rfl rfl) ?_
  refine .mA ?_
  refine .split 27 rfl (fun g3 => ?_) (fun g3 => ?_)
  ·replace g3 := of_decide_eq_true g3
   have HO : k.parent = 0 ∨ k.parent = g.id := .inl g3
   refine .pA ?_
   refine .pA ?_
   refine .pA ?_
   refine .pA ?_
   refine .pA ?_
   refine .sA (.pickT rfl rfl rfl) (.nil ?_)
   refine .cond rfl (fun _ => ?_) (fun h => nomatch h)
   refine .sr ?_
   refine .sA (.fieldAddr rfl fo_41_5 rfl) ?_
   refine .sA (.load rfl sc_3 rfl) ?_
   refine .sA (.fieldAddrP rfl fo_41_5 rfl) ?_
   refine .store rfl rfl rfl sz_3 rfl (.tail _ (.head _)) rfl rfl rfl (Nat.le_of_ble_eq_true rfl) (.nil ?_)
   refine .sr ?_
   refine .sA (.fieldAddrP rfl fo_41_5 rfl) ?_
   refine .sA (.loadP rfl sc_3 rfl (.tail _ (.head _)) rfl) ?_
   refine .sA (.fieldAddrP rfl fo_41_0 rfl) ?_
   refine .sA (.loadP rfl sc_3 rfl (.tail _ (.head _)) rfl) ?_
   refine .sA (.eql rfl rfl rfl) (.nil ?_)
   refine .cond rfl (fun h4 => ?_) (fun h4 => ?_)
   ·replace h4 := of_decide_eq_true h4
    have HJ : inhP k g = 0 := by unfold inhP; rw [if_pos HO, if_pos h4]
    refine .region ?_
    refine .sA (.fieldAddrP rfl fo_41_5 rfl) ?_
    refine .store rfl rfl rfl sz_3 rfl (.tail _ (.head _)) rfl rfl rfl (Nat.le_of_ble_eq_true rfl) (.nil ?_)
    refine ⟨?_, Sub.less ⟨SLe.refl _, SLe.refl _, SLe.refl _, trivial⟩ (obs_e (by rw [HJ]; first | done | rfl))⟩
    trivial
   replace h4 := of_decide_eq_false h4
   have HJ : inhP k g = g.parent := by unfold inhP; rw [if_pos HO, if_neg h4]
   refine .skip ?_
   refine ⟨?_, Sub.less ⟨SLe.refl _, SLe.refl _, SLe.refl _, trivial⟩ (obs_e (by rw [HJ]; first | done | rfl))⟩
   trivial
  replace g3 := of_decide_eq_false g3
  have hn0 := g3
  refine .sG (.fieldAddrP rfl fo_41_5 rfl) ?_
  refine .sG (.loadP rfl sc_3 rfl (.tail _ (.head _)) rfl) ?_
  refine .sG (.fieldAddr rfl fo_41_0 rfl) ?_
  refine .sG (.load rfl sc_3 rfl) ?_
  refine .sG (.eql rfl rfl rfl) ?_
  refine .sA (.pickF rfl rfl rfl) (.nil ?_)
  refine .cond rfl (fun h5 => ?_) (fun h5 => ?_)
  ·replace h5 := of_decide_eq_true h5
   have HO : k.parent = 0 ∨ k.parent = g.id := .inr h5
   refine .sr ?_
   refine .sA (.fieldAddr rfl fo_41_5 rfl) ?_
   refine .sA (.load rfl sc_3 rfl) ?_
   refine .sA (.fieldAddrP rfl fo_41_5 rfl) ?_
   refine .store rfl rfl rfl sz_3 rfl (.tail _ (.head _)) rfl rfl rfl (Nat.le_of_ble_eq_true rfl) (.nil ?_)
   refine .sr ?_
   refine .sA (.fieldAddrP rfl fo_41_5 rfl) ?_
   refine .sA (.loadP rfl sc_3 rfl (.tail _ (.head _)) rfl) ?_
   refine .sA (.fieldAddrP rfl fo_41_0 rfl) ?_
   refine .sA (.loadP rfl sc_3 rfl (.tail _ (.head _)) rfl) ?_
   refine .sA (.eql rfl rfl rfl) (.nil ?_)
   refine .cond rfl (fun h6 => ?_) (fun h6 => ?_)
   ·replace h6 := of_decide_eq_true h6
    have HJ : inhP k g = 0 := by unfold inhP; rw [if_pos HO, if_pos h6]
    refine .region ?_
    refine .sA (.fieldAddrP rfl fo_41_5 rfl) ?_
    refine .store rfl rfl rfl sz_3 rfl (.tail _ (.head _)) rfl rfl rfl (Nat.le_of_ble_eq_true rfl) (.nil ?_)
    refine ⟨?_, Sub.less ⟨SLe.refl _, SLe.refl _, SLe.refl _, trivial⟩ (obs_e (by rw [HJ]; first | done | rfl))⟩
    trivial
   replace h6 := of_decide_eq_false h6
   have HJ : inhP k g = g.parent := by unfold inhP; rw [if_pos HO, if_neg h6]
   refine .skip ?_
   refine ⟨?_, Sub.less ⟨SLe.refl _, SLe.refl _, SLe.refl _, trivial⟩ (obs_e (by rw [HJ]; first | done | rfl))⟩
   trivial
  replace h5 := of_decide_eq_false h5
  have HJ : inhP k g = k.parent := if_neg (fun hh => hh.elim hn0 h5)
  refine .skip ?_
  refine ⟨?_, Sub.less ⟨SLe.refl _, SLe.refl _, SLe.refl _, trivial⟩ (obs_e (by rw [HJ]; first | done | rfl))⟩
  trivial
 refine .sr ?_
 refine .sA (.loadPU rfl ag_41 rfl (.tail _ (.head _)) rfl rfl) ?_
 refine .store rfl rfl rfl sz_41 rfl (.head _) rfl rfl rfl (Nat.le_of_ble_eq_true rfl) (.nil ?_)
 refine .ret ?_
 refine ⟨RetR.agg rfl (.head _) ag_41 rfl (.cons .d (.cons .d (.cons .d (.cons .d (.cons .d (.cons .d (.cons .d .nil))))))), trivial⟩
 all_goals (rfl)


/-! Types. -/
namespace TyKI
end TyKI
open TyH3 TyH5 TyJ3 TyJ4 TyJ5 TyKA TyKB TyKC TyKD TyKE TyKF TyKG TyLA TyLB TyLC TyLD TyLE TyLF TyLG TyLH TyLI TyLJ TyLK TyLL TyLM TyLN TyLO TyLP TyLQ TyLR TyLS TyLT TyLU TyLV TyLW TyLX TyLY TyMA TyNA TyNC TyNE TyKH TyNF TyUC TyKI

/-! ## No thing comes back to itself: the way up ends -/
/-- The numbers on the way up. -/
def sN (l : List Thg) (x : Thg) : Nat → Int
  | 0 => x.id
  | j + 1 => upN l x.parent j
/-! ## What is made of a work -/
def madeB (l : List Thg) (x : Thg) (id : Int) : Bool := (List.range l.length).any fun k => decide (upN l x.parent k = id)
def recB (l : List Thg) (id : Int) (x : Thg) : Bool := decide (x.kind = 2) && madeB l x id
/-- The recordings within what is there. -/
def inL (l : List Thg) (id : Int) : List Int :=
  if (getT l id).kind = 2 then [id]
  else if (getT l id).kind = 1 then pikL (recB l id) l
  else if (getT l id).kind = 4 ∧ (getT l id).parts.length = 0 then onceL (getT l (getT l id).parent).parts
  else onceL (getT l id).parts
def inV (c : Ctl) (id : Int) : List Int := if chkF c ≠ 0 then [] else if thereB c.things id = true then inL c.things id else []
theorem CatOk.get {c : Ctl} (hc : CatOk c) {id : Int} (h : thereB c.things id = true) : thgF (getT c.things id) = 0 := by
  obtain ⟨k, hk, he⟩ := List.mem_iff_getElem.1 (getT_id h).2
  rw [← he]; exact hc.th k hk
theorem CatOk.parts {c : Ctl} (hc : CatOk c) (id : Int) : (getT c.things id).parts.length ≤ 50 := by
  cases h : thereB c.things id with
  | true => exact thg_parts (hc.get h)
  | false => rw [getT_no h]; decide

/-! Types. -/
namespace TyUA
end TyUA
open TyH3 TyH5 TyJ3 TyJ4 TyJ5 TyKA TyKB TyKC TyKD TyKE TyKF TyKG TyLA TyLB TyLC TyLD TyLE TyLF TyLG TyLH TyLI TyLJ TyLK TyLL TyLM TyLN TyLO TyLP TyLQ TyLR TyLS TyLT TyLU TyLV TyLW TyLX TyLY TyMA TyNA TyNC TyNE TyKH TyNF TyUC TyKI TyUA

set_option linter.unusedSimpArgs false
section
variable {c : Ctl} {a b : Int}
end


/-! Types. -/
namespace TyUD
end TyUD
open TyH3 TyH5 TyJ3 TyJ4 TyJ5 TyKA TyKB TyKC TyKD TyKE TyKF TyKG TyLA TyLB TyLC TyLD TyLE TyLF TyLG TyLH TyLI TyLJ TyLK TyLL TyLM TyLN TyLO TyLP TyLQ TyLR TyLS TyLT TyLU TyLV TyLW TyLX TyLY TyMA TyNA TyNC TyNE TyKH TyNF TyUC TyKI TyUA TyUD

set_option linter.unusedSimpArgs false
section
variable {c : Ctl} {a b : Int} {k : Nat}
theorem mrgL_y (h : k < c.things.length) (hb : mrgB c a b c.things[k] = true) : mrgL c a b (k + 1) = mrgL c a b k ++ [mrgT c a b c.things[k]] := by
  unfold mrgL
  rw [List.take_add_one, List.getElem?_eq_getElem h, Option.toList_some, List.filter_append, List.filter_cons_of_pos hb, List.map_append]; rfl
theorem mrgL_n (h : k < c.things.length) (hb : mrgB c a b c.things[k] = false) : mrgL c a b (k + 1) = mrgL c a b k := by
  unfold mrgL
  rw [List.take_add_one, List.getElem?_eq_getElem h, Option.toList_some, List.filter_append, List.filter_cons_of_neg (by rw [hb]; decide)]; simp
theorem mrgL_len (c : Ctl) (a b : Int) (k : Nat) : (mrgL c a b k).length ≤ c.things.length := by
  unfold mrgL
  rw [List.length_map]
  exact Nat.le_trans (List.length_filter_le _ _) (by rw [List.length_take]; omega)
theorem mrgB_y {t : Thg} (h1 : t.id ≠ a) (h2 : t ≠ mrgT c a b t) : mrgB c a b t = true := by unfold mrgB; rw [decide_eq_false h1, decide_eq_false h2]; rfl
theorem mrgB_a {t : Thg} (h1 : t.id = a) : mrgB c a b t = false := by unfold mrgB; rw [decide_eq_true h1]; rfl
theorem mrgB_n {t : Thg} (h2 : t = mrgT c a b t) : mrgB c a b t = false := by unfold mrgB; rw [decide_eq_true h2]; cases decide (t.id = a) <;> rfl
theorem refL_y (h : k < c.things.length) (ha : ¬ c.things[k].id = a) : refL c a b (k + 1) = refL c a b k ++ [refT c a b c.things[k]] := by
  have hb : nA a c.things[k] = true := by unfold nA; rw [decide_eq_false ha]; rfl
  unfold refL
  rw [List.take_add_one, List.getElem?_eq_getElem h, Option.toList_some, List.filter_append, List.filter_cons_of_pos hb, List.map_append]; rfl
theorem refL_n (h : k < c.things.length) (ha : c.things[k].id = a) : refL c a b (k + 1) = refL c a b k := by
  have hb : nA a c.things[k] = false := by unfold nA; rw [decide_eq_true ha]; rfl
  unfold refL
  rw [List.take_add_one, List.getElem?_eq_getElem h, Option.toList_some, List.filter_append, List.filter_cons_of_neg (by rw [hb]; decide)]; simp
theorem refL_len (c : Ctl) (a b : Int) (k : Nat) : (refL c a b k).length ≤ c.things.length := by
  unfold refL
  rw [List.length_map]
  exact Nat.le_trans (List.length_filter_le _ _) (by rw [List.length_take]; omega)
theorem ref_lim (h : Lim c) : Lim2 (refC c a b) := ⟨Nat.le_trans (refL_len c a b _) (Nat.le_trans h.1 (by decide)), Nat.le_trans (putF_len c.moved (⟨a, b⟩ : Mvd)) (by have := h.2; omega)⟩
theorem ren_i64 {n : Int} (hb : i64 b) (hn : i64 n) : i64 (renN a b n) := by unfold renN; split <;> assumption
theorem renF_ok {t : Thg} (hb : i64 b) (h : ThgOk t) : ThgOk (renF t a b) := ⟨h.id, h.kind, h.title, h.code, h.since, ren_i64 hb h.parent, fun n hn => by
  obtain ⟨m, hm, rfl⟩ := List.mem_map.1 hn
  exact ren_i64 hb (h.parts m hm)⟩
theorem mrgF_ok {g k : Thg} (hg : ThgOk g) (hk : ThgOk k) : ThgOk (mrgF g k) := by
  refine ⟨hk.id, hk.kind, hk.title, ?_, ?_, ?_, ?_⟩
  · show (if k.code = ⟨#[]⟩ then g.code else k.code).size ≤ _
    split
    · exact hg.code
    · exact hk.code
  · show i64 (if g.since < k.since then g.since else k.since)
    split
    · exact hg.since
    · exact hk.since
  · show i64 (mrgP g k)
    unfold mrgP
    split
    · split
      · exact i64_0
      · exact hg.parent
    · exact ren_i64 hk.id hk.parent
  · show ∀ n ∈ (if k.parts.length = 0 then g.parts.map (renN g.id k.id) else k.parts.map (renN g.id k.id)), i64 n
    intro n hn
    split at hn
    · obtain ⟨m, hm, rfl⟩ := List.mem_map.1 hn
      exact ren_i64 hk.id (hg.parts m hm)
    · obtain ⟨m, hm, rfl⟩ := List.mem_map.1 hn
      exact ren_i64 hk.id (hk.parts m hm)
theorem mrgF_parts {g k : Thg} {n : Nat} (hg : g.parts.length ≤ n) (hk : k.parts.length ≤ n) : (mrgF g k).parts.length ≤ n := by
  show (if k.parts.length = 0 then g.parts.map (renN g.id k.id) else k.parts.map (renN g.id k.id)).length ≤ n
  split <;> (rw [List.length_map]; assumption)
theorem mrgX_in (hc : CtlOk c) (h : chkF c = 0) (ha : i64 a) (hb : i64 b) : XIn (mrgX c a b) := by
  have hp := (catOk h).parts
  have hx : ∀ t ∈ (mrgX c a b).put, ∃ u ∈ c.things, t = mrgT c a b u := fun t ht => by
    obtain ⟨u, hu, rfl⟩ := List.mem_map.1 (show t ∈ mrgL c a b c.things.length from ht)
    exact ⟨u, List.mem_of_mem_take (List.mem_filter.1 hu).1, rfl⟩
  refine ⟨⟨fun t ht => ?_, fun n hn => ?_, fun m hm => ?_, fun n hn => ?_⟩, fun t ht => ?_⟩
  · obtain ⟨u, hu, rfl⟩ := hx t ht
    unfold mrgT
    split
    · exact mrgF_ok (getT_ok hc.things a) (getT_ok hc.things b)
    · exact renF_ok hb (hc.things u hu)
  · obtain rfl := List.mem_singleton.1 (show n ∈ [a] from hn); exact ha
  · obtain rfl := List.mem_singleton.1 (show m ∈ [(⟨a, b⟩ : Mvd)] from hm); exact ⟨ha, hb⟩
  · exact absurd (show n ∈ ([] : List Int) from hn) List.not_mem_nil
  · obtain ⟨u, hu, rfl⟩ := hx t ht
    unfold mrgT
    split
    · exact Nat.le_trans (mrgF_parts (hp a) (hp b)) (by decide)
    · show (u.parts.map (renN a b)).length ≤ 1048576
      rw [List.length_map]
      have := hp u.id
      rw [((catOk h).ris.get hu).1] at this
      exact Nat.le_trans this (by decide)
end

theorem obs_t {x : Nat × Ob} {σ σ' : Obs} (h : σ = σ') : ∀ p ∈ σ', p ∈ x :: σ := h ▸ fun _ h => .tail _ h

set_option maxRecDepth 100000 in
set_option maxHeartbeats 4000000 in
theorem c_pMerge (c : Ctl) (a b : Int) (hc : CtlOk c) (ha : i64 a) (hb : i64 b) : ACallT Tryz.prog MaxT 11 [.agg c.ds, .v (.int .i64 a), .v (.int .i64 b)] (.tup [.agg (mrgV c a b).1.ds, .v (.int .i64 (mrgV c a b).2)]) := by
 refine acall_ofRT (n := 125) (ds' := [.agg (mrgV c a b).1.ds, .v (.int .i64 (mrgV c a b).2)]) Tryz.func11 rfl (by kernel_rfl) rfl [.cell 6 35, .tmp 7] rfl rfl ?_
 intro B w0 F0 hT
 refine .sr ?_
 refine .sA (.box rfl rfl rfl) ?_
 refine .alloc 301 rfl rfl rfl rfl zt_35 rfl rfl rfl ?_
 refine .aA (.nil ?_)
 refine .seq ?_
 refine .sr ?_
 refine .sA (.loadAgg rfl ag_25 rfl rfl) ?_
 -- wants the world
 refine .callT rfl rfl rfl hT maxT_stays rfl (.cons (.rfl' rfl) .nil) (c_pChk c hc) ?_
 refine .aA (.nil ?_)
 refine .sr ?_
 refine .mA ?_
 refine .sA (.neq rfl rfl rfl) (.nil ?_)
 refine .cond rfl (fun h1 => ?_) (fun h1 => ?_)
 ·replace h1 := of_decide_eq_true h1
  rw [mrgV_c (by first | exact h1 | omega)]
  refine .sr ?_
  refine .sA (.build rfl bu_35 .nil rfl) ?_
  refine .mA ?_
  refine .store rfl rfl rfl sz_35 rfl (.head _) rfl rfl rfl (Nat.le_of_ble_eq_true rfl) ?_
  refine .aA (.nil ?_)
  refine .ret ?_
  refine ⟨RetR.agg rfl (.head _) ag_35 rfl (.cons .nil (.cons .nil (.cons .nil (.cons .nil .nil)))), RetD.eq rfl ?_, trivial⟩
  all_goals (rfl)
 replace h1 := of_decide_eq_false h1
 have k0 : chkF c = 0 := (by first | exact h1 | omega)
 have HC := catOk k0
 have hl := HC.lim
 have hl1 := hl.1
 have hl2 := hl.2
 have hr := HC.ris
 have hpa : (getT c.things a).parts.length ≤ 1048576 := Nat.le_trans (HC.parts a) (by decide)
 have hpb : (getT c.things b).parts.length ≤ 1048576 := Nat.le_trans (HC.parts b) (by decide)
 refine .skip ?_
 refine .sr ?_
 refine .sA (.loadAgg rfl ag_25 rfl rfl) ?_
 refine .sA (.call rfl (.cons (.rfl' rfl) .nil) (c_idxOf c hl hc hr)) ?_
 refine .aA (.nil ?_)
 refine .sr ?_
 refine .mA ?_
 refine .mA ?_
 refine .sA (.lookupOkF (key := kI a) rfl mt_idx kd_int zt_thg zd_thg rfl rfl (DExact.v _) (kI_ok ha) (idxM_keys hc.things) _ (getok_idx hr.nk _)) ?_
 refine .mA ?_
 refine .sA (.extract rfl rfl rfl) ?_
 refine .sA (.extract rfl rfl rfl) ?_
 refine .alloc 102 rfl rfl rfl rfl zt_41 rfl rfl rfl ?_
 refine .store rfl rfl rfl sz_41 rfl (.head _) rfl rfl rfl (Nat.le_of_ble_eq_true rfl) ?_
 refine .freezeCells 10 (ds := (getT c.things a).ds) rfl (.head _) ?_
 refine .aA (.nil ?_)
 refine .sr ?_
 refine .mA ?_
 refine .mA ?_
 refine .sA (.lookupOkF (key := kI b) rfl mt_idx kd_int zt_thg zd_thg rfl rfl (DExact.v _) (kI_ok hb) (idxM_keys hc.things) _ (getok_idx hr.nk _)) ?_
 refine .mA ?_
 refine .sA (.extract rfl rfl rfl) ?_
 refine .sA (.extract rfl rfl rfl) ?_
 refine .alloc 103 rfl rfl rfl rfl zt_41 rfl rfl rfl ?_
 refine .store rfl rfl rfl sz_41 rfl (.head _) rfl rfl rfl (Nat.le_of_ble_eq_true rfl) ?_
 refine .freezeCells 12 (ds := (getT c.things b).ds) rfl (.head _) ?_
 refine .aA (.nil ?_)
 refine .seqJ (mrgO c a b = 0) (Env.of [(1, .d (.v (.int .i64 a))), (2, .d (.v (.int .i64 b))), (3, .d (.fp c.ds)), (6, .ptr 301 0), (10, .d (.fp (getT c.things a).ds)), (12, .d (.fp (getT c.things b).ds))]) [(301, .cells [.d (.v (.slice none 0 0)), .d (.v (.slice none 0 0)), .d (.v (.slice none 0 0)), .d (.v (.slice none 0 0))])] ?_ (fun ho => ?_)
 ·skip
  refine .block ?_
  refine .sr ?_
  refine .mA ?_
  refine .sA (.not rfl rfl) ?_
  refine .mA ?_
  refine .split 44 rfl (fun g2 => ?_) (fun g2 => ?_)
  ·replace g2 := bnot_t g2
   rw [mrgV_o k0 (mrgO_9 (.inl g2)) (by decide)]
   refine .pA ?_
   refine .pA ?_
   refine .sA (.pickT rfl rfl rfl) ?_
   refine .aA (.nil ?_)
   refine .cond rfl (fun _ => ?_) (fun h => nomatch h)
   refine .sr ?_
   refine .sA (.build rfl bu_35 .nil rfl) ?_
   refine .store rfl rfl rfl sz_35 rfl (.head _) rfl rfl rfl (Nat.le_of_ble_eq_true rfl) ?_
   refine .aA (.nil ?_)
   refine .ret ?_
   refine ⟨RetR.agg rfl (.head _) ag_35 rfl (.cons .nil (.cons .nil (.cons .nil (.cons .nil .nil)))), RetD.eq rfl ?_, trivial⟩
   all_goals (rfl)
  replace g2 := bnot_f g2
  have ta := g2
  refine .sG (.moveD rfl rfl) ?_
  refine .sG (.not rfl rfl) ?_
  refine .sA (.pickF rfl rfl rfl) ?_
  refine .aA (.nil ?_)
  refine .cond rfl (fun h3 => ?_) (fun h3 => ?_)
  ·replace h3 := bnot_t h3
   rw [mrgV_o k0 (mrgO_9 (.inr h3)) (by decide)]
   refine .sr ?_
   refine .sA (.build rfl bu_35 .nil rfl) ?_
   refine .store rfl rfl rfl sz_35 rfl (.head _) rfl rfl rfl (Nat.le_of_ble_eq_true rfl) ?_
   refine .aA (.nil ?_)
   refine .ret ?_
   refine ⟨RetR.agg rfl (.head _) ag_35 rfl (.cons .nil (.cons .nil (.cons .nil (.cons .nil .nil)))), RetD.eq rfl ?_, trivial⟩
   all_goals (rfl)
  replace h3 := bnot_f h3
  have tb := h3
  have h1 : ¬ (thereB c.things a = false ∨ thereB c.things b = false) := by rw [ta, tb]; simp
  refine .sr ?_
  refine .mA ?_
  refine .mA ?_
  refine .sA (.eql rfl rfl rfl) ?_
  refine .aA (.nil ?_)
  refine .cond rfl (fun h4 => ?_) (fun h4 => ?_)
  ·replace h4 := of_decide_eq_true h4
   rw [mrgV_o k0 (mrgO_7 h1 h4) (by decide)]
   refine .sr ?_
   refine .sA (.build rfl bu_35 .nil rfl) ?_
   refine .store rfl rfl rfl sz_35 rfl (.head _) rfl rfl rfl (Nat.le_of_ble_eq_true rfl) ?_
   refine .aA (.nil ?_)
   refine .ret ?_
   refine ⟨RetR.agg rfl (.head _) ag_35 rfl (.cons .nil (.cons .nil (.cons .nil (.cons .nil .nil)))), RetD.eq rfl ?_, trivial⟩
   all_goals (rfl)
  replace h4 := of_decide_eq_false h4
  have h2 := h4
  refine .sr ?_
  refine .sA (.fieldAddr rfl fo_41_1 rfl) ?_
  refine .sA (.load rfl sc_3 rfl) ?_
  refine .sA (.fieldAddr rfl fo_41_1 rfl) ?_
  refine .sA (.load rfl sc_3 rfl) ?_
  refine .sA (.neq rfl rfl rfl) ?_
  refine .aA (.nil ?_)
  refine .cond rfl (fun h5 => ?_) (fun h5 => ?_)
  ·replace h5 := of_decide_eq_true h5
   rw [mrgV_o k0 (mrgO_6 h1 h2 h5) (by decide)]
   refine .sr ?_
   refine .sA (.build rfl bu_35 .nil rfl) ?_
   refine .store rfl rfl rfl sz_35 rfl (.head _) rfl rfl rfl (Nat.le_of_ble_eq_true rfl) ?_
   refine .aA (.nil ?_)
   refine .ret ?_
   refine ⟨RetR.agg rfl (.head _) ag_35 rfl (.cons .nil (.cons .nil (.cons .nil (.cons .nil .nil)))), RetD.eq rfl ?_, trivial⟩
   all_goals (rfl)
  replace h5 := of_decide_eq_false h5
  have h3 : ¬ ((getT c.things a).kind ≠ (getT c.things b).kind) := fun hh => hh (by first | exact h5 | exact Decidable.not_not.1 h5 | omega)
  refine .sr ?_
  refine .sA (.fieldAddr rfl fo_41_3 rfl) ?_
  refine .sA (.load rfl sc_9 rfl) ?_
  refine .sA (.sneq rfl rfl rfl) ?_
  refine .mA ?_
  refine .split 65 rfl (fun g6 => ?_) (fun g6 => ?_)
  ·replace g6 := of_decide_eq_true g6
   have h4 := g6
   refine .sG (.fieldAddr rfl fo_41_3 rfl) ?_
   refine .sG (.load rfl sc_9 rfl) ?_
   refine .sG (.sneq rfl rfl rfl) ?_
   refine .sA (.pickT rfl rfl rfl) ?_
   refine .aA (.nil ?_)
   refine .cond rfl (fun h7 => ?_) (fun h7 => ?_)
   ·replace h7 := of_decide_eq_true h7
    rw [mrgV_o k0 (mrgO_12 h1 h2 h3 ⟨h4, h7⟩) (by decide)]
    refine .sr ?_
    refine .sA (.build rfl bu_35 .nil rfl) ?_
    refine .store rfl rfl rfl sz_35 rfl (.head _) rfl rfl rfl (Nat.le_of_ble_eq_true rfl) ?_
    refine .aA (.nil ?_)
    refine .ret ?_
    refine ⟨RetR.agg rfl (.head _) ag_35 rfl (.cons .nil (.cons .nil (.cons .nil (.cons .nil .nil)))), RetD.eq rfl ?_, trivial⟩
    all_goals (rfl)
   replace h7 := of_decide_eq_false h7
   have ho : mrgO c a b = 0 := mrgO_0 h1 h2 h3 (fun hh => by first | exact h7 hh.2 | exact hh.2 h7 | exact absurd h7 hh.2)
   refine .skip ?_
   refine ⟨?_, Sub.less ⟨SLe.refl _, SLe.refl _, SLe.refl _, SLe.refl _, SLe.refl _, SLe.refl _, trivial⟩ (fun _ h => h)⟩
   exact ho
  replace g6 := of_decide_eq_false g6
  have ho : mrgO c a b = 0 := mrgO_0 h1 h2 h3 (fun hh => by first | exact g6 hh.1 | exact hh.1 g6 | exact absurd g6 hh.1)
  refine .pA ?_
  refine .pA ?_
  refine .pA ?_
  refine .sA (.pickF rfl rfl rfl) ?_
  refine .aA (.nil ?_)
  refine .cond rfl (fun h => nomatch h) (fun _ => ?_)
  refine .skip ?_
  refine ⟨?_, Sub.less ⟨SLe.refl _, SLe.refl _, SLe.refl _, SLe.refl _, SLe.refl _, SLe.refl _, trivial⟩ (fun _ h => h)⟩
  exact ho
 have hM : Mrg c a b := mrg_of k0 ho
 refine .sr ?_
 refine .mA ?_
 refine .sA (.buildSlice rfl et_33 (.cons rfl rfl rfl .nil) rfl (by decide)) ?_
 refine .mA ?_
 refine .mA ?_
 refine .sA (.build rfl bu_85 (.cons rfl rfl (.cons rfl rfl .nil)) rfl) ?_
 refine .sA (.buildSlice rfl et_23 (.cons rfl rfl rfl .nil) rfl (by decide)) ?_
 refine .sA (.build rfl bu_35 (.cons rfl rfl (.cons rfl rfl .nil)) rfl) ?_
 refine .alloc 303 rfl rfl rfl rfl zt_35 rfl rfl rfl ?_
 refine .store rfl rfl rfl sz_35 rfl (.head _) rfl rfl rfl (Nat.le_of_ble_eq_true rfl) (.nil ?_)
 refine .seq ?_
 refine .seq ?_
 refine .adoptCell 201 41 7 303 0 (.head _) rfl rfl ?_
 refine .adoptCell 202 3 1 303 3 (.tail _ (.head _)) rfl rfl ?_
 refine .freezeIn 303 3 rfl (.tail _ (.head _)) (.head _) ?_
 refine .weaken (e' := Env.of [(1, .d (.v (.int .i64 a))), (2, .d (.v (.int .i64 b))), (3, .d (.fp c.ds)), (6, .ptr 301 0), (10, .d (.fp (getT c.things a).ds)), (12, .d (.fp (getT c.things b).ds)), (14, .ptr 303 0)]) (σ' := [(201, .row 41 7 ((mrgL c a b 0).map Thg.ds)), (303, .cells [.own 201, .d (.sl ([a].map intD)), .d (.sl ([(⟨a, b⟩ : Mvd)].map Mvd.ds)), .d (.sl [])]), (301, .cells [.d (.v (.slice none 0 0)), .d (.v (.slice none 0 0)), .d (.v (.slice none 0 0)), .d (.v (.slice none 0 0))])]) (Sub.less ⟨SLe.refl _, SLe.refl _, SLe.refl _, SLe.refl _, SLe.refl _, SLe.refl _, SLe.refl _, trivial⟩ (fun p h => h)) ?_
 refine .region ?_
 refine .sA (.fieldAddr rfl fo_25_0 rfl) ?_
 refine .sA (.load rfl sc_22 rfl) ?_
 refine .sA (.lenSl rfl et_22.ht rfl) ?_
 refine .mA (.nil ?_)
 refine .block ?_
 refine .loop (G := Nat) (fun k => Env.of [(81, .d (.v (.int .i64 (k : Int)))), (79, .d (.sl (c.things.map Thg.ds))), (80, .d (.v (.int .i64 ((c.things.map Thg.ds).length : Int)))), (1, .d (.v (.int .i64 a))), (2, .d (.v (.int .i64 b))), (3, .d (.fp c.ds)), (6, .ptr 301 0), (10, .d (.fp (getT c.things a).ds)), (12, .d (.fp (getT c.things b).ds)), (14, .ptr 303 0)]) (fun k => [(201, .row 41 7 ((mrgL c a b k).map Thg.ds)), (303, .cells [.own 201, .d (.sl ([a].map intD)), .d (.sl ([(⟨a, b⟩ : Mvd)].map Mvd.ds)), .d (.sl [])]), (301, .cells [.d (.v (.slice none 0 0)), .d (.v (.slice none 0 0)), .d (.v (.slice none 0 0)), .d (.v (.slice none 0 0))])]) (fun k => k ≤ c.things.length) (fun k => c.things.length - k) 0 (Nat.zero_le _) (Sub.less ⟨(SLe.of_eq rfl), SLe.refl _, SLe.refl _, SLe.refl _, SLe.refl _, SLe.refl _, SLe.refl _, SLe.refl _, SLe.refl _, SLe.refl _, trivial⟩ (obs_e rfl)) ?_
 intro k hk
 refine .sr ?_
 refine .sA (.lss rfl rfl rfl) (.nil ?_)
 refine .seq ?_
 refine .cond rfl (fun h8 => ?_) (fun h8 => ?_)
 ·replace h8 := of_decide_eq_true h8
  rw [List.length_map] at h8
  have hlt : k < c.things.length := by omega
  have hq := mrgL_len c a b k
  have hpk : c.things[k].parts.length ≤ 1048576 := by have := HC.parts c.things[k].id; rw [(hr.get (List.getElem_mem hlt)).1] at this; exact Nat.le_trans this (by decide)
  refine .skip ?_
  refine .seq ?_
  refine .block ?_
  refine .sr ?_
  refine .sA (.indexAddr rfl et_22 rfl rfl k rfl (at_lst hlt) rfl) ?_
  refine .sA (.loadAgg rfl ag_41 rfl rfl) ?_
  refine .alloc 105 rfl rfl rfl rfl zt_41 rfl rfl rfl ?_
  refine .store rfl rfl rfl sz_41 rfl (.head _) rfl rfl rfl (Nat.le_of_ble_eq_true rfl) ?_
  refine .freezeCells 16 (ds := c.things[k].ds) rfl (.head _) (.nil ?_)
  refine .sr ?_
  refine .sA (.loadAgg rfl ag_41 rfl rfl) ?_
  refine .mA ?_
  refine .mA ?_
  refine .sA (.call rfl (.cons (.rfl' rfl) (.cons (.rfl' rfl) (.cons (.rfl' rfl) .nil))) (c_ren c.things[k] a b hpk)) ?_
  refine .alloc 305 rfl rfl rfl rfl zt_41 rfl rfl rfl ?_
  refine .store rfl rfl rfl sz_41 rfl (.head _) rfl rfl rfl (Nat.le_of_ble_eq_true rfl) (.nil ?_)
  refine .seqJ (True) (Env.of [(81, .d (.v (.int .i64 (k : Int)))), (79, .d (.sl (c.things.map Thg.ds))), (80, .d (.v (.int .i64 ((c.things.map Thg.ds).length : Int)))), (1, .d (.v (.int .i64 a))), (2, .d (.v (.int .i64 b))), (3, .d (.fp c.ds)), (6, .ptr 301 0), (10, .d (.fp (getT c.things a).ds)), (12, .d (.fp (getT c.things b).ds)), (14, .ptr 303 0), (16, .d (.fp c.things[k].ds)), (17, .ptr 305 0)]) [(305, .cells ((mrgT c a b c.things[k]).ds.map S.d)), (201, .row 41 7 ((mrgL c a b k).map Thg.ds)), (303, .cells [.own 201, .d (.sl ([a].map intD)), .d (.sl ([(⟨a, b⟩ : Mvd)].map Mvd.ds)), .d (.sl [])]), (301, .cells [.d (.v (.slice none 0 0)), .d (.v (.slice none 0 0)), .d (.v (.slice none 0 0)), .d (.v (.slice none 0 0))])] ?_ (fun _ => ?_)
  ·skip
   refine .sr ?_
   refine .sA (.fieldAddr rfl fo_41_0 rfl) ?_
   refine .sA (.load rfl sc_3 rfl) ?_
   refine .mA ?_
   refine .sA (.eql rfl rfl rfl) (.nil ?_)
   refine .cond rfl (fun h9 => ?_) (fun h9 => ?_)
   ·replace h9 := of_decide_eq_true h9
    have HJ : mrgT c a b c.things[k] = mrgF (getT c.things a) (getT c.things b) := if_pos h9
    refine .region ?_
    refine .sA (.loadAgg rfl ag_41 rfl rfl) ?_
    refine .sA (.loadAgg rfl ag_41 rfl rfl) ?_
    refine .sA (.call rfl (.cons (.rfl' rfl) (.cons (.rfl' rfl) .nil)) (c_merged _ _ hpa hpb)) ?_
    refine .store rfl rfl rfl sz_41 rfl (.head _) rfl rfl rfl (Nat.le_of_ble_eq_true rfl) (.nil ?_)
    refine ⟨?_, Sub.less ⟨SLe.refl _, SLe.refl _, SLe.refl _, SLe.refl _, SLe.refl _, SLe.refl _, SLe.refl _, SLe.refl _, SLe.refl _, SLe.refl _, SLe.refl _, SLe.refl _, trivial⟩ (obs_e (by rw [HJ]; first | done | rfl))⟩
    trivial
   replace h9 := of_decide_eq_false h9
   have HJ : mrgT c a b c.things[k] = renF c.things[k] a b := if_neg h9
   refine .skip ?_
   refine ⟨?_, Sub.less ⟨SLe.refl _, SLe.refl _, SLe.refl _, SLe.refl _, SLe.refl _, SLe.refl _, SLe.refl _, SLe.refl _, SLe.refl _, SLe.refl _, SLe.refl _, SLe.refl _, trivial⟩ (obs_e (by rw [HJ]; first | done | rfl))⟩
   trivial
  refine .sr ?_
  refine .sA (.fieldAddr rfl fo_41_0 rfl) ?_
  refine .sA (.load rfl sc_3 rfl) ?_
  refine .mA ?_
  refine .sA (.neq rfl rfl rfl) ?_
  refine .mA ?_
  refine .split 100 rfl (fun g10 => ?_) (fun g10 => ?_)
  ·replace g10 := of_decide_eq_true g10
   have h5 := g10
   refine .sG (.loadAgg rfl ag_41 rfl rfl) ?_
   refine .sG (.loadPU rfl ag_41 rfl (.head _) rfl rfl) ?_
   refine .sG (.call rfl (.cons (.rfl' rfl) (.cons (.rfl' rfl) .nil)) (c_equal _ _)) ?_
   refine .sG (.not rfl rfl) ?_
   refine .sA (.pickT rfl rfl rfl) (.nil ?_)
   refine .cond rfl (fun h11 => ?_) (fun h11 => ?_)
   ·replace h11 := bnot_t h11
    have HB := mrgL_y hlt (mrgB_y h5 (by first | exact h11 | exact of_decide_eq_false h11))
    refine .region ?_
    refine .sA (.fieldAddrP rfl fo_35_0 rfl) ?_
    refine .sA (.loadP rfl sc_22 rfl (.tail _ (.tail _ (.head _))) rfl) ?_
    refine .sA (.loadPU rfl ag_41 rfl (.head _) rfl rfl) ?_
    refine .sA (.buildSlice rfl et_22 (.cons rfl rfl rfl .nil) rfl (by decide)) ?_
    -- append 110
    refine .append rfl rfl rfl rfl et_22 rfl (.tail _ (.head _)) rfl (fun y hy => by obtain rfl := List.mem_singleton.1 hy; rfl) (by simp; omega) (by simp; omega) ?_
    refine .sA (.fieldAddrP rfl fo_35_0 rfl) ?_
    refine .storeS rfl rfl rfl sz_22 rfl (.tail _ (.tail _ (.head _))) rfl (.tail _ (.head _)) (Nat.le_of_ble_eq_true rfl) (.nil ?_)
    refine .region ?_
    refine .sA (.add64 rfl rfl rfl (by omega) (by omega)) ?_
    refine .mA (.nil ?_)
    refine ⟨k + 1, (by omega), (by dsimp only; omega), Sub.less ⟨(SLe.of_eq rfl), SLe.refl _, SLe.refl _, SLe.refl _, SLe.refl _, SLe.refl _, SLe.refl _, SLe.refl _, SLe.refl _, SLe.refl _, trivial⟩ (obs_t (by dsimp only; rw [HB]; first | done | rfl | (rw [List.map_append]; rfl)))⟩
   replace h11 := bnot_f h11
   have HB := mrgL_n (a := a) (b := b) hlt (mrgB_n (by first | exact h11 | exact of_decide_eq_true h11 | exact Decidable.not_not.1 h11))
   refine .skip ?_
   refine .region ?_
   refine .sA (.add64 rfl rfl rfl (by omega) (by omega)) ?_
   refine .mA (.nil ?_)
   refine ⟨k + 1, (by omega), (by dsimp only; omega), Sub.less ⟨(SLe.of_eq rfl), SLe.refl _, SLe.refl _, SLe.refl _, SLe.refl _, SLe.refl _, SLe.refl _, SLe.refl _, SLe.refl _, SLe.refl _, trivial⟩ (obs_t (by dsimp only; rw [HB]; first | done | rfl | (rw [List.map_append]; rfl)))⟩
  replace g10 := of_decide_eq_false g10
  have HB := mrgL_n (a := a) (b := b) hlt (mrgB_a (by first | exact g10 | exact Decidable.not_not.1 g10))
  refine .pA ?_
  refine .pA ?_
  refine .pA ?_
  refine .pA ?_
  refine .sA (.pickF rfl rfl rfl) (.nil ?_)
  refine .cond rfl (fun h => nomatch h) (fun _ => ?_)
  refine .skip ?_
  refine .region ?_
  refine .sA (.add64 rfl rfl rfl (by omega) (by omega)) ?_
  refine .mA (.nil ?_)
  refine ⟨k + 1, (by omega), (by dsimp only; omega), Sub.less ⟨(SLe.of_eq rfl), SLe.refl _, SLe.refl _, SLe.refl _, SLe.refl _, SLe.refl _, SLe.refl _, SLe.refl _, SLe.refl _, SLe.refl _, trivial⟩ (obs_t (by dsimp only; rw [HB]; first | done | rfl | (rw [List.map_append]; rfl)))⟩
 replace h8 := of_decide_eq_false h8
 rw [List.length_map] at h8
 obtain rfl : k = c.things.length := by omega
 refine .exit ?_
 refine .seq ?_
 refine .seq ?_
 refine .freezeIn 303 0 rfl (.head _) (.head _) ?_
 refine .region ?_
 refine .sA (.loadAgg rfl ag_25 rfl rfl) ?_
 refine .sA (.loadPU rfl ag_35 rfl (.head _) rfl rfl) ?_
 -- wants the world
 refine .callT rfl rfl rfl hT maxT_stays rfl (.cons (.rfl' rfl) (.cons (.rfl' rfl) .nil)) (c_pApply c (mrgX c a b) hc (mrgX_in hc k0 ha hb)) ?_
 refine .mA ?_
 refine .sA (.extract rfl rfl rfl) ?_
 refine .sA (.extract rfl rfl rfl) ?_
 refine .sA (.extract rfl rfl rfl) ?_
 refine .alloc 107 rfl rfl rfl rfl zt_25 rfl rfl rfl ?_
 refine .alloc 108 rfl rfl rfl rfl zt_35 rfl rfl rfl ?_
 refine .store rfl rfl rfl sz_25 rfl (.tail _ (.head _)) rfl rfl rfl (Nat.le_of_ble_eq_true rfl) ?_
 refine .freezeCells 18 (ds := (applyV c (mrgX c a b)).1.ds) rfl (.tail _ (.head _)) ?_
 refine .store rfl rfl rfl sz_35 rfl (.head _) rfl rfl rfl (Nat.le_of_ble_eq_true rfl) ?_
 refine .freezeCells 19 (ds := (applyV c (mrgX c a b)).2.1.ds) rfl (.head _) ?_
 refine .aA (.nil ?_)
 refine .sr ?_
 refine .mA ?_
 refine .sA (.neq rfl rfl rfl) (.nil ?_)
 refine .cond rfl (fun h12 => ?_) (fun h12 => ?_)
 ·replace h12 := of_decide_eq_true h12
  rw [mrgV_f k0 ho (by first | exact h12 | omega)]
  refine .sr ?_
  refine .sA (.build rfl bu_35 .nil rfl) ?_
  refine .mA ?_
  refine .store rfl rfl rfl sz_35 rfl (.tail _ (.head _)) rfl rfl rfl (Nat.le_of_ble_eq_true rfl) ?_
  refine .aA (.nil ?_)
  refine .ret ?_
  refine ⟨RetR.agg rfl (.tail _ (.head _)) ag_35 rfl (.cons .nil (.cons .nil (.cons .nil (.cons .nil .nil)))), RetD.eq rfl ?_, trivial⟩
  all_goals (rfl)
 replace h12 := of_decide_eq_false h12
 rw [mrgV_0 k0 ho (by first | exact h12 | omega)]
 refine .skip ?_
 refine .sr ?_
 refine .sA (.loadPU rfl ag_35 rfl (.head _) rfl rfl) ?_
 refine .store rfl rfl rfl sz_35 rfl (.tail _ (.head _)) rfl rfl rfl (Nat.le_of_ble_eq_true rfl) ?_
 refine .aA (.nil ?_)
 refine .ret ?_
 refine ⟨RetR.agg rfl (.tail _ (.head _)) ag_35 rfl (.cons .d (.cons .d (.cons .d (.cons .d .nil)))), RetD.eq rfl ?_, trivial⟩
 all_goals (rfl)

set_option maxRecDepth 100000 in
set_option maxHeartbeats 4000000 in
theorem c_rMerge (c : Ctl) (a b : Int) (hc : CtlOk c) (ha : i64 a) (hb : i64 b) : ACallT Tryz.prog MaxT 23 [.agg c.ds, .v (.int .i64 a), .v (.int .i64 b)] (.tup [.agg (mrgV c a b).1.ds, .v (.int .i64 (mrgV c a b).2)]) := by
 refine acall_ofRT (n := 123) (ds' := [.agg (mrgV c a b).1.ds, .v (.int .i64 (mrgV c a b).2)]) Tryz.func23 rfl (by kernel_rfl) rfl [.cell 6 35, .tmp 7] rfl rfl ?_
 intro B w0 F0 hT
 refine .sr ?_
 refine .sA (.box rfl rfl rfl) ?_
 refine .alloc 301 rfl rfl rfl rfl zt_35 rfl rfl rfl ?_
 refine .aA (.nil ?_)
 refine .seq ?_
 refine .sr ?_
 refine .sA (.loadAgg rfl ag_25 rfl rfl) ?_
 -- wants the world
 refine .callT rfl rfl rfl hT maxT_stays rfl (.cons (.rfl' rfl) .nil) (c_rChk c hc) ?_
 refine .aA (.nil ?_)
 refine .sr ?_
 refine .mA ?_
 refine .sA (.neq rfl rfl rfl) (.nil ?_)
 refine .cond rfl (fun h1 => ?_) (fun h1 => ?_)
 ·replace h1 := of_decide_eq_true h1
  rw [mrgV_c (by first | exact h1 | omega)]
  refine .sr ?_
  refine .sA (.build rfl bu_35 .nil rfl) ?_
  refine .mA ?_
  refine .store rfl rfl rfl sz_35 rfl (.head _) rfl rfl rfl (Nat.le_of_ble_eq_true rfl) ?_
  refine .aA (.nil ?_)
  refine .ret ?_
  refine ⟨RetR.agg rfl (.head _) ag_35 rfl (.cons .nil (.cons .nil (.cons .nil (.cons .nil .nil)))), RetD.eq rfl ?_, trivial⟩
  all_goals (first | rfl | (rw [apply_same]; first | done | rfl))
 replace h1 := of_decide_eq_false h1
 have k0 : chkF c = 0 := (by first | exact h1 | omega)
 have HC := catOk k0
 have hl := HC.lim
 have hl1 := hl.1
 have hl2 := hl.2
 have hr := HC.ris
 have hpa : (getT c.things a).parts.length ≤ 1048576 := Nat.le_trans (HC.parts a) (by decide)
 have hpb : (getT c.things b).parts.length ≤ 1048576 := Nat.le_trans (HC.parts b) (by decide)
 refine .skip ?_
 refine .sr ?_
 refine .sA (.loadAgg rfl ag_25 rfl rfl) ?_
 refine .mA ?_
 refine .sA (.call rfl (.cons (.rfl' rfl) (.cons (.rfl' rfl) .nil)) (c_thing c a hl.two)) ?_
 refine .mA ?_
 refine .sA (.extract rfl rfl rfl) ?_
 refine .sA (.extract rfl rfl rfl) ?_
 refine .alloc 102 rfl rfl rfl rfl zt_41 rfl rfl rfl ?_
 refine .store rfl rfl rfl sz_41 rfl (.head _) rfl rfl rfl (Nat.le_of_ble_eq_true rfl) ?_
 refine .freezeCells 9 (ds := (getT c.things a).ds) rfl (.head _) ?_
 refine .aA (.nil ?_)
 refine .sr ?_
 refine .sA (.loadAgg rfl ag_25 rfl rfl) ?_
 refine .mA ?_
 refine .sA (.call rfl (.cons (.rfl' rfl) (.cons (.rfl' rfl) .nil)) (c_thing c b hl.two)) ?_
 refine .mA ?_
 refine .sA (.extract rfl rfl rfl) ?_
 refine .sA (.extract rfl rfl rfl) ?_
 refine .alloc 103 rfl rfl rfl rfl zt_41 rfl rfl rfl ?_
 refine .store rfl rfl rfl sz_41 rfl (.head _) rfl rfl rfl (Nat.le_of_ble_eq_true rfl) ?_
 refine .freezeCells 11 (ds := (getT c.things b).ds) rfl (.head _) ?_
 refine .aA (.nil ?_)
 refine .seqJ (mrgO c a b = 0) (Env.of [(1, .d (.v (.int .i64 a))), (2, .d (.v (.int .i64 b))), (3, .d (.fp c.ds)), (6, .ptr 301 0), (9, .d (.fp (getT c.things a).ds))]) [(301, .cells [.d (.v (.slice none 0 0)), .d (.v (.slice none 0 0)), .d (.v (.slice none 0 0)), .d (.v (.slice none 0 0))])] ?_ (fun ho => ?_)
 ·skip
  refine .block ?_
  refine .sr ?_
  refine .mA ?_
  refine .sA (.not rfl rfl) ?_
  refine .mA ?_
  refine .split 41 rfl (fun g2 => ?_) (fun g2 => ?_)
  ·replace g2 := bnot_t g2
   rw [mrgV_o k0 (mrgO_9 (.inl g2)) (by decide)]
   refine .pA ?_
   refine .pA ?_
   refine .sA (.pickT rfl rfl rfl) ?_
   refine .aA (.nil ?_)
   refine .cond rfl (fun _ => ?_) (fun h => nomatch h)
   refine .sr ?_
   refine .sA (.build rfl bu_35 .nil rfl) ?_
   refine .store rfl rfl rfl sz_35 rfl (.head _) rfl rfl rfl (Nat.le_of_ble_eq_true rfl) ?_
   refine .aA (.nil ?_)
   refine .ret ?_
   refine ⟨RetR.agg rfl (.head _) ag_35 rfl (.cons .nil (.cons .nil (.cons .nil (.cons .nil .nil)))), RetD.eq rfl ?_, trivial⟩
   all_goals (first | rfl | (rw [apply_same]; first | done | rfl))
  replace g2 := bnot_f g2
  have ta := g2
  refine .sG (.moveD rfl rfl) ?_
  refine .sG (.not rfl rfl) ?_
  refine .sA (.pickF rfl rfl rfl) ?_
  refine .aA (.nil ?_)
  refine .cond rfl (fun h3 => ?_) (fun h3 => ?_)
  ·replace h3 := bnot_t h3
   rw [mrgV_o k0 (mrgO_9 (.inr h3)) (by decide)]
   refine .sr ?_
   refine .sA (.build rfl bu_35 .nil rfl) ?_
   refine .store rfl rfl rfl sz_35 rfl (.head _) rfl rfl rfl (Nat.le_of_ble_eq_true rfl) ?_
   refine .aA (.nil ?_)
   refine .ret ?_
   refine ⟨RetR.agg rfl (.head _) ag_35 rfl (.cons .nil (.cons .nil (.cons .nil (.cons .nil .nil)))), RetD.eq rfl ?_, trivial⟩
   all_goals (first | rfl | (rw [apply_same]; first | done | rfl))
  replace h3 := bnot_f h3
  have tb := h3
  have h1 : ¬ (thereB c.things a = false ∨ thereB c.things b = false) := by rw [ta, tb]; simp
  refine .sr ?_
  refine .mA ?_
  refine .mA ?_
  refine .sA (.eql rfl rfl rfl) ?_
  refine .aA (.nil ?_)
  refine .cond rfl (fun h4 => ?_) (fun h4 => ?_)
  ·replace h4 := of_decide_eq_true h4
   rw [mrgV_o k0 (mrgO_7 h1 h4) (by decide)]
   refine .sr ?_
   refine .sA (.build rfl bu_35 .nil rfl) ?_
   refine .store rfl rfl rfl sz_35 rfl (.head _) rfl rfl rfl (Nat.le_of_ble_eq_true rfl) ?_
   refine .aA (.nil ?_)
   refine .ret ?_
   refine ⟨RetR.agg rfl (.head _) ag_35 rfl (.cons .nil (.cons .nil (.cons .nil (.cons .nil .nil)))), RetD.eq rfl ?_, trivial⟩
   all_goals (first | rfl | (rw [apply_same]; first | done | rfl))
  replace h4 := of_decide_eq_false h4
  have h2 := h4
  refine .sr ?_
  refine .sA (.fieldAddr rfl fo_41_1 rfl) ?_
  refine .sA (.load rfl sc_3 rfl) ?_
  refine .sA (.fieldAddr rfl fo_41_1 rfl) ?_
  refine .sA (.load rfl sc_3 rfl) ?_
  refine .sA (.neq rfl rfl rfl) ?_
  refine .aA (.nil ?_)
  refine .cond rfl (fun h5 => ?_) (fun h5 => ?_)
  ·replace h5 := of_decide_eq_true h5
   rw [mrgV_o k0 (mrgO_6 h1 h2 h5) (by decide)]
   refine .sr ?_
   refine .sA (.build rfl bu_35 .nil rfl) ?_
   refine .store rfl rfl rfl sz_35 rfl (.head _) rfl rfl rfl (Nat.le_of_ble_eq_true rfl) ?_
   refine .aA (.nil ?_)
   refine .ret ?_
   refine ⟨RetR.agg rfl (.head _) ag_35 rfl (.cons .nil (.cons .nil (.cons .nil (.cons .nil .nil)))), RetD.eq rfl ?_, trivial⟩
   all_goals (first | rfl | (rw [apply_same]; first | done | rfl))
  replace h5 := of_decide_eq_false h5
  have h3 : ¬ ((getT c.things a).kind ≠ (getT c.things b).kind) := fun hh => hh (by first | exact h5 | exact Decidable.not_not.1 h5 | omega)
  refine .sr ?_
  refine .sA (.fieldAddr rfl fo_41_3 rfl) ?_
  refine .sA (.load rfl sc_9 rfl) ?_
  refine .sA (.sneq rfl rfl rfl) ?_
  refine .mA ?_
  refine .split 62 rfl (fun g6 => ?_) (fun g6 => ?_)
  ·replace g6 := of_decide_eq_true g6
   have h4 := g6
   refine .sG (.fieldAddr rfl fo_41_3 rfl) ?_
   refine .sG (.load rfl sc_9 rfl) ?_
   refine .sG (.sneq rfl rfl rfl) ?_
   refine .sA (.pickT rfl rfl rfl) ?_
   refine .aA (.nil ?_)
   refine .cond rfl (fun h7 => ?_) (fun h7 => ?_)
   ·replace h7 := of_decide_eq_true h7
    rw [mrgV_o k0 (mrgO_12 h1 h2 h3 ⟨h4, h7⟩) (by decide)]
    refine .sr ?_
    refine .sA (.build rfl bu_35 .nil rfl) ?_
    refine .store rfl rfl rfl sz_35 rfl (.head _) rfl rfl rfl (Nat.le_of_ble_eq_true rfl) ?_
    refine .aA (.nil ?_)
    refine .ret ?_
    refine ⟨RetR.agg rfl (.head _) ag_35 rfl (.cons .nil (.cons .nil (.cons .nil (.cons .nil .nil)))), RetD.eq rfl ?_, trivial⟩
    all_goals (first | rfl | (rw [apply_same]; first | done | rfl))
   replace h7 := of_decide_eq_false h7
   have ho : mrgO c a b = 0 := mrgO_0 h1 h2 h3 (fun hh => by first | exact h7 hh.2 | exact hh.2 h7 | exact absurd h7 hh.2)
   refine .skip ?_
   refine ⟨?_, Sub.less ⟨SLe.refl _, SLe.refl _, SLe.refl _, SLe.refl _, SLe.refl _, trivial⟩ (fun _ h => h)⟩
   exact ho
  replace g6 := of_decide_eq_false g6
  have ho : mrgO c a b = 0 := mrgO_0 h1 h2 h3 (fun hh => by first | exact g6 hh.1 | exact hh.1 g6 | exact absurd g6 hh.1)
  refine .pA ?_
  refine .pA ?_
  refine .pA ?_
  refine .sA (.pickF rfl rfl rfl) ?_
  refine .aA (.nil ?_)
  refine .cond rfl (fun h => nomatch h) (fun _ => ?_)
  refine .skip ?_
  refine ⟨?_, Sub.less ⟨SLe.refl _, SLe.refl _, SLe.refl _, SLe.refl _, SLe.refl _, trivial⟩ (fun _ h => h)⟩
  exact ho
 have hM : Mrg c a b := mrg_of k0 ho
 refine .sr ?_
 refine .sA (.fieldAddr rfl fo_25_1 rfl) ?_
 refine .sA (.load rfl sc_23 rfl) ?_
 refine .mA ?_
 refine .mA ?_
 refine .sA (.build rfl bu_85 (.cons rfl rfl (.cons rfl rfl .nil)) rfl) ?_
 refine .sA (.call rfl (.cons (.rfl' rfl) (.cons (.rfl' rfl) .nil)) (c_putM c.moved ⟨a, b⟩ (by omega))) ?_
 refine .sA (.build rfl bu_25 (.cons rfl rfl .nil) rfl) ?_
 refine .alloc 303 rfl rfl rfl rfl zt_25 rfl rfl rfl ?_
 refine .store rfl rfl rfl sz_25 rfl (.head _) rfl rfl rfl (Nat.le_of_ble_eq_true rfl) (.nil ?_)
 refine .seq ?_
 refine .seq ?_
 refine .adoptCell 201 41 7 303 0 (.head _) rfl rfl ?_
 refine .region ?_
 refine .sA (.fieldAddr rfl fo_25_0 rfl) ?_
 refine .sA (.load rfl sc_22 rfl) ?_
 refine .sA (.lenSl rfl et_22.ht rfl) ?_
 refine .mA (.nil ?_)
 refine .block ?_
 refine .loop (G := Nat) (fun k => Env.of [(78, .d (.v (.int .i64 (k : Int)))), (76, .d (.sl (c.things.map Thg.ds))), (77, .d (.v (.int .i64 ((c.things.map Thg.ds).length : Int)))), (1, .d (.v (.int .i64 a))), (2, .d (.v (.int .i64 b))), (3, .d (.fp c.ds)), (6, .ptr 301 0), (9, .d (.fp (getT c.things a).ds)), (13, .ptr 303 0)]) (fun k => [(201, .row 41 7 ((refL c a b k).map Thg.ds)), (303, .cells [.own 201, .d (.sl ((putF Mvd.src c.moved ⟨a, b⟩).map Mvd.ds))]), (301, .cells [.d (.v (.slice none 0 0)), .d (.v (.slice none 0 0)), .d (.v (.slice none 0 0)), .d (.v (.slice none 0 0))])]) (fun k => k ≤ c.things.length) (fun k => c.things.length - k) 0 (Nat.zero_le _) (Sub.less ⟨(SLe.of_eq rfl), SLe.refl _, SLe.refl _, SLe.refl _, SLe.refl _, SLe.refl _, SLe.refl _, SLe.refl _, SLe.refl _, trivial⟩ (obs_e rfl)) ?_
 intro k hk
 refine .sr ?_
 refine .sA (.lss rfl rfl rfl) (.nil ?_)
 refine .seq ?_
 refine .cond rfl (fun h8 => ?_) (fun h8 => ?_)
 ·replace h8 := of_decide_eq_true h8
  rw [List.length_map] at h8
  have hlt : k < c.things.length := by omega
  have hq := refL_len c a b k
  have hpk : c.things[k].parts.length ≤ 1048576 := by have := HC.parts c.things[k].id; rw [(hr.get (List.getElem_mem hlt)).1] at this; exact Nat.le_trans this (by decide)
  refine .skip ?_
  refine .seq ?_
  refine .block ?_
  refine .sr ?_
  refine .sA (.indexAddr rfl et_22 rfl rfl k rfl (at_lst hlt) rfl) ?_
  refine .sA (.loadAgg rfl ag_41 rfl rfl) ?_
  refine .alloc 105 rfl rfl rfl rfl zt_41 rfl rfl rfl ?_
  refine .store rfl rfl rfl sz_41 rfl (.head _) rfl rfl rfl (Nat.le_of_ble_eq_true rfl) ?_
  refine .freezeCells 15 (ds := c.things[k].ds) rfl (.head _) (.nil ?_)
  refine .sr ?_
  refine .sA (.fieldAddr rfl fo_41_0 rfl) ?_
  refine .sA (.load rfl sc_3 rfl) (.nil ?_)
  refine .block ?_
  refine .sr ?_
  refine .mA ?_
  refine .sA (.eql rfl rfl rfl) ?_
  refine .aA (.nil ?_)
  refine .cond rfl (fun h9 => ?_) (fun h9 => ?_)
  ·replace h9 := of_decide_eq_true h9
   have HB := refL_n (b := b) hlt h9
   refine .skip ?_
   refine .region ?_
   refine .sA (.add64 rfl rfl rfl (by omega) (by omega)) ?_
   refine .mA (.nil ?_)
   refine ⟨k + 1, (by omega), (by dsimp only; omega), Sub.less ⟨(SLe.of_eq rfl), SLe.refl _, SLe.refl _, SLe.refl _, SLe.refl _, SLe.refl _, SLe.refl _, SLe.refl _, SLe.refl _, trivial⟩ (obs_e (by dsimp only; rw [HB]; first | done | rfl | (rw [List.map_append]; rfl)))⟩
  replace h9 := of_decide_eq_false h9
  have HB := refL_y (b := b) hlt h9
  refine .sr ?_
  refine .mA ?_
  refine .sA (.eql rfl rfl rfl) ?_
  refine .aA (.nil ?_)
  refine .cond rfl (fun h10 => ?_) (fun h10 => ?_)
  ·replace h10 := of_decide_eq_true h10
   rw [show refT c a b c.things[k] = inhF c.things[k] (getT c.things a) from if_pos h10] at HB
   refine .drawTail 6 (by kernel_rfl) (by kernel_rfl) (by kernel_rfl) ?_
   refine .sA (.fieldAddrP rfl fo_25_0 rfl) ?_
   refine .sA (.loadP rfl sc_22 rfl (.tail _ (.head _)) rfl) ?_
   refine .sA (.loadAgg rfl ag_41 rfl rfl) ?_
   refine .sA (.loadAgg rfl ag_41 rfl rfl) ?_
   refine .sA (.call rfl (.cons (.rfl' rfl) (.cons (.rfl' rfl) .nil)) (c_inh _ _)) ?_
   refine .sA (.buildSlice rfl et_22 (.cons rfl rfl rfl .nil) rfl (by decide)) ?_
   refine .nil ?_
   -- append 105
   refine .append rfl rfl rfl rfl et_22 rfl (.head _) rfl (fun y hy => by obtain rfl := List.mem_singleton.1 hy; rfl) (by simp; omega) (by simp; omega) ?_
   refine .sA (.fieldAddrP rfl fo_25_0 rfl) ?_
   refine .storeS rfl rfl rfl sz_22 rfl (.tail _ (.head _)) rfl (.head _) (Nat.le_of_ble_eq_true rfl) (.nil ?_)
   refine .region ?_
   refine .sA (.add64 rfl rfl rfl (by omega) (by omega)) ?_
   refine .mA (.nil ?_)
   refine ⟨k + 1, (by omega), (by dsimp only; omega), Sub.less ⟨(SLe.of_eq rfl), SLe.refl _, SLe.refl _, SLe.refl _, SLe.refl _, SLe.refl _, SLe.refl _, SLe.refl _, SLe.refl _, trivial⟩ (obs_e (by dsimp only; rw [HB]; first | done | rfl | (rw [List.map_append]; rfl)))⟩
  replace h10 := of_decide_eq_false h10
  rw [show refT c a b c.things[k] = renF c.things[k] a b from if_neg h10] at HB
  refine .drawTail 7 (by kernel_rfl) (by kernel_rfl) (by kernel_rfl) ?_
  refine .sA (.fieldAddrP rfl fo_25_0 rfl) ?_
  refine .sA (.loadP rfl sc_22 rfl (.tail _ (.head _)) rfl) ?_
  refine .sA (.loadAgg rfl ag_41 rfl rfl) ?_
  refine .sA (.moveD rfl rfl) ?_
  refine .sA (.moveD rfl rfl) ?_
  refine .sA (.call rfl (.cons (.rfl' rfl) (.cons (.rfl' rfl) (.cons (.rfl' rfl) .nil))) (c_instead c.things[k] a b hpk)) ?_
  refine .sA (.buildSlice rfl et_22 (.cons rfl rfl rfl .nil) rfl (by decide)) ?_
  refine .nil ?_
  -- append 91
  refine .append rfl rfl rfl rfl et_22 rfl (.head _) rfl (fun y hy => by obtain rfl := List.mem_singleton.1 hy; rfl) (by simp; omega) (by simp; omega) ?_
  refine .sA (.fieldAddrP rfl fo_25_0 rfl) ?_
  refine .storeS rfl rfl rfl sz_22 rfl (.tail _ (.head _)) rfl (.head _) (Nat.le_of_ble_eq_true rfl) (.nil ?_)
  refine .region ?_
  refine .sA (.add64 rfl rfl rfl (by omega) (by omega)) ?_
  refine .mA (.nil ?_)
  refine ⟨k + 1, (by omega), (by dsimp only; omega), Sub.less ⟨(SLe.of_eq rfl), SLe.refl _, SLe.refl _, SLe.refl _, SLe.refl _, SLe.refl _, SLe.refl _, SLe.refl _, SLe.refl _, trivial⟩ (obs_e (by dsimp only; rw [HB]; first | done | rfl | (rw [List.map_append]; rfl)))⟩
 replace h8 := of_decide_eq_false h8
 rw [List.length_map] at h8
 obtain rfl : k = c.things.length := by omega
 refine .exit ?_
 refine .seq ?_
 refine .freezeIn 303 0 rfl (.head _) (.head _) ?_
 refine .region ?_
 refine .sA (.loadAgg rfl ag_25 rfl rfl) ?_
 refine .sA (.loadPU rfl ag_25 rfl (.head _) rfl rfl) ?_
 refine .sA (.call rfl (.cons (.rfl' rfl) (.cons (.rfl' rfl) .nil)) (c_btw c (refC c a b) hl.two (ref_lim hl))) ?_
 rw [mrg_same hM]
 refine .alloc 106 rfl rfl rfl rfl zt_35 rfl rfl rfl ?_
 refine .store rfl rfl rfl sz_35 rfl (.head _) rfl rfl rfl (Nat.le_of_ble_eq_true rfl) ?_
 refine .freezeCells 16 (ds := (mrgX c a b).ds) rfl (.head _) (.nil ?_)
 refine .seq ?_
 refine .sr ?_
 refine .sA (.loadAgg rfl ag_25 rfl rfl) ?_
 refine .sA (.loadAgg rfl ag_35 rfl rfl) ?_
 -- wants the world
 refine .callT rfl rfl rfl hT maxT_stays rfl (.cons (.rfl' rfl) (.cons (.rfl' rfl) .nil)) (c_rApply c (mrgX c a b) hc (mrgX_in hc k0 ha hb).ok (by have := mrgL_len c a b c.things.length; exact Nat.le_trans (Nat.le_trans this hl1) (by decide)) (by show 1 ≤ 1048576; decide)) ?_
 refine .mA ?_
 refine .sA (.extract rfl rfl rfl) ?_
 refine .sA (.extract rfl rfl rfl) ?_
 refine .sA (.extract rfl rfl rfl) ?_
 refine .alloc 107 rfl rfl rfl rfl zt_25 rfl rfl rfl ?_
 refine .alloc 108 rfl rfl rfl rfl zt_35 rfl rfl rfl ?_
 refine .store rfl rfl rfl sz_25 rfl (.tail _ (.head _)) rfl rfl rfl (Nat.le_of_ble_eq_true rfl) ?_
 refine .freezeCells 17 (ds := (applyR c (mrgX c a b)).1.ds) rfl (.tail _ (.head _)) ?_
 refine .store rfl rfl rfl sz_35 rfl (.head _) rfl rfl rfl (Nat.le_of_ble_eq_true rfl) ?_
 refine .freezeCells 18 (ds := (applyR c (mrgX c a b)).2.1.ds) rfl (.head _) ?_
 refine .aA (.nil ?_)
 refine .sr ?_
 refine .mA ?_
 refine .sA (.neq rfl rfl rfl) (.nil ?_)
 refine .cond rfl (fun h11 => ?_) (fun h11 => ?_)
 ·replace h11 := of_decide_eq_true h11
  rw [mrgV_f k0 ho (by rw [apply_same]; first | exact h11 | omega)]
  refine .sr ?_
  refine .sA (.build rfl bu_35 .nil rfl) ?_
  refine .mA ?_
  refine .store rfl rfl rfl sz_35 rfl (.tail _ (.head _)) rfl rfl rfl (Nat.le_of_ble_eq_true rfl) ?_
  refine .aA (.nil ?_)
  refine .ret ?_
  refine ⟨RetR.agg rfl (.tail _ (.head _)) ag_35 rfl (.cons .nil (.cons .nil (.cons .nil (.cons .nil .nil)))), RetD.eq rfl ?_, trivial⟩
  all_goals (first | rfl | (rw [apply_same]; first | done | rfl))
 replace h11 := of_decide_eq_false h11
 rw [mrgV_0 k0 ho (by rw [apply_same]; first | exact h11 | omega)]
 refine .skip ?_
 refine .sr ?_
 refine .sA (.loadAgg rfl ag_35 rfl rfl) ?_
 refine .store rfl rfl rfl sz_35 rfl (.tail _ (.head _)) rfl rfl rfl (Nat.le_of_ble_eq_true rfl) ?_
 refine .aA (.nil ?_)
 refine .ret ?_
 refine ⟨RetR.agg rfl (.tail _ (.head _)) ag_35 rfl (.cons .d (.cons .d (.cons .d (.cons .d .nil)))), RetD.eq rfl ?_, trivial⟩
 all_goals (first | rfl | (rw [apply_same]; first | done | rfl))

end Go.Proofs.YtgldfnkbpopanaaGreatDoor
