/- Abstract values: calls that turn a slice of the caller's in place. No statement of the seat. -/
import Derived.Test.YtajghehicmlajaaDoorA14
namespace Go.Proofs.YtajghehicmlajaaDoor
open Go.RowKit
set_option linter.unusedVariables false

/-- f, called with an own row of the caller's (whichever) and data, turns the row's elements from els to els' and returns d. -/
def RCall (P : Program) (f : FuncId) (e size : Nat) (els els' : List (List D)) (ds : List D) (d : D) : Prop :=
  ∀ id, XCall P f (.own id :: ds.map S.d) [(id, .row e size els)] [(id, .row e size els')] (fun _ => false) d

theorem RCall.of1 {P : Program} {f : FuncId} {e size : Nat} {els els' : List (List D)} {ds : List D} {d : D} {chg : Nat → Bool} (h : XCall P f (.own 1 :: ds.map S.d) [(1, .row e size els)] [(1, .row e size els')] chg d) (h1 : chg 1 = false) :
    RCall P f e size els els' ds d := by
  intro id
  refine ⟨h.1, fun F ρ B w vs hF hB hσ hv => ?_⟩
  have h2 : ObsOk B F (fun _ => ρ id) w [(1, .row e size els)] := by
    refine ⟨fun p hp => ?_, fun p hp q hq hne => ?_, fun p hp q hq _ => ?_⟩
    · have : p = (1, .row e size els) := by simpa using hp
      subst this
      exact hσ.ok (id, .row e size els) (by simp)
    · have : p = (1, .row e size els) := by simpa using hp
      have h2 : q = (1, .row e size els) := by simpa using hq
      rw [this, h2] at hne
      exact absurd rfl hne
    · have : p = (1, .row e size els) := by simpa using hp
      have h2 : q = (1, .row e size els) := by simpa using hq
      rw [this, h2]
  have h3 : RepSL F (fun _ => ρ id) w vs (.own 1 :: ds.map S.d) := by
    refine ⟨by simpa using hv.1, fun i hi hi2 => ?_⟩
    have h4 := hv.2 i hi (by simpa using hi2)
    cases i with
    | zero =>
      simp only [List.getElem_cons_zero] at h4 ⊢
      generalize vs[0] = x at h4
      cases h4
      exact RepS.own (ρ := fun _ => ρ id) 1
    | succ i =>
      simp only [List.getElem_cons_succ, List.getElem_map] at h4 ⊢
      exact .d (repS_d h4)
  refine (h.2 F (fun _ => ρ id) B w vs hF hB h2 h3).mono ?_
  rintro e' w' ⟨v, F', ρ', he, hr, hx⟩
  have hρ : ρ' 1 = ρ id := hx.same 1 h1
  have hblk : ∀ b, ownB [(1, Ob.row e size els)] (fun _ => ρ id) b ↔ ownB [(id, Ob.row e size els)] ρ b := fun b => by simp [ownB]
  refine ⟨v, F', ρ, he, hr, hx.up, fun b hb => (hx.new b hb).imp (fun x => x) (fun hh => hh.imp (fun x => x) (hblk b).1), hx.lt, ⟨hx.kept.os, hx.kept.tape, hx.kept.output, hx.kept.size, fun k hk hn => hx.kept.block k hk (fun hh => hn (hh.imp (fun x => x) (hblk k).1))⟩, ?_, ?_, fun _ _ => rfl⟩
  · refine ⟨fun p hp => ?_, fun p hp q hq hne => ?_, fun p hp q hq _ => ?_⟩
    · have : p = (id, .row e size els') := by simpa using hp
      subst this
      have h5 := hx.obs.ok (1, .row e size els') (by simp)
      obtain ⟨xs, h6, h7, h8, h9⟩ := h5
      dsimp only at h6 h9
      rw [hρ] at h6 h9
      exact ⟨xs, h6, h7, h8, h9⟩
    · have : p = (id, .row e size els') := by simpa using hp
      have h2 : q = (id, .row e size els') := by simpa using hq
      rw [this, h2] at hne
      exact absurd rfl hne
    · have : p = (id, .row e size els') := by simpa using hp
      have h2 : q = (id, .row e size els') := by simpa using hq
      rw [this, h2]
  · intro p hp g hg
    have : p = (id, .row e size els') := by simpa using hp
    subst this
    have h5 := hx.own (1, .row e size els') (by simp) g (by rw [hρ]; exact hg)
    exact h5.imp (fun x => x) (hblk g).1

theorem mem_row_eq {id e size : Nat} {els els' : List (List D)} {σ : Obs} (h : (id, Ob.row e size els) ∈ σ) (hd : els = els') : (id, Ob.row e size els') ∈ σ := hd ▸ h

/-- A call that only reads, where an own row is handed on: the row as it is. -/
theorem RCall.eq {P : Program} {f : FuncId} {e size : Nat} {els els' els2 els2' : List (List D)} {ds : List D} {d : D} (h : RCall P f e size els els' ds d) (h1 : els = els2) (h2 : els' = els2') : RCall P f e size els2 els2' ds d := by
  subst h1; subst h2; exact h
end Go.Proofs.YtajghehicmlajaaDoor
