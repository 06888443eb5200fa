/- Walks and laws over abstract values, merged by tools/merge.py. No statement of the seat. -/
import Derived.Test.YtfjnbgldlnanhaaDoorXT6

namespace Go.Proofs.YtfjnbgldlnanhaaDoor
open Go.RowKit
set_option linter.unusedVariables false

/-! Types. -/
namespace TyKG
theorem ag_25 : AggT Tryd.prog 25 2 := .of (by kernel_rfl)
theorem ag_46 : AggT Tryd.prog 46 7 := .of (by kernel_rfl)
theorem ag_50 : AggT Tryd.prog 50 2 := .of (by kernel_rfl)
theorem bu_50 : StructT Tryd.prog 50 (fun i => (#[(0, 1), (1, 1)] : Array (Nat × Nat))[i]?) [(.int .i64 0), (.string ⟨#[]⟩)] := .of (by kernel_rfl) (by kernel_rfl) (by decide)
theorem et_22 : ElemTy Tryd.prog 22 46 7 88 (.agg #[(.int .i64 0), (.int .i64 0), (.string ⟨#[]⟩), (.string ⟨#[]⟩), (.int .i64 0), (.int .i64 0), (.slice none 0 0)]) := ⟨by kernel_rfl, by kernel_rfl, by kernel_rfl, by decide⟩
theorem et_23 : ElemTy Tryd.prog 23 38 2 16 (.agg #[(.int .i64 0), (.int .i64 0)]) := ⟨by kernel_rfl, by kernel_rfl, by kernel_rfl, by decide⟩
theorem fo_25_0 : fieldOff Tryd.prog 25 0 = some 0 := by kernel_rfl
theorem fo_25_1 : fieldOff Tryd.prog 25 1 = some 1 := by kernel_rfl
theorem fo_46_0 : fieldOff Tryd.prog 46 0 = some 0 := by kernel_rfl
theorem fo_46_1 : fieldOff Tryd.prog 46 1 = some 1 := by kernel_rfl
theorem fo_46_3 : fieldOff Tryd.prog 46 3 = some 3 := by kernel_rfl
theorem sc_22 : Scal Tryd.prog 22 := .of (by kernel_rfl)
theorem sc_23 : Scal Tryd.prog 23 := .of (by kernel_rfl)
theorem sc_3 : Scal Tryd.prog 3 := .of (by kernel_rfl)
theorem sc_9 : Scal Tryd.prog 9 := .of (by kernel_rfl)
theorem sz_46 : ∀ w, (sizeOf 46).run Tryd.prog w = .ok 7 w := SizeT.of (by kernel_rfl)
theorem sz_50 : ∀ w, (sizeOf 50).run Tryd.prog w = .ok 2 w := SizeT.of (by kernel_rfl)
theorem zt_46 : (Tryd.prog.info? 46).bind (·.zero) = some (.agg #[(.int .i64 0), (.int .i64 0), (.string ⟨#[]⟩), (.string ⟨#[]⟩), (.int .i64 0), (.int .i64 0), (.slice none 0 0)]) := by kernel_rfl
theorem zt_50 : (Tryd.prog.info? 50).bind (·.zero) = some (.agg #[(.int .i64 0), (.string ⟨#[]⟩)]) := by kernel_rfl
end TyKG
open TyKG


theorem krow_C : (50 : TypeId) < Tryd.prog.types.size := of_decide_eq_true (by kernel_rfl)
theorem kwide_C : (match Tryd.prog.underlying 50 with | some (.array _ _) | some (.struct _) => true | _ => false) = true := by kernel_rfl
theorem klaid : laidOutB Tryd.prog = true := by kernel_rfl
set_option maxRecDepth 100000 in
theorem kd_C : Maps.Keyed Tryd.prog 50 := Maps.Keyed.of_law (deep_law_laid klaid (m := 3) (by omega) krow_C (by kernel_rfl) kwide_C)
def isStrT (o : Option TypeDesc) : Bool := match o with
  | some .string => true
  | _ => false
def isI64T (o : Option TypeDesc) : Bool := match o with
  | some (.int .i64) => true
  | _ => false
theorem isStrT_eq {o : Option TypeDesc} (h : isStrT o = true) : o = some .string := by
  unfold isStrT at h
  split at h
  · rfl
  · cases h
theorem isI64T_eq {o : Option TypeDesc} (h : isI64T o = true) : o = some (.int .i64) := by
  unfold isI64T at h
  split at h
  · rfl
  · cases h
def keyCB (P : Program) (k : TypeId) : Bool := match P.underlying k with
  | some (.struct fs) => (match fs.toList with
    | [f, g] => f.name != "_" && g.name != "_" && f.offset == 0 && g.offset == 1 && isI64T (P.underlying f.type) && isStrT (P.underlying g.type) && P.cellsOf f.type == 1 && P.cellsOf g.type == 1
    | _ => false) && P.cellsOf k == 2
  | _ => false
theorem keyC_ok' {P : Program} {k : TypeId} (h : keyCB P k = true) (hk : P.keyType k = true) (h0 : k < P.types.size) (s : ByteArray) (n : Int) (hs : s.size ≤ maxLen) (hn : (Lit.int .i64 n).wf = true) : ∃ l, keyOf P k (.agg #[.int .i64 n, .string s]) = some l := by
  unfold keyCB at h
  cases hu : P.underlying k with
  | none => rw [hu] at h; cases h
  | some td =>
    rw [hu] at h
    cases td <;> try (cases h; done)
    rename_i fs
    simp only [Bool.and_eq_true] at h
    obtain ⟨h1, h2⟩ := h
    cases hf : fs.toList with
    | nil => rw [hf] at h1; cases h1
    | cons f r =>
      cases r with
      | nil => rw [hf] at h1; cases h1
      | cons g r =>
        cases r with
        | cons _ _ => rw [hf] at h1; cases h1
        | nil =>
          rw [hf] at h1
          simp only [Bool.and_eq_true, beq_iff_eq] at h1 h2
          obtain ⟨⟨⟨⟨⟨⟨⟨a1, a2⟩, a3⟩, a4⟩, a5⟩, a6⟩, a7⟩, a8⟩ := h1
          have a5' := isI64T_eq a5
          have a6' := isStrT_eq a6
          obtain ⟨m, hm⟩ : ∃ m, P.types.size = m + 1 := ⟨P.types.size - 1, (Nat.sub_add_cancel (Nat.lt_of_le_of_lt (Nat.zero_le k) h0)).symm⟩
          have hall : fs.all (·.name != "_") = true := by
            rw [← Array.all_toList, hf]
            simp only [List.all_cons, List.all_nil, a1, a2, Bool.and_self]
          unfold keyOf
          rw [hu]
          simp only [hk, Value.formed, hu, h2, Bool.true_and]
          refine ⟨.string (keyBytes [.int .i64 n, .string s.data.toList]), ?_⟩
          have kf : P.keyLits (m + 1) f.type [.int .i64 n] = some [.int .i64 n] := by
            unfold Program.keyLits
            rw [a5']
            simp [hn]
          have kg : P.keyLits (m + 1) g.type [.string s] = some [.string s.data.toList] := by
            unfold Program.keyLits
            rw [a6']
            simp [hs]
          have c1 : (([Value.int .i64 n, .string s] : List Value).drop f.offset).take (P.cellsOf f.type) = [.int .i64 n] := by rw [a3, a7]; rfl
          have c2 : (([Value.int .i64 n, .string s] : List Value).drop g.offset).take (P.cellsOf g.type) = [.string s] := by rw [a4, a8]; rfl
          have hk2 : P.keyLits (m + 1 + 1) k [.int .i64 n, .string s] = some [.int .i64 n, .string s.data.toList] := by
            unfold Program.keyLits
            rw [hu]
            simp only [List.length_cons, List.length_nil, h2, hall, and_self, if_true, hf, List.mapM_cons, List.mapM_nil, c1, c2, kf, kg]
            rfl
          simp [Value.cells, hm, hk2]

abbrev KC := Int × ByteArray
def kC (p : KC) : Value := .agg #[.int .i64 p.1, .string p.2]
def dB (p : KC × Bool) : D := .v (.bool p.2)
theorem kC_ok {n : Int} {s : ByteArray} (h : i64 n) (hs : s.size ≤ maxLen) : ∃ l, keyOf Tryd.prog 50 (kC (n, s)) = some l := keyC_ok' (by kernel_rfl) (by kernel_rfl) krow_C s n hs (wf64 h)
theorem kC_inj {a b : KC} (h : kC a = kC b) : a = b := by
  unfold kC at h
  simp only [Value.agg.injEq] at h
  have h2 : [Value.int .i64 a.1, .string a.2] = [.int .i64 b.1, .string b.2] := congrArg Array.toList h
  simp at h2
  exact Prod.ext h2.1 h2.2
def seenM (L : List (KC × Bool)) : List (Value × D) := encG kC dB L
def seenL (l : List Thg) : List (KC × Bool) := l.foldl (fun L x => putG L (x.kind, x.code) true) []
theorem seenL_next {l : List Thg} {k : Nat} (hk : k < l.length) : seenL (l.take (k + 1)) = putG (seenL (l.take k)) (l[k].kind, l[k].code) true := by
  unfold seenL
  rw [List.take_add_one, List.getElem?_eq_getElem hk, Option.toList_some, List.foldl_append]; rfl
theorem foldC_nk : ∀ (l : List Thg) (L : List (KC × Bool)), NkG L → NkG (l.foldl (fun L x => putG L (x.kind, x.code) true) L)
  | [], _, h => h
  | _ :: l, _, h => foldC_nk l _ (putG_nk h _ _)
theorem seenL_nk (l : List Thg) : NkG (seenL l) := foldC_nk l [] List.Pairwise.nil
theorem foldC_get : ∀ (l : List Thg) (L : List (KC × Bool)) (k : Int) (c : ByteArray), (findG (l.foldl (fun L x => putG L (x.kind, x.code) true) L) (k, c)).getD false = ((findG L (k, c)).getD false || l.any fun x => decide (x.kind = k) && decide (x.code = c))
  | [], L, k, c => by simp
  | x :: l, L, k, c => by
    rw [List.foldl_cons, foldC_get l _ k c, findG_put, List.any_cons]
    by_cases h : (k, c) = (x.kind, x.code)
    · rw [if_pos h]
      obtain ⟨rfl, rfl⟩ := Prod.mk.inj h
      simp
    · rw [if_neg h]
      have : (decide (x.kind = k) && decide (x.code = c)) = false := by
        rw [Bool.eq_false_iff]
        intro hh
        rw [Bool.and_eq_true] at hh
        exact h (Prod.ext (of_decide_eq_true hh.1).symm (of_decide_eq_true hh.2).symm)
      rw [this, Bool.false_or]
theorem seen_tw (l : List Thg) (i : Nat) (t : Thg) : (findG (seenL (l.take i)) (t.kind, t.code)).getD false = twB l i t := by
  unfold seenL twB
  rw [foldC_get]
  simp [findG]
theorem foldC_mem (P : KC → Prop) : ∀ (l : List Thg) (L : List (KC × Bool)), (∀ x ∈ l, P (x.kind, x.code)) → (∀ p ∈ L, P p.1) → ∀ p ∈ l.foldl (fun L x => putG L (x.kind, x.code) true) L, P p.1
  | [], _, _, h => h
  | x :: l, L, h, h2 => foldC_mem P l _ (fun y hy => h y (List.mem_cons_of_mem _ hy)) fun p hp => by
    unfold putG at hp
    dsimp only at hp
    by_cases hh : hasG L (x.kind, x.code) = true
    · rw [if_pos hh] at hp
      obtain ⟨q, hq, rfl⟩ := List.mem_map.1 hp
      by_cases h3 : q.1 = (x.kind, x.code)
      · rw [if_pos h3]; exact h x List.mem_cons_self
      · rw [if_neg h3]; exact h2 q hq
    · rw [if_neg hh, List.mem_append, List.mem_singleton] at hp
      rcases hp with hp | hp
      · exact h2 p hp
      · rw [hp]; exact h x List.mem_cons_self
theorem seen_keys {l : List Thg} (h : ∀ x ∈ l, ThgOk x) (i : Nat) : ∀ p ∈ seenM (seenL (l.take i)), ∃ q, keyOf Tryd.prog 50 p.1 = some q := fun p hp => by
  unfold seenM encG at hp
  obtain ⟨q, hq, rfl⟩ := List.mem_map.1 hp
  have := foldC_mem (fun k => i64 k.1 ∧ k.2.size ≤ 9223372036854775807) (l.take i) [] (fun x hx => ⟨(h x (List.mem_of_mem_take hx)).kind, (h x (List.mem_of_mem_take hx)).code⟩) (fun p hp => by cases hp) q hq
  exact kC_ok this.1 this.2
theorem mt_seen : Tryd.prog.underlying 48 = some (.map 50 4) := by kernel_rfl
theorem zt_bool : (Tryd.prog.info? 4).bind (·.zero) = some (.bool false) := by kernel_rfl
theorem zd_bool (F : Nat → Prop) (w : World) : Rep F w (.bool false) (.v (.bool false)) := .v _
theorem get_seen (l : List Thg) (i : Nat) (t : Thg) : MGet (seenM (seenL (l.take i))) (kC (t.kind, t.code)) (.v (.bool false)) (.v (.bool (twB l i t))) := by
  rw [← seen_tw]
  exact mgetG (kv := kC) (dv := dB) kC_inj (seenL_nk _) _ _ _ (by cases findG (seenL (l.take i)) (t.kind, t.code) <;> rfl)
theorem put_seen {l : List Thg} {k : Nat} (hk : k < l.length) : MPut (seenM (seenL (l.take k))) (kC (l[k].kind, l[k].code)) (.v (.bool true)) (seenM (seenL (l.take (k + 1)))) := by
  rw [seenL_next hk]
  exact mputG (kv := kC) (dv := dB) kC_inj (seenL_nk _) (l[k].kind, l[k].code) true
theorem thg_parts {x : Thg} (h : thgF x = 0) : x.parts.length ≤ 50 := by
  unfold thgF at h
  by_cases h1 : kindB x.kind = false
  · rw [if_pos h1] at h; omega
  rw [if_neg h1] at h
  by_cases h2 : titleOk x.title = false
  · rw [if_pos h2] at h; omega
  rw [if_neg h2] at h
  by_cases h3 : ¬ x.code = ⟨#[]⟩ ∧ codeF x.kind x.code.data.toList ≠ 0
  · rw [if_pos h3] at h; exact absurd h h3.2
  rw [if_neg h3] at h
  by_cases h4 : x.since < 0 ∨ 200000 < x.since
  · rw [if_pos h4] at h; omega
  rw [if_neg h4] at h
  split at h
  · omega
  · split at h <;> omega
theorem parts_of {l : List Thg} (h : ffst (thF l) l.length = 0) {k : Nat} (hk : k < l.length) : l[k].parts.length ≤ 50 := thg_parts (thF_0 hk (ffst_all _ h k hk)).2.2
theorem lim_of {c : Ctl} (h : ¬ (300 < c.things.length ∨ 300 < c.moved.length)) : Lim c := ⟨by omega, by omega⟩
theorem chk_t {c : Ctl} {k : Nat} {n : Int} (hL : ¬ (300 < c.things.length ∨ 300 < c.moved.length)) (hk : k < c.things.length) (hf : ffst (thF c.things) k = 0) (h2 : thF c.things k = n) (hn : n ≠ 0) : chkF c = n := by
  have h3 := ffst_hit hf (by rw [h2]; exact hn) _ hk
  unfold chkF
  rw [if_neg hL, h3, h2, if_pos hn]
theorem chk_l {c : Ctl} {k : Nat} {n : Int} (hL : ¬ (300 < c.things.length ∨ 300 < c.moved.length)) (h1 : ffst (thF c.things) c.things.length = 0) (hk : k < c.things.length) (hf : ffst (lkF c.things) k = 0) (h2 : lkF c.things k = n) (hn : n ≠ 0) : chkF c = n := by
  have h3 := ffst_hit hf (by rw [h2]; exact hn) _ hk
  unfold chkF
  rw [if_neg hL, if_neg (by omega), h3, h2, if_pos hn]
theorem chk_m {c : Ctl} (hL : ¬ (300 < c.things.length ∨ 300 < c.moved.length)) (h1 : ffst (thF c.things) c.things.length = 0) (h2 : ffst (lkF c.things) c.things.length = 0) : chkF c = mvdF c := by
  unfold chkF
  rw [if_neg hL, if_neg (by omega), if_neg (by omega)]
/-! ## What a right catalogue is -/
structure CatOk (c : Ctl) : Prop where
  lim : Lim c
  ris : RisT c.things
  rism : RisM c.moved
  th : ∀ k (hk : k < c.things.length), thgF c.things[k] = 0
  lk : ∀ k (hk : k < c.things.length), linkF c.things c.things[k] = 0
  lp : ∀ x ∈ c.moved, (ledC c x.src).isSome = true
theorem catOk {c : Ctl} (h : chkF c = 0) : CatOk c := by
  unfold chkF at h
  by_cases hL : 300 < c.things.length ∨ 300 < c.moved.length
  · rw [if_pos hL] at h; omega
  rw [if_neg hL] at h
  by_cases h1 : ffst (thF c.things) c.things.length ≠ 0
  · rw [if_pos h1] at h; exact absurd h h1
  rw [if_neg h1] at h
  have h1 : ffst (thF c.things) c.things.length = 0 := by omega
  by_cases h2 : ffst (lkF c.things) c.things.length ≠ 0
  · rw [if_pos h2] at h; exact absurd h h2
  rw [if_neg h2] at h
  have h2 : ffst (lkF c.things) c.things.length = 0 := by omega
  unfold mvdF at h
  by_cases h3 : ffst (mvF c) c.moved.length ≠ 0
  · rw [if_pos h3] at h; exact absurd h h3
  rw [if_neg h3] at h
  have h3 : ffst (mvF c) c.moved.length = 0 := by omega
  refine ⟨lim_of hL, risT_of h1, risM_of h3, fun k hk => (thF_0 hk (ffst_all _ h1 k hk)).2.2, fun k hk => ?_, fun x hx => ?_⟩
  · have h4 := ffst_all _ h2 k hk
    unfold lkF at h4
    rw [dif_pos hk] at h4
    by_cases h5 : linkF c.things c.things[k] ≠ 0
    · rw [if_pos h5] at h4; exact absurd h4 h5
    · omega
  · obtain ⟨k, hk, rfl⟩ := List.mem_iff_getElem.1 hx
    have h4 := ffst_all _ h k hk
    unfold lpF at h4
    rw [dif_pos hk] at h4
    cases hq : (ledC c c.moved[k].src).isSome with
    | true => rfl
    | false => rw [hq, if_pos rfl] at h4; omega


set_option maxRecDepth 100000 in
set_option maxHeartbeats 1000000 in
theorem c_pChk (c : Ctl) (hc : CtlOk c) : ACallT Tryd.prog MaxT 6 [.agg c.ds] (.v (.int .i64 (chkF c))) := by
  refine acall_ofT (n := 93) (ds' := [.v (.int .i64 (chkF c))]) Tryd.func6 rfl (by kernel_rfl) rfl [2] rfl rfl ?_
  intro B w0 F0 hT
  have htl : (c.things.map Thg.ds).length = c.things.length := List.length_map ..
  have hml : (c.moved.map Mvd.ds).length = c.moved.length := List.length_map ..
  refine AWP.seq ?_
  refine AWP.region ?_
  refine AOps.step rfl rfl rfl (AOp.box rfl rfl rfl) ?_
  refine AOps.step rfl rfl rfl (AOp.assignD rfl rfl) ?_
  refine AOps.nil ?_
  refine AWP.seq ?_
  refine AWP.seq ?_
  refine AWP.region ?_
  refine AOps.step rfl rfl rfl (AOp.fieldAddr rfl fo_25_0 rfl) ?_
  refine AOps.step rfl rfl rfl (AOp.load rfl sc_22 rfl) ?_
  refine AOps.step rfl rfl rfl (AOp.lenSl rfl et_22.ht rfl) ?_
  refine AOps.step rfl rfl rfl (AOp.gtr rfl rfl rfl) ?_
  refine AOps.step rfl rfl rfl (AOp.moveD rfl rfl) ?_
  refine AOps.split 16 rfl (fun g1 => ?_) (fun g1 => ?_)
  · replace g1 := of_decide_eq_true g1
    have HR : chkF c = 2 := if_pos (by omega)
    refine AOps.pass ⟨16, rfl, .inl ⟨_, rfl, rfl⟩⟩ rfl rfl ?_
    refine AOps.pass ⟨16, rfl, .inl ⟨_, rfl, rfl⟩⟩ rfl rfl ?_
    refine AOps.pass ⟨16, rfl, .inl ⟨_, rfl, rfl⟩⟩ rfl rfl ?_
    refine AOps.pass ⟨16, rfl, .inl ⟨_, rfl, rfl⟩⟩ rfl rfl ?_
    refine AOps.step rfl rfl rfl (AOp.pickT rfl rfl rfl) ?_
    refine AOps.nil ?_
    refine AWP.cond rfl (fun _ => ?_) (fun h => nomatch h)
    refine AWP.seq ?_
    refine AWP.region ?_
    refine AOps.step rfl rfl rfl (AOp.assignD rfl rfl) ?_
    refine AOps.nil ?_
    refine AWP.ret ?_
    refine ⟨RetD.eq rfl ?_, trivial⟩
    all_goals (first | rfl | first | rw [HR] | rw [chk_t hL hlt hk.2 (show thF c.things k = 1 from by unfold thF; rw [dif_pos hlt]; (first | (exfalso; omega) | ((repeat (first | rw [if_pos (by first | assumption | omega)] | rw [if_neg (by first | assumption | omega)])); first | done | rfl | omega | decide))) (by decide)] | rw [chk_t hL hlt hk.2 (show thF c.things k = 8 from by unfold thF; rw [dif_pos hlt]; (first | (exfalso; omega) | ((repeat (first | rw [if_pos (by first | assumption | omega)] | rw [if_neg (by first | assumption | omega)])); first | done | rfl | omega | decide))) (by decide)])
  · replace g1 := of_decide_eq_false g1
    refine AOps.step ⟨16, rfl, .inl ⟨_, rfl, rfl⟩⟩ rfl rfl (AOp.fieldAddr rfl fo_25_1 rfl) ?_
    refine AOps.step ⟨16, rfl, .inl ⟨_, rfl, rfl⟩⟩ rfl rfl (AOp.load rfl sc_23 rfl) ?_
    refine AOps.step ⟨16, rfl, .inl ⟨_, rfl, rfl⟩⟩ rfl rfl (AOp.lenSl rfl et_23.ht rfl) ?_
    refine AOps.step ⟨16, rfl, .inl ⟨_, rfl, rfl⟩⟩ rfl rfl (AOp.gtr rfl rfl rfl) ?_
    refine AOps.step rfl rfl rfl (AOp.pickF rfl rfl rfl) ?_
    refine AOps.nil ?_
    refine AWP.cond rfl (fun h2 => ?_) (fun h2 => ?_)
    · replace h2 := of_decide_eq_true h2
      have HR : chkF c = 2 := if_pos (by omega)
      refine AWP.seq ?_
      refine AWP.region ?_
      refine AOps.step rfl rfl rfl (AOp.assignD rfl rfl) ?_
      refine AOps.nil ?_
      refine AWP.ret ?_
      refine ⟨RetD.eq rfl ?_, trivial⟩
      all_goals (first | rfl | first | rw [HR] | rw [chk_t hL hlt hk.2 (show thF c.things k = 1 from by unfold thF; rw [dif_pos hlt]; (first | (exfalso; omega) | ((repeat (first | rw [if_pos (by first | assumption | omega)] | rw [if_neg (by first | assumption | omega)])); first | done | rfl | omega | decide))) (by decide)] | rw [chk_t hL hlt hk.2 (show thF c.things k = 8 from by unfold thF; rw [dif_pos hlt]; (first | (exfalso; omega) | ((repeat (first | rw [if_pos (by first | assumption | omega)] | rw [if_neg (by first | assumption | omega)])); first | done | rfl | omega | decide))) (by decide)])
    · replace h2 := of_decide_eq_false h2
      have hL : ¬ (300 < c.things.length ∨ 300 < c.moved.length) := by omega
      have hLim := lim_of hL
      refine AWP.skip ?_
      refine AWP.seq ?_
      refine AWP.seq ?_
      refine AWP.region ?_
      refine AOps.step rfl rfl rfl (AOp.fieldAddr rfl fo_25_0 rfl) ?_
      refine AOps.step rfl rfl rfl (AOp.load rfl sc_22 rfl) ?_
      refine AOps.step rfl rfl rfl (AOp.lenSl rfl et_22.ht rfl) ?_
      refine AOps.step rfl rfl rfl (AOp.moveD rfl rfl) ?_
      refine AOps.nil ?_
      refine AWP.block ?_
      refine AWP.loop (G := Nat) (fun k => Env.of [(25, .d (.v (.int .i64 (k : Int)))), (23, .d (.sl (c.things.map Thg.ds))), (24, .d (.v (.int .i64 ((c.things.map Thg.ds).length : Int)))), (1, .d (.fp c.ds))]) (fun k => []) (fun k => k ≤ c.things.length ∧ ffst (thF c.things) k = 0) (fun k => c.things.length - k) 0 ⟨Nat.zero_le _, rfl⟩ (Sub.less ⟨(SLe.of_eq rfl), SLe.refl _, SLe.refl _, SLe.refl _, trivial⟩ (fun _ h => h)) ?_
      intro k hk
      refine AWP.seq ?_
      refine AWP.region ?_
      refine AOps.step rfl rfl rfl (AOp.lss rfl rfl rfl) ?_
      refine AOps.nil ?_
      refine AWP.seq ?_
      refine AWP.cond rfl (fun h3 => ?_) (fun h3 => ?_)
      · replace h3 := of_decide_eq_true h3
        rw [List.length_map] at h3
        have hlt : k < c.things.length := by omega
        have hbk := hc.things _ (List.getElem_mem hlt)
        refine AWP.skip ?_
        refine AWP.seq ?_
        refine AWP.block ?_
        refine AWP.seq ?_
        refine AWP.region ?_
        refine AOps.step rfl rfl rfl (AOp.moveD rfl rfl) ?_
        refine AOps.step rfl rfl rfl (AOp.indexAddr rfl et_22 rfl rfl k rfl (at_lst hlt) rfl) ?_
        refine AOps.step rfl rfl rfl (AOp.loadAgg rfl ag_46 rfl rfl) ?_
        refine AOps.alloc 101 rfl rfl rfl rfl zt_46 rfl rfl rfl ?_
        refine AOps.step rfl rfl rfl (AOp.assignD rfl rfl) ?_
        refine AOps.store rfl rfl rfl sz_46 rfl (.head _) rfl rfl rfl (Nat.le_of_ble_eq_true rfl) ?_
        refine AOps.freezeCells 4 (ds := c.things[k].ds) rfl (.head _) ?_
        refine AOps.nil ?_
        refine AWP.seq ?_
        refine AWP.seq ?_
        refine AWP.region ?_
        refine AOps.step rfl rfl rfl (AOp.fieldAddr rfl fo_46_0 rfl) ?_
        refine AOps.step rfl rfl rfl (AOp.load rfl sc_3 rfl) ?_
        refine AOps.step rfl rfl rfl (AOp.lss rfl rfl rfl) ?_
        refine AOps.step rfl rfl rfl (AOp.moveD rfl rfl) ?_
        refine AOps.split 33 rfl (fun g4 => ?_) (fun g4 => ?_)
        · replace g4 := of_decide_eq_true g4
          refine AOps.pass ⟨33, rfl, .inl ⟨_, rfl, rfl⟩⟩ rfl rfl ?_
          refine AOps.pass ⟨33, rfl, .inl ⟨_, rfl, rfl⟩⟩ rfl rfl ?_
          refine AOps.pass ⟨33, rfl, .inl ⟨_, rfl, rfl⟩⟩ rfl rfl ?_
          refine AOps.step rfl rfl rfl (AOp.pickT rfl rfl rfl) ?_
          refine AOps.nil ?_
          refine AWP.cond rfl (fun _ => ?_) (fun h => nomatch h)
          refine AWP.seq ?_
          refine AWP.region ?_
          refine AOps.step rfl rfl rfl (AOp.assignD rfl rfl) ?_
          refine AOps.nil ?_
          refine AWP.ret ?_
          refine ⟨RetD.eq rfl ?_, trivial⟩
          all_goals (first | rfl | first | rw [HR] | rw [chk_t hL hlt hk.2 (show thF c.things k = 1 from by unfold thF; rw [dif_pos hlt]; (first | (exfalso; omega) | ((repeat (first | rw [if_pos (by first | assumption | omega)] | rw [if_neg (by first | assumption | omega)])); first | done | rfl | omega | decide))) (by decide)] | rw [chk_t hL hlt hk.2 (show thF c.things k = 8 from by unfold thF; rw [dif_pos hlt]; (first | (exfalso; omega) | ((repeat (first | rw [if_pos (by first | assumption | omega)] | rw [if_neg (by first | assumption | omega)])); first | done | rfl | omega | decide))) (by decide)])
        · replace g4 := of_decide_eq_false g4
          refine AOps.step ⟨33, rfl, .inl ⟨_, rfl, rfl⟩⟩ rfl rfl (AOp.fieldAddr rfl fo_46_0 rfl) ?_
          refine AOps.step ⟨33, rfl, .inl ⟨_, rfl, rfl⟩⟩ rfl rfl (AOp.load rfl sc_3 rfl) ?_
          refine AOps.step ⟨33, rfl, .inl ⟨_, rfl, rfl⟩⟩ rfl rfl (AOp.gtr rfl rfl rfl) ?_
          refine AOps.step rfl rfl rfl (AOp.pickF rfl rfl rfl) ?_
          refine AOps.nil ?_
          refine AWP.cond rfl (fun h5 => ?_) (fun h5 => ?_)
          · replace h5 := of_decide_eq_true h5
            refine AWP.seq ?_
            refine AWP.region ?_
            refine AOps.step rfl rfl rfl (AOp.assignD rfl rfl) ?_
            refine AOps.nil ?_
            refine AWP.ret ?_
            refine ⟨RetD.eq rfl ?_, trivial⟩
            all_goals (first | rfl | first | rw [HR] | rw [chk_t hL hlt hk.2 (show thF c.things k = 1 from by unfold thF; rw [dif_pos hlt]; (first | (exfalso; omega) | ((repeat (first | rw [if_pos (by first | assumption | omega)] | rw [if_neg (by first | assumption | omega)])); first | done | rfl | omega | decide))) (by decide)] | rw [chk_t hL hlt hk.2 (show thF c.things k = 8 from by unfold thF; rw [dif_pos hlt]; (first | (exfalso; omega) | ((repeat (first | rw [if_pos (by first | assumption | omega)] | rw [if_neg (by first | assumption | omega)])); first | done | rfl | omega | decide))) (by decide)])
          · replace h5 := of_decide_eq_false h5
            refine AWP.skip ?_
            refine AWP.seq ?_
            refine AWP.seq ?_
            refine AWP.draw (by kernel_rfl) (by kernel_rfl) ?_
            refine DRun.step rfl rfl rfl (AOp.moveD rfl rfl) ?_
            refine DRun.step rfl rfl rfl (AOp.gtr rfl rfl rfl) ?_
            refine DRun.step rfl rfl rfl (AOp.moveD rfl rfl) ?_
            refine DRun.split 40 rfl (fun g6 => ?_) (fun g6 => ?_)
            · replace g6 := of_decide_eq_true g6
              have hk0 : 0 < k := by omega
              refine DRun.step ⟨40, rfl, .inl ⟨_, rfl, rfl⟩⟩ rfl rfl (AOp.fieldAddr rfl fo_46_0 rfl) ?_
              refine DRun.step ⟨40, rfl, .inl ⟨_, rfl, rfl⟩⟩ rfl rfl (AOp.load rfl sc_3 rfl) ?_
              refine DRun.step ⟨40, rfl, .inl ⟨_, rfl, rfl⟩⟩ rfl rfl (AOp.fieldAddr rfl fo_25_0 rfl) ?_
              refine DRun.step ⟨40, rfl, .inl ⟨_, rfl, rfl⟩⟩ rfl rfl (AOp.load rfl sc_22 rfl) ?_
              refine DRun.step ⟨40, rfl, .inl ⟨_, rfl, rfl⟩⟩ rfl rfl (AOp.moveD rfl rfl) ?_
              refine DRun.step ⟨40, rfl, .inl ⟨_, rfl, rfl⟩⟩ rfl rfl (AOp.sub64 rfl rfl rfl (by omega) (by omega)) ?_
              refine DRun.step ⟨40, rfl, .inl ⟨_, rfl, rfl⟩⟩ rfl rfl (AOp.indexAddr rfl et_22 rfl rfl (k - 1) (by omega) (at_lst (by omega)) rfl) ?_
              refine DRun.step ⟨40, rfl, .inl ⟨_, rfl, rfl⟩⟩ rfl rfl (AOp.fieldAddr rfl fo_46_0 rfl) ?_
              refine DRun.step ⟨40, rfl, .inl ⟨_, rfl, rfl⟩⟩ rfl rfl (AOp.load rfl sc_3 rfl) ?_
              refine DRun.step ⟨40, rfl, .inl ⟨_, rfl, rfl⟩⟩ rfl rfl (AOp.leq rfl rfl rfl) ?_
              refine DRun.step rfl rfl rfl (AOp.pickT rfl rfl rfl) ?_
              refine DRun.nil ?_
              refine AWP.cond rfl (fun h7 => ?_) (fun h7 => ?_)
              · replace h7 := of_decide_eq_true h7
                refine AWP.seq ?_
                refine AWP.region ?_
                refine AOps.step rfl rfl rfl (AOp.assignD rfl rfl) ?_
                refine AOps.nil ?_
                refine AWP.ret ?_
                refine ⟨RetD.eq rfl ?_, trivial⟩
                all_goals (first | rfl | first | rw [HR] | rw [chk_t hL hlt hk.2 (show thF c.things k = 1 from by unfold thF; rw [dif_pos hlt]; (first | (exfalso; omega) | ((repeat (first | rw [if_pos (by first | assumption | omega)] | rw [if_neg (by first | assumption | omega)])); first | done | rfl | omega | decide))) (by decide)] | rw [chk_t hL hlt hk.2 (show thF c.things k = 8 from by unfold thF; rw [dif_pos hlt]; (first | (exfalso; omega) | ((repeat (first | rw [if_pos (by first | assumption | omega)] | rw [if_neg (by first | assumption | omega)])); first | done | rfl | omega | decide))) (by decide)])
              · replace h7 := of_decide_eq_false h7
                refine AWP.skip ?_
                refine AWP.seq ?_
                refine AWP.region ?_
                refine AOps.step rfl rfl rfl (AOp.loadAgg rfl ag_46 rfl rfl) ?_
                -- wants the world
                refine AOps.callT rfl rfl rfl hT maxT_stays rfl (.cons (ArgOk.rfl' rfl) .nil) (c_pThg _ hbk) ?_
                refine AOps.step rfl rfl rfl (AOp.assignD rfl rfl) ?_
                refine AOps.nil ?_
                refine AWP.seq ?_
                refine AWP.region ?_
                refine AOps.step rfl rfl rfl (AOp.moveD rfl rfl) ?_
                refine AOps.step rfl rfl rfl (AOp.neq rfl rfl rfl) ?_
                refine AOps.nil ?_
                refine AWP.cond rfl (fun h8 => ?_) (fun h8 => ?_)
                · replace h8 := of_decide_eq_true h8
                  have HT : chkF c = thgF c.things[k] := chk_t hL hlt hk.2 (show thF c.things k = _ from by unfold thF; rw [dif_pos hlt]; (first | (exfalso; omega) | ((repeat (first | rw [if_pos (by first | assumption | omega)] | rw [if_neg (by first | assumption | omega)])); first | done | rfl | omega | decide))) h8
                  rw [HT]
                  refine AWP.seq ?_
                  refine AWP.region ?_
                  refine AOps.step rfl rfl rfl (AOp.moveD rfl rfl) ?_
                  refine AOps.step rfl rfl rfl (AOp.assignD rfl rfl) ?_
                  refine AOps.nil ?_
                  refine AWP.ret ?_
                  refine ⟨RetD.eq rfl ?_, trivial⟩
                  all_goals (first | rfl | first | rw [HR] | rw [chk_t hL hlt hk.2 (show thF c.things k = 1 from by unfold thF; rw [dif_pos hlt]; (first | (exfalso; omega) | ((repeat (first | rw [if_pos (by first | assumption | omega)] | rw [if_neg (by first | assumption | omega)])); first | done | rfl | omega | decide))) (by decide)] | rw [chk_t hL hlt hk.2 (show thF c.things k = 8 from by unfold thF; rw [dif_pos hlt]; (first | (exfalso; omega) | ((repeat (first | rw [if_pos (by first | assumption | omega)] | rw [if_neg (by first | assumption | omega)])); first | done | rfl | omega | decide))) (by decide)])
                · replace h8 := of_decide_eq_false h8
                  refine AWP.skip ?_
                  refine AWP.region ?_
                  refine AOps.step rfl rfl rfl (AOp.add64 rfl rfl rfl (by omega) (by omega)) ?_
                  refine AOps.step rfl rfl rfl (AOp.moveD rfl rfl) ?_
                  refine AOps.nil ?_
                  refine ⟨k + 1, ⟨by omega, ffst_next hk.2 (show thF c.things k = 0 from by unfold thF; rw [dif_pos hlt]; (first | (exfalso; omega) | ((repeat (first | rw [if_pos (by first | assumption | omega)] | rw [if_neg (by first | assumption | omega)])); first | done | rfl | omega | decide)))⟩, (by dsimp only; omega), Sub.less ⟨(SLe.of_eq rfl), SLe.refl _, SLe.refl _, SLe.refl _, trivial⟩ (fun _ h => h)⟩
            · replace g6 := of_decide_eq_false g6
              refine DRun.pass ⟨40, rfl, .inl ⟨_, rfl, rfl⟩⟩ rfl rfl ?_
              refine DRun.pass ⟨40, rfl, .inl ⟨_, rfl, rfl⟩⟩ rfl rfl ?_
              refine DRun.pass ⟨40, rfl, .inl ⟨_, rfl, rfl⟩⟩ rfl rfl ?_
              refine DRun.pass ⟨40, rfl, .inl ⟨_, rfl, rfl⟩⟩ rfl rfl ?_
              refine DRun.pass ⟨40, rfl, .inl ⟨_, rfl, rfl⟩⟩ rfl rfl ?_
              refine DRun.pass ⟨40, rfl, .inl ⟨_, rfl, rfl⟩⟩ rfl rfl ?_
              refine DRun.pass ⟨40, rfl, .inl ⟨_, rfl, rfl⟩⟩ rfl rfl ?_
              refine DRun.pass ⟨40, rfl, .inl ⟨_, rfl, rfl⟩⟩ rfl rfl ?_
              refine DRun.pass ⟨40, rfl, .inl ⟨_, rfl, rfl⟩⟩ rfl rfl ?_
              refine DRun.pass ⟨40, rfl, .inl ⟨_, rfl, rfl⟩⟩ rfl rfl ?_
              refine DRun.step rfl rfl rfl (AOp.pickF rfl rfl rfl) ?_
              refine DRun.nil ?_
              refine AWP.cond rfl (fun h => nomatch h) (fun _ => ?_)
              refine AWP.skip ?_
              refine AWP.seq ?_
              refine AWP.region ?_
              refine AOps.step rfl rfl rfl (AOp.loadAgg rfl ag_46 rfl rfl) ?_
              -- wants the world
              refine AOps.callT rfl rfl rfl hT maxT_stays rfl (.cons (ArgOk.rfl' rfl) .nil) (c_pThg _ hbk) ?_
              refine AOps.step rfl rfl rfl (AOp.assignD rfl rfl) ?_
              refine AOps.nil ?_
              refine AWP.seq ?_
              refine AWP.region ?_
              refine AOps.step rfl rfl rfl (AOp.moveD rfl rfl) ?_
              refine AOps.step rfl rfl rfl (AOp.neq rfl rfl rfl) ?_
              refine AOps.nil ?_
              refine AWP.cond rfl (fun h9 => ?_) (fun h9 => ?_)
              · replace h9 := of_decide_eq_true h9
                have HT : chkF c = thgF c.things[k] := chk_t hL hlt hk.2 (show thF c.things k = _ from by unfold thF; rw [dif_pos hlt]; (first | (exfalso; omega) | ((repeat (first | rw [if_pos (by first | assumption | omega)] | rw [if_neg (by first | assumption | omega)])); first | done | rfl | omega | decide))) h9
                rw [HT]
                refine AWP.seq ?_
                refine AWP.region ?_
                refine AOps.step rfl rfl rfl (AOp.moveD rfl rfl) ?_
                refine AOps.step rfl rfl rfl (AOp.assignD rfl rfl) ?_
                refine AOps.nil ?_
                refine AWP.ret ?_
                refine ⟨RetD.eq rfl ?_, trivial⟩
                all_goals (first | rfl | first | rw [HR] | rw [chk_t hL hlt hk.2 (show thF c.things k = 1 from by unfold thF; rw [dif_pos hlt]; (first | (exfalso; omega) | ((repeat (first | rw [if_pos (by first | assumption | omega)] | rw [if_neg (by first | assumption | omega)])); first | done | rfl | omega | decide))) (by decide)] | rw [chk_t hL hlt hk.2 (show thF c.things k = 8 from by unfold thF; rw [dif_pos hlt]; (first | (exfalso; omega) | ((repeat (first | rw [if_pos (by first | assumption | omega)] | rw [if_neg (by first | assumption | omega)])); first | done | rfl | omega | decide))) (by decide)])
              · replace h9 := of_decide_eq_false h9
                refine AWP.skip ?_
                refine AWP.region ?_
                refine AOps.step rfl rfl rfl (AOp.add64 rfl rfl rfl (by omega) (by omega)) ?_
                refine AOps.step rfl rfl rfl (AOp.moveD rfl rfl) ?_
                refine AOps.nil ?_
                refine ⟨k + 1, ⟨by omega, ffst_next hk.2 (show thF c.things k = 0 from by unfold thF; rw [dif_pos hlt]; (first | (exfalso; omega) | ((repeat (first | rw [if_pos (by first | assumption | omega)] | rw [if_neg (by first | assumption | omega)])); first | done | rfl | omega | decide)))⟩, (by dsimp only; omega), Sub.less ⟨(SLe.of_eq rfl), SLe.refl _, SLe.refl _, SLe.refl _, trivial⟩ (fun _ h => h)⟩
      · replace h3 := of_decide_eq_false h3
        rw [List.length_map] at h3
        obtain rfl : k = c.things.length := by omega
        have HF1 := hk.2
        have hr := risT_of HF1
        refine AWP.exit ?_
        refine AWP.seq ?_
        refine AWP.region ?_
        refine AOps.step rfl rfl rfl (AOp.loadAgg rfl ag_25 rfl rfl) ?_
        refine AOps.step rfl rfl rfl (AOp.call rfl (.cons (ArgOk.rfl' rfl) .nil) (c_idxOf c hLim hc hr)) ?_
        refine AOps.step rfl rfl rfl (AOp.assignD rfl rfl) ?_
        refine AOps.nil ?_
        refine AWP.seq ?_
        refine AWP.region ?_
        refine AOps.makeMap 92 rfl rfl rfl rfl rfl ?_
        refine AOps.step rfl rfl rfl (AOp.assignO rfl rfl) ?_
        refine AOps.nil ?_
        refine AWP.seq ?_
        refine AWP.seq ?_
        refine AWP.region ?_
        refine AOps.step rfl rfl rfl (AOp.fieldAddr rfl fo_25_0 rfl) ?_
        refine AOps.step rfl rfl rfl (AOp.load rfl sc_22 rfl) ?_
        refine AOps.step rfl rfl rfl (AOp.lenSl rfl et_22.ht rfl) ?_
        refine AOps.step rfl rfl rfl (AOp.moveD rfl rfl) ?_
        refine AOps.nil ?_
        refine AWP.block ?_
        refine AWP.loop (G := Nat) (fun k => Env.of [(64, .d (.v (.int .i64 (k : Int)))), (62, .d (.sl (c.things.map Thg.ds))), (63, .d (.v (.int .i64 ((c.things.map Thg.ds).length : Int)))), (6, .d (.fm (idxM c.things))), (7, .own 92), (1, .d (.fp c.ds))]) (fun k => [(92, .map (seenM (seenL (c.things.take k))))]) (fun k => k ≤ c.things.length ∧ ffst (lkF c.things) k = 0) (fun k => c.things.length - k) 0 ⟨Nat.zero_le _, rfl⟩ (Sub.less ⟨(SLe.of_eq rfl), SLe.refl _, SLe.refl _, SLe.refl _, SLe.refl _, SLe.refl _, trivial⟩ (map_1 rfl)) ?_
        intro k hk
        refine AWP.seq ?_
        refine AWP.region ?_
        refine AOps.step rfl rfl rfl (AOp.lss rfl rfl rfl) ?_
        refine AOps.nil ?_
        refine AWP.seq ?_
        refine AWP.cond rfl (fun h10 => ?_) (fun h10 => ?_)
        · replace h10 := of_decide_eq_true h10
          rw [List.length_map] at h10
          have hlt : k < c.things.length := by omega
          have hbk := hc.things _ (List.getElem_mem hlt)
          refine AWP.skip ?_
          refine AWP.seq ?_
          refine AWP.block ?_
          refine AWP.seq ?_
          refine AWP.region ?_
          refine AOps.step rfl rfl rfl (AOp.indexAddr rfl et_22 rfl rfl k rfl (at_lst hlt) rfl) ?_
          refine AOps.step rfl rfl rfl (AOp.loadAgg rfl ag_46 rfl rfl) ?_
          refine AOps.alloc 103 rfl rfl rfl rfl zt_46 rfl rfl rfl ?_
          refine AOps.store rfl rfl rfl sz_46 rfl (.head _) rfl rfl rfl (Nat.le_of_ble_eq_true rfl) ?_
          refine AOps.freezeCells 9 (ds := c.things[k].ds) rfl (.head _) ?_
          refine AOps.nil ?_
          refine AWP.seq ?_
          refine AWP.seq ?_
          refine AWP.region ?_
          refine AOps.step rfl rfl rfl (AOp.moveD rfl rfl) ?_
          refine AOps.step rfl rfl rfl (AOp.loadAgg rfl ag_46 rfl rfl) ?_
          refine AOps.step rfl rfl rfl (AOp.call rfl (.cons (ArgOk.rfl' rfl) (.cons (ArgOk.rfl' rfl) .nil)) (c_pLink _ _ hc.things hr hbk hLim.1 (parts_of HF1 hlt))) ?_
          refine AOps.step rfl rfl rfl (AOp.assignD rfl rfl) ?_
          refine AOps.nil ?_
          refine AWP.seq ?_
          refine AWP.region ?_
          refine AOps.step rfl rfl rfl (AOp.moveD rfl rfl) ?_
          refine AOps.step rfl rfl rfl (AOp.neq rfl rfl rfl) ?_
          refine AOps.nil ?_
          refine AWP.cond rfl (fun h11 => ?_) (fun h11 => ?_)
          · replace h11 := of_decide_eq_true h11
            have HT : chkF c = linkF c.things c.things[k] := chk_l hL HF1 hlt hk.2 (show lkF c.things k = _ from lk_p hlt rfl h11) h11
            rw [HT]
            refine AWP.seq ?_
            refine AWP.region ?_
            refine AOps.step rfl rfl rfl (AOp.moveD rfl rfl) ?_
            refine AOps.step rfl rfl rfl (AOp.assignD rfl rfl) ?_
            refine AOps.nil ?_
            refine AWP.ret ?_
            refine ⟨RetD.eq rfl ?_, trivial⟩
            all_goals (first | rfl | first | rw [HR] | rw [chk_t hL hlt hk.2 (show thF c.things k = 1 from by unfold thF; rw [dif_pos hlt]; (first | (exfalso; omega) | ((repeat (first | rw [if_pos (by first | assumption | omega)] | rw [if_neg (by first | assumption | omega)])); first | done | rfl | omega | decide))) (by decide)] | rw [chk_t hL hlt hk.2 (show thF c.things k = 8 from by unfold thF; rw [dif_pos hlt]; (first | (exfalso; omega) | ((repeat (first | rw [if_pos (by first | assumption | omega)] | rw [if_neg (by first | assumption | omega)])); first | done | rfl | omega | decide))) (by decide)])
          · replace h11 := of_decide_eq_false h11
            have n0 : linkF c.things c.things[k] = 0 := by omega
            refine AWP.skip ?_
            refine AWP.seq ?_
            refine AWP.region ?_
            refine AOps.step rfl rfl rfl (AOp.fieldAddr rfl fo_46_1 rfl) ?_
            refine AOps.step rfl rfl rfl (AOp.load rfl sc_3 rfl) ?_
            refine AOps.step rfl rfl rfl (AOp.fieldAddr rfl fo_46_3 rfl) ?_
            refine AOps.step rfl rfl rfl (AOp.load rfl sc_9 rfl) ?_
            refine AOps.step rfl rfl rfl (AOp.build rfl bu_50 (.cons rfl rfl (.cons rfl rfl .nil)) rfl) ?_
            refine AOps.alloc 104 rfl rfl rfl rfl zt_50 rfl rfl rfl ?_
            refine AOps.store rfl rfl rfl sz_50 rfl (.head _) rfl rfl rfl (Nat.le_of_ble_eq_true rfl) ?_
            refine AOps.freezeCells 11 (ds := [.v (.int .i64 c.things[k].kind), .v (.string c.things[k].code)]) rfl (.head _) ?_
            refine AOps.nil ?_
            refine AWP.seq ?_
            refine AWP.seq ?_
            refine AWP.region ?_
            refine AOps.step rfl rfl rfl (AOp.fieldAddr rfl fo_46_3 rfl) ?_
            refine AOps.step rfl rfl rfl (AOp.load rfl sc_9 rfl) ?_
            refine AOps.step rfl rfl rfl (AOp.sneq rfl rfl rfl) ?_
            refine AOps.step rfl rfl rfl (AOp.moveD rfl rfl) ?_
            refine AOps.split 82 rfl (fun g12 => ?_) (fun g12 => ?_)
            · replace g12 := of_decide_eq_true g12
              have hcn := g12
              refine AOps.step ⟨82, rfl, .inl ⟨_, rfl, rfl⟩⟩ rfl rfl (AOp.moveO rfl rfl) ?_
              refine AOps.step ⟨82, rfl, .inl ⟨_, rfl, rfl⟩⟩ rfl rfl (AOp.loadAgg rfl ag_50 rfl rfl) ?_
              refine AOps.step ⟨82, rfl, .inl ⟨_, rfl, rfl⟩⟩ rfl rfl (AOp.lookupX (key := kC (c.things[k].kind, c.things[k].code)) rfl mt_seen kd_C zt_bool zd_bool rfl (.head _) rfl (DExact.agg2 _ _) (kC_ok hbk.kind hbk.code) (seen_keys hc.things k) (get_seen _ _ _)) ?_
              refine AOps.step rfl rfl rfl (AOp.pickT rfl rfl rfl) ?_
              refine AOps.nil ?_
              refine AWP.cond rfl (fun h13 => ?_) (fun h13 => ?_)
              · skip
                have HR : chkF c = 7 := chk_l hL HF1 hlt hk.2 (lk_7 hlt n0 hcn h13) (by decide)
                refine AWP.seq ?_
                refine AWP.region ?_
                refine AOps.step rfl rfl rfl (AOp.assignD rfl rfl) ?_
                refine AOps.nil ?_
                refine AWP.ret ?_
                refine ⟨RetD.eq rfl ?_, trivial⟩
                all_goals (first | rfl | first | rw [HR] | rw [chk_t hL hlt hk.2 (show thF c.things k = 1 from by unfold thF; rw [dif_pos hlt]; (first | (exfalso; omega) | ((repeat (first | rw [if_pos (by first | assumption | omega)] | rw [if_neg (by first | assumption | omega)])); first | done | rfl | omega | decide))) (by decide)] | rw [chk_t hL hlt hk.2 (show thF c.things k = 8 from by unfold thF; rw [dif_pos hlt]; (first | (exfalso; omega) | ((repeat (first | rw [if_pos (by first | assumption | omega)] | rw [if_neg (by first | assumption | omega)])); first | done | rfl | omega | decide))) (by decide)])
              · skip
                have n7 : ¬ (¬ c.things[k].code = ⟨#[]⟩ ∧ twB c.things k c.things[k] = true) := fun hh => by have q7 := hh.2; rw [h13] at q7; cases q7
                refine AWP.skip ?_
                refine AWP.region ?_
                refine AOps.step rfl rfl rfl (AOp.moveO rfl rfl) ?_
                refine AOps.step rfl rfl rfl (AOp.loadAgg rfl ag_50 rfl rfl) ?_
                refine AOps.eff rfl rfl (EOp.mapUpdateX (key := kC (c.things[k].kind, c.things[k].code)) rfl rfl mt_seen kd_C rfl (.head _) rfl (DExact.agg2 _ _) rfl (kC_ok hbk.kind hbk.code) (seen_keys hc.things k) (put_seen hlt)) ?_
                refine AOps.nil ?_
                refine AWP.region ?_
                refine AOps.step rfl rfl rfl (AOp.add64 rfl rfl rfl (by omega) (by omega)) ?_
                refine AOps.step rfl rfl rfl (AOp.moveD rfl rfl) ?_
                refine AOps.nil ?_
                refine ⟨k + 1, ⟨by omega, ffst_next hk.2 (lk_0 hlt n0 n7)⟩, (by dsimp only; omega), Sub.less ⟨(SLe.of_eq rfl), SLe.refl _, SLe.refl _, SLe.refl _, SLe.refl _, SLe.refl _, trivial⟩ (map_1 rfl)⟩
            · replace g12 := of_decide_eq_false g12
              have n7 : ¬ (¬ c.things[k].code = ⟨#[]⟩ ∧ twB c.things k c.things[k] = true) := fun hh => hh.1 (by first | exact g12 | exact Decidable.not_not.1 g12)
              refine AOps.pass ⟨82, rfl, .inl ⟨_, rfl, rfl⟩⟩ rfl rfl ?_
              refine AOps.pass ⟨82, rfl, .inl ⟨_, rfl, rfl⟩⟩ rfl rfl ?_
              refine AOps.pass ⟨82, rfl, .inl ⟨_, rfl, rfl⟩⟩ rfl rfl ?_
              refine AOps.step rfl rfl rfl (AOp.pickF rfl rfl rfl) ?_
              refine AOps.nil ?_
              refine AWP.cond rfl (fun h => nomatch h) (fun _ => ?_)
              refine AWP.skip ?_
              refine AWP.region ?_
              refine AOps.step rfl rfl rfl (AOp.moveO rfl rfl) ?_
              refine AOps.step rfl rfl rfl (AOp.loadAgg rfl ag_50 rfl rfl) ?_
              refine AOps.eff rfl rfl (EOp.mapUpdateX (key := kC (c.things[k].kind, c.things[k].code)) rfl rfl mt_seen kd_C rfl (.head _) rfl (DExact.agg2 _ _) rfl (kC_ok hbk.kind hbk.code) (seen_keys hc.things k) (put_seen hlt)) ?_
              refine AOps.nil ?_
              refine AWP.region ?_
              refine AOps.step rfl rfl rfl (AOp.add64 rfl rfl rfl (by omega) (by omega)) ?_
              refine AOps.step rfl rfl rfl (AOp.moveD rfl rfl) ?_
              refine AOps.nil ?_
              refine ⟨k + 1, ⟨by omega, ffst_next hk.2 (lk_0 hlt n0 n7)⟩, (by dsimp only; omega), Sub.less ⟨(SLe.of_eq rfl), SLe.refl _, SLe.refl _, SLe.refl _, SLe.refl _, SLe.refl _, trivial⟩ (map_1 rfl)⟩
        · replace h10 := of_decide_eq_false h10
          rw [List.length_map] at h10
          obtain rfl : k = c.things.length := by omega
          have HR : chkF c = mvdF c := chk_m hL HF1 hk.2
          refine AWP.exit ?_
          refine AWP.seq ?_
          refine AWP.region ?_
          refine AOps.step rfl rfl rfl (AOp.loadAgg rfl ag_25 rfl rfl) ?_
          refine AOps.step rfl rfl rfl (AOp.moveD rfl rfl) ?_
          refine AOps.step rfl rfl rfl (AOp.call rfl (.cons (ArgOk.rfl' rfl) (.cons (ArgOk.rfl' rfl) .nil)) (c_pMvd c hLim hc hr)) ?_
          refine AOps.step rfl rfl rfl (AOp.assignD rfl rfl) ?_
          refine AOps.nil ?_
          refine AWP.ret ?_
          refine ⟨RetD.eq rfl ?_, trivial⟩
          all_goals (first | rfl | first | rw [HR] | rw [chk_t hL hlt hk.2 (show thF c.things k = 1 from by unfold thF; rw [dif_pos hlt]; (first | (exfalso; omega) | ((repeat (first | rw [if_pos (by first | assumption | omega)] | rw [if_neg (by first | assumption | omega)])); first | done | rfl | omega | decide))) (by decide)] | rw [chk_t hL hlt hk.2 (show thF c.things k = 8 from by unfold thF; rw [dif_pos hlt]; (first | (exfalso; omega) | ((repeat (first | rw [if_pos (by first | assumption | omega)] | rw [if_neg (by first | assumption | omega)])); first | done | rfl | omega | decide))) (by decide)])

set_option maxRecDepth 100000 in
set_option maxHeartbeats 1000000 in
theorem c_rChk (c : Ctl) (hc : CtlOk c) : ACallT Tryd.prog MaxT 7 [.agg c.ds] (.v (.int .i64 (chkF c))) := by
  refine acall_ofT (n := 65) (ds' := [.v (.int .i64 (chkF c))]) Tryd.func7 rfl (by kernel_rfl) rfl [2] rfl rfl ?_
  intro B w0 F0 hT
  have htl : (c.things.map Thg.ds).length = c.things.length := List.length_map ..
  have hml : (c.moved.map Mvd.ds).length = c.moved.length := List.length_map ..
  refine AWP.seq ?_
  refine AWP.region ?_
  refine AOps.step rfl rfl rfl (AOp.box rfl rfl rfl) ?_
  refine AOps.step rfl rfl rfl (AOp.assignD rfl rfl) ?_
  refine AOps.nil ?_
  refine AWP.seq ?_
  refine AWP.seq ?_
  refine AWP.region ?_
  refine AOps.step rfl rfl rfl (AOp.fieldAddr rfl fo_25_0 rfl) ?_
  refine AOps.step rfl rfl rfl (AOp.load rfl sc_22 rfl) ?_
  refine AOps.step rfl rfl rfl (AOp.lenSl rfl et_22.ht rfl) ?_
  refine AOps.step rfl rfl rfl (AOp.gtr rfl rfl rfl) ?_
  refine AOps.step rfl rfl rfl (AOp.moveD rfl rfl) ?_
  refine AOps.split 12 rfl (fun g1 => ?_) (fun g1 => ?_)
  · replace g1 := of_decide_eq_true g1
    have HR : chkF c = 2 := if_pos (by omega)
    refine AOps.pass ⟨12, rfl, .inl ⟨_, rfl, rfl⟩⟩ rfl rfl ?_
    refine AOps.pass ⟨12, rfl, .inl ⟨_, rfl, rfl⟩⟩ rfl rfl ?_
    refine AOps.pass ⟨12, rfl, .inl ⟨_, rfl, rfl⟩⟩ rfl rfl ?_
    refine AOps.pass ⟨12, rfl, .inl ⟨_, rfl, rfl⟩⟩ rfl rfl ?_
    refine AOps.step rfl rfl rfl (AOp.pickT rfl rfl rfl) ?_
    refine AOps.nil ?_
    refine AWP.cond rfl (fun _ => ?_) (fun h => nomatch h)
    refine AWP.seq ?_
    refine AWP.region ?_
    refine AOps.step rfl rfl rfl (AOp.assignD rfl rfl) ?_
    refine AOps.nil ?_
    refine AWP.ret ?_
    refine ⟨RetD.eq rfl ?_, trivial⟩
    all_goals (first | rfl | first | rw [HR] | rw [chk_t hL hlt hk.2 (show thF c.things k = 1 from by unfold thF; rw [dif_pos hlt]; (first | (exfalso; omega) | ((repeat (first | rw [if_pos (by first | assumption | omega)] | rw [if_neg (by first | assumption | omega)])); first | done | rfl | omega | decide))) (by decide)] | rw [chk_t hL hlt hk.2 (show thF c.things k = 8 from by unfold thF; rw [dif_pos hlt]; (first | (exfalso; omega) | ((repeat (first | rw [if_pos (by first | assumption | omega)] | rw [if_neg (by first | assumption | omega)])); first | done | rfl | omega | decide))) (by decide)])
  · replace g1 := of_decide_eq_false g1
    refine AOps.step ⟨12, rfl, .inl ⟨_, rfl, rfl⟩⟩ rfl rfl (AOp.fieldAddr rfl fo_25_1 rfl) ?_
    refine AOps.step ⟨12, rfl, .inl ⟨_, rfl, rfl⟩⟩ rfl rfl (AOp.load rfl sc_23 rfl) ?_
    refine AOps.step ⟨12, rfl, .inl ⟨_, rfl, rfl⟩⟩ rfl rfl (AOp.lenSl rfl et_23.ht rfl) ?_
    refine AOps.step ⟨12, rfl, .inl ⟨_, rfl, rfl⟩⟩ rfl rfl (AOp.gtr rfl rfl rfl) ?_
    refine AOps.step rfl rfl rfl (AOp.pickF rfl rfl rfl) ?_
    refine AOps.nil ?_
    refine AWP.cond rfl (fun h2 => ?_) (fun h2 => ?_)
    · replace h2 := of_decide_eq_true h2
      have HR : chkF c = 2 := if_pos (by omega)
      refine AWP.seq ?_
      refine AWP.region ?_
      refine AOps.step rfl rfl rfl (AOp.assignD rfl rfl) ?_
      refine AOps.nil ?_
      refine AWP.ret ?_
      refine ⟨RetD.eq rfl ?_, trivial⟩
      all_goals (first | rfl | first | rw [HR] | rw [chk_t hL hlt hk.2 (show thF c.things k = 1 from by unfold thF; rw [dif_pos hlt]; (first | (exfalso; omega) | ((repeat (first | rw [if_pos (by first | assumption | omega)] | rw [if_neg (by first | assumption | omega)])); first | done | rfl | omega | decide))) (by decide)] | rw [chk_t hL hlt hk.2 (show thF c.things k = 8 from by unfold thF; rw [dif_pos hlt]; (first | (exfalso; omega) | ((repeat (first | rw [if_pos (by first | assumption | omega)] | rw [if_neg (by first | assumption | omega)])); first | done | rfl | omega | decide))) (by decide)])
    · replace h2 := of_decide_eq_false h2
      have hL : ¬ (300 < c.things.length ∨ 300 < c.moved.length) := by omega
      have hLim := lim_of hL
      refine AWP.skip ?_
      refine AWP.seq ?_
      refine AWP.seq ?_
      refine AWP.region ?_
      refine AOps.step rfl rfl rfl (AOp.fieldAddr rfl fo_25_0 rfl) ?_
      refine AOps.step rfl rfl rfl (AOp.load rfl sc_22 rfl) ?_
      refine AOps.step rfl rfl rfl (AOp.lenSl rfl et_22.ht rfl) ?_
      refine AOps.step rfl rfl rfl (AOp.moveD rfl rfl) ?_
      refine AOps.nil ?_
      refine AWP.block ?_
      refine AWP.loop (G := Nat) (fun k => Env.of [(21, .d (.v (.int .i64 (k : Int)))), (19, .d (.sl (c.things.map Thg.ds))), (20, .d (.v (.int .i64 ((c.things.map Thg.ds).length : Int)))), (1, .d (.fp c.ds))]) (fun k => []) (fun k => k ≤ c.things.length ∧ ffst (thF c.things) k = 0) (fun k => c.things.length - k) 0 ⟨Nat.zero_le _, rfl⟩ (Sub.less ⟨(SLe.of_eq rfl), SLe.refl _, SLe.refl _, SLe.refl _, trivial⟩ (fun _ h => h)) ?_
      intro k hk
      refine AWP.seq ?_
      refine AWP.region ?_
      refine AOps.step rfl rfl rfl (AOp.lss rfl rfl rfl) ?_
      refine AOps.nil ?_
      refine AWP.seq ?_
      refine AWP.cond rfl (fun h3 => ?_) (fun h3 => ?_)
      · replace h3 := of_decide_eq_true h3
        rw [List.length_map] at h3
        have hlt : k < c.things.length := by omega
        have hbk := hc.things _ (List.getElem_mem hlt)
        refine AWP.skip ?_
        refine AWP.seq ?_
        refine AWP.block ?_
        refine AWP.seq ?_
        refine AWP.region ?_
        refine AOps.step rfl rfl rfl (AOp.moveD rfl rfl) ?_
        refine AOps.step rfl rfl rfl (AOp.indexAddr rfl et_22 rfl rfl k rfl (at_lst hlt) rfl) ?_
        refine AOps.step rfl rfl rfl (AOp.loadAgg rfl ag_46 rfl rfl) ?_
        refine AOps.alloc 101 rfl rfl rfl rfl zt_46 rfl rfl rfl ?_
        refine AOps.step rfl rfl rfl (AOp.assignD rfl rfl) ?_
        refine AOps.store rfl rfl rfl sz_46 rfl (.head _) rfl rfl rfl (Nat.le_of_ble_eq_true rfl) ?_
        refine AOps.freezeCells 4 (ds := c.things[k].ds) rfl (.head _) ?_
        refine AOps.nil ?_
        refine AWP.seq ?_
        refine AWP.seq ?_
        refine AWP.region ?_
        refine AOps.step rfl rfl rfl (AOp.fieldAddr rfl fo_46_0 rfl) ?_
        refine AOps.step rfl rfl rfl (AOp.load rfl sc_3 rfl) ?_
        refine AOps.step rfl rfl rfl (AOp.call rfl (.cons (ArgOk.rfl' rfl) (.cons (ArgOk.rfl' rfl) (.cons (ArgOk.rfl' rfl) .nil))) (c_rIn _ _ _)) ?_
        refine AOps.step rfl rfl rfl (AOp.not rfl rfl) ?_
        refine AOps.nil ?_
        refine AWP.cond rfl (fun h4 => ?_) (fun h4 => ?_)
        · replace h4 := bnot_t h4; replace h4 := of_decide_eq_false h4
          refine AWP.seq ?_
          refine AWP.region ?_
          refine AOps.step rfl rfl rfl (AOp.assignD rfl rfl) ?_
          refine AOps.nil ?_
          refine AWP.ret ?_
          refine ⟨RetD.eq rfl ?_, trivial⟩
          all_goals (first | rfl | first | rw [HR] | rw [chk_t hL hlt hk.2 (show thF c.things k = 1 from by unfold thF; rw [dif_pos hlt]; (first | (exfalso; omega) | ((repeat (first | rw [if_pos (by first | assumption | omega)] | rw [if_neg (by first | assumption | omega)])); first | done | rfl | omega | decide))) (by decide)] | rw [chk_t hL hlt hk.2 (show thF c.things k = 8 from by unfold thF; rw [dif_pos hlt]; (first | (exfalso; omega) | ((repeat (first | rw [if_pos (by first | assumption | omega)] | rw [if_neg (by first | assumption | omega)])); first | done | rfl | omega | decide))) (by decide)])
        · replace h4 := bnot_f h4; replace h4 := of_decide_eq_true h4
          refine AWP.skip ?_
          refine AWP.seq ?_
          refine AWP.seq ?_
          refine AWP.draw (by kernel_rfl) (by kernel_rfl) ?_
          refine DRun.step rfl rfl rfl (AOp.moveD rfl rfl) ?_
          refine DRun.step rfl rfl rfl (AOp.gtr rfl rfl rfl) ?_
          refine DRun.step rfl rfl rfl (AOp.moveD rfl rfl) ?_
          refine DRun.split 32 rfl (fun g5 => ?_) (fun g5 => ?_)
          · replace g5 := of_decide_eq_true g5
            have hk0 : 0 < k := by omega
            refine DRun.step ⟨32, rfl, .inl ⟨_, rfl, rfl⟩⟩ rfl rfl (AOp.fieldAddr rfl fo_46_0 rfl) ?_
            refine DRun.step ⟨32, rfl, .inl ⟨_, rfl, rfl⟩⟩ rfl rfl (AOp.load rfl sc_3 rfl) ?_
            refine DRun.step ⟨32, rfl, .inl ⟨_, rfl, rfl⟩⟩ rfl rfl (AOp.fieldAddr rfl fo_25_0 rfl) ?_
            refine DRun.step ⟨32, rfl, .inl ⟨_, rfl, rfl⟩⟩ rfl rfl (AOp.load rfl sc_22 rfl) ?_
            refine DRun.step ⟨32, rfl, .inl ⟨_, rfl, rfl⟩⟩ rfl rfl (AOp.moveD rfl rfl) ?_
            refine DRun.step ⟨32, rfl, .inl ⟨_, rfl, rfl⟩⟩ rfl rfl (AOp.sub64 rfl rfl rfl (by omega) (by omega)) ?_
            refine DRun.step ⟨32, rfl, .inl ⟨_, rfl, rfl⟩⟩ rfl rfl (AOp.indexAddr rfl et_22 rfl rfl (k - 1) (by omega) (at_lst (by omega)) rfl) ?_
            refine DRun.step ⟨32, rfl, .inl ⟨_, rfl, rfl⟩⟩ rfl rfl (AOp.fieldAddr rfl fo_46_0 rfl) ?_
            refine DRun.step ⟨32, rfl, .inl ⟨_, rfl, rfl⟩⟩ rfl rfl (AOp.load rfl sc_3 rfl) ?_
            refine DRun.step ⟨32, rfl, .inl ⟨_, rfl, rfl⟩⟩ rfl rfl (AOp.leq rfl rfl rfl) ?_
            refine DRun.step rfl rfl rfl (AOp.pickT rfl rfl rfl) ?_
            refine DRun.nil ?_
            refine AWP.cond rfl (fun h6 => ?_) (fun h6 => ?_)
            · replace h6 := of_decide_eq_true h6
              refine AWP.seq ?_
              refine AWP.region ?_
              refine AOps.step rfl rfl rfl (AOp.assignD rfl rfl) ?_
              refine AOps.nil ?_
              refine AWP.ret ?_
              refine ⟨RetD.eq rfl ?_, trivial⟩
              all_goals (first | rfl | first | rw [HR] | rw [chk_t hL hlt hk.2 (show thF c.things k = 1 from by unfold thF; rw [dif_pos hlt]; (first | (exfalso; omega) | ((repeat (first | rw [if_pos (by first | assumption | omega)] | rw [if_neg (by first | assumption | omega)])); first | done | rfl | omega | decide))) (by decide)] | rw [chk_t hL hlt hk.2 (show thF c.things k = 8 from by unfold thF; rw [dif_pos hlt]; (first | (exfalso; omega) | ((repeat (first | rw [if_pos (by first | assumption | omega)] | rw [if_neg (by first | assumption | omega)])); first | done | rfl | omega | decide))) (by decide)])
            · replace h6 := of_decide_eq_false h6
              refine AWP.skip ?_
              refine AWP.seq ?_
              refine AWP.region ?_
              refine AOps.step rfl rfl rfl (AOp.loadAgg rfl ag_46 rfl rfl) ?_
              -- wants the world
              refine AOps.callT rfl rfl rfl hT maxT_stays rfl (.cons (ArgOk.rfl' rfl) .nil) (c_rThg _ hbk) ?_
              refine AOps.step rfl rfl rfl (AOp.assignD rfl rfl) ?_
              refine AOps.nil ?_
              refine AWP.seq ?_
              refine AWP.region ?_
              refine AOps.step rfl rfl rfl (AOp.moveD rfl rfl) ?_
              refine AOps.step rfl rfl rfl (AOp.neq rfl rfl rfl) ?_
              refine AOps.nil ?_
              refine AWP.cond rfl (fun h7 => ?_) (fun h7 => ?_)
              · replace h7 := of_decide_eq_true h7
                have HT : chkF c = thgF c.things[k] := chk_t hL hlt hk.2 (show thF c.things k = _ from by unfold thF; rw [dif_pos hlt]; (first | (exfalso; omega) | ((repeat (first | rw [if_pos (by first | assumption | omega)] | rw [if_neg (by first | assumption | omega)])); first | done | rfl | omega | decide))) h7
                rw [HT]
                refine AWP.seq ?_
                refine AWP.region ?_
                refine AOps.step rfl rfl rfl (AOp.moveD rfl rfl) ?_
                refine AOps.step rfl rfl rfl (AOp.assignD rfl rfl) ?_
                refine AOps.nil ?_
                refine AWP.ret ?_
                refine ⟨RetD.eq rfl ?_, trivial⟩
                all_goals (first | rfl | first | rw [HR] | rw [chk_t hL hlt hk.2 (show thF c.things k = 1 from by unfold thF; rw [dif_pos hlt]; (first | (exfalso; omega) | ((repeat (first | rw [if_pos (by first | assumption | omega)] | rw [if_neg (by first | assumption | omega)])); first | done | rfl | omega | decide))) (by decide)] | rw [chk_t hL hlt hk.2 (show thF c.things k = 8 from by unfold thF; rw [dif_pos hlt]; (first | (exfalso; omega) | ((repeat (first | rw [if_pos (by first | assumption | omega)] | rw [if_neg (by first | assumption | omega)])); first | done | rfl | omega | decide))) (by decide)])
              · replace h7 := of_decide_eq_false h7
                refine AWP.skip ?_
                refine AWP.region ?_
                refine AOps.step rfl rfl rfl (AOp.add64 rfl rfl rfl (by omega) (by omega)) ?_
                refine AOps.step rfl rfl rfl (AOp.moveD rfl rfl) ?_
                refine AOps.nil ?_
                refine ⟨k + 1, ⟨by omega, ffst_next hk.2 (show thF c.things k = 0 from by unfold thF; rw [dif_pos hlt]; (first | (exfalso; omega) | ((repeat (first | rw [if_pos (by first | assumption | omega)] | rw [if_neg (by first | assumption | omega)])); first | done | rfl | omega | decide)))⟩, (by dsimp only; omega), Sub.less ⟨(SLe.of_eq rfl), SLe.refl _, SLe.refl _, SLe.refl _, trivial⟩ (fun _ h => h)⟩
          · replace g5 := of_decide_eq_false g5
            refine DRun.pass ⟨32, rfl, .inl ⟨_, rfl, rfl⟩⟩ rfl rfl ?_
            refine DRun.pass ⟨32, rfl, .inl ⟨_, rfl, rfl⟩⟩ rfl rfl ?_
            refine DRun.pass ⟨32, rfl, .inl ⟨_, rfl, rfl⟩⟩ rfl rfl ?_
            refine DRun.pass ⟨32, rfl, .inl ⟨_, rfl, rfl⟩⟩ rfl rfl ?_
            refine DRun.pass ⟨32, rfl, .inl ⟨_, rfl, rfl⟩⟩ rfl rfl ?_
            refine DRun.pass ⟨32, rfl, .inl ⟨_, rfl, rfl⟩⟩ rfl rfl ?_
            refine DRun.pass ⟨32, rfl, .inl ⟨_, rfl, rfl⟩⟩ rfl rfl ?_
            refine DRun.pass ⟨32, rfl, .inl ⟨_, rfl, rfl⟩⟩ rfl rfl ?_
            refine DRun.pass ⟨32, rfl, .inl ⟨_, rfl, rfl⟩⟩ rfl rfl ?_
            refine DRun.pass ⟨32, rfl, .inl ⟨_, rfl, rfl⟩⟩ rfl rfl ?_
            refine DRun.step rfl rfl rfl (AOp.pickF rfl rfl rfl) ?_
            refine DRun.nil ?_
            refine AWP.cond rfl (fun h => nomatch h) (fun _ => ?_)
            refine AWP.skip ?_
            refine AWP.seq ?_
            refine AWP.region ?_
            refine AOps.step rfl rfl rfl (AOp.loadAgg rfl ag_46 rfl rfl) ?_
            -- wants the world
            refine AOps.callT rfl rfl rfl hT maxT_stays rfl (.cons (ArgOk.rfl' rfl) .nil) (c_rThg _ hbk) ?_
            refine AOps.step rfl rfl rfl (AOp.assignD rfl rfl) ?_
            refine AOps.nil ?_
            refine AWP.seq ?_
            refine AWP.region ?_
            refine AOps.step rfl rfl rfl (AOp.moveD rfl rfl) ?_
            refine AOps.step rfl rfl rfl (AOp.neq rfl rfl rfl) ?_
            refine AOps.nil ?_
            refine AWP.cond rfl (fun h8 => ?_) (fun h8 => ?_)
            · replace h8 := of_decide_eq_true h8
              have HT : chkF c = thgF c.things[k] := chk_t hL hlt hk.2 (show thF c.things k = _ from by unfold thF; rw [dif_pos hlt]; (first | (exfalso; omega) | ((repeat (first | rw [if_pos (by first | assumption | omega)] | rw [if_neg (by first | assumption | omega)])); first | done | rfl | omega | decide))) h8
              rw [HT]
              refine AWP.seq ?_
              refine AWP.region ?_
              refine AOps.step rfl rfl rfl (AOp.moveD rfl rfl) ?_
              refine AOps.step rfl rfl rfl (AOp.assignD rfl rfl) ?_
              refine AOps.nil ?_
              refine AWP.ret ?_
              refine ⟨RetD.eq rfl ?_, trivial⟩
              all_goals (first | rfl | first | rw [HR] | rw [chk_t hL hlt hk.2 (show thF c.things k = 1 from by unfold thF; rw [dif_pos hlt]; (first | (exfalso; omega) | ((repeat (first | rw [if_pos (by first | assumption | omega)] | rw [if_neg (by first | assumption | omega)])); first | done | rfl | omega | decide))) (by decide)] | rw [chk_t hL hlt hk.2 (show thF c.things k = 8 from by unfold thF; rw [dif_pos hlt]; (first | (exfalso; omega) | ((repeat (first | rw [if_pos (by first | assumption | omega)] | rw [if_neg (by first | assumption | omega)])); first | done | rfl | omega | decide))) (by decide)])
            · replace h8 := of_decide_eq_false h8
              refine AWP.skip ?_
              refine AWP.region ?_
              refine AOps.step rfl rfl rfl (AOp.add64 rfl rfl rfl (by omega) (by omega)) ?_
              refine AOps.step rfl rfl rfl (AOp.moveD rfl rfl) ?_
              refine AOps.nil ?_
              refine ⟨k + 1, ⟨by omega, ffst_next hk.2 (show thF c.things k = 0 from by unfold thF; rw [dif_pos hlt]; (first | (exfalso; omega) | ((repeat (first | rw [if_pos (by first | assumption | omega)] | rw [if_neg (by first | assumption | omega)])); first | done | rfl | omega | decide)))⟩, (by dsimp only; omega), Sub.less ⟨(SLe.of_eq rfl), SLe.refl _, SLe.refl _, SLe.refl _, trivial⟩ (fun _ h => h)⟩
      · replace h3 := of_decide_eq_false h3
        rw [List.length_map] at h3
        obtain rfl : k = c.things.length := by omega
        have HF1 := hk.2
        have hr := risT_of HF1
        refine AWP.exit ?_
        refine AWP.seq ?_
        refine AWP.seq ?_
        refine AWP.region ?_
        refine AOps.step rfl rfl rfl (AOp.fieldAddr rfl fo_25_0 rfl) ?_
        refine AOps.step rfl rfl rfl (AOp.load rfl sc_22 rfl) ?_
        refine AOps.step rfl rfl rfl (AOp.lenSl rfl et_22.ht rfl) ?_
        refine AOps.step rfl rfl rfl (AOp.moveD rfl rfl) ?_
        refine AOps.nil ?_
        refine AWP.block ?_
        refine AWP.loop (G := Nat) (fun k => Env.of [(53, .d (.v (.int .i64 (k : Int)))), (52, .d (.v (.int .i64 ((c.things.map Thg.ds).length : Int)))), (1, .d (.fp c.ds))]) (fun k => []) (fun k => k ≤ c.things.length ∧ ffst (lkF c.things) k = 0) (fun k => c.things.length - k) 0 ⟨Nat.zero_le _, rfl⟩ (Sub.less ⟨(SLe.of_eq rfl), SLe.refl _, SLe.refl _, trivial⟩ (fun _ h => h)) ?_
        intro k hk
        refine AWP.seq ?_
        refine AWP.region ?_
        refine AOps.step rfl rfl rfl (AOp.lss rfl rfl rfl) ?_
        refine AOps.nil ?_
        refine AWP.seq ?_
        refine AWP.cond rfl (fun h9 => ?_) (fun h9 => ?_)
        · replace h9 := of_decide_eq_true h9
          rw [List.length_map] at h9
          have hlt : k < c.things.length := by omega
          have hbk := hc.things _ (List.getElem_mem hlt)
          refine AWP.skip ?_
          refine AWP.seq ?_
          refine AWP.block ?_
          refine AWP.seq ?_
          refine AWP.region ?_
          refine AOps.step rfl rfl rfl (AOp.moveD rfl rfl) ?_
          refine AOps.step rfl rfl rfl (AOp.assignD rfl rfl) ?_
          refine AOps.nil ?_
          refine AWP.seq ?_
          refine AWP.region ?_
          refine AOps.step rfl rfl rfl (AOp.loadAgg rfl ag_25 rfl rfl) ?_
          refine AOps.step rfl rfl rfl (AOp.moveD rfl rfl) ?_
          refine AOps.step rfl rfl rfl (AOp.call rfl (.cons (ArgOk.rfl' rfl) (.cons (ArgOk.rfl' rfl) .nil)) (c_rLink c k hLim hr hlt (parts_of HF1 hlt))) ?_
          refine AOps.step rfl rfl rfl (AOp.assignD rfl rfl) ?_
          refine AOps.nil ?_
          refine AWP.seq ?_
          refine AWP.region ?_
          refine AOps.step rfl rfl rfl (AOp.moveD rfl rfl) ?_
          refine AOps.step rfl rfl rfl (AOp.neq rfl rfl rfl) ?_
          refine AOps.nil ?_
          refine AWP.cond rfl (fun h10 => ?_) (fun h10 => ?_)
          · replace h10 := of_decide_eq_true h10
            have HT : chkF c = lkF c.things k := chk_l hL HF1 hlt hk.2 rfl h10
            rw [HT]
            refine AWP.seq ?_
            refine AWP.region ?_
            refine AOps.step rfl rfl rfl (AOp.moveD rfl rfl) ?_
            refine AOps.step rfl rfl rfl (AOp.assignD rfl rfl) ?_
            refine AOps.nil ?_
            refine AWP.ret ?_
            refine ⟨RetD.eq rfl ?_, trivial⟩
            all_goals (first | rfl | first | rw [HR] | rw [chk_t hL hlt hk.2 (show thF c.things k = 1 from by unfold thF; rw [dif_pos hlt]; (first | (exfalso; omega) | ((repeat (first | rw [if_pos (by first | assumption | omega)] | rw [if_neg (by first | assumption | omega)])); first | done | rfl | omega | decide))) (by decide)] | rw [chk_t hL hlt hk.2 (show thF c.things k = 8 from by unfold thF; rw [dif_pos hlt]; (first | (exfalso; omega) | ((repeat (first | rw [if_pos (by first | assumption | omega)] | rw [if_neg (by first | assumption | omega)])); first | done | rfl | omega | decide))) (by decide)])
          · replace h10 := of_decide_eq_false h10
            have n0 : lkF c.things k = 0 := by omega
            refine AWP.skip ?_
            refine AWP.region ?_
            refine AOps.step rfl rfl rfl (AOp.add64 rfl rfl rfl (by omega) (by omega)) ?_
            refine AOps.step rfl rfl rfl (AOp.moveD rfl rfl) ?_
            refine AOps.nil ?_
            refine ⟨k + 1, ⟨by omega, ffst_next hk.2 n0⟩, (by dsimp only; omega), Sub.less ⟨(SLe.of_eq rfl), SLe.refl _, SLe.refl _, trivial⟩ (fun _ h => h)⟩
        · replace h9 := of_decide_eq_false h9
          rw [List.length_map] at h9
          obtain rfl : k = c.things.length := by omega
          have HR : chkF c = mvdF c := chk_m hL HF1 hk.2
          refine AWP.exit ?_
          refine AWP.seq ?_
          refine AWP.region ?_
          refine AOps.step rfl rfl rfl (AOp.loadAgg rfl ag_25 rfl rfl) ?_
          refine AOps.step rfl rfl rfl (AOp.call rfl (.cons (ArgOk.rfl' rfl) .nil) (c_rMvd c hLim hc hr)) ?_
          refine AOps.step rfl rfl rfl (AOp.assignD rfl rfl) ?_
          refine AOps.nil ?_
          refine AWP.ret ?_
          refine ⟨RetD.eq rfl ?_, trivial⟩
          all_goals (first | rfl | first | rw [HR] | rw [chk_t hL hlt hk.2 (show thF c.things k = 1 from by unfold thF; rw [dif_pos hlt]; (first | (exfalso; omega) | ((repeat (first | rw [if_pos (by first | assumption | omega)] | rw [if_neg (by first | assumption | omega)])); first | done | rfl | omega | decide))) (by decide)] | rw [chk_t hL hlt hk.2 (show thF c.things k = 8 from by unfold thF; rw [dif_pos hlt]; (first | (exfalso; omega) | ((repeat (first | rw [if_pos (by first | assumption | omega)] | rw [if_neg (by first | assumption | omega)])); first | done | rfl | omega | decide))) (by decide)])

end Go.Proofs.YtfjnbgldlnanhaaDoor


namespace Go.Proofs.YtfjnbgldlnanhaaDoor
open Go.RowKit
set_option linter.unusedVariables false

/-! Types. -/
namespace TyKH
theorem ag_25 : AggT Tryd.prog 25 2 := .of (by kernel_rfl)
theorem ag_38 : AggT Tryd.prog 38 2 := .of (by kernel_rfl)
theorem ag_46 : AggT Tryd.prog 46 7 := .of (by kernel_rfl)
theorem et_22 : ElemTy Tryd.prog 22 46 7 88 (.agg #[(.int .i64 0), (.int .i64 0), (.string ⟨#[]⟩), (.string ⟨#[]⟩), (.int .i64 0), (.int .i64 0), (.slice none 0 0)]) := ⟨by kernel_rfl, by kernel_rfl, by kernel_rfl, by decide⟩
theorem et_23 : ElemTy Tryd.prog 23 38 2 16 (.agg #[(.int .i64 0), (.int .i64 0)]) := ⟨by kernel_rfl, by kernel_rfl, by kernel_rfl, by decide⟩
theorem et_30 : ElemTy Tryd.prog 30 3 1 8 (.int .i64 0) := ⟨by kernel_rfl, by kernel_rfl, by kernel_rfl, by decide⟩
theorem fo_25_0 : fieldOff Tryd.prog 25 0 = some 0 := by kernel_rfl
theorem fo_25_1 : fieldOff Tryd.prog 25 1 = some 1 := by kernel_rfl
theorem fo_38_0 : fieldOff Tryd.prog 38 0 = some 0 := by kernel_rfl
theorem fo_38_1 : fieldOff Tryd.prog 38 1 = some 1 := by kernel_rfl
theorem fo_46_0 : fieldOff Tryd.prog 46 0 = some 0 := by kernel_rfl
theorem fo_46_5 : fieldOff Tryd.prog 46 5 = some 5 := by kernel_rfl
theorem fo_46_6 : fieldOff Tryd.prog 46 6 = some 6 := by kernel_rfl
theorem sc_22 : Scal Tryd.prog 22 := .of (by kernel_rfl)
theorem sc_23 : Scal Tryd.prog 23 := .of (by kernel_rfl)
theorem sc_3 : Scal Tryd.prog 3 := .of (by kernel_rfl)
theorem sc_30 : Scal Tryd.prog 30 := .of (by kernel_rfl)
theorem sz_38 : ∀ w, (sizeOf 38).run Tryd.prog w = .ok 2 w := SizeT.of (by kernel_rfl)
theorem sz_46 : ∀ w, (sizeOf 46).run Tryd.prog w = .ok 7 w := SizeT.of (by kernel_rfl)
theorem zt_38 : (Tryd.prog.info? 38).bind (·.zero) = some (.agg #[(.int .i64 0), (.int .i64 0)]) := by kernel_rfl
theorem zt_46 : (Tryd.prog.info? 46).bind (·.zero) = some (.agg #[(.int .i64 0), (.int .i64 0), (.string ⟨#[]⟩), (.string ⟨#[]⟩), (.int .i64 0), (.int .i64 0), (.slice none 0 0)]) := by kernel_rfl
end TyKH
open TyKH


def findF (c : Ctl) (id : Int) : Int := if chkF c ≠ 0 then chkF c else if (ledC c id).isSome = true then 0 else 9
def findV (c : Ctl) (id : Int) : Int := if chkF c ≠ 0 then 0 else (ledC c id).getD 0
theorem find_1 {c : Ctl} (id : Int) (h : chkF c ≠ 0) : findF c id = chkF c ∧ findV c id = 0 := ⟨if_pos h, if_pos h⟩
theorem find_2 {c : Ctl} {id : Int} (h : ¬ chkF c ≠ 0) (h2 : (ledC c id).isSome = false) : findF c id = 9 ∧ findV c id = 0 := by
  unfold findF findV
  rw [if_neg h, if_neg h, if_neg (by rw [h2]; decide)]
  cases hq : ledC c id with
  | none => exact ⟨rfl, rfl⟩
  | some _ => rw [hq] at h2; cases h2
theorem find_3 {c : Ctl} {id : Int} (h : ¬ chkF c ≠ 0) (h2 : (ledC c id).isSome = true) : findF c id = 0 ∧ findV c id = (ledC c id).getD 0 := by
  unfold findF findV
  rw [if_neg h, if_neg h, if_pos h2]
  exact ⟨rfl, rfl⟩
def usesB (t : Thg) (id : Int) : Bool := decide (t.parent = id) || decide (id ∈ t.parts)
theorem uses_a {t : Thg} {id : Int} (h : t.parent = id) : usesB t id = true := by unfold usesB; rw [decide_eq_true h]; rfl
theorem uses_b {t : Thg} {id : Int} (h : ¬ t.parent = id) : usesB t id = decide (id ∈ t.parts) := by unfold usesB; rw [decide_eq_false h]; rfl
def pickL (p : Thg → Bool) (l : List Thg) : List Int := (l.filter p).map (·.id)
theorem pick_y {p : Thg → Bool} {l : List Thg} {k : Nat} (hk : k < l.length) (h : p l[k] = true) : pickL p (l.take (k + 1)) = pickL p (l.take k) ++ [l[k].id] := by
  unfold pickL
  rw [List.take_add_one, List.getElem?_eq_getElem hk, Option.toList_some, List.filter_append, List.map_append]
  simp [h]
theorem pick_n {p : Thg → Bool} {l : List Thg} {k : Nat} (hk : k < l.length) (h : p l[k] = false) : pickL p (l.take (k + 1)) = pickL p (l.take k) := by
  unfold pickL
  rw [List.take_add_one, List.getElem?_eq_getElem hk, Option.toList_some, List.filter_append, List.map_append]
  simp [h]
theorem pick_len (p : Thg → Bool) (l : List Thg) : (pickL p l).length ≤ l.length := by unfold pickL; rw [List.length_map]; exact List.length_filter_le _ _
theorem pick_tlen (p : Thg → Bool) (l : List Thg) (k : Nat) : (pickL p (l.take k)).length ≤ k := Nat.le_trans (pick_len _ _) (by rw [List.length_take]; omega)
def useF (c : Ctl) (id : Int) : Int := if chkF c ≠ 0 then chkF c else if thereB c.things id = true then 0 else 9
def useV (c : Ctl) (id : Int) : List Int := if chkF c ≠ 0 then [] else if thereB c.things id = true then pickL (usesB · id) c.things else []
theorem use_1 {c : Ctl} (id : Int) (h : chkF c ≠ 0) : useF c id = chkF c ∧ useV c id = [] := ⟨if_pos h, if_pos h⟩
theorem use_2 {c : Ctl} {id : Int} (h : ¬ chkF c ≠ 0) (h2 : thereB c.things id = false) : useF c id = 9 ∧ useV c id = [] := by
  unfold useF useV
  rw [if_neg h, if_neg h, if_neg (by rw [h2]; decide), if_neg (by rw [h2]; decide)]
  exact ⟨rfl, rfl⟩
theorem use_3 {c : Ctl} {id : Int} (h : ¬ chkF c ≠ 0) (h2 : thereB c.things id = true) : useF c id = 0 ∧ useV c id = pickL (usesB · id) c.things := by
  unfold useF useV
  rw [if_neg h, if_neg h, if_pos h2, if_pos h2]
  exact ⟨rfl, rfl⟩
def onceL (l : List Int) : List Int := l.foldl (fun o n => if n ∈ o then o else o ++ [n]) []
theorem once_y {l : List Int} {k : Nat} (hk : k < l.length) (h : l[k] ∈ onceL (l.take k)) : onceL (l.take (k + 1)) = onceL (l.take k) := by
  unfold onceL at h ⊢
  rw [List.take_add_one, List.getElem?_eq_getElem hk, Option.toList_some, List.foldl_append]
  exact if_pos h
theorem once_n {l : List Int} {k : Nat} (hk : k < l.length) (h : ¬ l[k] ∈ onceL (l.take k)) : onceL (l.take (k + 1)) = onceL (l.take k) ++ [l[k]] := by
  have h' := h
  unfold onceL at h ⊢
  rw [List.take_add_one, List.getElem?_eq_getElem hk, Option.toList_some, List.foldl_append]
  exact if_neg h
theorem once_len : ∀ (k : Nat) (l : List Int), k ≤ l.length → (onceL (l.take k)).length ≤ k
  | 0, l, _ => by simp [onceL]
  | k + 1, l, hk => by
    have ih := once_len k l (by omega)
    by_cases h : l[k] ∈ onceL (l.take k)
    · rw [once_y (by omega) h]; omega
    · rw [once_n (by omega) h, List.length_append, List.length_singleton]; omega


set_option maxRecDepth 100000 in
set_option maxHeartbeats 1000000 in
theorem c_pFind (c : Ctl) (id : Int) (hc : CtlOk c) (hi : i64 id) : ACallT Tryd.prog MaxT 4 [.agg c.ds, .v (.int .i64 id)] (.tup [.v (.int .i64 (findV c id)), .v (.int .i64 (findF c id))]) := by
  refine acall_ofT (n := 42) (ds' := [.v (.int .i64 (findV c id)), .v (.int .i64 (findF c id))]) Tryd.func4 rfl (by kernel_rfl) rfl [4, 5] rfl rfl ?_
  intro B w0 F0 hT
  refine AWP.seq ?_
  refine AWP.region ?_
  refine AOps.step rfl rfl rfl (AOp.box rfl rfl rfl) ?_
  refine AOps.step rfl rfl rfl (AOp.assignD rfl rfl) ?_
  refine AOps.step rfl rfl rfl (AOp.assignD rfl rfl) ?_
  refine AOps.nil ?_
  refine AWP.seq ?_
  refine AWP.seq ?_
  refine AWP.region ?_
  refine AOps.step rfl rfl rfl (AOp.loadAgg rfl ag_25 rfl rfl) ?_
  -- wants the world
  refine AOps.callT rfl rfl rfl hT maxT_stays rfl (.cons (ArgOk.rfl' rfl) .nil) (c_pChk c hc) ?_
  refine AOps.step rfl rfl rfl (AOp.assignD rfl rfl) ?_
  refine AOps.nil ?_
  refine AWP.seq ?_
  refine AWP.region ?_
  refine AOps.step rfl rfl rfl (AOp.moveD rfl rfl) ?_
  refine AOps.step rfl rfl rfl (AOp.neq rfl rfl rfl) ?_
  refine AOps.nil ?_
  refine AWP.cond rfl (fun h1 => ?_) (fun h1 => ?_)
  · replace h1 := of_decide_eq_true h1
    obtain ⟨E1, E2⟩ := find_1 id h1
    rw [E1, E2]
    refine AWP.seq ?_
    refine AWP.region ?_
    refine AOps.step rfl rfl rfl (AOp.moveD rfl rfl) ?_
    refine AOps.step rfl rfl rfl (AOp.assignD rfl rfl) ?_
    refine AOps.step rfl rfl rfl (AOp.assignD rfl rfl) ?_
    refine AOps.nil ?_
    refine AWP.ret ?_
    refine ⟨RetD.eq rfl ?_, RetD.eq rfl ?_, trivial⟩
    all_goals (rfl)
  · replace h1 := of_decide_eq_false h1
    have hz := h1
    have HC := catOk (c := c) (by omega)
    have hl := HC.lim
    have hl1 := hl.1
    have hl2 := hl.2
    have hr := HC.ris
    refine AWP.skip ?_
    refine AWP.seq ?_
    refine AWP.region ?_
    refine AOps.makeMap 91 rfl rfl rfl rfl rfl ?_
    refine AOps.step rfl rfl rfl (AOp.assignO rfl rfl) ?_
    refine AOps.nil ?_
    refine AWP.seq ?_
    refine AWP.seq ?_
    refine AWP.region ?_
    refine AOps.step rfl rfl rfl (AOp.fieldAddr rfl fo_25_1 rfl) ?_
    refine AOps.step rfl rfl rfl (AOp.load rfl sc_23 rfl) ?_
    refine AOps.step rfl rfl rfl (AOp.lenSl rfl et_23.ht rfl) ?_
    refine AOps.step rfl rfl rfl (AOp.moveD rfl rfl) ?_
    refine AOps.nil ?_
    refine AWP.block ?_
    refine AWP.loop (G := Nat) (fun k => Env.of [(21, .d (.v (.int .i64 (k : Int)))), (19, .d (.sl (c.moved.map Mvd.ds))), (20, .d (.v (.int .i64 ((c.moved.map Mvd.ds).length : Int)))), (7, .own 91), (2, .d (.fp c.ds)), (1, .d (.v (.int .i64 id)))]) (fun k => [(91, .map (toM (toL (c.moved.take k))))]) (fun k => k ≤ c.moved.length) (fun k => c.moved.length - k) 0 (Nat.zero_le _) (Sub.less ⟨(SLe.of_eq rfl), SLe.refl _, SLe.refl _, SLe.refl _, SLe.refl _, SLe.refl _, trivial⟩ (map_1 rfl)) ?_
    intro k hk
    refine AWP.seq ?_
    refine AWP.region ?_
    refine AOps.step rfl rfl rfl (AOp.lss rfl rfl rfl) ?_
    refine AOps.nil ?_
    refine AWP.seq ?_
    refine AWP.cond rfl (fun h2 => ?_) (fun h2 => ?_)
    · replace h2 := of_decide_eq_true h2
      rw [List.length_map] at h2
      have hlt : k < c.moved.length := by omega
      have hbk := hc.moved _ (List.getElem_mem hlt)
      refine AWP.skip ?_
      refine AWP.seq ?_
      refine AWP.block ?_
      refine AWP.seq ?_
      refine AWP.region ?_
      refine AOps.step rfl rfl rfl (AOp.indexAddr rfl et_23 rfl rfl k rfl (at_lst hlt) rfl) ?_
      refine AOps.step rfl rfl rfl (AOp.loadAgg rfl ag_38 rfl rfl) ?_
      refine AOps.alloc 102 rfl rfl rfl rfl zt_38 rfl rfl rfl ?_
      refine AOps.store rfl rfl rfl sz_38 rfl (.head _) rfl rfl rfl (Nat.le_of_ble_eq_true rfl) ?_
      refine AOps.freezeCells 9 (ds := c.moved[k].ds) rfl (.head _) ?_
      refine AOps.nil ?_
      refine AWP.region ?_
      refine AOps.step rfl rfl rfl (AOp.moveO rfl rfl) ?_
      refine AOps.step rfl rfl rfl (AOp.fieldAddr rfl fo_38_0 rfl) ?_
      refine AOps.step rfl rfl rfl (AOp.load rfl sc_3 rfl) ?_
      refine AOps.step rfl rfl rfl (AOp.fieldAddr rfl fo_38_1 rfl) ?_
      refine AOps.step rfl rfl rfl (AOp.load rfl sc_3 rfl) ?_
      refine AOps.eff rfl rfl (EOp.mapUpdateX (key := kI c.moved[k].src) rfl rfl mt_to kd_int rfl (.head _) rfl (DExact.v _) rfl (kI_ok hbk.1) (toM_keys fun p hp => (toL_ok (fun x hx => hc.moved x (List.mem_of_mem_take hx)) p hp).1) (put_to hlt)) ?_
      refine AOps.nil ?_
      refine AWP.region ?_
      refine AOps.step rfl rfl rfl (AOp.add64 rfl rfl rfl (by omega) (by omega)) ?_
      refine AOps.step rfl rfl rfl (AOp.moveD rfl rfl) ?_
      refine AOps.nil ?_
      refine ⟨k + 1, (by omega), (by dsimp only; omega), Sub.less ⟨(SLe.of_eq rfl), SLe.refl _, SLe.refl _, SLe.refl _, SLe.refl _, SLe.refl _, trivial⟩ (map_1 rfl)⟩
    · replace h2 := of_decide_eq_false h2
      rw [List.length_map] at h2
      obtain rfl : k = c.moved.length := by omega
      rw [List.take_length]
      rw [toL_ris HC.rism]
      refine AWP.exit ?_
      refine AWP.seq ?_
      refine AWP.freezeMap 7 rfl (.head _) ?_
      refine AWP.region ?_
      refine AOps.step rfl rfl rfl (AOp.loadAgg rfl ag_25 rfl rfl) ?_
      refine AOps.step rfl rfl rfl (AOp.call rfl (.cons (ArgOk.rfl' rfl) .nil) (c_idxOf c hl hc hr)) ?_
      refine AOps.step rfl rfl rfl (AOp.moveD rfl rfl) ?_
      refine AOps.step rfl rfl rfl (AOp.moveD rfl rfl) ?_
      refine AOps.step rfl rfl rfl (AOp.call rfl (.cons (ArgOk.rfl' rfl) (.cons (ArgOk.rfl' rfl) (.cons (ArgOk.rfl' rfl) .nil))) (c_found _ _ _ hc.things hr (by rw [← toL_ris HC.rism]; exact toL_ok hc.moved) (by rw [← toL_ris HC.rism]; exact toL_nk _) hi (by rw [mvL_len]; exact hl2))) ?_
      refine AOps.step rfl rfl rfl (AOp.moveD rfl rfl) ?_
      refine AOps.step rfl rfl rfl (AOp.extract rfl rfl rfl) ?_
      refine AOps.step rfl rfl rfl (AOp.extract rfl rfl rfl) ?_
      refine AOps.step rfl rfl rfl (AOp.assignD rfl rfl) ?_
      refine AOps.step rfl rfl rfl (AOp.assignD rfl rfl) ?_
      refine AOps.nil ?_
      refine AWP.seq ?_
      refine AWP.seq ?_
      refine AWP.region ?_
      refine AOps.step rfl rfl rfl (AOp.moveD rfl rfl) ?_
      refine AOps.step rfl rfl rfl (AOp.not rfl rfl) ?_
      refine AOps.nil ?_
      refine AWP.cond rfl (fun h3 => ?_) (fun h3 => ?_)
      · replace h3 := bnot_t h3
        rw [led_ris hr HC.rism, led_def] at h3
        obtain ⟨E1, E2⟩ := find_2 hz h3
        rw [E1, E2]
        refine AWP.seq ?_
        refine AWP.region ?_
        refine AOps.step rfl rfl rfl (AOp.assignD rfl rfl) ?_
        refine AOps.step rfl rfl rfl (AOp.assignD rfl rfl) ?_
        refine AOps.nil ?_
        refine AWP.ret ?_
        refine ⟨RetD.eq rfl ?_, RetD.eq rfl ?_, trivial⟩
        all_goals (rfl)
      · replace h3 := bnot_f h3
        rw [led_ris hr HC.rism, led_def] at h3
        have hth := h3
        obtain ⟨E1, E2⟩ := find_3 hz h3
        rw [E1, E2]
        rw [led_ris hr HC.rism, led_def]
        refine AWP.skip ?_
        refine AWP.seq ?_
        refine AWP.region ?_
        refine AOps.step rfl rfl rfl (AOp.moveD rfl rfl) ?_
        refine AOps.step rfl rfl rfl (AOp.assignD rfl rfl) ?_
        refine AOps.step rfl rfl rfl (AOp.assignD rfl rfl) ?_
        refine AOps.nil ?_
        refine AWP.ret ?_
        refine ⟨RetD.eq rfl ?_, RetD.eq rfl ?_, trivial⟩
        all_goals (rfl)

set_option maxRecDepth 100000 in
set_option maxHeartbeats 1000000 in
theorem c_rFind (c : Ctl) (id : Int) (hc : CtlOk c) : ACallT Tryd.prog MaxT 5 [.agg c.ds, .v (.int .i64 id)] (.tup [.v (.int .i64 (findV c id)), .v (.int .i64 (findF c id))]) := by
  refine acall_ofT (n := 23) (ds' := [.v (.int .i64 (findV c id)), .v (.int .i64 (findF c id))]) Tryd.func5 rfl (by kernel_rfl) rfl [4, 5] rfl rfl ?_
  intro B w0 F0 hT
  refine AWP.seq ?_
  refine AWP.region ?_
  refine AOps.step rfl rfl rfl (AOp.box rfl rfl rfl) ?_
  refine AOps.step rfl rfl rfl (AOp.assignD rfl rfl) ?_
  refine AOps.step rfl rfl rfl (AOp.assignD rfl rfl) ?_
  refine AOps.nil ?_
  refine AWP.seq ?_
  refine AWP.seq ?_
  refine AWP.region ?_
  refine AOps.step rfl rfl rfl (AOp.loadAgg rfl ag_25 rfl rfl) ?_
  -- wants the world
  refine AOps.callT rfl rfl rfl hT maxT_stays rfl (.cons (ArgOk.rfl' rfl) .nil) (c_rChk c hc) ?_
  refine AOps.step rfl rfl rfl (AOp.assignD rfl rfl) ?_
  refine AOps.nil ?_
  refine AWP.seq ?_
  refine AWP.region ?_
  refine AOps.step rfl rfl rfl (AOp.moveD rfl rfl) ?_
  refine AOps.step rfl rfl rfl (AOp.neq rfl rfl rfl) ?_
  refine AOps.nil ?_
  refine AWP.cond rfl (fun h1 => ?_) (fun h1 => ?_)
  · replace h1 := of_decide_eq_true h1
    obtain ⟨E1, E2⟩ := find_1 id h1
    rw [E1, E2]
    refine AWP.seq ?_
    refine AWP.region ?_
    refine AOps.step rfl rfl rfl (AOp.moveD rfl rfl) ?_
    refine AOps.step rfl rfl rfl (AOp.assignD rfl rfl) ?_
    refine AOps.step rfl rfl rfl (AOp.assignD rfl rfl) ?_
    refine AOps.nil ?_
    refine AWP.ret ?_
    refine ⟨RetD.eq rfl ?_, RetD.eq rfl ?_, trivial⟩
    all_goals (rfl)
  · replace h1 := of_decide_eq_false h1
    have hz := h1
    have HC := catOk (c := c) (by omega)
    have hl := HC.lim
    have hl1 := hl.1
    have hl2 := hl.2
    have hr := HC.ris
    refine AWP.skip ?_
    refine AWP.seq ?_
    refine AWP.region ?_
    refine AOps.step rfl rfl rfl (AOp.loadAgg rfl ag_25 rfl rfl) ?_
    refine AOps.step rfl rfl rfl (AOp.moveD rfl rfl) ?_
    refine AOps.step rfl rfl rfl (AOp.call rfl (.cons (ArgOk.rfl' rfl) (.cons (ArgOk.rfl' rfl) .nil)) (c_find c id hl)) ?_
    refine AOps.step rfl rfl rfl (AOp.moveD rfl rfl) ?_
    refine AOps.step rfl rfl rfl (AOp.extract rfl rfl rfl) ?_
    refine AOps.step rfl rfl rfl (AOp.extract rfl rfl rfl) ?_
    refine AOps.step rfl rfl rfl (AOp.assignD rfl rfl) ?_
    refine AOps.step rfl rfl rfl (AOp.assignD rfl rfl) ?_
    refine AOps.nil ?_
    refine AWP.seq ?_
    refine AWP.seq ?_
    refine AWP.region ?_
    refine AOps.step rfl rfl rfl (AOp.moveD rfl rfl) ?_
    refine AOps.step rfl rfl rfl (AOp.not rfl rfl) ?_
    refine AOps.nil ?_
    refine AWP.cond rfl (fun h2 => ?_) (fun h2 => ?_)
    · replace h2 := bnot_t h2
      obtain ⟨E1, E2⟩ := find_2 hz h2
      rw [E1, E2]
      refine AWP.seq ?_
      refine AWP.region ?_
      refine AOps.step rfl rfl rfl (AOp.assignD rfl rfl) ?_
      refine AOps.step rfl rfl rfl (AOp.assignD rfl rfl) ?_
      refine AOps.nil ?_
      refine AWP.ret ?_
      refine ⟨RetD.eq rfl ?_, RetD.eq rfl ?_, trivial⟩
      all_goals (rfl)
    · replace h2 := bnot_f h2
      have hth := h2
      obtain ⟨E1, E2⟩ := find_3 hz h2
      rw [E1, E2]
      refine AWP.skip ?_
      refine AWP.seq ?_
      refine AWP.region ?_
      refine AOps.step rfl rfl rfl (AOp.moveD rfl rfl) ?_
      refine AOps.step rfl rfl rfl (AOp.assignD rfl rfl) ?_
      refine AOps.step rfl rfl rfl (AOp.assignD rfl rfl) ?_
      refine AOps.nil ?_
      refine AWP.ret ?_
      refine ⟨RetD.eq rfl ?_, RetD.eq rfl ?_, trivial⟩
      all_goals (rfl)

set_option maxRecDepth 100000 in
set_option maxHeartbeats 1000000 in
theorem c_usesB (t : Thg) (id : Int) : ACall Tryd.prog 24 [.agg t.ds, .v (.int .i64 id)] (.v (.bool (usesB t id))) := by
  refine acall_of (n := 15) (ds' := [.v (.bool (usesB t id))]) Tryd.func24 rfl (by kernel_rfl) rfl [4] rfl rfl ?_
  intro B w0 F0 fr
  refine AWP.seq ?_
  refine AWP.region ?_
  refine AOps.step rfl rfl rfl (AOp.box rfl rfl rfl) ?_
  refine AOps.step rfl rfl rfl (AOp.assignD rfl rfl) ?_
  refine AOps.nil ?_
  refine AWP.seq ?_
  refine AWP.region ?_
  refine AOps.step rfl rfl rfl (AOp.fieldAddr rfl fo_46_5 rfl) ?_
  refine AOps.step rfl rfl rfl (AOp.load rfl sc_3 rfl) ?_
  refine AOps.step rfl rfl rfl (AOp.moveD rfl rfl) ?_
  refine AOps.step rfl rfl rfl (AOp.eql rfl rfl rfl) ?_
  refine AOps.step rfl rfl rfl (AOp.moveD rfl rfl) ?_
  refine AOps.split 9 rfl (fun g1 => ?_) (fun g1 => ?_)
  · replace g1 := of_decide_eq_true g1
    rw [uses_a g1]
    refine AOps.pass ⟨9, rfl, .inl ⟨_, rfl, rfl⟩⟩ rfl rfl ?_
    refine AOps.pass ⟨9, rfl, .inl ⟨_, rfl, rfl⟩⟩ rfl rfl ?_
    refine AOps.pass ⟨9, rfl, .inl ⟨_, rfl, rfl⟩⟩ rfl rfl ?_
    refine AOps.pass ⟨9, rfl, .inl ⟨_, rfl, rfl⟩⟩ rfl rfl ?_
    refine AOps.step rfl rfl rfl (AOp.pickT rfl rfl rfl) ?_
    refine AOps.step rfl rfl rfl (AOp.assignD rfl rfl) ?_
    refine AOps.nil ?_
    refine AWP.ret ?_
    refine ⟨RetD.eq rfl ?_, trivial⟩
    all_goals (rfl)
  · replace g1 := of_decide_eq_false g1
    rw [uses_b g1]
    refine AOps.step ⟨9, rfl, .inl ⟨_, rfl, rfl⟩⟩ rfl rfl (AOp.fieldAddr rfl fo_46_6 rfl) ?_
    refine AOps.step ⟨9, rfl, .inl ⟨_, rfl, rfl⟩⟩ rfl rfl (AOp.load rfl sc_30 rfl) ?_
    refine AOps.step ⟨9, rfl, .inl ⟨_, rfl, rfl⟩⟩ rfl rfl (AOp.moveD rfl rfl) ?_
    refine AOps.step ⟨9, rfl, .inl ⟨_, rfl, rfl⟩⟩ rfl rfl (AOp.call rfl (.cons (ArgOk.rfl' rfl) (.cons (ArgOk.rfl' rfl) .nil)) (c_containsInt _ _)) ?_
    refine AOps.step rfl rfl rfl (AOp.pickF rfl rfl rfl) ?_
    refine AOps.step rfl rfl rfl (AOp.assignD rfl rfl) ?_
    refine AOps.nil ?_
    refine AWP.ret ?_
    refine ⟨RetD.eq rfl ?_, trivial⟩
    all_goals (rfl)

set_option maxRecDepth 100000 in
set_option maxHeartbeats 1000000 in
theorem c_pUses (c : Ctl) (id : Int) (hc : CtlOk c) (hi : i64 id) : ACallT Tryd.prog MaxT 8 [.agg c.ds, .v (.int .i64 id)] (.tup [.sl ((useV c id).map intD), .v (.int .i64 (useF c id))]) := by
  refine acall_ofT (n := 43) (ds' := [.sl ((useV c id).map intD), .v (.int .i64 (useF c id))]) Tryd.func8 rfl (by kernel_rfl) rfl [4, 5] rfl rfl ?_
  intro B w0 F0 hT
  refine AWP.seq ?_
  refine AWP.region ?_
  refine AOps.step rfl rfl rfl (AOp.box rfl rfl rfl) ?_
  refine AOps.step rfl rfl rfl (AOp.assignD rfl rfl) ?_
  refine AOps.step rfl rfl rfl (AOp.assignD rfl rfl) ?_
  refine AOps.nil ?_
  refine AWP.seq ?_
  refine AWP.seq ?_
  refine AWP.region ?_
  refine AOps.step rfl rfl rfl (AOp.loadAgg rfl ag_25 rfl rfl) ?_
  -- wants the world
  refine AOps.callT rfl rfl rfl hT maxT_stays rfl (.cons (ArgOk.rfl' rfl) .nil) (c_pChk c hc) ?_
  refine AOps.step rfl rfl rfl (AOp.assignD rfl rfl) ?_
  refine AOps.nil ?_
  refine AWP.seq ?_
  refine AWP.region ?_
  refine AOps.step rfl rfl rfl (AOp.moveD rfl rfl) ?_
  refine AOps.step rfl rfl rfl (AOp.neq rfl rfl rfl) ?_
  refine AOps.nil ?_
  refine AWP.cond rfl (fun h1 => ?_) (fun h1 => ?_)
  · replace h1 := of_decide_eq_true h1
    obtain ⟨E1, E2⟩ := use_1 id h1
    rw [E1, E2]
    refine AWP.seq ?_
    refine AWP.region ?_
    refine AOps.step rfl rfl rfl (AOp.moveD rfl rfl) ?_
    refine AOps.step rfl rfl rfl (AOp.assignD rfl rfl) ?_
    refine AOps.step rfl rfl rfl (AOp.assignD rfl rfl) ?_
    refine AOps.nil ?_
    refine AWP.ret ?_
    refine ⟨RetD.nil rfl, RetD.eq rfl ?_, trivial⟩
    all_goals (rfl)
  · replace h1 := of_decide_eq_false h1
    have hz := h1
    have HC := catOk (c := c) (by omega)
    have hl := HC.lim
    have hl1 := hl.1
    have hl2 := hl.2
    have hr := HC.ris
    refine AWP.skip ?_
    refine AWP.seq ?_
    refine AWP.seq ?_
    refine AWP.region ?_
    refine AOps.step rfl rfl rfl (AOp.loadAgg rfl ag_25 rfl rfl) ?_
    refine AOps.step rfl rfl rfl (AOp.call rfl (.cons (ArgOk.rfl' rfl) .nil) (c_idxOf c hl hc hr)) ?_
    refine AOps.step rfl rfl rfl (AOp.moveD rfl rfl) ?_
    refine AOps.step rfl rfl rfl (AOp.lookupOkF (key := kI id) rfl mt_idx kd_int zt_thg zd_thg rfl rfl (DExact.v _) (kI_ok hi) (idxM_keys hc.things) _ (getok_idx hr.nk _)) ?_
    refine AOps.step rfl rfl rfl (AOp.moveD rfl rfl) ?_
    refine AOps.step rfl rfl rfl (AOp.extract rfl rfl rfl) ?_
    refine AOps.step rfl rfl rfl (AOp.extract rfl rfl rfl) ?_
    refine AOps.alloc 101 rfl rfl rfl rfl zt_46 rfl rfl rfl ?_
    refine AOps.store rfl rfl rfl sz_46 rfl (.head _) rfl rfl rfl (Nat.le_of_ble_eq_true rfl) ?_
    refine AOps.freezeCells 7 (ds := (getT c.things id).ds) rfl (.head _) ?_
    refine AOps.step rfl rfl rfl (AOp.assignD rfl rfl) ?_
    refine AOps.nil ?_
    refine AWP.seq ?_
    refine AWP.region ?_
    refine AOps.step rfl rfl rfl (AOp.moveD rfl rfl) ?_
    refine AOps.step rfl rfl rfl (AOp.not rfl rfl) ?_
    refine AOps.nil ?_
    refine AWP.cond rfl (fun h2 => ?_) (fun h2 => ?_)
    · replace h2 := bnot_t h2
      obtain ⟨E1, E2⟩ := use_2 hz h2
      rw [E1, E2]
      refine AWP.seq ?_
      refine AWP.region ?_
      refine AOps.step rfl rfl rfl (AOp.assignD rfl rfl) ?_
      refine AOps.step rfl rfl rfl (AOp.assignD rfl rfl) ?_
      refine AOps.nil ?_
      refine AWP.ret ?_
      refine ⟨RetD.nil rfl, RetD.eq rfl ?_, trivial⟩
      all_goals (rfl)
    · replace h2 := bnot_f h2
      have hth := h2
      obtain ⟨E1, E2⟩ := use_3 hz h2
      rw [E1, E2]
      refine AWP.skip ?_
      refine AWP.seq ?_
      refine AWP.region ?_
      refine AOps.step rfl rfl rfl (AOp.assignD rfl rfl) ?_
      refine AOps.nil ?_
      refine AWP.seq ?_
      refine AWP.seq ?_
      refine AWP.region ?_
      refine AOps.step rfl rfl rfl (AOp.fieldAddr rfl fo_25_0 rfl) ?_
      refine AOps.step rfl rfl rfl (AOp.load rfl sc_22 rfl) ?_
      refine AOps.step rfl rfl rfl (AOp.lenSl rfl et_22.ht rfl) ?_
      refine AOps.step rfl rfl rfl (AOp.moveD rfl rfl) ?_
      refine AOps.nil ?_
      refine AWP.block ?_
      refine AWP.adopt 9 1 3 1 rfl rfl ?_
      refine AWP.loop (G := Nat) (fun k => Env.of [(29, .d (.v (.int .i64 (k : Int)))), (27, .d (.sl (c.things.map Thg.ds))), (28, .d (.v (.int .i64 ((c.things.map Thg.ds).length : Int)))), (9, .own 1), (2, .d (.fp c.ds)), (1, .d (.v (.int .i64 id)))]) (fun k => [(1, .row 3 1 ((pickL (usesB · id) (c.things.take k)).map intD))]) (fun k => k ≤ c.things.length) (fun k => c.things.length - k) 0 (Nat.zero_le _) (Sub.less ⟨(SLe.of_eq rfl), SLe.refl _, SLe.refl _, SLe.refl _, SLe.refl _, SLe.refl _, trivial⟩ (row_same rfl)) ?_
      intro k hk
      refine AWP.seq ?_
      refine AWP.region ?_
      refine AOps.step rfl rfl rfl (AOp.lss rfl rfl rfl) ?_
      refine AOps.nil ?_
      refine AWP.seq ?_
      refine AWP.cond rfl (fun h3 => ?_) (fun h3 => ?_)
      · replace h3 := of_decide_eq_true h3
        rw [List.length_map] at h3
        have hlt : k < c.things.length := by omega
        have hbk := hc.things _ (List.getElem_mem hlt)
        refine AWP.skip ?_
        refine AWP.seq ?_
        refine AWP.block ?_
        refine AWP.seq ?_
        refine AWP.region ?_
        refine AOps.step rfl rfl rfl (AOp.indexAddr rfl et_22 rfl rfl k rfl (at_lst hlt) rfl) ?_
        refine AOps.step rfl rfl rfl (AOp.loadAgg rfl ag_46 rfl rfl) ?_
        refine AOps.alloc 102 rfl rfl rfl rfl zt_46 rfl rfl rfl ?_
        refine AOps.store rfl rfl rfl sz_46 rfl (.head _) rfl rfl rfl (Nat.le_of_ble_eq_true rfl) ?_
        refine AOps.freezeCells 11 (ds := c.things[k].ds) rfl (.head _) ?_
        refine AOps.nil ?_
        refine AWP.seq ?_
        refine AWP.region ?_
        refine AOps.step rfl rfl rfl (AOp.loadAgg rfl ag_46 rfl rfl) ?_
        refine AOps.step rfl rfl rfl (AOp.moveD rfl rfl) ?_
        refine AOps.step rfl rfl rfl (AOp.call rfl (.cons (ArgOk.rfl' rfl) (.cons (ArgOk.rfl' rfl) .nil)) (c_usesB _ _)) ?_
        refine AOps.nil ?_
        refine AWP.cond rfl (fun h4 => ?_) (fun h4 => ?_)
        · skip
          have HU := h4
          refine AWP.region ?_
          refine AOps.step rfl rfl rfl (AOp.moveO rfl rfl) ?_
          refine AOps.step rfl rfl rfl (AOp.fieldAddr rfl fo_46_0 rfl) ?_
          refine AOps.step rfl rfl rfl (AOp.load rfl sc_3 rfl) ?_
          refine AOps.step rfl rfl rfl (AOp.buildSlice rfl et_30 (.cons rfl rfl rfl .nil) rfl (by decide)) ?_
          -- append 40
          refine AOps.append rfl rfl rfl rfl et_30 rfl (.head _) rfl (fun y hy => by obtain rfl := List.mem_singleton.1 hy; rfl) (by have := pick_tlen (usesB · id) c.things k; simp; omega) (by have := pick_tlen (usesB · id) c.things k; simp; omega) ?_
          refine AOps.step rfl rfl rfl (AOp.assignO rfl rfl) ?_
          refine AOps.nil ?_
          refine AWP.region ?_
          refine AOps.step rfl rfl rfl (AOp.add64 rfl rfl rfl (by omega) (by omega)) ?_
          refine AOps.step rfl rfl rfl (AOp.moveD rfl rfl) ?_
          refine AOps.nil ?_
          refine ⟨k + 1, (by omega), (by dsimp only; omega), Sub.less ⟨(SLe.of_eq rfl), SLe.refl _, SLe.refl _, SLe.refl _, SLe.refl _, SLe.refl _, trivial⟩ (row_same (by first | (rw [pick_y hlt HU, List.map_append]; rfl) | rw [pick_n hlt HU]))⟩
        · skip
          have HU := h4
          refine AWP.skip ?_
          refine AWP.region ?_
          refine AOps.step rfl rfl rfl (AOp.add64 rfl rfl rfl (by omega) (by omega)) ?_
          refine AOps.step rfl rfl rfl (AOp.moveD rfl rfl) ?_
          refine AOps.nil ?_
          refine ⟨k + 1, (by omega), (by dsimp only; omega), Sub.less ⟨(SLe.of_eq rfl), SLe.refl _, SLe.refl _, SLe.refl _, SLe.refl _, SLe.refl _, trivial⟩ (row_same (by first | (rw [pick_y hlt HU, List.map_append]; rfl) | rw [pick_n hlt HU]))⟩
      · replace h3 := of_decide_eq_false h3
        rw [List.length_map] at h3
        obtain rfl : k = c.things.length := by omega
        rw [List.take_length]
        refine AWP.exit ?_
        refine AWP.seq ?_
        refine AWP.region ?_
        refine AOps.step rfl rfl rfl (AOp.moveO rfl rfl) ?_
        refine AOps.step rfl rfl rfl (AOp.assignO rfl rfl) ?_
        refine AOps.step rfl rfl rfl (AOp.assignD rfl rfl) ?_
        refine AOps.nil ?_
        refine AWP.ret ?_
        refine ⟨RetD.own rfl (.head _) ?_, RetD.eq rfl ?_, trivial⟩
        all_goals (rfl)

set_option maxRecDepth 100000 in
set_option maxHeartbeats 1000000 in
theorem c_users (c : Ctl) (id : Int) (hc : CtlOk c) (hl : Lim c) : ACall Tryd.prog 26 [.agg c.ds, .v (.int .i64 id)] (.sl ((pickL (usesB · id) c.things).map intD)) := by
  refine acall_of (n := 32) (ds' := [.sl ((pickL (usesB · id) c.things).map intD)]) Tryd.func26 rfl (by kernel_rfl) rfl [4] rfl rfl ?_
  intro B w0 F0 fr
  have hl1 := hl.1
  refine AWP.seq ?_
  refine AWP.region ?_
  refine AOps.step rfl rfl rfl (AOp.box rfl rfl rfl) ?_
  refine AOps.step rfl rfl rfl (AOp.assignD rfl rfl) ?_
  refine AOps.nil ?_
  refine AWP.seq ?_
  refine AWP.region ?_
  refine AOps.step rfl rfl rfl (AOp.assignD rfl rfl) ?_
  refine AOps.nil ?_
  refine AWP.seq ?_
  refine AWP.seq ?_
  refine AWP.region ?_
  refine AOps.step rfl rfl rfl (AOp.fieldAddr rfl fo_25_0 rfl) ?_
  refine AOps.step rfl rfl rfl (AOp.load rfl sc_22 rfl) ?_
  refine AOps.step rfl rfl rfl (AOp.lenSl rfl et_22.ht rfl) ?_
  refine AOps.step rfl rfl rfl (AOp.moveD rfl rfl) ?_
  refine AOps.nil ?_
  refine AWP.block ?_
  refine AWP.adopt 5 1 3 1 rfl rfl ?_
  refine AWP.loop (G := Nat) (fun k => Env.of [(11, .d (.v (.int .i64 (k : Int)))), (9, .d (.sl (c.things.map Thg.ds))), (10, .d (.v (.int .i64 ((c.things.map Thg.ds).length : Int)))), (5, .own 1), (2, .d (.fp c.ds)), (1, .d (.v (.int .i64 id)))]) (fun k => [(1, .row 3 1 ((pickL (usesB · id) (c.things.take k)).map intD))]) (fun k => k ≤ c.things.length) (fun k => c.things.length - k) 0 (Nat.zero_le _) (Sub.less ⟨(SLe.of_eq rfl), SLe.refl _, SLe.refl _, SLe.refl _, SLe.refl _, SLe.refl _, trivial⟩ (row_same rfl)) ?_
  intro k hk
  refine AWP.seq ?_
  refine AWP.region ?_
  refine AOps.step rfl rfl rfl (AOp.lss rfl rfl rfl) ?_
  refine AOps.nil ?_
  refine AWP.seq ?_
  refine AWP.cond rfl (fun h1 => ?_) (fun h1 => ?_)
  · replace h1 := of_decide_eq_true h1
    rw [List.length_map] at h1
    have hlt : k < c.things.length := by omega
    have hbk := hc.things _ (List.getElem_mem hlt)
    refine AWP.skip ?_
    refine AWP.seq ?_
    refine AWP.block ?_
    refine AWP.seq ?_
    refine AWP.region ?_
    refine AOps.step rfl rfl rfl (AOp.indexAddr rfl et_22 rfl rfl k rfl (at_lst hlt) rfl) ?_
    refine AOps.step rfl rfl rfl (AOp.loadAgg rfl ag_46 rfl rfl) ?_
    refine AOps.alloc 101 rfl rfl rfl rfl zt_46 rfl rfl rfl ?_
    refine AOps.store rfl rfl rfl sz_46 rfl (.head _) rfl rfl rfl (Nat.le_of_ble_eq_true rfl) ?_
    refine AOps.freezeCells 7 (ds := c.things[k].ds) rfl (.head _) ?_
    refine AOps.nil ?_
    refine AWP.seq ?_
    refine AWP.region ?_
    refine AOps.step rfl rfl rfl (AOp.fieldAddr rfl fo_46_5 rfl) ?_
    refine AOps.step rfl rfl rfl (AOp.load rfl sc_3 rfl) ?_
    refine AOps.step rfl rfl rfl (AOp.moveD rfl rfl) ?_
    refine AOps.step rfl rfl rfl (AOp.eql rfl rfl rfl) ?_
    refine AOps.step rfl rfl rfl (AOp.moveD rfl rfl) ?_
    refine AOps.split 19 rfl (fun g2 => ?_) (fun g2 => ?_)
    · replace g2 := of_decide_eq_true g2
      have HU : usesB c.things[k] id = true := uses_a g2
      refine AOps.pass ⟨19, rfl, .inl ⟨_, rfl, rfl⟩⟩ rfl rfl ?_
      refine AOps.pass ⟨19, rfl, .inl ⟨_, rfl, rfl⟩⟩ rfl rfl ?_
      refine AOps.pass ⟨19, rfl, .inl ⟨_, rfl, rfl⟩⟩ rfl rfl ?_
      refine AOps.pass ⟨19, rfl, .inl ⟨_, rfl, rfl⟩⟩ rfl rfl ?_
      refine AOps.step rfl rfl rfl (AOp.pickT rfl rfl rfl) ?_
      refine AOps.nil ?_
      refine AWP.cond rfl (fun _ => ?_) (fun h => nomatch h)
      refine AWP.region ?_
      refine AOps.step rfl rfl rfl (AOp.moveO rfl rfl) ?_
      refine AOps.step rfl rfl rfl (AOp.fieldAddr rfl fo_46_0 rfl) ?_
      refine AOps.step rfl rfl rfl (AOp.load rfl sc_3 rfl) ?_
      refine AOps.step rfl rfl rfl (AOp.buildSlice rfl et_30 (.cons rfl rfl rfl .nil) rfl (by decide)) ?_
      -- append 29
      refine AOps.append rfl rfl rfl rfl et_30 rfl (.head _) rfl (fun y hy => by obtain rfl := List.mem_singleton.1 hy; rfl) (by have := pick_tlen (usesB · id) c.things k; simp; omega) (by have := pick_tlen (usesB · id) c.things k; simp; omega) ?_
      refine AOps.step rfl rfl rfl (AOp.assignO rfl rfl) ?_
      refine AOps.nil ?_
      refine AWP.region ?_
      refine AOps.step rfl rfl rfl (AOp.add64 rfl rfl rfl (by omega) (by omega)) ?_
      refine AOps.step rfl rfl rfl (AOp.moveD rfl rfl) ?_
      refine AOps.nil ?_
      refine ⟨k + 1, (by omega), (by dsimp only; omega), Sub.less ⟨(SLe.of_eq rfl), SLe.refl _, SLe.refl _, SLe.refl _, SLe.refl _, SLe.refl _, trivial⟩ (row_same (by first | (rw [pick_y hlt HU, List.map_append]; rfl) | rw [pick_n hlt HU]))⟩
    · replace g2 := of_decide_eq_false g2
      have hnu := g2
      refine AOps.step ⟨19, rfl, .inl ⟨_, rfl, rfl⟩⟩ rfl rfl (AOp.fieldAddr rfl fo_46_6 rfl) ?_
      refine AOps.step ⟨19, rfl, .inl ⟨_, rfl, rfl⟩⟩ rfl rfl (AOp.load rfl sc_30 rfl) ?_
      refine AOps.step ⟨19, rfl, .inl ⟨_, rfl, rfl⟩⟩ rfl rfl (AOp.moveD rfl rfl) ?_
      refine AOps.step ⟨19, rfl, .inl ⟨_, rfl, rfl⟩⟩ rfl rfl (AOp.call rfl (.cons (ArgOk.rfl' rfl) (.cons (ArgOk.rfl' rfl) .nil)) (c_containsInt _ _)) ?_
      refine AOps.step rfl rfl rfl (AOp.pickF rfl rfl rfl) ?_
      refine AOps.nil ?_
      refine AWP.cond rfl (fun h3 => ?_) (fun h3 => ?_)
      · replace h3 := of_decide_eq_true h3
        have HU : usesB c.things[k] id = true := by rw [uses_b hnu]; exact decide_eq_true h3
        refine AWP.region ?_
        refine AOps.step rfl rfl rfl (AOp.moveO rfl rfl) ?_
        refine AOps.step rfl rfl rfl (AOp.fieldAddr rfl fo_46_0 rfl) ?_
        refine AOps.step rfl rfl rfl (AOp.load rfl sc_3 rfl) ?_
        refine AOps.step rfl rfl rfl (AOp.buildSlice rfl et_30 (.cons rfl rfl rfl .nil) rfl (by decide)) ?_
        -- append 29
        refine AOps.append rfl rfl rfl rfl et_30 rfl (.head _) rfl (fun y hy => by obtain rfl := List.mem_singleton.1 hy; rfl) (by have := pick_tlen (usesB · id) c.things k; simp; omega) (by have := pick_tlen (usesB · id) c.things k; simp; omega) ?_
        refine AOps.step rfl rfl rfl (AOp.assignO rfl rfl) ?_
        refine AOps.nil ?_
        refine AWP.region ?_
        refine AOps.step rfl rfl rfl (AOp.add64 rfl rfl rfl (by omega) (by omega)) ?_
        refine AOps.step rfl rfl rfl (AOp.moveD rfl rfl) ?_
        refine AOps.nil ?_
        refine ⟨k + 1, (by omega), (by dsimp only; omega), Sub.less ⟨(SLe.of_eq rfl), SLe.refl _, SLe.refl _, SLe.refl _, SLe.refl _, SLe.refl _, trivial⟩ (row_same (by first | (rw [pick_y hlt HU, List.map_append]; rfl) | rw [pick_n hlt HU]))⟩
      · replace h3 := of_decide_eq_false h3
        have HU : usesB c.things[k] id = false := by rw [uses_b hnu]; exact decide_eq_false h3
        refine AWP.skip ?_
        refine AWP.region ?_
        refine AOps.step rfl rfl rfl (AOp.add64 rfl rfl rfl (by omega) (by omega)) ?_
        refine AOps.step rfl rfl rfl (AOp.moveD rfl rfl) ?_
        refine AOps.nil ?_
        refine ⟨k + 1, (by omega), (by dsimp only; omega), Sub.less ⟨(SLe.of_eq rfl), SLe.refl _, SLe.refl _, SLe.refl _, SLe.refl _, SLe.refl _, trivial⟩ (row_same (by first | (rw [pick_y hlt HU, List.map_append]; rfl) | rw [pick_n hlt HU]))⟩
  · replace h1 := of_decide_eq_false h1
    rw [List.length_map] at h1
    obtain rfl : k = c.things.length := by omega
    rw [List.take_length]
    refine AWP.exit ?_
    refine AWP.seq ?_
    refine AWP.region ?_
    refine AOps.step rfl rfl rfl (AOp.moveO rfl rfl) ?_
    refine AOps.step rfl rfl rfl (AOp.assignO rfl rfl) ?_
    refine AOps.nil ?_
    refine AWP.ret ?_
    refine ⟨RetD.own rfl (.head _) ?_, trivial⟩
    all_goals (rfl)

set_option maxRecDepth 100000 in
set_option maxHeartbeats 1000000 in
theorem c_rUses (c : Ctl) (id : Int) (hc : CtlOk c) : ACallT Tryd.prog MaxT 9 [.agg c.ds, .v (.int .i64 id)] (.tup [.sl ((useV c id).map intD), .v (.int .i64 (useF c id))]) := by
  refine acall_ofT (n := 25) (ds' := [.sl ((useV c id).map intD), .v (.int .i64 (useF c id))]) Tryd.func9 rfl (by kernel_rfl) rfl [4, 5] rfl rfl ?_
  intro B w0 F0 hT
  refine AWP.seq ?_
  refine AWP.region ?_
  refine AOps.step rfl rfl rfl (AOp.box rfl rfl rfl) ?_
  refine AOps.step rfl rfl rfl (AOp.assignD rfl rfl) ?_
  refine AOps.step rfl rfl rfl (AOp.assignD rfl rfl) ?_
  refine AOps.nil ?_
  refine AWP.seq ?_
  refine AWP.seq ?_
  refine AWP.region ?_
  refine AOps.step rfl rfl rfl (AOp.loadAgg rfl ag_25 rfl rfl) ?_
  -- wants the world
  refine AOps.callT rfl rfl rfl hT maxT_stays rfl (.cons (ArgOk.rfl' rfl) .nil) (c_rChk c hc) ?_
  refine AOps.step rfl rfl rfl (AOp.assignD rfl rfl) ?_
  refine AOps.nil ?_
  refine AWP.seq ?_
  refine AWP.region ?_
  refine AOps.step rfl rfl rfl (AOp.moveD rfl rfl) ?_
  refine AOps.step rfl rfl rfl (AOp.neq rfl rfl rfl) ?_
  refine AOps.nil ?_
  refine AWP.cond rfl (fun h1 => ?_) (fun h1 => ?_)
  · replace h1 := of_decide_eq_true h1
    obtain ⟨E1, E2⟩ := use_1 id h1
    rw [E1, E2]
    refine AWP.seq ?_
    refine AWP.region ?_
    refine AOps.step rfl rfl rfl (AOp.moveD rfl rfl) ?_
    refine AOps.step rfl rfl rfl (AOp.assignD rfl rfl) ?_
    refine AOps.step rfl rfl rfl (AOp.assignD rfl rfl) ?_
    refine AOps.nil ?_
    refine AWP.ret ?_
    refine ⟨RetD.nil rfl, RetD.eq rfl ?_, trivial⟩
    all_goals (rfl)
  · replace h1 := of_decide_eq_false h1
    have hz := h1
    have HC := catOk (c := c) (by omega)
    have hl := HC.lim
    have hl1 := hl.1
    have hl2 := hl.2
    have hr := HC.ris
    refine AWP.skip ?_
    refine AWP.seq ?_
    refine AWP.seq ?_
    refine AWP.region ?_
    refine AOps.step rfl rfl rfl (AOp.loadAgg rfl ag_25 rfl rfl) ?_
    refine AOps.step rfl rfl rfl (AOp.moveD rfl rfl) ?_
    refine AOps.step rfl rfl rfl (AOp.call rfl (.cons (ArgOk.rfl' rfl) (.cons (ArgOk.rfl' rfl) .nil)) (c_thing c id hl)) ?_
    refine AOps.step rfl rfl rfl (AOp.moveD rfl rfl) ?_
    refine AOps.step rfl rfl rfl (AOp.extract rfl rfl rfl) ?_
    refine AOps.step rfl rfl rfl (AOp.extract rfl rfl rfl) ?_
    refine AOps.alloc 101 rfl rfl rfl rfl zt_46 rfl rfl rfl ?_
    refine AOps.store rfl rfl rfl sz_46 rfl (.head _) rfl rfl rfl (Nat.le_of_ble_eq_true rfl) ?_
    refine AOps.freezeCells 7 (ds := (getT c.things id).ds) rfl (.head _) ?_
    refine AOps.step rfl rfl rfl (AOp.assignD rfl rfl) ?_
    refine AOps.nil ?_
    refine AWP.seq ?_
    refine AWP.region ?_
    refine AOps.step rfl rfl rfl (AOp.moveD rfl rfl) ?_
    refine AOps.step rfl rfl rfl (AOp.not rfl rfl) ?_
    refine AOps.nil ?_
    refine AWP.cond rfl (fun h2 => ?_) (fun h2 => ?_)
    · replace h2 := bnot_t h2
      obtain ⟨E1, E2⟩ := use_2 hz h2
      rw [E1, E2]
      refine AWP.seq ?_
      refine AWP.region ?_
      refine AOps.step rfl rfl rfl (AOp.assignD rfl rfl) ?_
      refine AOps.step rfl rfl rfl (AOp.assignD rfl rfl) ?_
      refine AOps.nil ?_
      refine AWP.ret ?_
      refine ⟨RetD.nil rfl, RetD.eq rfl ?_, trivial⟩
      all_goals (rfl)
    · replace h2 := bnot_f h2
      have hth := h2
      obtain ⟨E1, E2⟩ := use_3 hz h2
      rw [E1, E2]
      refine AWP.skip ?_
      refine AWP.seq ?_
      refine AWP.region ?_
      refine AOps.step rfl rfl rfl (AOp.loadAgg rfl ag_25 rfl rfl) ?_
      refine AOps.step rfl rfl rfl (AOp.moveD rfl rfl) ?_
      refine AOps.step rfl rfl rfl (AOp.call rfl (.cons (ArgOk.rfl' rfl) (.cons (ArgOk.rfl' rfl) .nil)) (c_users c id hc hl)) ?_
      refine AOps.step rfl rfl rfl (AOp.assignD rfl rfl) ?_
      refine AOps.step rfl rfl rfl (AOp.assignD rfl rfl) ?_
      refine AOps.nil ?_
      refine AWP.ret ?_
      refine ⟨RetD.eq rfl ?_, RetD.eq rfl ?_, trivial⟩
      all_goals (rfl)

set_option maxRecDepth 100000 in
set_option maxHeartbeats 1000000 in
theorem c_pOnce (l : List Int) (hl : l.length ≤ 300) : ACall Tryd.prog 27 [.sl (l.map intD)] (.sl ((onceL l).map intD)) := by
  refine acall_of (n := 22) (ds' := [.sl ((onceL l).map intD)]) Tryd.func27 rfl (by kernel_rfl) rfl [2] rfl rfl ?_
  intro B w0 F0 fr
  refine AWP.seq ?_
  refine AWP.region ?_
  refine AOps.step rfl rfl rfl (AOp.assignD rfl rfl) ?_
  refine AOps.nil ?_
  refine AWP.seq ?_
  refine AWP.region ?_
  refine AOps.step rfl rfl rfl (AOp.assignD rfl rfl) ?_
  refine AOps.nil ?_
  refine AWP.seq ?_
  refine AWP.seq ?_
  refine AWP.region ?_
  refine AOps.step rfl rfl rfl (AOp.moveD rfl rfl) ?_
  refine AOps.step rfl rfl rfl (AOp.lenSl rfl et_30.ht rfl) ?_
  refine AOps.step rfl rfl rfl (AOp.moveD rfl rfl) ?_
  refine AOps.nil ?_
  refine AWP.block ?_
  refine AWP.adopt 3 1 3 1 rfl rfl ?_
  refine AWP.loop (G := Nat) (fun k => Env.of [(8, .d (.v (.int .i64 (k : Int)))), (6, .d (.sl (l.map intD))), (7, .d (.v (.int .i64 ((l.map intD).length : Int)))), (3, .own 1)]) (fun k => [(1, .row 3 1 ((onceL (l.take k)).map intD))]) (fun k => k ≤ l.length) (fun k => l.length - k) 0 (Nat.zero_le _) (Sub.less ⟨(SLe.of_eq rfl), SLe.refl _, SLe.refl _, SLe.refl _, trivial⟩ (row_same rfl)) ?_
  intro k hk
  refine AWP.seq ?_
  refine AWP.region ?_
  refine AOps.step rfl rfl rfl (AOp.lss rfl rfl rfl) ?_
  refine AOps.nil ?_
  refine AWP.seq ?_
  refine AWP.cond rfl (fun h1 => ?_) (fun h1 => ?_)
  · replace h1 := of_decide_eq_true h1
    rw [List.length_map] at h1
    have hlt : k < l.length := by omega
    refine AWP.skip ?_
    refine AWP.seq ?_
    refine AWP.block ?_
    refine AWP.seq ?_
    refine AWP.region ?_
    refine AOps.step rfl rfl rfl (AOp.indexAddr rfl et_30 rfl rfl k rfl (at_lst hlt) rfl) ?_
    refine AOps.step rfl rfl rfl (AOp.load rfl sc_3 rfl) ?_
    refine AOps.step rfl rfl rfl (AOp.assignD rfl rfl) ?_
    refine AOps.nil ?_
    refine AWP.seq ?_
    refine AWP.region ?_
    refine AOps.step rfl rfl rfl (AOp.moveO rfl rfl) ?_
    refine AOps.step rfl rfl rfl (AOp.moveD rfl rfl) ?_
    refine AOps.step rfl rfl rfl (AOp.callV rfl (.cons (.own rfl (.head _)) (.cons (.d rfl) .nil)) (c_containsInt _ _)) ?_
    refine AOps.step rfl rfl rfl (AOp.not rfl rfl) ?_
    refine AOps.nil ?_
    refine AWP.cond rfl (fun h2 => ?_) (fun h2 => ?_)
    · replace h2 := bnot_t h2; replace h2 := of_decide_eq_false h2
      have HU := once_n hlt (by first | exact h2 | exact of_decide_eq_false h2)
      refine AWP.region ?_
      refine AOps.step rfl rfl rfl (AOp.moveO rfl rfl) ?_
      refine AOps.step rfl rfl rfl (AOp.moveD rfl rfl) ?_
      refine AOps.step rfl rfl rfl (AOp.buildSlice rfl et_30 (.cons rfl rfl rfl .nil) rfl (by decide)) ?_
      -- append 19
      refine AOps.append rfl rfl rfl rfl et_30 rfl (.head _) rfl (fun y hy => by obtain rfl := List.mem_singleton.1 hy; rfl) (by have := once_len k l (by omega); simp; omega) (by have := once_len k l (by omega); simp; omega) ?_
      refine AOps.step rfl rfl rfl (AOp.assignO rfl rfl) ?_
      refine AOps.nil ?_
      refine AWP.region ?_
      refine AOps.step rfl rfl rfl (AOp.add64 rfl rfl rfl (by omega) (by omega)) ?_
      refine AOps.step rfl rfl rfl (AOp.moveD rfl rfl) ?_
      refine AOps.nil ?_
      refine ⟨k + 1, (by omega), (by dsimp only; omega), Sub.less ⟨(SLe.of_eq rfl), SLe.refl _, SLe.refl _, SLe.refl _, trivial⟩ (row_same (by first | (rw [HU, List.map_append]; rfl) | rw [HU]))⟩
    · replace h2 := bnot_f h2; replace h2 := of_decide_eq_true h2
      have HU := once_y hlt (by first | exact h2 | exact of_decide_eq_true h2)
      refine AWP.skip ?_
      refine AWP.region ?_
      refine AOps.step rfl rfl rfl (AOp.add64 rfl rfl rfl (by omega) (by omega)) ?_
      refine AOps.step rfl rfl rfl (AOp.moveD rfl rfl) ?_
      refine AOps.nil ?_
      refine ⟨k + 1, (by omega), (by dsimp only; omega), Sub.less ⟨(SLe.of_eq rfl), SLe.refl _, SLe.refl _, SLe.refl _, trivial⟩ (row_same (by first | (rw [HU, List.map_append]; rfl) | rw [HU]))⟩
  · replace h1 := of_decide_eq_false h1
    rw [List.length_map] at h1
    obtain rfl : k = l.length := by omega
    rw [List.take_length]
    refine AWP.exit ?_
    refine AWP.seq ?_
    refine AWP.region ?_
    refine AOps.step rfl rfl rfl (AOp.moveO rfl rfl) ?_
    refine AOps.step rfl rfl rfl (AOp.assignO rfl rfl) ?_
    refine AOps.nil ?_
    refine AWP.ret ?_
    refine ⟨RetD.own rfl (.head _) ?_, trivial⟩
    all_goals (rfl)

set_option maxRecDepth 100000 in
set_option maxHeartbeats 1000000 in
theorem c_rOnce (l : List Int) (hl : l.length ≤ 300) : ACall Tryd.prog 29 [.sl (l.map intD)] (.sl ((onceL l).map intD)) := by
  refine acall_of (n := 22) (ds' := [.sl ((onceL l).map intD)]) Tryd.func29 rfl (by kernel_rfl) rfl [2] rfl rfl ?_
  intro B w0 F0 fr
  refine AWP.seq ?_
  refine AWP.region ?_
  refine AOps.step rfl rfl rfl (AOp.assignD rfl rfl) ?_
  refine AOps.nil ?_
  refine AWP.seq ?_
  refine AWP.region ?_
  refine AOps.step rfl rfl rfl (AOp.assignD rfl rfl) ?_
  refine AOps.nil ?_
  refine AWP.seq ?_
  refine AWP.seq ?_
  refine AWP.region ?_
  refine AOps.step rfl rfl rfl (AOp.moveD rfl rfl) ?_
  refine AOps.step rfl rfl rfl (AOp.lenSl rfl et_30.ht rfl) ?_
  refine AOps.step rfl rfl rfl (AOp.moveD rfl rfl) ?_
  refine AOps.nil ?_
  refine AWP.block ?_
  refine AWP.adopt 3 1 3 1 rfl rfl ?_
  refine AWP.loop (G := Nat) (fun k => Env.of [(8, .d (.v (.int .i64 (k : Int)))), (6, .d (.sl (l.map intD))), (7, .d (.v (.int .i64 ((l.map intD).length : Int)))), (3, .own 1)]) (fun k => [(1, .row 3 1 ((onceL (l.take k)).map intD))]) (fun k => k ≤ l.length) (fun k => l.length - k) 0 (Nat.zero_le _) (Sub.less ⟨(SLe.of_eq rfl), SLe.refl _, SLe.refl _, SLe.refl _, trivial⟩ (row_same rfl)) ?_
  intro k hk
  refine AWP.seq ?_
  refine AWP.region ?_
  refine AOps.step rfl rfl rfl (AOp.lss rfl rfl rfl) ?_
  refine AOps.nil ?_
  refine AWP.seq ?_
  refine AWP.cond rfl (fun h1 => ?_) (fun h1 => ?_)
  · replace h1 := of_decide_eq_true h1
    rw [List.length_map] at h1
    have hlt : k < l.length := by omega
    refine AWP.skip ?_
    refine AWP.seq ?_
    refine AWP.block ?_
    refine AWP.seq ?_
    refine AWP.region ?_
    refine AOps.step rfl rfl rfl (AOp.indexAddr rfl et_30 rfl rfl k rfl (at_lst hlt) rfl) ?_
    refine AOps.step rfl rfl rfl (AOp.load rfl sc_3 rfl) ?_
    refine AOps.step rfl rfl rfl (AOp.assignD rfl rfl) ?_
    refine AOps.nil ?_
    refine AWP.seq ?_
    refine AWP.region ?_
    refine AOps.step rfl rfl rfl (AOp.moveO rfl rfl) ?_
    refine AOps.step rfl rfl rfl (AOp.moveD rfl rfl) ?_
    refine AOps.step rfl rfl rfl (AOp.callV rfl (.cons (.own rfl (.head _)) (.cons (.d rfl) .nil)) (c_containsInt _ _)) ?_
    refine AOps.step rfl rfl rfl (AOp.not rfl rfl) ?_
    refine AOps.nil ?_
    refine AWP.cond rfl (fun h2 => ?_) (fun h2 => ?_)
    · replace h2 := bnot_t h2; replace h2 := of_decide_eq_false h2
      have HU := once_n hlt (by first | exact h2 | exact of_decide_eq_false h2)
      refine AWP.region ?_
      refine AOps.step rfl rfl rfl (AOp.moveO rfl rfl) ?_
      refine AOps.step rfl rfl rfl (AOp.moveD rfl rfl) ?_
      refine AOps.step rfl rfl rfl (AOp.buildSlice rfl et_30 (.cons rfl rfl rfl .nil) rfl (by decide)) ?_
      -- append 19
      refine AOps.append rfl rfl rfl rfl et_30 rfl (.head _) rfl (fun y hy => by obtain rfl := List.mem_singleton.1 hy; rfl) (by have := once_len k l (by omega); simp; omega) (by have := once_len k l (by omega); simp; omega) ?_
      refine AOps.step rfl rfl rfl (AOp.assignO rfl rfl) ?_
      refine AOps.nil ?_
      refine AWP.region ?_
      refine AOps.step rfl rfl rfl (AOp.add64 rfl rfl rfl (by omega) (by omega)) ?_
      refine AOps.step rfl rfl rfl (AOp.moveD rfl rfl) ?_
      refine AOps.nil ?_
      refine ⟨k + 1, (by omega), (by dsimp only; omega), Sub.less ⟨(SLe.of_eq rfl), SLe.refl _, SLe.refl _, SLe.refl _, trivial⟩ (row_same (by first | (rw [HU, List.map_append]; rfl) | rw [HU]))⟩
    · replace h2 := bnot_f h2; replace h2 := of_decide_eq_true h2
      have HU := once_y hlt (by first | exact h2 | exact of_decide_eq_true h2)
      refine AWP.skip ?_
      refine AWP.region ?_
      refine AOps.step rfl rfl rfl (AOp.add64 rfl rfl rfl (by omega) (by omega)) ?_
      refine AOps.step rfl rfl rfl (AOp.moveD rfl rfl) ?_
      refine AOps.nil ?_
      refine ⟨k + 1, (by omega), (by dsimp only; omega), Sub.less ⟨(SLe.of_eq rfl), SLe.refl _, SLe.refl _, SLe.refl _, trivial⟩ (row_same (by first | (rw [HU, List.map_append]; rfl) | rw [HU]))⟩
  · replace h1 := of_decide_eq_false h1
    rw [List.length_map] at h1
    obtain rfl : k = l.length := by omega
    rw [List.take_length]
    refine AWP.exit ?_
    refine AWP.seq ?_
    refine AWP.region ?_
    refine AOps.step rfl rfl rfl (AOp.moveO rfl rfl) ?_
    refine AOps.step rfl rfl rfl (AOp.assignO rfl rfl) ?_
    refine AOps.nil ?_
    refine AWP.ret ?_
    refine ⟨RetD.own rfl (.head _) ?_, trivial⟩
    all_goals (rfl)

end Go.Proofs.YtfjnbgldlnanhaaDoor


namespace Go.Proofs.YtfjnbgldlnanhaaDoor
open Go.RowKit
set_option linter.unusedVariables false

/-! Types. -/
namespace TyKI
theorem ag_25 : AggT Tryd.prog 25 2 := .of (by kernel_rfl)
theorem ag_46 : AggT Tryd.prog 46 7 := .of (by kernel_rfl)
theorem et_22 : ElemTy Tryd.prog 22 46 7 88 (.agg #[(.int .i64 0), (.int .i64 0), (.string ⟨#[]⟩), (.string ⟨#[]⟩), (.int .i64 0), (.int .i64 0), (.slice none 0 0)]) := ⟨by kernel_rfl, by kernel_rfl, by kernel_rfl, by decide⟩
theorem et_30 : ElemTy Tryd.prog 30 3 1 8 (.int .i64 0) := ⟨by kernel_rfl, by kernel_rfl, by kernel_rfl, by decide⟩
theorem fo_25_0 : fieldOff Tryd.prog 25 0 = some 0 := by kernel_rfl
theorem fo_46_0 : fieldOff Tryd.prog 46 0 = some 0 := by kernel_rfl
theorem fo_46_1 : fieldOff Tryd.prog 46 1 = some 1 := by kernel_rfl
theorem fo_46_5 : fieldOff Tryd.prog 46 5 = some 5 := by kernel_rfl
theorem fo_46_6 : fieldOff Tryd.prog 46 6 = some 6 := by kernel_rfl
theorem fv_46_5 : fieldB Tryd.prog 46 5 5 = true := by kernel_rfl
theorem fv_46_6 : fieldB Tryd.prog 46 6 6 = true := by kernel_rfl
theorem sc_22 : Scal Tryd.prog 22 := .of (by kernel_rfl)
theorem sc_3 : Scal Tryd.prog 3 := .of (by kernel_rfl)
theorem sc_30 : Scal Tryd.prog 30 := .of (by kernel_rfl)
theorem sz_46 : ∀ w, (sizeOf 46).run Tryd.prog w = .ok 7 w := SizeT.of (by kernel_rfl)
theorem zt_46 : (Tryd.prog.info? 46).bind (·.zero) = some (.agg #[(.int .i64 0), (.int .i64 0), (.string ⟨#[]⟩), (.string ⟨#[]⟩), (.int .i64 0), (.int .i64 0), (.slice none 0 0)]) := by kernel_rfl
end TyKI
open TyKI


/-! ## No thing comes back to itself: the way up ends -/
theorem link_0 {l : List Thg} {t : Thg} (h : linkF l t = 0) : (¬ t.parent = 0 → thereB l t.parent = true) ∧ loopB l t = false := by
  unfold linkF at h
  by_cases h1 : parF l t ≠ 0
  · rw [if_pos h1] at h; exact absurd h h1
  rw [if_neg h1] at h
  by_cases h2 : ffst (ptF l t) t.parts.length ≠ 0
  · rw [if_pos h2] at h; exact absurd h h2
  rw [if_neg h2] at h
  refine ⟨fun hp => ?_, ?_⟩
  · cases hq : thereB l t.parent with
    | true => rfl
    | false => exact absurd (par_9 hp hq) (by omega)
  · cases hq : loopB l t with
    | false => rfl
    | true => rw [hq, if_pos rfl] at h; omega
theorem upN_zero {l : List Thg} (hr : RisT l) {a : Int} {k : Nat} (h : upN l a k = 0) : ∀ j, k ≤ j → upN l a j = 0
  | 0, hj => by obtain rfl : k = 0 := by omega
                exact h
  | j + 1, hj => by
    by_cases he : k = j + 1
    · subst he; exact h
    · rw [upN_next, upN_zero hr h j (by omega), getT_no hr.zero]; rfl
theorem up_shift (l : List Thg) (x : Thg) (i : Nat) : ∀ m, upN l (atN l x i).parent m = upN l x.parent (i + m)
  | 0 => (up_at l x i).symm
  | m + 1 => by rw [upN_next, up_shift l x i m]; rfl
/-- The numbers on the way up. -/
def sN (l : List Thg) (x : Thg) : Nat → Int
  | 0 => x.id
  | j + 1 => upN l x.parent j
theorem nd_sub : ∀ (s l : List Int), s.Nodup → (∀ x ∈ s, x ∈ l) → s.length ≤ l.length
  | [], _, _, _ => Nat.zero_le _
  | x :: s, l, hn, h => by
    obtain ⟨h1, h2⟩ := List.nodup_cons.1 hn
    have hx := h x List.mem_cons_self
    have ih := nd_sub s (l.erase x) h2 fun y hy => (List.mem_erase_of_ne (fun e => h1 (by rw [← e]; exact hy))).2 (h y (List.mem_cons_of_mem _ hy))
    rw [List.length_erase_of_mem hx] at ih
    have : 0 < l.length := List.length_pos_of_mem hx
    simp only [List.length_cons]
    omega
theorem at_mem {c : Ctl} (hc : CatOk c) {x : Thg} (hx : x ∈ c.things) {n : Nat} (h : ∀ j, j < n → upN c.things x.parent j ≠ 0) : ∀ i, i ≤ n → atN c.things x i ∈ c.things ∧ (atN c.things x i).id = sN c.things x i
  | 0, _ => ⟨hx, rfl⟩
  | i + 1, hi => by
    have ih := at_mem hc hx h i (by omega)
    obtain ⟨k, hk, he⟩ := List.mem_iff_getElem.1 ih.1
    have h1 := (link_0 (hc.lk k hk)).1
    rw [he] at h1
    have h2 := h i (by omega)
    rw [up_at] at h2
    have h3 := getT_id (h1 h2)
    exact ⟨h3.2, by show (getT c.things (atN c.things x i).parent).id = upN c.things x.parent i; rw [h3.1, up_at]⟩
theorem steps_end {c : Ctl} (hc : CatOk c) {x : Thg} (hx : x ∈ c.things) {k : Nat} (h : upN c.things x.parent k ≠ 0) : k < c.things.length := by
  rcases Nat.lt_or_ge k c.things.length with hk | hk
  · exact hk
  · exfalso
    have hn : ∀ j, j < c.things.length → upN c.things x.parent j ≠ 0 := fun j hj he => h (upN_zero hc.ris he k (by omega))
    have hA := at_mem hc hx hn
    have hnd : ((List.range (c.things.length + 1)).map (sN c.things x)).Nodup := by
      unfold List.Nodup
      rw [List.pairwise_map, List.pairwise_iff_getElem]
      intro i j hi hj hij he
      rw [List.getElem_range, List.getElem_range] at he
      rw [List.length_range] at hi hj
      have hA1 := hA i (by omega)
      obtain ⟨q, hq, hqe⟩ := List.mem_iff_getElem.1 hA1.1
      have h1 := (link_0 (hc.lk q hq)).2
      rw [hqe] at h1
      rw [loop_yes (k := j - 1 - i) (by omega) (by
        rw [up_shift, hA1.2, he]
        obtain ⟨m, rfl⟩ : ∃ m, j = m + 1 := ⟨j - 1, by omega⟩
        show upN c.things x.parent (i + (m + 1 - 1 - i)) = upN c.things x.parent m
        congr 1; omega)] at h1
      cases h1
    have := nd_sub _ (c.things.map (·.id)) hnd fun y hy => by
      obtain ⟨i, hi, rfl⟩ := List.mem_map.1 hy
      have hA1 := hA i (by have := List.mem_range.1 hi; omega)
      rw [← hA1.2]
      exact List.mem_map_of_mem hA1.1
    simp at this
    omega
/-! ## What is made of a work -/
def madeB (l : List Thg) (x : Thg) (id : Int) : Bool := (List.range l.length).any fun k => decide (upN l x.parent k = id)
theorem made_y {l : List Thg} {x : Thg} {id : Int} {k : Nat} (hk : k < l.length) (h : upN l x.parent k = id) : madeB l x id = true := List.any_eq_true.2 ⟨k, List.mem_range.2 hk, decide_eq_true h⟩
theorem made_n {l : List Thg} {x : Thg} {id : Int} (h : ∀ j, j < l.length → upN l x.parent j ≠ id) : madeB l x id = false := by
  rw [Bool.eq_false_iff]
  intro hh
  obtain ⟨k, hk, h2⟩ := List.any_eq_true.1 hh
  exact h k (List.mem_range.1 hk) (of_decide_eq_true h2)
theorem made_z {l : List Thg} (hr : RisT l) {x : Thg} {id : Int} (h1 : 1 ≤ id) {k : Nat} (h : ∀ j, j < k → upN l x.parent j ≠ id) (hz : upN l x.parent k = 0) : madeB l x id = false := made_n fun j _ => by
  by_cases hj : j < k
  · exact h j hj
  · rw [upN_zero hr hz j (by omega)]; omega
theorem made_g {l : List Thg} (hr : RisT l) {x : Thg} {id : Int} (h1 : 1 ≤ id) {k : Nat} (h : ∀ j, j < k + 1 → upN l x.parent j ≠ id) (hz : thereB l (upN l x.parent k) = false) : madeB l x id = false := made_n fun j _ => by
  by_cases hj : j < k + 1
  · exact h j hj
  · rw [upN_gone hr hz j (by omega)]; omega
theorem md_next {l : List Thg} {x : Thg} {id : Int} {k : Nat} (h : ∀ j, j < k → upN l x.parent j ≠ id) (h2 : ¬ upN l x.parent k = id) : ∀ j, j < k + 1 → upN l x.parent j ≠ id := fun j hj => by
  by_cases he : j = k
  · subst he; exact h2
  · exact h j (by omega)
def recB (l : List Thg) (id : Int) (x : Thg) : Bool := decide (x.kind = 2) && madeB l x id
theorem rec_k {l : List Thg} {id : Int} {x : Thg} (h : ¬ x.kind = 2) : recB l id x = false := by unfold recB; rw [decide_eq_false h]; rfl
theorem rec_m {l : List Thg} {id : Int} {x : Thg} (h : x.kind = 2) {b : Bool} (h2 : madeB l x id = b) : recB l id x = b := by unfold recB; rw [decide_eq_true h, h2]; rfl
/-- The recordings within what is there. -/
def inL (l : List Thg) (id : Int) : List Int :=
  if (getT l id).kind = 2 then [id]
  else if (getT l id).kind = 1 then pickL (recB l id) l
  else if (getT l id).kind = 4 ∧ (getT l id).parts.length = 0 then onceL (getT l (getT l id).parent).parts
  else onceL (getT l id).parts
def inV (c : Ctl) (id : Int) : List Int := if chkF c ≠ 0 then [] else if thereB c.things id = true then inL c.things id else []
theorem in_1 {c : Ctl} (id : Int) (h : chkF c ≠ 0) : useF c id = chkF c ∧ inV c id = [] := ⟨if_pos h, if_pos h⟩
theorem in_2 {c : Ctl} {id : Int} (h : ¬ chkF c ≠ 0) (h2 : thereB c.things id = false) : useF c id = 9 ∧ inV c id = [] := by
  unfold useF inV
  rw [if_neg h, if_neg h, if_neg (by rw [h2]; decide), if_neg (by rw [h2]; decide)]
  exact ⟨rfl, rfl⟩
theorem in_3 {c : Ctl} {id : Int} (h : ¬ chkF c ≠ 0) (h2 : thereB c.things id = true) : useF c id = 0 ∧ inV c id = inL c.things id := by
  unfold useF inV
  rw [if_neg h, if_neg h, if_pos h2, if_pos h2]
  exact ⟨rfl, rfl⟩
theorem thg_kind {x : Thg} (h : thgF x = 0) : 1 ≤ x.kind ∧ x.kind ≤ 4 := by
  unfold thgF at h
  by_cases h1 : kindB x.kind = false
  · rw [if_pos h1] at h; omega
  · have : kindB x.kind = true := by simpa using h1
    unfold kindB at this
    rw [Bool.and_eq_true] at this
    exact ⟨of_decide_eq_true this.1, of_decide_eq_true this.2⟩
theorem CatOk.get {c : Ctl} (hc : CatOk c) {id : Int} (h : thereB c.things id = true) : thgF (getT c.things id) = 0 := by
  obtain ⟨k, hk, he⟩ := List.mem_iff_getElem.1 (getT_id h).2
  rw [← he]; exact hc.th k hk
theorem CatOk.parts {c : Ctl} (hc : CatOk c) (id : Int) : (getT c.things id).parts.length ≤ 50 := by
  cases h : thereB c.things id with
  | true => exact thg_parts (hc.get h)
  | false => rw [getT_no h]; decide
theorem CatOk.id1 {c : Ctl} (hc : CatOk c) {id : Int} (h : thereB c.things id = true) : 1 ≤ id := by
  have h1 := getT_id h
  have := hc.ris.rng _ h1.2
  omega
theorem in_a {l : List Thg} {id : Int} (h : (getT l id).kind = 2) : inL l id = [id] := if_pos h
theorem in_b {l : List Thg} {id : Int} (h : (getT l id).kind = 1) : inL l id = pickL (recB l id) l := by unfold inL; rw [if_neg (by omega), if_pos h]
theorem in_c {l : List Thg} {id : Int} (h : (getT l id).kind = 4) (h2 : (getT l id).parts.length = 0) : inL l id = onceL (getT l (getT l id).parent).parts := by unfold inL; rw [if_neg (by omega), if_neg (by omega), if_pos ⟨h, h2⟩]
theorem in_d {l : List Thg} {id : Int} (h : 3 ≤ (getT l id).kind) (h2 : ¬ ((getT l id).kind = 4 ∧ (getT l id).parts.length = 0)) : inL l id = onceL (getT l id).parts := by unfold inL; rw [if_neg (by omega), if_neg (by omega), if_neg h2]


set_option maxRecDepth 100000 in
set_option maxHeartbeats 1000000 in
theorem c_pIn (c : Ctl) (id : Int) (hc : CtlOk c) (hi : i64 id) : ACallT Tryd.prog MaxT 11 [.agg c.ds, .v (.int .i64 id)] (.tup [.sl ((inV c id).map intD), .v (.int .i64 (useF c id))]) := by
  refine acall_ofT (n := 83) (ds' := [.sl ((inV c id).map intD), .v (.int .i64 (useF c id))]) Tryd.func11 rfl (by kernel_rfl) rfl [4, 5] rfl rfl ?_
  intro B w0 F0 hT
  refine AWP.seq ?_
  refine AWP.region ?_
  refine AOps.step rfl rfl rfl (AOp.box rfl rfl rfl) ?_
  refine AOps.step rfl rfl rfl (AOp.assignD rfl rfl) ?_
  refine AOps.step rfl rfl rfl (AOp.assignD rfl rfl) ?_
  refine AOps.nil ?_
  refine AWP.seq ?_
  refine AWP.seq ?_
  refine AWP.region ?_
  refine AOps.step rfl rfl rfl (AOp.loadAgg rfl ag_25 rfl rfl) ?_
  -- wants the world
  refine AOps.callT rfl rfl rfl hT maxT_stays rfl (.cons (ArgOk.rfl' rfl) .nil) (c_pChk c hc) ?_
  refine AOps.step rfl rfl rfl (AOp.assignD rfl rfl) ?_
  refine AOps.nil ?_
  refine AWP.seq ?_
  refine AWP.region ?_
  refine AOps.step rfl rfl rfl (AOp.moveD rfl rfl) ?_
  refine AOps.step rfl rfl rfl (AOp.neq rfl rfl rfl) ?_
  refine AOps.nil ?_
  refine AWP.cond rfl (fun h1 => ?_) (fun h1 => ?_)
  · replace h1 := of_decide_eq_true h1
    obtain ⟨E1, E2⟩ := in_1 id h1
    rw [E1, E2]
    refine AWP.seq ?_
    refine AWP.region ?_
    refine AOps.step rfl rfl rfl (AOp.moveD rfl rfl) ?_
    refine AOps.step rfl rfl rfl (AOp.assignD rfl rfl) ?_
    refine AOps.step rfl rfl rfl (AOp.assignD rfl rfl) ?_
    refine AOps.nil ?_
    refine AWP.ret ?_
    refine ⟨RetD.nil rfl, RetD.eq rfl ?_, trivial⟩
    all_goals (rfl)
  · replace h1 := of_decide_eq_false h1
    have hz := h1
    have HC := catOk (c := c) (by omega)
    have hl := HC.lim
    have hl1 := hl.1
    have hl2 := hl.2
    have hr := HC.ris
    refine AWP.skip ?_
    refine AWP.seq ?_
    refine AWP.region ?_
    refine AOps.step rfl rfl rfl (AOp.loadAgg rfl ag_25 rfl rfl) ?_
    refine AOps.step rfl rfl rfl (AOp.call rfl (.cons (ArgOk.rfl' rfl) .nil) (c_idxOf c hl hc hr)) ?_
    refine AOps.step rfl rfl rfl (AOp.assignD rfl rfl) ?_
    refine AOps.nil ?_
    refine AWP.seq ?_
    refine AWP.region ?_
    refine AOps.step rfl rfl rfl (AOp.moveD rfl rfl) ?_
    refine AOps.step rfl rfl rfl (AOp.moveD rfl rfl) ?_
    refine AOps.step rfl rfl rfl (AOp.lookupOkF (key := kI id) rfl mt_idx kd_int zt_thg zd_thg rfl rfl (DExact.v _) (kI_ok hi) (idxM_keys hc.things) _ (getok_idx hr.nk _)) ?_
    refine AOps.step rfl rfl rfl (AOp.moveD rfl rfl) ?_
    refine AOps.step rfl rfl rfl (AOp.extract rfl rfl rfl) ?_
    refine AOps.step rfl rfl rfl (AOp.extract rfl rfl rfl) ?_
    refine AOps.alloc 101 rfl rfl rfl rfl zt_46 rfl rfl rfl ?_
    refine AOps.store rfl rfl rfl sz_46 rfl (.head _) rfl rfl rfl (Nat.le_of_ble_eq_true rfl) ?_
    refine AOps.freezeCells 8 (ds := (getT c.things id).ds) rfl (.head _) ?_
    refine AOps.step rfl rfl rfl (AOp.assignD rfl rfl) ?_
    refine AOps.nil ?_
    refine AWP.seq ?_
    refine AWP.seq ?_
    refine AWP.region ?_
    refine AOps.step rfl rfl rfl (AOp.moveD rfl rfl) ?_
    refine AOps.step rfl rfl rfl (AOp.not rfl rfl) ?_
    refine AOps.nil ?_
    refine AWP.cond rfl (fun h2 => ?_) (fun h2 => ?_)
    · replace h2 := bnot_t h2
      obtain ⟨E1, E2⟩ := in_2 hz h2
      rw [E1, E2]
      refine AWP.seq ?_
      refine AWP.region ?_
      refine AOps.step rfl rfl rfl (AOp.assignD rfl rfl) ?_
      refine AOps.step rfl rfl rfl (AOp.assignD rfl rfl) ?_
      refine AOps.nil ?_
      refine AWP.ret ?_
      refine ⟨RetD.nil rfl, RetD.eq rfl ?_, trivial⟩
      all_goals (rfl)
    · replace h2 := bnot_f h2
      have hth := h2
      obtain ⟨E1, E2⟩ := in_3 hz h2
      rw [E1, E2]
      have hid := HC.id1 hth
      have hgk := thg_kind (HC.get hth)
      have hgp := HC.parts id
      have hpl : ((getT c.things id).parts.map intD).length = (getT c.things id).parts.length := List.length_map ..
      refine AWP.skip ?_
      refine AWP.seq ?_
      refine AWP.seq ?_
      refine AWP.region ?_
      refine AOps.step rfl rfl rfl (AOp.fieldAddr rfl fo_46_1 rfl) ?_
      refine AOps.step rfl rfl rfl (AOp.load rfl sc_3 rfl) ?_
      refine AOps.nil ?_
      refine AWP.block ?_
      refine AWP.seq ?_
      refine AWP.region ?_
      refine AOps.step rfl rfl rfl (AOp.eql rfl rfl rfl) ?_
      refine AOps.step rfl rfl rfl (AOp.assignD rfl rfl) ?_
      refine AOps.nil ?_
      refine AWP.cond rfl (fun h3 => ?_) (fun h3 => ?_)
      · replace h3 := of_decide_eq_true h3
        rw [in_a h3]
        refine AWP.seq ?_
        refine AWP.region ?_
        refine AOps.step rfl rfl rfl (AOp.moveD rfl rfl) ?_
        refine AOps.step rfl rfl rfl (AOp.buildSlice rfl et_30 (.cons rfl rfl rfl .nil) rfl (by decide)) ?_
        refine AOps.step rfl rfl rfl (AOp.assignD rfl rfl) ?_
        refine AOps.step rfl rfl rfl (AOp.assignD rfl rfl) ?_
        refine AOps.nil ?_
        refine AWP.ret ?_
        refine ⟨RetD.eq rfl ?_, RetD.eq rfl ?_, trivial⟩
        all_goals (rfl)
      · replace h3 := of_decide_eq_false h3
        refine AWP.seq ?_
        refine AWP.region ?_
        refine AOps.step rfl rfl rfl (AOp.eql rfl rfl rfl) ?_
        refine AOps.step rfl rfl rfl (AOp.assignD rfl rfl) ?_
        refine AOps.nil ?_
        refine AWP.cond rfl (fun h4 => ?_) (fun h4 => ?_)
        · replace h4 := of_decide_eq_true h4
          rw [in_d (by omega) (by omega)]
          refine AWP.seq ?_
          refine AWP.region ?_
          refine AOps.step rfl rfl rfl (AOp.fieldAddr rfl fo_46_6 rfl) ?_
          refine AOps.step rfl rfl rfl (AOp.load rfl sc_30 rfl) ?_
          refine AOps.step rfl rfl rfl (AOp.call rfl (.cons (ArgOk.rfl' rfl) .nil) (c_pOnce _ (by omega))) ?_
          refine AOps.step rfl rfl rfl (AOp.assignD rfl rfl) ?_
          refine AOps.step rfl rfl rfl (AOp.assignD rfl rfl) ?_
          refine AOps.nil ?_
          refine AWP.ret ?_
          refine ⟨RetD.eq rfl ?_, RetD.eq rfl ?_, trivial⟩
          all_goals (rfl)
        · replace h4 := of_decide_eq_false h4
          refine AWP.seq ?_
          refine AWP.region ?_
          refine AOps.step rfl rfl rfl (AOp.eql rfl rfl rfl) ?_
          refine AOps.step rfl rfl rfl (AOp.assignD rfl rfl) ?_
          refine AOps.nil ?_
          refine AWP.cond rfl (fun h5 => ?_) (fun h5 => ?_)
          · replace h5 := of_decide_eq_true h5
            refine AWP.seq ?_
            refine AWP.seq ?_
            refine AWP.region ?_
            refine AOps.step rfl rfl rfl (AOp.fieldAddr rfl fo_46_6 rfl) ?_
            refine AOps.step rfl rfl rfl (AOp.load rfl sc_30 rfl) ?_
            refine AOps.step rfl rfl rfl (AOp.lenSl rfl et_30.ht rfl) ?_
            refine AOps.step rfl rfl rfl (AOp.gtr rfl rfl rfl) ?_
            refine AOps.nil ?_
            refine AWP.cond rfl (fun h6 => ?_) (fun h6 => ?_)
            · replace h6 := of_decide_eq_true h6
              rw [in_d (by omega) (by omega)]
              refine AWP.seq ?_
              refine AWP.region ?_
              refine AOps.step rfl rfl rfl (AOp.fieldAddr rfl fo_46_6 rfl) ?_
              refine AOps.step rfl rfl rfl (AOp.load rfl sc_30 rfl) ?_
              refine AOps.step rfl rfl rfl (AOp.call rfl (.cons (ArgOk.rfl' rfl) .nil) (c_pOnce _ (by omega))) ?_
              refine AOps.step rfl rfl rfl (AOp.assignD rfl rfl) ?_
              refine AOps.step rfl rfl rfl (AOp.assignD rfl rfl) ?_
              refine AOps.nil ?_
              refine AWP.ret ?_
              refine ⟨RetD.eq rfl ?_, RetD.eq rfl ?_, trivial⟩
              all_goals (rfl)
            · replace h6 := of_decide_eq_false h6
              rw [in_c (by omega) (by omega)]
              refine AWP.skip ?_
              refine AWP.seq ?_
              refine AWP.region ?_
              refine AOps.step rfl rfl rfl (AOp.moveD rfl rfl) ?_
              refine AOps.step rfl rfl rfl (AOp.fieldAddr rfl fo_46_5 rfl) ?_
              refine AOps.step rfl rfl rfl (AOp.load rfl sc_3 rfl) ?_
              refine AOps.step rfl rfl rfl (AOp.lookupF (key := kI (getT c.things id).parent) rfl mt_idx kd_int zt_thg zd_thg rfl rfl (DExact.v _) (kI_ok (getT_ok hc.things id).parent) (idxM_keys hc.things) (get_idx hr.nk _)) ?_
              refine AOps.step rfl rfl rfl (AOp.field rfl fv_46_6 rfl rfl) ?_
              refine AOps.step rfl rfl rfl (AOp.call rfl (.cons (ArgOk.rfl' rfl) .nil) (c_pOnce _ (by have := HC.parts (getT c.things id).parent; omega))) ?_
              refine AOps.step rfl rfl rfl (AOp.assignD rfl rfl) ?_
              refine AOps.step rfl rfl rfl (AOp.assignD rfl rfl) ?_
              refine AOps.nil ?_
              refine AWP.ret ?_
              refine ⟨RetD.eq rfl ?_, RetD.eq rfl ?_, trivial⟩
              all_goals (rfl)
          · replace h5 := of_decide_eq_false h5
            rw [in_b (by omega)]
            refine AWP.skip ?_
            refine AWP.seq ?_
            refine AWP.region ?_
            refine AOps.step rfl rfl rfl (AOp.assignD rfl rfl) ?_
            refine AOps.nil ?_
            refine AWP.seq ?_
            refine AWP.seq ?_
            refine AWP.region ?_
            refine AOps.step rfl rfl rfl (AOp.fieldAddr rfl fo_25_0 rfl) ?_
            refine AOps.step rfl rfl rfl (AOp.load rfl sc_22 rfl) ?_
            refine AOps.step rfl rfl rfl (AOp.lenSl rfl et_22.ht rfl) ?_
            refine AOps.step rfl rfl rfl (AOp.moveD rfl rfl) ?_
            refine AOps.nil ?_
            refine AWP.block ?_
            refine AWP.adopt 10 1 3 1 rfl rfl ?_
            refine AWP.loop (G := Nat) (fun k => Env.of [(58, .d (.v (.int .i64 (k : Int)))), (56, .d (.sl (c.things.map Thg.ds))), (57, .d (.v (.int .i64 ((c.things.map Thg.ds).length : Int)))), (10, .own 1), (7, .d (.fm (idxM c.things))), (2, .d (.fp c.ds)), (1, .d (.v (.int .i64 id)))]) (fun k => [(1, .row 3 1 ((pickL (recB c.things id) (c.things.take k)).map intD))]) (fun k => k ≤ c.things.length) (fun k => c.things.length - k) 0 (Nat.zero_le _) (Sub.less ⟨(SLe.of_eq rfl), SLe.refl _, SLe.refl _, SLe.refl _, SLe.refl _, SLe.refl _, SLe.refl _, trivial⟩ (row_same rfl)) ?_
            intro k hk
            refine AWP.seq ?_
            refine AWP.region ?_
            refine AOps.step rfl rfl rfl (AOp.lss rfl rfl rfl) ?_
            refine AOps.nil ?_
            refine AWP.seq ?_
            refine AWP.cond rfl (fun h7 => ?_) (fun h7 => ?_)
            · replace h7 := of_decide_eq_true h7
              rw [List.length_map] at h7
              have hlt : k < c.things.length := by omega
              have hbk := hc.things _ (List.getElem_mem hlt)
              refine AWP.skip ?_
              refine AWP.seq ?_
              refine AWP.block ?_
              refine AWP.seq ?_
              refine AWP.region ?_
              refine AOps.step rfl rfl rfl (AOp.indexAddr rfl et_22 rfl rfl k rfl (at_lst hlt) rfl) ?_
              refine AOps.step rfl rfl rfl (AOp.loadAgg rfl ag_46 rfl rfl) ?_
              refine AOps.alloc 102 rfl rfl rfl rfl zt_46 rfl rfl rfl ?_
              refine AOps.store rfl rfl rfl sz_46 rfl (.head _) rfl rfl rfl (Nat.le_of_ble_eq_true rfl) ?_
              refine AOps.freezeCells 12 (ds := c.things[k].ds) rfl (.head _) ?_
              refine AOps.nil ?_
              refine AWP.seq ?_
              refine AWP.seq ?_
              refine AWP.region ?_
              refine AOps.step rfl rfl rfl (AOp.fieldAddr rfl fo_46_1 rfl) ?_
              refine AOps.step rfl rfl rfl (AOp.load rfl sc_3 rfl) ?_
              refine AOps.step rfl rfl rfl (AOp.neq rfl rfl rfl) ?_
              refine AOps.nil ?_
              refine AWP.cond rfl (fun h8 => ?_) (fun h8 => ?_)
              · replace h8 := of_decide_eq_true h8
                have HU := rec_k (l := c.things) (id := id) h8
                refine AWP.exit ?_
                refine AWP.region ?_
                refine AOps.step rfl rfl rfl (AOp.add64 rfl rfl rfl (by omega) (by omega)) ?_
                refine AOps.step rfl rfl rfl (AOp.moveD rfl rfl) ?_
                refine AOps.nil ?_
                refine ⟨k + 1, (by omega), (by dsimp only; omega), Sub.less ⟨(SLe.of_eq rfl), SLe.refl _, SLe.refl _, SLe.refl _, SLe.refl _, SLe.refl _, SLe.refl _, trivial⟩ (row_same (by first | (rw [pick_y hlt HU, List.map_append]; rfl) | rw [pick_n hlt HU]))⟩
              · replace h8 := of_decide_eq_false h8
                have hk2 : c.things[k].kind = 2 := by omega
                refine AWP.skip ?_
                refine AWP.seq ?_
                refine AWP.region ?_
                refine AOps.step rfl rfl rfl (AOp.fieldAddr rfl fo_46_5 rfl) ?_
                refine AOps.step rfl rfl rfl (AOp.load rfl sc_3 rfl) ?_
                refine AOps.step rfl rfl rfl (AOp.assignD rfl rfl) ?_
                refine AOps.nil ?_
                refine AWP.block ?_
                refine AWP.loop (G := Nat) (fun j => Env.of [(13, .d (.v (.int .i64 (upN c.things c.things[k].parent j)))), (12, .d (.fp c.things[k].ds)), (58, .d (.v (.int .i64 (k : Int)))), (56, .d (.sl (c.things.map Thg.ds))), (57, .d (.v (.int .i64 ((c.things.map Thg.ds).length : Int)))), (10, .own 1), (7, .d (.fm (idxM c.things))), (2, .d (.fp c.ds)), (1, .d (.v (.int .i64 id)))]) (fun j => [(1, .row 3 1 ((pickL (recB c.things id) (c.things.take k)).map intD))]) (fun j => j ≤ c.things.length ∧ ∀ i, i < j → upN c.things c.things[k].parent i ≠ id) (fun j => c.things.length - j) 0 ⟨Nat.zero_le _, fun i hi => by omega⟩ (Sub.less ⟨(SLe.of_eq rfl), SLe.refl _, SLe.refl _, SLe.refl _, SLe.refl _, SLe.refl _, SLe.refl _, SLe.refl _, SLe.refl _, trivial⟩ (row_same rfl)) ?_
                intro j hj
                refine AWP.seq ?_
                refine AWP.seq ?_
                refine AWP.region ?_
                refine AOps.step rfl rfl rfl (AOp.moveD rfl rfl) ?_
                refine AOps.step rfl rfl rfl (AOp.neq rfl rfl rfl) ?_
                refine AOps.nil ?_
                refine AWP.cond rfl (fun h9 => ?_) (fun h9 => ?_)
                · replace h9 := of_decide_eq_true h9
                  have hjl := steps_end HC (List.getElem_mem hlt) h9
                  refine AWP.skip ?_
                  refine AWP.seq ?_
                  refine AWP.block ?_
                  refine AWP.seq ?_
                  refine AWP.region ?_
                  refine AOps.step rfl rfl rfl (AOp.moveD rfl rfl) ?_
                  refine AOps.step rfl rfl rfl (AOp.moveD rfl rfl) ?_
                  refine AOps.step rfl rfl rfl (AOp.eql rfl rfl rfl) ?_
                  refine AOps.nil ?_
                  refine AWP.cond rfl (fun h10 => ?_) (fun h10 => ?_)
                  · replace h10 := of_decide_eq_true h10
                    have HU := rec_m hk2 (made_y hjl h10)
                    refine AWP.seq ?_
                    refine AWP.region ?_
                    refine AOps.step rfl rfl rfl (AOp.moveO rfl rfl) ?_
                    refine AOps.step rfl rfl rfl (AOp.fieldAddr rfl fo_46_0 rfl) ?_
                    refine AOps.step rfl rfl rfl (AOp.load rfl sc_3 rfl) ?_
                    refine AOps.step rfl rfl rfl (AOp.buildSlice rfl et_30 (.cons rfl rfl rfl .nil) rfl (by decide)) ?_
                    -- append 80
                    refine AOps.append rfl rfl rfl rfl et_30 rfl (.head _) rfl (fun y hy => by obtain rfl := List.mem_singleton.1 hy; rfl) (by have := pick_tlen (recB c.things id) c.things k; simp; omega) (by have := pick_tlen (recB c.things id) c.things k; simp; omega) ?_
                    refine AOps.step rfl rfl rfl (AOp.assignO rfl rfl) ?_
                    refine AOps.nil ?_
                    refine AWP.exit ?_
                    refine AWP.region ?_
                    refine AOps.step rfl rfl rfl (AOp.add64 rfl rfl rfl (by omega) (by omega)) ?_
                    refine AOps.step rfl rfl rfl (AOp.moveD rfl rfl) ?_
                    refine AOps.nil ?_
                    refine ⟨k + 1, (by omega), (by dsimp only; omega), Sub.less ⟨(SLe.of_eq rfl), SLe.refl _, SLe.refl _, SLe.refl _, SLe.refl _, SLe.refl _, SLe.refl _, trivial⟩ (row_same (by first | (rw [pick_y hlt HU, List.map_append]; rfl) | rw [pick_n hlt HU]))⟩
                  · replace h10 := of_decide_eq_false h10
                    have HN := md_next hj.2 h10
                    refine AWP.skip ?_
                    refine AWP.region ?_
                    refine AOps.step rfl rfl rfl (AOp.moveD rfl rfl) ?_
                    refine AOps.step rfl rfl rfl (AOp.moveD rfl rfl) ?_
                    refine AOps.step rfl rfl rfl (AOp.lookupF (key := kI (upN c.things c.things[k].parent j)) rfl mt_idx kd_int zt_thg zd_thg rfl rfl (DExact.v _) (kI_ok (upN_ok hc.things hbk.parent j)) (idxM_keys hc.things) (get_idx hr.nk _)) ?_
                    refine AOps.step rfl rfl rfl (AOp.field rfl fv_46_5 rfl rfl) ?_
                    refine AOps.step rfl rfl rfl (AOp.assignD rfl rfl) ?_
                    refine AOps.nil ?_
                    refine ⟨j + 1, ⟨by omega, HN⟩, (by dsimp only; omega), Sub.less ⟨(SLe.of_eq rfl), SLe.refl _, SLe.refl _, SLe.refl _, SLe.refl _, SLe.refl _, SLe.refl _, SLe.refl _, SLe.refl _, trivial⟩ (row_same rfl)⟩
                · replace h9 := of_decide_eq_false h9
                  have HU := rec_m hk2 (made_z hr hid hj.2 (by omega))
                  refine AWP.exit ?_
                  refine AWP.region ?_
                  refine AOps.step rfl rfl rfl (AOp.add64 rfl rfl rfl (by omega) (by omega)) ?_
                  refine AOps.step rfl rfl rfl (AOp.moveD rfl rfl) ?_
                  refine AOps.nil ?_
                  refine ⟨k + 1, (by omega), (by dsimp only; omega), Sub.less ⟨(SLe.of_eq rfl), SLe.refl _, SLe.refl _, SLe.refl _, SLe.refl _, SLe.refl _, SLe.refl _, trivial⟩ (row_same (by first | (rw [pick_y hlt HU, List.map_append]; rfl) | rw [pick_n hlt HU]))⟩
            · replace h7 := of_decide_eq_false h7
              rw [List.length_map] at h7
              obtain rfl : k = c.things.length := by omega
              rw [List.take_length]
              refine AWP.exit ?_
              refine AWP.seq ?_
              refine AWP.region ?_
              refine AOps.step rfl rfl rfl (AOp.moveO rfl rfl) ?_
              refine AOps.step rfl rfl rfl (AOp.assignO rfl rfl) ?_
              refine AOps.step rfl rfl rfl (AOp.assignD rfl rfl) ?_
              refine AOps.nil ?_
              refine AWP.ret ?_
              refine ⟨RetD.own rfl (.head _) ?_, RetD.eq rfl ?_, trivial⟩
              all_goals (rfl)

set_option maxRecDepth 100000 in
set_option maxHeartbeats 1000000 in
theorem c_made (c : Ctl) (t : Thg) (id : Int) (hl : Lim c) (hr : RisT c.things) (hid : 1 ≤ id) : ACall Tryd.prog 28 [.agg c.ds, .agg t.ds, .v (.int .i64 id)] (.v (.bool (madeB c.things t id))) := by
  refine acall_of (n := 29) (ds' := [.v (.bool (madeB c.things t id))]) Tryd.func28 rfl (by kernel_rfl) rfl [6] rfl rfl ?_
  intro B w0 F0 fr
  have hl1 := hl.1
  refine AWP.seq ?_
  refine AWP.region ?_
  refine AOps.step rfl rfl rfl (AOp.box rfl rfl rfl) ?_
  refine AOps.boxOwn 101 rfl rfl rfl rfl rfl rfl rfl ?_
  refine AOps.step rfl rfl rfl (AOp.assignD rfl rfl) ?_
  refine AOps.nil ?_
  refine AWP.seq ?_
  refine AWP.seq ?_
  refine AWP.region ?_
  refine AOps.step rfl rfl rfl (AOp.fieldAddr rfl fo_25_0 rfl) ?_
  refine AOps.step rfl rfl rfl (AOp.load rfl sc_22 rfl) ?_
  refine AOps.step rfl rfl rfl (AOp.lenSl rfl et_22.ht rfl) ?_
  refine AOps.step rfl rfl rfl (AOp.moveD rfl rfl) ?_
  refine AOps.nil ?_
  refine AWP.block ?_
  refine AWP.loop (G := Nat) (fun j => Env.of [(12, .d (.v (.int .i64 (j : Int)))), (11, .d (.v (.int .i64 ((c.things.map Thg.ds).length : Int)))), (3, .d (.fp c.ds)), (2, .d (.v (.int .i64 id))), (4, .ptr 101 0)]) (fun j => [(101, .cells ((atN c.things t j).ds.map S.d))]) (fun j => j ≤ c.things.length ∧ ∀ i, i < j → upN c.things t.parent i ≠ id) (fun j => c.things.length - j) 0 ⟨Nat.zero_le _, fun i hi => by omega⟩ (Sub.less ⟨(SLe.of_eq rfl), SLe.refl _, SLe.refl _, SLe.refl _, SLe.refl _, trivial⟩ (cells_1 rfl)) ?_
  intro j hj
  refine AWP.seq ?_
  refine AWP.region ?_
  refine AOps.step rfl rfl rfl (AOp.lss rfl rfl rfl) ?_
  refine AOps.nil ?_
  refine AWP.seq ?_
  refine AWP.cond rfl (fun h1 => ?_) (fun h1 => ?_)
  · replace h1 := of_decide_eq_true h1
    rw [List.length_map] at h1
    have hlt : j < c.things.length := by omega
    refine AWP.skip ?_
    refine AWP.seq ?_
    refine AWP.block ?_
    refine AWP.seq ?_
    refine AWP.seq ?_
    refine AWP.region ?_
    refine AOps.step rfl rfl rfl (AOp.fieldAddrP rfl fo_46_5 rfl) ?_
    refine AOps.step rfl rfl rfl (AOp.loadP rfl sc_3 rfl (.head _) rfl) ?_
    refine AOps.step rfl rfl rfl (AOp.moveD rfl rfl) ?_
    refine AOps.step rfl rfl rfl (AOp.eql rfl rfl rfl) ?_
    refine AOps.nil ?_
    refine AWP.cond rfl (fun h2 => ?_) (fun h2 => ?_)
    · replace h2 := of_decide_eq_true h2
      rw [made_y hlt (by rw [up_at]; exact h2)]
      refine AWP.seq ?_
      refine AWP.region ?_
      refine AOps.step rfl rfl rfl (AOp.assignD rfl rfl) ?_
      refine AOps.nil ?_
      refine AWP.ret ?_
      refine ⟨RetD.eq rfl ?_, trivial⟩
      all_goals (rfl)
    · replace h2 := of_decide_eq_false h2
      have HN := md_next hj.2 (by rw [up_at]; exact h2)
      refine AWP.skip ?_
      refine AWP.seq ?_
      refine AWP.region ?_
      refine AOps.step rfl rfl rfl (AOp.loadAgg rfl ag_25 rfl rfl) ?_
      refine AOps.step rfl rfl rfl (AOp.fieldAddrP rfl fo_46_5 rfl) ?_
      refine AOps.step rfl rfl rfl (AOp.loadP rfl sc_3 rfl (.head _) rfl) ?_
      refine AOps.step rfl rfl rfl (AOp.call rfl (.cons (ArgOk.rfl' rfl) (.cons (ArgOk.rfl' rfl) .nil)) (c_thing c _ hl)) ?_
      refine AOps.step rfl rfl rfl (AOp.moveD rfl rfl) ?_
      refine AOps.step rfl rfl rfl (AOp.extract rfl rfl rfl) ?_
      refine AOps.step rfl rfl rfl (AOp.extract rfl rfl rfl) ?_
      refine AOps.alloc 102 rfl rfl rfl rfl zt_46 rfl rfl rfl ?_
      refine AOps.store rfl rfl rfl sz_46 rfl (.head _) rfl rfl rfl (Nat.le_of_ble_eq_true rfl) ?_
      refine AOps.freezeCells 7 (ds := (getT c.things (atN c.things t j).parent).ds) rfl (.head _) ?_
      refine AOps.step rfl rfl rfl (AOp.assignD rfl rfl) ?_
      refine AOps.nil ?_
      refine AWP.seq ?_
      refine AWP.seq ?_
      refine AWP.region ?_
      refine AOps.step rfl rfl rfl (AOp.moveD rfl rfl) ?_
      refine AOps.step rfl rfl rfl (AOp.not rfl rfl) ?_
      refine AOps.nil ?_
      refine AWP.cond rfl (fun h3 => ?_) (fun h3 => ?_)
      · replace h3 := bnot_t h3
        rw [made_g hr hid HN (by rw [up_at]; exact h3)]
        refine AWP.seq ?_
        refine AWP.region ?_
        refine AOps.step rfl rfl rfl (AOp.assignD rfl rfl) ?_
        refine AOps.nil ?_
        refine AWP.ret ?_
        refine ⟨RetD.eq rfl ?_, trivial⟩
        all_goals (rfl)
      · replace h3 := bnot_f h3
        refine AWP.skip ?_
        refine AWP.region ?_
        refine AOps.step rfl rfl rfl (AOp.loadAgg rfl ag_46 rfl rfl) ?_
        refine AOps.store rfl rfl rfl sz_46 rfl (.head _) rfl rfl rfl (Nat.le_of_ble_eq_true rfl) ?_
        refine AOps.nil ?_
        refine AWP.region ?_
        refine AOps.step rfl rfl rfl (AOp.add64 rfl rfl rfl (by omega) (by omega)) ?_
        refine AOps.step rfl rfl rfl (AOp.moveD rfl rfl) ?_
        refine AOps.nil ?_
        refine ⟨j + 1, ⟨by omega, HN⟩, (by dsimp only; omega), Sub.less ⟨(SLe.of_eq rfl), SLe.refl _, SLe.refl _, SLe.refl _, SLe.refl _, trivial⟩ (cells_1 rfl)⟩
  · replace h1 := of_decide_eq_false h1
    rw [List.length_map] at h1
    rw [made_n (fun i hi => hj.2 i (by omega))]
    refine AWP.exit ?_
    refine AWP.seq ?_
    refine AWP.region ?_
    refine AOps.step rfl rfl rfl (AOp.assignD rfl rfl) ?_
    refine AOps.nil ?_
    refine AWP.ret ?_
    refine ⟨RetD.eq rfl ?_, trivial⟩
    all_goals (rfl)

set_option maxRecDepth 100000 in
set_option maxHeartbeats 1000000 in
theorem c_rWithin (c : Ctl) (id : Int) (hc : CtlOk c) : ACallT Tryd.prog MaxT 12 [.agg c.ds, .v (.int .i64 id)] (.tup [.sl ((inV c id).map intD), .v (.int .i64 (useF c id))]) := by
  refine acall_ofT (n := 72) (ds' := [.sl ((inV c id).map intD), .v (.int .i64 (useF c id))]) Tryd.func12 rfl (by kernel_rfl) rfl [4, 5] rfl rfl ?_
  intro B w0 F0 hT
  refine AWP.seq ?_
  refine AWP.region ?_
  refine AOps.step rfl rfl rfl (AOp.box rfl rfl rfl) ?_
  refine AOps.step rfl rfl rfl (AOp.assignD rfl rfl) ?_
  refine AOps.step rfl rfl rfl (AOp.assignD rfl rfl) ?_
  refine AOps.nil ?_
  refine AWP.seq ?_
  refine AWP.seq ?_
  refine AWP.region ?_
  refine AOps.step rfl rfl rfl (AOp.loadAgg rfl ag_25 rfl rfl) ?_
  -- wants the world
  refine AOps.callT rfl rfl rfl hT maxT_stays rfl (.cons (ArgOk.rfl' rfl) .nil) (c_rChk c hc) ?_
  refine AOps.step rfl rfl rfl (AOp.assignD rfl rfl) ?_
  refine AOps.nil ?_
  refine AWP.seq ?_
  refine AWP.region ?_
  refine AOps.step rfl rfl rfl (AOp.moveD rfl rfl) ?_
  refine AOps.step rfl rfl rfl (AOp.neq rfl rfl rfl) ?_
  refine AOps.nil ?_
  refine AWP.cond rfl (fun h1 => ?_) (fun h1 => ?_)
  · replace h1 := of_decide_eq_true h1
    obtain ⟨E1, E2⟩ := in_1 id h1
    rw [E1, E2]
    refine AWP.seq ?_
    refine AWP.region ?_
    refine AOps.step rfl rfl rfl (AOp.moveD rfl rfl) ?_
    refine AOps.step rfl rfl rfl (AOp.assignD rfl rfl) ?_
    refine AOps.step rfl rfl rfl (AOp.assignD rfl rfl) ?_
    refine AOps.nil ?_
    refine AWP.ret ?_
    refine ⟨RetD.nil rfl, RetD.eq rfl ?_, trivial⟩
    all_goals (rfl)
  · replace h1 := of_decide_eq_false h1
    have hz := h1
    have HC := catOk (c := c) (by omega)
    have hl := HC.lim
    have hl1 := hl.1
    have hl2 := hl.2
    have hr := HC.ris
    refine AWP.skip ?_
    refine AWP.seq ?_
    refine AWP.region ?_
    refine AOps.step rfl rfl rfl (AOp.loadAgg rfl ag_25 rfl rfl) ?_
    refine AOps.step rfl rfl rfl (AOp.moveD rfl rfl) ?_
    refine AOps.step rfl rfl rfl (AOp.call rfl (.cons (ArgOk.rfl' rfl) (.cons (ArgOk.rfl' rfl) .nil)) (c_thing c id hl)) ?_
    refine AOps.step rfl rfl rfl (AOp.moveD rfl rfl) ?_
    refine AOps.step rfl rfl rfl (AOp.extract rfl rfl rfl) ?_
    refine AOps.step rfl rfl rfl (AOp.extract rfl rfl rfl) ?_
    refine AOps.alloc 101 rfl rfl rfl rfl zt_46 rfl rfl rfl ?_
    refine AOps.store rfl rfl rfl sz_46 rfl (.head _) rfl rfl rfl (Nat.le_of_ble_eq_true rfl) ?_
    refine AOps.step rfl rfl rfl (AOp.assignD rfl rfl) ?_
    refine AOps.nil ?_
    refine AWP.seq ?_
    refine AWP.seq ?_
    refine AWP.region ?_
    refine AOps.step rfl rfl rfl (AOp.moveD rfl rfl) ?_
    refine AOps.step rfl rfl rfl (AOp.not rfl rfl) ?_
    refine AOps.nil ?_
    refine AWP.cond rfl (fun h2 => ?_) (fun h2 => ?_)
    · replace h2 := bnot_t h2
      obtain ⟨E1, E2⟩ := in_2 hz h2
      rw [E1, E2]
      refine AWP.seq ?_
      refine AWP.region ?_
      refine AOps.step rfl rfl rfl (AOp.assignD rfl rfl) ?_
      refine AOps.step rfl rfl rfl (AOp.assignD rfl rfl) ?_
      refine AOps.nil ?_
      refine AWP.ret ?_
      refine ⟨RetD.nil rfl, RetD.eq rfl ?_, trivial⟩
      all_goals (rfl)
    · replace h2 := bnot_f h2
      have hth := h2
      obtain ⟨E1, E2⟩ := in_3 hz h2
      rw [E1, E2]
      have hid := HC.id1 hth
      have hgk := thg_kind (HC.get hth)
      have hgp := HC.parts id
      have hpl : ((getT c.things id).parts.map intD).length = (getT c.things id).parts.length := List.length_map ..
      refine AWP.skip ?_
      refine AWP.seq ?_
      refine AWP.seq ?_
      refine AWP.region ?_
      refine AOps.step rfl rfl rfl (AOp.fieldAddrP rfl fo_46_1 rfl) ?_
      refine AOps.step rfl rfl rfl (AOp.loadP rfl sc_3 rfl (.head _) rfl) ?_
      refine AOps.nil ?_
      refine AWP.block ?_
      refine AWP.seq ?_
      refine AWP.region ?_
      refine AOps.step rfl rfl rfl (AOp.eql rfl rfl rfl) ?_
      refine AOps.step rfl rfl rfl (AOp.assignD rfl rfl) ?_
      refine AOps.nil ?_
      refine AWP.cond rfl (fun h3 => ?_) (fun h3 => ?_)
      · replace h3 := of_decide_eq_true h3
        rw [in_a h3]
        refine AWP.seq ?_
        refine AWP.region ?_
        refine AOps.step rfl rfl rfl (AOp.moveD rfl rfl) ?_
        refine AOps.step rfl rfl rfl (AOp.buildSlice rfl et_30 (.cons rfl rfl rfl .nil) rfl (by decide)) ?_
        refine AOps.step rfl rfl rfl (AOp.assignD rfl rfl) ?_
        refine AOps.step rfl rfl rfl (AOp.assignD rfl rfl) ?_
        refine AOps.nil ?_
        refine AWP.ret ?_
        refine ⟨RetD.eq rfl ?_, RetD.eq rfl ?_, trivial⟩
        all_goals (rfl)
      · replace h3 := of_decide_eq_false h3
        refine AWP.seq ?_
        refine AWP.region ?_
        refine AOps.step rfl rfl rfl (AOp.eql rfl rfl rfl) ?_
        refine AOps.step rfl rfl rfl (AOp.assignD rfl rfl) ?_
        refine AOps.nil ?_
        refine AWP.cond rfl (fun h4 => ?_) (fun h4 => ?_)
        · replace h4 := of_decide_eq_true h4
          rw [in_b h4]
          refine AWP.seq ?_
          refine AWP.region ?_
          refine AOps.step rfl rfl rfl (AOp.assignD rfl rfl) ?_
          refine AOps.nil ?_
          refine AWP.seq ?_
          refine AWP.seq ?_
          refine AWP.region ?_
          refine AOps.step rfl rfl rfl (AOp.fieldAddr rfl fo_25_0 rfl) ?_
          refine AOps.step rfl rfl rfl (AOp.load rfl sc_22 rfl) ?_
          refine AOps.step rfl rfl rfl (AOp.lenSl rfl et_22.ht rfl) ?_
          refine AOps.step rfl rfl rfl (AOp.moveD rfl rfl) ?_
          refine AOps.nil ?_
          refine AWP.block ?_
          refine AWP.adopt 9 1 3 1 rfl rfl ?_
          refine AWP.loop (G := Nat) (fun k => Env.of [(36, .d (.v (.int .i64 (k : Int)))), (34, .d (.sl (c.things.map Thg.ds))), (35, .d (.v (.int .i64 ((c.things.map Thg.ds).length : Int)))), (9, .own 1), (2, .d (.fp c.ds)), (1, .d (.v (.int .i64 id)))]) (fun k => [(1, .row 3 1 ((pickL (recB c.things id) (c.things.take k)).map intD))]) (fun k => k ≤ c.things.length) (fun k => c.things.length - k) 0 (Nat.zero_le _) (Sub.less ⟨(SLe.of_eq rfl), SLe.refl _, SLe.refl _, SLe.refl _, SLe.refl _, SLe.refl _, trivial⟩ (row_same rfl)) ?_
          intro k hk
          refine AWP.seq ?_
          refine AWP.region ?_
          refine AOps.step rfl rfl rfl (AOp.lss rfl rfl rfl) ?_
          refine AOps.nil ?_
          refine AWP.seq ?_
          refine AWP.cond rfl (fun h5 => ?_) (fun h5 => ?_)
          · replace h5 := of_decide_eq_true h5
            rw [List.length_map] at h5
            have hlt : k < c.things.length := by omega
            have hbk := hc.things _ (List.getElem_mem hlt)
            refine AWP.skip ?_
            refine AWP.seq ?_
            refine AWP.block ?_
            refine AWP.seq ?_
            refine AWP.region ?_
            refine AOps.step rfl rfl rfl (AOp.indexAddr rfl et_22 rfl rfl k rfl (at_lst hlt) rfl) ?_
            refine AOps.step rfl rfl rfl (AOp.loadAgg rfl ag_46 rfl rfl) ?_
            refine AOps.alloc 102 rfl rfl rfl rfl zt_46 rfl rfl rfl ?_
            refine AOps.store rfl rfl rfl sz_46 rfl (.head _) rfl rfl rfl (Nat.le_of_ble_eq_true rfl) ?_
            refine AOps.freezeCells 11 (ds := c.things[k].ds) rfl (.head _) ?_
            refine AOps.nil ?_
            refine AWP.seq ?_
            refine AWP.region ?_
            refine AOps.step rfl rfl rfl (AOp.fieldAddr rfl fo_46_1 rfl) ?_
            refine AOps.step rfl rfl rfl (AOp.load rfl sc_3 rfl) ?_
            refine AOps.step rfl rfl rfl (AOp.eql rfl rfl rfl) ?_
            refine AOps.step rfl rfl rfl (AOp.moveD rfl rfl) ?_
            refine AOps.split 43 rfl (fun g6 => ?_) (fun g6 => ?_)
            · replace g6 := of_decide_eq_true g6
              have hk2 : c.things[k].kind = 2 := g6
              refine AOps.step ⟨43, rfl, .inl ⟨_, rfl, rfl⟩⟩ rfl rfl (AOp.loadAgg rfl ag_25 rfl rfl) ?_
              refine AOps.step ⟨43, rfl, .inl ⟨_, rfl, rfl⟩⟩ rfl rfl (AOp.loadAgg rfl ag_46 rfl rfl) ?_
              refine AOps.step ⟨43, rfl, .inl ⟨_, rfl, rfl⟩⟩ rfl rfl (AOp.moveD rfl rfl) ?_
              refine AOps.step ⟨43, rfl, .inl ⟨_, rfl, rfl⟩⟩ rfl rfl (AOp.call rfl (.cons (ArgOk.rfl' rfl) (.cons (ArgOk.rfl' rfl) (.cons (ArgOk.rfl' rfl) .nil))) (c_made c _ id hl hr hid)) ?_
              refine AOps.step rfl rfl rfl (AOp.pickT rfl rfl rfl) ?_
              refine AOps.nil ?_
              refine AWP.cond rfl (fun h7 => ?_) (fun h7 => ?_)
              · skip
                have HU := rec_m hk2 h7
                refine AWP.region ?_
                refine AOps.step rfl rfl rfl (AOp.moveO rfl rfl) ?_
                refine AOps.step rfl rfl rfl (AOp.fieldAddr rfl fo_46_0 rfl) ?_
                refine AOps.step rfl rfl rfl (AOp.load rfl sc_3 rfl) ?_
                refine AOps.step rfl rfl rfl (AOp.buildSlice rfl et_30 (.cons rfl rfl rfl .nil) rfl (by decide)) ?_
                -- append 53
                refine AOps.append rfl rfl rfl rfl et_30 rfl (.head _) rfl (fun y hy => by obtain rfl := List.mem_singleton.1 hy; rfl) (by have := pick_tlen (recB c.things id) c.things k; simp; omega) (by have := pick_tlen (recB c.things id) c.things k; simp; omega) ?_
                refine AOps.step rfl rfl rfl (AOp.assignO rfl rfl) ?_
                refine AOps.nil ?_
                refine AWP.region ?_
                refine AOps.step rfl rfl rfl (AOp.add64 rfl rfl rfl (by omega) (by omega)) ?_
                refine AOps.step rfl rfl rfl (AOp.moveD rfl rfl) ?_
                refine AOps.nil ?_
                refine ⟨k + 1, (by omega), (by dsimp only; omega), Sub.less ⟨(SLe.of_eq rfl), SLe.refl _, SLe.refl _, SLe.refl _, SLe.refl _, SLe.refl _, trivial⟩ (row_same (by first | (rw [pick_y hlt HU, List.map_append]; rfl) | rw [pick_n hlt HU]))⟩
              · skip
                have HU := rec_m hk2 h7
                refine AWP.skip ?_
                refine AWP.region ?_
                refine AOps.step rfl rfl rfl (AOp.add64 rfl rfl rfl (by omega) (by omega)) ?_
                refine AOps.step rfl rfl rfl (AOp.moveD rfl rfl) ?_
                refine AOps.nil ?_
                refine ⟨k + 1, (by omega), (by dsimp only; omega), Sub.less ⟨(SLe.of_eq rfl), SLe.refl _, SLe.refl _, SLe.refl _, SLe.refl _, SLe.refl _, trivial⟩ (row_same (by first | (rw [pick_y hlt HU, List.map_append]; rfl) | rw [pick_n hlt HU]))⟩
            · replace g6 := of_decide_eq_false g6
              have HU := rec_k (l := c.things) (id := id) g6
              refine AOps.pass ⟨43, rfl, .inl ⟨_, rfl, rfl⟩⟩ rfl rfl ?_
              refine AOps.pass ⟨43, rfl, .inl ⟨_, rfl, rfl⟩⟩ rfl rfl ?_
              refine AOps.pass ⟨43, rfl, .inl ⟨_, rfl, rfl⟩⟩ rfl rfl ?_
              refine AOps.pass ⟨43, rfl, .inl ⟨_, rfl, rfl⟩⟩ rfl rfl ?_
              refine AOps.step rfl rfl rfl (AOp.pickF rfl rfl rfl) ?_
              refine AOps.nil ?_
              refine AWP.cond rfl (fun h => nomatch h) (fun _ => ?_)
              refine AWP.skip ?_
              refine AWP.region ?_
              refine AOps.step rfl rfl rfl (AOp.add64 rfl rfl rfl (by omega) (by omega)) ?_
              refine AOps.step rfl rfl rfl (AOp.moveD rfl rfl) ?_
              refine AOps.nil ?_
              refine ⟨k + 1, (by omega), (by dsimp only; omega), Sub.less ⟨(SLe.of_eq rfl), SLe.refl _, SLe.refl _, SLe.refl _, SLe.refl _, SLe.refl _, trivial⟩ (row_same (by first | (rw [pick_y hlt HU, List.map_append]; rfl) | rw [pick_n hlt HU]))⟩
          · replace h5 := of_decide_eq_false h5
            rw [List.length_map] at h5
            obtain rfl : k = c.things.length := by omega
            rw [List.take_length]
            refine AWP.exit ?_
            refine AWP.seq ?_
            refine AWP.region ?_
            refine AOps.step rfl rfl rfl (AOp.moveO rfl rfl) ?_
            refine AOps.step rfl rfl rfl (AOp.assignO rfl rfl) ?_
            refine AOps.step rfl rfl rfl (AOp.assignD rfl rfl) ?_
            refine AOps.nil ?_
            refine AWP.ret ?_
            refine ⟨RetD.own rfl (.head _) ?_, RetD.eq rfl ?_, trivial⟩
            all_goals (rfl)
        · replace h4 := of_decide_eq_false h4
          refine AWP.seq ?_
          refine AWP.region ?_
          refine AOps.step rfl rfl rfl (AOp.eql rfl rfl rfl) ?_
          refine AOps.step rfl rfl rfl (AOp.assignD rfl rfl) ?_
          refine AOps.nil ?_
          refine AWP.cond rfl (fun h8 => ?_) (fun h8 => ?_)
          · replace h8 := of_decide_eq_true h8
            refine AWP.seq ?_
            refine AWP.region ?_
            refine AOps.step rfl rfl rfl (AOp.fieldAddrP rfl fo_46_6 rfl) ?_
            refine AOps.step rfl rfl rfl (AOp.loadP rfl sc_30 rfl (.head _) rfl) ?_
            refine AOps.step rfl rfl rfl (AOp.lenSl rfl et_30.ht rfl) ?_
            refine AOps.step rfl rfl rfl (AOp.eql rfl rfl rfl) ?_
            refine AOps.nil ?_
            refine AWP.cond rfl (fun h9 => ?_) (fun h9 => ?_)
            · replace h9 := of_decide_eq_true h9
              rw [in_c (by omega) (by omega)]
              refine AWP.region ?_
              refine AOps.step rfl rfl rfl (AOp.loadAgg rfl ag_25 rfl rfl) ?_
              refine AOps.step rfl rfl rfl (AOp.fieldAddrP rfl fo_46_5 rfl) ?_
              refine AOps.step rfl rfl rfl (AOp.loadP rfl sc_3 rfl (.head _) rfl) ?_
              refine AOps.step rfl rfl rfl (AOp.call rfl (.cons (ArgOk.rfl' rfl) (.cons (ArgOk.rfl' rfl) .nil)) (c_thing c _ hl)) ?_
              refine AOps.step rfl rfl rfl (AOp.moveD rfl rfl) ?_
              refine AOps.step rfl rfl rfl (AOp.extract rfl rfl rfl) ?_
              refine AOps.step rfl rfl rfl (AOp.extract rfl rfl rfl) ?_
              refine AOps.store rfl rfl rfl sz_46 rfl (.head _) rfl rfl rfl (Nat.le_of_ble_eq_true rfl) ?_
              refine AOps.nil ?_
              refine AWP.seq ?_
              refine AWP.region ?_
              refine AOps.step rfl rfl rfl (AOp.fieldAddrP rfl fo_46_6 rfl) ?_
              refine AOps.step rfl rfl rfl (AOp.loadP rfl sc_30 rfl (.head _) rfl) ?_
              refine AOps.step rfl rfl rfl (AOp.call rfl (.cons (ArgOk.rfl' rfl) .nil) (c_rOnce _ (by first | omega | (have := HC.parts (getT c.things id).parent; omega)))) ?_
              refine AOps.step rfl rfl rfl (AOp.assignD rfl rfl) ?_
              refine AOps.step rfl rfl rfl (AOp.assignD rfl rfl) ?_
              refine AOps.nil ?_
              refine AWP.ret ?_
              refine ⟨RetD.eq rfl ?_, RetD.eq rfl ?_, trivial⟩
              all_goals (rfl)
            · replace h9 := of_decide_eq_false h9
              rw [in_d (by omega) (by omega)]
              refine AWP.skip ?_
              refine AWP.seq ?_
              refine AWP.region ?_
              refine AOps.step rfl rfl rfl (AOp.fieldAddrP rfl fo_46_6 rfl) ?_
              refine AOps.step rfl rfl rfl (AOp.loadP rfl sc_30 rfl (.head _) rfl) ?_
              refine AOps.step rfl rfl rfl (AOp.call rfl (.cons (ArgOk.rfl' rfl) .nil) (c_rOnce _ (by first | omega | (have := HC.parts (getT c.things id).parent; omega)))) ?_
              refine AOps.step rfl rfl rfl (AOp.assignD rfl rfl) ?_
              refine AOps.step rfl rfl rfl (AOp.assignD rfl rfl) ?_
              refine AOps.nil ?_
              refine AWP.ret ?_
              refine ⟨RetD.eq rfl ?_, RetD.eq rfl ?_, trivial⟩
              all_goals (rfl)
          · replace h8 := of_decide_eq_false h8
            rw [in_d (by omega) (by omega)]
            refine AWP.skip ?_
            refine AWP.seq ?_
            refine AWP.region ?_
            refine AOps.step rfl rfl rfl (AOp.fieldAddrP rfl fo_46_6 rfl) ?_
            refine AOps.step rfl rfl rfl (AOp.loadP rfl sc_30 rfl (.head _) rfl) ?_
            refine AOps.step rfl rfl rfl (AOp.call rfl (.cons (ArgOk.rfl' rfl) .nil) (c_rOnce _ (by first | omega | (have := HC.parts (getT c.things id).parent; omega)))) ?_
            refine AOps.step rfl rfl rfl (AOp.assignD rfl rfl) ?_
            refine AOps.step rfl rfl rfl (AOp.assignD rfl rfl) ?_
            refine AOps.nil ?_
            refine AWP.ret ?_
            refine ⟨RetD.eq rfl ?_, RetD.eq rfl ?_, trivial⟩
            all_goals (rfl)

end Go.Proofs.YtfjnbgldlnanhaaDoor


namespace Go.Proofs.YtfjnbgldlnanhaaDoor
open Go.RowKit
set_option linter.unusedVariables false

/-! Types. -/
namespace TyKJ
theorem ag_25 : AggT Tryd.prog 25 2 := .of (by kernel_rfl)
theorem et_30 : ElemTy Tryd.prog 30 3 1 8 (.int .i64 0) := ⟨by kernel_rfl, by kernel_rfl, by kernel_rfl, by decide⟩
theorem sc_3 : Scal Tryd.prog 3 := .of (by kernel_rfl)
end TyKJ
open TyKJ

set_option maxRecDepth 100000 in
set_option maxHeartbeats 1000000 in
theorem c_eqInt (l : List Int) : ACall Tryd.prog 10 [.sl (l.map intD), .sl (l.map intD)] (.v (.bool true)) := by
  refine acall_of (n := 26) (ds' := [.v (.bool true)]) Tryd.func10 rfl (by kernel_rfl) rfl [4] rfl rfl ?_
  intro B w0 F0 fr
  refine AWP.bound 0 rfl (fun hbd0 => ?_)
  rw [List.length_map] at hbd0
  refine AWP.seq ?_
  refine AWP.region ?_
  refine AOps.step rfl rfl rfl (AOp.assignD rfl rfl) ?_
  refine AOps.nil ?_
  refine AWP.seq ?_
  refine AWP.seq ?_
  refine AWP.region ?_
  refine AOps.step rfl rfl rfl (AOp.moveD rfl rfl) ?_
  refine AOps.step rfl rfl rfl (AOp.lenSl rfl et_30.ht rfl) ?_
  refine AOps.step rfl rfl rfl (AOp.moveD rfl rfl) ?_
  refine AOps.step rfl rfl rfl (AOp.lenSl rfl et_30.ht rfl) ?_
  refine AOps.step rfl rfl rfl (AOp.neq rfl rfl rfl) ?_
  refine AOps.nil ?_
  refine AWP.cond rfl (fun h1 => ?_) (fun h1 => ?_)
  · replace h1 := of_decide_eq_true h1
    exact absurd rfl h1
  · replace h1 := of_decide_eq_false h1
    refine AWP.skip ?_
    refine AWP.seq ?_
    refine AWP.seq ?_
    refine AWP.region ?_
    refine AOps.step rfl rfl rfl (AOp.moveD rfl rfl) ?_
    refine AOps.step rfl rfl rfl (AOp.lenSl rfl et_30.ht rfl) ?_
    refine AOps.step rfl rfl rfl (AOp.moveD rfl rfl) ?_
    refine AOps.nil ?_
    refine AWP.block ?_
    refine AWP.loop (G := Nat) (fun k => Env.of [(13, .d (.v (.int .i64 (k : Int)))), (0, .d (.sl (l.map intD))), (1, .d (.sl (l.map intD))), (12, .d (.v (.int .i64 ((l.map intD).length : Int))))]) (fun k => []) (fun k => k ≤ l.length) (fun k => l.length - k) 0 (Nat.zero_le _) (Sub.less ⟨(SLe.of_eq rfl), SLe.refl _, SLe.refl _, SLe.refl _, trivial⟩ (fun _ h => h)) ?_
    intro k hk
    refine AWP.seq ?_
    refine AWP.region ?_
    refine AOps.step rfl rfl rfl (AOp.lss rfl rfl rfl) ?_
    refine AOps.nil ?_
    refine AWP.seq ?_
    refine AWP.cond rfl (fun h2 => ?_) (fun h2 => ?_)
    · replace h2 := of_decide_eq_true h2
      rw [List.length_map] at h2
      have hlt : k < l.length := by omega
      refine AWP.skip ?_
      refine AWP.seq ?_
      refine AWP.block ?_
      refine AWP.seq ?_
      refine AWP.region ?_
      refine AOps.step rfl rfl rfl (AOp.moveD rfl rfl) ?_
      refine AOps.step rfl rfl rfl (AOp.assignD rfl rfl) ?_
      refine AOps.nil ?_
      refine AWP.seq ?_
      refine AWP.draw (by kernel_rfl) (by kernel_rfl) ?_
      refine DRun.step rfl rfl rfl (AOp.moveD rfl rfl) ?_
      refine DRun.step rfl rfl rfl (AOp.moveD rfl rfl) ?_
      refine DRun.step rfl rfl rfl (AOp.indexAddr rfl et_30 rfl rfl k rfl (at_lst hlt) rfl) ?_
      refine DRun.step rfl rfl rfl (AOp.load rfl sc_3 rfl) ?_
      refine DRun.step rfl rfl rfl (AOp.moveD rfl rfl) ?_
      refine DRun.step rfl rfl rfl (AOp.moveD rfl rfl) ?_
      refine DRun.step rfl rfl rfl (AOp.indexAddr rfl et_30 rfl rfl k rfl (at_lst hlt) rfl) ?_
      refine DRun.step rfl rfl rfl (AOp.load rfl sc_3 rfl) ?_
      refine DRun.step rfl rfl rfl (AOp.neq rfl rfl rfl) ?_
      refine DRun.nil ?_
      refine AWP.cond rfl (fun h3 => ?_) (fun h3 => ?_)
      · replace h3 := of_decide_eq_true h3
        exact absurd rfl h3
      · replace h3 := of_decide_eq_false h3
        refine AWP.skip ?_
        refine AWP.region ?_
        refine AOps.step rfl rfl rfl (AOp.add64 rfl rfl rfl (by omega) (by omega)) ?_
        refine AOps.step rfl rfl rfl (AOp.moveD rfl rfl) ?_
        refine AOps.nil ?_
        refine ⟨k + 1, (by omega), (by dsimp only; omega), Sub.less ⟨(SLe.of_eq rfl), SLe.refl _, SLe.refl _, SLe.refl _, trivial⟩ (fun _ h => h)⟩
    · replace h2 := of_decide_eq_false h2
      refine AWP.exit ?_
      refine AWP.seq ?_
      refine AWP.region ?_
      refine AOps.step rfl rfl rfl (AOp.assignD rfl rfl) ?_
      refine AOps.nil ?_
      refine AWP.ret ?_
      refine ⟨RetD.eq rfl ?_, trivial⟩
      all_goals (rfl)

set_option maxRecDepth 100000 in
set_option maxHeartbeats 1000000 in
theorem lawCats (c : Ctl) (id : Int) (hc : CtlOk c) (hi : i64 id) : ACallT Tryd.prog MaxT 3 [.agg c.ds, .v (.int .i64 id)] (.v (.bool true)) := by
  refine acall_ofT (n := 82) (ds' := [.v (.bool true)]) Tryd.func3 rfl (by kernel_rfl) rfl [4] rfl rfl ?_
  intro B w0 F0 hT
  refine AWP.seq ?_
  refine AWP.region ?_
  refine AOps.step rfl rfl rfl (AOp.box rfl rfl rfl) ?_
  refine AOps.step rfl rfl rfl (AOp.assignD rfl rfl) ?_
  refine AOps.nil ?_
  refine AWP.seq ?_
  refine AWP.region ?_
  refine AOps.step rfl rfl rfl (AOp.loadAgg rfl ag_25 rfl rfl) ?_
  refine AOps.step rfl rfl rfl (AOp.moveD rfl rfl) ?_
  -- wants the world
  refine AOps.callT rfl rfl rfl hT maxT_stays rfl (.cons (ArgOk.rfl' rfl) (.cons (ArgOk.rfl' rfl) .nil)) (c_pFind c id hc hi) ?_
  refine AOps.step rfl rfl rfl (AOp.moveD rfl rfl) ?_
  refine AOps.step rfl rfl rfl (AOp.extract rfl rfl rfl) ?_
  refine AOps.step rfl rfl rfl (AOp.extract rfl rfl rfl) ?_
  refine AOps.step rfl rfl rfl (AOp.assignD rfl rfl) ?_
  refine AOps.step rfl rfl rfl (AOp.assignD rfl rfl) ?_
  refine AOps.nil ?_
  refine AWP.seq ?_
  refine AWP.region ?_
  refine AOps.step rfl rfl rfl (AOp.loadAgg rfl ag_25 rfl rfl) ?_
  refine AOps.step rfl rfl rfl (AOp.moveD rfl rfl) ?_
  -- wants the world
  refine AOps.callT rfl rfl rfl hT maxT_stays rfl (.cons (ArgOk.rfl' rfl) (.cons (ArgOk.rfl' rfl) .nil)) (c_rFind c id hc) ?_
  refine AOps.step rfl rfl rfl (AOp.moveD rfl rfl) ?_
  refine AOps.step rfl rfl rfl (AOp.extract rfl rfl rfl) ?_
  refine AOps.step rfl rfl rfl (AOp.extract rfl rfl rfl) ?_
  refine AOps.step rfl rfl rfl (AOp.assignD rfl rfl) ?_
  refine AOps.step rfl rfl rfl (AOp.assignD rfl rfl) ?_
  refine AOps.nil ?_
  refine AWP.seq ?_
  refine AWP.seq ?_
  refine AWP.drawK (by kernel_rfl) (by kernel_rfl) ?_
  refine KRun.step rfl rfl rfl (AOp.toK (AOp.loadAgg rfl ag_25 rfl rfl)) ?_
  refine KRun.step rfl rfl rfl (AOpK.callT maxT_stays rfl hT rfl (.cons (ArgOk.rfl' rfl) .nil) (c_pChk c hc)) ?_
  refine KRun.step rfl rfl rfl (AOp.toK (AOp.loadAgg rfl ag_25 rfl rfl)) ?_
  refine KRun.step rfl rfl rfl (AOpK.callT maxT_stays rfl hT rfl (.cons (ArgOk.rfl' rfl) .nil) (c_rChk c hc)) ?_
  refine KRun.step rfl rfl rfl (AOp.toK (AOp.neq rfl rfl rfl)) ?_
  refine KRun.step rfl rfl rfl (AOp.toK (AOp.moveD rfl rfl)) ?_
  refine KRun.split 28 rfl (fun g1 => ?_) (fun g1 => ?_)
  · replace g1 := of_decide_eq_true g1
    exact absurd rfl g1
  · replace g1 := of_decide_eq_false g1
    refine KRun.step ⟨28, rfl, .inl ⟨_, rfl, rfl⟩⟩ rfl rfl (AOp.toK (AOp.moveD rfl rfl)) ?_
    refine KRun.step ⟨28, rfl, .inl ⟨_, rfl, rfl⟩⟩ rfl rfl (AOp.toK (AOp.moveD rfl rfl)) ?_
    refine KRun.step ⟨28, rfl, .inl ⟨_, rfl, rfl⟩⟩ rfl rfl (AOp.toK (AOp.neq rfl rfl rfl)) ?_
    refine KRun.step rfl rfl rfl (AOp.toK (AOp.pickF rfl rfl rfl)) ?_
    refine KRun.step rfl rfl rfl (AOp.toK (AOp.moveD rfl rfl)) ?_
    refine KRun.split 33 rfl (fun g2 => ?_) (fun g2 => ?_)
    · replace g2 := of_decide_eq_true g2
      exact absurd rfl g2
    · replace g2 := of_decide_eq_false g2
      refine KRun.step ⟨33, rfl, .inl ⟨_, rfl, rfl⟩⟩ rfl rfl (AOp.toK (AOp.moveD rfl rfl)) ?_
      refine KRun.step ⟨33, rfl, .inl ⟨_, rfl, rfl⟩⟩ rfl rfl (AOp.toK (AOp.moveD rfl rfl)) ?_
      refine KRun.step ⟨33, rfl, .inl ⟨_, rfl, rfl⟩⟩ rfl rfl (AOp.toK (AOp.neq rfl rfl rfl)) ?_
      refine KRun.step rfl rfl rfl (AOp.toK (AOp.pickF rfl rfl rfl)) ?_
      refine KRun.nil ?_
      refine AWP.cond rfl (fun h3 => ?_) (fun h3 => ?_)
      · replace h3 := of_decide_eq_true h3
        exact absurd rfl h3
      · replace h3 := of_decide_eq_false h3
        refine AWP.skip ?_
        refine AWP.seq ?_
        refine AWP.region ?_
        refine AOps.step rfl rfl rfl (AOp.loadAgg rfl ag_25 rfl rfl) ?_
        refine AOps.step rfl rfl rfl (AOp.moveD rfl rfl) ?_
        -- wants the world
        refine AOps.callT rfl rfl rfl hT maxT_stays rfl (.cons (ArgOk.rfl' rfl) (.cons (ArgOk.rfl' rfl) .nil)) (c_pUses c id hc hi) ?_
        refine AOps.step rfl rfl rfl (AOp.moveD rfl rfl) ?_
        refine AOps.step rfl rfl rfl (AOp.extract rfl rfl rfl) ?_
        refine AOps.step rfl rfl rfl (AOp.extract rfl rfl rfl) ?_
        refine AOps.step rfl rfl rfl (AOp.assignD rfl rfl) ?_
        refine AOps.step rfl rfl rfl (AOp.assignD rfl rfl) ?_
        refine AOps.nil ?_
        refine AWP.seq ?_
        refine AWP.region ?_
        refine AOps.step rfl rfl rfl (AOp.loadAgg rfl ag_25 rfl rfl) ?_
        refine AOps.step rfl rfl rfl (AOp.moveD rfl rfl) ?_
        -- wants the world
        refine AOps.callT rfl rfl rfl hT maxT_stays rfl (.cons (ArgOk.rfl' rfl) (.cons (ArgOk.rfl' rfl) .nil)) (c_rUses c id hc) ?_
        refine AOps.step rfl rfl rfl (AOp.moveD rfl rfl) ?_
        refine AOps.step rfl rfl rfl (AOp.extract rfl rfl rfl) ?_
        refine AOps.step rfl rfl rfl (AOp.extract rfl rfl rfl) ?_
        refine AOps.step rfl rfl rfl (AOp.assignD rfl rfl) ?_
        refine AOps.step rfl rfl rfl (AOp.assignD rfl rfl) ?_
        refine AOps.nil ?_
        refine AWP.seq ?_
        refine AWP.seq ?_
        refine AWP.region ?_
        refine AOps.step rfl rfl rfl (AOp.moveD rfl rfl) ?_
        refine AOps.step rfl rfl rfl (AOp.moveD rfl rfl) ?_
        refine AOps.step rfl rfl rfl (AOp.neq rfl rfl rfl) ?_
        refine AOps.step rfl rfl rfl (AOp.moveD rfl rfl) ?_
        refine AOps.split 53 rfl (fun g4 => ?_) (fun g4 => ?_)
        · replace g4 := of_decide_eq_true g4
          exact absurd rfl g4
        · replace g4 := of_decide_eq_false g4
          refine AOps.step ⟨53, rfl, .inl ⟨_, rfl, rfl⟩⟩ rfl rfl (AOp.moveD rfl rfl) ?_
          refine AOps.step ⟨53, rfl, .inl ⟨_, rfl, rfl⟩⟩ rfl rfl (AOp.moveD rfl rfl) ?_
          refine AOps.step ⟨53, rfl, .inl ⟨_, rfl, rfl⟩⟩ rfl rfl (AOp.call rfl (.cons (ArgOk.rfl' rfl) (.cons (ArgOk.rfl' rfl) .nil)) (c_eqInt _)) ?_
          refine AOps.step ⟨53, rfl, .inl ⟨_, rfl, rfl⟩⟩ rfl rfl (AOp.not rfl rfl) ?_
          refine AOps.step rfl rfl rfl (AOp.pickF rfl rfl rfl) ?_
          refine AOps.nil ?_
          refine AWP.cond rfl (fun h => nomatch h) (fun _ => ?_)
          refine AWP.skip ?_
          refine AWP.seq ?_
          refine AWP.region ?_
          refine AOps.step rfl rfl rfl (AOp.loadAgg rfl ag_25 rfl rfl) ?_
          refine AOps.step rfl rfl rfl (AOp.moveD rfl rfl) ?_
          -- wants the world
          refine AOps.callT rfl rfl rfl hT maxT_stays rfl (.cons (ArgOk.rfl' rfl) (.cons (ArgOk.rfl' rfl) .nil)) (c_pIn c id hc hi) ?_
          refine AOps.step rfl rfl rfl (AOp.moveD rfl rfl) ?_
          refine AOps.step rfl rfl rfl (AOp.extract rfl rfl rfl) ?_
          refine AOps.step rfl rfl rfl (AOp.extract rfl rfl rfl) ?_
          refine AOps.step rfl rfl rfl (AOp.assignD rfl rfl) ?_
          refine AOps.step rfl rfl rfl (AOp.assignD rfl rfl) ?_
          refine AOps.nil ?_
          refine AWP.seq ?_
          refine AWP.region ?_
          refine AOps.step rfl rfl rfl (AOp.loadAgg rfl ag_25 rfl rfl) ?_
          refine AOps.step rfl rfl rfl (AOp.moveD rfl rfl) ?_
          -- wants the world
          refine AOps.callT rfl rfl rfl hT maxT_stays rfl (.cons (ArgOk.rfl' rfl) (.cons (ArgOk.rfl' rfl) .nil)) (c_rWithin c id hc) ?_
          refine AOps.step rfl rfl rfl (AOp.moveD rfl rfl) ?_
          refine AOps.step rfl rfl rfl (AOp.extract rfl rfl rfl) ?_
          refine AOps.step rfl rfl rfl (AOp.extract rfl rfl rfl) ?_
          refine AOps.step rfl rfl rfl (AOp.assignD rfl rfl) ?_
          refine AOps.step rfl rfl rfl (AOp.assignD rfl rfl) ?_
          refine AOps.nil ?_
          refine AWP.seq ?_
          refine AWP.region ?_
          refine AOps.step rfl rfl rfl (AOp.moveD rfl rfl) ?_
          refine AOps.step rfl rfl rfl (AOp.moveD rfl rfl) ?_
          refine AOps.step rfl rfl rfl (AOp.eql rfl rfl rfl) ?_
          refine AOps.step rfl rfl rfl (AOp.moveD rfl rfl) ?_
          refine AOps.split 74 rfl (fun g5 => ?_) (fun g5 => ?_)
          · replace g5 := of_decide_eq_true g5
            refine AOps.step ⟨74, rfl, .inl ⟨_, rfl, rfl⟩⟩ rfl rfl (AOp.moveD rfl rfl) ?_
            refine AOps.step ⟨74, rfl, .inl ⟨_, rfl, rfl⟩⟩ rfl rfl (AOp.moveD rfl rfl) ?_
            refine AOps.step ⟨74, rfl, .inl ⟨_, rfl, rfl⟩⟩ rfl rfl (AOp.call rfl (.cons (ArgOk.rfl' rfl) (.cons (ArgOk.rfl' rfl) .nil)) (c_eqInt _)) ?_
            refine AOps.step rfl rfl rfl (AOp.pickT rfl rfl rfl) ?_
            refine AOps.step rfl rfl rfl (AOp.moveD rfl rfl) ?_
            refine AOps.step ⟨79, rfl, .inl ⟨_, rfl, rfl⟩⟩ rfl rfl (AOp.call rfl .nil c_awake) ?_
            refine AOps.step rfl rfl rfl (AOp.pickT rfl rfl rfl) ?_
            refine AOps.step rfl rfl rfl (AOp.assignD rfl rfl) ?_
            refine AOps.nil ?_
            refine AWP.ret ?_
            refine ⟨RetD.eq rfl ?_, trivial⟩
            all_goals (first | rfl | simp)
          · replace g5 := of_decide_eq_false g5
            exact absurd rfl g5

end Go.Proofs.YtfjnbgldlnanhaaDoor
