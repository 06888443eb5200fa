/- Walks and laws over abstract values, merged by tools/merge.py. No statement of the seat. -/
import Derived.Shelf.Spec.SlicesInsert
import Derived.Shelf.Spec.SlicesInsertGrow
import Derived.Test.YtcilhhkmgebkeaaGreatDoorXW5

namespace Go.Proofs.YtcilhhkmgebkeaaGreatDoor
open Go.RowKit
set_option linter.unusedVariables false

/-! Types. -/
namespace TyKG
theorem ag_25 : AggT Tryz.prog 25 2 := .of (by kernel_rfl)
theorem ag_67 : AggT Tryz.prog 67 7 := .of (by kernel_rfl)
theorem ag_85 : AggT Tryz.prog 85 2 := .of (by kernel_rfl)
theorem bu_85 : StructT Tryz.prog 85 (fun i => (#[(0, 1), (1, 1)] : Array (Nat × Nat))[i]?) [(.int .i64 0), (.string ⟨#[]⟩)] := .of (by kernel_rfl) (by kernel_rfl) (by decide)
theorem et_22 : ElemTy Tryz.prog 22 67 7 88 (.agg #[(.int .i64 0), (.int .i64 0), (.string ⟨#[]⟩), (.string ⟨#[]⟩), (.int .i64 0), (.int .i64 0), (.slice none 0 0)]) := ⟨by kernel_rfl, by kernel_rfl, by kernel_rfl, by decide⟩
theorem et_23 : ElemTy Tryz.prog 23 46 2 16 (.agg #[(.int .i64 0), (.int .i64 0)]) := ⟨by kernel_rfl, by kernel_rfl, by kernel_rfl, by decide⟩
theorem fo_25_0 : fieldOff Tryz.prog 25 0 = some 0 := by kernel_rfl
theorem fo_25_1 : fieldOff Tryz.prog 25 1 = some 1 := by kernel_rfl
theorem fo_67_0 : fieldOff Tryz.prog 67 0 = some 0 := by kernel_rfl
theorem fo_67_1 : fieldOff Tryz.prog 67 1 = some 1 := by kernel_rfl
theorem fo_67_3 : fieldOff Tryz.prog 67 3 = some 3 := by kernel_rfl
theorem sc_22 : Scal Tryz.prog 22 := .of (by kernel_rfl)
theorem sc_23 : Scal Tryz.prog 23 := .of (by kernel_rfl)
theorem sc_3 : Scal Tryz.prog 3 := .of (by kernel_rfl)
theorem sc_9 : Scal Tryz.prog 9 := .of (by kernel_rfl)
theorem sz_67 : ∀ w, (sizeOf 67).run Tryz.prog w = .ok 7 w := SizeT.of (by kernel_rfl)
theorem sz_85 : ∀ w, (sizeOf 85).run Tryz.prog w = .ok 2 w := SizeT.of (by kernel_rfl)
theorem zt_67 : (Tryz.prog.info? 67).bind (·.zero) = some (.agg #[(.int .i64 0), (.int .i64 0), (.string ⟨#[]⟩), (.string ⟨#[]⟩), (.int .i64 0), (.int .i64 0), (.slice none 0 0)]) := by kernel_rfl
theorem zt_85 : (Tryz.prog.info? 85).bind (·.zero) = some (.agg #[(.int .i64 0), (.string ⟨#[]⟩)]) := by kernel_rfl
end TyKG
open TyKG


theorem krow_C : (85 : TypeId) < Tryz.prog.types.size := of_decide_eq_true (by kernel_rfl)
theorem kwide_C : (match Tryz.prog.underlying 85 with | some (.array _ _) | some (.struct _) => true | _ => false) = true := by kernel_rfl
theorem klaid : laidOutB Tryz.prog = true := by kernel_rfl
set_option maxRecDepth 100000 in
theorem kd_C : Maps.Keyed Tryz.prog 85 := Maps.Keyed.of_law (deep_law_laid klaid (m := 3) (by omega) krow_C (by kernel_rfl) kwide_C)
def isStrT (o : Option TypeDesc) : Bool := match o with
  | some .string => true
  | _ => false
def isI64T (o : Option TypeDesc) : Bool := match o with
  | some (.int .i64) => true
  | _ => false
theorem isStrT_eq {o : Option TypeDesc} (h : isStrT o = true) : o = some .string := by
  unfold isStrT at h
  split at h
  · rfl
  · cases h
theorem isI64T_eq {o : Option TypeDesc} (h : isI64T o = true) : o = some (.int .i64) := by
  unfold isI64T at h
  split at h
  · rfl
  · cases h
def keyCB (P : Program) (k : TypeId) : Bool := match P.underlying k with
  | some (.struct fs) => (match fs.toList with
    | [f, g] => f.name != "_" && g.name != "_" && f.offset == 0 && g.offset == 1 && isI64T (P.underlying f.type) && isStrT (P.underlying g.type) && P.cellsOf f.type == 1 && P.cellsOf g.type == 1
    | _ => false) && P.cellsOf k == 2
  | _ => false
theorem keyC_ok' {P : Program} {k : TypeId} (h : keyCB P k = true) (hk : P.keyType k = true) (h0 : k < P.types.size) (s : ByteArray) (n : Int) (hs : s.size ≤ maxLen) (hn : (Lit.int .i64 n).wf = true) : ∃ l, keyOf P k (.agg #[.int .i64 n, .string s]) = some l := by
  unfold keyCB at h
  cases hu : P.underlying k with
  | none => rw [hu] at h; cases h
  | some td =>
    rw [hu] at h
    cases td <;> try (cases h; done)
    rename_i fs
    simp only [Bool.and_eq_true] at h
    obtain ⟨h1, h2⟩ := h
    cases hf : fs.toList with
    | nil => rw [hf] at h1; cases h1
    | cons f r =>
      cases r with
      | nil => rw [hf] at h1; cases h1
      | cons g r =>
        cases r with
        | cons _ _ => rw [hf] at h1; cases h1
        | nil =>
          rw [hf] at h1
          simp only [Bool.and_eq_true, beq_iff_eq] at h1 h2
          obtain ⟨⟨⟨⟨⟨⟨⟨a1, a2⟩, a3⟩, a4⟩, a5⟩, a6⟩, a7⟩, a8⟩ := h1
          have a5' := isI64T_eq a5
          have a6' := isStrT_eq a6
          obtain ⟨m, hm⟩ : ∃ m, P.types.size = m + 1 := ⟨P.types.size - 1, (Nat.sub_add_cancel (Nat.lt_of_le_of_lt (Nat.zero_le k) h0)).symm⟩
          have hall : fs.all (·.name != "_") = true := by
            rw [← Array.all_toList, hf]
            simp only [List.all_cons, List.all_nil, a1, a2, Bool.and_self]
          unfold keyOf
          rw [hu]
          simp only [hk, Value.formed, hu, h2, Bool.true_and]
          refine ⟨.string (keyBytes [.int .i64 n, .string s.data.toList]), ?_⟩
          have kf : P.keyLits (m + 1) f.type [.int .i64 n] = some [.int .i64 n] := by
            unfold Program.keyLits
            rw [a5']
            simp [hn]
          have kg : P.keyLits (m + 1) g.type [.string s] = some [.string s.data.toList] := by
            unfold Program.keyLits
            rw [a6']
            simp [hs]
          have c1 : (([Value.int .i64 n, .string s] : List Value).drop f.offset).take (P.cellsOf f.type) = [.int .i64 n] := by rw [a3, a7]; rfl
          have c2 : (([Value.int .i64 n, .string s] : List Value).drop g.offset).take (P.cellsOf g.type) = [.string s] := by rw [a4, a8]; rfl
          have hk2 : P.keyLits (m + 1 + 1) k [.int .i64 n, .string s] = some [.int .i64 n, .string s.data.toList] := by
            unfold Program.keyLits
            rw [hu]
            simp only [List.length_cons, List.length_nil, h2, hall, and_self, if_true, hf, List.mapM_cons, List.mapM_nil, c1, c2, kf, kg]
            rfl
          simp [Value.cells, hm, hk2]

abbrev KC := Int × ByteArray
def kC (p : KC) : Value := .agg #[.int .i64 p.1, .string p.2]
def dB (p : KC × Bool) : D := .v (.bool p.2)
theorem kC_ok {n : Int} {s : ByteArray} (h : i64 n) (hs : s.size ≤ maxLen) : ∃ l, keyOf Tryz.prog 85 (kC (n, s)) = some l := keyC_ok' (by kernel_rfl) (by kernel_rfl) krow_C s n hs (wf64 h)
theorem kC_inj {a b : KC} (h : kC a = kC b) : a = b := by
  unfold kC at h
  simp only [Value.agg.injEq] at h
  have h2 : [Value.int .i64 a.1, .string a.2] = [.int .i64 b.1, .string b.2] := congrArg Array.toList h
  simp at h2
  exact Prod.ext h2.1 h2.2
def seenM (L : List (KC × Bool)) : List (Value × D) := encG kC dB L
def seenL (l : List Thg) : List (KC × Bool) := l.foldl (fun L x => putG L (x.kind, x.code) true) []
theorem seenL_next {l : List Thg} {k : Nat} (hk : k < l.length) : seenL (l.take (k + 1)) = putG (seenL (l.take k)) (l[k].kind, l[k].code) true := by
  unfold seenL
  rw [List.take_add_one, List.getElem?_eq_getElem hk, Option.toList_some, List.foldl_append]; rfl
theorem foldC_nk : ∀ (l : List Thg) (L : List (KC × Bool)), NkG L → NkG (l.foldl (fun L x => putG L (x.kind, x.code) true) L)
  | [], _, h => h
  | _ :: l, _, h => foldC_nk l _ (putG_nk h _ _)
theorem seenL_nk (l : List Thg) : NkG (seenL l) := foldC_nk l [] List.Pairwise.nil
theorem foldC_get : ∀ (l : List Thg) (L : List (KC × Bool)) (k : Int) (c : ByteArray), (findG (l.foldl (fun L x => putG L (x.kind, x.code) true) L) (k, c)).getD false = ((findG L (k, c)).getD false || l.any fun x => decide (x.kind = k) && decide (x.code = c))
  | [], L, k, c => by simp
  | x :: l, L, k, c => by
    rw [List.foldl_cons, foldC_get l _ k c, findG_put, List.any_cons]
    by_cases h : (k, c) = (x.kind, x.code)
    · rw [if_pos h]
      obtain ⟨rfl, rfl⟩ := Prod.mk.inj h
      simp
    · rw [if_neg h]
      have : (decide (x.kind = k) && decide (x.code = c)) = false := by
        rw [Bool.eq_false_iff]
        intro hh
        rw [Bool.and_eq_true] at hh
        exact h (Prod.ext (of_decide_eq_true hh.1).symm (of_decide_eq_true hh.2).symm)
      rw [this, Bool.false_or]
theorem seen_tw (l : List Thg) (i : Nat) (t : Thg) : (findG (seenL (l.take i)) (t.kind, t.code)).getD false = twB l i t := by
  unfold seenL twB
  rw [foldC_get]
  simp [findG]
theorem foldC_mem (P : KC → Prop) : ∀ (l : List Thg) (L : List (KC × Bool)), (∀ x ∈ l, P (x.kind, x.code)) → (∀ p ∈ L, P p.1) → ∀ p ∈ l.foldl (fun L x => putG L (x.kind, x.code) true) L, P p.1
  | [], _, _, h => h
  | x :: l, L, h, h2 => foldC_mem P l _ (fun y hy => h y (List.mem_cons_of_mem _ hy)) fun p hp => by
    unfold putG at hp
    dsimp only at hp
    by_cases hh : hasG L (x.kind, x.code) = true
    · rw [if_pos hh] at hp
      obtain ⟨q, hq, rfl⟩ := List.mem_map.1 hp
      by_cases h3 : q.1 = (x.kind, x.code)
      · rw [if_pos h3]; exact h x List.mem_cons_self
      · rw [if_neg h3]; exact h2 q hq
    · rw [if_neg hh, List.mem_append, List.mem_singleton] at hp
      rcases hp with hp | hp
      · exact h2 p hp
      · rw [hp]; exact h x List.mem_cons_self
theorem seen_keys {l : List Thg} (h : ∀ x ∈ l, ThgOk x) (i : Nat) : ∀ p ∈ seenM (seenL (l.take i)), ∃ q, keyOf Tryz.prog 85 p.1 = some q := fun p hp => by
  unfold seenM encG at hp
  obtain ⟨q, hq, rfl⟩ := List.mem_map.1 hp
  have := foldC_mem (fun k => i64 k.1 ∧ k.2.size ≤ 9223372036854775807) (l.take i) [] (fun x hx => ⟨(h x (List.mem_of_mem_take hx)).kind, (h x (List.mem_of_mem_take hx)).code⟩) (fun p hp => by cases hp) q hq
  exact kC_ok this.1 this.2
theorem mt_seen : Tryz.prog.underlying 83 = some (.map 85 4) := by kernel_rfl
theorem zt_bool : (Tryz.prog.info? 4).bind (·.zero) = some (.bool false) := by kernel_rfl
theorem zd_bool (F : Nat → Prop) (w : World) : Rep F w (.bool false) (.v (.bool false)) := .v _
theorem get_seen (l : List Thg) (i : Nat) (t : Thg) : MGet (seenM (seenL (l.take i))) (kC (t.kind, t.code)) (.v (.bool false)) (.v (.bool (twB l i t))) := by
  rw [← seen_tw]
  exact mgetG (kv := kC) (dv := dB) kC_inj (seenL_nk _) _ _ _ (by cases findG (seenL (l.take i)) (t.kind, t.code) <;> rfl)
theorem put_seen {l : List Thg} {k : Nat} (hk : k < l.length) : MPut (seenM (seenL (l.take k))) (kC (l[k].kind, l[k].code)) (.v (.bool true)) (seenM (seenL (l.take (k + 1)))) := by
  rw [seenL_next hk]
  exact mputG (kv := kC) (dv := dB) kC_inj (seenL_nk _) (l[k].kind, l[k].code) true
theorem thg_parts {x : Thg} (h : thgF x = 0) : x.parts.length ≤ 50 := by
  unfold thgF at h
  by_cases h1 : kindB x.kind = false
  · rw [if_pos h1] at h; omega
  rw [if_neg h1] at h
  by_cases h2 : titleOk x.title = false
  · rw [if_pos h2] at h; omega
  rw [if_neg h2] at h
  by_cases h3 : ¬ x.code = ⟨#[]⟩ ∧ codeF x.kind x.code.data.toList ≠ 0
  · rw [if_pos h3] at h; exact absurd h h3.2
  rw [if_neg h3] at h
  by_cases h4 : x.since < 0 ∨ 200000 < x.since
  · rw [if_pos h4] at h; omega
  rw [if_neg h4] at h
  split at h
  · omega
  · split at h <;> omega
theorem parts_of {l : List Thg} (h : ffst (thF l) l.length = 0) {k : Nat} (hk : k < l.length) : l[k].parts.length ≤ 50 := thg_parts (thF_0 hk (ffst_all _ h k hk)).2.2
theorem lim_of {c : Ctl} (h : ¬ (300 < c.things.length ∨ 300 < c.moved.length)) : Lim c := ⟨by omega, by omega⟩
theorem chk_t {c : Ctl} {k : Nat} {n : Int} (hL : ¬ (300 < c.things.length ∨ 300 < c.moved.length)) (hk : k < c.things.length) (hf : ffst (thF c.things) k = 0) (h2 : thF c.things k = n) (hn : n ≠ 0) : chkF c = n := by
  have h3 := ffst_hit hf (by rw [h2]; exact hn) _ hk
  unfold chkF
  rw [if_neg hL, h3, h2, if_pos hn]
theorem chk_l {c : Ctl} {k : Nat} {n : Int} (hL : ¬ (300 < c.things.length ∨ 300 < c.moved.length)) (h1 : ffst (thF c.things) c.things.length = 0) (hk : k < c.things.length) (hf : ffst (lkF c.things) k = 0) (h2 : lkF c.things k = n) (hn : n ≠ 0) : chkF c = n := by
  have h3 := ffst_hit hf (by rw [h2]; exact hn) _ hk
  unfold chkF
  rw [if_neg hL, if_neg (by omega), h3, h2, if_pos hn]
theorem chk_m {c : Ctl} (hL : ¬ (300 < c.things.length ∨ 300 < c.moved.length)) (h1 : ffst (thF c.things) c.things.length = 0) (h2 : ffst (lkF c.things) c.things.length = 0) : chkF c = mvdF c := by
  unfold chkF
  rw [if_neg hL, if_neg (by omega), if_neg (by omega)]
/-! ## What a right catalogue is -/
structure CatOk (c : Ctl) : Prop where
  lim : Lim c
  ris : RisT c.things
  rism : RisM c.moved
  th : ∀ k (hk : k < c.things.length), thgF c.things[k] = 0
  lk : ∀ k (hk : k < c.things.length), linkF c.things c.things[k] = 0
  lp : ∀ x ∈ c.moved, (ledC c x.src).isSome = true
theorem catOk {c : Ctl} (h : chkF c = 0) : CatOk c := by
  unfold chkF at h
  by_cases hL : 300 < c.things.length ∨ 300 < c.moved.length
  · rw [if_pos hL] at h; omega
  rw [if_neg hL] at h
  by_cases h1 : ffst (thF c.things) c.things.length ≠ 0
  · rw [if_pos h1] at h; exact absurd h h1
  rw [if_neg h1] at h
  have h1 : ffst (thF c.things) c.things.length = 0 := by omega
  by_cases h2 : ffst (lkF c.things) c.things.length ≠ 0
  · rw [if_pos h2] at h; exact absurd h h2
  rw [if_neg h2] at h
  have h2 : ffst (lkF c.things) c.things.length = 0 := by omega
  unfold mvdF at h
  by_cases h3 : ffst (mvF c) c.moved.length ≠ 0
  · rw [if_pos h3] at h; exact absurd h h3
  rw [if_neg h3] at h
  have h3 : ffst (mvF c) c.moved.length = 0 := by omega
  refine ⟨lim_of hL, risT_of h1, risM_of h3, fun k hk => (thF_0 hk (ffst_all _ h1 k hk)).2.2, fun k hk => ?_, fun x hx => ?_⟩
  · have h4 := ffst_all _ h2 k hk
    unfold lkF at h4
    rw [dif_pos hk] at h4
    by_cases h5 : linkF c.things c.things[k] ≠ 0
    · rw [if_pos h5] at h4; exact absurd h4 h5
    · omega
  · obtain ⟨k, hk, rfl⟩ := List.mem_iff_getElem.1 hx
    have h4 := ffst_all _ h k hk
    unfold lpF at h4
    rw [dif_pos hk] at h4
    cases hq : (ledC c c.moved[k].src).isSome with
    | true => rfl
    | false => rw [hq, if_pos rfl] at h4; omega


set_option maxRecDepth 100000 in
set_option maxHeartbeats 1000000 in
theorem c_pChk (c : Ctl) (hc : CtlOk c) : ACallT Tryz.prog MaxT 18 [.agg c.ds] (.v (.int .i64 (chkF c))) := by
  refine acall_ofT (n := 93) (ds' := [.v (.int .i64 (chkF c))]) Tryz.func18 rfl (by kernel_rfl) rfl [2] rfl rfl ?_
  intro B w0 F0 hT
  have htl : (c.things.map Thg.ds).length = c.things.length := List.length_map ..
  have hml : (c.moved.map Mvd.ds).length = c.moved.length := List.length_map ..
  refine AWP.seq (AWP.region ?_)
  refine AOps.step rfl rfl rfl (AOp.box rfl rfl rfl) ?_
  refine AOps.aD rfl rfl rfl rfl rfl (.nil ?_)
  refine AWP.seq ?_
  refine AWP.seq (AWP.region ?_)
  refine AOps.step rfl rfl rfl (AOp.fieldAddr rfl fo_25_0 rfl) ?_
  refine AOps.step rfl rfl rfl (AOp.load rfl sc_22 rfl) ?_
  refine AOps.step rfl rfl rfl (AOp.lenSl rfl et_22.ht rfl) ?_
  refine AOps.step rfl rfl rfl (AOp.gtr rfl rfl rfl) ?_
  refine AOps.mD rfl rfl rfl rfl rfl ?_
  refine AOps.split 16 rfl (fun g1 => ?_) (fun g1 => ?_)
  · replace g1 := of_decide_eq_true g1
    have HR : chkF c = 2 := if_pos (by omega)
    refine AOps.pass ⟨16, rfl, .inl ⟨_, rfl, rfl⟩⟩ rfl rfl ?_
    refine AOps.pass ⟨16, rfl, .inl ⟨_, rfl, rfl⟩⟩ rfl rfl ?_
    refine AOps.pass ⟨16, rfl, .inl ⟨_, rfl, rfl⟩⟩ rfl rfl ?_
    refine AOps.pass ⟨16, rfl, .inl ⟨_, rfl, rfl⟩⟩ rfl rfl ?_
    refine AOps.step rfl rfl rfl (AOp.pickT rfl rfl rfl) (.nil ?_)
    refine AWP.cond rfl (fun _ => ?_) (fun h => nomatch h)
    refine AWP.seq (AWP.region ?_)
    refine AOps.aD rfl rfl rfl rfl rfl (.nil ?_)
    refine AWP.ret ?_
    refine ⟨RetD.eq rfl ?_, trivial⟩
    all_goals (first | rfl | first | rw [HR] | rw [chk_t hL hlt hk.2 (show thF c.things k = 1 from by unfold thF; rw [dif_pos hlt]; (first | (exfalso; omega) | ((repeat (first | rw [if_pos (by first | assumption | omega)] | rw [if_neg (by first | assumption | omega)])); first | done | rfl | omega | decide))) (by decide)] | rw [chk_t hL hlt hk.2 (show thF c.things k = 8 from by unfold thF; rw [dif_pos hlt]; (first | (exfalso; omega) | ((repeat (first | rw [if_pos (by first | assumption | omega)] | rw [if_neg (by first | assumption | omega)])); first | done | rfl | omega | decide))) (by decide)])
  replace g1 := of_decide_eq_false g1
  refine AOps.step ⟨16, rfl, .inl ⟨_, rfl, rfl⟩⟩ rfl rfl (AOp.fieldAddr rfl fo_25_1 rfl) ?_
  refine AOps.step ⟨16, rfl, .inl ⟨_, rfl, rfl⟩⟩ rfl rfl (AOp.load rfl sc_23 rfl) ?_
  refine AOps.step ⟨16, rfl, .inl ⟨_, rfl, rfl⟩⟩ rfl rfl (AOp.lenSl rfl et_23.ht rfl) ?_
  refine AOps.step ⟨16, rfl, .inl ⟨_, rfl, rfl⟩⟩ rfl rfl (AOp.gtr rfl rfl rfl) ?_
  refine AOps.step rfl rfl rfl (AOp.pickF rfl rfl rfl) (.nil ?_)
  refine AWP.cond rfl (fun h2 => ?_) (fun h2 => ?_)
  · replace h2 := of_decide_eq_true h2
    have HR : chkF c = 2 := if_pos (by omega)
    refine AWP.seq (AWP.region ?_)
    refine AOps.aD rfl rfl rfl rfl rfl (.nil ?_)
    refine AWP.ret ?_
    refine ⟨RetD.eq rfl ?_, trivial⟩
    all_goals (first | rfl | first | rw [HR] | rw [chk_t hL hlt hk.2 (show thF c.things k = 1 from by unfold thF; rw [dif_pos hlt]; (first | (exfalso; omega) | ((repeat (first | rw [if_pos (by first | assumption | omega)] | rw [if_neg (by first | assumption | omega)])); first | done | rfl | omega | decide))) (by decide)] | rw [chk_t hL hlt hk.2 (show thF c.things k = 8 from by unfold thF; rw [dif_pos hlt]; (first | (exfalso; omega) | ((repeat (first | rw [if_pos (by first | assumption | omega)] | rw [if_neg (by first | assumption | omega)])); first | done | rfl | omega | decide))) (by decide)])
  replace h2 := of_decide_eq_false h2
  have hL : ¬ (300 < c.things.length ∨ 300 < c.moved.length) := by omega
  have hLim := lim_of hL
  refine AWP.skip ?_
  refine AWP.seq ?_
  refine AWP.seq (AWP.region ?_)
  refine AOps.step rfl rfl rfl (AOp.fieldAddr rfl fo_25_0 rfl) ?_
  refine AOps.step rfl rfl rfl (AOp.load rfl sc_22 rfl) ?_
  refine AOps.step rfl rfl rfl (AOp.lenSl rfl et_22.ht rfl) ?_
  refine AOps.mD rfl rfl rfl rfl rfl (.nil ?_)
  refine AWP.block ?_
  refine AWP.loop (G := Nat) (fun k => Env.of [(25, .d (.v (.int .i64 (k : Int)))), (23, .d (.sl (c.things.map Thg.ds))), (24, .d (.v (.int .i64 ((c.things.map Thg.ds).length : Int)))), (1, .d (.fp c.ds))]) (fun k => []) (fun k => k ≤ c.things.length ∧ ffst (thF c.things) k = 0) (fun k => c.things.length - k) 0 ⟨Nat.zero_le _, rfl⟩ (Sub.less ⟨(SLe.of_eq rfl), SLe.refl _, SLe.refl _, SLe.refl _, trivial⟩ (fun _ h => h)) ?_
  intro k hk
  refine AWP.seq (AWP.region ?_)
  refine AOps.step rfl rfl rfl (AOp.lss rfl rfl rfl) (.nil ?_)
  refine AWP.seq ?_
  refine AWP.cond rfl (fun h3 => ?_) (fun h3 => ?_)
  · replace h3 := of_decide_eq_true h3
    rw [List.length_map] at h3
    have hlt : k < c.things.length := by omega
    have hbk := hc.things _ (List.getElem_mem hlt)
    refine AWP.skip ?_
    refine AWP.seq ?_
    refine AWP.block ?_
    refine AWP.seq (AWP.region ?_)
    refine AOps.mD rfl rfl rfl rfl rfl ?_
    refine AOps.step rfl rfl rfl (AOp.indexAddr rfl et_22 rfl rfl k rfl (at_lst hlt) rfl) ?_
    refine AOps.step rfl rfl rfl (AOp.loadAgg rfl ag_67 rfl rfl) ?_
    refine AOps.alloc 101 rfl rfl rfl rfl zt_67 rfl rfl rfl ?_
    refine AOps.aD rfl rfl rfl rfl rfl ?_
    refine AOps.store rfl rfl rfl sz_67 rfl (.head _) rfl rfl rfl (Nat.le_of_ble_eq_true rfl) ?_
    refine AOps.freezeCells 4 (ds := c.things[k].ds) rfl (.head _) (.nil ?_)
    refine AWP.seq ?_
    refine AWP.seq (AWP.region ?_)
    refine AOps.step rfl rfl rfl (AOp.fieldAddr rfl fo_67_0 rfl) ?_
    refine AOps.step rfl rfl rfl (AOp.load rfl sc_3 rfl) ?_
    refine AOps.step rfl rfl rfl (AOp.lss rfl rfl rfl) ?_
    refine AOps.mD rfl rfl rfl rfl rfl ?_
    refine AOps.split 33 rfl (fun g4 => ?_) (fun g4 => ?_)
    · replace g4 := of_decide_eq_true g4
      refine AOps.pass ⟨33, rfl, .inl ⟨_, rfl, rfl⟩⟩ rfl rfl ?_
      refine AOps.pass ⟨33, rfl, .inl ⟨_, rfl, rfl⟩⟩ rfl rfl ?_
      refine AOps.pass ⟨33, rfl, .inl ⟨_, rfl, rfl⟩⟩ rfl rfl ?_
      refine AOps.step rfl rfl rfl (AOp.pickT rfl rfl rfl) (.nil ?_)
      refine AWP.cond rfl (fun _ => ?_) (fun h => nomatch h)
      refine AWP.seq (AWP.region ?_)
      refine AOps.aD rfl rfl rfl rfl rfl (.nil ?_)
      refine AWP.ret ?_
      refine ⟨RetD.eq rfl ?_, trivial⟩
      all_goals (first | rfl | first | rw [HR] | rw [chk_t hL hlt hk.2 (show thF c.things k = 1 from by unfold thF; rw [dif_pos hlt]; (first | (exfalso; omega) | ((repeat (first | rw [if_pos (by first | assumption | omega)] | rw [if_neg (by first | assumption | omega)])); first | done | rfl | omega | decide))) (by decide)] | rw [chk_t hL hlt hk.2 (show thF c.things k = 8 from by unfold thF; rw [dif_pos hlt]; (first | (exfalso; omega) | ((repeat (first | rw [if_pos (by first | assumption | omega)] | rw [if_neg (by first | assumption | omega)])); first | done | rfl | omega | decide))) (by decide)])
    replace g4 := of_decide_eq_false g4
    refine AOps.step ⟨33, rfl, .inl ⟨_, rfl, rfl⟩⟩ rfl rfl (AOp.fieldAddr rfl fo_67_0 rfl) ?_
    refine AOps.step ⟨33, rfl, .inl ⟨_, rfl, rfl⟩⟩ rfl rfl (AOp.load rfl sc_3 rfl) ?_
    refine AOps.step ⟨33, rfl, .inl ⟨_, rfl, rfl⟩⟩ rfl rfl (AOp.gtr rfl rfl rfl) ?_
    refine AOps.step rfl rfl rfl (AOp.pickF rfl rfl rfl) (.nil ?_)
    refine AWP.cond rfl (fun h5 => ?_) (fun h5 => ?_)
    · replace h5 := of_decide_eq_true h5
      refine AWP.seq (AWP.region ?_)
      refine AOps.aD rfl rfl rfl rfl rfl (.nil ?_)
      refine AWP.ret ?_
      refine ⟨RetD.eq rfl ?_, trivial⟩
      all_goals (first | rfl | first | rw [HR] | rw [chk_t hL hlt hk.2 (show thF c.things k = 1 from by unfold thF; rw [dif_pos hlt]; (first | (exfalso; omega) | ((repeat (first | rw [if_pos (by first | assumption | omega)] | rw [if_neg (by first | assumption | omega)])); first | done | rfl | omega | decide))) (by decide)] | rw [chk_t hL hlt hk.2 (show thF c.things k = 8 from by unfold thF; rw [dif_pos hlt]; (first | (exfalso; omega) | ((repeat (first | rw [if_pos (by first | assumption | omega)] | rw [if_neg (by first | assumption | omega)])); first | done | rfl | omega | decide))) (by decide)])
    replace h5 := of_decide_eq_false h5
    refine AWP.skip ?_
    refine AWP.seq ?_
    refine AWP.seq ?_
    refine AWP.draw (by kernel_rfl) (by kernel_rfl) ?_
    refine DRun.step rfl rfl rfl (AOp.moveD rfl rfl) ?_
    refine DRun.step rfl rfl rfl (AOp.gtr rfl rfl rfl) ?_
    refine DRun.step rfl rfl rfl (AOp.moveD rfl rfl) ?_
    refine DRun.split 40 rfl (fun g6 => ?_) (fun g6 => ?_)
    · replace g6 := of_decide_eq_true g6
      have hk0 : 0 < k := by omega
      refine DRun.step ⟨40, rfl, .inl ⟨_, rfl, rfl⟩⟩ rfl rfl (AOp.fieldAddr rfl fo_67_0 rfl) ?_
      refine DRun.step ⟨40, rfl, .inl ⟨_, rfl, rfl⟩⟩ rfl rfl (AOp.load rfl sc_3 rfl) ?_
      refine DRun.step ⟨40, rfl, .inl ⟨_, rfl, rfl⟩⟩ rfl rfl (AOp.fieldAddr rfl fo_25_0 rfl) ?_
      refine DRun.step ⟨40, rfl, .inl ⟨_, rfl, rfl⟩⟩ rfl rfl (AOp.load rfl sc_22 rfl) ?_
      refine DRun.step ⟨40, rfl, .inl ⟨_, rfl, rfl⟩⟩ rfl rfl (AOp.moveD rfl rfl) ?_
      refine DRun.step ⟨40, rfl, .inl ⟨_, rfl, rfl⟩⟩ rfl rfl (AOp.sub64 rfl rfl rfl (by omega) (by omega)) ?_
      refine DRun.step ⟨40, rfl, .inl ⟨_, rfl, rfl⟩⟩ rfl rfl (AOp.indexAddr rfl et_22 rfl rfl (k - 1) (by omega) (at_lst (by omega)) rfl) ?_
      refine DRun.step ⟨40, rfl, .inl ⟨_, rfl, rfl⟩⟩ rfl rfl (AOp.fieldAddr rfl fo_67_0 rfl) ?_
      refine DRun.step ⟨40, rfl, .inl ⟨_, rfl, rfl⟩⟩ rfl rfl (AOp.load rfl sc_3 rfl) ?_
      refine DRun.step ⟨40, rfl, .inl ⟨_, rfl, rfl⟩⟩ rfl rfl (AOp.leq rfl rfl rfl) ?_
      refine DRun.step rfl rfl rfl (AOp.pickT rfl rfl rfl) ?_
      refine DRun.nil ?_
      refine AWP.cond rfl (fun h7 => ?_) (fun h7 => ?_)
      · replace h7 := of_decide_eq_true h7
        refine AWP.seq (AWP.region ?_)
        refine AOps.aD rfl rfl rfl rfl rfl (.nil ?_)
        refine AWP.ret ?_
        refine ⟨RetD.eq rfl ?_, trivial⟩
        all_goals (first | rfl | first | rw [HR] | rw [chk_t hL hlt hk.2 (show thF c.things k = 1 from by unfold thF; rw [dif_pos hlt]; (first | (exfalso; omega) | ((repeat (first | rw [if_pos (by first | assumption | omega)] | rw [if_neg (by first | assumption | omega)])); first | done | rfl | omega | decide))) (by decide)] | rw [chk_t hL hlt hk.2 (show thF c.things k = 8 from by unfold thF; rw [dif_pos hlt]; (first | (exfalso; omega) | ((repeat (first | rw [if_pos (by first | assumption | omega)] | rw [if_neg (by first | assumption | omega)])); first | done | rfl | omega | decide))) (by decide)])
      replace h7 := of_decide_eq_false h7
      refine AWP.skip ?_
      refine AWP.seq (AWP.region ?_)
      refine AOps.step rfl rfl rfl (AOp.loadAgg rfl ag_67 rfl rfl) ?_
      -- wants the world
      refine AOps.callT rfl rfl rfl hT maxT_stays rfl (.cons (ArgOk.rfl' rfl) .nil) (c_pThg _ hbk) ?_
      refine AOps.aD rfl rfl rfl rfl rfl (.nil ?_)
      refine AWP.seq (AWP.region ?_)
      refine AOps.mD rfl rfl rfl rfl rfl ?_
      refine AOps.step rfl rfl rfl (AOp.neq rfl rfl rfl) (.nil ?_)
      refine AWP.cond rfl (fun h8 => ?_) (fun h8 => ?_)
      · replace h8 := of_decide_eq_true h8
        have HT : chkF c = thgF c.things[k] := chk_t hL hlt hk.2 (show thF c.things k = _ from by unfold thF; rw [dif_pos hlt]; (first | (exfalso; omega) | ((repeat (first | rw [if_pos (by first | assumption | omega)] | rw [if_neg (by first | assumption | omega)])); first | done | rfl | omega | decide))) h8
        rw [HT]
        refine AWP.seq (AWP.region ?_)
        refine AOps.mD rfl rfl rfl rfl rfl ?_
        refine AOps.aD rfl rfl rfl rfl rfl (.nil ?_)
        refine AWP.ret ?_
        refine ⟨RetD.eq rfl ?_, trivial⟩
        all_goals (first | rfl | first | rw [HR] | rw [chk_t hL hlt hk.2 (show thF c.things k = 1 from by unfold thF; rw [dif_pos hlt]; (first | (exfalso; omega) | ((repeat (first | rw [if_pos (by first | assumption | omega)] | rw [if_neg (by first | assumption | omega)])); first | done | rfl | omega | decide))) (by decide)] | rw [chk_t hL hlt hk.2 (show thF c.things k = 8 from by unfold thF; rw [dif_pos hlt]; (first | (exfalso; omega) | ((repeat (first | rw [if_pos (by first | assumption | omega)] | rw [if_neg (by first | assumption | omega)])); first | done | rfl | omega | decide))) (by decide)])
      replace h8 := of_decide_eq_false h8
      refine AWP.skip ?_
      refine AWP.region ?_
      refine AOps.step rfl rfl rfl (AOp.add64 rfl rfl rfl (by omega) (by omega)) ?_
      refine AOps.mD rfl rfl rfl rfl rfl (.nil ?_)
      refine ⟨k + 1, ⟨by omega, ffst_next hk.2 (show thF c.things k = 0 from by unfold thF; rw [dif_pos hlt]; (first | (exfalso; omega) | ((repeat (first | rw [if_pos (by first | assumption | omega)] | rw [if_neg (by first | assumption | omega)])); first | done | rfl | omega | decide)))⟩, (by dsimp only; omega), Sub.less ⟨(SLe.of_eq rfl), SLe.refl _, SLe.refl _, SLe.refl _, trivial⟩ (fun _ h => h)⟩
    replace g6 := of_decide_eq_false g6
    refine DRun.pass ⟨40, rfl, .inl ⟨_, rfl, rfl⟩⟩ rfl rfl ?_
    refine DRun.pass ⟨40, rfl, .inl ⟨_, rfl, rfl⟩⟩ rfl rfl ?_
    refine DRun.pass ⟨40, rfl, .inl ⟨_, rfl, rfl⟩⟩ rfl rfl ?_
    refine DRun.pass ⟨40, rfl, .inl ⟨_, rfl, rfl⟩⟩ rfl rfl ?_
    refine DRun.pass ⟨40, rfl, .inl ⟨_, rfl, rfl⟩⟩ rfl rfl ?_
    refine DRun.pass ⟨40, rfl, .inl ⟨_, rfl, rfl⟩⟩ rfl rfl ?_
    refine DRun.pass ⟨40, rfl, .inl ⟨_, rfl, rfl⟩⟩ rfl rfl ?_
    refine DRun.pass ⟨40, rfl, .inl ⟨_, rfl, rfl⟩⟩ rfl rfl ?_
    refine DRun.pass ⟨40, rfl, .inl ⟨_, rfl, rfl⟩⟩ rfl rfl ?_
    refine DRun.pass ⟨40, rfl, .inl ⟨_, rfl, rfl⟩⟩ rfl rfl ?_
    refine DRun.step rfl rfl rfl (AOp.pickF rfl rfl rfl) ?_
    refine DRun.nil ?_
    refine AWP.cond rfl (fun h => nomatch h) (fun _ => ?_)
    refine AWP.skip ?_
    refine AWP.seq (AWP.region ?_)
    refine AOps.step rfl rfl rfl (AOp.loadAgg rfl ag_67 rfl rfl) ?_
    -- wants the world
    refine AOps.callT rfl rfl rfl hT maxT_stays rfl (.cons (ArgOk.rfl' rfl) .nil) (c_pThg _ hbk) ?_
    refine AOps.aD rfl rfl rfl rfl rfl (.nil ?_)
    refine AWP.seq (AWP.region ?_)
    refine AOps.mD rfl rfl rfl rfl rfl ?_
    refine AOps.step rfl rfl rfl (AOp.neq rfl rfl rfl) (.nil ?_)
    refine AWP.cond rfl (fun h9 => ?_) (fun h9 => ?_)
    · replace h9 := of_decide_eq_true h9
      have HT : chkF c = thgF c.things[k] := chk_t hL hlt hk.2 (show thF c.things k = _ from by unfold thF; rw [dif_pos hlt]; (first | (exfalso; omega) | ((repeat (first | rw [if_pos (by first | assumption | omega)] | rw [if_neg (by first | assumption | omega)])); first | done | rfl | omega | decide))) h9
      rw [HT]
      refine AWP.seq (AWP.region ?_)
      refine AOps.mD rfl rfl rfl rfl rfl ?_
      refine AOps.aD rfl rfl rfl rfl rfl (.nil ?_)
      refine AWP.ret ?_
      refine ⟨RetD.eq rfl ?_, trivial⟩
      all_goals (first | rfl | first | rw [HR] | rw [chk_t hL hlt hk.2 (show thF c.things k = 1 from by unfold thF; rw [dif_pos hlt]; (first | (exfalso; omega) | ((repeat (first | rw [if_pos (by first | assumption | omega)] | rw [if_neg (by first | assumption | omega)])); first | done | rfl | omega | decide))) (by decide)] | rw [chk_t hL hlt hk.2 (show thF c.things k = 8 from by unfold thF; rw [dif_pos hlt]; (first | (exfalso; omega) | ((repeat (first | rw [if_pos (by first | assumption | omega)] | rw [if_neg (by first | assumption | omega)])); first | done | rfl | omega | decide))) (by decide)])
    replace h9 := of_decide_eq_false h9
    refine AWP.skip ?_
    refine AWP.region ?_
    refine AOps.step rfl rfl rfl (AOp.add64 rfl rfl rfl (by omega) (by omega)) ?_
    refine AOps.mD rfl rfl rfl rfl rfl (.nil ?_)
    refine ⟨k + 1, ⟨by omega, ffst_next hk.2 (show thF c.things k = 0 from by unfold thF; rw [dif_pos hlt]; (first | (exfalso; omega) | ((repeat (first | rw [if_pos (by first | assumption | omega)] | rw [if_neg (by first | assumption | omega)])); first | done | rfl | omega | decide)))⟩, (by dsimp only; omega), Sub.less ⟨(SLe.of_eq rfl), SLe.refl _, SLe.refl _, SLe.refl _, trivial⟩ (fun _ h => h)⟩
  replace h3 := of_decide_eq_false h3
  rw [List.length_map] at h3
  obtain rfl : k = c.things.length := by omega
  have HF1 := hk.2
  have hr := risT_of HF1
  refine AWP.exit ?_
  refine AWP.seq (AWP.region ?_)
  refine AOps.step rfl rfl rfl (AOp.loadAgg rfl ag_25 rfl rfl) ?_
  refine AOps.step rfl rfl rfl (AOp.call rfl (.cons (ArgOk.rfl' rfl) .nil) (c_idxOf c hLim hc hr)) ?_
  refine AOps.aD rfl rfl rfl rfl rfl (.nil ?_)
  refine AWP.seq (AWP.region ?_)
  refine AOps.makeMap 92 rfl rfl rfl rfl rfl ?_
  refine AOps.step rfl rfl rfl (AOp.assignO rfl rfl) (.nil ?_)
  refine AWP.seq ?_
  refine AWP.seq (AWP.region ?_)
  refine AOps.step rfl rfl rfl (AOp.fieldAddr rfl fo_25_0 rfl) ?_
  refine AOps.step rfl rfl rfl (AOp.load rfl sc_22 rfl) ?_
  refine AOps.step rfl rfl rfl (AOp.lenSl rfl et_22.ht rfl) ?_
  refine AOps.mD rfl rfl rfl rfl rfl (.nil ?_)
  refine AWP.block ?_
  refine AWP.loop (G := Nat) (fun k => Env.of [(64, .d (.v (.int .i64 (k : Int)))), (62, .d (.sl (c.things.map Thg.ds))), (63, .d (.v (.int .i64 ((c.things.map Thg.ds).length : Int)))), (6, .d (.fm (idxM c.things))), (7, .own 92), (1, .d (.fp c.ds))]) (fun k => [(92, .map (seenM (seenL (c.things.take k))))]) (fun k => k ≤ c.things.length ∧ ffst (lkF c.things) k = 0) (fun k => c.things.length - k) 0 ⟨Nat.zero_le _, rfl⟩ (Sub.less ⟨(SLe.of_eq rfl), SLe.refl _, SLe.refl _, SLe.refl _, SLe.refl _, SLe.refl _, trivial⟩ (map_1 rfl)) ?_
  intro k hk
  refine AWP.seq (AWP.region ?_)
  refine AOps.step rfl rfl rfl (AOp.lss rfl rfl rfl) (.nil ?_)
  refine AWP.seq ?_
  refine AWP.cond rfl (fun h10 => ?_) (fun h10 => ?_)
  · replace h10 := of_decide_eq_true h10
    rw [List.length_map] at h10
    have hlt : k < c.things.length := by omega
    have hbk := hc.things _ (List.getElem_mem hlt)
    refine AWP.skip ?_
    refine AWP.seq ?_
    refine AWP.block ?_
    refine AWP.seq (AWP.region ?_)
    refine AOps.step rfl rfl rfl (AOp.indexAddr rfl et_22 rfl rfl k rfl (at_lst hlt) rfl) ?_
    refine AOps.step rfl rfl rfl (AOp.loadAgg rfl ag_67 rfl rfl) ?_
    refine AOps.alloc 103 rfl rfl rfl rfl zt_67 rfl rfl rfl ?_
    refine AOps.store rfl rfl rfl sz_67 rfl (.head _) rfl rfl rfl (Nat.le_of_ble_eq_true rfl) ?_
    refine AOps.freezeCells 9 (ds := c.things[k].ds) rfl (.head _) (.nil ?_)
    refine AWP.seq ?_
    refine AWP.seq (AWP.region ?_)
    refine AOps.mD rfl rfl rfl rfl rfl ?_
    refine AOps.step rfl rfl rfl (AOp.loadAgg rfl ag_67 rfl rfl) ?_
    refine AOps.step rfl rfl rfl (AOp.call rfl (.cons (ArgOk.rfl' rfl) (.cons (ArgOk.rfl' rfl) .nil)) (c_pLink _ _ hc.things hr hbk hLim.1 (parts_of HF1 hlt))) ?_
    refine AOps.aD rfl rfl rfl rfl rfl (.nil ?_)
    refine AWP.seq (AWP.region ?_)
    refine AOps.mD rfl rfl rfl rfl rfl ?_
    refine AOps.step rfl rfl rfl (AOp.neq rfl rfl rfl) (.nil ?_)
    refine AWP.cond rfl (fun h11 => ?_) (fun h11 => ?_)
    · replace h11 := of_decide_eq_true h11
      have HT : chkF c = linkF c.things c.things[k] := chk_l hL HF1 hlt hk.2 (show lkF c.things k = _ from lk_p hlt rfl h11) h11
      rw [HT]
      refine AWP.seq (AWP.region ?_)
      refine AOps.mD rfl rfl rfl rfl rfl ?_
      refine AOps.aD rfl rfl rfl rfl rfl (.nil ?_)
      refine AWP.ret ?_
      refine ⟨RetD.eq rfl ?_, trivial⟩
      all_goals (first | rfl | first | rw [HR] | rw [chk_t hL hlt hk.2 (show thF c.things k = 1 from by unfold thF; rw [dif_pos hlt]; (first | (exfalso; omega) | ((repeat (first | rw [if_pos (by first | assumption | omega)] | rw [if_neg (by first | assumption | omega)])); first | done | rfl | omega | decide))) (by decide)] | rw [chk_t hL hlt hk.2 (show thF c.things k = 8 from by unfold thF; rw [dif_pos hlt]; (first | (exfalso; omega) | ((repeat (first | rw [if_pos (by first | assumption | omega)] | rw [if_neg (by first | assumption | omega)])); first | done | rfl | omega | decide))) (by decide)])
    replace h11 := of_decide_eq_false h11
    have n0 : linkF c.things c.things[k] = 0 := by omega
    refine AWP.skip ?_
    refine AWP.seq (AWP.region ?_)
    refine AOps.step rfl rfl rfl (AOp.fieldAddr rfl fo_67_1 rfl) ?_
    refine AOps.step rfl rfl rfl (AOp.load rfl sc_3 rfl) ?_
    refine AOps.step rfl rfl rfl (AOp.fieldAddr rfl fo_67_3 rfl) ?_
    refine AOps.step rfl rfl rfl (AOp.load rfl sc_9 rfl) ?_
    refine AOps.step rfl rfl rfl (AOp.build rfl bu_85 (.cons rfl rfl (.cons rfl rfl .nil)) rfl) ?_
    refine AOps.alloc 104 rfl rfl rfl rfl zt_85 rfl rfl rfl ?_
    refine AOps.store rfl rfl rfl sz_85 rfl (.head _) rfl rfl rfl (Nat.le_of_ble_eq_true rfl) ?_
    refine AOps.freezeCells 11 (ds := [.v (.int .i64 c.things[k].kind), .v (.string c.things[k].code)]) rfl (.head _) (.nil ?_)
    refine AWP.seq ?_
    refine AWP.seq (AWP.region ?_)
    refine AOps.step rfl rfl rfl (AOp.fieldAddr rfl fo_67_3 rfl) ?_
    refine AOps.step rfl rfl rfl (AOp.load rfl sc_9 rfl) ?_
    refine AOps.step rfl rfl rfl (AOp.sneq rfl rfl rfl) ?_
    refine AOps.mD rfl rfl rfl rfl rfl ?_
    refine AOps.split 82 rfl (fun g12 => ?_) (fun g12 => ?_)
    · replace g12 := of_decide_eq_true g12
      have hcn := g12
      refine AOps.step ⟨82, rfl, .inl ⟨_, rfl, rfl⟩⟩ rfl rfl (AOp.moveO rfl rfl) ?_
      refine AOps.step ⟨82, rfl, .inl ⟨_, rfl, rfl⟩⟩ rfl rfl (AOp.loadAgg rfl ag_85 rfl rfl) ?_
      refine AOps.step ⟨82, rfl, .inl ⟨_, rfl, rfl⟩⟩ rfl rfl (AOp.lookupX (key := kC (c.things[k].kind, c.things[k].code)) rfl mt_seen kd_C zt_bool zd_bool rfl (.head _) rfl (DExact.agg2 _ _) (kC_ok hbk.kind hbk.code) (seen_keys hc.things k) (get_seen _ _ _)) ?_
      refine AOps.step rfl rfl rfl (AOp.pickT rfl rfl rfl) (.nil ?_)
      refine AWP.cond rfl (fun h13 => ?_) (fun h13 => ?_)
      · skip
        have HR : chkF c = 7 := chk_l hL HF1 hlt hk.2 (lk_7 hlt n0 hcn h13) (by decide)
        refine AWP.seq (AWP.region ?_)
        refine AOps.aD rfl rfl rfl rfl rfl (.nil ?_)
        refine AWP.ret ?_
        refine ⟨RetD.eq rfl ?_, trivial⟩
        all_goals (first | rfl | first | rw [HR] | rw [chk_t hL hlt hk.2 (show thF c.things k = 1 from by unfold thF; rw [dif_pos hlt]; (first | (exfalso; omega) | ((repeat (first | rw [if_pos (by first | assumption | omega)] | rw [if_neg (by first | assumption | omega)])); first | done | rfl | omega | decide))) (by decide)] | rw [chk_t hL hlt hk.2 (show thF c.things k = 8 from by unfold thF; rw [dif_pos hlt]; (first | (exfalso; omega) | ((repeat (first | rw [if_pos (by first | assumption | omega)] | rw [if_neg (by first | assumption | omega)])); first | done | rfl | omega | decide))) (by decide)])
      have n7 : ¬ (¬ c.things[k].code = ⟨#[]⟩ ∧ twB c.things k c.things[k] = true) := fun hh => by have q7 := hh.2; rw [h13] at q7; cases q7
      refine AWP.skip ?_
      refine AWP.region ?_
      refine AOps.step rfl rfl rfl (AOp.moveO rfl rfl) ?_
      refine AOps.step rfl rfl rfl (AOp.loadAgg rfl ag_85 rfl rfl) ?_
      refine AOps.eff rfl rfl (EOp.mapUpdateX (key := kC (c.things[k].kind, c.things[k].code)) rfl rfl mt_seen kd_C rfl (.head _) rfl (DExact.agg2 _ _) rfl (kC_ok hbk.kind hbk.code) (seen_keys hc.things k) (put_seen hlt)) (.nil ?_)
      refine AWP.region ?_
      refine AOps.step rfl rfl rfl (AOp.add64 rfl rfl rfl (by omega) (by omega)) ?_
      refine AOps.mD rfl rfl rfl rfl rfl (.nil ?_)
      refine ⟨k + 1, ⟨by omega, ffst_next hk.2 (lk_0 hlt n0 n7)⟩, (by dsimp only; omega), Sub.less ⟨(SLe.of_eq rfl), SLe.refl _, SLe.refl _, SLe.refl _, SLe.refl _, SLe.refl _, trivial⟩ (map_1 rfl)⟩
    replace g12 := of_decide_eq_false g12
    have n7 : ¬ (¬ c.things[k].code = ⟨#[]⟩ ∧ twB c.things k c.things[k] = true) := fun hh => hh.1 (by first | exact g12 | exact Decidable.not_not.1 g12)
    refine AOps.pass ⟨82, rfl, .inl ⟨_, rfl, rfl⟩⟩ rfl rfl ?_
    refine AOps.pass ⟨82, rfl, .inl ⟨_, rfl, rfl⟩⟩ rfl rfl ?_
    refine AOps.pass ⟨82, rfl, .inl ⟨_, rfl, rfl⟩⟩ rfl rfl ?_
    refine AOps.step rfl rfl rfl (AOp.pickF rfl rfl rfl) (.nil ?_)
    refine AWP.cond rfl (fun h => nomatch h) (fun _ => ?_)
    refine AWP.skip ?_
    refine AWP.region ?_
    refine AOps.step rfl rfl rfl (AOp.moveO rfl rfl) ?_
    refine AOps.step rfl rfl rfl (AOp.loadAgg rfl ag_85 rfl rfl) ?_
    refine AOps.eff rfl rfl (EOp.mapUpdateX (key := kC (c.things[k].kind, c.things[k].code)) rfl rfl mt_seen kd_C rfl (.head _) rfl (DExact.agg2 _ _) rfl (kC_ok hbk.kind hbk.code) (seen_keys hc.things k) (put_seen hlt)) (.nil ?_)
    refine AWP.region ?_
    refine AOps.step rfl rfl rfl (AOp.add64 rfl rfl rfl (by omega) (by omega)) ?_
    refine AOps.mD rfl rfl rfl rfl rfl (.nil ?_)
    refine ⟨k + 1, ⟨by omega, ffst_next hk.2 (lk_0 hlt n0 n7)⟩, (by dsimp only; omega), Sub.less ⟨(SLe.of_eq rfl), SLe.refl _, SLe.refl _, SLe.refl _, SLe.refl _, SLe.refl _, trivial⟩ (map_1 rfl)⟩
  replace h10 := of_decide_eq_false h10
  rw [List.length_map] at h10
  obtain rfl : k = c.things.length := by omega
  have HR : chkF c = mvdF c := chk_m hL HF1 hk.2
  refine AWP.exit ?_
  refine AWP.seq (AWP.region ?_)
  refine AOps.step rfl rfl rfl (AOp.loadAgg rfl ag_25 rfl rfl) ?_
  refine AOps.mD rfl rfl rfl rfl rfl ?_
  refine AOps.step rfl rfl rfl (AOp.call rfl (.cons (ArgOk.rfl' rfl) (.cons (ArgOk.rfl' rfl) .nil)) (c_pMvd c hLim hc hr)) ?_
  refine AOps.aD rfl rfl rfl rfl rfl (.nil ?_)
  refine AWP.ret ?_
  refine ⟨RetD.eq rfl ?_, trivial⟩
  all_goals (first | rfl | first | rw [HR] | rw [chk_t hL hlt hk.2 (show thF c.things k = 1 from by unfold thF; rw [dif_pos hlt]; (first | (exfalso; omega) | ((repeat (first | rw [if_pos (by first | assumption | omega)] | rw [if_neg (by first | assumption | omega)])); first | done | rfl | omega | decide))) (by decide)] | rw [chk_t hL hlt hk.2 (show thF c.things k = 8 from by unfold thF; rw [dif_pos hlt]; (first | (exfalso; omega) | ((repeat (first | rw [if_pos (by first | assumption | omega)] | rw [if_neg (by first | assumption | omega)])); first | done | rfl | omega | decide))) (by decide)])

set_option maxRecDepth 100000 in
set_option maxHeartbeats 1000000 in
theorem c_rChk (c : Ctl) (hc : CtlOk c) : ACallT Tryz.prog MaxT 28 [.agg c.ds] (.v (.int .i64 (chkF c))) := by
  refine acall_ofT (n := 65) (ds' := [.v (.int .i64 (chkF c))]) Tryz.func28 rfl (by kernel_rfl) rfl [2] rfl rfl ?_
  intro B w0 F0 hT
  have htl : (c.things.map Thg.ds).length = c.things.length := List.length_map ..
  have hml : (c.moved.map Mvd.ds).length = c.moved.length := List.length_map ..
  refine AWP.seq (AWP.region ?_)
  refine AOps.step rfl rfl rfl (AOp.box rfl rfl rfl) ?_
  refine AOps.aD rfl rfl rfl rfl rfl (.nil ?_)
  refine AWP.seq ?_
  refine AWP.seq (AWP.region ?_)
  refine AOps.step rfl rfl rfl (AOp.fieldAddr rfl fo_25_0 rfl) ?_
  refine AOps.step rfl rfl rfl (AOp.load rfl sc_22 rfl) ?_
  refine AOps.step rfl rfl rfl (AOp.lenSl rfl et_22.ht rfl) ?_
  refine AOps.step rfl rfl rfl (AOp.gtr rfl rfl rfl) ?_
  refine AOps.mD rfl rfl rfl rfl rfl ?_
  refine AOps.split 12 rfl (fun g1 => ?_) (fun g1 => ?_)
  · replace g1 := of_decide_eq_true g1
    have HR : chkF c = 2 := if_pos (by omega)
    refine AOps.pass ⟨12, rfl, .inl ⟨_, rfl, rfl⟩⟩ rfl rfl ?_
    refine AOps.pass ⟨12, rfl, .inl ⟨_, rfl, rfl⟩⟩ rfl rfl ?_
    refine AOps.pass ⟨12, rfl, .inl ⟨_, rfl, rfl⟩⟩ rfl rfl ?_
    refine AOps.pass ⟨12, rfl, .inl ⟨_, rfl, rfl⟩⟩ rfl rfl ?_
    refine AOps.step rfl rfl rfl (AOp.pickT rfl rfl rfl) (.nil ?_)
    refine AWP.cond rfl (fun _ => ?_) (fun h => nomatch h)
    refine AWP.seq (AWP.region ?_)
    refine AOps.aD rfl rfl rfl rfl rfl (.nil ?_)
    refine AWP.ret ?_
    refine ⟨RetD.eq rfl ?_, trivial⟩
    all_goals (first | rfl | first | rw [HR] | rw [chk_t hL hlt hk.2 (show thF c.things k = 1 from by unfold thF; rw [dif_pos hlt]; (first | (exfalso; omega) | ((repeat (first | rw [if_pos (by first | assumption | omega)] | rw [if_neg (by first | assumption | omega)])); first | done | rfl | omega | decide))) (by decide)] | rw [chk_t hL hlt hk.2 (show thF c.things k = 8 from by unfold thF; rw [dif_pos hlt]; (first | (exfalso; omega) | ((repeat (first | rw [if_pos (by first | assumption | omega)] | rw [if_neg (by first | assumption | omega)])); first | done | rfl | omega | decide))) (by decide)])
  replace g1 := of_decide_eq_false g1
  refine AOps.step ⟨12, rfl, .inl ⟨_, rfl, rfl⟩⟩ rfl rfl (AOp.fieldAddr rfl fo_25_1 rfl) ?_
  refine AOps.step ⟨12, rfl, .inl ⟨_, rfl, rfl⟩⟩ rfl rfl (AOp.load rfl sc_23 rfl) ?_
  refine AOps.step ⟨12, rfl, .inl ⟨_, rfl, rfl⟩⟩ rfl rfl (AOp.lenSl rfl et_23.ht rfl) ?_
  refine AOps.step ⟨12, rfl, .inl ⟨_, rfl, rfl⟩⟩ rfl rfl (AOp.gtr rfl rfl rfl) ?_
  refine AOps.step rfl rfl rfl (AOp.pickF rfl rfl rfl) (.nil ?_)
  refine AWP.cond rfl (fun h2 => ?_) (fun h2 => ?_)
  · replace h2 := of_decide_eq_true h2
    have HR : chkF c = 2 := if_pos (by omega)
    refine AWP.seq (AWP.region ?_)
    refine AOps.aD rfl rfl rfl rfl rfl (.nil ?_)
    refine AWP.ret ?_
    refine ⟨RetD.eq rfl ?_, trivial⟩
    all_goals (first | rfl | first | rw [HR] | rw [chk_t hL hlt hk.2 (show thF c.things k = 1 from by unfold thF; rw [dif_pos hlt]; (first | (exfalso; omega) | ((repeat (first | rw [if_pos (by first | assumption | omega)] | rw [if_neg (by first | assumption | omega)])); first | done | rfl | omega | decide))) (by decide)] | rw [chk_t hL hlt hk.2 (show thF c.things k = 8 from by unfold thF; rw [dif_pos hlt]; (first | (exfalso; omega) | ((repeat (first | rw [if_pos (by first | assumption | omega)] | rw [if_neg (by first | assumption | omega)])); first | done | rfl | omega | decide))) (by decide)])
  replace h2 := of_decide_eq_false h2
  have hL : ¬ (300 < c.things.length ∨ 300 < c.moved.length) := by omega
  have hLim := lim_of hL
  refine AWP.skip ?_
  refine AWP.seq ?_
  refine AWP.seq (AWP.region ?_)
  refine AOps.step rfl rfl rfl (AOp.fieldAddr rfl fo_25_0 rfl) ?_
  refine AOps.step rfl rfl rfl (AOp.load rfl sc_22 rfl) ?_
  refine AOps.step rfl rfl rfl (AOp.lenSl rfl et_22.ht rfl) ?_
  refine AOps.mD rfl rfl rfl rfl rfl (.nil ?_)
  refine AWP.block ?_
  refine AWP.loop (G := Nat) (fun k => Env.of [(21, .d (.v (.int .i64 (k : Int)))), (19, .d (.sl (c.things.map Thg.ds))), (20, .d (.v (.int .i64 ((c.things.map Thg.ds).length : Int)))), (1, .d (.fp c.ds))]) (fun k => []) (fun k => k ≤ c.things.length ∧ ffst (thF c.things) k = 0) (fun k => c.things.length - k) 0 ⟨Nat.zero_le _, rfl⟩ (Sub.less ⟨(SLe.of_eq rfl), SLe.refl _, SLe.refl _, SLe.refl _, trivial⟩ (fun _ h => h)) ?_
  intro k hk
  refine AWP.seq (AWP.region ?_)
  refine AOps.step rfl rfl rfl (AOp.lss rfl rfl rfl) (.nil ?_)
  refine AWP.seq ?_
  refine AWP.cond rfl (fun h3 => ?_) (fun h3 => ?_)
  · replace h3 := of_decide_eq_true h3
    rw [List.length_map] at h3
    have hlt : k < c.things.length := by omega
    have hbk := hc.things _ (List.getElem_mem hlt)
    refine AWP.skip ?_
    refine AWP.seq ?_
    refine AWP.block ?_
    refine AWP.seq (AWP.region ?_)
    refine AOps.mD rfl rfl rfl rfl rfl ?_
    refine AOps.step rfl rfl rfl (AOp.indexAddr rfl et_22 rfl rfl k rfl (at_lst hlt) rfl) ?_
    refine AOps.step rfl rfl rfl (AOp.loadAgg rfl ag_67 rfl rfl) ?_
    refine AOps.alloc 101 rfl rfl rfl rfl zt_67 rfl rfl rfl ?_
    refine AOps.aD rfl rfl rfl rfl rfl ?_
    refine AOps.store rfl rfl rfl sz_67 rfl (.head _) rfl rfl rfl (Nat.le_of_ble_eq_true rfl) ?_
    refine AOps.freezeCells 4 (ds := c.things[k].ds) rfl (.head _) (.nil ?_)
    refine AWP.seq ?_
    refine AWP.seq (AWP.region ?_)
    refine AOps.step rfl rfl rfl (AOp.fieldAddr rfl fo_67_0 rfl) ?_
    refine AOps.step rfl rfl rfl (AOp.load rfl sc_3 rfl) ?_
    refine AOps.step rfl rfl rfl (AOp.call rfl (.cons (ArgOk.rfl' rfl) (.cons (ArgOk.rfl' rfl) (.cons (ArgOk.rfl' rfl) .nil))) (c_rIn _ _ _)) ?_
    refine AOps.step rfl rfl rfl (AOp.not rfl rfl) (.nil ?_)
    refine AWP.cond rfl (fun h4 => ?_) (fun h4 => ?_)
    · replace h4 := bnot_t h4; replace h4 := of_decide_eq_false h4
      refine AWP.seq (AWP.region ?_)
      refine AOps.aD rfl rfl rfl rfl rfl (.nil ?_)
      refine AWP.ret ?_
      refine ⟨RetD.eq rfl ?_, trivial⟩
      all_goals (first | rfl | first | rw [HR] | rw [chk_t hL hlt hk.2 (show thF c.things k = 1 from by unfold thF; rw [dif_pos hlt]; (first | (exfalso; omega) | ((repeat (first | rw [if_pos (by first | assumption | omega)] | rw [if_neg (by first | assumption | omega)])); first | done | rfl | omega | decide))) (by decide)] | rw [chk_t hL hlt hk.2 (show thF c.things k = 8 from by unfold thF; rw [dif_pos hlt]; (first | (exfalso; omega) | ((repeat (first | rw [if_pos (by first | assumption | omega)] | rw [if_neg (by first | assumption | omega)])); first | done | rfl | omega | decide))) (by decide)])
    replace h4 := bnot_f h4; replace h4 := of_decide_eq_true h4
    refine AWP.skip ?_
    refine AWP.seq ?_
    refine AWP.seq ?_
    refine AWP.draw (by kernel_rfl) (by kernel_rfl) ?_
    refine DRun.step rfl rfl rfl (AOp.moveD rfl rfl) ?_
    refine DRun.step rfl rfl rfl (AOp.gtr rfl rfl rfl) ?_
    refine DRun.step rfl rfl rfl (AOp.moveD rfl rfl) ?_
    refine DRun.split 32 rfl (fun g5 => ?_) (fun g5 => ?_)
    · replace g5 := of_decide_eq_true g5
      have hk0 : 0 < k := by omega
      refine DRun.step ⟨32, rfl, .inl ⟨_, rfl, rfl⟩⟩ rfl rfl (AOp.fieldAddr rfl fo_67_0 rfl) ?_
      refine DRun.step ⟨32, rfl, .inl ⟨_, rfl, rfl⟩⟩ rfl rfl (AOp.load rfl sc_3 rfl) ?_
      refine DRun.step ⟨32, rfl, .inl ⟨_, rfl, rfl⟩⟩ rfl rfl (AOp.fieldAddr rfl fo_25_0 rfl) ?_
      refine DRun.step ⟨32, rfl, .inl ⟨_, rfl, rfl⟩⟩ rfl rfl (AOp.load rfl sc_22 rfl) ?_
      refine DRun.step ⟨32, rfl, .inl ⟨_, rfl, rfl⟩⟩ rfl rfl (AOp.moveD rfl rfl) ?_
      refine DRun.step ⟨32, rfl, .inl ⟨_, rfl, rfl⟩⟩ rfl rfl (AOp.sub64 rfl rfl rfl (by omega) (by omega)) ?_
      refine DRun.step ⟨32, rfl, .inl ⟨_, rfl, rfl⟩⟩ rfl rfl (AOp.indexAddr rfl et_22 rfl rfl (k - 1) (by omega) (at_lst (by omega)) rfl) ?_
      refine DRun.step ⟨32, rfl, .inl ⟨_, rfl, rfl⟩⟩ rfl rfl (AOp.fieldAddr rfl fo_67_0 rfl) ?_
      refine DRun.step ⟨32, rfl, .inl ⟨_, rfl, rfl⟩⟩ rfl rfl (AOp.load rfl sc_3 rfl) ?_
      refine DRun.step ⟨32, rfl, .inl ⟨_, rfl, rfl⟩⟩ rfl rfl (AOp.leq rfl rfl rfl) ?_
      refine DRun.step rfl rfl rfl (AOp.pickT rfl rfl rfl) ?_
      refine DRun.nil ?_
      refine AWP.cond rfl (fun h6 => ?_) (fun h6 => ?_)
      · replace h6 := of_decide_eq_true h6
        refine AWP.seq (AWP.region ?_)
        refine AOps.aD rfl rfl rfl rfl rfl (.nil ?_)
        refine AWP.ret ?_
        refine ⟨RetD.eq rfl ?_, trivial⟩
        all_goals (first | rfl | first | rw [HR] | rw [chk_t hL hlt hk.2 (show thF c.things k = 1 from by unfold thF; rw [dif_pos hlt]; (first | (exfalso; omega) | ((repeat (first | rw [if_pos (by first | assumption | omega)] | rw [if_neg (by first | assumption | omega)])); first | done | rfl | omega | decide))) (by decide)] | rw [chk_t hL hlt hk.2 (show thF c.things k = 8 from by unfold thF; rw [dif_pos hlt]; (first | (exfalso; omega) | ((repeat (first | rw [if_pos (by first | assumption | omega)] | rw [if_neg (by first | assumption | omega)])); first | done | rfl | omega | decide))) (by decide)])
      replace h6 := of_decide_eq_false h6
      refine AWP.skip ?_
      refine AWP.seq (AWP.region ?_)
      refine AOps.step rfl rfl rfl (AOp.loadAgg rfl ag_67 rfl rfl) ?_
      -- wants the world
      refine AOps.callT rfl rfl rfl hT maxT_stays rfl (.cons (ArgOk.rfl' rfl) .nil) (c_rThg _ hbk) ?_
      refine AOps.aD rfl rfl rfl rfl rfl (.nil ?_)
      refine AWP.seq (AWP.region ?_)
      refine AOps.mD rfl rfl rfl rfl rfl ?_
      refine AOps.step rfl rfl rfl (AOp.neq rfl rfl rfl) (.nil ?_)
      refine AWP.cond rfl (fun h7 => ?_) (fun h7 => ?_)
      · replace h7 := of_decide_eq_true h7
        have HT : chkF c = thgF c.things[k] := chk_t hL hlt hk.2 (show thF c.things k = _ from by unfold thF; rw [dif_pos hlt]; (first | (exfalso; omega) | ((repeat (first | rw [if_pos (by first | assumption | omega)] | rw [if_neg (by first | assumption | omega)])); first | done | rfl | omega | decide))) h7
        rw [HT]
        refine AWP.seq (AWP.region ?_)
        refine AOps.mD rfl rfl rfl rfl rfl ?_
        refine AOps.aD rfl rfl rfl rfl rfl (.nil ?_)
        refine AWP.ret ?_
        refine ⟨RetD.eq rfl ?_, trivial⟩
        all_goals (first | rfl | first | rw [HR] | rw [chk_t hL hlt hk.2 (show thF c.things k = 1 from by unfold thF; rw [dif_pos hlt]; (first | (exfalso; omega) | ((repeat (first | rw [if_pos (by first | assumption | omega)] | rw [if_neg (by first | assumption | omega)])); first | done | rfl | omega | decide))) (by decide)] | rw [chk_t hL hlt hk.2 (show thF c.things k = 8 from by unfold thF; rw [dif_pos hlt]; (first | (exfalso; omega) | ((repeat (first | rw [if_pos (by first | assumption | omega)] | rw [if_neg (by first | assumption | omega)])); first | done | rfl | omega | decide))) (by decide)])
      replace h7 := of_decide_eq_false h7
      refine AWP.skip ?_
      refine AWP.region ?_
      refine AOps.step rfl rfl rfl (AOp.add64 rfl rfl rfl (by omega) (by omega)) ?_
      refine AOps.mD rfl rfl rfl rfl rfl (.nil ?_)
      refine ⟨k + 1, ⟨by omega, ffst_next hk.2 (show thF c.things k = 0 from by unfold thF; rw [dif_pos hlt]; (first | (exfalso; omega) | ((repeat (first | rw [if_pos (by first | assumption | omega)] | rw [if_neg (by first | assumption | omega)])); first | done | rfl | omega | decide)))⟩, (by dsimp only; omega), Sub.less ⟨(SLe.of_eq rfl), SLe.refl _, SLe.refl _, SLe.refl _, trivial⟩ (fun _ h => h)⟩
    replace g5 := of_decide_eq_false g5
    refine DRun.pass ⟨32, rfl, .inl ⟨_, rfl, rfl⟩⟩ rfl rfl ?_
    refine DRun.pass ⟨32, rfl, .inl ⟨_, rfl, rfl⟩⟩ rfl rfl ?_
    refine DRun.pass ⟨32, rfl, .inl ⟨_, rfl, rfl⟩⟩ rfl rfl ?_
    refine DRun.pass ⟨32, rfl, .inl ⟨_, rfl, rfl⟩⟩ rfl rfl ?_
    refine DRun.pass ⟨32, rfl, .inl ⟨_, rfl, rfl⟩⟩ rfl rfl ?_
    refine DRun.pass ⟨32, rfl, .inl ⟨_, rfl, rfl⟩⟩ rfl rfl ?_
    refine DRun.pass ⟨32, rfl, .inl ⟨_, rfl, rfl⟩⟩ rfl rfl ?_
    refine DRun.pass ⟨32, rfl, .inl ⟨_, rfl, rfl⟩⟩ rfl rfl ?_
    refine DRun.pass ⟨32, rfl, .inl ⟨_, rfl, rfl⟩⟩ rfl rfl ?_
    refine DRun.pass ⟨32, rfl, .inl ⟨_, rfl, rfl⟩⟩ rfl rfl ?_
    refine DRun.step rfl rfl rfl (AOp.pickF rfl rfl rfl) ?_
    refine DRun.nil ?_
    refine AWP.cond rfl (fun h => nomatch h) (fun _ => ?_)
    refine AWP.skip ?_
    refine AWP.seq (AWP.region ?_)
    refine AOps.step rfl rfl rfl (AOp.loadAgg rfl ag_67 rfl rfl) ?_
    -- wants the world
    refine AOps.callT rfl rfl rfl hT maxT_stays rfl (.cons (ArgOk.rfl' rfl) .nil) (c_rThg _ hbk) ?_
    refine AOps.aD rfl rfl rfl rfl rfl (.nil ?_)
    refine AWP.seq (AWP.region ?_)
    refine AOps.mD rfl rfl rfl rfl rfl ?_
    refine AOps.step rfl rfl rfl (AOp.neq rfl rfl rfl) (.nil ?_)
    refine AWP.cond rfl (fun h8 => ?_) (fun h8 => ?_)
    · replace h8 := of_decide_eq_true h8
      have HT : chkF c = thgF c.things[k] := chk_t hL hlt hk.2 (show thF c.things k = _ from by unfold thF; rw [dif_pos hlt]; (first | (exfalso; omega) | ((repeat (first | rw [if_pos (by first | assumption | omega)] | rw [if_neg (by first | assumption | omega)])); first | done | rfl | omega | decide))) h8
      rw [HT]
      refine AWP.seq (AWP.region ?_)
      refine AOps.mD rfl rfl rfl rfl rfl ?_
      refine AOps.aD rfl rfl rfl rfl rfl (.nil ?_)
      refine AWP.ret ?_
      refine ⟨RetD.eq rfl ?_, trivial⟩
      all_goals (first | rfl | first | rw [HR] | rw [chk_t hL hlt hk.2 (show thF c.things k = 1 from by unfold thF; rw [dif_pos hlt]; (first | (exfalso; omega) | ((repeat (first | rw [if_pos (by first | assumption | omega)] | rw [if_neg (by first | assumption | omega)])); first | done | rfl | omega | decide))) (by decide)] | rw [chk_t hL hlt hk.2 (show thF c.things k = 8 from by unfold thF; rw [dif_pos hlt]; (first | (exfalso; omega) | ((repeat (first | rw [if_pos (by first | assumption | omega)] | rw [if_neg (by first | assumption | omega)])); first | done | rfl | omega | decide))) (by decide)])
    replace h8 := of_decide_eq_false h8
    refine AWP.skip ?_
    refine AWP.region ?_
    refine AOps.step rfl rfl rfl (AOp.add64 rfl rfl rfl (by omega) (by omega)) ?_
    refine AOps.mD rfl rfl rfl rfl rfl (.nil ?_)
    refine ⟨k + 1, ⟨by omega, ffst_next hk.2 (show thF c.things k = 0 from by unfold thF; rw [dif_pos hlt]; (first | (exfalso; omega) | ((repeat (first | rw [if_pos (by first | assumption | omega)] | rw [if_neg (by first | assumption | omega)])); first | done | rfl | omega | decide)))⟩, (by dsimp only; omega), Sub.less ⟨(SLe.of_eq rfl), SLe.refl _, SLe.refl _, SLe.refl _, trivial⟩ (fun _ h => h)⟩
  replace h3 := of_decide_eq_false h3
  rw [List.length_map] at h3
  obtain rfl : k = c.things.length := by omega
  have HF1 := hk.2
  have hr := risT_of HF1
  refine AWP.exit ?_
  refine AWP.seq ?_
  refine AWP.seq (AWP.region ?_)
  refine AOps.step rfl rfl rfl (AOp.fieldAddr rfl fo_25_0 rfl) ?_
  refine AOps.step rfl rfl rfl (AOp.load rfl sc_22 rfl) ?_
  refine AOps.step rfl rfl rfl (AOp.lenSl rfl et_22.ht rfl) ?_
  refine AOps.mD rfl rfl rfl rfl rfl (.nil ?_)
  refine AWP.block ?_
  refine AWP.loop (G := Nat) (fun k => Env.of [(53, .d (.v (.int .i64 (k : Int)))), (52, .d (.v (.int .i64 ((c.things.map Thg.ds).length : Int)))), (1, .d (.fp c.ds))]) (fun k => []) (fun k => k ≤ c.things.length ∧ ffst (lkF c.things) k = 0) (fun k => c.things.length - k) 0 ⟨Nat.zero_le _, rfl⟩ (Sub.less ⟨(SLe.of_eq rfl), SLe.refl _, SLe.refl _, trivial⟩ (fun _ h => h)) ?_
  intro k hk
  refine AWP.seq (AWP.region ?_)
  refine AOps.step rfl rfl rfl (AOp.lss rfl rfl rfl) (.nil ?_)
  refine AWP.seq ?_
  refine AWP.cond rfl (fun h9 => ?_) (fun h9 => ?_)
  · replace h9 := of_decide_eq_true h9
    rw [List.length_map] at h9
    have hlt : k < c.things.length := by omega
    have hbk := hc.things _ (List.getElem_mem hlt)
    refine AWP.skip ?_
    refine AWP.seq ?_
    refine AWP.block ?_
    refine AWP.seq (AWP.region ?_)
    refine AOps.mD rfl rfl rfl rfl rfl ?_
    refine AOps.aD rfl rfl rfl rfl rfl (.nil ?_)
    refine AWP.seq (AWP.region ?_)
    refine AOps.step rfl rfl rfl (AOp.loadAgg rfl ag_25 rfl rfl) ?_
    refine AOps.mD rfl rfl rfl rfl rfl ?_
    refine AOps.step rfl rfl rfl (AOp.call rfl (.cons (ArgOk.rfl' rfl) (.cons (ArgOk.rfl' rfl) .nil)) (c_rLink c k hLim hr hlt (parts_of HF1 hlt))) ?_
    refine AOps.aD rfl rfl rfl rfl rfl (.nil ?_)
    refine AWP.seq (AWP.region ?_)
    refine AOps.mD rfl rfl rfl rfl rfl ?_
    refine AOps.step rfl rfl rfl (AOp.neq rfl rfl rfl) (.nil ?_)
    refine AWP.cond rfl (fun h10 => ?_) (fun h10 => ?_)
    · replace h10 := of_decide_eq_true h10
      have HT : chkF c = lkF c.things k := chk_l hL HF1 hlt hk.2 rfl h10
      rw [HT]
      refine AWP.seq (AWP.region ?_)
      refine AOps.mD rfl rfl rfl rfl rfl ?_
      refine AOps.aD rfl rfl rfl rfl rfl (.nil ?_)
      refine AWP.ret ?_
      refine ⟨RetD.eq rfl ?_, trivial⟩
      all_goals (first | rfl | first | rw [HR] | rw [chk_t hL hlt hk.2 (show thF c.things k = 1 from by unfold thF; rw [dif_pos hlt]; (first | (exfalso; omega) | ((repeat (first | rw [if_pos (by first | assumption | omega)] | rw [if_neg (by first | assumption | omega)])); first | done | rfl | omega | decide))) (by decide)] | rw [chk_t hL hlt hk.2 (show thF c.things k = 8 from by unfold thF; rw [dif_pos hlt]; (first | (exfalso; omega) | ((repeat (first | rw [if_pos (by first | assumption | omega)] | rw [if_neg (by first | assumption | omega)])); first | done | rfl | omega | decide))) (by decide)])
    replace h10 := of_decide_eq_false h10
    have n0 : lkF c.things k = 0 := by omega
    refine AWP.skip ?_
    refine AWP.region ?_
    refine AOps.step rfl rfl rfl (AOp.add64 rfl rfl rfl (by omega) (by omega)) ?_
    refine AOps.mD rfl rfl rfl rfl rfl (.nil ?_)
    refine ⟨k + 1, ⟨by omega, ffst_next hk.2 n0⟩, (by dsimp only; omega), Sub.less ⟨(SLe.of_eq rfl), SLe.refl _, SLe.refl _, trivial⟩ (fun _ h => h)⟩
  replace h9 := of_decide_eq_false h9
  rw [List.length_map] at h9
  obtain rfl : k = c.things.length := by omega
  have HR : chkF c = mvdF c := chk_m hL HF1 hk.2
  refine AWP.exit ?_
  refine AWP.seq (AWP.region ?_)
  refine AOps.step rfl rfl rfl (AOp.loadAgg rfl ag_25 rfl rfl) ?_
  refine AOps.step rfl rfl rfl (AOp.call rfl (.cons (ArgOk.rfl' rfl) .nil) (c_rMvd c hLim hc hr)) ?_
  refine AOps.aD rfl rfl rfl rfl rfl (.nil ?_)
  refine AWP.ret ?_
  refine ⟨RetD.eq rfl ?_, trivial⟩
  all_goals (first | rfl | first | rw [HR] | rw [chk_t hL hlt hk.2 (show thF c.things k = 1 from by unfold thF; rw [dif_pos hlt]; (first | (exfalso; omega) | ((repeat (first | rw [if_pos (by first | assumption | omega)] | rw [if_neg (by first | assumption | omega)])); first | done | rfl | omega | decide))) (by decide)] | rw [chk_t hL hlt hk.2 (show thF c.things k = 8 from by unfold thF; rw [dif_pos hlt]; (first | (exfalso; omega) | ((repeat (first | rw [if_pos (by first | assumption | omega)] | rw [if_neg (by first | assumption | omega)])); first | done | rfl | omega | decide))) (by decide)])

end Go.Proofs.YtcilhhkmgebkeaaGreatDoor


namespace Go.Proofs.YtcilhhkmgebkeaaGreatDoor
open Go.RowKit
set_option linter.unusedVariables false

/-! Types. -/
namespace TyLA

end TyLA
open TyLA


set_option linter.unusedSimpArgs false
structure Chg where
  put : List Thg
  drop : List Int
  add : List Mvd
  back : List Int
deriving DecidableEq
instance : Inhabited Chg := ⟨⟨[], [], [], []⟩⟩
def Chg.ds (x : Chg) : List D := [.sl (x.put.map Thg.ds), .sl (x.drop.map intD), .sl (x.add.map Mvd.ds), .sl (x.back.map intD)]
structure ChgOk (x : Chg) : Prop where
  put : ∀ t ∈ x.put, ThgOk t
  drop : ∀ n ∈ x.drop, i64 n
  add : ∀ m ∈ x.add, i64 m.src ∧ i64 m.dst
  back : ∀ n ∈ x.back, i64 n
section
variable {α : Type} {f : α → Int}
/-- The numbers rise. -/
def RisBy (f : α → Int) (l : List α) : Prop := l.Pairwise fun a b => f a < f b
def findBy (f : α → Int) (l : List α) (k : Int) : Option α := l.find? fun a => decide (f a = k)
end
end Go.Proofs.YtcilhhkmgebkeaaGreatDoor


namespace Go.Proofs.YtcilhhkmgebkeaaGreatDoor
open Go.RowKit
set_option linter.unusedVariables false

/-! Types. -/
namespace TyLB
theorem ag_46 : AggT Tryz.prog 46 2 := .of (by kernel_rfl)
theorem ag_67 : AggT Tryz.prog 67 7 := .of (by kernel_rfl)
theorem et_23 : ElemTy Tryz.prog 23 46 2 16 (.agg #[(.int .i64 0), (.int .i64 0)]) := ⟨by kernel_rfl, by kernel_rfl, by kernel_rfl, by decide⟩
theorem et_26 : ElemTy Tryz.prog 26 3 1 8 (.int .i64 0) := ⟨by kernel_rfl, by kernel_rfl, by kernel_rfl, by decide⟩
theorem fo_67_0 : fieldOff Tryz.prog 67 0 = some 0 := by kernel_rfl
theorem fo_67_1 : fieldOff Tryz.prog 67 1 = some 1 := by kernel_rfl
theorem fo_67_2 : fieldOff Tryz.prog 67 2 = some 2 := by kernel_rfl
theorem fo_67_3 : fieldOff Tryz.prog 67 3 = some 3 := by kernel_rfl
theorem fo_67_4 : fieldOff Tryz.prog 67 4 = some 4 := by kernel_rfl
theorem fo_67_5 : fieldOff Tryz.prog 67 5 = some 5 := by kernel_rfl
theorem fo_67_6 : fieldOff Tryz.prog 67 6 = some 6 := by kernel_rfl
theorem sc_26 : Scal Tryz.prog 26 := .of (by kernel_rfl)
theorem sc_3 : Scal Tryz.prog 3 := .of (by kernel_rfl)
theorem sc_9 : Scal Tryz.prog 9 := .of (by kernel_rfl)
theorem sz_26 : ∀ w, (sizeOf 26).run Tryz.prog w = .ok 1 w := SizeT.of (by kernel_rfl)
theorem sz_67 : ∀ w, (sizeOf 67).run Tryz.prog w = .ok 7 w := SizeT.of (by kernel_rfl)
theorem zt_67 : (Tryz.prog.info? 67).bind (·.zero) = some (.agg #[(.int .i64 0), (.int .i64 0), (.string ⟨#[]⟩), (.string ⟨#[]⟩), (.int .i64 0), (.int .i64 0), (.slice none 0 0)]) := by kernel_rfl
end TyLB
open TyLB


theorem take_all_eq {α : Type} {l r : List α} (h : l.length = r.length) (h2 : l.take l.length = r.take l.length) : l = r := by
  rw [List.take_length, h, List.take_length] at h2; exact h2
theorem take_eq {α : Type} {l r : List α} {k : Nat} (hl : k < l.length) (hr : k < r.length) (h : l.take k = r.take k) (h2 : l[k] = r[k]) : l.take (k + 1) = r.take (k + 1) := by
  rw [List.take_add_one, List.take_add_one, List.getElem?_eq_getElem hl, List.getElem?_eq_getElem hr, h, h2]
theorem eqT_mvd : EqT Tryz.prog 46 [.int .i64, .int .i64] := .of (by kernel_rfl)
theorem eq_mvd (x y : Mvd) : EqD Tryz.prog 46 x.ds y.ds (decide (x.src = y.src ∧ x.dst = y.dst)) := .of eqT_mvd [.int .i64 x.src, .int .i64 x.dst] [.int .i64 y.src, .int .i64 y.dst] rfl rfl rfl rfl (by simp [sameL, sameV])
theorem mvd_ext {x y : Mvd} (h : x.src = y.src ∧ x.dst = y.dst) : x = y := by cases x; cases y; obtain ⟨h1, h2⟩ := h; dsimp only at h1 h2; rw [h1, h2]
theorem thg_dec {a b : Thg} (e1 : a.id = b.id) (e2 : a.kind = b.kind) (e3 : a.title = b.title) (e4 : a.code = b.code) (e5 : a.since = b.since) (e6 : a.parent = b.parent) : decide (a.parts = b.parts) = decide (a = b) := by
  apply decide_eq_decide.2
  cases a; cases b
  dsimp only at e1 e2 e3 e4 e5 e6
  subst e1 e2 e3 e4 e5 e6
  simp


set_option maxRecDepth 100000 in
set_option maxHeartbeats 1000000 in
theorem c_eqI (l r : List Int) : ACall Tryz.prog 27 [.sl (l.map intD), .sl (r.map intD)] (.v (.bool (decide (l = r)))) := by
  refine acall_of (n := 26) (ds' := [.v (.bool (decide (l = r)))]) Tryz.func27 rfl (by kernel_rfl) rfl [4] rfl rfl ?_
  intro B w0 F0 fr
  refine AWP.bound 0 rfl (fun hbd0 => ?_)
  rw [List.length_map] at hbd0
  refine AWP.bound 1 rfl (fun hbd1 => ?_)
  rw [List.length_map] at hbd1
  refine AWP.seq (AWP.region ?_)
  refine AOps.aD rfl rfl rfl rfl rfl (.nil ?_)
  refine AWP.seq ?_
  refine AWP.seq (AWP.region ?_)
  refine AOps.mD rfl rfl rfl rfl rfl ?_
  refine AOps.step rfl rfl rfl (AOp.lenSl rfl et_26.ht rfl) ?_
  refine AOps.mD rfl rfl rfl rfl rfl ?_
  refine AOps.step rfl rfl rfl (AOp.lenSl rfl et_26.ht rfl) ?_
  refine AOps.step rfl rfl rfl (AOp.neq rfl rfl rfl) (.nil ?_)
  refine AWP.cond rfl (fun h1 => ?_) (fun h1 => ?_)
  · replace h1 := of_decide_eq_true h1
    rw [List.length_map, List.length_map] at h1
    rw [decide_eq_false (show ¬ l = r from fun e => h1 (by rw [e]))]
    refine AWP.seq (AWP.region ?_)
    refine AOps.aD rfl rfl rfl rfl rfl (.nil ?_)
    refine AWP.ret ?_
    refine ⟨RetD.eq rfl ?_, trivial⟩
    all_goals (rfl)
  replace h1 := of_decide_eq_false h1
  rw [List.length_map, List.length_map] at h1
  have hle : l.length = r.length := by omega
  refine AWP.skip ?_
  refine AWP.seq ?_
  refine AWP.seq (AWP.region ?_)
  refine AOps.mD rfl rfl rfl rfl rfl ?_
  refine AOps.step rfl rfl rfl (AOp.lenSl rfl et_26.ht rfl) ?_
  refine AOps.mD rfl rfl rfl rfl rfl (.nil ?_)
  refine AWP.block ?_
  refine AWP.loop (G := Nat) (fun k => Env.of [(13, .d (.v (.int .i64 (k : Int)))), (0, .d (.sl (l.map intD))), (1, .d (.sl (r.map intD))), (12, .d (.v (.int .i64 ((l.map intD).length : Int))))]) (fun k => []) (fun k => k ≤ l.length ∧ l.take k = r.take k) (fun k => l.length - k) 0 ⟨Nat.zero_le _, by simp⟩ (Sub.less ⟨(SLe.of_eq rfl), SLe.refl _, SLe.refl _, SLe.refl _, trivial⟩ (fun _ h => h)) ?_
  intro k hk
  refine AWP.seq (AWP.region ?_)
  refine AOps.step rfl rfl rfl (AOp.lss rfl rfl rfl) (.nil ?_)
  refine AWP.seq ?_
  refine AWP.cond rfl (fun h2 => ?_) (fun h2 => ?_)
  · replace h2 := of_decide_eq_true h2
    rw [List.length_map] at h2
    have hlt : k < l.length := by omega
    have hlr : k < r.length := by omega
    refine AWP.skip ?_
    refine AWP.seq ?_
    refine AWP.block ?_
    refine AWP.seq (AWP.region ?_)
    refine AOps.mD rfl rfl rfl rfl rfl ?_
    refine AOps.aD rfl rfl rfl rfl rfl (.nil ?_)
    refine AWP.seq ?_
    refine AWP.draw (by kernel_rfl) (by kernel_rfl) ?_
    refine DRun.step rfl rfl rfl (AOp.moveD rfl rfl) ?_
    refine DRun.step rfl rfl rfl (AOp.moveD rfl rfl) ?_
    refine DRun.step rfl rfl rfl (AOp.indexAddr rfl et_26 rfl rfl k rfl (at_lst hlt) rfl) ?_
    refine DRun.step rfl rfl rfl (AOp.load rfl sc_3 rfl) ?_
    refine DRun.step rfl rfl rfl (AOp.moveD rfl rfl) ?_
    refine DRun.step rfl rfl rfl (AOp.moveD rfl rfl) ?_
    refine DRun.step rfl rfl rfl (AOp.indexAddr rfl et_26 rfl rfl k rfl (at_lst hlr) rfl) ?_
    refine DRun.step rfl rfl rfl (AOp.load rfl sc_3 rfl) ?_
    refine DRun.step rfl rfl rfl (AOp.neq rfl rfl rfl) ?_
    refine DRun.nil ?_
    refine AWP.cond rfl (fun h3 => ?_) (fun h3 => ?_)
    · replace h3 := of_decide_eq_true h3
      rw [decide_eq_false (show ¬ l = r from fun e => h3 (by subst e; rfl))]
      refine AWP.seq (AWP.region ?_)
      refine AOps.aD rfl rfl rfl rfl rfl (.nil ?_)
      refine AWP.ret ?_
      refine ⟨RetD.eq rfl ?_, trivial⟩
      all_goals (rfl)
    replace h3 := of_decide_eq_false h3
    have hT := take_eq hlt hlr hk.2 (by first | exact h3 | omega)
    refine AWP.skip ?_
    refine AWP.region ?_
    refine AOps.step rfl rfl rfl (AOp.add64 rfl rfl rfl (by omega) (by omega)) ?_
    refine AOps.mD rfl rfl rfl rfl rfl (.nil ?_)
    refine ⟨k + 1, ⟨by omega, hT⟩, (by dsimp only; omega), Sub.less ⟨(SLe.of_eq rfl), SLe.refl _, SLe.refl _, SLe.refl _, trivial⟩ (fun _ h => h)⟩
  replace h2 := of_decide_eq_false h2
  rw [List.length_map] at h2
  obtain rfl : k = l.length := by omega
  rw [decide_eq_true (take_all_eq hle hk.2)]
  refine AWP.exit ?_
  refine AWP.seq (AWP.region ?_)
  refine AOps.aD rfl rfl rfl rfl rfl (.nil ?_)
  refine AWP.ret ?_
  refine ⟨RetD.eq rfl ?_, trivial⟩
  all_goals (rfl)

set_option maxRecDepth 100000 in
set_option maxHeartbeats 1000000 in
theorem c_eqM (l r : List Mvd) : ACall Tryz.prog 22 [.sl (l.map Mvd.ds), .sl (r.map Mvd.ds)] (.v (.bool (decide (l = r)))) := by
  refine acall_of (n := 26) (ds' := [.v (.bool (decide (l = r)))]) Tryz.func22 rfl (by kernel_rfl) rfl [4] rfl rfl ?_
  intro B w0 F0 fr
  refine AWP.bound 0 rfl (fun hbd0 => ?_)
  rw [List.length_map] at hbd0
  refine AWP.bound 1 rfl (fun hbd1 => ?_)
  rw [List.length_map] at hbd1
  refine AWP.seq (AWP.region ?_)
  refine AOps.aD rfl rfl rfl rfl rfl (.nil ?_)
  refine AWP.seq ?_
  refine AWP.seq (AWP.region ?_)
  refine AOps.mD rfl rfl rfl rfl rfl ?_
  refine AOps.step rfl rfl rfl (AOp.lenSl rfl et_23.ht rfl) ?_
  refine AOps.mD rfl rfl rfl rfl rfl ?_
  refine AOps.step rfl rfl rfl (AOp.lenSl rfl et_23.ht rfl) ?_
  refine AOps.step rfl rfl rfl (AOp.neq rfl rfl rfl) (.nil ?_)
  refine AWP.cond rfl (fun h1 => ?_) (fun h1 => ?_)
  · replace h1 := of_decide_eq_true h1
    rw [List.length_map, List.length_map] at h1
    rw [decide_eq_false (show ¬ l = r from fun e => h1 (by rw [e]))]
    refine AWP.seq (AWP.region ?_)
    refine AOps.aD rfl rfl rfl rfl rfl (.nil ?_)
    refine AWP.ret ?_
    refine ⟨RetD.eq rfl ?_, trivial⟩
    all_goals (rfl)
  replace h1 := of_decide_eq_false h1
  rw [List.length_map, List.length_map] at h1
  have hle : l.length = r.length := by omega
  refine AWP.skip ?_
  refine AWP.seq ?_
  refine AWP.seq (AWP.region ?_)
  refine AOps.mD rfl rfl rfl rfl rfl ?_
  refine AOps.step rfl rfl rfl (AOp.lenSl rfl et_23.ht rfl) ?_
  refine AOps.mD rfl rfl rfl rfl rfl (.nil ?_)
  refine AWP.block ?_
  refine AWP.loop (G := Nat) (fun k => Env.of [(13, .d (.v (.int .i64 (k : Int)))), (0, .d (.sl (l.map Mvd.ds))), (1, .d (.sl (r.map Mvd.ds))), (12, .d (.v (.int .i64 ((l.map Mvd.ds).length : Int))))]) (fun k => []) (fun k => k ≤ l.length ∧ l.take k = r.take k) (fun k => l.length - k) 0 ⟨Nat.zero_le _, by simp⟩ (Sub.less ⟨(SLe.of_eq rfl), SLe.refl _, SLe.refl _, SLe.refl _, trivial⟩ (fun _ h => h)) ?_
  intro k hk
  refine AWP.seq (AWP.region ?_)
  refine AOps.step rfl rfl rfl (AOp.lss rfl rfl rfl) (.nil ?_)
  refine AWP.seq ?_
  refine AWP.cond rfl (fun h2 => ?_) (fun h2 => ?_)
  · replace h2 := of_decide_eq_true h2
    rw [List.length_map] at h2
    have hlt : k < l.length := by omega
    have hlr : k < r.length := by omega
    refine AWP.skip ?_
    refine AWP.seq ?_
    refine AWP.block ?_
    refine AWP.seq (AWP.region ?_)
    refine AOps.mD rfl rfl rfl rfl rfl ?_
    refine AOps.aD rfl rfl rfl rfl rfl (.nil ?_)
    refine AWP.seq ?_
    refine AWP.draw (by kernel_rfl) (by kernel_rfl) ?_
    refine DRun.step rfl rfl rfl (AOp.moveD rfl rfl) ?_
    refine DRun.step rfl rfl rfl (AOp.moveD rfl rfl) ?_
    refine DRun.step rfl rfl rfl (AOp.indexAddr rfl et_23 rfl rfl k rfl (at_lst hlt) rfl) ?_
    refine DRun.step rfl rfl rfl (AOp.loadAgg rfl ag_46 rfl rfl) ?_
    refine DRun.step rfl rfl rfl (AOp.moveD rfl rfl) ?_
    refine DRun.step rfl rfl rfl (AOp.moveD rfl rfl) ?_
    refine DRun.step rfl rfl rfl (AOp.indexAddr rfl et_23 rfl rfl k rfl (at_lst hlr) rfl) ?_
    refine DRun.step rfl rfl rfl (AOp.loadAgg rfl ag_46 rfl rfl) ?_
    refine DRun.step rfl rfl rfl (AOp.aggNeq rfl rfl rfl (eq_mvd _ _)) ?_
    refine DRun.nil ?_
    refine AWP.cond rfl (fun h3 => ?_) (fun h3 => ?_)
    · replace h3 := bnot_t h3; replace h3 := of_decide_eq_false h3
      rw [decide_eq_false (show ¬ l = r from fun e => h3 (by subst e; exact ⟨rfl, rfl⟩))]
      refine AWP.seq (AWP.region ?_)
      refine AOps.aD rfl rfl rfl rfl rfl (.nil ?_)
      refine AWP.ret ?_
      refine ⟨RetD.eq rfl ?_, trivial⟩
      all_goals (rfl)
    replace h3 := bnot_f h3; replace h3 := of_decide_eq_true h3
    have hT := take_eq hlt hlr hk.2 (mvd_ext (by first | exact h3 | exact Decidable.not_not.1 h3))
    refine AWP.skip ?_
    refine AWP.region ?_
    refine AOps.step rfl rfl rfl (AOp.add64 rfl rfl rfl (by omega) (by omega)) ?_
    refine AOps.mD rfl rfl rfl rfl rfl (.nil ?_)
    refine ⟨k + 1, ⟨by omega, hT⟩, (by dsimp only; omega), Sub.less ⟨(SLe.of_eq rfl), SLe.refl _, SLe.refl _, SLe.refl _, trivial⟩ (fun _ h => h)⟩
  replace h2 := of_decide_eq_false h2
  rw [List.length_map] at h2
  obtain rfl : k = l.length := by omega
  rw [decide_eq_true (take_all_eq hle hk.2)]
  refine AWP.exit ?_
  refine AWP.seq (AWP.region ?_)
  refine AOps.aD rfl rfl rfl rfl rfl (.nil ?_)
  refine AWP.ret ?_
  refine ⟨RetD.eq rfl ?_, trivial⟩
  all_goals (rfl)

set_option maxRecDepth 100000 in
set_option maxHeartbeats 1000000 in
theorem c_equal (a b : Thg) : ACall Tryz.prog 90 [.agg a.ds, .agg b.ds] (.v (.bool (decide (a = b)))) := by
  refine acall_of (n := 52) (ds' := [.v (.bool (decide (a = b)))]) Tryz.func90 rfl (by kernel_rfl) rfl [4] rfl rfl ?_
  intro B w0 F0 fr
  refine AWP.seq (AWP.region ?_)
  refine AOps.step rfl rfl rfl (AOp.box rfl rfl rfl) ?_
  refine AOps.step rfl rfl rfl (AOp.box rfl rfl rfl) ?_
  refine AOps.aD rfl rfl rfl rfl rfl (.nil ?_)
  refine AWP.seq (AWP.region ?_)
  refine AOps.step rfl rfl rfl (AOp.fieldAddr rfl fo_67_0 rfl) ?_
  refine AOps.step rfl rfl rfl (AOp.load rfl sc_3 rfl) ?_
  refine AOps.step rfl rfl rfl (AOp.fieldAddr rfl fo_67_0 rfl) ?_
  refine AOps.step rfl rfl rfl (AOp.load rfl sc_3 rfl) ?_
  refine AOps.step rfl rfl rfl (AOp.eql rfl rfl rfl) ?_
  refine AOps.mD rfl rfl rfl rfl rfl ?_
  refine AOps.split 10 rfl (fun g1 => ?_) (fun g1 => ?_)
  · replace g1 := of_decide_eq_true g1
    have e1 := g1
    refine AOps.step ⟨10, rfl, .inl ⟨_, rfl, rfl⟩⟩ rfl rfl (AOp.fieldAddr rfl fo_67_1 rfl) ?_
    refine AOps.step ⟨10, rfl, .inl ⟨_, rfl, rfl⟩⟩ rfl rfl (AOp.load rfl sc_3 rfl) ?_
    refine AOps.step ⟨10, rfl, .inl ⟨_, rfl, rfl⟩⟩ rfl rfl (AOp.fieldAddr rfl fo_67_1 rfl) ?_
    refine AOps.step ⟨10, rfl, .inl ⟨_, rfl, rfl⟩⟩ rfl rfl (AOp.load rfl sc_3 rfl) ?_
    refine AOps.step ⟨10, rfl, .inl ⟨_, rfl, rfl⟩⟩ rfl rfl (AOp.eql rfl rfl rfl) ?_
    refine AOps.step rfl rfl rfl (AOp.pickT rfl rfl rfl) ?_
    refine AOps.mD rfl rfl rfl rfl rfl ?_
    refine AOps.split 17 rfl (fun g2 => ?_) (fun g2 => ?_)
    · replace g2 := of_decide_eq_true g2
      have e2 := g2
      refine AOps.step ⟨17, rfl, .inl ⟨_, rfl, rfl⟩⟩ rfl rfl (AOp.fieldAddr rfl fo_67_2 rfl) ?_
      refine AOps.step ⟨17, rfl, .inl ⟨_, rfl, rfl⟩⟩ rfl rfl (AOp.load rfl sc_9 rfl) ?_
      refine AOps.step ⟨17, rfl, .inl ⟨_, rfl, rfl⟩⟩ rfl rfl (AOp.fieldAddr rfl fo_67_2 rfl) ?_
      refine AOps.step ⟨17, rfl, .inl ⟨_, rfl, rfl⟩⟩ rfl rfl (AOp.load rfl sc_9 rfl) ?_
      refine AOps.step ⟨17, rfl, .inl ⟨_, rfl, rfl⟩⟩ rfl rfl (AOp.seql rfl rfl rfl) ?_
      refine AOps.step rfl rfl rfl (AOp.pickT rfl rfl rfl) ?_
      refine AOps.mD rfl rfl rfl rfl rfl ?_
      refine AOps.split 24 rfl (fun g3 => ?_) (fun g3 => ?_)
      · replace g3 := of_decide_eq_true g3
        have e3 := g3
        refine AOps.step ⟨24, rfl, .inl ⟨_, rfl, rfl⟩⟩ rfl rfl (AOp.fieldAddr rfl fo_67_3 rfl) ?_
        refine AOps.step ⟨24, rfl, .inl ⟨_, rfl, rfl⟩⟩ rfl rfl (AOp.load rfl sc_9 rfl) ?_
        refine AOps.step ⟨24, rfl, .inl ⟨_, rfl, rfl⟩⟩ rfl rfl (AOp.fieldAddr rfl fo_67_3 rfl) ?_
        refine AOps.step ⟨24, rfl, .inl ⟨_, rfl, rfl⟩⟩ rfl rfl (AOp.load rfl sc_9 rfl) ?_
        refine AOps.step ⟨24, rfl, .inl ⟨_, rfl, rfl⟩⟩ rfl rfl (AOp.seql rfl rfl rfl) ?_
        refine AOps.step rfl rfl rfl (AOp.pickT rfl rfl rfl) ?_
        refine AOps.mD rfl rfl rfl rfl rfl ?_
        refine AOps.split 31 rfl (fun g4 => ?_) (fun g4 => ?_)
        · replace g4 := of_decide_eq_true g4
          have e4 := g4
          refine AOps.step ⟨31, rfl, .inl ⟨_, rfl, rfl⟩⟩ rfl rfl (AOp.fieldAddr rfl fo_67_4 rfl) ?_
          refine AOps.step ⟨31, rfl, .inl ⟨_, rfl, rfl⟩⟩ rfl rfl (AOp.load rfl sc_3 rfl) ?_
          refine AOps.step ⟨31, rfl, .inl ⟨_, rfl, rfl⟩⟩ rfl rfl (AOp.fieldAddr rfl fo_67_4 rfl) ?_
          refine AOps.step ⟨31, rfl, .inl ⟨_, rfl, rfl⟩⟩ rfl rfl (AOp.load rfl sc_3 rfl) ?_
          refine AOps.step ⟨31, rfl, .inl ⟨_, rfl, rfl⟩⟩ rfl rfl (AOp.eql rfl rfl rfl) ?_
          refine AOps.step rfl rfl rfl (AOp.pickT rfl rfl rfl) ?_
          refine AOps.mD rfl rfl rfl rfl rfl ?_
          refine AOps.split 38 rfl (fun g5 => ?_) (fun g5 => ?_)
          · replace g5 := of_decide_eq_true g5
            have e5 := g5
            refine AOps.step ⟨38, rfl, .inl ⟨_, rfl, rfl⟩⟩ rfl rfl (AOp.fieldAddr rfl fo_67_5 rfl) ?_
            refine AOps.step ⟨38, rfl, .inl ⟨_, rfl, rfl⟩⟩ rfl rfl (AOp.load rfl sc_3 rfl) ?_
            refine AOps.step ⟨38, rfl, .inl ⟨_, rfl, rfl⟩⟩ rfl rfl (AOp.fieldAddr rfl fo_67_5 rfl) ?_
            refine AOps.step ⟨38, rfl, .inl ⟨_, rfl, rfl⟩⟩ rfl rfl (AOp.load rfl sc_3 rfl) ?_
            refine AOps.step ⟨38, rfl, .inl ⟨_, rfl, rfl⟩⟩ rfl rfl (AOp.eql rfl rfl rfl) ?_
            refine AOps.step rfl rfl rfl (AOp.pickT rfl rfl rfl) ?_
            refine AOps.mD rfl rfl rfl rfl rfl ?_
            refine AOps.split 45 rfl (fun g6 => ?_) (fun g6 => ?_)
            · replace g6 := of_decide_eq_true g6
              have e6 := g6
              refine AOps.step ⟨45, rfl, .inl ⟨_, rfl, rfl⟩⟩ rfl rfl (AOp.fieldAddr rfl fo_67_6 rfl) ?_
              refine AOps.step ⟨45, rfl, .inl ⟨_, rfl, rfl⟩⟩ rfl rfl (AOp.load rfl sc_26 rfl) ?_
              refine AOps.step ⟨45, rfl, .inl ⟨_, rfl, rfl⟩⟩ rfl rfl (AOp.fieldAddr rfl fo_67_6 rfl) ?_
              refine AOps.step ⟨45, rfl, .inl ⟨_, rfl, rfl⟩⟩ rfl rfl (AOp.load rfl sc_26 rfl) ?_
              refine AOps.step ⟨45, rfl, .inl ⟨_, rfl, rfl⟩⟩ rfl rfl (AOp.call rfl (.cons (ArgOk.rfl' rfl) (.cons (ArgOk.rfl' rfl) .nil)) (c_eqI _ _)) ?_
              refine AOps.step rfl rfl rfl (AOp.pickT rfl rfl rfl) ?_
              refine AOps.aD rfl rfl rfl rfl rfl (.nil ?_)
              refine AWP.ret ?_
              refine ⟨RetD.eq rfl ?_, trivial⟩
              all_goals (first | rfl | rw [thg_dec e1 e2 e3 e4 e5 e6])
            replace g6 := of_decide_eq_false g6
            rw [decide_eq_false (show ¬ a = b from fun e => g6 (by rw [e]))]
            refine AOps.pass ⟨45, rfl, .inl ⟨_, rfl, rfl⟩⟩ rfl rfl ?_
            refine AOps.pass ⟨45, rfl, .inl ⟨_, rfl, rfl⟩⟩ rfl rfl ?_
            refine AOps.pass ⟨45, rfl, .inl ⟨_, rfl, rfl⟩⟩ rfl rfl ?_
            refine AOps.pass ⟨45, rfl, .inl ⟨_, rfl, rfl⟩⟩ rfl rfl ?_
            refine AOps.pass ⟨45, rfl, .inl ⟨_, rfl, rfl⟩⟩ rfl rfl ?_
            refine AOps.step rfl rfl rfl (AOp.pickF rfl rfl rfl) ?_
            refine AOps.aD rfl rfl rfl rfl rfl (.nil ?_)
            refine AWP.ret ?_
            refine ⟨RetD.eq rfl ?_, trivial⟩
            all_goals (first | rfl | rw [thg_dec e1 e2 e3 e4 e5 e6])
          replace g5 := of_decide_eq_false g5
          rw [decide_eq_false (show ¬ a = b from fun e => g5 (by rw [e]))]
          refine AOps.pass ⟨38, rfl, .inl ⟨_, rfl, rfl⟩⟩ rfl rfl ?_
          refine AOps.pass ⟨38, rfl, .inl ⟨_, rfl, rfl⟩⟩ rfl rfl ?_
          refine AOps.pass ⟨38, rfl, .inl ⟨_, rfl, rfl⟩⟩ rfl rfl ?_
          refine AOps.pass ⟨38, rfl, .inl ⟨_, rfl, rfl⟩⟩ rfl rfl ?_
          refine AOps.pass ⟨38, rfl, .inl ⟨_, rfl, rfl⟩⟩ rfl rfl ?_
          refine AOps.step rfl rfl rfl (AOp.pickF rfl rfl rfl) ?_
          refine AOps.mD rfl rfl rfl rfl rfl ?_
          refine AOps.pass ⟨45, rfl, .inl ⟨_, rfl, rfl⟩⟩ rfl rfl ?_
          refine AOps.pass ⟨45, rfl, .inl ⟨_, rfl, rfl⟩⟩ rfl rfl ?_
          refine AOps.pass ⟨45, rfl, .inl ⟨_, rfl, rfl⟩⟩ rfl rfl ?_
          refine AOps.pass ⟨45, rfl, .inl ⟨_, rfl, rfl⟩⟩ rfl rfl ?_
          refine AOps.pass ⟨45, rfl, .inl ⟨_, rfl, rfl⟩⟩ rfl rfl ?_
          refine AOps.step rfl rfl rfl (AOp.pickF rfl rfl rfl) ?_
          refine AOps.aD rfl rfl rfl rfl rfl (.nil ?_)
          refine AWP.ret ?_
          refine ⟨RetD.eq rfl ?_, trivial⟩
          all_goals (first | rfl | rw [thg_dec e1 e2 e3 e4 e5 e6])
        replace g4 := of_decide_eq_false g4
        rw [decide_eq_false (show ¬ a = b from fun e => g4 (by rw [e]))]
        refine AOps.pass ⟨31, rfl, .inl ⟨_, rfl, rfl⟩⟩ rfl rfl ?_
        refine AOps.pass ⟨31, rfl, .inl ⟨_, rfl, rfl⟩⟩ rfl rfl ?_
        refine AOps.pass ⟨31, rfl, .inl ⟨_, rfl, rfl⟩⟩ rfl rfl ?_
        refine AOps.pass ⟨31, rfl, .inl ⟨_, rfl, rfl⟩⟩ rfl rfl ?_
        refine AOps.pass ⟨31, rfl, .inl ⟨_, rfl, rfl⟩⟩ rfl rfl ?_
        refine AOps.step rfl rfl rfl (AOp.pickF rfl rfl rfl) ?_
        refine AOps.mD rfl rfl rfl rfl rfl ?_
        refine AOps.pass ⟨38, rfl, .inl ⟨_, rfl, rfl⟩⟩ rfl rfl ?_
        refine AOps.pass ⟨38, rfl, .inl ⟨_, rfl, rfl⟩⟩ rfl rfl ?_
        refine AOps.pass ⟨38, rfl, .inl ⟨_, rfl, rfl⟩⟩ rfl rfl ?_
        refine AOps.pass ⟨38, rfl, .inl ⟨_, rfl, rfl⟩⟩ rfl rfl ?_
        refine AOps.pass ⟨38, rfl, .inl ⟨_, rfl, rfl⟩⟩ rfl rfl ?_
        refine AOps.step rfl rfl rfl (AOp.pickF rfl rfl rfl) ?_
        refine AOps.mD rfl rfl rfl rfl rfl ?_
        refine AOps.pass ⟨45, rfl, .inl ⟨_, rfl, rfl⟩⟩ rfl rfl ?_
        refine AOps.pass ⟨45, rfl, .inl ⟨_, rfl, rfl⟩⟩ rfl rfl ?_
        refine AOps.pass ⟨45, rfl, .inl ⟨_, rfl, rfl⟩⟩ rfl rfl ?_
        refine AOps.pass ⟨45, rfl, .inl ⟨_, rfl, rfl⟩⟩ rfl rfl ?_
        refine AOps.pass ⟨45, rfl, .inl ⟨_, rfl, rfl⟩⟩ rfl rfl ?_
        refine AOps.step rfl rfl rfl (AOp.pickF rfl rfl rfl) ?_
        refine AOps.aD rfl rfl rfl rfl rfl (.nil ?_)
        refine AWP.ret ?_
        refine ⟨RetD.eq rfl ?_, trivial⟩
        all_goals (first | rfl | rw [thg_dec e1 e2 e3 e4 e5 e6])
      replace g3 := of_decide_eq_false g3
      rw [decide_eq_false (show ¬ a = b from fun e => g3 (by rw [e]))]
      refine AOps.pass ⟨24, rfl, .inl ⟨_, rfl, rfl⟩⟩ rfl rfl ?_
      refine AOps.pass ⟨24, rfl, .inl ⟨_, rfl, rfl⟩⟩ rfl rfl ?_
      refine AOps.pass ⟨24, rfl, .inl ⟨_, rfl, rfl⟩⟩ rfl rfl ?_
      refine AOps.pass ⟨24, rfl, .inl ⟨_, rfl, rfl⟩⟩ rfl rfl ?_
      refine AOps.pass ⟨24, rfl, .inl ⟨_, rfl, rfl⟩⟩ rfl rfl ?_
      refine AOps.step rfl rfl rfl (AOp.pickF rfl rfl rfl) ?_
      refine AOps.mD rfl rfl rfl rfl rfl ?_
      refine AOps.pass ⟨31, rfl, .inl ⟨_, rfl, rfl⟩⟩ rfl rfl ?_
      refine AOps.pass ⟨31, rfl, .inl ⟨_, rfl, rfl⟩⟩ rfl rfl ?_
      refine AOps.pass ⟨31, rfl, .inl ⟨_, rfl, rfl⟩⟩ rfl rfl ?_
      refine AOps.pass ⟨31, rfl, .inl ⟨_, rfl, rfl⟩⟩ rfl rfl ?_
      refine AOps.pass ⟨31, rfl, .inl ⟨_, rfl, rfl⟩⟩ rfl rfl ?_
      refine AOps.step rfl rfl rfl (AOp.pickF rfl rfl rfl) ?_
      refine AOps.mD rfl rfl rfl rfl rfl ?_
      refine AOps.pass ⟨38, rfl, .inl ⟨_, rfl, rfl⟩⟩ rfl rfl ?_
      refine AOps.pass ⟨38, rfl, .inl ⟨_, rfl, rfl⟩⟩ rfl rfl ?_
      refine AOps.pass ⟨38, rfl, .inl ⟨_, rfl, rfl⟩⟩ rfl rfl ?_
      refine AOps.pass ⟨38, rfl, .inl ⟨_, rfl, rfl⟩⟩ rfl rfl ?_
      refine AOps.pass ⟨38, rfl, .inl ⟨_, rfl, rfl⟩⟩ rfl rfl ?_
      refine AOps.step rfl rfl rfl (AOp.pickF rfl rfl rfl) ?_
      refine AOps.mD rfl rfl rfl rfl rfl ?_
      refine AOps.pass ⟨45, rfl, .inl ⟨_, rfl, rfl⟩⟩ rfl rfl ?_
      refine AOps.pass ⟨45, rfl, .inl ⟨_, rfl, rfl⟩⟩ rfl rfl ?_
      refine AOps.pass ⟨45, rfl, .inl ⟨_, rfl, rfl⟩⟩ rfl rfl ?_
      refine AOps.pass ⟨45, rfl, .inl ⟨_, rfl, rfl⟩⟩ rfl rfl ?_
      refine AOps.pass ⟨45, rfl, .inl ⟨_, rfl, rfl⟩⟩ rfl rfl ?_
      refine AOps.step rfl rfl rfl (AOp.pickF rfl rfl rfl) ?_
      refine AOps.aD rfl rfl rfl rfl rfl (.nil ?_)
      refine AWP.ret ?_
      refine ⟨RetD.eq rfl ?_, trivial⟩
      all_goals (first | rfl | rw [thg_dec e1 e2 e3 e4 e5 e6])
    replace g2 := of_decide_eq_false g2
    rw [decide_eq_false (show ¬ a = b from fun e => g2 (by rw [e]))]
    refine AOps.pass ⟨17, rfl, .inl ⟨_, rfl, rfl⟩⟩ rfl rfl ?_
    refine AOps.pass ⟨17, rfl, .inl ⟨_, rfl, rfl⟩⟩ rfl rfl ?_
    refine AOps.pass ⟨17, rfl, .inl ⟨_, rfl, rfl⟩⟩ rfl rfl ?_
    refine AOps.pass ⟨17, rfl, .inl ⟨_, rfl, rfl⟩⟩ rfl rfl ?_
    refine AOps.pass ⟨17, rfl, .inl ⟨_, rfl, rfl⟩⟩ rfl rfl ?_
    refine AOps.step rfl rfl rfl (AOp.pickF rfl rfl rfl) ?_
    refine AOps.mD rfl rfl rfl rfl rfl ?_
    refine AOps.pass ⟨24, rfl, .inl ⟨_, rfl, rfl⟩⟩ rfl rfl ?_
    refine AOps.pass ⟨24, rfl, .inl ⟨_, rfl, rfl⟩⟩ rfl rfl ?_
    refine AOps.pass ⟨24, rfl, .inl ⟨_, rfl, rfl⟩⟩ rfl rfl ?_
    refine AOps.pass ⟨24, rfl, .inl ⟨_, rfl, rfl⟩⟩ rfl rfl ?_
    refine AOps.pass ⟨24, rfl, .inl ⟨_, rfl, rfl⟩⟩ rfl rfl ?_
    refine AOps.step rfl rfl rfl (AOp.pickF rfl rfl rfl) ?_
    refine AOps.mD rfl rfl rfl rfl rfl ?_
    refine AOps.pass ⟨31, rfl, .inl ⟨_, rfl, rfl⟩⟩ rfl rfl ?_
    refine AOps.pass ⟨31, rfl, .inl ⟨_, rfl, rfl⟩⟩ rfl rfl ?_
    refine AOps.pass ⟨31, rfl, .inl ⟨_, rfl, rfl⟩⟩ rfl rfl ?_
    refine AOps.pass ⟨31, rfl, .inl ⟨_, rfl, rfl⟩⟩ rfl rfl ?_
    refine AOps.pass ⟨31, rfl, .inl ⟨_, rfl, rfl⟩⟩ rfl rfl ?_
    refine AOps.step rfl rfl rfl (AOp.pickF rfl rfl rfl) ?_
    refine AOps.mD rfl rfl rfl rfl rfl ?_
    refine AOps.pass ⟨38, rfl, .inl ⟨_, rfl, rfl⟩⟩ rfl rfl ?_
    refine AOps.pass ⟨38, rfl, .inl ⟨_, rfl, rfl⟩⟩ rfl rfl ?_
    refine AOps.pass ⟨38, rfl, .inl ⟨_, rfl, rfl⟩⟩ rfl rfl ?_
    refine AOps.pass ⟨38, rfl, .inl ⟨_, rfl, rfl⟩⟩ rfl rfl ?_
    refine AOps.pass ⟨38, rfl, .inl ⟨_, rfl, rfl⟩⟩ rfl rfl ?_
    refine AOps.step rfl rfl rfl (AOp.pickF rfl rfl rfl) ?_
    refine AOps.mD rfl rfl rfl rfl rfl ?_
    refine AOps.pass ⟨45, rfl, .inl ⟨_, rfl, rfl⟩⟩ rfl rfl ?_
    refine AOps.pass ⟨45, rfl, .inl ⟨_, rfl, rfl⟩⟩ rfl rfl ?_
    refine AOps.pass ⟨45, rfl, .inl ⟨_, rfl, rfl⟩⟩ rfl rfl ?_
    refine AOps.pass ⟨45, rfl, .inl ⟨_, rfl, rfl⟩⟩ rfl rfl ?_
    refine AOps.pass ⟨45, rfl, .inl ⟨_, rfl, rfl⟩⟩ rfl rfl ?_
    refine AOps.step rfl rfl rfl (AOp.pickF rfl rfl rfl) ?_
    refine AOps.aD rfl rfl rfl rfl rfl (.nil ?_)
    refine AWP.ret ?_
    refine ⟨RetD.eq rfl ?_, trivial⟩
    all_goals (first | rfl | rw [thg_dec e1 e2 e3 e4 e5 e6])
  replace g1 := of_decide_eq_false g1
  rw [decide_eq_false (show ¬ a = b from fun e => g1 (by rw [e]))]
  refine AOps.pass ⟨10, rfl, .inl ⟨_, rfl, rfl⟩⟩ rfl rfl ?_
  refine AOps.pass ⟨10, rfl, .inl ⟨_, rfl, rfl⟩⟩ rfl rfl ?_
  refine AOps.pass ⟨10, rfl, .inl ⟨_, rfl, rfl⟩⟩ rfl rfl ?_
  refine AOps.pass ⟨10, rfl, .inl ⟨_, rfl, rfl⟩⟩ rfl rfl ?_
  refine AOps.pass ⟨10, rfl, .inl ⟨_, rfl, rfl⟩⟩ rfl rfl ?_
  refine AOps.step rfl rfl rfl (AOp.pickF rfl rfl rfl) ?_
  refine AOps.mD rfl rfl rfl rfl rfl ?_
  refine AOps.pass ⟨17, rfl, .inl ⟨_, rfl, rfl⟩⟩ rfl rfl ?_
  refine AOps.pass ⟨17, rfl, .inl ⟨_, rfl, rfl⟩⟩ rfl rfl ?_
  refine AOps.pass ⟨17, rfl, .inl ⟨_, rfl, rfl⟩⟩ rfl rfl ?_
  refine AOps.pass ⟨17, rfl, .inl ⟨_, rfl, rfl⟩⟩ rfl rfl ?_
  refine AOps.pass ⟨17, rfl, .inl ⟨_, rfl, rfl⟩⟩ rfl rfl ?_
  refine AOps.step rfl rfl rfl (AOp.pickF rfl rfl rfl) ?_
  refine AOps.mD rfl rfl rfl rfl rfl ?_
  refine AOps.pass ⟨24, rfl, .inl ⟨_, rfl, rfl⟩⟩ rfl rfl ?_
  refine AOps.pass ⟨24, rfl, .inl ⟨_, rfl, rfl⟩⟩ rfl rfl ?_
  refine AOps.pass ⟨24, rfl, .inl ⟨_, rfl, rfl⟩⟩ rfl rfl ?_
  refine AOps.pass ⟨24, rfl, .inl ⟨_, rfl, rfl⟩⟩ rfl rfl ?_
  refine AOps.pass ⟨24, rfl, .inl ⟨_, rfl, rfl⟩⟩ rfl rfl ?_
  refine AOps.step rfl rfl rfl (AOp.pickF rfl rfl rfl) ?_
  refine AOps.mD rfl rfl rfl rfl rfl ?_
  refine AOps.pass ⟨31, rfl, .inl ⟨_, rfl, rfl⟩⟩ rfl rfl ?_
  refine AOps.pass ⟨31, rfl, .inl ⟨_, rfl, rfl⟩⟩ rfl rfl ?_
  refine AOps.pass ⟨31, rfl, .inl ⟨_, rfl, rfl⟩⟩ rfl rfl ?_
  refine AOps.pass ⟨31, rfl, .inl ⟨_, rfl, rfl⟩⟩ rfl rfl ?_
  refine AOps.pass ⟨31, rfl, .inl ⟨_, rfl, rfl⟩⟩ rfl rfl ?_
  refine AOps.step rfl rfl rfl (AOp.pickF rfl rfl rfl) ?_
  refine AOps.mD rfl rfl rfl rfl rfl ?_
  refine AOps.pass ⟨38, rfl, .inl ⟨_, rfl, rfl⟩⟩ rfl rfl ?_
  refine AOps.pass ⟨38, rfl, .inl ⟨_, rfl, rfl⟩⟩ rfl rfl ?_
  refine AOps.pass ⟨38, rfl, .inl ⟨_, rfl, rfl⟩⟩ rfl rfl ?_
  refine AOps.pass ⟨38, rfl, .inl ⟨_, rfl, rfl⟩⟩ rfl rfl ?_
  refine AOps.pass ⟨38, rfl, .inl ⟨_, rfl, rfl⟩⟩ rfl rfl ?_
  refine AOps.step rfl rfl rfl (AOp.pickF rfl rfl rfl) ?_
  refine AOps.mD rfl rfl rfl rfl rfl ?_
  refine AOps.pass ⟨45, rfl, .inl ⟨_, rfl, rfl⟩⟩ rfl rfl ?_
  refine AOps.pass ⟨45, rfl, .inl ⟨_, rfl, rfl⟩⟩ rfl rfl ?_
  refine AOps.pass ⟨45, rfl, .inl ⟨_, rfl, rfl⟩⟩ rfl rfl ?_
  refine AOps.pass ⟨45, rfl, .inl ⟨_, rfl, rfl⟩⟩ rfl rfl ?_
  refine AOps.pass ⟨45, rfl, .inl ⟨_, rfl, rfl⟩⟩ rfl rfl ?_
  refine AOps.step rfl rfl rfl (AOp.pickF rfl rfl rfl) ?_
  refine AOps.aD rfl rfl rfl rfl rfl (.nil ?_)
  refine AWP.ret ?_
  refine ⟨RetD.eq rfl ?_, trivial⟩
  all_goals (first | rfl | rw [thg_dec e1 e2 e3 e4 e5 e6])

set_option maxRecDepth 100000 in
set_option maxHeartbeats 1000000 in
theorem c_same (a b : Thg) : ACall Tryz.prog 58 [.agg a.ds, .agg b.ds] (.v (.bool (decide (a = b)))) := by
  refine acall_of (n := 52) (ds' := [.v (.bool (decide (a = b)))]) Tryz.func58 rfl (by kernel_rfl) rfl [4] rfl rfl ?_
  intro B w0 F0 fr
  refine AWP.seq (AWP.region ?_)
  refine AOps.step rfl rfl rfl (AOp.box rfl rfl rfl) ?_
  refine AOps.step rfl rfl rfl (AOp.box rfl rfl rfl) ?_
  refine AOps.aD rfl rfl rfl rfl rfl (.nil ?_)
  refine AWP.seq (AWP.region ?_)
  refine AOps.step rfl rfl rfl (AOp.fieldAddr rfl fo_67_0 rfl) ?_
  refine AOps.step rfl rfl rfl (AOp.load rfl sc_3 rfl) ?_
  refine AOps.step rfl rfl rfl (AOp.fieldAddr rfl fo_67_0 rfl) ?_
  refine AOps.step rfl rfl rfl (AOp.load rfl sc_3 rfl) ?_
  refine AOps.step rfl rfl rfl (AOp.eql rfl rfl rfl) ?_
  refine AOps.mD rfl rfl rfl rfl rfl ?_
  refine AOps.split 10 rfl (fun g1 => ?_) (fun g1 => ?_)
  · replace g1 := of_decide_eq_true g1
    have e1 := g1
    refine AOps.step ⟨10, rfl, .inl ⟨_, rfl, rfl⟩⟩ rfl rfl (AOp.fieldAddr rfl fo_67_1 rfl) ?_
    refine AOps.step ⟨10, rfl, .inl ⟨_, rfl, rfl⟩⟩ rfl rfl (AOp.load rfl sc_3 rfl) ?_
    refine AOps.step ⟨10, rfl, .inl ⟨_, rfl, rfl⟩⟩ rfl rfl (AOp.fieldAddr rfl fo_67_1 rfl) ?_
    refine AOps.step ⟨10, rfl, .inl ⟨_, rfl, rfl⟩⟩ rfl rfl (AOp.load rfl sc_3 rfl) ?_
    refine AOps.step ⟨10, rfl, .inl ⟨_, rfl, rfl⟩⟩ rfl rfl (AOp.eql rfl rfl rfl) ?_
    refine AOps.step rfl rfl rfl (AOp.pickT rfl rfl rfl) ?_
    refine AOps.mD rfl rfl rfl rfl rfl ?_
    refine AOps.split 17 rfl (fun g2 => ?_) (fun g2 => ?_)
    · replace g2 := of_decide_eq_true g2
      have e2 := g2
      refine AOps.step ⟨17, rfl, .inl ⟨_, rfl, rfl⟩⟩ rfl rfl (AOp.fieldAddr rfl fo_67_2 rfl) ?_
      refine AOps.step ⟨17, rfl, .inl ⟨_, rfl, rfl⟩⟩ rfl rfl (AOp.load rfl sc_9 rfl) ?_
      refine AOps.step ⟨17, rfl, .inl ⟨_, rfl, rfl⟩⟩ rfl rfl (AOp.fieldAddr rfl fo_67_2 rfl) ?_
      refine AOps.step ⟨17, rfl, .inl ⟨_, rfl, rfl⟩⟩ rfl rfl (AOp.load rfl sc_9 rfl) ?_
      refine AOps.step ⟨17, rfl, .inl ⟨_, rfl, rfl⟩⟩ rfl rfl (AOp.seql rfl rfl rfl) ?_
      refine AOps.step rfl rfl rfl (AOp.pickT rfl rfl rfl) ?_
      refine AOps.mD rfl rfl rfl rfl rfl ?_
      refine AOps.split 24 rfl (fun g3 => ?_) (fun g3 => ?_)
      · replace g3 := of_decide_eq_true g3
        have e3 := g3
        refine AOps.step ⟨24, rfl, .inl ⟨_, rfl, rfl⟩⟩ rfl rfl (AOp.fieldAddr rfl fo_67_3 rfl) ?_
        refine AOps.step ⟨24, rfl, .inl ⟨_, rfl, rfl⟩⟩ rfl rfl (AOp.load rfl sc_9 rfl) ?_
        refine AOps.step ⟨24, rfl, .inl ⟨_, rfl, rfl⟩⟩ rfl rfl (AOp.fieldAddr rfl fo_67_3 rfl) ?_
        refine AOps.step ⟨24, rfl, .inl ⟨_, rfl, rfl⟩⟩ rfl rfl (AOp.load rfl sc_9 rfl) ?_
        refine AOps.step ⟨24, rfl, .inl ⟨_, rfl, rfl⟩⟩ rfl rfl (AOp.seql rfl rfl rfl) ?_
        refine AOps.step rfl rfl rfl (AOp.pickT rfl rfl rfl) ?_
        refine AOps.mD rfl rfl rfl rfl rfl ?_
        refine AOps.split 31 rfl (fun g4 => ?_) (fun g4 => ?_)
        · replace g4 := of_decide_eq_true g4
          have e4 := g4
          refine AOps.step ⟨31, rfl, .inl ⟨_, rfl, rfl⟩⟩ rfl rfl (AOp.fieldAddr rfl fo_67_4 rfl) ?_
          refine AOps.step ⟨31, rfl, .inl ⟨_, rfl, rfl⟩⟩ rfl rfl (AOp.load rfl sc_3 rfl) ?_
          refine AOps.step ⟨31, rfl, .inl ⟨_, rfl, rfl⟩⟩ rfl rfl (AOp.fieldAddr rfl fo_67_4 rfl) ?_
          refine AOps.step ⟨31, rfl, .inl ⟨_, rfl, rfl⟩⟩ rfl rfl (AOp.load rfl sc_3 rfl) ?_
          refine AOps.step ⟨31, rfl, .inl ⟨_, rfl, rfl⟩⟩ rfl rfl (AOp.eql rfl rfl rfl) ?_
          refine AOps.step rfl rfl rfl (AOp.pickT rfl rfl rfl) ?_
          refine AOps.mD rfl rfl rfl rfl rfl ?_
          refine AOps.split 38 rfl (fun g5 => ?_) (fun g5 => ?_)
          · replace g5 := of_decide_eq_true g5
            have e5 := g5
            refine AOps.step ⟨38, rfl, .inl ⟨_, rfl, rfl⟩⟩ rfl rfl (AOp.fieldAddr rfl fo_67_5 rfl) ?_
            refine AOps.step ⟨38, rfl, .inl ⟨_, rfl, rfl⟩⟩ rfl rfl (AOp.load rfl sc_3 rfl) ?_
            refine AOps.step ⟨38, rfl, .inl ⟨_, rfl, rfl⟩⟩ rfl rfl (AOp.fieldAddr rfl fo_67_5 rfl) ?_
            refine AOps.step ⟨38, rfl, .inl ⟨_, rfl, rfl⟩⟩ rfl rfl (AOp.load rfl sc_3 rfl) ?_
            refine AOps.step ⟨38, rfl, .inl ⟨_, rfl, rfl⟩⟩ rfl rfl (AOp.eql rfl rfl rfl) ?_
            refine AOps.step rfl rfl rfl (AOp.pickT rfl rfl rfl) ?_
            refine AOps.mD rfl rfl rfl rfl rfl ?_
            refine AOps.split 45 rfl (fun g6 => ?_) (fun g6 => ?_)
            · replace g6 := of_decide_eq_true g6
              have e6 := g6
              refine AOps.step ⟨45, rfl, .inl ⟨_, rfl, rfl⟩⟩ rfl rfl (AOp.fieldAddr rfl fo_67_6 rfl) ?_
              refine AOps.step ⟨45, rfl, .inl ⟨_, rfl, rfl⟩⟩ rfl rfl (AOp.load rfl sc_26 rfl) ?_
              refine AOps.step ⟨45, rfl, .inl ⟨_, rfl, rfl⟩⟩ rfl rfl (AOp.fieldAddr rfl fo_67_6 rfl) ?_
              refine AOps.step ⟨45, rfl, .inl ⟨_, rfl, rfl⟩⟩ rfl rfl (AOp.load rfl sc_26 rfl) ?_
              refine AOps.step ⟨45, rfl, .inl ⟨_, rfl, rfl⟩⟩ rfl rfl (AOp.call rfl (.cons (ArgOk.rfl' rfl) (.cons (ArgOk.rfl' rfl) .nil)) (c_eqI _ _)) ?_
              refine AOps.step rfl rfl rfl (AOp.pickT rfl rfl rfl) ?_
              refine AOps.aD rfl rfl rfl rfl rfl (.nil ?_)
              refine AWP.ret ?_
              refine ⟨RetD.eq rfl ?_, trivial⟩
              all_goals (first | rfl | rw [thg_dec e1 e2 e3 e4 e5 e6])
            replace g6 := of_decide_eq_false g6
            rw [decide_eq_false (show ¬ a = b from fun e => g6 (by rw [e]))]
            refine AOps.pass ⟨45, rfl, .inl ⟨_, rfl, rfl⟩⟩ rfl rfl ?_
            refine AOps.pass ⟨45, rfl, .inl ⟨_, rfl, rfl⟩⟩ rfl rfl ?_
            refine AOps.pass ⟨45, rfl, .inl ⟨_, rfl, rfl⟩⟩ rfl rfl ?_
            refine AOps.pass ⟨45, rfl, .inl ⟨_, rfl, rfl⟩⟩ rfl rfl ?_
            refine AOps.pass ⟨45, rfl, .inl ⟨_, rfl, rfl⟩⟩ rfl rfl ?_
            refine AOps.step rfl rfl rfl (AOp.pickF rfl rfl rfl) ?_
            refine AOps.aD rfl rfl rfl rfl rfl (.nil ?_)
            refine AWP.ret ?_
            refine ⟨RetD.eq rfl ?_, trivial⟩
            all_goals (first | rfl | rw [thg_dec e1 e2 e3 e4 e5 e6])
          replace g5 := of_decide_eq_false g5
          rw [decide_eq_false (show ¬ a = b from fun e => g5 (by rw [e]))]
          refine AOps.pass ⟨38, rfl, .inl ⟨_, rfl, rfl⟩⟩ rfl rfl ?_
          refine AOps.pass ⟨38, rfl, .inl ⟨_, rfl, rfl⟩⟩ rfl rfl ?_
          refine AOps.pass ⟨38, rfl, .inl ⟨_, rfl, rfl⟩⟩ rfl rfl ?_
          refine AOps.pass ⟨38, rfl, .inl ⟨_, rfl, rfl⟩⟩ rfl rfl ?_
          refine AOps.pass ⟨38, rfl, .inl ⟨_, rfl, rfl⟩⟩ rfl rfl ?_
          refine AOps.step rfl rfl rfl (AOp.pickF rfl rfl rfl) ?_
          refine AOps.mD rfl rfl rfl rfl rfl ?_
          refine AOps.pass ⟨45, rfl, .inl ⟨_, rfl, rfl⟩⟩ rfl rfl ?_
          refine AOps.pass ⟨45, rfl, .inl ⟨_, rfl, rfl⟩⟩ rfl rfl ?_
          refine AOps.pass ⟨45, rfl, .inl ⟨_, rfl, rfl⟩⟩ rfl rfl ?_
          refine AOps.pass ⟨45, rfl, .inl ⟨_, rfl, rfl⟩⟩ rfl rfl ?_
          refine AOps.pass ⟨45, rfl, .inl ⟨_, rfl, rfl⟩⟩ rfl rfl ?_
          refine AOps.step rfl rfl rfl (AOp.pickF rfl rfl rfl) ?_
          refine AOps.aD rfl rfl rfl rfl rfl (.nil ?_)
          refine AWP.ret ?_
          refine ⟨RetD.eq rfl ?_, trivial⟩
          all_goals (first | rfl | rw [thg_dec e1 e2 e3 e4 e5 e6])
        replace g4 := of_decide_eq_false g4
        rw [decide_eq_false (show ¬ a = b from fun e => g4 (by rw [e]))]
        refine AOps.pass ⟨31, rfl, .inl ⟨_, rfl, rfl⟩⟩ rfl rfl ?_
        refine AOps.pass ⟨31, rfl, .inl ⟨_, rfl, rfl⟩⟩ rfl rfl ?_
        refine AOps.pass ⟨31, rfl, .inl ⟨_, rfl, rfl⟩⟩ rfl rfl ?_
        refine AOps.pass ⟨31, rfl, .inl ⟨_, rfl, rfl⟩⟩ rfl rfl ?_
        refine AOps.pass ⟨31, rfl, .inl ⟨_, rfl, rfl⟩⟩ rfl rfl ?_
        refine AOps.step rfl rfl rfl (AOp.pickF rfl rfl rfl) ?_
        refine AOps.mD rfl rfl rfl rfl rfl ?_
        refine AOps.pass ⟨38, rfl, .inl ⟨_, rfl, rfl⟩⟩ rfl rfl ?_
        refine AOps.pass ⟨38, rfl, .inl ⟨_, rfl, rfl⟩⟩ rfl rfl ?_
        refine AOps.pass ⟨38, rfl, .inl ⟨_, rfl, rfl⟩⟩ rfl rfl ?_
        refine AOps.pass ⟨38, rfl, .inl ⟨_, rfl, rfl⟩⟩ rfl rfl ?_
        refine AOps.pass ⟨38, rfl, .inl ⟨_, rfl, rfl⟩⟩ rfl rfl ?_
        refine AOps.step rfl rfl rfl (AOp.pickF rfl rfl rfl) ?_
        refine AOps.mD rfl rfl rfl rfl rfl ?_
        refine AOps.pass ⟨45, rfl, .inl ⟨_, rfl, rfl⟩⟩ rfl rfl ?_
        refine AOps.pass ⟨45, rfl, .inl ⟨_, rfl, rfl⟩⟩ rfl rfl ?_
        refine AOps.pass ⟨45, rfl, .inl ⟨_, rfl, rfl⟩⟩ rfl rfl ?_
        refine AOps.pass ⟨45, rfl, .inl ⟨_, rfl, rfl⟩⟩ rfl rfl ?_
        refine AOps.pass ⟨45, rfl, .inl ⟨_, rfl, rfl⟩⟩ rfl rfl ?_
        refine AOps.step rfl rfl rfl (AOp.pickF rfl rfl rfl) ?_
        refine AOps.aD rfl rfl rfl rfl rfl (.nil ?_)
        refine AWP.ret ?_
        refine ⟨RetD.eq rfl ?_, trivial⟩
        all_goals (first | rfl | rw [thg_dec e1 e2 e3 e4 e5 e6])
      replace g3 := of_decide_eq_false g3
      rw [decide_eq_false (show ¬ a = b from fun e => g3 (by rw [e]))]
      refine AOps.pass ⟨24, rfl, .inl ⟨_, rfl, rfl⟩⟩ rfl rfl ?_
      refine AOps.pass ⟨24, rfl, .inl ⟨_, rfl, rfl⟩⟩ rfl rfl ?_
      refine AOps.pass ⟨24, rfl, .inl ⟨_, rfl, rfl⟩⟩ rfl rfl ?_
      refine AOps.pass ⟨24, rfl, .inl ⟨_, rfl, rfl⟩⟩ rfl rfl ?_
      refine AOps.pass ⟨24, rfl, .inl ⟨_, rfl, rfl⟩⟩ rfl rfl ?_
      refine AOps.step rfl rfl rfl (AOp.pickF rfl rfl rfl) ?_
      refine AOps.mD rfl rfl rfl rfl rfl ?_
      refine AOps.pass ⟨31, rfl, .inl ⟨_, rfl, rfl⟩⟩ rfl rfl ?_
      refine AOps.pass ⟨31, rfl, .inl ⟨_, rfl, rfl⟩⟩ rfl rfl ?_
      refine AOps.pass ⟨31, rfl, .inl ⟨_, rfl, rfl⟩⟩ rfl rfl ?_
      refine AOps.pass ⟨31, rfl, .inl ⟨_, rfl, rfl⟩⟩ rfl rfl ?_
      refine AOps.pass ⟨31, rfl, .inl ⟨_, rfl, rfl⟩⟩ rfl rfl ?_
      refine AOps.step rfl rfl rfl (AOp.pickF rfl rfl rfl) ?_
      refine AOps.mD rfl rfl rfl rfl rfl ?_
      refine AOps.pass ⟨38, rfl, .inl ⟨_, rfl, rfl⟩⟩ rfl rfl ?_
      refine AOps.pass ⟨38, rfl, .inl ⟨_, rfl, rfl⟩⟩ rfl rfl ?_
      refine AOps.pass ⟨38, rfl, .inl ⟨_, rfl, rfl⟩⟩ rfl rfl ?_
      refine AOps.pass ⟨38, rfl, .inl ⟨_, rfl, rfl⟩⟩ rfl rfl ?_
      refine AOps.pass ⟨38, rfl, .inl ⟨_, rfl, rfl⟩⟩ rfl rfl ?_
      refine AOps.step rfl rfl rfl (AOp.pickF rfl rfl rfl) ?_
      refine AOps.mD rfl rfl rfl rfl rfl ?_
      refine AOps.pass ⟨45, rfl, .inl ⟨_, rfl, rfl⟩⟩ rfl rfl ?_
      refine AOps.pass ⟨45, rfl, .inl ⟨_, rfl, rfl⟩⟩ rfl rfl ?_
      refine AOps.pass ⟨45, rfl, .inl ⟨_, rfl, rfl⟩⟩ rfl rfl ?_
      refine AOps.pass ⟨45, rfl, .inl ⟨_, rfl, rfl⟩⟩ rfl rfl ?_
      refine AOps.pass ⟨45, rfl, .inl ⟨_, rfl, rfl⟩⟩ rfl rfl ?_
      refine AOps.step rfl rfl rfl (AOp.pickF rfl rfl rfl) ?_
      refine AOps.aD rfl rfl rfl rfl rfl (.nil ?_)
      refine AWP.ret ?_
      refine ⟨RetD.eq rfl ?_, trivial⟩
      all_goals (first | rfl | rw [thg_dec e1 e2 e3 e4 e5 e6])
    replace g2 := of_decide_eq_false g2
    rw [decide_eq_false (show ¬ a = b from fun e => g2 (by rw [e]))]
    refine AOps.pass ⟨17, rfl, .inl ⟨_, rfl, rfl⟩⟩ rfl rfl ?_
    refine AOps.pass ⟨17, rfl, .inl ⟨_, rfl, rfl⟩⟩ rfl rfl ?_
    refine AOps.pass ⟨17, rfl, .inl ⟨_, rfl, rfl⟩⟩ rfl rfl ?_
    refine AOps.pass ⟨17, rfl, .inl ⟨_, rfl, rfl⟩⟩ rfl rfl ?_
    refine AOps.pass ⟨17, rfl, .inl ⟨_, rfl, rfl⟩⟩ rfl rfl ?_
    refine AOps.step rfl rfl rfl (AOp.pickF rfl rfl rfl) ?_
    refine AOps.mD rfl rfl rfl rfl rfl ?_
    refine AOps.pass ⟨24, rfl, .inl ⟨_, rfl, rfl⟩⟩ rfl rfl ?_
    refine AOps.pass ⟨24, rfl, .inl ⟨_, rfl, rfl⟩⟩ rfl rfl ?_
    refine AOps.pass ⟨24, rfl, .inl ⟨_, rfl, rfl⟩⟩ rfl rfl ?_
    refine AOps.pass ⟨24, rfl, .inl ⟨_, rfl, rfl⟩⟩ rfl rfl ?_
    refine AOps.pass ⟨24, rfl, .inl ⟨_, rfl, rfl⟩⟩ rfl rfl ?_
    refine AOps.step rfl rfl rfl (AOp.pickF rfl rfl rfl) ?_
    refine AOps.mD rfl rfl rfl rfl rfl ?_
    refine AOps.pass ⟨31, rfl, .inl ⟨_, rfl, rfl⟩⟩ rfl rfl ?_
    refine AOps.pass ⟨31, rfl, .inl ⟨_, rfl, rfl⟩⟩ rfl rfl ?_
    refine AOps.pass ⟨31, rfl, .inl ⟨_, rfl, rfl⟩⟩ rfl rfl ?_
    refine AOps.pass ⟨31, rfl, .inl ⟨_, rfl, rfl⟩⟩ rfl rfl ?_
    refine AOps.pass ⟨31, rfl, .inl ⟨_, rfl, rfl⟩⟩ rfl rfl ?_
    refine AOps.step rfl rfl rfl (AOp.pickF rfl rfl rfl) ?_
    refine AOps.mD rfl rfl rfl rfl rfl ?_
    refine AOps.pass ⟨38, rfl, .inl ⟨_, rfl, rfl⟩⟩ rfl rfl ?_
    refine AOps.pass ⟨38, rfl, .inl ⟨_, rfl, rfl⟩⟩ rfl rfl ?_
    refine AOps.pass ⟨38, rfl, .inl ⟨_, rfl, rfl⟩⟩ rfl rfl ?_
    refine AOps.pass ⟨38, rfl, .inl ⟨_, rfl, rfl⟩⟩ rfl rfl ?_
    refine AOps.pass ⟨38, rfl, .inl ⟨_, rfl, rfl⟩⟩ rfl rfl ?_
    refine AOps.step rfl rfl rfl (AOp.pickF rfl rfl rfl) ?_
    refine AOps.mD rfl rfl rfl rfl rfl ?_
    refine AOps.pass ⟨45, rfl, .inl ⟨_, rfl, rfl⟩⟩ rfl rfl ?_
    refine AOps.pass ⟨45, rfl, .inl ⟨_, rfl, rfl⟩⟩ rfl rfl ?_
    refine AOps.pass ⟨45, rfl, .inl ⟨_, rfl, rfl⟩⟩ rfl rfl ?_
    refine AOps.pass ⟨45, rfl, .inl ⟨_, rfl, rfl⟩⟩ rfl rfl ?_
    refine AOps.pass ⟨45, rfl, .inl ⟨_, rfl, rfl⟩⟩ rfl rfl ?_
    refine AOps.step rfl rfl rfl (AOp.pickF rfl rfl rfl) ?_
    refine AOps.aD rfl rfl rfl rfl rfl (.nil ?_)
    refine AWP.ret ?_
    refine ⟨RetD.eq rfl ?_, trivial⟩
    all_goals (first | rfl | rw [thg_dec e1 e2 e3 e4 e5 e6])
  replace g1 := of_decide_eq_false g1
  rw [decide_eq_false (show ¬ a = b from fun e => g1 (by rw [e]))]
  refine AOps.pass ⟨10, rfl, .inl ⟨_, rfl, rfl⟩⟩ rfl rfl ?_
  refine AOps.pass ⟨10, rfl, .inl ⟨_, rfl, rfl⟩⟩ rfl rfl ?_
  refine AOps.pass ⟨10, rfl, .inl ⟨_, rfl, rfl⟩⟩ rfl rfl ?_
  refine AOps.pass ⟨10, rfl, .inl ⟨_, rfl, rfl⟩⟩ rfl rfl ?_
  refine AOps.pass ⟨10, rfl, .inl ⟨_, rfl, rfl⟩⟩ rfl rfl ?_
  refine AOps.step rfl rfl rfl (AOp.pickF rfl rfl rfl) ?_
  refine AOps.mD rfl rfl rfl rfl rfl ?_
  refine AOps.pass ⟨17, rfl, .inl ⟨_, rfl, rfl⟩⟩ rfl rfl ?_
  refine AOps.pass ⟨17, rfl, .inl ⟨_, rfl, rfl⟩⟩ rfl rfl ?_
  refine AOps.pass ⟨17, rfl, .inl ⟨_, rfl, rfl⟩⟩ rfl rfl ?_
  refine AOps.pass ⟨17, rfl, .inl ⟨_, rfl, rfl⟩⟩ rfl rfl ?_
  refine AOps.pass ⟨17, rfl, .inl ⟨_, rfl, rfl⟩⟩ rfl rfl ?_
  refine AOps.step rfl rfl rfl (AOp.pickF rfl rfl rfl) ?_
  refine AOps.mD rfl rfl rfl rfl rfl ?_
  refine AOps.pass ⟨24, rfl, .inl ⟨_, rfl, rfl⟩⟩ rfl rfl ?_
  refine AOps.pass ⟨24, rfl, .inl ⟨_, rfl, rfl⟩⟩ rfl rfl ?_
  refine AOps.pass ⟨24, rfl, .inl ⟨_, rfl, rfl⟩⟩ rfl rfl ?_
  refine AOps.pass ⟨24, rfl, .inl ⟨_, rfl, rfl⟩⟩ rfl rfl ?_
  refine AOps.pass ⟨24, rfl, .inl ⟨_, rfl, rfl⟩⟩ rfl rfl ?_
  refine AOps.step rfl rfl rfl (AOp.pickF rfl rfl rfl) ?_
  refine AOps.mD rfl rfl rfl rfl rfl ?_
  refine AOps.pass ⟨31, rfl, .inl ⟨_, rfl, rfl⟩⟩ rfl rfl ?_
  refine AOps.pass ⟨31, rfl, .inl ⟨_, rfl, rfl⟩⟩ rfl rfl ?_
  refine AOps.pass ⟨31, rfl, .inl ⟨_, rfl, rfl⟩⟩ rfl rfl ?_
  refine AOps.pass ⟨31, rfl, .inl ⟨_, rfl, rfl⟩⟩ rfl rfl ?_
  refine AOps.pass ⟨31, rfl, .inl ⟨_, rfl, rfl⟩⟩ rfl rfl ?_
  refine AOps.step rfl rfl rfl (AOp.pickF rfl rfl rfl) ?_
  refine AOps.mD rfl rfl rfl rfl rfl ?_
  refine AOps.pass ⟨38, rfl, .inl ⟨_, rfl, rfl⟩⟩ rfl rfl ?_
  refine AOps.pass ⟨38, rfl, .inl ⟨_, rfl, rfl⟩⟩ rfl rfl ?_
  refine AOps.pass ⟨38, rfl, .inl ⟨_, rfl, rfl⟩⟩ rfl rfl ?_
  refine AOps.pass ⟨38, rfl, .inl ⟨_, rfl, rfl⟩⟩ rfl rfl ?_
  refine AOps.pass ⟨38, rfl, .inl ⟨_, rfl, rfl⟩⟩ rfl rfl ?_
  refine AOps.step rfl rfl rfl (AOp.pickF rfl rfl rfl) ?_
  refine AOps.mD rfl rfl rfl rfl rfl ?_
  refine AOps.pass ⟨45, rfl, .inl ⟨_, rfl, rfl⟩⟩ rfl rfl ?_
  refine AOps.pass ⟨45, rfl, .inl ⟨_, rfl, rfl⟩⟩ rfl rfl ?_
  refine AOps.pass ⟨45, rfl, .inl ⟨_, rfl, rfl⟩⟩ rfl rfl ?_
  refine AOps.pass ⟨45, rfl, .inl ⟨_, rfl, rfl⟩⟩ rfl rfl ?_
  refine AOps.pass ⟨45, rfl, .inl ⟨_, rfl, rfl⟩⟩ rfl rfl ?_
  refine AOps.step rfl rfl rfl (AOp.pickF rfl rfl rfl) ?_
  refine AOps.aD rfl rfl rfl rfl rfl (.nil ?_)
  refine AWP.ret ?_
  refine ⟨RetD.eq rfl ?_, trivial⟩
  all_goals (first | rfl | rw [thg_dec e1 e2 e3 e4 e5 e6])

set_option maxRecDepth 100000 in
set_option maxHeartbeats 1000000 in
theorem c_clInt (l : List Int) (hl : l.length ≤ 1048576) : OCall Tryz.prog 45 [.sl (l.map intD)] 3 1 (l.map intD) := by
  refine ocall_of (n := 8) Tryz.func45 rfl (by kernel_rfl) rfl 2 rfl rfl ?_
  intro B w0 F0 fr
  refine (Classical.em (l = [])).elim (fun hn => ?_) (fun hn => ?_)
  subst hn
  refine AWP.nilOr 0 rfl ?_ (fun ad cap hcap => ?_)
  · skip
    refine AWP.seq (AWP.region ?_)
    refine AOps.aD rfl rfl rfl rfl rfl (.nil ?_)
    refine AWP.seq ?_
    refine AWP.seq (AWP.region ?_)
    refine AOps.mD rfl rfl rfl rfl rfl ?_
    refine AOps.step rfl rfl rfl (AOp.eqNilV rfl Tryz.underlying26 rfl rfl) (.nil ?_)
    refine AWP.cond rfl (fun _ => ?_) (fun h => nomatch h)
    refine AWP.seq (AWP.region ?_)
    refine AOps.aD rfl rfl rfl rfl rfl (.nil ?_)
    refine AWP.adopt 2 51 3 1 rfl rfl ?_
    refine AWP.ret ?_
    refine ⟨51, rfl, mem_row_eq (.head _) ?_⟩
    first | rfl | simp
  · skip
    refine AWP.seq (AWP.region ?_)
    refine AOps.aD rfl rfl rfl rfl rfl (.nil ?_)
    refine AWP.seq ?_
    refine AWP.seq (AWP.region ?_)
    refine AOps.mD rfl rfl rfl rfl rfl ?_
    refine AOps.step rfl rfl rfl (AOp.eqNilV rfl Tryz.underlying26 rfl rfl) (.nil ?_)
    refine AWP.cond rfl (fun h => nomatch h) (fun _ => ?_)
    refine AWP.skip ?_
    refine AWP.seq (AWP.region ?_)
    refine AOps.build0 102 rfl rfl rfl rfl et_26 rfl ?_
    refine AOps.mD rfl rfl rfl rfl rfl ?_
    refine AOps.le 6 rfl (SLe.d (Le.empty hcap)) ?_
    -- append 7
    refine AOps.append rfl rfl rfl rfl et_26 rfl (.head _) rfl (fun y hy => by first | exact absurd hy List.not_mem_nil | (obtain ⟨x, _, rfl⟩ := List.mem_map.1 hy; rfl)) (by simp; try omega) (by simp; try omega) ?_
    refine AOps.step rfl rfl rfl (AOp.assignO rfl rfl) (.nil ?_)
    refine AWP.ret ?_
    refine ⟨102, rfl, mem_row_eq (.head _) ?_⟩
    first | rfl | simp
  refine AWP.seq (AWP.region ?_)
  refine AOps.aD rfl rfl rfl rfl rfl (.nil ?_)
  refine AWP.seq ?_
  refine AWP.seq (AWP.region ?_)
  refine AOps.mD rfl rfl rfl rfl rfl ?_
  refine AOps.step rfl rfl rfl (AOp.eqNilS rfl Tryz.underlying26 rfl rfl (fun h => hn (List.map_eq_nil_iff.1 h))) (.nil ?_)
  refine AWP.cond rfl (fun h => nomatch h) (fun _ => ?_)
  refine AWP.skip ?_
  refine AWP.seq (AWP.region ?_)
  refine AOps.build0 103 rfl rfl rfl rfl et_26 rfl ?_
  refine AOps.mD rfl rfl rfl rfl rfl ?_
  -- append 7
  refine AOps.append rfl rfl rfl rfl et_26 rfl (.head _) rfl (fun y hy => by first | exact absurd hy List.not_mem_nil | (obtain ⟨x, _, rfl⟩ := List.mem_map.1 hy; rfl)) (by simp; try omega) (by simp; try omega) ?_
  refine AOps.step rfl rfl rfl (AOp.assignO rfl rfl) (.nil ?_)
  refine AWP.ret ?_
  refine ⟨103, rfl, mem_row_eq (.head _) ?_⟩
  first | rfl | simp

set_option maxRecDepth 100000 in
set_option maxHeartbeats 1000000 in
theorem c_own (t : Thg) (hl : t.parts.length ≤ 1048576) : ACall Tryz.prog 74 [.agg t.ds] (.agg t.ds) := by
  refine acall_ofR (n := 8) (ds' := [.agg t.ds]) Tryz.func74 rfl (by kernel_rfl) rfl [.cell 2 67] rfl rfl ?_
  intro B w0 F0 fr
  refine AWP.seq (AWP.region ?_)
  refine AOps.boxOwn 101 rfl rfl rfl rfl rfl rfl rfl ?_
  refine AOps.alloc 102 rfl rfl rfl rfl zt_67 rfl rfl rfl (.nil ?_)
  refine AWP.seq (AWP.region ?_)
  refine AOps.step rfl rfl rfl (AOp.fieldAddrP rfl fo_67_6 rfl) ?_
  refine AOps.step rfl rfl rfl (AOp.loadP rfl sc_26 rfl (.tail _ (.head _)) rfl) ?_
  refine AOps.step rfl rfl rfl (AOp.call rfl (.cons (ArgOk.rfl' rfl) .nil) (c_clInt t.parts hl).toA) ?_
  refine AOps.step rfl rfl rfl (AOp.fieldAddrP rfl fo_67_6 rfl) ?_
  refine AOps.store rfl rfl rfl sz_26 rfl (.tail _ (.head _)) rfl rfl rfl (Nat.le_of_ble_eq_true rfl) (.nil ?_)
  refine AWP.seq (AWP.region ?_)
  refine AOps.step rfl rfl rfl (AOp.loadPU rfl ag_67 rfl (.tail _ (.head _)) rfl rfl) ?_
  refine AOps.store rfl rfl rfl sz_67 rfl (.head _) rfl rfl rfl (Nat.le_of_ble_eq_true rfl) (.nil ?_)
  refine AWP.ret ?_
  refine ⟨RetR.agg rfl (.head _) ag_67 rfl (.cons (by first | exact CellD.nil | exact CellD.d | exact CellD.eq (by simp) | (refine CellD.own (by first | exact .head _ | exact .tail _ (.head _)) ?_; rfl)) (.cons (by first | exact CellD.nil | exact CellD.d | exact CellD.eq (by simp) | (refine CellD.own (by first | exact .head _ | exact .tail _ (.head _)) ?_; rfl)) (.cons (by first | exact CellD.nil | exact CellD.d | exact CellD.eq (by simp) | (refine CellD.own (by first | exact .head _ | exact .tail _ (.head _)) ?_; rfl)) (.cons (by first | exact CellD.nil | exact CellD.d | exact CellD.eq (by simp) | (refine CellD.own (by first | exact .head _ | exact .tail _ (.head _)) ?_; rfl)) (.cons (by first | exact CellD.nil | exact CellD.d | exact CellD.eq (by simp) | (refine CellD.own (by first | exact .head _ | exact .tail _ (.head _)) ?_; rfl)) (.cons (by first | exact CellD.nil | exact CellD.d | exact CellD.eq (by simp) | (refine CellD.own (by first | exact .head _ | exact .tail _ (.head _)) ?_; rfl)) (.cons (by first | exact CellD.nil | exact CellD.d | exact CellD.eq (by simp) | (refine CellD.own (by first | exact .head _ | exact .tail _ (.head _)) ?_; rfl)) .nil))))))), trivial⟩
  all_goals (rfl)

end Go.Proofs.YtcilhhkmgebkeaaGreatDoor


namespace Go.Proofs.YtcilhhkmgebkeaaGreatDoor
open Go.RowKit
set_option linter.unusedVariables false

/-! Types. -/
namespace TyLC
theorem ag_67 : AggT Tryz.prog 67 7 := .of (by kernel_rfl)
theorem pt_54 : Tryz.prog.underlying 54 = some (.pointer 67) := by kernel_rfl
theorem pt_56 : Tryz.prog.underlying 56 = some (.pointer 3) := by kernel_rfl
theorem sc_3 : Scal Tryz.prog 3 := .of (by kernel_rfl)
end TyLC
open TyLC


theorem run_nil_equal {P : Program} {t el : TypeId} (w : World) (a : Option Addr) (ht : P.underlying t = some (.pointer el)) : (Op.equal t (.pointer none) (.pointer a)).run P w = .ok a.isNone w := by
  unfold Op.equal Op.equalIn
  simp only [Op.maxDepth, Sem.run_bind, run_underlying ht, Result.andThen_ok]
  cases a <;> rfl
/-- nil == a pointer to data. -/
theorem AOp.nilFpEq {P : Program} {B : Nat} {ops : Array Oper} {o : Oper} {e : Env} {σ : Obs} {t ty el : TypeId} {x y : Operand} {ds : List D} (ho : o.op = .binOp .eql t x y ty) (ht : P.underlying t = some (.pointer el)) (hx : e.ev x = .d (.v (.pointer none))) (hy : e.ev y = .d (.fp ds)) :
    AOp P B ops o e σ (.d (.v (.bool false))) := .value fun F ρ w a hF hr _ => by
  have h1 := hr x (by rw [ho]; simp [Op.operands])
  have h2 := hr y (by rw [ho]; simp [Op.operands])
  rw [hx] at h1
  rw [hy] at h2
  have h3 := repS_d h2
  refine ⟨.bool false, F, w, ?_, .d (.v _), Ext.refl hF⟩
  unfold execOp
  simp only [ho, repS_v h1]
  generalize a.eval y = v at h3
  cases h3
  rw [Sem.run_bind, Sem.run_bind, eqGuard_ptr]
  simp only [Result.andThen_ok, binOp, Sem.run_bind, run_nil_equal w _ ht, Sem.run_pure]
  rfl
/-- A pointer to data == nil. -/
theorem AOp.fpEq {P : Program} {B : Nat} {ops : Array Oper} {o : Oper} {e : Env} {σ : Obs} {t ty el : TypeId} {x y : Operand} {ds : List D} (ho : o.op = .binOp .eql t x y ty) (ht : P.underlying t = some (.pointer el)) (hx : e.ev x = .d (.fp ds)) (hy : e.ev y = .d (.v (.pointer none))) :
    AOp P B ops o e σ (.d (.v (.bool false))) := .value fun F ρ w a hF hr _ => by
  have h1 := hr x (by rw [ho]; simp [Op.operands])
  have h2 := hr y (by rw [ho]; simp [Op.operands])
  rw [hx] at h1
  rw [hy] at h2
  have h3 := repS_d h1
  refine ⟨.bool false, F, w, ?_, .d (.v _), Ext.refl hF⟩
  unfold execOp
  simp only [ho, repS_v h2]
  generalize a.eval x = v at h3
  cases h3
  rw [Sem.run_bind, Sem.run_bind, eqGuard_ptr]
  simp only [Result.andThen_ok, binOp, Sem.run_bind, run_equal_nil w _ ht, Sem.run_pure]
  rfl
def ptD : Option Thg → D
  | some t => .fp t.ds
  | none => .v (.pointer none)
def pmD : Option Int → D
  | some n => .fp [.v (.int .i64 n)]
  | none => .v (.pointer none)
theorem pt_th : Tryz.prog.underlying 54 = some (.pointer 67) := by kernel_rfl
theorem pt_in : Tryz.prog.underlying 56 = some (.pointer 3) := by kernel_rfl


set_option maxRecDepth 100000 in
set_option maxHeartbeats 1000000 in
theorem c_sTSS (a b : Thg) : ACall Tryz.prog 64 [.fp a.ds, .fp b.ds] (.v (.bool (decide (a = b)))) := by
  refine acall_of (n := 21) (ds' := [.v (.bool (decide (a = b)))]) Tryz.func64 rfl (by kernel_rfl) rfl [4] rfl rfl ?_
  intro B w0 F0 fr
  refine AWP.seq (AWP.region ?_)
  refine AOps.aD rfl rfl rfl rfl rfl (.nil ?_)
  refine AWP.seq ?_
  refine AWP.seq (AWP.region ?_)
  refine AOps.mD rfl rfl rfl rfl rfl ?_
  refine AOps.step rfl rfl rfl (AOp.fpEq rfl pt_54 rfl rfl) ?_
  refine AOps.mD rfl rfl rfl rfl rfl ?_
  refine AOps.step ⟨7, rfl, .inl ⟨_, rfl, rfl⟩⟩ rfl rfl (AOp.moveD rfl rfl) ?_
  refine AOps.step ⟨7, rfl, .inl ⟨_, rfl, rfl⟩⟩ rfl rfl (AOp.fpEq rfl pt_54 rfl rfl) ?_
  refine AOps.step rfl rfl rfl (AOp.pickF rfl rfl rfl) (.nil ?_)
  refine AWP.cond rfl (fun h => nomatch h) (fun _ => ?_)
  refine AWP.skip ?_
  refine AWP.seq ?_
  refine AWP.draw (by kernel_rfl) (by kernel_rfl) ?_
  refine DRun.step rfl rfl rfl (AOp.moveD rfl rfl) ?_
  refine DRun.step rfl rfl rfl (AOp.nilCheck rfl rfl) ?_
  refine DRun.step rfl rfl rfl (AOp.loadAgg rfl ag_67 rfl rfl) ?_
  refine DRun.step rfl rfl rfl (AOp.moveD rfl rfl) ?_
  refine DRun.step rfl rfl rfl (AOp.nilCheck rfl rfl) ?_
  refine DRun.step rfl rfl rfl (AOp.loadAgg rfl ag_67 rfl rfl) ?_
  refine DRun.step rfl rfl rfl (AOp.call rfl (.cons (ArgOk.rfl' rfl) (.cons (ArgOk.rfl' rfl) .nil)) (c_equal _ _)) ?_
  refine DRun.step rfl rfl rfl (AOp.assignD rfl rfl) ?_
  refine DRun.nil ?_
  refine AWP.ret ?_
  refine ⟨RetD.eq rfl ?_, trivial⟩
  all_goals (rfl)

set_option maxRecDepth 100000 in
set_option maxHeartbeats 1000000 in
theorem c_sTNN  : ACall Tryz.prog 64 [.v (.pointer none), .v (.pointer none)] (.v (.bool true)) := by
  refine acall_of (n := 21) (ds' := [.v (.bool true)]) Tryz.func64 rfl (by kernel_rfl) rfl [4] rfl rfl ?_
  intro B w0 F0 fr
  refine AWP.seq (AWP.region ?_)
  refine AOps.aD rfl rfl rfl rfl rfl (.nil ?_)
  refine AWP.seq ?_
  refine AWP.seq (AWP.region ?_)
  refine AOps.mD rfl rfl rfl rfl rfl ?_
  refine AOps.step rfl rfl rfl (AOp.nilEq rfl pt_54 rfl rfl) ?_
  refine AOps.mD rfl rfl rfl rfl rfl ?_
  refine AOps.pass ⟨7, rfl, .inl ⟨_, rfl, rfl⟩⟩ rfl rfl ?_
  refine AOps.pass ⟨7, rfl, .inl ⟨_, rfl, rfl⟩⟩ rfl rfl ?_
  refine AOps.step rfl rfl rfl (AOp.pickT rfl rfl rfl) (.nil ?_)
  refine AWP.cond rfl (fun _ => ?_) (fun h => nomatch h)
  refine AWP.seq (AWP.region ?_)
  refine AOps.mD rfl rfl rfl rfl rfl ?_
  refine AOps.mD rfl rfl rfl rfl rfl ?_
  refine AOps.step rfl rfl rfl (AOp.nilEq rfl pt_54 rfl rfl) ?_
  refine AOps.aD rfl rfl rfl rfl rfl (.nil ?_)
  refine AWP.ret ?_
  refine ⟨RetD.eq rfl ?_, trivial⟩
  all_goals (rfl)

set_option maxRecDepth 100000 in
set_option maxHeartbeats 1000000 in
theorem c_sTSN (a : Thg) : ACall Tryz.prog 64 [.fp a.ds, .v (.pointer none)] (.v (.bool false)) := by
  refine acall_of (n := 21) (ds' := [.v (.bool false)]) Tryz.func64 rfl (by kernel_rfl) rfl [4] rfl rfl ?_
  intro B w0 F0 fr
  refine AWP.seq (AWP.region ?_)
  refine AOps.aD rfl rfl rfl rfl rfl (.nil ?_)
  refine AWP.seq ?_
  refine AWP.seq (AWP.region ?_)
  refine AOps.mD rfl rfl rfl rfl rfl ?_
  refine AOps.step rfl rfl rfl (AOp.fpEq rfl pt_54 rfl rfl) ?_
  refine AOps.mD rfl rfl rfl rfl rfl ?_
  refine AOps.step ⟨7, rfl, .inl ⟨_, rfl, rfl⟩⟩ rfl rfl (AOp.moveD rfl rfl) ?_
  refine AOps.step ⟨7, rfl, .inl ⟨_, rfl, rfl⟩⟩ rfl rfl (AOp.nilEq rfl pt_54 rfl rfl) ?_
  refine AOps.step rfl rfl rfl (AOp.pickF rfl rfl rfl) (.nil ?_)
  refine AWP.cond rfl (fun _ => ?_) (fun h => nomatch h)
  refine AWP.seq (AWP.region ?_)
  refine AOps.mD rfl rfl rfl rfl rfl ?_
  refine AOps.mD rfl rfl rfl rfl rfl ?_
  refine AOps.step rfl rfl rfl (AOp.fpEq rfl pt_54 rfl rfl) ?_
  refine AOps.aD rfl rfl rfl rfl rfl (.nil ?_)
  refine AWP.ret ?_
  refine ⟨RetD.eq rfl ?_, trivial⟩
  all_goals (rfl)

set_option maxRecDepth 100000 in
set_option maxHeartbeats 1000000 in
theorem c_sTNS (b : Thg) : ACall Tryz.prog 64 [.v (.pointer none), .fp b.ds] (.v (.bool false)) := by
  refine acall_of (n := 21) (ds' := [.v (.bool false)]) Tryz.func64 rfl (by kernel_rfl) rfl [4] rfl rfl ?_
  intro B w0 F0 fr
  refine AWP.seq (AWP.region ?_)
  refine AOps.aD rfl rfl rfl rfl rfl (.nil ?_)
  refine AWP.seq ?_
  refine AWP.seq (AWP.region ?_)
  refine AOps.mD rfl rfl rfl rfl rfl ?_
  refine AOps.step rfl rfl rfl (AOp.nilEq rfl pt_54 rfl rfl) ?_
  refine AOps.mD rfl rfl rfl rfl rfl ?_
  refine AOps.pass ⟨7, rfl, .inl ⟨_, rfl, rfl⟩⟩ rfl rfl ?_
  refine AOps.pass ⟨7, rfl, .inl ⟨_, rfl, rfl⟩⟩ rfl rfl ?_
  refine AOps.step rfl rfl rfl (AOp.pickT rfl rfl rfl) (.nil ?_)
  refine AWP.cond rfl (fun _ => ?_) (fun h => nomatch h)
  refine AWP.seq (AWP.region ?_)
  refine AOps.mD rfl rfl rfl rfl rfl ?_
  refine AOps.mD rfl rfl rfl rfl rfl ?_
  refine AOps.step rfl rfl rfl (AOp.nilFpEq rfl pt_th rfl rfl) ?_
  refine AOps.aD rfl rfl rfl rfl rfl (.nil ?_)
  refine AWP.ret ?_
  refine ⟨RetD.eq rfl ?_, trivial⟩
  all_goals (rfl)

set_option maxRecDepth 100000 in
set_option maxHeartbeats 1000000 in
theorem c_sMSS (a b : Int) : ACall Tryz.prog 65 [.fp [.v (.int .i64 a)], .fp [.v (.int .i64 b)]] (.v (.bool (decide (a = b)))) := by
  refine acall_of (n := 21) (ds' := [.v (.bool (decide (a = b)))]) Tryz.func65 rfl (by kernel_rfl) rfl [4] rfl rfl ?_
  intro B w0 F0 fr
  refine AWP.seq (AWP.region ?_)
  refine AOps.aD rfl rfl rfl rfl rfl (.nil ?_)
  refine AWP.seq ?_
  refine AWP.seq (AWP.region ?_)
  refine AOps.mD rfl rfl rfl rfl rfl ?_
  refine AOps.step rfl rfl rfl (AOp.fpEq rfl pt_56 rfl rfl) ?_
  refine AOps.mD rfl rfl rfl rfl rfl ?_
  refine AOps.step ⟨7, rfl, .inl ⟨_, rfl, rfl⟩⟩ rfl rfl (AOp.moveD rfl rfl) ?_
  refine AOps.step ⟨7, rfl, .inl ⟨_, rfl, rfl⟩⟩ rfl rfl (AOp.fpEq rfl pt_56 rfl rfl) ?_
  refine AOps.step rfl rfl rfl (AOp.pickF rfl rfl rfl) (.nil ?_)
  refine AWP.cond rfl (fun h => nomatch h) (fun _ => ?_)
  refine AWP.skip ?_
  refine AWP.seq ?_
  refine AWP.draw (by kernel_rfl) (by kernel_rfl) ?_
  refine DRun.step rfl rfl rfl (AOp.moveD rfl rfl) ?_
  refine DRun.step rfl rfl rfl (AOp.nilCheck rfl rfl) ?_
  refine DRun.step rfl rfl rfl (AOp.load rfl sc_3 rfl) ?_
  refine DRun.step rfl rfl rfl (AOp.moveD rfl rfl) ?_
  refine DRun.step rfl rfl rfl (AOp.nilCheck rfl rfl) ?_
  refine DRun.step rfl rfl rfl (AOp.load rfl sc_3 rfl) ?_
  refine DRun.step rfl rfl rfl (AOp.eql rfl rfl rfl) ?_
  refine DRun.step rfl rfl rfl (AOp.assignD rfl rfl) ?_
  refine DRun.nil ?_
  refine AWP.ret ?_
  refine ⟨RetD.eq rfl ?_, trivial⟩
  all_goals (rfl)

set_option maxRecDepth 100000 in
set_option maxHeartbeats 1000000 in
theorem c_sMNN  : ACall Tryz.prog 65 [.v (.pointer none), .v (.pointer none)] (.v (.bool true)) := by
  refine acall_of (n := 21) (ds' := [.v (.bool true)]) Tryz.func65 rfl (by kernel_rfl) rfl [4] rfl rfl ?_
  intro B w0 F0 fr
  refine AWP.seq (AWP.region ?_)
  refine AOps.aD rfl rfl rfl rfl rfl (.nil ?_)
  refine AWP.seq ?_
  refine AWP.seq (AWP.region ?_)
  refine AOps.mD rfl rfl rfl rfl rfl ?_
  refine AOps.step rfl rfl rfl (AOp.nilEq rfl pt_56 rfl rfl) ?_
  refine AOps.mD rfl rfl rfl rfl rfl ?_
  refine AOps.pass ⟨7, rfl, .inl ⟨_, rfl, rfl⟩⟩ rfl rfl ?_
  refine AOps.pass ⟨7, rfl, .inl ⟨_, rfl, rfl⟩⟩ rfl rfl ?_
  refine AOps.step rfl rfl rfl (AOp.pickT rfl rfl rfl) (.nil ?_)
  refine AWP.cond rfl (fun _ => ?_) (fun h => nomatch h)
  refine AWP.seq (AWP.region ?_)
  refine AOps.mD rfl rfl rfl rfl rfl ?_
  refine AOps.mD rfl rfl rfl rfl rfl ?_
  refine AOps.step rfl rfl rfl (AOp.nilEq rfl pt_56 rfl rfl) ?_
  refine AOps.aD rfl rfl rfl rfl rfl (.nil ?_)
  refine AWP.ret ?_
  refine ⟨RetD.eq rfl ?_, trivial⟩
  all_goals (rfl)

set_option maxRecDepth 100000 in
set_option maxHeartbeats 1000000 in
theorem c_sMSN (a : Int) : ACall Tryz.prog 65 [.fp [.v (.int .i64 a)], .v (.pointer none)] (.v (.bool false)) := by
  refine acall_of (n := 21) (ds' := [.v (.bool false)]) Tryz.func65 rfl (by kernel_rfl) rfl [4] rfl rfl ?_
  intro B w0 F0 fr
  refine AWP.seq (AWP.region ?_)
  refine AOps.aD rfl rfl rfl rfl rfl (.nil ?_)
  refine AWP.seq ?_
  refine AWP.seq (AWP.region ?_)
  refine AOps.mD rfl rfl rfl rfl rfl ?_
  refine AOps.step rfl rfl rfl (AOp.fpEq rfl pt_56 rfl rfl) ?_
  refine AOps.mD rfl rfl rfl rfl rfl ?_
  refine AOps.step ⟨7, rfl, .inl ⟨_, rfl, rfl⟩⟩ rfl rfl (AOp.moveD rfl rfl) ?_
  refine AOps.step ⟨7, rfl, .inl ⟨_, rfl, rfl⟩⟩ rfl rfl (AOp.nilEq rfl pt_56 rfl rfl) ?_
  refine AOps.step rfl rfl rfl (AOp.pickF rfl rfl rfl) (.nil ?_)
  refine AWP.cond rfl (fun _ => ?_) (fun h => nomatch h)
  refine AWP.seq (AWP.region ?_)
  refine AOps.mD rfl rfl rfl rfl rfl ?_
  refine AOps.mD rfl rfl rfl rfl rfl ?_
  refine AOps.step rfl rfl rfl (AOp.fpEq rfl pt_56 rfl rfl) ?_
  refine AOps.aD rfl rfl rfl rfl rfl (.nil ?_)
  refine AWP.ret ?_
  refine ⟨RetD.eq rfl ?_, trivial⟩
  all_goals (rfl)

set_option maxRecDepth 100000 in
set_option maxHeartbeats 1000000 in
theorem c_sMNS (b : Int) : ACall Tryz.prog 65 [.v (.pointer none), .fp [.v (.int .i64 b)]] (.v (.bool false)) := by
  refine acall_of (n := 21) (ds' := [.v (.bool false)]) Tryz.func65 rfl (by kernel_rfl) rfl [4] rfl rfl ?_
  intro B w0 F0 fr
  refine AWP.seq (AWP.region ?_)
  refine AOps.aD rfl rfl rfl rfl rfl (.nil ?_)
  refine AWP.seq ?_
  refine AWP.seq (AWP.region ?_)
  refine AOps.mD rfl rfl rfl rfl rfl ?_
  refine AOps.step rfl rfl rfl (AOp.nilEq rfl pt_56 rfl rfl) ?_
  refine AOps.mD rfl rfl rfl rfl rfl ?_
  refine AOps.pass ⟨7, rfl, .inl ⟨_, rfl, rfl⟩⟩ rfl rfl ?_
  refine AOps.pass ⟨7, rfl, .inl ⟨_, rfl, rfl⟩⟩ rfl rfl ?_
  refine AOps.step rfl rfl rfl (AOp.pickT rfl rfl rfl) (.nil ?_)
  refine AWP.cond rfl (fun _ => ?_) (fun h => nomatch h)
  refine AWP.seq (AWP.region ?_)
  refine AOps.mD rfl rfl rfl rfl rfl ?_
  refine AOps.mD rfl rfl rfl rfl rfl ?_
  refine AOps.step rfl rfl rfl (AOp.nilFpEq rfl pt_in rfl rfl) ?_
  refine AOps.aD rfl rfl rfl rfl rfl (.nil ?_)
  refine AWP.ret ?_
  refine ⟨RetD.eq rfl ?_, trivial⟩
  all_goals (rfl)


theorem c_sameThing (a b : Option Thg) : ACall Tryz.prog 64 [ptD a, ptD b] (.v (.bool (decide (a = b)))) := by
  cases a with
  | none => cases b with
    | none => exact c_sTNN
    | some b => rw [show decide (none = some b) = false from decide_eq_false (fun h => by cases h)]; exact c_sTNS b
  | some a => cases b with
    | none => rw [show decide (some a = none) = false from decide_eq_false (fun h => by cases h)]; exact c_sTSN a
    | some b => rw [show decide (some a = some b) = decide (a = b) from decide_eq_decide.2 (by simp)]; exact c_sTSS a b
theorem c_sameTo (a b : Option Int) : ACall Tryz.prog 65 [pmD a, pmD b] (.v (.bool (decide (a = b)))) := by
  cases a with
  | none => cases b with
    | none => exact c_sMNN
    | some b => rw [show decide (none = some b) = false from decide_eq_false (fun h => by cases h)]; exact c_sMNS b
  | some a => cases b with
    | none => rw [show decide (some a = none) = false from decide_eq_false (fun h => by cases h)]; exact c_sMSN a
    | some b => rw [show decide (some a = some b) = decide (a = b) from decide_eq_decide.2 (by simp)]; exact c_sMSS a b


end Go.Proofs.YtcilhhkmgebkeaaGreatDoor


namespace Go.Proofs.YtcilhhkmgebkeaaGreatDoor
open Go.RowKit
set_option linter.unusedVariables false

/-! Types. -/
namespace TyLD
theorem ag_46 : AggT Tryz.prog 46 2 := .of (by kernel_rfl)
theorem ag_67 : AggT Tryz.prog 67 7 := .of (by kernel_rfl)
theorem et_22 : ElemTy Tryz.prog 22 67 7 88 (.agg #[(.int .i64 0), (.int .i64 0), (.string ⟨#[]⟩), (.string ⟨#[]⟩), (.int .i64 0), (.int .i64 0), (.slice none 0 0)]) := ⟨by kernel_rfl, by kernel_rfl, by kernel_rfl, by decide⟩
theorem et_23 : ElemTy Tryz.prog 23 46 2 16 (.agg #[(.int .i64 0), (.int .i64 0)]) := ⟨by kernel_rfl, by kernel_rfl, by kernel_rfl, by decide⟩
theorem et_26 : ElemTy Tryz.prog 26 3 1 8 (.int .i64 0) := ⟨by kernel_rfl, by kernel_rfl, by kernel_rfl, by decide⟩
theorem fo_28_0 : fieldOff Tryz.prog 28 0 = some 0 := by kernel_rfl
theorem fo_28_2 : fieldOff Tryz.prog 28 2 = some 2 := by kernel_rfl
theorem fo_46_0 : fieldOff Tryz.prog 46 0 = some 0 := by kernel_rfl
theorem fo_67_0 : fieldOff Tryz.prog 67 0 = some 0 := by kernel_rfl
theorem sc_22 : Scal Tryz.prog 22 := .of (by kernel_rfl)
theorem sc_23 : Scal Tryz.prog 23 := .of (by kernel_rfl)
theorem sc_3 : Scal Tryz.prog 3 := .of (by kernel_rfl)
theorem sz_46 : ∀ w, (sizeOf 46).run Tryz.prog w = .ok 2 w := SizeT.of (by kernel_rfl)
theorem sz_67 : ∀ w, (sizeOf 67).run Tryz.prog w = .ok 7 w := SizeT.of (by kernel_rfl)
theorem zt_46 : (Tryz.prog.info? 46).bind (·.zero) = some (.agg #[(.int .i64 0), (.int .i64 0)]) := by kernel_rfl
theorem zt_67 : (Tryz.prog.info? 67).bind (·.zero) = some (.agg #[(.int .i64 0), (.int .i64 0), (.string ⟨#[]⟩), (.string ⟨#[]⟩), (.int .i64 0), (.int .i64 0), (.slice none 0 0)]) := by kernel_rfl
end TyLD
open TyLD


def upP (g : Nat → Int) (n : Nat) : Prop := ∀ j, 0 < j → j < n → g (j - 1) < g j
def upF (g : Nat → Int) (n : Nat) : Bool := (List.range n).all fun i => decide (i = 0) || decide (g (i - 1) < g i)
theorem up_iff {g : Nat → Int} {n : Nat} : upF g n = true ↔ upP g n := by
  unfold upF upP
  rw [List.all_eq_true]
  constructor
  · intro h j h1 h2
    have := h j (List.mem_range.2 h2)
    rw [Bool.or_eq_true] at this
    rcases this with h3 | h3
    · have := of_decide_eq_true h3; omega
    · exact of_decide_eq_true h3
  · intro h j hj
    rw [Bool.or_eq_true]
    by_cases h0 : j = 0
    · exact .inl (decide_eq_true h0)
    · exact .inr (decide_eq_true (h j (by omega) (List.mem_range.1 hj)))
theorem up_true {g : Nat → Int} {n : Nat} (h : upP g n) : upF g n = true := up_iff.2 h
theorem up_false {g : Nat → Int} {n j : Nat} (h0 : 0 < j) (hj : j < n) (h : g j ≤ g (j - 1)) : upF g n = false := by
  rw [Bool.eq_false_iff]
  intro hh
  have := up_iff.1 hh j h0 hj
  omega
theorem up_1 (g : Nat → Int) : upP g (0 + 1) := fun j h1 h2 => by omega
theorem up_step {g : Nat → Int} {k : Nat} (h : upP g (k + 1)) (h2 : g k < g (k + 1)) : upP g (k + 1 + 1) := fun j h1 h3 => by
  by_cases he : j = k + 1
  · subst he; exact h2
  · exact h j h1 (by omega)
def atI (l : List Int) (i : Nat) : Int := l.getD i 0
theorem atI_eq {l : List Int} {i : Nat} (h : i < l.length) : atI l i = l[i] := by unfold atI; rw [List.getD_eq_getElem?_getD, List.getElem?_eq_getElem h]; rfl
def meetB (a b : List Int) : Bool := a.any fun n => decide (n ∈ b)
end Go.Proofs.YtcilhhkmgebkeaaGreatDoor


namespace Go.Proofs.YtcilhhkmgebkeaaGreatDoor
open Go.RowKit
set_option linter.unusedVariables false

/-! Types. -/
namespace TyLE
theorem et_22 : ElemTy Tryz.prog 22 67 7 88 (.agg #[(.int .i64 0), (.int .i64 0), (.string ⟨#[]⟩), (.string ⟨#[]⟩), (.int .i64 0), (.int .i64 0), (.slice none 0 0)]) := ⟨by kernel_rfl, by kernel_rfl, by kernel_rfl, by decide⟩
theorem et_23 : ElemTy Tryz.prog 23 46 2 16 (.agg #[(.int .i64 0), (.int .i64 0)]) := ⟨by kernel_rfl, by kernel_rfl, by kernel_rfl, by decide⟩
theorem et_26 : ElemTy Tryz.prog 26 3 1 8 (.int .i64 0) := ⟨by kernel_rfl, by kernel_rfl, by kernel_rfl, by decide⟩
theorem fo_28_0 : fieldOff Tryz.prog 28 0 = some 0 := by kernel_rfl
theorem fo_28_1 : fieldOff Tryz.prog 28 1 = some 1 := by kernel_rfl
theorem fo_28_2 : fieldOff Tryz.prog 28 2 = some 2 := by kernel_rfl
theorem fo_28_3 : fieldOff Tryz.prog 28 3 = some 3 := by kernel_rfl
theorem fo_46_0 : fieldOff Tryz.prog 46 0 = some 0 := by kernel_rfl
theorem fo_67_0 : fieldOff Tryz.prog 67 0 = some 0 := by kernel_rfl
theorem sc_22 : Scal Tryz.prog 22 := .of (by kernel_rfl)
theorem sc_23 : Scal Tryz.prog 23 := .of (by kernel_rfl)
theorem sc_26 : Scal Tryz.prog 26 := .of (by kernel_rfl)
theorem sc_3 : Scal Tryz.prog 3 := .of (by kernel_rfl)
end TyLE
open TyLE

set_option maxRecDepth 100000 in
set_option maxHeartbeats 1000000 in
theorem c_pRis (n : Nat) (g : Nat → Int) (f : Nat) (caps : List D) (hf : ∀ i, i < n → ACall Tryz.prog f (.v (.int .i64 (i : Int)) :: caps) (.v (.int .i64 (g i)))) (hn : n ≤ 9223372036854775807) : ACall Tryz.prog 34 [.v (.int .i64 (n : Int)), .clo (.func f) caps] (.v (.bool (upF g n))) := by
  refine acall_of (n := 19) (ds' := [.v (.bool (upF g n))]) Tryz.func34 rfl (by kernel_rfl) rfl [4] rfl rfl ?_
  intro B w0 F0 fr
  refine AWP.seq (AWP.region ?_)
  refine AOps.aD rfl rfl rfl rfl rfl (.nil ?_)
  refine AWP.seq ?_
  refine AWP.seq (AWP.region ?_)
  refine AOps.aD rfl rfl rfl rfl rfl (.nil ?_)
  refine AWP.block ?_
  refine AWP.loop (G := Nat) (fun k => Env.of [(5, .d (.v (.int .i64 ((k : Int) + 1)))), (0, .d (.v (.int .i64 (n : Int)))), (1, .d (.clo (.func f) caps))]) (fun k => []) (fun k => (k = 0 ∨ k < n) ∧ upP g (k + 1)) (fun k => n - k) 0 ⟨.inl rfl, up_1 _⟩ (Sub.less ⟨(SLe.of_eq rfl), SLe.refl _, SLe.refl _, trivial⟩ (fun _ h => h)) ?_
  intro k hk
  refine AWP.seq ?_
  refine AWP.seq (AWP.region ?_)
  refine AOps.mD rfl rfl rfl rfl rfl ?_
  refine AOps.mD rfl rfl rfl rfl rfl ?_
  refine AOps.step rfl rfl rfl (AOp.lss rfl rfl rfl) (.nil ?_)
  refine AWP.cond rfl (fun h1 => ?_) (fun h1 => ?_)
  · replace h1 := of_decide_eq_true h1
    have hlt : k + 1 < n := by omega
    refine AWP.skip ?_
    refine AWP.seq ?_
    refine AWP.block ?_
    refine AWP.seq (AWP.region ?_)
    refine AOps.mD rfl rfl rfl rfl rfl ?_
    refine AOps.mD rfl rfl rfl rfl rfl ?_
    refine AOps.step rfl rfl rfl (AOp.callClo rfl rfl (.cons (ArgOk.rfl' rfl) .nil) (hf (k + 1) hlt)) ?_
    refine AOps.mD rfl rfl rfl rfl rfl ?_
    refine AOps.mD rfl rfl rfl rfl rfl ?_
    refine AOps.step rfl rfl rfl (AOp.sub64 rfl rfl rfl (by omega) (by omega)) ?_
    rw [show (k : Int) + 1 - 1 = (k : Int) by omega]
    refine AOps.step rfl rfl rfl (AOp.callClo rfl rfl (.cons (ArgOk.rfl' rfl) .nil) (hf k (by omega))) ?_
    refine AOps.step rfl rfl rfl (AOp.leq rfl rfl rfl) (.nil ?_)
    refine AWP.cond rfl (fun h2 => ?_) (fun h2 => ?_)
    · replace h2 := of_decide_eq_true h2
      rw [up_false (j := k + 1) (by omega) hlt (by rw [Nat.add_sub_cancel]; exact h2)]
      refine AWP.seq (AWP.region ?_)
      refine AOps.aD rfl rfl rfl rfl rfl (.nil ?_)
      refine AWP.ret ?_
      refine ⟨RetD.eq rfl ?_, trivial⟩
      all_goals (rfl)
    replace h2 := of_decide_eq_false h2
    have HN := up_step hk.2 (by omega)
    refine AWP.skip ?_
    refine AWP.region ?_
    refine AOps.mD rfl rfl rfl rfl rfl ?_
    refine AOps.step rfl rfl rfl (AOp.add64 rfl rfl rfl (by omega) (by omega)) ?_
    refine AOps.aD rfl rfl rfl rfl rfl (.nil ?_)
    refine ⟨k + 1, ⟨.inr (by omega), HN⟩, (by dsimp only; omega), Sub.less ⟨(SLe.i64 (by omega)), SLe.refl _, SLe.refl _, trivial⟩ (fun _ h => h)⟩
  replace h1 := of_decide_eq_false h1
  rw [up_true (fun j h1 h2 => hk.2 j h1 (by omega))]
  refine AWP.exit ?_
  refine AWP.seq (AWP.region ?_)
  refine AOps.aD rfl rfl rfl rfl rfl (.nil ?_)
  refine AWP.ret ?_
  refine ⟨RetD.eq rfl ?_, trivial⟩
  all_goals (rfl)

set_option maxRecDepth 100000 in
set_option maxHeartbeats 1000000 in
theorem c_ck1 (x : Chg) (i : Nat) (hi : i < x.put.length) : ACall Tryz.prog 35 [.v (.int .i64 (i : Int)), .fp x.ds] (.v (.int .i64 (atI (x.put.map Thg.id) i))) := by
  refine acall_of (n := 10) (ds' := [.v (.int .i64 (atI (x.put.map Thg.id) i))]) Tryz.func35 rfl (by kernel_rfl) rfl [3] rfl rfl ?_
  intro B w0 F0 fr
  rw [atI_eq (by rw [List.length_map]; exact hi), List.getElem_map]
  refine AWP.seq (AWP.region ?_)
  refine AOps.aD rfl rfl rfl rfl rfl (.nil ?_)
  refine AWP.seq (AWP.region ?_)
  refine AOps.step rfl rfl rfl (AOp.fieldAddr rfl fo_28_0 rfl) ?_
  refine AOps.step rfl rfl rfl (AOp.load rfl sc_22 rfl) ?_
  refine AOps.mD rfl rfl rfl rfl rfl ?_
  refine AOps.step rfl rfl rfl (AOp.indexAddr rfl et_22 rfl rfl i rfl (at_lst hi) rfl) ?_
  refine AOps.step rfl rfl rfl (AOp.fieldAddr rfl fo_67_0 rfl) ?_
  refine AOps.step rfl rfl rfl (AOp.load rfl sc_3 rfl) ?_
  refine AOps.aD rfl rfl rfl rfl rfl (.nil ?_)
  refine AWP.ret ?_
  refine ⟨RetD.eq rfl ?_, trivial⟩
  all_goals (rfl)

set_option maxRecDepth 100000 in
set_option maxHeartbeats 1000000 in
theorem c_ck2 (x : Chg) (i : Nat) (hi : i < x.drop.length) : ACall Tryz.prog 36 [.v (.int .i64 (i : Int)), .fp x.ds] (.v (.int .i64 (atI x.drop i))) := by
  refine acall_of (n := 9) (ds' := [.v (.int .i64 (atI x.drop i))]) Tryz.func36 rfl (by kernel_rfl) rfl [3] rfl rfl ?_
  intro B w0 F0 fr
  rw [atI_eq (by  exact hi)]
  refine AWP.seq (AWP.region ?_)
  refine AOps.aD rfl rfl rfl rfl rfl (.nil ?_)
  refine AWP.seq (AWP.region ?_)
  refine AOps.step rfl rfl rfl (AOp.fieldAddr rfl fo_28_1 rfl) ?_
  refine AOps.step rfl rfl rfl (AOp.load rfl sc_26 rfl) ?_
  refine AOps.mD rfl rfl rfl rfl rfl ?_
  refine AOps.step rfl rfl rfl (AOp.indexAddr rfl et_26 rfl rfl i rfl (at_lst hi) rfl) ?_
  refine AOps.step rfl rfl rfl (AOp.load rfl sc_3 rfl) ?_
  refine AOps.aD rfl rfl rfl rfl rfl (.nil ?_)
  refine AWP.ret ?_
  refine ⟨RetD.eq rfl ?_, trivial⟩
  all_goals (rfl)

set_option maxRecDepth 100000 in
set_option maxHeartbeats 1000000 in
theorem c_ck3 (x : Chg) (i : Nat) (hi : i < x.add.length) : ACall Tryz.prog 37 [.v (.int .i64 (i : Int)), .fp x.ds] (.v (.int .i64 (atI (x.add.map Mvd.src) i))) := by
  refine acall_of (n := 10) (ds' := [.v (.int .i64 (atI (x.add.map Mvd.src) i))]) Tryz.func37 rfl (by kernel_rfl) rfl [3] rfl rfl ?_
  intro B w0 F0 fr
  rw [atI_eq (by rw [List.length_map]; exact hi), List.getElem_map]
  refine AWP.seq (AWP.region ?_)
  refine AOps.aD rfl rfl rfl rfl rfl (.nil ?_)
  refine AWP.seq (AWP.region ?_)
  refine AOps.step rfl rfl rfl (AOp.fieldAddr rfl fo_28_2 rfl) ?_
  refine AOps.step rfl rfl rfl (AOp.load rfl sc_23 rfl) ?_
  refine AOps.mD rfl rfl rfl rfl rfl ?_
  refine AOps.step rfl rfl rfl (AOp.indexAddr rfl et_23 rfl rfl i rfl (at_lst hi) rfl) ?_
  refine AOps.step rfl rfl rfl (AOp.fieldAddr rfl fo_46_0 rfl) ?_
  refine AOps.step rfl rfl rfl (AOp.load rfl sc_3 rfl) ?_
  refine AOps.aD rfl rfl rfl rfl rfl (.nil ?_)
  refine AWP.ret ?_
  refine ⟨RetD.eq rfl ?_, trivial⟩
  all_goals (rfl)

set_option maxRecDepth 100000 in
set_option maxHeartbeats 1000000 in
theorem c_ck4 (x : Chg) (i : Nat) (hi : i < x.back.length) : ACall Tryz.prog 38 [.v (.int .i64 (i : Int)), .fp x.ds] (.v (.int .i64 (atI x.back i))) := by
  refine acall_of (n := 9) (ds' := [.v (.int .i64 (atI x.back i))]) Tryz.func38 rfl (by kernel_rfl) rfl [3] rfl rfl ?_
  intro B w0 F0 fr
  rw [atI_eq (by  exact hi)]
  refine AWP.seq (AWP.region ?_)
  refine AOps.aD rfl rfl rfl rfl rfl (.nil ?_)
  refine AWP.seq (AWP.region ?_)
  refine AOps.step rfl rfl rfl (AOp.fieldAddr rfl fo_28_3 rfl) ?_
  refine AOps.step rfl rfl rfl (AOp.load rfl sc_26 rfl) ?_
  refine AOps.mD rfl rfl rfl rfl rfl ?_
  refine AOps.step rfl rfl rfl (AOp.indexAddr rfl et_26 rfl rfl i rfl (at_lst hi) rfl) ?_
  refine AOps.step rfl rfl rfl (AOp.load rfl sc_3 rfl) ?_
  refine AOps.aD rfl rfl rfl rfl rfl (.nil ?_)
  refine AWP.ret ?_
  refine ⟨RetD.eq rfl ?_, trivial⟩
  all_goals (rfl)

end Go.Proofs.YtcilhhkmgebkeaaGreatDoor


namespace Go.Proofs.YtcilhhkmgebkeaaGreatDoor
open Go.RowKit
set_option linter.unusedVariables false

/-! Types. -/
namespace TyLF
theorem ag_46 : AggT Tryz.prog 46 2 := .of (by kernel_rfl)
theorem ag_67 : AggT Tryz.prog 67 7 := .of (by kernel_rfl)
theorem et_22 : ElemTy Tryz.prog 22 67 7 88 (.agg #[(.int .i64 0), (.int .i64 0), (.string ⟨#[]⟩), (.string ⟨#[]⟩), (.int .i64 0), (.int .i64 0), (.slice none 0 0)]) := ⟨by kernel_rfl, by kernel_rfl, by kernel_rfl, by decide⟩
theorem et_23 : ElemTy Tryz.prog 23 46 2 16 (.agg #[(.int .i64 0), (.int .i64 0)]) := ⟨by kernel_rfl, by kernel_rfl, by kernel_rfl, by decide⟩
theorem et_26 : ElemTy Tryz.prog 26 3 1 8 (.int .i64 0) := ⟨by kernel_rfl, by kernel_rfl, by kernel_rfl, by decide⟩
theorem fo_28_0 : fieldOff Tryz.prog 28 0 = some 0 := by kernel_rfl
theorem fo_28_1 : fieldOff Tryz.prog 28 1 = some 1 := by kernel_rfl
theorem fo_28_2 : fieldOff Tryz.prog 28 2 = some 2 := by kernel_rfl
theorem fo_28_3 : fieldOff Tryz.prog 28 3 = some 3 := by kernel_rfl
theorem fo_46_0 : fieldOff Tryz.prog 46 0 = some 0 := by kernel_rfl
theorem fo_67_0 : fieldOff Tryz.prog 67 0 = some 0 := by kernel_rfl
theorem sc_22 : Scal Tryz.prog 22 := .of (by kernel_rfl)
theorem sc_23 : Scal Tryz.prog 23 := .of (by kernel_rfl)
theorem sc_26 : Scal Tryz.prog 26 := .of (by kernel_rfl)
theorem sc_3 : Scal Tryz.prog 3 := .of (by kernel_rfl)
theorem sz_46 : ∀ w, (sizeOf 46).run Tryz.prog w = .ok 2 w := SizeT.of (by kernel_rfl)
theorem sz_67 : ∀ w, (sizeOf 67).run Tryz.prog w = .ok 7 w := SizeT.of (by kernel_rfl)
theorem zt_46 : (Tryz.prog.info? 46).bind (·.zero) = some (.agg #[(.int .i64 0), (.int .i64 0)]) := by kernel_rfl
theorem zt_67 : (Tryz.prog.info? 67).bind (·.zero) = some (.agg #[(.int .i64 0), (.int .i64 0), (.string ⟨#[]⟩), (.string ⟨#[]⟩), (.int .i64 0), (.int .i64 0), (.slice none 0 0)]) := by kernel_rfl
end TyLF
open TyLF


theorem ifmax (x y : Int) : (if y > x then y else x) = max x y := by omega
theorem run_max4 {P : Program} (ts : Array TypeId) (t : TypeId) (k : IntKind) (a b c d : Int) (w : World) : (Builtin.max_ ts t #[.int k a, .int k b, .int k c, .int k d]).run P w = .ok (.int k (max (max (max a b) c) d)) w := by
  simp only [← ifmax]
  simp [Builtin.max_, Builtin.max2]
theorem AOp.max4 {P : Program} {B : Nat} {ops : Array Oper} {o : Oper} {e : Env} {σ : Obs} {x y z u : Operand} {ts : Array TypeId} {k : IntKind} {a b c d : Int} (ho : o.op = .call { callee := .builtin .max, args := #[x, y, z, u], argTypes := ts }) (hx : e.ev x = .d (.v (.int k a))) (hy : e.ev y = .d (.v (.int k b))) (hz : e.ev z = .d (.v (.int k c))) (hu : e.ev u = .d (.v (.int k d))) :
    AOp P B ops o e σ (.d (.v (.int k (Max.max (Max.max (Max.max a b) c) d)))) := .value fun F ρ w ac hF hr _ => by
  have h1 := hr x (by rw [ho]; simp [Op.operands, Call.operands])
  have h2 := hr y (by rw [ho]; simp [Op.operands, Call.operands])
  have h3 := hr z (by rw [ho]; simp [Op.operands, Call.operands])
  have h4 := hr u (by rw [ho]; simp [Op.operands, Call.operands])
  rw [hx] at h1
  rw [hy] at h2
  rw [hz] at h3
  rw [hu] at h4
  refine ⟨_, F, w, ?_, .d (.v _), Ext.refl hF⟩
  unfold execOp
  simp only [ho, resolve, invoke, builtin, Sem.run_bind, Sem.run_pure, Result.andThen_ok, List.map_toArray, List.map_cons, List.map_nil, repS_v h1, repS_v h2, repS_v h3, repS_v h4, run_max4]



def chgF (x : Chg) : Int :=
  if 300 < x.put.length ∨ 300 < x.drop.length ∨ 300 < x.add.length ∨ 300 < x.back.length then 2
  else if ¬ (upF (atI (x.put.map Thg.id)) x.put.length = true ∧ upF (atI x.drop) x.drop.length = true ∧ upF (atI (x.add.map Mvd.src)) x.add.length = true ∧ upF (atI x.back) x.back.length = true) then 8
  else if meetB (x.put.map Thg.id) x.drop = true ∨ meetB (x.add.map Mvd.src) x.back = true then 12 else 0
theorem chg_8 {x : Chg} (hL : ¬ (300 < x.put.length ∨ 300 < x.drop.length ∨ 300 < x.add.length ∨ 300 < x.back.length)) (h : ¬ (upF (atI (x.put.map Thg.id)) x.put.length = true ∧ upF (atI x.drop) x.drop.length = true ∧ upF (atI (x.add.map Mvd.src)) x.add.length = true ∧ upF (atI x.back) x.back.length = true)) : chgF x = 8 := by
  unfold chgF; rw [if_neg hL, if_pos h]
theorem chg_m {x : Chg} (hL : ¬ (300 < x.put.length ∨ 300 < x.drop.length ∨ 300 < x.add.length ∨ 300 < x.back.length)) (h1 : upF (atI (x.put.map Thg.id)) x.put.length = true) (h2 : upF (atI x.drop) x.drop.length = true) (h3 : upF (atI (x.add.map Mvd.src)) x.add.length = true) (h4 : upF (atI x.back) x.back.length = true) :
    chgF x = if meetB (x.put.map Thg.id) x.drop = true ∨ meetB (x.add.map Mvd.src) x.back = true then 12 else 0 := by
  unfold chgF; rw [if_neg hL, if_neg (fun h => h ⟨h1, h2, h3, h4⟩)]
theorem mt_y {α : Type} {f : α → Int} {l : List α} {b : List Int} {k : Nat} (hk : k < l.length) (h : f l[k] ∈ b) : meetB (l.map f) b = true := List.any_eq_true.2 ⟨_, List.mem_map_of_mem (List.getElem_mem hk), decide_eq_true h⟩
theorem mt_n {α : Type} {f : α → Int} {l : List α} {b : List Int} {k : Nat} (hk : l.length ≤ k) (h : ∀ t ∈ l.take k, ¬ f t ∈ b) : meetB (l.map f) b = false := by
  rw [List.take_of_length_le hk] at h
  rw [Bool.eq_false_iff]
  intro hh
  obtain ⟨n, hn, h2⟩ := List.any_eq_true.1 hh
  obtain ⟨t, ht, rfl⟩ := List.mem_map.1 hn
  exact h t ht (of_decide_eq_true h2)
theorem mt_s {α : Type} {f : α → Int} {l : List α} {b : List Int} {k : Nat} (hk : k < l.length) (h : ∀ t ∈ l.take k, ¬ f t ∈ b) (h2 : ¬ f l[k] ∈ b) : ∀ t ∈ l.take (k + 1), ¬ f t ∈ b := fun n hn => by
  rw [List.take_add_one, List.getElem?_eq_getElem hk, Option.toList_some, List.mem_append, List.mem_singleton] at hn
  rcases hn with hn | hn
  · exact h n hn
  · rw [hn]; exact h2


set_option maxRecDepth 100000 in
set_option maxHeartbeats 1000000 in
theorem c_pCC (x : Chg) : ACall Tryz.prog 15 [.agg x.ds] (.v (.int .i64 (chgF x))) := by
  refine acall_of (n := 77) (ds' := [.v (.int .i64 (chgF x))]) Tryz.func15 rfl (by kernel_rfl) rfl [2] rfl rfl ?_
  intro B w0 F0 fr
  have q1 : (x.put.map Thg.ds).length = x.put.length := List.length_map ..
  have q2 : (x.drop.map intD).length = x.drop.length := List.length_map ..
  have q3 : (x.add.map Mvd.ds).length = x.add.length := List.length_map ..
  have q4 : (x.back.map intD).length = x.back.length := List.length_map ..
  refine AWP.seq (AWP.region ?_)
  refine AOps.step rfl rfl rfl (AOp.box rfl rfl rfl) ?_
  refine AOps.aD rfl rfl rfl rfl rfl (.nil ?_)
  refine AWP.seq ?_
  refine AWP.seq (AWP.region ?_)
  refine AOps.step rfl rfl rfl (AOp.fieldAddr rfl fo_28_0 rfl) ?_
  refine AOps.step rfl rfl rfl (AOp.load rfl sc_22 rfl) ?_
  refine AOps.step rfl rfl rfl (AOp.lenSl rfl et_22.ht rfl) ?_
  refine AOps.step rfl rfl rfl (AOp.fieldAddr rfl fo_28_1 rfl) ?_
  refine AOps.step rfl rfl rfl (AOp.load rfl sc_26 rfl) ?_
  refine AOps.step rfl rfl rfl (AOp.lenSl rfl et_26.ht rfl) ?_
  refine AOps.step rfl rfl rfl (AOp.fieldAddr rfl fo_28_2 rfl) ?_
  refine AOps.step rfl rfl rfl (AOp.load rfl sc_23 rfl) ?_
  refine AOps.step rfl rfl rfl (AOp.lenSl rfl et_23.ht rfl) ?_
  refine AOps.step rfl rfl rfl (AOp.fieldAddr rfl fo_28_3 rfl) ?_
  refine AOps.step rfl rfl rfl (AOp.load rfl sc_26 rfl) ?_
  refine AOps.step rfl rfl rfl (AOp.lenSl rfl et_26.ht rfl) ?_
  refine AOps.step rfl rfl rfl (AOp.max4 rfl rfl rfl rfl rfl) ?_
  refine AOps.step rfl rfl rfl (AOp.gtr rfl rfl rfl) (.nil ?_)
  refine AWP.cond rfl (fun h1 => ?_) (fun h1 => ?_)
  · replace h1 := of_decide_eq_true h1
    have HR : chgF x = 2 := if_pos (by omega)
    refine AWP.seq (AWP.region ?_)
    refine AOps.aD rfl rfl rfl rfl rfl (.nil ?_)
    refine AWP.ret ?_
    refine ⟨RetD.eq rfl ?_, trivial⟩
    all_goals (rw [HR])
  replace h1 := of_decide_eq_false h1
  have hL : ¬ (300 < x.put.length ∨ 300 < x.drop.length ∨ 300 < x.add.length ∨ 300 < x.back.length) := by omega
  refine AWP.skip ?_
  refine AWP.seq ?_
  refine AWP.seq (AWP.region ?_)
  refine AOps.step rfl rfl rfl (AOp.fieldAddr rfl fo_28_0 rfl) ?_
  refine AOps.step rfl rfl rfl (AOp.load rfl sc_22 rfl) ?_
  refine AOps.step rfl rfl rfl (AOp.lenSl rfl et_22.ht rfl) ?_
  rw [q1]
  refine AOps.step rfl rfl rfl (AOp.makeFunc rfl (.cons (ArgOk.rfl' rfl) .nil)) ?_
  refine AOps.step rfl rfl rfl (AOp.call rfl (.cons (ArgOk.rfl' rfl) (.cons (ArgOk.rfl' rfl) .nil)) (c_pRis x.put.length (atI (x.put.map Thg.id)) 35 [.fp x.ds] (fun i hi => c_ck1 x i hi) (by omega))) ?_
  refine AOps.step rfl rfl rfl (AOp.not rfl rfl) ?_
  refine AOps.mD rfl rfl rfl rfl rfl ?_
  refine AOps.split 27 rfl (fun g2 => ?_) (fun g2 => ?_)
  · replace g2 := bnot_t g2
    have HR := chg_8 hL (fun hh => by have q := hh.1; rw [g2] at q; cases q)
    refine AOps.pass ⟨27, rfl, .inl ⟨_, rfl, rfl⟩⟩ rfl rfl ?_
    refine AOps.pass ⟨27, rfl, .inl ⟨_, rfl, rfl⟩⟩ rfl rfl ?_
    refine AOps.pass ⟨27, rfl, .inl ⟨_, rfl, rfl⟩⟩ rfl rfl ?_
    refine AOps.pass ⟨27, rfl, .inl ⟨_, rfl, rfl⟩⟩ rfl rfl ?_
    refine AOps.pass ⟨27, rfl, .inl ⟨_, rfl, rfl⟩⟩ rfl rfl ?_
    refine AOps.pass ⟨27, rfl, .inl ⟨_, rfl, rfl⟩⟩ rfl rfl ?_
    refine AOps.step rfl rfl rfl (AOp.pickT rfl rfl rfl) ?_
    refine AOps.mD rfl rfl rfl rfl rfl ?_
    refine AOps.pass ⟨35, rfl, .inl ⟨_, rfl, rfl⟩⟩ rfl rfl ?_
    refine AOps.pass ⟨35, rfl, .inl ⟨_, rfl, rfl⟩⟩ rfl rfl ?_
    refine AOps.pass ⟨35, rfl, .inl ⟨_, rfl, rfl⟩⟩ rfl rfl ?_
    refine AOps.pass ⟨35, rfl, .inl ⟨_, rfl, rfl⟩⟩ rfl rfl ?_
    refine AOps.pass ⟨35, rfl, .inl ⟨_, rfl, rfl⟩⟩ rfl rfl ?_
    refine AOps.pass ⟨35, rfl, .inl ⟨_, rfl, rfl⟩⟩ rfl rfl ?_
    refine AOps.step rfl rfl rfl (AOp.pickT rfl rfl rfl) ?_
    refine AOps.mD rfl rfl rfl rfl rfl ?_
    refine AOps.pass ⟨43, rfl, .inl ⟨_, rfl, rfl⟩⟩ rfl rfl ?_
    refine AOps.pass ⟨43, rfl, .inl ⟨_, rfl, rfl⟩⟩ rfl rfl ?_
    refine AOps.pass ⟨43, rfl, .inl ⟨_, rfl, rfl⟩⟩ rfl rfl ?_
    refine AOps.pass ⟨43, rfl, .inl ⟨_, rfl, rfl⟩⟩ rfl rfl ?_
    refine AOps.pass ⟨43, rfl, .inl ⟨_, rfl, rfl⟩⟩ rfl rfl ?_
    refine AOps.pass ⟨43, rfl, .inl ⟨_, rfl, rfl⟩⟩ rfl rfl ?_
    refine AOps.step rfl rfl rfl (AOp.pickT rfl rfl rfl) (.nil ?_)
    refine AWP.cond rfl (fun _ => ?_) (fun h => nomatch h)
    refine AWP.seq (AWP.region ?_)
    refine AOps.aD rfl rfl rfl rfl rfl (.nil ?_)
    refine AWP.ret ?_
    refine ⟨RetD.eq rfl ?_, trivial⟩
    all_goals (rw [HR])
  replace g2 := bnot_f g2
  have u1 := g2
  refine AOps.step ⟨27, rfl, .inl ⟨_, rfl, rfl⟩⟩ rfl rfl (AOp.fieldAddr rfl fo_28_1 rfl) ?_
  refine AOps.step ⟨27, rfl, .inl ⟨_, rfl, rfl⟩⟩ rfl rfl (AOp.load rfl sc_26 rfl) ?_
  refine AOps.step ⟨27, rfl, .inl ⟨_, rfl, rfl⟩⟩ rfl rfl (AOp.lenSl rfl et_26.ht rfl) ?_
  rw [q2]
  refine AOps.step ⟨27, rfl, .inl ⟨_, rfl, rfl⟩⟩ rfl rfl (AOp.makeFunc rfl (.cons (ArgOk.rfl' rfl) .nil)) ?_
  refine AOps.step ⟨27, rfl, .inl ⟨_, rfl, rfl⟩⟩ rfl rfl (AOp.call rfl (.cons (ArgOk.rfl' rfl) (.cons (ArgOk.rfl' rfl) .nil)) (c_pRis x.drop.length (atI x.drop) 36 [.fp x.ds] (fun i hi => c_ck2 x i hi) (by omega))) ?_
  refine AOps.step ⟨27, rfl, .inl ⟨_, rfl, rfl⟩⟩ rfl rfl (AOp.not rfl rfl) ?_
  refine AOps.step rfl rfl rfl (AOp.pickF rfl rfl rfl) ?_
  refine AOps.mD rfl rfl rfl rfl rfl ?_
  refine AOps.split 35 rfl (fun g3 => ?_) (fun g3 => ?_)
  · replace g3 := bnot_t g3
    have HR := chg_8 hL (fun hh => by have q := hh.2.1; rw [g3] at q; cases q)
    refine AOps.pass ⟨35, rfl, .inl ⟨_, rfl, rfl⟩⟩ rfl rfl ?_
    refine AOps.pass ⟨35, rfl, .inl ⟨_, rfl, rfl⟩⟩ rfl rfl ?_
    refine AOps.pass ⟨35, rfl, .inl ⟨_, rfl, rfl⟩⟩ rfl rfl ?_
    refine AOps.pass ⟨35, rfl, .inl ⟨_, rfl, rfl⟩⟩ rfl rfl ?_
    refine AOps.pass ⟨35, rfl, .inl ⟨_, rfl, rfl⟩⟩ rfl rfl ?_
    refine AOps.pass ⟨35, rfl, .inl ⟨_, rfl, rfl⟩⟩ rfl rfl ?_
    refine AOps.step rfl rfl rfl (AOp.pickT rfl rfl rfl) ?_
    refine AOps.mD rfl rfl rfl rfl rfl ?_
    refine AOps.pass ⟨43, rfl, .inl ⟨_, rfl, rfl⟩⟩ rfl rfl ?_
    refine AOps.pass ⟨43, rfl, .inl ⟨_, rfl, rfl⟩⟩ rfl rfl ?_
    refine AOps.pass ⟨43, rfl, .inl ⟨_, rfl, rfl⟩⟩ rfl rfl ?_
    refine AOps.pass ⟨43, rfl, .inl ⟨_, rfl, rfl⟩⟩ rfl rfl ?_
    refine AOps.pass ⟨43, rfl, .inl ⟨_, rfl, rfl⟩⟩ rfl rfl ?_
    refine AOps.pass ⟨43, rfl, .inl ⟨_, rfl, rfl⟩⟩ rfl rfl ?_
    refine AOps.step rfl rfl rfl (AOp.pickT rfl rfl rfl) (.nil ?_)
    refine AWP.cond rfl (fun _ => ?_) (fun h => nomatch h)
    refine AWP.seq (AWP.region ?_)
    refine AOps.aD rfl rfl rfl rfl rfl (.nil ?_)
    refine AWP.ret ?_
    refine ⟨RetD.eq rfl ?_, trivial⟩
    all_goals (rw [HR])
  replace g3 := bnot_f g3
  have u2 := g3
  refine AOps.step ⟨35, rfl, .inl ⟨_, rfl, rfl⟩⟩ rfl rfl (AOp.fieldAddr rfl fo_28_2 rfl) ?_
  refine AOps.step ⟨35, rfl, .inl ⟨_, rfl, rfl⟩⟩ rfl rfl (AOp.load rfl sc_23 rfl) ?_
  refine AOps.step ⟨35, rfl, .inl ⟨_, rfl, rfl⟩⟩ rfl rfl (AOp.lenSl rfl et_23.ht rfl) ?_
  rw [q3]
  refine AOps.step ⟨35, rfl, .inl ⟨_, rfl, rfl⟩⟩ rfl rfl (AOp.makeFunc rfl (.cons (ArgOk.rfl' rfl) .nil)) ?_
  refine AOps.step ⟨35, rfl, .inl ⟨_, rfl, rfl⟩⟩ rfl rfl (AOp.call rfl (.cons (ArgOk.rfl' rfl) (.cons (ArgOk.rfl' rfl) .nil)) (c_pRis x.add.length (atI (x.add.map Mvd.src)) 37 [.fp x.ds] (fun i hi => c_ck3 x i hi) (by omega))) ?_
  refine AOps.step ⟨35, rfl, .inl ⟨_, rfl, rfl⟩⟩ rfl rfl (AOp.not rfl rfl) ?_
  refine AOps.step rfl rfl rfl (AOp.pickF rfl rfl rfl) ?_
  refine AOps.mD rfl rfl rfl rfl rfl ?_
  refine AOps.split 43 rfl (fun g4 => ?_) (fun g4 => ?_)
  · replace g4 := bnot_t g4
    have HR := chg_8 hL (fun hh => by have q := hh.2.2.1; rw [g4] at q; cases q)
    refine AOps.pass ⟨43, rfl, .inl ⟨_, rfl, rfl⟩⟩ rfl rfl ?_
    refine AOps.pass ⟨43, rfl, .inl ⟨_, rfl, rfl⟩⟩ rfl rfl ?_
    refine AOps.pass ⟨43, rfl, .inl ⟨_, rfl, rfl⟩⟩ rfl rfl ?_
    refine AOps.pass ⟨43, rfl, .inl ⟨_, rfl, rfl⟩⟩ rfl rfl ?_
    refine AOps.pass ⟨43, rfl, .inl ⟨_, rfl, rfl⟩⟩ rfl rfl ?_
    refine AOps.pass ⟨43, rfl, .inl ⟨_, rfl, rfl⟩⟩ rfl rfl ?_
    refine AOps.step rfl rfl rfl (AOp.pickT rfl rfl rfl) (.nil ?_)
    refine AWP.cond rfl (fun _ => ?_) (fun h => nomatch h)
    refine AWP.seq (AWP.region ?_)
    refine AOps.aD rfl rfl rfl rfl rfl (.nil ?_)
    refine AWP.ret ?_
    refine ⟨RetD.eq rfl ?_, trivial⟩
    all_goals (rw [HR])
  replace g4 := bnot_f g4
  have u3 := g4
  refine AOps.step ⟨43, rfl, .inl ⟨_, rfl, rfl⟩⟩ rfl rfl (AOp.fieldAddr rfl fo_28_3 rfl) ?_
  refine AOps.step ⟨43, rfl, .inl ⟨_, rfl, rfl⟩⟩ rfl rfl (AOp.load rfl sc_26 rfl) ?_
  refine AOps.step ⟨43, rfl, .inl ⟨_, rfl, rfl⟩⟩ rfl rfl (AOp.lenSl rfl et_26.ht rfl) ?_
  rw [q4]
  refine AOps.step ⟨43, rfl, .inl ⟨_, rfl, rfl⟩⟩ rfl rfl (AOp.makeFunc rfl (.cons (ArgOk.rfl' rfl) .nil)) ?_
  refine AOps.step ⟨43, rfl, .inl ⟨_, rfl, rfl⟩⟩ rfl rfl (AOp.call rfl (.cons (ArgOk.rfl' rfl) (.cons (ArgOk.rfl' rfl) .nil)) (c_pRis x.back.length (atI x.back) 38 [.fp x.ds] (fun i hi => c_ck4 x i hi) (by omega))) ?_
  refine AOps.step ⟨43, rfl, .inl ⟨_, rfl, rfl⟩⟩ rfl rfl (AOp.not rfl rfl) ?_
  refine AOps.step rfl rfl rfl (AOp.pickF rfl rfl rfl) (.nil ?_)
  refine AWP.cond rfl (fun h5 => ?_) (fun h5 => ?_)
  · replace h5 := bnot_t h5
    have HR := chg_8 hL (fun hh => by have q := hh.2.2.2; rw [h5] at q; cases q)
    refine AWP.seq (AWP.region ?_)
    refine AOps.aD rfl rfl rfl rfl rfl (.nil ?_)
    refine AWP.ret ?_
    refine ⟨RetD.eq rfl ?_, trivial⟩
    all_goals (rw [HR])
  replace h5 := bnot_f h5
  have HM := chg_m hL u1 u2 u3 h5
  refine AWP.skip ?_
  refine AWP.seq ?_
  refine AWP.seq (AWP.region ?_)
  refine AOps.step rfl rfl rfl (AOp.fieldAddr rfl fo_28_0 rfl) ?_
  refine AOps.step rfl rfl rfl (AOp.load rfl sc_22 rfl) ?_
  refine AOps.step rfl rfl rfl (AOp.lenSl rfl et_22.ht rfl) ?_
  refine AOps.mD rfl rfl rfl rfl rfl (.nil ?_)
  refine AWP.block ?_
  refine AWP.loop (G := Nat) (fun k => Env.of [(54, .d (.v (.int .i64 (k : Int)))), (52, .d (.sl (x.put.map Thg.ds))), (53, .d (.v (.int .i64 ((x.put.map Thg.ds).length : Int)))), (1, .d (.fp x.ds))]) (fun k => []) (fun k => k ≤ x.put.length ∧ ∀ t ∈ x.put.take k, ¬ Thg.id t ∈ x.drop) (fun k => x.put.length - k) 0 ⟨Nat.zero_le _, fun t h => by simp at h⟩ (Sub.less ⟨(SLe.of_eq rfl), SLe.refl _, SLe.refl _, SLe.refl _, trivial⟩ (fun _ h => h)) ?_
  intro k hk
  refine AWP.seq (AWP.region ?_)
  refine AOps.step rfl rfl rfl (AOp.lss rfl rfl rfl) (.nil ?_)
  refine AWP.seq ?_
  refine AWP.cond rfl (fun h6 => ?_) (fun h6 => ?_)
  · replace h6 := of_decide_eq_true h6
    have hlt : k < x.put.length := by omega
    refine AWP.skip ?_
    refine AWP.seq ?_
    refine AWP.block ?_
    refine AWP.seq (AWP.region ?_)
    refine AOps.step rfl rfl rfl (AOp.indexAddr rfl et_22 rfl rfl k rfl (at_lst hlt) rfl) ?_
    refine AOps.step rfl rfl rfl (AOp.loadAgg rfl ag_67 rfl rfl) ?_
    refine AOps.alloc 101 rfl rfl rfl rfl zt_67 rfl rfl rfl ?_
    refine AOps.store rfl rfl rfl sz_67 rfl (.head _) rfl rfl rfl (Nat.le_of_ble_eq_true rfl) ?_
    refine AOps.freezeCells 4 (ds := x.put[k].ds) rfl (.head _) (.nil ?_)
    refine AWP.seq (AWP.region ?_)
    refine AOps.step rfl rfl rfl (AOp.fieldAddr rfl fo_28_1 rfl) ?_
    refine AOps.step rfl rfl rfl (AOp.load rfl sc_26 rfl) ?_
    refine AOps.step rfl rfl rfl (AOp.fieldAddr rfl fo_67_0 rfl) ?_
    refine AOps.step rfl rfl rfl (AOp.load rfl sc_3 rfl) ?_
    refine AOps.step rfl rfl rfl (AOp.call rfl (.cons (ArgOk.rfl' rfl) (.cons (ArgOk.rfl' rfl) .nil)) (c_containsInt _ _)) (.nil ?_)
    refine AWP.cond rfl (fun h7 => ?_) (fun h7 => ?_)
    · replace h7 := of_decide_eq_true h7
      have HR : chgF x = 12 := HM.trans (if_pos (.inl (mt_y (f := Thg.id) hlt h7)))
      refine AWP.seq (AWP.region ?_)
      refine AOps.aD rfl rfl rfl rfl rfl (.nil ?_)
      refine AWP.ret ?_
      refine ⟨RetD.eq rfl ?_, trivial⟩
      all_goals (rw [HR])
    replace h7 := of_decide_eq_false h7
    have HN := mt_s (f := Thg.id) hlt hk.2 h7
    refine AWP.skip ?_
    refine AWP.region ?_
    refine AOps.step rfl rfl rfl (AOp.add64 rfl rfl rfl (by omega) (by omega)) ?_
    refine AOps.mD rfl rfl rfl rfl rfl (.nil ?_)
    refine ⟨k + 1, ⟨by omega, HN⟩, (by dsimp only; omega), Sub.less ⟨(SLe.of_eq rfl), SLe.refl _, SLe.refl _, SLe.refl _, trivial⟩ (fun _ h => h)⟩
  replace h6 := of_decide_eq_false h6
  have HP := mt_n (f := Thg.id) (l := x.put) (b := x.drop) (k := k) (by omega) hk.2
  refine AWP.exit ?_
  refine AWP.seq ?_
  refine AWP.seq (AWP.region ?_)
  refine AOps.step rfl rfl rfl (AOp.fieldAddr rfl fo_28_2 rfl) ?_
  refine AOps.step rfl rfl rfl (AOp.load rfl sc_23 rfl) ?_
  refine AOps.step rfl rfl rfl (AOp.lenSl rfl et_23.ht rfl) ?_
  refine AOps.mD rfl rfl rfl rfl rfl (.nil ?_)
  refine AWP.block ?_
  refine AWP.loop (G := Nat) (fun j => Env.of [(67, .d (.v (.int .i64 (j : Int)))), (65, .d (.sl (x.add.map Mvd.ds))), (66, .d (.v (.int .i64 ((x.add.map Mvd.ds).length : Int)))), (1, .d (.fp x.ds))]) (fun j => []) (fun j => j ≤ x.add.length ∧ ∀ t ∈ x.add.take j, ¬ Mvd.src t ∈ x.back) (fun j => x.add.length - j) 0 ⟨Nat.zero_le _, fun t h => by simp at h⟩ (Sub.less ⟨(SLe.of_eq rfl), SLe.refl _, SLe.refl _, SLe.refl _, trivial⟩ (fun _ h => h)) ?_
  intro j hj
  refine AWP.seq (AWP.region ?_)
  refine AOps.step rfl rfl rfl (AOp.lss rfl rfl rfl) (.nil ?_)
  refine AWP.seq ?_
  refine AWP.cond rfl (fun h8 => ?_) (fun h8 => ?_)
  · replace h8 := of_decide_eq_true h8
    have hlt : j < x.add.length := by omega
    refine AWP.skip ?_
    refine AWP.seq ?_
    refine AWP.block ?_
    refine AWP.seq (AWP.region ?_)
    refine AOps.step rfl rfl rfl (AOp.indexAddr rfl et_23 rfl rfl j rfl (at_lst hlt) rfl) ?_
    refine AOps.step rfl rfl rfl (AOp.loadAgg rfl ag_46 rfl rfl) ?_
    refine AOps.alloc 102 rfl rfl rfl rfl zt_46 rfl rfl rfl ?_
    refine AOps.store rfl rfl rfl sz_46 rfl (.head _) rfl rfl rfl (Nat.le_of_ble_eq_true rfl) ?_
    refine AOps.freezeCells 6 (ds := x.add[j].ds) rfl (.head _) (.nil ?_)
    refine AWP.seq (AWP.region ?_)
    refine AOps.step rfl rfl rfl (AOp.fieldAddr rfl fo_28_3 rfl) ?_
    refine AOps.step rfl rfl rfl (AOp.load rfl sc_26 rfl) ?_
    refine AOps.step rfl rfl rfl (AOp.fieldAddr rfl fo_46_0 rfl) ?_
    refine AOps.step rfl rfl rfl (AOp.load rfl sc_3 rfl) ?_
    refine AOps.step rfl rfl rfl (AOp.call rfl (.cons (ArgOk.rfl' rfl) (.cons (ArgOk.rfl' rfl) .nil)) (c_containsInt _ _)) (.nil ?_)
    refine AWP.cond rfl (fun h9 => ?_) (fun h9 => ?_)
    · replace h9 := of_decide_eq_true h9
      have HR : chgF x = 12 := HM.trans (if_pos (.inr (mt_y (f := Mvd.src) hlt h9)))
      refine AWP.seq (AWP.region ?_)
      refine AOps.aD rfl rfl rfl rfl rfl (.nil ?_)
      refine AWP.ret ?_
      refine ⟨RetD.eq rfl ?_, trivial⟩
      all_goals (rw [HR])
    replace h9 := of_decide_eq_false h9
    have HN := mt_s (f := Mvd.src) hlt hj.2 h9
    refine AWP.skip ?_
    refine AWP.region ?_
    refine AOps.step rfl rfl rfl (AOp.add64 rfl rfl rfl (by omega) (by omega)) ?_
    refine AOps.mD rfl rfl rfl rfl rfl (.nil ?_)
    refine ⟨j + 1, ⟨by omega, HN⟩, (by dsimp only; omega), Sub.less ⟨(SLe.of_eq rfl), SLe.refl _, SLe.refl _, SLe.refl _, trivial⟩ (fun _ h => h)⟩
  replace h8 := of_decide_eq_false h8
  have HA := mt_n (f := Mvd.src) (l := x.add) (b := x.back) (k := j) (by omega) hj.2
  have HR : chgF x = 0 := HM.trans (if_neg (by rw [HP, HA]; simp))
  refine AWP.exit ?_
  refine AWP.seq (AWP.region ?_)
  refine AOps.aD rfl rfl rfl rfl rfl (.nil ?_)
  refine AWP.ret ?_
  refine ⟨RetD.eq rfl ?_, trivial⟩
  all_goals (rw [HR])

end Go.Proofs.YtcilhhkmgebkeaaGreatDoor


namespace Go.Proofs.YtcilhhkmgebkeaaGreatDoor
open Go.RowKit Go.Shelf
set_option linter.unusedVariables false

/-- What Insert does with an own row. -/
structure InsEnd (B : Nat) (e : TypeId) (w : World) (v : Value) (n : Nat) (ys : List Value) (v' : Value) (w' : World) : Prop where
  own : w'.ownsRow B e 1 v' n ys
  turn : Turn w w' (blk v)
  new : ∀ g, blk v' = some g → blk v = some g ∨ w.heap.size ≤ g

end Go.Proofs.YtcilhhkmgebkeaaGreatDoor


namespace Go.Proofs.YtcilhhkmgebkeaaGreatDoor
open Go.RowKit
set_option linter.unusedVariables false

/-- From k on each one waits for all before it but for the first b. -/
def Region.chain1B (ops : Array Oper) (b k : Nat) : Bool := Region.downB ops && Nat.ble k ops.size && Nat.ble b k && (List.range (ops.size - 1)).all fun j =>
  Nat.blt j b || (List.range ops.size).any fun m => Nat.blt j m && (Nat.ble m k || Nat.ble m (j + 1)) && Region.edge ops m j
structure Chain1 (ops : Array Oper) (b k : Nat) : Prop where
  down : Region.downB ops = true
  le : k ≤ ops.size
  bk : b ≤ k
  next : ∀ j, b ≤ j → j < ops.size - 1 → ∃ m, j < m ∧ (m ≤ k ∨ m ≤ j + 1) ∧ Region.edge ops m j = true
theorem Chain1.of {ops : Array Oper} {b k : Nat} (h : Region.chain1B ops b k = true) : Chain1 ops b k := by
  unfold Region.chain1B at h
  simp only [Bool.and_eq_true] at h
  obtain ⟨⟨⟨h1, h2⟩, h5⟩, h3⟩ := h
  refine ⟨h1, Nat.le_of_ble_eq_true h2, Nat.le_of_ble_eq_true h5, fun j hb hj => ?_⟩
  have h4 := List.all_eq_true.1 h3 j (List.mem_range.2 hj)
  rw [Bool.or_eq_true] at h4
  rcases h4 with h4 | h4
  · rw [Nat.blt_eq] at h4; omega
  · obtain ⟨m, _, hm⟩ := List.any_eq_true.1 h4
    simp only [Bool.and_eq_true, Bool.or_eq_true, Nat.blt_eq] at hm
    exact ⟨m, hm.1.1, hm.1.2.imp Nat.le_of_ble_eq_true Nat.le_of_ble_eq_true, hm.2⟩
section
variable {P : Program} {ops : Array Oper} {Q Q0 : Exit → Act → World → Prop} {b k : Nat}
end

def notSelect (o : Oper) : Bool := match o.op with | .select _ _ => false | _ => true
end Go.Proofs.YtcilhhkmgebkeaaGreatDoor


namespace Go.Proofs.YtcilhhkmgebkeaaGreatDoor
open Go.RowKit Go.Shelf
set_option linter.unusedVariables false

def intC (n : Int) : List D := [.v (.int .i64 n)]
theorem ints_row {B : Nat} {F : Nat → Prop} {ρ : Nat → Value} {w : World} {id e : Nat} {l : List Int} (h : w.ownsRow B e 1 (ρ id) l.length (l.map (Value.int .i64))) (hn : ∀ g, blk (ρ id) = some g → ¬ F g) : ObOk B F ρ w id (.row e 1 (l.map intC)) := by
  refine ⟨fun i _ => Value.int .i64 (l.getD i 0), ?_, fun i hi => by simp [intC], fun i hi j hj => ⟨rfl, ?_⟩, hn⟩
  · have h5 : (((List.range (l.map intC).length).map fun i => (List.range 1).map (fun _ => Value.int .i64 (l.getD i 0))).flatten) = l.map (Value.int .i64) := by
      have h6 : ((List.range (l.map intC).length).map fun i => (List.range 1).map (fun _ => Value.int .i64 (l.getD i 0))) = l.map (fun n => [Value.int .i64 n]) := by
        apply List.ext_getElem
        · simp
        · intro i hi hi2
          have hl : i < l.length := by simpa using hi2
          simp [List.range_succ, List.getD_eq_getElem?_getD, hl]
      rw [h6]
      clear h6 h hn
      induction l with
      | nil => rfl
      | cons a l ih => simp [ih]
    rw [h5, List.length_map]
    exact h
  · have hl : i < l.length := by simpa using hi
    have hj0 : j = 0 := by simp [intC] at hj; exact hj
    subst hj0
    simp only [List.getElem_map, intC, List.getElem_cons_zero, List.getD_eq_getElem?_getD, List.getElem?_eq_getElem hl, Option.getD_some]
    exact .v _
section
variable {cx : Cx} {ops : Array Oper} {o : Oper} {rest : List Oper} {e : Env} {σ : Obs} {Q : Post}
end
section
variable {cx : Cx} {ops : Array Oper} {o : Oper} {rest : List Oper} {e : Env} {σ : Obs} {Q : Post}
end
def apartB (ops : Array Oper) (o0 : Oper) : Bool := (List.range ops.size).all fun j => Nat.beq j 0 || Region.edge ops j 0 || ((ops[j]?).map fun oj => o0.apart ops oj).getD true
def dstB (Φ : List Fr) (l : List Oper) : Bool := Φ.all fun f => (List.range l.length).all fun i => (List.range l.length).all fun j => Nat.beq i j || ((l[i]?).map fun o => neDst o f.dst).getD true || ((l[j]?).map fun o => neDst o f.dst).getD true
def openB (l : List Oper) (k2 k : Nat) (o0 : Oper) : Bool := Nat.blt 0 k2 && Nat.ble k2 k && Region.chainB l.toArray k && Region.chain1B (l.take k).toArray 1 k2 && (l.take k).all notSelect && apartB (l.take k).toArray o0 && (Array.all o0.after fun e => !(Region.binds .any e)) && Region.lexFrom .any (l.take k2).toArray (k2 - 1) 1 ((Array.replicate k2 false).setIfInBounds 0 true)
end Go.Proofs.YtcilhhkmgebkeaaGreatDoor


namespace Go.Proofs.YtcilhhkmgebkeaaGreatDoor
open Go.RowKit
set_option linter.unusedVariables false

def OneC (σ : Obs) (s : S) : Prop := OneS σ s ∨ ∃ id off, s = .ptr id off
/-- A new own block of cells, of whatever. -/
theorem R0.newCellsS {cx : Cx} {F : Nat → Prop} {ρ : Nat → Value} {e : Env} {σ : Obs} {a : Act} {w : World} (h : R0 cx F ρ e σ a w) {id dst : Nat} {ty : TypeId} {cs : List Value} {ss : List S} (hid : ∀ p ∈ σ, p.1 ≠ id) (hd : dst < cx.N) (hl : cs.length = ss.length) (hr : ∀ j (h1 : j < cs.length) (h2 : j < ss.length), cs[j].oneCell' = true ∧ RepS F ρ w cs[j] ss[j]) (hfx : cx.free id = true) :
    ∃ ρ', R0 cx F ρ' ((e.kill id).put (some dst) (.ptr id 0)) ((id, .cells (ss.map (S.kill id))) :: Obs.kill id σ) (a.put (some dst) (.pointer (some ⟨w.heap.size, 0, none⟩))) (w.alloc (.cells cs.toArray ty)) := by
  refine ⟨fun j => if j = id then .pointer (some ⟨w.heap.size, 0, none⟩) else ρ j, ?_⟩
  have hE : Ext F w F (w.alloc (.cells cs.toArray ty)) := Ext.of_below h.lt ((Below.refl _ _).alloc (Nat.le_refl _) _)
  have h2 := h.turn (ρ' := fun j => if j = id then .pointer (some ⟨w.heap.size, 0, none⟩) else ρ j) (id := id) (ob := .cells (ss.map (S.kill id))) (row := none) (w' := w.alloc (.cells cs.toArray ty)) (F' := F) (fun j hj => by simp [hj])
    ⟨hE.below.os, hE.below.tape, hE.below.output, hE.below.size, fun k hk _ => hE.below.block k hk⟩ hfx (fun g hg => by simp at hg) (fun b hb => hb) (fun b hb => .inl hb) hE.lt
    ⟨w.heap.size, ty, cs, by simp, h.hB, fun hf => by have := h.lt _ hf; omega, by simpa using heap_alloc_new w _, by simpa using hl, fun j hj hj' => by
      rw [List.getElem_map]
      have hj2 : j < ss.length := by simpa using hj'
      exact ⟨(hr j hj hj2).1, ((hr j hj hj2).2.ext h.lt hE).kill id (fun i hi => by simp [hi])⟩⟩
    (fun g hg => by simp [blk] at hg; exact .inr (by omega)) ((id, .cells (ss.map (S.kill id))) :: Obs.kill id σ) (fun p hp => by
      cases hp with
      | head => exact .inl rfl
      | tail _ hp => obtain ⟨q, hq, rfl⟩ := Obs.mem_kill hp; exact .inr ⟨q, hq, hid q hq, rfl⟩)
  have h3 := h2.put (o := ⟨some dst, .ready 0, 0, "", #[], none⟩) (v := .pointer (some ⟨w.heap.size, 0, none⟩)) (s := .ptr id 0) (Ext.refl h2.lt) (.ptr id 0 w.heap.size (by simp [blk])) (by simpa [DstOk, Nat.blt_eq] using hd)
  exact h3
section
variable {cx : Cx} {ops : Array Oper} {o : Oper} {rest : List Oper} {e : Env} {σ : Obs} {Q : Post}
theorem val_at {B : Nat} {F : Nat → Prop} {ρ : Nat → Value} {w : World} {vid : Nat} {ss : List S} {v : Value} (hσ : ObsOk B F ρ w σ) (hm : (vid, Ob.val ss) ∈ σ) (h : RepS F ρ w v (.own vid)) : ∃ cs : List Value, v = .agg cs.toArray ∧ cs.length = ss.length ∧ ∀ j (h1 : j < cs.length) (h2 : j < ss.length), cs[j].oneCell' = true ∧ RepS F ρ w cs[j] ss[j] := by
  obtain ⟨cs, h1, h2, h3⟩ := hσ.ok _ hm
  dsimp only at h1
  refine ⟨cs, ?_, h2, h3⟩
  cases h
  exact h1
/-- A parameter with own parts, boxed. -/
theorem AOps.boxVal {t dst vid : Nat} {x : Operand} {ss : List S} (id : Nat) (hg : o.guard = none) (ht : o.dst = some dst) (hdn : Nat.blt dst cx.N = true) (ho : o.op = .box t x) (hx : e.ev x = .own vid) (hm : (vid, Ob.val ss) ∈ σ) (hid : Obs.fresh id σ = true)
    (k : AOps cx ops rest ((e.kill id).put (some dst) (.ptr id 0)) ((id, .cells (ss.map (S.kill id))) :: Obs.kill id σ) Q) (hfx : cx.free id = true := by rfl) : AOps cx ops (o :: rest) e σ Q := by
  intro a w ⟨F, ρ, hr⟩
  have h2 := ev_rep (e := e) (x := x) (a := a) (fun t _ => hr.env t)
  rw [hx] at h2
  obtain ⟨cs, hv, hl, hc⟩ := val_at hr.obs hm h2
  obtain ⟨ρ', h5⟩ := hr.newCellsS (ty := t) (Obs.fresh_spec hid) (by simpa [Nat.blt_eq] using hdn) hl hc hfx
  refine wpList_plain hg fun K hK => ?_
  unfold Oper.wp execOp
  simp only [ho, Instr.box, newVar, newRow, hv, Value.cells]
  have := k _ _ ⟨F, ρ', h5⟩
  rw [← ht] at this
  exact hK _ _ this
theorem set_mid {α : Type} (cs vs : List α) (off size j : Nat) (hv : vs.length = size) (hle : off + size ≤ cs.length) (hj : j < (cs.take off ++ vs ++ cs.drop (off + size)).length) : (cs.take off ++ vs ++ cs.drop (off + size))[j] = if h : off ≤ j ∧ j < off + size then vs[j - off]'(by omega) else cs[j]'(by simp at hj; omega) := by
  by_cases j1 : j < off
  · rw [dif_neg (by omega), List.getElem_append_left (by simp; omega), List.getElem_append_left (by simp; omega), List.getElem_take]
  · by_cases j2 : j < off + size
    · rw [dif_pos ⟨by omega, j2⟩, List.getElem_append_left (by simp; omega), List.getElem_append_right (by simp; omega)]
      have e1 : (List.take off cs).length = off := by simp; omega
      simp only [e1]
    · rw [dif_neg (by omega), List.getElem_append_right (by simp; omega), List.getElem_drop]
      have e1 : (List.take off cs ++ vs).length = off + size := by simp; omega
      have e2 : off + size + (j - (off + size)) = j := by omega
      simp only [e1, e2]
/-- A struct with own parts, stored. -/
theorem EOp.storeVal {t id off size vid : Nat} {x y : Operand} {ss ss' : List S} (ht : o.dst = none) (ho : o.op = .store t x y) (hs : ∀ w, (sizeOf t).run cx.P w = .ok size w) (hx : e.ev x = .ptr id off) (hm : (id, Ob.cells ss) ∈ σ) (hy : e.ev y = .own vid) (hmv : (vid, Ob.val ss') ∈ σ) (hl' : ss'.length = size)
    (hle : off + size ≤ ss.length) : EOp cx ops o e σ (Obs.upd id (.cells (ss.take off ++ ss' ++ ss.drop (off + size))) σ) := by
  intro F ρ a w e0 hr ha
  have hop : ∀ y ∈ o.op.operands.toList, RepS F ρ w (a.eval y) (e.ev y) := fun y hy => ev_rep fun t ht => ha t (looks_op (by rw [← ht]; exact hy))
  have r1 := hop x (by rw [ho]; simp [Op.operands])
  have r2 := hop y (by rw [ho]; simp [Op.operands])
  rw [hx] at r1
  rw [hy] at r2
  obtain ⟨cs, hv, hl, hc⟩ := val_at hr.obs hmv r2
  obtain ⟨g, ty, cs0, hρ, hB, hF, hh, hcl, hcs⟩ := hr.obs.ok _ hm
  dsimp only at hρ
  have hxv := ptr_at r1 (g := g) (by rw [hρ]; rfl)
  have h4 : ∀ u ∈ (a.eval y).cells.toList, u.oneCell' = true := fun u hu => by
    rw [hv] at hu
    simp only [Value.cells] at hu
    obtain ⟨j, hj, rfl⟩ := List.getElem_of_mem hu
    have hj' : j < cs.length := by simpa using hj
    simpa using (hc j hj' (by omega)).1
  have hsz : (a.eval y).cells.size = size := by rw [hv]; simp [Value.cells]; omega
  obtain ⟨w', h5, h6, h7⟩ := storeVar_run (P := cx.P) (off := off) hs hsz hh (by omega) h4
  unfold Oper.wp execOp
  simp only [ho, Instr.storeAt, hxv, Instr.sureAddr, Sem.run_bind, Sem.run_pure, Result.andThen_ok, h5]
  refine ⟨by rw [ht]; rfl, fun e2 hr2 => ⟨F, ρ, ?_⟩⟩
  have hcl2 : (a.eval y).cells.toList = cs := by rw [hv]; simp [Value.cells]
  rw [hcl2] at h7
  refine hr2.write hρ hm hB hF h6 h7 (by simp; omega) (fun j hj hj' => ?_)
  rw [set_mid cs0 cs off size j (by omega) (by omega) hj, set_mid ss ss' off size j hl' hle hj']
  by_cases hjj : off ≤ j ∧ j < off + size
  · rw [dif_pos hjj, dif_pos hjj]
    exact hc _ _ _
  · rw [dif_neg hjj, dif_neg hjj]
    exact hcs _ _ _
end
/-! One object takes another's place. -/
def S.ren (i j : Nat) : S → S
  | .own k => match Nat.beq k i with | true => .own j | false => match Nat.beq k j with | true => .d .any | false => .own k
  | .ptr k off => match Nat.beq k i with | true => .ptr j off | false => match Nat.beq k j with | true => .d .any | false => .ptr k off
  | .d x => .d x
  | .clo f caps => .d .any
def Ob.ren (i j : Nat) : Ob → Ob
  | .row e size els => .row e size els
  | .cells ss => .cells (ss.map (S.ren i j))
  | .cellsT e ss => .cellsT e (ss.map (S.ren i j))
  | .map M => .map M
  | .rowS e size els => .rowS e size (els.map fun ss => ss.map (S.ren i j))
  | .bts l => .bts l
  | .val ss => .val (ss.map (S.ren i j))
  | .iter M done => .iter M done
section
variable {cx : Cx} {ops : Array Oper} {rest : List Oper} {e : Env} {σ : Obs} {Q : Post}
end
end Go.Proofs.YtcilhhkmgebkeaaGreatDoor
