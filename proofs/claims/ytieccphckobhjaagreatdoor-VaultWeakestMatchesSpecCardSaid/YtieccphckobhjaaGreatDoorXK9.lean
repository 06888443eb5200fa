/- Walks and laws over abstract values, merged by tools/merge.py. No statement of the seat. -/
import Derived.Shelf.Slices.CompactS
import Derived.Shelf.SlSortFuncK.RowK2
import Derived.Shelf.GgSortFunc.RowK
import Derived.Lib.RowBridge
import Derived.WalkKit
import Derived.Ground.NamesProg
import Derived.Shelf.SlSortCmp.WholeK
import Derived.Shelf.SlSortCmp.NoneTotal
import Derived.Shelf.SlicesG.Cmp
import Derived.Ground.SlsfProg
import Derived.Ground.SlgcProg
import Derived.Shelf.Sort.Plain
import Derived.Shelf.Slices.In.SortNone
import Derived.Shelf.Slices.In.CompactS
import Derived.Test.YtieccphckobhjaaGreatDoorProg
import Derived.StillTailTactics
import Derived.Test.YtieccphckobhjaaGreatDoorXK8

namespace Go.Proofs.YtieccphckobhjaaGreatDoor
open Go.RowKit
set_option linter.unusedVariables false

/-! Types. -/
namespace TyW17
theorem ag_26 : AggT Tryz.prog 26 3 := .of (by kernel_rfl)
theorem ag_59 : AggT Tryz.prog 59 5 := .of (by kernel_rfl)
theorem ag_62 : AggT Tryz.prog 62 2 := .of (by kernel_rfl)
theorem et_22 : ElemTy Tryz.prog 22 62 2 24 (.agg #[(.string ⟨#[]⟩), (.int .i64 0)]) := ⟨by kernel_rfl, by kernel_rfl, by kernel_rfl, by decide⟩
theorem et_23 : ElemTy Tryz.prog 23 59 5 64 (.agg #[(.string ⟨#[]⟩), (.string ⟨#[]⟩), (.string ⟨#[]⟩), (.int .i64 0), (.int .i64 0)]) := ⟨by kernel_rfl, by kernel_rfl, by kernel_rfl, by decide⟩
theorem et_63 : ElemTy Tryz.prog 63 3 1 8 (.int .i64 0) := ⟨by kernel_rfl, by kernel_rfl, by kernel_rfl, by decide⟩
theorem fo_26_0 : fieldOff Tryz.prog 26 0 = some 0 := by kernel_rfl
theorem fo_26_1 : fieldOff Tryz.prog 26 1 = some 1 := by kernel_rfl
theorem fo_59_0 : fieldOff Tryz.prog 59 0 = some 0 := by kernel_rfl
theorem fo_62_0 : fieldOff Tryz.prog 62 0 = some 0 := by kernel_rfl
theorem fo_62_1 : fieldOff Tryz.prog 62 1 = some 1 := by kernel_rfl
theorem fo_65_1 : fieldOff Tryz.prog 65 1 = some 1 := by kernel_rfl
theorem sc_22 : Scal Tryz.prog 22 := .of (by kernel_rfl)
theorem sc_23 : Scal Tryz.prog 23 := .of (by kernel_rfl)
theorem sc_3 : Scal Tryz.prog 3 := .of (by kernel_rfl)
theorem sc_9 : Scal Tryz.prog 9 := .of (by kernel_rfl)
theorem sz_23 : ∀ w, (sizeOf 23).run Tryz.prog w = .ok 1 w := SizeT.of (by kernel_rfl)
theorem sz_59 : ∀ w, (sizeOf 59).run Tryz.prog w = .ok 5 w := SizeT.of (by kernel_rfl)
theorem sz_62 : ∀ w, (sizeOf 62).run Tryz.prog w = .ok 2 w := SizeT.of (by kernel_rfl)
theorem sz_65 : ∀ w, (sizeOf 65).run Tryz.prog w = .ok 7 w := SizeT.of (by kernel_rfl)
theorem zt_23 : (Tryz.prog.info? 23).bind (·.zero) = some (.slice none 0 0) := by kernel_rfl
theorem zt_59 : (Tryz.prog.info? 59).bind (·.zero) = some (.agg #[(.string ⟨#[]⟩), (.string ⟨#[]⟩), (.string ⟨#[]⟩), (.int .i64 0), (.int .i64 0)]) := by kernel_rfl
theorem zt_62 : (Tryz.prog.info? 62).bind (·.zero) = some (.agg #[(.string ⟨#[]⟩), (.int .i64 0)]) := by kernel_rfl
theorem zt_65 : (Tryz.prog.info? 65).bind (·.zero) = some (.agg #[(.string ⟨#[]⟩), (.string ⟨#[]⟩), (.string ⟨#[]⟩), (.int .i64 0), (.int .i64 0), (.int .i64 0), (.slice none 0 0)]) := by kernel_rfl
end TyW17
open TyW17


def okSrc (b : Option Cpy) (p : Pol) : Bool := match b with
  | none => false
  | some c => decide (c.gen < p.gens)
def srcCpy (b : Option Cpy) : Cpy := b.getD zC
/-- The numbers, among the candidates, of the targets. -/
def tgtL (v : Vlt) (p : Pol) (x : Item) (room : List Int) (day : Int) : List Nat := (tgtC v p x room day).getD []
/-- The carriers, to which an item may be copied, behind the first k. -/
def candC (v : Vlt) (p : Pol) (x : Item) (room : List Int) (day : Int) (k : Nat) : List Carr := (candTo v p x room day k).map (carrN v)
end Go.Proofs.YtieccphckobhjaaGreatDoor


namespace Go.Proofs.YtieccphckobhjaaGreatDoor
open Go.RowKit
set_option linter.unusedVariables false
section
variable {cx : Cx} {ops : Array Oper} {Φ : List Fc} {o : Oper} {e : Env} {σ : Obs}
end
end Go.Proofs.YtieccphckobhjaaGreatDoor


namespace Go.Proofs.YtieccphckobhjaaGreatDoor
open Go.RowKit Go.Shelf Go.Lib Go.Sort
set_option linter.unusedVariables false
set_option linter.unusedSimpArgs false

structure Cau where
  what : Int
  name : ByteArray
deriving DecidableEq
instance : Inhabited Cau := ⟨⟨0, ⟨#[]⟩⟩⟩
def encC (x : Cau) : List Value := [.int .i64 x.what, .string x.name]
theorem encC_len (x : Cau) : (encC x).length = 2 := rfl
theorem encC_one (x : Cau) : ∀ v ∈ encC x, v.oneCell' = true := by simp [encC, Value.oneCell']
theorem setMany_one {α : Type} [Inhabited α] (enc : α → List Value) (k : Nat) (hk : ∀ x, (enc x).length = k) (d : Array α) (j : Nat) (hj : j < d.size) (x : α) :
    setMany (flatK enc k d) (j * k) (enc x) = flatK enc k (d.setIfInBounds j x) := by
  refine ext_get! (by simp) fun t ht => ?_
  have ht' : t < d.size * k := by simpa using ht
  have k0 : 0 < k := by
    rcases Nat.eq_zero_or_pos k with h | h
    · subst h; simp at ht'
    · exact h
  rw [get_setMany _ _ _ t (by simpa using ht'), get_flatK _ _ _ t ht', get_flatK _ _ _ t (by simpa using ht'), hk]
  by_cases a : t / k = j
  · rw [if_pos ((blk_iff k j t k0).2 a), a, getElem!_set_same d j x hj, ← a, Nat.mod_eq_sub_div_mul]
  · rw [if_neg (fun h => a ((blk_iff k j t k0).1 h)), getElem!_set_other d j _ _ a]
theorem putRowK_set {α : Type} [Inhabited α] (enc : α → List Value) (k : Nat) (hk : ∀ x, (enc x).length = k) (w : World) (blk off : Nat) (d : Array α) (j : Nat) (hj : j < d.size) (x : α) :
    (putRowK enc k w blk off d).setCells blk (off + j * k) (enc x) = putRowK enc k w blk off (d.setIfInBounds j x) := by
  unfold putRowK
  rw [setCells_putRow w blk off (enc x) (j * k) _ (by
    rw [hk, size_flatK]
    have := Nat.mul_le_mul_right k (show j + 1 ≤ d.size by omega)
    rw [Nat.add_mul, Nat.one_mul] at this
    exact this), setMany_one enc k hk d j hj x]
theorem setCells_append (b : Nat) : ∀ (us vs : List Value) (o : Nat) (w : World), w.setCells b o (us ++ vs) = (w.setCells b o us).setCells b (o + us.length) vs
  | [], vs, o, w => by simp [World.setCells]
  | u :: us, vs, o, w => by
    simp only [List.cons_append, World.setCells, List.length_cons]
    rw [setCells_append b us vs (o + 1) _, show o + 1 + us.length = o + (us.length + 1) by omega]
theorem putRowK_setCells {α : Type} [Inhabited α] (enc : α → List Value) (k : Nat) (hk : ∀ x, (enc x).length = k) (w : World) (blk off : Nat) : ∀ (xs : List α) (d : Array α) (j : Nat), j + xs.length ≤ d.size → (putRowK enc k w blk off d).setCells blk (off + j * k) (xs.flatMap enc) = putRowK enc k w blk off (lay d j xs)
  | [], _, _, _ => rfl
  | x :: r, d, j, h => by
    have hl : j + (r.length + 1) ≤ d.size := by simpa using h
    simp only [List.flatMap_cons, lay]
    rw [setCells_append, putRowK_set enc k hk w blk off d j (by omega) x, hk, show off + j * k + k = off + (j + 1) * k by rw [Nat.add_mul, Nat.one_mul]; omega]
    exact putRowK_setCells enc k hk w blk off r _ (j + 1) (by simp; omega)
def zeroC : Cau := ⟨0, ⟨#[]⟩⟩
theorem flat_zero : ∀ n, (Builtin.zeroCells #[.int .i64 0, .string ⟨#[]⟩] n).toList = (List.replicate n zeroC).flatMap encC := by
  intro n
  induction n with
  | zero => simp [Builtin.zeroCells]
  | succ n ih =>
    rw [List.replicate_succ', List.flatMap_append, ← ih]
    simp only [Builtin.zeroCells, List.flatMap_cons, List.flatMap_nil, List.append_nil]
    have : (#[Value.int .i64 0, Value.string ⟨#[]⟩] : Array Value).size = 2 := rfl
    rw [this, show (n + 1) * 2 = n * 2 + 1 + 1 by omega, Array.range_succ, Array.range_succ]
    have e1 : n * 2 % 2 = 0 := by omega
    have e2 : (n * 2 + 1) % 2 = 1 := by omega
    simp [e1, e2]
    rfl
theorem etCau : ElemTy Tryz.prog 49 54 2 24 (.agg #[.int .i64 0, .string ⟨#[]⟩]) := ⟨by kernel_rfl, by kernel_rfl, by kernel_rfl, by decide⟩
theorem clearC (w : World) (ty : TypeId) (b o n c : Nat) (hn : 0 < n)
    (hc : ∀ j, j < n * 2 → (w.cell? ⟨b, o + j, none⟩).isSome = true) (hf : ∀ j, j < n * 2 → w.frozen? ⟨b, o + j, none⟩ = false) :
    (Builtin.clear_ #[49] ty #[.slice (some ⟨b, o, none⟩) n c]).run Tryz.prog w = .ok (.tuple #[]) (w.setCells b o ((List.replicate n zeroC).flatMap encC)) := by
  have hlen : ((List.replicate n zeroC).flatMap encC).length = n * 2 := by
    simp [encC_len]
  have hst := run_storeCells_cells (P := Tryz.prog) b o ((List.replicate n zeroC).flatMap encC) 0 w (by rw [hlen]; simpa using hc) (by rw [hlen]; simpa using hf) (by
    intro v hv'
    obtain ⟨x, hx, hvx⟩ := List.mem_flatMap.1 hv'
    exact encC_one x v hvx)
  simp only [Nat.add_zero] at hst
  have hzc : (Builtin.zeroCells (Value.agg #[.int .i64 0, .string ⟨#[]⟩]).cells n).toList = (List.replicate n zeroC).flatMap encC := flat_zero n
  obtain ⟨i, hi, hz0, hz1, hz2⟩ := info_parts etCau.hi
  have hv : (zeroValue 54).run Tryz.prog w = .ok (.agg #[.int .i64 0, .string ⟨#[]⟩]) w := by
    have hprog : (program : Sem Program).run Tryz.prog w = .ok Tryz.prog w := rfl
    simp only [Sem.run_bind, zeroValue, typeInfo, hprog, Result.andThen_ok, hi, Sem.run_pure, hz0]
  obtain ⟨m, rfl⟩ : ∃ m, n = m + 1 := ⟨n - 1, by omega⟩
  simp [Builtin.clear_, run_underlying etCau.ht, hv, hzc, hst]
theorem holdsC {w : World} {blk : Nat} {d : Array Cau} (h : HoldsK encC 2 w blk 0 d) {i : Nat} (hi : i < d.size) : w.cell? ⟨blk, i * 2, none⟩ = some (.int .i64 d[i]!.what) ∧ w.cell? ⟨blk, i * 2 + 1, none⟩ = some (.string d[i]!.name) ∧ w.frozen? ⟨blk, i * 2, none⟩ = false ∧ w.frozen? ⟨blk, i * 2 + 1, none⟩ = false := by
  have h0 := h.cell (i := i) (c := 0) hi (by omega)
  have h1 := h.cell (i := i) (c := 1) hi (by omega)
  simp only [Nat.zero_add, Nat.add_zero, encC] at h0 h1
  exact ⟨by simpa using h0.1, by simpa using h1.1, h0.2, h1.2⟩
theorem toList_inj {a b : ByteArray} (h : a.toList = b.toList) : a = b := by
  rw [ByteArray.toList_eq, ByteArray.toList_eq] at h
  cases a; cases b
  exact congrArg ByteArray.mk (Array.toList_inj.1 h)
theorem store_worldC {w wr : World} {n blk : Nat} {dk : Array Cau} {i : Nat} (hi : i < dk.size) (hwr : wr = putRowK encC 2 (Sort.ahead w n) blk 0 dk) (x : Cau) :
    (wr.setCells blk (i * 2) (encC x)).drew = putRowK encC 2 (Sort.ahead w (n + 1)) blk 0 (dk.setIfInBounds i x) := by
  subst hwr
  have := putRowK_set encC 2 encC_len (Sort.ahead w n) blk 0 dk i hi x
  rw [Nat.zero_add] at this
  rw [this]
  exact putRowK_drewN (enc := encC) (k := 2) w n 1 blk 0 _
set_option maxHeartbeats 4000000 in
set_option maxRecDepth 1000000 in
/-- slices.Compact at []api.Cause. -/
theorem compC (blk cap : Nat) (d : Array Cau) (w : World) (hH : HoldsK encC 2 w blk 0 d) (hsz : d.size ≤ 1000000) (hcap : d.size ≤ cap) (hc2 : cap ≤ 9223372036854775807) :
    Calls Tryz.prog 65 #[.slice (some ⟨blk, 0, none⟩) d.size cap] w fun e w' => e = .returned (.slice (some ⟨blk, 0, none⟩) (compactUpTo d d.size).length cap) ∧
      ∃ q dk, w' = putRowK encC 2 (Sort.ahead w q) blk 0 dk ∧ dk.size = d.size ∧ ∀ j, j < (compactUpTo d d.size).length → (compactUpTo d d.size)[j]? = some dk[j]! := by
  have same : ∀ q, (∀ j, j < d.size → keeps d j = true) → (compactUpTo d d.size).length = d.size ∧ w.drewN q = putRowK encC 2 (Sort.ahead w q) blk 0 d ∧ ∀ j, j < (compactUpTo d d.size).length → (compactUpTo d d.size)[j]? = some d[j]! := by
    intro q hall
    have e : compactUpTo d d.size = d.toList := by rw [compactUpTo_all d _ hall, range_map_get]
    rw [e]
    refine ⟨by simp, (putRowK_self encC 2 (Sort.ahead w q) blk 0 d (holdsK_ahead encC 2 w q blk 0 d hH)).symm, fun j hj => ?_⟩
    have hj' : j < d.size := by simpa using hj
    rw [List.getElem?_eq_getElem hj, Array.getElem_toList]
    simp [getElem!_pos, hj']
  have HS : Aside (∀ q, (∀ j, j < d.size → keeps d j = true) → (compactUpTo d d.size).length = d.size ∧ w.drewN q = putRowK encC 2 (Sort.ahead w q) blk 0 d ∧ ∀ j, j < (compactUpTo d d.size).length → (compactUpTo d d.size)[j]? = some d[j]!) := same
  clear same
  by_cases h2 : d.size < 2
  · have HH : Aside (HoldsK encC 2 w blk 0 d) := hH
    clear hH
    go_enter Tryz.func65, Tryz.ntmps65
    go_wp2
    go_ret
    obtain ⟨e1, e2, e3⟩ := HS.out 0 (fun j hj => keeps_lt_one d j (by omega))
    exact ⟨by rw [e1]; rfl, 0, d, e2, rfl, e3⟩
  · go_enter Tryz.func65, Tryz.ntmps65
    go_wp2
    go_loopg [3] d.size (fun g s3 wr => ∃ k q : Nat, 1 ≤ k ∧ k ≤ d.size ∧ d.size - k ≤ g ∧ s3 = .int .i64 k ∧ wr = w.drewN q ∧ ∀ j, j < k → keeps d j = true)
    case atStart => exact ⟨1, 0, Nat.le_refl _, by omega, by omega, rfl, rfl, keeps_lt_one d⟩
    case round =>
      obtain ⟨k, q, hk1, hk, hg, rfl, rfl, hall⟩ := hrel
      by_cases hlt : k < d.size
      · obtain ⟨a1, a2, f1, f2⟩ := holdsC hH hlt
        obtain ⟨b1, b2, f3, f4⟩ := holdsC hH (show k - 1 < d.size by omega)
        have A : Aside (∀ j, j < k → keeps d j = true) := hall
        have HH : Aside (HoldsK encC 2 w blk 0 d) := hH
        clear hall hH
        generalize hx : d[k]! = x at a1 a2
        generalize hy : d[k - 1]! = y at b1 b2
        have B : Aside (d[k]! = x ∧ d[k - 1]! = y) := ⟨hx, hy⟩
        clear hx hy
        obtain ⟨xw, xn⟩ := x
        obtain ⟨yw, yn⟩ := y
        dsimp only at a1 a2 b1 b2
        have hwk : IntKind.i64.wrap ((k : Int) - 1) = (k : Int) - 1 := by rw [IntKind.wrap_i64]; omega
        have hk0 : (0 : Int) ≤ (k : Int) - 1 := by omega
        have hk1' : (k : Int) - 1 < (d.size : Int) := by omega
        have hkn : ((k : Int) - 1).toNat = k - 1 := by omega
        have h1k : (1 : Int) ≤ (k : Int) := by omega
        by_cases hdup : xw = yw ∧ xn = yn
        · obtain ⟨rfl, rfl⟩ := hdup
          go_wp2_with fail
          go_region
          go_wp2
          clear a1 a2 b1 b2 f1 f2 f3 f4 hwk hk0 hk1' hkn h1k
          go_loopg [3, 5] d.size (fun g s3 s5 wr => ∃ (kk k2 q2 : Nat) (dk : Array Cau), s3 = .int .i64 kk ∧ s5 = .int .i64 k2 ∧ 1 ≤ k2 ∧ k + k2 ≤ d.size ∧ d.size - (k + k2) ≤ g ∧ wr = putRowK encC 2 (Sort.ahead w q2) blk 0 dk ∧ CompInv d (k + k2) kk dk)
          case atStart => exact ⟨k, 1, q + 1, d, rfl, rfl, Nat.le_refl _, by omega, by omega, (putRowK_self encC 2 (Sort.ahead w (q + 1)) blk 0 d (holdsK_ahead encC 2 w (q + 1) blk 0 d HH.out)).symm, CompInv.start A.out (keeps_neg (by omega) (by rw [B.out.1, B.out.2]))⟩
          case round =>
            obtain ⟨kk, k2, q2, dk, rfl, rfl, h1, hle, hg2, hwr, hI⟩ := hrel
            have hkk := hI.lt
            have hds := hI.size
            have hHk : HoldsK encC 2 wr blk 0 dk := by rw [hwr]; exact holdsK_putRowK encC 2 _ blk 0 d dk (holdsK_ahead encC 2 w q2 blk 0 d HH.out) hds
            have W2 : Aside (wr = putRowK encC 2 (Sort.ahead w q2) blk 0 dk) := hwr
            have I2 : Aside (CompInv d (k + k2) kk dk) := hI
            have hhigh := hI.high
            clear hwr hI
            by_cases hlt2 : k + k2 < d.size
            · obtain ⟨a1, a2, f1, f2⟩ := holdsC hHk (show k + k2 < dk.size by omega)
              obtain ⟨b1, b2, f3, f4⟩ := holdsC hHk (show k + k2 - 1 < dk.size by omega)
              obtain ⟨o1, o2, f5, f6⟩ := holdsC hHk (show kk < dk.size by omega)
              rw [hhigh (k + k2) (by omega), show (k + k2) * 2 = k * 2 + k2 * 2 by omega] at a1
              rw [hhigh (k + k2) (by omega), show (k + k2) * 2 = k * 2 + k2 * 2 by omega] at a2
              rw [hhigh (k + k2 - 1) (by omega), show (k + k2 - 1) * 2 = k * 2 + (k2 - 1) * 2 by omega] at b1
              rw [hhigh (k + k2 - 1) (by omega), show (k + k2 - 1) * 2 = k * 2 + (k2 - 1) * 2 by omega] at b2
              clear hHk hhigh f1 f2 f3 f4
              generalize hu : d[k + k2]! = u at a1 a2
              generalize hv : d[k + k2 - 1]! = v at b1 b2
              generalize dk[kk]! = old at o1 o2
              have C : Aside (d[k + k2]! = u ∧ d[k + k2 - 1]! = v) := ⟨hu, hv⟩
              clear hu hv
              obtain ⟨uw, un⟩ := u
              obtain ⟨vw, vn⟩ := v
              dsimp only at a1 a2 b1 b2
              have hwk : IntKind.i64.wrap ((k2 : Int) - 1) = (k2 : Int) - 1 := by rw [IntKind.wrap_i64]; omega
              have hk0 : (0 : Int) ≤ (k2 : Int) - 1 := by omega
              have hk1' : (k2 : Int) - 1 < ((d.size - k : Nat) : Int) := by omega
              have hkn : ((k2 : Int) - 1).toNat = k2 - 1 := by omega
              have h1k : (1 : Int) ≤ (k2 : Int) := by omega
              have hlt3 : (k2 : Int) < ((d.size - k : Nat) : Int) := by omega
              by_cases huv : uw = vw ∧ un = vn
              · obtain ⟨rfl, rfl⟩ := huv
                go_wp2_with fail
                go_region
                go_wp2
                go_roundg (d.size - (k + (k2 + 1)))
                case measure => omega
                case rel => exact ⟨kk, k2 + 1, q2 + 1, dk, rfl, by go_num, by omega, by omega, Nat.le_refl _, by rw [W2.out]; rfl, I2.out.skip (keeps_neg (by omega) (by rw [C.out.1, C.out.2]))⟩
              · by_cases hw : uw = vw
                · have hn : ¬un.toList = vn.toList := fun e => huv ⟨hw, toList_inj e⟩
                  subst hw
                  go_wp2_with fail
                  go_region
                  go_wp2
                  go_roundg (d.size - (k + (k2 + 1)))
                  case measure => omega
                  case rel =>
                    refine ⟨kk + 1, k2 + 1, q2 + 1, dk.setIfInBounds kk ⟨uw, un⟩, by go_num, by go_num, by omega, by omega, Nat.le_refl _, store_worldC (by omega) W2.out ⟨uw, un⟩, ?_⟩
                    have := I2.out.keep hlt2 (keeps_pos (by rw [C.out.1, C.out.2]; intro e; exact hn (congrArg (fun c : Cau => c.name.toList) e)))
                    rwa [C.out.1] at this
                · go_wp2_with fail
                  go_region
                  go_wp2
                  go_roundg (d.size - (k + (k2 + 1)))
                  case measure => omega
                  case rel =>
                    refine ⟨kk + 1, k2 + 1, q2 + 1, dk.setIfInBounds kk ⟨uw, un⟩, by go_num, by go_num, by omega, by omega, Nat.le_refl _, store_worldC (by omega) W2.out ⟨uw, un⟩, ?_⟩
                    have := I2.out.keep hlt2 (keeps_pos (by rw [C.out.1, C.out.2]; intro e; exact huv ⟨congrArg Cau.what e, congrArg Cau.name e⟩))
                    rwa [C.out.1] at this
            · have hend : k + k2 = d.size := by omega
              have hcl : ∀ ty, (Builtin.clear_ #[49] ty #[.slice (some ⟨blk, kk * 2, none⟩) (d.size - kk) (cap - kk)]).run Tryz.prog wr = .ok (.tuple #[]) (wr.setCells blk (kk * 2) ((List.replicate (d.size - kk) zeroC).flatMap encC)) :=
                fun ty => clearC wr ty blk (kk * 2) _ _ (by omega) (fun j hj => by
                  obtain ⟨a1, a2, f1, f2⟩ := holdsC hHk (show kk + j / 2 < dk.size by omega)
                  rcases Nat.mod_two_eq_zero_or_one j with e | e
                  · rw [show kk * 2 + j = (kk + j / 2) * 2 by omega, a1]; rfl
                  · rw [show kk * 2 + j = (kk + j / 2) * 2 + 1 by omega, a2]; rfl) (fun j hj => by
                  obtain ⟨a1, a2, f1, f2⟩ := holdsC hHk (show kk + j / 2 < dk.size by omega)
                  rcases Nat.mod_two_eq_zero_or_one j with e | e
                  · rw [show kk * 2 + j = (kk + j / 2) * 2 by omega, f1]
                  · rw [show kk * 2 + j = (kk + j / 2) * 2 + 1 by omega, f2])
              clear hHk hhigh
              go_wp2
              go_ret
              have hI := I2.out
              rw [hend] at hI
              refine ⟨by rw [hI.len]; rfl, q2, lay dk kk (List.replicate (d.size - kk) zeroC), ?_, ?_, ?_⟩
              · rw [W2.out, show kk * 2 = 0 + kk * 2 by omega]
                exact putRowK_setCells encC 2 encC_len _ blk 0 _ dk kk (by simp; omega)
              · rw [hI.done zeroC]
                have := hI.len
                simp
                omega
              · intro j hj
                rw [hI.done zeroC]
                have : j < (compactUpTo d d.size ++ List.replicate (d.size - kk) zeroC).length := by simp; omega
                rw [getElem!_pos _ j (by simpa using this)]
                simp [List.getElem_append_left hj, hj]
        · by_cases hw : xw = yw
          · have hn : ¬xn.toList = yn.toList := fun e => hdup ⟨hw, toList_inj e⟩
            subst hw
            go_wp2_with fail
            go_region
            go_wp2
            go_roundg (d.size - (k + 1))
            case measure => omega
            case rel =>
              refine ⟨k + 1, q + 1, by omega, by omega, Nat.le_refl _, by go_num, rfl, fun j hj => ?_⟩
              by_cases e : j = k
              · subst e
                exact keeps_pos (by rw [B.out.1, B.out.2]; intro e; exact hn (congrArg (fun c : Cau => c.name.toList) e))
              · exact A.out j (by omega)
          · go_wp2_with fail
            go_region
            go_wp2
            go_roundg (d.size - (k + 1))
            case measure => omega
            case rel =>
              refine ⟨k + 1, q + 1, by omega, by omega, Nat.le_refl _, by go_num, rfl, fun j hj => ?_⟩
              by_cases e : j = k
              · subst e
                exact keeps_pos (by rw [B.out.1, B.out.2]; intro e; exact hdup ⟨congrArg Cau.what e, congrArg Cau.name e⟩)
              · exact A.out j (by omega)
      · have : k = d.size := by omega
        subst this
        have HH : Aside (HoldsK encC 2 w blk 0 d) := hH
        clear hH
        go_wp2
        go_ret
        obtain ⟨e1, e2, e3⟩ := HS.out q hall
        exact ⟨by rw [e1]; rfl, q, d, e2, rfl, e3⟩
end Go.Proofs.YtieccphckobhjaaGreatDoor


namespace Go.Proofs.YtieccphckobhjaaGreatDoor
open Go.RowKit Go.Shelf Go.Lib Go.Sort
set_option linter.unusedVariables false
set_option linter.unusedSimpArgs false

def Cau.ds (c : Cau) : List D := [.v (.int .i64 c.what), .v (.string c.name)]
theorem row_caus {B : Nat} {F : Nat → Prop} {ρ : Nat → Value} {w : World} {id e : Nat} {xs : List Cau} (h : ObOk B F ρ w id (.row e 2 (xs.map Cau.ds))) :
    (ρ id = .slice none 0 0 ∧ xs = []) ∨ ∃ g cap cur, ρ id = .slice (some ⟨g, 0, none⟩) xs.length cap ∧ B ≤ g ∧ w.heap[g]? = some (.cells cur e (0, 0)) ∧ xs.length ≤ cap ∧ cap ≤ maxLen ∧ cur.size = cap * 2 ∧ (∀ i c, (hi : i < xs.length) → c < 2 → cur[i * 2 + c]? = some ((encC xs[i])[c]!)) ∧ ¬ F g := by
  obtain ⟨ys, h1, h2, h3, h4⟩ := h
  have hl : (xs.map Cau.ds).length = xs.length := List.length_map ..
  rw [hl] at h1
  have h1' : w.ownsRow B e 2 (ρ id) xs.length (flat ys xs.length 2) := h1
  rcases h1'.2 with ⟨h5, h6⟩ | ⟨g, cap, cur, h5, h6, h7, h8, h9, h10, h11⟩
  · exact .inl ⟨h5, List.eq_nil_of_length_eq_zero h6⟩
  · refine .inr ⟨g, cap, cur, h5, h6, h7, h8, h9, h10, fun i c hi hc0 => ?_, h4 g (by rw [h5]; rfl)⟩
    have hc := row_cell h1' h5 h7 hi hc0
    rw [cell_of_row w g (i * 2 + c) cur e (0, 0) h7] at hc
    have h12 := (h3 i (by rw [hl]; exact hi) c (by simp [Cau.ds]; exact hc0)).2
    simp only [List.getElem_map, Cau.ds] at h12
    rw [hc]
    match c, hc0 with
    | 0, _ =>
      simp only [List.getElem_cons_zero] at h12
      rw [rep_v h12]; rfl
    | 1, _ =>
      simp only [List.getElem_cons_succ, List.getElem_cons_zero] at h12
      rw [rep_v h12]; rfl
def cauV (xs : List Cau) (i c : Nat) : Value := (encC (xs.getD i default))[c]!
theorem cauV_at {xs : List Cau} {i : Nat} (hi : i < xs.length) (c : Nat) : cauV xs i c = (encC xs[i])[c]! := by
  unfold cauV
  rw [List.getD_eq_getElem?_getD, List.getElem?_eq_getElem hi]; rfl
theorem cauV_rep {F : Nat → Prop} {w : World} (xs : List Cau) {i c : Nat} (hi : i < xs.length) (hj : c < ((xs.map Cau.ds)[i]'(by simpa using hi)).length) : (cauV xs i c).oneCell' = true ∧ Rep F w (cauV xs i c) ((xs.map Cau.ds)[i]'(by simpa using hi))[c] := by
  have hj' : c < 2 := by simpa [Cau.ds] using hj
  rw [cauV_at hi]
  match c, hj' with
  | 0, _ => exact ⟨rfl, by simp only [List.getElem_map, Cau.ds, List.getElem_cons_zero]; exact .v _⟩
  | 1, _ => exact ⟨rfl, by simp only [List.getElem_map, Cau.ds, List.getElem_cons_succ, List.getElem_cons_zero]; exact .v _⟩
theorem caus_row {B : Nat} {F : Nat → Prop} {ρ : Nat → Value} {w : World} {id e g cap : Nat} {cur : Array Value} {xs : List Cau} (h5 : ρ id = .slice (some ⟨g, 0, none⟩) xs.length cap) (h6 : B ≤ g) (h7 : w.heap[g]? = some (.cells cur e (0, 0))) (h8 : xs.length ≤ cap) (h9 : cap ≤ maxLen) (h10 : cur.size = cap * 2)
    (hc : ∀ i c, (hi : i < xs.length) → c < 2 → cur[i * 2 + c]? = some ((encC xs[i])[c]!)) (hF : ¬ F g) : ObOk B F ρ w id (.row e 2 (xs.map Cau.ds)) := by
  have hl : (xs.map Cau.ds).length = xs.length := List.length_map ..
  refine ⟨cauV xs, ?_, fun i hi => by simp [Cau.ds], fun i hi j hj => cauV_rep xs (by simpa using hi) hj, fun g' hg' => ?_⟩
  · rw [hl]
    refine ⟨flat_length _ _ _, .inr ⟨g, cap, cur, h5, h6, h7, h8, h9, h10, ?_⟩⟩
    apply List.ext_getElem?
    intro p
    by_cases hp : p < xs.length * 2
    · have hpi : p / 2 < xs.length := by omega
      have := flatten_get (cauV xs) 2 xs.length (p / 2) (p % 2) hpi (by omega)
      rw [show p / 2 * 2 + p % 2 = p by omega] at this
      have h11 := hc (p / 2) (p % 2) hpi (by omega)
      rw [show p / 2 * 2 + p % 2 = p by omega] at h11
      rw [this, List.getElem?_take, if_pos hp, Array.getElem?_toList, h11, cauV_at hpi]
    · rw [List.getElem?_eq_none (by rw [List.length_take]; omega)]
      exact (List.getElem?_eq_none (by have := flat_length (cauV xs) xs.length 2; unfold flat at this; rw [this]; omega)).symm
  · rw [h5] at hg'
    simp [blk] at hg'
    subst hg'
    exact hF
/-- The world behind a call that lays a row of k cells anew. -/
theorem put_blockK {w : World} {g n e : Nat} {cur : Array Value} {os : Array Obj} {zs : Array Cau} (h : w.heap[g]? = some (.cells cur e (0, 0))) :
    (Sort.grow (putRowK encC 2 (Sort.ahead w n) g 0 zs) os).heap[g]? = some (.cells (Sort.putCells id 0 (flatK encC 2 zs) cur) e (0, 0)) ∧
    (∀ k, k < w.heap.size → k ≠ g → (Sort.grow (putRowK encC 2 (Sort.ahead w n) g 0 zs) os).heap[k]? = w.heap[k]?) := by
  unfold putRowK
  have hg : g < w.heap.size := (Array.getElem?_eq_some_iff.1 h).1
  have hs : ∀ k, k < w.heap.size → (Sort.grow (Sort.putRow id (Sort.ahead w n) g 0 (flatK encC 2 zs)) os).heap[k]? = (Sort.putRow id (Sort.ahead w n) g 0 (flatK encC 2 zs)).heap[k]? := fun k hk => Sort.heap_grow_old _ _ (by rw [Sort.size_putRow]; exact hk)
  refine ⟨?_, fun k hk hne => ?_⟩
  · rw [hs g hg]
    show (w.heap.modify g _)[g]? = _
    rw [Array.getElem?_modify, if_pos rfl, h]
    rfl
  · rw [hs k hk]
    show (w.heap.modify g _)[k]? = _
    rw [Array.getElem?_modify, if_neg (Ne.symm hne)]
theorem put_cellsK (zs : Array Cau) (cur : Array Value) (hl : zs.size * 2 ≤ cur.size) (i c : Nat) (hi : i < zs.size) (hc : c < 2) : (Sort.putCells id 0 (flatK encC 2 zs) cur)[i * 2 + c]? = some ((encC zs[i]!)[c]!) := by
  unfold Sort.putCells
  rw [Array.getElem?_mapIdx, Array.getElem?_eq_getElem (by omega), Option.map_some, if_pos ⟨Nat.zero_le _, by rw [size_flatK]; omega⟩]
  rw [Nat.sub_zero, get_flatK encC 2 zs _ (by omega), show (i * 2 + c) / 2 = i by omega, show (i * 2 + c) % 2 = c by omega]
  rfl
theorem holds_caus {w : World} {g e : Nat} {cur : Array Value} {xs : List Cau} (h7 : w.heap[g]? = some (.cells cur e (0, 0))) (hc : ∀ i c, (hi : i < xs.length) → c < 2 → cur[i * 2 + c]? = some ((encC xs[i])[c]!)) : HoldsK encC 2 w g 0 xs.toArray := by
  intro j hj
  have hj' : j < xs.length * 2 := by simpa using hj
  have hpi : j / 2 < xs.length := by omega
  have h11 := hc (j / 2) (j % 2) hpi (by omega)
  rw [show j / 2 * 2 + j % 2 = j by omega] at h11
  rw [Nat.zero_add, cell_of_row w g j cur e (0, 0) h7, h11, get_flatK encC 2 _ _ (by simpa using hj')]
  refine ⟨by simp [hpi], ?_⟩
  unfold World.frozen?
  rw [h7]
  simp
theorem c_hnil {B : Nat} {F : Nat → Prop} {ρ : Nat → Value} {w : World} : ObsOk B F ρ w [] := ⟨fun p hp => (nomatch hp), fun p hp => (nomatch hp), fun p hp => (nomatch hp)⟩
theorem repSL_own {F : Nat → Prop} {ρ : Nat → Value} {w : World} {vs : List Value} {id : Nat} (h : RepSL F ρ w vs [.own id]) : vs = [ρ id] := by
  obtain ⟨v, rfl⟩ : ∃ v, vs = [v] := by
    match vs, h.1 with
    | [v], _ => exact ⟨v, rfl⟩
  have h1 := h.2 0 (by simp) (by simp)
  simp only [List.getElem_cons_zero] at h1
  cases h1
  rfl
set_option maxHeartbeats 1000000 in
theorem compC_nil (w : World) : Calls Tryz.prog 65 #[.slice none 0 0] w fun e w' => e = .returned (.slice none 0 0) ∧ w' = w := by
  go_enter Tryz.func65, Tryz.ntmps65
  go_wp2
  go_ret
  exact ⟨rfl, rfl⟩
/-- slices.Compact takes the row; what it returns is data. -/
theorem c_compactC (xs : List Cau) (hn : xs.length ≤ 1000000) (e id : Nat) : XCall Tryz.prog 65 [.own id] [(id, .row e 2 (xs.map Cau.ds))] [] (fun _ => false) (.sl ((compact xs).map Cau.ds)) := by
  refine ⟨.of Tryz.func65 (by kernel_rfl) rfl, fun F ρ B w vs hF hB hσ hv => ?_⟩
  obtain rfl := repSL_own hv
  rcases row_caus (hσ.ok _ (List.mem_singleton.2 rfl)) with ⟨h1, h2⟩ | ⟨g, cap, cur, h5, h6, h7, h8, h9, h10, h11, h12⟩
  · subst h2
    rw [h1]
    refine (compC_nil w).mono fun e' w' ⟨he, hw⟩ => ?_
    subst hw
    exact ⟨_, F, ρ, he, .nil, fun _ hb => hb, fun _ hb => .inl hb, hF, Kept.refl _ _, c_hnil, fun p hp => (nomatch hp), fun _ _ => rfl⟩
  rw [h5]
  have hg : g < w.heap.size := (Array.getElem?_eq_some_iff.1 h7).1
  have h := compC g cap xs.toArray w (holds_caus h7 h11) (by simpa using hn) (by simpa using h8) (by unfold maxLen at h9; omega)
  rw [show xs.toArray.size = xs.length by simp] at h
  refine h.mono fun e' w' ⟨he, n, dk, hw, hds, hdk⟩ => ?_
  have hcc : compactUpTo xs.toArray xs.length = compact xs := rfl
  rw [hcc] at he hdk
  obtain ⟨hb1, hb2⟩ := put_blockK (n := n) (os := #[]) (zs := dk) h7
  have hw2 : w' = Sort.grow (putRowK encC 2 (Sort.ahead w n) g 0 dk) #[] := by rw [Sort.grow_empty]; exact hw
  have hsz : w.heap.size ≤ w'.heap.size := by rw [hw2, Sort.size_grow, size_putRowK]; exact Nat.le_add_right _ _
  have hob : ownB [(id, Ob.row e 2 (xs.map Cau.ds))] ρ g := ⟨_, List.mem_singleton.2 rfl, by rw [h5]; rfl⟩
  have hcl := compact_length_le xs
  have hds' : dk.size = xs.length := by simpa using hds
  have hl : ((compact xs).map Cau.ds).length = (compact xs).length := List.length_map ..
  have hr : Rep (fun b => F b ∨ b = g) w' (.slice (some ⟨g, 0, none⟩) ((compact xs).map Cau.ds).length cap) (.sl ((compact xs).map Cau.ds)) := by
    refine .sl ⟨g, 0, none⟩ cap 2 _ (cauV (compact xs)) (by rw [hl]; omega) (by unfold maxLen at h9; omega) (fun _ => .inr rfl) (fun i hi => by simp [Cau.ds]) (fun i j hi hj => ?_) (fun i j hi hj => (cauV_rep (F := F) (w := w) (compact xs) (by simpa using hi) (by simpa [Cau.ds] using hj)).1) (fun i hi j hj => (cauV_rep (compact xs) (by simpa using hi) hj).2)
    rw [hl] at hi
    rw [addr_add, Nat.zero_add, hw2, cell_of_row _ g _ _ e (0, 0) hb1, put_cellsK dk _ (by omega) i j (by omega) hj, cauV_at hi]
    have := hdk i hi
    rw [List.getElem?_eq_getElem hi] at this
    rw [← Option.some.inj this]
  rw [hl] at hr
  refine ⟨_, _, ρ, he, hr, fun _ hb => .inl hb, fun b hb => ?_, fun b hb => ?_, ⟨by rw [hw2]; rfl, by rw [hw2]; rfl, by rw [hw2]; rfl, hsz, fun k hk hne => ?_⟩, c_hnil, fun p hp => (nomatch hp), fun _ _ => rfl⟩
  · rcases hb with hb | rfl
    · exact .inl hb
    exact .inr (.inr hob)
  · rcases hb with hb | rfl
    · exact Nat.lt_of_lt_of_le (hF b hb) hsz
    exact Nat.lt_of_lt_of_le hg hsz
  rw [hw2]
  exact hb2 k hk (fun he => hne (.inr (he ▸ hob)))
set_option maxHeartbeats 2000000 in
/-- cmp.Or at two. -/
theorem or2 (a b : Int) (blk : Nat) (W : World) (h0 : W.cell? ⟨blk, 0, none⟩ = some (.int .i64 a)) (h1 : W.cell? ⟨blk, 1, none⟩ = some (.int .i64 b)) :
    Calls Tryz.prog 62 #[.slice (some ⟨blk, 0, none⟩) 2 2] W fun e w' => e = .returned (.int .i64 (if a = 0 then b else a)) ∧ w' = W := by
  go_enter Tryz.func62, Tryz.ntmps62
  go_wp2
  refine wp_loop_rounds 3 ?_
  rw [rounds_succ]
  by_cases ha : a = 0
  · subst ha
    go_wp2
    rw [rounds_succ]
    by_cases hb : b = 0
    · subst hb
      go_wp2
      rw [rounds_succ]
      go_wp2
      go_ret
      exact ⟨rfl, rfl⟩
    · go_wp2
      go_ret
      exact ⟨rfl, rfl⟩
  · go_wp2
    go_ret
    exact ⟨rfl, rfl⟩
end Go.Proofs.YtieccphckobhjaaGreatDoor


namespace Go.Proofs.YtieccphckobhjaaGreatDoor
open Go.RowKit
set_option linter.unusedVariables false

/-! Types. -/
namespace TyZ0

end TyZ0
open TyZ0


open Go.Sort Go.Lib
def cmpC (x y : Cau) : Int := if compareInt x.what y.what = 0 then compareBytes x.name.data.toList y.name.data.toList else compareInt x.what y.what
def ltK (x y : Cau) : Bool := decide (cmpC x y < 0)
def sortC (l : List Cau) : List Cau := l.mergeSort fun x y => !(ltK y x)
def sortS (l : List (List UInt8)) : List (List UInt8) := l.mergeSort fun x y => decide (x ≤ y)
theorem compareInt_zero {a b : Int} : compareInt a b = 0 ↔ a = b := by
  unfold compareInt
  split
  · omega
  · split <;> omega
theorem compareInt_neg {a b : Int} : compareInt a b < 0 ↔ a < b := by
  unfold compareInt
  split
  · omega
  · split <;> omega
theorem cb_lt : ∀ a b : List UInt8, compareBytes a b < 0 ↔ a < b
  | [], [] => by simp [compareBytes]
  | [], _ :: _ => by simp [compareBytes]
  | _ :: _, [] => by simp [compareBytes]
  | x :: a, y :: b => by
    unfold compareBytes
    rw [List.cons_lt_cons_iff]
    by_cases h1 : x < y
    · simp [h1]
    · rw [if_neg h1]
      by_cases h2 : y < x
      · rw [if_pos h2]
        have : x ≠ y := fun e => by subst e; exact UInt8.lt_irrefl _ h2
        simp [h1, this]
      · rw [if_neg h2, cb_lt a b]
        have : x = y := UInt8.le_antisymm (UInt8.not_lt.1 h2) (UInt8.not_lt.1 h1)
        simp [this, UInt8.lt_irrefl]
theorem cauLt (x y : Cau) : ltK x y = true ↔ x.what < y.what ∨ (x.what = y.what ∧ x.name.data.toList < y.name.data.toList) := by
  unfold ltK cmpC
  rw [decide_eq_true_eq]
  by_cases h : compareInt x.what y.what = 0
  · rw [if_pos h, cb_lt]
    have := compareInt_zero.1 h
    constructor
    · exact fun h2 => .inr ⟨this, h2⟩
    · rintro (h2 | h2)
      · omega
      · exact h2.2
  · rw [if_neg h, compareInt_neg]
    constructor
    · exact .inl
    · rintro (h2 | h2)
      · exact h2
      · exact absurd (compareInt_zero.2 h2.1) h
theorem cau_ext {x y : Cau} (h1 : x.what = y.what) (h2 : x.name.data.toList = y.name.data.toList) : x = y := by
  cases x; cases y
  simp only at h1 h2
  subst h1
  rw [raw_inj h2]
theorem ltK_irr (x : Cau) : ltK x x = false := by
  rw [← Bool.not_eq_true, cauLt]
  rintro (h | h)
  · omega
  · exact List.lt_irrefl _ h.2
theorem ltK_trans {x y z : Cau} (h1 : ltK x y = true) (h2 : ltK y z = true) : ltK x z = true := by
  rw [cauLt] at *
  rcases h1 with h1 | h1 <;> rcases h2 with h2 | h2
  · exact .inl (by omega)
  · exact .inl (by omega)
  · exact .inl (by omega)
  · exact .inr ⟨by omega, List.lt_trans h1.2 h2.2⟩
theorem ltK_tot {x y : Cau} (h1 : ltK x y = false) (h2 : ltK y x = false) : x = y := by
  rw [← Bool.not_eq_true, cauLt] at h1 h2
  rcases Int.lt_trichotomy x.what y.what with h | h | h
  · exact absurd (.inl h) h1
  · refine cau_ext h ?_
    have a1 : ¬ x.name.data.toList < y.name.data.toList := fun h3 => h1 (.inr ⟨h, h3⟩)
    have a2 : ¬ y.name.data.toList < x.name.data.toList := fun h3 => h2 (.inr ⟨h.symm, h3⟩)
    exact List.le_antisymm (List.not_lt.1 a2) (List.not_lt.1 a1)
  · exact absurd (.inl h) h2
theorem swoC : SWO ltK where
  irrefl := ltK_irr
  trans _ _ _ h1 h2 := ltK_trans h1 h2
  ntrans x y z h1 h2 := by
    cases h3 : ltK x z with
    | false => rfl
    | true =>
      cases h4 : ltK y x with
      | true => rw [ltK_trans h4 h3] at h2; cases h2
      | false => rw [ltK_tot h1 h4] at h3; rw [h3] at h2; cases h2
/-- Strictly rising. -/
def Rise {α : Type} (lt : α → α → Bool) (l : List α) : Prop := l.Pairwise fun x y => lt x y = true
theorem rise_uniq {l r : List Cau} (h1 : Rise ltK l) (h2 : Rise ltK r) (hm : ∀ x, x ∈ l ↔ x ∈ r) : l = r := by
  have nd : ∀ {l : List Cau}, Rise ltK l → l.Nodup := fun h => h.imp fun {a b} hab e => by rw [e, ltK_irr] at hab; cases hab
  have hp : l.Perm r := (List.perm_ext_iff_of_nodup (nd h1) (nd h2)).2 hm
  refine List.Perm.eq_of_pairwise (le := fun x y => ltK x y = true) (fun a b _ _ h3 h4 => ?_) h1 h2 hp
  have := ltK_trans h3 h4
  rw [ltK_irr] at this
  cases this
section
variable {α : Type} [DecidableEq α] [Inhabited α]
theorem mem_upTo (d : Array α) : ∀ m x, x ∈ compactUpTo d m ↔ ∃ j, j < m ∧ d[j]! = x
  | 0, x => by simp [compactUpTo]
  | m + 1, x => by
    rw [compactUpTo_succ, List.mem_append, mem_upTo d m x]
    constructor
    · rintro (⟨j, h1, h2⟩ | h)
      · exact ⟨j, by omega, h2⟩
      · by_cases hk : keeps d m = true
        · rw [if_pos hk, List.mem_singleton] at h
          exact ⟨m, by omega, h.symm⟩
        · rw [if_neg hk] at h; cases h
    · rintro ⟨j, h1, h2⟩
      by_cases hj : j < m
      · exact .inl ⟨j, hj, h2⟩
      · obtain rfl : j = m := by omega
        by_cases hk : keeps d j = true
        · exact .inr (by rw [if_pos hk, List.mem_singleton, h2])
        · have hk' : keeps d j = false := by simpa using hk
          unfold keeps at hk'
          rw [decide_eq_false_iff_not] at hk'
          have hj0 : j ≠ 0 := fun e => hk' (.inl e)
          have he : d[j]! = d[j - 1]! := Decidable.not_not.1 fun e => hk' (.inr e)
          exact .inl ⟨j - 1, by omega, by rw [← he, h2]⟩
theorem mem_compact (l : List α) (x : α) : x ∈ compact l ↔ x ∈ l := by
  unfold compact
  rw [mem_upTo]
  constructor
  · rintro ⟨j, h1, h2⟩
    rw [← h2]
    simp [h1]
  · intro h
    obtain ⟨j, h1, h2⟩ := List.mem_iff_getElem.1 h
    exact ⟨j, h1, by simp [h1, h2]⟩
theorem rise_upTo {lt : α → α → Bool} (htr : ∀ x y z, lt x y = true → lt y z = true → lt x z = true) (htot : ∀ x y, lt x y = false → lt y x = false → x = y) (d : Array α) (hs : ∀ i j, i < j → j < d.size → lt d[j]! d[i]! = false) : ∀ m, m ≤ d.size → Rise lt (compactUpTo d m)
  | 0, _ => by simp [compactUpTo, Rise]
  | m + 1, hm => by
    rw [compactUpTo_succ]
    have ih := rise_upTo htr htot d hs m (by omega)
    by_cases hk : keeps d m = true
    · rw [if_pos hk]
      refine List.pairwise_append.2 ⟨ih, by simp, fun x hx y hy => ?_⟩
      obtain rfl := List.mem_singleton.1 hy
      obtain ⟨j, h1, rfl⟩ := (mem_upTo d m x).1 hx
      unfold keeps at hk
      rw [decide_eq_true_eq] at hk
      have hne : d[m]! ≠ d[m - 1]! := hk.resolve_left (by omega)
      have a1 : lt d[m - 1]! d[m]! = true := by
        cases h : lt d[m - 1]! d[m]! with
        | true => rfl
        | false => exact absurd (htot _ _ (hs (m - 1) m (by omega) (by omega)) h) hne
      by_cases hj : j = m - 1
      · rw [hj]; exact a1
      · cases h : lt d[j]! d[m - 1]! with
        | true => exact htr _ _ _ h a1
        | false => rw [htot _ _ h (hs j (m - 1) (by omega) (by omega))]; exact a1
    · rw [if_neg hk, List.append_nil]; exact ih
theorem rise_compact {lt : α → α → Bool} (htr : ∀ x y z, lt x y = true → lt y z = true → lt x z = true) (htot : ∀ x y, lt x y = false → lt y x = false → x = y) (l : List α) (hs : l.Pairwise fun x y => lt y x = false) : Rise lt (compact l) := by
  refine rise_upTo htr htot _ (fun i j hij hj => ?_) _ (by simp)
  have hj' : j < l.length := by simpa using hj
  have := List.pairwise_iff_getElem.1 hs i j (by omega) hj' hij
  simpa [show i < l.length by omega, hj'] using this
end
theorem sortC_rise (l : List Cau) : Rise ltK (compact (sortC l)) := by
  refine rise_compact (lt := ltK) (fun _ _ _ => ltK_trans) (fun x y h1 h2 => ltK_tot (x := x) (y := y) h1 h2) _ ?_
  unfold sortC
  have := List.pairwise_mergeSort (le := fun x y => !(ltK y x)) (fun a b c h1 h2 => by
    simp only [Bool.not_eq_true'] at h1 h2 ⊢
    exact swoC.ntrans _ _ _ h2 h1) (fun a b => by
    rw [Bool.or_eq_true, Bool.not_eq_true', Bool.not_eq_true']
    cases h : ltK b a with
    | false => exact .inl rfl
    | true => exact .inr (swoC.asymmA h)) l
  exact this.imp fun h => by simpa using h
theorem mem_sortC (l : List Cau) (x : Cau) : x ∈ compact (sortC l) ↔ x ∈ l := by
  rw [mem_compact]; unfold sortC; exact (List.mergeSort_perm l _).mem_iff
theorem sortS_rise (l : List (List UInt8)) : (compact (sortS l)).Pairwise fun x y => x < y := by
  have h := rise_compact (lt := fun x y : List UInt8 => decide (x < y)) (fun _ _ _ h1 h2 => by
    rw [decide_eq_true_eq] at *; exact List.lt_trans h1 h2) (fun _ _ h1 h2 => by
    rw [decide_eq_false_iff_not] at *; exact List.le_antisymm (List.not_lt.1 h2) (List.not_lt.1 h1)) (sortS l) (by
    unfold sortS
    have := List.pairwise_mergeSort (le := fun x y : List UInt8 => decide (x ≤ y)) (fun a b c h1 h2 => by
      simp only [decide_eq_true_eq] at h1 h2 ⊢
      exact List.le_trans h1 h2) (fun a b => by
      rw [Bool.or_eq_true, decide_eq_true_eq, decide_eq_true_eq]
      exact List.le_total a b) l
    exact this.imp fun {a b} h => by
      rw [decide_eq_true_eq] at h
      rw [decide_eq_false_iff_not]
      exact List.not_lt.2 h)
  exact h.imp fun h => by simpa using h
theorem mem_sortS (l : List (List UInt8)) (x : List UInt8) : x ∈ compact (sortS l) ↔ x ∈ l := by
  rw [mem_compact]; unfold sortS; exact (List.mergeSort_perm l _).mem_iff
/-- All causes that concern some carriers, as the program gathers them. -/
def cauP (on : List Carr) : List Cau := on.flatMap fun x => [⟨1, x.place⟩, ⟨2, x.kind⟩]
def plsR (on : List Carr) : List (List UInt8) := on.map fun x => x.place.data.toList
def kdsR (on : List Carr) : List (List UInt8) := on.map fun x => x.kind.data.toList
def mkC (w : Int) (s : List UInt8) : Cau := ⟨w, ⟨s.toArray⟩⟩
/-- .. as the reference does. -/
def cauR (on : List Carr) : List Cau := (compact (sortS (plsR on))).map (mkC 1) ++ (compact (sortS (kdsR on))).map (mkC 2)
theorem mkC_eta (w : Int) (b : ByteArray) : mkC w b.data.toList = ⟨w, b⟩ := by unfold mkC; simp
theorem rise_map (w : Int) {l : List (List UInt8)} (h : l.Pairwise fun x y => x < y) : Rise ltK (l.map (mkC w)) := by
  unfold Rise
  rw [List.pairwise_map]
  exact h.imp fun {a b} h => (cauLt (mkC w a) (mkC w b)).2 (.inr ⟨rfl, h⟩)
theorem cau_same (on : List Carr) : compact (sortC (cauP on)) = cauR on := by
  refine rise_uniq (sortC_rise _) ?_ fun x => ?_
  · unfold cauR
    refine List.pairwise_append.2 ⟨rise_map 1 (sortS_rise _), rise_map 2 (sortS_rise _), fun x hx y hy => ?_⟩
    obtain ⟨a, _, rfl⟩ := List.mem_map.1 hx
    obtain ⟨b, _, rfl⟩ := List.mem_map.1 hy
    exact (cauLt _ _).2 (.inl (show (1 : Int) < 2 by decide))
  · rw [mem_sortC]
    unfold cauP cauR plsR kdsR
    rw [List.mem_flatMap, List.mem_append, List.mem_map, List.mem_map]
    constructor
    · rintro ⟨c, hc, hx⟩
      simp only [List.mem_cons, List.mem_nil_iff, or_false] at hx
      rcases hx with rfl | rfl
      · exact .inl ⟨_, (mem_sortS _ _).2 (List.mem_map.2 ⟨c, hc, rfl⟩), mkC_eta _ _⟩
      · exact .inr ⟨_, (mem_sortS _ _).2 (List.mem_map.2 ⟨c, hc, rfl⟩), mkC_eta _ _⟩
    · rintro (⟨s, hs, rfl⟩ | ⟨s, hs, rfl⟩)
      · obtain ⟨c, hc, rfl⟩ := List.mem_map.1 ((mem_sortS _ _).1 hs)
        exact ⟨c, hc, by rw [mkC_eta]; simp⟩
      · obtain ⟨c, hc, rfl⟩ := List.mem_map.1 ((mem_sortS _ _).1 hs)
        exact ⟨c, hc, by rw [mkC_eta]; simp⟩
theorem cauP_len (on : List Carr) : (cauP on).length = 2 * on.length := by
  unfold cauP
  induction on with
  | nil => rfl
  | cons x l ih => rw [List.flatMap_cons, List.length_append, ih]; simp; omega


end Go.Proofs.YtieccphckobhjaaGreatDoor


namespace Go.Proofs.YtieccphckobhjaaGreatDoor
open Go.RowKit
set_option linter.unusedVariables false

/-! Types. -/
namespace TyZ1
theorem ag_54 : AggT Tryz.prog 54 2 := .of (by kernel_rfl)
theorem ag_59 : AggT Tryz.prog 59 5 := .of (by kernel_rfl)
theorem et_23 : ElemTy Tryz.prog 23 59 5 64 (.agg #[(.string ⟨#[]⟩), (.string ⟨#[]⟩), (.string ⟨#[]⟩), (.int .i64 0), (.int .i64 0)]) := ⟨by kernel_rfl, by kernel_rfl, by kernel_rfl, by decide⟩
theorem et_49 : ElemTy Tryz.prog 49 54 2 24 (.agg #[(.int .i64 0), (.string ⟨#[]⟩)]) := ⟨by kernel_rfl, by kernel_rfl, by kernel_rfl, by decide⟩
theorem et_63 : ElemTy Tryz.prog 63 3 1 8 (.int .i64 0) := ⟨by kernel_rfl, by kernel_rfl, by kernel_rfl, by decide⟩
theorem fo_54_0 : fieldOff Tryz.prog 54 0 = some 0 := by kernel_rfl
theorem fo_54_1 : fieldOff Tryz.prog 54 1 = some 1 := by kernel_rfl
theorem fo_59_1 : fieldOff Tryz.prog 59 1 = some 1 := by kernel_rfl
theorem fo_59_2 : fieldOff Tryz.prog 59 2 = some 2 := by kernel_rfl
theorem sc_23 : Scal Tryz.prog 23 := .of (by kernel_rfl)
theorem sc_3 : Scal Tryz.prog 3 := .of (by kernel_rfl)
theorem sc_49 : Scal Tryz.prog 49 := .of (by kernel_rfl)
theorem sc_63 : Scal Tryz.prog 63 := .of (by kernel_rfl)
theorem sc_9 : Scal Tryz.prog 9 := .of (by kernel_rfl)
theorem sz_54 : ∀ w, (sizeOf 54).run Tryz.prog w = .ok 2 w := SizeT.of (by kernel_rfl)
theorem zt_54 : (Tryz.prog.info? 54).bind (·.zero) = some (.agg #[(.int .i64 0), (.string ⟨#[]⟩)]) := by kernel_rfl
end TyZ1
open TyZ1


/-- Does a cause concern a carrier? -/
def hitB (c : Cau) (x : Carr) : Bool := (decide (c.what = 1) && decide (c.name = x.place)) || (decide (c.what = 2) && decide (c.name = x.kind))
def cauAt (cs : List Cau) (i : Nat) : Cau := cs.getD i ⟨0, ⟨#[]⟩⟩
theorem cauAt_at {cs : List Cau} {i : Nat} (h : i < cs.length) : cauAt cs i = cs[i] := by unfold cauAt; rw [List.getD_eq_getElem?_getD, List.getElem?_eq_getElem h]; rfl
/-- Is a carrier lost by one of some causes? -/
def lostB (cs : List Cau) (ch : List Nat) (x : Carr) : Bool := ch.any fun i => hitB (cauAt cs i) x
def allLost (cs : List Cau) (on : List Carr) (ch : List Nat) : Bool := on.all (lostB cs ch)
theorem allLost_not (cs : List Cau) (on : List Carr) (ch : List Nat) : (!(on.any fun x => !(lostB cs ch x))) = allLost cs on ch := by
  unfold allLost
  induction on with
  | nil => rfl
  | cons x l ih => simp [← ih]
def idxByN (p : Nat → Bool) (l : List Nat) : Int := idxBy p l


set_option maxRecDepth 100000 in
set_option maxHeartbeats 1000000 in
theorem c_ixN (l : List Nat) (p : Nat → Bool) (f : Nat) (caps : List D) (hp : ∀ i ∈ l, ACall Tryz.prog f (.v (.int .i64 (i : Int)) :: caps) (.v (.bool (p i)))) : ACall Tryz.prog 112 [.sl (l.map numD), .clo (.func f) caps] (.v (.int .i64 (idxBy p l))) := by
  refine acall_of (n := 19) (ds' := [.v (.int .i64 (idxBy p l))]) Tryz.func112 rfl (by kernel_rfl) rfl [4] rfl rfl ?_
  intro B w0 F0 fr
  refine AWP.bound 0 rfl (fun hbd0 => ?_)
  rw [List.length_map] at hbd0
  refine AWP.seq (AWP.region ?_)
  refine AOps.aD rfl rfl rfl rfl rfl (.nil ?_)
  refine AWP.seq ?_
  refine AWP.seq (AWP.region ?_)
  refine AOps.mD rfl rfl rfl rfl rfl ?_
  refine AOps.step rfl rfl rfl (AOp.lenSl rfl et_63.ht rfl) ?_
  refine AOps.mD rfl rfl rfl rfl rfl (.nil ?_)
  refine AWP.block ?_
  refine AWP.loop (G := Nat) (fun k => Env.of [(8, .d (.v (.int .i64 (k : Int)))), (6, .d (.sl (l.map numD))), (7, .d (.v (.int .i64 ((l.map numD).length : Int)))), (0, .d (.sl (l.map numD))), (1, .d (.clo (.func f) caps))]) (fun k => []) (fun k => k ≤ l.length ∧ ∀ c ∈ l.take k, p c = false) (fun k => l.length - k) 0 ⟨Nat.zero_le _, fun c h => by simp at h⟩ (Sub.less ⟨(SLe.of_eq rfl), SLe.refl _, SLe.refl _, SLe.refl _, SLe.refl _, trivial⟩ (fun _ h => h)) ?_
  intro k hk
  refine AWP.seq (AWP.region ?_)
  refine AOps.step rfl rfl rfl (AOp.lss rfl rfl rfl) (.nil ?_)
  refine AWP.seq ?_
  refine AWP.cond rfl (fun h1 => ?_) (fun h1 => ?_)
  · replace h1 := of_decide_eq_true h1
    rw [List.length_map] at h1
    have hlt : k < l.length := by omega
    refine AWP.skip ?_
    refine AWP.seq ?_
    refine AWP.block ?_
    refine AWP.seq (AWP.region ?_)
    refine AOps.mD rfl rfl rfl rfl rfl ?_
    refine AOps.aD rfl rfl rfl rfl rfl (.nil ?_)
    refine AWP.seq (AWP.region ?_)
    refine AOps.mD rfl rfl rfl rfl rfl ?_
    refine AOps.mD rfl rfl rfl rfl rfl ?_
    refine AOps.mD rfl rfl rfl rfl rfl ?_
    refine AOps.step rfl rfl rfl (AOp.indexAddr rfl et_63 rfl rfl k rfl (at_list hlt) rfl) ?_
    refine AOps.step rfl rfl rfl (AOp.load rfl sc_3 rfl) ?_
    refine AOps.step rfl rfl rfl (AOp.callClo rfl rfl (.cons (ArgOk.rfl' rfl) .nil) (hp l[k] (List.getElem_mem hlt))) (.nil ?_)
    refine AWP.cond rfl (fun h2 => ?_) (fun h2 => ?_)
    · skip
      rw [idxBy_yes hlt hk.2 h2]
      refine AWP.seq (AWP.region ?_)
      refine AOps.mD rfl rfl rfl rfl rfl ?_
      refine AOps.aD rfl rfl rfl rfl rfl (.nil ?_)
      refine AWP.ret ?_
      refine ⟨RetD.eq rfl ?_, trivial⟩
      all_goals (rfl)
    have hT := take_false' hlt hk.2 h2
    refine AWP.skip ?_
    refine AWP.region ?_
    refine AOps.step rfl rfl rfl (AOp.add64 rfl rfl rfl (by omega) (by omega)) ?_
    refine AOps.mD rfl rfl rfl rfl rfl (.nil ?_)
    refine ⟨k + 1, ⟨by omega, hT⟩, (by dsimp only; omega), Sub.less ⟨(SLe.of_eq rfl), SLe.refl _, SLe.refl _, SLe.refl _, SLe.refl _, trivial⟩ (fun _ h => h)⟩
  replace h1 := of_decide_eq_false h1
  rw [List.length_map] at h1
  rw [idxBy_no (fun c hc => hk.2 c (by rw [show k = l.length by omega]; exact hc))]
  refine AWP.exit ?_
  refine AWP.seq (AWP.region ?_)
  refine AOps.aD rfl rfl rfl rfl rfl (.nil ?_)
  refine AWP.ret ?_
  refine ⟨RetD.eq rfl ?_, trivial⟩
  all_goals (rfl)

set_option maxRecDepth 100000 in
set_option maxHeartbeats 1000000 in
theorem c_containsN (l : List Nat) (p : Nat → Bool) (f : Nat) (caps : List D) (hp : ∀ i ∈ l, ACall Tryz.prog f (.v (.int .i64 (i : Int)) :: caps) (.v (.bool (p i)))) : ACall Tryz.prog 69 [.sl (l.map numD), .clo (.func f) caps] (.v (.bool (l.any p))) := by
  refine acall_of (n := 9) (ds' := [.v (.bool (l.any p))]) Tryz.func69 rfl (by kernel_rfl) rfl [4] rfl rfl ?_
  intro B w0 F0 fr
  refine AWP.seq (AWP.region ?_)
  refine AOps.aD rfl rfl rfl rfl rfl (.nil ?_)
  refine AWP.seq (AWP.region ?_)
  refine AOps.mD rfl rfl rfl rfl rfl ?_
  refine AOps.mD rfl rfl rfl rfl rfl ?_
  refine AOps.step rfl rfl rfl (AOp.call rfl (.cons (ArgOk.rfl' rfl) (.cons (ArgOk.rfl' rfl) .nil)) (c_ixN l p f caps hp)) ?_
  refine AOps.step rfl rfl rfl (AOp.geq rfl rfl rfl) ?_
  refine AOps.aD rfl rfl rfl rfl rfl (.nil ?_)
  refine AWP.ret ?_
  refine ⟨RetD.eq rfl ?_, trivial⟩
  all_goals (rw [idx_any])

set_option maxRecDepth 100000 in
set_option maxHeartbeats 1000000 in
theorem c_ixCa (l : List Carr) (p : Carr → Bool) (f : Nat) (caps : List D) (hp : ∀ x : Carr, ACall Tryz.prog f (.agg x.ds :: caps) (.v (.bool (p x)))) : ACall Tryz.prog 111 [.sl (l.map Carr.ds), .clo (.func f) caps] (.v (.int .i64 (idxBy p l))) := by
  refine acall_of (n := 19) (ds' := [.v (.int .i64 (idxBy p l))]) Tryz.func111 rfl (by kernel_rfl) rfl [4] rfl rfl ?_
  intro B w0 F0 fr
  refine AWP.bound 0 rfl (fun hbd0 => ?_)
  rw [List.length_map] at hbd0
  refine AWP.seq (AWP.region ?_)
  refine AOps.aD rfl rfl rfl rfl rfl (.nil ?_)
  refine AWP.seq ?_
  refine AWP.seq (AWP.region ?_)
  refine AOps.mD rfl rfl rfl rfl rfl ?_
  refine AOps.step rfl rfl rfl (AOp.lenSl rfl et_23.ht rfl) ?_
  refine AOps.mD rfl rfl rfl rfl rfl (.nil ?_)
  refine AWP.block ?_
  refine AWP.loop (G := Nat) (fun k => Env.of [(8, .d (.v (.int .i64 (k : Int)))), (6, .d (.sl (l.map Carr.ds))), (7, .d (.v (.int .i64 ((l.map Carr.ds).length : Int)))), (0, .d (.sl (l.map Carr.ds))), (1, .d (.clo (.func f) caps))]) (fun k => []) (fun k => k ≤ l.length ∧ ∀ c ∈ l.take k, p c = false) (fun k => l.length - k) 0 ⟨Nat.zero_le _, fun c h => by simp at h⟩ (Sub.less ⟨(SLe.of_eq rfl), SLe.refl _, SLe.refl _, SLe.refl _, SLe.refl _, trivial⟩ (fun _ h => h)) ?_
  intro k hk
  refine AWP.seq (AWP.region ?_)
  refine AOps.step rfl rfl rfl (AOp.lss rfl rfl rfl) (.nil ?_)
  refine AWP.seq ?_
  refine AWP.cond rfl (fun h1 => ?_) (fun h1 => ?_)
  · replace h1 := of_decide_eq_true h1
    rw [List.length_map] at h1
    have hlt : k < l.length := by omega
    refine AWP.skip ?_
    refine AWP.seq ?_
    refine AWP.block ?_
    refine AWP.seq (AWP.region ?_)
    refine AOps.mD rfl rfl rfl rfl rfl ?_
    refine AOps.aD rfl rfl rfl rfl rfl (.nil ?_)
    refine AWP.seq (AWP.region ?_)
    refine AOps.mD rfl rfl rfl rfl rfl ?_
    refine AOps.mD rfl rfl rfl rfl rfl ?_
    refine AOps.mD rfl rfl rfl rfl rfl ?_
    refine AOps.step rfl rfl rfl (AOp.indexAddr rfl et_23 rfl rfl k rfl (at_list hlt) rfl) ?_
    refine AOps.step rfl rfl rfl (AOp.loadAgg rfl ag_59 rfl rfl) ?_
    refine AOps.step rfl rfl rfl (AOp.callClo rfl rfl (.cons (ArgOk.rfl' rfl) .nil) (hp l[k])) (.nil ?_)
    refine AWP.cond rfl (fun h2 => ?_) (fun h2 => ?_)
    · skip
      rw [idxBy_yes hlt hk.2 h2]
      refine AWP.seq (AWP.region ?_)
      refine AOps.mD rfl rfl rfl rfl rfl ?_
      refine AOps.aD rfl rfl rfl rfl rfl (.nil ?_)
      refine AWP.ret ?_
      refine ⟨RetD.eq rfl ?_, trivial⟩
      all_goals (rfl)
    have hT := take_false' hlt hk.2 h2
    refine AWP.skip ?_
    refine AWP.region ?_
    refine AOps.step rfl rfl rfl (AOp.add64 rfl rfl rfl (by omega) (by omega)) ?_
    refine AOps.mD rfl rfl rfl rfl rfl (.nil ?_)
    refine ⟨k + 1, ⟨by omega, hT⟩, (by dsimp only; omega), Sub.less ⟨(SLe.of_eq rfl), SLe.refl _, SLe.refl _, SLe.refl _, SLe.refl _, trivial⟩ (fun _ h => h)⟩
  replace h1 := of_decide_eq_false h1
  rw [List.length_map] at h1
  rw [idxBy_no (fun c hc => hk.2 c (by rw [show k = l.length by omega]; exact hc))]
  refine AWP.exit ?_
  refine AWP.seq (AWP.region ?_)
  refine AOps.aD rfl rfl rfl rfl rfl (.nil ?_)
  refine AWP.ret ?_
  refine ⟨RetD.eq rfl ?_, trivial⟩
  all_goals (rfl)

set_option maxRecDepth 100000 in
set_option maxHeartbeats 1000000 in
theorem c_containsCa (l : List Carr) (p : Carr → Bool) (f : Nat) (caps : List D) (hp : ∀ x : Carr, ACall Tryz.prog f (.agg x.ds :: caps) (.v (.bool (p x)))) : ACall Tryz.prog 67 [.sl (l.map Carr.ds), .clo (.func f) caps] (.v (.bool (l.any p))) := by
  refine acall_of (n := 9) (ds' := [.v (.bool (l.any p))]) Tryz.func67 rfl (by kernel_rfl) rfl [4] rfl rfl ?_
  intro B w0 F0 fr
  refine AWP.seq (AWP.region ?_)
  refine AOps.aD rfl rfl rfl rfl rfl (.nil ?_)
  refine AWP.seq (AWP.region ?_)
  refine AOps.mD rfl rfl rfl rfl rfl ?_
  refine AOps.mD rfl rfl rfl rfl rfl ?_
  refine AOps.step rfl rfl rfl (AOp.call rfl (.cons (ArgOk.rfl' rfl) (.cons (ArgOk.rfl' rfl) .nil)) (c_ixCa l p f caps hp)) ?_
  refine AOps.step rfl rfl rfl (AOp.geq rfl rfl rfl) ?_
  refine AOps.aD rfl rfl rfl rfl rfl (.nil ?_)
  refine AWP.ret ?_
  refine ⟨RetD.eq rfl ?_, trivial⟩
  all_goals (rw [idx_any])

set_option maxRecDepth 100000 in
set_option maxHeartbeats 1000000 in
theorem c_wk1 (cs : List Cau) (x : Carr) (i : Nat) (hi : i < cs.length) : ACall Tryz.prog 70 [.v (.int .i64 (i : Int)), .fp [.sl (cs.map Cau.ds)], .fp x.ds] (.v (.bool (hitB (cauAt cs i) x))) := by
  refine acall_of (n := 32) (ds' := [.v (.bool (hitB (cauAt cs i) x))]) Tryz.func70 rfl (by kernel_rfl) rfl [4] rfl rfl ?_
  intro B w0 F0 fr
  rw [cauAt_at hi]
  refine AWP.seq (AWP.region ?_)
  refine AOps.aD rfl rfl rfl rfl rfl (.nil ?_)
  refine AWP.seq (AWP.region ?_)
  refine AOps.step rfl rfl rfl (AOp.load rfl sc_49 rfl) ?_
  refine AOps.mD rfl rfl rfl rfl rfl ?_
  refine AOps.step rfl rfl rfl (AOp.indexAddr rfl et_49 rfl rfl i rfl (at_list hi) rfl) ?_
  refine AOps.step rfl rfl rfl (AOp.loadAgg rfl ag_54 rfl rfl) ?_
  refine AOps.alloc 101 rfl rfl rfl rfl zt_54 rfl rfl rfl ?_
  refine AOps.store rfl rfl rfl sz_54 rfl (.head _) rfl rfl rfl (Nat.le_of_ble_eq_true rfl) ?_
  refine AOps.freezeCells 5 (ds := cs[i].ds) rfl (.head _) (.nil ?_)
  refine AWP.seq (AWP.region ?_)
  refine AOps.step rfl rfl rfl (AOp.fieldAddr rfl fo_54_0 rfl) ?_
  refine AOps.step rfl rfl rfl (AOp.load rfl sc_3 rfl) ?_
  refine AOps.step rfl rfl rfl (AOp.eql rfl rfl rfl) ?_
  refine AOps.mD rfl rfl rfl rfl rfl ?_
  refine AOps.split 13 rfl (fun g1 => ?_) (fun g1 => ?_)
  · replace g1 := of_decide_eq_true g1
    refine AOps.step ⟨13, rfl, .inl ⟨_, rfl, rfl⟩⟩ rfl rfl (AOp.fieldAddr rfl fo_54_1 rfl) ?_
    refine AOps.step ⟨13, rfl, .inl ⟨_, rfl, rfl⟩⟩ rfl rfl (AOp.load rfl sc_9 rfl) ?_
    refine AOps.step ⟨13, rfl, .inl ⟨_, rfl, rfl⟩⟩ rfl rfl (AOp.fieldAddr rfl fo_59_1 rfl) ?_
    refine AOps.step ⟨13, rfl, .inl ⟨_, rfl, rfl⟩⟩ rfl rfl (AOp.load rfl sc_9 rfl) ?_
    refine AOps.step ⟨13, rfl, .inl ⟨_, rfl, rfl⟩⟩ rfl rfl (AOp.seql rfl rfl rfl) ?_
    refine AOps.step rfl rfl rfl (AOp.pickT rfl rfl rfl) ?_
    refine AOps.mD rfl rfl rfl rfl rfl ?_
    refine AOps.split 20 rfl (fun g2 => ?_) (fun g2 => ?_)
    · replace g2 := of_decide_eq_true g2
      refine AOps.pass ⟨20, rfl, .inl ⟨_, rfl, rfl⟩⟩ rfl rfl ?_
      refine AOps.pass ⟨20, rfl, .inl ⟨_, rfl, rfl⟩⟩ rfl rfl ?_
      refine AOps.pass ⟨20, rfl, .inl ⟨_, rfl, rfl⟩⟩ rfl rfl ?_
      refine AOps.pass ⟨20, rfl, .inl ⟨_, rfl, rfl⟩⟩ rfl rfl ?_
      refine AOps.pass ⟨24, rfl, .inr ⟨rfl, rfl⟩⟩ rfl rfl ?_
      refine AOps.pass ⟨24, rfl, .inr ⟨rfl, rfl⟩⟩ rfl rfl ?_
      refine AOps.pass ⟨24, rfl, .inr ⟨rfl, rfl⟩⟩ rfl rfl ?_
      refine AOps.pass ⟨24, rfl, .inr ⟨rfl, rfl⟩⟩ rfl rfl ?_
      refine AOps.pass ⟨24, rfl, .inr ⟨rfl, rfl⟩⟩ rfl rfl ?_
      refine AOps.pass ⟨20, rfl, .inl ⟨_, rfl, rfl⟩⟩ rfl rfl ?_
      refine AOps.step rfl rfl rfl (AOp.pickT rfl rfl rfl) ?_
      refine AOps.aD rfl rfl rfl rfl rfl (.nil ?_)
      refine AWP.ret ?_
      refine ⟨RetD.eq rfl ?_, trivial⟩
      all_goals (first | rfl | (unfold hitB; simp_all))
    replace g2 := of_decide_eq_false g2
    refine AOps.step ⟨20, rfl, .inl ⟨_, rfl, rfl⟩⟩ rfl rfl (AOp.fieldAddr rfl fo_54_0 rfl) ?_
    refine AOps.step ⟨20, rfl, .inl ⟨_, rfl, rfl⟩⟩ rfl rfl (AOp.load rfl sc_3 rfl) ?_
    refine AOps.step ⟨20, rfl, .inl ⟨_, rfl, rfl⟩⟩ rfl rfl (AOp.eql rfl rfl rfl) ?_
    refine AOps.step ⟨20, rfl, .inl ⟨_, rfl, rfl⟩⟩ rfl rfl (AOp.moveD rfl rfl) ?_
    refine AOps.split 24 rfl (fun g3 => ?_) (fun g3 => ?_)
    · replace g3 := of_decide_eq_true g3
      refine AOps.step ⟨24, rfl, .inl ⟨_, rfl, rfl⟩⟩ rfl rfl (AOp.fieldAddr rfl fo_54_1 rfl) ?_
      refine AOps.step ⟨24, rfl, .inl ⟨_, rfl, rfl⟩⟩ rfl rfl (AOp.load rfl sc_9 rfl) ?_
      refine AOps.step ⟨24, rfl, .inl ⟨_, rfl, rfl⟩⟩ rfl rfl (AOp.fieldAddr rfl fo_59_2 rfl) ?_
      refine AOps.step ⟨24, rfl, .inl ⟨_, rfl, rfl⟩⟩ rfl rfl (AOp.load rfl sc_9 rfl) ?_
      refine AOps.step ⟨24, rfl, .inl ⟨_, rfl, rfl⟩⟩ rfl rfl (AOp.seql rfl rfl rfl) ?_
      refine AOps.step ⟨20, rfl, .inl ⟨_, rfl, rfl⟩⟩ rfl rfl (AOp.pickT rfl rfl rfl) ?_
      refine AOps.step rfl rfl rfl (AOp.pickF rfl rfl rfl) ?_
      refine AOps.aD rfl rfl rfl rfl rfl (.nil ?_)
      refine AWP.ret ?_
      refine ⟨RetD.eq rfl ?_, trivial⟩
      all_goals (first | rfl | (unfold hitB; simp_all))
    replace g3 := of_decide_eq_false g3
    refine AOps.pass ⟨24, rfl, .inl ⟨_, rfl, rfl⟩⟩ rfl rfl ?_
    refine AOps.pass ⟨24, rfl, .inl ⟨_, rfl, rfl⟩⟩ rfl rfl ?_
    refine AOps.pass ⟨24, rfl, .inl ⟨_, rfl, rfl⟩⟩ rfl rfl ?_
    refine AOps.pass ⟨24, rfl, .inl ⟨_, rfl, rfl⟩⟩ rfl rfl ?_
    refine AOps.pass ⟨24, rfl, .inl ⟨_, rfl, rfl⟩⟩ rfl rfl ?_
    refine AOps.step ⟨20, rfl, .inl ⟨_, rfl, rfl⟩⟩ rfl rfl (AOp.pickF rfl rfl rfl) ?_
    refine AOps.step rfl rfl rfl (AOp.pickF rfl rfl rfl) ?_
    refine AOps.aD rfl rfl rfl rfl rfl (.nil ?_)
    refine AWP.ret ?_
    refine ⟨RetD.eq rfl ?_, trivial⟩
    all_goals (first | rfl | (unfold hitB; simp_all))
  replace g1 := of_decide_eq_false g1
  refine AOps.pass ⟨13, rfl, .inl ⟨_, rfl, rfl⟩⟩ rfl rfl ?_
  refine AOps.pass ⟨13, rfl, .inl ⟨_, rfl, rfl⟩⟩ rfl rfl ?_
  refine AOps.pass ⟨13, rfl, .inl ⟨_, rfl, rfl⟩⟩ rfl rfl ?_
  refine AOps.pass ⟨13, rfl, .inl ⟨_, rfl, rfl⟩⟩ rfl rfl ?_
  refine AOps.pass ⟨13, rfl, .inl ⟨_, rfl, rfl⟩⟩ rfl rfl ?_
  refine AOps.step rfl rfl rfl (AOp.pickF rfl rfl rfl) ?_
  refine AOps.mD rfl rfl rfl rfl rfl ?_
  refine AOps.step ⟨20, rfl, .inl ⟨_, rfl, rfl⟩⟩ rfl rfl (AOp.fieldAddr rfl fo_54_0 rfl) ?_
  refine AOps.step ⟨20, rfl, .inl ⟨_, rfl, rfl⟩⟩ rfl rfl (AOp.load rfl sc_3 rfl) ?_
  refine AOps.step ⟨20, rfl, .inl ⟨_, rfl, rfl⟩⟩ rfl rfl (AOp.eql rfl rfl rfl) ?_
  refine AOps.step ⟨20, rfl, .inl ⟨_, rfl, rfl⟩⟩ rfl rfl (AOp.moveD rfl rfl) ?_
  refine AOps.split 24 rfl (fun g4 => ?_) (fun g4 => ?_)
  · replace g4 := of_decide_eq_true g4
    refine AOps.step ⟨24, rfl, .inl ⟨_, rfl, rfl⟩⟩ rfl rfl (AOp.fieldAddr rfl fo_54_1 rfl) ?_
    refine AOps.step ⟨24, rfl, .inl ⟨_, rfl, rfl⟩⟩ rfl rfl (AOp.load rfl sc_9 rfl) ?_
    refine AOps.step ⟨24, rfl, .inl ⟨_, rfl, rfl⟩⟩ rfl rfl (AOp.fieldAddr rfl fo_59_2 rfl) ?_
    refine AOps.step ⟨24, rfl, .inl ⟨_, rfl, rfl⟩⟩ rfl rfl (AOp.load rfl sc_9 rfl) ?_
    refine AOps.step ⟨24, rfl, .inl ⟨_, rfl, rfl⟩⟩ rfl rfl (AOp.seql rfl rfl rfl) ?_
    refine AOps.step ⟨20, rfl, .inl ⟨_, rfl, rfl⟩⟩ rfl rfl (AOp.pickT rfl rfl rfl) ?_
    refine AOps.step rfl rfl rfl (AOp.pickF rfl rfl rfl) ?_
    refine AOps.aD rfl rfl rfl rfl rfl (.nil ?_)
    refine AWP.ret ?_
    refine ⟨RetD.eq rfl ?_, trivial⟩
    all_goals (first | rfl | (unfold hitB; simp_all))
  replace g4 := of_decide_eq_false g4
  refine AOps.pass ⟨24, rfl, .inl ⟨_, rfl, rfl⟩⟩ rfl rfl ?_
  refine AOps.pass ⟨24, rfl, .inl ⟨_, rfl, rfl⟩⟩ rfl rfl ?_
  refine AOps.pass ⟨24, rfl, .inl ⟨_, rfl, rfl⟩⟩ rfl rfl ?_
  refine AOps.pass ⟨24, rfl, .inl ⟨_, rfl, rfl⟩⟩ rfl rfl ?_
  refine AOps.pass ⟨24, rfl, .inl ⟨_, rfl, rfl⟩⟩ rfl rfl ?_
  refine AOps.step ⟨20, rfl, .inl ⟨_, rfl, rfl⟩⟩ rfl rfl (AOp.pickF rfl rfl rfl) ?_
  refine AOps.step rfl rfl rfl (AOp.pickF rfl rfl rfl) ?_
  refine AOps.aD rfl rfl rfl rfl rfl (.nil ?_)
  refine AWP.ret ?_
  refine ⟨RetD.eq rfl ?_, trivial⟩
  all_goals (first | rfl | (unfold hitB; simp_all))

set_option maxRecDepth 100000 in
set_option maxHeartbeats 1000000 in
theorem c_wk2 (cs : List Cau) (ch : List Nat) (x : Carr) (hc : ∀ i ∈ ch, i < cs.length) : ACall Tryz.prog 68 [.agg x.ds, .fp [.sl (ch.map numD)], .fp [.sl (cs.map Cau.ds)]] (.v (.bool (!(lostB cs ch x)))) := by
  refine acall_of (n := 9) (ds' := [.v (.bool (!(lostB cs ch x)))]) Tryz.func68 rfl (by kernel_rfl) rfl [4] rfl rfl ?_
  intro B w0 F0 fr
  refine AWP.seq (AWP.region ?_)
  refine AOps.step rfl rfl rfl (AOp.box rfl rfl rfl) ?_
  refine AOps.aD rfl rfl rfl rfl rfl (.nil ?_)
  refine AWP.seq (AWP.region ?_)
  refine AOps.step rfl rfl rfl (AOp.load rfl sc_63 rfl) ?_
  refine AOps.step rfl rfl rfl (AOp.makeFunc rfl (.cons (ArgOk.rfl' rfl) (.cons (ArgOk.rfl' rfl) .nil))) ?_
  refine AOps.step rfl rfl rfl (AOp.call rfl (.cons (ArgOk.rfl' rfl) (.cons (ArgOk.rfl' rfl) .nil)) (c_containsN ch (fun i => hitB (cauAt cs i) x) 70 [.fp [.sl (cs.map Cau.ds)], .fp x.ds] (fun i hi => c_wk1 cs x i (hc i hi)))) ?_
  refine AOps.step rfl rfl rfl (AOp.not rfl rfl) ?_
  refine AOps.aD rfl rfl rfl rfl rfl (.nil ?_)
  refine AWP.ret ?_
  refine ⟨RetD.eq rfl ?_, trivial⟩
  all_goals (rfl)

set_option maxRecDepth 100000 in
set_option maxHeartbeats 1000000 in
theorem c_wk3 (cs : List Cau) (on : List Carr) (ch : List Nat) (hc : ∀ i ∈ ch, i < cs.length) : ACall Tryz.prog 66 [.sl (ch.map numD), .fp [.sl (on.map Carr.ds)], .fp [.sl (cs.map Cau.ds)]] (.v (.bool (allLost cs on ch))) := by
  refine acall_of (n := 9) (ds' := [.v (.bool (allLost cs on ch))]) Tryz.func66 rfl (by kernel_rfl) rfl [4] rfl rfl ?_
  intro B w0 F0 fr
  refine AWP.seq (AWP.region ?_)
  refine AOps.step rfl rfl rfl (AOp.box rfl rfl rfl) ?_
  refine AOps.aD rfl rfl rfl rfl rfl (.nil ?_)
  refine AWP.seq (AWP.region ?_)
  refine AOps.step rfl rfl rfl (AOp.load rfl sc_23 rfl) ?_
  refine AOps.step rfl rfl rfl (AOp.makeFunc rfl (.cons (ArgOk.rfl' rfl) (.cons (ArgOk.rfl' rfl) .nil))) ?_
  refine AOps.step rfl rfl rfl (AOp.call rfl (.cons (ArgOk.rfl' rfl) (.cons (ArgOk.rfl' rfl) .nil)) (c_containsCa on (fun x => !(lostB cs ch x)) 68 [.fp [.sl (ch.map numD)], .fp [.sl (cs.map Cau.ds)]] (fun x => c_wk2 cs ch x hc))) ?_
  refine AOps.step rfl rfl rfl (AOp.not rfl rfl) ?_
  refine AOps.aD rfl rfl rfl rfl rfl (.nil ?_)
  refine AWP.ret ?_
  refine ⟨RetD.eq rfl ?_, trivial⟩
  all_goals (rw [← allLost_not])

end Go.Proofs.YtieccphckobhjaaGreatDoor


namespace Go.Proofs
open Go.Shelf
def Tryz.sortF_ren : Go.Shelf.Ren := ⟨fun | 6 => 60 | 15 => 108 | 14 => 107 | 28 => 136 | 29 => 137 | 20 => 128 | 21 => 129 | 22 => 130 | 23 => 131 | 24 => 132 | 25 => 133 | 26 => 134 | 27 => 135 | 46 => 158 | 47 => 159 | 48 => 160 | 49 => 161 | 50 => 162 | 57 => 182 | n => n, fun | 22 => 49 | 24 => 54 | 25 => 117 | 3 => 3 | 39 => 156 | 0 => 0 | 53 => 91 | 55 => 180 | 4 => 4 | 46 => 173 | 45 => 172 | 50 => 73 | 5 => 5 | 9 => 9 | 66 => 195 | 70 => 199 | 76 => 215 | 77 => 216 | n => n, fun | n => n⟩
theorem Tryz.sortF : Go.Proofs.SlLaysF0.n6 Tryz.prog Tryz.sortF_ren := {
  mixed := by kernel_rfl
  f6 := ⟨Tryz.f60.name, by decide, Tryz.func60.trans (congrArg some (by kernel_rfl))⟩
  f14 := ⟨Tryz.f107.name, by decide, Tryz.func107.trans (congrArg some (by kernel_rfl))⟩
  f15 := Tryz.func108.trans (congrArg some (by kernel_rfl))
  f20 := ⟨Tryz.f128.name, by decide, Tryz.func128.trans (congrArg some (by kernel_rfl))⟩
  f21 := ⟨Tryz.f129.name, by decide, Tryz.func129.trans (congrArg some (by kernel_rfl))⟩
  f22 := ⟨Tryz.f130.name, by decide, Tryz.func130.trans (congrArg some (by kernel_rfl))⟩
  f23 := ⟨Tryz.f131.name, by decide, Tryz.func131.trans (congrArg some (by kernel_rfl))⟩
  f24 := ⟨Tryz.f132.name, by decide, Tryz.func132.trans (congrArg some (by kernel_rfl))⟩
  f25 := ⟨Tryz.f133.name, by decide, Tryz.func133.trans (congrArg some (by kernel_rfl))⟩
  f26 := ⟨Tryz.f134.name, by decide, Tryz.func134.trans (congrArg some (by kernel_rfl))⟩
  f27 := ⟨Tryz.f135.name, by decide, Tryz.func135.trans (congrArg some (by kernel_rfl))⟩
  f28 := Tryz.func136.trans (congrArg some (by kernel_rfl))
  f29 := Tryz.func137.trans (congrArg some (by kernel_rfl))
  f46 := ⟨Tryz.f158.name, by decide, Tryz.func158.trans (congrArg some (by kernel_rfl))⟩
  f47 := Tryz.func159.trans (congrArg some (by kernel_rfl))
  f48 := Tryz.func160.trans (congrArg some (by kernel_rfl))
  f49 := ⟨Tryz.f161.name, by decide, Tryz.func161.trans (congrArg some (by kernel_rfl))⟩
  f50 := ⟨Tryz.f162.name, by decide, Tryz.func162.trans (congrArg some (by kernel_rfl))⟩
  f57 := ⟨Tryz.f182.name, by decide, Tryz.func182.trans (congrArg some (by kernel_rfl))⟩
  t0 := Tryz.underlying0
  a0 := Tryz.isAgg0
  z0 := Tryz.sizeOf0
  v0 := Tryz.zeroValue0
  t3 := Tryz.underlying3
  a3 := Tryz.isAgg3
  z3 := Tryz.sizeOf3
  v3 := Tryz.zeroValue3
  t4 := Tryz.underlying4
  a4 := Tryz.isAgg4
  z4 := Tryz.sizeOf4
  v4 := Tryz.zeroValue4
  t5 := Tryz.underlying5
  a5 := Tryz.isAgg5
  z5 := Tryz.sizeOf5
  v5 := Tryz.zeroValue5
  t9 := Tryz.underlying9
  a9 := Tryz.isAgg9
  z9 := Tryz.sizeOf9
  v9 := Tryz.zeroValue9
  t22 := Tryz.underlying49
  a22 := Tryz.isAgg49
  z22 := Tryz.sizeOf49
  v22 := Tryz.zeroValue49
  t25 := Tryz.underlying117
  a25 := Tryz.isAgg117
  z25 := Tryz.sizeOf117
  v25 := Tryz.zeroValue117
  t39 := Tryz.underlying156
  a39 := Tryz.isAgg156
  z39 := Tryz.sizeOf156
  v39 := Tryz.zeroValue156
  t45 := Tryz.underlying172
  a45 := Tryz.isAgg172
  z45 := Tryz.sizeOf172
  v45 := Tryz.zeroValue172
  t46 := Tryz.underlying173
  a46 := Tryz.isAgg173
  z46 := Tryz.sizeOf173
  v46 := Tryz.zeroValue173
  t50 := Tryz.underlying73
  a50 := Tryz.isAgg73
  z50 := Tryz.sizeOf73
  v50 := Tryz.zeroValue73
  t53 := Tryz.underlying91
  a53 := Tryz.isAgg91
  z53 := Tryz.sizeOf91
  v53 := Tryz.zeroValue91
  t55 := Tryz.underlying180
  a55 := Tryz.isAgg180
  z55 := Tryz.sizeOf180
  v55 := Tryz.zeroValue180
  t66 := Tryz.underlying195
  a66 := Tryz.isAgg195
  z66 := Tryz.sizeOf195
  v66 := Tryz.zeroValue195
  t70 := Tryz.underlying199
  a70 := Tryz.isAgg199
  z70 := Tryz.sizeOf199
  v70 := Tryz.zeroValue199
  t76 := Tryz.underlying215
  a76 := Tryz.isAgg215
  z76 := Tryz.sizeOf215
  v76 := Tryz.zeroValue215
  t77 := Tryz.underlying216
  a77 := Tryz.isAgg216
  z77 := Tryz.sizeOf216
  v77 := Tryz.zeroValue216 }
def Tryz.cmpI_ren : Go.Shelf.Ren := ⟨fun | 5 => 63 | 7 => 109 | n => n, fun | 22 => 3 | 3 => 3 | 4 => 4 | n => n, fun | n => n⟩
theorem Tryz.cmpI : Go.Proofs.SlLaysC2.n5 Tryz.prog Tryz.cmpI_ren := {
  mixed := by kernel_rfl
  f5 := ⟨Tryz.f63.name, by decide, Tryz.func63.trans (congrArg some (by kernel_rfl))⟩
  f7 := ⟨Tryz.f109.name, by decide, Tryz.func109.trans (congrArg some (by kernel_rfl))⟩
  t3 := Tryz.underlying3
  a3 := Tryz.isAgg3
  z3 := Tryz.sizeOf3
  v3 := Tryz.zeroValue3
  t4 := Tryz.underlying4
  a4 := Tryz.isAgg4
  z4 := Tryz.sizeOf4
  v4 := Tryz.zeroValue4
  t22 := Tryz.underlying3
  a22 := Tryz.isAgg3
  z22 := Tryz.sizeOf3
  v22 := Tryz.zeroValue3 }
def Tryz.l190_ren : Go.Shelf.Ren := ⟨fun | 190 => 113 | 125 => 108 | 258 => 139 | 128 => 136 | 129 => 137 | 302 => 163 | 303 => 164 | 304 => 165 | 305 => 166 | 306 => 167 | 307 => 168 | 308 => 169 | 309 => 170 | 310 => 171 | 333 => 183 | 329 => 159 | 330 => 160 | 334 => 184 | 335 => 185 | 336 => 186 | 344 => 191 | n => n, fun | 31 => 159 | 9 => 9 | 3 => 3 | 46 => 156 | 0 => 0 | 51 => 91 | 53 => 180 | 4 => 4 | 183 => 173 | 182 => 172 | 131 => 73 | 5 => 5 | 218 => 195 | 222 => 199 | 228 => 215 | 229 => 216 | n => n, fun | n => n⟩
theorem Tryz.l190 : Go.Proofs.Lays.n190 Tryz.prog Tryz.l190_ren := {
  mixed := by kernel_rfl
  f125 := Tryz.func108.trans (congrArg some (by kernel_rfl))
  f128 := Tryz.func136.trans (congrArg some (by kernel_rfl))
  f129 := Tryz.func137.trans (congrArg some (by kernel_rfl))
  f190 := Tryz.func113.trans (congrArg some (by kernel_rfl))
  f258 := Tryz.func139.trans (congrArg some (by kernel_rfl))
  f302 := Tryz.func163.trans (congrArg some (by kernel_rfl))
  f303 := Tryz.func164.trans (congrArg some (by kernel_rfl))
  f304 := Tryz.func165.trans (congrArg some (by kernel_rfl))
  f305 := Tryz.func166.trans (congrArg some (by kernel_rfl))
  f306 := Tryz.func167.trans (congrArg some (by kernel_rfl))
  f307 := Tryz.func168.trans (congrArg some (by kernel_rfl))
  f308 := Tryz.func169.trans (congrArg some (by kernel_rfl))
  f309 := Tryz.func170.trans (congrArg some (by kernel_rfl))
  f310 := Tryz.func171.trans (congrArg some (by kernel_rfl))
  f329 := Tryz.func159.trans (congrArg some (by kernel_rfl))
  f330 := Tryz.func160.trans (congrArg some (by kernel_rfl))
  f333 := Tryz.func183.trans (congrArg some (by kernel_rfl))
  f334 := Tryz.func184.trans (congrArg some (by kernel_rfl))
  f335 := Tryz.func185.trans (congrArg some (by kernel_rfl))
  f336 := Tryz.func186.trans (congrArg some (by kernel_rfl))
  f344 := Tryz.func191.trans (congrArg some (by kernel_rfl))
  t0 := Tryz.underlying0
  a0 := Tryz.isAgg0
  z0 := Tryz.sizeOf0
  v0 := Tryz.zeroValue0
  t3 := Tryz.underlying3
  a3 := Tryz.isAgg3
  z3 := Tryz.sizeOf3
  v3 := Tryz.zeroValue3
  t4 := Tryz.underlying4
  a4 := Tryz.isAgg4
  z4 := Tryz.sizeOf4
  v4 := Tryz.zeroValue4
  t5 := Tryz.underlying5
  a5 := Tryz.isAgg5
  z5 := Tryz.sizeOf5
  v5 := Tryz.zeroValue5
  t9 := Tryz.underlying9
  a9 := Tryz.isAgg9
  z9 := Tryz.sizeOf9
  v9 := Tryz.zeroValue9
  t31 := Tryz.underlying159
  a31 := Tryz.isAgg159
  z31 := Tryz.sizeOf159
  v31 := Tryz.zeroValue159
  t46 := Tryz.underlying156
  a46 := Tryz.isAgg156
  z46 := Tryz.sizeOf156
  v46 := Tryz.zeroValue156
  t51 := Tryz.underlying91
  a51 := Tryz.isAgg91
  z51 := Tryz.sizeOf91
  v51 := Tryz.zeroValue91
  t53 := Tryz.underlying180
  a53 := Tryz.isAgg180
  z53 := Tryz.sizeOf180
  v53 := Tryz.zeroValue180
  t131 := Tryz.underlying73
  a131 := Tryz.isAgg73
  z131 := Tryz.sizeOf73
  v131 := Tryz.zeroValue73
  t182 := Tryz.underlying172
  a182 := Tryz.isAgg172
  z182 := Tryz.sizeOf172
  v182 := Tryz.zeroValue172
  t183 := Tryz.underlying173
  a183 := Tryz.isAgg173
  z183 := Tryz.sizeOf173
  v183 := Tryz.zeroValue173
  t218 := Tryz.underlying195
  a218 := Tryz.isAgg195
  z218 := Tryz.sizeOf195
  v218 := Tryz.zeroValue195
  t222 := Tryz.underlying199
  a222 := Tryz.isAgg199
  z222 := Tryz.sizeOf199
  v222 := Tryz.zeroValue199
  t228 := Tryz.underlying215
  a228 := Tryz.isAgg215
  z228 := Tryz.sizeOf215
  v228 := Tryz.zeroValue215
  t229 := Tryz.underlying216
  a229 := Tryz.isAgg216
  z229 := Tryz.sizeOf216
  v229 := Tryz.zeroValue216 }
def Tryz.l194_ren : Go.Shelf.Ren := ⟨fun | 194 => 114 | n => n, fun | 31 => 159 | 9 => 9 | 3 => 3 | 4 => 4 | 0 => 0 | n => n, fun | n => n⟩
theorem Tryz.l194 : Go.Proofs.Lays.n194 Tryz.prog Tryz.l194_ren := {
  mixed := by kernel_rfl
  f194 := Tryz.func114.trans (congrArg some (by kernel_rfl))
  t0 := Tryz.underlying0
  a0 := Tryz.isAgg0
  z0 := Tryz.sizeOf0
  v0 := Tryz.zeroValue0
  t3 := Tryz.underlying3
  a3 := Tryz.isAgg3
  z3 := Tryz.sizeOf3
  v3 := Tryz.zeroValue3
  t4 := Tryz.underlying4
  a4 := Tryz.isAgg4
  z4 := Tryz.sizeOf4
  v4 := Tryz.zeroValue4
  t9 := Tryz.underlying9
  a9 := Tryz.isAgg9
  z9 := Tryz.sizeOf9
  v9 := Tryz.zeroValue9
  t31 := Tryz.underlying159
  a31 := Tryz.isAgg159
  z31 := Tryz.sizeOf159
  v31 := Tryz.zeroValue159 }
end Go.Proofs


namespace Go.Proofs.YtieccphckobhjaaGreatDoor
open Go.RowKit Go.Shelf Go.Lib Go.Sort
set_option linter.unusedVariables false
set_option linter.unusedSimpArgs false

theorem cell_top {W : World} {b i e : Nat} {cs : Array Value} {v : Value} (hb : b = W.heap.size) (hv : cs[i]? = some v) : (W.alloc (.cells cs e)).cell? ⟨b, i, none⟩ = some v := by
  subst hb
  have h : (W.alloc (.cells cs e)).heap[W.heap.size]? = some (.cells cs e (0, 0)) := heap_alloc_new W _
  rw [cell_of_row _ _ i cs e (0, 0) h, hv]
set_option maxHeartbeats 4000000 in
set_option maxRecDepth 1000000 in
/-- Weakest's first closure, in whatever world. -/
theorem cmpCau (x y : Cau) (W : World) : Calls Tryz.prog 61 #[.agg #[.int .i64 x.what, .string x.name], .agg #[.int .i64 y.what, .string y.name]] W fun e w' => e = .returned (.int .i64 (cmpC x y)) ∧ ∃ q os', w' = grow (W.drewN q) os' := by
  obtain ⟨xw, xn⟩ := x
  obtain ⟨yw, yn⟩ := y
  have hcon := fun W' => AnyG.cmp_Compare_int Tryz.cmpI xw yw W'
  change ∀ W', Calls Tryz.prog 63 #[.int .i64 xw, .int .i64 yw] W' _ at hcon
  have hstr := fun W' => Any.strings_Compare Tryz.l106 xn yn W'
  change ∀ W', Calls Tryz.prog 64 #[.string xn, .string yn] W' _ at hstr
  have hor := or2 (compareInt xw yw) (compareBytes xn.data.toList yn.data.toList)
  have hc : cmpC ⟨xw, xn⟩ ⟨yw, yn⟩ = if compareInt xw yw = 0 then compareBytes xn.data.toList yn.data.toList else compareInt xw yw := rfl
  rw [hc]
  clear hc
  generalize compareInt xw yw = r at *
  generalize compareBytes xn.data.toList yn.data.toList = s at *
  have hor2 : ∀ (X : World) (b e : Nat), b = X.heap.size → Calls Tryz.prog 62 #[.slice (some ⟨b, 0, none⟩) 2 2] (X.alloc (.cells #[.int .i64 r, .int .i64 s] e)) fun e' w' => e' = .returned (.int .i64 (if r = 0 then s else r)) ∧ w' = X.alloc (.cells #[.int .i64 r, .int .i64 s] e) :=
    fun X b e hb => hor b _ (cell_top hb rfl) (cell_top hb rfl)
  clear hor
  generalize (if r = 0 then s else r) = t at hor2 ⊢
  go_enter Tryz.func61, Tryz.ntmps61
  go_wp2
  generalize hW2 : (W.alloc (Obj.cells #[Value.int IntKind.i64 xw, Value.string xn] 54)).alloc (Obj.cells #[Value.int IntKind.i64 yw, Value.string yn] 54) = W2
  have c1 : W2.cell? ⟨W.heap.size, 0, none⟩ = some (.int .i64 xw) := by rw [← hW2]; simp [go_sem]
  have c2 : W2.cell? ⟨W.heap.size, 1, none⟩ = some (.string xn) := by rw [← hW2]; simp [go_sem]
  have c3 : W2.cell? ⟨W.heap.size + 1, 0, none⟩ = some (.int .i64 yw) := by rw [← hW2]; simp [go_sem]
  have c4 : W2.cell? ⟨W.heap.size + 1, 1, none⟩ = some (.string yn) := by rw [← hW2]; simp [go_sem]
  have hG : ∃ os, W2 = grow W os := ⟨_, by rw [← hW2, alloc_eq_grow, alloc_eq_grow, grow_grow]⟩
  clear hW2
  refine wp_region_still_tail 10 (by kernel_rfl) (by kernel_rfl) ?_
  simp only [List.take_succ_cons, List.take_zero, List.drop_succ_cons, List.drop_zero]
  have e3 : ({ W2 with drawn := W2.drawn + 1 } : World) = W2.drew := rfl
  simp only [e3]
  have c1' : W2.drew.cell? ⟨W.heap.size, 0, none⟩ = some (.int .i64 xw) := c1
  have c2' : W2.drew.cell? ⟨W.heap.size, 1, none⟩ = some (.string xn) := c2
  have c3' : W2.drew.cell? ⟨W.heap.size + 1, 0, none⟩ = some (.int .i64 yw) := c3
  have c4' : W2.drew.cell? ⟨W.heap.size + 1, 1, none⟩ = some (.string yn) := c4
  have hG' : ∃ q os, W2.drew = grow (W.drewN q) os := by obtain ⟨os, rfl⟩ := hG; exact ⟨1, os, rfl⟩
  clear c1 c2 c3 c4 hG e3
  generalize W2.drew = W3 at *
  still_step
  still_step
  still_step
  still_step
  still_call (hcon _)
  iterate 4 still_step
  still_call (hstr _)
  refine wpStill_nil ?_
  clear hcon hstr c1' c2' c3' c4'
  go_wp2_with (go_at_call 62; refine (hor2 _ _ _ (by simp)).mono ?_; rintro e w' ⟨rfl, rfl⟩)
  go_ret
  obtain ⟨q, os, rfl⟩ := hG'
  exact ⟨rfl, q, _, by rw [alloc_eq_grow, grow_grow]⟩
theorem hagC (w : World) : (isAgg 54).run Tryz.prog w = .ok true w := (AggT.of (by kernel_rfl) : AggT Tryz.prog 54 2).agg w
theorem cmpLaysC (blk size : Nat) (w : World) : CmpLays Tryz.prog 61 #[] encC 2 cmpC blk 0 size w :=
  fun _ _ _ _ x y => cmpCau x y _
theorem repSL_fn {F : Nat → Prop} {ρ : Nat → Value} {w : World} {vs : List Value} {id : Nat} {f : Fn} (h : RepSL F ρ w vs [.own id, .d (.clo f [])]) : vs = [ρ id, .func f #[] #[]] := by
  obtain ⟨v, u, rfl⟩ : ∃ v u, vs = [v, u] := by
    match vs, h.1 with
    | [v, u], _ => exact ⟨v, u, rfl⟩
  have h1 := h.2 0 (by simp) (by simp)
  have h2 := h.2 1 (by simp) (by simp)
  simp only [List.getElem_cons_zero, List.getElem_cons_succ] at h1 h2
  cases h1
  have h3 := repS_d h2
  cases h3 with
  | clo _ cs _ hl _ =>
    have : cs = [] := List.eq_nil_of_length_eq_zero hl
    subst this
    rfl
theorem c_sortC (xs : List Cau) (hn : xs.length < 4611686018427387904) (e : Nat) : RCall Tryz.prog 60 e 2 (xs.map Cau.ds) ((sortC xs).map Cau.ds) [.clo (.func 61) []] (.tup []) := by
  intro id
  refine ⟨.of Tryz.func60 (by kernel_rfl) rfl, fun F ρ B w vs hF hB hσ hv => ?_⟩
  obtain rfl := repSL_fn hv
  have hsl : (sortC xs).length = xs.length := by unfold sortC; exact List.length_mergeSort _
  rcases row_caus (hσ.ok _ (List.mem_singleton.2 rfl)) with ⟨h1, h2⟩ | ⟨g, cap, cur, h5, h6, h7, h8, h9, h10, h11, h12⟩
  · subst h2
    rw [h1]
    have h := AnyF.slices_SortFunc_none Tryz.sortF none 0 (.func (.func 61) #[] #[]) w
    change Calls Tryz.prog 60 #[.slice none 0 0, .func (.func 61) #[] #[]] w _ at h
    refine h.mono fun e' w' ⟨he, hw⟩ => ?_
    subst hw
    refine ⟨_, F, ρ, he, .tup [] [] rfl (fun i h1 => by simp at h1), fun _ hb => hb, fun _ hb => .inl hb, hF, Kept.refl _ _, ?_, ?_, fun _ _ => rfl⟩
    · have : (sortC ([] : List Cau)).map Cau.ds = ([] : List Cau).map Cau.ds := by unfold sortC; rw [List.mergeSort_nil]
      rw [this]
      exact hσ
    intro p hp g hg
    have : p = (id, .row e 2 ((sortC ([] : List Cau)).map Cau.ds)) := by simpa using hp
    subst this
    rw [h1] at hg
    simp [blk] at hg
  rw [h5]
  have hg : g < w.heap.size := (Array.getElem?_eq_some_iff.1 h7).1
  have eg : ∀ args w, (callFunc 61 args).run Tryz.prog w = .ok (.enter 61 args) w := enters_of Tryz.func61 (by kernel_rfl) rfl
  have h := AnyQ.slices_SortFunc_total Tryz.sortF 2 (fun w => hagC w) (fun w => etCau.sizeOf w) encC encC_len encC_one cmpC swoC 61 #[] g 0 cap xs.toArray w eg (cmpLaysC g _ w) (holds_caus h7 h11) hg (by simpa using hn) (fun x y => ltK_tot (x := x) (y := y))
  rw [show xs.toArray.size = xs.length by simp] at h
  change Calls Tryz.prog 60 #[.slice (some ⟨g, 0, none⟩) xs.length cap, .func (.func 61) #[] #[]] w _ at h
  refine h.mono fun e' w' ⟨he, n, os, hw⟩ => ?_
  have hw2 : w' = Sort.grow (putRowK encC 2 (Sort.ahead w n) g 0 (sortC xs).toArray) os := hw
  obtain ⟨hb1, hb2⟩ := put_blockK (n := n) (os := os) (zs := (sortC xs).toArray) h7
  have hsz : w.heap.size ≤ w'.heap.size := by rw [hw2, Sort.size_grow, size_putRowK]; exact Nat.le_add_right _ _
  have hob : ownB [(id, Ob.row e 2 (xs.map Cau.ds))] ρ g := ⟨_, List.mem_singleton.2 rfl, by rw [h5]; rfl⟩
  refine ⟨_, F, ρ, he, .tup [] [] rfl (fun i h1 => by simp at h1), fun _ hb => hb, fun _ hb => .inl hb, fun b hb => Nat.lt_of_lt_of_le (hF b hb) hsz, ⟨by rw [hw2]; rfl, by rw [hw2]; rfl, by rw [hw2]; rfl, hsz, fun k hk hne => ?_⟩, ?_, ?_, fun _ _ => rfl⟩
  · rw [hw2]
    exact hb2 k hk (fun he => hne (.inr (he ▸ hob)))
  · refine ⟨fun p hp => ?_, fun p hp q hq hne => ?_, fun p hp q hq _ => ?_⟩
    · have : p = (id, .row e 2 ((sortC xs).map Cau.ds)) := by simpa using hp
      subst this
      exact caus_row (by rw [hsl]; exact h5) h6 (by rw [hw2]; exact hb1) (by rw [hsl]; exact h8) h9 (by simp [Sort.putCells, h10]) (fun i c hi hc => by
        rw [put_cellsK _ _ (by rw [List.size_toArray, hsl, h10]; omega) i c (by simpa using hi) hc]
        simp [hi]) h12
    · have h1 : p = (id, .row e 2 ((sortC xs).map Cau.ds)) := by simpa using hp
      have h2 : q = (id, .row e 2 ((sortC xs).map Cau.ds)) := by simpa using hq
      rw [h1, h2] at hne
      exact absurd rfl hne
    have h1 : p = (id, .row e 2 ((sortC xs).map Cau.ds)) := by simpa using hp
    have h2 : q = (id, .row e 2 ((sortC xs).map Cau.ds)) := by simpa using hq
    rw [h1, h2]
  intro p hp g' hg'
  have : p = (id, .row e 2 ((sortC xs).map Cau.ds)) := by simpa using hp
  subst this
  exact .inr ⟨_, List.mem_singleton.2 rfl, hg'⟩
end Go.Proofs.YtieccphckobhjaaGreatDoor


namespace Go.Proofs.YtieccphckobhjaaGreatDoor
open Go.RowKit Go.Lib
set_option linter.unusedVariables false
def fldD (l : List UInt8) : List D := [.v (.string ⟨l.toArray⟩)]
/-- What the library's sort does to a row of strings of the caller's. -/
theorem row_strs {B : Nat} {F : Nat → Prop} {ρ : Nat → Value} {w : World} {id e : Nat} {xs : List (List UInt8)} (h : ObOk B F ρ w id (.row e 1 (xs.map fldD))) :
    (ρ id = .slice none 0 0 ∧ xs = []) ∨ ∃ g cap cur, ρ id = .slice (some ⟨g, 0, none⟩) xs.length cap ∧ B ≤ g ∧ w.heap[g]? = some (.cells cur e (0, 0)) ∧ xs.length ≤ cap ∧ cap ≤ maxLen ∧ cur.size = cap ∧ (∀ i, (hi : i < xs.length) → cur[i]? = some (.string ⟨xs[i].toArray⟩)) ∧ ¬ F g := by
  obtain ⟨ys, h1, h2, h3, h4⟩ := h
  have hl : (xs.map fldD).length = xs.length := List.length_map ..
  rw [hl] at h1
  have h1' : w.ownsRow B e 1 (ρ id) xs.length (flat ys xs.length 1) := h1
  rcases h1'.2 with ⟨h5, h6⟩ | ⟨g, cap, cur, h5, h6, h7, h8, h9, h10, h11⟩
  · exact .inl ⟨h5, List.eq_nil_of_length_eq_zero h6⟩
  · refine .inr ⟨g, cap, cur, h5, h6, h7, h8, h9, by rw [h10, Nat.mul_one], fun i hi => ?_, h4 g (by rw [h5]; rfl)⟩
    have hc := row_cell h1' h5 h7 hi (show 0 < 1 by omega)
    rw [cell_of_row w g (i * 1 + 0) cur e (0, 0) h7, Nat.mul_one, Nat.add_zero] at hc
    have h12 := (h3 i (by rw [hl]; exact hi) 0 (by simp [fldD])).2
    simp only [List.getElem_map, fldD, List.getElem_cons_zero] at h12
    rw [hc, rep_v h12]
theorem strs_row {B : Nat} {F : Nat → Prop} {ρ : Nat → Value} {w : World} {id e g cap : Nat} {cur : Array Value} {xs : List (List UInt8)} (h5 : ρ id = .slice (some ⟨g, 0, none⟩) xs.length cap) (h6 : B ≤ g) (h7 : w.heap[g]? = some (.cells cur e (0, 0))) (h8 : xs.length ≤ cap) (h9 : cap ≤ maxLen) (h10 : cur.size = cap)
    (hc : ∀ i, (hi : i < xs.length) → cur[i]? = some (.string ⟨xs[i].toArray⟩)) (hF : ¬ F g) : ObOk B F ρ w id (.row e 1 (xs.map fldD)) := by
  have hl : (xs.map fldD).length = xs.length := List.length_map ..
  refine ⟨fun i _ => .string ⟨(xs.getD i []).toArray⟩, ?_, fun i hi => by simp [fldD], fun i hi j hj => ⟨rfl, ?_⟩, fun g' hg' => ?_⟩
  · rw [hl]
    refine ⟨flat_length _ _ _, .inr ⟨g, cap, cur, h5, h6, h7, h8, h9, by rw [h10, Nat.mul_one], ?_⟩⟩
    apply List.ext_getElem?
    intro p
    by_cases hp : p < xs.length
    · have := flatten_get (fun i _ => Value.string ⟨(xs.getD i []).toArray⟩) 1 xs.length p 0 hp (by omega)
      rw [Nat.mul_one, Nat.add_zero] at this
      rw [this, Nat.mul_one, List.getElem?_take, if_pos hp, Array.getElem?_toList, hc p hp]
      simp [List.getD_eq_getElem?_getD, List.getElem?_eq_getElem hp]
    · rw [List.getElem?_eq_none (by rw [List.length_take]; omega)]
      exact (List.getElem?_eq_none (by have := flat_length (fun i _ => Value.string ⟨(xs.getD i []).toArray⟩) xs.length 1; unfold flat at this; rw [this]; omega)).symm
  · rw [hl] at hi
    simp only [List.getElem_map, fldD] at hj ⊢
    obtain rfl : j = 0 := by simpa using hj
    simp only [List.getElem_cons_zero, List.getD_eq_getElem?_getD, List.getElem?_eq_getElem hi, Option.getD_some]
    exact .v _
  · rw [h5] at hg'
    simp [blk] at hg'
    subst hg'
    exact hF
/-- The world behind such a call: the row's cells hold ys (and more, up to its old end). -/
theorem put_block {w : World} {g n e cap : Nat} {cur : Array Value} {os : Array Obj} {zs : List (List UInt8)} (h : w.heap[g]? = some (.cells cur e (0, 0))) :
    (Sort.grow (Sort.putRow encStr (Sort.ahead w n) g 0 zs.toArray) os).heap[g]? = some (.cells (Sort.putCells encStr 0 zs.toArray cur) e (0, 0)) ∧
    (∀ k, k < w.heap.size → k ≠ g → (Sort.grow (Sort.putRow encStr (Sort.ahead w n) g 0 zs.toArray) os).heap[k]? = w.heap[k]?) := by
  have hg : g < w.heap.size := (Array.getElem?_eq_some_iff.1 h).1
  have hs : ∀ k, k < w.heap.size → (Sort.grow (Sort.putRow encStr (Sort.ahead w n) g 0 zs.toArray) os).heap[k]? = (Sort.putRow encStr (Sort.ahead w n) g 0 zs.toArray).heap[k]? := fun k hk => Sort.heap_grow_old _ _ (by rw [Sort.size_putRow]; exact hk)
  refine ⟨?_, fun k hk hne => ?_⟩
  · rw [hs g hg]
    show (w.heap.modify g _)[g]? = _
    rw [Array.getElem?_modify, if_pos rfl, h]
    rfl
  · rw [hs k hk]
    show (w.heap.modify g _)[k]? = _
    rw [Array.getElem?_modify, if_neg (Ne.symm hne)]
theorem put_cells (zs : List (List UInt8)) (cur : Array Value) (hl : zs.length ≤ cur.size) (i : Nat) (hi : i < zs.length) : (Sort.putCells encStr 0 zs.toArray cur)[i]? = some (.string ⟨zs[i].toArray⟩) := by
  unfold Sort.putCells
  rw [Array.getElem?_mapIdx, Array.getElem?_eq_getElem (by omega), Option.map_some, if_pos ⟨Nat.zero_le _, by simpa using hi⟩]
  simp [hi]
theorem holds_strs {w : World} {g e cap : Nat} {cur : Array Value} {xs : List (List UInt8)} (h7 : w.heap[g]? = some (.cells cur e (0, 0))) (hc : ∀ i, (hi : i < xs.length) → cur[i]? = some (.string ⟨xs[i].toArray⟩)) : Sort.Holds encStr w g 0 xs.toArray := by
  intro j hj
  have hj' : j < xs.length := by simpa using hj
  rw [Nat.zero_add, cell_of_row w g j cur e (0, 0) h7, hc j hj']
  refine ⟨by simp [hj'], ?_⟩
  unfold World.frozen?
  rw [h7]
  simp
theorem c_sort (xs : List (List UInt8)) (hn : xs.length < 4611686018427387904) (e : Nat) : RCall Tryz.prog 113 e 1 (xs.map fldD) ((sortS xs).map fldD) [] (.tup []) := by
  intro id
  refine ⟨.of Tryz.func113 (by kernel_rfl) rfl, fun F ρ B w vs hF hB hσ hv => ?_⟩
  obtain rfl := repSL_own hv
  have hsl : (sortS xs).length = xs.length := by unfold sortS; exact List.length_mergeSort _
  rcases row_strs (hσ.ok _ (List.mem_singleton.2 rfl)) with ⟨h1, h2⟩ | ⟨g, cap, cur, h5, h6, h7, h8, h9, h10, h11, h12⟩
  · subst h2
    rw [h1]
    have h := Any.slices_Sort_string_none Tryz.l190 none 0 w
    change Calls Tryz.prog 113 #[.slice none 0 0] w _ at h
    refine h.mono fun e' w' ⟨he, hw⟩ => ?_
    subst hw
    refine ⟨_, F, ρ, he, .tup [] [] rfl (fun i h1 => by simp at h1), fun _ hb => hb, fun _ hb => .inl hb, hF, Kept.refl _ _, ?_, ?_, fun _ _ => rfl⟩
    · have : (sortS ([] : List (List UInt8))).map fldD = ([] : List (List UInt8)).map fldD := by unfold sortS; rw [List.mergeSort_nil]
      rw [this]
      exact hσ
    intro p hp g hg
    have : p = (id, .row e 1 ((sortS ([] : List (List UInt8))).map fldD)) := by simpa using hp
    subst this
    rw [h1] at hg
    simp [blk] at hg
  rw [h5]
  have hg : g < w.heap.size := (Array.getElem?_eq_some_iff.1 h7).1
  have h := Any.slices_Sort_string Tryz.l190 g 0 cap xs w (holds_strs (cap := cap) h7 h11) hg hn
  change Calls Tryz.prog 113 #[.slice (some ⟨g, 0, none⟩) xs.length cap] w _ at h
  refine h.mono fun e' w' ⟨he, n, os, hw⟩ => ?_
  obtain ⟨hb1, hb2⟩ := put_block (n := n) (os := os) (zs := sortS xs) (cap := cap) h7
  have hw2 : w' = Sort.grow (Sort.putRow encStr (Sort.ahead w n) g 0 (sortS xs).toArray) os := hw
  have hsz : w.heap.size ≤ w'.heap.size := by rw [hw2, Sort.size_grow, Sort.size_putRow]; exact Nat.le_add_right _ _
  have hob : ownB [(id, Ob.row e 1 (xs.map fldD))] ρ g := ⟨_, List.mem_singleton.2 rfl, by rw [h5]; rfl⟩
  refine ⟨_, F, ρ, he, .tup [] [] rfl (fun i h1 => by simp at h1), fun _ hb => hb, fun _ hb => .inl hb, fun b hb => Nat.lt_of_lt_of_le (hF b hb) hsz, ⟨by rw [hw2]; rfl, by rw [hw2]; rfl, by rw [hw2]; rfl, hsz, fun k hk hne => ?_⟩, ?_, ?_, fun _ _ => rfl⟩
  · rw [hw2]
    exact hb2 k hk (fun he => hne (.inr (he ▸ hob)))
  · refine ⟨fun p hp => ?_, fun p hp q hq hne => ?_, fun p hp q hq _ => ?_⟩
    · have : p = (id, .row e 1 ((sortS xs).map fldD)) := by simpa using hp
      subst this
      exact strs_row (by rw [hsl]; exact h5) h6 (by rw [hw2]; exact hb1) (by rw [hsl]; exact h8) h9 (by simp [Sort.putCells, h10]) (fun i hi => put_cells _ _ (by rw [hsl, h10]; exact h8) i hi) h12
    · have h1 : p = (id, .row e 1 ((sortS xs).map fldD)) := by simpa using hp
      have h2 : q = (id, .row e 1 ((sortS xs).map fldD)) := by simpa using hq
      rw [h1, h2] at hne
      exact absurd rfl hne
    have h1 : p = (id, .row e 1 ((sortS xs).map fldD)) := by simpa using hp
    have h2 : q = (id, .row e 1 ((sortS xs).map fldD)) := by simpa using hq
    rw [h1, h2]
  intro p hp g' hg'
  have : p = (id, .row e 1 ((sortS xs).map fldD)) := by simpa using hp
  subst this
  exact .inr ⟨_, List.mem_singleton.2 rfl, hg'⟩
/-- slices.Compact takes the row; what it returns is data. -/
theorem c_compact (xs : List (List UInt8)) (hn : xs.length ≤ 9223372036854775807) (e id : Nat) : XCall Tryz.prog 114 [.own id] [(id, .row e 1 (xs.map fldD))] [] (fun _ => false) (.sl ((compact xs).map fldD)) := by
  refine ⟨.of Tryz.func114 (by kernel_rfl) rfl, fun F ρ B w vs hF hB hσ hv => ?_⟩
  obtain rfl := repSL_own hv
  have hnil : ∀ {B : Nat} {F : Nat → Prop} {w : World}, ObsOk B F ρ w [] := ⟨fun p hp => (nomatch hp), fun p hp => (nomatch hp), fun p hp => (nomatch hp)⟩
  rcases row_strs (hσ.ok _ (List.mem_singleton.2 rfl)) with ⟨h1, h2⟩ | ⟨g, cap, cur, h5, h6, h7, h8, h9, h10, h11, h12⟩
  · subst h2
    rw [h1]
    have h := Any.slices_Compact_string_empty Tryz.l194 none 0 w
    change Calls Tryz.prog 114 #[.slice none 0 0] w _ at h
    refine h.mono fun e' w' ⟨he, hw⟩ => ?_
    subst hw
    exact ⟨_, F, ρ, he, .nil, fun _ hb => hb, fun _ hb => .inl hb, hF, Kept.refl _ _, hnil, fun p hp => (nomatch hp), fun _ _ => rfl⟩
  rw [h5]
  have hg : g < w.heap.size := (Array.getElem?_eq_some_iff.1 h7).1
  have h := Any.slices_Compact_string Tryz.l194 g 0 cap xs w (holds_strs (cap := cap) h7 h11) hn h8
  change Calls Tryz.prog 114 #[.slice (some ⟨g, 0, none⟩) xs.length cap] w _ at h
  refine h.mono fun e' w' ⟨he, n, hw⟩ => ?_
  obtain ⟨hb1, hb2⟩ := put_block (n := n) (os := #[]) (zs := compact xs ++ List.replicate (xs.length - (compact xs).length) []) (cap := cap) h7
  have hw2 : w' = Sort.grow (Sort.putRow encStr (Sort.ahead w n) g 0 (compact xs ++ List.replicate (xs.length - (compact xs).length) []).toArray) #[] := by rw [Sort.grow_empty]; exact hw
  have hsz : w.heap.size ≤ w'.heap.size := by rw [hw2, Sort.size_grow, Sort.size_putRow]; exact Nat.le_add_right _ _
  have hob : ownB [(id, Ob.row e 1 (xs.map fldD))] ρ g := ⟨_, List.mem_singleton.2 rfl, by rw [h5]; rfl⟩
  have hcl := compact_length_le xs
  have hl : ((compact xs).map fldD).length = (compact xs).length := List.length_map ..
  have hr : Rep (fun b => F b ∨ b = g) w' (.slice (some ⟨g, 0, none⟩) ((compact xs).map fldD).length cap) (.sl ((compact xs).map fldD)) := by
    refine .sl ⟨g, 0, none⟩ cap 1 _ (fun i _ => .string ⟨((compact xs).getD i []).toArray⟩) (by rw [hl]; omega) (by unfold maxLen at h9; omega) (fun _ => .inr rfl) (fun i hi => by simp [fldD]) (fun i j hi hj => ?_) (fun _ _ _ _ => rfl) (fun i hi j hj => ?_)
    · rw [hl] at hi
      obtain rfl : j = 0 := by omega
      rw [addr_add, Nat.mul_one, Nat.add_zero, Nat.zero_add, hw2, cell_of_row _ g i _ e (0, 0) hb1, put_cells _ _ (by rw [List.length_append, List.length_replicate, h10]; omega) i (by rw [List.length_append]; omega)]
      rw [List.getElem_append_left hi]
      simp [List.getD_eq_getElem?_getD, List.getElem?_eq_getElem hi]
    rw [hl] at hi
    simp only [List.getElem_map, fldD] at hj ⊢
    obtain rfl : j = 0 := by simpa using hj
    simp only [List.getElem_cons_zero, List.getD_eq_getElem?_getD, List.getElem?_eq_getElem hi, Option.getD_some]
    exact .v _
  rw [hl] at hr
  refine ⟨_, _, ρ, he, hr, fun _ hb => .inl hb, fun b hb => ?_, fun b hb => ?_, ⟨by rw [hw2]; rfl, by rw [hw2]; rfl, by rw [hw2]; rfl, hsz, fun k hk hne => ?_⟩, hnil, fun p hp => (nomatch hp), fun _ _ => rfl⟩
  · rcases hb with hb | rfl
    · exact .inl hb
    exact .inr (.inr hob)
  · rcases hb with hb | rfl
    · exact Nat.lt_of_lt_of_le (hF b hb) hsz
    exact Nat.lt_of_lt_of_le hg hsz
  rw [hw2]
  exact hb2 k hk (fun he => hne (.inr (he ▸ hob)))

end Go.Proofs.YtieccphckobhjaaGreatDoor


namespace Go.Proofs.YtieccphckobhjaaGreatDoor
open Go.RowKit
set_option linter.unusedVariables false

/-! Types. -/
namespace TyZ2
theorem ag_26 : AggT Tryz.prog 26 3 := .of (by kernel_rfl)
theorem ag_54 : AggT Tryz.prog 54 2 := .of (by kernel_rfl)
theorem ag_59 : AggT Tryz.prog 59 5 := .of (by kernel_rfl)
theorem ag_65 : AggT Tryz.prog 65 7 := .of (by kernel_rfl)
theorem bu_54 : StructT Tryz.prog 54 (fun i => (#[(0, 1), (1, 1)] : Array (Nat × Nat))[i]?) [(.int .i64 0), (.string ⟨#[]⟩)] := .of (by kernel_rfl) (by kernel_rfl) (by decide)
theorem et_23 : ElemTy Tryz.prog 23 59 5 64 (.agg #[(.string ⟨#[]⟩), (.string ⟨#[]⟩), (.string ⟨#[]⟩), (.int .i64 0), (.int .i64 0)]) := ⟨by kernel_rfl, by kernel_rfl, by kernel_rfl, by decide⟩
theorem et_24 : ElemTy Tryz.prog 24 65 7 96 (.agg #[(.string ⟨#[]⟩), (.string ⟨#[]⟩), (.string ⟨#[]⟩), (.int .i64 0), (.int .i64 0), (.int .i64 0), (.slice none 0 0)]) := ⟨by kernel_rfl, by kernel_rfl, by kernel_rfl, by decide⟩
theorem et_49 : ElemTy Tryz.prog 49 54 2 24 (.agg #[(.int .i64 0), (.string ⟨#[]⟩)]) := ⟨by kernel_rfl, by kernel_rfl, by kernel_rfl, by decide⟩
theorem et_63 : ElemTy Tryz.prog 63 3 1 8 (.int .i64 0) := ⟨by kernel_rfl, by kernel_rfl, by kernel_rfl, by decide⟩
theorem fo_59_1 : fieldOff Tryz.prog 59 1 = some 1 := by kernel_rfl
theorem fo_59_2 : fieldOff Tryz.prog 59 2 = some 2 := by kernel_rfl
theorem fo_65_1 : fieldOff Tryz.prog 65 1 = some 1 := by kernel_rfl
theorem fo_65_6 : fieldOff Tryz.prog 65 6 = some 6 := by kernel_rfl
theorem sc_23 : Scal Tryz.prog 23 := .of (by kernel_rfl)
theorem sc_3 : Scal Tryz.prog 3 := .of (by kernel_rfl)
theorem sc_49 : Scal Tryz.prog 49 := .of (by kernel_rfl)
theorem sc_63 : Scal Tryz.prog 63 := .of (by kernel_rfl)
theorem sc_9 : Scal Tryz.prog 9 := .of (by kernel_rfl)
theorem sz_23 : ∀ w, (sizeOf 23).run Tryz.prog w = .ok 1 w := SizeT.of (by kernel_rfl)
theorem sz_49 : ∀ w, (sizeOf 49).run Tryz.prog w = .ok 1 w := SizeT.of (by kernel_rfl)
theorem sz_59 : ∀ w, (sizeOf 59).run Tryz.prog w = .ok 5 w := SizeT.of (by kernel_rfl)
theorem sz_65 : ∀ w, (sizeOf 65).run Tryz.prog w = .ok 7 w := SizeT.of (by kernel_rfl)
theorem zt_23 : (Tryz.prog.info? 23).bind (·.zero) = some (.slice none 0 0) := by kernel_rfl
theorem zt_49 : (Tryz.prog.info? 49).bind (·.zero) = some (.slice none 0 0) := by kernel_rfl
theorem zt_59 : (Tryz.prog.info? 59).bind (·.zero) = some (.agg #[(.string ⟨#[]⟩), (.string ⟨#[]⟩), (.string ⟨#[]⟩), (.int .i64 0), (.int .i64 0)]) := by kernel_rfl
theorem zt_65 : (Tryz.prog.info? 65).bind (·.zero) = some (.agg #[(.string ⟨#[]⟩), (.string ⟨#[]⟩), (.string ⟨#[]⟩), (.int .i64 0), (.int .i64 0), (.int .i64 0), (.slice none 0 0)]) := by kernel_rfl
end TyZ2
open TyZ2


def okB (c : Cpy) : Bool := decide ((c.bad.length : Int) = 0)
/-- The carriers of the copies that are right. -/
def onTo (v : Vlt) (it : ByteArray) (k : Nat) : List Carr := (((copiesOf v it).take k).filter okB).map fun c => carrAt v c.carrier
def onW (v : Vlt) (it : ByteArray) : List Carr := ((copiesOf v it).filter okB).map fun c => carrAt v c.carrier
theorem onTo_all (v : Vlt) (it : ByteArray) : onTo v it (copiesOf v it).length = onW v it := by unfold onTo onW; rw [List.take_length]
theorem onTo_yes {v : Vlt} {it : ByteArray} {k : Nat} (hk : k < (copiesOf v it).length) (h : ¬ (((copiesOf v it)[k].bad.map intD).length : Int) > 0) : onTo v it (k + 1) = onTo v it k ++ [carrAt v (copiesOf v it)[k].carrier] := by
  unfold onTo
  rw [filter_yes hk (by unfold okB; rw [List.length_map] at h; exact decide_eq_true (by omega)), List.map_append]; rfl
theorem onTo_no {v : Vlt} {it : ByteArray} {k : Nat} (hk : k < (copiesOf v it).length) (h : (((copiesOf v it)[k].bad.map intD).length : Int) > 0) : onTo v it (k + 1) = onTo v it k := by
  unfold onTo
  rw [filter_no hk (by unfold okB; rw [List.length_map] at h; exact decide_eq_false (by omega))]
theorem onTo_len (v : Vlt) (it : ByteArray) (k : Nat) : (onTo v it k).length ≤ k := by
  unfold onTo
  rw [List.length_map]
  refine Nat.le_trans (List.length_filter_le _ _) ?_
  rw [List.length_take]; omega
theorem cauP_snoc (l : List Carr) (x : Carr) : cauP (l ++ [x]) = cauP l ++ [⟨1, x.place⟩, ⟨2, x.kind⟩] := by unfold cauP; simp
theorem caus_next (l : List Carr) (x : Carr) : (cauP (l ++ [x])).map Cau.ds = (cauP l).map Cau.ds ++ [[.v (.int .i64 1), .v (.string x.place)], [.v (.int .i64 2), .v (.string x.kind)]] := by rw [cauP_snoc, List.map_append]; rfl
theorem carrs_next (l : List Carr) (x : Carr) : (l ++ [x]).map Carr.ds = l.map Carr.ds ++ [x.ds] := by rw [List.map_append]; rfl
/-- All causes, in order. -/
def csW (v : Vlt) (it : ByteArray) : List Cau := Lib.compact (sortC (cauP (onW v it)))
def weakF (v : Vlt) (it : ByteArray) : Int := if checkV v ≠ 0 then checkV v else if itemIdx v it < 0 then 5 else if ((onW v it).length : Int) > 8 then 2 else 0
def weakL (v : Vlt) (it : ByteArray) : List Nat := ((chosenC (csW v it).length (allLost (csW v it) (onW v it))).getD [])
def weakR (v : Vlt) (it : ByteArray) : List Cau := if weakF v it = 0 then (weakL v it).map (cauAt (csW v it)) else []
theorem weak_1 {v : Vlt} {it : ByteArray} (h : checkV v ≠ 0) : weakF v it = checkV v ∧ weakR v it = [] := by
  have h1 : weakF v it = checkV v := by unfold weakF; rw [if_pos h]
  exact ⟨h1, by unfold weakR; rw [h1, if_neg h]⟩
theorem weak_2 {v : Vlt} {it : ByteArray} (h : checkV v = 0) (h2 : itemIdx v it < 0) : weakF v it = 5 ∧ weakR v it = [] := by
  have h1 : weakF v it = 5 := by unfold weakF; rw [if_neg (by rw [h]; simp), if_pos h2]
  exact ⟨h1, by unfold weakR; rw [h1, if_neg (by decide)]⟩
theorem weak_3 {v : Vlt} {it : ByteArray} (h : checkV v = 0) (h2 : ¬ itemIdx v it < 0) (h3 : ((onW v it).length : Int) > 8) : weakF v it = 2 ∧ weakR v it = [] := by
  have h1 : weakF v it = 2 := by unfold weakF; rw [if_neg (by rw [h]; simp), if_neg h2, if_pos h3]
  exact ⟨h1, by unfold weakR; rw [h1, if_neg (by decide)]⟩
theorem weak_4 {v : Vlt} {it : ByteArray} (h : checkV v = 0) (h2 : ¬ itemIdx v it < 0) (h3 : ¬ ((onW v it).length : Int) > 8) : weakF v it = 0 ∧ weakR v it = (weakL v it).map (cauAt (csW v it)) := by
  have h1 : weakF v it = 0 := by unfold weakF; rw [if_neg (by rw [h]; simp), if_neg h2, if_neg h3]
  exact ⟨h1, by unfold weakR; rw [if_pos h1]⟩
theorem sortC_len (l : List Cau) : (sortC l).length = l.length := by unfold sortC; exact List.length_mergeSort _
theorem csW_len (v : Vlt) (it : ByteArray) : (csW v it).length ≤ 2 * (onW v it).length := by
  unfold csW
  refine Nat.le_trans (Lib.compact_length_le _) ?_
  rw [sortC_len, cauP_len]; omega
theorem vld_at {n : Nat} {l : List Nat} (h : Vld n l) : ∀ i ∈ l, i < n := fun i hi => by
  obtain ⟨j, hj, rfl⟩ := List.mem_iff_getElem.1 hi
  have := h.2 j hj
  omega
theorem weakL_lt {v : Vlt} {it : ByteArray} : ∀ i ∈ weakL v it, i < (csW v it).length := fun i hi => by
  unfold weakL at hi
  cases hc : chosenC (csW v it).length (allLost (csW v it) (onW v it)) with
  | none => rw [hc] at hi; cases hi
  | some l => rw [hc] at hi; exact vld_at (chosen_spec hc).2.1 i hi
theorem weakL_len {v : Vlt} {it : ByteArray} : (weakL v it).length ≤ (csW v it).length := by
  unfold weakL
  cases hc : chosenC (csW v it).length (allLost (csW v it) (onW v it)) with
  | none => exact Nat.zero_le _
  | some l => exact (chosen_spec hc).2.1.1
def outW (v : Vlt) (it : ByteArray) (j : Nat) : List Cau := ((weakL v it).take j).map (cauAt (csW v it))
theorem outW_next {v : Vlt} {it : ByteArray} {j : Nat} (hj : j < (weakL v it).length) (hl : (weakL v it)[j] < (csW v it).length) : (outW v it (j + 1)).map Cau.ds = (outW v it j).map Cau.ds ++ [(csW v it)[(weakL v it)[j]].ds] := by
  unfold outW
  rw [take_next hj, List.map_append, List.map_append]
  show _ ++ [(cauAt (csW v it) (weakL v it)[j]).ds] = _
  rw [cauAt_at hl]
theorem outW_all (v : Vlt) (it : ByteArray) : outW v it (weakL v it).length = (weakL v it).map (cauAt (csW v it)) := by unfold outW; rw [List.take_length]
theorem outW_len (v : Vlt) (it : ByteArray) (j : Nat) : (outW v it j).length ≤ (weakL v it).length := by unfold outW; rw [List.length_map, List.length_take]; omega
theorem rows_cells2 {i j n m e s e2 s2 : Nat} {a b c d : List (List D)} {x y : List S} {τ : Obs} (h1 : a = b) (h2 : c = d) : ∀ p ∈ [(i, Ob.row e s b), (n, Ob.cells x), (j, Ob.row e2 s2 d), (m, Ob.cells y)], p ∈ (i, Ob.row e s a) :: (n, Ob.cells x) :: (j, Ob.row e2 s2 c) :: (m, Ob.cells y) :: τ := fun p hp => by
  subst h1; subst h2
  rcases List.mem_cons.1 hp with rfl | hp
  · exact .head _
  · rcases List.mem_cons.1 hp with rfl | hp
    · exact .tail _ (.head _)
    · rcases List.mem_cons.1 hp with rfl | hp
      · exact .tail _ (.tail _ (.head _))
      · rw [List.mem_singleton] at hp; subst hp; exact .tail _ (.tail _ (.tail _ (.head _)))


set_option maxRecDepth 100000 in
set_option maxHeartbeats 8000000 in
theorem c_pWeak (v : Vlt) (it : ByteArray) (hs : smallV v) : ACall Tryz.prog 16 [.agg v.ds, .v (.string it)] (.tup [.sl ((weakR v it).map Cau.ds), .v (.int .i64 (weakF v it))]) := by
  refine acall_of (n := 85) (ds' := [.sl ((weakR v it).map Cau.ds), .v (.int .i64 (weakF v it))]) Tryz.func16 rfl (by kernel_rfl) rfl [4, 5] rfl rfl ?_
  intro B w0 F0 fr
  refine AWP.seq (AWP.region ?_)
  refine AOps.step rfl rfl rfl (AOp.box rfl rfl rfl) ?_
  refine AOps.aD rfl rfl rfl rfl rfl ?_
  refine AOps.aD rfl rfl rfl rfl rfl (.nil ?_)
  refine AWP.seq ?_
  refine AWP.seq (AWP.region ?_)
  refine AOps.step rfl rfl rfl (AOp.loadAgg rfl ag_26 rfl rfl) ?_
  refine AOps.step rfl rfl rfl (AOp.call rfl (.cons (ArgOk.rfl' rfl) .nil) (c_pCheck v hs)) ?_
  refine AOps.aD rfl rfl rfl rfl rfl (.nil ?_)
  refine AWP.seq (AWP.region ?_)
  refine AOps.mD rfl rfl rfl rfl rfl ?_
  refine AOps.step rfl rfl rfl (AOp.neq rfl rfl rfl) (.nil ?_)
  refine AWP.cond rfl (fun h1 => ?_) (fun h1 => ?_)
  · replace h1 := of_decide_eq_true h1
    obtain ⟨HF, HR⟩ := weak_1 (it := it) h1
    rw [HF, HR]
    refine AWP.seq (AWP.region ?_)
    refine AOps.mD rfl rfl rfl rfl rfl ?_
    refine AOps.aD rfl rfl rfl rfl rfl ?_
    refine AOps.aD rfl rfl rfl rfl rfl (.nil ?_)
    refine AWP.ret ?_
    refine ⟨RetD.nil rfl, RetD.eq rfl ?_, trivial⟩
    all_goals (rfl)
  replace h1 := of_decide_eq_false h1
  have hc0 := Decidable.not_not.1 h1
  have vo := vok_of hc0
  have hnp := vo.np
  refine AWP.skip ?_
  refine AWP.seq ?_
  refine AWP.seq (AWP.region ?_)
  refine AOps.step rfl rfl rfl (AOp.loadAgg rfl ag_26 rfl rfl) ?_
  refine AOps.mD rfl rfl rfl rfl rfl ?_
  refine AOps.step rfl rfl rfl (AOp.call rfl (.cons (ArgOk.rfl' rfl) (.cons (ArgOk.rfl' rfl) .nil)) (c_itemAt _ _)) ?_
  refine AOps.step rfl rfl rfl (AOp.lss rfl rfl rfl) (.nil ?_)
  refine AWP.cond rfl (fun h2 => ?_) (fun h2 => ?_)
  · replace h2 := of_decide_eq_true h2
    obtain ⟨HF, HR⟩ := weak_2 hc0 h2
    rw [HF, HR]
    refine AWP.seq (AWP.region ?_)
    refine AOps.aD rfl rfl rfl rfl rfl ?_
    refine AOps.aD rfl rfl rfl rfl rfl (.nil ?_)
    refine AWP.ret ?_
    refine ⟨RetD.nil rfl, RetD.eq rfl ?_, trivial⟩
    all_goals (rfl)
  replace h2 := of_decide_eq_false h2
  have hit := h2
  have hcol := copiesOf_len v it
  refine AWP.skip ?_
  refine AWP.seq (AWP.region ?_)
  refine AOps.alloc 97 rfl rfl rfl rfl zt_23 rfl rfl rfl ?_
  refine AOps.adoptCell 66 59 5 97 0 (.head _) rfl rfl ?_
  refine AOps.nil ?_
  refine AWP.seq (AWP.region ?_)
  refine AOps.alloc 98 rfl rfl rfl rfl zt_49 rfl rfl rfl ?_
  refine AOps.adoptCell 67 54 2 98 0 (.head _) rfl rfl ?_
  refine AOps.nil ?_
  refine AWP.seq ?_
  refine AWP.seq (AWP.region ?_)
  refine AOps.step rfl rfl rfl (AOp.loadAgg rfl ag_26 rfl rfl) ?_
  refine AOps.mD rfl rfl rfl rfl rfl ?_
  refine AOps.step rfl rfl rfl (AOp.call rfl (.cons (ArgOk.rfl' rfl) (.cons (ArgOk.rfl' rfl) .nil)) (c_copiesOf v it vo.np)) ?_
  refine AOps.step rfl rfl rfl (AOp.lenSl rfl et_24.ht rfl) ?_
  refine AOps.mD rfl rfl rfl rfl rfl (.nil ?_)
  refine AWP.block ?_
  refine AWP.loop (G := Nat) (fun k => Env.of [(30, .d (.v (.int .i64 (k : Int)))), (28, .d (.sl ((copiesOf v it).map Cpy.ds))), (29, .d (.v (.int .i64 (((copiesOf v it).map Cpy.ds).length : Int)))), (7, .ptr 97 0), (8, .ptr 98 0), (2, .d (.fp v.ds)), (1, .d (.v (.string it)))]) (fun k => [(67, .row 54 2 ((cauP (onTo v it k)).map Cau.ds)), (98, .cells [.own 67]), (66, .row 59 5 ((onTo v it k).map Carr.ds)), (97, .cells [.own 66])]) (fun k => k ≤ (copiesOf v it).length) (fun k => (copiesOf v it).length - k) 0 (Nat.zero_le _) (Sub.less ⟨(SLe.of_eq rfl), SLe.refl _, SLe.refl _, SLe.refl _, SLe.refl _, SLe.refl _, SLe.refl _, trivial⟩ (rows_cells2 rfl rfl)) ?_
  intro k hk
  refine AWP.seq (AWP.region ?_)
  refine AOps.step rfl rfl rfl (AOp.lss rfl rfl rfl) (.nil ?_)
  refine AWP.seq ?_
  refine AWP.cond rfl (fun h3 => ?_) (fun h3 => ?_)
  · replace h3 := of_decide_eq_true h3
    rw [List.length_map] at h3
    have hlt : k < (copiesOf v it).length := by omega
    have hcm := copiesOf_mem (List.getElem_mem hlt)
    have hco := vo.cpy _ hcm.1
    have hol := onTo_len v it k
    refine AWP.skip ?_
    refine AWP.seq ?_
    refine AWP.block ?_
    refine AWP.seq (AWP.region ?_)
    refine AOps.step rfl rfl rfl (AOp.indexAddr rfl et_24 rfl rfl k rfl (at_list hlt) rfl) ?_
    refine AOps.step rfl rfl rfl (AOp.loadAgg rfl ag_65 rfl rfl) ?_
    refine AOps.alloc 103 rfl rfl rfl rfl zt_65 rfl rfl rfl ?_
    refine AOps.store rfl rfl rfl sz_65 rfl (.head _) rfl rfl rfl (Nat.le_of_ble_eq_true rfl) ?_
    refine AOps.freezeCells 10 (ds := (copiesOf v it)[k].ds) rfl (.head _) (.nil ?_)
    refine AWP.seq ?_
    refine AWP.seq (AWP.region ?_)
    refine AOps.step rfl rfl rfl (AOp.fieldAddr rfl fo_65_6 rfl) ?_
    refine AOps.step rfl rfl rfl (AOp.load rfl sc_63 rfl) ?_
    refine AOps.step rfl rfl rfl (AOp.lenSl rfl et_63.ht rfl) ?_
    refine AOps.step rfl rfl rfl (AOp.gtr rfl rfl rfl) (.nil ?_)
    refine AWP.cond rfl (fun h4 => ?_) (fun h4 => ?_)
    · replace h4 := of_decide_eq_true h4
      have HN := onTo_no hlt h4
      refine AWP.exit ?_
      refine AWP.region ?_
      refine AOps.step rfl rfl rfl (AOp.add64 rfl rfl rfl (by omega) (by omega)) ?_
      refine AOps.mD rfl rfl rfl rfl rfl (.nil ?_)
      refine ⟨k + 1, (by omega), (by dsimp only; omega), Sub.less ⟨(SLe.of_eq rfl), SLe.refl _, SLe.refl _, SLe.refl _, SLe.refl _, SLe.refl _, SLe.refl _, trivial⟩ (rows_cells2 (by first | (rw [HN]; done) | (rw [HN, caus_next]; rfl)) (by first | (rw [HN]; done) | (rw [HN, carrs_next]; rfl)))⟩
    replace h4 := of_decide_eq_false h4
    have HN := onTo_yes hlt (by omega)
    refine AWP.skip ?_
    refine AWP.seq (AWP.region ?_)
    refine AOps.step rfl rfl rfl (AOp.loadAgg rfl ag_26 rfl rfl) ?_
    refine AOps.step rfl rfl rfl (AOp.fieldAddr rfl fo_65_1 rfl) ?_
    refine AOps.step rfl rfl rfl (AOp.load rfl sc_9 rfl) ?_
    refine AOps.step rfl rfl rfl (AOp.call rfl (.cons (ArgOk.rfl' rfl) (.cons (ArgOk.rfl' rfl) .nil)) (c_carrier v _ hco.carr)) ?_
    refine AOps.alloc 104 rfl rfl rfl rfl zt_59 rfl rfl rfl ?_
    refine AOps.store rfl rfl rfl sz_59 rfl (.head _) rfl rfl rfl (Nat.le_of_ble_eq_true rfl) ?_
    refine AOps.freezeCells 11 (ds := (carrAt v (copiesOf v it)[k].carrier).ds) rfl (.head _) (.nil ?_)
    refine AWP.seq (AWP.region ?_)
    refine AOps.step rfl rfl rfl (AOp.loadP rfl sc_23 rfl (.tail _ (.tail _ (.tail _ (.head _)))) rfl) ?_
    refine AOps.step rfl rfl rfl (AOp.loadAgg rfl ag_59 rfl rfl) ?_
    refine AOps.step rfl rfl rfl (AOp.buildSlice rfl et_23 (.cons rfl rfl rfl .nil) rfl (by decide)) ?_
    -- append 45
    refine AOps.append rfl rfl rfl rfl et_23 rfl (.tail _ (.tail _ (.head _))) rfl (fun y hy => by obtain rfl := List.mem_singleton.1 hy; rfl) (by simp; omega) (by simp; omega) ?_
    refine AOps.storeS rfl rfl rfl sz_23 rfl (.tail _ (.tail _ (.tail _ (.head _)))) rfl (.tail _ (.tail _ (.head _))) (Nat.le_of_ble_eq_true rfl) (.nil ?_)
    refine AWP.region ?_
    refine AOps.step rfl rfl rfl (AOp.loadP rfl sc_49 rfl (.tail _ (.head _)) rfl) ?_
    refine AOps.step rfl rfl rfl (AOp.fieldAddr rfl fo_59_1 rfl) ?_
    refine AOps.step rfl rfl rfl (AOp.load rfl sc_9 rfl) ?_
    refine AOps.step rfl rfl rfl (AOp.build rfl bu_54 (.cons rfl rfl (.cons rfl rfl .nil)) rfl) ?_
    refine AOps.step rfl rfl rfl (AOp.fieldAddr rfl fo_59_2 rfl) ?_
    refine AOps.step rfl rfl rfl (AOp.load rfl sc_9 rfl) ?_
    refine AOps.step rfl rfl rfl (AOp.build rfl bu_54 (.cons rfl rfl (.cons rfl rfl .nil)) rfl) ?_
    refine AOps.step rfl rfl rfl (AOp.buildSlice rfl et_49 (.cons rfl rfl rfl (.cons rfl rfl rfl .nil)) rfl (by decide)) ?_
    -- append 54
    refine AOps.append rfl rfl rfl rfl et_49 rfl (.head _) rfl (fun y hy => by simp at hy; rcases hy with rfl | rfl <;> rfl) (by simp [cauP_len]; omega) (by simp [cauP_len]; omega) ?_
    refine AOps.storeS rfl rfl rfl sz_49 rfl (.tail _ (.head _)) rfl (.head _) (Nat.le_of_ble_eq_true rfl) (.nil ?_)
    refine AWP.region ?_
    refine AOps.step rfl rfl rfl (AOp.add64 rfl rfl rfl (by omega) (by omega)) ?_
    refine AOps.mD rfl rfl rfl rfl rfl (.nil ?_)
    refine ⟨k + 1, (by omega), (by dsimp only; omega), Sub.less ⟨(SLe.of_eq rfl), SLe.refl _, SLe.refl _, SLe.refl _, SLe.refl _, SLe.refl _, SLe.refl _, trivial⟩ (rows_cells2 (by first | (rw [HN]; done) | (rw [HN, caus_next]; rfl)) (by first | (rw [HN]; done) | (rw [HN, carrs_next]; rfl)))⟩
  replace h3 := of_decide_eq_false h3
  rw [List.length_map] at h3
  obtain rfl : k = (copiesOf v it).length := by omega
  have hol := onTo_len v it (copiesOf v it).length
  rw [onTo_all] at hol ⊢
  refine AWP.exit ?_
  refine AWP.seq ?_
  refine AWP.seq (AWP.region ?_)
  refine AOps.step rfl rfl rfl (AOp.loadP rfl sc_23 rfl (.tail _ (.tail _ (.tail _ (.head _)))) rfl) ?_
  refine AOps.step rfl rfl rfl (AOp.lenOwn rfl et_23.ht rfl (.tail _ (.tail _ (.head _)))) ?_
  refine AOps.step rfl rfl rfl (AOp.gtr rfl rfl rfl) (.nil ?_)
  refine AWP.cond rfl (fun h5 => ?_) (fun h5 => ?_)
  · replace h5 := of_decide_eq_true h5
    rw [List.length_map] at h5
    obtain ⟨HF, HR⟩ := weak_3 hc0 hit h5
    rw [HF, HR]
    refine AWP.seq (AWP.region ?_)
    refine AOps.aD rfl rfl rfl rfl rfl ?_
    refine AOps.aD rfl rfl rfl rfl rfl (.nil ?_)
    refine AWP.ret ?_
    refine ⟨RetD.nil rfl, RetD.eq rfl ?_, trivial⟩
    all_goals (rfl)
  replace h5 := of_decide_eq_false h5
  rw [List.length_map] at h5
  obtain ⟨HF, HR⟩ := weak_4 hc0 hit (by omega)
  rw [HF, HR]
  have hcs := csW_len v it
  have hLl := weakL_len (v := v) (it := it)
  refine AWP.skip ?_
  refine AWP.seq (AWP.region ?_)
  refine AOps.step rfl rfl rfl (AOp.loadP rfl sc_49 rfl (.tail _ (.head _)) rfl) ?_
  -- turns 67
  refine AOps.callX rfl rfl rfl (.cons (SLe.refl _) (.cons (SLe.fn _) .nil)) ((c_sortC (cauP (onW v it)) (by rw [cauP_len]; omega) 54) 67) ⟨(.head _), trivial⟩ rfl rfl (fun _ h => nomatch h) ?_
  refine AOps.nil ?_
  refine AWP.seq (AWP.region ?_)
  refine AOps.step rfl rfl rfl (AOp.loadP rfl sc_49 rfl (.tail _ (.head _)) rfl) ?_
  -- takes 67
  refine AOps.callX rfl rfl rfl (.cons (SLe.refl _) .nil) ((c_compactC (sortC (cauP (onW v it))) (by rw [sortC_len, cauP_len]; omega) 54) 67) ⟨(.head _), trivial⟩ rfl rfl (fun _ h => nomatch h) ?_
  refine AOps.store rfl rfl rfl sz_49 rfl (.head _) rfl rfl rfl (Nat.le_of_ble_eq_true rfl) ?_
  refine AOps.freezeCells 8 (ds := [.sl ((csW v it).map Cau.ds)]) rfl (.head _) (.nil ?_)
  refine AWP.seq ?_
  refine AWP.freezeIn 97 0 rfl (.head _) (.head _) ?_
  refine AWP.freezeCells 7 (ds := [.sl ((onW v it).map Carr.ds)]) rfl (.head _) ?_
  have HC : ACall Tryz.prog 27 [.v (.int .i64 ((csW v it).length : Int)), .clo (.func 66) [.fp [.sl ((onW v it).map Carr.ds)], .fp [.sl ((csW v it).map Cau.ds)]]] (.tup [.sl ((weakL v it).map numD), .v (.bool (chosenC (csW v it).length (allLost (csW v it) (onW v it))).isSome)]) := c_chosen (csW v it).length (by omega) (allLost (csW v it) (onW v it)) 66 _ (fun l hl => c_wk3 (csW v it) (onW v it) l (vld_at hl))
  refine AWP.region ?_
  refine AOps.step rfl rfl rfl (AOp.load rfl sc_49 rfl) ?_
  refine AOps.step rfl rfl rfl (AOp.lenSl rfl et_49.ht rfl) ?_
  refine AOps.le 65 (s' := .d (.v (.int .i64 ((csW v it).length : Int)))) rfl (SLe.i64 (by rw [List.length_map])) ?_
  refine AOps.step rfl rfl rfl (AOp.makeFunc rfl (.cons (ArgOk.rfl' rfl) (.cons (ArgOk.rfl' rfl) .nil))) ?_
  refine AOps.step rfl rfl rfl (AOp.call rfl (.cons (ArgOk.rfl' rfl) (.cons (ArgOk.rfl' rfl) .nil)) HC) ?_
  refine AOps.mD rfl rfl rfl rfl rfl ?_
  refine AOps.step rfl rfl rfl (AOp.extract rfl rfl rfl) ?_
  refine AOps.step rfl rfl rfl (AOp.extract rfl rfl rfl) ?_
  refine AOps.aD rfl rfl rfl rfl rfl ?_
  refine AOps.aD rfl rfl rfl rfl rfl (.nil ?_)
  refine AWP.seq (AWP.region ?_)
  refine AOps.aD rfl rfl rfl rfl rfl (.nil ?_)
  refine AWP.seq ?_
  refine AWP.seq (AWP.region ?_)
  refine AOps.mD rfl rfl rfl rfl rfl ?_
  refine AOps.step rfl rfl rfl (AOp.lenSl rfl et_63.ht rfl) ?_
  refine AOps.mD rfl rfl rfl rfl rfl (.nil ?_)
  refine AWP.block ?_
  refine AWP.adopt 14 68 54 2 rfl rfl ?_
  refine AWP.loop (G := Nat) (fun j => Env.of [(72, .d (.v (.int .i64 (j : Int)))), (70, .d (.sl ((weakL v it).map numD))), (71, .d (.v (.int .i64 (((weakL v it).map numD).length : Int)))), (14, .own 68), (8, .d (.fp [.sl ((csW v it).map Cau.ds)]))]) (fun j => [(68, .row 54 2 ((outW v it j).map Cau.ds))]) (fun j => j ≤ (weakL v it).length) (fun j => (weakL v it).length - j) 0 (Nat.zero_le _) (Sub.less ⟨(SLe.of_eq rfl), SLe.refl _, SLe.refl _, SLe.refl _, SLe.refl _, trivial⟩ (row_same rfl)) ?_
  intro j hj
  refine AWP.seq (AWP.region ?_)
  refine AOps.step rfl rfl rfl (AOp.lss rfl rfl rfl) (.nil ?_)
  refine AWP.seq ?_
  refine AWP.cond rfl (fun h6 => ?_) (fun h6 => ?_)
  · replace h6 := of_decide_eq_true h6
    rw [List.length_map] at h6
    have hjl : j < (weakL v it).length := by omega
    have hlj := weakL_lt (weakL v it)[j] (List.getElem_mem hjl)
    have how := outW_len v it j
    refine AWP.skip ?_
    refine AWP.seq ?_
    refine AWP.block ?_
    refine AWP.seq (AWP.region ?_)
    refine AOps.step rfl rfl rfl (AOp.indexAddr rfl et_63 rfl rfl j rfl (at_list hjl) rfl) ?_
    refine AOps.step rfl rfl rfl (AOp.load rfl sc_3 rfl) ?_
    refine AOps.aD rfl rfl rfl rfl rfl (.nil ?_)
    refine AWP.region ?_
    refine AOps.step rfl rfl rfl (AOp.moveO rfl rfl) ?_
    refine AOps.step rfl rfl rfl (AOp.load rfl sc_49 rfl) ?_
    refine AOps.mD rfl rfl rfl rfl rfl ?_
    refine AOps.step rfl rfl rfl (AOp.indexAddr rfl et_49 rfl rfl (weakL v it)[j] rfl (at_list hlj) rfl) ?_
    refine AOps.step rfl rfl rfl (AOp.loadAgg rfl ag_54 rfl rfl) ?_
    refine AOps.step rfl rfl rfl (AOp.buildSlice rfl et_49 (.cons rfl rfl rfl .nil) rfl (by decide)) ?_
    -- append 82
    refine AOps.append rfl rfl rfl rfl et_49 rfl (.head _) rfl (fun y hy => by obtain rfl := List.mem_singleton.1 hy; rfl) (by simp; omega) (by simp; omega) ?_
    refine AOps.step rfl rfl rfl (AOp.assignO rfl rfl) (.nil ?_)
    refine AWP.region ?_
    refine AOps.step rfl rfl rfl (AOp.add64 rfl rfl rfl (by omega) (by omega)) ?_
    refine AOps.mD rfl rfl rfl rfl rfl (.nil ?_)
    refine ⟨j + 1, (by dsimp only; omega), (by dsimp only; omega), Sub.less ⟨(SLe.of_eq rfl), SLe.refl _, SLe.refl _, SLe.refl _, SLe.refl _, trivial⟩ (row_same (by rw [outW_next hjl hlj]; rfl))⟩
  replace h6 := of_decide_eq_false h6
  rw [List.length_map] at h6
  obtain rfl : j = (weakL v it).length := by omega
  rw [← outW_all]
  refine AWP.exit ?_
  refine AWP.seq (AWP.region ?_)
  refine AOps.step rfl rfl rfl (AOp.moveO rfl rfl) ?_
  refine AOps.step rfl rfl rfl (AOp.assignO rfl rfl) ?_
  refine AOps.aD rfl rfl rfl rfl rfl (.nil ?_)
  refine AWP.ret ?_
  refine ⟨RetD.own rfl (.head _) ?_, RetD.eq rfl ?_, trivial⟩
  all_goals (rfl)

end Go.Proofs.YtieccphckobhjaaGreatDoor


namespace Go.Proofs.YtieccphckobhjaaGreatDoor
open Go.RowKit
set_option linter.unusedVariables false

/-! Types. -/
namespace TyZ3
theorem et_49 : ElemTy Tryz.prog 49 54 2 24 (.agg #[(.int .i64 0), (.string ⟨#[]⟩)]) := ⟨by kernel_rfl, by kernel_rfl, by kernel_rfl, by decide⟩
theorem et_63 : ElemTy Tryz.prog 63 3 1 8 (.int .i64 0) := ⟨by kernel_rfl, by kernel_rfl, by kernel_rfl, by decide⟩
theorem fo_54_0 : fieldOff Tryz.prog 54 0 = some 0 := by kernel_rfl
theorem fo_54_1 : fieldOff Tryz.prog 54 1 = some 1 := by kernel_rfl
theorem fo_59_1 : fieldOff Tryz.prog 59 1 = some 1 := by kernel_rfl
theorem fo_59_2 : fieldOff Tryz.prog 59 2 = some 2 := by kernel_rfl
theorem sc_3 : Scal Tryz.prog 3 := .of (by kernel_rfl)
theorem sc_9 : Scal Tryz.prog 9 := .of (by kernel_rfl)
end TyZ3
open TyZ3


theorem hetS : ElemTy Tryz.prog 159 9 1 16 (.string ⟨#[]⟩) := ⟨by kernel_rfl, by kernel_rfl, by kernel_rfl, by decide⟩
theorem hscS : Scal Tryz.prog 9 := .of (by kernel_rfl)
theorem hfoC1 : fieldOff Tryz.prog 59 1 = some 1 := by kernel_rfl
theorem hfoC2 : fieldOff Tryz.prog 59 2 = some 2 := by kernel_rfl
theorem lost_hit {cs : List Cau} {ch : List Nat} {c : Carr} {k : Nat} (hk : k < ch.length) (h : hitB (cauAt cs ch[k]) c = true) : lostB cs ch c = true := by
  unfold lostB
  rw [List.any_eq_true]
  exact ⟨ch[k], List.getElem_mem hk, h⟩
theorem lost_none {cs : List Cau} {ch : List Nat} {c : Carr} (h : ∀ i ∈ ch.take ch.length, hitB (cauAt cs i) c = false) : lostB cs ch c = false := by
  rw [List.take_length] at h
  unfold lostB
  rw [List.any_eq_false]
  exact fun i hi => by rw [h i hi]; simp
theorem lost_step {cs : List Cau} {ch : List Nat} {c : Carr} {k : Nat} (hk : k < ch.length) (h : ∀ i ∈ ch.take k, hitB (cauAt cs i) c = false) (h2 : hitB (cauAt cs ch[k]) c = false) : ∀ i ∈ ch.take (k + 1), hitB (cauAt cs i) c = false := by
  intro i hi
  rw [List.take_add_one, List.getElem?_eq_getElem hk, Option.toList_some, List.mem_append, List.mem_singleton] at hi
  rcases hi with hi | rfl
  · exact h i hi
  · exact h2
theorem pls_next {on : List Carr} {k : Nat} (hk : k < on.length) : (plsR (on.take (k + 1))).map fldD = (plsR (on.take k)).map fldD ++ [[.v (.string on[k].place)]] := by
  rw [List.take_add_one, List.getElem?_eq_getElem hk, Option.toList_some]
  unfold plsR
  rw [List.map_append, List.map_append]
  rfl
theorem kds_next {on : List Carr} {k : Nat} (hk : k < on.length) : (kdsR (on.take (k + 1))).map fldD = (kdsR (on.take k)).map fldD ++ [[.v (.string on[k].kind)]] := by
  rw [List.take_add_one, List.getElem?_eq_getElem hk, Option.toList_some]
  unfold kdsR
  rw [List.map_append, List.map_append]
  rfl
theorem rows_2 {i1 e1 s1 i2 e2 s2 : Nat} {a1 b1 a2 b2 : List (List D)} {τ : Obs} (h1 : a1 = b1) (h2 : a2 = b2) : ∀ p ∈ [(i1, Ob.row e1 s1 b1), (i2, Ob.row e2 s2 b2)], p ∈ (i1, Ob.row e1 s1 a1) :: (i2, Ob.row e2 s2 a2) :: τ := fun p hp => by
  subst h1; subst h2
  rcases List.mem_cons.1 hp with rfl | hp
  · exact .head _
  · rw [List.mem_singleton] at hp; subst hp; exact .tail _ (.head _)
theorem mk_next {w : Int} {l : List (List UInt8)} {j : Nat} (hj : j < l.length) : ((l.take (j + 1)).map (mkC w)).map Cau.ds = ((l.take j).map (mkC w)).map Cau.ds ++ [[.v (.int .i64 w), .v (.string ⟨l[j].toArray⟩)]] := by
  rw [List.take_add_one, List.getElem?_eq_getElem hj, Option.toList_some, List.map_append, List.map_append]
  rfl
theorem sortS_len (l : List (List UInt8)) : (sortS l).length = l.length := by unfold sortS; exact List.length_mergeSort _
theorem plsR_len (on : List Carr) : (plsR on).length = on.length := List.length_map ..
theorem kdsR_len (on : List Carr) : (kdsR on).length = on.length := List.length_map ..
def cpR (on : List Carr) : List (List UInt8) := Lib.compact (sortS (plsR on))
def ckR (on : List Carr) : List (List UInt8) := Lib.compact (sortS (kdsR on))
theorem cpR_len (on : List Carr) : (cpR on).length ≤ on.length := by
  unfold cpR
  refine Nat.le_trans (Lib.compact_length_le _) ?_
  rw [sortS_len, plsR_len]; exact Nat.le_refl _
theorem ckR_len (on : List Carr) : (ckR on).length ≤ on.length := by
  unfold ckR
  refine Nat.le_trans (Lib.compact_length_le _) ?_
  rw [sortS_len, kdsR_len]; exact Nat.le_refl _
theorem cauR_eq (on : List Carr) : cauR on = (cpR on).map (mkC 1) ++ (ckR on).map (mkC 2) := rfl


set_option maxRecDepth 100000 in
set_option maxHeartbeats 1000000 in
theorem c_rLost (c : Carr) (cs : List Cau) (ch : List Nat) (hc : ∀ i ∈ ch, i < cs.length) : ACall Tryz.prog 76 [.agg c.ds, .sl (cs.map Cau.ds), .sl (ch.map numD)] (.v (.bool (lostB cs ch c))) := by
  refine acall_of (n := 50) (ds' := [.v (.bool (lostB cs ch c))]) Tryz.func76 rfl (by kernel_rfl) rfl [6] rfl rfl ?_
  intro B w0 F0 fr
  refine AWP.bound 2 rfl (fun hbd2 => ?_)
  rw [List.length_map] at hbd2
  refine AWP.seq (AWP.region ?_)
  refine AOps.step rfl rfl rfl (AOp.box rfl rfl rfl) ?_
  refine AOps.aD rfl rfl rfl rfl rfl (.nil ?_)
  refine AWP.seq ?_
  refine AWP.seq (AWP.region ?_)
  refine AOps.mD rfl rfl rfl rfl rfl ?_
  refine AOps.step rfl rfl rfl (AOp.lenSl rfl et_63.ht rfl) ?_
  refine AOps.mD rfl rfl rfl rfl rfl (.nil ?_)
  refine AWP.block ?_
  refine AWP.loop (G := Nat) (fun k => Env.of [(11, .d (.v (.int .i64 (k : Int)))), (9, .d (.sl (ch.map numD))), (10, .d (.v (.int .i64 ((ch.map numD).length : Int)))), (1, .d (.sl (cs.map Cau.ds))), (3, .d (.fp c.ds))]) (fun k => []) (fun k => k ≤ ch.length ∧ ∀ i ∈ ch.take k, hitB (cauAt cs i) c = false) (fun k => ch.length - k) 0 ⟨Nat.zero_le _, fun c h => by simp at h⟩ (Sub.less ⟨(SLe.of_eq rfl), SLe.refl _, SLe.refl _, SLe.refl _, SLe.refl _, trivial⟩ (fun _ h => h)) ?_
  intro k hk
  refine AWP.seq (AWP.region ?_)
  refine AOps.step rfl rfl rfl (AOp.lss rfl rfl rfl) (.nil ?_)
  refine AWP.seq ?_
  refine AWP.cond rfl (fun h1 => ?_) (fun h1 => ?_)
  · replace h1 := of_decide_eq_true h1
    rw [List.length_map] at h1
    have hlt : k < ch.length := by omega
    have hck := hc ch[k] (List.getElem_mem hlt)
    refine AWP.skip ?_
    refine AWP.seq ?_
    refine AWP.block ?_
    refine AWP.seq (AWP.region ?_)
    refine AOps.step rfl rfl rfl (AOp.indexAddr rfl et_63 rfl rfl k rfl (at_list hlt) rfl) ?_
    refine AOps.step rfl rfl rfl (AOp.load rfl sc_3 rfl) ?_
    refine AOps.aD rfl rfl rfl rfl rfl (.nil ?_)
    refine AWP.seq ?_
    refine AWP.draw (by kernel_rfl) (by kernel_rfl) ?_
    refine DRun.step rfl rfl rfl (AOp.moveD rfl rfl) ?_
    refine DRun.step rfl rfl rfl (AOp.moveD rfl rfl) ?_
    refine DRun.step rfl rfl rfl (AOp.indexAddr rfl et_49 rfl rfl ch[k] rfl (at_list hck) rfl) ?_
    refine DRun.step rfl rfl rfl (AOp.fieldAddr rfl fo_54_0 rfl) ?_
    refine DRun.step rfl rfl rfl (AOp.load rfl sc_3 rfl) ?_
    refine DRun.step rfl rfl rfl (AOp.eql rfl rfl rfl) ?_
    refine DRun.step rfl rfl rfl (AOp.moveD rfl rfl) ?_
    refine DRun.split 21 rfl (fun g2 => ?_) (fun g2 => ?_)
    · replace g2 := of_decide_eq_true g2
      refine DRun.step ⟨21, rfl, .inl ⟨_, rfl, rfl⟩⟩ rfl rfl (AOp.moveD rfl rfl) ?_
      refine DRun.step ⟨21, rfl, .inl ⟨_, rfl, rfl⟩⟩ rfl rfl (AOp.moveD rfl rfl) ?_
      refine DRun.step ⟨21, rfl, .inl ⟨_, rfl, rfl⟩⟩ rfl rfl (AOp.indexAddr rfl et_49 rfl rfl ch[k] rfl (at_list hck) rfl) ?_
      refine DRun.step ⟨21, rfl, .inl ⟨_, rfl, rfl⟩⟩ rfl rfl (AOp.fieldAddr rfl fo_54_1 rfl) ?_
      refine DRun.step ⟨21, rfl, .inl ⟨_, rfl, rfl⟩⟩ rfl rfl (AOp.load rfl sc_9 rfl) ?_
      refine DRun.step ⟨21, rfl, .inl ⟨_, rfl, rfl⟩⟩ rfl rfl (AOp.fieldAddr rfl fo_59_1 rfl) ?_
      refine DRun.step ⟨21, rfl, .inl ⟨_, rfl, rfl⟩⟩ rfl rfl (AOp.load rfl sc_9 rfl) ?_
      refine DRun.step ⟨21, rfl, .inl ⟨_, rfl, rfl⟩⟩ rfl rfl (AOp.seql rfl rfl rfl) ?_
      refine DRun.step rfl rfl rfl (AOp.pickT rfl rfl rfl) ?_
      refine DRun.step rfl rfl rfl (AOp.moveD rfl rfl) ?_
      refine DRun.split 31 rfl (fun g3 => ?_) (fun g3 => ?_)
      · replace g3 := of_decide_eq_true g3
        refine DRun.pass ⟨31, rfl, .inl ⟨_, rfl, rfl⟩⟩ rfl rfl ?_
        refine DRun.pass ⟨31, rfl, .inl ⟨_, rfl, rfl⟩⟩ rfl rfl ?_
        refine DRun.pass ⟨31, rfl, .inl ⟨_, rfl, rfl⟩⟩ rfl rfl ?_
        refine DRun.pass ⟨31, rfl, .inl ⟨_, rfl, rfl⟩⟩ rfl rfl ?_
        refine DRun.pass ⟨31, rfl, .inl ⟨_, rfl, rfl⟩⟩ rfl rfl ?_
        refine DRun.pass ⟨31, rfl, .inl ⟨_, rfl, rfl⟩⟩ rfl rfl ?_
        refine DRun.pass ⟨31, rfl, .inl ⟨_, rfl, rfl⟩⟩ rfl rfl ?_
        refine DRun.pass ⟨38, rfl, .inr ⟨rfl, rfl⟩⟩ rfl rfl ?_
        refine DRun.pass ⟨38, rfl, .inr ⟨rfl, rfl⟩⟩ rfl rfl ?_
        refine DRun.pass ⟨38, rfl, .inr ⟨rfl, rfl⟩⟩ rfl rfl ?_
        refine DRun.pass ⟨38, rfl, .inr ⟨rfl, rfl⟩⟩ rfl rfl ?_
        refine DRun.pass ⟨38, rfl, .inr ⟨rfl, rfl⟩⟩ rfl rfl ?_
        refine DRun.pass ⟨38, rfl, .inr ⟨rfl, rfl⟩⟩ rfl rfl ?_
        refine DRun.pass ⟨38, rfl, .inr ⟨rfl, rfl⟩⟩ rfl rfl ?_
        refine DRun.pass ⟨38, rfl, .inr ⟨rfl, rfl⟩⟩ rfl rfl ?_
        refine DRun.pass ⟨31, rfl, .inl ⟨_, rfl, rfl⟩⟩ rfl rfl ?_
        refine DRun.step rfl rfl rfl (AOp.pickT rfl rfl rfl) ?_
        refine DRun.nil ?_
        refine AWP.cond rfl (fun _ => ?_) (fun h => nomatch h)
        refine AWP.seq (AWP.region ?_)
        refine AOps.aD rfl rfl rfl rfl rfl (.nil ?_)
        refine AWP.ret ?_
        refine ⟨RetD.eq rfl ?_, trivial⟩
        all_goals (first | rfl | (rw [lost_hit hlt (by rw [cauAt_at hck]; unfold hitB; simp_all)]))
      replace g3 := of_decide_eq_false g3
      refine DRun.step ⟨31, rfl, .inl ⟨_, rfl, rfl⟩⟩ rfl rfl (AOp.moveD rfl rfl) ?_
      refine DRun.step ⟨31, rfl, .inl ⟨_, rfl, rfl⟩⟩ rfl rfl (AOp.moveD rfl rfl) ?_
      refine DRun.step ⟨31, rfl, .inl ⟨_, rfl, rfl⟩⟩ rfl rfl (AOp.indexAddr rfl et_49 rfl rfl ch[k] rfl (at_list hck) rfl) ?_
      refine DRun.step ⟨31, rfl, .inl ⟨_, rfl, rfl⟩⟩ rfl rfl (AOp.fieldAddr rfl fo_54_0 rfl) ?_
      refine DRun.step ⟨31, rfl, .inl ⟨_, rfl, rfl⟩⟩ rfl rfl (AOp.load rfl sc_3 rfl) ?_
      refine DRun.step ⟨31, rfl, .inl ⟨_, rfl, rfl⟩⟩ rfl rfl (AOp.eql rfl rfl rfl) ?_
      refine DRun.step ⟨31, rfl, .inl ⟨_, rfl, rfl⟩⟩ rfl rfl (AOp.moveD rfl rfl) ?_
      refine DRun.split 38 rfl (fun g4 => ?_) (fun g4 => ?_)
      · replace g4 := of_decide_eq_true g4
        refine DRun.step ⟨38, rfl, .inl ⟨_, rfl, rfl⟩⟩ rfl rfl (AOp.moveD rfl rfl) ?_
        refine DRun.step ⟨38, rfl, .inl ⟨_, rfl, rfl⟩⟩ rfl rfl (AOp.moveD rfl rfl) ?_
        refine DRun.step ⟨38, rfl, .inl ⟨_, rfl, rfl⟩⟩ rfl rfl (AOp.indexAddr rfl et_49 rfl rfl ch[k] rfl (at_list hck) rfl) ?_
        refine DRun.step ⟨38, rfl, .inl ⟨_, rfl, rfl⟩⟩ rfl rfl (AOp.fieldAddr rfl fo_54_1 rfl) ?_
        refine DRun.step ⟨38, rfl, .inl ⟨_, rfl, rfl⟩⟩ rfl rfl (AOp.load rfl sc_9 rfl) ?_
        refine DRun.step ⟨38, rfl, .inl ⟨_, rfl, rfl⟩⟩ rfl rfl (AOp.fieldAddr rfl fo_59_2 rfl) ?_
        refine DRun.step ⟨38, rfl, .inl ⟨_, rfl, rfl⟩⟩ rfl rfl (AOp.load rfl sc_9 rfl) ?_
        refine DRun.step ⟨38, rfl, .inl ⟨_, rfl, rfl⟩⟩ rfl rfl (AOp.seql rfl rfl rfl) ?_
        refine DRun.step ⟨31, rfl, .inl ⟨_, rfl, rfl⟩⟩ rfl rfl (AOp.pickT rfl rfl rfl) ?_
        refine DRun.step rfl rfl rfl (AOp.pickF rfl rfl rfl) ?_
        refine DRun.nil ?_
        refine AWP.cond rfl (fun h5 => ?_) (fun h5 => ?_)
        · replace h5 := of_decide_eq_true h5
          refine AWP.seq (AWP.region ?_)
          refine AOps.aD rfl rfl rfl rfl rfl (.nil ?_)
          refine AWP.ret ?_
          refine ⟨RetD.eq rfl ?_, trivial⟩
          all_goals (first | rfl | (rw [lost_hit hlt (by rw [cauAt_at hck]; unfold hitB; simp_all)]))
        replace h5 := of_decide_eq_false h5
        refine AWP.skip ?_
        refine AWP.region ?_
        refine AOps.step rfl rfl rfl (AOp.add64 rfl rfl rfl (by omega) (by omega)) ?_
        refine AOps.mD rfl rfl rfl rfl rfl (.nil ?_)
        refine ⟨k + 1, ⟨by omega, lost_step hlt hk.2 (by rw [cauAt_at hck]; unfold hitB; simp_all)⟩, (by dsimp only; omega), Sub.less ⟨(SLe.of_eq rfl), SLe.refl _, SLe.refl _, SLe.refl _, SLe.refl _, trivial⟩ (fun _ h => h)⟩
      replace g4 := of_decide_eq_false g4
      refine DRun.pass ⟨38, rfl, .inl ⟨_, rfl, rfl⟩⟩ rfl rfl ?_
      refine DRun.pass ⟨38, rfl, .inl ⟨_, rfl, rfl⟩⟩ rfl rfl ?_
      refine DRun.pass ⟨38, rfl, .inl ⟨_, rfl, rfl⟩⟩ rfl rfl ?_
      refine DRun.pass ⟨38, rfl, .inl ⟨_, rfl, rfl⟩⟩ rfl rfl ?_
      refine DRun.pass ⟨38, rfl, .inl ⟨_, rfl, rfl⟩⟩ rfl rfl ?_
      refine DRun.pass ⟨38, rfl, .inl ⟨_, rfl, rfl⟩⟩ rfl rfl ?_
      refine DRun.pass ⟨38, rfl, .inl ⟨_, rfl, rfl⟩⟩ rfl rfl ?_
      refine DRun.pass ⟨38, rfl, .inl ⟨_, rfl, rfl⟩⟩ rfl rfl ?_
      refine DRun.step ⟨31, rfl, .inl ⟨_, rfl, rfl⟩⟩ rfl rfl (AOp.pickF rfl rfl rfl) ?_
      refine DRun.step rfl rfl rfl (AOp.pickF rfl rfl rfl) ?_
      refine DRun.nil ?_
      refine AWP.cond rfl (fun h => nomatch h) (fun _ => ?_)
      refine AWP.skip ?_
      refine AWP.region ?_
      refine AOps.step rfl rfl rfl (AOp.add64 rfl rfl rfl (by omega) (by omega)) ?_
      refine AOps.mD rfl rfl rfl rfl rfl (.nil ?_)
      refine ⟨k + 1, ⟨by omega, lost_step hlt hk.2 (by rw [cauAt_at hck]; unfold hitB; simp_all)⟩, (by dsimp only; omega), Sub.less ⟨(SLe.of_eq rfl), SLe.refl _, SLe.refl _, SLe.refl _, SLe.refl _, trivial⟩ (fun _ h => h)⟩
    replace g2 := of_decide_eq_false g2
    refine DRun.pass ⟨21, rfl, .inl ⟨_, rfl, rfl⟩⟩ rfl rfl ?_
    refine DRun.pass ⟨21, rfl, .inl ⟨_, rfl, rfl⟩⟩ rfl rfl ?_
    refine DRun.pass ⟨21, rfl, .inl ⟨_, rfl, rfl⟩⟩ rfl rfl ?_
    refine DRun.pass ⟨21, rfl, .inl ⟨_, rfl, rfl⟩⟩ rfl rfl ?_
    refine DRun.pass ⟨21, rfl, .inl ⟨_, rfl, rfl⟩⟩ rfl rfl ?_
    refine DRun.pass ⟨21, rfl, .inl ⟨_, rfl, rfl⟩⟩ rfl rfl ?_
    refine DRun.pass ⟨21, rfl, .inl ⟨_, rfl, rfl⟩⟩ rfl rfl ?_
    refine DRun.pass ⟨21, rfl, .inl ⟨_, rfl, rfl⟩⟩ rfl rfl ?_
    refine DRun.step rfl rfl rfl (AOp.pickF rfl rfl rfl) ?_
    refine DRun.step rfl rfl rfl (AOp.moveD rfl rfl) ?_
    refine DRun.step ⟨31, rfl, .inl ⟨_, rfl, rfl⟩⟩ rfl rfl (AOp.moveD rfl rfl) ?_
    refine DRun.step ⟨31, rfl, .inl ⟨_, rfl, rfl⟩⟩ rfl rfl (AOp.moveD rfl rfl) ?_
    refine DRun.step ⟨31, rfl, .inl ⟨_, rfl, rfl⟩⟩ rfl rfl (AOp.indexAddr rfl et_49 rfl rfl ch[k] rfl (at_list hck) rfl) ?_
    refine DRun.step ⟨31, rfl, .inl ⟨_, rfl, rfl⟩⟩ rfl rfl (AOp.fieldAddr rfl fo_54_0 rfl) ?_
    refine DRun.step ⟨31, rfl, .inl ⟨_, rfl, rfl⟩⟩ rfl rfl (AOp.load rfl sc_3 rfl) ?_
    refine DRun.step ⟨31, rfl, .inl ⟨_, rfl, rfl⟩⟩ rfl rfl (AOp.eql rfl rfl rfl) ?_
    refine DRun.step ⟨31, rfl, .inl ⟨_, rfl, rfl⟩⟩ rfl rfl (AOp.moveD rfl rfl) ?_
    refine DRun.split 38 rfl (fun g6 => ?_) (fun g6 => ?_)
    · replace g6 := of_decide_eq_true g6
      refine DRun.step ⟨38, rfl, .inl ⟨_, rfl, rfl⟩⟩ rfl rfl (AOp.moveD rfl rfl) ?_
      refine DRun.step ⟨38, rfl, .inl ⟨_, rfl, rfl⟩⟩ rfl rfl (AOp.moveD rfl rfl) ?_
      refine DRun.step ⟨38, rfl, .inl ⟨_, rfl, rfl⟩⟩ rfl rfl (AOp.indexAddr rfl et_49 rfl rfl ch[k] rfl (at_list hck) rfl) ?_
      refine DRun.step ⟨38, rfl, .inl ⟨_, rfl, rfl⟩⟩ rfl rfl (AOp.fieldAddr rfl fo_54_1 rfl) ?_
      refine DRun.step ⟨38, rfl, .inl ⟨_, rfl, rfl⟩⟩ rfl rfl (AOp.load rfl sc_9 rfl) ?_
      refine DRun.step ⟨38, rfl, .inl ⟨_, rfl, rfl⟩⟩ rfl rfl (AOp.fieldAddr rfl fo_59_2 rfl) ?_
      refine DRun.step ⟨38, rfl, .inl ⟨_, rfl, rfl⟩⟩ rfl rfl (AOp.load rfl sc_9 rfl) ?_
      refine DRun.step ⟨38, rfl, .inl ⟨_, rfl, rfl⟩⟩ rfl rfl (AOp.seql rfl rfl rfl) ?_
      refine DRun.step ⟨31, rfl, .inl ⟨_, rfl, rfl⟩⟩ rfl rfl (AOp.pickT rfl rfl rfl) ?_
      refine DRun.step rfl rfl rfl (AOp.pickF rfl rfl rfl) ?_
      refine DRun.nil ?_
      refine AWP.cond rfl (fun h7 => ?_) (fun h7 => ?_)
      · replace h7 := of_decide_eq_true h7
        refine AWP.seq (AWP.region ?_)
        refine AOps.aD rfl rfl rfl rfl rfl (.nil ?_)
        refine AWP.ret ?_
        refine ⟨RetD.eq rfl ?_, trivial⟩
        all_goals (first | rfl | (rw [lost_hit hlt (by rw [cauAt_at hck]; unfold hitB; simp_all)]))
      replace h7 := of_decide_eq_false h7
      refine AWP.skip ?_
      refine AWP.region ?_
      refine AOps.step rfl rfl rfl (AOp.add64 rfl rfl rfl (by omega) (by omega)) ?_
      refine AOps.mD rfl rfl rfl rfl rfl (.nil ?_)
      refine ⟨k + 1, ⟨by omega, lost_step hlt hk.2 (by rw [cauAt_at hck]; unfold hitB; simp_all)⟩, (by dsimp only; omega), Sub.less ⟨(SLe.of_eq rfl), SLe.refl _, SLe.refl _, SLe.refl _, SLe.refl _, trivial⟩ (fun _ h => h)⟩
    replace g6 := of_decide_eq_false g6
    refine DRun.pass ⟨38, rfl, .inl ⟨_, rfl, rfl⟩⟩ rfl rfl ?_
    refine DRun.pass ⟨38, rfl, .inl ⟨_, rfl, rfl⟩⟩ rfl rfl ?_
    refine DRun.pass ⟨38, rfl, .inl ⟨_, rfl, rfl⟩⟩ rfl rfl ?_
    refine DRun.pass ⟨38, rfl, .inl ⟨_, rfl, rfl⟩⟩ rfl rfl ?_
    refine DRun.pass ⟨38, rfl, .inl ⟨_, rfl, rfl⟩⟩ rfl rfl ?_
    refine DRun.pass ⟨38, rfl, .inl ⟨_, rfl, rfl⟩⟩ rfl rfl ?_
    refine DRun.pass ⟨38, rfl, .inl ⟨_, rfl, rfl⟩⟩ rfl rfl ?_
    refine DRun.pass ⟨38, rfl, .inl ⟨_, rfl, rfl⟩⟩ rfl rfl ?_
    refine DRun.step ⟨31, rfl, .inl ⟨_, rfl, rfl⟩⟩ rfl rfl (AOp.pickF rfl rfl rfl) ?_
    refine DRun.step rfl rfl rfl (AOp.pickF rfl rfl rfl) ?_
    refine DRun.nil ?_
    refine AWP.cond rfl (fun h => nomatch h) (fun _ => ?_)
    refine AWP.skip ?_
    refine AWP.region ?_
    refine AOps.step rfl rfl rfl (AOp.add64 rfl rfl rfl (by omega) (by omega)) ?_
    refine AOps.mD rfl rfl rfl rfl rfl (.nil ?_)
    refine ⟨k + 1, ⟨by omega, lost_step hlt hk.2 (by rw [cauAt_at hck]; unfold hitB; simp_all)⟩, (by dsimp only; omega), Sub.less ⟨(SLe.of_eq rfl), SLe.refl _, SLe.refl _, SLe.refl _, SLe.refl _, trivial⟩ (fun _ h => h)⟩
  replace h1 := of_decide_eq_false h1
  rw [List.length_map] at h1
  obtain rfl : k = ch.length := by omega
  rw [lost_none hk.2]
  refine AWP.exit ?_
  refine AWP.seq (AWP.region ?_)
  refine AOps.aD rfl rfl rfl rfl rfl (.nil ?_)
  refine AWP.ret ?_
  refine ⟨RetD.eq rfl ?_, trivial⟩
  all_goals (first | rfl | (rw [lost_hit hlt (by rw [cauAt_at hck]; unfold hitB; simp_all)]))

end Go.Proofs.YtieccphckobhjaaGreatDoor


namespace Go.Proofs.YtieccphckobhjaaGreatDoor
open Go.RowKit
set_option linter.unusedVariables false

/-! Types. -/
namespace TyZ4
theorem ag_59 : AggT Tryz.prog 59 5 := .of (by kernel_rfl)
theorem bu_54 : StructT Tryz.prog 54 (fun i => (#[(0, 1), (1, 1)] : Array (Nat × Nat))[i]?) [(.int .i64 0), (.string ⟨#[]⟩)] := .of (by kernel_rfl) (by kernel_rfl) (by decide)
theorem et_159 : ElemTy Tryz.prog 159 9 1 16 (.string ⟨#[]⟩) := ⟨by kernel_rfl, by kernel_rfl, by kernel_rfl, by decide⟩
theorem et_23 : ElemTy Tryz.prog 23 59 5 64 (.agg #[(.string ⟨#[]⟩), (.string ⟨#[]⟩), (.string ⟨#[]⟩), (.int .i64 0), (.int .i64 0)]) := ⟨by kernel_rfl, by kernel_rfl, by kernel_rfl, by decide⟩
theorem et_49 : ElemTy Tryz.prog 49 54 2 24 (.agg #[(.int .i64 0), (.string ⟨#[]⟩)]) := ⟨by kernel_rfl, by kernel_rfl, by kernel_rfl, by decide⟩
theorem sc_9 : Scal Tryz.prog 9 := .of (by kernel_rfl)
theorem sz_59 : ∀ w, (sizeOf 59).run Tryz.prog w = .ok 5 w := SizeT.of (by kernel_rfl)
theorem zt_59 : (Tryz.prog.info? 59).bind (·.zero) = some (.agg #[(.string ⟨#[]⟩), (.string ⟨#[]⟩), (.string ⟨#[]⟩), (.int .i64 0), (.int .i64 0)]) := by kernel_rfl
end TyZ4
open TyZ4

set_option maxRecDepth 100000 in
set_option maxHeartbeats 4000000 in
theorem c_rCauses (on : List Carr) (hn : on.length ≤ 1000) (cs : List Cau) (hcs : Lib.compact (sortC (cauP on)) = cs) : ACall Tryz.prog 73 [.sl (on.map Carr.ds)] (.sl (cs.map Cau.ds)) := by
  refine acall_of (n := 60) (ds' := [.sl (cs.map Cau.ds)]) Tryz.func73 rfl (by kernel_rfl) rfl [2] rfl rfl ?_
  intro B w0 F0 fr
  subst hcs
  rw [cau_same, cauR_eq]
  have hcp := cpR_len on
  have hck := ckR_len on
  refine AWP.seq (AWP.region ?_)
  refine AOps.aD rfl rfl rfl rfl rfl (.nil ?_)
  refine AWP.seq (AWP.region ?_)
  refine AOps.aD rfl rfl rfl rfl rfl ?_
  refine AOps.aD rfl rfl rfl rfl rfl (.nil ?_)
  refine AWP.seq ?_
  refine AWP.seq (AWP.region ?_)
  refine AOps.mD rfl rfl rfl rfl rfl ?_
  refine AOps.step rfl rfl rfl (AOp.lenSl rfl et_23.ht rfl) ?_
  refine AOps.mD rfl rfl rfl rfl rfl (.nil ?_)
  refine AWP.block ?_
  refine AWP.adopt 3 71 9 1 rfl rfl ?_
  refine AWP.adopt 4 72 9 1 rfl rfl ?_
  refine AWP.loop (G := Nat) (fun k => Env.of [(14, .d (.v (.int .i64 (k : Int)))), (12, .d (.sl (on.map Carr.ds))), (13, .d (.v (.int .i64 ((on.map Carr.ds).length : Int)))), (3, .own 71), (4, .own 72)]) (fun k => [(72, .row 9 1 ((kdsR (on.take k)).map fldD)), (71, .row 9 1 ((plsR (on.take k)).map fldD))]) (fun k => k ≤ on.length) (fun k => on.length - k) 0 (Nat.zero_le _) (Sub.less ⟨(SLe.of_eq rfl), SLe.refl _, SLe.refl _, SLe.refl _, SLe.refl _, trivial⟩ (rows_2 rfl rfl)) ?_
  intro k hk
  refine AWP.seq (AWP.region ?_)
  refine AOps.step rfl rfl rfl (AOp.lss rfl rfl rfl) (.nil ?_)
  refine AWP.seq ?_
  refine AWP.cond rfl (fun h1 => ?_) (fun h1 => ?_)
  · replace h1 := of_decide_eq_true h1
    rw [List.length_map] at h1
    have hlt : k < on.length := by omega
    have hP := pls_next hlt
    have hK := kds_next hlt
    refine AWP.skip ?_
    refine AWP.seq ?_
    refine AWP.block ?_
    refine AWP.seq (AWP.region ?_)
    refine AOps.step rfl rfl rfl (AOp.indexAddr rfl et_23 rfl rfl k rfl (at_list hlt) rfl) ?_
    refine AOps.step rfl rfl rfl (AOp.loadAgg rfl ag_59 rfl rfl) ?_
    refine AOps.alloc 101 rfl rfl rfl rfl zt_59 rfl rfl rfl ?_
    refine AOps.store rfl rfl rfl sz_59 rfl (.head _) rfl rfl rfl (Nat.le_of_ble_eq_true rfl) ?_
    refine AOps.freezeCells 6 (ds := on[k].ds) rfl (.head _) (.nil ?_)
    refine AWP.drawLTail 10 [⟨71, [3, 18, 22]⟩, ⟨72, [4, 23, 27]⟩] [(4, [3, 18, 22]), (9, [4, 23, 27])] (fun _ => True) (by kernel_rfl) (by kernel_rfl) (by kernel_rfl) (by kernel_rfl) ?_
    refine LRun.step rfl rfl rfl trivial (fun τ _ => AOp.moveO rfl rfl) ?_ rfl ⟨.inl rfl, .inr rfl, trivial⟩
    refine LRun.step rfl rfl rfl trivial (fun τ _ => AOp.fieldAddr (ds := on[k].ds) rfl hfoC1 rfl) ?_ rfl ⟨.inr rfl, .inr rfl, trivial⟩
    refine LRun.step rfl rfl rfl trivial (fun τ _ => AOp.load rfl hscS rfl) ?_ rfl ⟨.inr rfl, .inr rfl, trivial⟩
    refine LRun.step rfl rfl rfl trivial (fun τ _ => AOp.buildSlice rfl hetS (.cons rfl rfl rfl .nil) rfl (by decide)) ?_ rfl ⟨.inr rfl, .inr rfl, trivial⟩
    refine LRun.eff rfl rfl trivial trivial (GE.append3 71 18 3 (.head _) (fun t h1 h2 h3 => by simp [h1, h2, h3]) (by decide) (by decide) (by decide) rfl rfl rfl rfl hetS rfl (.tail _ (.head _)) rfl (fun y hy => by obtain rfl := List.mem_singleton.1 hy; rfl) (by simp [plsR]; omega) (by simp [plsR]; omega) rfl) ?_ (cl_triple2 rfl rfl rfl rfl rfl rfl)
    refine LRun.step rfl rfl rfl trivial (fun τ _ => AOp.moveO rfl rfl) ?_ rfl ⟨.inr rfl, .inl rfl, trivial⟩
    refine LRun.step rfl rfl rfl trivial (fun τ _ => AOp.fieldAddr (ds := on[k].ds) rfl hfoC2 rfl) ?_ rfl ⟨.inr rfl, .inr rfl, trivial⟩
    refine LRun.step rfl rfl rfl trivial (fun τ _ => AOp.load rfl hscS rfl) ?_ rfl ⟨.inr rfl, .inr rfl, trivial⟩
    refine LRun.step rfl rfl rfl trivial (fun τ _ => AOp.buildSlice rfl hetS (.cons rfl rfl rfl .nil) rfl (by decide)) ?_ rfl ⟨.inr rfl, .inr rfl, trivial⟩
    refine LRun.eff rfl rfl trivial trivial (GE.append3 72 23 4 (.tail _ (.head _)) (fun t h1 h2 h3 => by simp [h1, h2, h3]) (by decide) (by decide) (by decide) rfl rfl rfl rfl hetS rfl (.head _) rfl (fun y hy => by obtain rfl := List.mem_singleton.1 hy; rfl) (by simp [kdsR]; omega) (by simp [kdsR]; omega) rfl) ?_ (cl_triple2' rfl rfl rfl rfl rfl rfl)
    refine LRun.nil ?_
    refine AOps.step rfl rfl rfl (AOp.assignO rfl rfl) ?_
    refine AOps.step rfl rfl rfl (AOp.assignO rfl rfl) (.nil ?_)
    refine AWP.region ?_
    refine AOps.step rfl rfl rfl (AOp.add64 rfl rfl rfl (by omega) (by omega)) ?_
    refine AOps.mD rfl rfl rfl rfl rfl (.nil ?_)
    refine ⟨k + 1, (by omega), (by dsimp only; omega), Sub.less ⟨(SLe.of_eq rfl), SLe.refl _, SLe.refl _, SLe.refl _, SLe.refl _, trivial⟩ (rows_2 hK.symm hP.symm)⟩
  replace h1 := of_decide_eq_false h1
  rw [List.length_map] at h1
  obtain rfl : k = on.length := by omega
  rw [List.take_length]
  refine AWP.exit ?_
  refine AWP.seq (AWP.region ?_)
  refine AOps.step rfl rfl rfl (AOp.moveO rfl rfl) ?_
  -- turns 71
  refine AOps.callX rfl rfl rfl (.cons (SLe.refl _) .nil) ((c_sort (plsR on) (by rw [plsR_len]; omega) 9) 71) ⟨(.tail _ (.head _)), trivial⟩ rfl rfl (fun _ h => nomatch h) ?_
  refine AOps.nil ?_
  refine AWP.seq (AWP.region ?_)
  refine AOps.step rfl rfl rfl (AOp.moveO rfl rfl) ?_
  -- turns 72
  refine AOps.callX rfl rfl rfl (.cons (SLe.refl _) .nil) ((c_sort (kdsR on) (by rw [kdsR_len]; omega) 9) 72) ⟨(.tail _ (.head _)), trivial⟩ rfl rfl (fun _ h => nomatch h) ?_
  refine AOps.nil ?_
  refine AWP.seq (AWP.region ?_)
  refine AOps.aD rfl rfl rfl rfl rfl (.nil ?_)
  refine AWP.seq ?_
  refine AWP.seq (AWP.region ?_)
  refine AOps.step rfl rfl rfl (AOp.moveO rfl rfl) ?_
  -- takes 71
  refine AOps.callX rfl rfl rfl (.cons (SLe.refl _) .nil) ((c_compact (sortS (plsR on)) (by rw [sortS_len, plsR_len]; omega) 9) 71) ⟨(.tail _ (.head _)), trivial⟩ rfl rfl (fun _ h => nomatch h) ?_
  rw [show Lib.compact (sortS (plsR on)) = cpR on from rfl]
  refine AOps.step rfl rfl rfl (AOp.lenSl rfl et_159.ht rfl) ?_
  refine AOps.mD rfl rfl rfl rfl rfl (.nil ?_)
  refine AWP.block ?_
  refine AWP.adopt 7 73 54 2 rfl rfl ?_
  refine AWP.loop (G := Nat) (fun j => Env.of [(36, .d (.v (.int .i64 (j : Int)))), (34, .d (.sl ((cpR on).map fldD))), (35, .d (.v (.int .i64 (((cpR on).map fldD).length : Int)))), (4, .own 72), (7, .own 73)]) (fun j => [(73, .row 54 2 (((((cpR on).take j).map (mkC 1))).map Cau.ds)), (72, .row 9 1 ((sortS (kdsR on)).map fldD))]) (fun j => j ≤ (cpR on).length) (fun j => (cpR on).length - j) 0 (Nat.zero_le _) (Sub.less ⟨(SLe.of_eq rfl), SLe.refl _, SLe.refl _, SLe.refl _, SLe.refl _, trivial⟩ (rows_2 rfl rfl)) ?_
  intro j hj
  refine AWP.seq (AWP.region ?_)
  refine AOps.step rfl rfl rfl (AOp.lss rfl rfl rfl) (.nil ?_)
  refine AWP.seq ?_
  refine AWP.cond rfl (fun h2 => ?_) (fun h2 => ?_)
  · replace h2 := of_decide_eq_true h2
    rw [List.length_map] at h2
    have hjl : j < (cpR on).length := by omega
    have hN := mk_next (w := 1) hjl
    refine AWP.skip ?_
    refine AWP.seq ?_
    refine AWP.block ?_
    refine AWP.seq (AWP.region ?_)
    refine AOps.step rfl rfl rfl (AOp.indexAddr rfl et_159 rfl rfl j rfl (at_list hjl) rfl) ?_
    refine AOps.step rfl rfl rfl (AOp.load rfl sc_9 rfl) ?_
    refine AOps.aD rfl rfl rfl rfl rfl (.nil ?_)
    refine AWP.region ?_
    refine AOps.step rfl rfl rfl (AOp.moveO rfl rfl) ?_
    refine AOps.mD rfl rfl rfl rfl rfl ?_
    refine AOps.step rfl rfl rfl (AOp.build rfl bu_54 (.cons rfl rfl (.cons rfl rfl .nil)) rfl) ?_
    refine AOps.step rfl rfl rfl (AOp.buildSlice rfl et_49 (.cons rfl rfl rfl .nil) rfl (by decide)) ?_
    -- append 44
    refine AOps.append rfl rfl rfl rfl et_49 rfl (.head _) rfl (fun y hy => by obtain rfl := List.mem_singleton.1 hy; rfl) (by simp; omega) (by simp; omega) ?_
    refine AOps.step rfl rfl rfl (AOp.assignO rfl rfl) (.nil ?_)
    refine AWP.region ?_
    refine AOps.step rfl rfl rfl (AOp.add64 rfl rfl rfl (by omega) (by omega)) ?_
    refine AOps.mD rfl rfl rfl rfl rfl (.nil ?_)
    refine ⟨j + 1, (by omega), (by dsimp only; omega), Sub.less ⟨(SLe.of_eq rfl), SLe.refl _, SLe.refl _, SLe.refl _, SLe.refl _, trivial⟩ (rows_2 hN.symm rfl)⟩
  replace h2 := of_decide_eq_false h2
  rw [List.length_map] at h2
  obtain rfl : j = (cpR on).length := by omega
  rw [List.take_length]
  refine AWP.exit ?_
  refine AWP.seq ?_
  refine AWP.seq (AWP.region ?_)
  refine AOps.step rfl rfl rfl (AOp.moveO rfl rfl) ?_
  -- takes 72
  refine AOps.callX rfl rfl rfl (.cons (SLe.refl _) .nil) ((c_compact (sortS (kdsR on)) (by rw [sortS_len, kdsR_len]; omega) 9) 72) ⟨(.tail _ (.head _)), trivial⟩ rfl rfl (fun _ h => nomatch h) ?_
  rw [show Lib.compact (sortS (kdsR on)) = ckR on from rfl]
  refine AOps.step rfl rfl rfl (AOp.lenSl rfl et_159.ht rfl) ?_
  refine AOps.mD rfl rfl rfl rfl rfl (.nil ?_)
  refine AWP.block ?_
  refine AWP.loop (G := Nat) (fun i => Env.of [(49, .d (.v (.int .i64 (i : Int)))), (47, .d (.sl ((ckR on).map fldD))), (48, .d (.v (.int .i64 (((ckR on).map fldD).length : Int)))), (7, .own 73)]) (fun i => [(73, .row 54 2 (((cpR on).map (mkC 1) ++ ((ckR on).take i).map (mkC 2)).map Cau.ds))]) (fun i => i ≤ (ckR on).length) (fun i => (ckR on).length - i) 0 (Nat.zero_le _) (Sub.less ⟨(SLe.of_eq rfl), SLe.refl _, SLe.refl _, SLe.refl _, trivial⟩ (row_same (by simp))) ?_
  intro i hi
  refine AWP.seq (AWP.region ?_)
  refine AOps.step rfl rfl rfl (AOp.lss rfl rfl rfl) (.nil ?_)
  refine AWP.seq ?_
  refine AWP.cond rfl (fun h3 => ?_) (fun h3 => ?_)
  · replace h3 := of_decide_eq_true h3
    rw [List.length_map] at h3
    have hil : i < (ckR on).length := by omega
    have hN := mk_next (w := 2) hil
    refine AWP.skip ?_
    refine AWP.seq ?_
    refine AWP.block ?_
    refine AWP.seq (AWP.region ?_)
    refine AOps.step rfl rfl rfl (AOp.indexAddr rfl et_159 rfl rfl i rfl (at_list hil) rfl) ?_
    refine AOps.step rfl rfl rfl (AOp.load rfl sc_9 rfl) ?_
    refine AOps.aD rfl rfl rfl rfl rfl (.nil ?_)
    refine AWP.region ?_
    refine AOps.step rfl rfl rfl (AOp.moveO rfl rfl) ?_
    refine AOps.mD rfl rfl rfl rfl rfl ?_
    refine AOps.step rfl rfl rfl (AOp.build rfl bu_54 (.cons rfl rfl (.cons rfl rfl .nil)) rfl) ?_
    refine AOps.step rfl rfl rfl (AOp.buildSlice rfl et_49 (.cons rfl rfl rfl .nil) rfl (by decide)) ?_
    -- append 57
    refine AOps.append rfl rfl rfl rfl et_49 rfl (.head _) rfl (fun y hy => by obtain rfl := List.mem_singleton.1 hy; rfl) (by simp; omega) (by simp; omega) ?_
    refine AOps.step rfl rfl rfl (AOp.assignO rfl rfl) (.nil ?_)
    refine AWP.region ?_
    refine AOps.step rfl rfl rfl (AOp.add64 rfl rfl rfl (by omega) (by omega)) ?_
    refine AOps.mD rfl rfl rfl rfl rfl (.nil ?_)
    refine ⟨i + 1, (by omega), (by dsimp only; omega), Sub.less ⟨(SLe.of_eq rfl), SLe.refl _, SLe.refl _, SLe.refl _, trivial⟩ (row_same (by rw [List.map_append, List.map_append, hN, ← List.append_assoc]; rfl))⟩
  replace h3 := of_decide_eq_false h3
  rw [List.length_map] at h3
  obtain rfl : i = (ckR on).length := by omega
  rw [List.take_length]
  refine AWP.exit ?_
  refine AWP.seq (AWP.region ?_)
  refine AOps.step rfl rfl rfl (AOp.moveO rfl rfl) ?_
  refine AOps.step rfl rfl rfl (AOp.assignO rfl rfl) (.nil ?_)
  refine AWP.ret ?_
  refine ⟨RetD.own rfl (.head _) ?_, trivial⟩
  all_goals (rfl)

end Go.Proofs.YtieccphckobhjaaGreatDoor


namespace Go.Proofs.YtieccphckobhjaaGreatDoor
open Go.RowKit
set_option linter.unusedVariables false

/-! Types. -/
namespace TyZ5
theorem ag_26 : AggT Tryz.prog 26 3 := .of (by kernel_rfl)
theorem ag_54 : AggT Tryz.prog 54 2 := .of (by kernel_rfl)
theorem ag_59 : AggT Tryz.prog 59 5 := .of (by kernel_rfl)
theorem ag_65 : AggT Tryz.prog 65 7 := .of (by kernel_rfl)
theorem et_23 : ElemTy Tryz.prog 23 59 5 64 (.agg #[(.string ⟨#[]⟩), (.string ⟨#[]⟩), (.string ⟨#[]⟩), (.int .i64 0), (.int .i64 0)]) := ⟨by kernel_rfl, by kernel_rfl, by kernel_rfl, by decide⟩
theorem et_24 : ElemTy Tryz.prog 24 65 7 96 (.agg #[(.string ⟨#[]⟩), (.string ⟨#[]⟩), (.string ⟨#[]⟩), (.int .i64 0), (.int .i64 0), (.int .i64 0), (.slice none 0 0)]) := ⟨by kernel_rfl, by kernel_rfl, by kernel_rfl, by decide⟩
theorem et_49 : ElemTy Tryz.prog 49 54 2 24 (.agg #[(.int .i64 0), (.string ⟨#[]⟩)]) := ⟨by kernel_rfl, by kernel_rfl, by kernel_rfl, by decide⟩
theorem et_63 : ElemTy Tryz.prog 63 3 1 8 (.int .i64 0) := ⟨by kernel_rfl, by kernel_rfl, by kernel_rfl, by decide⟩
theorem fo_26_1 : fieldOff Tryz.prog 26 1 = some 1 := by kernel_rfl
theorem fo_26_2 : fieldOff Tryz.prog 26 2 = some 2 := by kernel_rfl
theorem fo_65_0 : fieldOff Tryz.prog 65 0 = some 0 := by kernel_rfl
theorem fo_65_1 : fieldOff Tryz.prog 65 1 = some 1 := by kernel_rfl
theorem fo_65_6 : fieldOff Tryz.prog 65 6 = some 6 := by kernel_rfl
theorem sc_23 : Scal Tryz.prog 23 := .of (by kernel_rfl)
theorem sc_24 : Scal Tryz.prog 24 := .of (by kernel_rfl)
theorem sc_3 : Scal Tryz.prog 3 := .of (by kernel_rfl)
theorem sc_63 : Scal Tryz.prog 63 := .of (by kernel_rfl)
theorem sc_9 : Scal Tryz.prog 9 := .of (by kernel_rfl)
theorem sz_59 : ∀ w, (sizeOf 59).run Tryz.prog w = .ok 5 w := SizeT.of (by kernel_rfl)
theorem sz_65 : ∀ w, (sizeOf 65).run Tryz.prog w = .ok 7 w := SizeT.of (by kernel_rfl)
theorem zt_59 : (Tryz.prog.info? 59).bind (·.zero) = some (.agg #[(.string ⟨#[]⟩), (.string ⟨#[]⟩), (.string ⟨#[]⟩), (.int .i64 0), (.int .i64 0)]) := by kernel_rfl
theorem zt_65 : (Tryz.prog.info? 65).bind (·.zero) = some (.agg #[(.string ⟨#[]⟩), (.string ⟨#[]⟩), (.string ⟨#[]⟩), (.int .i64 0), (.int .i64 0), (.int .i64 0), (.slice none 0 0)]) := by kernel_rfl
end TyZ5
open TyZ5


def rOnTo (v : Vlt) (it : ByteArray) (k : Nat) : List Carr := ((v.copies.take k).filter fun c => ofItem it c && okB c).map fun c => carrAt v c.carrier
theorem rOn_all (v : Vlt) (it : ByteArray) : rOnTo v it v.copies.length = onW v it := by
  unfold rOnTo onW copiesOf
  rw [List.take_length, List.filter_filter]
  congr 2
  funext c
  exact Bool.and_comm _ _
theorem rOn_yes {v : Vlt} {it : ByteArray} {k : Nat} (hk : k < v.copies.length) (h : (ofItem it v.copies[k] && okB v.copies[k]) = true) : rOnTo v it (k + 1) = rOnTo v it k ++ [carrAt v v.copies[k].carrier] := by
  unfold rOnTo; rw [filter_yes hk h, List.map_append]; rfl
theorem rOn_no {v : Vlt} {it : ByteArray} {k : Nat} (hk : k < v.copies.length) (h : (ofItem it v.copies[k] && okB v.copies[k]) = false) : rOnTo v it (k + 1) = rOnTo v it k := by
  unfold rOnTo; rw [filter_no hk h]
theorem rOn_len (v : Vlt) (it : ByteArray) (k : Nat) : (rOnTo v it k).length ≤ k := by
  unfold rOnTo
  rw [List.length_map]
  refine Nat.le_trans (List.length_filter_le _ _) ?_
  rw [List.length_take]; omega
theorem all_yes {on : List Carr} {f : Carr → Bool} {k : Nat} (hk : k < on.length) (h : (on.take k).all f = true) : (on.take (k + 1)).all f = f on[k] := by
  rw [List.take_add_one, List.getElem?_eq_getElem hk, Option.toList_some, List.all_append, h]; simp
theorem all_no {on : List Carr} {f : Carr → Bool} {k : Nat} (hk : k < on.length) (h : (on.take k).all f = false) : (on.take (k + 1)).all f = false := by
  rw [List.take_add_one, List.getElem?_eq_getElem hk, Option.toList_some, List.all_append, h]; rfl
theorem outC_next {cs : List Cau} {l : List Nat} {j : Nat} (hj : j < l.length) (hl : l[j] < cs.length) : ((l.take (j + 1)).map (cauAt cs)).map Cau.ds = ((l.take j).map (cauAt cs)).map Cau.ds ++ [cs[l[j]].ds] := by
  rw [take_next hj, List.map_append, List.map_append]
  show _ ++ [(cauAt cs l[j]).ds] = _
  rw [cauAt_at hl]
theorem weakL_some {v : Vlt} {it : ByteArray} {l : List Nat} (h : chosenC (csW v it).length (allLost (csW v it) (onW v it)) = some l) : weakL v it = l := by unfold weakL; rw [h]; rfl
theorem weakL_none {v : Vlt} {it : ByteArray} (h : chosenC (csW v it).length (allLost (csW v it) (onW v it)) = none) : weakL v it = [] := by unfold weakL; rw [h]; rfl


set_option maxRecDepth 100000 in
set_option maxHeartbeats 8000000 in
theorem c_rWeak (v : Vlt) (it : ByteArray) (hs : smallV v) : ACall Tryz.prog 17 [.agg v.ds, .v (.string it)] (.tup [.sl ((weakR v it).map Cau.ds), .v (.int .i64 (weakF v it))]) := by
  refine acall_of (n := 108) (ds' := [.sl ((weakR v it).map Cau.ds), .v (.int .i64 (weakF v it))]) Tryz.func17 rfl (by kernel_rfl) rfl [4, 5] rfl rfl ?_
  intro B w0 F0 fr
  refine AWP.seq (AWP.region ?_)
  refine AOps.step rfl rfl rfl (AOp.box rfl rfl rfl) ?_
  refine AOps.aD rfl rfl rfl rfl rfl ?_
  refine AOps.aD rfl rfl rfl rfl rfl (.nil ?_)
  refine AWP.seq ?_
  refine AWP.seq (AWP.region ?_)
  refine AOps.step rfl rfl rfl (AOp.loadAgg rfl ag_26 rfl rfl) ?_
  refine AOps.step rfl rfl rfl (AOp.call rfl (.cons (ArgOk.rfl' rfl) .nil) (c_rCheck v hs)) ?_
  refine AOps.aD rfl rfl rfl rfl rfl (.nil ?_)
  refine AWP.seq (AWP.region ?_)
  refine AOps.mD rfl rfl rfl rfl rfl ?_
  refine AOps.step rfl rfl rfl (AOp.neq rfl rfl rfl) (.nil ?_)
  refine AWP.cond rfl (fun h1 => ?_) (fun h1 => ?_)
  · replace h1 := of_decide_eq_true h1
    obtain ⟨HF, HR⟩ := weak_1 (it := it) h1
    rw [HF, HR]
    refine AWP.seq (AWP.region ?_)
    refine AOps.mD rfl rfl rfl rfl rfl ?_
    refine AOps.aD rfl rfl rfl rfl rfl ?_
    refine AOps.aD rfl rfl rfl rfl rfl (.nil ?_)
    refine AWP.ret ?_
    refine ⟨RetD.nil rfl, RetD.eq rfl ?_, trivial⟩
    all_goals (rfl)
  replace h1 := of_decide_eq_false h1
  have hc0 := Decidable.not_not.1 h1
  have vo := vok_of hc0
  have hnp := vo.np
  refine AWP.skip ?_
  refine AWP.seq ?_
  refine AWP.seq (AWP.region ?_)
  refine AOps.step rfl rfl rfl (AOp.loadAgg rfl ag_26 rfl rfl) ?_
  refine AOps.mD rfl rfl rfl rfl rfl ?_
  refine AOps.step rfl rfl rfl (AOp.call rfl (.cons (ArgOk.rfl' rfl) (.cons (ArgOk.rfl' rfl) .nil)) (c_itemOf _ _)) ?_
  refine AOps.step rfl rfl rfl (AOp.lss rfl rfl rfl) (.nil ?_)
  refine AWP.cond rfl (fun h2 => ?_) (fun h2 => ?_)
  · replace h2 := of_decide_eq_true h2
    obtain ⟨HF, HR⟩ := weak_2 hc0 h2
    rw [HF, HR]
    refine AWP.seq (AWP.region ?_)
    refine AOps.aD rfl rfl rfl rfl rfl ?_
    refine AOps.aD rfl rfl rfl rfl rfl (.nil ?_)
    refine AWP.ret ?_
    refine ⟨RetD.nil rfl, RetD.eq rfl ?_, trivial⟩
    all_goals (rfl)
  replace h2 := of_decide_eq_false h2
  have hit := h2
  refine AWP.skip ?_
  refine AWP.seq (AWP.region ?_)
  refine AOps.aD rfl rfl rfl rfl rfl (.nil ?_)
  refine AWP.seq ?_
  refine AWP.seq (AWP.region ?_)
  refine AOps.step rfl rfl rfl (AOp.fieldAddr rfl fo_26_2 rfl) ?_
  refine AOps.step rfl rfl rfl (AOp.load rfl sc_24 rfl) ?_
  refine AOps.step rfl rfl rfl (AOp.lenSl rfl et_24.ht rfl) ?_
  refine AOps.mD rfl rfl rfl rfl rfl (.nil ?_)
  refine AWP.block ?_
  refine AWP.adopt 7 61 59 5 rfl rfl ?_
  refine AWP.loop (G := Nat) (fun k => Env.of [(32, .d (.v (.int .i64 (k : Int)))), (30, .d (.sl (v.copies.map Cpy.ds))), (31, .d (.v (.int .i64 ((v.copies.map Cpy.ds).length : Int)))), (2, .d (.fp v.ds)), (1, .d (.v (.string it))), (7, .own 61)]) (fun k => [(61, .row 59 5 ((rOnTo v it k).map Carr.ds))]) (fun k => k ≤ v.copies.length) (fun k => v.copies.length - k) 0 (Nat.zero_le _) (Sub.less ⟨(SLe.of_eq rfl), SLe.refl _, SLe.refl _, SLe.refl _, SLe.refl _, SLe.refl _, trivial⟩ (row_same rfl)) ?_
  intro k hk
  refine AWP.seq (AWP.region ?_)
  refine AOps.step rfl rfl rfl (AOp.lss rfl rfl rfl) (.nil ?_)
  refine AWP.seq ?_
  refine AWP.cond rfl (fun h3 => ?_) (fun h3 => ?_)
  · replace h3 := of_decide_eq_true h3
    rw [List.length_map] at h3
    have hlt : k < v.copies.length := by omega
    have hco := vo.cpy _ (List.getElem_mem hlt)
    obtain ⟨ci, hci, eci, _⟩ := idxBy_some hco.carr
    have hCA := carrAt_eq hci eci
    have hol := rOn_len v it k
    refine AWP.skip ?_
    refine AWP.seq ?_
    refine AWP.block ?_
    refine AWP.seq (AWP.region ?_)
    refine AOps.step rfl rfl rfl (AOp.indexAddr rfl et_24 rfl rfl k rfl (at_list hlt) rfl) ?_
    refine AOps.step rfl rfl rfl (AOp.loadAgg rfl ag_65 rfl rfl) ?_
    refine AOps.alloc 101 rfl rfl rfl rfl zt_65 rfl rfl rfl ?_
    refine AOps.store rfl rfl rfl sz_65 rfl (.head _) rfl rfl rfl (Nat.le_of_ble_eq_true rfl) ?_
    refine AOps.freezeCells 9 (ds := v.copies[k].ds) rfl (.head _) (.nil ?_)
    refine AWP.seq (AWP.region ?_)
    refine AOps.step rfl rfl rfl (AOp.fieldAddr rfl fo_65_0 rfl) ?_
    refine AOps.step rfl rfl rfl (AOp.load rfl sc_9 rfl) ?_
    refine AOps.mD rfl rfl rfl rfl rfl ?_
    refine AOps.step rfl rfl rfl (AOp.seql rfl rfl rfl) ?_
    refine AOps.mD rfl rfl rfl rfl rfl ?_
    refine AOps.split 40 rfl (fun g4 => ?_) (fun g4 => ?_)
    · replace g4 := of_decide_eq_true g4
      have hI := g4
      refine AOps.step ⟨40, rfl, .inl ⟨_, rfl, rfl⟩⟩ rfl rfl (AOp.fieldAddr rfl fo_65_6 rfl) ?_
      refine AOps.step ⟨40, rfl, .inl ⟨_, rfl, rfl⟩⟩ rfl rfl (AOp.load rfl sc_63 rfl) ?_
      refine AOps.step ⟨40, rfl, .inl ⟨_, rfl, rfl⟩⟩ rfl rfl (AOp.lenSl rfl et_63.ht rfl) ?_
      refine AOps.step ⟨40, rfl, .inl ⟨_, rfl, rfl⟩⟩ rfl rfl (AOp.eql rfl rfl rfl) ?_
      refine AOps.step rfl rfl rfl (AOp.pickT rfl rfl rfl) (.nil ?_)
      refine AWP.cond rfl (fun h5 => ?_) (fun h5 => ?_)
      · replace h5 := of_decide_eq_true h5
        rw [List.length_map] at h5
        have HN := rOn_yes hlt (by unfold ofItem okB; rw [decide_eq_true hI, decide_eq_true h5]; rfl)
        refine AWP.drawTail 10 (by kernel_rfl) (by kernel_rfl) (by kernel_rfl) ?_
        refine DRun.step rfl rfl rfl (AOp.moveO rfl rfl) ?_
        refine DRun.step rfl rfl rfl (AOp.fieldAddr rfl fo_26_1 rfl) ?_
        refine DRun.step rfl rfl rfl (AOp.load rfl sc_23 rfl) ?_
        refine DRun.step rfl rfl rfl (AOp.loadAgg rfl ag_26 rfl rfl) ?_
        refine DRun.step rfl rfl rfl (AOp.fieldAddr rfl fo_65_1 rfl) ?_
        refine DRun.step rfl rfl rfl (AOp.load rfl sc_9 rfl) ?_
        refine DRun.step rfl rfl rfl (AOp.call rfl (.cons (ArgOk.rfl' rfl) (.cons (ArgOk.rfl' rfl) .nil)) (c_carrierOf _ _)) ?_
        refine DRun.step rfl rfl rfl (AOp.indexAddr rfl et_23 rfl rfl ci eci (at_list hci) rfl) ?_
        refine DRun.step rfl rfl rfl (AOp.loadAgg rfl ag_59 rfl rfl) ?_
        refine DRun.step rfl rfl rfl (AOp.buildSlice rfl et_23 (.cons rfl rfl rfl .nil) rfl (by decide)) ?_
        refine DRun.nil ?_
        -- append 56
        refine AOps.append rfl rfl rfl rfl et_23 rfl (.head _) rfl (fun y hy => by obtain rfl := List.mem_singleton.1 hy; rfl) (by simp; omega) (by simp; omega) ?_
        refine AOps.step rfl rfl rfl (AOp.assignO rfl rfl) (.nil ?_)
        refine AWP.region ?_
        refine AOps.step rfl rfl rfl (AOp.add64 rfl rfl rfl (by omega) (by omega)) ?_
        refine AOps.mD rfl rfl rfl rfl rfl (.nil ?_)
        refine ⟨k + 1, (by omega), (by dsimp only; omega), Sub.less ⟨(SLe.of_eq rfl), SLe.refl _, SLe.refl _, SLe.refl _, SLe.refl _, SLe.refl _, trivial⟩ (row_same (by first | (rw [HN]; done) | (rw [HN, hCA, List.map_append]; rfl)))⟩
      replace h5 := of_decide_eq_false h5
      rw [List.length_map] at h5
      have HN := rOn_no hlt (by unfold ofItem okB; rw [decide_eq_true hI, decide_eq_false h5]; rfl)
      refine AWP.skip ?_
      refine AWP.region ?_
      refine AOps.step rfl rfl rfl (AOp.add64 rfl rfl rfl (by omega) (by omega)) ?_
      refine AOps.mD rfl rfl rfl rfl rfl (.nil ?_)
      refine ⟨k + 1, (by omega), (by dsimp only; omega), Sub.less ⟨(SLe.of_eq rfl), SLe.refl _, SLe.refl _, SLe.refl _, SLe.refl _, SLe.refl _, trivial⟩ (row_same (by first | (rw [HN]; done) | (rw [HN, hCA, List.map_append]; rfl)))⟩
    replace g4 := of_decide_eq_false g4
    have HN := rOn_no hlt (by unfold ofItem; rw [decide_eq_false g4]; rfl)
    refine AOps.pass ⟨40, rfl, .inl ⟨_, rfl, rfl⟩⟩ rfl rfl ?_
    refine AOps.pass ⟨40, rfl, .inl ⟨_, rfl, rfl⟩⟩ rfl rfl ?_
    refine AOps.pass ⟨40, rfl, .inl ⟨_, rfl, rfl⟩⟩ rfl rfl ?_
    refine AOps.pass ⟨40, rfl, .inl ⟨_, rfl, rfl⟩⟩ rfl rfl ?_
    refine AOps.step rfl rfl rfl (AOp.pickF rfl rfl rfl) (.nil ?_)
    refine AWP.cond rfl (fun h => nomatch h) (fun _ => ?_)
    refine AWP.skip ?_
    refine AWP.region ?_
    refine AOps.step rfl rfl rfl (AOp.add64 rfl rfl rfl (by omega) (by omega)) ?_
    refine AOps.mD rfl rfl rfl rfl rfl (.nil ?_)
    refine ⟨k + 1, (by omega), (by dsimp only; omega), Sub.less ⟨(SLe.of_eq rfl), SLe.refl _, SLe.refl _, SLe.refl _, SLe.refl _, SLe.refl _, trivial⟩ (row_same (by first | (rw [HN]; done) | (rw [HN, hCA, List.map_append]; rfl)))⟩
  replace h3 := of_decide_eq_false h3
  rw [List.length_map] at h3
  obtain rfl : k = v.copies.length := by omega
  have hol := rOn_len v it v.copies.length
  rw [rOn_all] at hol ⊢
  refine AWP.exit ?_
  refine AWP.seq ?_
  refine AWP.seq (AWP.region ?_)
  refine AOps.freeze 7 rfl (.head _) ?_
  refine AOps.mD rfl rfl rfl rfl rfl ?_
  refine AOps.step rfl rfl rfl (AOp.lenSl rfl et_23.ht rfl) ?_
  refine AOps.step rfl rfl rfl (AOp.gtr rfl rfl rfl) (.nil ?_)
  refine AWP.cond rfl (fun h6 => ?_) (fun h6 => ?_)
  · replace h6 := of_decide_eq_true h6
    rw [List.length_map] at h6
    obtain ⟨HF, HR⟩ := weak_3 hc0 hit h6
    rw [HF, HR]
    refine AWP.seq (AWP.region ?_)
    refine AOps.aD rfl rfl rfl rfl rfl ?_
    refine AOps.aD rfl rfl rfl rfl rfl (.nil ?_)
    refine AWP.ret ?_
    refine ⟨RetD.nil rfl, RetD.eq rfl ?_, trivial⟩
    all_goals (rfl)
  replace h6 := of_decide_eq_false h6
  rw [List.length_map] at h6
  obtain ⟨HF, HR⟩ := weak_4 hc0 hit (by omega)
  rw [HF, HR]
  have hcs := csW_len v it
  refine AWP.skip ?_
  refine AWP.seq (AWP.region ?_)
  refine AOps.mD rfl rfl rfl rfl rfl ?_
  refine AOps.step rfl rfl rfl (AOp.call rfl (.cons (ArgOk.rfl' rfl) .nil) (c_rCauses (onW v it) (by omega) (csW v it) rfl)) ?_
  refine AOps.aD rfl rfl rfl rfl rfl (.nil ?_)
  refine AWP.seq ?_
  refine AWP.seq (AWP.region ?_)
  refine AOps.mD rfl rfl rfl rfl rfl ?_
  refine AOps.step rfl rfl rfl (AOp.lenSl rfl et_49.ht rfl) ?_
  refine AOps.step rfl rfl rfl (AOp.add64 rfl rfl rfl (by simp only [List.length_map]; omega) (by simp only [List.length_map]; omega)) ?_
  refine AOps.mD rfl rfl rfl rfl rfl (.nil ?_)
  refine AWP.block ?_
  refine AWP.loop (G := Nat) (fun m => Env.of [(66, .d (.v (.int .i64 (m : Int)))), (65, .d (.v (.int .i64 (((csW v it).length : Int) + 1)))), (7, .d (.sl ((onW v it).map Carr.ds))), (10, .d (.sl ((csW v it).map Cau.ds)))]) (fun m => []) (fun m => m ≤ (csW v it).length + 1 ∧ chosenTo (csW v it).length (allLost (csW v it) (onW v it)) m = none) (fun m => (csW v it).length + 1 - m) 0 ⟨Nat.zero_le _, rfl⟩ (Sub.less ⟨(SLe.of_eq rfl), (SLe.i64 (by rw [List.length_map])), SLe.refl _, SLe.refl _, trivial⟩ (fun _ h => h)) ?_
  intro m hm
  refine AWP.seq (AWP.region ?_)
  refine AOps.step rfl rfl rfl (AOp.lss rfl rfl rfl) (.nil ?_)
  refine AWP.seq ?_
  refine AWP.cond rfl (fun h7 => ?_) (fun h7 => ?_)
  · replace h7 := of_decide_eq_true h7
    have hmn : m ≤ (csW v it).length := by omega
    refine AWP.skip ?_
    refine AWP.seq ?_
    refine AWP.block ?_
    refine AWP.seq (AWP.region ?_)
    refine AOps.mD rfl rfl rfl rfl rfl ?_
    refine AOps.aD rfl rfl rfl rfl rfl (.nil ?_)
    refine AWP.seq (AWP.region ?_)
    refine AOps.mD rfl rfl rfl rfl rfl ?_
    refine AOps.callO 62 rfl rfl rfl rfl (.cons (ArgOk.rfl' rfl) .nil) (c_first m (by omega)) rfl ?_
    refine AOps.step rfl rfl rfl (AOp.assignO rfl rfl) (.nil ?_)
    refine AWP.seq (AWP.region ?_)
    refine AOps.aD rfl rfl rfl rfl rfl (.nil ?_)
    refine AWP.block ?_
    refine AWP.loop (G := List Nat × Bool) (fun g => Env.of [(13, .d (.v (.bool g.2))), (12, .own 62), (11, .d (.v (.int .i64 (m : Int)))), (66, .d (.v (.int .i64 (m : Int)))), (65, .d (.v (.int .i64 (((csW v it).length : Int) + 1)))), (7, .d (.sl ((onW v it).map Carr.ds))), (10, .d (.sl ((csW v it).map Cau.ds)))]) (fun g => [(62, .row 3 1 (g.1.map numD))]) (fun g => Again (csW v it).length m (allLost (csW v it) (onW v it)) g) (fun g => if g.2 = true then leftC (csW v it).length g.1 + 1 else 0) (List.range m, true) ⟨range_vld (by omega), List.length_range, rfl⟩ (Sub.less ⟨(SLe.of_eq rfl), SLe.refl _, SLe.refl _, SLe.refl _, SLe.refl _, SLe.refl _, SLe.refl _, trivial⟩ (row_numEq rfl)) ?_
    rintro ⟨l, ag⟩ hl
    dsimp only
    refine AWP.seq ?_
    refine AWP.seq (AWP.region ?_)
    refine AOps.mD rfl rfl rfl rfl rfl (.nil ?_)
    refine AWP.cond rfl (fun h8 => ?_) (fun h8 => ?_)
    · skip
      have hag : Vld (csW v it).length l ∧ l.length = m ∧ srch (csW v it).length (allLost (csW v it) (onW v it)) (List.range m) = srch (csW v it).length (allLost (csW v it) (onW v it)) l := by unfold Again at hl; rw [if_pos h8] at hl; exact hl
      have hlm := hag.2.1
      have hat := h8
      have hLd := vld_at hag.1
      refine AWP.skip ?_
      refine AWP.seq ?_
      refine AWP.block ?_
      refine AWP.seq (AWP.region ?_)
      refine AOps.aD rfl rfl rfl rfl rfl (.nil ?_)
      refine AWP.seq ?_
      refine AWP.seq (AWP.region ?_)
      refine AOps.mD rfl rfl rfl rfl rfl ?_
      refine AOps.step rfl rfl rfl (AOp.lenSl rfl et_23.ht rfl) ?_
      refine AOps.mD rfl rfl rfl rfl rfl (.nil ?_)
      refine AWP.block ?_
      refine AWP.loop (G := Nat) (fun k => Env.of [(78, .d (.v (.int .i64 (k : Int)))), (76, .d (.sl ((onW v it).map Carr.ds))), (77, .d (.v (.int .i64 (((onW v it).map Carr.ds).length : Int)))), (14, .d (.v (.bool (((onW v it).take k).all (lostB (csW v it) l))))), (12, .own 62), (11, .d (.v (.int .i64 (m : Int)))), (66, .d (.v (.int .i64 (m : Int)))), (65, .d (.v (.int .i64 (((csW v it).length : Int) + 1)))), (7, .d (.sl ((onW v it).map Carr.ds))), (10, .d (.sl ((csW v it).map Cau.ds)))]) (fun k => [(62, .row 3 1 (l.map numD))]) (fun k => k ≤ (onW v it).length) (fun k => (onW v it).length - k) 0 (Nat.zero_le _) (Sub.less ⟨(SLe.of_eq rfl), SLe.refl _, SLe.refl _, (SLe.of_eq rfl), SLe.refl _, SLe.refl _, SLe.refl _, SLe.refl _, SLe.refl _, SLe.refl _, trivial⟩ (row_numEq rfl)) ?_
      intro k hk
      refine AWP.seq (AWP.region ?_)
      refine AOps.step rfl rfl rfl (AOp.lss rfl rfl rfl) (.nil ?_)
      refine AWP.seq ?_
      refine AWP.cond rfl (fun h9 => ?_) (fun h9 => ?_)
      · replace h9 := of_decide_eq_true h9
        rw [List.length_map] at h9
        have hkl : k < (onW v it).length := by omega
        refine AWP.skip ?_
        refine AWP.seq ?_
        refine AWP.block ?_
        refine AWP.seq (AWP.region ?_)
        refine AOps.step rfl rfl rfl (AOp.indexAddr rfl et_23 rfl rfl k rfl (at_list hkl) rfl) ?_
        refine AOps.step rfl rfl rfl (AOp.loadAgg rfl ag_59 rfl rfl) ?_
        refine AOps.alloc 103 rfl rfl rfl rfl zt_59 rfl rfl rfl ?_
        refine AOps.store rfl rfl rfl sz_59 rfl (.head _) rfl rfl rfl (Nat.le_of_ble_eq_true rfl) ?_
        refine AOps.freezeCells 16 (ds := (onW v it)[k].ds) rfl (.head _) (.nil ?_)
        refine AWP.region ?_
        refine AOps.mD rfl rfl rfl rfl rfl ?_
        refine AOps.mD rfl rfl rfl rfl rfl ?_
        refine AOps.split 83 rfl (fun g10 => ?_) (fun g10 => ?_)
        · skip
          have HN := all_yes (f := lostB (csW v it) l) hkl g10
          refine AOps.step ⟨83, rfl, .inl ⟨_, rfl, rfl⟩⟩ rfl rfl (AOp.loadAgg rfl ag_59 rfl rfl) ?_
          refine AOps.step ⟨83, rfl, .inl ⟨_, rfl, rfl⟩⟩ rfl rfl (AOp.moveD rfl rfl) ?_
          refine AOps.step ⟨83, rfl, .inl ⟨_, rfl, rfl⟩⟩ rfl rfl (AOp.moveO rfl rfl) ?_
          refine AOps.step ⟨83, rfl, .inl ⟨_, rfl, rfl⟩⟩ rfl rfl (AOp.callV rfl (.cons (.d rfl) (.cons (.d rfl) (.cons (.own rfl (.head _)) .nil))) (c_rLost (onW v it)[k] (csW v it) l hLd)) ?_
          refine AOps.step rfl rfl rfl (AOp.pickT rfl rfl rfl) ?_
          refine AOps.aD rfl rfl rfl rfl rfl (.nil ?_)
          refine AWP.region ?_
          refine AOps.step rfl rfl rfl (AOp.add64 rfl rfl rfl (by omega) (by omega)) ?_
          refine AOps.mD rfl rfl rfl rfl rfl (.nil ?_)
          refine ⟨k + 1, (by dsimp only; omega), (by dsimp only; omega), Sub.less ⟨(SLe.of_eq rfl), SLe.refl _, SLe.refl _, (SLe.of_eq (by rw [HN]; rfl)), SLe.refl _, SLe.refl _, SLe.refl _, SLe.refl _, SLe.refl _, SLe.refl _, trivial⟩ (row_numEq rfl)⟩
        have HN := all_no (f := lostB (csW v it) l) hkl g10
        refine AOps.pass ⟨83, rfl, .inl ⟨_, rfl, rfl⟩⟩ rfl rfl ?_
        refine AOps.pass ⟨83, rfl, .inl ⟨_, rfl, rfl⟩⟩ rfl rfl ?_
        refine AOps.pass ⟨83, rfl, .inl ⟨_, rfl, rfl⟩⟩ rfl rfl ?_
        refine AOps.pass ⟨83, rfl, .inl ⟨_, rfl, rfl⟩⟩ rfl rfl ?_
        refine AOps.step rfl rfl rfl (AOp.pickF rfl rfl rfl) ?_
        refine AOps.aD rfl rfl rfl rfl rfl (.nil ?_)
        refine AWP.region ?_
        refine AOps.step rfl rfl rfl (AOp.add64 rfl rfl rfl (by omega) (by omega)) ?_
        refine AOps.mD rfl rfl rfl rfl rfl (.nil ?_)
        refine ⟨k + 1, (by dsimp only; omega), (by dsimp only; omega), Sub.less ⟨(SLe.of_eq rfl), SLe.refl _, SLe.refl _, (SLe.of_eq (by rw [HN]; rfl)), SLe.refl _, SLe.refl _, SLe.refl _, SLe.refl _, SLe.refl _, SLe.refl _, trivial⟩ (row_numEq rfl)⟩
      replace h9 := of_decide_eq_false h9
      rw [List.length_map] at h9
      obtain rfl : k = (onW v it).length := by omega
      rw [List.take_length]
      refine AWP.exit ?_
      refine AWP.seq ?_
      refine AWP.seq (AWP.region ?_)
      refine AOps.mD rfl rfl rfl rfl rfl ?_
      refine AOps.step rfl rfl rfl (AOp.not rfl rfl) (.nil ?_)
      refine AWP.cond rfl (fun h11 => ?_) (fun h11 => ?_)
      · replace h11 := bnot_t h11
        have hP : (allLost (csW v it) (onW v it)) l = false := h11
        refine AWP.exit ?_
        refine AWP.region ?_
        refine AOps.step rfl rfl rfl (AOp.moveO rfl rfl) ?_
        refine AOps.mD rfl rfl rfl rfl rfl ?_
        refine AOps.step rfl rfl rfl (AOp.lenSl rfl et_49.ht rfl) ?_
        refine AOps.le 74 (s' := .d (.v (.int .i64 ((csW v it).length : Int)))) rfl (SLe.i64 (by rw [List.length_map])) ?_
        -- turns 62
        refine AOps.callX rfl rfl rfl (.cons (SLe.refl _) (.cons (SLe.refl _) .nil)) ((c_next (csW v it).length (by omega) l hag.1) 62) ⟨(.head _), trivial⟩ rfl rfl (fun _ h => nomatch h) ?_
        refine AOps.aD rfl rfl rfl rfl rfl (.nil ?_)
        refine ⟨((nextC (csW v it).length l).getD l, (nextC (csW v it).length l).isSome), (Again.next hag hP), (by dsimp only; rw [if_pos hat]; exact again_less hag.1), Sub.less ⟨(SLe.of_eq rfl), SLe.refl _, SLe.refl _, SLe.refl _, SLe.refl _, SLe.refl _, SLe.refl _, trivial⟩ (row_numEq rfl)⟩
      replace h11 := bnot_f h11
      have hP : (allLost (csW v it) (onW v it)) l = true := h11
      have HC := weakL_some (chosenTo_some hm.2 (hag.2.2.trans (srch_hit hag.1 hP)) _ (by omega))
      rw [HC]
      refine AWP.skip ?_
      refine AWP.seq (AWP.region ?_)
      refine AOps.aD rfl rfl rfl rfl rfl (.nil ?_)
      refine AWP.seq ?_
      refine AWP.seq (AWP.region ?_)
      refine AOps.step rfl rfl rfl (AOp.moveO rfl rfl) ?_
      refine AOps.step rfl rfl rfl (AOp.lenOwn rfl et_63.ht rfl (.head _)) ?_
      refine AOps.mD rfl rfl rfl rfl rfl (.nil ?_)
      refine AWP.block ?_
      refine AWP.adopt 17 63 54 2 rfl rfl ?_
      refine AWP.loop (G := Nat) (fun j => Env.of [(94, .d (.v (.int .i64 (j : Int)))), (93, .d (.v (.int .i64 (l.length : Int)))), (92, .own 62), (17, .own 63), (10, .d (.sl ((csW v it).map Cau.ds)))]) (fun j => [(63, .row 54 2 (((l.take j).map (cauAt (csW v it))).map Cau.ds)), (62, .row 3 1 (l.map numD))]) (fun j => j ≤ l.length) (fun j => l.length - j) 0 (Nat.zero_le _) (Sub.less ⟨(SLe.of_eq rfl), (SLe.i64 (by rw [List.length_map])), SLe.refl _, SLe.refl _, SLe.refl _, trivial⟩ (rows_2 rfl rfl)) ?_
      intro j hj
      refine AWP.seq (AWP.region ?_)
      refine AOps.step rfl rfl rfl (AOp.lss rfl rfl rfl) (.nil ?_)
      refine AWP.seq ?_
      refine AWP.cond rfl (fun h12 => ?_) (fun h12 => ?_)
      · replace h12 := of_decide_eq_true h12
        have hjl : j < l.length := by omega
        have hlj := hLd l[j] (List.getElem_mem hjl)
        refine AWP.skip ?_
        refine AWP.seq ?_
        refine AWP.block ?_
        refine AWP.seq (AWP.region ?_)
        refine AOps.step rfl rfl rfl (AOp.indexOwn rfl et_63 rfl rfl (.tail _ (.head _)) j rfl (by rw [List.length_map]; omega)) ?_
        refine AOps.step rfl rfl rfl (AOp.loadRow rfl sc_3 rfl (.tail _ (.head _)) j 0 rfl (at_list hjl) rfl) ?_
        refine AOps.aD rfl rfl rfl rfl rfl (.nil ?_)
        refine AWP.region ?_
        refine AOps.step rfl rfl rfl (AOp.moveO rfl rfl) ?_
        refine AOps.mD rfl rfl rfl rfl rfl ?_
        refine AOps.mD rfl rfl rfl rfl rfl ?_
        refine AOps.step rfl rfl rfl (AOp.indexAddr rfl et_49 rfl rfl l[j] rfl (at_list hlj) rfl) ?_
        refine AOps.step rfl rfl rfl (AOp.loadAgg rfl ag_54 rfl rfl) ?_
        refine AOps.step rfl rfl rfl (AOp.buildSlice rfl et_49 (.cons rfl rfl rfl .nil) rfl (by decide)) ?_
        -- append 104
        refine AOps.append rfl rfl rfl rfl et_49 rfl (.head _) rfl (fun y hy => by obtain rfl := List.mem_singleton.1 hy; rfl) (by simp; omega) (by simp; omega) ?_
        refine AOps.step rfl rfl rfl (AOp.assignO rfl rfl) (.nil ?_)
        refine AWP.region ?_
        refine AOps.step rfl rfl rfl (AOp.add64 rfl rfl rfl (by omega) (by omega)) ?_
        refine AOps.mD rfl rfl rfl rfl rfl (.nil ?_)
        refine ⟨j + 1, (by dsimp only; omega), (by dsimp only; omega), Sub.less ⟨(SLe.of_eq rfl), SLe.refl _, SLe.refl _, SLe.refl _, SLe.refl _, trivial⟩ (rows_2 (outC_next hjl hlj).symm rfl)⟩
      replace h12 := of_decide_eq_false h12
      obtain rfl : j = l.length := by omega
      rw [List.take_length]
      refine AWP.exit ?_
      refine AWP.seq (AWP.region ?_)
      refine AOps.step rfl rfl rfl (AOp.moveO rfl rfl) ?_
      refine AOps.step rfl rfl rfl (AOp.assignO rfl rfl) ?_
      refine AOps.aD rfl rfl rfl rfl rfl (.nil ?_)
      refine AWP.ret ?_
      refine ⟨RetD.own rfl (.head _) ?_, RetD.eq rfl ?_, trivial⟩
      all_goals (rfl)
    have HE : srch (csW v it).length (allLost (csW v it) (onW v it)) (List.range m) = none := by unfold Again at hl; rw [if_neg (by rw [h8]; simp)] at hl; exact hl
    refine AWP.exit ?_
    refine AWP.region ?_
    refine AOps.step rfl rfl rfl (AOp.add64 rfl rfl rfl (by omega) (by omega)) ?_
    refine AOps.mD rfl rfl rfl rfl rfl (.nil ?_)
    refine ⟨m + 1, ⟨by omega, chosenTo_next hm.2 HE⟩, (by dsimp only; omega), Sub.less ⟨(SLe.of_eq rfl), SLe.refl _, SLe.refl _, SLe.refl _, trivial⟩ (fun _ h => by cases h)⟩
  replace h7 := of_decide_eq_false h7
  obtain rfl : m = (csW v it).length + 1 := by omega
  rw [weakL_none hm.2]
  refine AWP.exit ?_
  refine AWP.seq (AWP.region ?_)
  refine AOps.aD rfl rfl rfl rfl rfl ?_
  refine AOps.aD rfl rfl rfl rfl rfl (.nil ?_)
  refine AWP.ret ?_
  refine ⟨RetD.nil rfl, RetD.eq rfl ?_, trivial⟩
  all_goals (rfl)

end Go.Proofs.YtieccphckobhjaaGreatDoor


namespace Go.Proofs.YtieccphckobhjaaGreatDoor
open Go.RowKit
set_option linter.unusedVariables false

/-! Types. -/
namespace TyQA0
theorem ag_59 : AggT Tryz.prog 59 5 := .of (by kernel_rfl)
theorem ag_62 : AggT Tryz.prog 62 2 := .of (by kernel_rfl)
theorem ag_65 : AggT Tryz.prog 65 7 := .of (by kernel_rfl)
theorem et_22 : ElemTy Tryz.prog 22 62 2 24 (.agg #[(.string ⟨#[]⟩), (.int .i64 0)]) := ⟨by kernel_rfl, by kernel_rfl, by kernel_rfl, by decide⟩
theorem et_23 : ElemTy Tryz.prog 23 59 5 64 (.agg #[(.string ⟨#[]⟩), (.string ⟨#[]⟩), (.string ⟨#[]⟩), (.int .i64 0), (.int .i64 0)]) := ⟨by kernel_rfl, by kernel_rfl, by kernel_rfl, by decide⟩
theorem et_24 : ElemTy Tryz.prog 24 65 7 96 (.agg #[(.string ⟨#[]⟩), (.string ⟨#[]⟩), (.string ⟨#[]⟩), (.int .i64 0), (.int .i64 0), (.int .i64 0), (.slice none 0 0)]) := ⟨by kernel_rfl, by kernel_rfl, by kernel_rfl, by decide⟩
theorem et_63 : ElemTy Tryz.prog 63 3 1 8 (.int .i64 0) := ⟨by kernel_rfl, by kernel_rfl, by kernel_rfl, by decide⟩
theorem fo_26_0 : fieldOff Tryz.prog 26 0 = some 0 := by kernel_rfl
theorem fo_26_1 : fieldOff Tryz.prog 26 1 = some 1 := by kernel_rfl
theorem fo_26_2 : fieldOff Tryz.prog 26 2 = some 2 := by kernel_rfl
theorem fo_65_0 : fieldOff Tryz.prog 65 0 = some 0 := by kernel_rfl
theorem fo_65_1 : fieldOff Tryz.prog 65 1 = some 1 := by kernel_rfl
theorem fo_65_2 : fieldOff Tryz.prog 65 2 = some 2 := by kernel_rfl
theorem fo_65_3 : fieldOff Tryz.prog 65 3 = some 3 := by kernel_rfl
theorem fo_65_4 : fieldOff Tryz.prog 65 4 = some 4 := by kernel_rfl
theorem fo_65_5 : fieldOff Tryz.prog 65 5 = some 5 := by kernel_rfl
theorem fo_65_6 : fieldOff Tryz.prog 65 6 = some 6 := by kernel_rfl
theorem sc_22 : Scal Tryz.prog 22 := .of (by kernel_rfl)
theorem sc_23 : Scal Tryz.prog 23 := .of (by kernel_rfl)
theorem sc_24 : Scal Tryz.prog 24 := .of (by kernel_rfl)
theorem sc_3 : Scal Tryz.prog 3 := .of (by kernel_rfl)
theorem sc_63 : Scal Tryz.prog 63 := .of (by kernel_rfl)
theorem sc_9 : Scal Tryz.prog 9 := .of (by kernel_rfl)
end TyQA0
open TyQA0


end Go.Proofs.YtieccphckobhjaaGreatDoor


namespace Go.Proofs.YtieccphckobhjaaGreatDoor
open Go.RowKit
set_option linter.unusedVariables false

/-! Types. -/
namespace TyZ6
theorem ag_26 : AggT Tryz.prog 26 3 := .of (by kernel_rfl)
theorem ag_54 : AggT Tryz.prog 54 2 := .of (by kernel_rfl)
theorem et_49 : ElemTy Tryz.prog 49 54 2 24 (.agg #[(.int .i64 0), (.string ⟨#[]⟩)]) := ⟨by kernel_rfl, by kernel_rfl, by kernel_rfl, by decide⟩
end TyZ6
open TyZ6


theorem cauEq : EqT Tryz.prog 54 [.int .i64, .str] := .of (by kernel_rfl)
theorem eq_cau (x y : Cau) : EqD Tryz.prog 54 x.ds y.ds (decide (x.what = y.what ∧ x.name = y.name)) := .of cauEq [.int .i64 x.what, .string x.name] [.int .i64 y.what, .string y.name] rfl rfl rfl rfl (by simp [sameL, sameV])


set_option maxRecDepth 100000 in
set_option maxHeartbeats 1000000 in
theorem c_eqCau (l : List Cau) : ACall Tryz.prog 18 [.sl (l.map Cau.ds), .sl (l.map Cau.ds)] (.v (.bool true)) := by
  refine acall_of (n := 26) (ds' := [.v (.bool true)]) Tryz.func18 rfl (by kernel_rfl) rfl [4] rfl rfl ?_
  intro B w0 F0 fr
  refine AWP.bound 0 rfl (fun hbd0 => ?_)
  rw [List.length_map] at hbd0
  refine AWP.seq (AWP.region ?_)
  refine AOps.aD rfl rfl rfl rfl rfl (.nil ?_)
  refine AWP.seq ?_
  refine AWP.seq (AWP.region ?_)
  refine AOps.mD rfl rfl rfl rfl rfl ?_
  refine AOps.step rfl rfl rfl (AOp.lenSl rfl et_49.ht rfl) ?_
  refine AOps.mD rfl rfl rfl rfl rfl ?_
  refine AOps.step rfl rfl rfl (AOp.lenSl rfl et_49.ht rfl) ?_
  refine AOps.step rfl rfl rfl (AOp.neq rfl rfl rfl) (.nil ?_)
  refine AWP.cond rfl (fun h1 => ?_) (fun h1 => ?_)
  · replace h1 := of_decide_eq_true h1
    exact absurd rfl h1
  replace h1 := of_decide_eq_false h1
  refine AWP.skip ?_
  refine AWP.seq ?_
  refine AWP.seq (AWP.region ?_)
  refine AOps.mD rfl rfl rfl rfl rfl ?_
  refine AOps.step rfl rfl rfl (AOp.lenSl rfl et_49.ht rfl) ?_
  refine AOps.mD rfl rfl rfl rfl rfl (.nil ?_)
  refine AWP.block ?_
  refine AWP.loop (G := Nat) (fun k => Env.of [(13, .d (.v (.int .i64 (k : Int)))), (0, .d (.sl (l.map Cau.ds))), (1, .d (.sl (l.map Cau.ds))), (12, .d (.v (.int .i64 ((l.map Cau.ds).length : Int))))]) (fun k => []) (fun k => k ≤ l.length) (fun k => l.length - k) 0 (Nat.zero_le _) (Sub.less ⟨(SLe.of_eq rfl), SLe.refl _, SLe.refl _, SLe.refl _, trivial⟩ (fun _ h => h)) ?_
  intro k hk
  refine AWP.seq (AWP.region ?_)
  refine AOps.step rfl rfl rfl (AOp.lss rfl rfl rfl) (.nil ?_)
  refine AWP.seq ?_
  refine AWP.cond rfl (fun h2 => ?_) (fun h2 => ?_)
  · replace h2 := of_decide_eq_true h2
    rw [List.length_map] at h2
    have hlt : k < l.length := by omega
    refine AWP.skip ?_
    refine AWP.seq ?_
    refine AWP.block ?_
    refine AWP.seq (AWP.region ?_)
    refine AOps.mD rfl rfl rfl rfl rfl ?_
    refine AOps.aD rfl rfl rfl rfl rfl (.nil ?_)
    refine AWP.seq ?_
    refine AWP.draw (by kernel_rfl) (by kernel_rfl) ?_
    refine DRun.step rfl rfl rfl (AOp.moveD rfl rfl) ?_
    refine DRun.step rfl rfl rfl (AOp.moveD rfl rfl) ?_
    refine DRun.step rfl rfl rfl (AOp.indexAddr rfl et_49 rfl rfl k rfl (at_list hlt) rfl) ?_
    refine DRun.step rfl rfl rfl (AOp.loadAgg rfl ag_54 rfl rfl) ?_
    refine DRun.step rfl rfl rfl (AOp.moveD rfl rfl) ?_
    refine DRun.step rfl rfl rfl (AOp.moveD rfl rfl) ?_
    refine DRun.step rfl rfl rfl (AOp.indexAddr rfl et_49 rfl rfl k rfl (at_list hlt) rfl) ?_
    refine DRun.step rfl rfl rfl (AOp.loadAgg rfl ag_54 rfl rfl) ?_
    refine DRun.step rfl rfl rfl (AOp.aggNeq rfl rfl rfl (eq_cau _ _)) ?_
    refine DRun.nil ?_
    refine AWP.cond rfl (fun h3 => ?_) (fun h3 => ?_)
    · replace h3 := bnot_t h3; replace h3 := of_decide_eq_false h3
      exact absurd ⟨rfl, rfl⟩ h3
    replace h3 := bnot_f h3; replace h3 := of_decide_eq_true h3
    refine AWP.skip ?_
    refine AWP.region ?_
    refine AOps.step rfl rfl rfl (AOp.add64 rfl rfl rfl (by omega) (by omega)) ?_
    refine AOps.mD rfl rfl rfl rfl rfl (.nil ?_)
    refine ⟨k + 1, (by omega), (by dsimp only; omega), Sub.less ⟨(SLe.of_eq rfl), SLe.refl _, SLe.refl _, SLe.refl _, trivial⟩ (fun _ h => h)⟩
  replace h2 := of_decide_eq_false h2
  refine AWP.exit ?_
  refine AWP.seq (AWP.region ?_)
  refine AOps.aD rfl rfl rfl rfl rfl (.nil ?_)
  refine AWP.ret ?_
  refine ⟨RetD.eq rfl ?_, trivial⟩
  all_goals (rfl)

set_option maxRecDepth 100000 in
set_option maxHeartbeats 1000000 in
theorem lawWeak (v : Vlt) (it : ByteArray) (hsm : smallV v) : ACall Tryz.prog 5 [.agg v.ds, .v (.string it)] (.v (.bool true)) := by
  refine acall_of (n := 32) (ds' := [.v (.bool true)]) Tryz.func5 rfl (by kernel_rfl) rfl [4] rfl rfl ?_
  intro B w0 F0 fr
  refine AWP.seq (AWP.region ?_)
  refine AOps.step rfl rfl rfl (AOp.box rfl rfl rfl) ?_
  refine AOps.aD rfl rfl rfl rfl rfl (.nil ?_)
  refine AWP.seq (AWP.region ?_)
  refine AOps.step rfl rfl rfl (AOp.loadAgg rfl ag_26 rfl rfl) ?_
  refine AOps.mD rfl rfl rfl rfl rfl ?_
  refine AOps.step rfl rfl rfl (AOp.call rfl (.cons (ArgOk.rfl' rfl) (.cons (ArgOk.rfl' rfl) .nil)) (c_pWeak v it hsm)) ?_
  refine AOps.mD rfl rfl rfl rfl rfl ?_
  refine AOps.step rfl rfl rfl (AOp.extract rfl rfl rfl) ?_
  refine AOps.step rfl rfl rfl (AOp.extract rfl rfl rfl) ?_
  refine AOps.aD rfl rfl rfl rfl rfl ?_
  refine AOps.aD rfl rfl rfl rfl rfl (.nil ?_)
  refine AWP.seq (AWP.region ?_)
  refine AOps.step rfl rfl rfl (AOp.loadAgg rfl ag_26 rfl rfl) ?_
  refine AOps.mD rfl rfl rfl rfl rfl ?_
  refine AOps.step rfl rfl rfl (AOp.call rfl (.cons (ArgOk.rfl' rfl) (.cons (ArgOk.rfl' rfl) .nil)) (c_rWeak v it hsm)) ?_
  refine AOps.mD rfl rfl rfl rfl rfl ?_
  refine AOps.step rfl rfl rfl (AOp.extract rfl rfl rfl) ?_
  refine AOps.step rfl rfl rfl (AOp.extract rfl rfl rfl) ?_
  refine AOps.aD rfl rfl rfl rfl rfl ?_
  refine AOps.aD rfl rfl rfl rfl rfl (.nil ?_)
  refine AWP.seq (AWP.region ?_)
  refine AOps.mD rfl rfl rfl rfl rfl ?_
  refine AOps.mD rfl rfl rfl rfl rfl ?_
  refine AOps.step rfl rfl rfl (AOp.eql rfl rfl rfl) ?_
  refine AOps.mD rfl rfl rfl rfl rfl ?_
  refine AOps.split 24 rfl (fun g1 => ?_) (fun g1 => ?_)
  · replace g1 := of_decide_eq_true g1
    refine AOps.step ⟨24, rfl, .inl ⟨_, rfl, rfl⟩⟩ rfl rfl (AOp.moveD rfl rfl) ?_
    refine AOps.step ⟨24, rfl, .inl ⟨_, rfl, rfl⟩⟩ rfl rfl (AOp.moveD rfl rfl) ?_
    refine AOps.step ⟨24, rfl, .inl ⟨_, rfl, rfl⟩⟩ rfl rfl (AOp.call rfl (.cons (ArgOk.rfl' rfl) (.cons (ArgOk.rfl' rfl) .nil)) (c_eqCau _)) ?_
    refine AOps.step rfl rfl rfl (AOp.pickT rfl rfl rfl) ?_
    refine AOps.mD rfl rfl rfl rfl rfl ?_
    refine AOps.step ⟨29, rfl, .inl ⟨_, rfl, rfl⟩⟩ rfl rfl (AOp.call rfl .nil c_awake) ?_
    refine AOps.step rfl rfl rfl (AOp.pickT rfl rfl rfl) ?_
    refine AOps.aD rfl rfl rfl rfl rfl (.nil ?_)
    refine AWP.ret ?_
    refine ⟨RetD.eq rfl ?_, trivial⟩
    all_goals (simp)
  replace g1 := of_decide_eq_false g1
  exact absurd rfl g1

end Go.Proofs.YtieccphckobhjaaGreatDoor
