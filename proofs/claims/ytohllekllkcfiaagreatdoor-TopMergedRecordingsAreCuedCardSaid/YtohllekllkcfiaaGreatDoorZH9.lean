/- Walks and laws over abstract values, merged by tools/merge.py. No statement of the seat. -/
import Derived.WalkKit
import Derived.Ground.NamesProg
import Derived.Ground.Names2Prog
import Derived.Shelf.Slices.CompactI
import Derived.Test.YtohllekllkcfiaaGreatDoorProg
import Derived.Shelf.SlSortCmp.WholeK
import Derived.Lib.RowBridge
import Derived.StillTailTactics
import Derived.Shelf.SlSortCmp.NoneTotal
import Derived.Shelf.SlicesG.Cmp
import Derived.Ground.SlsfProg
import Derived.Ground.SlgcProg
import Derived.Test.YtohllekllkcfiaaGreatDoorZH8
set_option linter.unusedSectionVars false
set_option linter.unusedSimpArgs false
set_option linter.unusedVariables false
set_option maxHeartbeats 8000000
set_option maxRecDepth 1000000
open List renaming length_map -> ZlM, getElem?_eq_getElem -> ZgE, getElem_mem -> ZgM, length_take -> ZlT, getElem_append_left -> ZgL, getD_eq_getElem?_getD -> ZgD, getElem_map -> ZgP, getElem?_take -> ZgT, length_append -> ZlA, mem_singleton -> ZmS, mem_map -> ZmM
open Array renaming getElem?_eq_some_iff -> ZaS
open Nat renaming le_of_ble_eq_true -> ZnB, zero_le -> ZnZ, le_refl -> ZnR, le_trans -> ZnT
open Bool renaming and_eq_true -> ZbA
namespace Go.Proofs.YtohllekllkcfiaaGreatDoor
open Go.RowKit
open Ty
section
variable {β : Type} {R : β -> Prop}
def VOk (R : β -> Prop) (T : GL (Option β)) : Prop := ∀ p ∈ T, i64 p.1 /\ ∀ v, p.2 = some v -> R v
theorem VOk.keys {T : GL (Option β)} (h : VOk R T) : YaA T := fun p hp => (h p hp).1
theorem VOk.find {T : GL (Option β)} (h : VOk R T) {k : Int} {v : β} (hf : (Yaa T k).join = some v) : i64 k /\ R v := by
 cases ho : Yaa T k with
 | none => rw [ho] at hf; cases hf
 | some o =>
  rw [ho] at hf;have h1 := h _ (YdG ho);exact ⟨h1.1, h1.2 v hf⟩
theorem VOk.nil : VOk R ([] : GL (Option β)) := fun p hp => by cases hp
theorem VOk.put {L E : GL (Option β)} (h : VOk R L) (hE : VOk R E) : VOk R (Yaq L E) := fun p hp => (YdA hp).elim (hE p) (h p)
theorem VOk.look {E : GL β} (h : ∀ p ∈ E, i64 p.1 /\ R p.2) : VOk R (YdL E) := fun p hp => by
 obtain ⟨q, hq, rfl⟩ := ZmM.1 hp;exact ⟨(h q hq).1, fun v hv => by obtain rfl := Option.some.inj hv; exact (h q hq).2⟩
theorem VOk.gone {l : List Int} (h : ∀ n ∈ l, i64 n) : VOk R (Ydc l) := fun p hp => by
 obtain ⟨q, hq, rfl⟩ := ZmM.1 hp;exact ⟨h q hq, fun v hv => by cases hv⟩
theorem VOk.ofE {E : GL β} (h : ∀ p ∈ E, i64 p.1 /\ R p.2) : VOk R (ofE E) := VOk.nil.put (VOk.look h)
theorem VOk.xE {E : GL β} (h : ∀ p ∈ E, i64 p.1 /\ R p.2) {l : List Int} (hl : ∀ n ∈ l, i64 n) : VOk R (xE E l) := (VOk.ofE h).put (VOk.gone hl)
theorem VOk.from [DecidableEq β] {A B : GL (Option β)} (h : VOk R A) {ids : List Int} (hi : ∀ n ∈ ids, i64 n) : VOk R (YcK A B ids) := fun p hp => by
 have h1 := (Yci (Ycj A B ids)).1 hp;rw [fromE_find] at h1
 by_cases hc : p.1 ∈ ids /\ (Yaa A p.1).join ≠ (Yaa B p.1).join
 ·rw [if_pos hc] at h1;refine ⟨hi _ hc.1, fun v hv => ?_⟩;rw [hv] at h1;exact (h.find (Option.some.inj h1)).2
 ·rw [if_neg hc] at h1; cases h1
theorem VOk.vals {T : GL (Option β)} (hN : NkG T) (h : VOk R T) : ∀ p ∈ Ycb T, i64 p.1 /\ R p.2 := fun p hp => by
 have h1 := (Yci (Yed hN).nk).1 hp;rw [Ydz hN] at h1;exact h.find h1
theorem VOk.none {T : GL (Option β)} (h : VOk R T) : ∀ n ∈ Yfk T, i64 n := fun n hn => by
 have h1 := noneG_mem.1 hn;exact (h _ (YdG h1)).1
theorem VOk.mem_keys {T : GL (Option β)} (h : VOk R T) : ∀ n ∈ YaG T, i64 n := fun n hn => keysG_ok h.keys hn
theorem ofE_len (E : GL β) : (ofE E).length <= E.length := by
 have := YcF (YdL E) [];unfold ofE;simp [YdL] at this ⊢; exact this
theorem xE_len (E : GL β) (l : List Int) : (xE E l).length <= E.length + l.length := by
 have h1 := YcF (Ydc l : GL (Option β)) (ofE E);have h2 := ofE_len E;have h3 : (Ydc l : GL (Option β)).length = l.length := ZlM ..;unfold xE; omega
end
def RT (t : Thg) : Prop := ThgOk t /\ t.parts.length <= 1048576
theorem VOk.prt {T : TL} (h : VOk RT T) : PrtOk T := fun k t hk => (h.find (k := k) (v := t) (by rw [hk]; rfl)).2.2
theorem idxL_ok {l : List Thg} (h : ∀ t ∈ l, ThgOk t) (hp : ∀ t ∈ l, t.parts.length <= 1048576) : ∀ p ∈ idxL l, i64 p.1 /\ RT p.2 := fun p hq => by
 obtain ⟨t, ht, rfl⟩ := ZmM.1 hq;exact ⟨(h t ht).id, h t ht, hp t ht⟩
theorem mvL_ok {l : List Mvd} (h : ∀ m ∈ l, i64 m.src /\ i64 m.dst) : ∀ p ∈ mvL l, i64 p.1 /\ i64 p.2 := fun p hq => by
 obtain ⟨t, ht, rfl⟩ := ZmM.1 hq;exact h t ht
theorem ctlO_ok {T : TL} {M : ML} (nT : NkG T) (nM : NkG M) (hT : VOk RT T) (hM : VOk i64 M) : CtlOk (ctlO T M) :=
 ⟨fun t ht => by obtain ⟨p, hp, rfl⟩ := ZmM.1 ht; exact (VOk.vals nT hT p hp).2.1, fun m hm => by obtain ⟨p, hp, rfl⟩ := ZmM.1 hm; exact VOk.vals nM hM p hp⟩
theorem ctlO_parts {T : TL} {M : ML} (nT : NkG T) (hT : VOk RT T) : ∀ t ∈ (ctlO T M).things, t.parts.length <= 1048576 := fun t ht => by
 obtain ⟨p, hp, rfl⟩ := ZmM.1 ht; exact (VOk.vals nT hT p hp).2.2
theorem chgO_ok {T : TL} {M : ML} (nT : NkG T) (nM : NkG M) (hT : VOk RT T) (hM : VOk i64 M) : ChgOk (chgO T M) :=
 ⟨fun t ht => by obtain ⟨p, hp, rfl⟩ := ZmM.1 ht; exact (VOk.vals nT hT p hp).2.1, hT.none, fun m hm => by obtain ⟨p, hp, rfl⟩ := ZmM.1 hm; exact VOk.vals nM hM p hp, hM.none⟩
theorem chgO_parts {T : TL} {M : ML} (nT : NkG T) (hT : VOk RT T) : ∀ t ∈ (chgO T M).put, t.parts.length <= 1048576 := fun t ht => by
 obtain ⟨p, hp, rfl⟩ := ZmM.1 ht; exact (VOk.vals nT hT p hp).2.2
section
variable {β : Type} [DecidableEq β]
theorem fromTo_nk (A B : GL (Option β)) (ids : List Int) (n : Nat) : NkG (YdT A B ids n) := Ycj _ _ _
theorem Ygk {R : β -> Prop} {A B : GL (Option β)} (h : VOk R A) {ids : List Int} (hi : ∀ n ∈ ids, i64 n) (n : Nat) : YaA (YdT A B ids n) := (VOk.from h fun m hm => hi m (List.mem_of_mem_take hm)).keys
end
theorem c_from (a1 b1 : TL) (a2 b2 : ML) (is js : List Int) (nA : NkG a1) (nB : NkG b1) (nC : NkG a2) (nE : NkG b2) (hA : VOk RT a1) (hB : VOk RT b1) (hC : VOk i64 a2) (hE : VOk i64 b2) (hi : ∀ n ∈ is, i64 n) (hj : ∀ n ∈ js, i64 n) (li : is.length <= 1048576) (lj : js.length <= 1048576) : Yad Tryz.prog 65 [.agg [.fm (encT a1), .fm (encM a2)], .agg [.fm (encT b1), .fm (encM b2)], .sl (is.map intD), .sl (js.map intD)] (.agg (chgO (YcK a1 b1 is) (YcK a2 b2 js)).ds) := by
 refine Yap (n := 65) (ds' := [.agg (chgO (YcK a1 b1 is) (YcK a2 b2 js)).ds]) Tryz.func65 J (by kernel_rfl) J [.cell 8 36] J J ?_;intro B w0 F0 fr;refine .sr (.sA (.box J J J) ?_);refine .sA (.box J J J) ?_;refine .alloc 101 J J J J YfP J J J (.nil ?_);refine .sr (.callXS J J J ArgsS.nil (c_new.toX 99 91 92 (by decide) (by decide) (by decide)) trivial J J (fun _ _ => J) ?_);refine .alloc 102 J J J J Yec J J J ?_;refine .eff J J (.storeVal (ss' := [.own 91, .own 92]) J J Yee J (.head _) J (.tail _ (.head _)) J (ZnR 2)) (.nil ?_);refine .seq (.sr (.mA ?_));refine .sA (.lenSl J et_34.ht J) ?_;refine .mN ?_;refine .block (.loop (G := Nat) (fun k => Env.of [(17, .iv k), (15, .d (.sl (is.map intD))), (16, .iv (is.map intD).length), (4, .d (.fp [.fm (encT a1), .fm (encM a2)])), (5, .d (.fp [.fm (encT b1), .fm (encM b2)])), (3, .d (.sl (js.map intD))), (8, .ptr 101 0), (9, .ptr 102 0)]) (fun k => [(102, .cells [.own 91, .own 92]), (101, .cells [.d (.v (.slice none 0 0)), .d (.v (.slice none 0 0)), .d (.v (.slice none 0 0)), .d (.v (.slice none 0 0))]), (91, .map (encT (YdT a1 b1 is k))), (92, .map (encM []))]) (fun k => k <= is.length) (fun k => is.length - k) 0 (ZnZ _) (Sub.less ⟨U, U, U, U, U, U, U, U, trivial⟩ (in4 (.head _) (.tail _ (.tail _ (.tail _ (.tail _ (.head _))))) (.tail _ (.tail _ (.head _))) (.tail _ (.tail _ (.tail _ (.head _)))))) ?_);intro k hk;refine .sr (.sA (.lss J J J) (.nil ?_));refine .seq (.cT J (fun h1 => ?_) fun h1 => ?_)
 ·rw [ZlM] at h1;have hlk : k < is.length := by omega
  have hbk := hi _ (ZgM hlk);refine .skip (.seq (.block (.sr (.sA (.indexAddr J et_34 J J k J (YaU hlk) J) ?_))));refine .sA (.load J sc_3 J) ?_;refine .aN ?_;refine .sr (.fl Ybr Ydf ?_);refine .mA ?_;refine .sA (.lookupF (key := kI is[k]) J mt_T YaC zt_pT zd_p J J (DExact.v _) (Ya3 hbk) (YaY hA.keys) (mget_T nA _)) ?_;refine .fl Ybr Ydf ?_;refine .mA ?_;refine .sA (.lookupF (key := kI is[k]) J mt_T YaC zt_pT zd_p J J (DExact.v _) (Ya3 hbk) (YaY hB.keys) (mget_T nB _)) (.sA (.call J (.cons (.rfl' J) (.cons (.rfl' J) .nil)) (c_sameThing _ _)) ?_);refine .sA (.not J J) (.nil ?_);refine .cN J (fun h2 => ?_) fun h2 => ?_
  ·have HN := YcY (A := a1) (B := b1) hlk;rw [if_neg h2] at HN;refine .region (.sA (.fieldAddrP J Ybr J) ?_);refine .sA (.loadP J Ydf J (.head _) J) ?_;refine .mA ?_;refine .fl Ybr Ydf ?_;refine .mA ?_;refine .sA (.lookupF (key := kI is[k]) J mt_T YaC zt_pT zd_p J J (DExact.v _) (Ya3 hbk) (YaY hA.keys) (mget_T nA _)) ?_;refine .eff J J (.mapUpdateX (key := kI is[k]) (d := ptD (Yaa a1 is[k]).join) J J mt_T YaC J (.tail _ (.tail _ (.head _))) J (DExact.v _) J (Ya3 hbk) (YaY (Ygk hA hi k)) (mput_T (fromTo_nk a1 b1 is k) _ _)) (.nil ?_);refine .region (.sA (.add64 J J J) ?_);refine .mN ?_;refine ⟨k + 1, (by omega), (by dsimp only; omega), Sub.less ⟨U, U, U, U, U, U, U, U, trivial⟩ (YaX (by dsimp only; rw [HN]; first | done | rfl))⟩
  have HN := YcY (A := a1) (B := b1) hlk;rw [if_pos h2] at HN;refine .skip (.region (.sA (.add64 J J J) ?_));refine .mN ?_;refine ⟨k + 1, (by omega), (by dsimp only; omega), Sub.less ⟨U, U, U, U, U, U, U, U, trivial⟩ (YaX (by dsimp only; rw [HN]; first | done | rfl))⟩
 rw [ZlM] at h1;obtain rfl : k = is.length := by omega
 rw [fromTo_all];refine .exit (.seq (.sr (.mA ?_)));refine .sA (.lenSl J et_34.ht J) ?_;refine .mN ?_;refine .block (.loop (G := Nat) (fun j => Env.of [(41, .iv j), (39, .d (.sl (js.map intD))), (40, .iv (js.map intD).length), (4, .d (.fp [.fm (encT a1), .fm (encM a2)])), (5, .d (.fp [.fm (encT b1), .fm (encM b2)])), (8, .ptr 101 0), (9, .ptr 102 0)]) (fun j => [(102, .cells [.own 91, .own 92]), (101, .cells [.d (.v (.slice none 0 0)), .d (.v (.slice none 0 0)), .d (.v (.slice none 0 0)), .d (.v (.slice none 0 0))]), (91, .map (encT (YcK a1 b1 is))), (92, .map (encM (YdT a2 b2 js j)))]) (fun j => j <= js.length) (fun j => js.length - j) 0 (ZnZ _) (Sub.less ⟨U, U, U, U, U, U, U, trivial⟩ (YaX J)) ?_);intro j hjj;refine .sr (.sA (.lss J J J) (.nil ?_));refine .seq (.cT J (fun h3 => ?_) fun h3 => ?_)
 ·rw [ZlM] at h3;have hlj : j < js.length := by omega
  have hbj := hj _ (ZgM hlj);refine .skip (.seq (.block (.sr (.sA (.indexAddr J et_34 J J j J (YaU hlj) J) ?_))));refine .sA (.load J sc_3 J) ?_;refine .aN ?_;refine .sr (.fl Ybq Yde ?_);refine .mA ?_;refine .sA (.lookupF (key := kI js[j]) J mt_M YaC zt_pM zd_p J J (DExact.v _) (Ya3 hbj) (YaY hC.keys) (mget_M nC _)) ?_;refine .fl Ybq Yde ?_;refine .mA ?_;refine .sA (.lookupF (key := kI js[j]) J mt_M YaC zt_pM zd_p J J (DExact.v _) (Ya3 hbj) (YaY hE.keys) (mget_M nE _)) (.sA (.call J (.cons (.rfl' J) (.cons (.rfl' J) .nil)) (c_sameTo _ _)) ?_);refine .sA (.not J J) (.nil ?_);refine .cN J (fun h4 => ?_) fun h4 => ?_
  ·have HN := YcY (A := a2) (B := b2) hlj;rw [if_neg h4] at HN;refine .region (.sA (.fieldAddrP J Ybq J) ?_);refine .sA (.loadP J Yde J (.head _) J) ?_;refine .mA ?_;refine .fl Ybq Yde ?_;refine .mA ?_;refine .sA (.lookupF (key := kI js[j]) J mt_M YaC zt_pM zd_p J J (DExact.v _) (Ya3 hbj) (YaY hC.keys) (mget_M nC _)) ?_;refine .eff J J (.mapUpdateX (key := kI js[j]) (d := pmD (Yaa a2 js[j]).join) J J mt_M YaC J (.tail _ (.tail _ (.tail _ (.head _)))) J (DExact.v _) J (Ya3 hbj) (YaY (Ygk hC hj j)) (mput_M (fromTo_nk a2 b2 js j) _ _)) (.nil ?_);refine .region (.sA (.add64 J J J) ?_);refine .mN ?_;refine ⟨j + 1, (by dsimp only; omega), (by dsimp only; omega), Sub.less ⟨U, U, U, U, U, U, U, trivial⟩ (YaX (by dsimp only; rw [HN]; first | done | rfl))⟩
  have HN := YcY (A := a2) (B := b2) hlj;rw [if_pos h4] at HN;refine .skip (.region (.sA (.add64 J J J) ?_));refine .mN ?_;refine ⟨j + 1, (by dsimp only; omega), (by dsimp only; omega), Sub.less ⟨U, U, U, U, U, U, U, trivial⟩ (YaX (by dsimp only; rw [HN]; first | done | rfl))⟩
 rw [ZlM] at h3;obtain rfl : j = js.length := by omega
 rw [fromTo_all];refine .exit (.seq (.freezeMapIn 102 0 (encT (YcK a1 b1 is)) J (.head _) (.tail _ (.tail _ (.head _))) (List.Perm.refl _) ?_));refine .freezeMapIn 102 1 (encM (YcK a2 b2 js)) J (.head _) (.tail _ (.tail _ (.head _))) (List.Perm.refl _) ?_;refine .region (.sA (.loadPU J Ycp J (.head _) J J) ?_);refine .sA (.call J (.cons (.rfl' J) .nil) (c_chg (YcK a1 b1 is) (YcK a2 b2 js) (Ycj _ _ _) (Ycj _ _ _) (VOk.from hA hi).keys (VOk.from hC hj).keys (ZnT (fromE_len _ _ _) li) (ZnT (fromE_len _ _ _) lj) (VOk.from hA hi).prt)) ?_;refine .st J J J Ycy J (.tail _ (.head _)) J J J (ZnB J) (.nil ?_);refine .ret ?_;refine ⟨RetR.agg J (.tail _ (.head _)) Yce J (.c5 (.c5 (.c5 (.c5 .nil)))), trivial⟩
 all_goals (rfl)
abbrev cT (c : Ctl) : TL := ofE (idxL c.things)
abbrev cM (c : Ctl) : ML := ofE (mvL c.moved)
abbrev xT (x : Chg) : TL := xE (idxL x.put) x.drop
abbrev xM (x : Chg) : ML := xE (mvL x.add) x.back
abbrev nowT (c : Ctl) (x : Chg) : TL := Yaq (cT c) (xT x)
abbrev nowM (c : Ctl) (x : Chg) : ML := Yaq (cM c) (xM x)
def outC (c : Ctl) (x : Chg) : Ctl := ctlO (nowT c x) (nowM c x)
def backX (c : Ctl) (x : Chg) : Chg := chgO (YcK (cT c) (nowT c x) (YaG (xT x))) (YcK (cM c) (nowM c x) (YaG (xM x)))
def zC : Ctl := ⟨[], []⟩
def zX : Chg := ⟨[], [], [], []⟩
def appV (c : Ctl) (x : Chg) : Ctl × Chg × Int := if chkF (outC c x) = 0 then (outC c x, backX c x, 0) else (zC, zX, chkF (outC c x))
def YaV (c : Ctl) (x : Chg) : Ctl × Chg × Int := if chkF c = 0 then (if chgF x = 0 then appV c x else (zC, zX, chgF x)) else (zC, zX, chkF c)
structure CIn (c : Ctl) : Prop where
 ok : CtlOk c
 parts : ∀ t ∈ c.things, t.parts.length <= 1048576
structure XIn (x : Chg) : Prop where
 ok : ChgOk x
 parts : ∀ t ∈ x.put, t.parts.length <= 1048576
theorem cIn {c : Ctl} (h : CtlOk c) (h0 : chkF c = 0) : CIn c := ⟨h, fun t ht => by
 obtain ⟨k, hk, rfl⟩ := List.mem_iff_getElem.1 ht
 exact ZnT (YfW ((Yb8 h0).th k hk)) (by decide)⟩
theorem CIn.vT {c : Ctl} (h : CIn c) : VOk RT (cT c) := VOk.ofE (idxL_ok h.ok.things h.parts)
theorem CIn.vM {c : Ctl} (h : CIn c) : VOk i64 (cM c) := VOk.ofE (mvL_ok h.ok.moved)
theorem XIn.vT {x : Chg} (h : XIn x) : VOk RT (xT x) := VOk.xE (idxL_ok h.ok.put h.parts) h.ok.drop
theorem XIn.vM {x : Chg} (h : XIn x) : VOk i64 (xM x) := VOk.xE (mvL_ok h.ok.add) h.ok.back
theorem limX {x : Chg} (h : chgF x = 0) : LimX x := by
 unfold chgF at h
 by_cases hL : 300 < x.put.length \/ 300 < x.drop.length \/ 300 < x.add.length \/ 300 < x.back.length
 ·rw [if_pos hL] at h; omega
 ·unfold LimX; omega
theorem cT_len {c : Ctl} (h : Lim c) : (cT c).length <= 300 := ZnT (ofE_len _) (by unfold idxL; rw [ZlM]; exact h.1)
theorem cM_len {c : Ctl} (h : Lim c) : (cM c).length <= 300 := ZnT (ofE_len _) (by unfold mvL; rw [ZlM]; exact h.2)
theorem xT_len {x : Chg} (h : LimX x) : (xT x).length <= 600 := by
 have h1 : (xT x).length <= (idxL x.put).length + x.drop.length := xE_len (idxL x.put) x.drop;have h2 : (idxL x.put).length = x.put.length := ZlM ..;have := h.1; have := h.2.1; omega
theorem xM_len {x : Chg} (h : LimX x) : (xM x).length <= 600 := by
 have h1 : (xM x).length <= (mvL x.add).length + x.back.length := xE_len (mvL x.add) x.back;have h2 : (mvL x.add).length = x.add.length := ZlM ..;have := h.2.2.1; have := h.2.2.2; omega
theorem nowT_len {c : Ctl} {x : Chg} (h : Lim c) (hx : LimX x) : (nowT c x).length <= 900 := by
 have h1 : (nowT c x).length <= (cT c).length + (xT x).length := YcF (xT x) (cT c);have := cT_len h; have := xT_len hx; omega
theorem nowM_len {c : Ctl} {x : Chg} (h : Lim c) (hx : LimX x) : (nowM c x).length <= 900 := by
 have h1 : (nowM c x).length <= (cM c).length + (xM x).length := YcF (xM x) (cM c);have := cM_len h; have := xM_len hx; omega
theorem Yf5 (c : Ctl) (x : Chg) : NkG (nowT c x) := YaP (Yc7 _)
theorem nowM_nk (c : Ctl) (x : Chg) : NkG (nowM c x) := YaP (Yc7 _)
theorem nowT_v {c : Ctl} {x : Chg} (h : CIn c) (hx : XIn x) : VOk RT (nowT c x) := h.vT.put hx.vT
theorem nowM_v {c : Ctl} {x : Chg} (h : CIn c) (hx : XIn x) : VOk i64 (nowM c x) := h.vM.put hx.vM
theorem out_in {c : Ctl} {x : Chg} (h : CIn c) (hx : XIn x) : CIn (outC c x) := ⟨ctlO_ok (Yf5 c x) (nowM_nk c x) (nowT_v h hx) (nowM_v h hx), ctlO_parts (Yf5 c x) (nowT_v h hx)⟩
theorem back_in {c : Ctl} {x : Chg} (h : CIn c) (hx : XIn x) : XIn (backX c x) := ⟨chgO_ok (Ycj _ _ _) (Ycj _ _ _) (VOk.from h.vT hx.vT.mem_keys) (VOk.from h.vM hx.vM.mem_keys), chgO_parts (Ycj _ _ _) (VOk.from h.vT hx.vT.mem_keys)⟩
theorem app_0 {c : Ctl} {x : Chg} (h : chkF (outC c x) = 0) : appV c x = (outC c x, backX c x, 0) := if_pos h
theorem app_f {c : Ctl} {x : Chg} (h : chkF (outC c x) ≠ 0) : appV c x = (zC, zX, chkF (outC c x)) := if_neg h
namespace Ty
theorem Ygx : StructT Tryz.prog 36 (fun i => (#[(0, 1), (1, 1), (2, 1), (3, 1)] : Array (Nat × Nat))[i]?) [(.slice none 0 0), (.slice none 0 0), (.slice none 0 0), (.slice none 0 0)] := .of (by kernel_rfl) (by kernel_rfl) (by decide)
end Ty
theorem c_app (c : Ctl) (x : Chg) (hc : CIn c) (hx : XIn x) (hl : Lim c) (hlx : LimX x) : ACallT Tryz.prog MaxT 25 [.agg c.ds, .agg x.ds] (.tup [.agg (appV c x).1.ds, .agg (appV c x).2.1.ds, .v (.int .i64 (appV c x).2.2)]) := by
 refine YcP (n := 40) (ds' := [.agg (appV c x).1.ds, .agg (appV c x).2.1.ds, .v (.int .i64 (appV c x).2.2)]) Tryz.func25 J (by kernel_rfl) J [.cell 4 25, .cell 5 36, .tmp 6] J J ?_;intro B w0 F0 hT;have HC := c_ofC c hl hc.ok hc.parts;have HX := c_ofX x hlx hx.ok hx.parts;have n1 := nowT_len hl hlx;have n2 := nowM_len hl hlx;have n3 := xT_len hlx;have n4 := xM_len hlx;have v1 := nowT_v hc hx;have v2 := nowM_v hc hx;refine .sr (.sA (.box J J J) ?_);refine .sA (.box J J J) ?_;refine .alloc 101 J J J J zt_25 J J J ?_;refine .alloc 102 J J J J YfP J J J ?_;refine .aN ?_;refine .seq (.weaken (e' := Env.of [(2, .d (.fp c.ds)), (3, .d (.fp x.ds)), (4, .ptr 101 0), (5, .ptr 102 0)]) (σ' := [(102, .cells [.d (.v (.slice none 0 0)), .d (.v (.slice none 0 0)), .d (.v (.slice none 0 0)), .d (.v (.slice none 0 0))]), (101, .cells [.d (.v (.slice none 0 0)), .d (.v (.slice none 0 0))])]) (Sub.less ⟨U, U, U, U, trivial⟩ (fun p h => h)) ?_)
 refine .drawGroups 9 [⟨15, .own 99, [(99, .val [.own 91, .own 92]), (91, .map (encT (cT c))), (92, .map (encM (cM c)))], fun n => Nat.beq n 99 || Nat.beq n 91 || Nat.beq n 92⟩, ⟨7, .ptr 103 0, [(103, .cells [.d (.v (.map none)), .d (.v (.map none))])], fun n => Nat.beq n 103⟩, ⟨8, .ptr 104 0, [(104, .cells [.d (.v (.map none)), .d (.v (.map none))])], fun n => Nat.beq n 104⟩, ⟨9, .ptr 105 0, [(105, .cells [.d (.v (.map none)), .d (.v (.map none))])], fun n => Nat.beq n 105⟩] (by
  constructor
  ·intro f hf g hg h; simp only [List.mem_cons, List.not_mem_nil, or_false] at hf hg; rcases hf with rfl | rfl | rfl | rfl <;> rcases hg with rfl | rfl | rfl | rfl <;> first | rfl | (exfalso; dsimp only at h; omega)
  ·intro f hf; simp only [List.mem_cons, List.not_mem_nil, or_false] at hf; rcases hf with rfl | rfl | rfl | rfl <;> exact ⟨rfl, by intro h; cases h⟩
  ·intro f hf g hg hne; simp only [List.mem_cons, List.not_mem_nil, or_false] at hf hg; rcases hf with rfl | rfl | rfl | rfl <;> rcases hg with rfl | rfl | rfl | rfl <;> first | exact absurd rfl hne | exact ⟨rfl, fun p hp => by (simp only [List.mem_cons, List.not_mem_nil, or_false] at hp; rcases hp with rfl | rfl | rfl <;> rfl)⟩ | exact ⟨rfl, fun p hp => by (simp only [List.mem_cons, List.not_mem_nil, or_false] at hp; subst hp; rfl)⟩
  ·intro f hf p hp; simp only [List.mem_cons, List.not_mem_nil, or_false] at hf hp; rcases hf with rfl | rfl | rfl | rfl <;> rcases hp with rfl | rfl <;> rfl
  intro f hf; simp only [List.mem_cons, List.not_mem_nil, or_false] at hf; rcases hf with rfl | rfl | rfl | rfl <;> rfl) (by kernel_rfl) (by kernel_rfl) (by kernel_rfl) (by kernel_rfl) ?_
 refine .step J J J (.loadAgg J YbB J J) ?_ J ⟨.inl J, .inl J, .inl J, .inl J, trivial⟩;refine .step J J J (.call J (.cons (.rfl' J) .nil) HC.toA) ?_ J ⟨.inl J, .inl J, .inl J, .inl J, trivial⟩;refine .step J J J (.loadAgg J YbB J J) ?_ J ⟨.inl J, .inl J, .inl J, .inl J, trivial⟩;refine .callS 99 91 92 _ (.head _) J J J J J (.cons (.rfl' J) .nil) HC (by decide) (by decide) (by decide) J J J ?_;refine .step J J J (.loadAgg J Yce J J) ?_ J ⟨.inl J, .inl J, .inl J, .inl J, trivial⟩;refine .step J J J (.call J (.cons (.rfl' J) .nil) HX.toA) ?_ J ⟨.inl J, .inl J, .inl J, .inl J, trivial⟩;refine .alloc 103 _ (.tail _ (.head _)) J J J J J Yec J J J J J ?_;refine .alloc 104 _ (.tail _ (.tail _ (.head _))) J J J J J Yec J J J J J ?_;refine .alloc 105 _ (.tail _ (.tail _ (.tail _ (.head _)))) J J J J J Yec J J J J J ?_;refine .nil ⟨J, J, J, J, trivial⟩ ?_;refine .st J J J Yee J (.tail _ (.tail _ (.tail _ (.head _)))) J J J (ZnB J) ?_;refine .freezeCells 7 (ds := [.fm (encT (cT c)), .fm (encM (cM c))]) J (.tail _ (.tail _ (.tail _ (.head _)))) ?_;refine .eff J J (.storeVal (ss' := [.own 91, .own 92]) J J Yee J (.tail _ (.tail _ (.tail _ (.head _)))) J (.head _) J (ZnR 2)) ?_;refine .st J J J Yee J (.tail _ (.tail _ (.tail _ (.tail _ (.head _))))) J J J (ZnB J) ?_;refine .freezeCells 9 (ds := [.fm (encT (xT x)), .fm (encM (xM x))]) J (.tail _ (.tail _ (.tail _ (.tail _ (.head _))))) (.nil ?_);refine .seq (.weaken (e' := Env.of [(4, .ptr 101 0), (5, .ptr 102 0), (7, .d (.fp [.fm (encT (cT c)), .fm (encM (cM c))])), (8, .ptr 104 0), (9, .d (.fp [.fm (encT (xT x)), .fm (encM (xM x))]))]) (σ' := [(99, .val [.own 91, .own 92]), (91, .map (encT (cT c))), (92, .map (encM (cM c))), (104, .cells [.own 91, .own 92]), (102, .cells [.d (.v (.slice none 0 0)), .d (.v (.slice none 0 0)), .d (.v (.slice none 0 0)), .d (.v (.slice none 0 0))]), (101, .cells [.d (.v (.slice none 0 0)), .d (.v (.slice none 0 0))])]) (Sub.less ⟨U, U, U, U, U, trivial⟩ (fun p h => h)) ?_);refine .region (.loadVal 100 J J J J Ycp J (.tail _ (.tail _ (.tail _ (.head _)))) (ZnR 2) J ?_);refine .sA (.loadAgg J Ycp J J) ?_;refine .callXE J J J (ArgsS.cons U (ArgsS.cons U ArgsS.nil)) (c_over (cT c) (xT x) (cM c) (xM x) (Yc7 _) (xE_nk _ _) (Yc7 _) (xE_nk _ _) hc.vT.keys hx.vT.keys hc.vM.keys hx.vM.keys) ⟨(.head _), (.tail _ (.tail _ (.head _))), (.tail _ (.tail _ (.tail _ (.head _)))), trivial⟩ J (fun _ => J) (fun _ _ => J) (fun i hi => ?_);refine .nil ?_;refine .seq (.freezeMapIn 104 0 (encT (nowT c x)) J (.tail _ (.tail _ (.tail _ (.head _)))) (.tail _ (.head _)) ((hi.1.perm (xE_nk _ _) (Yc7 _)).map _) ?_);refine .freezeMapIn 104 1 (encM (nowM c x)) J (.tail _ (.tail _ (.head _))) (.tail _ (.head _)) ((hi.2.perm (xE_nk _ _) (Yc7 _)).map _) ?_;refine .obs (σ' := [(104, .cells [.d (.fm (encT (nowT c x))), .d (.fm (encM (nowM c x)))]), (102, .cells [.d (.v (.slice none 0 0)), .d (.v (.slice none 0 0)), .d (.v (.slice none 0 0)), .d (.v (.slice none 0 0))]), (101, .cells [.d (.v (.slice none 0 0)), .d (.v (.slice none 0 0))])]) (fun p h => .tail _ (.tail _ h)) ?_;refine .weaken (e' := Env.of [(4, .ptr 101 0), (5, .ptr 102 0), (7, .d (.fp [.fm (encT (cT c)), .fm (encM (cM c))])), (8, .ptr 104 0), (9, .d (.fp [.fm (encT (xT x)), .fm (encM (xM x))]))]) (σ' := [(104, .cells [.d (.fm (encT (nowT c x))), .d (.fm (encM (nowM c x)))]), (102, .cells [.d (.v (.slice none 0 0)), .d (.v (.slice none 0 0)), .d (.v (.slice none 0 0)), .d (.v (.slice none 0 0))]), (101, .cells [.d (.v (.slice none 0 0)), .d (.v (.slice none 0 0))])]) (Sub.less ⟨U, U, U, U, U, trivial⟩ (fun p h => h)) ?_;refine .freezeCells 8 (ds := [.fm (encT (nowT c x)), .fm (encM (nowM c x))]) J (.head _) ?_;refine .region (.sA (.loadAgg J Ycp J J) ?_);refine .sA (.call J (.cons (.rfl' J) .nil) (c_cat (nowT c x) (nowM c x) (Yf5 c x) (nowM_nk c x) v1.keys v2.keys (by omega) (by omega) v1.prt)) ?_;refine .alloc 103 J J J J zt_25 J J J ?_;refine .st J J J sz_25 J (.head _) J J J (ZnB J) ?_;refine .freezeCells 10 (ds := (outC c x).ds) J (.head _) (.nil ?_);refine .seq (.seq (.weaken (e' := Env.of [(4, .ptr 101 0), (5, .ptr 102 0), (7, .d (.fp [.fm (encT (cT c)), .fm (encM (cM c))])), (8, .d (.fp [.fm (encT (nowT c x)), .fm (encM (nowM c x))])), (9, .d (.fp [.fm (encT (xT x)), .fm (encM (xM x))])), (10, .d (.fp (outC c x).ds))]) (σ' := [(102, .cells [.d (.v (.slice none 0 0)), .d (.v (.slice none 0 0)), .d (.v (.slice none 0 0)), .d (.v (.slice none 0 0))]), (101, .cells [.d (.v (.slice none 0 0)), .d (.v (.slice none 0 0))])]) (Sub.less ⟨U, U, U, U, U, U, trivial⟩ (fun p h => h)) ?_));refine .region (.sA (.loadAgg J YbB J J) ?_)
 -- wants the world
 refine .callT J J J hT Yam J (.cons (.rfl' J) .nil) (c_pChk _ (out_in hc hx).ok) ?_;refine .aN ?_;refine .sr (.mA ?_);refine .sA (.neq J J J) (.nil ?_);refine .cT J (fun h1 => ?_) fun h1 => ?_
 ·rw [app_f (by first | exact h1 | omega)];refine .sr (.sA (.build J bu_25 .nil J) ?_);refine .sA (.build J Ygx .nil J) ?_;refine .mA ?_;refine .st J J J sz_25 J (.tail _ (.head _)) J J J (ZnB J) ?_;refine .st J J J Ycy J (.head _) J J J (ZnB J) ?_;refine .aN ?_;refine .ret ?_;refine ⟨RetR.agg J (.tail _ (.head _)) YbB J (.c5 (.c5 .nil)), RetR.agg J (.head _) Yce J (.c5 (.c5 (.c5 (.c5 .nil)))), RetD.eq J ?_, trivial⟩
  all_goals (rfl)
 rw [app_0 (by first | exact h1 | omega)];refine .skip (.seq (.drw 10 ?_));refine .sA (.loadAgg J YbB J J) (.sA (.loadAgg J Ycp J J) (.sA (.loadAgg J Ycp J J) ?_));refine .fl Ybr Ydf ?_;refine .sA (.call J (.cons (.rfl' J) .nil) (c_keysT (xT x) (xE_nk _ _) hx.vT.keys (by omega)).toA) ?_;refine .fl Ybq Yde ?_;refine .sA (.call J (.cons (.rfl' J) .nil) (c_keysM (xM x) (xE_nk _ _) hx.vM.keys (by omega)).toA) ?_;refine .sA (.call J (.cons (.rfl' J) (.cons (.rfl' J) (.cons (.rfl' J) (.cons (.rfl' J) .nil)))) (c_from (cT c) (nowT c x) (cM c) (nowM c x) _ _ (Yc7 _) (Yf5 c x) (Yc7 _) (nowM_nk c x) hc.vT v1 hc.vM v2 hx.vT.mem_keys hx.vM.mem_keys (by rw [YcH]; omega) (by rw [YcH]; omega))) ?_;refine .nil ?_;refine .st J J J sz_25 J (.tail _ (.head _)) J J J (ZnB J) ?_;refine .st J J J Ycy J (.head _) J J J (ZnB J) ?_;refine .aN ?_;refine .ret ?_;refine ⟨RetR.agg J (.tail _ (.head _)) YbB J (.c5 (.c5 .nil)), RetR.agg J (.head _) Yce J (.c5 (.c5 (.c5 (.c5 .nil)))), RetD.eq J ?_, trivial⟩
 all_goals (rfl)
theorem applyV_c {c : Ctl} {x : Chg} (h : chkF c ≠ 0) : YaV c x = (zC, zX, chkF c) := if_neg h
theorem applyV_x {c : Ctl} {x : Chg} (h : chkF c = 0) (h2 : chgF x ≠ 0) : YaV c x = (zC, zX, chgF x) := by unfold YaV; rw [if_pos h, if_neg h2]
theorem applyV_0 {c : Ctl} {x : Chg} (h : chkF c = 0) (h2 : chgF x = 0) : YaV c x = appV c x := by unfold YaV; rw [if_pos h, if_pos h2]
theorem c_pApply (c : Ctl) (x : Chg) (hc : CtlOk c) (hx : XIn x) : ACallT Tryz.prog MaxT 7 [.agg c.ds, .agg x.ds] (.tup [.agg (YaV c x).1.ds, .agg (YaV c x).2.1.ds, .v (.int .i64 (YaV c x).2.2)]) := by
 refine YcP (n := 29) (ds' := [.agg (YaV c x).1.ds, .agg (YaV c x).2.1.ds, .v (.int .i64 (YaV c x).2.2)]) Tryz.func7 J (by kernel_rfl) J [.cell 4 25, .cell 5 36, .tmp 6] J J ?_;intro B w0 F0 hT;refine .sr (.sA (.box J J J) ?_);refine .sA (.box J J J) ?_;refine .alloc 101 J J J J zt_25 J J J ?_;refine .alloc 102 J J J J YfP J J J ?_;refine .aN ?_;refine .seq (.sr (.sA (.loadAgg J YbB J J) ?_))
 -- wants the world
 refine .callT J J J hT Yam J (.cons (.rfl' J) .nil) (c_pChk c hc) ?_;refine .aN ?_;refine .sr (.mA ?_);refine .sA (.neq J J J) (.nil ?_);refine .cT J (fun h1 => ?_) fun h1 => ?_
 ·rw [applyV_c (by first | exact h1 | omega)];refine .sr (.sA (.build J bu_25 .nil J) ?_);refine .sA (.build J Ygx .nil J) ?_;refine .mA ?_;refine .st J J J sz_25 J (.tail _ (.head _)) J J J (ZnB J) ?_;refine .st J J J Ycy J (.head _) J J J (ZnB J) ?_;refine .aN ?_;refine .ret ?_;refine ⟨RetR.agg J (.tail _ (.head _)) YbB J (.c5 (.c5 .nil)), RetR.agg J (.head _) Yce J (.c5 (.c5 (.c5 (.c5 .nil)))), RetD.eq J ?_, trivial⟩
  all_goals (rfl)
 have hk0 : chkF c = 0 := (by first | exact h1 | omega);refine .skip (.seq (.sr (.sA (.loadAgg J Yce J J) ?_)));refine .sA (.call J (.cons (.rfl' J) .nil) (c_pCC x)) ?_;refine .aN ?_;refine .sr (.mA ?_);refine .sA (.neq J J J) (.nil ?_);refine .cT J (fun h2 => ?_) fun h2 => ?_
 ·rw [applyV_x hk0 (by first | exact h2 | omega)];refine .sr (.sA (.build J bu_25 .nil J) ?_);refine .sA (.build J Ygx .nil J) ?_;refine .mA ?_;refine .st J J J sz_25 J (.tail _ (.head _)) J J J (ZnB J) ?_;refine .st J J J Ycy J (.head _) J J J (ZnB J) ?_;refine .aN ?_;refine .ret ?_;refine ⟨RetR.agg J (.tail _ (.head _)) YbB J (.c5 (.c5 .nil)), RetR.agg J (.head _) Yce J (.c5 (.c5 (.c5 (.c5 .nil)))), RetD.eq J ?_, trivial⟩
  all_goals (rfl)
 have hx0 : chgF x = 0 := (by first | exact h2 | omega);rw [applyV_0 hk0 hx0];refine .skip (.sr (.sA (.loadAgg J YbB J J) ?_));refine .sA (.loadAgg J Yce J J) ?_
 -- wants the world
 refine .callT J J J hT Yam J (.cons (.rfl' J) (.cons (.rfl' J) .nil)) (c_app c x (cIn hc hk0) hx (Yb8 hk0).lim (limX hx0)) ?_;refine .sA (.extract J J J) (.sA (.extract J J J) (.sA (.extract J J J) ?_));refine .st J J J sz_25 J (.tail _ (.head _)) J J J (ZnB J) ?_;refine .st J J J Ycy J (.head _) J J J (ZnB J) ?_;refine .aN ?_;refine .ret ?_;refine ⟨RetR.agg J (.tail _ (.head _)) YbB J (.c5 (.c5 .nil)), RetR.agg J (.head _) Yce J (.c5 (.c5 (.c5 (.c5 .nil)))), RetD.eq J ?_, trivial⟩
 all_goals (rfl)
section
variable {β : Type} [DecidableEq β]
def UpL (l : List Int) : Prop := l.Pairwise fun x y => x < y
def stepG (E P : GL β) (l : List Int) : GL β := Ycb (Yaq (ofE E) (xE P l))
theorem now_nk (E : GL β) (X : GL (Option β)) : NkG (Yaq (ofE E) X) := YaP (Yc7 _)
theorem step_ri (E P : GL β) (l : List Int) : RiK (stepG E P l) := Yed (now_nk _ _)
theorem now_find {E P : GL β} {l : List Int} (hE : NkG E) (hP : NkG P) (hl : UpL l) (k : Int) : Yaa (Yaq (ofE E) (xE P l)) k = if k ∈ l then some none else match Yaa P k with | some v => some (some v) | none => (Yaa E k).map some := by
 rw [Ybx (xE_nk P l), xE_find hP hl, YdB hE]
 by_cases hk : k ∈ l
 ·rw [if_pos hk, if_pos hk]
 ·rw [if_neg hk, if_neg hk]; cases Yaa P k <;> rfl
theorem step_find {E P : GL β} {l : List Int} (hE : NkG E) (hP : NkG P) (hl : UpL l) (k : Int) : Yaa (stepG E P l) k = if k ∈ l then none else match Yaa P k with | some v => some v | none => Yaa E k := by
 unfold stepG;rw [Ydz (now_nk _ _), now_find hE hP hl]
 by_cases hk : k ∈ l
 ·rw [if_pos hk, if_pos hk]; rfl
 ·rw [if_neg hk, if_neg hk]
  cases Yaa P k with
  | some v => rfl
  | none => cases Yaa E k <;> rfl
structure IsDif (F : GL (Option β)) (A B : GL β) : Prop where
 nk : NkG F
 find : ∀ k, Yaa F k = if Yaa A k = Yaa B k then none else some (Yaa B k)
theorem diff_dif {A B : GL β} (hA : NkG A) (hB : NkG B) : IsDif (YcK (ofE B) (ofE A) (YaG (ofE A) ++ YaG (ofE B))) A B := by
 refine ⟨Ycj _ _ _, fun k => ?_⟩;have e1 : (Yaa (ofE B) k).join = Yaa B k := by rw [YdB hB]; cases Yaa B k <;> rfl
 have e2 : (Yaa (ofE A) k).join = Yaa A k := by rw [YdB hA]; cases Yaa A k <;> rfl
 rw [fromE_find, e1, e2]
 by_cases he : Yaa A k = Yaa B k
 ·rw [if_pos he, if_neg (fun h => h.2 he.symm)]
 ·have hk : k ∈ YaG (ofE A) ++ YaG (ofE B) := by
   rw [List.mem_append, Ydo, Ydo, YdB hA, YdB hB]
   cases h1 : Yaa A k with
   | some v => exact .inl rfl
   | none =>
    cases h2 : Yaa B k with
    | some v => exact .inr rfl
    | none => rw [h1, h2] at he; exact absurd rfl he
  rw [if_neg he, if_pos ⟨hk, fun h => he h.symm⟩]
theorem IsDif.vals {F : GL (Option β)} {A B : GL β} (h : IsDif F A B) (k : Int) : Yaa (Ycb F) k = if Yaa A k = Yaa B k then none else Yaa B k := by
 rw [Ydz h.nk, h.find]
 by_cases he : Yaa A k = Yaa B k
 ·rw [if_pos he, if_pos he]; rfl
 ·rw [if_neg he, if_neg he]; rfl
theorem IsDif.gone {F : GL (Option β)} {A B : GL β} (h : IsDif F A B) (k : Int) : k ∈ Yfk F ↔ Yaa A k ≠ Yaa B k /\ Yaa B k = none := by
 rw [noneG_mem, h.find]
 by_cases he : Yaa A k = Yaa B k
 ·rw [if_pos he]; simp [he]
 ·rw [if_neg he]; simp [he]
theorem IsDif.step {F : GL (Option β)} {A B : GL β} (h : IsDif F A B) (hA : NkG A) (hB : RiK B) : stepG A (Ycb F) (Yfk F) = B := by
 refine rik_ext (step_ri _ _ _) hB fun k => ?_
 rw [step_find hA (Yed h.nk).nk (noneG_up h.nk), h.vals]
 by_cases hk : k ∈ Yfk F
 ·rw [if_pos hk]; exact ((h.gone k).1 hk).2.symm
 ·rw [if_neg hk]
  by_cases he : Yaa A k = Yaa B k
  ·rw [if_pos he]; exact he
  ·rw [if_neg he]
   cases hb : Yaa B k with
   | some v => rfl
   | none => exact absurd ((h.gone k).2 ⟨he, hb⟩) hk
end
theorem idxL_vals {T : TL} (h : ∀ p ∈ Ycb T, p.2.id = p.1) : idxL ((Ycb T).map (·.2)) = Ycb T := by
 unfold idxL;rw [List.map_map];have h1 : ∀ p ∈ Ycb T, ((fun t : Thg => (t.id, t)) ∘ fun x : Int × Thg => x.2) p = id p := fun p hp => Prod.ext (h p hp) rfl
 rw [List.map_congr_left h1, List.map_id]
theorem mvL_vals (M : ML) : mvL ((Ycb M).map mvO) = Ycb M := by
 unfold mvL;rw [List.map_map];have h1 : ∀ p ∈ Ycb M, ((fun x : Mvd => (x.src, x.dst)) ∘ mvO) p = id p := fun p hp => rfl
 rw [List.map_congr_left h1, List.map_id]
theorem idxL_inj {a b : List Thg} (h : idxL a = idxL b) : a = b := by
 have := congrArg (List.map (·.2)) h;unfold idxL at this;simpa [List.map_map, Function.comp_def] using this
theorem mvL_inj {a b : List Mvd} (h : mvL a = mvL b) : a = b := by
 have := congrArg (List.map mvO) h;unfold mvL at this;simpa [List.map_map, Function.comp_def, mvO] using this
def IdT (T : TL) : Prop := ∀ p ∈ T, ∀ t, p.2 = some t -> t.id = p.1
theorem IdT.vals {T : TL} (hN : NkG T) (h : IdT T) : ∀ p ∈ Ycb T, p.2.id = p.1 := fun p hp => by
 have h1 := (Yci (Yed hN).nk).1 hp;rw [Ydz hN] at h1
 cases hf : Yaa T p.1 with
 | none => rw [hf] at h1; cases h1
 | some o => rw [hf] at h1; exact h _ (YdG hf) p.2 h1
theorem IdT.put {L E : TL} (h : IdT L) (hE : IdT E) : IdT (Yaq L E) := fun p hp => (YdA hp).elim (hE p) (h p)
theorem IdT.nil : IdT [] := fun p hp => by cases hp
theorem IdT.ofE (l : List Thg) : IdT (ofE (idxL l)) := IdT.nil.put fun p hp t ht => by
 simp only [YdL, idxL, List.map_map, ZmM] at hp;obtain ⟨u, _, rfl⟩ := hp;obtain rfl := Option.some.inj ht; rfl
theorem IdT.xE (l : List Thg) (g : List Int) : IdT (xE (idxL l) g) := (IdT.ofE l).put fun p hp t ht => by
 obtain ⟨n, _, rfl⟩ := ZmM.1 hp;cases ht
theorem rikT {l : List Thg} (h : RisT l) : RiK (idxL l) := by
 unfold RiK idxL;rw [List.pairwise_map];exact List.pairwise_iff_getElem.2 fun i j hi hj hij => h.up i j hi hj hij
theorem rikM {l : List Mvd} (h : RisM l) : RiK (mvL l) := by
 unfold RiK mvL;rw [List.pairwise_map];exact List.pairwise_iff_getElem.2 fun i j hi hj hij => h.up i j hi hj hij
theorem nowT_id (c : Ctl) (x : Chg) : IdT (nowT c x) := (IdT.ofE _).put (IdT.xE _ _)
theorem out_things (c : Ctl) (x : Chg) : idxL (outC c x).things = stepG (idxL c.things) (idxL x.put) x.drop := idxL_vals ((nowT_id c x).vals (Yf5 c x))
theorem out_moved (c : Ctl) (x : Chg) : mvL (outC c x).moved = stepG (mvL c.moved) (mvL x.add) x.back := mvL_vals _
theorem ctl_ext {a b : Ctl} (h1 : idxL a.things = idxL b.things) (h2 : mvL a.moved = mvL b.moved) : a = b := by
 cases a; cases b;dsimp only at h1 h2;rw [idxL_inj h1, mvL_inj h2]
theorem nkT {c : Ctl} (h : chkF c = 0) : RiK (idxL c.things) := rikT (Yb8 h).ris
theorem nkM {c : Ctl} (h : chkF c = 0) : RiK (mvL c.moved) := rikM (Yb8 h).rism
theorem apply_ok {c : Ctl} {x : Chg} (h : (YaV c x).2.2 = 0) : chkF c = 0 /\ chgF x = 0 /\ chkF (outC c x) = 0 /\ YaV c x = (outC c x, backX c x, 0) := by
 by_cases h1 : chkF c = 0
 ·by_cases h2 : chgF x = 0
  ·rw [applyV_0 h1 h2] at h ⊢
   by_cases h3 : chkF (outC c x) = 0
   ·exact ⟨h1, h2, h3, app_0 h3⟩
   ·rw [app_f h3] at h; exact absurd h h3
  ·rw [applyV_x h1 h2] at h; exact absurd h h2
 ·rw [applyV_c h1] at h; exact absurd h h1
theorem zX_in : XIn zX := ⟨⟨fun t h => (nomatch h), fun t h => (nomatch h), fun t h => (nomatch h), fun t h => (nomatch h)⟩, fun t h => (nomatch h)⟩
section
variable {β : Type} [DecidableEq β]
def newB (A : GL β) (p : Int × β) : Bool := decide (Yaa A p.1 ≠ some p.2)
def goneB (B : GL β) (p : Int × β) : Bool := decide (Yaa B p.1 = none)
def btwP (A B : GL β) : GL β := B.filter (newB A)
def btwG (A B : GL β) : List Int := (A.filter (goneB B)).map (·.1)
theorem Ygq {L : GL β} (h : NkG L) (q : Int × β -> Bool) (k : Int) : Yaa (L.filter q) k = match Yaa L k with | some v => if q (k, v) = true then some v else none | none => none := by
 induction L with
 | nil => rfl
 | cons p L ih =>
  obtain ⟨h1, h2⟩ := List.pairwise_cons.1 h;rw [Yah]
  by_cases hp : p.1 = k
  ·rw [if_pos hp];subst hp;dsimp only
   by_cases hq : q p = true
   ·rw [List.filter_cons_of_pos hq, Yah, if_pos rfl, if_pos hq]
   ·rw [List.filter_cons_of_neg hq, ih h2, if_neg hq]
    have : Yaa L p.1 = none := findG_none.2 (by
     cases hh : hasG L p.1 with
     | false => rfl
     | true => obtain ⟨u, hu, he⟩ := hasG_iff.1 hh; exact absurd he.symm (h1 u hu))
    rw [this]
  ·rw [if_neg hp]
   by_cases hq : q p = true
   ·rw [List.filter_cons_of_pos hq, Yah, if_neg hp, ih h2]
   ·rw [List.filter_cons_of_neg hq, ih h2]
theorem IsDif.btwP {F : GL (Option β)} {A B : GL β} (h : IsDif F A B) (hB : RiK B) : Ycb F = btwP A B := by
 refine rik_ext (Yed h.nk) (hB.sublist List.filter_sublist) fun k => ?_
 unfold Go.Proofs.YtohllekllkcfiaaGreatDoor.btwP;rw [h.vals, Ygq hB.nk]
 cases hb : Yaa B k with
 | none => dsimp only; split <;> rfl
 | some v =>
  dsimp only;unfold newB
  by_cases he : Yaa A k = some v
  ·rw [if_pos he, if_neg (by simp [he])]
  ·rw [if_neg he, if_pos (by simp [he])]
theorem IsDif.btwG {F : GL (Option β)} {A B : GL β} (h : IsDif F A B) (hA : RiK A) : Yfk F = btwG A B := by
 have hu : UpL (Go.Proofs.YtohllekllkcfiaaGreatDoor.btwG A B) := by
  have h1 : RiK (A.filter (goneB B)) := hA.sublist List.filter_sublist;unfold UpL Go.Proofs.YtohllekllkcfiaaGreatDoor.btwG;rw [List.pairwise_map]; exact h1
 refine up_ext (noneG_up h.nk) hu fun k => ?_
 rw [h.gone];unfold Go.Proofs.YtohllekllkcfiaaGreatDoor.btwG goneB;rw [ZmM];constructor
 ·rintro ⟨h1, h2⟩
  cases ha : Yaa A k with
  | none => rw [ha, h2] at h1; exact absurd rfl h1
  | some v => exact ⟨(k, v), List.mem_filter.2 ⟨YdG ha, decide_eq_true h2⟩, rfl⟩
 ·rintro ⟨p, hp, rfl⟩;obtain ⟨h1, h2⟩ := List.mem_filter.1 hp;have h3 := (Yci hA.nk).1 h1;have h4 := dcT h2;exact ⟨by rw [h3, h4]; simp, h4⟩
end
def btwX (a b : Ctl) : Chg := ⟨(btwP (idxL a.things) (idxL b.things)).map (·.2), btwG (idxL a.things) (idxL b.things), (btwP (mvL a.moved) (mvL b.moved)).map mvO, btwG (mvL a.moved) (mvL b.moved)⟩
section
variable {α : Type} {f : α -> Int}
def atF (f : α -> Int) (l : List α) (n : Int) : Nat := (l.takeWhile fun a => decide (f a < n)).length
def putF (f : α -> Int) (l : List α) (a : α) : List α := if (l[atF f l (f a)]?).map f = some (f a) then l.set (atF f l (f a)) a else l.take (atF f l (f a)) ++ [a] ++ l.drop (atF f l (f a))
def putR (f : α -> Int) (a : α) : List α -> List α
 | [] => [a]
 | x :: l => if f x < f a then x :: putR f a l else if f x = f a then a :: l else a :: x :: l
theorem atF_cons (x : α) (l : List α) (n : Int) : atF f (x :: l) n = if f x < n then atF f l n + 1 else 0 := by
 unfold atF;rw [List.takeWhile_cons]
 by_cases h : f x < n <;> simp [h]
theorem putF_R (a : α) : ∀ l : List α, putF f l a = putR f a l
 | [] => by simp [putF, putR, atF]
 | x :: l => by
  have ih := putF_R a l;unfold putF at ih ⊢;rw [putR, atF_cons]
  by_cases h : f x < f a
  ·rw [if_pos h, if_pos h, <- ih, List.getElem?_cons_succ]
   by_cases h2 : (l[atF f l (f a)]?).map f = some (f a)
   ·rw [if_pos h2, if_pos h2]; rfl
   ·rw [if_neg h2, if_neg h2]; rfl
  ·rw [if_neg h, if_neg h, List.getElem?_cons_zero]
   by_cases h2 : f x = f a
   ·rw [if_pos h2, if_pos (by simp [h2])]; rfl
   ·rw [if_neg h2, if_neg (by simp [h2])]; rfl
theorem putR_mem {a b : α} : ∀ {l : List α}, b ∈ putR f a l -> b = a \/ b ∈ l
 | [], h => by rw [putR, ZmS] at h; exact .inl h
 | x :: l, h => by
  rw [putR] at h;split at h
  ·rcases List.mem_cons.1 h with rfl | h
   ·exact .inr List.mem_cons_self
   ·exact (putR_mem h).imp id (List.mem_cons_of_mem _)
  ·split at h
   ·rcases List.mem_cons.1 h with rfl | h
    ·exact .inl J
    ·exact .inr (List.mem_cons_of_mem _ h)
   ·rcases List.mem_cons.1 h with rfl | h
    ·exact .inl J
    ·exact .inr h
theorem putR_ris {a : α} : ∀ {l : List α}, RisBy f l -> RisBy f (putR f a l)
 | [], _ => by rw [putR]; exact List.pairwise_singleton ..
 | x :: l, h => by
  obtain ⟨h1, h2⟩ := List.pairwise_cons.1 h;rw [putR];split
  ·rename_i hl;refine List.pairwise_cons.2 ⟨fun b hb => ?_, putR_ris h2⟩
   rcases putR_mem hb with rfl | hb
   ·exact hl
   ·exact h1 b hb
  ·split
   ·rename_i he;exact List.pairwise_cons.2 ⟨fun b hb => by have := h1 b hb; omega, h2⟩
   ·refine List.pairwise_cons.2 ⟨fun b hb => ?_, h⟩
    rcases List.mem_cons.1 hb with rfl | hb
    ·omega
    ·have := h1 b hb; omega
theorem putR_find {a : α} (k : Int) : ∀ {l : List α}, RisBy f l -> Yb6 f (putR f a l) k = if f a = k then some a else Yb6 f l k
 | [], _ => by rw [putR, Ybc]
 | x :: l, h => by
  obtain ⟨h1, h2⟩ := List.pairwise_cons.1 h;rw [putR];split
  ·rename_i hl;rw [Ybc, putR_find k h2, Ybc]
   by_cases hx : f x = k
   ·rw [if_pos hx, if_pos hx, if_neg (by omega)]
   ·rw [if_neg hx, if_neg hx]
  ·split
   ·rename_i he;rw [Ybc, Ybc]
    by_cases ha : f a = k
    ·rw [if_pos ha, if_pos ha]
    ·rw [if_neg ha, if_neg ha, if_neg (by omega)]
   ·rw [Ybc]
theorem putF_ris {a : α} {l : List α} (h : RisBy f l) : RisBy f (putF f l a) := by rw [putF_R]; exact putR_ris h
theorem Yf2 {a : α} {l : List α} (h : RisBy f l) (k : Int) : Yb6 f (putF f l a) k = if f a = k then some a else Yb6 f l k := by rw [putF_R]; exact putR_find k h
theorem putF_mem {a b : α} {l : List α} (h : b ∈ putF f l a) : b = a \/ b ∈ l := by rw [putF_R] at h; exact putR_mem h
end
section
variable {α : Type} {f : α -> Int}
end
theorem risM_by {l : List Mvd} : RiK (mvL l) ↔ RisBy Mvd.src l := by unfold RiK mvL RisBy; rw [List.pairwise_map]
end Go.Proofs.YtohllekllkcfiaaGreatDoor
namespace Go.Proofs
open Go.Shelf
def Tryz.b20_ren : Go.Shelf.Ren := ⟨fun | 20 => 28 | n => n, fun | 22 => 34 | 3 => 3 | 4 => 4 | 0 => 0 | n => n, fun | n => n⟩
theorem Tryz.b20 : Go.Proofs.Lays2.n20 Tryz.prog Tryz.b20_ren := {
 mixed := by kernel_rfl
 f20 := ZfC Tryz.func28
 t0 := Tryz.underlying0
 a0 := Tryz.isAgg0
 z0 := Tryz.sizeOf0
 v0 := Tryz.zeroValue0
 t3 := Tryz.underlying3
 a3 := Tryz.isAgg3
 z3 := Tryz.sizeOf3
 v3 := Tryz.zeroValue3
 t4 := Tryz.underlying4
 a4 := Tryz.isAgg4
 z4 := Tryz.sizeOf4
 v4 := Tryz.zeroValue4
 t22 := Tryz.underlying34
 a22 := Tryz.isAgg34
 z22 := Tryz.sizeOf34
 v22 := Tryz.zeroValue34
 i3 := by kernel_rfl }
end Go.Proofs
namespace Go.Proofs.YtohllekllkcfiaaGreatDoor
section
open Go.RowKit
open Ty
open Go.Lib
theorem row_intsT {B : Nat} {F : Nat -> Prop} {ρ : Nat -> Value} {w : World} {id e : Nat} {xs : List Int} (h : ObOk B F ρ w id (.row e 1 (xs.map intD))) :
 (ρ id = .slice none 0 0 /\ xs = []) \/ ∃ g cap cur, ρ id = .slice (some ⟨g, 0, none⟩) xs.length cap /\ B <= g /\ w.heap[g]? = some (.cells cur e (0, 0)) /\ xs.length <= cap /\ cap <= maxLen /\ cur.size = cap /\ (∀ i, (hi : i < xs.length) -> cur[i]? = some (.int .i64 xs[i])) /\ ¬ F g := by
 obtain ⟨ys, h1, h2, h3, h4⟩ := h;have hl : (xs.map intD).length = xs.length := ZlM ..;rw [hl] at h1;have h1' : w.ownsRow B e 1 (ρ id) xs.length (flat ys xs.length 1) := h1
 rcases h1'.2 with ⟨h5, h6⟩ | ⟨g, cap, cur, h5, h6, h7, h8, h9, h10, h11⟩
 ·exact .inl ⟨h5, List.eq_nil_of_length_eq_zero h6⟩
 ·refine .inr ⟨g, cap, cur, h5, h6, h7, h8, h9, by rw [h10, Nat.mul_one], fun i hi => ?_, h4 g (by rw [h5]; rfl)⟩;have hc := Yej h1' h5 h7 hi (show 0 < 1 by omega);rw [cell_of_row w g (i * 1 + 0) cur e (0, 0) h7, Nat.mul_one, Nat.add_zero] at hc;have h12 := (h3 i (by rw [hl]; exact hi) 0 (by simp [intD])).2;simp only [ZgP, intD, List.getElem_cons_zero] at h12;rw [hc, rep_v h12]
theorem ints_rowT {B : Nat} {F : Nat -> Prop} {ρ : Nat -> Value} {w : World} {id e g cap : Nat} {cur : Array Value} {xs : List Int} (h5 : ρ id = .slice (some ⟨g, 0, none⟩) xs.length cap) (h6 : B <= g) (h7 : w.heap[g]? = some (.cells cur e (0, 0))) (h8 : xs.length <= cap) (h9 : cap <= maxLen) (h10 : cur.size = cap)
 (hc : ∀ i, (hi : i < xs.length) -> cur[i]? = some (.int .i64 xs[i])) (hF : ¬ F g) : ObOk B F ρ w id (.row e 1 (xs.map intD)) := by
 have hl : (xs.map intD).length = xs.length := ZlM ..;refine ⟨fun i _ => .int .i64 (xs.getD i 0), ?_, fun i hi => by simp [intD], fun i hi j hj => ⟨rfl, ?_⟩, fun g' hg' => ?_⟩
 ·rw [hl];refine ⟨Yar _ _ _, .inr ⟨g, cap, cur, h5, h6, h7, h8, h9, by rw [h10, Nat.mul_one], ?_⟩⟩;apply List.ext_getElem?;intro p
  by_cases hp : p < xs.length
  ·have := YaE (fun i _ => Value.int .i64 (xs.getD i 0)) 1 xs.length p 0 hp (by omega);rw [Nat.mul_one, Nat.add_zero] at this;rw [this, Nat.mul_one, ZgT, if_pos hp, Array.getElem?_toList, hc p hp];simp [ZgD, ZgE hp]
  ·rw [List.getElem?_eq_none (by rw [ZlT]; omega)];exact (List.getElem?_eq_none (by have := Yar (fun i _ => Value.int .i64 (xs.getD i 0)) xs.length 1; unfold flat at this; rw [this]; omega)).symm
 ·rw [hl] at hi;simp only [ZgP, intD] at hj ⊢;obtain rfl : j = 0 := by simpa using hj
  simp only [List.getElem_cons_zero, ZgD, ZgE hi, Option.getD_some];exact .v _
 ·rw [h5] at hg';simp [blk] at hg';subst hg';exact hF
theorem repSL_oneI {F : Nat -> Prop} {ρ : Nat -> Value} {w : World} {vs : List Value} {id : Nat} (h : RepSL F ρ w vs [.own id]) : vs = [ρ id] := by
 obtain ⟨v, rfl⟩ : ∃ v, vs = [v] := by
  match vs, h.1 with
  | [v], _ => exact ⟨v, rfl⟩
 have h1 := h.2 0 (by simp) (by simp);simp only [List.getElem_cons_zero] at h1;cases h1;rfl
theorem put_blockI {w : World} {g n e cap : Nat} {cur : Array Value} {os : Array Obj} {zs : List Int} (h : w.heap[g]? = some (.cells cur e (0, 0))) :
 (Sort.grow (Sort.putRow (Value.int .i64) (Sort.ahead w n) g 0 zs.toArray) os).heap[g]? = some (.cells (Sort.putCells (Value.int .i64) 0 zs.toArray cur) e (0, 0)) /\
 (∀ k, k < w.heap.size -> k ≠ g -> (Sort.grow (Sort.putRow (Value.int .i64) (Sort.ahead w n) g 0 zs.toArray) os).heap[k]? = w.heap[k]?) := by
 have hg : g < w.heap.size := (ZaS.1 h).1;have hs : ∀ k, k < w.heap.size -> (Sort.grow (Sort.putRow (Value.int .i64) (Sort.ahead w n) g 0 zs.toArray) os).heap[k]? = (Sort.putRow (Value.int .i64) (Sort.ahead w n) g 0 zs.toArray).heap[k]? := fun k hk => Sort.heap_grow_old _ _ (by rw [Sort.size_putRow]; exact hk)
 refine ⟨?_, fun k hk hne => ?_⟩
 ·rw [hs g hg];show (w.heap.modify g _)[g]? = _
  rw [Array.getElem?_modify, if_pos rfl, h];rfl
 ·rw [hs k hk];show (w.heap.modify g _)[k]? = _
  rw [Array.getElem?_modify, if_neg (Ne.symm hne)]
theorem put_cellsI (zs : List Int) (cur : Array Value) (hl : zs.length <= cur.size) (i : Nat) (hi : i < zs.length) : (Sort.putCells (Value.int .i64) 0 zs.toArray cur)[i]? = some (.int .i64 zs[i]) := by
 unfold Sort.putCells;rw [Array.getElem?_mapIdx, Array.getElem?_eq_getElem (by omega), Option.map_some, if_pos ⟨ZnZ _, by simpa using hi⟩];simp [hi]
theorem holds_ints {w : World} {g e cap : Nat} {cur : Array Value} {xs : List Int} (h7 : w.heap[g]? = some (.cells cur e (0, 0))) (hc : ∀ i, (hi : i < xs.length) -> cur[i]? = some (.int .i64 xs[i])) : Sort.Holds (Value.int .i64) w g 0 xs.toArray := by
 intro j hj;have hj' : j < xs.length := by simpa using hj
 rw [Nat.zero_add, cell_of_row w g j cur e (0, 0) h7, hc j hj'];refine ⟨by simp [hj'], ?_⟩;unfold World.frozen?;rw [h7];simp
theorem Ygw (xs : List Int) (hn : xs.length < 4611686018427387904) (e : Nat) : RCall Tryz.prog 27 e 1 (xs.map intD) ((Ybv xs).map intD) [] (.tup []) := by
 intro id;refine ⟨.of Tryz.func27 (by kernel_rfl) J, fun F ρ B w vs hF hB hσ hv => ?_⟩;obtain rfl := repSL_oneI hv;have hsl : (Ybv xs).length = xs.length := by unfold Ybv; exact List.length_mergeSort _
 rcases row_intsT (hσ.ok _ (ZmS.2 rfl)) with ⟨h1, h2⟩ | ⟨g, cap, cur, h5, h6, h7, h8, h9, h10, h11, h12⟩
 ·subst h2;rw [h1];have h := AnyM.slices_Sort_int_none Tryz.sortMI none 0 w;change Calls Tryz.prog 27 #[.slice none 0 0] w _ at h;refine h.mono fun e' w' ⟨he, hw⟩ => ?_
  subst hw;refine ⟨_, F, ρ, he, .tup [] [] rfl (fun i h1 => by simp at h1), fun _ hb => hb, fun _ hb => .inl hb, hF, Kept.refl _ _, ?_, ?_, fun _ _ => rfl⟩
  ·have : (Ybv ([] : List Int)).map intD = ([] : List Int).map intD := by unfold Ybv; rw [List.mergeSort_nil]
   rw [this];exact hσ
  intro p hp g hg;have : p = (id, .row e 1 ((Ybv ([] : List Int)).map intD)) := by simpa using hp
  subst this;rw [h1] at hg;simp [blk] at hg
 rw [h5];have hg : g < w.heap.size := (ZaS.1 h7).1;have h := AnyM.slices_Sort_int Tryz.sortMI g 0 cap xs w (holds_ints (cap := cap) h7 h11) hg hn;change Calls Tryz.prog 27 #[.slice (some ⟨g, 0, none⟩) xs.length cap] w _ at h;refine h.mono fun e' w' ⟨he, n, os, hw⟩ => ?_
 obtain ⟨hb1, hb2⟩ := put_blockI (n := n) (os := os) (zs := Ybv xs) (cap := cap) h7;have hw2 : w' = Sort.grow (Sort.putRow (Value.int .i64) (Sort.ahead w n) g 0 (Ybv xs).toArray) os := hw;have hsz : w.heap.size <= w'.heap.size := by rw [hw2, Sort.size_grow, Sort.size_putRow]; exact Nat.le_add_right _ _
 have hob : ownB [(id, Ob.row e 1 (xs.map intD))] ρ g := ⟨_, ZmS.2 rfl, by rw [h5]; rfl⟩;refine ⟨_, F, ρ, he, .tup [] [] rfl (fun i h1 => by simp at h1), fun _ hb => hb, fun _ hb => .inl hb, fun b hb => Nat.lt_of_lt_of_le (hF b hb) hsz, ⟨by rw [hw2]; rfl, by rw [hw2]; rfl, by rw [hw2]; rfl, hsz, fun k hk hne => ?_⟩, ?_, ?_, fun _ _ => rfl⟩
 ·rw [hw2];exact hb2 k hk (fun he => hne (.inr (he ▸ hob)))
 ·refine ⟨fun p hp => ?_, fun p hp q hq hne => ?_, fun p hp q hq _ => ?_⟩
  ·have : p = (id, .row e 1 ((Ybv xs).map intD)) := by simpa using hp
   subst this;exact ints_rowT (by rw [hsl]; exact h5) h6 (by rw [hw2]; exact hb1) (by rw [hsl]; exact h8) h9 (by simp [Sort.putCells, h10]) (fun i hi => put_cellsI _ _ (by rw [hsl, h10]; exact h8) i hi) h12
  ·have h1 : p = (id, .row e 1 ((Ybv xs).map intD)) := by simpa using hp
   have h2 : q = (id, .row e 1 ((Ybv xs).map intD)) := by simpa using hq
   rw [h1, h2] at hne;exact absurd J hne
  have h1 : p = (id, .row e 1 ((Ybv xs).map intD)) := by simpa using hp
  have h2 : q = (id, .row e 1 ((Ybv xs).map intD)) := by simpa using hq
  rw [h1, h2]
 intro p hp g' hg';have : p = (id, .row e 1 ((Ybv xs).map intD)) := by simpa using hp
 subst this;exact .inr ⟨_, ZmS.2 J, hg'⟩
theorem YeY (xs : List Int) (hn : xs.length <= 9223372036854775807) (e id : Nat) : XCall Tryz.prog 28 [.own id] [(id, .row e 1 (xs.map intD))] [] (fun _ => false) (.sl ((compact xs).map intD)) := by
 refine ⟨.of Tryz.func28 (by kernel_rfl) J, fun F ρ B w vs hF hB hσ hv => ?_⟩;obtain rfl := repSL_oneI hv;have hnil : ∀ {B : Nat} {F : Nat -> Prop} {w : World}, ObsOk B F ρ w [] := ⟨fun p hp => (nomatch hp), fun p hp => (nomatch hp), fun p hp => (nomatch hp)⟩
 rcases row_intsT (hσ.ok _ (ZmS.2 rfl)) with ⟨h1, h2⟩ | ⟨g, cap, cur, h5, h6, h7, h8, h9, h10, h11, h12⟩
 ·subst h2;rw [h1];have h := Any.slices_Compact_int_empty Tryz.b20 none 0 w;change Calls Tryz.prog 28 #[.slice none 0 0] w _ at h;refine h.mono fun e' w' ⟨he, hw⟩ => ?_
  subst hw;exact ⟨_, F, ρ, he, .nil, fun _ hb => hb, fun _ hb => .inl hb, hF, Kept.refl _ _, hnil, fun p hp => (nomatch hp), fun _ _ => J⟩
 rw [h5];have hg : g < w.heap.size := (ZaS.1 h7).1;have h := Any.slices_Compact_int Tryz.b20 g 0 cap xs w (holds_ints (cap := cap) h7 h11) hn h8;change Calls Tryz.prog 28 #[.slice (some ⟨g, 0, none⟩) xs.length cap] w _ at h;refine h.mono fun e' w' ⟨he, n, hw⟩ => ?_
 obtain ⟨hb1, hb2⟩ := put_blockI (n := n) (os := #[]) (zs := compact xs ++ List.replicate (xs.length - (compact xs).length) 0) (cap := cap) h7;have hw2 : w' = Sort.grow (Sort.putRow (Value.int .i64) (Sort.ahead w n) g 0 (compact xs ++ List.replicate (xs.length - (compact xs).length) 0).toArray) #[] := by rw [Sort.grow_empty]; exact hw
 have hsz : w.heap.size <= w'.heap.size := by rw [hw2, Sort.size_grow, Sort.size_putRow]; exact Nat.le_add_right _ _
 have hob : ownB [(id, Ob.row e 1 (xs.map intD))] ρ g := ⟨_, ZmS.2 rfl, by rw [h5]; rfl⟩;have hcl := compact_length_le xs;have hl : ((compact xs).map intD).length = (compact xs).length := ZlM ..
 have hr : Rep (fun b => F b \/ b = g) w' (.slice (some ⟨g, 0, none⟩) ((compact xs).map intD).length cap) (.sl ((compact xs).map intD)) := by
  refine .sl ⟨g, 0, none⟩ cap 1 _ (fun i _ => .int .i64 ((compact xs).getD i 0)) (by rw [hl]; omega) (by unfold maxLen at h9; omega) (fun _ => .inr rfl) (fun i hi => by simp [intD]) (fun i j hi hj => ?_) (fun _ _ _ _ => rfl) (fun i hi j hj => ?_)
  ·rw [hl] at hi;obtain rfl : j = 0 := by omega
   rw [YaN, Nat.mul_one, Nat.add_zero, Nat.zero_add, hw2, cell_of_row _ g i _ e (0, 0) hb1, put_cellsI _ _ (by rw [ZlA, List.length_replicate, h10]; omega) i (by rw [ZlA]; omega)];rw [ZgL hi];simp [ZgD, ZgE hi]
  rw [hl] at hi;simp only [ZgP, intD] at hj ⊢;obtain rfl : j = 0 := by simpa using hj
  simp only [List.getElem_cons_zero, ZgD, ZgE hi, Option.getD_some];exact .v _
 rw [hl] at hr;refine ⟨_, _, ρ, he, hr, fun _ hb => .inl hb, fun b hb => ?_, fun b hb => ?_, ⟨by rw [hw2]; rfl, by rw [hw2]; rfl, by rw [hw2]; rfl, hsz, fun k hk hne => ?_⟩, hnil, fun p hp => (nomatch hp), fun _ _ => rfl⟩
 ·rcases hb with hb | rfl
  ·exact .inl hb
  exact .inr (.inr hob)
 ·rcases hb with hb | rfl
  ·exact Nat.lt_of_lt_of_le (hF b hb) hsz
  exact Nat.lt_of_lt_of_le hg hsz
 rw [hw2];exact hb2 k hk (fun he => hne (.inr (he ▸ hob)))
def Rise {α : Type} (lt : α -> α -> Bool) (l : List α) : Prop := l.Pairwise fun x y => lt x y = true
section
variable {α : Type} [DecidableEq α] [Inhabited α]
theorem mem_upTo (d : Array α) : ∀ m x, x ∈ compactUpTo d m ↔ ∃ j, j < m /\ d[j]! = x
 | 0, x => by simp [compactUpTo]
 | m + 1, x => by
  rw [compactUpTo_succ, List.mem_append, mem_upTo d m x];constructor
  ·rintro (⟨j, h1, h2⟩ | h)
   ·exact ⟨j, by omega, h2⟩
   ·by_cases hk : keeps d m = true
    ·rw [if_pos hk, ZmS] at h;exact ⟨m, by omega, h.symm⟩
    ·rw [if_neg hk] at h; cases h
  ·rintro ⟨j, h1, h2⟩
   by_cases hj : j < m
   ·exact .inl ⟨j, hj, h2⟩
   ·obtain rfl : j = m := by omega
    by_cases hk : keeps d j = true
    ·exact .inr (by rw [if_pos hk, ZmS, h2])
    ·have hk' : keeps d j = false := by simpa using hk
     unfold keeps at hk';rw [decide_eq_false_iff_not] at hk';have hj0 : j ≠ 0 := fun e => hk' (.inl e)
     have he : d[j]! = d[j - 1]! := Decidable.not_not.1 fun e => hk' (.inr e)
     exact .inl ⟨j - 1, by omega, by rw [<- he, h2]⟩
theorem mem_compact (l : List α) (x : α) : x ∈ compact l ↔ x ∈ l := by
 unfold compact;rw [mem_upTo];constructor
 ·rintro ⟨j, h1, h2⟩;rw [<- h2];simp [h1]
 ·intro h;obtain ⟨j, h1, h2⟩ := List.mem_iff_getElem.1 h;exact ⟨j, h1, by simp [h1, h2]⟩
theorem rise_upTo {lt : α -> α -> Bool} (htr : ∀ x y z, lt x y = true -> lt y z = true -> lt x z = true) (htot : ∀ x y, lt x y = false -> lt y x = false -> x = y) (d : Array α) (hs : ∀ i j, i < j -> j < d.size -> lt d[j]! d[i]! = false) : ∀ m, m <= d.size -> Rise lt (compactUpTo d m)
 | 0, _ => by simp [compactUpTo, Rise]
 | m + 1, hm => by
  rw [compactUpTo_succ];have ih := rise_upTo htr htot d hs m (by omega)
  by_cases hk : keeps d m = true
  ·rw [if_pos hk];refine List.pairwise_append.2 ⟨ih, by simp, fun x hx y hy => ?_⟩;obtain rfl := ZmS.1 hy;obtain ⟨j, h1, rfl⟩ := (mem_upTo d m x).1 hx;unfold keeps at hk;rw [decide_eq_true_eq] at hk;have hne : d[m]! ≠ d[m - 1]! := hk.resolve_left (by omega)
   have a1 : lt d[m - 1]! d[m]! = true := by
    cases h : lt d[m - 1]! d[m]! with
    | true => rfl
    | false => exact absurd (htot _ _ (hs (m - 1) m (by omega) (by omega)) h) hne
   by_cases hj : j = m - 1
   ·rw [hj]; exact a1
   ·cases h : lt d[j]! d[m - 1]! with
    | true => exact htr _ _ _ h a1
    | false => rw [htot _ _ h (hs j (m - 1) (by omega) (by omega))]; exact a1
  ·rw [if_neg hk, List.append_nil]; exact ih
theorem rise_compact {lt : α -> α -> Bool} (htr : ∀ x y z, lt x y = true -> lt y z = true -> lt x z = true) (htot : ∀ x y, lt x y = false -> lt y x = false -> x = y) (l : List α) (hs : l.Pairwise fun x y => lt y x = false) : Rise lt (compact l) := by
 refine rise_upTo htr htot _ (fun i j hij hj => ?_) _ (by simp);have hj' : j < l.length := by simpa using hj
 have := List.pairwise_iff_getElem.1 hs i j (by omega) hj' hij;simpa [show i < l.length by omega, hj'] using this
end
def kcomp (l : List Int) : List Int := compact (Ybv l)
theorem Ydm (l : List Int) (x : Int) : x ∈ kcomp l ↔ x ∈ l := by unfold kcomp; rw [mem_compact]; exact (Ybe l).mem_iff
theorem Yev (l : List Int) : (kcomp l).Pairwise fun x y => x < y := by
 have h := rise_compact (lt := fun x y : Int => decide (x < y)) (fun _ _ _ h1 h2 => by simp only [decide_eq_true_eq] at *; omega) (fun x y h1 h2 => by simp only [decide_eq_false_iff_not] at *; omega) (Ybv l) ((YfD l).imp fun {a b} h => by simp only [decide_eq_false_iff_not]; omega);exact h.imp fun h => by simpa using h
theorem kcomp_eq {l r : List Int} (hr : r.Pairwise fun x y => x < y) (hm : ∀ x, x ∈ r ↔ x ∈ l) : kcomp l = r := by
 have nd : ∀ {l : List Int}, (l.Pairwise fun x y => x < y) -> l.Nodup := fun h => h.imp fun {a b} hab e => by omega
 have hp : (kcomp l).Perm r := (List.perm_ext_iff_of_nodup (nd (Yev l)) (nd hr)).2 fun x => by rw [Ydm, hm]
 exact List.Perm.eq_of_pairwise (le := fun x y : Int => x < y) (fun a b _ _ h3 h4 => by omega) (Yev l) hr hp
theorem kcomp_len (l : List Int) : (kcomp l).length <= l.length := by
 unfold kcomp;refine ZnT (compact_length_le _) ?_;rw [(Ybe l).length_eq]; exact ZnR _
namespace Ty
theorem fo_101_1 : Yac Tryz.prog 101 1 = some 1 := by kernel_rfl
end Ty
open Go.Lib
def brS (l : List Clp) : List Int := kcomp (brks l)
def bA (l : List Clp) (k : Nat) : Int := (brS l).getD k default
theorem brk_rng {l : List Clp} {t : Int} (ok : ∀ c ∈ l, ClpOk c t) : ∀ x ∈ brks l, -1 <= x /\ x <= 200000 := fun x hx => by
 unfold brks at hx;obtain ⟨c, hc, hx⟩ := List.mem_flatMap.1 hx;have hk := ok c hc;have hr := hk.rng;unfold Yaz at hr;unfold brkC at hx
 rcases List.mem_append.1 hx with hx | hx
 ·simp only [List.mem_cons, List.not_mem_nil, or_false] at hx
  rcases hx with rfl | rfl | rfl | rfl <;> omega
 ·obtain ⟨p, hp, rfl⟩ := ZmM.1 hx;have h1 := (hk.pts p hp).lo;have h2 := (hk.pts p hp).hi;omega
theorem brks_len {l : List Clp} {t : Int} (ok : ∀ c ∈ l, ClpOk c t) (hl : l.length <= 300) : (brks l).length <= 16200 := by
 have h := Ygz ok l.length (ZnR _);unfold brkTo at h;rw [List.take_length] at h;unfold brks;omega
theorem brS_len {l : List Clp} {t : Int} (ok : ∀ c ∈ l, ClpOk c t) (hl : l.length <= 300) : (brS l).length <= 16200 := ZnT (kcomp_len _) (brks_len ok hl)
theorem bA_rng {l : List Clp} {t : Int} (ok : ∀ c ∈ l, ClpOk c t) (k : Nat) (h : k < (brS l).length) : -1 <= bA l k /\ bA l k <= 200000 := brk_rng ok _ ((Ydm _ _).1 (Yba h))
theorem withinL_len (l : List Clp) (o : List Spn) (a b : Int) : (YbV l o a b).length <= o.length + 2 := by
 unfold YbV
 repeat' split
 all_goals first | omega | exact ZnT (YcI _ _ _) (by omega) | exact ZnT (YcI _ _ _) (Nat.succ_le_succ (YcI _ _ _))
def st1 (l : List Clp) (o : List Spn) (k : Nat) : List Spn := if (sumR l (bA l k)).n.sign ≠ 0 then YbG o (bA l k) (bA l k + 1) else o
def st2 (l : List Clp) (o : List Spn) (k : Nat) : List Spn := if k + 1 < (brS l).length /\ bA l (k + 1) - bA l k > 1 then YbV l (st1 l o k) (bA l k + 1) (bA l (k + 1)) else st1 l o k
def spTo (l : List Clp) : Nat -> List Spn
 | 0 => []
 | k + 1 => st2 l (spTo l k) k
def Ye3 (l : List Clp) : List Spn := spTo l (brS l).length
theorem st1_len (l : List Clp) (o : List Spn) (k : Nat) : (st1 l o k).length <= o.length + 1 := by
 unfold st1;split
 ·exact YcI _ _ _
 ·omega
theorem st2_len (l : List Clp) (o : List Spn) (k : Nat) : (st2 l o k).length <= o.length + 3 := by
 have := st1_len l o k;unfold st2;split
 ·exact ZnT (withinL_len _ _ _ _) (by omega)
 ·omega
theorem spTo_len (l : List Clp) : ∀ k, (spTo l k).length <= 3 * k
 | 0 => ZnR _
 | k + 1 => ZnT (st2_len _ _ _) (by have := spTo_len l k; omega)
theorem at_bA {l : List Clp} {k : Nat} (h : k < (brS l).length) : ((brS l).map intD)[k]? = some (intD (bA l k)) := Yca h
theorem c_spans (l : List Clp) (t : Int) (ok : ∀ c ∈ l, ClpOk c t) (hl : l.length <= 300) : Yad Tryz.prog 38 [.agg (crvD l)] (.sl ((Ye3 l).map Spn.ds)) := by
 refine Yab (n := 59) (ds' := [.sl ((Ye3 l).map Spn.ds)]) Tryz.func38 J (by kernel_rfl) J [2] J J ?_;intro B w0 F0 fr;have hbl := brks_len ok hl;have hsl := brS_len ok hl;refine .sr (.sA (.box J J J) ?_);refine .aN ?_;refine .sr (.fl fo_101_1 Ybt ?_);refine .callO 71 J J J J (.cons (.rfl' J) .nil) (c_clInt (brks l) (by omega)) J ?_;refine .sA (.assignO J J) (.nil ?_);refine .sr (.sA (.moveO J J) ?_)
 -- turns 71
 refine .callX J J J (.cons U .nil) ((Ygw (brks l) (by omega) 3) 71) ⟨(.head _), trivial⟩ J J (fun _ h => nomatch h) ?_;refine .nil ?_;refine .sr (.sA (.moveO J J) ?_)
 -- takes 71
 refine .callX J J J (.cons U .nil) ((YeY (Ybv (brks l)) (by rw [(Ybe _).length_eq]; omega) 3) 71) ⟨(.head _), trivial⟩ J J (fun _ h => nomatch h) ?_;rw [show compact (Ybv (brks l)) = brS l from rfl];refine .aN ?_;refine .sr (.aN ?_);refine .seq (.sr (.mA ?_));refine .sA (.lenSl J et_34.ht J) ?_;rw [ZlM];refine .mN ?_;refine .block (.adopt 4 901 64 2 J J ?_);refine .loop (G := Nat) (fun k => Env.of [(16, .iv k), (14, .d (.sl ((brS l).map intD))), (15, .iv (brS l).length), (1, .d (.fp (crvD l))), (3, .d (.sl ((brS l).map intD))), (4, .own 901)]) (fun k => [(901, .row 64 2 ((spTo l k).map Spn.ds))]) (fun k => k <= (brS l).length) (fun k => (brS l).length - k) 0 (ZnZ _) (Sub.less ⟨U, U, U, U, U, U, trivial⟩ (fun _ h => h)) ?_;intro k hk;refine .sr (.sA (.lss J J J) (.nil ?_));refine .seq (.cT J (fun h1 => ?_) fun h1 => ?_)
 ·have hlt : k < (brS l).length := by omega
  have hrg := bA_rng ok k hlt;have hol := spTo_len l k;refine .skip (.seq (.block (.sr (.mA ?_))));refine .sA (.indexAddr J et_34 J J k J (at_bA hlt) J) (.sA (.load J sc_3 J) ?_);refine .aa (.nil ?_);refine .seqJ (True) (Env.of [(4, .own 901), (1, .d (.fp (crvD l))), (3, .d (.sl ((brS l).map intD))), (5, .iv k), (6, .iv (bA l k)), (14, .d (.sl ((brS l).map intD))), (15, .iv (brS l).length), (16, .iv k)]) [(901, .row 64 2 ((st1 l (spTo l k) k).map Spn.ds))] ?_ (fun _ => ?_)
  ·skip;refine .sr (.fl YfG sc_99 ?_);refine .mA ?_;refine .sA (.callClo J J (.cons (.rfl' J) .nil) (c_sum1 l t (bA l k) ok hl)) (.sA (.call J (.cons (.rfl' J) .nil) (c_signR (sumR l (bA l k)))) ?_);refine .sA (.neq J J J) (.nil ?_);refine .cT J (fun h2 => ?_) fun h2 => ?_
   ·have hs1 : (st1 l (spTo l k) k) = YbG (spTo l k) (bA l k) (bA l k + 1) := if_pos h2;refine .region (.sA (.moveO J J) ?_);refine .mm ?_;refine .sA (.add64 J J J) ?_;refine .callXS J J J (ArgsS.cons U (ArgsS.cons U (ArgsS.cons U ArgsS.nil))) (YdV (spTo l k) (bA l k) (bA l k + 1) (by omega)) ⟨(.head _), trivial⟩ J J (fun _ _ => J) ?_;refine .sA (.assignO J J) (.nil ?_);refine ⟨?_, Sub.less ⟨U, U, U, U, U, U, U, U, trivial⟩ (by rw [hs1]; exact fun _ h => h)⟩;trivial
   have hs1 : (st1 l (spTo l k) k) = (spTo l k) := if_neg h2;refine .skip ?_;refine ⟨?_, Sub.less ⟨U, U, U, U, U, U, U, U, trivial⟩ (by rw [hs1]; exact fun _ h => h)⟩;trivial
  refine .sr (.mA ?_);refine .sA (.add64 J J J) ?_;refine .mA ?_;refine .sA (.lenSl J et_34.ht J) ?_;rw [ZlM];refine .sA (.lss J J J) ?_;refine .mA ?_;refine .sT 37 J (fun g3 => ?_) fun g3 => ?_
  ·have hk1 : k + 1 < (brS l).length := by omega
   have hrg2 := bA_rng ok (k + 1) hk1;refine .sG (.moveD J J) ?_;refine .sG (.moveD J J) ?_;refine .sG (.add64 J J J) ?_;refine .sG (.indexAddr J et_34 J J (k + 1) (by omega) (at_bA hk1) J) ?_;refine .sG (.load J sc_3 J) ?_;refine .sG (.moveD J J) ?_;refine .sG (.sub64 J J J) ?_;refine .sG (.gtr J J J) ?_;refine .sA (.pickT J J J) (.nil ?_);refine .cT J (fun h4 => ?_) fun h4 => ?_
   ·have hs2 : spTo l (k + 1) = YbV l (st1 l (spTo l k) k) (bA l k + 1) (bA l (k + 1)) := if_pos ⟨hk1, h4⟩;refine .drw 9 ?_;refine .sA (.loadAgg J ag_101 J J) (.sA (.moveO J J) (.sA (.moveD J J) ?_));refine .sA (.add64 J J J) ?_;refine .sA (.moveD J J) (.sA (.moveD J J) ?_);refine .sA (.add64 J J J) ?_;refine .sA (.indexAddr J et_34 J J (k + 1) (by omega) (at_bA hk1) J) ?_;refine .sA (.load J sc_3 J) ?_;refine .nil ?_;refine .callXS J J J (ArgsS.cons U (ArgsS.cons U (ArgsS.cons U (ArgsS.cons U ArgsS.nil)))) (c_within l t ok hl (st1 l (spTo l k) k) (bA l k + 1) (bA l (k + 1)) (ZnT (st1_len _ _ _) (by omega)) (by omega) (by omega)) ⟨(.head _), trivial⟩ J J (fun _ _ => J) ?_;refine .sA (.assignO J J) (.nil ?_);refine .region (.sA (.add64 J J J) ?_);refine .mN ?_;refine ⟨k + 1, (by omega), (by dsimp only; omega), Sub.less ⟨U, U, U, U, U, U, trivial⟩ (by dsimp only; rw [hs2]; exact fun _ h => h)⟩
   have hs2 : spTo l (k + 1) = (st1 l (spTo l k) k) := if_neg (fun hh => h4 hh.2);refine .skip (.region (.sA (.add64 J J J) ?_));refine .mN ?_;refine ⟨k + 1, (by omega), (by dsimp only; omega), Sub.less ⟨U, U, U, U, U, U, trivial⟩ (by dsimp only; rw [hs2]; exact fun _ h => h)⟩
  have hs2 : spTo l (k + 1) = (st1 l (spTo l k) k) := if_neg (fun hh => by have := hh.1; omega);refine .pB ?_;refine .pB ?_;refine .pB ?_;refine .pB ?_;refine .sA (.pickF J J J) (.nil ?_);refine .cond J (fun h => nomatch h) (fun _ => ?_);refine .skip (.region (.sA (.add64 J J J) ?_));refine .mN ?_;refine ⟨k + 1, (by omega), (by dsimp only; omega), Sub.less ⟨U, U, U, U, U, U, trivial⟩ (by dsimp only; rw [hs2]; exact fun _ h => h)⟩
 obtain rfl : k = (brS l).length := by omega
 refine .exit (.sr (.sA (.moveO J J) ?_));refine .sA (.assignO J J) (.nil ?_);refine .ret ?_;refine ⟨RetD.own J (.head _) ?_, trivial⟩
 all_goals (first | rfl)
end
section
open Go.RowKit Go.Shelf Go.Lib Go.Sort
theorem YbS {W : World} {b i e : Nat} {cs : Array Value} {v : Value} (hb : b = W.heap.size) (hv : cs[i]? = some v) : (W.alloc (.cells cs e)).cell? ⟨b, i, none⟩ = some v := by
 subst hb;have h : (W.alloc (.cells cs e)).heap[W.heap.size]? = some (.cells cs e (0, 0)) := heap_alloc_new W _;rw [cell_of_row _ _ i cs e (0, 0) h, hv]
theorem rngK {α : Type} [Inhabited α] (n : Nat) (i : Nat) (h : i < n) : (Array.range n)[i]! = i := by
 rw [getElem!_pos (Array.range n) i (by simpa using h)]; simp
section
variable {α : Type} [Inhabited α]
theorem put_blockG (enc : α -> List Value) (k : Nat) {w : World} {g n e : Nat} {cur : Array Value} {os : Array Obj} {zs : Array α} (h : w.heap[g]? = some (.cells cur e (0, 0))) :
 (Sort.grow (putRowK enc k (Sort.ahead w n) g 0 zs) os).heap[g]? = some (.cells (Sort.putCells id 0 (flatK enc k zs) cur) e (0, 0)) /\
 (∀ j, j < w.heap.size -> j ≠ g -> (Sort.grow (putRowK enc k (Sort.ahead w n) g 0 zs) os).heap[j]? = w.heap[j]?) := by
 unfold putRowK;have hg : g < w.heap.size := (ZaS.1 h).1;have hs : ∀ j, j < w.heap.size -> (Sort.grow (Sort.putRow id (Sort.ahead w n) g 0 (flatK enc k zs)) os).heap[j]? = (Sort.putRow id (Sort.ahead w n) g 0 (flatK enc k zs)).heap[j]? := fun j hj => Sort.heap_grow_old _ _ (by rw [Sort.size_putRow]; exact hj)
 refine ⟨?_, fun j hj hne => ?_⟩
 ·rw [hs g hg];show (w.heap.modify g _)[g]? = _
  rw [Array.getElem?_modify, if_pos rfl, h];rfl
 ·rw [hs j hj];show (w.heap.modify g _)[j]? = _
  rw [Array.getElem?_modify, if_neg (Ne.symm hne)]
theorem put_cellsG (enc : α -> List Value) (k : Nat) (zs : Array α) (cur : Array Value) (hl : zs.size * k <= cur.size) (i c : Nat) (hi : i < zs.size) (hc : c < k) : (Sort.putCells id 0 (flatK enc k zs) cur)[i * k + c]? = some ((enc zs[i]!)[c]!) := by
 have hk0 : 0 < k := by omega
 have hb : i * k + c < zs.size * k := by
  have := Nat.mul_le_mul_right k (show i + 1 <= zs.size by omega);rw [Nat.add_mul, Nat.one_mul] at this;omega
 unfold Sort.putCells;rw [Array.getElem?_mapIdx, Array.getElem?_eq_getElem (by omega), Option.map_some, if_pos ⟨ZnZ _, by rw [size_flatK]; omega⟩];rw [Nat.sub_zero, get_flatK enc k zs _ hb];have e1 : (i * k + c) / k = i := by rw [Nat.mul_comm, Nat.mul_add_div hk0, Nat.div_eq_of_lt hc, Nat.add_zero]
 have e2 : (i * k + c) % k = c := by rw [Nat.mul_comm, Nat.mul_add_mod, Nat.mod_eq_of_lt hc]
 rw [e1, e2];rfl
end
theorem repSL_fn {F : Nat -> Prop} {ρ : Nat -> Value} {w : World} {vs : List Value} {id : Nat} {f : Fn} (h : RepSL F ρ w vs [.own id, .d (.clo f [])]) : vs = [ρ id, .func f #[] #[]] := by
 obtain ⟨v, u, rfl⟩ : ∃ v u, vs = [v, u] := by
  match vs, h.1 with
  | [v, u], _ => exact ⟨v, u, rfl⟩
 have h1 := h.2 0 (by simp) (by simp);have h2 := h.2 1 (by simp) (by simp);simp only [List.getElem_cons_zero, List.getElem_cons_succ] at h1 h2;cases h1;have h3 := Yag h2
 cases h3 with
 | clo _ cs _ hl _ =>
  have : cs = [] := List.eq_nil_of_length_eq_zero hl;subst this;rfl
section
variable {α : Type} (cf : α -> α -> Int)
def YaK (l : List α) : List α := l.mergeSort fun x y => !(ltOf cf y x)
variable {cf}
theorem YaB (l : List α) : (YaK cf l).Perm l := List.mergeSort_perm l _
theorem Yfv (hO : SWO (ltOf cf)) (l : List α) : (YaK cf l).Pairwise fun x y => ltOf cf y x = false := by
 unfold YaK
 have := List.pairwise_mergeSort (le := fun x y => !(ltOf cf y x)) (fun a b c h1 h2 => by
  simp only [Bool.not_eq_true'] at h1 h2 ⊢;exact hO.ntrans _ _ _ h2 h1) (fun a b => by
  rw [Bool.or_eq_true, Bool.not_eq_true', Bool.not_eq_true']
  cases h : ltOf cf b a with
  | false => exact .inl rfl
  | true => exact .inr (hO.asymmA h)) l
 exact this.imp fun h => by simpa using h
end
structure SortT (P : Program) (sf k : Nat) : Prop where
 ent : ∀ args w, (callFunc sf args).run P w = .ok (.enter sf args) w
 nil : ∀ fv w, Calls P sf #[.slice none 0 0, fv] w fun e w' => e = .returned (.tuple #[]) /\ w' = w
 all : ∀ (enc : Nat -> List Value), (∀ x, (enc x).length = k) -> (∀ x, ∀ v ∈ enc x, v.oneCell' = true) -> ∀ (cf : Nat -> Nat -> Int), SWO (ltOf cf) -> ∀ (g blk cap : Nat) (d : Array Nat) (w : World), (∀ args w, (callFunc g args).run P w = .ok (.enter g args) w) -> CmpLays P g #[] enc k cf blk 0 d.size w -> HoldsK enc k w blk 0 d -> blk < w.heap.size -> d.size < 4611686018427387904 ->
  Calls P sf #[.slice (some ⟨blk, 0, none⟩) d.size cap, .func (.func g) #[] #[]] w fun e w' => e = .returned (.tuple #[]) /\ ∃ d' n os, PermIn 0 d.size d d' /\ SortedIn (ltOf cf) 0 d.size d' /\ w' = sortWorldK enc k w blk 0 n d' os
section
variable {α : Type} [Inhabited α] (dz : α -> List D) (k : Nat) (cf : α -> α -> Int)
def CmpT (P : Program) (g k : Nat) (dz : α -> List D) (cf : α -> α -> Int) : Prop := ∀ (F : Nat -> Prop) (w0 W : World) (x y : α) (xs ys : List Value), xs.length = k -> ys.length = k -> (∀ i (h : i < xs.length) (h' : i < (dz x).length), Rep F w0 xs[i] (dz x)[i]) -> (∀ i (h : i < ys.length) (h' : i < (dz y).length), Rep F w0 ys[i] (dz y)[i]) ->
 Calls P g #[.agg xs.toArray, .agg ys.toArray] W fun e w' => e = .returned (.int .i64 (cf x y)) /\ ∃ q os', w' = grow (W.drewN q) os'
variable {dz k cf}
def encF (ys : Nat -> Nat -> Value) (zs : List Value) (k n i : Nat) : List Value := if i < n then (List.range k).map (ys i) else zs
def cfF (cf : α -> α -> Int) (xs : List α) (i j : Nat) : Int := cf (xs.getD i default) (xs.getD j default)
theorem swoF (hO : SWO (ltOf cf)) (xs : List α) : SWO (ltOf (cfF cf xs)) where
 irrefl x := hO.irrefl (xs.getD x default)
 trans x y z h1 h2 := hO.trans (xs.getD x default) (xs.getD y default) (xs.getD z default) h1 h2
 ntrans x y z h1 h2 := hO.ntrans (xs.getD x default) (xs.getD y default) (xs.getD z default) h1 h2
theorem YeE {P : Program} {sf g : Nat} (T : SortT P sf k) (hO : SWO (ltOf cf)) (eg : ∀ args w, (callFunc g args).run P w = .ok (.enter g args) w) (hC : CmpT P g k dz cf) (hdz : ∀ x, (dz x).length = k)
 (zs : List Value) (hzl : zs.length = k) (hz1 : ∀ v ∈ zs, v.oneCell' = true) (hzr : ∀ F w i (h : i < zs.length) (h' : i < (dz default).length), Rep F w zs[i] (dz default)[i])
 (xs : List α) (hn : xs.length < 4611686018427387904) (hd : ∀ r : List α, r.Perm xs -> (r.Pairwise fun x y => ltOf cf y x = false) -> r = YaK cf xs) (e : Nat) : RCall P sf e k (xs.map dz) ((YaK cf xs).map dz) [.clo (.func g) []] (.tup []) := by
 intro id;refine ⟨T.ent, fun F ρ B w vs hF hB hσ hv => ?_⟩;obtain rfl := repSL_fn hv;have hsl : (YaK cf xs).length = xs.length := (YaB xs).length_eq;have hl : (xs.map dz).length = xs.length := ZlM ..;obtain ⟨ys, h1, h2, h3, h4⟩ := hσ.ok _ (ZmS.2 rfl);rw [hl] at h1;have h1' : w.ownsRow B e k (ρ id) xs.length (flat ys xs.length k) := h1
 have hcell : ∀ i, (hi : i < xs.length) -> ∀ c, (hc : c < k) -> (ys i c).oneCell' = true /\ Rep F w (ys i c) ((dz xs[i])[c]'(by rw [hdz]; exact hc)) := fun i hi c hc => by
  have := h3 i (by rw [hl]; exact hi) c (by rw [ZgP, hdz]; exact hc);simpa only [ZgP] using this
 rcases h1'.2 with ⟨h5, h6⟩ | ⟨g0, cap, cur, h5, h6, h7, h8, h9, h10, h11⟩
 ·have h6' := List.eq_nil_of_length_eq_zero h6;subst h6';rw [h5];refine (T.nil (.func (.func g) #[] #[]) w).mono fun e' w' ⟨he, hw⟩ => ?_
  subst hw;refine ⟨_, F, ρ, he, .tup [] [] rfl (fun i h1 => by simp at h1), fun _ hb => hb, fun _ hb => .inl hb, hF, Kept.refl _ _, ?_, ?_, fun _ _ => rfl⟩
  ·have : (YaK cf ([] : List α)).map dz = ([] : List α).map dz := by unfold YaK; rw [List.mergeSort_nil]
   rw [this];exact hσ
  ·intro p hp b hb;have : p = (id, .row e k ((YaK cf ([] : List α)).map dz)) := by simpa using hp
   subst this;rw [h5] at hb;simp [blk] at hb
 ·rw [h5];have hg : g0 < w.heap.size := (ZaS.1 h7).1
  have hcur : ∀ i c, i < xs.length -> c < k -> cur[i * k + c]? = some (ys i c) := fun i c hi hc => by
   have hcc := Yej h1' h5 h7 hi hc;rwa [cell_of_row w g0 (i * k + c) cur e (0, 0) h7] at hcc
  have hdm : ∀ j, j < xs.length * k -> j / k < xs.length /\ j % k < k /\ j / k * k + j % k = j := fun j hj => by
   have hk0 : 0 < k := Nat.pos_of_ne_zero fun h => by subst h; simp at hj
   exact ⟨(Nat.div_lt_iff_lt_mul hk0).2 hj, Nat.mod_lt _ hk0, by rw [Nat.mul_comm]; exact Nat.div_add_mod j k⟩
  have hE : ∀ i, (encF ys zs k xs.length i).length = k := fun i => by
   unfold encF;split
   ·simp
   ·exact hzl
  have hEat : ∀ i c, i < xs.length -> c < k -> (encF ys zs k xs.length i)[c]! = ys i c := fun i c hi hc => by
   unfold encF;rw [if_pos hi, getElem!_pos _ c (by simpa using hc)];simp
  have hH : HoldsK (encF ys zs k xs.length) k w g0 0 (Array.range xs.length) := by
   intro j hj;have hj' : j < xs.length * k := by simpa using hj
   obtain ⟨hpi, hpc, hpe⟩ := hdm j hj';have h12 := hcur (j / k) (j % k) hpi hpc;rw [hpe] at h12;rw [Nat.zero_add, cell_of_row w g0 j cur e (0, 0) h7, h12, get_flatK _ k _ _ (by simpa using hj'), rngK (α := Nat) _ _ hpi];refine ⟨by rw [hEat _ _ hpi hpc]; rfl, ?_⟩;unfold World.frozen?;rw [h7];simp
  have hRep : ∀ x, ∀ i (h : i < (encF ys zs k xs.length x).length) (h' : i < (dz (xs.getD x default)).length), Rep F w (encF ys zs k xs.length x)[i] (dz (xs.getD x default))[i] := fun x i h h' => by
   have hi : i < k := by rw [hE] at h; exact h
   by_cases hx : x < xs.length
   ·have e1 : (encF ys zs k xs.length x)[i] = ys x i := by
     have := hEat x i hx hi;rwa [getElem!_pos _ i h] at this
    have e2 : xs.getD x default = xs[x] := by rw [ZgD, ZgE hx]; rfl
    simp only [e1, e2];exact (hcell x hx i hi).2
   ·have e1 : encF ys zs k xs.length x = zs := if_neg hx;have e2 : xs.getD x default = default := by rw [ZgD, List.getElem?_eq_none (by omega)]; rfl
    simp only [e1, e2];exact hzr F w i (by rw [hzl]; exact hi) _
  have hL : CmpLays P g #[] (encF ys zs k xs.length) k (cfF cf xs) g0 0 (Array.range xs.length).size w := fun m os dk _ x y =>
   hC F w _ (xs.getD x default) (xs.getD y default) _ _ (hE x) (hE y) (hRep x) (hRep y)
  have h := T.all (encF ys zs k xs.length) hE
   (fun x v hv => by
    unfold encF at hv
    by_cases hx : x < xs.length
    ·rw [if_pos hx] at hv;obtain ⟨c, hc, rfl⟩ := ZmM.1 hv;exact (hcell x hx c (List.mem_range.1 hc)).1
    ·rw [if_neg hx] at hv
     exact hz1 v hv) (cfF cf xs) (swoF hO xs) g g0 cap (Array.range xs.length) w eg hL hH hg (by simpa using hn)
  rw [show (Array.range xs.length).size = xs.length by simp] at h;refine h.mono fun e' w' ⟨he, d', n, os, hp, hs, hw⟩ => ?_
  obtain ⟨hp1, _, hp3⟩ := hp;have hds : d'.size = xs.length := by rw [hp1]; simp
  have hperm : d'.toList.Perm (List.range xs.length) := by
   have e1 : d'.extract 0 xs.length = d' := by rw [<- hds]; exact Array.extract_size
   have e2 : (Array.range xs.length).extract 0 xs.length = Array.range xs.length := by
    have := Array.extract_size (xs := Array.range xs.length);rwa [show (Array.range xs.length).size = xs.length by simp] at this
   rw [e1, e2] at hp3;simpa using hp3
  have hlt : ∀ i, i < xs.length -> d'[i]! < xs.length := fun i hi => by
   rw [getElem!_pos d' i (by omega)];have : d'[i] ∈ d'.toList := by rw [Array.mem_toList_iff]; exact Array.getElem_mem _
   exact List.mem_range.1 (hperm.mem_iff.1 this)
  have hsort : (d'.toList.map fun i => xs.getD i default) = YaK cf xs := by
   refine hd _ ?_ ?_
   ·have h12 := hperm.map fun i => xs.getD i default
    have h13 : (List.range xs.length).map (fun i => xs.getD i default) = xs := by
     apply List.ext_getElem
     ·simp
     ·intro i a1 a2;simp [ZgD, ZgE a2]
    rwa [h13] at h12
   ·rw [List.pairwise_map, List.pairwise_iff_getElem];intro i j hi hj hij;have hj' : j < xs.length := by rw [<- hds]; simpa using hj
    have h12 := hs i j (ZnZ _) hij (by rw [<- hds]; simpa using hj);rw [getElem!_pos d' i (by omega), getElem!_pos d' j (by omega)] at h12;have h13 : ltOf cf (xs.getD d'[j] default) (xs.getD d'[i] default) = false := h12;simpa using h13
  have hat : ∀ i, (hi : i < xs.length) -> (YaK cf xs)[i]'(by rw [hsl]; exact hi) = xs[d'[i]!]'(hlt i hi) := fun i hi => by
   have h12 : (d'.toList.map fun i => xs.getD i default)[i]? = some (xs[d'[i]!]'(hlt i hi)) := by
    rw [List.getElem?_map, Array.getElem?_toList, Array.getElem?_eq_getElem (by omega)];have := hlt i hi;rw [getElem!_pos d' i (by omega)] at this;simp only [Option.map_some, ZgD, ZgE this, Option.getD_some];congr 1;simp [getElem!_pos d' i (by omega)]
   rw [hsort, ZgE (by rw [hsl]; exact hi)] at h12;exact Option.some.inj h12
  have hw2 : w' = Sort.grow (putRowK (encF ys zs k xs.length) k (Sort.ahead w n) g0 0 d') os := hw;obtain ⟨hb1, hb2⟩ := put_blockG (encF ys zs k xs.length) k (n := n) (os := os) (zs := d') h7;have hsz : w.heap.size <= w'.heap.size := by rw [hw2, Sort.size_grow, size_putRowK]; exact Nat.le_add_right _ _
  have hob : ownB [(id, Ob.row e k (xs.map dz))] ρ g0 := ⟨_, ZmS.2 rfl, by rw [h5]; rfl⟩;have hnF : ¬ F g0 := h4 g0 (by rw [h5]; rfl)
  have hkeep : ∀ b, F b -> w'.heap[b]? = w.heap[b]? := fun b hb => by
   rw [hw2];exact hb2 b (hF b hb) (fun e => hnF (e ▸ hb))
  refine ⟨_, F, ρ, he, .tup [] [] rfl (fun i h1 => by simp at h1), fun _ hb => hb, fun _ hb => .inl hb, fun b hb => Nat.lt_of_lt_of_le (hF b hb) hsz, ⟨by rw [hw2]; rfl, by rw [hw2]; rfl, by rw [hw2]; rfl, hsz, fun k hk hne => ?_⟩, ?_, ?_, fun _ _ => rfl⟩
  ·rw [hw2];exact hb2 k hk (fun he => hne (.inr (he ▸ hob)))
  ·refine ⟨fun p hp => ?_, fun p hp q hq hne => ?_, fun p hp q hq _ => ?_⟩
   ·have : p = (id, .row e k ((YaK cf xs).map dz)) := by simpa using hp
    subst this;have hl2 : ((YaK cf xs).map dz).length = xs.length := by rw [ZlM, hsl]
    have hc2 : ∀ i c, i < xs.length -> c < k -> (Sort.putCells _root_.id 0 (flatK (encF ys zs k xs.length) k d') cur)[i * k + c]? = some (ys d'[i]! c) := fun i c hi hc => by
     rw [put_cellsG (encF ys zs k xs.length) k d' cur (by rw [hds, h10]; exact Nat.mul_le_mul_right k h8) i c (by omega) hc, hEat _ _ (hlt i hi) hc]
    refine ⟨fun i c => ys d'[i]! c, ?_, fun i hi => by rw [ZgP, hdz], fun i hi c hc => ?_, fun g' hg' => ?_⟩
    ·rw [hl2];refine ⟨Yar _ _ _, .inr ⟨g0, cap, _, h5, h6, by rw [hw2]; exact hb1, h8, h9, by simp [Sort.putCells, h10], ?_⟩⟩;apply List.ext_getElem?;intro p
     by_cases hp : p < xs.length * k
     ·obtain ⟨hpi, hpc, hpe⟩ := hdm p hp;have := YaE (fun i c => ys d'[i]! c) k xs.length (p / k) (p % k) hpi hpc;rw [hpe] at this;have h12 := hc2 (p / k) (p % k) hpi hpc;rw [hpe] at h12;rw [this, ZgT, if_pos hp, Array.getElem?_toList, h12]
     ·rw [List.getElem?_eq_none (by rw [ZlT]; omega)];exact (List.getElem?_eq_none (by have := Yar (fun i c => ys d'[i]! c) xs.length k; unfold flat at this; rw [this]; omega)).symm
    ·rw [hl2] at hi;have hc5 : c < k := by rw [ZgP, hdz] at hc; exact hc
     have h12 := hcell d'[i]! (hlt i hi) c hc5;refine ⟨h12.1, ?_⟩;simp only [ZgP];have h13 := h12.2.mono (F' := F) (w' := w') (fun _ h => h) hkeep;have e1 := hat i hi;simp only [e1];exact h13
    ·rw [h5] at hg';simp [blk] at hg';subst hg';exact hnF
   ·have h1 : p = (id, .row e k ((YaK cf xs).map dz)) := by simpa using hp
    have h2 : q = (id, .row e k ((YaK cf xs).map dz)) := by simpa using hq
    rw [h1, h2] at hne;exact absurd J hne
   ·have h1 : p = (id, .row e k ((YaK cf xs).map dz)) := by simpa using hp
    have h2 : q = (id, .row e k ((YaK cf xs).map dz)) := by simpa using hq
    rw [h1, h2]
  ·intro p hp g' hg';have : p = (id, .row e k ((YaK cf xs).map dz)) := by simpa using hp
   subst this;exact .inr ⟨_, ZmS.2 J, hg'⟩
end
theorem uniqA {α : Type} {cf : α -> α -> Int} (hO : SWO (ltOf cf)) (hA : ∀ x y, ltOf cf x y = false -> ltOf cf y x = false -> x = y) {l r : List α} (hp : r.Perm l) (hs : r.Pairwise fun x y => ltOf cf y x = false) : r = YaK cf l :=
 List.Perm.eq_of_pairwise (le := fun x y => ltOf cf y x = false) (fun a b _ _ h1 h2 => hA a b h2 h1) hs (Yfv hO l) (hp.trans (YaB l).symm)
end
end Go.Proofs.YtohllekllkcfiaaGreatDoor
namespace Go.Proofs
open Go.Shelf
def Tryz.sortSpan_ren : Go.Shelf.Ren := ⟨fun | 6 => 85 | 15 => 41 | 14 => 153 | 28 => 95 | 29 => 96 | 20 => 200 | 21 => 201 | 22 => 202 | 23 => 203 | 24 => 204 | 25 => 205 | 26 => 206 | 27 => 207 | 46 => 223 | 47 => 155 | 48 => 156 | 49 => 224 | 50 => 225 | 57 => 232 | n => n, fun | 22 => 59 | 24 => 64 | 25 => 162 | 3 => 3 | 39 => 107 | 0 => 0 | 53 => 171 | 55 => 173 | 4 => 4 | 46 => 165 | 45 => 164 | 50 => 57 | 5 => 5 | 9 => 9 | 66 => 218 | 70 => 142 | 76 => 256 | 77 => 257 | n => n, fun | n => n⟩
theorem Tryz.sortSpan : Go.Proofs.SlLaysF0.n6 Tryz.prog Tryz.sortSpan_ren := {
 mixed := by kernel_rfl
 f6 := ⟨Tryz.f85.name, by decide, ZfC Tryz.func85⟩
 f14 := ⟨Tryz.f153.name, by decide, ZfC Tryz.func153⟩
 f15 := ZfC Tryz.func41
 f20 := ⟨Tryz.f200.name, by decide, ZfC Tryz.func200⟩
 f21 := ⟨Tryz.f201.name, by decide, ZfC Tryz.func201⟩
 f22 := ⟨Tryz.f202.name, by decide, ZfC Tryz.func202⟩
 f23 := ⟨Tryz.f203.name, by decide, ZfC Tryz.func203⟩
 f24 := ⟨Tryz.f204.name, by decide, ZfC Tryz.func204⟩
 f25 := ⟨Tryz.f205.name, by decide, ZfC Tryz.func205⟩
 f26 := ⟨Tryz.f206.name, by decide, ZfC Tryz.func206⟩
 f27 := ⟨Tryz.f207.name, by decide, ZfC Tryz.func207⟩
 f28 := ZfC Tryz.func95
 f29 := ZfC Tryz.func96
 f46 := ⟨Tryz.f223.name, by decide, ZfC Tryz.func223⟩
 f47 := ZfC Tryz.func155
 f48 := ZfC Tryz.func156
 f49 := ⟨Tryz.f224.name, by decide, ZfC Tryz.func224⟩
 f50 := ⟨Tryz.f225.name, by decide, ZfC Tryz.func225⟩
 f57 := ⟨Tryz.f232.name, by decide, ZfC Tryz.func232⟩
 t0 := Tryz.underlying0
 a0 := Tryz.isAgg0
 z0 := Tryz.sizeOf0
 v0 := Tryz.zeroValue0
 t3 := Tryz.underlying3
 a3 := Tryz.isAgg3
 z3 := Tryz.sizeOf3
 v3 := Tryz.zeroValue3
 t4 := Tryz.underlying4
 a4 := Tryz.isAgg4
 z4 := Tryz.sizeOf4
 v4 := Tryz.zeroValue4
 t5 := Tryz.underlying5
 a5 := Tryz.isAgg5
 z5 := Tryz.sizeOf5
 v5 := Tryz.zeroValue5
 t9 := Tryz.underlying9
 a9 := Tryz.isAgg9
 z9 := Tryz.sizeOf9
 v9 := Tryz.zeroValue9
 t22 := Tryz.underlying59
 a22 := Tryz.isAgg59
 z22 := Tryz.sizeOf59
 v22 := Tryz.zeroValue59
 t25 := Tryz.underlying162
 a25 := Tryz.isAgg162
 z25 := Tryz.sizeOf162
 v25 := Tryz.zeroValue162
 t39 := Tryz.underlying107
 a39 := Tryz.isAgg107
 z39 := Tryz.sizeOf107
 v39 := Tryz.zeroValue107
 t45 := Tryz.underlying164
 a45 := Tryz.isAgg164
 z45 := Tryz.sizeOf164
 v45 := Tryz.zeroValue164
 t46 := Tryz.underlying165
 a46 := Tryz.isAgg165
 z46 := Tryz.sizeOf165
 v46 := Tryz.zeroValue165
 t50 := Tryz.underlying57
 a50 := Tryz.isAgg57
 z50 := Tryz.sizeOf57
 v50 := Tryz.zeroValue57
 t53 := Tryz.underlying171
 a53 := Tryz.isAgg171
 z53 := Tryz.sizeOf171
 v53 := Tryz.zeroValue171
 t55 := Tryz.underlying173
 a55 := Tryz.isAgg173
 z55 := Tryz.sizeOf173
 v55 := Tryz.zeroValue173
 t66 := Tryz.underlying218
 a66 := Tryz.isAgg218
 z66 := Tryz.sizeOf218
 v66 := Tryz.zeroValue218
 t70 := Tryz.underlying142
 a70 := Tryz.isAgg142
 z70 := Tryz.sizeOf142
 v70 := Tryz.zeroValue142
 t76 := Tryz.underlying256
 a76 := Tryz.isAgg256
 z76 := Tryz.sizeOf256
 v76 := Tryz.zeroValue256
 t77 := Tryz.underlying257
 a77 := Tryz.isAgg257
 z77 := Tryz.sizeOf257
 v77 := Tryz.zeroValue257 }
def Tryz.sortCue_ren : Go.Shelf.Ren := ⟨fun | 6 => 16 | 15 => 41 | 14 => 40 | 28 => 95 | 29 => 96 | 20 => 87 | 21 => 88 | 22 => 89 | 23 => 90 | 24 => 91 | 25 => 92 | 26 => 93 | 27 => 94 | 46 => 154 | 47 => 155 | 48 => 156 | 49 => 157 | 50 => 158 | 57 => 208 | n => n, fun | 22 => 30 | 24 => 47 | 25 => 66 | 3 => 3 | 39 => 107 | 0 => 0 | 53 => 171 | 55 => 173 | 4 => 4 | 46 => 165 | 45 => 164 | 50 => 57 | 5 => 5 | 9 => 9 | 66 => 218 | 70 => 142 | 76 => 256 | 77 => 257 | n => n, fun | n => n⟩
theorem Tryz.sortCue : Go.Proofs.SlLaysF0.n6 Tryz.prog Tryz.sortCue_ren := {
 mixed := by kernel_rfl
 f6 := ⟨Tryz.f16.name, by decide, ZfC Tryz.func16⟩
 f14 := ⟨Tryz.f40.name, by decide, ZfC Tryz.func40⟩
 f15 := ZfC Tryz.func41
 f20 := ⟨Tryz.f87.name, by decide, ZfC Tryz.func87⟩
 f21 := ⟨Tryz.f88.name, by decide, ZfC Tryz.func88⟩
 f22 := ⟨Tryz.f89.name, by decide, ZfC Tryz.func89⟩
 f23 := ⟨Tryz.f90.name, by decide, ZfC Tryz.func90⟩
 f24 := ⟨Tryz.f91.name, by decide, ZfC Tryz.func91⟩
 f25 := ⟨Tryz.f92.name, by decide, ZfC Tryz.func92⟩
 f26 := ⟨Tryz.f93.name, by decide, ZfC Tryz.func93⟩
 f27 := ⟨Tryz.f94.name, by decide, ZfC Tryz.func94⟩
 f28 := ZfC Tryz.func95
 f29 := ZfC Tryz.func96
 f46 := ⟨Tryz.f154.name, by decide, ZfC Tryz.func154⟩
 f47 := ZfC Tryz.func155
 f48 := ZfC Tryz.func156
 f49 := ⟨Tryz.f157.name, by decide, ZfC Tryz.func157⟩
 f50 := ⟨Tryz.f158.name, by decide, ZfC Tryz.func158⟩
 f57 := ⟨Tryz.f208.name, by decide, ZfC Tryz.func208⟩
 t0 := Tryz.underlying0
 a0 := Tryz.isAgg0
 z0 := Tryz.sizeOf0
 v0 := Tryz.zeroValue0
 t3 := Tryz.underlying3
 a3 := Tryz.isAgg3
 z3 := Tryz.sizeOf3
 v3 := Tryz.zeroValue3
 t4 := Tryz.underlying4
 a4 := Tryz.isAgg4
 z4 := Tryz.sizeOf4
 v4 := Tryz.zeroValue4
 t5 := Tryz.underlying5
 a5 := Tryz.isAgg5
 z5 := Tryz.sizeOf5
 v5 := Tryz.zeroValue5
 t9 := Tryz.underlying9
 a9 := Tryz.isAgg9
 z9 := Tryz.sizeOf9
 v9 := Tryz.zeroValue9
 t22 := Tryz.underlying30
 a22 := Tryz.isAgg30
 z22 := Tryz.sizeOf30
 v22 := Tryz.zeroValue30
 t25 := Tryz.underlying66
 a25 := Tryz.isAgg66
 z25 := Tryz.sizeOf66
 v25 := Tryz.zeroValue66
 t39 := Tryz.underlying107
 a39 := Tryz.isAgg107
 z39 := Tryz.sizeOf107
 v39 := Tryz.zeroValue107
 t45 := Tryz.underlying164
 a45 := Tryz.isAgg164
 z45 := Tryz.sizeOf164
 v45 := Tryz.zeroValue164
 t46 := Tryz.underlying165
 a46 := Tryz.isAgg165
 z46 := Tryz.sizeOf165
 v46 := Tryz.zeroValue165
 t50 := Tryz.underlying57
 a50 := Tryz.isAgg57
 z50 := Tryz.sizeOf57
 v50 := Tryz.zeroValue57
 t53 := Tryz.underlying171
 a53 := Tryz.isAgg171
 z53 := Tryz.sizeOf171
 v53 := Tryz.zeroValue171
 t55 := Tryz.underlying173
 a55 := Tryz.isAgg173
 z55 := Tryz.sizeOf173
 v55 := Tryz.zeroValue173
 t66 := Tryz.underlying218
 a66 := Tryz.isAgg218
 z66 := Tryz.sizeOf218
 v66 := Tryz.zeroValue218
 t70 := Tryz.underlying142
 a70 := Tryz.isAgg142
 z70 := Tryz.sizeOf142
 v70 := Tryz.zeroValue142
 t76 := Tryz.underlying256
 a76 := Tryz.isAgg256
 z76 := Tryz.sizeOf256
 v76 := Tryz.zeroValue256
 t77 := Tryz.underlying257
 a77 := Tryz.isAgg257
 z77 := Tryz.sizeOf257
 v77 := Tryz.zeroValue257 }
def Tryz.sortLine_ren : Go.Shelf.Ren := ⟨fun | 6 => 74 | 15 => 41 | 14 => 141 | 28 => 95 | 29 => 96 | 20 => 188 | 21 => 189 | 22 => 190 | 23 => 191 | 24 => 192 | 25 => 193 | 26 => 194 | 27 => 195 | 46 => 220 | 47 => 155 | 48 => 156 | 49 => 221 | 50 => 222 | 57 => 231 | n => n, fun | 22 => 95 | 24 => 98 | 25 => 151 | 3 => 3 | 39 => 107 | 0 => 0 | 53 => 171 | 55 => 173 | 4 => 4 | 46 => 165 | 45 => 164 | 50 => 57 | 5 => 5 | 9 => 9 | 66 => 218 | 70 => 142 | 76 => 256 | 77 => 257 | n => n, fun | n => n⟩
theorem Tryz.sortLine : Go.Proofs.SlLaysF0.n6 Tryz.prog Tryz.sortLine_ren := {
 mixed := by kernel_rfl
 f6 := ⟨Tryz.f74.name, by decide, ZfC Tryz.func74⟩
 f14 := ⟨Tryz.f141.name, by decide, ZfC Tryz.func141⟩
 f15 := ZfC Tryz.func41
 f20 := ⟨Tryz.f188.name, by decide, ZfC Tryz.func188⟩
 f21 := ⟨Tryz.f189.name, by decide, ZfC Tryz.func189⟩
 f22 := ⟨Tryz.f190.name, by decide, ZfC Tryz.func190⟩
 f23 := ⟨Tryz.f191.name, by decide, ZfC Tryz.func191⟩
 f24 := ⟨Tryz.f192.name, by decide, ZfC Tryz.func192⟩
 f25 := ⟨Tryz.f193.name, by decide, ZfC Tryz.func193⟩
 f26 := ⟨Tryz.f194.name, by decide, ZfC Tryz.func194⟩
 f27 := ⟨Tryz.f195.name, by decide, ZfC Tryz.func195⟩
 f28 := ZfC Tryz.func95
 f29 := ZfC Tryz.func96
 f46 := ⟨Tryz.f220.name, by decide, ZfC Tryz.func220⟩
 f47 := ZfC Tryz.func155
 f48 := ZfC Tryz.func156
 f49 := ⟨Tryz.f221.name, by decide, ZfC Tryz.func221⟩
 f50 := ⟨Tryz.f222.name, by decide, ZfC Tryz.func222⟩
 f57 := ⟨Tryz.f231.name, by decide, ZfC Tryz.func231⟩
 t0 := Tryz.underlying0
 a0 := Tryz.isAgg0
 z0 := Tryz.sizeOf0
 v0 := Tryz.zeroValue0
 t3 := Tryz.underlying3
 a3 := Tryz.isAgg3
 z3 := Tryz.sizeOf3
 v3 := Tryz.zeroValue3
 t4 := Tryz.underlying4
 a4 := Tryz.isAgg4
 z4 := Tryz.sizeOf4
 v4 := Tryz.zeroValue4
 t5 := Tryz.underlying5
 a5 := Tryz.isAgg5
 z5 := Tryz.sizeOf5
 v5 := Tryz.zeroValue5
 t9 := Tryz.underlying9
 a9 := Tryz.isAgg9
 z9 := Tryz.sizeOf9
 v9 := Tryz.zeroValue9
 t22 := Tryz.underlying95
 a22 := Tryz.isAgg95
 z22 := Tryz.sizeOf95
 v22 := Tryz.zeroValue95
 t25 := Tryz.underlying151
 a25 := Tryz.isAgg151
 z25 := Tryz.sizeOf151
 v25 := Tryz.zeroValue151
 t39 := Tryz.underlying107
 a39 := Tryz.isAgg107
 z39 := Tryz.sizeOf107
 v39 := Tryz.zeroValue107
 t45 := Tryz.underlying164
 a45 := Tryz.isAgg164
 z45 := Tryz.sizeOf164
 v45 := Tryz.zeroValue164
 t46 := Tryz.underlying165
 a46 := Tryz.isAgg165
 z46 := Tryz.sizeOf165
 v46 := Tryz.zeroValue165
 t50 := Tryz.underlying57
 a50 := Tryz.isAgg57
 z50 := Tryz.sizeOf57
 v50 := Tryz.zeroValue57
 t53 := Tryz.underlying171
 a53 := Tryz.isAgg171
 z53 := Tryz.sizeOf171
 v53 := Tryz.zeroValue171
 t55 := Tryz.underlying173
 a55 := Tryz.isAgg173
 z55 := Tryz.sizeOf173
 v55 := Tryz.zeroValue173
 t66 := Tryz.underlying218
 a66 := Tryz.isAgg218
 z66 := Tryz.sizeOf218
 v66 := Tryz.zeroValue218
 t70 := Tryz.underlying142
 a70 := Tryz.isAgg142
 z70 := Tryz.sizeOf142
 v70 := Tryz.zeroValue142
 t76 := Tryz.underlying256
 a76 := Tryz.isAgg256
 z76 := Tryz.sizeOf256
 v76 := Tryz.zeroValue256
 t77 := Tryz.underlying257
 a77 := Tryz.isAgg257
 z77 := Tryz.sizeOf257
 v77 := Tryz.zeroValue257 }
def Tryz.cmpI_ren : Go.Shelf.Ren := ⟨fun | 5 => 43 | 7 => 97 | n => n, fun | 22 => 3 | 3 => 3 | 4 => 4 | n => n, fun | n => n⟩
theorem Tryz.cmpI : Go.Proofs.SlLaysC2.n5 Tryz.prog Tryz.cmpI_ren := {
 mixed := by kernel_rfl
 f5 := ⟨Tryz.f43.name, by decide, ZfC Tryz.func43⟩
 f7 := ⟨Tryz.f97.name, by decide, ZfC Tryz.func97⟩
 t3 := Tryz.underlying3
 a3 := Tryz.isAgg3
 z3 := Tryz.sizeOf3
 v3 := Tryz.zeroValue3
 t4 := Tryz.underlying4
 a4 := Tryz.isAgg4
 z4 := Tryz.sizeOf4
 v4 := Tryz.zeroValue4
 t22 := Tryz.underlying3
 a22 := Tryz.isAgg3
 z22 := Tryz.sizeOf3
 v22 := Tryz.zeroValue3 }
end Go.Proofs
namespace Go.Proofs.YtohllekllkcfiaaGreatDoor
open Go.RowKit
open Ty
open Go.Sort Go.Lib Go.Shelf
section
variable {κ β : Type} [DecidableEq κ]
structure Tot (lt : κ -> κ -> Bool) : Prop where
 irr : ∀ x, lt x x = false
 tr : ∀ {x y z}, lt x y = true -> lt y z = true -> lt x z = true
 tot : ∀ {x y}, lt x y = false -> lt y x = false -> x = y
end
theorem cbLt : ∀ a b : List UInt8, compareBytes a b < 0 ↔ a < b
 | [], [] => by simp [compareBytes]
 | [], _ :: _ => by simp [compareBytes]
 | _ :: _, [] => by simp [compareBytes]
 | x :: a, y :: b => by
  unfold compareBytes;rw [List.cons_lt_cons_iff]
  by_cases h1 : x < y
  ·simp [h1]
  ·rw [if_neg h1]
   by_cases h2 : y < x
   ·rw [if_pos h2];have : x ≠ y := fun e => by subst e; exact UInt8.lt_irrefl _ h2
    simp [h1, this]
   ·rw [if_neg h2, cbLt a b];have : x = y := UInt8.le_antisymm (UInt8.not_lt.1 h2) (UInt8.not_lt.1 h1);simp [this, UInt8.lt_irrefl]
theorem baEq {a b : ByteArray} : a.data.toList = b.data.toList ↔ a = b := by
 refine ⟨fun h => ?_, fun h => by rw [h]⟩;cases a; cases b;exact congrArg ByteArray.mk (Array.toList_inj.1 h)
def ltI2 (a b : Int) : Bool := decide (a < b)
def ltB (a b : ByteArray) : Bool := decide (YbW a b < 0)
def lexL {κ ι : Type} [DecidableEq κ] (l1 : κ -> κ -> Bool) (l2 : ι -> ι -> Bool) (a b : κ × ι) : Bool := l1 a.1 b.1 || (decide (a.1 = b.1) && l2 a.2 b.2)
theorem tot_int : Tot ltI2 := ⟨fun x => by simp [ltI2], fun {x y z} h1 h2 => by unfold ltI2 at *; simp at *; omega, fun {x y} h1 h2 => by unfold ltI2 at *; simp at *; omega⟩
theorem ltB_iff {a b : ByteArray} : ltB a b = true ↔ a.data.toList < b.data.toList := by
 unfold ltB YbW;rw [decide_eq_true_eq, cbLt]
theorem tot_str : Tot ltB where
 irr x := by
  cases h : ltB x x with
  | false => rfl
  | true => exact absurd (ltB_iff.1 h) (List.lt_irrefl _)
 tr h1 h2 := ltB_iff.2 (List.lt_trans (ltB_iff.1 h1) (ltB_iff.1 h2))
 tot {x y} h1 h2 := by
  have a1 : ¬ x.data.toList < y.data.toList := fun h => by rw [ltB_iff.2 h] at h1; cases h1
  have a2 : ¬ y.data.toList < x.data.toList := fun h => by rw [ltB_iff.2 h] at h2; cases h2
  exact baEq.1 (List.le_antisymm (List.not_lt.1 a2) (List.not_lt.1 a1))
theorem lexL_iff {κ ι : Type} [DecidableEq κ] {l1 : κ -> κ -> Bool} {l2 : ι -> ι -> Bool} {a b : κ × ι} : lexL l1 l2 a b = true ↔ l1 a.1 b.1 = true \/ a.1 = b.1 /\ l2 a.2 b.2 = true := by
 unfold lexL;rw [Bool.or_eq_true, ZbA, decide_eq_true_eq]
theorem Tot.lex {κ ι : Type} [DecidableEq κ] {l1 : κ -> κ -> Bool} {l2 : ι -> ι -> Bool} (h1 : Tot l1) (h2 : Tot l2) : Tot (lexL l1 l2) where
 irr x := by
  cases h : lexL l1 l2 x x with
  | false => rfl
  | true =>
   rcases lexL_iff.1 h with h3 | ⟨_, h3⟩
   ·rw [h1.irr] at h3; cases h3
   ·rw [h2.irr] at h3; cases h3
 tr {x y z} h3 h4 := by
  rw [lexL_iff] at *
  rcases h3 with h3 | ⟨h3, h5⟩ <;> rcases h4 with h4 | ⟨h4, h6⟩
  ·exact .inl (h1.tr h3 h4)
  ·exact .inl (by rw [<- h4]; exact h3)
  ·exact .inl (by rw [h3]; exact h4)
  ·exact .inr ⟨h3.trans h4, h2.tr h5 h6⟩
 tot {x y} h3 h4 := by
  have n1 : ∀ {p q : κ × ι}, lexL l1 l2 p q = false -> ¬ (l1 p.1 q.1 = true \/ p.1 = q.1 /\ l2 p.2 q.2 = true) := fun h h' => by rw [lexL_iff.2 h'] at h; cases h
  have a1 := n1 h3;have a2 := n1 h4
  have e1 : x.1 = y.1 := h1.tot (by
   cases h : l1 x.1 y.1 with
   | false => rfl
   | true => exact absurd (.inl h) a1) (by
   cases h : l1 y.1 x.1 with
   | false => rfl
   | true => exact absurd (.inl h) a2)
  refine Prod.ext e1 (h2.tot ?_ ?_)
  ·cases h : l2 x.2 y.2 with
   | false => rfl
   | true => exact absurd (.inr ⟨e1, h⟩) a1
  ·cases h : l2 y.2 x.2 with
   | false => rfl
   | true => exact absurd (.inr ⟨e1.symm, h⟩) a2
theorem Tot.swo {κ α : Type} {lt : κ -> κ -> Bool} (T : Tot lt) (f : α -> κ) : SWO (fun x y => lt (f x) (f y)) where
 irrefl x := T.irr _
 trans x y z h1 h2 := T.tr h1 h2
 ntrans x y z h1 h2 := by
  cases h3 : lt (f x) (f z) with
  | false => rfl
  | true =>
   cases h4 : lt (f y) (f x) with
   | true => rw [T.tr h4 h3] at h2; cases h2
   | false => rw [T.tot h1 h4] at h3; rw [h3] at h2; cases h2
theorem Ych (a : Int) (l : List Int) : orI (a :: l) = if a = 0 then orI l else a := by
 unfold orI;rw [List.find?_cons]
 by_cases h : a = 0 <;> simp [h]
theorem YeJ (a : Int) : orI [a] = a := by
 rw [Ych]
 by_cases h : a = 0
 ·rw [if_pos h, h]; rfl
 ·rw [if_neg h]
theorem or_lt (c : Int) (r : List Int) : decide (orI (c :: r) < 0) = (decide (c < 0) || (decide (c = 0) && decide (orI r < 0))) := by
 rw [Ych]
 by_cases h : c = 0
 ·rw [if_pos h]; subst h; simp
 ·rw [if_neg h]; simp [h]
theorem cI_lt (a b : Int) : decide (cmpI a b < 0) = ltI2 a b := Yai (by unfold cmpI; split <;> (try split) <;> omega)
theorem cI_z (a b : Int) : decide (cmpI a b = 0) = decide (a = b) := Yai (by unfold cmpI; split <;> (try split) <;> omega)
theorem cB_z (a b : ByteArray) : decide (YbW a b = 0) = decide (a = b) := Yai strCmp_zero
structure Cue where
 lo : Int
 hi : Int
 id : Int
deriving DecidableEq
instance : Inhabited Cue := ⟨⟨0, 0, 0⟩⟩
def Cue.ds (c : Cue) : List D := [.v (.int .i64 c.lo), .v (.int .i64 c.hi), .v (.int .i64 c.id)]
def YbN (x y : Spn) : Int := orI [cmpI x.lo y.lo, cmpI x.hi y.hi]
def YcL (x y : Cue) : Int := orI [cmpI x.lo y.lo, cmpI x.hi y.hi, cmpI x.id y.id]
def Spn.key (x : Spn) : Int × Int := (x.lo, x.hi)
def Cue.key (x : Cue) : Int × Int × Int := (x.lo, x.hi, x.id)
def Lne.key (x : Lne) : Int × ByteArray × Int × Int := (x.track, x.media, x.chan, x.off)
theorem ltOf_sp (x y : Spn) : ltOf YbN x y = lexL ltI2 ltI2 x.key y.key := by
 show decide (orI [_, _] < 0) = _
 rw [or_lt, YeJ, cI_lt, cI_z, cI_lt]; rfl
theorem ltOf_cu (x y : Cue) : ltOf YcL x y = lexL ltI2 (lexL ltI2 ltI2) x.key y.key := by
 show decide (orI [_, _, _] < 0) = _
 rw [or_lt, or_lt, YeJ, cI_lt, cI_z, cI_lt, cI_z, cI_lt]; rfl
theorem ltOf_ln (x y : Lne) : ltOf Yb1 x y = lexL ltI2 (lexL ltB (lexL ltI2 ltI2)) x.key y.key := by
 show decide (orI [_, _, _, _] < 0) = _
 rw [or_lt, or_lt, or_lt, YeJ, cI_lt, cI_z, cB_z, cI_lt, cI_z, cI_lt]; rfl
theorem tot_sp : Tot (lexL ltI2 ltI2) := tot_int.lex tot_int
theorem tot_cu : Tot (lexL ltI2 (lexL ltI2 ltI2)) := tot_int.lex (tot_int.lex tot_int)
theorem tot_ln : Tot (lexL ltI2 (lexL ltB (lexL ltI2 ltI2))) := tot_int.lex (tot_str.lex (tot_int.lex tot_int))
theorem swo_sp : SWO (ltOf YbN) := by
 have : ltOf YbN = fun x y => lexL ltI2 ltI2 (Spn.key x) (Spn.key y) := by funext x y; exact ltOf_sp x y
 rw [this]; exact tot_sp.swo _
theorem swo_cu : SWO (ltOf YcL) := by
 have : ltOf YcL = fun x y => lexL ltI2 (lexL ltI2 ltI2) (Cue.key x) (Cue.key y) := by funext x y; exact ltOf_cu x y
 rw [this]; exact tot_cu.swo _
theorem swo_ln : SWO (ltOf Yb1) := by
 have : ltOf Yb1 = fun x y => lexL ltI2 (lexL ltB (lexL ltI2 ltI2)) (Lne.key x) (Lne.key y) := by funext x y; exact ltOf_ln x y
 rw [this]; exact tot_ln.swo _
theorem anti_sp (x y : Spn) (h1 : ltOf YbN x y = false) (h2 : ltOf YbN y x = false) : x = y := by
 rw [ltOf_sp] at h1 h2;have h := tot_sp.tot h1 h2;cases x; cases y;simpa [Spn.key] using h
theorem anti_cu (x y : Cue) (h1 : ltOf YcL x y = false) (h2 : ltOf YcL y x = false) : x = y := by
 rw [ltOf_cu] at h1 h2;have h := tot_cu.tot h1 h2;cases x; cases y;simpa [Cue.key] using h
theorem anti_ln (x y : Lne) (h1 : ltOf Yb1 x y = false) (h2 : ltOf Yb1 y x = false) : x = y := by
 rw [ltOf_ln] at h1 h2;have h := tot_ln.tot h1 h2;cases x; cases y;simpa [Lne.key] using h
theorem or2 (a b : Int) (blk : Nat) (W : World) (h0 : W.cell? ⟨blk, 0, none⟩ = some (.int .i64 a)) (h1 : W.cell? ⟨blk, 1, none⟩ = some (.int .i64 b)) :
 Calls Tryz.prog 42 #[.slice (some ⟨blk, 0, none⟩) 2 2] W fun e w' => e = .returned (.int .i64 (if a = 0 then b else a)) /\ w' = W := by
 go_enter Tryz.func42, Tryz.ntmps42
 go_wp2
 refine wp_loop_rounds 3 ?_;rw [rounds_succ]
 by_cases ha : a = 0
 ·subst ha
  go_wp2
  rw [rounds_succ]
  by_cases hb : b = 0
  ·subst hb
   go_wp2
   rw [rounds_succ]
   go_wp2
   go_ret
   exact ⟨J, J⟩
  ·go_wp2
   go_ret
   exact ⟨J, J⟩
 ·go_wp2
  go_ret
  exact ⟨J, J⟩
theorem or3 (a b c : Int) (blk : Nat) (W : World) (h0 : W.cell? ⟨blk, 0, none⟩ = some (.int .i64 a)) (h1 : W.cell? ⟨blk, 1, none⟩ = some (.int .i64 b)) (h2 : W.cell? ⟨blk, 2, none⟩ = some (.int .i64 c)) :
 Calls Tryz.prog 42 #[.slice (some ⟨blk, 0, none⟩) 3 3] W fun e w' => e = .returned (.int .i64 (if a = 0 then (if b = 0 then c else b) else a)) /\ w' = W := by
 go_enter Tryz.func42, Tryz.ntmps42
 go_wp2
 refine wp_loop_rounds 4 ?_;rw [rounds_succ]
 by_cases ha : a = 0
 ·subst ha
  go_wp2
  rw [rounds_succ]
  by_cases hb : b = 0
  ·subst hb
   go_wp2
   rw [rounds_succ]
   by_cases hc : c = 0
   ·subst hc
    go_wp2
    rw [rounds_succ]
    go_wp2
    go_ret
    exact ⟨J, J⟩
   ·go_wp2
    go_ret
    exact ⟨J, J⟩
  ·go_wp2
   go_ret
   exact ⟨J, J⟩
 ·go_wp2
  go_ret
  exact ⟨J, J⟩
theorem or4 (a b c d : Int) (blk : Nat) (W : World) (h0 : W.cell? ⟨blk, 0, none⟩ = some (.int .i64 a)) (h1 : W.cell? ⟨blk, 1, none⟩ = some (.int .i64 b)) (h2 : W.cell? ⟨blk, 2, none⟩ = some (.int .i64 c)) (h3 : W.cell? ⟨blk, 3, none⟩ = some (.int .i64 d)) :
 Calls Tryz.prog 42 #[.slice (some ⟨blk, 0, none⟩) 4 4] W fun e w' => e = .returned (.int .i64 (if a = 0 then (if b = 0 then (if c = 0 then d else c) else b) else a)) /\ w' = W := by
 go_enter Tryz.func42, Tryz.ntmps42
 go_wp2
 refine wp_loop_rounds 5 ?_;rw [rounds_succ]
 by_cases ha : a = 0
 ·subst ha
  go_wp2
  rw [rounds_succ]
  by_cases hb : b = 0
  ·subst hb
   go_wp2
   rw [rounds_succ]
   by_cases hc : c = 0
   ·subst hc
    go_wp2
    rw [rounds_succ]
    by_cases hd : d = 0
    ·subst hd
     go_wp2
     rw [rounds_succ]
     go_wp2
     go_ret
     exact ⟨J, J⟩
    ·go_wp2
     go_ret
     exact ⟨J, J⟩
   ·go_wp2
    go_ret
    exact ⟨J, J⟩
  ·go_wp2
   go_ret
   exact ⟨J, J⟩
 ·go_wp2
  go_ret
  exact ⟨J, J⟩
theorem Ycm (a b : Int) (W : World) : Calls Tryz.prog 43 #[.int .i64 a, .int .i64 b] W fun e w' => e = .returned (.int .i64 (cmpI a b)) /\ w' = W := AnyG.cmp_Compare_int Tryz.cmpI a b W
theorem cmpB_any (a b : ByteArray) (W : World) : Calls Tryz.prog 72 #[.string a, .string b] W fun e w' => e = .returned (.int .i64 (YbW a b)) /\ w' = W := Any.strings_Compare Tryz.l106 a b W
theorem cmpSp_any (x0 y0 x1 y1 : Int) (W : World) : Calls Tryz.prog 86 #[.agg #[.int .i64 x0, .int .i64 x1], .agg #[.int .i64 y0, .int .i64 y1]] W fun e w' => e = .returned (.int .i64 (if cmpI x0 y0 = 0 then (cmpI x1 y1) else cmpI x0 y0)) /\ ∃ q os', w' = grow (W.drewN q) os' := by
 have hcon0 := fun W' => Ycm x0 y0 W'
 have hcon1 := fun W' => Ycm x1 y1 W'
 have hor := or2 (cmpI x0 y0) (cmpI x1 y1);generalize cmpI x0 y0 = r at *;generalize cmpI x1 y1 = s at *
 have hor2 : ∀ (X : World) (b e : Nat), b = X.heap.size -> Calls Tryz.prog 42 #[.slice (some ⟨b, 0, none⟩) 2 2] (X.alloc (.cells #[.int .i64 r, .int .i64 s] e)) fun e' w' => e' = .returned (.int .i64 (if r = 0 then (s) else r)) /\ w' = X.alloc (.cells #[.int .i64 r, .int .i64 s] e) :=
  fun X b e hb => hor b _ (YbS hb rfl) (YbS hb rfl)
 clear hor;generalize (if r = 0 then (s) else r) = t at hor2 ⊢
 go_enter Tryz.func86, Tryz.ntmps86
 go_wp2
 generalize hW2 : (W.alloc (Obj.cells #[Value.int IntKind.i64 x0, Value.int IntKind.i64 x1] 64)).alloc (Obj.cells #[Value.int IntKind.i64 y0, Value.int IntKind.i64 y1] 64) = W2;have cx0 : W2.cell? ⟨W.heap.size, 0, none⟩ = some (.int .i64 x0) := by rw [<- hW2]; simp [go_sem]
 have cx1 : W2.cell? ⟨W.heap.size, 1, none⟩ = some (.int .i64 x1) := by rw [<- hW2]; simp [go_sem]
 have cy0 : W2.cell? ⟨W.heap.size + 1, 0, none⟩ = some (.int .i64 y0) := by rw [<- hW2]; simp [go_sem]
 have cy1 : W2.cell? ⟨W.heap.size + 1, 1, none⟩ = some (.int .i64 y1) := by rw [<- hW2]; simp [go_sem]
 have hG : ∃ os, W2 = grow W os := ⟨_, by rw [<- hW2, alloc_eq_grow, alloc_eq_grow, grow_grow]⟩;clear hW2;refine wp_region_still_tail 10 (by kernel_rfl) (by kernel_rfl) ?_;simp only [List.take_succ_cons, List.take_zero, List.drop_succ_cons, List.drop_zero];have e3 : ({ W2 with drawn := W2.drawn + 1 } : World) = W2.drew := rfl;simp only [e3];have dx0 : W2.drew.cell? ⟨W.heap.size, 0, none⟩ = some (.int .i64 x0) := cx0;have dx1 : W2.drew.cell? ⟨W.heap.size, 1, none⟩ = some (.int .i64 x1) := cx1;have dy0 : W2.drew.cell? ⟨W.heap.size + 1, 0, none⟩ = some (.int .i64 y0) := cy0;have dy1 : W2.drew.cell? ⟨W.heap.size + 1, 1, none⟩ = some (.int .i64 y1) := cy1;have hG' : ∃ q os, W2.drew = grow (W.drewN q) os := by obtain ⟨os, rfl⟩ := hG; exact ⟨1, os, rfl⟩
 clear cx0 cx1 cy0 cy1 hG e3;generalize W2.drew = W3 at *
 iterate 4 still_step
 still_call (hcon0 _)
 iterate 4 still_step
 still_call (hcon1 _)
 refine wpStill_nil ?_;clear hcon0 hcon1 dx0 dx1 dy0 dy1
 go_wp2_with (go_at_call 42; refine (hor2 _ _ _ (by simp)).mono ?_; rintro e w' ⟨rfl, rfl⟩)
 go_ret
 obtain ⟨q, os, rfl⟩ := hG';exact ⟨J, q, _, by rw [alloc_eq_grow, grow_grow]⟩
theorem cmpCu_any (x0 y0 x1 y1 x2 y2 : Int) (W : World) : Calls Tryz.prog 17 #[.agg #[.int .i64 x0, .int .i64 x1, .int .i64 x2], .agg #[.int .i64 y0, .int .i64 y1, .int .i64 y2]] W fun e w' => e = .returned (.int .i64 (if cmpI x0 y0 = 0 then (if cmpI x1 y1 = 0 then (cmpI x2 y2) else cmpI x1 y1) else cmpI x0 y0)) /\ ∃ q os', w' = grow (W.drewN q) os' := by
 have hcon0 := fun W' => Ycm x0 y0 W'
 have hcon1 := fun W' => Ycm x1 y1 W'
 have hcon2 := fun W' => Ycm x2 y2 W'
 have hor := or3 (cmpI x0 y0) (cmpI x1 y1) (cmpI x2 y2);generalize cmpI x0 y0 = r at *;generalize cmpI x1 y1 = s at *;generalize cmpI x2 y2 = u at *
 have hor2 : ∀ (X : World) (b e : Nat), b = X.heap.size -> Calls Tryz.prog 42 #[.slice (some ⟨b, 0, none⟩) 3 3] (X.alloc (.cells #[.int .i64 r, .int .i64 s, .int .i64 u] e)) fun e' w' => e' = .returned (.int .i64 (if r = 0 then (if s = 0 then (u) else s) else r)) /\ w' = X.alloc (.cells #[.int .i64 r, .int .i64 s, .int .i64 u] e) :=
  fun X b e hb => hor b _ (YbS hb rfl) (YbS hb rfl) (YbS hb rfl)
 clear hor;generalize (if r = 0 then (if s = 0 then (u) else s) else r) = t at hor2 ⊢
 go_enter Tryz.func17, Tryz.ntmps17
 go_wp2
 generalize hW2 : (W.alloc (Obj.cells #[Value.int IntKind.i64 x0, Value.int IntKind.i64 x1, Value.int IntKind.i64 x2] 47)).alloc (Obj.cells #[Value.int IntKind.i64 y0, Value.int IntKind.i64 y1, Value.int IntKind.i64 y2] 47) = W2;have cx0 : W2.cell? ⟨W.heap.size, 0, none⟩ = some (.int .i64 x0) := by rw [<- hW2]; simp [go_sem]
 have cx1 : W2.cell? ⟨W.heap.size, 1, none⟩ = some (.int .i64 x1) := by rw [<- hW2]; simp [go_sem]
 have cx2 : W2.cell? ⟨W.heap.size, 2, none⟩ = some (.int .i64 x2) := by rw [<- hW2]; simp [go_sem]
 have cy0 : W2.cell? ⟨W.heap.size + 1, 0, none⟩ = some (.int .i64 y0) := by rw [<- hW2]; simp [go_sem]
 have cy1 : W2.cell? ⟨W.heap.size + 1, 1, none⟩ = some (.int .i64 y1) := by rw [<- hW2]; simp [go_sem]
 have cy2 : W2.cell? ⟨W.heap.size + 1, 2, none⟩ = some (.int .i64 y2) := by rw [<- hW2]; simp [go_sem]
 have hG : ∃ os, W2 = grow W os := ⟨_, by rw [<- hW2, alloc_eq_grow, alloc_eq_grow, grow_grow]⟩;clear hW2;refine wp_region_still_tail 15 (by kernel_rfl) (by kernel_rfl) ?_;simp only [List.take_succ_cons, List.take_zero, List.drop_succ_cons, List.drop_zero];have e3 : ({ W2 with drawn := W2.drawn + 1 } : World) = W2.drew := rfl;simp only [e3];have dx0 : W2.drew.cell? ⟨W.heap.size, 0, none⟩ = some (.int .i64 x0) := cx0;have dx1 : W2.drew.cell? ⟨W.heap.size, 1, none⟩ = some (.int .i64 x1) := cx1;have dx2 : W2.drew.cell? ⟨W.heap.size, 2, none⟩ = some (.int .i64 x2) := cx2;have dy0 : W2.drew.cell? ⟨W.heap.size + 1, 0, none⟩ = some (.int .i64 y0) := cy0;have dy1 : W2.drew.cell? ⟨W.heap.size + 1, 1, none⟩ = some (.int .i64 y1) := cy1;have dy2 : W2.drew.cell? ⟨W.heap.size + 1, 2, none⟩ = some (.int .i64 y2) := cy2;have hG' : ∃ q os, W2.drew = grow (W.drewN q) os := by obtain ⟨os, rfl⟩ := hG; exact ⟨1, os, rfl⟩
 clear cx0 cx1 cx2 cy0 cy1 cy2 hG e3;generalize W2.drew = W3 at *
 iterate 4 still_step
 still_call (hcon0 _)
 iterate 4 still_step
 still_call (hcon1 _)
 iterate 4 still_step
 still_call (hcon2 _)
 refine wpStill_nil ?_;clear hcon0 hcon1 hcon2 dx0 dx1 dx2 dy0 dy1 dy2
 go_wp2_with (go_at_call 42; refine (hor2 _ _ _ (by simp)).mono ?_; rintro e w' ⟨rfl, rfl⟩)
 go_ret
 obtain ⟨q, os, rfl⟩ := hG';exact ⟨J, q, _, by rw [alloc_eq_grow, grow_grow]⟩
theorem cmpLn_any (x0 y0 x2 y2 x3 y3 : Int) (x1 y1 : ByteArray) (W : World) : Calls Tryz.prog 75 #[.agg #[.int .i64 x0, .string x1, .int .i64 x2, .int .i64 x3], .agg #[.int .i64 y0, .string y1, .int .i64 y2, .int .i64 y3]] W fun e w' => e = .returned (.int .i64 (if cmpI x0 y0 = 0 then (if YbW x1 y1 = 0 then (if cmpI x2 y2 = 0 then (cmpI x3 y3) else cmpI x2 y2) else YbW x1 y1) else cmpI x0 y0)) /\ ∃ q os', w' = grow (W.drewN q) os' := by
 have hcon0 := fun W' => Ycm x0 y0 W'
 have hcon1 := fun W' => cmpB_any x1 y1 W'
 have hcon2 := fun W' => Ycm x2 y2 W'
 have hcon3 := fun W' => Ycm x3 y3 W'
 have hor := or4 (cmpI x0 y0) (YbW x1 y1) (cmpI x2 y2) (cmpI x3 y3);generalize cmpI x0 y0 = r at *;generalize YbW x1 y1 = s at *;generalize cmpI x2 y2 = u at *;generalize cmpI x3 y3 = v at *
 have hor2 : ∀ (X : World) (b e : Nat), b = X.heap.size -> Calls Tryz.prog 42 #[.slice (some ⟨b, 0, none⟩) 4 4] (X.alloc (.cells #[.int .i64 r, .int .i64 s, .int .i64 u, .int .i64 v] e)) fun e' w' => e' = .returned (.int .i64 (if r = 0 then (if s = 0 then (if u = 0 then (v) else u) else s) else r)) /\ w' = X.alloc (.cells #[.int .i64 r, .int .i64 s, .int .i64 u, .int .i64 v] e) :=
  fun X b e hb => hor b _ (YbS hb rfl) (YbS hb rfl) (YbS hb rfl) (YbS hb rfl)
 clear hor;generalize (if r = 0 then (if s = 0 then (if u = 0 then (v) else u) else s) else r) = t at hor2 ⊢
 go_enter Tryz.func75, Tryz.ntmps75
 go_wp2
 generalize hW2 : (W.alloc (Obj.cells #[Value.int IntKind.i64 x0, Value.string x1, Value.int IntKind.i64 x2, Value.int IntKind.i64 x3] 98)).alloc (Obj.cells #[Value.int IntKind.i64 y0, Value.string y1, Value.int IntKind.i64 y2, Value.int IntKind.i64 y3] 98) = W2;have cx0 : W2.cell? ⟨W.heap.size, 0, none⟩ = some (.int .i64 x0) := by rw [<- hW2]; simp [go_sem]
 have cx1 : W2.cell? ⟨W.heap.size, 1, none⟩ = some (.string x1) := by rw [<- hW2]; simp [go_sem]
 have cx2 : W2.cell? ⟨W.heap.size, 2, none⟩ = some (.int .i64 x2) := by rw [<- hW2]; simp [go_sem]
 have cx3 : W2.cell? ⟨W.heap.size, 3, none⟩ = some (.int .i64 x3) := by rw [<- hW2]; simp [go_sem]
 have cy0 : W2.cell? ⟨W.heap.size + 1, 0, none⟩ = some (.int .i64 y0) := by rw [<- hW2]; simp [go_sem]
 have cy1 : W2.cell? ⟨W.heap.size + 1, 1, none⟩ = some (.string y1) := by rw [<- hW2]; simp [go_sem]
 have cy2 : W2.cell? ⟨W.heap.size + 1, 2, none⟩ = some (.int .i64 y2) := by rw [<- hW2]; simp [go_sem]
 have cy3 : W2.cell? ⟨W.heap.size + 1, 3, none⟩ = some (.int .i64 y3) := by rw [<- hW2]; simp [go_sem]
 have hG : ∃ os, W2 = grow W os := ⟨_, by rw [<- hW2, alloc_eq_grow, alloc_eq_grow, grow_grow]⟩;clear hW2;refine wp_region_still_tail 20 (by kernel_rfl) (by kernel_rfl) ?_;simp only [List.take_succ_cons, List.take_zero, List.drop_succ_cons, List.drop_zero];have e3 : ({ W2 with drawn := W2.drawn + 1 } : World) = W2.drew := rfl;simp only [e3];have dx0 : W2.drew.cell? ⟨W.heap.size, 0, none⟩ = some (.int .i64 x0) := cx0;have dx1 : W2.drew.cell? ⟨W.heap.size, 1, none⟩ = some (.string x1) := cx1;have dx2 : W2.drew.cell? ⟨W.heap.size, 2, none⟩ = some (.int .i64 x2) := cx2;have dx3 : W2.drew.cell? ⟨W.heap.size, 3, none⟩ = some (.int .i64 x3) := cx3;have dy0 : W2.drew.cell? ⟨W.heap.size + 1, 0, none⟩ = some (.int .i64 y0) := cy0;have dy1 : W2.drew.cell? ⟨W.heap.size + 1, 1, none⟩ = some (.string y1) := cy1;have dy2 : W2.drew.cell? ⟨W.heap.size + 1, 2, none⟩ = some (.int .i64 y2) := cy2;have dy3 : W2.drew.cell? ⟨W.heap.size + 1, 3, none⟩ = some (.int .i64 y3) := cy3;have hG' : ∃ q os, W2.drew = grow (W.drewN q) os := by obtain ⟨os, rfl⟩ := hG; exact ⟨1, os, rfl⟩
 clear cx0 cx1 cx2 cx3 cy0 cy1 cy2 cy3 hG e3;generalize W2.drew = W3 at *
 iterate 4 still_step
 still_call (hcon0 _)
 iterate 4 still_step
 still_call (hcon1 _)
 iterate 4 still_step
 still_call (hcon2 _)
 iterate 4 still_step
 still_call (hcon3 _)
 refine wpStill_nil ?_;clear hcon0 hcon1 hcon2 hcon3 dx0 dx1 dx2 dx3 dy0 dy1 dy2 dy3
 go_wp2_with (go_at_call 42; refine (hor2 _ _ _ (by simp)).mono ?_; rintro e w' ⟨rfl, rfl⟩)
 go_ret
 obtain ⟨q, os, rfl⟩ := hG';exact ⟨J, q, _, by rw [alloc_eq_grow, grow_grow]⟩
theorem YeH {F : Nat -> Prop} {w : World} : ∀ {xs : List Value} {vs : List Value}, xs.length = vs.length -> (∀ i (h : i < xs.length) (h' : i < (vs.map D.v).length), Rep F w xs[i] (vs.map D.v)[i]) -> xs = vs := fun hl h => by
 apply List.ext_getElem hl;intro i h1 h2;have := h i h1 (by simpa using h2);rw [ZgP] at this;exact rep_v this
theorem cmpT_Sp : CmpT Tryz.prog 86 2 Spn.ds YbN := fun F w0 W x y xs ys h1 h2 h3 h4 => by
 have e1 := YeH (vs := [.int .i64 x.lo, .int .i64 x.hi]) (by simpa using h1) h3;have e2 := YeH (vs := [.int .i64 y.lo, .int .i64 y.hi]) (by simpa using h2) h4;subst e1; subst e2;have h := cmpSp_any x.lo y.lo x.hi y.hi W;unfold YbN;rw [Ych, YeJ];exact h
theorem sortT_Sp : SortT Tryz.prog 85 2 where
 ent := enters_of Tryz.func85 (by kernel_rfl) rfl
 nil fv w := AnyF.slices_SortFunc_none Tryz.sortSpan none 0 fv w
 all enc hk h1 cf hO g blk cap d w eg hC hH hb hn := AnyQ.slices_SortFunc Tryz.sortSpan 2 (fun w => (AggT.of (by kernel_rfl) : AggT Tryz.prog 64 2).agg w) (fun w => (AggT.of (by kernel_rfl) : AggT Tryz.prog 64 2).size w) enc hk h1 cf hO g #[] blk 0 cap d w eg hC hH hb hn
theorem c_sortSp (xs : List Spn) (hn : xs.length < 4611686018427387904) (e : Nat) : RCall Tryz.prog 85 e 2 (xs.map Spn.ds) ((YaK YbN xs).map Spn.ds) [.clo (.func 86) []] (.tup []) :=
 YeE sortT_Sp swo_sp (enters_of Tryz.func86 (by kernel_rfl) rfl) cmpT_Sp (fun _ => rfl) [.int .i64 0, .int .i64 0] rfl (by simp [Value.oneCell']) (fun F w i h h' => by
  have hi : i < 2 := h
  match i, hi with
  | 0, _ => exact .v _
  | 1, _ => exact .v _) xs hn (fun r hp hs => uniqA swo_sp anti_sp hp hs) e
theorem cmpT_Cu : CmpT Tryz.prog 17 3 Cue.ds YcL := fun F w0 W x y xs ys h1 h2 h3 h4 => by
 have e1 := YeH (vs := [.int .i64 x.lo, .int .i64 x.hi, .int .i64 x.id]) (by simpa using h1) h3;have e2 := YeH (vs := [.int .i64 y.lo, .int .i64 y.hi, .int .i64 y.id]) (by simpa using h2) h4;subst e1; subst e2;have h := cmpCu_any x.lo y.lo x.hi y.hi x.id y.id W;unfold YcL;rw [Ych, Ych, YeJ];exact h
theorem sortT_Cu : SortT Tryz.prog 16 3 where
 ent := enters_of Tryz.func16 (by kernel_rfl) rfl
 nil fv w := AnyF.slices_SortFunc_none Tryz.sortCue none 0 fv w
 all enc hk h1 cf hO g blk cap d w eg hC hH hb hn := AnyQ.slices_SortFunc Tryz.sortCue 3 (fun w => (AggT.of (by kernel_rfl) : AggT Tryz.prog 47 3).agg w) (fun w => (AggT.of (by kernel_rfl) : AggT Tryz.prog 47 3).size w) enc hk h1 cf hO g #[] blk 0 cap d w eg hC hH hb hn
theorem c_sortCu (xs : List Cue) (hn : xs.length < 4611686018427387904) (e : Nat) : RCall Tryz.prog 16 e 3 (xs.map Cue.ds) ((YaK YcL xs).map Cue.ds) [.clo (.func 17) []] (.tup []) :=
 YeE sortT_Cu swo_cu (enters_of Tryz.func17 (by kernel_rfl) rfl) cmpT_Cu (fun _ => rfl) [.int .i64 0, .int .i64 0, .int .i64 0] rfl (by simp [Value.oneCell']) (fun F w i h h' => by
  have hi : i < 3 := h
  match i, hi with
  | 0, _ => exact .v _
  | 1, _ => exact .v _
  | 2, _ => exact .v _) xs hn (fun r hp hs => uniqA swo_cu anti_cu hp hs) e
theorem cmpT_Ln : CmpT Tryz.prog 75 4 Lne.ds Yb1 := fun F w0 W x y xs ys h1 h2 h3 h4 => by
 have e1 := YeH (vs := [.int .i64 x.track, .string x.media, .int .i64 x.chan, .int .i64 x.off]) (by simpa using h1) h3;have e2 := YeH (vs := [.int .i64 y.track, .string y.media, .int .i64 y.chan, .int .i64 y.off]) (by simpa using h2) h4;subst e1; subst e2;have h := cmpLn_any x.track y.track x.chan y.chan x.off y.off x.media y.media W;unfold Yb1;rw [Ych, Ych, Ych, YeJ];exact h
theorem sortT_Ln : SortT Tryz.prog 74 4 where
 ent := enters_of Tryz.func74 (by kernel_rfl) rfl
 nil fv w := AnyF.slices_SortFunc_none Tryz.sortLine none 0 fv w
 all enc hk h1 cf hO g blk cap d w eg hC hH hb hn := AnyQ.slices_SortFunc Tryz.sortLine 4 (fun w => (AggT.of (by kernel_rfl) : AggT Tryz.prog 98 4).agg w) (fun w => (AggT.of (by kernel_rfl) : AggT Tryz.prog 98 4).size w) enc hk h1 cf hO g #[] blk 0 cap d w eg hC hH hb hn
theorem c_sortLn (xs : List Lne) (hn : xs.length < 4611686018427387904) (e : Nat) : RCall Tryz.prog 74 e 4 (xs.map Lne.ds) ((YaK Yb1 xs).map Lne.ds) [.clo (.func 75) []] (.tup []) :=
 YeE sortT_Ln swo_ln (enters_of Tryz.func75 (by kernel_rfl) rfl) cmpT_Ln (fun _ => rfl) [.int .i64 0, .string ⟨#[]⟩, .int .i64 0, .int .i64 0] rfl (by simp [Value.oneCell']) (fun F w i h h' => by
  have hi : i < 4 := h
  match i, hi with
  | 0, _ => exact .v _
  | 1, _ => exact .v _
  | 2, _ => exact .v _
  | 3, _ => exact .v _) xs hn (fun r hp hs => uniqA swo_ln anti_ln hp hs) e
namespace Ty
theorem et_95 : ElemTy Tryz.prog 95 98 4 40 (.agg #[(.int .i64 0), (.string ⟨#[]⟩), (.int .i64 0), (.int .i64 0)]) := ⟨by kernel_rfl, by kernel_rfl, by kernel_rfl, by decide⟩
theorem sz_64 : ∀ w, (sizeOf 64).run Tryz.prog w = .ok 2 w := SizeT.of (by kernel_rfl)
theorem zt_64 : (Tryz.prog.info? 64).bind (·.zero) = some (.agg #[(.int .i64 0), (.int .i64 0)]) := by kernel_rfl
end Ty
open Go.Sort Go.Lib
theorem SLe.fn (f : Nat) : SLe (.d (.v (.func (.func f) #[] #[]))) (.d (.clo (.func f) [])) := fun F ρ w x h => by
 cases Yav h;exact .d (.clo _ [] [] J (fun i h => absurd h (Nat.not_lt_zero i)))
theorem eqT_lne : EqT Tryz.prog 98 [.int .i64, .str, .int .i64, .int .i64] := .of (by kernel_rfl)
theorem eq_lne (x y : Lne) : EqD Tryz.prog 98 x.ds y.ds (decide (x = y)) := .of eqT_lne [.int .i64 x.track, .string x.media, .int .i64 x.chan, .int .i64 x.off] [.int .i64 y.track, .string y.media, .int .i64 y.chan, .int .i64 y.off] rfl rfl rfl rfl (by
 cases x; cases y
 simp [sameL, sameV])
def unTo (l : List Spn) (k : Nat) : List Spn := (l.take k).foldl (fun o s => YbG o s.lo s.hi) []
def YdY (l : List Spn) : List Spn := unTo (YaK YbN l) (YaK YbN l).length
theorem unTo_next {l : List Spn} {k : Nat} (h : k < l.length) : unTo l (k + 1) = YbG (unTo l k) (l.getD k default).lo (l.getD k default).hi := by
 unfold unTo;rw [List.take_add_one, ZgE h, Option.toList_some, List.foldl_append];simp [h]
theorem unTo_len (l : List Spn) : ∀ k, k <= l.length -> (unTo l k).length <= k
 | 0, _ => by simp [unTo]
 | k + 1, h => by rw [unTo_next (by omega)]; exact ZnT (YcI _ _ _) (Nat.succ_le_succ (unTo_len l k (by omega)))
def NdA (l : List Lne) : Prop := ∀ k, 0 < k -> k < l.length -> l.getD k default ≠ l.getD (k - 1) default
theorem c_cmptLn (l : List Lne) (hd : NdA l) (hl : l.length <= 1000000) : Yad Tryz.prog 76 [.sl (l.map Lne.ds)] (.sl (l.map Lne.ds)) := by
 refine Yab (n := 61) (ds' := [.sl (l.map Lne.ds)]) Tryz.func76 J (by kernel_rfl) J [2] J J ?_;intro B w0 F0 fr;refine .sr (.aN ?_);refine .seq (.sr (.mA ?_));refine .sA (.lenSl J et_95.ht J) ?_;rw [ZlM];refine .sA (.lss J J J) (.nil ?_);refine .cT J (fun h1 => ?_) fun h1 => ?_
 ·refine .sr (.ma (.nil ?_));refine .ret (rDq J ?_)
  all_goals (first | rfl)
 refine .skip (.seq (.sr (.aN ?_)));refine .block (.loop (G := Nat) (fun k => Env.of [(3, .iv k), (0, .d (.sl (l.map Lne.ds)))]) (fun k => []) (fun k => 0 < k /\ k <= l.length) (fun k => l.length - k) 1 ⟨Nat.one_pos, by omega⟩ (Sub.less ⟨(SLe.i64 J), U, trivial⟩ (fun _ h => h)) ?_);intro k hk;refine .seq (.sr (.mm ?_));refine .sA (.lenSl J et_95.ht J) ?_;rw [ZlM];refine .sA (.lss J J J) (.nil ?_);refine .cT J (fun h2 => ?_) fun h2 => ?_
 ·have hlt : k < l.length := by omega
  refine .skip (.seq (.block (.seq (.drw 10 ?_))));refine .sA (.moveD J J) (.sA (.moveD J J) (.sA (.indexAddr J et_95 J J k J (Yca hlt) J) (.sA (.loadAgg J ag_98 J J) (.sA (.moveD J J) (.sA (.moveD J J) ?_)))));refine .sA (.sub64 J J J) ?_;refine .sA (.indexAddr J et_95 J J (k - 1) (by omega) (Yca (by omega)) J) ?_;refine .sA (.loadAgg J ag_98 J J) (.sA (.aggEql J J J (eq_lne _ _)) ?_);refine .nil ?_;refine .nil ?_;refine .cT J (fun h3 => ?_) fun h3 => ?_
  ·exact absurd h3 (hd k hk.1 hlt)
  refine .skip (.region (.mA ?_));refine .sA (.add64 J J J) ?_;refine .aN ?_;refine ⟨k + 1, ⟨by omega, by omega⟩, (by dsimp only; omega), Sub.less ⟨(SLe.i64 (by omega)), U, trivial⟩ (fun _ h => h)⟩
 refine .exit (.sr (.mA ?_));refine .aN ?_;refine .ret (rDq J ?_)
 all_goals (first | rfl)
theorem c_united (l : List Spn) (hl : l.length <= 100000000) : XCall Tryz.prog 39 [.own 903] [(903, .row 64 2 (l.map Spn.ds))] [] (fun i => Nat.beq i 901 || Nat.beq i 903 || Nat.beq i 905) (.sl ((YdY l).map Spn.ds)) := by
 have hsn : (YaK YbN l).length = l.length := (YaB l).length_eq;refine xcall_of (n := 22) (ds' := [.sl ((YdY l).map Spn.ds)]) Tryz.func39 J (by kernel_rfl) J [2] J J ?_;intro B w0 F0 fr ρ0;refine .sr (.aN ?_);refine .sr (.sA (.moveO J J) ?_);refine .callX J J J (ArgsS.cons U (ArgsS.cons (SLe.fn _) ArgsS.nil)) (c_sortSp l (by omega) 64 903) ⟨(.head _), trivial⟩ J J (fun _ h => nomatch h) ?_;refine .nil ?_;refine .sr (.aN ?_);refine .seq (.sr (.freeze 0 J (.head _) ?_));refine .mA ?_;refine .sA (.lenSl J et_59.ht J) ?_;rw [ZlM];refine .mN ?_;refine .block (.adopt 3 901 64 2 J J ?_);refine .loop (G := Nat) (fun k => Env.of [(10, .iv k), (8, .d (.sl ((YaK YbN l).map Spn.ds))), (9, .iv (YaK YbN l).length), (3, .own 901)]) (fun k => [(901, .row 64 2 ((unTo (YaK YbN l) k).map Spn.ds))]) (fun k => k <= (YaK YbN l).length) (fun k => (YaK YbN l).length - k) 0 (ZnZ _) (Sub.less ⟨U, U, U, U, trivial⟩ (fun _ h => h)) ?_;intro k hk;refine .sr (.sA (.lss J J J) (.nil ?_));refine .seq (.cT J (fun h1 => ?_) fun h1 => ?_)
 ·have hlt : k < (YaK YbN l).length := by omega
  have hul := unTo_len (YaK YbN l) k (by omega);refine .skip (.seq (.block (.sr (.sA (.indexAddr J et_59 J J k J (Yca hlt) J) ?_))));refine .sA (.loadAgg J ag_64 J J) ?_;refine .alloc 905 J J J J zt_64 J J J ?_;refine .st J J J sz_64 J (.head _) J J J (ZnB J) (.nil ?_);refine .region (.sA (.moveO J J) ?_);refine .sA (.fieldAddrP J Yd4 J) (.sA (.loadP J sc_3 J (.head _) J) (.sA (.fieldAddrP J YbK J) (.sA (.loadP J sc_3 J (.head _) J) ?_)));refine .callXS rfl rfl rfl (ArgsS.cons U (ArgsS.cons U (ArgsS.cons U ArgsS.nil))) (YdV (unTo (YaK YbN l) k) ((YaK YbN l).getD k default).lo ((YaK YbN l).getD k default).hi (by omega)) ⟨(.tail _ (.head _)), trivial⟩ rfl rfl (fun i h => by show (!(Nat.beq i 901 || Nat.beq i 903 || Nat.beq i 905)) = false; rw [h]; rfl) ?_;refine .sA (.assignO J J) (.nil ?_);refine .region (.sA (.add64 J J J) ?_);refine .mN ?_;refine ⟨k + 1, (by omega), (by dsimp only; omega), Sub.less ⟨U, U, U, U, trivial⟩ (fun q h => by dsimp only at h; rw [unTo_next hlt] at h; rw [ZmS.1 h]; exact (.head _))⟩
 obtain rfl : k = (YaK YbN l).length := by omega
 refine .exit (.sr (.sA (.moveO J J) ?_));refine .sA (.assignO J J) (.nil ?_);refine .ret ?_;refine ⟨⟨RetDX.own J (.head _) J J, trivial⟩, trivial⟩
end Go.Proofs.YtohllekllkcfiaaGreatDoor
