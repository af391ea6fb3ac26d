/- What the proof needs, part 4: a sound evaluator over trees, the program's functions on it, and what they come to. -/
import Derived.Test.YtlcpigdmekgajaaGreatDoorMoc
import Derived.Lib.TrimUEq
import Derived.Lib.ValidLaws
import Derived.Lib.MapLaws
set_option linter.unusedVariables false
set_option linter.unusedSimpArgs false
set_option maxRecDepth 100000
namespace Go.Proofs.YtlcpigdmekgajaaGreatDoor.Abs
open _root_.Bool renaming false_eq_true → zaa, and_eq_true → zae, not_true → zax, true_and → za5, eq_iff_iff → zbq
open _root_.Option renaming bind_eq_some_iff → zab, bind_some → zac, getD_some → zaG, bind_eq_bind → zaO, pure_def → zbd
open _root_.List renaming getElem?_eq_some_iff → zad, length_append → zaf, nil_append → zag, replicate → zah, append_assoc → zai, getElem?_append_right → zak, length_cons → zal, getElem?_append_left → zam, append_nil → zan, length_nil → zao, length_singleton → zaq, all_cons → zas, map_cons → zat, cons_append → zau, mem_cons_of_mem → zay, mem_cons_self → za1, map_append → za2, flatten_cons → za3, mapM_cons → za4, all_eq_true → za6, drop_eq_getElem_cons → zaA, map_nil → zaB, mem_append_left → zaF, take_length → zaL, mem_append_right → zaM, drop_append_of_le_length → zaQ, mem_append → zaV, drop_zero → zaW, nodup_append → zbb, getElem?_drop → zbc, drop_of_length_le → zbh, nodup_cons → zbj, mem_singleton → zbk, flatten_append → zbr, length_eq_one_iff → zbu, getD_eq_getElem?_getD → zbv, flatten_nil → zbw, getElem?_take_of_lt → zb1, drop_length → zb5, drop_drop → zb6, Perm → zbA, any_cons → zbB, getElem?_set_ne → zbC, mem_cons → zbF, mem_map → zbI, map_map → zbK
open _root_.ByteArray renaming size → zaJ, data_push → zbD
open _root_.Nat renaming le_refl → zap, zero_add → zav, le_trans → za9, add_assoc → zaN, reduceAdd → zaR, sub_self → zaT, add_zero → zba, mul_one → zbs, add_comm → zbE, add_mul → zbH, succ_mul → zbJ
open _root_.Array renaming ext' → zbf
open _root_.Int renaming natCast_zero → zaI, toNat_natCast → zbo
section
open Go
theorem M7 : ∃ i j, As 22 = some i ∧ As i.elem = some j ∧ j.size = 1 ∧ j.cty.length = 1 := ⟨_, _, rfl, rfl, rfl, rfl⟩
theorem Mc (n : Nat) (hn : 1048576 < n) (s : ByteArray) (h : s.size ≤ 1048576) : Bz E0 (n + 1) 22 32 [Af s] = some (Af s) := by
 have e : s.data.toList.length = s.size := by simp
 have h0 := Z7 (n := n) (bytes := 1) (fun b : UInt8 => .int .u8 b.toNat) (.sc (.int .u8 0)) (fun _ => rfl) M7 (fun k => Vr (PR n AV) n k) (fun k m a o i H => rfl) (fun a H k => Als n a H k) (by decide) s.data.toList (by rw [e]; exact h) hn
 rw [e] at h0
 exact h0
theorem L5 (n : Nat) (hn : 1048576 < n) (tb : Nat) (s : ByteArray) (h : s.size ≤ 1048576) : Bz E0 (n + 1) tb 35 [Af s, Af s] = some (.sc (.bool true)) := by
 have e : s.data.toList.length = s.size := by simp
 have h0 := Zc (n := n) (fun b : UInt8 => .int .u8 b.toNat) (fun x γ k => AnH _ k) (fun k => Vs (PR n AV) n k) (fun k m a b i H => rfl) (fun a b H k => Alv n a b H k) s.data.toList (by rw [e]; exact h) hn tb
 rw [e] at h0
 exact h0
theorem Mb (n : Nat) (ty : Nat) (s : ByteArray) (hmax : s.size ≤ 9223372036854775807) (left : Int) (h0 : 0 ≤ left) (h1 : left ≤ 1048576) : Bz E0 (n + 1) ty 47 [Af s, .sc (.int .i64 left)] = some (.sc (.int .i64 (Jd s.size left))) :=
 AhE (n := n) (fun a b H k => Al0 n a b H k) s.size _ hmax left h0 h1 ty
theorem Acl : ∃ i j, As 57 = some i ∧ As i.elem = some j ∧ j.size = 1 ∧ j.cty.length = 1 := ⟨_, _, rfl, rfl, rfl, rfl⟩
theorem AhH (n : Nat) (hn : 1048576 < n) (s : List Int) (h : s.length ≤ 1048576) : Bz E0 (n + 1) 57 125 [Ei s] = some (Ei s) :=
 Z7 (n := n) (bytes := 8) (fun z : Int => .int .i64 z) (.sc (.int .i64 0)) (fun _ => rfl) Acl (fun k => R6 (PR n AV) n k) (fun k m a o i H => rfl) (fun a H k => AiB n a H k) (by decide) s h hn
theorem Afe (n : Nat) (hn : 1048576 < n) (tb : Nat) (s : List Int) (h : s.length ≤ 1048576) : Bz E0 (n + 1) tb 75 [Ei s, Ei s] = some (.sc (.bool true)) :=
 Zc (n := n) (fun z : Int => .int .i64 z) (fun x γ k => Kl _ k) (fun k => Vy (PR n AV) n k) (fun k m a b i H => rfl) (fun a b H k => AlI n a b H k) s h hn tb
theorem AhB (n : Nat) (ty : Nat) (s : List Int) (hmax : s.length ≤ 9223372036854775807) (left : Int) (h0 : 0 ≤ left) (h1 : left ≤ 1048576) : Bz E0 (n + 1) ty 122 [Ei s, .sc (.int .i64 left)] = some (.sc (.int .i64 (Jd s.length left))) :=
 AhE (n := n) (fun a b H k => Ai8 n a b H k) s.length _ hmax left h0 h1 ty
theorem Tx : ∃ i j, As 56 = some i ∧ As i.elem = some j ∧ j.size = 1 ∧ j.cty.length = 1 := ⟨_, _, rfl, rfl, rfl, rfl⟩
theorem Abd (n : Nat) (hn : 1048576 < n) (s : List ByteArray) (h : s.length ≤ 1048576) : Bz E0 (n + 1) 56 124 [Ee s] = some (Ee s) :=
 Z7 (n := n) (bytes := 16) (fun s : ByteArray => .string s) (.sc (.string ⟨#[]⟩)) (fun _ => rfl) Tx (fun k => R5 (PR n AV) n k) (fun k m a o i H => rfl) (fun a H k => AiA n a H k) (by decide) s h hn
theorem Aaw (n : Nat) (hn : 1048576 < n) (tb : Nat) (s : List ByteArray) (h : s.length ≤ 1048576) : Bz E0 (n + 1) tb 74 [Ee s, Ee s] = some (.sc (.bool true)) :=
 Zc (n := n) (fun s : ByteArray => .string s) (fun x γ k => P1 _ k) (fun k => Vx (PR n AV) n k) (fun k m a b i H => rfl) (fun a b H k => AlH n a b H k) s h hn tb
theorem N6 (n : Nat) (k : AV → Ac → Option AV) (H : Ac) (l : List ByteArray) (hok : ∀ s ∈ l, Sq s) (hlen : l.length ≤ 1048576) : ∀ (r pre : List ByteArray) (m : Nat) (left : Int), 0 ≤ left → left ≤ 1048576 → l = pre ++ r → r.length < m → Og (PR n AV) n k m (Ee l) (.sc (.int .i64 left)) (.sc (.int .i64 pre.length)) H = k (.sc (.int .i64 (Jd (Ut zaJ r) left))) H
 | [], pre, m + 1, left, hl0, hl1, hl, hm => by
  rw [zan] at hl
  subst hl
  have e : Jd (Ut zaJ []) left = left := by simp [Jd, Ut]; omega
  rw [e]
  rw [Og]
  simp only [Hg, Dl, Cx]
  rw [E8, G3, Dn]
  simp
 | x :: r, pre, m + 1, left, hl0, hl1, hl, hm => by
  have hlt : pre.length < l.length := by rw [hl]; simp
  have hx : Sq x := hok x (by rw [hl]; simp)
  have hx2 : x.size ≤ 9223372036854775807 := hx
  have hd : (l.map fun x => AV.sc (.string x)).drop (pre.length * 1) = .sc (.string x) :: r.map fun x => .sc (.string x) := by
   rw [zbs, hl, za2, zaQ (by simp)]
   rw [show pre.length = (pre.map fun x => AV.sc (.string x)).length by simp, zb5]
   rfl
  rw [Og]
  simp only [Hg, Dl, Cx, Hb, Dp, Fj]
  rw [E8, G3, Dn, if_pos (by simpa using hlt), Oo 1 _ _ pre.length _ hlt (by simpa using hlt), hd, Pz]
  simp only [Q5, asS, zac]
  rw [Pb _ _ _ (by omega) (by omega), Nx, Dn]
  by_cases hs : left < x.size
  ·have e2 : Jd (Ut zaJ (x :: r)) left = -1 := by rw [Ut, Jd, if_pos]; omega
   rw [if_pos (by simpa using (show left - (x.size : Int) < 0 by omega)), e2]
  ·have e2 : Jd (Ut zaJ (x :: r)) left = Jd (Ut zaJ r) (left - x.size) := by
    rw [Ut]
    exact Xa hs
   rw [if_neg (by simpa using (show ¬ left - (x.size : Int) < 0 by omega)), e2, Hd _ _ (by omega)]
   have ih := N6 n k H l hok hlen r (pre ++ [x]) m (left - x.size) (by omega) (by omega) (by rw [hl]; simp) (by simpa using hm)
   rw [zaf, zaq] at ih
   exact ih
theorem AaY (n : Nat) (hn : 1048576 < n) (ty : Nat) (s : List ByteArray) (hmax : s.length ≤ 9223372036854775807) (hok : ∀ x ∈ s, Sq x) (left : Int) (h0 : 0 ≤ left) (h1 : left ≤ 1048576) : Bz E0 (n + 1) ty 121 [Ee s, .sc (.int .i64 left)] = some (.sc (.int .i64 (Jd (Y3 zaJ s) left))) := by
 rw [At, Ai7, f121]
 simp only [Hg, Dl, Cx]
 rw [E8, Pb _ _ _ (by omega) (by omega), Nx, Dn]
 by_cases h : left - (s.length : Int) < 0
 ·have e : Jd (Y3 zaJ s) left = -1 := by rw [J3, Jd, if_pos]; omega
  rw [if_pos (by simpa using h), e]
  rfl
 ·have e : Jd (Y3 zaJ s) left = Jd (Ut zaJ s) (left - s.length) := by
   rw [J3]
   exact Xa (by omega)
  rw [if_neg (by simpa using h), e]
  have key := N6 n (fun x H => Bc As E0.tp ty H x) [] s hok (by omega) s [] n (left - s.length) (by omega) (by omega) (by simp) (by omega)
  simp only [zao, zaI] at key
  rw [key]
  rfl
structure Nm where
 fTopic : ByteArray
 fBody : ByteArray
 fQos : Int
 fRetain : Bool
def Fn (x : Nm) : List AV := .sc (.string x.fTopic) :: Af x.fBody :: .sc (.int .i64 x.fQos) :: .sc (.bool x.fRetain) :: []
def Uo (x : Nm) : Nat := x.fTopic.size + (x.fBody.size + 0)
def Ahj (x : Nm) : Prop := Sq x.fTopic ∧ Sq x.fBody ∧ Xu x.fQos ∧ True
theorem Jg (x : Nm) : (Fn x).all Ja = true := rfl
def Vg : List Nat := [9, 22, 3, 4]
theorem AkL : ∃ i, As 34 = some i ∧ i.cty = Vg := ⟨_, rfl, rfl⟩
theorem Ahn (d : Nat) (x : Nm) : Hj (I0 As E0.tp (d + 2)) Vg (Fn x) := ⟨trivial, ⟨Kn (d := d + 0) M7 x.fBody, ⟨trivial, ⟨trivial, trivial⟩⟩⟩⟩
theorem AjG {n : Nat} {cs : List AV} (h : Ux As n 27 cs) : ∃ x : Nm, cs = Fn x ∧ Ahj x := by
 obtain ⟨m, hf⟩ := Mn (fs := [(0, 9), (1, 22), (2, 3), (3, 4)]) ⟨_, rfl, rfl, rfl, rfl, rfl, rfl, rfl⟩ h
 obtain ⟨a0, b0, rfl, h0, hf⟩ := hf
 obtain ⟨v0, rfl, k0⟩ := K0 h0
 obtain ⟨a1, b1, rfl, h1, hf⟩ := hf
 obtain ⟨v1, rfl, k1⟩ := Km ⟨_, rfl, rfl, rfl, rfl, rfl, rfl⟩ h1
 obtain ⟨a2, b2, rfl, h2, hf⟩ := hf
 obtain ⟨v2, rfl, k2⟩ := G4 h2
 obtain ⟨a3, b3, rfl, h3, hf⟩ := hf
 obtain ⟨v3, rfl⟩ := F3 h3
 subst hf
 exact ⟨⟨v0, v1, v2, v3⟩, rfl, k0, k1, k2, trivial⟩
def AnT : List AV := [(.sc (.string ⟨#[]⟩)), .nl, (.sc (.int .i64 0)), (.sc (.bool false))]
theorem Akc (n : Nat) (hn : 1048576 < n) (x : Nm) (h : Uo x ≤ 1048576) : Bz E0 (n + 2) 34 49 [.agg (Fn x)] = some (.agg (Fn x)) := by
 rw [At, Al2, f49]
 simp only [Fl, H9, Eb, Dp, Fx, Sy]
 rw [Gt _ _ _ (Jg x)]
 simp only [zao, zag, zal, zau, zav, zaR]
 refine F9 (T := Vg) (C := Fn x) (Z := AnT) (v := .string x.fTopic) (o' := 1) rfl rfl rfl rfl rfl ?_
 refine Ra (o' := 2) rfl rfl rfl rfl rfl (Mc (n + 0) (by omega) x.fBody (by unfold Uo at h; omega)) rfl ?_
 refine F9 (v := .int .i64 x.fQos) (o' := 3) rfl rfl rfl rfl rfl ?_
 refine F9 (v := .bool x.fRetain) (o' := 4) rfl rfl rfl rfl rfl ?_
 exact W9 rfl rfl rfl (Jg x) AkL (Ahn 5 x)
theorem Aim (n : Nat) (hn : 1048576 < n) (tb : Nat) (x : Nm) (h : Uo x ≤ 1048576) : Bz E0 (n + 2) tb 50 [.agg (Fn x), .agg (Fn x)] = some (.sc (.bool true)) := by
 rw [At, Al3, f50]
 simp only [Fl, Eb, Dp, Dl, Gn, Ld, Cx]
 rw [Gt _ _ _ (Jg x), Gt _ _ _ (Jg x)]
 simp only [zao, zag, zal, zau, zav, zaR]
 refine Jo (v := .string x.fTopic) rfl rfl (fun k => P1 _ k) ?_
 refine Q1 rfl rfl rfl (L5 (n + 0) (by omega) _ x.fBody (by unfold Uo at h; omega)) ?_
 refine Jo (v := .int .i64 x.fQos) rfl rfl (fun k => Kl _ k) ?_
 refine R2 (b := x.fRetain) rfl rfl ?_
 rfl
theorem Aka (n : Nat) (hn : 1048576 < n) (ty : Nat) (x : Nm) (hx : Ahj x) (left : Int) (h0 : 0 ≤ left) (h1 : left ≤ 1048576) : Bz E0 (n + 2) ty 46 [.agg (Fn x), .sc (.int .i64 left)] = Xo (Uo x) left := by
 obtain ⟨k0, k1, _, _⟩ := hx
 unfold Uo
 rw [At, Alz, f46]
 simp only [Fl, Eb, Dp, Fj, Dl, Cx]
 rw [Gt _ _ _ (Jg x)]
 simp only [zao, zag, zal, zau, zav, zaR]
 refine Rt (s := x.fTopic) rfl h0 h1 k0 rfl fun h0 h1 => ?_
 refine Rb rfl h0 h1 rfl (Mb (n + 0) _ x.fBody k1 _ h0 h1) rfl fun h0 h1 => ?_
 exact Xb h0
structure WantV where
 fFilter : ByteArray
 fQos : Int
def Bn (x : WantV) : List AV := .sc (.string x.fFilter) :: .sc (.int .i64 x.fQos) :: []
def H6 (x : WantV) : Nat := x.fFilter.size + 0
def Wn (x : WantV) : Prop := Sq x.fFilter ∧ Xu x.fQos
theorem Gf (x : WantV) : (Bn x).length = 2 := rfl
theorem Nc (x : WantV) : (Bn x).all Ja = true := rfl
def R0 : List Nat := [9, 3]
theorem AhJ : ∃ i, As 105 = some i ∧ i.cty = R0 := ⟨_, rfl, rfl⟩
theorem Uz (d : Nat) (x : WantV) : Hj (I0 As E0.tp (d + 1)) R0 (Bn x) := ⟨trivial, ⟨trivial, trivial⟩⟩
theorem Ahl {n : Nat} {cs : List AV} (h : Ux As n 139 cs) : ∃ x : WantV, cs = Bn x ∧ Wn x := by
 obtain ⟨m, hf⟩ := Mn (fs := [(0, 9), (1, 3)]) ⟨_, rfl, rfl, rfl, rfl, rfl, rfl, rfl⟩ h
 obtain ⟨a0, b0, rfl, h0, hf⟩ := hf
 obtain ⟨v0, rfl, k0⟩ := K0 h0
 obtain ⟨a1, b1, rfl, h1, hf⟩ := hf
 obtain ⟨v1, rfl, k1⟩ := G4 h1
 subst hf
 exact ⟨⟨v0, v1⟩, rfl, k0, k1⟩
theorem Ade : ∃ i j, As 55 = some i ∧ As i.elem = some j ∧ j.size = 2 ∧ j.cty = R0 := ⟨_, _, rfl, rfl, rfl, rfl⟩
def AmD : List AV := [(.sc (.string ⟨#[]⟩)), (.sc (.int .i64 0))]
theorem AhI (n : Nat) (hn : 1048576 < n) (x : WantV) (h : H6 x ≤ 1048576) : Bz E0 (n + 1) 105 145 [.agg (Bn x)] = some (.agg (Bn x)) := by
 rw [At, AiT, f145]
 simp only [Fl, H9, Eb, Dp, Fx, Sy]
 rw [Gt _ _ _ (Nc x)]
 simp only [zao, zag, zal, zau, zav, zaR]
 refine F9 (T := R0) (C := Bn x) (Z := AmD) (v := .string x.fFilter) (o' := 1) rfl rfl rfl rfl rfl ?_
 refine F9 (v := .int .i64 x.fQos) (o' := 2) rfl rfl rfl rfl rfl ?_
 exact W9 rfl rfl rfl (Nc x) AhJ (Uz 6 x)
theorem Aff (n : Nat) (hn : 1048576 < n) (tb : Nat) (x : WantV) (h : H6 x ≤ 1048576) : Bz E0 (n + 1) tb 114 [.agg (Bn x), .agg (Bn x)] = some (.sc (.bool true)) := by
 rw [At, Ai0, f114]
 simp only [Fl, Eb, Dp, Dl, Gn, Ld, Cx]
 rw [Gt _ _ _ (Nc x), Gt _ _ _ (Nc x)]
 simp only [zao, zag, zal, zau, zav, zaR]
 refine Jo (v := .string x.fFilter) rfl rfl (fun k => P1 _ k) ?_
 refine Jo (v := .int .i64 x.fQos) rfl rfl (fun k => Kl _ k) ?_
 rfl
theorem AhC (n : Nat) (hn : 1048576 < n) (ty : Nat) (x : WantV) (hx : Wn x) (left : Int) (h0 : 0 ≤ left) (h1 : left ≤ 1048576) : Bz E0 (n + 1) ty 144 [.agg (Bn x), .sc (.int .i64 left)] = Xo (H6 x) left := by
 obtain ⟨k0, _⟩ := hx
 unfold H6
 rw [At, AiS, f144]
 simp only [Fl, Eb, Dp, Fj, Dl, Cx]
 rw [Gt _ _ _ (Nc x)]
 simp only [zao, zag, zal, zau, zav, zaR]
 refine Rt (s := x.fFilter) rfl h0 h1 k0 rfl fun h0 h1 => ?_
 exact Xb h0
theorem AeO (n : Nat) (hn : 1048576 < n) (l : List WantV) (h : Y3 H6 l ≤ 1048576) : Bz E0 (n + 2) 55 123 [Ci Bn l] = some (Ci Bn l) := by
 have e := J3 H6 l
 exact Abe (n := n + 1) (w := 2) (bytes := 24) (cty := R0) Bn [(.sc (.string ⟨#[]⟩)), (.sc (.int .i64 0))] rfl Gf rfl (by decide) Ade AhJ Nc rfl (fun k => R4 (PR (n + 1) AV) (n + 1) k) (fun k m a o i H => rfl) (fun a H k => Ai9 (n + 1) a H k) (by decide) l (fun x hx => AhI n hn x (by have := M8 (wt := H6) hx; omega)) (fun x _ => Uz 6 x) (by omega) (by omega)
theorem Adt (n : Nat) (hn : 1048576 < n) (tb : Nat) (l : List WantV) (h : Y3 H6 l ≤ 1048576) : Bz E0 (n + 2) tb 73 [Ci Bn l, Ci Bn l] = some (.sc (.bool true)) := by
 have e := J3 H6 l
 exact Aax (n := n + 1) Bn Gf (by decide) Nc rfl (fun k => Vv (PR (n + 1) AV) (n + 1) k) (fun k m a b i H => rfl) (fun a b H k => AlG (n + 1) a b H k) l (fun x hx => Aff n hn _ x (by have := M8 (wt := H6) hx; omega)) (by omega) (by omega) tb
theorem AeM (n : Nat) (hn : 1048576 < n) (ty : Nat) (l : List WantV) (hmax : l.length ≤ 9223372036854775807) (hok : ∀ x ∈ l, Wn x) (left : Int) (h0 : 0 ≤ left) (h1 : left ≤ 1048576) : Bz E0 (n + 2) ty 120 [Ci Bn l, .sc (.int .i64 left)] = some (.sc (.int .i64 (Jd (Y3 H6 l) left))) :=
 AaZ (n := n + 1) Bn H6 Gf (by decide) Nc rfl (fun k => R3 (PR (n + 1) AV) (n + 1) k) (fun k m a l i H => rfl) (fun a b H k => Ai6 (n + 1) a b H k) l (fun x hx left h0 h1 => AhC n hn _ x (hok x hx) left h0 h1) hmax (by omega) left h0 h1 ty
structure PacketV where
 fType : Int
 fDup : Bool
 fQos : Int
 fRetain : Bool
 fId : Int
 fTopic : ByteArray
 fBody : ByteArray
 fClient : ByteArray
 fLevel : Int
 fClean : Bool
 fKeep : Int
 fHasWill : Bool
 fWTopic : ByteArray
 fWBody : ByteArray
 fWQos : Int
 fWRetain : Bool
 fHasUser : Bool
 fUser : ByteArray
 fHasPass : Bool
 fPass : ByteArray
 fCode : Int
 fPresent : Bool
 fWants : List WantV
 fNames : List ByteArray
 fCodes : List Int
def Ap (x : PacketV) : List AV := .sc (.int .i64 x.fType) :: .sc (.bool x.fDup) :: .sc (.int .i64 x.fQos) :: .sc (.bool x.fRetain) :: .sc (.int .i64 x.fId) :: .sc (.string x.fTopic) :: Af x.fBody :: .sc (.string x.fClient) :: .sc (.int .i64 x.fLevel) :: .sc (.bool x.fClean) :: .sc (.int .i64 x.fKeep) :: .sc (.bool x.fHasWill) :: .sc (.string x.fWTopic) :: Af x.fWBody :: .sc (.int .i64 x.fWQos) :: .sc (.bool x.fWRetain) :: .sc (.bool x.fHasUser) :: .sc (.string x.fUser) :: .sc (.bool x.fHasPass) :: Af x.fPass :: .sc (.int .i64 x.fCode) :: .sc (.bool x.fPresent) :: Ci Bn x.fWants :: Ee x.fNames :: Ei x.fCodes :: []
def Db (x : PacketV) : Nat := x.fTopic.size + (x.fBody.size + (x.fClient.size + (x.fWTopic.size + (x.fWBody.size + (x.fUser.size + (x.fPass.size + (Y3 H6 x.fWants + (Y3 zaJ x.fNames + (x.fCodes.length + 0)))))))))
def P2 (x : PacketV) : Prop := Xu x.fType ∧ True ∧ Xu x.fQos ∧ True ∧ Xu x.fId ∧ Sq x.fTopic ∧ Sq x.fBody ∧ Sq x.fClient ∧ Xu x.fLevel ∧ True ∧ Xu x.fKeep ∧ True ∧ Sq x.fWTopic ∧ Sq x.fWBody ∧ Xu x.fWQos ∧ True ∧ True ∧ Sq x.fUser ∧ True ∧ Sq x.fPass ∧ Xu x.fCode ∧ True ∧ (x.fWants.length ≤ 9223372036854775807 ∧ ∀ z ∈ x.fWants, Wn z) ∧ (x.fNames.length ≤ 9223372036854775807 ∧ ∀ z ∈ x.fNames, Sq z) ∧ (x.fCodes.length ≤ 9223372036854775807 ∧ ∀ z ∈ x.fCodes, Xu z)
theorem Ji (x : PacketV) : (Ap x).length = 25 := rfl
theorem Cf (x : PacketV) : (Ap x).all Ja = true := rfl
def L4 : List Nat := [3, 4, 3, 4, 3, 9, 22, 9, 3, 4, 3, 4, 9, 22, 3, 4, 4, 9, 4, 22, 3, 4, 55, 56, 57]
theorem Abg : ∃ i, As 59 = some i ∧ i.cty = L4 := ⟨_, rfl, rfl⟩
theorem Tn (d : Nat) (x : PacketV) : Hj (I0 As E0.tp (d + 2)) L4 (Ap x) := ⟨trivial, ⟨trivial, ⟨trivial, ⟨trivial, ⟨trivial, ⟨trivial, ⟨Kn (d := d + 0) M7 x.fBody, ⟨trivial, ⟨trivial, ⟨trivial, ⟨trivial, ⟨trivial, ⟨trivial, ⟨Kn (d := d + 0) M7 x.fWBody, ⟨trivial, ⟨trivial, ⟨trivial, ⟨trivial, ⟨trivial, ⟨Kn (d := d + 0) M7 x.fPass, ⟨trivial, ⟨trivial, ⟨Wm (d := d + 1) Gf Ade (Uz (d + 0)) x.fWants, ⟨P4 (d := d + 0) (fun s : ByteArray => .string s) Tx x.fNames, ⟨P4 (d := d + 0) (fun z : Int => .int .i64 z) Acl x.fCodes, trivial⟩⟩⟩⟩⟩⟩⟩⟩⟩⟩⟩⟩⟩⟩⟩⟩⟩⟩⟩⟩⟩⟩⟩⟩⟩
theorem Aca {n : Nat} {cs : List AV} (h : Ux As n 102 cs) : ∃ x : PacketV, cs = Ap x ∧ P2 x := by
 obtain ⟨m, hf⟩ := Mn (fs := [(0, 3), (1, 4), (2, 3), (3, 4), (4, 3), (5, 9), (6, 22), (7, 9), (8, 3), (9, 4), (10, 3), (11, 4), (12, 9), (13, 22), (14, 3), (15, 4), (16, 4), (17, 9), (18, 4), (19, 22), (20, 3), (21, 4), (22, 100), (23, 56), (24, 57)]) ⟨_, rfl, rfl, rfl, rfl, rfl, rfl, rfl⟩ h
 obtain ⟨a0, b0, rfl, h0, hf⟩ := hf
 obtain ⟨v0, rfl, k0⟩ := G4 h0
 obtain ⟨a1, b1, rfl, h1, hf⟩ := hf
 obtain ⟨v1, rfl⟩ := F3 h1
 obtain ⟨a2, b2, rfl, h2, hf⟩ := hf
 obtain ⟨v2, rfl, k2⟩ := G4 h2
 obtain ⟨a3, b3, rfl, h3, hf⟩ := hf
 obtain ⟨v3, rfl⟩ := F3 h3
 obtain ⟨a4, b4, rfl, h4, hf⟩ := hf
 obtain ⟨v4, rfl, k4⟩ := G4 h4
 obtain ⟨a5, b5, rfl, h5, hf⟩ := hf
 obtain ⟨v5, rfl, k5⟩ := K0 h5
 obtain ⟨a6, b6, rfl, h6, hf⟩ := hf
 obtain ⟨v6, rfl, k6⟩ := Km ⟨_, rfl, rfl, rfl, rfl, rfl, rfl⟩ h6
 obtain ⟨a7, b7, rfl, h7, hf⟩ := hf
 obtain ⟨v7, rfl, k7⟩ := K0 h7
 obtain ⟨a8, b8, rfl, h8, hf⟩ := hf
 obtain ⟨v8, rfl, k8⟩ := G4 h8
 obtain ⟨a9, b9, rfl, h9, hf⟩ := hf
 obtain ⟨v9, rfl⟩ := F3 h9
 obtain ⟨a10, b10, rfl, h10, hf⟩ := hf
 obtain ⟨v10, rfl, k10⟩ := G4 h10
 obtain ⟨a11, b11, rfl, h11, hf⟩ := hf
 obtain ⟨v11, rfl⟩ := F3 h11
 obtain ⟨a12, b12, rfl, h12, hf⟩ := hf
 obtain ⟨v12, rfl, k12⟩ := K0 h12
 obtain ⟨a13, b13, rfl, h13, hf⟩ := hf
 obtain ⟨v13, rfl, k13⟩ := Km ⟨_, rfl, rfl, rfl, rfl, rfl, rfl⟩ h13
 obtain ⟨a14, b14, rfl, h14, hf⟩ := hf
 obtain ⟨v14, rfl, k14⟩ := G4 h14
 obtain ⟨a15, b15, rfl, h15, hf⟩ := hf
 obtain ⟨v15, rfl⟩ := F3 h15
 obtain ⟨a16, b16, rfl, h16, hf⟩ := hf
 obtain ⟨v16, rfl⟩ := F3 h16
 obtain ⟨a17, b17, rfl, h17, hf⟩ := hf
 obtain ⟨v17, rfl, k17⟩ := K0 h17
 obtain ⟨a18, b18, rfl, h18, hf⟩ := hf
 obtain ⟨v18, rfl⟩ := F3 h18
 obtain ⟨a19, b19, rfl, h19, hf⟩ := hf
 obtain ⟨v19, rfl, k19⟩ := Km ⟨_, rfl, rfl, rfl, rfl, rfl, rfl⟩ h19
 obtain ⟨a20, b20, rfl, h20, hf⟩ := hf
 obtain ⟨v20, rfl, k20⟩ := G4 h20
 obtain ⟨a21, b21, rfl, h21, hf⟩ := hf
 obtain ⟨v21, rfl⟩ := F3 h21
 obtain ⟨a22, b22, rfl, h22, hf⟩ := hf
 obtain ⟨v22, rfl, k22⟩ := P3 (ok := Wn) ⟨_, rfl, rfl, rfl, rfl, rfl, rfl⟩ (fun n cs h => Ahl h) h22
 obtain ⟨a23, b23, rfl, h23, hf⟩ := hf
 obtain ⟨v23, rfl, k23⟩ := AeD ⟨_, rfl, rfl, rfl, rfl, rfl, rfl⟩ h23
 obtain ⟨a24, b24, rfl, h24, hf⟩ := hf
 obtain ⟨v24, rfl, k24⟩ := AeC ⟨_, rfl, rfl, rfl, rfl, rfl, rfl⟩ h24
 subst hf
 exact ⟨⟨v0, v1, v2, v3, v4, v5, v6, v7, v8, v9, v10, v11, v12, v13, v14, v15, v16, v17, v18, v19, v20, v21, v22, v23, v24⟩, rfl, k0, trivial, k2, trivial, k4, k5, k6, k7, k8, trivial, k10, trivial, k12, k13, k14, trivial, trivial, k17, trivial, k19, k20, trivial, k22, k23, k24⟩
theorem Yz : ∃ i j, As 33 = some i ∧ As i.elem = some j ∧ j.size = 25 ∧ j.cty = L4 := ⟨_, _, rfl, rfl, rfl, rfl⟩
def AhU : List AV := [(.sc (.int .i64 0)), (.sc (.bool false)), (.sc (.int .i64 0)), (.sc (.bool false)), (.sc (.int .i64 0)), (.sc (.string ⟨#[]⟩)), .nl, (.sc (.string ⟨#[]⟩)), (.sc (.int .i64 0)), (.sc (.bool false)), (.sc (.int .i64 0)), (.sc (.bool false)), (.sc (.string ⟨#[]⟩)), .nl, (.sc (.int .i64 0)), (.sc (.bool false)), (.sc (.bool false)), (.sc (.string ⟨#[]⟩)), (.sc (.bool false)), .nl, (.sc (.int .i64 0)), (.sc (.bool false)), .nl, .nl, .nl]
set_option maxHeartbeats 32000000 in
theorem Acj (n : Nat) (hn : 1048576 < n) (x : PacketV) (h : Db x ≤ 1048576) : Bz E0 (n + 3) 59 85 [.agg (Ap x)] = some (.agg (Ap x)) := by
 rw [At, AlQ, f85]
 simp only [Fl, H9, Eb, Dp, Fx, Sy]
 rw [Gt _ _ _ (Cf x)]
 simp only [zao, zag, zal, zau, zav, zaR]
 refine F9 (T := L4) (C := Ap x) (Z := AhU) (v := .int .i64 x.fType) (o' := 1) rfl rfl rfl rfl rfl ?_
 refine F9 (v := .bool x.fDup) (o' := 2) rfl rfl rfl rfl rfl ?_
 refine F9 (v := .int .i64 x.fQos) (o' := 3) rfl rfl rfl rfl rfl ?_
 refine F9 (v := .bool x.fRetain) (o' := 4) rfl rfl rfl rfl rfl ?_
 refine F9 (v := .int .i64 x.fId) (o' := 5) rfl rfl rfl rfl rfl ?_
 refine F9 (v := .string x.fTopic) (o' := 6) rfl rfl rfl rfl rfl ?_
 refine Ra (o' := 7) rfl rfl rfl rfl rfl (Mc (n + 1) (by omega) x.fBody (by unfold Db at h; omega)) rfl ?_
 refine F9 (v := .string x.fClient) (o' := 8) rfl rfl rfl rfl rfl ?_
 refine F9 (v := .int .i64 x.fLevel) (o' := 9) rfl rfl rfl rfl rfl ?_
 refine F9 (v := .bool x.fClean) (o' := 10) rfl rfl rfl rfl rfl ?_
 refine F9 (v := .int .i64 x.fKeep) (o' := 11) rfl rfl rfl rfl rfl ?_
 refine F9 (v := .bool x.fHasWill) (o' := 12) rfl rfl rfl rfl rfl ?_
 refine F9 (v := .string x.fWTopic) (o' := 13) rfl rfl rfl rfl rfl ?_
 refine Ra (o' := 14) rfl rfl rfl rfl rfl (Mc (n + 1) (by omega) x.fWBody (by unfold Db at h; omega)) rfl ?_
 refine F9 (v := .int .i64 x.fWQos) (o' := 15) rfl rfl rfl rfl rfl ?_
 refine F9 (v := .bool x.fWRetain) (o' := 16) rfl rfl rfl rfl rfl ?_
 refine F9 (v := .bool x.fHasUser) (o' := 17) rfl rfl rfl rfl rfl ?_
 refine F9 (v := .string x.fUser) (o' := 18) rfl rfl rfl rfl rfl ?_
 refine F9 (v := .bool x.fHasPass) (o' := 19) rfl rfl rfl rfl rfl ?_
 refine Ra (o' := 20) rfl rfl rfl rfl rfl (Mc (n + 1) (by omega) x.fPass (by unfold Db at h; omega)) rfl ?_
 refine F9 (v := .int .i64 x.fCode) (o' := 21) rfl rfl rfl rfl rfl ?_
 refine F9 (v := .bool x.fPresent) (o' := 22) rfl rfl rfl rfl rfl ?_
 refine Ra (o' := 23) rfl rfl rfl rfl rfl (AeO (n + 0) (by omega) x.fWants (by unfold Db at h; omega)) rfl ?_
 refine Ra (o' := 24) rfl rfl rfl rfl rfl (Abd (n + 1) (by omega) x.fNames (by unfold Db at h; have := J3 zaJ x.fNames; omega)) rfl ?_
 refine Ra (o' := 25) rfl rfl rfl rfl rfl (AhH (n + 1) (by omega) x.fCodes (by unfold Db at h; omega)) rfl ?_
 exact W9 rfl rfl rfl (Cf x) Abg (Tn 5 x)
theorem Aby (n : Nat) (hn : 1048576 < n) (tb : Nat) (x : PacketV) (h : Db x ≤ 1048576) : Bz E0 (n + 3) tb 34 [.agg (Ap x), .agg (Ap x)] = some (.sc (.bool true)) := by
 rw [At, Alu, f34]
 simp only [Fl, Eb, Dp, Dl, Gn, Ld, Cx]
 rw [Gt _ _ _ (Cf x), Gt _ _ _ (Cf x)]
 simp only [zao, zag, zal, zau, zav, zaR]
 refine Jo (v := .int .i64 x.fType) rfl rfl (fun k => Kl _ k) ?_
 refine R2 (b := x.fDup) rfl rfl ?_
 refine Jo (v := .int .i64 x.fQos) rfl rfl (fun k => Kl _ k) ?_
 refine R2 (b := x.fRetain) rfl rfl ?_
 refine Jo (v := .int .i64 x.fId) rfl rfl (fun k => Kl _ k) ?_
 refine Jo (v := .string x.fTopic) rfl rfl (fun k => P1 _ k) ?_
 refine Q1 rfl rfl rfl (L5 (n + 1) (by omega) _ x.fBody (by unfold Db at h; omega)) ?_
 refine Jo (v := .string x.fClient) rfl rfl (fun k => P1 _ k) ?_
 refine Jo (v := .int .i64 x.fLevel) rfl rfl (fun k => Kl _ k) ?_
 refine R2 (b := x.fClean) rfl rfl ?_
 refine Jo (v := .int .i64 x.fKeep) rfl rfl (fun k => Kl _ k) ?_
 refine R2 (b := x.fHasWill) rfl rfl ?_
 refine Jo (v := .string x.fWTopic) rfl rfl (fun k => P1 _ k) ?_
 refine Q1 rfl rfl rfl (L5 (n + 1) (by omega) _ x.fWBody (by unfold Db at h; omega)) ?_
 refine Jo (v := .int .i64 x.fWQos) rfl rfl (fun k => Kl _ k) ?_
 refine R2 (b := x.fWRetain) rfl rfl ?_
 refine R2 (b := x.fHasUser) rfl rfl ?_
 refine Jo (v := .string x.fUser) rfl rfl (fun k => P1 _ k) ?_
 refine R2 (b := x.fHasPass) rfl rfl ?_
 refine Q1 rfl rfl rfl (L5 (n + 1) (by omega) _ x.fPass (by unfold Db at h; omega)) ?_
 refine Jo (v := .int .i64 x.fCode) rfl rfl (fun k => Kl _ k) ?_
 refine R2 (b := x.fPresent) rfl rfl ?_
 refine Q1 rfl rfl rfl (Adt (n + 0) (by omega) _ x.fWants (by unfold Db at h; omega)) ?_
 refine Q1 rfl rfl rfl (Aaw (n + 1) (by omega) _ x.fNames (by unfold Db at h; have := J3 zaJ x.fNames; omega)) ?_
 refine Q1 rfl rfl rfl (Afe (n + 1) (by omega) _ x.fCodes (by unfold Db at h; omega)) ?_
 rfl
theorem Aci (n : Nat) (hn : 1048576 < n) (ty : Nat) (x : PacketV) (hx : P2 x) (left : Int) (h0 : 0 ≤ left) (h1 : left ≤ 1048576) : Bz E0 (n + 3) ty 84 [.agg (Ap x), .sc (.int .i64 left)] = Xo (Db x) left := by
 obtain ⟨_, _, _, _, _, k5, k6, k7, _, _, _, _, k12, k13, _, _, _, k17, _, k19, _, _, k22, k23, k24⟩ := hx
 unfold Db
 rw [At, AlP, f84]
 simp only [Fl, Eb, Dp, Fj, Dl, Cx]
 rw [Gt _ _ _ (Cf x)]
 simp only [zao, zag, zal, zau, zav, zaR]
 refine Rt (s := x.fTopic) rfl h0 h1 k5 rfl fun h0 h1 => ?_
 refine Rb rfl h0 h1 rfl (Mb (n + 1) _ x.fBody k6 _ h0 h1) rfl fun h0 h1 => ?_
 refine Rt (s := x.fClient) rfl h0 h1 k7 rfl fun h0 h1 => ?_
 refine Rt (s := x.fWTopic) rfl h0 h1 k12 rfl fun h0 h1 => ?_
 refine Rb rfl h0 h1 rfl (Mb (n + 1) _ x.fWBody k13 _ h0 h1) rfl fun h0 h1 => ?_
 refine Rt (s := x.fUser) rfl h0 h1 k17 rfl fun h0 h1 => ?_
 refine Rb rfl h0 h1 rfl (Mb (n + 1) _ x.fPass k19 _ h0 h1) rfl fun h0 h1 => ?_
 refine Rb rfl h0 h1 rfl (AeM (n + 0) (by omega) _ x.fWants k22.1 k22.2 _ h0 h1) rfl fun h0 h1 => ?_
 refine Rb rfl h0 h1 rfl (AaY (n + 1) (by omega) _ x.fNames k23.1 k23.2 _ h0 h1) rfl fun h0 h1 => ?_
 refine Rb rfl h0 h1 rfl (AhB (n + 1) _ x.fCodes k24.1 _ h0 h1) rfl fun h0 h1 => ?_
 exact Xb h0
theorem Abc (n : Nat) (hn : 1048576 < n) (l : List PacketV) (h : Y3 Db l ≤ 1048576) : Bz E0 (n + 4) 33 48 [Ci Ap l] = some (Ci Ap l) := by
 have e := J3 Db l
 exact Abe (n := n + 3) (w := 25) (bytes := 320) (cty := L4) Ap [(.sc (.int .i64 0)), (.sc (.bool false)), (.sc (.int .i64 0)), (.sc (.bool false)), (.sc (.int .i64 0)), (.sc (.string ⟨#[]⟩)), .nl, (.sc (.string ⟨#[]⟩)), (.sc (.int .i64 0)), (.sc (.bool false)), (.sc (.int .i64 0)), (.sc (.bool false)), (.sc (.string ⟨#[]⟩)), .nl, (.sc (.int .i64 0)), (.sc (.bool false)), (.sc (.bool false)), (.sc (.string ⟨#[]⟩)), (.sc (.bool false)), .nl, (.sc (.int .i64 0)), (.sc (.bool false)), .nl, .nl, .nl] rfl Ji rfl (by decide) Yz Abg Cf rfl (fun k => Vu (PR (n + 3) AV) (n + 3) k) (fun k m a o i H => rfl) (fun a H k => Al1 (n + 3) a H k) (by decide) l (fun x hx => Acj n hn x (by have := M8 (wt := Db) hx; omega)) (fun x _ => Tn 5 x) (by omega) (by omega)
theorem Aav (n : Nat) (hn : 1048576 < n) (tb : Nat) (l : List PacketV) (h : Y3 Db l ≤ 1048576) : Bz E0 (n + 4) tb 22 [Ci Ap l, Ci Ap l] = some (.sc (.bool true)) := by
 have e := J3 Db l
 exact Aax (n := n + 3) Ap Ji (by decide) Cf rfl (fun k => Vq (PR (n + 3) AV) (n + 3) k) (fun k m a b i H => rfl) (fun a b H k => Alo (n + 3) a b H k) l (fun x hx => Aby n hn _ x (by have := M8 (wt := Db) hx; omega)) (by omega) (by omega) tb
theorem AaX (n : Nat) (hn : 1048576 < n) (ty : Nat) (l : List PacketV) (hmax : l.length ≤ 9223372036854775807) (hok : ∀ x ∈ l, P2 x) (left : Int) (h0 : 0 ≤ left) (h1 : left ≤ 1048576) : Bz E0 (n + 4) ty 45 [Ci Ap l, .sc (.int .i64 left)] = some (.sc (.int .i64 (Jd (Y3 Db l) left))) :=
 AaZ (n := n + 3) Ap Db Ji (by decide) Cf rfl (fun k => Vt (PR (n + 3) AV) (n + 3) k) (fun k m a l i H => rfl) (fun a b H k => Aly (n + 3) a b H k) l (fun x hx left h0 h1 => Aci n hn _ x (hok x hx) left h0 h1) hmax (by omega) left h0 h1 ty
structure Ta where
 fHeld : ByteArray
 fBad : Bool
def Ic (x : Ta) : List AV := Af x.fHeld :: .sc (.bool x.fBad) :: []
def Un (x : Ta) : Nat := x.fHeld.size + 0
def Ahh (x : Ta) : Prop := Sq x.fHeld ∧ True
theorem O4 (x : Ta) : (Ic x).all Ja = true := rfl
def Vf : List Nat := [22, 4]
theorem AkK : ∃ i, As 32 = some i ∧ i.cty = Vf := ⟨_, rfl, rfl⟩
theorem Ahm (d : Nat) (x : Ta) : Hj (I0 As E0.tp (d + 2)) Vf (Ic x) := ⟨Kn (d := d + 0) M7 x.fHeld, ⟨trivial, trivial⟩⟩
theorem AjF {n : Nat} {cs : List AV} (h : Ux As n 24 cs) : ∃ x : Ta, cs = Ic x ∧ Ahh x := by
 obtain ⟨m, hf⟩ := Mn (fs := [(0, 22), (1, 4)]) ⟨_, rfl, rfl, rfl, rfl, rfl, rfl, rfl⟩ h
 obtain ⟨a0, b0, rfl, h0, hf⟩ := hf
 obtain ⟨v0, rfl, k0⟩ := Km ⟨_, rfl, rfl, rfl, rfl, rfl, rfl⟩ h0
 obtain ⟨a1, b1, rfl, h1, hf⟩ := hf
 obtain ⟨v1, rfl⟩ := F3 h1
 subst hf
 exact ⟨⟨v0, v1⟩, rfl, k0, trivial⟩
def AnS : List AV := [.nl, (.sc (.bool false))]
theorem Akb (n : Nat) (hn : 1048576 < n) (x : Ta) (h : Un x ≤ 1048576) : Bz E0 (n + 2) 32 18 [.agg (Ic x)] = some (.agg (Ic x)) := by
 rw [At, Alm, f18]
 simp only [Fl, H9, Eb, Dp, Fx, Sy]
 rw [Gt _ _ _ (O4 x)]
 simp only [zao, zag, zal, zau, zav, zaR]
 refine Ra (T := Vf) (C := Ic x) (Z := AnS) (o' := 1) rfl rfl rfl rfl rfl (Mc (n + 0) (by omega) x.fHeld (by unfold Un at h; omega)) rfl ?_
 refine F9 (v := .bool x.fBad) (o' := 2) rfl rfl rfl rfl rfl ?_
 exact W9 rfl rfl rfl (O4 x) AkK (Ahm 5 x)
theorem Ail (n : Nat) (hn : 1048576 < n) (tb : Nat) (x : Ta) (h : Un x ≤ 1048576) : Bz E0 (n + 2) tb 21 [.agg (Ic x), .agg (Ic x)] = some (.sc (.bool true)) := by
 rw [At, Aln, f21]
 simp only [Fl, Eb, Dp, Dl, Gn, Ld, Cx]
 rw [Gt _ _ _ (O4 x), Gt _ _ _ (O4 x)]
 simp only [zao, zag, zal, zau, zav, zaR]
 refine Q1 rfl rfl rfl (L5 (n + 0) (by omega) _ x.fHeld (by unfold Un at h; omega)) ?_
 refine R2 (b := x.fBad) rfl rfl ?_
 rfl
theorem AjZ (n : Nat) (hn : 1048576 < n) (ty : Nat) (x : Ta) (hx : Ahh x) (left : Int) (h0 : 0 ≤ left) (h1 : left ≤ 1048576) : Bz E0 (n + 2) ty 15 [.agg (Ic x), .sc (.int .i64 left)] = Xo (Un x) left := by
 obtain ⟨k0, _⟩ := hx
 unfold Un
 rw [At, All, f15]
 simp only [Fl, Eb, Dp, Fj, Dl, Cx]
 rw [Gt _ _ _ (O4 x)]
 simp only [zao, zag, zal, zau, zav, zaR]
 refine Rb rfl h0 h1 rfl (Mb (n + 0) _ x.fHeld k0 _ h0 h1) rfl fun h0 h1 => ?_
 exact Xb h0
structure Gs where
 fOpen : Bool
 fGen : Int
 fB : Ta
 fPend : List PacketV
 fUp : Bool
 fClient : ByteArray
 fKeep : Int
 fLast : Int
 fHasWill : Bool
 fW : Nm
 fGone : Bool
 fOut : ByteArray
def Fs (x : Gs) : List AV := .sc (.bool x.fOpen) :: .sc (.int .i64 x.fGen) :: (Ic x.fB ++ Ci Ap x.fPend :: .sc (.bool x.fUp) :: .sc (.string x.fClient) :: .sc (.int .i64 x.fKeep) :: .sc (.int .i64 x.fLast) :: .sc (.bool x.fHasWill) :: (Fn x.fW ++ .sc (.bool x.fGone) :: Af x.fOut :: []))
def Iy (x : Gs) : Nat := Un x.fB + (Y3 Db x.fPend + (x.fClient.size + (Uo x.fW + (x.fOut.size + 0))))
def Wk (x : Gs) : Prop := True ∧ Xu x.fGen ∧ Ahh x.fB ∧ (x.fPend.length ≤ 9223372036854775807 ∧ ∀ z ∈ x.fPend, P2 z) ∧ True ∧ Sq x.fClient ∧ Xu x.fKeep ∧ Xu x.fLast ∧ True ∧ Ahj x.fW ∧ True ∧ Sq x.fOut
theorem Ov (x : Gs) : (Fs x).length = 16 := rfl
theorem Ge (x : Gs) : (Fs x).all Ja = true := rfl
def Zb : List Nat := [4, 3, 22, 4, 33, 4, 9, 3, 3, 4, 9, 22, 3, 4, 4, 22]
theorem Z8 : ∃ i, As 36 = some i ∧ i.cty = Zb := ⟨_, rfl, rfl⟩
theorem Uy (d : Nat) (x : Gs) : Hj (I0 As E0.tp (d + 3)) Zb (Fs x) := ⟨trivial, ⟨trivial, Kz (ts := Vf) (ts' := [33, 4, 9, 3, 3, 4, 9, 22, 3, 4, 4, 22]) (Ahm (d + 1) x.fB) ⟨Wm (d := d + 2) Ji Yz (Tn (d + 0)) x.fPend, ⟨trivial, ⟨trivial, ⟨trivial, ⟨trivial, ⟨trivial, Kz (ts := Vg) (ts' := [4, 22]) (Ahn (d + 1) x.fW) ⟨trivial, ⟨Kn (d := d + 1) M7 x.fOut, trivial⟩⟩⟩⟩⟩⟩⟩⟩⟩⟩
theorem Ahk {n : Nat} {cs : List AV} (h : Ux As n 29 cs) : ∃ x : Gs, cs = Fs x ∧ Wk x := by
 obtain ⟨m, hf⟩ := Mn (fs := [(0, 4), (1, 3), (2, 24), (4, 25), (5, 4), (6, 9), (7, 3), (8, 3), (9, 4), (10, 27), (14, 4), (15, 22)]) ⟨_, rfl, rfl, rfl, rfl, rfl, rfl, rfl⟩ h
 obtain ⟨a0, b0, rfl, h0, hf⟩ := hf
 obtain ⟨v0, rfl⟩ := F3 h0
 obtain ⟨a1, b1, rfl, h1, hf⟩ := hf
 obtain ⟨v1, rfl, k1⟩ := G4 h1
 obtain ⟨a2, b2, rfl, h2, hf⟩ := hf
 obtain ⟨v2, rfl, k2⟩ := AjF h2
 obtain ⟨a3, b3, rfl, h3, hf⟩ := hf
 obtain ⟨v3, rfl, k3⟩ := P3 (ok := P2) ⟨_, rfl, rfl, rfl, rfl, rfl, rfl⟩ (fun n cs h => Aca h) h3
 obtain ⟨a4, b4, rfl, h4, hf⟩ := hf
 obtain ⟨v4, rfl⟩ := F3 h4
 obtain ⟨a5, b5, rfl, h5, hf⟩ := hf
 obtain ⟨v5, rfl, k5⟩ := K0 h5
 obtain ⟨a6, b6, rfl, h6, hf⟩ := hf
 obtain ⟨v6, rfl, k6⟩ := G4 h6
 obtain ⟨a7, b7, rfl, h7, hf⟩ := hf
 obtain ⟨v7, rfl, k7⟩ := G4 h7
 obtain ⟨a8, b8, rfl, h8, hf⟩ := hf
 obtain ⟨v8, rfl⟩ := F3 h8
 obtain ⟨a9, b9, rfl, h9, hf⟩ := hf
 obtain ⟨v9, rfl, k9⟩ := AjG h9
 obtain ⟨a10, b10, rfl, h10, hf⟩ := hf
 obtain ⟨v10, rfl⟩ := F3 h10
 obtain ⟨a11, b11, rfl, h11, hf⟩ := hf
 obtain ⟨v11, rfl, k11⟩ := Km ⟨_, rfl, rfl, rfl, rfl, rfl, rfl⟩ h11
 subst hf
 exact ⟨⟨v0, v1, v2, v3, v4, v5, v6, v7, v8, v9, v10, v11⟩, rfl, trivial, k1, k2, k3, trivial, k5, k6, k7, trivial, k9, trivial, k11⟩
def AmC : List AV := [(.sc (.bool false)), (.sc (.int .i64 0)), .nl, (.sc (.bool false)), .nl, (.sc (.bool false)), (.sc (.string ⟨#[]⟩)), (.sc (.int .i64 0)), (.sc (.int .i64 0)), (.sc (.bool false)), (.sc (.string ⟨#[]⟩)), .nl, (.sc (.int .i64 0)), (.sc (.bool false)), (.sc (.bool false)), .nl]
set_option maxHeartbeats 32000000 in
theorem Xc (n : Nat) (hn : 1048576 < n) (x : Gs) (h : Iy x ≤ 1048576) : Bz E0 (n + 5) 36 12 [.agg (Fs x)] = some (.agg (Fs x)) := by
 rw [At, Ali, f12]
 simp only [Fl, H9, Eb, Dp, Fx, Sy]
 rw [Gt _ _ _ (Ge x)]
 simp only [zao, zag, zal, zau, zav, zaR]
 refine F9 (T := Zb) (C := Fs x) (Z := AmC) (v := .bool x.fOpen) (o' := 1) rfl rfl rfl rfl rfl ?_
 refine F9 (v := .int .i64 x.fGen) (o' := 2) rfl rfl rfl rfl rfl ?_
 refine Ah9 (cty := Vf) (cells := Ic x.fB) (o' := 4) rfl rfl rfl rfl rfl (O4 _) (Akb (n + 2) (by omega) x.fB (by unfold Iy at h; omega)) AkK rfl (by decide) rfl ?_
 refine Ra (o' := 5) rfl rfl rfl rfl rfl (Abc (n + 0) (by omega) x.fPend (by unfold Iy at h; omega)) rfl ?_
 refine F9 (v := .bool x.fUp) (o' := 6) rfl rfl rfl rfl rfl ?_
 refine F9 (v := .string x.fClient) (o' := 7) rfl rfl rfl rfl rfl ?_
 refine F9 (v := .int .i64 x.fKeep) (o' := 8) rfl rfl rfl rfl rfl ?_
 refine F9 (v := .int .i64 x.fLast) (o' := 9) rfl rfl rfl rfl rfl ?_
 refine F9 (v := .bool x.fHasWill) (o' := 10) rfl rfl rfl rfl rfl ?_
 refine Ah9 (cty := Vg) (cells := Fn x.fW) (o' := 14) rfl rfl rfl rfl rfl (Jg _) (Akc (n + 2) (by omega) x.fW (by unfold Iy at h; omega)) AkL rfl (by decide) rfl ?_
 refine F9 (v := .bool x.fGone) (o' := 15) rfl rfl rfl rfl rfl ?_
 refine Ra (o' := 16) rfl rfl rfl rfl rfl (Mc (n + 3) (by omega) x.fOut (by unfold Iy at h; omega)) rfl ?_
 exact W9 rfl rfl rfl (Ge x) Z8 (Uy 4 x)
theorem Afd (n : Nat) (hn : 1048576 < n) (tb : Nat) (x : Gs) (h : Iy x ≤ 1048576) : Bz E0 (n + 5) tb 14 [.agg (Fs x), .agg (Fs x)] = some (.sc (.bool true)) := by
 rw [At, Alk, f14]
 simp only [Fl, Eb, Dp, Dl, Gn, Ld, Cx]
 rw [Gt _ _ _ (Ge x), Gt _ _ _ (Ge x)]
 simp only [zao, zag, zal, zau, zav, zaR]
 refine R2 (b := x.fOpen) rfl rfl ?_
 refine Jo (v := .int .i64 x.fGen) rfl rfl (fun k => Kl _ k) ?_
 refine Afg (cells := Ic x.fB) rfl rfl rfl (O4 _) (Ail (n + 2) (by omega) _ x.fB (by unfold Iy at h; omega)) ?_
 refine Q1 rfl rfl rfl (Aav (n + 0) (by omega) _ x.fPend (by unfold Iy at h; omega)) ?_
 refine R2 (b := x.fUp) rfl rfl ?_
 refine Jo (v := .string x.fClient) rfl rfl (fun k => P1 _ k) ?_
 refine Jo (v := .int .i64 x.fKeep) rfl rfl (fun k => Kl _ k) ?_
 refine Jo (v := .int .i64 x.fLast) rfl rfl (fun k => Kl _ k) ?_
 refine R2 (b := x.fHasWill) rfl rfl ?_
 refine Afg (cells := Fn x.fW) rfl rfl rfl (Jg _) (Aim (n + 2) (by omega) _ x.fW (by unfold Iy at h; omega)) ?_
 refine R2 (b := x.fGone) rfl rfl ?_
 refine Q1 rfl rfl rfl (L5 (n + 3) (by omega) _ x.fOut (by unfold Iy at h; omega)) ?_
 rfl
theorem AhA (n : Nat) (hn : 1048576 < n) (ty : Nat) (x : Gs) (hx : Wk x) (left : Int) (h0 : 0 ≤ left) (h1 : left ≤ 1048576) : Bz E0 (n + 5) ty 10 [.agg (Fs x), .sc (.int .i64 left)] = Xo (Iy x) left := by
 obtain ⟨_, _, k2, k3, _, k5, _, _, _, k9, _, k11⟩ := hx
 unfold Iy
 rw [At, Alg, f10]
 simp only [Fl, Eb, Dp, Fj, Dl, Cx]
 rw [Gt _ _ _ (Ge x)]
 simp only [zao, zag, zal, zau, zav, zaR]
 refine AhD (cells := Ic x.fB) rfl h0 h1 rfl (O4 _) (AjZ (n + 2) (by omega) _ x.fB k2 _ h0 h1) rfl fun h0 h1 => ?_
 refine Rb rfl h0 h1 rfl (AaX (n + 0) (by omega) _ x.fPend k3.1 k3.2 _ h0 h1) rfl fun h0 h1 => ?_
 refine Rt (s := x.fClient) rfl h0 h1 k5 rfl fun h0 h1 => ?_
 refine AhD (cells := Fn x.fW) rfl h0 h1 rfl (Jg _) (Aka (n + 2) (by omega) _ x.fW k9 _ h0 h1) rfl fun h0 h1 => ?_
 refine Rb rfl h0 h1 rfl (Mb (n + 3) _ x.fOut k11 _ h0 h1) rfl fun h0 h1 => ?_
 exact Xb h0
end
section
open Go
variable {β : Type} {n : Nat} {H : Ac} {r : Option β}
theorem I2 : ([] : List AV).mapM (Dt H 8) = some [] := rfl
theorem Ds {x v : AV} {xs vs : List AV} (h : Vw H x v) (hs : xs.mapM (Dt H 8) = some vs) : (x :: xs).mapM (Dt H 8) = some (v :: vs) := by
 simp only [za4, h.now, hs, zbd, zaO, zac]
theorem Mf {i : Nat} {b : J4} (h : H[i]? = some b) (X : List J4) : (H ++ X)[i]? = some b := by
 rw [zam (zad.1 h).1]
 exact h
theorem Amq {cs : List AV} {K : KO β} (hf : cs.all Ja = true) (h : ∀ i, (H ++ [⟨cs, true, true⟩])[i]? = some ⟨cs, true, true⟩ → K (.ptr i 0) (H ++ [⟨cs, true, true⟩]) = r) : Zz (.agg cs) H (fun x H => K x H) = r := by
 rw [Gt cs H _ hf]
 exact h _ (by rw [zak (zap _), zaT]; rfl)
theorem Yj {i w : Nat} {cs : List AV} {K : AV → Option β} (hi : H[i]? = some ⟨cs, true, true⟩) (hw : cs.length = w) (h : K (.agg cs) = r) : Cu true w (.ptr i 0) H (fun x => K x) = r := by
 have e : Ba H i 0 w = some cs := by
  simp only [Ba, hi, if_true, zaW, zav, ← hw, zap, zaL]
 rw [ldT e]
 exact h
theorem Iz {ty f : Nat} {args vs : List AV} {v : Value} {K : KO β} (hh : E9 f = false) (hv : args.mapM (Dt H 8) = some vs) (ht : Bz E0 n ty f vs = some (.sc v)) (h : K (.sc v) H = r) : (PR n β).call ty (.fn f [] []) args H (fun x H => K x H) = r := by
 rw [Hn hh hv ht, G2, zan]
 exact h
theorem AbW {ty f : Nat} {args vs cs : List AV} {K : KO β} (hh : E9 f = false) (hv : args.mapM (Dt H 8) = some vs) (ht : Bz E0 n ty f vs = some (.agg cs)) (hf : cs.all Ja = true) (hok : I0 As E0.tp 8 ty (.agg cs)) (h : ∀ X (ys : List AV), ys.length = cs.length → ys.all Bj = true → Vw (H ++ X) (.agg ys) (.agg cs) → K (.agg ys) (H ++ X) = r) : (PR n β).call ty (.fn f [] []) args H (fun x H => K x H) = r := by
 rw [Hn hh hv ht, Il]
 refine h _ _ (Jh _ _ _) (Mm _ _ _ hf) ?_
 have := Aib H ty (.agg cs) hok
 rwa [Il] at this
theorem Ams {w : Nat} {z ys : List AV} {K : KO β} (hz : z.length = w) (hy : ys.length = w) (hl : ys.all Bj = true) (h : ∀ i, (H ++ [⟨ys, true, true⟩])[i]? = some ⟨ys, true, true⟩ → K (.ptr i 0) (H ++ [⟨ys, true, true⟩]) = r) :
  Sy z H (fun t H => Fp w t (.agg ys) H fun H => K t H) = r := by
 have hg : (H ++ [(⟨z, true, true⟩ : J4)])[H.length]? = some ⟨z, true, true⟩ := by rw [zak (zap _), zaT]; rfl
 have hc : Fm (.agg ys) = some ys := by
  show (if ys.all Bj then some ys else none) = _
  rw [if_pos hl]
 show Fp w (.ptr H.length 0) (.agg ys) (H ++ [⟨z, true, true⟩]) _ = r
 rw [Yx w H.length 0 _ ⟨z, true, true⟩ ys _ _ hg hc hy (by rw [hz]; omega) rfl]
 have hs : Gg z 0 ys = ys := by
  unfold Gg
  rw [List.take_zero, zag, zbh (by rw [hz, hy]; omega), zan]
 have e : (H ++ [(⟨z, true, true⟩ : J4)]).set H.length ⟨ys, true, true⟩ = H ++ [⟨ys, true, true⟩] := by
  rw [List.set_append_right _ _ (zap _), zaT]
  rfl
 simp only [hs, e]
 exact h _ (by rw [zak (zap _), zaT]; rfl)
theorem AnE {ty f W : Nat} {args vs : List AV} {left : Int} {A : Ac → Option β} {K : KO β} (hh : E9 f = false) (hv : args.mapM (Dt H 8) = some vs) (ht : Bz E0 n ty f vs = some (.sc (.int .i64 (Jd W left)))) (h0 : 0 ≤ left) (hA : A H = r) (h : (W : Int) ≤ left → K (.sc (.int .i64 (left - W))) H = r) :
  (PR n β).call ty (.fn f [] []) args H (fun t H => C7 .lss t (.sc (.int .i64 0)) fun t' => Eo t' (A H) (K t H)) = r := by
 rw [Hn hh hv ht, G2, zan]
 simp only
 rw [Nx, Dn]
 by_cases hw : left < W
 ·have e : Jd W left = -1 := by rw [Jd, if_pos hw]
  rw [e, if_pos (by decide)]
  exact hA
 ·have e : Jd W left = left - W := by rw [Jd, if_neg hw]
  rw [e, if_neg (by simpa using (show ¬ left - (W : Int) < 0 by omega))]
  exact h (by omega)
theorem Amr {b : Bool} {A K : Option β} (h : K = r) : (Nz .neq (.sc (.bool b)) (.sc (.bool b)) fun t => Eo t A K) = r := by
 simp only [Nz, asB, zac, binB, beq_self_eq_true, zax]
 exact h
theorem AnD {ty f : Nat} {args vs : List AV} {A : Ac → Option β} {K : Ac → Option β} (hh : E9 f = false) (hv : args.mapM (Dt H 8) = some vs) (ht : Bz E0 n ty f vs = some (.sc (.bool true))) (h : K H = r) : (PR n β).call ty (.fn f [] []) args H (fun t H => pUn .not t fun t' => Eo t' (A H) (K H)) = r := by
 rw [Hn hh hv ht, G2, zan]
 exact h
theorem Akg (a b : Int) (k : AV → Option β) : C7 .eql (.sc (.int .i64 a)) (.sc (.int .i64 b)) k = k (.sc (.bool (a == b))) := rfl
theorem AaF (a b : Int) (k : AV → Option β) : C7 .leq (.sc (.int .i64 a)) (.sc (.int .i64 b)) k = k (.sc (.bool (decide (a ≤ b)))) := rfl
theorem An7 (a b : Int) (k : AV → Option β) : C7 .gtr (.sc (.int .i64 a)) (.sc (.int .i64 b)) k = k (.sc (.bool (decide (a > b)))) := rfl
theorem Acr (a b : Int) (k : AV → Option β) : C7 .add (.sc (.int .i64 a)) (.sc (.int .i64 b)) k = k (.sc (.int .i64 (IntKind.i64.wrap (a + b)))) := rfl
theorem AnF (a b : Int) (k : AV → Option β) : C7 .mul (.sc (.int .i64 a)) (.sc (.int .i64 b)) k = k (.sc (.int .i64 (IntKind.i64.wrap (a * b)))) := rfl
theorem We (s : ByteArray) (k : AV → Option β) : Q5 (.sc (.string s)) k = k (.sc (.int .i64 s.size)) := rfl
theorem Zt {ty : Nat} {cty : List Nat} {cs : List AV} (hty : ∃ i, As ty = some i ∧ i.cty = cty) (h : Hj (I0 As E0.tp 7) cty cs) : I0 As E0.tp 8 ty (.agg cs) := by
 obtain ⟨i, hi, rfl⟩ := hty
 exact ⟨i, hi, h⟩
end
section
open Go
section
variable {β : Type} {n : Nat} {H : Ac} {r : Option β} {K : AV → Option β} {KH : KO β}
theorem Y1 {cs : List AV} (hf : cs.all Ja = true) (h : ∀ i, i = H.length → (H ++ [⟨cs, true, true⟩])[i]? = some ⟨cs, true, true⟩ → KH (.ptr i 0) (H ++ [⟨cs, true, true⟩]) = r) : Zz (.agg cs) H (fun x H => KH x H) = r := by
 rw [Gt cs H _ hf]
 exact h _ rfl (by rw [zak (zap _), zaT]; rfl)
theorem A3 {o id off : Nat} (h : K (.ptr id (off + o)) = r) : C4 o (.ptr id off) (fun x => K x) = r := h
theorem Cr {i off : Nat} {cs : List AV} {c : AV} (hi : H[i]? = some ⟨cs, true, true⟩) (hl : off < cs.length) (hc : (cs.drop off).take 1 = [c]) (h : K c = r) : Cu false 1 (.ptr i off) H (fun x => K x) = r := by
 have e : Ba H i off 1 = some [c] := by
  simp only [Ba, hi, if_true]
  rw [if_pos (by omega), hc]
 rw [ldF e]
 exact h
theorem Dh {op : BinOp} {x y v : AV} (e : ∀ k : AV → Option β, C7 op x y k = k v) (h : K v = r) : C7 op x y (fun t => K t) = r := (e _).trans h
theorem Ix {op : BinOp} {x y v : AV} (e : ∀ k : AV → Option β, Nz op x y k = k v) (h : K v = r) : Nz op x y (fun t => K t) = r := (e _).trans h
theorem Y2 {b : Bool} (h : K (.sc (.bool (!b))) = r) : pUn .not (.sc (.bool b)) (fun t => K t) = r := h
theorem AhS {s : ByteArray} (h : K (.sc (.int .i64 s.size)) = r) : Q5 (.sc (.string s)) (fun t => K t) = r := h
theorem Mu {m : Nat} {cs : List AV} (h : K (.sc (.int .i64 m)) = r) : Jb (.ro m cs) (fun t => K t) = r := h
theorem Aa {g : Prop} (b : Bool) (ht : b = true → g) (hf : b = false → g) : g := by
 cases h : b
 ·exact hf h
 ·exact ht h
theorem Qz {b : Bool} {x y : Option β} (hb : b = true) (h : x = r) : Eo (.sc (.bool b)) x y = r := by subst hb; exact h
theorem Tz {b : Bool} {x y : Option β} (hb : b = false) (h : y = r) : Eo (.sc (.bool b)) x y = r := by subst hb; exact h
theorem Ay {b : Bool} {m : (KO β) → Option β} (hb : b = true) (h : m (fun x H => KH x H) = r) : Jv (.sc (.bool b)) true H m (fun x H => KH x H) = r := by subst hb; exact h
theorem Ax {b : Bool} {m : (KO β) → Option β} (hb : b = false) (h : KH (.sc undef) H = r) : Jv (.sc (.bool b)) true H m (fun x H => KH x H) = r := by subst hb; exact h
theorem I3 {b : Bool} {m : (KO β) → Option β} (hb : b = false) (h : m (fun x H => KH x H) = r) : Jv (.sc (.bool b)) false H m (fun x H => KH x H) = r := by subst hb; exact h
theorem J7 {b : Bool} {m : (KO β) → Option β} (hb : b = true) (h : KH (.sc undef) H = r) : Jv (.sc (.bool b)) false H m (fun x H => KH x H) = r := by subst hb; exact h
theorem AeR {b : Bool} {x y : AV} (hb : b = true) (h : K x = r) : O9 (.sc (.bool b)) x y (fun t => K t) = r := by
 subst hb
 cases x <;> cases y <;> exact h
theorem Acn {b : Bool} {x y : AV} (hb : b = false) (h : K y = r) : O9 (.sc (.bool b)) x y (fun t => K t) = r := by
 subst hb
 cases x <;> cases y <;> exact h
def J5 {α : Type} (p : α → α → Bool) : List α → List α → Bool
 | x :: a, y :: b => if p x y then J5 p a b else false
 | _, _ => true
theorem Mi {α : Type} {w : Nat} (enc : α → List AV) (hw : ∀ x, (enc x).length = w) (h0 : 0 < w) (pk : α → AV) (LOAD : AV → (AV → Option β) → Option β) (hld : ∀ x rest k, LOAD (.rp (enc x ++ rest)) k = k (pk x)) (NE : AV → AV → (AV → Option β) → Option β) (pr : α → α → Bool) (hne : ∀ x y k, NE (pk x) (pk y) k = k (.sc (.bool (!(pr x y)))))
  (l q : List α) (hlq : l.length = q.length) (hlen : l.length ≤ 1048576) (L : Nat → AV → Option β) (KF KT : Option β)
  (hL : ∀ m i, L (m + 1) i = C7 .lss i (.sc (.int .i64 l.length)) fun t14 => Eo t14 (Es w (Ci enc l) i fun t19 => LOAD t19 fun t20 => Es w (Ci enc q) i fun t23 => LOAD t23 fun t24 => NE t20 t24 fun t25 => Eo t25 KF (C7 .add i (.sc (.int .i64 1)) fun t16 => L m t16)) KT) :
  ∀ (s t pl pq : List α) (m : Nat), l = pl ++ s → q = pq ++ t → pl.length = pq.length → s.length < m → L m (.sc (.int .i64 pl.length)) = if J5 pr s t then KT else KF
 | [], t, pl, pq, m + 1, hl, hq, hpp, hm => by
  rw [zan] at hl
  subst hl
  rw [hL, G3, Dn]
  cases t <;> simp [J5]
 | x :: s, [], pl, pq, m + 1, hl, hq, hpp, hm => by
  have h1 := congrArg List.length hl
  have h2 := congrArg List.length hq
  simp only [zaf, zal, zao] at h1 h2
  omega
 | x :: s, y :: t, pl, pq, m + 1, hl, hq, hpp, hm => by
  have hlt : pl.length < l.length := by rw [hl]; simp
  rw [hL, G3, Dn, if_pos (by simpa using hlt)]
  have hel := fun k => X1 (β := β) hw h0 pl x s k
  rw [← hl] at hel
  have heq := fun k => X1 (β := β) hw h0 pq y t k
  rw [← hq, ← hpp] at heq
  rw [hel, hld, heq, hld, hne, Dn, J5]
  cases hpx : pr x y
  ·simp
  ·simp only [zax, zaa, if_false, if_true]
   rw [Hd _ _ (by omega)]
   have ih := Mi enc hw h0 pk LOAD hld NE pr hne l q hlq hlen L KF KT hL s t (pl ++ [x]) (pq ++ [y]) m (by rw [hl]; simp) (by rw [hq]; simp) (by simp [hpp]) (by simpa using hm)
   rw [zaf, zaq] at ih
   exact ih
def Vj (z : Int) : List AV := [.sc (.int .i64 z)]
def Vk (s : ByteArray) : List AV := [.sc (.string s)]
theorem L7 (l : List Int) : Ei l = Ci Vj l := by
 rw [Ci, show (Vj) = fun z => [AV.sc (.int .i64 z)] from rfl, Nr]
theorem Ma (l : List ByteArray) : Ee l = Ci Vk l := by
 rw [Ci, show (Vk) = fun z => [AV.sc (.string z)] from rfl, Nr]
theorem ldI (z : Int) (rest : List AV) (H : Ac) (k : AV → Option β) : Cu false 1 (.rp (Vj z ++ rest)) H k = k (.sc (.int .i64 z)) := Pz _ _ _ _
theorem ldS (z : ByteArray) (rest : List AV) (H : Ac) (k : AV → Option β) : Cu false 1 (.rp (Vk z ++ rest)) H k = k (.sc (.string z)) := Pz _ _ _ _
def eqI (x y : Int) : Bool := x == y
def Tf (x y : ByteArray) : Bool := x.toList == y.toList
def Ho {α : Type} (p : α → α → Bool) (a b : List α) : Bool := if a.length = b.length then J5 p a b else false
theorem neI (x y : Int) (k : AV → Option β) : C7 .neq (.sc (.int .i64 x)) (.sc (.int .i64 y)) k = k (.sc (.bool (!(eqI x y)))) := rfl
theorem neS (x y : ByteArray) (k : AV → Option β) : C7 .neq (.sc (.string x)) (.sc (.string y)) k = k (.sc (.bool (!(Tf x y)))) := rfl
theorem Acu (qs : List Nat) (cs ds : List AV) (b : Bool) (h : M2 qs cs ds = some b) (k : AV → Option β) : Q4 .neq qs (.agg cs) (.agg ds) k = k (.sc (.bool (!b))) := by
 simp only [Q4, h, zac]
theorem Bu {X : Option β} (e : Bool) {K : Bool → Option β} (h1 : ∀ b, b = e → X = K b) (h2 : ∀ b, b = e → K b = r) : X = r := (h1 e rfl).trans (h2 e rfl)
theorem Da {c v b : Bool} {y : AV} (hc : c = true) (hv : v = b) (h : K (.sc (.bool b)) = r) : O9 (.sc (.bool c)) (.sc (.bool v)) y (fun t => K t) = r := by
 subst hc
 subst hv
 cases y <;> exact h
theorem C9 {c v b : Bool} {x : AV} (hc : c = false) (hv : v = b) (h : K (.sc (.bool b)) = r) : O9 (.sc (.bool c)) x (.sc (.bool v)) (fun t => K t) = r := by
 subst hc
 subst hv
 cases x <;> exact h
theorem Ea {b c v : Bool} (hb : b = (c && v)) (h : c = true) : v = b := by rw [hb, h]; rfl
theorem D9 {b c v : Bool} (hb : b = (c && v)) (h : c = false) : false = b := by rw [hb, h]; rfl
theorem Yl {b c v : Bool} (hb : b = (c || v)) (h : c = true) : true = b := by rw [hb, h]; rfl
theorem Yk {b c v : Bool} (hb : b = (c || v)) (h : c = false) : v = b := by rw [hb, h]; rfl
theorem Qe {ty : Nat} {b b' : Bool} (h : b = b') : Bc As E0.tp ty H (.sc (.bool b)) = some (.sc (.bool b')) := by subst h; rfl
theorem AeU {ty : Nat} {f : FuncId} {caps args vs : List AV} {t : AV} {k : KO β} (hh : E9 f = false) (hv : (args ++ caps).mapM (Dt H 8) = some vs) (ht : Bz E0 n ty f vs = some t) :
  (PR n β).call ty (.fn f [] caps) args H k = k (Cy As E0.tp H.length ty t).1 (H ++ (Cy As E0.tp H.length ty t).2) := by
 show O3 E0 (E7 E0 n) ty f ([] ++ args ++ caps) H k = _
 simp only [O3, Yu hh, AaQ hh, zag, zaa, if_false, Aap, hv, zac]
 have ht : Tw E0 (E7 E0 n) ty f vs = some t := ht
 rw [ht]
 rfl
theorem AkC (s : ByteArray) (i : Nat) (b : UInt8) (k : AV → Option β) (h : s.data.toList[i]? = some b) : AeG (.sc (.string s)) (.sc (.int .i64 i)) k = k (.sc (.int .u8 b.toNat)) := by
 have hlt : i < s.size := by
  have := (zad.1 h).1
  simpa using this
 have hb : s[i]'hlt = b := by
  have := (zad.1 h).2
  simp only [Array.getElem_toList] at this
  exact this
 simp only [AeG, asI, asS, zac, zbo]
 rw [dif_pos ⟨by omega, hlt⟩, hb]
theorem nT {b : Bool} (h : b = false) : (!b) = true := by rw [h]; rfl
theorem nF {b : Bool} (h : b = true) : (!b) = false := by rw [h]; rfl
end
end
section
open Go
def Bw (x lo hi : Int) : Bool := decide (lo ≤ x) && decide (x ≤ hi)
theorem Hi (n : Nat) (ty : Nat) (x : Int) (lo : Int) (hi : Int) : Bz E0 (n + 1) ty 81 [.sc (.int .i64 x), .sc (.int .i64 lo), .sc (.int .i64 hi)] = some (.sc (.bool (Bw x lo hi))) := by
 rw [At, AlM, f81]
 try simp only [Fl, H9, Eb, Dp, Fx, Dl, Gn, I4, Ld, Cx, Fe, Pr.gT, Pr.gF, Pr.hT, Pr.hF, Pr.kT, Pr.kF, Gb, Hg, Fj, Hb, K6, Jl, Hh, Ia, Ik, Lj, Me, K5, Jk]
 refine Dh (v := sb (decide (x ≥ lo))) (fun k => rfl) ?_
 apply Bu ((decide (x ≥ lo)) && (decide (x ≤ hi)))
 intro b1 q1
 refine Aa ((decide (x ≥ lo))) (fun h1 => ?_) fun h1 => ?_
 exact Ay h1 (Ay h1 (Ay h1 (Dh (v := sb (decide (x ≤ hi))) (fun k => rfl) (Da h1 (Ea q1 h1) rfl))))
 exact Ax h1 (Ax h1 (Ax h1 (C9 h1 (D9 q1 h1) rfl)))
 intro b1 q1
 exact Qe (by first | (simp_all [Bw]; done) | (rw [zbq]; simp [Bw] at *; omega))
theorem I7 (n : Nat) (ty : Nat) (x : Int) (lo : Int) (hi : Int) : Bz E0 (n + 1) ty 98 [.sc (.int .i64 x), .sc (.int .i64 lo), .sc (.int .i64 hi)] = some (.sc (.bool (Bw x lo hi))) := by
 rw [At, Amd, f98]
 try simp only [Fl, H9, Eb, Dp, Fx, Dl, Gn, I4, Ld, Cx, Fe, Pr.gT, Pr.gF, Pr.hT, Pr.hF, Pr.kT, Pr.kF, Gb, Hg, Fj, Hb, K6, Jl, Hh, Ia, Ik, Lj, Me, K5, Jk]
 refine Dh (v := sb (decide (x ≥ lo))) (fun k => rfl) ?_
 apply Bu ((decide (x ≥ lo)) && (decide (x ≤ hi)))
 intro b1 q1
 refine Aa ((decide (x ≥ lo))) (fun h1 => ?_) fun h1 => ?_
 exact Ay h1 (Ay h1 (Ay h1 (Dh (v := sb (decide (x ≤ hi))) (fun k => rfl) (Da h1 (Ea q1 h1) rfl))))
 exact Ax h1 (Ax h1 (Ax h1 (C9 h1 (D9 q1 h1) rfl)))
 intro b1 q1
 exact Qe (by first | (simp_all [Bw]; done) | (rw [zbq]; simp [Bw] at *; omega))
theorem Sl (n : Nat) (ty : Nat) (s t : ByteArray) : Bz E0 (n + 1) ty 65 [Af s, Af t] = some (.sc (.bool (s.toList == t.toList))) := by
 rw [At, Al8, f65]
 have e : ∀ u : ByteArray, Ej [] 1 (.ro u.size (Bl u)) = some (Bl u) := by
  intro u
  simp [Ej, Fg]
 have eb : ∀ u : ByteArray, (Bl u).mapM Mg = some u.data.toList := fun u => Oc _
 simp only [Jk, Dl, Sw, e, eb, zac, C7, Adj]
 simp
theorem Jf (n : Nat) (ty : Nat) (s t : ByteArray) : Bz E0 (n + 1) ty 71 [Af s, Af t] = some (.sc (.bool (s.toList == t.toList))) := by
 rw [At, AlE, f71]
 have e : ∀ u : ByteArray, Ej [] 1 (.ro u.size (Bl u)) = some (Bl u) := by
  intro u
  simp [Ej, Fg]
 have eb : ∀ u : ByteArray, (Bl u).mapM Mg = some u.data.toList := fun u => Oc _
 simp only [Jk, Dl, Sw, e, eb, zac, C7, Adj]
 simp
end
section
open Go
theorem AmG : ∀ X : Fin 256, bits .and .i64 ((X.val : Nat) : Int) 31 = ((X.val % 32 : Nat) : Int) := by decide +kernel
theorem AmF : ∀ X : Fin 256, bits .and .i64 ((X.val : Nat) : Int) 15 = ((X.val % 16 : Nat) : Int) := by decide +kernel
theorem AmH : ∀ X : Fin 256, bits .and .i64 ((X.val : Nat) : Int) 7 = ((X.val % 8 : Nat) : Int) := by decide +kernel
def Tt (d : Nat × Nat) (i : Nat) : AV := if d.1 = 65533 ∧ d.2 = 1 then .tup [.sc (.int .i64 0), .sc (.int .i64 0), .sc (.bool false)] else .tup [.sc (.int .i64 d.1), .sc (.int .i64 ((i + d.2 : Nat) : Int)), .sc (.bool true)]
def AbN : AV := .tup [.sc (.int .i64 0), .sc (.int .i64 0), .sc (.bool false)]
theorem Akf (s : ByteArray) (i : Nat) (h : i < s.size) (H : Ac) (k : AV → Option AV) : (Es 1 (Af s) (.sc (.int .i64 i)) fun t => Cu false 1 t H k) = k (.sc (.int .u8 (s.data.toList.getD i 0).toNat)) := by
 rw [Oo 1 _ _ i _ h (by rw [Fg]; omega)]
 have hl : i < s.data.toList.length := by simpa using h
 have hd : (Bl s).drop (i * 1) = .sc (.int .u8 (s.data.toList.getD i 0).toNat) :: (Bl s).drop (i + 1) := by
  rw [zbs, zaA (by rw [Fg]; omega)]
  congr 1
  simp [Bl, zbv, h]
 rw [hd, Pz]
section loop
variable (n : Nat) (k : AV → Ac → Option AV) (H : Ac) (s : ByteArray)
theorem L8 (m at' N v i : Nat) (least : Int) (hi : i ≤ N) (hb : at' + i < s.size) (hN : N ≤ 3) (hv : v < 100000000) (hs : s.size ≤ 1048576) :
  Jq (PR n AV) n k (m + 1) (Af s) (si at') (si N) (si least) (si v) (si i) H =
   if (s.data.toList.getD (at' + i) 0).toNat / 64 = 2 then Jq (PR n AV) n k m (Af s) (si at') (si N) (si least) (si ((v * 64 + (s.data.toList.getD (at' + i) 0).toNat % 64 : Nat) : Int)) (si ((i + 1 : Nat) : Int)) H else k AbN H := by
 obtain ⟨y, hy⟩ : ∃ y, (s.data.toList.getD (at' + i) 0).toNat = y := ⟨_, rfl⟩
 have hylt : y < 256 := by rw [← hy]; exact (s.data.toList.getD (at' + i) 0).toNat_lt
 have hba := Akf s (at' + i) hb H
 rw [hy] at hba ⊢
 rw [Jq]
 simp only [Dl, Cx, Hb, Dp, K5, Fe, Pr.gT, Pr.gF, Pr.hT, Pr.hF, Pr.kT, Pr.kF, Gb]
 rw [AaF, Dn, if_pos (by simp; omega), Acr, ← Int.natCast_add, J2 _ (by omega) (by omega), hba]
 simp only [AaO, asI, zac]
 rw [J2 _ (by omega) (by omega), Nx]
 by_cases h1 : y < 128
 refine J7 (by simp; omega) (J7 (by simp; omega) (AeR (by simp; omega) ?_))
 rw [if_neg (by omega)]
 rfl
 refine I3 (by simp; omega) (I3 (by simp; omega) ?_)
 rw [An7]
 refine Acn (by simp; omega) ?_
 by_cases h2 : y ≤ 191
 rw [Dn, if_neg (by simp; omega), if_pos (by omega), AnF, show (v : Int) * 64 = ((v * 64 : Nat) : Int) by omega, J2 _ (by omega) (by omega), Acr, ← Int.natCast_add, J2 _ (by omega) (by omega), Pb _ _ _ (by omega) (by omega), Hd _ _ (by omega)]
 congr 3
 omega
 rw [Dn, if_pos (by simp; omega), if_neg (by omega)]
 rfl
theorem W0 (n' : Nat) (hnn : n = n' + 1) (m at' N v least : Nat) (hN : N ≤ 3) (hv : v < 100000000) (ha : at' ≤ 1048576) :
  Jq (PR n AV) n k (m + 1) (Af s) (si at') (si N) (si least) (si v) (si ((N + 1 : Nat) : Int)) H =
   if v ≥ least ∧ (v < 55296 ∨ (57344 ≤ v ∧ v ≤ 1114111)) then k (.tup [si v, si ((at' + (N + 1) : Nat) : Int), bT]) H else k AbN H := by
 subst hnn
 rw [Jq]
 simp only [Dl, Cx, Hb, Dp, K5, Fe, Pr.gT, Pr.gF, Pr.hT, Pr.hF, Pr.kT, Pr.kF, Gb]
 rw [AaF, Dn, if_neg (by simp; omega), Nx]
 by_cases h1 : v < least
 have e : decide ((v : Int) < (least : Int)) = true := by simp; omega
 refine J7 e (J7 e (AeR e (J7 rfl (J7 rfl (AeR rfl (Qz rfl ?_))))))
 rw [if_neg (by omega)]
 rfl
 have e : decide ((v : Int) < (least : Int)) = false := by simp; omega
 refine I3 e (I3 e (Dh (v := sb (decide ((v : Int) > 1114111))) (fun k => rfl) (Acn e ?_)))
 by_cases h2 : v > 1114111
 have e2 : decide ((v : Int) > 1114111) = true := by simp; omega
 refine J7 e2 (J7 e2 (AeR e2 (Qz rfl ?_)))
 rw [if_neg (by omega)]
 rfl
 have e2 : decide ((v : Int) > 1114111) = false := by simp; omega
 refine I3 e2 (I3 e2 (Iz rfl (Ds (Gx _ _) (Ds (Gx _ _) (Ds (Gx _ _) I2))) (Hi n' _ v 55296 57343) (Acn e2 ?_)))
 by_cases h3 : 55296 ≤ v ∧ v ≤ 57343
 refine Qz (by simp [Bw]; omega) ?_
 rw [if_neg (by omega)]
 rfl
 refine Tz (by simp [Bw]; omega) ?_
 have e5 : ((at' : Int) + 1 + (N : Int)) = ((at' + (N + 1) : Nat) : Int) := by omega
 rw [if_pos (by omega), Acr, J2 _ (by omega) (by omega), Acr, J2 _ (by omega) (by omega), e5]
 rfl
end loop
theorem Fy (H : Ac) (a b c : Value) : Bc As E0.tp 110 H (.tup [.sc a, .sc b, .sc c]) = some (.tup [.sc a, .sc b, .sc c]) := rfl
set_option maxHeartbeats 1600000 in
theorem AjR (n : Nat) (hn : 1048576 < n) (s : ByteArray) (i : Nat) (hs : s.size ≤ 1048576) (hi : i < s.size) : Bz E0 (n + 2) 110 143 [Af s, .sc (.int .i64 i)] = some (Tt (Lib.decodeL (s.data.toList.drop i)) i) := by
 have hg : ∀ j, (s.data.toList.drop i).getD j 0 = s.data.toList.getD (i + j) 0 := fun j => by simp [zbv, zbc]
 have hL : (s.data.toList.drop i).length = s.size - i := by simp
 have hg0 : (s.data.toList.drop i).getD 0 0 = s.data.toList.getD i 0 := hg 0
 rw [Lib.decodeL_N, hL, hg0, hg 1, hg 2, hg 3]
 obtain ⟨x, hx⟩ : ∃ x, (s.data.toList.getD i 0).toNat = x := ⟨_, rfl⟩
 have hxl : x < 256 := by rw [← hx]; exact (s.data.toList.getD i 0).toNat_lt
 obtain ⟨y1, hy1⟩ : ∃ x, (s.data.toList.getD (i + 1) 0).toNat = x := ⟨_, rfl⟩
 obtain ⟨y2, hy2⟩ : ∃ x, (s.data.toList.getD (i + 2) 0).toNat = x := ⟨_, rfl⟩
 obtain ⟨y3, hy3⟩ : ∃ x, (s.data.toList.getD (i + 3) 0).toNat = x := ⟨_, rfl⟩
 have b1 : y1 < 256 := by rw [← hy1]; exact (s.data.toList.getD (i + 1) 0).toNat_lt
 have b2 : y2 < 256 := by rw [← hy2]; exact (s.data.toList.getD (i + 2) 0).toNat_lt
 have b3 : y3 < 256 := by rw [← hy3]; exact (s.data.toList.getD (i + 3) 0).toNat_lt
 have hba := Akf s i hi []
 rw [hx] at hba
 rw [hx, hy1, hy2, hy3]
 have fails : Lib.decodeN (s.size - i) x y1 y2 y3 = (65533, 1) → some AbN = some (Tt (Lib.decodeN (s.size - i) x y1 y2 y3) i) := fun h => by rw [h]; rfl
 have goes : ∀ v w, Lib.decodeN (s.size - i) x y1 y2 y3 = (v, w) → (w = 1 → v < 128) → some (.tup [si v, si ((i + w : Nat) : Int), bT]) = some (Tt (Lib.decodeN (s.size - i) x y1 y2 y3) i) := fun v w h hw => by
  rw [h, Tt, if_neg (by intro h; simp only at h; omega)]
 rw [At, AiR, f143]
 simp only [Dl, Cx, Hb, Dp, K5, Fe, Pr.gT, Pr.gF, Pr.hT, Pr.hF, Pr.kT, Pr.kF, Gb, Hg]
 have e0 : decide ((i : Int) < 0) = false := by simp
 rw [Nx]
 refine I3 e0 (I3 e0 (I3 e0 (Mu (I3 e0 (Dh (v := .sc (.bool (decide ((i : Int) ≥ (s.size : Int))))) (fun k => rfl) (Acn e0 (Tz (by simp; omega) ?_)))))))
 rw [hba]
 simp only [AaO, asI, zac]
 rw [J2 _ (by omega) (by omega), Nx]
 by_cases c1 : x < 128
 refine Qz (by simp; omega) ?_
 rw [Hd _ _ (by omega)]
 exact (Fy _ _ _ _).trans (goes x 1 (by rw [Lib.decodeN, if_pos c1]) (fun _ => c1))
 refine Tz (by simp; omega) ?_
 obtain ⟨q, rfl⟩ : ∃ q, n = q + 4 := ⟨n - 4, by omega⟩
 apply Bu (decide ((x : Int) ≥ 192) && decide ((x : Int) < 224))
 intro b hb
 refine Dh (v := sb (decide ((x : Int) ≥ 192))) (fun k => rfl) (Aa (decide ((x : Int) ≥ 192)) (fun h => ?_) fun h => ?_)
 exact Ay h (Ay h (Dh (v := sb (decide ((x : Int) < 224))) (fun k => rfl) (Da h (Ea hb h) rfl)))
 exact Ax h (Ax h (C9 h (D9 hb h) rfl))
 intro b0 hb0
 by_cases d0 : 192 ≤ x ∧ x < 224
 refine Qz (by rw [hb0]; simp; omega) (Dh (v := .sc (.int .i64 ((x % 32 : Nat) : Int))) (fun k => by show k (.sc (.int .i64 (bits .and .i64 (x : Int) 31))) = _; rw [AmG ⟨x, hxl⟩]) (Mu (Dh (v := .sc (.int .i64 ((s.size : Int) - 1))) (fun k => Pb _ _ _ (by omega) (by omega)) (Dh (v := .sc (.int .i64 ((s.size : Int) - 1 - 1))) (fun k => Pb _ _ _ (by omega) (by omega)) (Dh (v := .sc (.bool (decide ((i : Int) > (s.size : Int) - 1 - 1)))) (fun k => rfl) ?_)))))
 by_cases c3 : i + 1 < s.size
 ·refine Tz (by simp; omega) ?_
  have r1 := L8 (q + 4 + 1) (fun x H => Bc As E0.tp 110 H x) [] s (q + 4) i 1 (x % 32) 1 128 (by omega) (by omega) (by omega) (by omega) hs
  rw [hy1] at r1
  refine r1.trans ?_
  by_cases k1 : y1 / 64 = 2
  rotate_left
  rw [if_neg k1]
  exact (Fy _ _ _ _).trans (fails (by unfold Lib.decodeN; rw [if_neg c1, if_neg (by omega), if_neg (by omega), if_neg (by omega)]))
  rw [if_pos k1]
  refine (W0 (q + 4 + 1) (fun x H => Bc As E0.tp 110 H x) [] s (q + 4) rfl (q + 3) i 1 ((x % 32) * 64 + y1 % 64) 128 (by omega) (by omega) (by omega)).trans ?_
  have hv : (x % 32) * 64 + y1 % 64 = x % 32 * 64 + y1 % 64 := by omega
  rw [hv]
  split
  exact (Fy _ _ _ _).trans (goes _ 2 (by unfold Lib.decodeN; rw [if_neg c1, if_pos (by omega), if_pos (by omega)]) (by omega))
  exact (Fy _ _ _ _).trans (fails (by unfold Lib.decodeN; rw [if_neg c1, if_pos (by omega), if_neg (by omega)]))
 exact Qz (by simp; omega) ((Fy _ _ _ _).trans (fails (by unfold Lib.decodeN; rw [if_neg c1, if_neg (by omega), if_neg (by omega), if_neg (by omega)])))
 refine Tz (by rw [hb0]; simp; omega) ?_
 apply Bu (decide ((x : Int) ≥ 224) && decide ((x : Int) < 240))
 intro b hb
 refine Dh (v := sb (decide ((x : Int) ≥ 224))) (fun k => rfl) (Aa (decide ((x : Int) ≥ 224)) (fun h => ?_) fun h => ?_)
 exact Ay h (Ay h (Dh (v := sb (decide ((x : Int) < 240))) (fun k => rfl) (Da h (Ea hb h) rfl)))
 exact Ax h (Ax h (C9 h (D9 hb h) rfl))
 intro b1 hb1
 by_cases d1 : 224 ≤ x ∧ x < 240
 refine Qz (by rw [hb1]; simp; omega) (Dh (v := .sc (.int .i64 ((x % 16 : Nat) : Int))) (fun k => by show k (.sc (.int .i64 (bits .and .i64 (x : Int) 15))) = _; rw [AmF ⟨x, hxl⟩]) (Mu (Dh (v := .sc (.int .i64 ((s.size : Int) - 1))) (fun k => Pb _ _ _ (by omega) (by omega)) (Dh (v := .sc (.int .i64 ((s.size : Int) - 1 - 2))) (fun k => Pb _ _ _ (by omega) (by omega)) (Dh (v := .sc (.bool (decide ((i : Int) > (s.size : Int) - 1 - 2)))) (fun k => rfl) ?_)))))
 by_cases c3 : i + 2 < s.size
 ·refine Tz (by simp; omega) ?_
  have r1 := L8 (q + 4 + 1) (fun x H => Bc As E0.tp 110 H x) [] s (q + 4) i 2 (x % 16) 1 2048 (by omega) (by omega) (by omega) (by omega) hs
  rw [hy1] at r1
  refine r1.trans ?_
  by_cases k1 : y1 / 64 = 2
  rotate_left
  rw [if_neg k1]
  exact (Fy _ _ _ _).trans (fails (by unfold Lib.decodeN; rw [if_neg c1, if_neg (by omega), if_neg (by omega), if_neg (by omega)]))
  rw [if_pos k1]
  have r2 := L8 (q + 4 + 1) (fun x H => Bc As E0.tp 110 H x) [] s (q + 3) i 2 ((x % 16) * 64 + y1 % 64) 2 2048 (by omega) (by omega) (by omega) (by omega) hs
  rw [hy2] at r2
  refine r2.trans ?_
  by_cases k2 : y2 / 64 = 2
  rotate_left
  rw [if_neg k2]
  exact (Fy _ _ _ _).trans (fails (by unfold Lib.decodeN; rw [if_neg c1, if_neg (by omega), if_neg (by omega), if_neg (by omega)]))
  rw [if_pos k2]
  refine (W0 (q + 4 + 1) (fun x H => Bc As E0.tp 110 H x) [] s (q + 4) rfl (q + 2) i 2 (((x % 16) * 64 + y1 % 64) * 64 + y2 % 64) 2048 (by omega) (by omega) (by omega)).trans ?_
  have hv : ((x % 16) * 64 + y1 % 64) * 64 + y2 % 64 = x % 16 * 4096 + y1 % 64 * 64 + y2 % 64 := by omega
  rw [hv]
  split
  exact (Fy _ _ _ _).trans (goes _ 3 (by unfold Lib.decodeN; rw [if_neg c1, if_neg (by omega), if_pos (by omega), if_pos (by omega)]) (by omega))
  exact (Fy _ _ _ _).trans (fails (by unfold Lib.decodeN; rw [if_neg c1, if_neg (by omega), if_pos (by omega), if_neg (by omega)]))
 exact Qz (by simp; omega) ((Fy _ _ _ _).trans (fails (by unfold Lib.decodeN; rw [if_neg c1, if_neg (by omega), if_neg (by omega), if_neg (by omega)])))
 refine Tz (by rw [hb1]; simp; omega) ?_
 apply Bu (decide ((x : Int) ≥ 240) && decide ((x : Int) < 248))
 intro b hb
 refine Dh (v := sb (decide ((x : Int) ≥ 240))) (fun k => rfl) (Aa (decide ((x : Int) ≥ 240)) (fun h => ?_) fun h => ?_)
 exact Ay h (Ay h (Dh (v := sb (decide ((x : Int) < 248))) (fun k => rfl) (Da h (Ea hb h) rfl)))
 exact Ax h (Ax h (C9 h (D9 hb h) rfl))
 intro b2 hb2
 by_cases d2 : 240 ≤ x ∧ x < 248
 refine Qz (by rw [hb2]; simp; omega) (Dh (v := .sc (.int .i64 ((x % 8 : Nat) : Int))) (fun k => by show k (.sc (.int .i64 (bits .and .i64 (x : Int) 7))) = _; rw [AmH ⟨x, hxl⟩]) (Mu (Dh (v := .sc (.int .i64 ((s.size : Int) - 1))) (fun k => Pb _ _ _ (by omega) (by omega)) (Dh (v := .sc (.int .i64 ((s.size : Int) - 1 - 3))) (fun k => Pb _ _ _ (by omega) (by omega)) (Dh (v := .sc (.bool (decide ((i : Int) > (s.size : Int) - 1 - 3)))) (fun k => rfl) ?_)))))
 by_cases c3 : i + 3 < s.size
 ·refine Tz (by simp; omega) ?_
  have r1 := L8 (q + 4 + 1) (fun x H => Bc As E0.tp 110 H x) [] s (q + 4) i 3 (x % 8) 1 65536 (by omega) (by omega) (by omega) (by omega) hs
  rw [hy1] at r1
  refine r1.trans ?_
  by_cases k1 : y1 / 64 = 2
  rotate_left
  rw [if_neg k1]
  exact (Fy _ _ _ _).trans (fails (by unfold Lib.decodeN; rw [if_neg c1, if_neg (by omega), if_neg (by omega), if_neg (by omega)]))
  rw [if_pos k1]
  have r2 := L8 (q + 4 + 1) (fun x H => Bc As E0.tp 110 H x) [] s (q + 3) i 3 ((x % 8) * 64 + y1 % 64) 2 65536 (by omega) (by omega) (by omega) (by omega) hs
  rw [hy2] at r2
  refine r2.trans ?_
  by_cases k2 : y2 / 64 = 2
  rotate_left
  rw [if_neg k2]
  exact (Fy _ _ _ _).trans (fails (by unfold Lib.decodeN; rw [if_neg c1, if_neg (by omega), if_neg (by omega), if_neg (by omega)]))
  rw [if_pos k2]
  have r3 := L8 (q + 4 + 1) (fun x H => Bc As E0.tp 110 H x) [] s (q + 2) i 3 (((x % 8) * 64 + y1 % 64) * 64 + y2 % 64) 3 65536 (by omega) (by omega) (by omega) (by omega) hs
  rw [hy3] at r3
  refine r3.trans ?_
  by_cases k3 : y3 / 64 = 2
  rotate_left
  rw [if_neg k3]
  exact (Fy _ _ _ _).trans (fails (by unfold Lib.decodeN; rw [if_neg c1, if_neg (by omega), if_neg (by omega), if_neg (by omega)]))
  rw [if_pos k3]
  refine (W0 (q + 4 + 1) (fun x H => Bc As E0.tp 110 H x) [] s (q + 4) rfl (q + 1) i 3 ((((x % 8) * 64 + y1 % 64) * 64 + y2 % 64) * 64 + y3 % 64) 65536 (by omega) (by omega) (by omega)).trans ?_
  have hv : (((x % 8) * 64 + y1 % 64) * 64 + y2 % 64) * 64 + y3 % 64 = x % 8 * 262144 + y1 % 64 * 4096 + y2 % 64 * 64 + y3 % 64 := by omega
  rw [hv]
  split
  exact (Fy _ _ _ _).trans (goes _ 4 (by unfold Lib.decodeN; rw [if_neg c1, if_neg (by omega), if_neg (by omega), if_pos (by omega), if_pos (by omega)]) (by omega))
  exact (Fy _ _ _ _).trans (fails (by unfold Lib.decodeN; rw [if_neg c1, if_neg (by omega), if_neg (by omega), if_pos (by omega), if_neg (by omega)]))
 exact Qz (by simp; omega) ((Fy _ _ _ _).trans (fails (by unfold Lib.decodeN; rw [if_neg c1, if_neg (by omega), if_neg (by omega), if_neg (by omega)])))
 exact Tz (by rw [hb2]; simp; omega) ((Fy _ _ _ _).trans (fails (by unfold Lib.decodeN; rw [if_neg c1, if_neg (by omega), if_neg (by omega), if_neg (by omega)])))
theorem Yd (N ty : Nat) (a b c : Value) : Cy As E0.tp N ty (.tup [.sc a, .sc b, .sc c]) = (.tup [.sc a, .sc b, .sc c], []) := rfl
theorem AeV (s : ByteArray) : Vw [⟨Bl s, true, false⟩] (.sl 0 0 s.size 1) (Af s) := fun X => by
 have e2 : Ba ([⟨Bl s, true, false⟩] ++ X) 0 0 (s.size * 1) = some (Bl s) := by
  have hl := Fg s
  show (if (0 + s.size * 1 ≤ (Bl s).length) then some (((Bl s).drop 0).take (s.size * 1)) else none) = _
  rw [if_pos (by omega), zaW, zbs, ← hl, zaL]
 rw [S9, e2, zac]
 have e3 : (Bl s).mapM (Dt ([⟨Bl s, true, false⟩] ++ X) 7) = some (Bl s) := by
  rw [Abq]
  exact AcT _
 rw [e3]
 rfl
theorem O1 {vs : List AV} {i : Nat} {x : AV} {K : AV → Option AV} {r : Option AV} (hx : vs[i]? = some x) (h : K x = r) : Ww (.tup vs) i (fun t => K t) = r := by
 show (vs[i]?).bind _ = r
 rw [hx]
 exact h
theorem Ve (n : Nat) (hn : 1048576 < n) (k : AV → Ac → Option AV) (s : ByteArray) (hs : s.size ≤ 60) : ∀ (b m pos c : Nat), s.size ≤ pos + b → pos ≤ s.size → c ≤ pos → b < m →
  ∃ r : Int, Qi (PR (n + 2) AV) (n + 2) k m (.sl 0 0 s.size 1) (si c) (si pos) [⟨Bl s, true, false⟩] = k (si r) [⟨Bl s, true, false⟩] ∧ (Qc b (s.data.toList.drop pos) = true → 0 ≤ r) ∧ (Qc b (s.data.toList.drop pos) = false → r = -1)
 | b, m + 1, pos, c, hb, hp, hc, hm => by
  rw [Qi]
  simp only [Hg, Dl, Cx, AhY, Ld, Fe, Pr.gT, Pr.gF, Pr.hT, Pr.hF, Pr.kT, Pr.kF, Gb]
  have hlen : ∀ k : AV → Option AV, Jb (.sl 0 0 s.size 1) k = k (si s.size) := fun _ => rfl
  rw [hlen, G3, Dn]
  by_cases hlt : pos < s.size
  rw [if_pos (by simpa using hlt)]
  obtain ⟨b, rfl⟩ : ∃ b', b = b' + 1 := ⟨b - 1, by omega⟩
  have hne : s.data.toList.drop pos ≠ [] := by
   intro h
   have := congrArg List.length h
   simp at this
   omega
  have hw := Lib.decodeL_width (s.data.toList.drop pos)
  have hle := Lib.decodeL_le (s.data.toList.drop pos) hne
  have hll : (s.data.toList.drop pos).length = s.size - pos := by simp
  rw [hll] at hle
  rw [Qc, if_neg hne]
  generalize hd : Lib.decodeL (s.data.toList.drop pos) = d at hw hle ⊢
  have ht := AjR n hn s pos (by omega) hlt
  rw [hd] at ht
  rw [Hn (vs := [Af s, .sc (.int .i64 pos)]) rfl (Ds (AeV s) (Ds (Gx _ _) I2)) ht]
  by_cases hf : d.1 = 65533 ∧ d.2 = 1
  rw [Tt, if_pos hf, Yd, zan, if_pos hf]
  refine ⟨-1, ?_, (fun h => by cases h), (fun _ => rfl)⟩
  refine O1 rfl (O1 rfl (O1 rfl (Y2 (J7 rfl (J7 rfl (AeR rfl (Qz rfl ?_)))))))
  rfl
  rw [Tt, if_neg hf, Yd, zan, if_neg hf]
  by_cases hz : d.1 = 0
  rw [if_pos hz]
  refine ⟨-1, ?_, (fun h => by cases h), (fun _ => rfl)⟩
  refine O1 rfl (O1 rfl (O1 rfl (Y2 (I3 rfl (I3 rfl (Dh (v := .sc (.bool ((d.1 : Int) == 0))) (fun k => rfl) (Acn rfl (Qz (by simp [hz]) ?_))))))))
  rfl
  rw [if_neg hz, zb6]
  obtain ⟨r, h1, h2, h3⟩ := Ve n hn k s hs b m (pos + d.2) (c + 1) (by omega) (by omega) (by omega) (by omega)
  refine ⟨r, ?_, h2, h3⟩
  refine O1 rfl (O1 rfl (O1 rfl (Y2 (I3 rfl (I3 rfl (Dh (v := .sc (.bool ((d.1 : Int) == 0))) (fun k => rfl) (Acn rfl (Tz (by simp; omega) ?_))))))))
  rw [Hd _ _ (by omega)]
  exact h1
  rw [if_neg (by simpa using hlt)]
  have hnil : s.data.toList.drop pos = [] := by
   apply zbh
   simp
   omega
  refine ⟨c, rfl, fun _ => by omega, fun h => ?_⟩
  rw [hnil] at h
  cases b <;> simp [Qc] at h
theorem Ald (n : Nat) (hn : 1048576 < n) (ty : Nat) (s : ByteArray) : ∃ r : Int, Bz E0 (n + 3) ty 115 [.sc (.string s)] = some (.sc (.int .i64 r)) ∧ (Bd s = true → 0 ≤ r) ∧ (Bd s = false → r = -1) := by
 rw [At, Ai1, f115]
 simp only [Fj, Dl, Cx, AhX]
 unfold Bd
 by_cases h : s.size ≤ 60
 obtain ⟨r, h1, h2, h3⟩ := Ve n hn (fun x H => Bc As E0.tp ty H x) s h s.size (n + 2) 0 0 (by omega) (by omega) (by omega) (by omega)
 refine ⟨r, ?_, ?_, ?_⟩
 refine AhS (Dh (v := .sc (.bool (decide ((s.size : Int) > 60)))) (fun k => rfl) (Tz (by simp; omega) ?_))
 simp only [Wv, asS, zac]
 rw [if_pos (by omega)]
 exact h1
 intro hv
 refine h2 ?_
 simpa [h] using hv
 intro hv
 refine h3 ?_
 simpa [h] using hv
 refine ⟨-1, ?_, (fun hv => by simp [h] at hv), (fun _ => rfl)⟩
 refine AhS (Dh (v := .sc (.bool (decide ((s.size : Int) > 60)))) (fun k => rfl) (Qz (by simp; omega) ?_))
 rfl
theorem Ip (n : Nat) (hn : 1048576 < n) (ty : Nat) (s : ByteArray) : Bz E0 (n + 4) ty 80 [.sc (.string s)] = some (.sc (.bool (Bd s))) := by
 rw [At, AlL, f80]
 simp only [Dl]
 obtain ⟨r, h1, h2, h3⟩ := Ald n hn 3 s
 refine Iz rfl (Ds (Gx _ _) I2) h1 (Dh (v := sb (decide (r ≥ 0))) (fun k => rfl) (Qe ?_))
 cases hv : Bd s
 rw [h3 hv]
 rfl
 simpa using h2 hv
theorem Ahf {β : Type} {n : Nat} {H : Ac} {r : Option β} {ty f : Nat} {g : Nat → List AV → Option AV} {args vs : List AV} {v : Value} {K : KO β} (hg : E0.ext f = some g) (hv : args.mapM (Dt H 8) = some vs) (ht : g ty vs = some (.sc v)) (h : K (.sc v) H = r) : (PR n β).call ty (.fn f [] []) args H (fun x H => K x H) = r := by
 rw [Abj hg hv ht, G2, zan]
 exact h
theorem L6 (ty : Nat) (s : ByteArray) (hs : Sq s) : Ze ty [.sc (.string s)] = some (.sc (.bool (Bd s))) := by
 have hm : maxLen = 9223372036854775807 := by decide
 show (if s.size ≤ maxLen then _ else _) = _
 rw [hm, if_pos (show s.size ≤ 9223372036854775807 from hs)]
end
section
open Go
section own
variable {ti : Nat → Option TI} {tp : Nat → Option (List Nat)}
theorem Im {f : Nat → AV → Option (AV × List Nat)} {t : Nat} {ts : List Nat} {x : AV} {xs : List AV} {p : List AV × List Nat} (h : Em f (t :: ts) (x :: xs) = some p) :
  ∃ a b, f t x = some a ∧ Em f ts xs = some b ∧ p = (a.1 :: b.1, a.2 ++ b.2) := by
 simp only [Em, zab] at h
 obtain ⟨a, h1, b, h2, h3⟩ := h
 exact ⟨a, b, h1, h2, (Option.some.inj h3).symm⟩
theorem Js {f : Nat → AV → Option (AV × List Nat)} {ts : List Nat} {p : List AV × List Nat} (h : Em f ts [] = some p) : ts = [] ∧ p = ([], []) := by
 cases ts with
 | nil => exact ⟨rfl, (Option.some.inj h).symm⟩
 | cons t ts => simp [Em] at h
theorem Wq {f : Nat → AV → Option (AV × List Nat)} : ∀ {ts : List Nat} {xs : List AV} {p : List AV × List Nat}, Em f ts xs = some p → ts.length = xs.length ∧ p.1.length = xs.length
 | ts, [], p, h => by
  obtain ⟨rfl, rfl⟩ := Js h
  exact ⟨rfl, rfl⟩
 | [], _ :: _, p, h => by simp [Em] at h
 | t :: ts, x :: xs, p, h => by
  obtain ⟨a, b, h1, h2, rfl⟩ := Im h
  obtain ⟨e1, e2⟩ := Wq h2
  simp [e1, e2]
theorem P5 {f : Nat → AV → Option (AV × List Nat)} : ∀ {ts us : List Nat} {xs ys : List AV} {p q : List AV × List Nat}, Em f ts xs = some p → Em f us ys = some q → Em f (ts ++ us) (xs ++ ys) = some (p.1 ++ q.1, p.2 ++ q.2)
 | ts, us, [], ys, p, q, h, h' => by
  obtain ⟨rfl, rfl⟩ := Js h
  exact h'
 | [], _, _ :: _, _, _, _, h, _ => by simp [Em] at h
 | t :: ts, us, x :: xs, ys, p, q, h, h' => by
  obtain ⟨a, b, h1, h2, rfl⟩ := Im h
  have ih := P5 h2 h'
  rw [zau, zau, Em, h1, zac, ih]
  simp
theorem Hq {f f' : Nat → AV → Option (AV × List Nat)} : ∀ {ts : List Nat} {xs : List AV} {p : List AV × List Nat}, (∀ t x a, f t x = some a → (∀ i ∈ a.2, i ∈ p.2) → f' t x = some a) → Em f ts xs = some p → Em f' ts xs = some p
 | ts, [], p, _, h => by
  obtain ⟨rfl, rfl⟩ := Js h
  rfl
 | [], _ :: _, p, _, h => by simp [Em] at h
 | t :: ts, x :: xs, p, hf, h => by
  obtain ⟨a, b, h1, h2, rfl⟩ := Im h
  have e1 := hf t x a h1 fun i hi => zaF _ hi
  have e2 := Hq (f' := f') (fun t x a' h hi => hf t x a' h fun i hi' => zaM _ (hi i hi')) h2
  rw [Em, e1, zac, e2]
  rfl
theorem Gk {H H' : Ac} : ∀ (d ty : Nat) (x : AV) (p : AV × List Nat), Dg ti tp H d ty x = some p → (∀ i ∈ p.2, H'[i]? = H[i]?) → Dg ti tp H' d ty x = some p
 | 0, _, _, _, h, _ => by simp [Dg] at h
 | d + 1, ty, x, p, h, hs => by
  cases x with
  | sc v => exact h
  | nl => exact h
  | sl id off n z =>
   rw [Ju] at h ⊢
   simp only [zab] at h
   obtain ⟨i, h1, j, h2, h3⟩ := h
   split at h3
   case isFalse => cases h3
   rename_i hz
   split at h3
   case isFalse => cases h3
   rename_i ha
   simp only [zab] at h3
   obtain ⟨cs, h4, q, h5, h6⟩ := h3
   obtain rfl := (Option.some.inj h6).symm
   have hid := hs id za1
   have e1 : Ka H' id = true := by simpa only [Ka, hid] using ha
   have e2 : Ba H' id off (n * z) = some cs := by simpa only [Ba, hid] using h4
   have e3 := Hq (f' := Dg ti tp H' d) (fun t x a h hi => Gk d t x a h fun i' hi' => hs i' (zay _ (hi i' hi'))) h5
   simp only [h1, h2, zac, hz, if_true, e1, e3]
   rw [hz] at e2
   rw [e2]
   simp only [zac, e3]
  | agg cs =>
   rw [Jt] at h ⊢
   simp only [zab] at h
   obtain ⟨i, h1, q, h2, h3⟩ := h
   obtain rfl := (Option.some.inj h3).symm
   have e3 := Hq (f' := Dg ti tp H' d) (fun t x a h hi => Gk d t x a h fun i' hi' => hs i' (hi i' hi')) h2
   rw [h1, zac, e3]
   rfl
  | tup cs =>
   rw [K1] at h ⊢
   simp only [zab] at h
   obtain ⟨i, h1, q, h2, h3⟩ := h
   obtain rfl := (Option.some.inj h3).symm
   have e3 := Hq (f' := Dg ti tp H' d) (fun t x a h hi => Gk d t x a h fun i' hi' => hs i' (hi i' hi')) h2
   rw [h1, zac, e3]
   rfl
  | _ => simp [Dg] at h
theorem Su {f : Nat → AV → Option (AV × List Nat)} {N : Nat} : ∀ {ts : List Nat} {xs : List AV} {p : List AV × List Nat}, (∀ t x a, f t x = some a → ∀ i ∈ a.2, i < N) → Em f ts xs = some p → ∀ i ∈ p.2, i < N
 | ts, [], p, _, h => by
  obtain ⟨rfl, rfl⟩ := Js h
  intro i hi
  cases hi
 | [], _ :: _, p, _, h => by simp [Em] at h
 | t :: ts, x :: xs, p, hf, h => by
  obtain ⟨a, b, h1, h2, rfl⟩ := Im h
  intro i hi
  rcases zaV.1 hi with hi | hi
  ·exact hf t x a h1 i hi
  ·exact Su hf h2 i hi
theorem P7 {H : Ac} : ∀ (d ty : Nat) (x : AV) (p : AV × List Nat), Dg ti tp H d ty x = some p → ∀ i ∈ p.2, i < H.length
 | 0, _, _, _, h => by simp [Dg] at h
 | d + 1, ty, x, p, h => by
  cases x with
  | sc v =>
   obtain rfl := (Option.some.inj h).symm
   intro i hi
   cases hi
  | nl =>
   obtain rfl := (Option.some.inj h).symm
   intro i hi
   cases hi
  | sl id off n z =>
   rw [Ju] at h
   simp only [zab] at h
   obtain ⟨i, h1, j, h2, h3⟩ := h
   split at h3
   case isFalse => cases h3
   split at h3
   case isFalse => cases h3
   rename_i ha
   simp only [zab] at h3
   obtain ⟨cs, h4, q, h5, h6⟩ := h3
   obtain rfl := (Option.some.inj h6).symm
   intro i' hi'
   rcases zbF.1 hi' with rfl | hi'
   ·unfold Ka at ha
    cases hg : H[i']? with
    | none => rw [hg] at ha; cases ha
    | some b => exact (zad.1 hg).1
   ·exact Su (fun t x a h => P7 d t x a h) h5 i' hi'
  | agg cs =>
   rw [Jt] at h
   simp only [zab] at h
   obtain ⟨i, h1, q, h2, h3⟩ := h
   obtain rfl := (Option.some.inj h3).symm
   exact Su (fun t x a h => P7 d t x a h) h2
  | tup cs =>
   rw [K1] at h
   simp only [zab] at h
   obtain ⟨i, h1, q, h2, h3⟩ := h
   obtain rfl := (Option.some.inj h3).symm
   exact Su (fun t x a h => P7 d t x a h) h2
  | _ => simp [Dg] at h
end own
def OwnC (d : Nat) (H : Ac) (ts : List Nat) (raw cells : List AV) (ids : List Nat) : Prop := Em (Dg As E0.tp H d) ts raw = some (cells, ids)
theorem OwnC.frame {d : Nat} {H H' : Ac} {ts : List Nat} {raw cells : List AV} {ids : List Nat} (h : OwnC d H ts raw cells ids) (hs : ∀ i ∈ ids, H'[i]? = H[i]?) : OwnC d H' ts raw cells ids :=
 Hq (fun t x a h hi => Gk d t x a h fun i hi' => hs i (hi i hi')) h
theorem OwnC.lt {d : Nat} {H : Ac} {ts : List Nat} {raw cells : List AV} {ids : List Nat} (h : OwnC d H ts raw cells ids) : ∀ i ∈ ids, i < H.length := Su (fun t x a h => P7 d t x a h) h
theorem OwnC.grow {d : Nat} {H : Ac} {ts : List Nat} {raw cells : List AV} {ids : List Nat} (h : OwnC d H ts raw cells ids) (X : List J4) : OwnC d (H ++ X) ts raw cells ids :=
 h.frame fun i hi => zam (h.lt i hi)
theorem OwnC.append {d : Nat} {H : Ac} {ts us : List Nat} {raw raw' cells cells' : List AV} {ids ids' : List Nat} (h : OwnC d H ts raw cells ids) (h' : OwnC d H us raw' cells' ids') : OwnC d H (ts ++ us) (raw ++ raw') (cells ++ cells') (ids ++ ids') := P5 h h'
theorem OwnC.len {d : Nat} {H : Ac} {ts : List Nat} {raw cells : List AV} {ids : List Nat} (h : OwnC d H ts raw cells ids) : ts.length = raw.length ∧ cells.length = raw.length := Wq h
def OwnS (d : Nat) (H : Ac) (w : Nat) (cty : List Nat) (x : AV) (k : Nat) (cells : List AV) : Prop :=
 (x = .nl ∧ k = 0 ∧ cells = []) ∨ ∃ id raw ids, x = .sl id 0 k w ∧ H[id]? = some ⟨raw, true, true⟩ ∧ raw.length = k * w ∧ OwnC d H (zah k cty).flatten raw cells ids ∧ (id :: ids).Nodup
theorem OwnS.nil (d : Nat) (H : Ac) (w : Nat) (cty : List Nat) : OwnS d H w cty .nl 0 [] := .inl ⟨rfl, rfl, rfl⟩
theorem OwnS.grow {d : Nat} {H : Ac} {w : Nat} {cty : List Nat} {x : AV} {k : Nat} {cells : List AV} (h : OwnS d H w cty x k cells) (X : List J4) : OwnS d (H ++ X) w cty x k cells := by
 rcases h with h | ⟨id, raw, ids, h1, h2, h3, h4, h5⟩
 ·exact .inl h
 ·exact .inr ⟨id, raw, ids, h1, by rw [zam (zad.1 h2).1]; exact h2, h3, h4.grow X, h5⟩
variable {β : Type} {n : Nat} {r : Option β}
theorem Aml (A : Ac) (b : J4) (R : Ac) : (A ++ b :: R)[A.length]? = some b := by
 rw [zak (zap _), zaT]
 rfl
theorem Aid {d : Nat} {H X : Ac} {w bytes : Nat} {cty : List Nat} {x : AV} {k : Nat} {cells er ec : List AV} {eids : List Nat} {K : KO β} (hx : OwnS d H w cty x k cells) (hw : er.length = w) (hl : er.all Bj = true)
  (he : OwnC d (H ++ X) cty er ec eids) (hn : eids.Nodup) (hge : ∀ i ∈ eids, H.length ≤ i) (hb : (k + 1) * bytes ≤ 140737488355328)
  (h : ∀ x' H', OwnS d H' w cty x' (k + 1) (cells ++ ec) → K x' H' = r) :
  H4 1 w er true (H ++ X) (fun y G => Mo w bytes x y G K) = r := by
 have hy : ∀ G : Ac, Ej (G ++ [⟨er, true, true⟩]) w (.sl G.length 0 1 w) = some er := by
  intro G
  simp only [Ej, if_true, Nat.one_mul, Ba, Aml G _ [], zav, hw, zap, zaW]
  rw [← hw, zaL]
 have hell : (H ++ X).length ∉ eids := fun hm => Nat.lt_irrefl _ (he.lt _ hm)
 rcases hx with ⟨rfl, rfl, rfl⟩ | ⟨id, raw, ids, rfl, h2, h3, h4, h5⟩
 ·simp only [H4, Mo, J6, zac, hy]
  rw [show Ej (H ++ X ++ [⟨er, true, true⟩]) w .nl = some [] from rfl]
  simp only [zac, Ti]
  rw [if_pos hb, if_pos hl]
  refine h _ _ (.inr ⟨_, er, eids, rfl, ?_, by simp [hw], ?_, ?_⟩)
  ·rw [zak (zap _), zaT]
   rfl
  ·simp only [zav, List.replicate_one, za3, zbw, zan, zag]
   exact (he.grow _).grow _
  ·rw [zbj]
   refine ⟨fun hm => ?_, hn⟩
   have := he.lt _ hm
   simp at this
   omega
 ·have hid : id < H.length := (zad.1 h2).1
  have hg : (H ++ X ++ [(⟨er, true, true⟩ : J4)])[id]? = some ⟨raw, true, true⟩ := by
   rw [zai, zam hid]
   exact h2
  have hcx : Ej (H ++ X ++ [⟨er, true, true⟩]) w (.sl id 0 k w) = some raw := by
   simp only [Ej, if_true, Ba, hg, zav, h3, zap, zaW]
   rw [← h3, zaL]
  simp only [H4, Mo, J6, zac, hy, hcx, Ti, hg, if_true]
  rw [if_pos hb, if_pos hl]
  have hn5 := zbj.1 h5
  have hne : ∀ i ∈ ids, i ≠ id := fun i hi e => hn5.1 (e ▸ hi)
  have hne2 : ∀ i ∈ eids, i ≠ id := fun i hi e => by
   have := hge i hi
   omega
  refine h _ _ (.inr ⟨_, raw ++ er, ids ++ eids, rfl, ?_, by simp [h3, hw, zbJ], ?_, ?_⟩)
  ·rw [zak (zap _), zaT]
   rfl
  ·have e : (zah (k + 1) cty).flatten = (zah k cty).flatten ++ cty := by
    rw [List.replicate_succ', zbr]
    simp
   rw [e]
   refine OwnC.append ?_ ?_
   ·refine OwnC.grow (OwnC.frame (H := H ++ X ++ [⟨er, true, true⟩]) ((h4.grow X).grow _) fun i hi => ?_) _
    rw [zbC (fun e => hne i hi e.symm)]
   ·refine OwnC.grow (OwnC.frame (H := H ++ X ++ [⟨er, true, true⟩]) (he.grow _) fun i hi => ?_) _
    rw [zbC (fun e => hne2 i hi e.symm)]
  ·rw [zbj]
   refine ⟨fun hm => ?_, ?_⟩
   ·rcases zaV.1 hm with hm | hm
    ·have := h4.lt _ hm
     simp at this
     omega
    ·have := he.lt _ hm
     simp at this
     omega
   ·rw [zbb]
    refine ⟨hn5.2, hn, fun a ha b hb e => ?_⟩
    have h1 := h4.lt a ha
    have h2 := hge b hb
    omega
theorem AjI {d : Nat} {H : Ac} {w tyS k : Nat} {cty : List Nat} {x : AV} {cells : List AV} (hty : ∃ i j, As tyS = some i ∧ As i.elem = some j ∧ j.size = w ∧ j.cty = cty) (h : OwnS d H w cty x k cells) : ∃ ids, Dg As E0.tp H (d + 1) tyS x = some (.ro k cells, ids) ∧ ids.Nodup := by
 rcases h with ⟨rfl, rfl, rfl⟩ | ⟨id, raw, ids, rfl, h2, h3, h4, h5⟩
 ·exact ⟨[], rfl, List.nodup_nil⟩
 ·obtain ⟨i, j, e1, e2, rfl, rfl⟩ := hty
  refine ⟨id :: ids, ?_, h5⟩
  rw [Ju]
  have ha : Ka H id = true := by simp only [Ka, h2]
  have hr : Ba H id 0 (k * j.size) = some raw := by
   simp only [Ba, h2, if_true, zav, h3, zap, zaW]
   rw [← h3, zaL]
  have h4' : Em (Dg As E0.tp H d) (zah k j.cty).flatten raw = some (cells, ids) := h4
  simp only [e1, e2, zac, if_true, ha, hr, h4']
end
section
open Go
def Co (s : ByteArray) : Bool := Bd s && !(s.toList == (⟨#[]⟩ : ByteArray).toList) && !(I1 s 43) && !(I1 s 35) && decide (((Bm s).length : Int) ≤ 6)
section
variable {β : Type} {n : Nat} {H : Ac} {r : Option β}
theorem AcS {ty f len : Nat} {args vs cells : List AV} {K : KO β} (hh : E9 f = false) (hv : args.mapM (Dt H 8) = some vs) (ht : Bz E0 n ty f vs = some (.ro len cells)) (h : ∀ N X sz, K (.sl N 0 len sz) (H ++ X) = r) : (PR n β).call ty (.fn f [] []) args H (fun x H => K x H) = r := by
 rw [Hn hh hv ht]
 exact h _ _ _
theorem AhQ {b b' : Bool} (h : b = b') : some (AV.sc (.bool b)) = some (AV.sc (.bool b')) := by rw [h]
theorem AhR {id off m w : Nat} {K : AV → Option β} (h : K (.sc (.int .i64 m)) = r) : Jb (.sl id off m w) (fun t => K t) = r := h
end
section has
variable (n : Nat) (k : AV → Ac → Option AV) (H : Ac)
theorem Aa7 (s : ByteArray) (b : UInt8) (hs : s.size ≤ 1048576) : ∀ (r pre : List UInt8) (m : Nat), s.data.toList = pre ++ r → r.length < m →
  Oh (PR n AV) n k m (ss s) (su b.toNat) (si pre.length) H = k (sb (r.any fun c => c == b)) H
 | [], pre, m + 1, hl, hm => by
  have h1 : s.size = pre.length := by
   have := congrArg List.length hl
   simpa using this
  rw [Oh]
  simp only [Fj, Dl, Cx]
  rw [We, G3, h1, Dn, if_neg (by simp)]
  rfl
 | c :: r, pre, m + 1, hl, hm => by
  have h1 : s.size = pre.length + r.length + 1 := by
   have := congrArg List.length hl
   simpa [zaN] using this
  rw [Oh]
  simp only [Fj, Dl, Cx, K6]
  rw [We, G3, Dn, if_pos (by simp; omega), AkC s pre.length c _ (by rw [hl]; simp)]
  have he : ∀ K : AV → Option AV, C7 .eql (su (c.toNat : Int)) (su (b.toNat : Int)) K = K (sb (c == b)) := by
   intro K
   show K (.sc (.bool ((c.toNat : Int) == (b.toNat : Int)))) = _
   congr 3
   rw [zbq, beq_iff_eq, beq_iff_eq, Int.ofNat_inj, UInt8.toNat_inj]
  rw [he, Dn, zbB]
  cases hcb : (c == b)
  rw [if_neg (by simp), Hd _ _ (by omega)]
  have ih := Aa7 s b hs r (pre ++ [c]) m (by rw [hl]; simp) (by simpa using hm)
  rw [zaf, zaq] at ih
  rw [ih]
  rfl
  rw [if_pos rfl]
  rfl
end has
theorem An8 (n : Nat) (hn : 1048576 < n) (ty : Nat) (s : ByteArray) (b : UInt8) (hs : s.size ≤ 1048576) : Bz E0 (n + 1) ty 127 [.sc (.string s), .sc (.int .u8 b.toNat)] = some (.sc (.bool (I1 s b))) := by
 rw [At, AiD, f127]
 have key := Aa7 n (fun x H => Bc As E0.tp ty H x) [] s b hs s.data.toList [] n rfl (by simp; omega)
 simp only [zao, zaI] at key
 rw [key]
 rfl
theorem AkB (n : Nat) (hn : 1048576 < n) (ty : Nat) (s : ByteArray) (hs : s.size ≤ 1048576) : Bz E0 (n + 1) ty 127 [.sc (.string s), .sc (.int .u8 43)] = some (.sc (.bool (I1 s 43))) := An8 n hn ty s 43 hs
theorem AgR (n : Nat) (hn : 1048576 < n) (ty : Nat) (s : ByteArray) (hs : s.size ≤ 1048576) : Bz E0 (n + 1) ty 127 [.sc (.string s), .sc (.int .u8 35)] = some (.sc (.bool (I1 s 35))) := An8 n hn ty s 35 hs
theorem AjY : ∃ i j, As 56 = some i ∧ As i.elem = some j ∧ j.size = 1 ∧ j.cty = [i.elem] := ⟨_, _, rfl, rfl, rfl, rfl⟩
def AjX (l : List UInt8) : AV := .sc (.string (ofL l))
theorem AaH (s : ByteArray) (P cur r : List UInt8) (h : s.data.toList = P ++ (cur ++ r)) : s.extract P.length (P.length + cur.length) = ofL cur := by
 have : (s.extract P.length (P.length + cur.length)).data.toList = cur := by
  rw [ByteArray.data_extract, Array.toList_extract, List.extract, h]
  rw [zaQ (zap _), zb5, zag, Nat.add_sub_cancel_left, List.take_append_of_le_length (zap _), zaL]
 rw [← AaG (s.extract _ _), this]
theorem Yh {H : Ac} {x : AV} {cnt : Nat} {cells : List AV} {K : AV → Ac → Option AV} {r : Option AV} (s : ByteArray) (P cur rest : List UInt8) (hl : s.data.toList = P ++ (cur ++ rest)) (hs : s.size ≤ 1048576) (hx : OwnS 7 H 1 [9] x cnt cells) (hc : cnt ≤ 1048577)
  (h : ∀ x' H', OwnS 7 H' 1 [9] x' (cnt + 1) (cells ++ [AjX cur]) → K x' H' = r) :
  (Qq (ss s) (some (si P.length)) (some (si ((P.length + cur.length : Nat) : Int))) fun t27 => (Lf [sE] [(0, 1, t27)]).bind fun ct28 => H4 1 1 ct28 true H fun t28 H => Mo 1 16 x t28 H K) = r := by
 have hsz : P.length + cur.length ≤ s.size := by
  have := congrArg List.length hl
  simp at this
  omega
 simp only [Qq, asS, O2, asI, zac]
 rw [if_pos (by omega)]
 simp only [zbo]
 rw [AaH s P cur rest hl]
 have hf : Lf [sE] [(0, 1, ss (ofL cur))] = some [ss (ofL cur)] := rfl
 rw [hf, zac]
 have key := Aid (H := H) (X := []) (bytes := 16) (er := [ss (ofL cur)]) (ec := [AjX cur]) (eids := []) (K := K) (r := r) hx rfl rfl rfl List.nodup_nil (fun i hi => by cases hi) (by omega) h
 rw [zan] at key
 exact key
theorem Wf (n : Nat) (s : ByteArray) (hs : s.size ≤ 1048576) : ∀ (r P cur : List UInt8) (m : Nat) (x : AV) (H : Ac) (cnt : Nat) (cells : List AV), s.data.toList = P ++ (cur ++ r) → r.length + 1 < m → OwnS 7 H 1 [9] x cnt cells → cnt ≤ P.length →
  Lp (PR n AV) n (fun x H => Bc As E0.tp 56 H x) m (ss s) x (si P.length) (si ((P.length + cur.length : Nat) : Int)) H = some (.ro (cnt + (lvL cur r).length) (cells ++ (lvL cur r).map AjX))
 | [], P, cur, m + 2, x, H, cnt, cells, hl, hm, hx, hc => by
  have h1 : s.size = P.length + cur.length := by
   have := congrArg List.length hl
   simpa using this
  rw [Lp]
  simp only [Fj, Dl, Cx, Fe, Pr.gT, Pr.gF, Pr.hT, Pr.hF, Pr.kT, Pr.kF, Gb, Hh, Ik, Ia, Me, K6]
  rw [We, AaF, Dn, if_pos (by simp; omega), We, Akg]
  have he : (((P.length + cur.length : Nat) : Int) == (s.size : Int)) = true := by simp; omega
  refine J7 he (J7 he (J7 he (J7 he (AeR he (Qz rfl (Yh s P cur [] hl hs hx (by omega) fun x' H' hx' => ?_))))))
  rw [Hd _ _ (by omega), Hd _ _ (by omega)]
  rw [Lp]
  simp only [Fj, Dl, Cx]
  rw [We, AaF, Dn, if_neg (by simp; omega)]
  obtain ⟨i, j, e1, e2, e3, e4⟩ := AjY
  obtain ⟨ids, ho, hno⟩ := AjI (d := 7) (tyS := 56) (w := 1) (cty := [9]) ⟨_, _, rfl, rfl, rfl, rfl⟩ hx'
  rw [Bc, ho, zac, if_pos hno]
  rfl
 | c :: r, P, cur, m + 1, x, H, cnt, cells, hl, hm, hx, hc => by
  have h1 : s.size = P.length + cur.length + r.length + 1 := by
   have := congrArg List.length hl
   simp at this
   omega
  have hidx : s.data.toList[P.length + cur.length]? = some c := by
   rw [hl, ← zai, ← zaf, zak (zap _), zaT]
   rfl
  rw [Lp]
  simp only [Fj, Dl, Cx, Fe, Pr.gT, Pr.gF, Pr.hT, Pr.hF, Pr.kT, Pr.kF, Gb, Hh, Ik, Ia, Me, K6]
  rw [We, AaF, Dn, if_pos (by simp; omega), We, Akg]
  have he : (((P.length + cur.length : Nat) : Int) == (s.size : Int)) = false := by simp; omega
  refine I3 he (I3 he (I3 he ?_))
  rw [AkC s (P.length + cur.length) c _ hidx]
  refine I3 he (Dh (v := sb (c == 47)) (fun K => ?_) ?_)
  show K (.sc (.bool ((c.toNat : Int) == (47 : Int)))) = _
  congr 3
  rw [zbq, beq_iff_eq, beq_iff_eq, show (47 : Int) = (((47 : UInt8).toNat : Nat) : Int) from rfl, Int.ofNat_inj, UInt8.toNat_inj]
  refine Acn he ?_
  rw [lvL]
  by_cases h47 : c = 47
  refine Qz (by simp [h47]) (Yh s P cur (c :: r) hl hs hx (by omega) fun x' H' hx' => ?_)
  rw [Hd _ _ (by omega), Hd _ _ (by omega), if_pos h47]
  have ih := Wf n s hs r (P ++ cur ++ [c]) [] m x' H' (cnt + 1) (cells ++ [AjX cur]) (by rw [hl]; simp) (by simpa using hm) hx' (by simp; omega)
  simp only [zaf, zao, zaq, zba] at ih
  rw [ih]
  simp [zaN, zbE]
  refine Tz (by simpa using h47) ?_
  rw [Hd _ _ (by omega), if_neg h47]
  have ih := Wf n s hs r P (cur ++ [c]) m x H cnt cells (by rw [hl]; simp) (by simpa using hm) hx hc
  rw [zaf, zaq, ← zaN] at ih
  exact ih
theorem Uj (n : Nat) (hn : 1048577 < n) (s : ByteArray) (hs : s.size ≤ 1048576) : Bz E0 (n + 1) 56 128 [.sc (.string s)] = some (.ro (Bm s).length ((Bm s).map fun x => .sc (.string x))) := by
 rw [At, AiE, f128]
 have key := Wf n s hs s.data.toList [] [] n .nl [] 0 [] rfl (by simp; omega) (OwnS.nil _ _ _ _) (by simp)
 simp only [zao, zaI, zav, zag] at key
 rw [key, Bm, List.length_map, zbK]
 rfl
theorem Ua (n : Nat) (s : ByteArray) (hs : s.size ≤ 1048576) : Bz E0 (n + 1) 56 137 [.sc (.string s)] = some (.ro (Bm s).length ((Bm s).map fun x => .sc (.string x))) := by
 rw [At, AiL, f137]
 have hg : Tg 56 [ss s, .sc (.string ⟨#[47]⟩)] = some (.ro (Bm s).length ((Bm s).map fun x => ss x)) := by
  unfold Tg
  exact if_pos ⟨rfl, rfl, by omega⟩
 rw [Abj (g := Tg) rfl (Ds (Gx _ _) (Ds (Gx _ _) I2)) hg]
 refine Zx [] _ _ ?_
 refine ⟨_, _, rfl, rfl, by simp, ?_⟩
 have := Qn (f := I0 As E0.tp 7) (cty := [9]) (enc := fun x : ByteArray => [ss x]) (Bm s) (fun x _ => ⟨trivial, trivial⟩)
 rw [Nr] at this
 exact this
theorem Xy (ty : Nat) (s : ByteArray) (hs : s.size ≤ 1048576) : Vl ty [.sc (.string s), .sc (.string ⟨#[43, 35]⟩)] = some (.sc (.bool (vPH s))) := by
 unfold Vl
 exact if_pos ⟨rfl, by omega⟩
end
section
open Go
section
variable {ti : Nat → Option TI} {tp : Nat → Option (List Nat)} {H : Ac}
theorem P6 {d d' : Nat} (hd : ∀ ty x t I, Dg ti tp H d ty x = some (t, I) → I0 ti tp d' ty t → Dg ti tp H d' ty x = some (t, I)) : ∀ (ts : List Nat) (xs cells : List AV) (I : List Nat), Em (Dg ti tp H d) ts xs = some (cells, I) → Hj (I0 ti tp d') ts cells → Em (Dg ti tp H d') ts xs = some (cells, I)
 | ts, [], cells, I, h, _ => by
  obtain ⟨rfl, e⟩ := Js h
  cases e
  rfl
 | [], _ :: _, _, _, h, _ => by simp [Em] at h
 | t :: ts, x :: xs, cells, I, h, ho => by
  obtain ⟨a, b, h1, h2, e⟩ := Im h
  cases e
  have e1 := hd t x a.1 a.2 h1 ho.1
  have e2 := P6 hd ts xs b.1 b.2 h2 ho.2
  rw [Em, e1, zac, e2]
  rfl
theorem Kq : ∀ (d d' ty : Nat) (x t : AV) (I : List Nat), Dg ti tp H d ty x = some (t, I) → I0 ti tp d' ty t → Dg ti tp H d' ty x = some (t, I)
 | 0, _, _, _, _, _, h, _ => by simp [Dg] at h
 | d + 1, 0, _, _, _, _, _, ho => by cases ho
 | d + 1, d' + 1, ty, x, t, I, h, ho => by
  cases x with
  | sc v =>
   obtain ⟨rfl, rfl⟩ : AV.sc v = t ∧ [] = I := by simpa [Dg] using h
   rfl
  | nl =>
   obtain ⟨rfl, rfl⟩ : AV.ro 0 [] = t ∧ [] = I := by simpa [Dg] using h
   rfl
  | sl id off n z =>
   rw [Ju] at h ⊢
   simp only [zab] at h
   obtain ⟨i, h1, j, h2, h3⟩ := h
   split at h3
   case isFalse => cases h3
   rename_i hz
   split at h3
   case isFalse => cases h3
   rename_i ha
   simp only [zab] at h3
   obtain ⟨cs, h4, q, h5, h6⟩ := h3
   obtain ⟨rfl, rfl⟩ : AV.ro n q.1 = t ∧ id :: q.2 = I := by simpa using h6
   obtain ⟨i', j', g1, g2, g3, g4⟩ := ho
   rw [h1] at g1
   cases g1
   rw [h2] at g2
   cases g2
   have e3 := P6 (fun ty x t I h ho => Kq d d' ty x t I h ho) _ _ _ _ h5 g4
   rw [hz] at h4
   simp only [h1, h2, zac, hz, if_true, ha, h4, e3]
  | agg cs =>
   rw [Jt] at h ⊢
   simp only [zab] at h
   obtain ⟨i, h1, q, h2, h3⟩ := h
   obtain ⟨rfl, rfl⟩ : AV.agg q.1 = t ∧ q.2 = I := by simpa using h3
   obtain ⟨i', g1, g2⟩ := ho
   rw [h1] at g1
   cases g1
   have e3 := P6 (fun ty x t I h ho => Kq d d' ty x t I h ho) _ _ _ _ h2 g2
   rw [h1, zac, e3]
   rfl
  | tup cs =>
   rw [K1] at h ⊢
   simp only [zab] at h
   obtain ⟨i, h1, q, h2, h3⟩ := h
   obtain ⟨rfl, rfl⟩ : AV.tup q.1 = t ∧ q.2 = I := by simpa using h3
   obtain ⟨i', g1, g2⟩ := ho
   rw [h1] at g1
   cases g1
   have e3 := P6 (fun ty x t I h ho => Kq d d' ty x t I h ho) _ _ _ _ h2 g2
   rw [h1, zac, e3]
   rfl
  | _ => simp [Dg] at h
theorem Ys {d : Nat} (hd : ∀ ty x t I, Dg ti tp H d ty x = some (t, I) → Dt H d x = some t) : ∀ (ts : List Nat) (xs cells : List AV) (I : List Nat), Em (Dg ti tp H d) ts xs = some (cells, I) → xs.mapM (Dt H d) = some cells
 | ts, [], cells, I, h => by
  obtain ⟨rfl, e⟩ := Js h
  cases e
  rfl
 | [], _ :: _, _, _, h => by simp [Em] at h
 | t :: ts, x :: xs, cells, I, h => by
  obtain ⟨a, b, h1, h2, e⟩ := Im h
  cases e
  simp only [za4, hd t x a.1 a.2 h1, Ys hd ts xs b.1 b.2 h2, zbd, zaO, zac]
theorem P8 : ∀ (d ty : Nat) (x t : AV) (I : List Nat), Dg ti tp H d ty x = some (t, I) → Dt H d x = some t
 | 0, _, _, _, _, h => by simp [Dg] at h
 | d + 1, ty, x, t, I, h => by
  have ih := Ys (ti := ti) (tp := tp) (H := H) (d := d) (fun ty x t I h => P8 d ty x t I h)
  cases x with
  | sc v =>
   obtain ⟨rfl, rfl⟩ : AV.sc v = t ∧ [] = I := by simpa [Dg] using h
   rfl
  | nl =>
   obtain ⟨rfl, rfl⟩ : AV.ro 0 [] = t ∧ [] = I := by simpa [Dg] using h
   rfl
  | sl id off n z =>
   rw [Ju] at h
   simp only [zab] at h
   obtain ⟨i, h1, j, h2, h3⟩ := h
   split at h3
   case isFalse => cases h3
   split at h3
   case isFalse => cases h3
   simp only [zab] at h3
   obtain ⟨cs, h4, q, h5, h6⟩ := h3
   obtain ⟨rfl, rfl⟩ : AV.ro n q.1 = t ∧ id :: q.2 = I := by simpa using h6
   rw [S9, h4, zac, ih _ _ _ _ h5]
   rfl
  | agg cs =>
   rw [Jt] at h
   simp only [zab] at h
   obtain ⟨i, h1, q, h2, h3⟩ := h
   obtain ⟨rfl, rfl⟩ : AV.agg q.1 = t ∧ q.2 = I := by simpa using h3
   rw [Qx, ih _ _ _ _ h2]
   rfl
  | tup cs =>
   rw [K1] at h
   simp only [zab] at h
   obtain ⟨i, h1, q, h2, h3⟩ := h
   obtain ⟨rfl, rfl⟩ : AV.tup q.1 = t ∧ q.2 = I := by simpa using h3
   show (cs.mapM (Dt H d)).bind _ = _
   rw [ih _ _ _ _ h2]
   rfl
  | _ => simp [Dg] at h
theorem Ny {f g : Nat → AV → Prop} (hfg : ∀ t x, f t x → g t x) : ∀ {ts : List Nat} {cs : List AV}, Hj f ts cs → Hj g ts cs
 | [], [], h => h
 | _ :: ts, _ :: cs, h => ⟨hfg _ _ h.1, Ny hfg h.2⟩
theorem Sr : ∀ (d ty : Nat) (x : AV), I0 ti tp d ty x → I0 ti tp (d + 1) ty x
 | 0, _, _, h => by cases h
 | d + 1, ty, x, h => by
  cases x with
  | sc v => trivial
  | ro n cells =>
   obtain ⟨i, j, h1, h2, h3, h4⟩ := h
   exact ⟨i, j, h1, h2, h3, Ny (Sr d) h4⟩
  | agg cs =>
   obtain ⟨i, h1, h2⟩ := h
   exact ⟨i, h1, Ny (Sr d) h2⟩
  | tup cs =>
   obtain ⟨i, h1, h2⟩ := h
   exact ⟨i, h1, Ny (Sr d) h2⟩
  | _ => cases h
theorem B6 {d d' ty : Nat} {x : AV} (h : I0 ti tp d ty x) (hd : d ≤ d') : I0 ti tp d' ty x := by
 induction hd with
 | refl => exact h
 | step _ ih => exact Sr _ _ _ ih
theorem AjE {d d' : Nat} {ts : List Nat} {cs : List AV} (h : Hj (I0 ti tp d) ts cs) (hd : d ≤ d') : Hj (I0 ti tp d') ts cs := Ny (fun _ _ h => B6 h hd) h
end
inductive Ck where
 | blk (id : Nat) (cs : List AV) (a : Bool)
 | own (x : AV) (ty : Nat) (t : AV)
 | shr (x : AV) (ty : Nat) (t : AV) (y : AV) (ty' : Nat) (t' : AV)
 | shs (x : AV) (ty : Nat) (t : AV) (ys : List (AV × Nat × AV))
def CkOk (H : Ac) (c : Ck) (I : List Nat) : Prop :=
 match c with
 | .blk id cs a => I = [id] ∧ H[id]? = some ⟨cs, true, a⟩
 | .own x ty t => Bj x = true ∧ I0 As E0.tp 6 ty t ∧ Dg As E0.tp H 6 ty x = some (t, I)
 | .shr x ty t y ty' t' => (Bj x = true ∧ I0 As E0.tp 6 ty t ∧ Dg As E0.tp H 6 ty x = some (t, I)) ∧ I0 As E0.tp 6 ty' t' ∧ ∃ J, Dg As E0.tp H 6 ty' y = some (t', J) ∧ ∀ i ∈ J, i ∈ I
 | .shs x ty t ys => (Bj x = true ∧ I0 As E0.tp 6 ty t ∧ Dg As E0.tp H 6 ty x = some (t, I)) ∧ ∀ q ∈ ys, I0 As E0.tp 6 q.2.1 q.2.2 ∧ ∃ J, Dg As E0.tp H 6 q.2.1 q.1 = some (q.2.2, J) ∧ ∀ i ∈ J, i ∈ I
def SepI (H : Ac) : List Ck → List Nat → Prop
 | [], I => I = []
 | c :: L, I => ∃ J R, I = J ++ R ∧ CkOk H c J ∧ SepI H L R
def Sep (H : Ac) (L : List Ck) : Prop := ∃ I, SepI H L I ∧ I.Nodup
inductive Pk : List Ck → Ck → List Ck → Prop
 | here {c : Ck} {L : List Ck} : Pk (c :: L) c L
 | there {a c : Ck} {L L' : List Ck} : Pk L c L' → Pk (a :: L) c (a :: L')
section
variable {H H' : Ac} {L L' L1 L2 : List Ck} {c : Ck} {I J R : List Nat}
theorem B5 : Sep H [] := ⟨[], rfl, List.nodup_nil⟩
theorem CkOk.frame (h : CkOk H c I) (hs : ∀ i ∈ I, H'[i]? = H[i]?) : CkOk H' c I := by
 cases c with
 | blk id cs a =>
  obtain ⟨rfl, h2⟩ := h
  exact ⟨rfl, by rw [hs id (by simp)]; exact h2⟩
 | own x ty t => exact ⟨h.1, h.2.1, Gk 6 ty x _ h.2.2 hs⟩
 | shr x ty t y ty' t' =>
  obtain ⟨⟨h1, h2, h3⟩, h4, J, h5, h6⟩ := h
  exact ⟨⟨h1, h2, Gk 6 ty x _ h3 hs⟩, h4, J, Gk 6 ty' y _ h5 fun i hi => hs i (h6 i hi), h6⟩
 | shs x ty t ys =>
  obtain ⟨⟨h1, h2, h3⟩, h4⟩ := h
  exact ⟨⟨h1, h2, Gk 6 ty x _ h3 hs⟩, fun q hq => by
   obtain ⟨g1, J, g2, g3⟩ := h4 q hq
   exact ⟨g1, J, Gk 6 _ _ _ g2 fun i hi => hs i (g3 i hi), g3⟩⟩
theorem CkOk.lt (h : CkOk H c I) : ∀ i ∈ I, i < H.length := by
 cases c with
 | blk id cs a =>
  obtain ⟨rfl, h2⟩ := h
  intro i hi
  rw [zbk] at hi
  subst hi
  exact (zad.1 h2).1
 | own x ty t => exact P7 6 ty x _ h.2.2
 | shr x ty t y ty' t' => exact P7 6 ty x _ h.1.2.2
 | shs x ty t ys => exact P7 6 ty x _ h.1.2.2
theorem SepI.frame : ∀ {L : List Ck} {I : List Nat}, SepI H L I → (∀ i ∈ I, H'[i]? = H[i]?) → SepI H' L I
 | [], I, h, _ => h
 | c :: L, I, h, hs => by
  obtain ⟨J, R, rfl, h1, h2⟩ := h
  exact ⟨J, R, rfl, h1.frame fun i hi => hs i (zaF _ hi), h2.frame fun i hi => hs i (zaM _ hi)⟩
theorem SepI.lt : ∀ {L : List Ck} {I : List Nat}, SepI H L I → ∀ i ∈ I, i < H.length
 | [], I, h => by
  cases (show I = [] from h)
  intro i hi
  cases hi
 | c :: L, I, h => by
  obtain ⟨J, R, rfl, h1, h2⟩ := h
  intro i hi
  rcases zaV.1 hi with hi | hi
  ·exact h1.lt i hi
  ·exact h2.lt i hi
theorem SepI.grow (h : SepI H L I) (X : List J4) : SepI (H ++ X) L I := h.frame fun i hi => zam (h.lt i hi)
theorem Sep.grow (h : Sep H L) (X : List J4) : Sep (H ++ X) L := by
 obtain ⟨I, h1, h2⟩ := h
 exact ⟨I, h1.grow X, h2⟩
theorem Sep.new {X : List J4} (hs : Sep H L) (hc : CkOk (H ++ X) c J) (hJ : J.Nodup) (hge : ∀ i ∈ J, H.length ≤ i) : Sep (H ++ X) (c :: L) := by
 obtain ⟨I, h1, h2⟩ := hs
 refine ⟨J ++ I, ⟨J, I, rfl, hc, h1.grow X⟩, zbb.2 ⟨hJ, h2, fun a ha b hb e => ?_⟩⟩
 have := h1.lt b hb
 have := hge a ha
 omega
theorem Pk.sepI : ∀ {L L' : List Ck} {c : Ck} {I : List Nat}, Pk L c L' → SepI H L I → ∃ J R, CkOk H c J ∧ SepI H L' R ∧ I.Perm (J ++ R)
 | _, _, _, _, .here, h => by
  obtain ⟨J, R, rfl, h1, h2⟩ := h
  exact ⟨J, R, h1, h2, zbA.refl _⟩
 | _, _, _, _, .there p, h => by
  obtain ⟨J, R, rfl, h1, h2⟩ := h
  obtain ⟨J', R', g1, g2, g3⟩ := p.sepI h2
  refine ⟨J', J ++ R', g1, ⟨J, R', rfl, h1, g2⟩, ?_⟩
  refine (zbA.append_left J g3).trans ?_
  rw [← zai, ← zai]
  exact zbA.append_right R' List.perm_append_comm
theorem Sep.pick (h : Sep H L) (p : Pk L c L') : Sep H (c :: L') := by
 obtain ⟨I, h1, h2⟩ := h
 obtain ⟨J, R, g1, g2, g3⟩ := p.sepI h1
 exact ⟨J ++ R, ⟨J, R, rfl, g1, g2⟩, g3.nodup_iff.1 h2⟩
theorem Sep.tail (h : Sep H (c :: L)) : Sep H L := by
 obtain ⟨I, ⟨J, R, rfl, h1, h2⟩, h3⟩ := h
 exact ⟨R, h2, (zbb.1 h3).2.1⟩
theorem Sep.blk {id : Nat} {cs : List AV} {a : Bool} (h : Sep H L) (p : Pk L (.blk id cs a) L') : H[id]? = some ⟨cs, true, a⟩ := by
 obtain ⟨I, ⟨J, R, rfl, h1, h2⟩, h3⟩ := h.pick p
 exact h1.2
theorem Sep.put {id : Nat} {cs : List AV} {a : Bool} (h : Sep H L) (p : Pk L (.blk id cs a) L') (cs' : List AV) (a' : Bool) : Sep (H.set id ⟨cs', true, a'⟩) (.blk id cs' a' :: L') := by
 obtain ⟨I, ⟨J, R, rfl, ⟨rfl, h1⟩, h2⟩, h3⟩ := h.pick p
 have hn := (zbj.1 h3).1
 have hl := (zad.1 h1).1
 refine ⟨[id] ++ R, ⟨[id], R, rfl, ⟨rfl, by rw [List.getElem?_set_self hl]⟩, h2.frame fun i hi => ?_⟩, h3⟩
 rw [zbC]
 rintro rfl
 exact hn hi
theorem Sep.own {x t : AV} {ty : Nat} (h : Sep H L) (p : Pk L (.own x ty t) L') : Bj x = true ∧ I0 As E0.tp 6 ty t ∧ ∃ I, Dg As E0.tp H 6 ty x = some (t, I) ∧ I.Nodup := by
 obtain ⟨I, ⟨J, R, rfl, ⟨h0, h1, h1'⟩, h2⟩, h3⟩ := h.pick p
 exact ⟨h0, h1, J, h1', (zbb.1 h3).1⟩
theorem Sep.seen {x t y t' : AV} {ty ty' : Nat} (h : Sep H L) (p : Pk L (.shr x ty t y ty' t') L') : I0 As E0.tp 6 ty' t' ∧ ∃ I, Dg As E0.tp H 6 ty' y = some (t', I) := by
 obtain ⟨I, ⟨J, R, rfl, ⟨h0, h1, J', h1', h3⟩, h2⟩, h4⟩ := h.pick p
 exact ⟨h1, J', h1'⟩
theorem Sep.ofShs {x t : AV} {ty : Nat} {ys : List (AV × Nat × AV)} (h : Sep H L) (p : Pk L (.shs x ty t ys) L') : Sep H (.own x ty t :: L') := by
 obtain ⟨I, ⟨J, R, rfl, ⟨h0, _⟩, h2⟩, h3⟩ := h.pick p
 exact ⟨J ++ R, ⟨J, R, rfl, h0, h2⟩, h3⟩
theorem Sep.seenS {x t : AV} {ty k : Nat} {ys : List (AV × Nat × AV)} {q : AV × Nat × AV} (h : Sep H L) (p : Pk L (.shs x ty t ys) L') (hk : ys[k]? = some q) : I0 As E0.tp 6 q.2.1 q.2.2 ∧ ∃ I, Dg As E0.tp H 6 q.2.1 q.1 = some (q.2.2, I) := by
 obtain ⟨I, ⟨J, R, rfl, ⟨h0, h1⟩, h2⟩, h4⟩ := h.pick p
 obtain ⟨g1, J', g2, _⟩ := h1 q (List.mem_of_getElem? hk)
 exact ⟨g1, J', g2⟩
theorem Sep.nl {ty : Nat} (h : Sep H L) (hty : ∃ i j, As ty = some i ∧ As i.elem = some j) : Sep H (.own .nl ty (.ro 0 []) :: L) := by
 obtain ⟨I, h1, h2⟩ := h
 obtain ⟨i, j, e1, e2⟩ := hty
 exact ⟨[] ++ I, ⟨[], I, rfl, ⟨rfl, ⟨i, j, e1, e2, by simp, by simp [Hj]⟩, rfl⟩, h1⟩, h2⟩
inductive OwnR : List Ck → List AV → List Nat → List AV → List Ck → Prop
 | nil {L : List Ck} : OwnR L [] [] [] L
 | sc {L L' : List Ck} {v : Value} {raw cells : List AV} {ty : Nat} {tys : List Nat} : OwnR L raw tys cells L' → OwnR L (.sc v :: raw) (ty :: tys) (.sc v :: cells) L'
 | nl {L L' : List Ck} {raw cells : List AV} {ty : Nat} {tys : List Nat} : OwnR L raw tys cells L' → OwnR L (.nl :: raw) (ty :: tys) (.ro 0 [] :: cells) L'
 | own {L L1 L' : List Ck} {x t : AV} {raw cells : List AV} {ty : Nat} {tys : List Nat} : Pk L (.own x ty t) L1 → OwnR L1 raw tys cells L' → OwnR L (x :: raw) (ty :: tys) (t :: cells) L'
 | agg {L L1 L' : List Ck} {cs ts raw cells : List AV} {ty : Nat} {tys cty : List Nat} : (∃ i, As ty = some i ∧ i.cty = cty) → OwnR L cs cty ts L1 → OwnR L1 raw tys cells L' → OwnR L (.agg cs :: raw) (ty :: tys) (.agg ts :: cells) L'
theorem OwnR.sound : ∀ {L L' : List Ck} {raw cells : List AV} {tys : List Nat} {I : List Nat}, OwnR L raw tys cells L' → SepI H L I → ∀ d, Hj (I0 As E0.tp d) tys cells → ∃ J R, Em (Dg As E0.tp H d) tys raw = some (cells, J) ∧ SepI H L' R ∧ I.Perm (J ++ R)
 | _, _, _, _, _, I, .nil, h, d, _ => ⟨[], I, rfl, h, zbA.refl _⟩
 | _, _, _, _, _, I, .sc q, h, d + 1, ho => by
  obtain ⟨J, R, h1, h2, h3⟩ := q.sound h (d + 1) ho.2
  refine ⟨J, R, ?_, h2, h3⟩
  rw [Em, Zv, zac, h1]
  rfl
 | _, _, _, _, _, I, .nl q, h, d + 1, ho => by
  obtain ⟨J, R, h1, h2, h3⟩ := q.sound h (d + 1) ho.2
  refine ⟨J, R, ?_, h2, h3⟩
  rw [Em, show Dg As E0.tp H (d + 1) _ .nl = some (.ro 0 [], []) from rfl, zac, h1]
  rfl
 | _, _, _, _, _, I, .own p q, h, d, ho => by
  obtain ⟨J1, R1, g1, g2, g3⟩ := p.sepI h
  obtain ⟨J, R, h1, h2, h3⟩ := q.sound g2 d ho.2
  have e := Kq 6 d _ _ _ _ g1.2.2 ho.1
  refine ⟨J1 ++ J, R, ?_, h2, ?_⟩
  ·rw [Em, e, zac, h1]
   rfl
  ·refine g3.trans ?_
   rw [zai]
   exact zbA.append_left J1 h3
 | _, _, _, _, _, I, .agg hty p q, h, d + 1, ho => by
  obtain ⟨i, e1, rfl⟩ := hty
  obtain ⟨i', g1, g2⟩ := ho.1
  rw [e1] at g1
  cases g1
  obtain ⟨J1, R1, a1, a2, a3⟩ := p.sound h (d + 1) (AjE g2 (Nat.le_succ d))
  obtain ⟨J, R, h1, h2, h3⟩ := q.sound a2 (d + 1) ho.2
  have a1' := P6 (fun ty x t I h ho => Kq (d + 1) d ty x t I h ho) _ _ _ _ a1 g2
  refine ⟨J1 ++ J, R, ?_, h2, ?_⟩
  ·rw [Em, Jt, e1, zac, a1', zac, zac, h1]
   rfl
  ·refine a3.trans ?_
   rw [zai]
   exact zbA.append_left J1 h3
 | _, _, _, _, _, I, .sc q, h, 0, ho => by cases ho.1
 | _, _, _, _, _, I, .nl q, h, 0, ho => by cases ho.1
 | _, _, _, _, _, I, .agg _ p q, h, 0, ho => by cases ho.1
end
end
section
open Go
theorem Ct {a0 x : Ck} {L : List Ck} : Pk (a0 :: x :: L) x (a0 :: L) := .there (.here)
theorem Df {a0 a1 x : Ck} {L : List Ck} : Pk (a0 :: a1 :: x :: L) x (a0 :: a1 :: L) := .there (.there (.here))
theorem Nk {a0 a1 a2 x : Ck} {L : List Ck} : Pk (a0 :: a1 :: a2 :: x :: L) x (a0 :: a1 :: a2 :: L) := .there (.there (.there (.here)))
theorem Nl {a0 a1 a2 a3 x : Ck} {L : List Ck} : Pk (a0 :: a1 :: a2 :: a3 :: x :: L) x (a0 :: a1 :: a2 :: a3 :: L) := .there (.there (.there (.there (.here))))
theorem Xq {a0 a1 a2 a3 a4 x : Ck} {L : List Ck} : Pk (a0 :: a1 :: a2 :: a3 :: a4 :: x :: L) x (a0 :: a1 :: a2 :: a3 :: a4 :: L) := .there (.there (.there (.there (.there (.here)))))
theorem Z9 {a0 a1 a2 a3 a4 a5 x : Ck} {L : List Ck} : Pk (a0 :: a1 :: a2 :: a3 :: a4 :: a5 :: x :: L) x (a0 :: a1 :: a2 :: a3 :: a4 :: a5 :: L) := .there (.there (.there (.there (.there (.there (.here))))))
theorem zP7 {a0 a1 a2 a3 a4 a5 a6 x : Ck} {L : List Ck} : Pk (a0 :: a1 :: a2 :: a3 :: a4 :: a5 :: a6 :: x :: L) x (a0 :: a1 :: a2 :: a3 :: a4 :: a5 :: a6 :: L) := .there (.there (.there (.there (.there (.there (.there (.here)))))))
theorem zP8 {a0 a1 a2 a3 a4 a5 a6 a7 x : Ck} {L : List Ck} : Pk (a0 :: a1 :: a2 :: a3 :: a4 :: a5 :: a6 :: a7 :: x :: L) x (a0 :: a1 :: a2 :: a3 :: a4 :: a5 :: a6 :: a7 :: L) := .there (.there (.there (.there (.there (.there (.there (.there (.here))))))))
def Gd {β : Type} (G : Option β → Prop) (o : Option β) : Prop := G o
section
variable {β : Type} {n : Nat} {H : Ac} {L L' L1 L2 : List Ck} {G : Option β → Prop} {K : AV → Option β} {KH : KO β}
theorem D3 {a b : Option β} (e : a = b) (h : Gd G b) : Gd G a := by rw [e]; exact h
theorem Ie {cs : List AV} (hs : Sep H L) (h : ∀ i H', Sep H' (.blk i cs true :: L) → Gd G (KH (.ptr i 0) H')) : Gd G (Sy cs H fun x H => KH x H) :=
 h _ _ (hs.new (J := [H.length]) ⟨rfl, by rw [zak (zap _), zaT]; rfl⟩ (by simp) (by simp))
theorem Cg {k w : Nat} {cs : List AV} {a : Bool} (hs : Sep H L) (h : ∀ i H', Sep H' (.blk i cs a :: L) → Gd G (KH (.sl i 0 k w) H')) : Gd G (H4 k w cs a H fun x H => KH x H) :=
 h _ _ (hs.new (J := [H.length]) ⟨rfl, by rw [zak (zap _), zaT]; rfl⟩ (by simp) (by simp))
theorem Id {x : AV} {cs : List AV} (hs : Sep H L) (hc : Fm x = some cs) (h : ∀ i H', Sep H' (.blk i cs true :: L) → Gd G (KH (.ptr i 0) H')) : Gd G (Zz x H fun x H => KH x H) := by
 refine D3 (b := Sy cs H fun x H => KH x H) ?_ (Ie hs h)
 show (Fm x).bind _ = _
 rw [hc]
 rfl
theorem D0 {cs : List AV} (h : cs.all Ja = true) : Fm (.agg cs) = some cs := Aa4 h
theorem Ag {cs : List AV} (h : cs.all Bj = true) : Fm (.agg cs) = some cs := by
 show (if cs.all Bj then some cs else none) = _
 rw [if_pos h]
theorem Ae {x : AV} {xs : List AV} (h : Bj x = true) (hs : xs.all Bj = true) : (x :: xs).all Bj = true := by
 rw [zas, h, hs]
 rfl
theorem D8 {x : AV} (h : Bj x = true) : Fm x = some [x] := by
 cases x <;> simp_all [Fm, Bj]
theorem Al {i o : Nat} {cs : List AV} {a : Bool} {c : AV} (hs : Sep H L) (hp : Pk L (.blk i cs a) L1) (hc : cs[o]? = some c) (h : Gd G (K c)) : Gd G (Cu false 1 (.ptr i o) H fun x => K x) := by
 refine D3 ?_ h
 obtain ⟨hlt, he⟩ := zad.1 hc
 have e : Ba H i o 1 = some [c] := by
  simp only [Ba, hs.blk hp, if_true]
  rw [if_pos (by omega), zaA hlt, he]
  rfl
 exact ldF e _
theorem Q3 {i o w : Nat} {cs ds : List AV} {a : Bool} (hs : Sep H L) (hp : Pk L (.blk i cs a) L1) (hl : o + w ≤ cs.length) (hc : (cs.drop o).take w = ds) (h : Gd G (K (.agg ds))) : Gd G (Cu true w (.ptr i o) H fun x => K x) := by
 refine D3 ?_ h
 have e : Ba H i o w = some ds := by
  simp only [Ba, hs.blk hp, if_true]
  rw [if_pos hl, hc]
 exact ldT e _
theorem Ar {i w : Nat} {cs : List AV} {a : Bool} (hs : Sep H L) (hp : Pk L (.blk i cs a) L1) (hl : cs.length = w) (h : Gd G (K (.agg cs))) : Gd G (Cu true w (.ptr i 0) H fun x => K x) :=
 Q3 hs hp (by omega) (by rw [zaW, ← hl, zaL]) h
theorem Ca {i o w : Nat} {cs cs' ds : List AV} {a : Bool} {y : AV} {KS : Ac → Option β} (hs : Sep H L) (hp : Pk L (.blk i cs a) L1) (hy : Fm y = some ds) (hd : ds.length = w) (hl : o + w ≤ cs.length) (hc : Gg cs o ds = cs') (h : ∀ H', Sep H' (.blk i cs' a :: L1) → Gd G (KS H')) : Gd G (Fp w (.ptr i o) y H fun H => KS H) := by
 have hb := hs.blk hp
 refine D3 (Yx w i o y ⟨cs, true, a⟩ ds H _ hb hy hd hl rfl) ?_
 have := hs.put hp cs' a
 rw [← hc] at this
 exact h _ (by rw [← hc]; exact this)
theorem Fh {cells : List AV} {c : AV} (hc : cells[0]? = some c) (h : Gd G (K c)) : Gd G (Cu false 1 (.rp cells) H fun x => K x) := by
 cases cells with
 | nil => cases hc
 | cons x xs =>
  obtain rfl : x = c := by simpa using hc
  refine D3 (Pz x xs H _) h
theorem AcN {w : Nat} {cs rest : List AV} (hw : cs.length = w) (h : Gd G (K (.agg cs))) : Gd G (Cu true w (.rp (cs ++ rest)) H fun x => K x) := D3 (Wd w cs rest H _ hw) h
theorem A4 {o i off o' : Nat} (e : off + o = o') (h : Gd G (K (.ptr i o'))) : Gd G (C4 o (.ptr i off) fun x => K x) := by subst e; exact h
theorem N9 {i : Nat} (h : Gd G (K (.ptr i 0))) : Gd G (C4 0 (.ptr i 0) fun x => K x) := A4 rfl h
theorem V3 {i : Nat} (h : Gd G (K (.ptr i 1))) : Gd G (C4 1 (.ptr i 0) fun x => K x) := A4 rfl h
theorem Pe {i : Nat} (h : Gd G (K (.ptr i 2))) : Gd G (C4 2 (.ptr i 0) fun x => K x) := A4 rfl h
theorem gf3 {i : Nat} (h : Gd G (K (.ptr i 3))) : Gd G (C4 3 (.ptr i 0) fun x => K x) := A4 rfl h
theorem Iu {i : Nat} (h : Gd G (K (.ptr i 4))) : Gd G (C4 4 (.ptr i 0) fun x => K x) := A4 rfl h
theorem gf5 {i : Nat} (h : Gd G (K (.ptr i 5))) : Gd G (C4 5 (.ptr i 0) fun x => K x) := A4 rfl h
theorem gf6 {i : Nat} (h : Gd G (K (.ptr i 6))) : Gd G (C4 6 (.ptr i 0) fun x => K x) := A4 rfl h
theorem gf7 {i : Nat} (h : Gd G (K (.ptr i 7))) : Gd G (C4 7 (.ptr i 0) fun x => K x) := A4 rfl h
theorem gf8 {i : Nat} (h : Gd G (K (.ptr i 8))) : Gd G (C4 8 (.ptr i 0) fun x => K x) := A4 rfl h
theorem gf9 {i : Nat} (h : Gd G (K (.ptr i 9))) : Gd G (C4 9 (.ptr i 0) fun x => K x) := A4 rfl h
theorem V4 {i : Nat} (h : Gd G (K (.ptr i 10))) : Gd G (C4 10 (.ptr i 0) fun x => K x) := A4 rfl h
theorem Qy {i : Nat} (h : Gd G (K (.ptr i 11))) : Gd G (C4 11 (.ptr i 0) fun x => K x) := A4 rfl h
theorem V5 {i : Nat} (h : Gd G (K (.ptr i 12))) : Gd G (C4 12 (.ptr i 0) fun x => K x) := A4 rfl h
theorem V6 {i : Nat} (h : Gd G (K (.ptr i 13))) : Gd G (C4 13 (.ptr i 0) fun x => K x) := A4 rfl h
theorem V7 {i : Nat} (h : Gd G (K (.ptr i 14))) : Gd G (C4 14 (.ptr i 0) fun x => K x) := A4 rfl h
theorem Aa6 {i : Nat} (h : Gd G (K (.ptr i 15))) : Gd G (C4 15 (.ptr i 0) fun x => K x) := A4 rfl h
theorem Pd {i : Nat} (h : Gd G (K (.ptr i 16))) : Gd G (C4 16 (.ptr i 0) fun x => K x) := A4 rfl h
theorem Pw {i : Nat} (h : Gd G (K (.ptr i 17))) : Gd G (C4 17 (.ptr i 0) fun x => K x) := A4 rfl h
theorem Kx {i : Nat} (h : Gd G (K (.ptr i 18))) : Gd G (C4 18 (.ptr i 0) fun x => K x) := A4 rfl h
theorem Nf {i : Nat} (h : Gd G (K (.ptr i 19))) : Gd G (C4 19 (.ptr i 0) fun x => K x) := A4 rfl h
theorem Ro {i : Nat} (h : Gd G (K (.ptr i 20))) : Gd G (C4 20 (.ptr i 0) fun x => K x) := A4 rfl h
theorem V8 {i : Nat} (h : Gd G (K (.ptr i 21))) : Gd G (C4 21 (.ptr i 0) fun x => K x) := A4 rfl h
theorem Ky {i : Nat} (h : Gd G (K (.ptr i 22))) : Gd G (C4 22 (.ptr i 0) fun x => K x) := A4 rfl h
theorem K9 {i : Nat} (h : Gd G (K (.ptr i 23))) : Gd G (C4 23 (.ptr i 0) fun x => K x) := A4 rfl h
theorem La {i : Nat} (h : Gd G (K (.ptr i 24))) : Gd G (C4 24 (.ptr i 0) fun x => K x) := A4 rfl h
theorem Qj {o : Nat} {cells : List AV} (h : Gd G (K (.rp (cells.drop o)))) : Gd G (C4 o (.rp cells) fun x => K x) := h
theorem C8 {id off : Nat} (h : Gd G (K (.ptr id off))) : Gd G (Ahp (.ptr id off) fun t => K t) := h
theorem K7 {z cs z' r : List AV} {o n : Nat} {v : AV} {rest : List (Nat × Nat × AV)} (h : Fm v = some cs) (hl : cs.length = n) (ho : o + n ≤ z.length) (hz : Gg z o cs = z') (h2 : Lf z' rest = some r) : Lf z ((o, n, v) :: rest) = some r := by
 subst hz
 subst hl
 simp only [Lf, h, zac, if_true, if_pos ho]
 exact h2
theorem Bf {zs cs : List AV} {ps : List (Nat × Nat × AV)} {KL : List AV → Option β} (hf : Lf zs ps = some cs) (h : Gd G (KL cs)) : Gd G ((Lf zs ps).bind fun c => KL c) := by
 rw [hf]
 exact h
theorem Bp {i : Nat} {vs : List AV} {v : AV} (hv : vs[i]? = some v) (h : Gd G (K v)) : Gd G (Ww (.tup vs) i fun x => K x) := by
 refine D3 ?_ h
 show (vs[i]?).bind _ = _
 rw [hv]
 rfl
theorem Cn {m : Nat} {cs : List AV} (h : Gd G (K (.sc (.int .i64 m)))) : Gd G (Jb (.ro m cs) fun x => K x) := h
theorem AgO {s : ByteArray} (h : Gd G (K (.sc (.int .i64 s.size)))) : Gd G (Q5 (.sc (.string s)) fun x => K x) := h
theorem Aj9 {d ty m : Nat} {x : AV} {cells : List AV} {I : List Nat} (h : Dg As E0.tp H d ty x = some (.ro m cells, I)) : J6 x = some m := by
 cases d with
 | zero => simp [Dg] at h
 | succ d =>
  cases x with
  | sc v => simp [Dg] at h
  | nl =>
   have := (Option.some.inj h)
   simp only [Prod.mk.injEq, AV.ro.injEq] at this
   rw [← this.1.1]
   rfl
  | sl id off n z =>
   rw [Ju] at h
   simp only [zab] at h
   obtain ⟨i, h1, j, h2, h3⟩ := h
   split at h3
   case isFalse => cases h3
   split at h3
   case isFalse => cases h3
   simp only [zab] at h3
   obtain ⟨cs, h4, q, h5, h6⟩ := h3
   obtain ⟨h7, -⟩ : AV.ro n q.1 = .ro m cells ∧ _ := by simpa only [Prod.mk.injEq, Option.some.injEq] using h6
   cases h7
   rfl
  | agg cs =>
   rw [Jt] at h
   simp only [zab] at h
   obtain ⟨i, h1, q, h2, h3⟩ := h
   simp at h3
  | tup cs =>
   rw [K1] at h
   simp only [zab] at h
   obtain ⟨i, h1, q, h2, h3⟩ := h
   simp at h3
  | _ => simp [Dg] at h
theorem Kh {x : AV} {ty m : Nat} {cells : List AV} (hs : Sep H L) (hp : Pk L (.own x ty (.ro m cells)) L1) (h : Gd G (K (.sc (.int .i64 m)))) : Gd G (Jb x fun x => K x) := by
 obtain ⟨_, _, I, e, _⟩ := hs.own hp
 have hl := Aj9 e
 refine D3 ?_ h
 have key : ∀ (x : AV), (∀ v, x ≠ .sc v) → J6 x = some m → Jb x K = K (.sc (.int .i64 m)) := by
  intro x hx hl
  cases x with
  | sc v => exact absurd rfl (hx v)
  | nl => cases hl; rfl
  | ro n cs => cases hl; rfl
  | sl a b c d => cases hl; rfl
  | _ => cases hl
 refine key x (fun v hv => ?_) hl
 subst hv
 simp [Dg] at e
theorem Q2 {op : BinOp} {x y v : AV} (e : ∀ k : AV → Option β, C7 op x y k = k v) (h : Gd G (K v)) : Gd G (C7 op x y fun t => K t) := D3 (e _) h
theorem Ami {op : BinOp} {x y v : AV} (e : ∀ k : AV → Option β, Nz op x y k = k v) (h : Gd G (K v)) : Gd G (Nz op x y fun t => K t) := D3 (e _) h
theorem A2 {a b : Int} (h : Gd G (K (.sc (.bool (decide (a = b)))))) : Gd G (C7 .eql (.sc (.int .i64 a)) (.sc (.int .i64 b)) fun t => K t) := h
theorem Lh {a b : Int} (h : Gd G (K (.sc (.bool (!decide (a = b)))))) : Gd G (C7 .neq (.sc (.int .i64 a)) (.sc (.int .i64 b)) fun t => K t) := h
theorem Dd {a b : Int} (h : Gd G (K (.sc (.bool (decide (a < b)))))) : Gd G (C7 .lss (.sc (.int .i64 a)) (.sc (.int .i64 b)) fun t => K t) := h
theorem O5 {a b : Int} (h : Gd G (K (.sc (.bool (decide (a ≤ b)))))) : Gd G (C7 .leq (.sc (.int .i64 a)) (.sc (.int .i64 b)) fun t => K t) := h
theorem Ec {a b : Int} (h : Gd G (K (.sc (.bool (decide (b < a)))))) : Gd G (C7 .gtr (.sc (.int .i64 a)) (.sc (.int .i64 b)) fun t => K t) := h
theorem Ya {a b : Int} (h : Gd G (K (.sc (.bool (decide (b ≤ a)))))) : Gd G (C7 .geq (.sc (.int .i64 a)) (.sc (.int .i64 b)) fun t => K t) := h
theorem Bx {a b : Int} (h0 : -9223372036854775808 ≤ a + b) (h1 : a + b ≤ 9223372036854775807) (h : Gd G (K (.sc (.int .i64 (a + b))))) : Gd G (C7 .add (.sc (.int .i64 a)) (.sc (.int .i64 b)) fun t => K t) := by
 refine D3 ?_ h
 show K (.sc (.int .i64 (IntKind.i64.wrap (a + b)))) = _
 rw [J2 _ h0 h1]
theorem Nt {a b : Int} (h0 : -9223372036854775808 ≤ a - b) (h1 : a - b ≤ 9223372036854775807) (h : Gd G (K (.sc (.int .i64 (a - b))))) : Gd G (C7 .sub (.sc (.int .i64 a)) (.sc (.int .i64 b)) fun t => K t) := by
 refine D3 ?_ h
 show K (.sc (.int .i64 (IntKind.i64.wrap (a - b)))) = _
 rw [J2 _ h0 h1]
theorem Pu {a b : Int} (h0 : -9223372036854775808 ≤ a * b) (h1 : a * b ≤ 9223372036854775807) (h : Gd G (K (.sc (.int .i64 (a * b))))) : Gd G (C7 .mul (.sc (.int .i64 a)) (.sc (.int .i64 b)) fun t => K t) := by
 refine D3 ?_ h
 show K (.sc (.int .i64 (IntKind.i64.wrap (a * b)))) = _
 rw [J2 _ h0 h1]
theorem Rm {a b : ByteArray} (h : Gd G (K (.sc (.bool (a.toList == b.toList))))) : Gd G (C7 .eql (.sc (.string a)) (.sc (.string b)) fun t => K t) := h
theorem Pv {a b : ByteArray} (h : Gd G (K (.sc (.bool (!(a.toList == b.toList)))))) : Gd G (C7 .neq (.sc (.string a)) (.sc (.string b)) fun t => K t) := h
theorem B4 {b : Bool} (h : Gd G (K (.sc (.bool (!b))))) : Gd G (pUn .not (.sc (.bool b)) fun t => K t) := h
theorem De {α : Sort _} {γ : Type} {G : Option γ → Prop} {x : α} {f : α → Option γ} (h : Gd G (f x)) : Gd G (E1 x f) := h
theorem Aq {b : Bool} {x y : Option β} (hb : b = true) (h : Gd G x) : Gd G (Eo (.sc (.bool b)) x y) := by subst hb; exact h
theorem Av {b : Bool} {x y : Option β} (hb : b = false) (h : Gd G y) : Gd G (Eo (.sc (.bool b)) x y) := by subst hb; exact h
theorem Ad {b t : Bool} {m : (KO β) → Option β} (hb : b = t) (h : Gd G (m fun x H => KH x H)) : Gd G (Jv (.sc (.bool b)) t H m fun x H => KH x H) := by
 subst hb
 cases b <;> exact h
theorem Ab {b t : Bool} {m : (KO β) → Option β} (hb : b = !t) (h : Gd G (KH (.sc undef) H)) : Gd G (Jv (.sc (.bool b)) t H m fun x H => KH x H) := by
 subst hb
 cases t <;> exact h
theorem Dj {t : Bool} {m : (KO β) → Option β} (h : Gd G (KH (.sc undef) H)) : Gd G (Jv (.sc undef) t H m fun x H => KH x H) := h
theorem Ef {b : Bool} {x y : AV} (hb : b = true) (h : Gd G (K x)) : Gd G (O9 (.sc (.bool b)) x y fun t => K t) := by
 subst hb
 cases x <;> cases y <;> exact h
theorem Dq {b : Bool} {x y : AV} (hb : b = false) (h : Gd G (K y)) : Gd G (O9 (.sc (.bool b)) x y fun t => K t) := by
 subst hb
 cases x <;> cases y <;> exact h
inductive VwC (L : List Ck) : Nat → AV → AV → Prop
 | sc {d : Nat} {v : Value} : VwC L (d + 1) (.sc v) (.sc v)
 | nl {d : Nat} : VwC L (d + 1) .nl (.ro 0 [])
 | ro {d n : Nat} {cs : List AV} : VwC L (d + 1) (.ro n cs) (.ro n cs)
 | rp {d : Nat} {cs : List AV} : VwC L (d + 1) (.rp cs) (.rp cs)
 | own {d : Nat} {x t : AV} {ty : Nat} {L' : List Ck} : 6 ≤ d → Pk L (.own x ty t) L' → VwC L d x t
 | shr {d : Nat} {x t y t' : AV} {ty ty' : Nat} {L' : List Ck} : 6 ≤ d → Pk L (.shr x ty t y ty' t') L' → VwC L d y t'
 | shsE {d k : Nat} {x t y t' : AV} {ty ty' : Nat} {ys : List (AV × Nat × AV)} {L' : List Ck} : 6 ≤ d → Pk L (.shs x ty t ys) L' → ys[k]? = some (y, ty', t') → VwC L d y t'
 | shsO {d : Nat} {x t : AV} {ty : Nat} {ys : List (AV × Nat × AV)} {L' : List Ck} : 6 ≤ d → Pk L (.shs x ty t ys) L' → VwC L d x t
end
inductive VwL (L : List Ck) : Nat → List AV → List AV → Prop
 | nil {d : Nat} : VwL L d [] []
 | cons {d : Nat} {x t : AV} {xs ts : List AV} : VwC L d x t → VwL L d xs ts → VwL L d (x :: xs) (t :: ts)
 | agg {d : Nat} {cs ds xs ts : List AV} : VwL L d cs ds → VwL L (d + 1) xs ts → VwL L (d + 1) (.agg cs :: xs) (.agg ds :: ts)
 | aggF {d : Nat} {cs xs ts : List AV} : cs.all Ja = true → VwL L (d + 2) xs ts → VwL L (d + 2) (.agg cs :: xs) (.agg cs :: ts)
 | sl {d i k w : Nat} {cs ds xs ts : List AV} {a : Bool} {L' : List Ck} : Pk L (.blk i cs a) L' → cs.length = k * w → VwL L d cs ds → VwL L (d + 1) xs ts → VwL L (d + 1) (.sl i 0 k w :: xs) (.ro k ds :: ts)
 | slA {d i o k w : Nat} {cs ds xs ts : List AV} {a : Bool} {L' : List Ck} : Pk L (.blk i cs a) L' → o + k * w ≤ cs.length → VwL L d ((cs.drop o).take (k * w)) ds → VwL L (d + 1) xs ts → VwL L (d + 1) (.sl i o k w :: xs) (.ro k ds :: ts)
 | ptr {d i : Nat} {cs ds xs ts : List AV} {a : Bool} {L' : List Ck} : Pk L (.blk i cs a) L' → VwL L d cs ds → VwL L (d + 1) xs ts → VwL L (d + 1) (.ptr i 0 :: xs) (.rp ds :: ts)
 | fn {d f : Nat} {ps cs ps' cs' xs ts : List AV} : VwL L d ps ps' → VwL L d cs cs' → VwL L (d + 1) xs ts → VwL L (d + 1) (.fn f ps cs :: xs) (.fn f ps' cs' :: ts)
section
variable {β : Type} {n : Nat} {H : Ac} {L L' L1 L2 : List Ck} {G : Option β → Prop} {K : AV → Option β} {KH : KO β}
theorem VwC.sound (hs : Sep H L) {d : Nat} {x t : AV} (h : VwC L d x t) : Dt H d x = some t := by
 cases h with
 | sc => rfl
 | nl => rfl
 | ro => rfl
 | rp => rfl
 | own hd hp =>
  obtain ⟨_, h1, I, h2, _⟩ := hs.own hp
  exact P8 d _ _ _ I (Kq 6 d _ _ _ _ h2 (B6 h1 hd))
 | shr hd hp =>
  obtain ⟨h1, I, h2⟩ := hs.seen hp
  exact P8 d _ _ _ I (Kq 6 d _ _ _ _ h2 (B6 h1 hd))
 | shsE hd hp hk =>
  obtain ⟨h1, I, h2⟩ := hs.seenS hp hk
  exact P8 d _ _ _ I (Kq 6 d _ _ _ _ h2 (B6 h1 hd))
 | shsO hd hp =>
  obtain ⟨_, h1, I, h2, _⟩ := (hs.ofShs hp).own .here
  exact P8 d _ _ _ I (Kq 6 d _ _ _ _ h2 (B6 h1 hd))
theorem Ko {d : Nat} {x t : AV} {xs ts : List AV} (h : Dt H d x = some t) (hs : xs.mapM (Dt H d) = some ts) : (x :: xs).mapM (Dt H d) = some (t :: ts) := by
 simp only [za4, h, hs, zbd, zaO, zac]
theorem VwL.sound (hs : Sep H L) : ∀ {d : Nat} {xs ts : List AV}, VwL L d xs ts → xs.mapM (Dt H d) = some ts
 | _, _, _, .nil => rfl
 | _, _, _, .cons h q => Ko (h.sound hs) (q.sound hs)
 | _, _, _, .agg h q => Ko (by rw [Qx, h.sound hs]; rfl) (q.sound hs)
 | _, _, _, .aggF h q => Ko (by rw [Qx, Zj h]; rfl) (q.sound hs)
 | _, _, _, .sl (i := i) (k := k) (w := w) (cs := cs) hp hl h q => Ko (by
   rw [S9]
   have hb := hs.blk hp
   have e : Ba H i 0 (k * w) = some cs := by
    simp only [Ba, hb, if_true, zaW, zav, ← hl, zap, zaL]
   rw [e, zac, h.sound hs]
   rfl) (q.sound hs)
 | _, _, _, .slA (i := i) (o := o) (k := k) (w := w) (cs := cs) hp hl h q => Ko (by
   rw [S9]
   have hb := hs.blk hp
   have e : Ba H i o (k * w) = some ((cs.drop o).take (k * w)) := by
    simp only [Ba, hb, if_true, hl]
   rw [e, zac, h.sound hs]
   rfl) (q.sound hs)
 | _, _, _, .ptr (i := i) (cs := cs) hp h q => Ko (by
   have hb := hs.blk hp
   show ((H[i]?).bind fun b => (Ba H i 0 (b.cells.length - 0)).bind fun cs => (cs.mapM (Dt H _)).bind fun vs => some (AV.rp vs)) = _
   rw [hb, zac]
   have e : Ba H i 0 (cs.length - 0) = some cs := by
    simp only [Ba, hb, if_true, zaW, zav, Nat.sub_zero, zap, zaL]
   show (Ba H i 0 (cs.length - 0)).bind _ = _
   rw [e, zac, h.sound hs]
   rfl) (q.sound hs)
 | _, _, _, .fn (d := d) (ps := ps) (cs := cs) h1 h2 q => Ko (by
   show ((ps.mapM (Dt H d)).bind fun us => (cs.mapM (Dt H d)).bind fun ws => some (AV.fn _ us ws)) = _
   rw [h1.sound hs, zac, h2.sound hs]
   rfl) (q.sound hs)
theorem Uw {ty : Nat} {f : FuncId} {caps args vs : List AV} {t : AV} (hs : Sep H L) (hh : E9 f = false) (hv : VwL L 8 (args ++ caps) vs) (ht : Bz E0 n ty f vs = some t) (h : Gd G (KH (Cy As E0.tp H.length ty t).1 (H ++ (Cy As E0.tp H.length ty t).2))) : Gd G ((PR n β).call ty (.fn f [] caps) args H fun x H => KH x H) := D3 (AeU hh (hv.sound hs) ht) h
theorem Ao {ty : Nat} {f : FuncId} {args vs : List AV} {v : Value} (hs : Sep H L) (hh : E9 f = false) (hv : VwL L 8 args vs) (ht : Bz E0 n ty f vs = some (.sc v)) (h : Gd G (KH (.sc v) H)) : Gd G ((PR n β).call ty (.fn f [] []) args H fun x H => KH x H) := by
 refine Uw hs hh (by rw [zan]; exact hv) ht ?_
 rw [G2, zan]
 exact h
theorem Aa9 {ty m : Nat} {cells : List AV} (hs : Sep H L) (hok : I0 As E0.tp 6 ty (.ro m cells)) : Bj (Cy As E0.tp H.length ty (.ro m cells)).1 = true ∧ Sep (H ++ (Cy As E0.tp H.length ty (.ro m cells)).2) (.own (Cy As E0.tp H.length ty (.ro m cells)).1 ty (.ro m cells) :: L) := by
 have hl : Bj (Cy As E0.tp H.length ty (.ro m cells)).1 = true := rfl
 refine ⟨hl, hs.new (J := List.range' H.length (Cy As E0.tp H.length ty (.ro m cells)).2.length) ⟨hl, hok, Ws 6 ty _ H.length hok (Aac _ _)⟩ List.nodup_range' fun i hi => ?_⟩
 rw [List.mem_range'_1] at hi
 exact hi.1
theorem Cb {ty m : Nat} {f : FuncId} {args vs cells : List AV} (hs : Sep H L) (hh : E9 f = false) (hv : VwL L 8 args vs) (ht : Bz E0 n ty f vs = some (.ro m cells)) (hok : I0 As E0.tp 6 ty (.ro m cells)) (h : ∀ x H', Bj x = true → Sep H' (.own x ty (.ro m cells) :: L) → Gd G (KH x H')) : Gd G ((PR n β).call ty (.fn f [] []) args H fun x H => KH x H) := by
 refine Uw hs hh (by rw [zan]; exact hv) ht ?_
 obtain ⟨h1, h2⟩ := Aa9 hs hok
 exact h _ _ h1 h2
def InsL (ts : List Nat) (cs : List AV) (Φ : List AV → List Ck → Prop) : Prop := ∀ (H : Ac) (L : List Ck), Sep H L → ∃ xs Lx, xs = (Bt As E0.tp H.length ts cs).1 ∧ Sep (H ++ (Bt As E0.tp H.length ts cs).2) (Lx ++ L) ∧ Φ xs Lx
theorem Ed {ts : List Nat} : InsL ts [] fun xs Lx => xs = [] ∧ Lx = [] := fun H L hs => ⟨[], [], rfl, by simpa [Bt] using hs, rfl, rfl⟩
theorem Bg {ts : List Nat} {v : Value} {cs : List AV} {Φ : List AV → List Ck → Prop} (h : InsL ts.tail cs Φ) : InsL ts (.sc v :: cs) fun xs Lx => ∃ ys, xs = .sc v :: ys ∧ Φ ys Lx := fun H L hs => by
 obtain ⟨ys, Ly, e1, e2, e3⟩ := h H L hs
 refine ⟨.sc v :: ys, Ly, ?_, ?_, ys, rfl, e3⟩
 ·simp only [Bt, G2, zao, zba]
  rw [e1]
 ·simpa only [Bt, G2, zao, zba, zag] using e2
theorem Kj {ts : List Nat} {m ty : Nat} {cells cs : List AV} {Φ : List AV → List Ck → Prop} (hty : ts.headD 0 = ty) (hok : I0 As E0.tp 6 ty (.ro m cells)) (h : InsL ts.tail cs Φ) : InsL ts (.ro m cells :: cs) fun xs Lx => ∃ x ys Ly, Bj x = true ∧ xs = x :: ys ∧ Lx = Ly ++ [.own x ty (.ro m cells)] ∧ Φ ys Ly := fun H L hs => by
 subst hty
 obtain ⟨h1, h2⟩ := Aa9 hs hok
 obtain ⟨ys, Ly, e1, e2, e3⟩ := h _ _ h2
 refine ⟨_ :: ys, Ly ++ [.own _ (ts.headD 0) (.ro m cells)], ?_, ?_, _, ys, Ly, h1, rfl, rfl, e3⟩
 ·simp only [Bt]
  rw [e1, zaf]
 ·simp only [Bt]
  rw [zaf, zai] at e2
  rw [zai]
  exact e2
theorem AcQ {ts cty : List Nat} {cs rest : List AV} {Φ Ψ : List AV → List Ck → Prop} (hty : ∃ i, As (ts.headD 0) = some i ∧ i.cty = cty) (h1 : InsL cty cs Ψ) (h : InsL ts.tail rest Φ) : InsL ts (.agg cs :: rest) fun xs Lx => ∃ ys zs Ly Lz, xs = .agg ys :: zs ∧ Lx = Lz ++ Ly ∧ Ψ ys Ly ∧ Φ zs Lz := fun H L hs => by
 obtain ⟨i, hi, rfl⟩ := hty
 obtain ⟨ys, Ly, a1, a2, a3⟩ := h1 H L hs
 obtain ⟨zs, Lz, b1, b2, b3⟩ := h _ _ a2
 refine ⟨.agg ys :: zs, Lz ++ Ly, ?_, ?_, ys, zs, Ly, Lz, rfl, rfl, a3, b3⟩
 ·simp only [Bt, Il, hi, zaG]
  rw [a1, b1, zaf]
 ·simp only [Bt, Il, hi, zaG]
  rw [zaf, zai] at b2
  rw [zai]
  exact b2
theorem Se {ty : Nat} {f : FuncId} {args vs cs : List AV} {cty : List Nat} {Φ : List AV → List Ck → Prop} (hs : Sep H L) (hh : E9 f = false) (hv : VwL L 8 args vs) (ht : Bz E0 n ty f vs = some (.agg cs)) (hty : ∃ i, As ty = some i ∧ i.cty = cty) (hi : InsL cty cs Φ) (h : ∀ xs Lx H', Φ xs Lx → Sep H' (Lx ++ L) → Gd G (KH (.agg xs) H')) : Gd G ((PR n β).call ty (.fn f [] []) args H fun x H => KH x H) := by
 refine Uw hs hh (by rw [zan]; exact hv) ht ?_
 obtain ⟨i, e1, rfl⟩ := hty
 obtain ⟨xs, Lx, a1, a2, a3⟩ := hi H L hs
 rw [Il, e1, zaG, ← a1]
 exact h _ _ _ a3 a2
theorem Ek {ty : Nat} {f : FuncId} {args vs cs : List AV} {tys : List Nat} {Φ : List AV → List Ck → Prop} (hs : Sep H L) (hh : E9 f = false) (hv : VwL L 8 args vs) (ht : Bz E0 n ty f vs = some (.tup cs)) (hty : E0.tp ty = some tys) (hi : InsL tys cs Φ) (h : ∀ xs Lx H', Φ xs Lx → Sep H' (Lx ++ L) → Gd G (KH (.tup xs) H')) : Gd G ((PR n β).call ty (.fn f [] []) args H fun x H => KH x H) := by
 refine Uw hs hh (by rw [zan]; exact hv) ht ?_
 obtain ⟨xs, Lx, a1, a2, a3⟩ := hi H L hs
 rw [Yc, hty, zaG, ← a1]
 exact h _ _ _ a3 a2
theorem Kg {ty : Nat} {f : FuncId} {caps args : List AV} (hh : E0.hm f = true) (he : E0.ext f = none) (h : Gd G (E7 E0 n β f (args ++ caps) H fun x H => KH x H)) : Gd G ((PR n β).call ty (.fn f [] caps) args H fun x H => KH x H) := by
 refine D3 ?_ h
 show O3 E0 (E7 E0 n) ty f ([] ++ args ++ caps) H _ = _
 simp only [O3, he, hh, zag, if_true]
def Src (H : Ac) (L : List Ck) (sz : Nat) (cty : List Nat) (y : AV) (m : Nat) (cb : List AV) (L' : List Ck) : Prop :=
 ∀ I, SepI H L I → ∃ raw J R X, J6 y = some m ∧ Ej H sz y = some raw ∧ raw.all Bj = true ∧ raw.length = m * sz ∧ Em (Dg As E0.tp H 5) (zah m cty).flatten raw = some (cb, J) ∧ SepI H L' R ∧ I.Perm (J ++ (R ++ X))
def Pf : AV → Bool
 | .sc v => O7 v
 | _ => false
theorem Yf {l : List AV} (h : l.all Pf = true) : l.all Bj = true := by
 rw [za6] at h ⊢
 intro x hx
 have := h x hx
 cases x <;> simp_all [Pf, Bj]
theorem Yq {d : Nat} : ∀ {ts : List Nat} {l : List AV}, ts.length = l.length → l.all Pf = true → Em (Dg As E0.tp H (d + 1)) ts l = some (l, [])
 | [], [], _, _ => rfl
 | t :: ts, x :: l, h, hl => by
  rw [zas, zae] at hl
  cases x with
  | sc v =>
   rw [Em, Zv, zac, Yq (ts := ts) (l := l) (by simpa using h) hl.2]
   rfl
  | _ => simp [Pf] at hl
 | [], _ :: _, h, _ => by simp at h
 | _ :: _, [], h, _ => by simp at h
theorem Ah8 {sz m : Nat} {cty : List Nat} {cells : List AV} (hc : cty.length = sz) (hl : cells.length = m * sz) (hf : cells.all Pf = true) : Src H L sz cty (.ro m cells) m cells L := fun I h => by
 refine ⟨cells, [], I, [], rfl, ?_, Yf hf, hl, Yq (by simp [hc, hl]) hf, h, by simp⟩
 show (if cells.length = m * sz then some cells else none) = _
 rw [if_pos hl]
theorem Z4 {sz m i : Nat} {cty : List Nat} {raw cb : List AV} {a : Bool} (hp : Pk L (.blk i raw a) L1) (hl : raw.length = m * sz) (hf : raw.all Bj = true) (hr : OwnR L1 raw (zah m cty).flatten cb L2) (hok : Hj (I0 As E0.tp 5) (zah m cty).flatten cb) : Src H L sz cty (.sl i 0 m sz) m cb L2 := fun I h => by
 obtain ⟨J, R, ⟨rfl, h1⟩, h2, h3⟩ := hp.sepI h
 obtain ⟨J', R', g1, g2, g3⟩ := hr.sound h2 5 hok
 refine ⟨raw, J', R', [i], rfl, ?_, hf, hl, g1, g2, ?_⟩
 ·show (if sz = sz then Ba H i 0 (m * sz) else none) = _
  simp only [if_true, Ba, h1, zav, zaW, ← hl, zap, zaL]
 ·refine h3.trans (List.perm_append_comm.trans ?_)
  rw [← zai]
  exact zbA.append_right [i] g3
theorem Zw {d ty m : Nat} {x : AV} {cells : List AV} {I : List Nat} {i j : TI} (h1 : As ty = some i) (h2 : As i.elem = some j) (h : Dg As E0.tp H (d + 1) ty x = some (.ro m cells, I)) :
  (x = .nl ∧ m = 0 ∧ cells = [] ∧ I = []) ∨ ∃ id off raw J b, x = .sl id off m j.size ∧ I = id :: J ∧ H[id]? = some b ∧ b.live = true ∧ b.app = true ∧ Ba H id off (m * j.size) = some raw ∧ Em (Dg As E0.tp H d) (zah m j.cty).flatten raw = some (cells, J) := by
 cases x with
 | sc v => simp [Dg] at h
 | nl =>
  have := (Option.some.inj h)
  simp only [Prod.mk.injEq, AV.ro.injEq] at this
  obtain ⟨⟨rfl, rfl⟩, rfl⟩ := this
  exact .inl ⟨rfl, rfl, rfl, rfl⟩
 | sl id off n z =>
  rw [Ju] at h
  simp only [h1, h2, zac] at h
  split at h
  case isFalse => cases h
  rename_i hz
  split at h
  case isFalse => cases h
  rename_i ha
  simp only [zab] at h
  obtain ⟨cs, h4, q, h5, h6⟩ := h
  simp only [Option.some.injEq, Prod.mk.injEq, AV.ro.injEq] at h6
  obtain ⟨⟨rfl, rfl⟩, rfl⟩ := h6
  subst hz
  obtain ⟨hl, b, hb, hlv, _, _⟩ := Kr h4
  have ha' : b.app = true := by simpa only [Ka, hb] using ha
  exact .inr ⟨id, off, cs, q.2, b, rfl, rfl, hb, hlv, ha', h4, h5⟩
 | agg cs =>
  rw [Jt] at h
  simp only [zab] at h
  obtain ⟨i, h1, q, h2, h3⟩ := h
  simp at h3
 | tup cs =>
  rw [K1] at h
  simp only [zab] at h
  obtain ⟨i, h1, q, h2, h3⟩ := h
  simp at h3
 | _ => simp [Dg] at h
theorem AaV {sz m ty : Nat} {cty : List Nat} {y : AV} {cb : List AV} (hty : ∃ i j, As ty = some i ∧ As i.elem = some j ∧ j.size = sz ∧ j.cty = cty) (hp : Pk L (.own y ty (.ro m cb)) L2) (hf : cb.all Pf = true) : Src H L sz cty y m cb L := fun I h => by
 obtain ⟨i, j, e1, e2, rfl, rfl⟩ := hty
 obtain ⟨J, R, ⟨_, _, h1⟩, h2, h3⟩ := hp.sepI h
 rcases Zw e1 e2 h1 with ⟨rfl, rfl, rfl, rfl⟩ | ⟨id, off, raw, J', b, rfl, rfl, hb, hlv, ha, h4, h5⟩
 ·exact ⟨[], [], I, [], rfl, rfl, rfl, by simp, by simp [Em], h, by simp⟩
 ·have hl := (Kr h4).1
  have key : ∀ {ts : List Nat} {xs cells : List AV} {I : List Nat}, Em (Dg As E0.tp H 5) ts xs = some (cells, I) → cells.all Pf = true → xs = cells ∧ I = [] := by
   intro ts xs
   induction xs generalizing ts with
   | nil =>
    intro cells I h _
    obtain ⟨_, e⟩ := Js h
    cases e
    exact ⟨rfl, rfl⟩
   | cons x xs ih =>
    intro cells I h hs
    cases ts with
    | nil => simp [Em] at h
    | cons t ts =>
     obtain ⟨a, b, h1, h2, e⟩ := Im h
     cases e
     rw [zas, zae] at hs
     obtain ⟨rfl, e2⟩ := ih h2 hs.2
     have hx : x = a.1 ∧ a.2 = [] := by
      obtain ⟨a1, a2⟩ := a
      cases a1 with
      | sc v =>
       have := Zy h1
       subst this
       have : (AV.sc v, ([] : List Nat)) = (.sc v, a2) := Option.some.inj h1
       cases this
       exact ⟨rfl, rfl⟩
      | _ => simp [Pf] at hs
     refine ⟨by rw [hx.1], by rw [hx.2, e2]; rfl⟩
  obtain ⟨rfl, rfl⟩ := key h5 hf
  refine ⟨raw, [], I, [], rfl, ?_, Yf hf, hl, h5, h, by simp⟩
  show (if j.size = j.size then Ba H id off (m * j.size) else none) = _
  rw [if_pos rfl, h4]
theorem Amh {sz bytes k m ty : Nat} {cty : List Nat} {x y : AV} {ca cb : List AV} (hs : Sep H L) (hty : ∃ i j, As ty = some i ∧ As i.elem = some j ∧ j.size = sz ∧ j.cty = cty) (hx : Pk L (.own x ty (.ro k ca)) L1) (hy : Src H L1 sz cty y m cb L2) (hok : Hj (I0 As E0.tp 5) (zah m cty).flatten cb) (hb : (k + m) * bytes ≤ 140737488355328)
  (h : ∀ x' H', Bj x' = true → Sep H' (.own x' ty (.ro (k + m) (ca ++ cb)) :: L2) → (∃ id cx cy, x' = .sl id 0 (k + m) sz ∧ H'[id]? = some ⟨cx ++ cy, true, true⟩ ∧ Ej H sz y = some cy ∧ cx.length = k * sz) → Gd G (KH x' H')) : Gd G (Mo sz bytes x y H fun x H => KH x H) := by
 obtain ⟨i, j, e1, e2, rfl, rfl⟩ := hty
 obtain ⟨I, hI, hn⟩ := hs
 obtain ⟨J, R, ⟨hlx, hox, h1⟩, h2, h3⟩ := hx.sepI hI
 obtain ⟨raw, Jy, Ry, X, q1, q2, q3, q4, q5, q6, q7⟩ := hy R h2
 have hn' : (J ++ (Jy ++ (Ry ++ X))).Nodup := (h3.trans (zbA.append_left J q7)).nodup_iff.1 hn
 have hRlt : ∀ i ∈ Jy ++ Ry, i < H.length := fun z hz => by
  refine h2.lt z ?_
  refine q7.symm.mem_iff.1 ?_
  rw [← zai]
  exact zaF _ hz
 have hok' : I0 As E0.tp 6 ty (.ro (k + m) (ca ++ cb)) := by
  obtain ⟨i', j', g1, g2, g3, g4⟩ := hox
  rw [e1] at g1
  cases g1
  rw [e2] at g2
  cases g2
  refine ⟨i, j, e1, e2, ?_, ?_⟩
  ·have := AaI hok
   have hq := Wq q5
   rw [zaf, g3, hq.2, q4, zbH]
  ·rw [← List.replicate_append_replicate, zbr]
   exact Kz g4 hok
 have fin : ∀ (H1 : Ac) (cx : List AV) (Jx : List Nat), H1.length = H.length → cx.all Bj = true ∨ True → Em (Dg As E0.tp H1 5) (zah k j.cty).flatten cx = some (ca, Jx) → Em (Dg As E0.tp H1 5) (zah m j.cty).flatten raw = some (cb, Jy) → SepI H1 L2 Ry → (Jx ++ (Jy ++ (Ry ++ X))).Nodup → (∀ i ∈ Jx, i < H1.length) → cx.length = k * j.size →
   Sep (H1 ++ [⟨cx ++ raw, true, true⟩]) (.own (.sl H1.length 0 (k + m) j.size) ty (.ro (k + m) (ca ++ cb)) :: L2) := by
  intro H1 cx Jx hl1 _ a1 a2 a3 a4 a5 a6
  have hg : (H1 ++ [(⟨cx ++ raw, true, true⟩ : J4)])[H1.length]? = some ⟨cx ++ raw, true, true⟩ := by
   rw [zak (zap _), zaT]
   rfl
  have fr : ∀ z, z < H1.length → (H1 ++ [(⟨cx ++ raw, true, true⟩ : J4)])[z]? = H1[z]? := fun z hz => zam hz
  have b1 := Hq (f' := Dg As E0.tp (H1 ++ [⟨cx ++ raw, true, true⟩]) 5) (fun t x a h hi => Gk 5 t x a h fun z hz => fr z (a5 z (hi z hz))) a1
  have b2 := Hq (f' := Dg As E0.tp (H1 ++ [⟨cx ++ raw, true, true⟩]) 5) (fun t x a h hi => Gk 5 t x a h fun z hz => fr z (by rw [hl1]; exact hRlt z (zaF _ (hi z hz)))) a2
  have b3 := a3.grow [⟨cx ++ raw, true, true⟩]
  have b4 := P5 b1 b2
  rw [← zbr, List.replicate_append_replicate] at b4
  refine ⟨(H1.length :: (Jx ++ Jy)) ++ Ry, ⟨H1.length :: (Jx ++ Jy), Ry, rfl, ⟨rfl, hok', ?_⟩, b3⟩, ?_⟩
  ·rw [Ju]
   have ha : Ka (H1 ++ [⟨cx ++ raw, true, true⟩]) H1.length = true := by simp only [Ka, hg]
   have hrd : Ba (H1 ++ [⟨cx ++ raw, true, true⟩]) H1.length 0 ((k + m) * j.size) = some (cx ++ raw) := by
    have : (cx ++ raw).length = (k + m) * j.size := by rw [zaf, a6, q4, zbH]
    simp only [Ba, hg, if_true, zav, zaW, ← this, zap, zaL]
   simp only [e1, e2, zac, if_true, ha, hrd, b4]
  ·rw [zau, zbj]
   have hn3 : (Jx ++ Jy ++ Ry).Nodup := by
    rw [zai]
    have : (Jx ++ (Jy ++ Ry) ++ X).Nodup := by simpa only [zai] using a4
    exact (zbb.1 this).1
   refine ⟨fun hm => ?_, hn3⟩
   rcases zaV.1 hm with hm | hm
   ·rcases zaV.1 hm with hm | hm
    ·exact Nat.lt_irrefl _ (a5 _ hm)
    ·have := hRlt _ (zaF _ hm)
     omega
   ·have := hRlt _ (zaM _ hm)
    omega
 rcases Zw e1 e2 h1 with ⟨rfl, rfl, rfl, rfl⟩ | ⟨id, off, cx, J', b, rfl, rfl, hb1, hlv, hap, h4, h5⟩
 ·have hc : Ej H j.size .nl = some [] := rfl
  refine D3 (b := KH (.sl H.length 0 (0 + m) j.size) (H ++ [⟨[] ++ raw, true, true⟩])) ?_ (h _ _ rfl (fin H [] [] rfl (.inr trivial) (by simp [Em]) q5 q6 (by simpa using hn') (by simp) (by simp)) ⟨_, [], raw, rfl, by rw [zak (zap _), zaT]; rfl, q2, by simp⟩)
  have hl0 : J6 .nl = some 0 := rfl
  have hk0 : Ti H .nl = some H := rfl
  simp only [Mo, hl0, zac, q1, q2, hc, hk0]
  rw [if_pos hb, if_pos q3]
  rfl
 ·have hc : Ej H j.size (.sl id off k j.size) = some cx := by
   show (if j.size = j.size then Ba H id off (k * j.size) else none) = _
   rw [if_pos rfl, h4]
  have hk : Ti H (.sl id off k j.size) = some (H.set id { b with live := false }) := by
   show (H[id]?).bind (fun b => if b.app then some (H.set id { b with live := false }) else none) = _
   rw [hb1, zac, if_pos hap]
  have hn2 : (id :: (J' ++ (Jy ++ (Ry ++ X)))).Nodup := hn'
  have hnid := (zbj.1 hn2).1
  have hset : ∀ z, z ≠ id → (H.set id { b with live := false })[z]? = H[z]? := fun z hz => zbC (fun e => hz e.symm)
  have c1 := Hq (f' := Dg As E0.tp (H.set id { b with live := false }) 5) (fun t x a h hi => Gk 5 t x a h fun z hz => hset z (fun e => hnid (e ▸ zaF _ (hi z hz)))) h5
  have c2 := Hq (f' := Dg As E0.tp (H.set id { b with live := false }) 5) (fun t x a h hi => Gk 5 t x a h fun z hz => hset z (fun e => hnid (e ▸ zaM _ (zaF _ (hi z hz))))) q5
  have c3 := q6.frame (H' := H.set id { b with live := false }) fun z hz => hset z (fun e => hnid (e ▸ zaM _ (zaM _ (zaF _ hz))))
  have hJlt : ∀ z ∈ J', z < H.length := fun z hz => P7 6 ty _ _ h1 z (zay _ hz)
  refine D3 (b := KH (.sl (H.set id { b with live := false }).length 0 (k + m) j.size) (H.set id { b with live := false } ++ [⟨cx ++ raw, true, true⟩])) ?_ (h _ _ rfl (fin _ cx J' (by simp) (.inr trivial) c1 c2 c3 (zbj.1 hn2).2 (fun z hz => by rw [List.length_set]; exact hJlt z hz) (Kr h4).1) ⟨_, cx, raw, rfl, by rw [zak (zap _), zaT]; rfl, q2, (Kr h4).1⟩)
  have hl0 : J6 (.sl id off k j.size) = some k := rfl
  simp only [Mo, hl0, zac, q1, q2, hc, hk]
  rw [if_pos hb, if_pos q3]
  rfl
theorem Aa5 {sz bytes k m ty : Nat} {cty : List Nat} {x y : AV} {ca cb : List AV} (hs : Sep H L) (hty : ∃ i j, As ty = some i ∧ As i.elem = some j ∧ j.size = sz ∧ j.cty = cty) (hx : Pk L (.own x ty (.ro k ca)) L1) (hy : Src H L1 sz cty y m cb L2) (hok : Hj (I0 As E0.tp 5) (zah m cty).flatten cb) (hb : (k + m) * bytes ≤ 140737488355328)
  (h : ∀ x' H', Bj x' = true → Sep H' (.own x' ty (.ro (k + m) (ca ++ cb)) :: L2) → Gd G (KH x' H')) : Gd G (Mo sz bytes x y H fun x H => KH x H) := Amh hs hty hx hy hok hb fun x' H' h1 h2 _ => h x' H' h1 h2
theorem Ce {G : Option AV → Prop} {o : Option AV} (h : Gd G o) : G o := h
theorem Cd {ty : Nat} {tys : List Nat} {raw cells : List AV} (hs : Sep H L) (hts : E0.tp ty = some tys) (hr : OwnR L raw tys cells L') (hok : Hj (I0 As E0.tp 7) tys cells) : Bc As E0.tp ty H (.tup raw) = some (.tup cells) := by
 obtain ⟨I, h1, h2⟩ := hs
 obtain ⟨J, R, g1, g2, g3⟩ := hr.sound h1 7 hok
 have hn := (zbb.1 (g3.nodup_iff.1 h2)).1
 rw [Bc, K1, hts, zac, g1, zac, zac, if_pos hn]
theorem B8 {ty : Nat} {cty : List Nat} {raw cells : List AV} (hs : Sep H L) (hty : ∃ i, As ty = some i ∧ i.cty = cty) (hr : OwnR L raw cty cells L') (hok : Hj (I0 As E0.tp 7) cty cells) : Bc As E0.tp ty H (.agg raw) = some (.agg cells) := by
 obtain ⟨i, e1, rfl⟩ := hty
 obtain ⟨I, h1, h2⟩ := hs
 obtain ⟨J, R, g1, g2, g3⟩ := hr.sound h1 7 hok
 have hn := (zbb.1 (g3.nodup_iff.1 h2)).1
 rw [Bc, Jt, e1, zac, g1, zac, zac, if_pos hn]
theorem Di {ty : Nat} {x t : AV} (hs : Sep H L) (hp : Pk L (.own x ty t) L') : Bc As E0.tp ty H x = some t := by
 obtain ⟨_, h1, I, h2, h3⟩ := hs.own hp
 rw [Bc, Kq 6 8 ty x t I h2 (B6 h1 (by decide)), zac, if_pos h3]
theorem Ai {G : Option AV → Prop} {ty : Nat} {x t : AV} (e : Bc As E0.tp ty H x = some t) (h : G (some t)) : Gd G (Bc As E0.tp ty H x) := by
 rw [e]
 exact h
end
theorem Is {L : List Ck} {d : Nat} {a0 a1 : Value} {xs ts : List AV} (h : VwL L (d + 1) xs ts) : VwL L (d + 1) (.sc a0 :: .sc a1 :: xs) (.sc a0 :: .sc a1 :: ts) := (.cons .sc (.cons .sc h))
theorem Pg {L : List Ck} {d : Nat} {a0 a1 a2 : Value} {xs ts : List AV} (h : VwL L (d + 1) xs ts) : VwL L (d + 1) (.sc a0 :: .sc a1 :: .sc a2 :: xs) (.sc a0 :: .sc a1 :: .sc a2 :: ts) := (.cons .sc (.cons .sc (.cons .sc h)))
theorem Mx {L : List Ck} {d : Nat} {a0 a1 a2 a3 a4 : Value} {xs ts : List AV} (h : VwL L (d + 1) xs ts) : VwL L (d + 1) (.sc a0 :: .sc a1 :: .sc a2 :: .sc a3 :: .sc a4 :: xs) (.sc a0 :: .sc a1 :: .sc a2 :: .sc a3 :: .sc a4 :: ts) := (.cons .sc (.cons .sc (.cons .sc (.cons .sc (.cons .sc h)))))
theorem Gv {L : List Ck} {d : Nat} {a0 a1 a2 a3 a4 a5 : Value} {xs ts : List AV} (h : VwL L (d + 1) xs ts) : VwL L (d + 1) (.sc a0 :: .sc a1 :: .sc a2 :: .sc a3 :: .sc a4 :: .sc a5 :: xs) (.sc a0 :: .sc a1 :: .sc a2 :: .sc a3 :: .sc a4 :: .sc a5 :: ts) := (.cons .sc (.cons .sc (.cons .sc (.cons .sc (.cons .sc (.cons .sc h))))))
theorem Xn {L L' : List Ck} {a0 a1 a2 : Value} {t0 t1 t2 : Nat} {xs cs : List AV} {ts : List Nat} (h : OwnR L xs ts cs L') : OwnR L (.sc a0 :: .sc a1 :: .sc a2 :: xs) (t0 :: t1 :: t2 :: ts) (.sc a0 :: .sc a1 :: .sc a2 :: cs) L' := (.sc (.sc (.sc h)))
theorem Hw {L L' : List Ck} {a0 a1 a2 a3 a4 : Value} {t0 t1 t2 t3 t4 : Nat} {xs cs : List AV} {ts : List Nat} (h : OwnR L xs ts cs L') : OwnR L (.sc a0 :: .sc a1 :: .sc a2 :: .sc a3 :: .sc a4 :: xs) (t0 :: t1 :: t2 :: t3 :: t4 :: ts) (.sc a0 :: .sc a1 :: .sc a2 :: .sc a3 :: .sc a4 :: cs) L' := (.sc (.sc (.sc (.sc (.sc h)))))
theorem D4 {L L' : List Ck} {a0 a1 a2 a3 a4 a5 : Value} {t0 t1 t2 t3 t4 t5 : Nat} {xs cs : List AV} {ts : List Nat} (h : OwnR L xs ts cs L') : OwnR L (.sc a0 :: .sc a1 :: .sc a2 :: .sc a3 :: .sc a4 :: .sc a5 :: xs) (t0 :: t1 :: t2 :: t3 :: t4 :: t5 :: ts) (.sc a0 :: .sc a1 :: .sc a2 :: .sc a3 :: .sc a4 :: .sc a5 :: cs) L' := (.sc (.sc (.sc (.sc (.sc (.sc h))))))
theorem Fu {P : Prop} (h : P) : True ∧ True ∧ P := ⟨trivial, trivial, h⟩
theorem Xp {P : Prop} (h : P) : True ∧ True ∧ True ∧ P := ⟨trivial, trivial, trivial, h⟩
theorem Hx {P : Prop} (h : P) : True ∧ True ∧ True ∧ True ∧ True ∧ P := ⟨trivial, trivial, trivial, trivial, trivial, h⟩
theorem D5 {P : Prop} (h : P) : True ∧ True ∧ True ∧ True ∧ True ∧ True ∧ P := ⟨trivial, trivial, trivial, trivial, trivial, trivial, h⟩
theorem zAp {j o : Nat} {ds : List AV} {b : Bool} {L1 L2 : List Ck} (h : Pk L1 (.blk j ds b) L2) : ∀ y ∈ [AV.ptr j o], ∃ j' o' ds' b', y = .ptr j' o' ∧ ∃ L2, Pk L1 (.blk j' ds' b') L2 := fun y hy => by
 cases zbk.1 hy
 exact ⟨_, _, _, _, rfl, _, h⟩
theorem A8 {β : Type} {G : Option β → Prop} {H : Ac} {L L1 : List Ck} {i o : Nat} {cs : List AV} {a : Bool} {y : AV} {KS : Ac → Option β} (hs : Sep H L) (hp : Pk L (.blk i cs a) L1) (hy : Bj y = true) (hl : Nat.ble (o + 1) cs.length = true) (h : ∀ H', Sep H' (.blk i (cs.set o y) a :: L1) → Gd G (KS H')) : Gd G (Fp 1 (.ptr i o) y H fun H => KS H) := Ca hs hp (D8 hy) rfl (B9 hl) (by
 unfold Gg
 have := B9 hl
 rw [List.set_eq_take_append_cons_drop, if_pos (by omega)]
 simp) h
end
section
open Go
variable {β : Type}
theorem Mw {d ty : Nat} {cty : List Nat} {cs : List AV} (hty : ∃ i, As ty = some i ∧ i.cty = cty) (h : Hj (I0 As E0.tp d) cty cs) : I0 As E0.tp (d + 1) ty (.agg cs) := by
 obtain ⟨i, hi, rfl⟩ := hty
 exact ⟨i, hi, h⟩
theorem AoG {d ty : Nat} (h : ∃ i j, As ty = some i ∧ As i.elem = some j) : I0 As E0.tp (d + 1) ty (.ro 0 []) := by
 obtain ⟨i, j, h1, h2⟩ := h
 exact ⟨i, j, h1, h2, by simp, by simp [Hj]⟩
theorem Be {d ty : Nat} (h : ∃ i j, As ty = some i ∧ As i.elem = some j := by exact ⟨_, _, rfl, rfl⟩) : I0 As E0.tp (d + 1) ty (.ro 0 []) := AoG h
theorem Gd.both {G : Option β → Prop} {a b : Option β} (h1 : Gd G a) (h2 : a = b) : Gd G (P9 a b) := by
 rw [AaN rfl h2.symm]
 exact h1
theorem C2 (s : ByteArray) : I0 As E0.tp 6 22 (Af s) := Kn (d := 4) M7 s
theorem Zs (l : List Int) : I0 As E0.tp 6 57 (Ei l) := P4 (d := 4) (fun z : Int => .int .i64 z) Acl l
theorem Wl (l : List ByteArray) : I0 As E0.tp 6 56 (Ee l) := P4 (d := 4) (fun z : ByteArray => .string z) Tx l
theorem Lr (l : List WantV) : I0 As E0.tp 6 55 (Ci Bn l) := Wm (d := 5) Gf ⟨_, _, rfl, rfl, rfl, rfl⟩ (Uz 4) l
theorem InsL.mono {ts : List Nat} {cs : List AV} {Φ Ψ : List AV → List Ck → Prop} (h : InsL ts cs Φ) (m : ∀ xs Lx, Φ xs Lx → Ψ xs Lx) : InsL ts cs Ψ := fun H L hs => by
 obtain ⟨xs, Lx, a, b, c⟩ := h H L hs
 exact ⟨xs, Lx, a, b, m _ _ c⟩
theorem Ki (p : PacketV) : InsL L4 (Ap p) fun xs Lx => ∃ x6 x13 x19 x22 x23 x24 : AV, Bj x6 = true ∧ Bj x13 = true ∧ Bj x19 = true ∧ Bj x22 = true ∧ Bj x23 = true ∧ Bj x24 = true ∧ xs = [.sc (.int .i64 p.fType), .sc (.bool p.fDup), .sc (.int .i64 p.fQos), .sc (.bool p.fRetain), .sc (.int .i64 p.fId), .sc (.string p.fTopic), x6, .sc (.string p.fClient), .sc (.int .i64 p.fLevel), .sc (.bool p.fClean), .sc (.int .i64 p.fKeep), .sc (.bool p.fHasWill), .sc (.string p.fWTopic), x13, .sc (.int .i64 p.fWQos), .sc (.bool p.fWRetain), .sc (.bool p.fHasUser), .sc (.string p.fUser), .sc (.bool p.fHasPass), x19, .sc (.int .i64 p.fCode), .sc (.bool p.fPresent), x22, x23, x24] ∧ Lx = [.own x24 57 (Ei p.fCodes), .own x23 56 (Ee p.fNames), .own x22 55 (Ci Bn p.fWants), .own x19 22 (Af p.fPass), .own x13 22 (Af p.fWBody), .own x6 22 (Af p.fBody)] :=
 InsL.mono (Bg (Bg (Bg (Bg (Bg (Bg (Kj (ty := 22) rfl (C2 p.fBody) (Bg (Bg (Bg (Bg (Bg (Bg (Kj (ty := 22) rfl (C2 p.fWBody) (Bg (Bg (Bg (Bg (Bg (Kj (ty := 22) rfl (C2 p.fPass) (Bg (Bg (Kj (ty := 55) rfl (Lr p.fWants) (Kj (ty := 56) rfl (Wl p.fNames) (Kj (ty := 57) rfl (Zs p.fCodes) Ed))))))))))))))))))))))))) (by
  rintro _ _ ⟨_, rfl, ⟨_, rfl, ⟨_, rfl, ⟨_, rfl, ⟨_, rfl, ⟨_, rfl, ⟨x6, _, _, l6, rfl, rfl, ⟨_, rfl, ⟨_, rfl, ⟨_, rfl, ⟨_, rfl, ⟨_, rfl, ⟨_, rfl, ⟨x13, _, _, l13, rfl, rfl, ⟨_, rfl, ⟨_, rfl, ⟨_, rfl, ⟨_, rfl, ⟨_, rfl, ⟨x19, _, _, l19, rfl, rfl, ⟨_, rfl, ⟨_, rfl, ⟨x22, _, _, l22, rfl, rfl, ⟨x23, _, _, l23, rfl, rfl, ⟨x24, _, _, l24, rfl, rfl, ⟨rfl, rfl⟩⟩⟩⟩⟩⟩⟩⟩⟩⟩⟩⟩⟩⟩⟩⟩⟩⟩⟩⟩⟩⟩⟩⟩⟩⟩
  exact ⟨x6, x13, x19, x22, x23, x24, l6, l13, l19, l22, l23, l24, rfl, rfl⟩)
end
section
open Go
inductive Sel : List Ck → List Ck → Prop
 | nil {L : List Ck} : Sel L []
 | cons {L L1 L' : List Ck} {c : Ck} : Pk L c L1 → Sel L1 L' → Sel L (c :: L')
 | rest {L : List Ck} : Sel L L
 | skip {L L' : List Ck} {c : Ck} : Sel L L' → Sel (c :: L) L'
theorem zS2 {a0 a1 : Ck} {L : List Ck} : Sel (a0 :: a1 :: L) L := .skip (.skip (.rest))
section
variable {β : Type} {n : Nat} {H : Ac} {L L' L1 L2 : List Ck} {G : Option β → Prop} {K : AV → Option β} {KH : KO β}
theorem Sep.none (h : Sep H L) : Sep H [] := by
 induction L with
 | nil => exact h
 | cons c L ih => exact ih h.tail
theorem Sel.sepI : ∀ {L L' : List Ck} {I : List Nat}, Sel L L' → SepI H L I → ∃ J X, SepI H L' J ∧ I.Perm (J ++ X)
 | _, _, I, .nil, h => ⟨[], I, rfl, zbA.refl _⟩
 | _, _, I, .rest, h => ⟨I, [], h, by simp⟩
 | _, _, I, .skip q, h => by
  obtain ⟨J, R, rfl, g1, g2⟩ := h
  obtain ⟨J', X, e1, e2⟩ := q.sepI g2
  refine ⟨J', J ++ X, e1, ?_⟩
  refine (zbA.append_left J e2).trans ?_
  rw [← zai, ← zai]
  exact zbA.append_right X List.perm_append_comm
 | _, _, I, .cons p q, h => by
  obtain ⟨J, R, g1, g2, g3⟩ := p.sepI h
  obtain ⟨J', X, e1, e2⟩ := q.sepI g2
  refine ⟨J ++ J', X, ⟨J, J', rfl, g1, e1⟩, ?_⟩
  rw [zai]
  exact g3.trans (zbA.append_left J e2)
theorem Sep.sel (h : Sep H L) (q : Sel L L') : Sep H L' := by
 obtain ⟨I, h1, h2⟩ := h
 obtain ⟨J, X, g1, g2⟩ := q.sepI h1
 exact ⟨J, g1, (zbb.1 (g2.nodup_iff.1 h2)).1⟩
theorem Gp {x off : Nat} {ts : List AV} {cs : List AV} {a : Bool} {m : Option β} (hs : Sep H L) (hp : Pk L (.blk x cs a) L1) (ht : ∀ y ∈ ts, ∃ j o ds b, y = .ptr j o ∧ ∃ L2, Pk L1 (.blk j ds b) L2) (h : Gd G m) : Gd G (Rp (.ptr x off) ts H m) := by
 have e : U5 (.ptr x off) ts H = true := by
  have hb := hs.blk hp
  simp only [U5, hb, za5, za6]
  intro y hy
  obtain ⟨j, o, ds, b, rfl, L2, hq⟩ := ht y hy
  obtain ⟨I, ⟨J, R, rfl, ⟨rfl, h1⟩, h2⟩, h3⟩ := hs.pick hp
  obtain ⟨J', R', ⟨rfl, g1⟩, g2, g3⟩ := hq.sepI h2
  have hne : x ≠ j := by
   rintro rfl
   have hn := (zbj.1 h3).1
   exact hn (g3.symm.mem_iff.1 (by simp))
  simp [g1, hne]
 unfold Rp
 rw [if_pos e]
 exact h
theorem Gd.bothE {r a b : Option β} (h1 : Gd (· = r) a) (h2 : Gd (· = r) b) : Gd (· = r) (P9 a b) := AaN h1 h2
theorem H0 {x o o' : Nat} {m : Option β} (h : Gd G m) : Gd G (Sz (.ptr x o) (.ptr x o') m) := by
 simp only [Sz, if_true]
 exact h
theorem K8 {α : Type} {w : Nat} {enc : α → List AV} {l pre t : List α} {x : α} {i : Int} (hi : i = (pre.length : Nat)) (hw : ∀ x, (enc x).length = w) (h0 : 0 < w) (hl : l = pre ++ x :: t) (h : Gd G (K (.rp (enc x ++ (t.map enc).flatten)))) : Gd G (Es w (Ci enc l) (.sc (.int .i64 i)) fun t => K t) := by
 subst hl
 subst hi
 exact D3 (X1 hw h0 pre x t _) h
theorem Kk {l pre t : List Int} {x i : Int} (hi : i = (pre.length : Nat)) (hl : l = pre ++ x :: t) (h : Gd G (K (.rp (Vj x ++ (t.map Vj).flatten)))) : Gd G (Es 1 (Ei l) (.sc (.int .i64 i)) fun t => K t) := by
 rw [L7]
 exact K8 hi (fun _ => rfl) (by decide) hl h
theorem N3 {l pre t : List ByteArray} {x : ByteArray} {i : Int} (hi : i = (pre.length : Nat)) (hl : l = pre ++ x :: t) (h : Gd G (K (.rp (Vk x ++ (t.map Vk).flatten)))) : Gd G (Es 1 (Ee l) (.sc (.int .i64 i)) fun t => K t) := by
 rw [Ma]
 exact K8 hi (fun _ => rfl) (by decide) hl h
def A7 (s : ByteArray) (i : Int) : Int := ((s.data.toList.getD i.toNat 0).toNat : Nat)
theorem D6 (s : ByteArray) (i : Int) : 0 ≤ A7 s i ∧ A7 s i < 256 := by
 have := (s.data.toList.getD i.toNat 0).toNat_lt
 unfold A7
 omega
theorem G0 {s : ByteArray} {i : Int} (h0 : 0 ≤ i) (h1 : i < (s.size : Nat)) (h : ∀ rest, Gd G (K (.rp (.sc (.int .u8 (A7 s i)) :: rest)))) : Gd G (Es 1 (Af s) (.sc (.int .i64 i)) fun t => K t) := by
 have hlt : i.toNat < s.size := by omega
 have e : (Bl s).drop (i.toNat * 1) = .sc (.int .u8 (A7 s i)) :: (Bl s).drop (i.toNat + 1) := by
  rw [zbs, zaA (by rw [Fg]; omega)]
  congr 1
  simp [Bl, A7, zbv, hlt]
 have e2 : (.sc (.int .i64 i) : AV) = .sc (.int .i64 (i.toNat : Nat)) := by
  rw [Int.toNat_of_nonneg h0]
 rw [e2]
 refine D3 (Oo 1 s.size (Bl s) i.toNat _ hlt (by rw [Fg]; omega)) ?_
 rw [e]
 exact h _
theorem Ahy {α : Type} {enc : α → List AV} (l q : List α) : Ci enc (l ++ q) = .ro (l.length + q.length) ((l.map enc).flatten ++ (q.map enc).flatten) := by
 show AV.ro _ _ = _
 rw [zaf, za2, zbr]
theorem Zk {α : Type} {enc : α → List AV} {sz bytes ty : Nat} {cty : List Nat} {x : AV} {l : List α} {i : Nat} {raw cb : List AV} {a : Bool} {e : α} {L3 : List Ck} (hs : Sep H L) (hty : ∃ i j, As ty = some i ∧ As i.elem = some j ∧ j.size = sz ∧ j.cty = cty) (hx : Pk L (.own x ty (Ci enc l)) L1) (hp : Pk L1 (.blk i raw a) L2) (hl : raw.length = sz) (hf : raw.all Bj = true) (hr : OwnR L2 raw cty cb L3) (hok : Hj (I0 As E0.tp 5) cty cb) (he : cb = enc e) (hb : (l.length + 1) * bytes ≤ 140737488355328)
  (h : ∀ x' H', Bj x' = true → Sep H' (.own x' ty (Ci enc (l ++ [e])) :: L3) → Gd G (KH x' H')) : Gd G (Mo sz bytes x (.sl i 0 1 sz) H fun x H => KH x H) := by
 have e1 : (zah 1 cty).flatten = cty := by simp
 refine Aa5 hs hty hx (Z4 hp (by omega) hf (by rw [e1]; exact hr) (by rw [e1]; exact hok)) (by rw [e1]; exact hok) hb fun x' H' lx hs' => h x' H' lx ?_
 rw [Ahy]
 simpa [he] using hs'
theorem AcM {ty : Nat} {cty : List Nat} {x : AV} {l : List Int} {i : Nat} {z : Int} {a : Bool} (hs : Sep H L) (hx : Pk L (.own x ty (Ei l)) L1) (hp : Pk L1 (.blk i [.sc (.int .i64 z)] a) L2) (hty : ∃ i j, As ty = some i ∧ As i.elem = some j ∧ j.size = 1 ∧ j.cty = cty) (hc : cty.length = 1) (hb : (l.length + 1) * 8 ≤ 140737488355328)
  (h : ∀ x' H', Bj x' = true → Sep H' (.own x' ty (Ei (l ++ [z])) :: L2) → Gd G (KH x' H')) : Gd G (Mo 1 8 x (.sl i 0 1 1) H fun x H => KH x H) := by
 obtain ⟨c, rfl⟩ := zbu.1 hc
 rw [L7] at hx h
 exact Zk hs hty hx hp rfl rfl (.sc .nil) ⟨trivial, trivial⟩ rfl hb h
theorem Zl {ty : Nat} {cty : List Nat} {x : AV} {l : List ByteArray} {i : Nat} {z : ByteArray} {a : Bool} (hs : Sep H L) (hx : Pk L (.own x ty (Ee l)) L1) (hp : Pk L1 (.blk i [.sc (.string z)] a) L2) (hty : ∃ i j, As ty = some i ∧ As i.elem = some j ∧ j.size = 1 ∧ j.cty = cty) (hc : cty.length = 1) (hb : (l.length + 1) * 16 ≤ 140737488355328)
  (h : ∀ x' H', Bj x' = true → Sep H' (.own x' ty (Ee (l ++ [z])) :: L2) → Gd G (KH x' H')) : Gd G (Mo 1 16 x (.sl i 0 1 1) H fun x H => KH x H) := by
 obtain ⟨c, rfl⟩ := zbu.1 hc
 rw [Ma] at hx h
 exact Zk hs hty hx hp rfl rfl (.sc .nil) ⟨trivial, trivial⟩ rfl hb h
theorem Amg {sz bytes m ty : Nat} {cty : List Nat} {y : AV} {cb : List AV} (hs : Sep H L) (hty : ∃ i j, As ty = some i ∧ As i.elem = some j ∧ j.size = sz ∧ j.cty = cty) (hy : Src H L sz cty y m cb L2) (hok : Hj (I0 As E0.tp 5) (zah m cty).flatten cb) (hb : m * bytes ≤ 140737488355328)
  (h : ∀ x' H', Bj x' = true → Sep H' (.own x' ty (.ro m cb) :: L2) → Gd G (KH x' H')) : Gd G (Mo sz bytes .nl y H fun x H => KH x H) := by
 obtain ⟨i, j, e1, e2, e3, e4⟩ := hty
 refine Aa5 (hs.nl (ty := ty) ⟨i, j, e1, e2⟩) ⟨i, j, e1, e2, e3, e4⟩ .here hy hok (by rw [zav]; exact hb) fun x' H' lx hs' => h x' H' lx ?_
 rw [zav, zag] at hs'
 exact hs'
theorem Sp {d : Nat} : ∀ {ts : List Nat} {l : List AV}, ts.length = l.length → l.all Pf = true → Hj (I0 As E0.tp (d + 1)) ts l
 | [], [], _, _ => trivial
 | t :: ts, x :: l, h, hl => by
  rw [zas, zae] at hl
  refine ⟨?_, Sp (by simpa using h) hl.2⟩
  cases x with
  | sc v => trivial
  | _ => simp [Pf] at hl
 | [], _ :: _, h, _ => by simp at h
 | _ :: _, [], h, _ => by simp at h
theorem K2 (s : ByteArray) : (Bl s).all Pf = true := by
 simp only [Bl, List.all_map, za6]
 intro b _
 rfl
theorem AcR {cty : List Nat} {w m : Nat} (h : cty.length = w) : ((zah m cty).flatten).length = m * w := by simp [h]
theorem Jr {s : ByteArray} (hs : Sep H L) (hb : s.size ≤ 140737488355328) (h : ∀ x' H', Bj x' = true → Sep H' (.own x' 22 (Af s) :: L) → Gd G (KH x' H')) : Gd G (Mo 1 1 .nl (Af s) H fun x H => KH x H) :=
 Amg hs ⟨_, _, rfl, rfl, rfl, rfl⟩ (Ah8 rfl (by rw [Fg]; omega) (K2 s)) (Sp (by rw [AcR (w := 1) rfl, Fg, zbs]) (K2 s)) (by omega) h
end
end
section
open Go
section
variable {β : Type} {n : Nat} {H : Ac} {L L' L1 L2 : List Ck} {G : Option β → Prop} {K : AV → Option β} {KH : KO β}
theorem Wr {d : Nat} : ∀ {ts : List Nat} {xs cells : List AV} {I : List Nat}, Em (Dg As E0.tp H d) ts xs = some (cells, I) → cells.all Pf = true → xs = cells ∧ I = []
 | ts, [], cells, I, h, _ => by
  obtain ⟨_, e⟩ := Js h
  cases e
  exact ⟨rfl, rfl⟩
 | [], _ :: _, _, _, h, _ => by simp [Em] at h
 | t :: ts, x :: xs, cells, I, h, hs => by
  obtain ⟨a, b, h1, h2, e⟩ := Im h
  cases e
  rw [zas, zae] at hs
  obtain ⟨rfl, e2⟩ := Wr h2 hs.2
  have hx : x = a.1 ∧ a.2 = [] := by
   obtain ⟨a1, a2⟩ := a
   cases a1 with
   | sc v =>
    have := Zy h1
    subst this
    cases d with
    | zero => simp [Dg] at h1
    | succ d =>
     have : (AV.sc v, ([] : List Nat)) = (.sc v, a2) := Option.some.inj h1
     cases this
     exact ⟨rfl, rfl⟩
   | _ => simp [Pf] at hs
  refine ⟨by rw [hx.1], by rw [hx.2, e2]; rfl⟩
theorem Uf {d : Nat} : ∀ {ts : List Nat} {l : List AV}, ts.length = l.length → l.all Pf = true → Em (Dg As E0.tp H (d + 1)) ts l = some (l, [])
 | [], [], _, _ => rfl
 | t :: ts, x :: l, h, hl => by
  rw [zas, zae] at hl
  cases x with
  | sc v =>
   rw [Em, Zv, zac, Uf (by simpa using h) hl.2]
   rfl
  | _ => simp [Pf] at hl
 | [], _ :: _, h, _ => by simp at h
 | _ :: _, [], h, _ => by simp at h
theorem Sep.closeR {sz m ty id : Nat} {pre cells post : List AV} (hty : ∃ i j, As ty = some i ∧ As i.elem = some j ∧ j.size = sz ∧ j.cty.length = sz) (hs : Sep H (.blk id (pre ++ (cells ++ post)) true :: L)) (hf : cells.all Pf = true) (hl : cells.length = m * sz) : Sep H (.own (.sl id pre.length m sz) ty (.ro m cells) :: L) := by
 obtain ⟨i, j, e1, e2, rfl, e4⟩ := hty
 obtain ⟨I, ⟨J, R, rfl, ⟨rfl, h1⟩, h2⟩, h3⟩ := hs
 have hlen : ((zah m j.cty).flatten).length = cells.length := by simp [e4, hl]
 refine ⟨[id] ++ R, ⟨[id], R, rfl, ⟨rfl, ⟨i, j, e1, e2, hl, Sp hlen hf⟩, ?_⟩, h2⟩, h3⟩
 rw [Ju]
 have ha : Ka H id = true := by simp only [Ka, h1]
 have hrd : Ba H id pre.length (m * j.size) = some cells := by
  simp only [Ba, h1, if_true]
  rw [if_pos (by simp only [zaf]; omega), List.drop_left', ← hl, List.take_left']
  rfl
  rfl
 simp only [e1, e2, zac, if_true, ha, hrd, Uf (d := 4) hlen hf]
theorem Ajv {w m o d : Nat} {z : Int} {K : AV → Option β} (h0 : 0 ≤ z) (h1 : z < m) (hk : Gd G (K (.ptr d (o + z.toNat * w)))) : Gd G (Es w (.sl d o m w) (.sc (.int .i64 z)) fun t => K t) := by
 have e := Zo w m d o z.toNat (fun t => K t) (by omega)
 rw [show ((z.toNat : Nat) : Int) = z by omega] at e
 exact D3 e hk
end
end
section
open Go
section
variable {β : Type} {n : Nat} {H : Ac} {L L' L1 L2 : List Ck} {G : Option β → Prop} {K : AV → Option β} {KH : KO β}
theorem Yr {d : Nat} : ∀ {ts : List Nat} {xs cells : List AV} {I : List Nat} {k : Nat} {v : Value}, Em (Dg As E0.tp H d) ts xs = some (cells, I) → cells[k]? = some (.sc v) → xs[k]? = some (.sc v)
 | ts, [], cells, I, k, v, h, hk => by
  obtain ⟨_, e⟩ := Js h
  cases e
  simp at hk
 | [], _ :: _, _, _, _, _, h, _ => by simp [Em] at h
 | t :: ts, x :: xs, cells, I, k, v, h, hk => by
  obtain ⟨a, b, h1, h2, e⟩ := Im h
  cases e
  cases k with
  | zero =>
   obtain ⟨a1, a2⟩ := a
   have : a1 = .sc v := by simpa using hk
   subst this
   rw [Zy h1]
   rfl
  | succ k => simpa using Yr h2 (by simpa using hk)
theorem Aju {sz m ty : Nat} {x : AV} {cells : List AV} {i : Int} (hs : Sep H L) (hty : ∃ i j, As ty = some i ∧ As i.elem = some j ∧ j.size = sz) (hp : Pk L (.own x ty (.ro m cells)) L1) (h0 : 0 ≤ i) (h1 : i < (m : Nat))
  (h : ∀ id off, (∀ k v, k < sz → cells[i.toNat * sz + k]? = some (.sc v) → Ba H id (off + k) 1 = some [.sc v]) → Gd G (K (.ptr id off))) : Gd G (Es sz x (si i) fun t => K t) := by
 obtain ⟨ti, tj, e1, e2, rfl⟩ := hty
 obtain ⟨_, _, I, e, _⟩ := hs.own hp
 rcases Zw e1 e2 e with ⟨rfl, rfl, rfl, rfl⟩ | ⟨id, off, raw, J', b, rfl, rfl, hb, hlv, ha, h4, h5⟩
 exact absurd h1 (by simp; omega)
 refine Ajv h0 h1 (h _ _ fun k v hk hc => ?_)
 obtain ⟨hl, b', hb', _, hle, hcs⟩ := Kr h4
 rw [hb] at hb'
 cases hb'
 have hr := Yr h5 hc
 have hlt := (zad.1 hr).1
 rw [hl] at hlt
 have hg : b.cells[off + i.toNat * tj.size + k]? = some (.sc v) := by
  rw [hcs, zb1 hlt, zbc] at hr
  rw [← hr]
  congr 1
  omega
 obtain ⟨hlt2, he⟩ := zad.1 hg
 simp only [Ba, hb, hlv, if_true]
 rw [if_pos (by omega), zaA hlt2, he]
 rfl
theorem An6 {id o : Nat} {c : AV} (e : Ba H id o 1 = some [c]) (h : Gd G (K c)) : Gd G (Cu false 1 (.ptr id o) H fun x => K x) := D3 (ldF e _) h
end
end
section
open Go
section
variable {β : Type} {n : Nat} {H : Ac} {L L' L1 L2 : List Ck} {G : Option β → Prop} {K : AV → Option β} {KH : KO β}
theorem AjQ {id o w k v : Nat} {cs : List AV} (e : Ba H id o w = some cs) (hk : k + v ≤ w) : Ba H id (o + k) v = some ((cs.drop k).take v) := by
 obtain ⟨hl, b, hb, hlv, hle, hcs⟩ := Kr e
 simp only [Ba, hb, hlv, if_true]
 rw [if_pos (by omega), hcs, List.drop_take, List.take_take, zb6, Nat.min_eq_left (by omega)]
theorem Rn {id o k : Nat} {c : AV} {w : Nat} {cs : List AV} (e : Ba H id o w = some cs) (hk : k < w) (hc : cs[k]? = some c) (h : Gd G (K c)) : Gd G (Cu false 1 (.ptr id (o + k)) H fun x => K x) := by
 have e2 := AjQ (k := k) (v := 1) e (by omega)
 obtain ⟨hlt, he⟩ := zad.1 hc
 rw [zaA hlt, he] at e2
 exact An6 e2 h
def A9 (s : ByteArray) (b : Int) : ByteArray := s.push (UInt8.ofNat b.toNat)
theorem Az (s : ByteArray) (b : Int) : (A9 s b).size = s.size + 1 := by
 unfold A9
 exact ByteArray.size_push
theorem Ib (s : ByteArray) (b : Int) (h0 : 0 ≤ b) (h1 : b < 256) : Af (A9 s b) = .ro (s.size + 1) (Bl s ++ [.sc (.int .u8 b)]) := by
 show AV.ro (A9 s b).size (Bl (A9 s b)) = _
 rw [Az]
 congr 1
 have e : ((UInt8.ofNat b.toNat).toNat : Int) = b := by
  rw [UInt8.toNat_ofNat']
  omega
 unfold Bl A9
 rw [zbD, Array.toList_push, za2, zat, zaB, e]
theorem Ff {ty : Nat} {cty : List Nat} {x : AV} {s : ByteArray} {i : Nat} {z : Int} {a : Bool} (hs : Sep H L) (hx : Pk L (.own x ty (Af s)) L1) (hp : Pk L1 (.blk i [.sc (.int .u8 z)] a) L2) (hty : ∃ i j, As ty = some i ∧ As i.elem = some j ∧ j.size = 1 ∧ j.cty = cty) (hc : cty.length = 1) (hb : 0 ≤ z ∧ z < 256 ∧ s.size + 1 ≤ 140737488355328)
  (h : ∀ x' H', Bj x' = true → Sep H' (.own x' ty (Af (A9 s z)) :: L2) → Gd G (KH x' H')) : Gd G (Mo 1 1 x (.sl i 0 1 1) H fun x H => KH x H) := by
 obtain ⟨c, rfl⟩ := zbu.1 hc
 have e1 : (zah 1 [c]).flatten = [c] := by simp
 rw [Ib s z hb.1 hb.2.1] at h
 exact Aa5 (m := 1) (cb := [.sc (.int .u8 z)]) hs hty hx (Z4 hp rfl rfl (by rw [e1]; exact .sc .nil) (by rw [e1]; exact ⟨trivial, trivial⟩)) (by rw [e1]; exact ⟨trivial, trivial⟩) (by omega) fun x' H' lx hs' => h x' H' lx hs'
theorem F8 {k k' : IntKind} {a z : Int} {K : AV → Option β} (hz : k.wrap a = z) (h : Gd G (K (.sc (.int k z)))) : Gd G (AaO k (.sc (.int k' a)) fun t => K t) := by
 subst hz
 exact h
end
end
section
open Go
section
variable {β : Type} {n : Nat} {H : Ac} {L L1 : List Ck} {G : Option β → Prop} {K : AV → Option β} {KH : KO β}
theorem Om {ty : Nat} {x : AV} {l : List ByteArray} {y : ByteArray} {i : Int} (hs : Sep H L) (hp : Pk L (.own x ty (Ee l)) L1) (hty : ∃ i j, As ty = some i ∧ As i.elem = some j ∧ j.size = 1) (h0 : 0 ≤ i) (hy : l[i.toNat]? = some y)
  (h : ∀ id off, Ba H id off 1 = some [ss y] → Gd G (K (.ptr id off))) : Gd G (Es 1 x (si i) fun t => K t) := by
 have hlt := (zad.1 hy).1
 exact Aju (m := l.length) (cells := l.map fun z => .sc (.string z)) hs hty hp h0 (by omega) fun id off hc => h id off (hc 0 _ (by omega) (by simp [hy]))
theorem Th {ty f : Nat} {g : Nat → List AV → Option AV} {args vs : List AV} {v : Value} (hg : E0.ext f = some g) (hv : args.mapM (Dt H 8) = some vs) (ht : g ty vs = some (.sc v)) (h : Gd G (KH (.sc v) H)) : Gd G ((PR n β).call ty (.fn f [] []) args H fun x H => KH x H) := by
 refine D3 ?_ h
 rw [Abj hg hv ht, G2, zan]
theorem Aw {X : Option β} (e : Bool) {F : Bool → Option β} (h1 : ∀ b, b = e → Gd (· = F b) X) (h2 : ∀ b, b = e → Gd G (F b)) : Gd G X := by
 have h : X = F e := h1 e rfl
 rw [h]
 exact h2 e rfl
theorem Aj {X : Option β} : Gd (· = X) X := rfl
theorem Bs {c v b : Bool} {y : AV} (hc : c = true) (hv : v = b) (h : Gd G (K (.sc (.bool b)))) : Gd G (O9 (.sc (.bool c)) (.sc (.bool v)) y fun t => K t) := by
 subst hc
 subst hv
 exact Ef rfl h
theorem Br {c v b : Bool} {x : AV} (hc : c = false) (hv : v = b) (h : Gd G (K (.sc (.bool b)))) : Gd G (O9 (.sc (.bool c)) x (.sc (.bool v)) fun t => K t) := by
 subst hc
 subst hv
 exact Dq rfl h
end
end
end Go.Proofs.YtlcpigdmekgajaaGreatDoor.Abs
set_option maxHeartbeats 1600000
namespace Go.Proofs.YtlcpigdmekgajaaGreatDoor.Abs
open _root_.Bool renaming false_eq_true → zaa, and_eq_true → zae, not_true → zax, true_and → za5, eq_iff_iff → zbq
open _root_.Option renaming bind_eq_some_iff → zab, bind_some → zac, getD_some → zaG, bind_eq_bind → zaO, pure_def → zbd
open _root_.List renaming getElem?_eq_some_iff → zad, length_append → zaf, nil_append → zag, replicate → zah, append_assoc → zai, getElem?_append_right → zak, length_cons → zal, getElem?_append_left → zam, append_nil → zan, length_nil → zao, length_singleton → zaq, all_cons → zas, map_cons → zat, cons_append → zau, mem_cons_of_mem → zay, mem_cons_self → za1, map_append → za2, flatten_cons → za3, mapM_cons → za4, all_eq_true → za6, drop_eq_getElem_cons → zaA, map_nil → zaB, mem_append_left → zaF, take_length → zaL, mem_append_right → zaM, drop_append_of_le_length → zaQ, mem_append → zaV, drop_zero → zaW, nodup_append → zbb, getElem?_drop → zbc, drop_of_length_le → zbh, nodup_cons → zbj, mem_singleton → zbk, flatten_append → zbr, length_eq_one_iff → zbu, getD_eq_getElem?_getD → zbv, flatten_nil → zbw, getElem?_take_of_lt → zb1, drop_length → zb5, drop_drop → zb6, Perm → zbA, any_cons → zbB, getElem?_set_ne → zbC, mem_cons → zbF, mem_map → zbI, map_map → zbK
open _root_.ByteArray renaming size → zaJ, data_push → zbD
open _root_.Nat renaming le_refl → zap, zero_add → zav, le_trans → za9, add_assoc → zaN, reduceAdd → zaR, sub_self → zaT, add_zero → zba, mul_one → zbs, add_comm → zbE, add_mul → zbH, succ_mul → zbJ
open _root_.Array renaming ext' → zbf
open _root_.Int renaming natCast_zero → zaI, toNat_natCast → zbo
section
open Go
def Ga (l : ByteArray) (last : Bool) : Bool := !vPH l || (l.toList == (⟨#[43]⟩ : ByteArray).toList || (l.toList == (⟨#[35]⟩ : ByteArray).toList && last))
def Ey : List ByteArray → Bool
 | [] => true
 | x :: r => Ga x r.isEmpty && Ey r
def Gi (s : ByteArray) : Bool := Bd s && (!(s.toList == (⟨#[]⟩ : ByteArray).toList) && decide (((Bm s).length : Int) ≤ 6))
def B0 (s : ByteArray) : Bool := Ey (Bm s) && Gi s
theorem eqB {a b : ByteArray} : (a.toList == b.toList) = true ↔ a = b := by
 rw [beq_iff_eq]
 constructor
 intro h
 have h2 : a.data.toList = b.data.toList := by simpa [ByteArray.toList_eq] using h
 exact ByteArray.ext (zbf h2)
 rintro rfl
 rfl
theorem Zr : ∀ (r cur : List UInt8), (lvL cur r).length ≤ r.length + 1
 | [], cur => by simp [lvL]
 | c :: r, cur => by
  rw [lvL]
  split
  have := Zr r []
  simp only [zal]
  omega
  have := Zr r (cur ++ [c])
  simp only [zal]
  omega
theorem Tj : ∀ (r cur : List UInt8), ∀ x ∈ lvL cur r, x.length ≤ cur.length + r.length
 | [], cur, x, h => by
  simp only [lvL, zbk] at h
  subst h
  simp
 | c :: r, cur, x, h => by
  rw [lvL] at h
  split at h
  rcases zbF.1 h with rfl | h
  simp only [zal]
  omega
  have := Tj r [] x h
  simp only [zal, zao] at *
  omega
  have := Tj r (cur ++ [c]) x h
  simp only [zaf, zal, zao] at *
  omega
theorem Kp (s : ByteArray) (hs : s.size ≤ 1048576) : (Bm s).length ≤ 1048577 := by
 have := Zr s.data.toList []
 unfold Bm
 rw [List.length_map]
 have e : s.data.toList.length = s.size := by simp
 omega
theorem Yi (s : ByteArray) (hs : s.size ≤ 1048576) (x : ByteArray) (hx : x ∈ Bm s) : x.size ≤ 1048576 := by
 unfold Bm at hx
 obtain ⟨l, hl, rfl⟩ := zbI.1 hx
 have := Tj s.data.toList [] l hl
 have e : s.data.toList.length = s.size := by simp
 have e2 : (ofL l).size = l.length := by simp [ofL, zaJ]
 simp only [zao] at this
 omega
theorem AnB (a b : Nat) : decide (((a : Nat) : Int) < ((a + (b + 1) : Nat) : Int) - 1) = !decide (((a : Nat) : Int) = ((a + (b + 1) : Nat) : Int) - 1) := by
 by_cases h : b = 0
 rw [decide_eq_false (by omega), decide_eq_true (by omega)]
 rfl
 rw [decide_eq_true (by omega), decide_eq_false (by omega)]
 rfl
theorem AeA (l : ByteArray) (last : Bool) : Ga l last = !((I1 l 43 && !(l.toList == (⟨#[43]⟩ : ByteArray).toList)) || (I1 l 35 && (!(l.toList == (⟨#[35]⟩ : ByteArray).toList) || !last))) := by
 unfold Ga
 rw [show vPH l = (I1 l 43 || I1 l 35) from rfl]
 by_cases h1 : (l.toList == (⟨#[43]⟩ : ByteArray).toList) = true
 obtain rfl := eqB.1 h1
 have e1 : I1 (⟨#[43]⟩ : ByteArray) 43 = true := by decide
 have e2 : I1 (⟨#[43]⟩ : ByteArray) 35 = false := by decide
 rw [e1, e2, h1]
 simp
 by_cases h2 : (l.toList == (⟨#[35]⟩ : ByteArray).toList) = true
 obtain rfl := eqB.1 h2
 have e1 : I1 (⟨#[35]⟩ : ByteArray) 43 = false := by decide
 have e2 : I1 (⟨#[35]⟩ : ByteArray) 35 = true := by decide
 rw [e1, e2, h2, Bool.eq_false_iff.2 h1]
 simp
 rw [Bool.eq_false_iff.2 h1, Bool.eq_false_iff.2 h2]
 cases I1 l 43 <;> cases I1 l 35 <;> rfl
theorem Ahe (n : Nat) (x : ByteArray) (b : Bool) (hx : x.size ≤ 1048576) : Bz E0 (n + 1) 4 150 [.sc (.string x), .sc (.bool b)] = some (.sc (.bool (Ga x b))) := by
 rw [At, AiV, f150]
 refine Ce (G := (· = some (sb (Ga x b)))) ?_
 try simp only [Fc, Fb]
 have s0 : Sep [] [] := B5
 refine Th rfl rfl (Xy _ x hx) (B4 (Aa ((vPH x)) (fun h1 => ?_) fun h1 => ?_))
 refine Ad (nF h1) (Ad (nF h1) (Rm (Dq (nF h1) (Aa ((x.toList == (⟨#[43]⟩ : ByteArray).toList)) (fun h2 => ?_) fun h2 => ?_))))
 refine Ab h2 (Ab h2 (Ab h2 (Dj (Ab h2 (Ef h2 (Ai rfl ?_))))))
 have e : Ga x b = true := by
  unfold Ga; simp only [h1, h2, Dv]
 rw [e]
 refine Ad h2 (Ad h2 (Rm (Ad h2 (Aa ((x.toList == (⟨#[35]⟩ : ByteArray).toList)) (fun h3 => ?_) fun h3 => ?_))))
 refine Ad h3 (Ad h2 (Ef h3 (Dq h2 (Ai rfl ?_))))
 have e : Ga x b = b := by
  unfold Ga; simp only [h1, h2, h3, Dv]
 rw [e]
 refine Ab h3 (Ad h2 (Dq h3 (Dq h2 (Ai rfl ?_))))
 have e : Ga x b = false := by
  unfold Ga; simp only [h1, h2, h3, Dv]
 rw [e]
 refine Ab (nT h1) (Ab (nT h1) (Ef (nT h1) (Ab rfl (Ab rfl (Ab rfl (Dj (Ab rfl (Ef rfl (Ai rfl ?_)))))))))
 have e : Ga x b = true := by
  unfold Ga; simp only [h1, Dv]
 rw [e]
theorem Py (n : Nat) (hn : 1048576 < n) (s : ByteArray) (hs : s.size ≤ 1048576) (ks : Sq s)   : ∀ (t pre : List ByteArray) (m : Nat) (i : Int) (x1 : AV) (H : Ac), (Bm s) = pre ++ t → i = ((pre.length : Nat) : Int) → t.length < m → Bj x1 = true → Sep H [.own x1 56 (Ee (Bm s))] → Gd (· = some (.sc (.bool (Ey t && Gi s)))) (Oi (PR (n + 5) AV) (n + 5) (fun x H => Bc As E0.tp 4 H x) m (.sc (.string s)) (x1) (x1) (.sc (.int .i64 (((Bm s).length : Nat) : Int))) (.sc (.int .i64 i)) H)
 | [], pre, m + 1, i, x1, H, he, hi, hm, lx1, s0 => by
  obtain rfl : pre = (Bm s) := by simpa using he.symm
  have hlen : (Bm s).length ≤ 1048577 := Kp s hs
  have hlen : (Bm s).length ≤ 1048577 := Kp s hs
  rw [Oi]
  try simp only [Fc, Fb]
  refine Dd (Av (by simp [hi]) (Th rfl rfl (L6 _ s ks) (Aa ((Bd s)) (fun h201 => ?_) fun h201 => ?_)))
  refine Ad h201 (Ad h201 (Pv (Ef h201 (Aa ((s.toList == (⟨#[]⟩ : ByteArray).toList)) (fun h202 => ?_) fun h202 => ?_))))
  refine Ab (nF h202) (Ab (nF h202) (Ab (nF h202) (Dq (nF h202) (Ai rfl ?_))))
  have e : (Ey [] && Gi s) = false := by
   unfold Gi; simp only [Ey, h201, h202, Dv]
  rw [e]
  refine Ad (nT h202) (Ad (nT h202) (Kh s0 (.here) (Ad (nT h202) (O5 (Ef (nT h202) (Ai rfl ?_))))))
  have e : (Ey [] && Gi s) = (decide ((((Bm s).length : Nat) : Int) ≤ 6)) := by
   unfold Gi; simp only [Ey, h201, h202, Dv]
  rw [e]
  refine Ab h201 (Ab h201 (Dq h201 (Ab rfl (Ab rfl (Ab rfl (Dq rfl (Ai rfl ?_)))))))
  have e : (Ey [] && Gi s) = false := by
   unfold Gi; simp only [Ey, h201, Dv]
  rw [e]
 | y :: t, pre, m + 1, i, x1, H, he, hi, hm, lx1, s0 => by
  have hlt : pre.length < (Bm s).length := by rw [he]; simp
  have hlen : (Bm s).length ≤ 1048577 := Kp s hs
  have hlen : (Bm s).length ≤ 1048577 := Kp s hs
  have hys : y.size ≤ 1048576 := Yi s hs y (by rw [he]; simp)
  have hd : decide (i = (((Bm s).length : Nat) : Int) - 1) = t.isEmpty := by
   rw [he, hi]; cases t <;> simp <;> omega
  rw [Oi]
  try simp only [Fc, Fb]
  refine Dd (Aq (by simp [hi]; omega) ?_)
  have he201 : ((Bm s))[(i).toNat]? = some y := by rw [he, hi]; simp
  refine Om (y := y) s0 (.here) ⟨_, _, rfl, rfl, rfl⟩ (by omega) he201 fun de201 oe201 re201 => Rn (k := 0) re201 (by omega) rfl (Kh s0 (.here) (Nt (by omega) (by omega) (A2 (Ao (v := (.bool (Ga y (decide (i = ((((Bm s).length : Nat) : Int) - 1)))))) s0 rfl (Is .nil) (Ahe (n + 4) y (decide (i = ((((Bm s).length : Nat) : Int) - 1))) hys) (B4 (Aa ((Ga y (decide (i = ((((Bm s).length : Nat) : Int) - 1))))) (fun h203 => ?_) fun h203 => ?_))))))
  refine Av (nF h203) (Bx (by omega) (by omega) ?_)
  have e204 : (Ey (y :: t) && Gi s) = (Ey t && Gi s) := by
   rw [Ey, ← hd]; simp only [h203, Dv]
  rw [e204]
  exact Py n hn s hs ks   t (pre ++ [y]) m _ x1 _ (by rw [he]; simp) (by rw [hi]; simp) (by simpa using hm) lx1 (by simpa only [za2, zat, zaB] using (s0.sel (.cons (.here) .nil)))
  refine Aq (nT h203) (Ai rfl ?_)
  have e : (Ey (y :: t) && Gi s) = false := by
   rw [Ey, ← hd]; simp only [h203, Dv]
  rw [e]
theorem T9 (n : Nat) (hn : 1048576 < n) (s : ByteArray) (hs : s.size ≤ 1048576) (ks : Sq s) : Bz E0 (n + 6) 4 138 [.sc (.string s)] = some (.sc (.bool (B0 s))) := by
 rw [At, AiM, f138]
 refine Ce (G := (· = some (sb (B0 s)))) ?_
 have hlen : (Bm s).length ≤ 1048577 := Kp s hs
 try simp only [Fc, Fb]
 have s0 : Sep [] [] := B5
 exact Cb s0 rfl (.cons .sc .nil) (Ua (n + 4) s hs) (Wl (Bm s)) fun x1 H lx1 s2 => Kh s2 (.here) (Py n hn s hs ks   (Bm s) [] _ 0 x1 _ rfl rfl (by omega) lx1 s2)
theorem Ii (n : Nat) (hn : 1048576 < n) (s : ByteArray) (hs : s.size ≤ 1048576) (ks : Sq s)   : ∀ (t pre : List ByteArray) (m : Nat) (i : Int) (x1 : AV) (H : Ac), (Bm s) = pre ++ t → i = ((pre.length : Nat) : Int) → t.length < m → Bj x1 = true → Sep H [.own x1 56 (Ee (Bm s))] → Gd (· = some (.sc (.bool (Ey t && Gi s)))) (Rj (PR (n + 5) AV) (n + 5) (fun x H => Bc As E0.tp 4 H x) m (.sc (.string s)) (x1) (.sc (.int .i64 i)) H)
 | [], pre, m + 1, i, x1, H, he, hi, hm, lx1, s0 => by
  obtain rfl : pre = (Bm s) := by simpa using he.symm
  have hlen : (Bm s).length ≤ 1048577 := Kp s hs
  have hlen : (Bm s).length ≤ 1048577 := Kp s hs
  rw [Rj]
  try simp only [Fc, Fb]
  refine Kh s0 (.here) (Dd (Av (by simp [hi]) (Ao (v := (.bool (Bd s))) s0 rfl (.cons .sc .nil) (Ip (n + 1) (by omega) _ s) (Aa ((Bd s)) (fun h201 => ?_) fun h201 => ?_))))
  refine Ad h201 (Ad h201 (Pv (Ef h201 (Aa ((s.toList == (⟨#[]⟩ : ByteArray).toList)) (fun h202 => ?_) fun h202 => ?_))))
  refine Ab (nF h202) (Ab (nF h202) (Ab (nF h202) (Dq (nF h202) (Ai rfl ?_))))
  have e : (Ey [] && Gi s) = false := by
   unfold Gi; simp only [Ey, h201, h202, Dv]
  rw [e]
  refine Ad (nT h202) (Ad (nT h202) (Kh s0 (.here) (Ad (nT h202) (O5 (Ef (nT h202) (Ai rfl ?_))))))
  have e : (Ey [] && Gi s) = (decide ((((Bm s).length : Nat) : Int) ≤ 6)) := by
   unfold Gi; simp only [Ey, h201, h202, Dv]
  rw [e]
  refine Ab h201 (Ab h201 (Dq h201 (Ab rfl (Ab rfl (Ab rfl (Dq rfl (Ai rfl ?_)))))))
  have e : (Ey [] && Gi s) = false := by
   unfold Gi; simp only [Ey, h201, Dv]
  rw [e]
 | y :: t, pre, m + 1, i, x1, H, he, hi, hm, lx1, s0 => by
  have hlt : pre.length < (Bm s).length := by rw [he]; simp
  have hlen : (Bm s).length ≤ 1048577 := Kp s hs
  have hlen : (Bm s).length ≤ 1048577 := Kp s hs
  have hys : y.size ≤ 1048576 := Yi s hs y (by rw [he]; simp)
  have hd : decide (i = (((Bm s).length : Nat) : Int) - 1) = t.isEmpty := by
   rw [he, hi]; cases t <;> simp <;> omega
  have hv : Ga y t.isEmpty = !((I1 y 43 && !(y.toList == (⟨#[43]⟩ : ByteArray).toList)) || (I1 y 35 && (!(y.toList == (⟨#[35]⟩ : ByteArray).toList) || decide (i < (((Bm s).length : Nat) : Int) - 1)))) := by
   rw [AeA, ← hd, show decide (i < (((Bm s).length : Nat) : Int) - 1) = !decide (i = (((Bm s).length : Nat) : Int) - 1) from by rw [he, hi, zaf, zal]; exact AnB _ _]
  rw [Rj]
  try simp only [Fc, Fb]
  refine Kh s0 (.here) (Dd (Aq (by simp [hi]; omega) ?_))
  have he201 : ((Bm s))[(i).toNat]? = some y := by rw [he, hi]; simp
  refine Om (y := y) s0 (.here) ⟨_, _, rfl, rfl, rfl⟩ (by omega) he201 fun de201 oe201 re201 => Rn (k := 0) re201 (by omega) rfl (Ao (v := (.bool (I1 y 43))) s0 rfl (Is .nil) (AkB (n + 4) (by omega) _ y hys) (Aa ((I1 y 43)) (fun h203 => ?_) fun h203 => ?_))
  refine Ad h203 (Ad h203 (Ad h203 ?_))
  have he204 : ((Bm s))[(i).toNat]? = some y := by rw [he, hi]; simp
  refine Om (y := y) s0 (.here) ⟨_, _, rfl, rfl, rfl⟩ (by omega) he204 fun de204 oe204 re204 => Ad h203 (Rn (k := 0) re204 (by omega) rfl (Ad h203 (Pv (Ef h203 (Aa ((y.toList == (⟨#[43]⟩ : ByteArray).toList)) (fun h206 => ?_) fun h206 => ?_)))))
  refine Ad (nF h206) (Ad (nF h206) (Ad (nF h206) ?_))
  have he207 : ((Bm s))[(i).toNat]? = some y := by rw [he, hi]; simp
  refine Om (y := y) s0 (.here) ⟨_, _, rfl, rfl, rfl⟩ (by omega) he207 fun de207 oe207 re207 => Ad (nF h206) (Rn (k := 0) re207 (by omega) rfl (Ad (nF h206) (Ao (v := (.bool (I1 y 35))) s0 rfl (Is .nil) (AgR (n + 4) (by omega) _ y hys) (Ad (nF h206) (Aa ((I1 y 35)) (fun h209 => ?_) fun h209 => ?_)))))
  refine Ad h209 (Ad h209 (Ad h209 ?_))
  have he210 : ((Bm s))[(i).toNat]? = some y := by rw [he, hi]; simp
  refine Om (y := y) s0 (.here) ⟨_, _, rfl, rfl, rfl⟩ (by omega) he210 fun de210 oe210 re210 => Ad h209 (Rn (k := 0) re210 (by omega) rfl (Ad h209 (Pv (Ad h209 (Aa ((y.toList == (⟨#[35]⟩ : ByteArray).toList)) (fun h212 => ?_) fun h212 => ?_)))))
  refine Ad (nF h212) (Ad (nF h212) (Ad (nF h212) (Kh s0 (.here) (Ad (nF h212) (Nt (by omega) (by omega) (Ad (nF h212) (Dd (Ad h209 (Dq (nF h212) (Ad (nF h206) (Ef h209 (Dq (nF h206) (Aa ((decide (i < ((((Bm s).length : Nat) : Int) - 1)))) (fun h213 => ?_) fun h213 => ?_)))))))))))))
  refine Aq h213 (Ai rfl ?_)
  have e : (Ey (y :: t) && Gi s) = false := by
   rw [Ey, hv]; simp only [h203, h206, h209, h212, h213, Dv]
  rw [e]
  refine Av h213 (Bx (by omega) (by omega) ?_)
  have e214 : (Ey (y :: t) && Gi s) = (Ey t && Gi s) := by
   rw [Ey, hv]; simp only [h203, h206, h209, h212, h213, Dv]
  rw [e214]
  exact Ii n hn s hs ks   t (pre ++ [y]) m _ x1 _ (by rw [he]; simp) (by rw [hi]; simp) (by simpa using hm) lx1 (by simpa only [za2, zat, zaB] using (s0.sel (.cons (.here) .nil)))
  refine Ab (nT h212) (Ab (nT h212) (Ab (nT h212) (Ab (nT h212) (Ab (nT h212) (Ad h209 (Ef (nT h212) (Ad (nF h206) (Ef h209 (Dq (nF h206) (Aq rfl (Ai rfl ?_)))))))))))
  have e : (Ey (y :: t) && Gi s) = false := by
   rw [Ey, hv]; simp only [h203, h206, h209, h212, Dv]
  rw [e]
  refine Ab h209 (Ab h209 (Ab h209 (Ab h209 (Ab h209 (Ab h209 (Dj (Dj (Dj (Dj (Dj (Ab h209 (Ad (nF h206) (Dq h209 (Dq (nF h206) (Av rfl (Bx (by omega) (by omega) ?_))))))))))))))))
  have e215 : (Ey (y :: t) && Gi s) = (Ey t && Gi s) := by
   rw [Ey, hv]; simp only [h203, h206, h209, Dv]
  rw [e215]
  exact Ii n hn s hs ks   t (pre ++ [y]) m _ x1 _ (by rw [he]; simp) (by rw [hi]; simp) (by simpa using hm) lx1 (by simpa only [za2, zat, zaB] using (s0.sel (.cons (.here) .nil)))
  refine Ab (nT h206) (Ab (nT h206) (Ab (nT h206) (Ab (nT h206) (Ab (nT h206) (Ab (nT h206) (Dj (Dj (Dj (Dj (Dj (Dj (Dj (Dj (Dj (Dj (Dj (Dj (Ab (nT h206) (Ef (nT h206) (Aq rfl (Ai rfl ?_)))))))))))))))))))))
  have e : (Ey (y :: t) && Gi s) = false := by
   rw [Ey, hv]; simp only [h203, h206, Dv]
  rw [e]
  refine Ab h203 (Ab h203 (Ab h203 (Ab h203 (Ab h203 (Dq h203 (Ad rfl (Ad rfl (Ad rfl ?_))))))))
  have he216 : ((Bm s))[(i).toNat]? = some y := by rw [he, hi]; simp
  refine Om (y := y) s0 (.here) ⟨_, _, rfl, rfl, rfl⟩ (by omega) he216 fun de216 oe216 re216 => Ad rfl (Rn (k := 0) re216 (by omega) rfl (Ad rfl (Ao (v := (.bool (I1 y 35))) s0 rfl (Is .nil) (AgR (n + 4) (by omega) _ y hys) (Ad rfl (Aa ((I1 y 35)) (fun h218 => ?_) fun h218 => ?_)))))
  refine Ad h218 (Ad h218 (Ad h218 ?_))
  have he219 : ((Bm s))[(i).toNat]? = some y := by rw [he, hi]; simp
  refine Om (y := y) s0 (.here) ⟨_, _, rfl, rfl, rfl⟩ (by omega) he219 fun de219 oe219 re219 => Ad h218 (Rn (k := 0) re219 (by omega) rfl (Ad h218 (Pv (Ad h218 (Aa ((y.toList == (⟨#[35]⟩ : ByteArray).toList)) (fun h221 => ?_) fun h221 => ?_)))))
  refine Ad (nF h221) (Ad (nF h221) (Ad (nF h221) (Kh s0 (.here) (Ad (nF h221) (Nt (by omega) (by omega) (Ad (nF h221) (Dd (Ad h218 (Dq (nF h221) (Ad rfl (Ef h218 (Dq rfl (Aa ((decide (i < ((((Bm s).length : Nat) : Int) - 1)))) (fun h222 => ?_) fun h222 => ?_)))))))))))))
  refine Aq h222 (Ai rfl ?_)
  have e : (Ey (y :: t) && Gi s) = false := by
   rw [Ey, hv]; simp only [h203, h218, h221, h222, Dv]
  rw [e]
  refine Av h222 (Bx (by omega) (by omega) ?_)
  have e223 : (Ey (y :: t) && Gi s) = (Ey t && Gi s) := by
   rw [Ey, hv]; simp only [h203, h218, h221, h222, Dv]
  rw [e223]
  exact Ii n hn s hs ks   t (pre ++ [y]) m _ x1 _ (by rw [he]; simp) (by rw [hi]; simp) (by simpa using hm) lx1 (by simpa only [za2, zat, zaB] using (s0.sel (.cons (.here) .nil)))
  refine Ab (nT h221) (Ab (nT h221) (Ab (nT h221) (Ab (nT h221) (Ab (nT h221) (Ad h218 (Ef (nT h221) (Ad rfl (Ef h218 (Dq rfl (Aq rfl (Ai rfl ?_)))))))))))
  have e : (Ey (y :: t) && Gi s) = false := by
   rw [Ey, hv]; simp only [h203, h218, h221, Dv]
  rw [e]
  refine Ab h218 (Ab h218 (Ab h218 (Ab h218 (Ab h218 (Ab h218 (Dj (Dj (Dj (Dj (Dj (Ab h218 (Ad rfl (Dq h218 (Dq rfl (Av rfl (Bx (by omega) (by omega) ?_))))))))))))))))
  have e224 : (Ey (y :: t) && Gi s) = (Ey t && Gi s) := by
   rw [Ey, hv]; simp only [h203, h218, Dv]
  rw [e224]
  exact Ii n hn s hs ks   t (pre ++ [y]) m _ x1 _ (by rw [he]; simp) (by rw [hi]; simp) (by simpa using hm) lx1 (by simpa only [za2, zat, zaB] using (s0.sel (.cons (.here) .nil)))
theorem M6 (n : Nat) (hn : 1048576 < n) (s : ByteArray) (hs : s.size ≤ 1048576) (ks : Sq s) : Bz E0 (n + 6) 4 92 [.sc (.string s)] = some (.sc (.bool (B0 s))) := by
 rw [At, AlX, f92]
 refine Ce (G := (· = some (sb (B0 s)))) ?_
 have hlen : (Bm s).length ≤ 1048577 := Kp s hs
 try simp only [Fc, Fb]
 have s0 : Sep [] [] := B5
 exact Cb s0 rfl (.cons .sc .nil) (Uj (n + 4) (by omega) s hs) (Wl (Bm s)) fun x1 H lx1 s2 => Ii n hn s hs ks   (Bm s) [] _ 0 x1 _ rfl rfl (by omega) lx1 s2
end
section
open Go
theorem Amy {s : ByteArray} (h : s.size ≤ 1048576) : Sq s := za9 h (by decide)
theorem Mr (n : Nat) (hn : 1048576 < n) (ty : Nat) (s : ByteArray) (hs : s.size ≤ 1048576) : Bz E0 (n + 5) ty 91 [.sc (.string s)] = some (.sc (.bool (Co s))) := by
 rw [At, AlW, f91]
 try simp only [Fl, H9, Eb, Dp, Fx, Dl, Gn, I4, Ld, Cx, Fe, Pr.gT, Pr.gF, Pr.hT, Pr.hF, Pr.kT, Pr.kF, Gb, Hg, Fj, Hb, K6, Jl, Hh, Ia, Ik, Lj, Me, K5, Jk]
 refine Iz rfl (Ds (Gx _ _) I2) (Ip (n + 0) (by omega) _ s) ?_
 apply Bu ((Bd s) && (!(s.toList == (⟨#[]⟩ : ByteArray).toList)))
 intro b1 q1
 refine Aa ((Bd s)) (fun h1 => ?_) fun h1 => ?_
 exact Ay h1 (Ay h1 (Dh (v := sb (!(s.toList == (⟨#[]⟩ : ByteArray).toList))) (fun k => rfl) (Da h1 (Ea q1 h1) rfl)))
 exact Ax h1 (Ax h1 (C9 h1 (D9 q1 h1) rfl))
 intro b1 q1
 apply Bu (b1 && (!(I1 s 43)))
 intro b2 q2
 refine Aa (b1) (fun h2 => ?_) fun h2 => ?_
 exact Ay h2 (Ay h2 (Iz rfl (Ds (Gx _ _) (Ds (Gx _ _) I2)) (AkB (n + 3) (by omega) _ s hs) (Ay h2 (Y2 (Da h2 (Ea q2 h2) rfl)))))
 exact Ax h2 (Ax h2 (Ax h2 (C9 h2 (D9 q2 h2) rfl)))
 intro b2 q2
 apply Bu (b2 && (!(I1 s 35)))
 intro b3 q3
 refine Aa (b2) (fun h3 => ?_) fun h3 => ?_
 exact Ay h3 (Ay h3 (Iz rfl (Ds (Gx _ _) (Ds (Gx _ _) I2)) (AgR (n + 3) (by omega) _ s hs) (Ay h3 (Y2 (Da h3 (Ea q3 h3) rfl)))))
 exact Ax h3 (Ax h3 (Ax h3 (C9 h3 (D9 q3 h3) rfl)))
 intro b3 q3
 apply Bu (b3 && (decide (((Bm s).length : Int) ≤ 6)))
 intro b4 q4
 refine Aa (b3) (fun h4 => ?_) fun h4 => ?_
 exact Ay h4 (Ay h4 (AcS rfl (Ds (Gx _ _) I2) (Uj (n + 3) (by omega) s hs) fun N5 X5 z5 => Ay h4 (AhR (Ay h4 (Dh (v := sb (decide (((Bm s).length : Int) ≤ 6))) (fun k => rfl) (Da h4 (Ea q4 h4) rfl))))))
 exact Ax h4 (Ax h4 (Ax h4 (Ax h4 (C9 h4 (D9 q4 h4) rfl))))
 intro b4 q4
 exact AhQ (by subst_vars; unfold Co; first | rfl | (unfold vPH; cases Bd s <;> cases I1 s 43 <;> cases I1 s 35 <;> simp))
theorem Oq (n : Nat) (hn : 1048576 < n) (ty : Nat) (s : ByteArray) (hs : s.size ≤ 1048576) : Bz E0 (n + 5) ty 108 [.sc (.string s)] = some (.sc (.bool (Co s))) := by
 rw [At, Aiu, f108]
 try simp only [Fl, H9, Eb, Dp, Fx, Dl, Gn, I4, Ld, Cx, Fe, Pr.gT, Pr.gF, Pr.hT, Pr.hF, Pr.kT, Pr.kF, Gb, Hg, Fj, Hb, K6, Jl, Hh, Ia, Ik, Lj, Me, K5, Jk]
 refine Ahf rfl (Ds (Gx _ _) I2) (L6 _ s (Amy hs)) ?_
 apply Bu ((Bd s) && (!(s.toList == (⟨#[]⟩ : ByteArray).toList)))
 intro b1 q1
 refine Aa ((Bd s)) (fun h1 => ?_) fun h1 => ?_
 exact Ay h1 (Ay h1 (Dh (v := sb (!(s.toList == (⟨#[]⟩ : ByteArray).toList))) (fun k => rfl) (Da h1 (Ea q1 h1) rfl)))
 exact Ax h1 (Ax h1 (C9 h1 (D9 q1 h1) rfl))
 intro b1 q1
 apply Bu (b1 && (!(vPH s)))
 intro b2 q2
 refine Aa (b1) (fun h2 => ?_) fun h2 => ?_
 exact Ay h2 (Ay h2 (Ahf rfl (Ds (Gx _ _) (Ds (Gx _ _) I2)) (Xy _ s hs) (Ay h2 (Y2 (Da h2 (Ea q2 h2) rfl)))))
 exact Ax h2 (Ax h2 (Ax h2 (C9 h2 (D9 q2 h2) rfl)))
 intro b2 q2
 apply Bu (b2 && (decide (((Bm s).length : Int) ≤ 6)))
 intro b3 q3
 refine Aa (b2) (fun h3 => ?_) fun h3 => ?_
 exact Ay h3 (Ay h3 (AcS rfl (Ds (Gx _ _) I2) (Ua (n + 3) s hs) fun N4 X4 z4 => Ay h3 (AhR (Ay h3 (Dh (v := sb (decide (((Bm s).length : Int) ≤ 6))) (fun k => rfl) (Da h3 (Ea q3 h3) rfl))))))
 exact Ax h3 (Ax h3 (Ax h3 (Ax h3 (C9 h3 (D9 q3 h3) rfl))))
 intro b3 q3
 exact AhQ (by subst_vars; unfold Co; first | rfl | (unfold vPH; cases Bd s <;> cases I1 s 43 <;> cases I1 s 35 <;> simp))
def H5 (m : Nm) : Bool := Co m.fTopic && decide ((m.fBody.size : Int) ≤ 40) && Bw m.fQos 0 2
theorem Amp (n : Nat) (ty : Nat) (x : Int) : Bz E0 (n + 2) ty 107 [.sc (.int .i64 x)] = some (.sc (.bool (Bw x 0 2))) := by
 rw [At, Ac1, f107]
 try simp only [Fl, H9, Eb, Dp, Fx, Dl, Gn, I4, Ld, Cx, Fe, Pr.gT, Pr.gF, Pr.hT, Pr.hF, Pr.kT, Pr.kF, Gb, Hg, Fj, Hb, K6, Jl, Hh, Ia, Ik, Lj, Me, K5, Jk]
 exact Iz rfl (Ds (Gx _ _) (Ds (Gx _ _) (Ds (Gx _ _) I2))) (I7 (n + 0) _ x 0 2) (Qe (by first | (simp_all [Bw, Co, H5]; done) | (rw [zbq]; simp [Bw, Co, H5] at *; omega)))
theorem Ah7 (n : Nat) (hn : 1048576 < n) (ty : Nat) (m : Nm) (hs : m.fTopic.size ≤ 1048576) : Bz E0 (n + 6) ty 79 [.agg (Fn m)] = some (.sc (.bool (H5 m))) := by
 rw [At, AlK, f79]
 try simp only [Fl, H9, Eb, Dp, Fx, Dl, Gn, I4, Ld, Cx, Fe, Pr.gT, Pr.gF, Pr.hT, Pr.hF, Pr.kT, Pr.kF, Gb, Hg, Fj, Hb, K6, Jl, Hh, Ia, Ik, Lj, Me, K5, Jk]
 refine Y1 (Jg _) fun iB1 eB1 B1 => A3 (Cr (c := ss m.fTopic) B1 (B9 rfl) rfl (Iz rfl (Ds (Gx _ _) I2) (Mr (n + 0) (by omega) _ m.fTopic (by assumption)) ?_))
 apply Bu ((Co m.fTopic) && (decide ((m.fBody.size : Int) ≤ 40)))
 intro b2 q2
 refine Aa ((Co m.fTopic)) (fun h2 => ?_) fun h2 => ?_
 exact Ay h2 (A3 (Ay h2 (Cr (c := Af m.fBody) B1 (B9 rfl) rfl (Ay h2 (Mu (Ay h2 (Dh (v := sb (decide ((m.fBody.size : Int) ≤ 40))) (fun k => rfl) (Da h2 (Ea q2 h2) rfl))))))))
 exact Ax h2 (Ax h2 (Ax h2 (Ax h2 (C9 h2 (D9 q2 h2) rfl))))
 intro b2 q2
 apply Bu (b2 && (Bw m.fQos 0 2))
 intro b3 q3
 refine Aa (b2) (fun h3 => ?_) fun h3 => ?_
 exact Ay h3 (A3 (Ay h3 (Cr (c := si m.fQos) B1 (B9 rfl) rfl (Ay h3 (Iz rfl (Ds (Gx _ _) (Ds (Gx _ _) (Ds (Gx _ _) I2))) (Hi (n + 4) _ m.fQos 0 2) (Da h3 (Ea q3 h3) rfl))))))
 exact Ax h3 (Ax h3 (Ax h3 (C9 h3 (D9 q3 h3) rfl)))
 intro b3 q3
 exact Qe (by subst_vars; first | rfl | (simp only [H5]; done) | (simp only [H5]; ac_rfl))
theorem AgW (n : Nat) (hn : 1048576 < n) (ty : Nat) (m : Nm) (hs : m.fTopic.size ≤ 1048576) : Bz E0 (n + 6) ty 119 [.agg (Fn m)] = some (.sc (.bool (H5 m))) := by
 rw [At, Ai5, f119]
 try simp only [Fl, H9, Eb, Dp, Fx, Dl, Gn, I4, Ld, Cx, Fe, Pr.gT, Pr.gF, Pr.hT, Pr.hF, Pr.kT, Pr.kF, Gb, Hg, Fj, Hb, K6, Jl, Hh, Ia, Ik, Lj, Me, K5, Jk]
 refine Y1 (Jg _) fun iB1 eB1 B1 => A3 (Cr (c := ss m.fTopic) B1 (B9 rfl) rfl (Iz rfl (Ds (Gx _ _) I2) (Oq (n + 0) (by omega) _ m.fTopic (by assumption)) ?_))
 apply Bu ((Co m.fTopic) && (decide ((m.fBody.size : Int) ≤ 40)))
 intro b2 q2
 refine Aa ((Co m.fTopic)) (fun h2 => ?_) fun h2 => ?_
 exact Ay h2 (A3 (Ay h2 (Cr (c := Af m.fBody) B1 (B9 rfl) rfl (Ay h2 (Mu (Ay h2 (Dh (v := sb (decide ((m.fBody.size : Int) ≤ 40))) (fun k => rfl) (Da h2 (Ea q2 h2) rfl))))))))
 exact Ax h2 (Ax h2 (Ax h2 (Ax h2 (C9 h2 (D9 q2 h2) rfl))))
 intro b2 q2
 apply Bu (b2 && (Bw m.fQos 0 2))
 intro b3 q3
 refine Aa (b2) (fun h3 => ?_) fun h3 => ?_
 exact Ay h3 (A3 (Ay h3 (Cr (c := si m.fQos) B1 (B9 rfl) rfl (Ay h3 (Iz rfl (Ds (Gx _ _) I2) (Amp (n + 3) _ m.fQos) (Da h3 (Ea q3 h3) rfl))))))
 exact Ax h3 (Ax h3 (Ax h3 (C9 h3 (D9 q3 h3) rfl)))
 intro b3 q3
 exact Qe (by subst_vars; first | rfl | (simp only [H5]; done) | (simp only [H5]; ac_rfl))
end
section
open Go
def Kf (x y : WantV) : Bool := x.fFilter.toList == y.fFilter.toList && x.fQos == y.fQos
theorem Xw (x y : WantV) : M2 [1, 0] (Bn x) (Bn y) = some (Kf x y) := by
 simp only [Bn, M2, Abx, Kf, if_true, zac]
 generalize (x.fFilter.toList == y.fFilter.toList) = b0
 generalize (x.fQos == y.fQos) = b1
 cases b0 <;> cases b1 <;> rfl
theorem Abz (n : Nat) (hn : 1048576 < n) (ty : Nat) (l q : List WantV) (hl : l.length ≤ 1048576) : Bz E0 (n + 1) ty 132 [Ci Bn l, Ci Bn q] = some (.sc (.bool (Ho Kf l q))) := by
 rw [At, AiI, f132]
 simp only [Hg, Dl, Cx]
 rw [E8, E8, Sn, Dn, Ho]
 by_cases h : l.length = q.length
 rw [if_neg (by simpa using h), if_pos h]
 rw [E8]
 have key := Mi (β := AV) Bn (Gf) (by decide) (fun x => .agg (Bn x)) (fun p k => Cu true 2 p [] k) (fun x r k => Wd 2 _ _ [] k (Gf x)) (fun x y k => Q4 .neq [1, 0] x y k) Kf (fun x y k => Acu _ _ _ _ (Xw x y) k) l q h hl (fun m i => R7 (PR n AV) n (fun x H => Bc As E0.tp ty H x) m (Ci Bn l) (Ci Bn q) (si l.length) i []) (some bF) (some bT) (fun m i => rfl) l q [] [] n rfl rfl rfl (by omega)
 simp only [zao, zaI] at key
 refine key.trans ?_
 cases J5 Kf l q <;> rfl
 rw [if_pos (by simpa using h), if_neg h]
 rfl
theorem Adv (n : Nat) (hn : 1048576 < n) (ty : Nat) (l q : List ByteArray) (hl : l.length ≤ 1048576) : Bz E0 (n + 1) ty 133 [Ee l, Ee q] = some (.sc (.bool (Ho Tf l q))) := by
 rw [Ma, Ma]
 rw [At, AiJ, f133]
 simp only [Hg, Dl, Cx]
 rw [E8, E8, Sn, Dn, Ho]
 by_cases h : l.length = q.length
 rw [if_neg (by simpa using h), if_pos h]
 rw [E8]
 have key := Mi (β := AV) Vk (fun _ => rfl) (by decide) (fun z => ss z) (fun p k => Cu false 1 p [] k) (fun x r k => ldS x r [] k) (fun x y k => C7 .neq x y k) Tf (fun x y k => neS x y k) l q h hl (fun m i => R8 (PR n AV) n (fun x H => Bc As E0.tp ty H x) m (Ci Vk l) (Ci Vk q) (si l.length) i []) (some bF) (some bT) (fun m i => rfl) l q [] [] n rfl rfl rfl (by omega)
 simp only [zao, zaI] at key
 refine key.trans ?_
 cases J5 Tf l q <;> rfl
 rw [if_pos (by simpa using h), if_neg h]
 rfl
theorem Adu (n : Nat) (hn : 1048576 < n) (ty : Nat) (l q : List Int) (hl : l.length ≤ 1048576) : Bz E0 (n + 1) ty 134 [Ei l, Ei q] = some (.sc (.bool (Ho eqI l q))) := by
 rw [L7, L7]
 rw [At, AiK, f134]
 simp only [Hg, Dl, Cx]
 rw [E8, E8, Sn, Dn, Ho]
 by_cases h : l.length = q.length
 rw [if_neg (by simpa using h), if_pos h]
 rw [E8]
 have key := Mi (β := AV) Vj (fun _ => rfl) (by decide) (fun z => si z) (fun p k => Cu false 1 p [] k) (fun x r k => ldI x r [] k) (fun x y k => C7 .neq x y k) eqI (fun x y k => neI x y k) l q h hl (fun m i => R9 (PR n AV) n (fun x H => Bc As E0.tp ty H x) m (Ci Vj l) (Ci Vj q) (si l.length) i []) (some bF) (some bT) (fun m i => rfl) l q [] [] n rfl rfl rfl (by omega)
 simp only [zao, zaI] at key
 refine key.trans ?_
 cases J5 eqI l q <;> rfl
 rw [if_pos (by simpa using h), if_neg h]
 rfl
def Hl (a b : PacketV) : Bool := (a.fType == b.fType) && (a.fDup == b.fDup) && (a.fQos == b.fQos) && (a.fRetain == b.fRetain) && (a.fId == b.fId) && (a.fTopic.toList == b.fTopic.toList) && (a.fBody.toList == b.fBody.toList) && (a.fClient.toList == b.fClient.toList) && (a.fLevel == b.fLevel) && (a.fClean == b.fClean) && (a.fKeep == b.fKeep) && (a.fHasWill == b.fHasWill) && (a.fWTopic.toList == b.fWTopic.toList) && (a.fWBody.toList == b.fWBody.toList) && (a.fWQos == b.fWQos) && (a.fWRetain == b.fWRetain) && (a.fHasUser == b.fHasUser) && (a.fUser.toList == b.fUser.toList) && (a.fHasPass == b.fHasPass) && (a.fPass.toList == b.fPass.toList) && (a.fCode == b.fCode) && (a.fPresent == b.fPresent)
def Mt (a b : PacketV) : Bool := Ho Kf a.fWants b.fWants && Ho Tf a.fNames b.fNames && Ho eqI a.fCodes b.fCodes
def Cl (a b : PacketV) : Bool := Mt a b && Hl a b
theorem AjN (n : Nat) (hn : 1048576 < n) (ty : Nat) (a b : PacketV) (H : Ac) (i1 i2 : Nat) (B1 : H[i1]? = some ⟨Ap a, true, true⟩) (B2 : H[i2]? = some ⟨Ap b, true, true⟩) (hl2 : a.fCodes.length ≤ 1048576) (hq2 : a.fCodes.length = b.fCodes.length) : Pq (PR (n + 1) AV) (n + 1) (fun x H => Bc As E0.tp ty H x) (n + 1) (.ptr i1 0) (.ptr i2 0) (.sc (.int .i64 0)) H = some (.sc (.bool (if J5 eqI a.fCodes b.fCodes then (Hl a b) else false))) := by
 have hL : ∀ m i, Pq (PR (n + 1) AV) (n + 1) (fun x H => Bc As E0.tp ty H x) (m + 1) (.ptr i1 0) (.ptr i2 0) i H = C7 .lss i (si a.fCodes.length) fun t14 => Eo t14 (Es 1 (Ci Vj a.fCodes) i fun t19 => Cu false 1 t19 H fun t20 => Es 1 (Ci Vj b.fCodes) i fun t23 => Cu false 1 t23 H fun t24 => (fun x y k => C7 .neq x y k) t20 t24 fun t25 => Eo t25 (some bF) (C7 .add i (si 1) fun t16 => Pq (PR (n + 1) AV) (n + 1) (fun x H => Bc As E0.tp ty H x) m (.ptr i1 0) (.ptr i2 0) t16 H)) (some (sb (Hl a b))) := by
  intro m i
  show (PR (n + 1) AV).fadr 24 (.ptr i1 0) _ = _
  simp only [Eb, Dp, Dl, Gn, I4, Cx, Fe, Pr.gT, Pr.gF, Pr.hT, Pr.hF, Pr.kT, Pr.kF, Gb, Hg, Hb]
  refine A3 (Cr (c := Ei a.fCodes) B1 (B9 rfl) rfl (Mu ?_))
  congr 1
  funext t
  congr 1
  refine A3 (Cr (c := Ei a.fCodes) B1 (B9 rfl) rfl ?_)
  rw [L7]
  congr 1
  funext t2
  congr 1
  funext t3
  refine A3 (Cr (c := Ei b.fCodes) B2 (B9 rfl) rfl ?_)
  rw [L7]
  rfl
  skip
  refine A3 (Cr (c := si a.fType) B1 (B9 rfl) rfl (A3 (Cr (c := si b.fType) B2 (B9 rfl) rfl (Dh (v := sb (a.fType == b.fType)) (fun k => rfl) ?_))))
  apply Bu ((a.fType == b.fType) && (a.fDup == b.fDup))
  intro b1 q1
  refine Aa ((a.fType == b.fType)) (fun h1 => ?_) fun h1 => ?_
  exact Ay h1 (A3 (Ay h1 (Cr (c := sb a.fDup) B1 (B9 rfl) rfl (Ay h1 (A3 (Ay h1 (Cr (c := sb b.fDup) B2 (B9 rfl) rfl (Ay h1 (Ix (v := sb (a.fDup == b.fDup)) (fun k => rfl) (Da h1 (Ea q1 h1) rfl))))))))))
  exact Ax h1 (Ax h1 (Ax h1 (Ax h1 (Ax h1 (C9 h1 (D9 q1 h1) rfl)))))
  intro b1 q1
  apply Bu (b1 && (a.fQos == b.fQos))
  intro b2 q2
  refine Aa (b1) (fun h2 => ?_) fun h2 => ?_
  exact Ay h2 (A3 (Ay h2 (Cr (c := si a.fQos) B1 (B9 rfl) rfl (Ay h2 (A3 (Ay h2 (Cr (c := si b.fQos) B2 (B9 rfl) rfl (Ay h2 (Dh (v := sb (a.fQos == b.fQos)) (fun k => rfl) (Da h2 (Ea q2 h2) rfl))))))))))
  exact Ax h2 (Ax h2 (Ax h2 (Ax h2 (Ax h2 (C9 h2 (D9 q2 h2) rfl)))))
  intro b2 q2
  apply Bu (b2 && (a.fRetain == b.fRetain))
  intro b3 q3
  refine Aa (b2) (fun h3 => ?_) fun h3 => ?_
  exact Ay h3 (A3 (Ay h3 (Cr (c := sb a.fRetain) B1 (B9 rfl) rfl (Ay h3 (A3 (Ay h3 (Cr (c := sb b.fRetain) B2 (B9 rfl) rfl (Ay h3 (Ix (v := sb (a.fRetain == b.fRetain)) (fun k => rfl) (Da h3 (Ea q3 h3) rfl))))))))))
  exact Ax h3 (Ax h3 (Ax h3 (Ax h3 (Ax h3 (C9 h3 (D9 q3 h3) rfl)))))
  intro b3 q3
  apply Bu (b3 && (a.fId == b.fId))
  intro b4 q4
  refine Aa (b3) (fun h4 => ?_) fun h4 => ?_
  exact Ay h4 (A3 (Ay h4 (Cr (c := si a.fId) B1 (B9 rfl) rfl (Ay h4 (A3 (Ay h4 (Cr (c := si b.fId) B2 (B9 rfl) rfl (Ay h4 (Dh (v := sb (a.fId == b.fId)) (fun k => rfl) (Da h4 (Ea q4 h4) rfl))))))))))
  exact Ax h4 (Ax h4 (Ax h4 (Ax h4 (Ax h4 (C9 h4 (D9 q4 h4) rfl)))))
  intro b4 q4
  apply Bu (b4 && (a.fTopic.toList == b.fTopic.toList))
  intro b5 q5
  refine Aa (b4) (fun h5 => ?_) fun h5 => ?_
  exact Ay h5 (A3 (Ay h5 (Cr (c := ss a.fTopic) B1 (B9 rfl) rfl (Ay h5 (A3 (Ay h5 (Cr (c := ss b.fTopic) B2 (B9 rfl) rfl (Ay h5 (Dh (v := sb (a.fTopic.toList == b.fTopic.toList)) (fun k => rfl) (Da h5 (Ea q5 h5) rfl))))))))))
  exact Ax h5 (Ax h5 (Ax h5 (Ax h5 (Ax h5 (C9 h5 (D9 q5 h5) rfl)))))
  intro b5 q5
  apply Bu (b5 && (a.fBody.toList == b.fBody.toList))
  intro b6 q6
  refine Aa (b5) (fun h6 => ?_) fun h6 => ?_
  exact Ay h6 (A3 (Ay h6 (Cr (c := Af a.fBody) B1 (B9 rfl) rfl (Ay h6 (A3 (Ay h6 (Cr (c := Af b.fBody) B2 (B9 rfl) rfl (Ay h6 (Iz rfl (Ds (J9 _ _ _) (Ds (J9 _ _ _) I2)) (Sl (n + 0) _ a.fBody b.fBody) (Da h6 (Ea q6 h6) rfl))))))))))
  exact Ax h6 (Ax h6 (Ax h6 (Ax h6 (Ax h6 (C9 h6 (D9 q6 h6) rfl)))))
  intro b6 q6
  apply Bu (b6 && (a.fClient.toList == b.fClient.toList))
  intro b7 q7
  refine Aa (b6) (fun h7 => ?_) fun h7 => ?_
  exact Ay h7 (A3 (Ay h7 (Cr (c := ss a.fClient) B1 (B9 rfl) rfl (Ay h7 (A3 (Ay h7 (Cr (c := ss b.fClient) B2 (B9 rfl) rfl (Ay h7 (Dh (v := sb (a.fClient.toList == b.fClient.toList)) (fun k => rfl) (Da h7 (Ea q7 h7) rfl))))))))))
  exact Ax h7 (Ax h7 (Ax h7 (Ax h7 (Ax h7 (C9 h7 (D9 q7 h7) rfl)))))
  intro b7 q7
  apply Bu (b7 && (a.fLevel == b.fLevel))
  intro b8 q8
  refine Aa (b7) (fun h8 => ?_) fun h8 => ?_
  exact Ay h8 (A3 (Ay h8 (Cr (c := si a.fLevel) B1 (B9 rfl) rfl (Ay h8 (A3 (Ay h8 (Cr (c := si b.fLevel) B2 (B9 rfl) rfl (Ay h8 (Dh (v := sb (a.fLevel == b.fLevel)) (fun k => rfl) (Da h8 (Ea q8 h8) rfl))))))))))
  exact Ax h8 (Ax h8 (Ax h8 (Ax h8 (Ax h8 (C9 h8 (D9 q8 h8) rfl)))))
  intro b8 q8
  apply Bu (b8 && (a.fClean == b.fClean))
  intro b9 q9
  refine Aa (b8) (fun h9 => ?_) fun h9 => ?_
  exact Ay h9 (A3 (Ay h9 (Cr (c := sb a.fClean) B1 (B9 rfl) rfl (Ay h9 (A3 (Ay h9 (Cr (c := sb b.fClean) B2 (B9 rfl) rfl (Ay h9 (Ix (v := sb (a.fClean == b.fClean)) (fun k => rfl) (Da h9 (Ea q9 h9) rfl))))))))))
  exact Ax h9 (Ax h9 (Ax h9 (Ax h9 (Ax h9 (C9 h9 (D9 q9 h9) rfl)))))
  intro b9 q9
  apply Bu (b9 && (a.fKeep == b.fKeep))
  intro b10 q10
  refine Aa (b9) (fun h10 => ?_) fun h10 => ?_
  exact Ay h10 (A3 (Ay h10 (Cr (c := si a.fKeep) B1 (B9 rfl) rfl (Ay h10 (A3 (Ay h10 (Cr (c := si b.fKeep) B2 (B9 rfl) rfl (Ay h10 (Dh (v := sb (a.fKeep == b.fKeep)) (fun k => rfl) (Da h10 (Ea q10 h10) rfl))))))))))
  exact Ax h10 (Ax h10 (Ax h10 (Ax h10 (Ax h10 (C9 h10 (D9 q10 h10) rfl)))))
  intro b10 q10
  apply Bu (b10 && (a.fHasWill == b.fHasWill))
  intro b11 q11
  refine Aa (b10) (fun h11 => ?_) fun h11 => ?_
  exact Ay h11 (A3 (Ay h11 (Cr (c := sb a.fHasWill) B1 (B9 rfl) rfl (Ay h11 (A3 (Ay h11 (Cr (c := sb b.fHasWill) B2 (B9 rfl) rfl (Ay h11 (Ix (v := sb (a.fHasWill == b.fHasWill)) (fun k => rfl) (Da h11 (Ea q11 h11) rfl))))))))))
  exact Ax h11 (Ax h11 (Ax h11 (Ax h11 (Ax h11 (C9 h11 (D9 q11 h11) rfl)))))
  intro b11 q11
  apply Bu (b11 && (a.fWTopic.toList == b.fWTopic.toList))
  intro b12 q12
  refine Aa (b11) (fun h12 => ?_) fun h12 => ?_
  exact Ay h12 (A3 (Ay h12 (Cr (c := ss a.fWTopic) B1 (B9 rfl) rfl (Ay h12 (A3 (Ay h12 (Cr (c := ss b.fWTopic) B2 (B9 rfl) rfl (Ay h12 (Dh (v := sb (a.fWTopic.toList == b.fWTopic.toList)) (fun k => rfl) (Da h12 (Ea q12 h12) rfl))))))))))
  exact Ax h12 (Ax h12 (Ax h12 (Ax h12 (Ax h12 (C9 h12 (D9 q12 h12) rfl)))))
  intro b12 q12
  apply Bu (b12 && (a.fWBody.toList == b.fWBody.toList))
  intro b13 q13
  refine Aa (b12) (fun h13 => ?_) fun h13 => ?_
  exact Ay h13 (A3 (Ay h13 (Cr (c := Af a.fWBody) B1 (B9 rfl) rfl (Ay h13 (A3 (Ay h13 (Cr (c := Af b.fWBody) B2 (B9 rfl) rfl (Ay h13 (Iz rfl (Ds (J9 _ _ _) (Ds (J9 _ _ _) I2)) (Sl (n + 0) _ a.fWBody b.fWBody) (Da h13 (Ea q13 h13) rfl))))))))))
  exact Ax h13 (Ax h13 (Ax h13 (Ax h13 (Ax h13 (C9 h13 (D9 q13 h13) rfl)))))
  intro b13 q13
  apply Bu (b13 && (a.fWQos == b.fWQos))
  intro b14 q14
  refine Aa (b13) (fun h14 => ?_) fun h14 => ?_
  exact Ay h14 (A3 (Ay h14 (Cr (c := si a.fWQos) B1 (B9 rfl) rfl (Ay h14 (A3 (Ay h14 (Cr (c := si b.fWQos) B2 (B9 rfl) rfl (Ay h14 (Dh (v := sb (a.fWQos == b.fWQos)) (fun k => rfl) (Da h14 (Ea q14 h14) rfl))))))))))
  exact Ax h14 (Ax h14 (Ax h14 (Ax h14 (Ax h14 (C9 h14 (D9 q14 h14) rfl)))))
  intro b14 q14
  apply Bu (b14 && (a.fWRetain == b.fWRetain))
  intro b15 q15
  refine Aa (b14) (fun h15 => ?_) fun h15 => ?_
  exact Ay h15 (A3 (Ay h15 (Cr (c := sb a.fWRetain) B1 (B9 rfl) rfl (Ay h15 (A3 (Ay h15 (Cr (c := sb b.fWRetain) B2 (B9 rfl) rfl (Ay h15 (Ix (v := sb (a.fWRetain == b.fWRetain)) (fun k => rfl) (Da h15 (Ea q15 h15) rfl))))))))))
  exact Ax h15 (Ax h15 (Ax h15 (Ax h15 (Ax h15 (C9 h15 (D9 q15 h15) rfl)))))
  intro b15 q15
  apply Bu (b15 && (a.fHasUser == b.fHasUser))
  intro b16 q16
  refine Aa (b15) (fun h16 => ?_) fun h16 => ?_
  exact Ay h16 (A3 (Ay h16 (Cr (c := sb a.fHasUser) B1 (B9 rfl) rfl (Ay h16 (A3 (Ay h16 (Cr (c := sb b.fHasUser) B2 (B9 rfl) rfl (Ay h16 (Ix (v := sb (a.fHasUser == b.fHasUser)) (fun k => rfl) (Da h16 (Ea q16 h16) rfl))))))))))
  exact Ax h16 (Ax h16 (Ax h16 (Ax h16 (Ax h16 (C9 h16 (D9 q16 h16) rfl)))))
  intro b16 q16
  apply Bu (b16 && (a.fUser.toList == b.fUser.toList))
  intro b17 q17
  refine Aa (b16) (fun h17 => ?_) fun h17 => ?_
  exact Ay h17 (A3 (Ay h17 (Cr (c := ss a.fUser) B1 (B9 rfl) rfl (Ay h17 (A3 (Ay h17 (Cr (c := ss b.fUser) B2 (B9 rfl) rfl (Ay h17 (Dh (v := sb (a.fUser.toList == b.fUser.toList)) (fun k => rfl) (Da h17 (Ea q17 h17) rfl))))))))))
  exact Ax h17 (Ax h17 (Ax h17 (Ax h17 (Ax h17 (C9 h17 (D9 q17 h17) rfl)))))
  intro b17 q17
  apply Bu (b17 && (a.fHasPass == b.fHasPass))
  intro b18 q18
  refine Aa (b17) (fun h18 => ?_) fun h18 => ?_
  exact Ay h18 (A3 (Ay h18 (Cr (c := sb a.fHasPass) B1 (B9 rfl) rfl (Ay h18 (A3 (Ay h18 (Cr (c := sb b.fHasPass) B2 (B9 rfl) rfl (Ay h18 (Ix (v := sb (a.fHasPass == b.fHasPass)) (fun k => rfl) (Da h18 (Ea q18 h18) rfl))))))))))
  exact Ax h18 (Ax h18 (Ax h18 (Ax h18 (Ax h18 (C9 h18 (D9 q18 h18) rfl)))))
  intro b18 q18
  apply Bu (b18 && (a.fPass.toList == b.fPass.toList))
  intro b19 q19
  refine Aa (b18) (fun h19 => ?_) fun h19 => ?_
  exact Ay h19 (A3 (Ay h19 (Cr (c := Af a.fPass) B1 (B9 rfl) rfl (Ay h19 (A3 (Ay h19 (Cr (c := Af b.fPass) B2 (B9 rfl) rfl (Ay h19 (Iz rfl (Ds (J9 _ _ _) (Ds (J9 _ _ _) I2)) (Sl (n + 0) _ a.fPass b.fPass) (Da h19 (Ea q19 h19) rfl))))))))))
  exact Ax h19 (Ax h19 (Ax h19 (Ax h19 (Ax h19 (C9 h19 (D9 q19 h19) rfl)))))
  intro b19 q19
  apply Bu (b19 && (a.fCode == b.fCode))
  intro b20 q20
  refine Aa (b19) (fun h20 => ?_) fun h20 => ?_
  exact Ay h20 (A3 (Ay h20 (Cr (c := si a.fCode) B1 (B9 rfl) rfl (Ay h20 (A3 (Ay h20 (Cr (c := si b.fCode) B2 (B9 rfl) rfl (Ay h20 (Dh (v := sb (a.fCode == b.fCode)) (fun k => rfl) (Da h20 (Ea q20 h20) rfl))))))))))
  exact Ax h20 (Ax h20 (Ax h20 (Ax h20 (Ax h20 (C9 h20 (D9 q20 h20) rfl)))))
  intro b20 q20
  apply Bu (b20 && (a.fPresent == b.fPresent))
  intro b21 q21
  refine Aa (b20) (fun h21 => ?_) fun h21 => ?_
  exact Ay h21 (A3 (Ay h21 (Cr (c := sb a.fPresent) B1 (B9 rfl) rfl (Ay h21 (A3 (Ay h21 (Cr (c := sb b.fPresent) B2 (B9 rfl) rfl (Ay h21 (Ix (v := sb (a.fPresent == b.fPresent)) (fun k => rfl) (Da h21 (Ea q21 h21) rfl))))))))))
  exact Ax h21 (Ax h21 (Ax h21 (Ax h21 (Ax h21 (C9 h21 (D9 q21 h21) rfl)))))
  intro b21 q21
  subst_vars; rfl
 have key := Mi (β := AV) Vj (fun _ => rfl) (by decide) (fun z => si z) (fun p k => Cu false 1 p H k) (fun x r k => ldI x r H k) (fun x y k => C7 .neq x y k) eqI (fun x y k => neI x y k) a.fCodes b.fCodes hq2 hl2 (fun m i => Pq (PR (n + 1) AV) (n + 1) (fun x H => Bc As E0.tp ty H x) m (.ptr i1 0) (.ptr i2 0) i H) (some bF) (some (sb (Hl a b))) hL a.fCodes b.fCodes [] [] (n + 1) rfl rfl rfl (by omega)
 simp only [zao, zaI] at key
 refine key.trans ?_
 cases J5 eqI a.fCodes b.fCodes <;> rfl
theorem AjM (n : Nat) (hn : 1048576 < n) (ty : Nat) (a b : PacketV) (H : Ac) (i1 i2 : Nat) (B1 : H[i1]? = some ⟨Ap a, true, true⟩) (B2 : H[i2]? = some ⟨Ap b, true, true⟩) (hl1 : a.fNames.length ≤ 1048576) (hq1 : a.fNames.length = b.fNames.length) (hl2 : a.fCodes.length ≤ 1048576) (hq2 : a.fCodes.length = b.fCodes.length) : Nb (PR (n + 1) AV) (n + 1) (fun x H => Bc As E0.tp ty H x) (n + 1) (.ptr i1 0) (.ptr i2 0) (.sc (.int .i64 0)) H = some (.sc (.bool (if J5 Tf a.fNames b.fNames then (if J5 eqI a.fCodes b.fCodes then (Hl a b) else false) else false))) := by
 have hL : ∀ m i, Nb (PR (n + 1) AV) (n + 1) (fun x H => Bc As E0.tp ty H x) (m + 1) (.ptr i1 0) (.ptr i2 0) i H = C7 .lss i (si a.fNames.length) fun t14 => Eo t14 (Es 1 (Ci Vk a.fNames) i fun t19 => Cu false 1 t19 H fun t20 => Es 1 (Ci Vk b.fNames) i fun t23 => Cu false 1 t23 H fun t24 => (fun x y k => C7 .neq x y k) t20 t24 fun t25 => Eo t25 (some bF) (C7 .add i (si 1) fun t16 => Nb (PR (n + 1) AV) (n + 1) (fun x H => Bc As E0.tp ty H x) m (.ptr i1 0) (.ptr i2 0) t16 H)) (some (sb (if J5 eqI a.fCodes b.fCodes then (Hl a b) else false))) := by
  intro m i
  show (PR (n + 1) AV).fadr 23 (.ptr i1 0) _ = _
  simp only [Eb, Dp, Dl, Gn, I4, Cx, Fe, Pr.gT, Pr.gF, Pr.hT, Pr.hF, Pr.kT, Pr.kF, Gb, Hg, Hb]
  refine A3 (Cr (c := Ee a.fNames) B1 (B9 rfl) rfl (Mu ?_))
  congr 1
  funext t
  congr 1
  refine A3 (Cr (c := Ee a.fNames) B1 (B9 rfl) rfl ?_)
  rw [Ma]
  congr 1
  funext t2
  congr 1
  funext t3
  refine A3 (Cr (c := Ee b.fNames) B2 (B9 rfl) rfl ?_)
  rw [Ma]
  rfl
  skip
  exact AjN n hn ty a b H i1 i2 B1 B2 hl2 hq2
 have key := Mi (β := AV) Vk (fun _ => rfl) (by decide) (fun z => ss z) (fun p k => Cu false 1 p H k) (fun x r k => ldS x r H k) (fun x y k => C7 .neq x y k) Tf (fun x y k => neS x y k) a.fNames b.fNames hq1 hl1 (fun m i => Nb (PR (n + 1) AV) (n + 1) (fun x H => Bc As E0.tp ty H x) m (.ptr i1 0) (.ptr i2 0) i H) (some bF) (some (sb (if J5 eqI a.fCodes b.fCodes then (Hl a b) else false))) hL a.fNames b.fNames [] [] (n + 1) rfl rfl rfl (by omega)
 simp only [zao, zaI] at key
 refine key.trans ?_
 cases J5 Tf a.fNames b.fNames <;> rfl
theorem AjL (n : Nat) (hn : 1048576 < n) (ty : Nat) (a b : PacketV) (H : Ac) (i1 i2 : Nat) (B1 : H[i1]? = some ⟨Ap a, true, true⟩) (B2 : H[i2]? = some ⟨Ap b, true, true⟩) (hl0 : a.fWants.length ≤ 1048576) (hq0 : a.fWants.length = b.fWants.length) (hl1 : a.fNames.length ≤ 1048576) (hq1 : a.fNames.length = b.fNames.length) (hl2 : a.fCodes.length ≤ 1048576) (hq2 : a.fCodes.length = b.fCodes.length) : Na (PR (n + 1) AV) (n + 1) (fun x H => Bc As E0.tp ty H x) (n + 1) (.ptr i1 0) (.ptr i2 0) (.sc (.int .i64 0)) H = some (.sc (.bool (if J5 Kf a.fWants b.fWants then (if J5 Tf a.fNames b.fNames then (if J5 eqI a.fCodes b.fCodes then (Hl a b) else false) else false) else false))) := by
 have hL : ∀ m i, Na (PR (n + 1) AV) (n + 1) (fun x H => Bc As E0.tp ty H x) (m + 1) (.ptr i1 0) (.ptr i2 0) i H = C7 .lss i (si a.fWants.length) fun t14 => Eo t14 (Es 2 (Ci Bn a.fWants) i fun t19 => Cu true 2 t19 H fun t20 => Es 2 (Ci Bn b.fWants) i fun t23 => Cu true 2 t23 H fun t24 => (fun x y k => Q4 .neq [1, 0] x y k) t20 t24 fun t25 => Eo t25 (some bF) (C7 .add i (si 1) fun t16 => Na (PR (n + 1) AV) (n + 1) (fun x H => Bc As E0.tp ty H x) m (.ptr i1 0) (.ptr i2 0) t16 H)) (some (sb (if J5 Tf a.fNames b.fNames then (if J5 eqI a.fCodes b.fCodes then (Hl a b) else false) else false))) := by
  intro m i
  show (PR (n + 1) AV).fadr 22 (.ptr i1 0) _ = _
  simp only [Eb, Dp, Dl, Gn, I4, Cx, Fe, Pr.gT, Pr.gF, Pr.hT, Pr.hF, Pr.kT, Pr.kF, Gb, Hg, Hb]
  refine A3 (Cr (c := Ci Bn a.fWants) B1 (B9 rfl) rfl (Mu ?_))
  congr 1
  funext t
  congr 1
  refine A3 (Cr (c := Ci Bn a.fWants) B1 (B9 rfl) rfl ?_)
  congr 1
  funext t2
  congr 1
  funext t3
  refine A3 (Cr (c := Ci Bn b.fWants) B2 (B9 rfl) rfl ?_)
  rfl
  skip
  exact AjM n hn ty a b H i1 i2 B1 B2 hl1 hq1 hl2 hq2
 have key := Mi (β := AV) Bn (Gf) (by decide) (fun x => .agg (Bn x)) (fun p k => Cu true 2 p H k) (fun x r k => Wd 2 _ _ H k (Gf x)) (fun x y k => Q4 .neq [1, 0] x y k) Kf (fun x y k => Acu _ _ _ _ (Xw x y) k) a.fWants b.fWants hq0 hl0 (fun m i => Na (PR (n + 1) AV) (n + 1) (fun x H => Bc As E0.tp ty H x) m (.ptr i1 0) (.ptr i2 0) i H) (some bF) (some (sb (if J5 Tf a.fNames b.fNames then (if J5 eqI a.fCodes b.fCodes then (Hl a b) else false) else false))) hL a.fWants b.fWants [] [] (n + 1) rfl rfl rfl (by omega)
 simp only [zao, zaI] at key
 refine key.trans ?_
 cases J5 Kf a.fWants b.fWants <;> rfl
theorem Pa (n : Nat) (hn : 1048576 < n) (ty : Nat) (a : PacketV) (b : PacketV) (hl0 : a.fWants.length ≤ 1048576) (hl1 : a.fNames.length ≤ 1048576) (hl2 : a.fCodes.length ≤ 1048576) : Bz E0 (n + 2) ty 89 [.agg (Ap a), .agg (Ap b)] = some (.sc (.bool (Cl a b))) := by
 rw [At, AlU, f89]
 try simp only [Fl, H9, Eb, Dp, Fx, Dl, Gn, I4, Ld, Cx, Fe, Pr.gT, Pr.gF, Pr.hT, Pr.hF, Pr.kT, Pr.kF, Gb, Hg, Fj, Hb, K6, Jl, Hh, Ia, Ik, Lj, Me, K5, Jk]
 refine Y1 (Cf _) fun iB1 eB1 B1 => Y1 (Cf _) fun iB2 eB2 B2 => ?_
 replace B1 := Mf B1 [⟨Ap b, true, true⟩]
 refine A3 (Cr (c := Ci Bn a.fWants) B1 (B9 rfl) rfl (Mu (A3 (Cr (c := Ci Bn b.fWants) B2 (B9 rfl) rfl (Mu (Dh (v := sb ((a.fWants.length : Int) != (b.fWants.length : Int))) (fun k => rfl) ?_))))))
 apply Bu (((a.fWants.length : Int) != (b.fWants.length : Int)) || ((a.fNames.length : Int) != (b.fNames.length : Int)))
 intro b3 q3
 refine Aa (((a.fWants.length : Int) != (b.fWants.length : Int))) (fun h3 => ?_) fun h3 => ?_
 exact J7 h3 (J7 h3 (J7 h3 (J7 h3 (J7 h3 (J7 h3 (J7 h3 (Da h3 (Yl q3 h3) rfl)))))))
 exact I3 h3 (A3 (I3 h3 (Cr (c := Ee a.fNames) B1 (B9 rfl) rfl (I3 h3 (Mu (I3 h3 (A3 (I3 h3 (Cr (c := Ee b.fNames) B2 (B9 rfl) rfl (I3 h3 (Mu (I3 h3 (Dh (v := sb ((a.fNames.length : Int) != (b.fNames.length : Int))) (fun k => rfl) (C9 h3 (Yk q3 h3) rfl))))))))))))))
 intro b3 q3
 apply Bu (b3 || ((a.fCodes.length : Int) != (b.fCodes.length : Int)))
 intro b4 q4
 refine Aa (b3) (fun h4 => ?_) fun h4 => ?_
 exact J7 h4 (J7 h4 (J7 h4 (J7 h4 (J7 h4 (J7 h4 (J7 h4 (Da h4 (Yl q4 h4) rfl)))))))
 exact I3 h4 (A3 (I3 h4 (Cr (c := Ei a.fCodes) B1 (B9 rfl) rfl (I3 h4 (Mu (I3 h4 (A3 (I3 h4 (Cr (c := Ei b.fCodes) B2 (B9 rfl) rfl (I3 h4 (Mu (I3 h4 (Dh (v := sb ((a.fCodes.length : Int) != (b.fCodes.length : Int))) (fun k => rfl) (C9 h4 (Yk q4 h4) rfl))))))))))))))
 intro b4 q4
 refine Aa (b4) (fun h5 => ?_) fun h5 => ?_
 exact Qz h5 (Qe (by subst_vars; simp only [Cl, Mt, Ho]; by_cases e0 : a.fWants.length = b.fWants.length <;> by_cases e1 : a.fNames.length = b.fNames.length <;> by_cases e2 : a.fCodes.length = b.fCodes.length <;> simp_all))
 refine Tz h5 ?_
 have l0 : a.fWants.length = b.fWants.length := by (subst_vars; simp at *; omega)
 have l1 : a.fNames.length = b.fNames.length := by (subst_vars; simp at *; omega)
 have l2 : a.fCodes.length = b.fCodes.length := by (subst_vars; simp at *; omega)
 refine (AjL n hn ty a b _ _ _ B1 B2 hl0 l0 hl1 l1 hl2 l2).trans ?_
 simp only [Cl, Mt, Ho, l0, l1, l2, if_true]
 cases J5 Kf a.fWants b.fWants <;> cases J5 Tf a.fNames b.fNames <;> cases J5 eqI a.fCodes b.fCodes <;> simp
theorem O6 (n : Nat) (hn : 1048576 < n) (ty : Nat) (a : PacketV) (b : PacketV) (hl0 : a.fWants.length ≤ 1048576) (hl1 : a.fNames.length ≤ 1048576) (hl2 : a.fCodes.length ≤ 1048576) : Bz E0 (n + 2) ty 104 [.agg (Ap a), .agg (Ap b)] = some (.sc (.bool (Cl a b))) := by
 rw [At, Air, f104]
 try simp only [Fl, H9, Eb, Dp, Fx, Dl, Gn, I4, Ld, Cx, Fe, Pr.gT, Pr.gF, Pr.hT, Pr.hF, Pr.kT, Pr.kF, Gb, Hg, Fj, Hb, K6, Jl, Hh, Ia, Ik, Lj, Me, K5, Jk]
 refine Y1 (Cf _) fun iB1 eB1 B1 => Y1 (Cf _) fun iB2 eB2 B2 => ?_
 replace B1 := Mf B1 [⟨Ap b, true, true⟩]
 refine A3 (Cr (c := si a.fType) B1 (B9 rfl) rfl (A3 (Cr (c := si b.fType) B2 (B9 rfl) rfl (Dh (v := sb (a.fType == b.fType)) (fun k => rfl) ?_))))
 apply Bu ((a.fType == b.fType) && (a.fDup == b.fDup))
 intro b3 q3
 refine Aa ((a.fType == b.fType)) (fun h3 => ?_) fun h3 => ?_
 exact Ay h3 (A3 (Ay h3 (Cr (c := sb a.fDup) B1 (B9 rfl) rfl (Ay h3 (A3 (Ay h3 (Cr (c := sb b.fDup) B2 (B9 rfl) rfl (Ay h3 (Ix (v := sb (a.fDup == b.fDup)) (fun k => rfl) (Da h3 (Ea q3 h3) rfl))))))))))
 exact Ax h3 (Ax h3 (Ax h3 (Ax h3 (Ax h3 (C9 h3 (D9 q3 h3) rfl)))))
 intro b3 q3
 apply Bu (b3 && (a.fQos == b.fQos))
 intro b4 q4
 refine Aa (b3) (fun h4 => ?_) fun h4 => ?_
 exact Ay h4 (A3 (Ay h4 (Cr (c := si a.fQos) B1 (B9 rfl) rfl (Ay h4 (A3 (Ay h4 (Cr (c := si b.fQos) B2 (B9 rfl) rfl (Ay h4 (Dh (v := sb (a.fQos == b.fQos)) (fun k => rfl) (Da h4 (Ea q4 h4) rfl))))))))))
 exact Ax h4 (Ax h4 (Ax h4 (Ax h4 (Ax h4 (C9 h4 (D9 q4 h4) rfl)))))
 intro b4 q4
 apply Bu (b4 && (a.fRetain == b.fRetain))
 intro b5 q5
 refine Aa (b4) (fun h5 => ?_) fun h5 => ?_
 exact Ay h5 (A3 (Ay h5 (Cr (c := sb a.fRetain) B1 (B9 rfl) rfl (Ay h5 (A3 (Ay h5 (Cr (c := sb b.fRetain) B2 (B9 rfl) rfl (Ay h5 (Ix (v := sb (a.fRetain == b.fRetain)) (fun k => rfl) (Da h5 (Ea q5 h5) rfl))))))))))
 exact Ax h5 (Ax h5 (Ax h5 (Ax h5 (Ax h5 (C9 h5 (D9 q5 h5) rfl)))))
 intro b5 q5
 apply Bu (b5 && (a.fId == b.fId))
 intro b6 q6
 refine Aa (b5) (fun h6 => ?_) fun h6 => ?_
 exact Ay h6 (A3 (Ay h6 (Cr (c := si a.fId) B1 (B9 rfl) rfl (Ay h6 (A3 (Ay h6 (Cr (c := si b.fId) B2 (B9 rfl) rfl (Ay h6 (Dh (v := sb (a.fId == b.fId)) (fun k => rfl) (Da h6 (Ea q6 h6) rfl))))))))))
 exact Ax h6 (Ax h6 (Ax h6 (Ax h6 (Ax h6 (C9 h6 (D9 q6 h6) rfl)))))
 intro b6 q6
 apply Bu (b6 && (a.fTopic.toList == b.fTopic.toList))
 intro b7 q7
 refine Aa (b6) (fun h7 => ?_) fun h7 => ?_
 exact Ay h7 (A3 (Ay h7 (Cr (c := ss a.fTopic) B1 (B9 rfl) rfl (Ay h7 (A3 (Ay h7 (Cr (c := ss b.fTopic) B2 (B9 rfl) rfl (Ay h7 (Dh (v := sb (a.fTopic.toList == b.fTopic.toList)) (fun k => rfl) (Da h7 (Ea q7 h7) rfl))))))))))
 exact Ax h7 (Ax h7 (Ax h7 (Ax h7 (Ax h7 (C9 h7 (D9 q7 h7) rfl)))))
 intro b7 q7
 apply Bu (b7 && (a.fBody.toList == b.fBody.toList))
 intro b8 q8
 refine Aa (b7) (fun h8 => ?_) fun h8 => ?_
 exact Ay h8 (A3 (Ay h8 (Cr (c := Af a.fBody) B1 (B9 rfl) rfl (Ay h8 (A3 (Ay h8 (Cr (c := Af b.fBody) B2 (B9 rfl) rfl (Ay h8 (Iz rfl (Ds (J9 _ _ _) (Ds (J9 _ _ _) I2)) (Jf (n + 0) _ a.fBody b.fBody) (Da h8 (Ea q8 h8) rfl))))))))))
 exact Ax h8 (Ax h8 (Ax h8 (Ax h8 (Ax h8 (C9 h8 (D9 q8 h8) rfl)))))
 intro b8 q8
 refine A3 (Cr (c := ss a.fClient) B1 (B9 rfl) rfl (A3 (Cr (c := ss b.fClient) B2 (B9 rfl) rfl (Dh (v := sb (a.fClient.toList == b.fClient.toList)) (fun k => rfl) ?_))))
 apply Bu ((a.fClient.toList == b.fClient.toList) && (a.fLevel == b.fLevel))
 intro b9 q9
 refine Aa ((a.fClient.toList == b.fClient.toList)) (fun h9 => ?_) fun h9 => ?_
 exact Ay h9 (A3 (Ay h9 (Cr (c := si a.fLevel) B1 (B9 rfl) rfl (Ay h9 (A3 (Ay h9 (Cr (c := si b.fLevel) B2 (B9 rfl) rfl (Ay h9 (Dh (v := sb (a.fLevel == b.fLevel)) (fun k => rfl) (Da h9 (Ea q9 h9) rfl))))))))))
 exact Ax h9 (Ax h9 (Ax h9 (Ax h9 (Ax h9 (C9 h9 (D9 q9 h9) rfl)))))
 intro b9 q9
 apply Bu (b9 && (a.fClean == b.fClean))
 intro b10 q10
 refine Aa (b9) (fun h10 => ?_) fun h10 => ?_
 exact Ay h10 (A3 (Ay h10 (Cr (c := sb a.fClean) B1 (B9 rfl) rfl (Ay h10 (A3 (Ay h10 (Cr (c := sb b.fClean) B2 (B9 rfl) rfl (Ay h10 (Ix (v := sb (a.fClean == b.fClean)) (fun k => rfl) (Da h10 (Ea q10 h10) rfl))))))))))
 exact Ax h10 (Ax h10 (Ax h10 (Ax h10 (Ax h10 (C9 h10 (D9 q10 h10) rfl)))))
 intro b10 q10
 apply Bu (b10 && (a.fKeep == b.fKeep))
 intro b11 q11
 refine Aa (b10) (fun h11 => ?_) fun h11 => ?_
 exact Ay h11 (A3 (Ay h11 (Cr (c := si a.fKeep) B1 (B9 rfl) rfl (Ay h11 (A3 (Ay h11 (Cr (c := si b.fKeep) B2 (B9 rfl) rfl (Ay h11 (Dh (v := sb (a.fKeep == b.fKeep)) (fun k => rfl) (Da h11 (Ea q11 h11) rfl))))))))))
 exact Ax h11 (Ax h11 (Ax h11 (Ax h11 (Ax h11 (C9 h11 (D9 q11 h11) rfl)))))
 intro b11 q11
 apply Bu (b11 && (a.fHasUser == b.fHasUser))
 intro b12 q12
 refine Aa (b11) (fun h12 => ?_) fun h12 => ?_
 exact Ay h12 (A3 (Ay h12 (Cr (c := sb a.fHasUser) B1 (B9 rfl) rfl (Ay h12 (A3 (Ay h12 (Cr (c := sb b.fHasUser) B2 (B9 rfl) rfl (Ay h12 (Ix (v := sb (a.fHasUser == b.fHasUser)) (fun k => rfl) (Da h12 (Ea q12 h12) rfl))))))))))
 exact Ax h12 (Ax h12 (Ax h12 (Ax h12 (Ax h12 (C9 h12 (D9 q12 h12) rfl)))))
 intro b12 q12
 apply Bu (b12 && (a.fUser.toList == b.fUser.toList))
 intro b13 q13
 refine Aa (b12) (fun h13 => ?_) fun h13 => ?_
 exact Ay h13 (A3 (Ay h13 (Cr (c := ss a.fUser) B1 (B9 rfl) rfl (Ay h13 (A3 (Ay h13 (Cr (c := ss b.fUser) B2 (B9 rfl) rfl (Ay h13 (Dh (v := sb (a.fUser.toList == b.fUser.toList)) (fun k => rfl) (Da h13 (Ea q13 h13) rfl))))))))))
 exact Ax h13 (Ax h13 (Ax h13 (Ax h13 (Ax h13 (C9 h13 (D9 q13 h13) rfl)))))
 intro b13 q13
 apply Bu (b13 && (a.fHasPass == b.fHasPass))
 intro b14 q14
 refine Aa (b13) (fun h14 => ?_) fun h14 => ?_
 exact Ay h14 (A3 (Ay h14 (Cr (c := sb a.fHasPass) B1 (B9 rfl) rfl (Ay h14 (A3 (Ay h14 (Cr (c := sb b.fHasPass) B2 (B9 rfl) rfl (Ay h14 (Ix (v := sb (a.fHasPass == b.fHasPass)) (fun k => rfl) (Da h14 (Ea q14 h14) rfl))))))))))
 exact Ax h14 (Ax h14 (Ax h14 (Ax h14 (Ax h14 (C9 h14 (D9 q14 h14) rfl)))))
 intro b14 q14
 apply Bu (b14 && (a.fPass.toList == b.fPass.toList))
 intro b15 q15
 refine Aa (b14) (fun h15 => ?_) fun h15 => ?_
 exact Ay h15 (A3 (Ay h15 (Cr (c := Af a.fPass) B1 (B9 rfl) rfl (Ay h15 (A3 (Ay h15 (Cr (c := Af b.fPass) B2 (B9 rfl) rfl (Ay h15 (Iz rfl (Ds (J9 _ _ _) (Ds (J9 _ _ _) I2)) (Jf (n + 0) _ a.fPass b.fPass) (Da h15 (Ea q15 h15) rfl))))))))))
 exact Ax h15 (Ax h15 (Ax h15 (Ax h15 (Ax h15 (C9 h15 (D9 q15 h15) rfl)))))
 intro b15 q15
 refine A3 (Cr (c := sb a.fHasWill) B1 (B9 rfl) rfl (A3 (Cr (c := sb b.fHasWill) B2 (B9 rfl) rfl (Ix (v := sb (a.fHasWill == b.fHasWill)) (fun k => rfl) ?_))))
 apply Bu ((a.fHasWill == b.fHasWill) && (a.fWTopic.toList == b.fWTopic.toList))
 intro b16 q16
 refine Aa ((a.fHasWill == b.fHasWill)) (fun h16 => ?_) fun h16 => ?_
 exact Ay h16 (A3 (Ay h16 (Cr (c := ss a.fWTopic) B1 (B9 rfl) rfl (Ay h16 (A3 (Ay h16 (Cr (c := ss b.fWTopic) B2 (B9 rfl) rfl (Ay h16 (Dh (v := sb (a.fWTopic.toList == b.fWTopic.toList)) (fun k => rfl) (Da h16 (Ea q16 h16) rfl))))))))))
 exact Ax h16 (Ax h16 (Ax h16 (Ax h16 (Ax h16 (C9 h16 (D9 q16 h16) rfl)))))
 intro b16 q16
 apply Bu (b16 && (a.fWBody.toList == b.fWBody.toList))
 intro b17 q17
 refine Aa (b16) (fun h17 => ?_) fun h17 => ?_
 exact Ay h17 (A3 (Ay h17 (Cr (c := Af a.fWBody) B1 (B9 rfl) rfl (Ay h17 (A3 (Ay h17 (Cr (c := Af b.fWBody) B2 (B9 rfl) rfl (Ay h17 (Iz rfl (Ds (J9 _ _ _) (Ds (J9 _ _ _) I2)) (Jf (n + 0) _ a.fWBody b.fWBody) (Da h17 (Ea q17 h17) rfl))))))))))
 exact Ax h17 (Ax h17 (Ax h17 (Ax h17 (Ax h17 (C9 h17 (D9 q17 h17) rfl)))))
 intro b17 q17
 apply Bu (b17 && (a.fWQos == b.fWQos))
 intro b18 q18
 refine Aa (b17) (fun h18 => ?_) fun h18 => ?_
 exact Ay h18 (A3 (Ay h18 (Cr (c := si a.fWQos) B1 (B9 rfl) rfl (Ay h18 (A3 (Ay h18 (Cr (c := si b.fWQos) B2 (B9 rfl) rfl (Ay h18 (Dh (v := sb (a.fWQos == b.fWQos)) (fun k => rfl) (Da h18 (Ea q18 h18) rfl))))))))))
 exact Ax h18 (Ax h18 (Ax h18 (Ax h18 (Ax h18 (C9 h18 (D9 q18 h18) rfl)))))
 intro b18 q18
 apply Bu (b18 && (a.fWRetain == b.fWRetain))
 intro b19 q19
 refine Aa (b18) (fun h19 => ?_) fun h19 => ?_
 exact Ay h19 (A3 (Ay h19 (Cr (c := sb a.fWRetain) B1 (B9 rfl) rfl (Ay h19 (A3 (Ay h19 (Cr (c := sb b.fWRetain) B2 (B9 rfl) rfl (Ay h19 (Ix (v := sb (a.fWRetain == b.fWRetain)) (fun k => rfl) (Da h19 (Ea q19 h19) rfl))))))))))
 exact Ax h19 (Ax h19 (Ax h19 (Ax h19 (Ax h19 (C9 h19 (D9 q19 h19) rfl)))))
 intro b19 q19
 refine A3 (Cr (c := Ci Bn a.fWants) B1 (B9 rfl) rfl (A3 (Cr (c := Ci Bn b.fWants) B2 (B9 rfl) rfl (Iz rfl (Ds (J9 _ _ _) (Ds (J9 _ _ _) I2)) (Abz (n + 0) (by omega) _ a.fWants b.fWants (by omega)) ?_))))
 apply Bu ((Ho Kf a.fWants b.fWants) && (Ho Tf a.fNames b.fNames))
 intro b20 q20
 refine Aa ((Ho Kf a.fWants b.fWants)) (fun h20 => ?_) fun h20 => ?_
 exact Ay h20 (A3 (Ay h20 (Cr (c := Ee a.fNames) B1 (B9 rfl) rfl (Ay h20 (A3 (Ay h20 (Cr (c := Ee b.fNames) B2 (B9 rfl) rfl (Ay h20 (Iz rfl (Ds (J9 _ _ _) (Ds (J9 _ _ _) I2)) (Adv (n + 0) (by omega) _ a.fNames b.fNames (by omega)) (Da h20 (Ea q20 h20) rfl))))))))))
 exact Ax h20 (Ax h20 (Ax h20 (Ax h20 (Ax h20 (C9 h20 (D9 q20 h20) rfl)))))
 intro b20 q20
 apply Bu (b20 && (Ho eqI a.fCodes b.fCodes))
 intro b21 q21
 refine Aa (b20) (fun h21 => ?_) fun h21 => ?_
 exact Ay h21 (A3 (Ay h21 (Cr (c := Ei a.fCodes) B1 (B9 rfl) rfl (Ay h21 (A3 (Ay h21 (Cr (c := Ei b.fCodes) B2 (B9 rfl) rfl (Ay h21 (Iz rfl (Ds (J9 _ _ _) (Ds (J9 _ _ _) I2)) (Adu (n + 0) (by omega) _ a.fCodes b.fCodes (by omega)) (Da h21 (Ea q21 h21) rfl))))))))))
 exact Ax h21 (Ax h21 (Ax h21 (Ax h21 (Ax h21 (C9 h21 (D9 q21 h21) rfl)))))
 intro b21 q21
 apply Bu (b8 && b15)
 intro b22 q22
 refine Aa (b8) (fun h22 => ?_) fun h22 => ?_
 exact Ay h22 (Da h22 (Ea q22 h22) rfl)
 exact Ax h22 (C9 h22 (D9 q22 h22) rfl)
 intro b22 q22
 apply Bu (b22 && b19)
 intro b23 q23
 refine Aa (b22) (fun h23 => ?_) fun h23 => ?_
 exact Ay h23 (Da h23 (Ea q23 h23) rfl)
 exact Ax h23 (C9 h23 (D9 q23 h23) rfl)
 intro b23 q23
 apply Bu (b23 && b21)
 intro b24 q24
 refine Aa (b23) (fun h24 => ?_) fun h24 => ?_
 exact Ay h24 (Da h24 (Ea q24 h24) rfl)
 exact Ax h24 (C9 h24 (D9 q24 h24) rfl)
 intro b24 q24
 apply Bu (b24 && (a.fCode == b.fCode))
 intro b25 q25
 refine Aa (b24) (fun h25 => ?_) fun h25 => ?_
 exact Ay h25 (A3 (Ay h25 (Cr (c := si a.fCode) B1 (B9 rfl) rfl (Ay h25 (A3 (Ay h25 (Cr (c := si b.fCode) B2 (B9 rfl) rfl (Ay h25 (Dh (v := sb (a.fCode == b.fCode)) (fun k => rfl) (Da h25 (Ea q25 h25) rfl))))))))))
 exact Ax h25 (Ax h25 (Ax h25 (Ax h25 (Ax h25 (C9 h25 (D9 q25 h25) rfl)))))
 intro b25 q25
 apply Bu (b25 && (a.fPresent == b.fPresent))
 intro b26 q26
 refine Aa (b25) (fun h26 => ?_) fun h26 => ?_
 exact Ay h26 (A3 (Ay h26 (Cr (c := sb a.fPresent) B1 (B9 rfl) rfl (Ay h26 (A3 (Ay h26 (Cr (c := sb b.fPresent) B2 (B9 rfl) rfl (Ay h26 (Ix (v := sb (a.fPresent == b.fPresent)) (fun k => rfl) (Da h26 (Ea q26 h26) rfl))))))))))
 exact Ax h26 (Ax h26 (Ax h26 (Ax h26 (Ax h26 (C9 h26 (D9 q26 h26) rfl)))))
 intro b26 q26
 exact Qe (by subst_vars; simp only [Cl, Mt, Hl]; ac_rfl)
end
end Go.Proofs.YtlcpigdmekgajaaGreatDoor.Abs
set_option maxHeartbeats 32000000
namespace Go.Proofs.YtlcpigdmekgajaaGreatDoor.Abs
open _root_.Bool renaming false_eq_true → zaa, and_eq_true → zae, not_true → zax, true_and → za5, eq_iff_iff → zbq
open _root_.Option renaming bind_eq_some_iff → zab, bind_some → zac, getD_some → zaG, bind_eq_bind → zaO, pure_def → zbd
open _root_.List renaming getElem?_eq_some_iff → zad, length_append → zaf, nil_append → zag, replicate → zah, append_assoc → zai, getElem?_append_right → zak, length_cons → zal, getElem?_append_left → zam, append_nil → zan, length_nil → zao, length_singleton → zaq, all_cons → zas, map_cons → zat, cons_append → zau, mem_cons_of_mem → zay, mem_cons_self → za1, map_append → za2, flatten_cons → za3, mapM_cons → za4, all_eq_true → za6, drop_eq_getElem_cons → zaA, map_nil → zaB, mem_append_left → zaF, take_length → zaL, mem_append_right → zaM, drop_append_of_le_length → zaQ, mem_append → zaV, drop_zero → zaW, nodup_append → zbb, getElem?_drop → zbc, drop_of_length_le → zbh, nodup_cons → zbj, mem_singleton → zbk, flatten_append → zbr, length_eq_one_iff → zbu, getD_eq_getElem?_getD → zbv, flatten_nil → zbw, getElem?_take_of_lt → zb1, drop_length → zb5, drop_drop → zb6, Perm → zbA, any_cons → zbB, getElem?_set_ne → zbC, mem_cons → zbF, mem_map → zbI, map_map → zbK
open _root_.ByteArray renaming size → zaJ, data_push → zbD
open _root_.Nat renaming le_refl → zap, zero_add → zav, le_trans → za9, add_assoc → zaN, reduceAdd → zaR, sub_self → zaT, add_zero → zba, mul_one → zbs, add_comm → zbE, add_mul → zbH, succ_mul → zbJ
open _root_.Array renaming ext' → zbf
open _root_.Int renaming natCast_zero → zaI, toNat_natCast → zbo
section
open Go
def B7 (t : Int) : PacketV := ⟨t, false, 0, false, 0, ⟨#[]⟩, ⟨#[]⟩, ⟨#[]⟩, 0, false, 0, false, ⟨#[]⟩, ⟨#[]⟩, 0, false, false, ⟨#[]⟩, false, ⟨#[]⟩, 0, false, [], [], []⟩
def Dy (p q : PacketV) : PacketV := if p.fHasWill then { q with fHasWill := true, fWTopic := p.fWTopic, fWBody := p.fWBody, fWQos := p.fWQos, fWRetain := p.fWRetain } else q
def Dx (p q : PacketV) : PacketV := if p.fHasUser then (if p.fHasPass then { q with fHasUser := true, fUser := p.fUser, fHasPass := true, fPass := p.fPass } else { q with fHasUser := true, fUser := p.fUser }) else q
def A0 (pc : Bool) (p : PacketV) : PacketV :=
 if p.fType = 1 then Dx p (Dy p { B7 p.fType with fClient := p.fClient, fLevel := p.fLevel, fClean := p.fClean, fKeep := p.fKeep })
 else if p.fType = 2 then { B7 p.fType with fCode := p.fCode, fPresent := p.fPresent && (!pc || decide (p.fCode = 0)) }
 else if p.fType = 3 then (if 0 < p.fQos then { B7 p.fType with fQos := p.fQos, fRetain := p.fRetain, fTopic := p.fTopic, fBody := p.fBody, fDup := p.fDup, fId := p.fId } else { B7 p.fType with fQos := p.fQos, fRetain := p.fRetain, fTopic := p.fTopic, fBody := p.fBody })
 else if p.fType = 4 ∨ p.fType = 5 ∨ p.fType = 6 ∨ p.fType = 7 ∨ p.fType = 11 then { B7 p.fType with fId := p.fId }
 else if p.fType = 8 then { B7 p.fType with fId := p.fId, fWants := p.fWants }
 else if p.fType = 9 then { B7 p.fType with fId := p.fId, fCodes := p.fCodes }
 else if p.fType = 10 then { B7 p.fType with fId := p.fId, fNames := p.fNames }
 else B7 p.fType
theorem V9 (n : Nat) (hn : 1048576 < n) (p : PacketV) {β : Type} {G : Option β → Prop} {KH : KO β} {H : Ac} {L : List Ck} (s0 : Sep H (L)) (hk : ∀ raw H', (∀ L', VwL L' 7 raw (Ap (A0 false p))) → Sep H' L → Gd G (KH (.agg raw) H')) : Gd G (E7 E0 (n + 1) β 105 [.agg (Ap p)] H fun x H => KH x H) := by
 rw [Ais, f105]
 try simp only [Fl, H9, Eb, Dp, Fx, Dl, Cx, Ik, AeT, AhZ]
 refine Id s0 (D0 (Cf _)) fun i1 H s2 => Ie s2 fun i3 H s4 => N9 (Al (c := si p.fType) s4 Ct rfl (Bf (cs := [si p.fType, bF, i0, bF, i0, sE, .nl, sE, i0, bF, i0, bF, sE, .nl, i0, bF, bF, sE, bF, .nl, i0, bF, .nl, .nl, .nl]) rfl (Ie s4 fun i5 H s6 => Ca (cs' := [si p.fType, bF, i0, bF, i0, sE, .nl, sE, i0, bF, i0, bF, sE, .nl, i0, bF, bF, sE, bF, .nl, i0, bF, .nl, .nl, .nl]) s6 (.here) (Ag rfl) rfl (B9 rfl) rfl fun H s7 => N9 (Al (c := si p.fType) s7 Df rfl (A2 (Aa ((decide (p.fType = 1))) (fun h8 => ?_) fun h8 => ?_))))))
 refine Aq h8 (gf7 (Al (c := ss p.fClient) s7 Df rfl (gf8 (gf9 (V4 (Qy (Pd (gf7 (Gp s7 Df (zAp (.here)) (Al (c := si p.fLevel) s7 Df rfl (Gp s7 Df (zAp (.here)) (Al (c := sb p.fClean) s7 Df rfl (Gp s7 Df (zAp (.here)) (Al (c := si p.fKeep) s7 Df rfl (Gp s7 Df (zAp (.here)) (Al (c := sb p.fHasWill) s7 Df rfl (Gp s7 Df (zAp (.here)) (Al (c := sb p.fHasUser) s7 Df rfl (H0 (A8 s7 (.here) rfl rfl fun H s9 => gf8 (H0 (A8 s9 (.here) rfl rfl fun H s10 => gf9 (H0 (A8 s10 (.here) rfl rfl fun H s11 => V4 (H0 (A8 s11 (.here) rfl rfl fun H s12 => Qy (H0 (A8 s12 (.here) rfl rfl fun H s13 => Pd (A8 s13 (.here) rfl rfl fun H s14 => Qy (Al (c := sb p.fHasWill) s14 Df rfl (De (Aa (p.fHasWill) (fun h15 => ?_) fun h15 => ?_))))))))))))))))))))))))))))))))
 refine Aq h15 (V5 (Al (c := ss p.fWTopic) s14 Df rfl (V6 (V7 (Aa6 (V5 (Gp s14 Df (zAp (.here)) (Al (c := Af p.fWBody) s14 Df rfl (Gp s14 Df (zAp (.here)) (Al (c := si p.fWQos) s14 Df rfl (Gp s14 Df (zAp (.here)) (Al (c := sb p.fWRetain) s14 Df rfl (H0 (A8 s14 (.here) rfl rfl fun H s16 => V6 (H0 (A8 s16 (.here) rfl rfl fun H s17 => V7 (H0 (A8 s17 (.here) rfl rfl fun H s18 => Aa6 (A8 s18 (.here) rfl rfl fun H s19 => Pd (Al (c := sb p.fHasUser) s19 Df rfl (De (Aa (p.fHasUser) (fun h20 => ?_) fun h20 => ?_))))))))))))))))))))))
 refine Aq h20 (Pw (Al (c := ss p.fUser) s19 Df rfl (Kx (Pw (Gp s19 Df (zAp (.here)) (Al (c := sb p.fHasPass) s19 Df rfl (H0 (A8 s19 (.here) rfl rfl fun H s21 => Kx (A8 s21 (.here) rfl rfl fun H s22 => Kx (Al (c := sb p.fHasPass) s22 (.here) rfl (Aa (p.fHasPass) (fun h23 => ?_) fun h23 => ?_)))))))))))
 refine Aq h23 (Nf (Al (c := Af p.fPass) s22 Df rfl (Nf (A8 s22 (.here) rfl rfl fun H s24 => Ar s24 (.here) rfl (Ca (cs' := [si p.fType, bF, i0, bF, i0, sE, .nl, ss p.fClient, si p.fLevel, sb p.fClean, si p.fKeep, sb p.fHasWill, ss p.fWTopic, Af p.fWBody, si p.fWQos, sb p.fWRetain, sb p.fHasUser, ss p.fUser, sb p.fHasPass, Af p.fPass, i0, bF, .nl, .nl, .nl]) s24 Ct (Ag rfl) rfl (B9 rfl) rfl fun H s25 => Ar s25 (.here) rfl ?_)))))
 have e : A0 false p = (⟨p.fType, false, 0, false, 0, ⟨#[]⟩, ⟨#[]⟩, p.fClient, p.fLevel, p.fClean, p.fKeep, p.fHasWill, p.fWTopic, p.fWBody, p.fWQos, p.fWRetain, p.fHasUser, p.fUser, p.fHasPass, p.fPass, 0, false, [], [], []⟩ : PacketV) := by
  simp only [Cw] at h8 h15 h20 h23
  simp [A0, Dy, Dx, B7, h8, h15, h20, h23]
 rw [e] at hk
 exact hk _ _ (fun L' => (Gv (.cons .nl (Gv (.cons .ro (Mx (.cons .ro (Is (.cons .nl (.cons .nl (.cons .nl .nil))))))))))) s25.tail.tail.tail
 refine Av h23 (Ar s22 (.here) rfl (Ca (cs' := [si p.fType, bF, i0, bF, i0, sE, .nl, ss p.fClient, si p.fLevel, sb p.fClean, si p.fKeep, sb p.fHasWill, ss p.fWTopic, Af p.fWBody, si p.fWQos, sb p.fWRetain, sb p.fHasUser, ss p.fUser, sb p.fHasPass, .nl, i0, bF, .nl, .nl, .nl]) s22 Ct (Ag rfl) rfl (B9 rfl) rfl fun H s26 => Ar s26 (.here) rfl ?_))
 have e : A0 false p = (⟨p.fType, false, 0, false, 0, ⟨#[]⟩, ⟨#[]⟩, p.fClient, p.fLevel, p.fClean, p.fKeep, p.fHasWill, p.fWTopic, p.fWBody, p.fWQos, p.fWRetain, p.fHasUser, p.fUser, p.fHasPass, ⟨#[]⟩, 0, false, [], [], []⟩ : PacketV) := by
  simp only [Cw] at h8 h15 h20 h23
  simp [A0, Dy, Dx, B7, h8, h15, h20, h23]
 rw [e] at hk
 exact hk _ _ (fun L' => (Gv (.cons .nl (Gv (.cons .ro (Mx (.cons .nl (Is (.cons .nl (.cons .nl (.cons .nl .nil))))))))))) s26.tail.tail.tail
 refine Av h20 (Kx (Al (c := bF) s19 (.here) rfl (Av rfl (Ar s19 (.here) rfl (Ca (cs' := [si p.fType, bF, i0, bF, i0, sE, .nl, ss p.fClient, si p.fLevel, sb p.fClean, si p.fKeep, sb p.fHasWill, ss p.fWTopic, Af p.fWBody, si p.fWQos, sb p.fWRetain, sb p.fHasUser, sE, bF, .nl, i0, bF, .nl, .nl, .nl]) s19 Ct (Ag rfl) rfl (B9 rfl) rfl fun H s27 => Ar s27 (.here) rfl ?_)))))
 have e : A0 false p = (⟨p.fType, false, 0, false, 0, ⟨#[]⟩, ⟨#[]⟩, p.fClient, p.fLevel, p.fClean, p.fKeep, p.fHasWill, p.fWTopic, p.fWBody, p.fWQos, p.fWRetain, p.fHasUser, ⟨#[]⟩, false, ⟨#[]⟩, 0, false, [], [], []⟩ : PacketV) := by
  simp only [Cw] at h8 h15 h20
  simp [A0, Dy, Dx, B7, h8, h15, h20]
 rw [e] at hk
 exact hk _ _ (fun L' => (Gv (.cons .nl (Gv (.cons .ro (Mx (.cons .nl (Is (.cons .nl (.cons .nl (.cons .nl .nil))))))))))) s27.tail.tail.tail
 refine Av h15 (Pd (Al (c := sb p.fHasUser) s14 Df rfl (De (Aa (p.fHasUser) (fun h28 => ?_) fun h28 => ?_))))
 refine Aq h28 (Pw (Al (c := ss p.fUser) s14 Df rfl (Kx (Pw (Gp s14 Df (zAp (.here)) (Al (c := sb p.fHasPass) s14 Df rfl (H0 (A8 s14 (.here) rfl rfl fun H s29 => Kx (A8 s29 (.here) rfl rfl fun H s30 => Kx (Al (c := sb p.fHasPass) s30 (.here) rfl (Aa (p.fHasPass) (fun h31 => ?_) fun h31 => ?_)))))))))))
 refine Aq h31 (Nf (Al (c := Af p.fPass) s30 Df rfl (Nf (A8 s30 (.here) rfl rfl fun H s32 => Ar s32 (.here) rfl (Ca (cs' := [si p.fType, bF, i0, bF, i0, sE, .nl, ss p.fClient, si p.fLevel, sb p.fClean, si p.fKeep, sb p.fHasWill, sE, .nl, i0, bF, sb p.fHasUser, ss p.fUser, sb p.fHasPass, Af p.fPass, i0, bF, .nl, .nl, .nl]) s32 Ct (Ag rfl) rfl (B9 rfl) rfl fun H s33 => Ar s33 (.here) rfl ?_)))))
 have e : A0 false p = (⟨p.fType, false, 0, false, 0, ⟨#[]⟩, ⟨#[]⟩, p.fClient, p.fLevel, p.fClean, p.fKeep, p.fHasWill, ⟨#[]⟩, ⟨#[]⟩, 0, false, p.fHasUser, p.fUser, p.fHasPass, p.fPass, 0, false, [], [], []⟩ : PacketV) := by
  simp only [Cw] at h8 h15 h28 h31
  simp [A0, Dy, Dx, B7, h8, h15, h28, h31]
 rw [e] at hk
 exact hk _ _ (fun L' => (Gv (.cons .nl (Gv (.cons .nl (Mx (.cons .ro (Is (.cons .nl (.cons .nl (.cons .nl .nil))))))))))) s33.tail.tail.tail
 refine Av h31 (Ar s30 (.here) rfl (Ca (cs' := [si p.fType, bF, i0, bF, i0, sE, .nl, ss p.fClient, si p.fLevel, sb p.fClean, si p.fKeep, sb p.fHasWill, sE, .nl, i0, bF, sb p.fHasUser, ss p.fUser, sb p.fHasPass, .nl, i0, bF, .nl, .nl, .nl]) s30 Ct (Ag rfl) rfl (B9 rfl) rfl fun H s34 => Ar s34 (.here) rfl ?_))
 have e : A0 false p = (⟨p.fType, false, 0, false, 0, ⟨#[]⟩, ⟨#[]⟩, p.fClient, p.fLevel, p.fClean, p.fKeep, p.fHasWill, ⟨#[]⟩, ⟨#[]⟩, 0, false, p.fHasUser, p.fUser, p.fHasPass, ⟨#[]⟩, 0, false, [], [], []⟩ : PacketV) := by
  simp only [Cw] at h8 h15 h28 h31
  simp [A0, Dy, Dx, B7, h8, h15, h28, h31]
 rw [e] at hk
 exact hk _ _ (fun L' => (Gv (.cons .nl (Gv (.cons .nl (Mx (.cons .nl (Is (.cons .nl (.cons .nl (.cons .nl .nil))))))))))) s34.tail.tail.tail
 refine Av h28 (Kx (Al (c := bF) s14 (.here) rfl (Av rfl (Ar s14 (.here) rfl (Ca (cs' := [si p.fType, bF, i0, bF, i0, sE, .nl, ss p.fClient, si p.fLevel, sb p.fClean, si p.fKeep, sb p.fHasWill, sE, .nl, i0, bF, sb p.fHasUser, sE, bF, .nl, i0, bF, .nl, .nl, .nl]) s14 Ct (Ag rfl) rfl (B9 rfl) rfl fun H s35 => Ar s35 (.here) rfl ?_)))))
 have e : A0 false p = (⟨p.fType, false, 0, false, 0, ⟨#[]⟩, ⟨#[]⟩, p.fClient, p.fLevel, p.fClean, p.fKeep, p.fHasWill, ⟨#[]⟩, ⟨#[]⟩, 0, false, p.fHasUser, ⟨#[]⟩, false, ⟨#[]⟩, 0, false, [], [], []⟩ : PacketV) := by
  simp only [Cw] at h8 h15 h28
  simp [A0, Dy, Dx, B7, h8, h15, h28]
 rw [e] at hk
 exact hk _ _ (fun L' => (Gv (.cons .nl (Gv (.cons .nl (Mx (.cons .nl (Is (.cons .nl (.cons .nl (.cons .nl .nil))))))))))) s35.tail.tail.tail
 refine Av h8 (A2 (Aa ((decide (p.fType = 2))) (fun h36 => ?_) fun h36 => ?_))
 refine Aq h36 (Ro (Al (c := si p.fCode) s7 Df rfl (V8 (Ro (Gp s7 Df (zAp (.here)) (Al (c := sb p.fPresent) s7 Df rfl (H0 (A8 s7 (.here) rfl rfl fun H s37 => V8 (A8 s37 (.here) rfl rfl fun H s38 => Ar s38 (.here) rfl (Ca (cs' := [si p.fType, bF, i0, bF, i0, sE, .nl, sE, i0, bF, i0, bF, sE, .nl, i0, bF, bF, sE, bF, .nl, si p.fCode, sb p.fPresent, .nl, .nl, .nl]) s38 Ct (Ag rfl) rfl (B9 rfl) rfl fun H s39 => Ar s39 (.here) rfl ?_))))))))))
 have e : A0 false p = (⟨p.fType, false, 0, false, 0, ⟨#[]⟩, ⟨#[]⟩, ⟨#[]⟩, 0, false, 0, false, ⟨#[]⟩, ⟨#[]⟩, 0, false, false, ⟨#[]⟩, false, ⟨#[]⟩, p.fCode, p.fPresent, [], [], []⟩ : PacketV) := by
  simp only [Cw] at h8 h36
  simp [A0, Dy, Dx, B7, h8, h36]
 rw [e] at hk
 exact hk _ _ (fun L' => (Gv (.cons .nl (Gv (.cons .nl (Mx (.cons .nl (Is (.cons .nl (.cons .nl (.cons .nl .nil))))))))))) s39.tail.tail.tail
 refine Av h36 (A2 (Aa ((decide (p.fType = 3))) (fun h40 => ?_) fun h40 => ?_))
 refine Aq h40 (Pe (Al (c := si p.fQos) s7 Df rfl (gf3 (gf5 (gf6 (Pe (Gp s7 Df (zAp (.here)) (Al (c := sb p.fRetain) s7 Df rfl (Gp s7 Df (zAp (.here)) (Al (c := ss p.fTopic) s7 Df rfl (Gp s7 Df (zAp (.here)) (Al (c := Af p.fBody) s7 Df rfl (H0 (A8 s7 (.here) rfl rfl fun H s41 => gf3 (H0 (A8 s41 (.here) rfl rfl fun H s42 => gf5 (H0 (A8 s42 (.here) rfl rfl fun H s43 => gf6 (A8 s43 (.here) rfl rfl fun H s44 => Pe (Al (c := si p.fQos) s44 Df rfl (Ec (Aa ((decide (0 < p.fQos))) (fun h45 => ?_) fun h45 => ?_))))))))))))))))))))))
 refine Aq h45 (V3 (Al (c := sb p.fDup) s44 Df rfl (Iu (V3 (Gp s44 Df (zAp (.here)) (Al (c := si p.fId) s44 Df rfl (H0 (A8 s44 (.here) rfl rfl fun H s46 => Iu (A8 s46 (.here) rfl rfl fun H s47 => Ar s47 (.here) rfl (Ca (cs' := [si p.fType, sb p.fDup, si p.fQos, sb p.fRetain, si p.fId, ss p.fTopic, Af p.fBody, sE, i0, bF, i0, bF, sE, .nl, i0, bF, bF, sE, bF, .nl, i0, bF, .nl, .nl, .nl]) s47 Ct (Ag rfl) rfl (B9 rfl) rfl fun H s48 => Ar s48 (.here) rfl ?_))))))))))
 have e : A0 false p = (⟨p.fType, p.fDup, p.fQos, p.fRetain, p.fId, p.fTopic, p.fBody, ⟨#[]⟩, 0, false, 0, false, ⟨#[]⟩, ⟨#[]⟩, 0, false, false, ⟨#[]⟩, false, ⟨#[]⟩, 0, false, [], [], []⟩ : PacketV) := by
  simp only [Cw] at h8 h36 h40 h45
  simp [A0, Dy, Dx, B7, h8, h36, h40, h45]
 rw [e] at hk
 exact hk _ _ (fun L' => (Gv (.cons .ro (Gv (.cons .nl (Mx (.cons .nl (Is (.cons .nl (.cons .nl (.cons .nl .nil))))))))))) s48.tail.tail.tail
 refine Av h45 (Ar s44 (.here) rfl (Ca (cs' := [si p.fType, bF, si p.fQos, sb p.fRetain, i0, ss p.fTopic, Af p.fBody, sE, i0, bF, i0, bF, sE, .nl, i0, bF, bF, sE, bF, .nl, i0, bF, .nl, .nl, .nl]) s44 Ct (Ag rfl) rfl (B9 rfl) rfl fun H s49 => Ar s49 (.here) rfl ?_))
 have e : A0 false p = (⟨p.fType, false, p.fQos, p.fRetain, 0, p.fTopic, p.fBody, ⟨#[]⟩, 0, false, 0, false, ⟨#[]⟩, ⟨#[]⟩, 0, false, false, ⟨#[]⟩, false, ⟨#[]⟩, 0, false, [], [], []⟩ : PacketV) := by
  simp only [Cw] at h8 h36 h40 h45
  simp [A0, Dy, Dx, B7, h8, h36, h40, h45]
 rw [e] at hk
 exact hk _ _ (fun L' => (Gv (.cons .ro (Gv (.cons .nl (Mx (.cons .nl (Is (.cons .nl (.cons .nl (.cons .nl .nil))))))))))) s49.tail.tail.tail
 refine Av h40 (A2 (De (Aa ((decide (p.fType = 4))) (fun h50 => ?_) fun h50 => ?_)))
 refine Aq h50 (Aq h50 (Iu (Al (c := si p.fId) s7 Df rfl (Iu (A8 s7 (.here) rfl rfl fun H s51 => Ar s51 (.here) rfl (Ca (cs' := [si p.fType, bF, i0, bF, si p.fId, sE, .nl, sE, i0, bF, i0, bF, sE, .nl, i0, bF, bF, sE, bF, .nl, i0, bF, .nl, .nl, .nl]) s51 Ct (Ag rfl) rfl (B9 rfl) rfl fun H s52 => Ar s52 (.here) rfl ?_))))))
 have e : A0 false p = (⟨p.fType, false, 0, false, p.fId, ⟨#[]⟩, ⟨#[]⟩, ⟨#[]⟩, 0, false, 0, false, ⟨#[]⟩, ⟨#[]⟩, 0, false, false, ⟨#[]⟩, false, ⟨#[]⟩, 0, false, [], [], []⟩ : PacketV) := by
  simp only [Cw] at h8 h36 h40 h50
  simp [A0, Dy, Dx, B7, h8, h36, h40, h50]
 rw [e] at hk
 exact hk _ _ (fun L' => (Gv (.cons .nl (Gv (.cons .nl (Mx (.cons .nl (Is (.cons .nl (.cons .nl (.cons .nl .nil))))))))))) s52.tail.tail.tail
 refine Av h50 (A2 (Aa ((decide (p.fType = 5))) (fun h53 => ?_) fun h53 => ?_))
 refine Aq h53 (Aq h53 (Iu (Al (c := si p.fId) s7 Df rfl (Iu (A8 s7 (.here) rfl rfl fun H s54 => Ar s54 (.here) rfl (Ca (cs' := [si p.fType, bF, i0, bF, si p.fId, sE, .nl, sE, i0, bF, i0, bF, sE, .nl, i0, bF, bF, sE, bF, .nl, i0, bF, .nl, .nl, .nl]) s54 Ct (Ag rfl) rfl (B9 rfl) rfl fun H s55 => Ar s55 (.here) rfl ?_))))))
 have e : A0 false p = (⟨p.fType, false, 0, false, p.fId, ⟨#[]⟩, ⟨#[]⟩, ⟨#[]⟩, 0, false, 0, false, ⟨#[]⟩, ⟨#[]⟩, 0, false, false, ⟨#[]⟩, false, ⟨#[]⟩, 0, false, [], [], []⟩ : PacketV) := by
  simp only [Cw] at h8 h36 h40 h50 h53
  simp [A0, Dy, Dx, B7, h8, h36, h40, h50, h53]
 rw [e] at hk
 exact hk _ _ (fun L' => (Gv (.cons .nl (Gv (.cons .nl (Mx (.cons .nl (Is (.cons .nl (.cons .nl (.cons .nl .nil))))))))))) s55.tail.tail.tail
 refine Av h53 (A2 (Aa ((decide (p.fType = 6))) (fun h56 => ?_) fun h56 => ?_))
 refine Aq h56 (Aq h56 (Iu (Al (c := si p.fId) s7 Df rfl (Iu (A8 s7 (.here) rfl rfl fun H s57 => Ar s57 (.here) rfl (Ca (cs' := [si p.fType, bF, i0, bF, si p.fId, sE, .nl, sE, i0, bF, i0, bF, sE, .nl, i0, bF, bF, sE, bF, .nl, i0, bF, .nl, .nl, .nl]) s57 Ct (Ag rfl) rfl (B9 rfl) rfl fun H s58 => Ar s58 (.here) rfl ?_))))))
 have e : A0 false p = (⟨p.fType, false, 0, false, p.fId, ⟨#[]⟩, ⟨#[]⟩, ⟨#[]⟩, 0, false, 0, false, ⟨#[]⟩, ⟨#[]⟩, 0, false, false, ⟨#[]⟩, false, ⟨#[]⟩, 0, false, [], [], []⟩ : PacketV) := by
  simp only [Cw] at h8 h36 h40 h50 h53 h56
  simp [A0, Dy, Dx, B7, h8, h36, h40, h50, h53, h56]
 rw [e] at hk
 exact hk _ _ (fun L' => (Gv (.cons .nl (Gv (.cons .nl (Mx (.cons .nl (Is (.cons .nl (.cons .nl (.cons .nl .nil))))))))))) s58.tail.tail.tail
 refine Av h56 (A2 (Aa ((decide (p.fType = 7))) (fun h59 => ?_) fun h59 => ?_))
 refine Aq h59 (Aq h59 (Iu (Al (c := si p.fId) s7 Df rfl (Iu (A8 s7 (.here) rfl rfl fun H s60 => Ar s60 (.here) rfl (Ca (cs' := [si p.fType, bF, i0, bF, si p.fId, sE, .nl, sE, i0, bF, i0, bF, sE, .nl, i0, bF, bF, sE, bF, .nl, i0, bF, .nl, .nl, .nl]) s60 Ct (Ag rfl) rfl (B9 rfl) rfl fun H s61 => Ar s61 (.here) rfl ?_))))))
 have e : A0 false p = (⟨p.fType, false, 0, false, p.fId, ⟨#[]⟩, ⟨#[]⟩, ⟨#[]⟩, 0, false, 0, false, ⟨#[]⟩, ⟨#[]⟩, 0, false, false, ⟨#[]⟩, false, ⟨#[]⟩, 0, false, [], [], []⟩ : PacketV) := by
  simp only [Cw] at h8 h36 h40 h50 h53 h56 h59
  simp [A0, Dy, Dx, B7, h8, h36, h40, h50, h53, h56, h59]
 rw [e] at hk
 exact hk _ _ (fun L' => (Gv (.cons .nl (Gv (.cons .nl (Mx (.cons .nl (Is (.cons .nl (.cons .nl (.cons .nl .nil))))))))))) s61.tail.tail.tail
 refine Av h59 (A2 (Aa ((decide (p.fType = 11))) (fun h62 => ?_) fun h62 => ?_))
 refine Aq h62 (Iu (Al (c := si p.fId) s7 Df rfl (Iu (A8 s7 (.here) rfl rfl fun H s63 => Ar s63 (.here) rfl (Ca (cs' := [si p.fType, bF, i0, bF, si p.fId, sE, .nl, sE, i0, bF, i0, bF, sE, .nl, i0, bF, bF, sE, bF, .nl, i0, bF, .nl, .nl, .nl]) s63 Ct (Ag rfl) rfl (B9 rfl) rfl fun H s64 => Ar s64 (.here) rfl ?_)))))
 have e : A0 false p = (⟨p.fType, false, 0, false, p.fId, ⟨#[]⟩, ⟨#[]⟩, ⟨#[]⟩, 0, false, 0, false, ⟨#[]⟩, ⟨#[]⟩, 0, false, false, ⟨#[]⟩, false, ⟨#[]⟩, 0, false, [], [], []⟩ : PacketV) := by
  simp only [Cw] at h8 h36 h40 h50 h53 h56 h59 h62
  simp [A0, Dy, Dx, B7, h8, h36, h40, h50, h53, h56, h59, h62]
 rw [e] at hk
 exact hk _ _ (fun L' => (Gv (.cons .nl (Gv (.cons .nl (Mx (.cons .nl (Is (.cons .nl (.cons .nl (.cons .nl .nil))))))))))) s64.tail.tail.tail
 refine Av h62 (A2 (Aa ((decide (p.fType = 8))) (fun h65 => ?_) fun h65 => ?_))
 refine Aq h65 (Iu (Al (c := si p.fId) s7 Df rfl (Ky (Iu (Gp s7 Df (zAp (.here)) (Al (c := Ci Bn p.fWants) s7 Df rfl (H0 (A8 s7 (.here) rfl rfl fun H s66 => Ky (A8 s66 (.here) rfl rfl fun H s67 => Ar s67 (.here) rfl (Ca (cs' := [si p.fType, bF, i0, bF, si p.fId, sE, .nl, sE, i0, bF, i0, bF, sE, .nl, i0, bF, bF, sE, bF, .nl, i0, bF, Ci Bn p.fWants, .nl, .nl]) s67 Ct (Ag rfl) rfl (B9 rfl) rfl fun H s68 => Ar s68 (.here) rfl ?_))))))))))
 have e : A0 false p = (⟨p.fType, false, 0, false, p.fId, ⟨#[]⟩, ⟨#[]⟩, ⟨#[]⟩, 0, false, 0, false, ⟨#[]⟩, ⟨#[]⟩, 0, false, false, ⟨#[]⟩, false, ⟨#[]⟩, 0, false, p.fWants, [], []⟩ : PacketV) := by
  simp only [Cw] at h8 h36 h40 h50 h53 h56 h59 h62 h65
  simp [A0, Dy, Dx, B7, h8, h36, h40, h50, h53, h56, h59, h62, h65]
 rw [e] at hk
 exact hk _ _ (fun L' => (Gv (.cons .nl (Gv (.cons .nl (Mx (.cons .nl (Is (.cons .ro (.cons .nl (.cons .nl .nil))))))))))) s68.tail.tail.tail
 refine Av h65 (A2 (Aa ((decide (p.fType = 9))) (fun h69 => ?_) fun h69 => ?_))
 refine Aq h69 (Iu (Al (c := si p.fId) s7 Df rfl (La (Iu (Gp s7 Df (zAp (.here)) (Al (c := Ei p.fCodes) s7 Df rfl (H0 (A8 s7 (.here) rfl rfl fun H s70 => La (A8 s70 (.here) rfl rfl fun H s71 => Ar s71 (.here) rfl (Ca (cs' := [si p.fType, bF, i0, bF, si p.fId, sE, .nl, sE, i0, bF, i0, bF, sE, .nl, i0, bF, bF, sE, bF, .nl, i0, bF, .nl, .nl, Ei p.fCodes]) s71 Ct (Ag rfl) rfl (B9 rfl) rfl fun H s72 => Ar s72 (.here) rfl ?_))))))))))
 have e : A0 false p = (⟨p.fType, false, 0, false, p.fId, ⟨#[]⟩, ⟨#[]⟩, ⟨#[]⟩, 0, false, 0, false, ⟨#[]⟩, ⟨#[]⟩, 0, false, false, ⟨#[]⟩, false, ⟨#[]⟩, 0, false, [], [], p.fCodes⟩ : PacketV) := by
  simp only [Cw] at h8 h36 h40 h50 h53 h56 h59 h62 h65 h69
  simp [A0, Dy, Dx, B7, h8, h36, h40, h50, h53, h56, h59, h62, h65, h69]
 rw [e] at hk
 exact hk _ _ (fun L' => (Gv (.cons .nl (Gv (.cons .nl (Mx (.cons .nl (Is (.cons .nl (.cons .nl (.cons .ro .nil))))))))))) s72.tail.tail.tail
 refine Av h69 (A2 (Aa ((decide (p.fType = 10))) (fun h73 => ?_) fun h73 => ?_))
 refine Aq h73 (Iu (Al (c := si p.fId) s7 Df rfl (K9 (Iu (Gp s7 Df (zAp (.here)) (Al (c := Ee p.fNames) s7 Df rfl (H0 (A8 s7 (.here) rfl rfl fun H s74 => K9 (A8 s74 (.here) rfl rfl fun H s75 => Ar s75 (.here) rfl (Ca (cs' := [si p.fType, bF, i0, bF, si p.fId, sE, .nl, sE, i0, bF, i0, bF, sE, .nl, i0, bF, bF, sE, bF, .nl, i0, bF, .nl, Ee p.fNames, .nl]) s75 Ct (Ag rfl) rfl (B9 rfl) rfl fun H s76 => Ar s76 (.here) rfl ?_))))))))))
 have e : A0 false p = (⟨p.fType, false, 0, false, p.fId, ⟨#[]⟩, ⟨#[]⟩, ⟨#[]⟩, 0, false, 0, false, ⟨#[]⟩, ⟨#[]⟩, 0, false, false, ⟨#[]⟩, false, ⟨#[]⟩, 0, false, [], p.fNames, []⟩ : PacketV) := by
  simp only [Cw] at h8 h36 h40 h50 h53 h56 h59 h62 h65 h69 h73
  simp [A0, Dy, Dx, B7, h8, h36, h40, h50, h53, h56, h59, h62, h65, h69, h73]
 rw [e] at hk
 exact hk _ _ (fun L' => (Gv (.cons .nl (Gv (.cons .nl (Mx (.cons .nl (Is (.cons .nl (.cons .ro (.cons .nl .nil))))))))))) s76.tail.tail.tail
 refine Av h73 (Ar s7 (.here) rfl (Ca (cs' := [si p.fType, bF, i0, bF, i0, sE, .nl, sE, i0, bF, i0, bF, sE, .nl, i0, bF, bF, sE, bF, .nl, i0, bF, .nl, .nl, .nl]) s7 Ct (Ag rfl) rfl (B9 rfl) rfl fun H s77 => Ar s77 (.here) rfl ?_))
 have e : A0 false p = (⟨p.fType, false, 0, false, 0, ⟨#[]⟩, ⟨#[]⟩, ⟨#[]⟩, 0, false, 0, false, ⟨#[]⟩, ⟨#[]⟩, 0, false, false, ⟨#[]⟩, false, ⟨#[]⟩, 0, false, [], [], []⟩ : PacketV) := by
  simp only [Cw] at h8 h36 h40 h50 h53 h56 h59 h62 h65 h69 h73
  simp [A0, Dy, Dx, B7, h8, h36, h40, h50, h53, h56, h59, h62, h65, h69, h73]
 rw [e] at hk
 exact hk _ _ (fun L' => (Gv (.cons .nl (Gv (.cons .nl (Mx (.cons .nl (Is (.cons .nl (.cons .nl (.cons .nl .nil))))))))))) s77.tail.tail.tail
theorem W5 (n : Nat) (hn : 1048576 < n) (p : PacketV) {β : Type} {G : Option β → Prop} {KH : KO β} {H : Ac} {L : List Ck} (s0 : Sep H (L)) (hk : ∀ raw H', (∀ L', VwL L' 7 raw (Ap (A0 true p))) → Sep H' L → Gd G (KH (.agg raw) H')) : Gd G (E7 E0 (n + 1) β 90 [.agg (Ap p)] H fun x H => KH x H) := by
 rw [AlV, f90]
 try simp only [Fl, H9, Eb, Dp, Fx, Dl, Cx, Fe, Pr.gT, Pr.gF, Pr.hT, Pr.hF, Pr.kT, Pr.kF, Gb, Ik]
 refine Id s0 (D0 (Cf _)) fun i1 H s2 => Ie s2 fun i3 H s4 => N9 (Al (c := si p.fType) s4 Ct rfl (Bf (cs := [si p.fType, bF, i0, bF, i0, sE, .nl, sE, i0, bF, i0, bF, sE, .nl, i0, bF, bF, sE, bF, .nl, i0, bF, .nl, .nl, .nl]) rfl (Ie s4 fun i5 H s6 => Ca (cs' := [si p.fType, bF, i0, bF, i0, sE, .nl, sE, i0, bF, i0, bF, sE, .nl, i0, bF, bF, sE, bF, .nl, i0, bF, .nl, .nl, .nl]) s6 (.here) (Ag rfl) rfl (B9 rfl) rfl fun H s7 => N9 (Al (c := si p.fType) s7 Df rfl (A2 (Aa ((decide (p.fType = 1))) (fun h8 => ?_) fun h8 => ?_))))))
 refine Aq h8 (gf8 (Al (c := si p.fLevel) s7 Df rfl (gf8 (A8 s7 (.here) rfl rfl fun H s9 => gf7 (Al (c := ss p.fClient) s9 Df rfl (gf7 (A8 s9 (.here) rfl rfl fun H s10 => gf9 (Al (c := sb p.fClean) s10 Df rfl (gf9 (A8 s10 (.here) rfl rfl fun H s11 => V4 (Al (c := si p.fKeep) s11 Df rfl (V4 (A8 s11 (.here) rfl rfl fun H s12 => Qy (Al (c := sb p.fHasWill) s12 Df rfl (De (Aa (p.fHasWill) (fun h13 => ?_) fun h13 => ?_))))))))))))))))
 refine Aq h13 (Qy (A8 s12 (.here) rfl rfl fun H s14 => V5 (Al (c := ss p.fWTopic) s14 Df rfl (V5 (A8 s14 (.here) rfl rfl fun H s15 => V6 (Al (c := Af p.fWBody) s15 Df rfl (V6 (A8 s15 (.here) rfl rfl fun H s16 => V7 (Al (c := si p.fWQos) s16 Df rfl (V7 (A8 s16 (.here) rfl rfl fun H s17 => Aa6 (Al (c := sb p.fWRetain) s17 Df rfl (Aa6 (A8 s17 (.here) rfl rfl fun H s18 => Pd (Al (c := sb p.fHasUser) s18 Df rfl (Aa (p.fHasUser) (fun h19 => ?_) fun h19 => ?_))))))))))))))))
 refine Aq h19 (Pd (A8 s18 (.here) rfl rfl fun H s20 => Pw (Al (c := ss p.fUser) s20 Df rfl (Pw (A8 s20 (.here) rfl rfl fun H s21 => Kx (Al (c := sb p.fHasPass) s21 Df rfl (Aa (p.fHasPass) (fun h22 => ?_) fun h22 => ?_)))))))
 refine Aq h22 (Kx (A8 s21 (.here) rfl rfl fun H s23 => Nf (Al (c := Af p.fPass) s23 Df rfl (Nf (A8 s23 (.here) rfl rfl fun H s24 => Ar s24 (.here) rfl (Ca (cs' := [si p.fType, bF, i0, bF, i0, sE, .nl, ss p.fClient, si p.fLevel, sb p.fClean, si p.fKeep, bT, ss p.fWTopic, Af p.fWBody, si p.fWQos, sb p.fWRetain, bT, ss p.fUser, bT, Af p.fPass, i0, bF, .nl, .nl, .nl]) s24 Ct (Ag rfl) rfl (B9 rfl) rfl fun H s25 => Ar s25 (.here) rfl ?_))))))
 have e : A0 true p = (⟨p.fType, false, 0, false, 0, ⟨#[]⟩, ⟨#[]⟩, p.fClient, p.fLevel, p.fClean, p.fKeep, true, p.fWTopic, p.fWBody, p.fWQos, p.fWRetain, true, p.fUser, true, p.fPass, 0, false, [], [], []⟩ : PacketV) := by
  simp only [Cw] at h8 h13 h19 h22
  simp [A0, Dy, Dx, B7, h8, h13, h19, h22]
 rw [e] at hk
 exact hk _ _ (fun L' => (Gv (.cons .nl (Gv (.cons .ro (Mx (.cons .ro (Is (.cons .nl (.cons .nl (.cons .nl .nil))))))))))) s25.tail.tail.tail
 refine Av h22 (Ar s21 (.here) rfl (Ca (cs' := [si p.fType, bF, i0, bF, i0, sE, .nl, ss p.fClient, si p.fLevel, sb p.fClean, si p.fKeep, bT, ss p.fWTopic, Af p.fWBody, si p.fWQos, sb p.fWRetain, bT, ss p.fUser, bF, .nl, i0, bF, .nl, .nl, .nl]) s21 Ct (Ag rfl) rfl (B9 rfl) rfl fun H s26 => Ar s26 (.here) rfl ?_))
 have e : A0 true p = (⟨p.fType, false, 0, false, 0, ⟨#[]⟩, ⟨#[]⟩, p.fClient, p.fLevel, p.fClean, p.fKeep, true, p.fWTopic, p.fWBody, p.fWQos, p.fWRetain, true, p.fUser, false, ⟨#[]⟩, 0, false, [], [], []⟩ : PacketV) := by
  simp only [Cw] at h8 h13 h19 h22
  simp [A0, Dy, Dx, B7, h8, h13, h19, h22]
 rw [e] at hk
 exact hk _ _ (fun L' => (Gv (.cons .nl (Gv (.cons .ro (Mx (.cons .nl (Is (.cons .nl (.cons .nl (.cons .nl .nil))))))))))) s26.tail.tail.tail
 refine Av h19 (Ar s18 (.here) rfl (Ca (cs' := [si p.fType, bF, i0, bF, i0, sE, .nl, ss p.fClient, si p.fLevel, sb p.fClean, si p.fKeep, bT, ss p.fWTopic, Af p.fWBody, si p.fWQos, sb p.fWRetain, bF, sE, bF, .nl, i0, bF, .nl, .nl, .nl]) s18 Ct (Ag rfl) rfl (B9 rfl) rfl fun H s27 => Ar s27 (.here) rfl ?_))
 have e : A0 true p = (⟨p.fType, false, 0, false, 0, ⟨#[]⟩, ⟨#[]⟩, p.fClient, p.fLevel, p.fClean, p.fKeep, true, p.fWTopic, p.fWBody, p.fWQos, p.fWRetain, false, ⟨#[]⟩, false, ⟨#[]⟩, 0, false, [], [], []⟩ : PacketV) := by
  simp only [Cw] at h8 h13 h19
  simp [A0, Dy, Dx, B7, h8, h13, h19]
 rw [e] at hk
 exact hk _ _ (fun L' => (Gv (.cons .nl (Gv (.cons .ro (Mx (.cons .nl (Is (.cons .nl (.cons .nl (.cons .nl .nil))))))))))) s27.tail.tail.tail
 refine Av h13 (Pd (Al (c := sb p.fHasUser) s12 Df rfl (Aa (p.fHasUser) (fun h28 => ?_) fun h28 => ?_)))
 refine Aq h28 (Pd (A8 s12 (.here) rfl rfl fun H s29 => Pw (Al (c := ss p.fUser) s29 Df rfl (Pw (A8 s29 (.here) rfl rfl fun H s30 => Kx (Al (c := sb p.fHasPass) s30 Df rfl (Aa (p.fHasPass) (fun h31 => ?_) fun h31 => ?_)))))))
 refine Aq h31 (Kx (A8 s30 (.here) rfl rfl fun H s32 => Nf (Al (c := Af p.fPass) s32 Df rfl (Nf (A8 s32 (.here) rfl rfl fun H s33 => Ar s33 (.here) rfl (Ca (cs' := [si p.fType, bF, i0, bF, i0, sE, .nl, ss p.fClient, si p.fLevel, sb p.fClean, si p.fKeep, bF, sE, .nl, i0, bF, bT, ss p.fUser, bT, Af p.fPass, i0, bF, .nl, .nl, .nl]) s33 Ct (Ag rfl) rfl (B9 rfl) rfl fun H s34 => Ar s34 (.here) rfl ?_))))))
 have e : A0 true p = (⟨p.fType, false, 0, false, 0, ⟨#[]⟩, ⟨#[]⟩, p.fClient, p.fLevel, p.fClean, p.fKeep, false, ⟨#[]⟩, ⟨#[]⟩, 0, false, true, p.fUser, true, p.fPass, 0, false, [], [], []⟩ : PacketV) := by
  simp only [Cw] at h8 h13 h28 h31
  simp [A0, Dy, Dx, B7, h8, h13, h28, h31]
 rw [e] at hk
 exact hk _ _ (fun L' => (Gv (.cons .nl (Gv (.cons .nl (Mx (.cons .ro (Is (.cons .nl (.cons .nl (.cons .nl .nil))))))))))) s34.tail.tail.tail
 refine Av h31 (Ar s30 (.here) rfl (Ca (cs' := [si p.fType, bF, i0, bF, i0, sE, .nl, ss p.fClient, si p.fLevel, sb p.fClean, si p.fKeep, bF, sE, .nl, i0, bF, bT, ss p.fUser, bF, .nl, i0, bF, .nl, .nl, .nl]) s30 Ct (Ag rfl) rfl (B9 rfl) rfl fun H s35 => Ar s35 (.here) rfl ?_))
 have e : A0 true p = (⟨p.fType, false, 0, false, 0, ⟨#[]⟩, ⟨#[]⟩, p.fClient, p.fLevel, p.fClean, p.fKeep, false, ⟨#[]⟩, ⟨#[]⟩, 0, false, true, p.fUser, false, ⟨#[]⟩, 0, false, [], [], []⟩ : PacketV) := by
  simp only [Cw] at h8 h13 h28 h31
  simp [A0, Dy, Dx, B7, h8, h13, h28, h31]
 rw [e] at hk
 exact hk _ _ (fun L' => (Gv (.cons .nl (Gv (.cons .nl (Mx (.cons .nl (Is (.cons .nl (.cons .nl (.cons .nl .nil))))))))))) s35.tail.tail.tail
 refine Av h28 (Ar s12 (.here) rfl (Ca (cs' := [si p.fType, bF, i0, bF, i0, sE, .nl, ss p.fClient, si p.fLevel, sb p.fClean, si p.fKeep, bF, sE, .nl, i0, bF, bF, sE, bF, .nl, i0, bF, .nl, .nl, .nl]) s12 Ct (Ag rfl) rfl (B9 rfl) rfl fun H s36 => Ar s36 (.here) rfl ?_))
 have e : A0 true p = (⟨p.fType, false, 0, false, 0, ⟨#[]⟩, ⟨#[]⟩, p.fClient, p.fLevel, p.fClean, p.fKeep, false, ⟨#[]⟩, ⟨#[]⟩, 0, false, false, ⟨#[]⟩, false, ⟨#[]⟩, 0, false, [], [], []⟩ : PacketV) := by
  simp only [Cw] at h8 h13 h28
  simp [A0, Dy, Dx, B7, h8, h13, h28]
 rw [e] at hk
 exact hk _ _ (fun L' => (Gv (.cons .nl (Gv (.cons .nl (Mx (.cons .nl (Is (.cons .nl (.cons .nl (.cons .nl .nil))))))))))) s36.tail.tail.tail
 refine Av h8 (A2 (Aa ((decide (p.fType = 2))) (fun h37 => ?_) fun h37 => ?_))
 refine Aq h37 (Ro (Al (c := si p.fCode) s7 Df rfl (Ro (A8 s7 (.here) rfl rfl fun H s38 => V8 (Al (c := sb p.fPresent) s38 Df rfl (Aa (p.fPresent) (fun h39 => ?_) fun h39 => ?_))))))
 refine Ad h39 (Ro (Ad h39 (Al (c := si p.fCode) s38 Df rfl (Ad h39 (A2 (Ef h39 (V8 (A8 s38 (.here) rfl rfl fun H s40 => Ar s40 (.here) rfl (Ca (cs' := [si p.fType, bF, i0, bF, i0, sE, .nl, sE, i0, bF, i0, bF, sE, .nl, i0, bF, bF, sE, bF, .nl, si p.fCode, sb (decide (p.fCode = 0)), .nl, .nl, .nl]) s40 Ct (Ag rfl) rfl (B9 rfl) rfl fun H s41 => Ar s41 (.here) rfl ?_)))))))))
 have e : A0 true p = (⟨p.fType, false, 0, false, 0, ⟨#[]⟩, ⟨#[]⟩, ⟨#[]⟩, 0, false, 0, false, ⟨#[]⟩, ⟨#[]⟩, 0, false, false, ⟨#[]⟩, false, ⟨#[]⟩, p.fCode, (decide (p.fCode = 0)), [], [], []⟩ : PacketV) := by
  simp only [Cw] at h8 h37 h39
  simp [A0, Dy, Dx, B7, h8, h37, h39]
 rw [e] at hk
 exact hk _ _ (fun L' => (Gv (.cons .nl (Gv (.cons .nl (Mx (.cons .nl (Is (.cons .nl (.cons .nl (.cons .nl .nil))))))))))) s41.tail.tail.tail
 refine Ab h39 (Ab h39 (Ab h39 (Dq h39 (V8 (A8 s38 (.here) rfl rfl fun H s42 => Ar s42 (.here) rfl (Ca (cs' := [si p.fType, bF, i0, bF, i0, sE, .nl, sE, i0, bF, i0, bF, sE, .nl, i0, bF, bF, sE, bF, .nl, si p.fCode, bF, .nl, .nl, .nl]) s42 Ct (Ag rfl) rfl (B9 rfl) rfl fun H s43 => Ar s43 (.here) rfl ?_))))))
 have e : A0 true p = (⟨p.fType, false, 0, false, 0, ⟨#[]⟩, ⟨#[]⟩, ⟨#[]⟩, 0, false, 0, false, ⟨#[]⟩, ⟨#[]⟩, 0, false, false, ⟨#[]⟩, false, ⟨#[]⟩, p.fCode, false, [], [], []⟩ : PacketV) := by
  simp only [Cw] at h8 h37 h39
  simp [A0, Dy, Dx, B7, h8, h37, h39]
 rw [e] at hk
 exact hk _ _ (fun L' => (Gv (.cons .nl (Gv (.cons .nl (Mx (.cons .nl (Is (.cons .nl (.cons .nl (.cons .nl .nil))))))))))) s43.tail.tail.tail
 refine Av h37 (A2 (Aa ((decide (p.fType = 3))) (fun h44 => ?_) fun h44 => ?_))
 refine Aq h44 (Pe (Al (c := si p.fQos) s7 Df rfl (Pe (A8 s7 (.here) rfl rfl fun H s45 => gf3 (Al (c := sb p.fRetain) s45 Df rfl (gf3 (A8 s45 (.here) rfl rfl fun H s46 => gf5 (Al (c := ss p.fTopic) s46 Df rfl (gf5 (A8 s46 (.here) rfl rfl fun H s47 => gf6 (Al (c := Af p.fBody) s47 Df rfl (gf6 (A8 s47 (.here) rfl rfl fun H s48 => Pe (Al (c := si p.fQos) s48 Df rfl (Ec (Aa ((decide (0 < p.fQos))) (fun h49 => ?_) fun h49 => ?_))))))))))))))))
 refine Aq h49 (V3 (Al (c := sb p.fDup) s48 Df rfl (V3 (A8 s48 (.here) rfl rfl fun H s50 => Iu (Al (c := si p.fId) s50 Df rfl (Iu (A8 s50 (.here) rfl rfl fun H s51 => Ar s51 (.here) rfl (Ca (cs' := [si p.fType, sb p.fDup, si p.fQos, sb p.fRetain, si p.fId, ss p.fTopic, Af p.fBody, sE, i0, bF, i0, bF, sE, .nl, i0, bF, bF, sE, bF, .nl, i0, bF, .nl, .nl, .nl]) s51 Ct (Ag rfl) rfl (B9 rfl) rfl fun H s52 => Ar s52 (.here) rfl ?_))))))))
 have e : A0 true p = (⟨p.fType, p.fDup, p.fQos, p.fRetain, p.fId, p.fTopic, p.fBody, ⟨#[]⟩, 0, false, 0, false, ⟨#[]⟩, ⟨#[]⟩, 0, false, false, ⟨#[]⟩, false, ⟨#[]⟩, 0, false, [], [], []⟩ : PacketV) := by
  simp only [Cw] at h8 h37 h44 h49
  simp [A0, Dy, Dx, B7, h8, h37, h44, h49]
 rw [e] at hk
 exact hk _ _ (fun L' => (Gv (.cons .ro (Gv (.cons .nl (Mx (.cons .nl (Is (.cons .nl (.cons .nl (.cons .nl .nil))))))))))) s52.tail.tail.tail
 refine Av h49 (Ar s48 (.here) rfl (Ca (cs' := [si p.fType, bF, si p.fQos, sb p.fRetain, i0, ss p.fTopic, Af p.fBody, sE, i0, bF, i0, bF, sE, .nl, i0, bF, bF, sE, bF, .nl, i0, bF, .nl, .nl, .nl]) s48 Ct (Ag rfl) rfl (B9 rfl) rfl fun H s53 => Ar s53 (.here) rfl ?_))
 have e : A0 true p = (⟨p.fType, false, p.fQos, p.fRetain, 0, p.fTopic, p.fBody, ⟨#[]⟩, 0, false, 0, false, ⟨#[]⟩, ⟨#[]⟩, 0, false, false, ⟨#[]⟩, false, ⟨#[]⟩, 0, false, [], [], []⟩ : PacketV) := by
  simp only [Cw] at h8 h37 h44 h49
  simp [A0, Dy, Dx, B7, h8, h37, h44, h49]
 rw [e] at hk
 exact hk _ _ (fun L' => (Gv (.cons .ro (Gv (.cons .nl (Mx (.cons .nl (Is (.cons .nl (.cons .nl (.cons .nl .nil))))))))))) s53.tail.tail.tail
 refine Av h44 (A2 (De (Aa ((decide (p.fType = 4))) (fun h54 => ?_) fun h54 => ?_)))
 refine Aq h54 (Aq h54 (Iu (Al (c := si p.fId) s7 Df rfl (Iu (A8 s7 (.here) rfl rfl fun H s55 => Ar s55 (.here) rfl (Ca (cs' := [si p.fType, bF, i0, bF, si p.fId, sE, .nl, sE, i0, bF, i0, bF, sE, .nl, i0, bF, bF, sE, bF, .nl, i0, bF, .nl, .nl, .nl]) s55 Ct (Ag rfl) rfl (B9 rfl) rfl fun H s56 => Ar s56 (.here) rfl ?_))))))
 have e : A0 true p = (⟨p.fType, false, 0, false, p.fId, ⟨#[]⟩, ⟨#[]⟩, ⟨#[]⟩, 0, false, 0, false, ⟨#[]⟩, ⟨#[]⟩, 0, false, false, ⟨#[]⟩, false, ⟨#[]⟩, 0, false, [], [], []⟩ : PacketV) := by
  simp only [Cw] at h8 h37 h44 h54
  simp [A0, Dy, Dx, B7, h8, h37, h44, h54]
 rw [e] at hk
 exact hk _ _ (fun L' => (Gv (.cons .nl (Gv (.cons .nl (Mx (.cons .nl (Is (.cons .nl (.cons .nl (.cons .nl .nil))))))))))) s56.tail.tail.tail
 refine Av h54 (A2 (Aa ((decide (p.fType = 5))) (fun h57 => ?_) fun h57 => ?_))
 refine Aq h57 (Aq h57 (Iu (Al (c := si p.fId) s7 Df rfl (Iu (A8 s7 (.here) rfl rfl fun H s58 => Ar s58 (.here) rfl (Ca (cs' := [si p.fType, bF, i0, bF, si p.fId, sE, .nl, sE, i0, bF, i0, bF, sE, .nl, i0, bF, bF, sE, bF, .nl, i0, bF, .nl, .nl, .nl]) s58 Ct (Ag rfl) rfl (B9 rfl) rfl fun H s59 => Ar s59 (.here) rfl ?_))))))
 have e : A0 true p = (⟨p.fType, false, 0, false, p.fId, ⟨#[]⟩, ⟨#[]⟩, ⟨#[]⟩, 0, false, 0, false, ⟨#[]⟩, ⟨#[]⟩, 0, false, false, ⟨#[]⟩, false, ⟨#[]⟩, 0, false, [], [], []⟩ : PacketV) := by
  simp only [Cw] at h8 h37 h44 h54 h57
  simp [A0, Dy, Dx, B7, h8, h37, h44, h54, h57]
 rw [e] at hk
 exact hk _ _ (fun L' => (Gv (.cons .nl (Gv (.cons .nl (Mx (.cons .nl (Is (.cons .nl (.cons .nl (.cons .nl .nil))))))))))) s59.tail.tail.tail
 refine Av h57 (A2 (Aa ((decide (p.fType = 6))) (fun h60 => ?_) fun h60 => ?_))
 refine Aq h60 (Aq h60 (Iu (Al (c := si p.fId) s7 Df rfl (Iu (A8 s7 (.here) rfl rfl fun H s61 => Ar s61 (.here) rfl (Ca (cs' := [si p.fType, bF, i0, bF, si p.fId, sE, .nl, sE, i0, bF, i0, bF, sE, .nl, i0, bF, bF, sE, bF, .nl, i0, bF, .nl, .nl, .nl]) s61 Ct (Ag rfl) rfl (B9 rfl) rfl fun H s62 => Ar s62 (.here) rfl ?_))))))
 have e : A0 true p = (⟨p.fType, false, 0, false, p.fId, ⟨#[]⟩, ⟨#[]⟩, ⟨#[]⟩, 0, false, 0, false, ⟨#[]⟩, ⟨#[]⟩, 0, false, false, ⟨#[]⟩, false, ⟨#[]⟩, 0, false, [], [], []⟩ : PacketV) := by
  simp only [Cw] at h8 h37 h44 h54 h57 h60
  simp [A0, Dy, Dx, B7, h8, h37, h44, h54, h57, h60]
 rw [e] at hk
 exact hk _ _ (fun L' => (Gv (.cons .nl (Gv (.cons .nl (Mx (.cons .nl (Is (.cons .nl (.cons .nl (.cons .nl .nil))))))))))) s62.tail.tail.tail
 refine Av h60 (A2 (Aa ((decide (p.fType = 7))) (fun h63 => ?_) fun h63 => ?_))
 refine Aq h63 (Aq h63 (Iu (Al (c := si p.fId) s7 Df rfl (Iu (A8 s7 (.here) rfl rfl fun H s64 => Ar s64 (.here) rfl (Ca (cs' := [si p.fType, bF, i0, bF, si p.fId, sE, .nl, sE, i0, bF, i0, bF, sE, .nl, i0, bF, bF, sE, bF, .nl, i0, bF, .nl, .nl, .nl]) s64 Ct (Ag rfl) rfl (B9 rfl) rfl fun H s65 => Ar s65 (.here) rfl ?_))))))
 have e : A0 true p = (⟨p.fType, false, 0, false, p.fId, ⟨#[]⟩, ⟨#[]⟩, ⟨#[]⟩, 0, false, 0, false, ⟨#[]⟩, ⟨#[]⟩, 0, false, false, ⟨#[]⟩, false, ⟨#[]⟩, 0, false, [], [], []⟩ : PacketV) := by
  simp only [Cw] at h8 h37 h44 h54 h57 h60 h63
  simp [A0, Dy, Dx, B7, h8, h37, h44, h54, h57, h60, h63]
 rw [e] at hk
 exact hk _ _ (fun L' => (Gv (.cons .nl (Gv (.cons .nl (Mx (.cons .nl (Is (.cons .nl (.cons .nl (.cons .nl .nil))))))))))) s65.tail.tail.tail
 refine Av h63 (A2 (Aa ((decide (p.fType = 11))) (fun h66 => ?_) fun h66 => ?_))
 refine Aq h66 (Iu (Al (c := si p.fId) s7 Df rfl (Iu (A8 s7 (.here) rfl rfl fun H s67 => Ar s67 (.here) rfl (Ca (cs' := [si p.fType, bF, i0, bF, si p.fId, sE, .nl, sE, i0, bF, i0, bF, sE, .nl, i0, bF, bF, sE, bF, .nl, i0, bF, .nl, .nl, .nl]) s67 Ct (Ag rfl) rfl (B9 rfl) rfl fun H s68 => Ar s68 (.here) rfl ?_)))))
 have e : A0 true p = (⟨p.fType, false, 0, false, p.fId, ⟨#[]⟩, ⟨#[]⟩, ⟨#[]⟩, 0, false, 0, false, ⟨#[]⟩, ⟨#[]⟩, 0, false, false, ⟨#[]⟩, false, ⟨#[]⟩, 0, false, [], [], []⟩ : PacketV) := by
  simp only [Cw] at h8 h37 h44 h54 h57 h60 h63 h66
  simp [A0, Dy, Dx, B7, h8, h37, h44, h54, h57, h60, h63, h66]
 rw [e] at hk
 exact hk _ _ (fun L' => (Gv (.cons .nl (Gv (.cons .nl (Mx (.cons .nl (Is (.cons .nl (.cons .nl (.cons .nl .nil))))))))))) s68.tail.tail.tail
 refine Av h66 (A2 (Aa ((decide (p.fType = 8))) (fun h69 => ?_) fun h69 => ?_))
 refine Aq h69 (Iu (Al (c := si p.fId) s7 Df rfl (Iu (A8 s7 (.here) rfl rfl fun H s70 => Ky (Al (c := Ci Bn p.fWants) s70 Df rfl (Ky (A8 s70 (.here) rfl rfl fun H s71 => Ar s71 (.here) rfl (Ca (cs' := [si p.fType, bF, i0, bF, si p.fId, sE, .nl, sE, i0, bF, i0, bF, sE, .nl, i0, bF, bF, sE, bF, .nl, i0, bF, Ci Bn p.fWants, .nl, .nl]) s71 Ct (Ag rfl) rfl (B9 rfl) rfl fun H s72 => Ar s72 (.here) rfl ?_))))))))
 have e : A0 true p = (⟨p.fType, false, 0, false, p.fId, ⟨#[]⟩, ⟨#[]⟩, ⟨#[]⟩, 0, false, 0, false, ⟨#[]⟩, ⟨#[]⟩, 0, false, false, ⟨#[]⟩, false, ⟨#[]⟩, 0, false, p.fWants, [], []⟩ : PacketV) := by
  simp only [Cw] at h8 h37 h44 h54 h57 h60 h63 h66 h69
  simp [A0, Dy, Dx, B7, h8, h37, h44, h54, h57, h60, h63, h66, h69]
 rw [e] at hk
 exact hk _ _ (fun L' => (Gv (.cons .nl (Gv (.cons .nl (Mx (.cons .nl (Is (.cons .ro (.cons .nl (.cons .nl .nil))))))))))) s72.tail.tail.tail
 refine Av h69 (A2 (Aa ((decide (p.fType = 9))) (fun h73 => ?_) fun h73 => ?_))
 refine Aq h73 (Iu (Al (c := si p.fId) s7 Df rfl (Iu (A8 s7 (.here) rfl rfl fun H s74 => La (Al (c := Ei p.fCodes) s74 Df rfl (La (A8 s74 (.here) rfl rfl fun H s75 => Ar s75 (.here) rfl (Ca (cs' := [si p.fType, bF, i0, bF, si p.fId, sE, .nl, sE, i0, bF, i0, bF, sE, .nl, i0, bF, bF, sE, bF, .nl, i0, bF, .nl, .nl, Ei p.fCodes]) s75 Ct (Ag rfl) rfl (B9 rfl) rfl fun H s76 => Ar s76 (.here) rfl ?_))))))))
 have e : A0 true p = (⟨p.fType, false, 0, false, p.fId, ⟨#[]⟩, ⟨#[]⟩, ⟨#[]⟩, 0, false, 0, false, ⟨#[]⟩, ⟨#[]⟩, 0, false, false, ⟨#[]⟩, false, ⟨#[]⟩, 0, false, [], [], p.fCodes⟩ : PacketV) := by
  simp only [Cw] at h8 h37 h44 h54 h57 h60 h63 h66 h69 h73
  simp [A0, Dy, Dx, B7, h8, h37, h44, h54, h57, h60, h63, h66, h69, h73]
 rw [e] at hk
 exact hk _ _ (fun L' => (Gv (.cons .nl (Gv (.cons .nl (Mx (.cons .nl (Is (.cons .nl (.cons .nl (.cons .ro .nil))))))))))) s76.tail.tail.tail
 refine Av h73 (A2 (Aa ((decide (p.fType = 10))) (fun h77 => ?_) fun h77 => ?_))
 refine Aq h77 (Iu (Al (c := si p.fId) s7 Df rfl (Iu (A8 s7 (.here) rfl rfl fun H s78 => K9 (Al (c := Ee p.fNames) s78 Df rfl (K9 (A8 s78 (.here) rfl rfl fun H s79 => Ar s79 (.here) rfl (Ca (cs' := [si p.fType, bF, i0, bF, si p.fId, sE, .nl, sE, i0, bF, i0, bF, sE, .nl, i0, bF, bF, sE, bF, .nl, i0, bF, .nl, Ee p.fNames, .nl]) s79 Ct (Ag rfl) rfl (B9 rfl) rfl fun H s80 => Ar s80 (.here) rfl ?_))))))))
 have e : A0 true p = (⟨p.fType, false, 0, false, p.fId, ⟨#[]⟩, ⟨#[]⟩, ⟨#[]⟩, 0, false, 0, false, ⟨#[]⟩, ⟨#[]⟩, 0, false, false, ⟨#[]⟩, false, ⟨#[]⟩, 0, false, [], p.fNames, []⟩ : PacketV) := by
  simp only [Cw] at h8 h37 h44 h54 h57 h60 h63 h66 h69 h73 h77
  simp [A0, Dy, Dx, B7, h8, h37, h44, h54, h57, h60, h63, h66, h69, h73, h77]
 rw [e] at hk
 exact hk _ _ (fun L' => (Gv (.cons .nl (Gv (.cons .nl (Mx (.cons .nl (Is (.cons .nl (.cons .ro (.cons .nl .nil))))))))))) s80.tail.tail.tail
 refine Av h77 (Ar s7 (.here) rfl (Ca (cs' := [si p.fType, bF, i0, bF, i0, sE, .nl, sE, i0, bF, i0, bF, sE, .nl, i0, bF, bF, sE, bF, .nl, i0, bF, .nl, .nl, .nl]) s7 Ct (Ag rfl) rfl (B9 rfl) rfl fun H s81 => Ar s81 (.here) rfl ?_))
 have e : A0 true p = (⟨p.fType, false, 0, false, 0, ⟨#[]⟩, ⟨#[]⟩, ⟨#[]⟩, 0, false, 0, false, ⟨#[]⟩, ⟨#[]⟩, 0, false, false, ⟨#[]⟩, false, ⟨#[]⟩, 0, false, [], [], []⟩ : PacketV) := by
  simp only [Cw] at h8 h37 h44 h54 h57 h60 h63 h66 h69 h73 h77
  simp [A0, Dy, Dx, B7, h8, h37, h44, h54, h57, h60, h63, h66, h69, h73, h77]
 rw [e] at hk
 exact hk _ _ (fun L' => (Gv (.cons .nl (Gv (.cons .nl (Mx (.cons .nl (Is (.cons .nl (.cons .nl (.cons .nl .nil))))))))))) s81.tail.tail.tail
end
end Go.Proofs.YtlcpigdmekgajaaGreatDoor.Abs
