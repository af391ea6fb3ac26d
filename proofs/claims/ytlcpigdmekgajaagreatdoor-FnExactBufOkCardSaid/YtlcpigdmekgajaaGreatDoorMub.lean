/- What the proof needs, part 2: a sound evaluator over trees, the program's functions on it, and what they come to. -/
import Derived.Test.YtlcpigdmekgajaaGreatDoorMua
import Derived.Lib.SplitLaws
import Derived.Lib.IndexAny
import Derived.Lib.ValidLaws
import Derived.Test.YtlcpigdmekgajaaGreatDoorProg
import Derived.KernelRfl
import Derived.Shelf.Strings.IndexAnyAll
import Derived.Shelf.Small.Utf8
import Derived.Lib.TrimUEq
import Derived.Lib.QuoteLoop
import Derived.Laws.RangeAny
import Derived.Laws.Runes
import Derived.WalkKit
import Derived.WalkMore
import Derived.Below
import Derived.LoopTactic
import Derived.Shelf.RegionOpenPlain
import Derived.Test.YtlcpigdmekgajaaGreatDoorChecked
import Derived.Shelf.Unicode.ValidAny
import Derived.Shelf.Strings.Split
import Derived.Shelf.Vars
set_option linter.unusedVariables false
set_option linter.unusedSimpArgs false
namespace Go.Proofs.YtlcpigdmekgajaaGreatDoor.Abs
open _root_.Bool renaming false_eq_true → zaa, false_or → za4, true_or → zaI, eq_iff_iff → zb6
open _root_.Option renaming bind_some → zad, map_eq_some_iff → zaH, getD_some → zaO
open _root_.List renaming getElem?_eq_some_iff → zae, replicate → zaj, length_singleton → zan, map_cons → zaq, drop_zero → zaS, getElem?_map → zaT, take_of_length_le → zaV, drop_of_length_le → zbf, any_cons → zb8, drop_drop → zbA, map_map → zbG
open _root_.Nat renaming le_refl → zam, eq_of_beq_eq_true → zaQ, add_zero → zaZ, beq → zb3, add_comm → zbE
open _root_.Array renaming getElem?_eq_some_iff → za9, ext' → zbe, replicate → zbx, getElem?_setIfInBounds_ne → zby
section
open Go
def Z1 : List UInt8 → List UInt8 → List (List UInt8)
 | cur, [] => [cur]
 | cur, b :: l => if b = 47 then cur :: Z1 [] l else Z1 (cur ++ [b]) l
def ofL (l : List UInt8) : ByteArray := ⟨l.toArray⟩
def Bq (s : ByteArray) : List ByteArray := (Z1 [] s.data.toList).map ofL
def H7 (s : ByteArray) (b : UInt8) : Bool := s.data.toList.any fun c => c == b
def vPH (s : ByteArray) : Bool := H7 s 43 || H7 s 35
def Tx : ByteArray := ⟨#[47]⟩
def phB : ByteArray := ⟨#[43, 35]⟩
def Nk (c : List UInt8) : List (List UInt8) → List (List UInt8)
 | [] => [c]
 | h :: t => (c ++ h) :: t
theorem Ur {X : List (List UInt8)} (h : X ≠ []) : Nk [] X = X := by
 cases X with
 | nil => exact absurd rfl h
 | cons h t => rfl
theorem Xf (a b : List UInt8) {X : List (List UInt8)} (h : X ≠ []) : Nk a (Nk b X) = Nk (a ++ b) X := by
 cases X with
 | nil => exact absurd rfl h
 | cons h t => simp [Nk]
theorem Q7 (sep : List UInt8) (k : Nat) (l : List UInt8) : Lib.splitK sep 0 k l ≠ [] := by
 cases k with
 | zero => simp [Lib.splitK]
 | succ k =>
  unfold Lib.splitK
  split <;> simp
theorem AdL (l : List UInt8) : Lib.index (47 :: l) [47] = 0 := by
 unfold Lib.index
 simp
theorem AdM (b : UInt8) (l : List UInt8) (h : b ≠ 47) : Lib.index (b :: l) [47] = if Lib.index l [47] == -1 then -1 else Lib.index l [47] + 1 := by
 rw [Lib.index]
 rw [if_neg]
 simpa using fun h' => h h'.symm
theorem T5 (b : UInt8) (h : b ≠ 47) (k : Nat) (l : List UInt8) : Lib.splitK [47] 0 k (b :: l) = Nk [b] (Lib.splitK [47] 0 k l) := by
 cases k with
 | zero => rfl
 | succ k =>
  have hge := Lib.index_ge l [47]
  unfold Lib.splitK
  rw [AdM b l h]
  by_cases hi : Lib.index l [47] = -1
  ·simp [hi, Nk]
  ·have e1 : (Lib.index l [47] == -1) = false := by simpa using hi
   have e2 : (Lib.index l [47] + 1 == -1) = false := by simp; omega
   have e3 : (Lib.index l [47] + 1).toNat = (Lib.index l [47]).toNat + 1 := by omega
   simp only [e1, e2, e3, zaa, if_false, Nk, zaZ, zan]
   rw [show (Lib.index l [47]).toNat + 1 + 1 = ((Lib.index l [47]).toNat + 1) + 1 from rfl, List.drop_succ_cons, List.take_succ_cons]
   rfl
theorem Qw : ∀ (l cur : List UInt8), Z1 cur l = Nk cur (Lib.splitK [47] 0 (Lib.count l [47]) l)
 | [], cur => by
  have e : Lib.count [] [47] = 0 := by rw [Lib.count_one]; rfl
  rw [e]
  simp [Z1, Lib.splitK, Nk]
 | b :: l, cur => by
  rw [Z1]
  by_cases h : b = 47
  ·subst h
   rw [if_pos rfl, Qw l [], Lib.count_cons_eq, zbE, Lib.splitK, AdL]
   rw [Ur (Q7 _ _ _)]
   simp [Nk]
  ·rw [if_neg h, Qw l (cur ++ [b]), Lib.count_cons_ne _ _ _ h, T5 b h, Xf _ _ (Q7 _ _ _)]
theorem X1 (s : ByteArray) : ofL s.data.toList = s := by
 cases s
 rfl
theorem AfQ (l : List ByteArray) : (l.map (·.data.toList)).map ofL = l := by
 rw [zbG]
 conv => rhs; rw [← List.map_id l]
 exact List.map_congr_left fun s _ => X1 s
theorem Qk (s : ByteArray) : Lib.splitB Tx 0 (Lib.countB s Tx) s = Bq s := by
 have h := Lib.splitB_data Tx 0 (Lib.countB s Tx) s
 rw [← AfQ (Lib.splitB Tx 0 (Lib.countB s Tx) s), h, Bq, Qw, Ur (Q7 _ _ _)]
 rfl
theorem Zz (s : ByteArray) : (Bq s).length = Lib.countB s Tx + 1 := by
 rw [← Qk]
 exact Lib.splitB_all Tx (zam _) 0 _ s rfl
theorem Pz (chars : List UInt8) : ∀ l : List UInt8, decide (0 ≤ Lib.indexAny l chars) = l.any fun c => chars.contains c
 | [] => rfl
 | b :: l => by
  have ih := Pz chars l
  have hge := Lib.indexAny_ge chars l
  rw [Lib.indexAny, zb8, ← ih]
  by_cases h : chars.contains b = true
  ·rw [if_pos h, h]
   simp
  ·rw [if_neg h]
   have h' : chars.contains b = false := by simpa using h
   rw [h', za4]
   by_cases hi : Lib.indexAny l chars = -1
   ·rw [hi]
    rfl
   ·rw [if_neg (by simpa using hi)]
    congr 1
    simp
    omega
theorem Yv {α : Type} (p q : α → Bool) : ∀ l : List α, (l.any fun c => p c || q c) = (l.any p || l.any q)
 | [] => rfl
 | x :: l => by
  rw [zb8, zb8, zb8, Yv p q l]
  cases p x <;> cases q x <;> simp
theorem AhS (s : ByteArray) : Lib.containsAny s.data.toList phB.data.toList = vPH s := by
 unfold Lib.containsAny vPH H7
 rw [Pz, ← Yv]
 congr 1
 funext c
 simp [phB]
 rfl
end
section
open Go
def N6 : Nat → List UInt8 → Bool
 | 0, _ => true
 | n + 1, l => if l = [] then true else if (Lib.decodeL l).1 = 65533 ∧ (Lib.decodeL l).2 = 1 then false else if (Lib.decodeL l).1 = 0 then false else N6 n (l.drop (Lib.decodeL l).2)
def Bi (s : ByteArray) : Bool := decide (s.size ≤ 60) && N6 s.size s.data.toList
def V2 (ty : Nat) (vs : List AV) : Option AV :=
 match vs with
 | [.sc (.string s)] => if s.size ≤ maxLen then some (.sc (.bool (Bi s))) else none
 | _ => none
def Sx (ty : Nat) (vs : List AV) : Option AV :=
 match vs with
 | [.sc (.string s), .sc (.string c)] => if c.data.toList = [43, 35] ∧ s.size < 4294967281 then some (.sc (.bool (vPH s))) else none
 | _ => none
def Qr (ty : Nat) (vs : List AV) : Option AV :=
 match vs with
 | [.sc (.string s), .sc (.string c)] => if ty = 56 ∧ c.data.toList = [47] ∧ s.size < 4294967281 then some (.ro (Bq s).length ((Bq s).map fun x => .sc (.string x))) else none
 | _ => none
end
end Go.Proofs.YtlcpigdmekgajaaGreatDoor.Abs
set_option maxRecDepth 100000
namespace Go.Proofs.YtlcpigdmekgajaaGreatDoor.Abs
open _root_.Bool renaming false_eq_true → zaa, false_or → za4, true_or → zaI, eq_iff_iff → zb6
open _root_.Option renaming bind_some → zad, map_eq_some_iff → zaH, getD_some → zaO
open _root_.List renaming getElem?_eq_some_iff → zae, replicate → zaj, length_singleton → zan, map_cons → zaq, drop_zero → zaS, getElem?_map → zaT, take_of_length_le → zaV, drop_of_length_le → zbf, any_cons → zb8, drop_drop → zbA, map_map → zbG
open _root_.Nat renaming le_refl → zam, eq_of_beq_eq_true → zaQ, add_zero → zaZ, beq → zb3, add_comm → zbE
open _root_.Array renaming getElem?_eq_some_iff → za9, ext' → zbe, replicate → zbx, getElem?_setIfInBounds_ne → zby
section
open Go
variable {β : Type}
noncomputable def tis : List (Option TI) := [none,
 none,
 some ⟨false, false, 1, 8, [(.int .i64 0)], 0, [], some .i64, false, false, [2], false⟩,
 some ⟨false, false, 1, 8, [(.int .i64 0)], 0, [], some .i64, false, false, [3], false⟩,
 some ⟨false, false, 1, 1, [(.bool false)], 0, [], none, false, true, [4], false⟩,
 some ⟨false, false, 1, 1, [(.int .u8 0)], 0, [], some .u8, false, false, [5], false⟩,
 some ⟨false, false, 1, 1, [(.int .u8 0)], 0, [], some .u8, false, false, [6], false⟩,
 none,
 none,
 some ⟨false, false, 1, 16, [(.string ⟨#[]⟩)], 0, [], none, true, false, [9], false⟩,
 some ⟨false, false, 1, 16, [(.string ⟨#[]⟩)], 0, [], none, true, false, [10], false⟩,
 some ⟨false, false, 1, 16, [(.string ⟨#[]⟩)], 0, [], none, true, false, [11], false⟩,
 some ⟨false, false, 1, 8, [(.int .u64 0)], 0, [], some .u64, false, false, [12], false⟩,
 none,
 none,
 none,
 none,
 none,
 none,
 none,
 none,
 some ⟨false, false, 1, 4, [(.int .i32 0)], 0, [], some .i32, false, false, [21], false⟩,
 some ⟨false, true, 1, 24, [(.slice none 0 0)], 5, [], none, false, false, [22], false⟩,
 none,
 some ⟨true, false, 2, 32, [(.slice none 0 0), (.bool false)], 0, [(0, 22), (1, 4)], none, false, false, [22, 4], false⟩,
 none,
 none,
 none,
 none,
 none,
 none,
 none,
 some ⟨true, false, 2, 32, [(.slice none 0 0), (.bool false)], 0, [(0, 22), (1, 4)], none, false, false, [22, 4], false⟩,
 some ⟨false, true, 1, 24, [(.slice none 0 0)], 59, [], none, false, false, [33], false⟩,
 none,
 none,
 none,
 none,
 none,
 none,
 some ⟨false, true, 1, 24, [(.slice none 0 0)], 22, [], none, false, false, [40], false⟩,
 none,
 none,
 none,
 none,
 none,
 none,
 none,
 none,
 none,
 none,
 none,
 none,
 none,
 none,
 some ⟨false, true, 1, 24, [(.slice none 0 0)], 105, [], none, false, false, [55], false⟩,
 some ⟨false, true, 1, 24, [(.slice none 0 0)], 9, [], none, false, false, [56], false⟩,
 some ⟨false, true, 1, 24, [(.slice none 0 0)], 3, [], none, false, false, [57], false⟩,
 none,
 some ⟨true, false, 25, 320, [(.int .i64 0), (.bool false), (.int .i64 0), (.bool false), (.int .i64 0), (.string ⟨#[]⟩), (.slice none 0 0), (.string ⟨#[]⟩), (.int .i64 0), (.bool false), (.int .i64 0), (.bool false), (.string ⟨#[]⟩), (.slice none 0 0), (.int .i64 0), (.bool false), (.bool false), (.string ⟨#[]⟩), (.bool false), (.slice none 0 0), (.int .i64 0), (.bool false), (.slice none 0 0), (.slice none 0 0), (.slice none 0 0)], 0, [(0, 3), (1, 4), (2, 3), (3, 4), (4, 3), (5, 9), (6, 22), (7, 9), (8, 3), (9, 4), (10, 3), (11, 4), (12, 9), (13, 22), (14, 3), (15, 4), (16, 4), (17, 9), (18, 4), (19, 22), (20, 3), (21, 4), (22, 55), (23, 56), (24, 57)], none, false, false, [3, 4, 3, 4, 3, 9, 22, 9, 3, 4, 3, 4, 9, 22, 3, 4, 4, 9, 4, 22, 3, 4, 55, 56, 57], false⟩,
 none,
 none,
 none,
 none,
 none,
 none,
 none,
 none,
 none,
 none,
 none,
 none,
 none,
 none,
 none,
 none,
 none,
 none,
 none,
 none,
 none,
 none,
 none,
 none,
 none,
 none,
 none,
 none,
 none,
 none,
 none,
 none,
 none,
 none,
 none,
 none,
 none,
 none,
 none,
 none,
 none,
 none,
 none,
 none,
 none,
 some ⟨true, false, 2, 24, [(.string ⟨#[]⟩), (.int .i64 0)], 0, [(0, 9), (1, 3)], none, false, false, [9, 3], true⟩,
 none,
 none,
 none,
 none,
 none,
 none,
 none,
 none,
 none,
 none,
 none,
 none,
 none,
 some ⟨true, false, 3, 40, [(.slice none 0 0), (.int .i64 0), (.bool false)], 0, [(0, 22), (1, 3), (2, 4)], none, false, false, [22, 3, 4], false⟩]
noncomputable def B7 (f : Func) : Code := match f.body with | some c => c | none => .skip
noncomputable def c47 : Code := B7 Tryz.f47
noncomputable def c15 : Code := B7 Tryz.f15
noncomputable def c32 : Code := B7 Tryz.f32
noncomputable def c18 : Code := B7 Tryz.f18
noncomputable def c61 : Code := B7 Tryz.f61
noncomputable def c62 : Code := B7 Tryz.f62
noncomputable def c88 : Code := B7 Tryz.f88
noncomputable def AjB : Code := B7 Tryz.f126
noncomputable def c81 : Code := B7 Tryz.f81
noncomputable def Ahf : Code := B7 Tryz.f143
noncomputable def AgY : Code := B7 Tryz.f115
noncomputable def c80 : Code := B7 Tryz.f80
noncomputable def c87 : Code := B7 Tryz.f87
noncomputable def c86 : Code := B7 Tryz.f86
noncomputable def c63 : Code := B7 Tryz.f63
noncomputable def c90 : Code := B7 Tryz.f90
noncomputable def c65 : Code := B7 Tryz.f65
noncomputable def c89 : Code := B7 Tryz.f89
noncomputable def AgZ : Code := B7 Tryz.f127
noncomputable def Aha : Code := B7 Tryz.f128
noncomputable def c91 : Code := B7 Tryz.f91
noncomputable def c92 : Code := B7 Tryz.f92
noncomputable def c64 : Code := B7 Tryz.f64
noncomputable def c95 : Code := B7 Tryz.f95
noncomputable def c93 : Code := B7 Tryz.f93
noncomputable def c94 : Code := B7 Tryz.f94
noncomputable def c96 : Code := B7 Tryz.f96
noncomputable def c97 : Code := B7 Tryz.f97
noncomputable def c66 : Code := B7 Tryz.f66
noncomputable def c31 : Code := B7 Tryz.f31
noncomputable def c29 : Code := B7 Tryz.f29
noncomputable def c98 : Code := B7 Tryz.f98
noncomputable def c67 : Code := B7 Tryz.f67
noncomputable def c68 : Code := B7 Tryz.f68
noncomputable def AjD : Code := B7 Tryz.f130
noncomputable def c77 : Code := B7 Tryz.f77
noncomputable def AjK : Code := B7 Tryz.f146
noncomputable def AjC : Code := B7 Tryz.f129
noncomputable def Aj1 : Code := B7 Tryz.f101
noncomputable def Aj0 : Code := B7 Tryz.f100
noncomputable def Aj2 : Code := B7 Tryz.f102
noncomputable def c99 : Code := B7 Tryz.f99
noncomputable def AjE : Code := B7 Tryz.f131
noncomputable def Aix : Code := B7 Tryz.f103
noncomputable def c69 : Code := B7 Tryz.f69
noncomputable def Aj4 : Code := B7 Tryz.f105
noncomputable def c71 : Code := B7 Tryz.f71
noncomputable def Ahb : Code := B7 Tryz.f132
noncomputable def Ahc : Code := B7 Tryz.f133
noncomputable def Ahd : Code := B7 Tryz.f134
noncomputable def Aj3 : Code := B7 Tryz.f104
noncomputable def AjF : Code := B7 Tryz.f137
noncomputable def Aj7 : Code := B7 Tryz.f108
noncomputable def Aj6 : Code := B7 Tryz.f107
noncomputable def AjA : Code := B7 Tryz.f118
noncomputable def Aj5 : Code := B7 Tryz.f106
noncomputable def Aj8 : Code := B7 Tryz.f109
noncomputable def AjL : Code := B7 Tryz.f150
noncomputable def Ahe : Code := B7 Tryz.f138
noncomputable def Sn : Code := B7 Tryz.f110
noncomputable def c70 : Code := B7 Tryz.f70
noncomputable def AjH : Code := B7 Tryz.f140
noncomputable def AjJ : Code := B7 Tryz.f142
noncomputable def AjI : Code := B7 Tryz.f141
noncomputable def AjM : Code := B7 Tryz.f151
noncomputable def AjG : Code := B7 Tryz.f139
noncomputable def So : Code := B7 Tryz.f111
noncomputable def Aj9 : Code := B7 Tryz.f113
noncomputable def AgX : Code := B7 Tryz.f112
noncomputable def c72 : Code := B7 Tryz.f72
noncomputable def c33 : Code := B7 Tryz.f33
noncomputable def c30 : Code := B7 Tryz.f30
noncomputable def c35 : Code := B7 Tryz.f35
noncomputable def c21 : Code := B7 Tryz.f21
noncomputable def c5 : Code := B7 Tryz.f5
noncomputable def o88 : List (Nat × PI) := [(3, PI.of [0, 1, 2, 3, 4, 5, 6, 7, 8, 9, 10, 11, 12, 13, 14, 15, 16, 17])]
noncomputable def o63 : List (Nat × PI) := [(36, PI.of [0, 1, 2, 3, 4, 5, 6, 7, 8, 9, 10]), (46, PI.of [0, 1, 2, 3, 4, 5, 6, 7, 8, 9, 10, 11, 12])]
noncomputable def o89 : List (Nat × PI) := [(6, PI.of [0, 1, 2, 3, 4, 5, 6, 7, 8, 9, 10]), (11, PI.of [0, 1, 2, 3, 4, 5, 6, 7, 8, 9, 10]), (16, PI.of [0, 1, 2, 3, 4, 5, 6, 7, 8, 9, 10])]
noncomputable def o64 : List (Nat × PI) := [(1, .one 0 (.one 1 (.one 2 (.one 3 (.one 4 (.one 6 (.two 5 (PI.of [7, 8, 9, 10]) 7 (PI.of [5, 8, 9, 10]))))))))]
noncomputable def o66 : List (Nat × PI) := [(7, .one 0 (.one 2 (.one 3 (.one 4 (.two 1 (PI.of [5, 6, 7]) 5 (PI.of [1, 6, 7])))))), (8, PI.of [0, 1, 2, 4, 5, 8, 9, 10, 12, 13, 16, 17, 20, 21, 3, 6, 7, 11, 14, 15, 18, 19, 22, 23, 24, 25, 26, 27]), (9, PI.of [0, 1, 2, 4, 5, 3, 6, 7]), (11, PI.of [0, 1, 2, 4, 5, 3, 6, 7]), (17, PI.of [0, 1, 2, 5, 6, 7, 3, 4, 8, 9, 10]), (19, PI.of [0, 1, 2, 5, 6, 7, 9, 10, 3, 4, 8, 11, 12, 13]), (33, .one 0 (.one 1 (.one 2 (.one 3 (.one 4 (.one 5 (.one 6 (.one 8 (.one 9 (.one 10 (.one 11 (.one 12 (.one 13 (.one 14 (.two 7 (PI.of [15, 16, 17]) 15 (PI.of [7, 16, 17]))))))))))))))))]
noncomputable def o31 : List (Nat × PI) := [(12, .one 0 (.one 1 (.one 2 (.one 3 (.one 4 (.one 5 (.one 6 (.one 7 (.one 8 (.one 9 (.two 10 (PI.of [11, 12]) 11 (PI.of [10, 12])))))))))))), (13, PI.of [0, 1, 2, 3, 4, 6, 7, 8, 9, 10, 5, 11, 12, 13])]
noncomputable def AjX : List (Nat × PI) := [(3, PI.of [0, 1, 2, 3, 4, 5, 6, 7, 8, 9, 10, 11, 12, 13, 14, 15, 16, 17])]
noncomputable def AjW : List (Nat × PI) := [(1, PI.of [0, 1, 2, 3, 4, 5, 6, 7, 8, 9, 10, 11, 12, 13, 14, 15])]
noncomputable def AjS : List (Nat × PI) := [(1, PI.of [0, 1, 2, 3, 4, 5, 6, 7, 8, 9, 10, 11, 12, 13, 14, 15]), (5, PI.of [0, 1, 2, 3, 4, 5, 6, 7, 8, 9, 10, 11, 12])]
noncomputable def AjT : List (Nat × PI) := [(1, PI.of [0, 1, 2, 3, 4, 5, 6, 7, 8, 9, 10, 11, 12, 13, 14, 15])]
noncomputable def AjY : List (Nat × PI) := [(1, PI.of [0, 1, 2, 3, 4, 5, 6, 7, 8, 9, 10, 11, 12, 13, 14, 15, 16, 17])]
noncomputable def Ajj : List (Nat × PI) := [(0, PI.of [0, 1, 2, 3, 4, 5, 6, 7, 8, 9, 10, 11, 12, 13, 14, 15, 16, 17, 18, 19, 20, 21]), (7, PI.of [0, 1, 2, 3, 4, 5, 6, 7, 8, 9, 10])]
noncomputable def AjU : List (Nat × PI) := [(4, .one 0 (.one 1 (.one 2 (.one 4 (.one 6 (.one 8 (.one 10 (.one 12 (.ld 3 (.ld 5 (.ld 7 (.ld 9 (.ld 11 (.st 13 3 (.one 14 (.st 15 3 (.one 16 (.st 17 3 (.one 18 (.st 19 3 (.one 20 (.st 21 3 (PI.of [22, 23]))))))))))))))))))))))), (6, .one 0 (.one 1 (.one 2 (.one 4 (.one 6 (.one 8 (.ld 3 (.ld 5 (.ld 7 (.st 9 3 (.one 10 (.st 11 3 (.one 12 (.st 13 3 (PI.of [14, 15]))))))))))))))), (8, .one 0 (.one 1 (.one 2 (.one 4 (.ld 3 (.st 5 3 (PI.of [6, 7]))))))), (12, .one 0 (.one 1 (.one 2 (.one 4 (.ld 3 (.st 5 3 (PI.of [6, 7]))))))), (14, .one 0 (.one 1 (.one 2 (.one 4 (.one 6 (.one 8 (.ld 3 (.ld 5 (.ld 7 (.st 9 3 (.one 10 (.st 11 3 (.one 12 (.st 13 3 (PI.of [14, 15]))))))))))))))), (16, .one 0 (.one 1 (.one 2 (.one 4 (.ld 3 (.st 5 3 (PI.of [6, 7]))))))), (24, .one 0 (.one 1 (.one 2 (.one 4 (.ld 3 (.st 5 3 (PI.of [6, 7]))))))), (26, .one 0 (.one 1 (.one 2 (.one 4 (.ld 3 (.st 5 3 (PI.of [6, 7]))))))), (28, .one 0 (.one 1 (.one 2 (.one 4 (.ld 3 (.st 5 3 (PI.of [6, 7])))))))]
noncomputable def AhY : List (Nat × PI) := [(6, PI.of [0, 1, 2, 3, 4, 5, 6, 7, 8])]
noncomputable def AhZ : List (Nat × PI) := [(6, PI.of [0, 1, 2, 3, 4, 5, 6, 7, 8])]
noncomputable def Aia : List (Nat × PI) := [(6, PI.of [0, 1, 2, 3, 4, 5, 6, 7, 8])]
noncomputable def o70 : List (Nat × PI) := [(1, .one 0 (.one 1 (.one 2 (.one 3 (.one 4 (.one 6 (.two 5 (PI.of [7, 8, 9, 10]) 7 (PI.of [5, 8, 9, 10]))))))))]
noncomputable def AjZ : List (Nat × PI) := [(1, PI.of [0, 1, 3, 4, 7, 8, 9, 11, 12, 15, 16, 19, 20, 2, 5, 6, 10, 13, 14, 17, 18, 21, 22, 23]), (2, .one 1 (.one 2 (.one 3 (.one 4 (.one 5 (.two 0 (PI.of [6, 7, 8]) 6 (PI.of [0, 7, 8]))))))), (3, PI.of [0, 1, 2, 4, 5, 3, 6, 7]), (5, PI.of [0, 1, 2, 4, 5, 3, 6, 7])]
noncomputable def Ti : List (Nat × PI) := [(6, PI.of [0, 1, 4, 5, 6, 2, 3, 7, 8]), (20, .one 0 (.one 1 (.one 2 (.one 4 (.one 5 (.one 6 (.two 3 (PI.of [7, 8, 9]) 7 (PI.of [3, 8, 9]))))))))]
noncomputable def AjV : List (Nat × PI) := [(4, PI.of [0, 1, 2, 4, 5, 6, 8, 9, 3, 7, 10, 11, 12, 13])]
noncomputable def o33 : List (Nat × PI) := [(12, .one 0 (.one 1 (.one 2 (.one 3 (.one 4 (.one 5 (.one 6 (.one 7 (.one 8 (.one 9 (.two 10 (PI.of [11, 12]) 11 (PI.of [10, 12])))))))))))), (13, PI.of [0, 1, 2, 3, 4, 6, 7, 8, 9, 10, 5, 11, 12, 13])]
noncomputable def o35 : List (Nat × PI) := [(6, PI.of [0, 1, 2, 3, 4, 5, 6, 7, 8])]
noncomputable def o5 : List (Nat × PI) := [(10, PI.of [0, 1, 2, 3, 4])]
noncomputable abbrev Ai8 : Gf := ⟨c47, 12, Tryz.f47.results.toList, []⟩
noncomputable abbrev Ai1 : Gf := ⟨c15, 12, Tryz.f15.results.toList, []⟩
noncomputable abbrev fi32 : Gf := ⟨c32, 22, Tryz.f32.results.toList, []⟩
noncomputable abbrev Ai2 : Gf := ⟨c18, 12, Tryz.f18.results.toList, []⟩
noncomputable abbrev Ai9 : Gf := ⟨c61, 37, Tryz.f61.results.toList, []⟩
noncomputable abbrev fi62 : Gf := ⟨c62, 55, Tryz.f62.results.toList, []⟩
noncomputable abbrev AiK : Gf := ⟨c88, 31, Tryz.f88.results.toList, o88⟩
noncomputable abbrev Ag7 : Gf := ⟨AjB, 43, Tryz.f126.results.toList, []⟩
noncomputable abbrev AiH : Gf := ⟨c81, 15, Tryz.f81.results.toList, []⟩
noncomputable abbrev fi143 : Gf := ⟨Ahf, 104, Tryz.f143.results.toList, []⟩
noncomputable abbrev fi115 : Gf := ⟨AgY, 35, Tryz.f115.results.toList, []⟩
noncomputable abbrev AiG : Gf := ⟨c80, 6, Tryz.f80.results.toList, []⟩
noncomputable abbrev AiJ : Gf := ⟨c87, 28, Tryz.f87.results.toList, []⟩
noncomputable abbrev AiI : Gf := ⟨c86, 168, Tryz.f86.results.toList, []⟩
noncomputable abbrev fi63 : Gf := ⟨c63, 186, Tryz.f63.results.toList, o63⟩
noncomputable abbrev AiL : Gf := ⟨c90, 120, Tryz.f90.results.toList, []⟩
noncomputable abbrev AiA : Gf := ⟨c65, 10, Tryz.f65.results.toList, []⟩
noncomputable abbrev fi89 : Gf := ⟨c89, 239, Tryz.f89.results.toList, o89⟩
noncomputable abbrev fi127 : Gf := ⟨AgZ, 17, Tryz.f127.results.toList, []⟩
noncomputable abbrev fi128 : Gf := ⟨Aha, 33, Tryz.f128.results.toList, []⟩
noncomputable abbrev AiM : Gf := ⟨c91, 25, Tryz.f91.results.toList, []⟩
noncomputable abbrev fi92 : Gf := ⟨c92, 57, Tryz.f92.results.toList, []⟩
noncomputable abbrev fi64 : Gf := ⟨c64, 191, Tryz.f64.results.toList, o64⟩
noncomputable abbrev AiP : Gf := ⟨c95, 17, Tryz.f95.results.toList, []⟩
noncomputable abbrev AiN : Gf := ⟨c93, 17, Tryz.f93.results.toList, []⟩
noncomputable abbrev AiO : Gf := ⟨c94, 7, Tryz.f94.results.toList, []⟩
noncomputable abbrev AiQ : Gf := ⟨c96, 17, Tryz.f96.results.toList, []⟩
noncomputable abbrev fi97 : Gf := ⟨c97, 29, Tryz.f97.results.toList, []⟩
noncomputable abbrev fi66 : Gf := ⟨c66, 204, Tryz.f66.results.toList, o66⟩
noncomputable abbrev Ai6 : Gf := ⟨c31, 70, Tryz.f31.results.toList, o31⟩
noncomputable abbrev Ai4 : Gf := ⟨c29, 24, Tryz.f29.results.toList, []⟩
noncomputable abbrev AiR : Gf := ⟨c98, 15, Tryz.f98.results.toList, []⟩
noncomputable abbrev AiB : Gf := ⟨c67, 39, Tryz.f67.results.toList, []⟩
noncomputable abbrev fi68 : Gf := ⟨c68, 52, Tryz.f68.results.toList, []⟩
noncomputable abbrev Ag9 : Gf := ⟨AjD, 31, Tryz.f130.results.toList, AjX⟩
noncomputable abbrev fi77 : Gf := ⟨c77, 18, Tryz.f77.results.toList, []⟩
noncomputable abbrev AgG : Gf := ⟨AjK, 42, Tryz.f146.results.toList, []⟩
noncomputable abbrev Ag8 : Gf := ⟨AjC, 35, Tryz.f129.results.toList, AjW⟩
noncomputable abbrev Agx : Gf := ⟨Aj1, 6, Tryz.f101.results.toList, []⟩
noncomputable abbrev Agw : Gf := ⟨Aj0, 41, Tryz.f100.results.toList, AjS⟩
noncomputable abbrev Agy : Gf := ⟨Aj2, 35, Tryz.f102.results.toList, AjT⟩
noncomputable abbrev AiS : Gf := ⟨c99, 92, Tryz.f99.results.toList, []⟩
noncomputable abbrev AgA : Gf := ⟨AjE, 20, Tryz.f131.results.toList, AjY⟩
noncomputable abbrev fi103 : Gf := ⟨Aix, 83, Tryz.f103.results.toList, Ajj⟩
noncomputable abbrev AiC : Gf := ⟨c69, 77, Tryz.f69.results.toList, []⟩
noncomputable abbrev Ag0 : Gf := ⟨Aj4, 121, Tryz.f105.results.toList, AjU⟩
noncomputable abbrev AiE : Gf := ⟨c71, 10, Tryz.f71.results.toList, []⟩
noncomputable abbrev fi132 : Gf := ⟨Ahb, 26, Tryz.f132.results.toList, AhY⟩
noncomputable abbrev fi133 : Gf := ⟨Ahc, 26, Tryz.f133.results.toList, AhZ⟩
noncomputable abbrev fi134 : Gf := ⟨Ahd, 26, Tryz.f134.results.toList, Aia⟩
noncomputable abbrev Agz : Gf := ⟨Aj3, 186, Tryz.f104.results.toList, []⟩
noncomputable abbrev AgB : Gf := ⟨AjF, 5, Tryz.f137.results.toList, []⟩
noncomputable abbrev Ag3 : Gf := ⟨Aj7, 20, Tryz.f108.results.toList, []⟩
noncomputable abbrev Ag2 : Gf := ⟨Aj6, 5, Tryz.f107.results.toList, []⟩
noncomputable abbrev Ag6 : Gf := ⟨AjA, 5, Tryz.f118.results.toList, []⟩
noncomputable abbrev Ag1 : Gf := ⟨Aj5, 50, Tryz.f106.results.toList, []⟩
noncomputable abbrev Ag4 : Gf := ⟨Aj8, 5, Tryz.f109.results.toList, []⟩
noncomputable abbrev AgH : Gf := ⟨AjL, 19, Tryz.f150.results.toList, []⟩
noncomputable abbrev fi138 : Gf := ⟨Ahe, 35, Tryz.f138.results.toList, []⟩
noncomputable abbrev fi110 : Gf := ⟨Sn, 65, Tryz.f110.results.toList, []⟩
noncomputable abbrev AiD : Gf := ⟨c70, 81, Tryz.f70.results.toList, o70⟩
noncomputable abbrev AgD : Gf := ⟨AjH, 7, Tryz.f140.results.toList, []⟩
noncomputable abbrev AgF : Gf := ⟨AjJ, 16, Tryz.f142.results.toList, []⟩
noncomputable abbrev AgE : Gf := ⟨AjI, 19, Tryz.f141.results.toList, []⟩
noncomputable abbrev AgI : Gf := ⟨AjM, 18, Tryz.f151.results.toList, []⟩
noncomputable abbrev AgC : Gf := ⟨AjG, 65, Tryz.f139.results.toList, AjZ⟩
noncomputable abbrev fi111 : Gf := ⟨So, 96, Tryz.f111.results.toList, Ti⟩
noncomputable abbrev Ag5 : Gf := ⟨Aj9, 31, Tryz.f113.results.toList, AjV⟩
noncomputable abbrev fi112 : Gf := ⟨AgX, 29, Tryz.f112.results.toList, []⟩
noncomputable abbrev AiF : Gf := ⟨c72, 19, Tryz.f72.results.toList, []⟩
noncomputable abbrev Ai7 : Gf := ⟨c33, 73, Tryz.f33.results.toList, o33⟩
noncomputable abbrev Ai5 : Gf := ⟨c30, 26, Tryz.f30.results.toList, []⟩
noncomputable abbrev fi35 : Gf := ⟨c35, 26, Tryz.f35.results.toList, o35⟩
noncomputable abbrev Ai3 : Gf := ⟨c21, 16, Tryz.f21.results.toList, []⟩
noncomputable abbrev fi5 : Gf := ⟨c5, 27, Tryz.f5.results.toList, o5⟩
abbrev uu : AV := .sc undef
noncomputable def tf : Nat → Nat → (Nat → AV) → Tm
 | 0, _, _ => []
 | n + 1, i, t => (i, t i) :: tf n (i + 1) t
noncomputable def ut : Nat → AV := fun _ => uu
noncomputable def ud : List (Nat × AV) → (Nat → AV) → Nat → AV
 | [], t, i => t i
 | (j, v) :: r, t, i => match zb3 j i with
  | true => v
  | false => ud r t i
theorem Yp : ∀ (n i : Nat) (t : Nat → AV), tf n i t = (List.range' i n).map fun j => (j, t j)
 | 0, _, _ => rfl
 | n + 1, i, t => by
  rw [tf, Yp n (i + 1) t, List.range'_succ, zaq]
theorem AhX (nt : Nat) (tm : Tm) : nrm nt tm = tf nt 0 (fun i => gt tm i) := by
 rw [Yp, nrm, List.range_eq_range']
theorem C0 {nt m : Nat} {body : Tm → Ae → (Ex → Tm → Ae → Option β) → Option β} {c c' : Ex → Tm → Ae → Option β} {g : (Nat → AV) → Ae → Option β} {tm : Tm} {H : Ae} (h : ∀ t H, E2 nt body c m (tf nt 0 t) H = g t H) (hc : c = c') : E2 nt body c (m + 1) tm H = body tm H (E8 (fun tm H => g (fun i => gt tm i) H) c') := by
 have e : (fun tm H => E2 nt body c m (nrm nt tm) H) = fun tm H => g (fun i => gt tm i) H := by
  funext tm H
  rw [AhX, h]
 rw [E2, e, hc]
noncomputable def A4 (t : Nat) : Option TI := (tis[t]?).getD none
noncomputable def cd : Code → List Nat → Code
 | c, [] => c
 | .seq a b, i :: p => cd (if i = 0 then a else b) p
 | .cond _ a b, i :: p => cd (if i = 1 then a else b) p
 | .block _ a, _ :: p => cd a p
 | .loop a, _ :: p => cd a p
 | c, _ => c
abbrev M4 (i : Gf) (f : (β : Type) → Pr β → Nat → AV → Ae → KO β → Option β) : Prop := ∀ {β : Type} (p : Pr β) (n : Nat) (a0 : AV) (H : Ae) (k : KO β), D0 A4 p n i [a0] H k = f β p n a0 H k
abbrev Nf (i : Gf) (f : (β : Type) → Pr β → Nat → AV → AV → Ae → KO β → Option β) : Prop := ∀ {β : Type} (p : Pr β) (n : Nat) (a0 a1 : AV) (H : Ae) (k : KO β), D0 A4 p n i [a0, a1] H k = f β p n a0 a1 H k
abbrev Bd3 (i : Gf) (f : (β : Type) → Pr β → Nat → AV → AV → AV → Ae → KO β → Option β) : Prop := ∀ {β : Type} (p : Pr β) (n : Nat) (a0 a1 a2 : AV) (H : Ae) (k : KO β), D0 A4 p n i [a0, a1, a2] H k = f β p n a0 a1 a2 H k
noncomputable def f47 (p : Pr β) (n : Nat) (a0 a1 : AV) (H : Ae) (k : KO β) : Option β :=
 p.len a0 fun t7 =>
 p.bin .sub a1 t7 fun t8 =>
 p.bin .lss t8 i0 fun t10 =>
 p.cond t10
 (k (si (-1)) H)
 (k t8 H)
theorem AcR : Nf Ai8 @f47 := fun p n a0 a1 H k => by kernel_rfl
noncomputable def f15 (p : Pr β) (n : Nat) (a0 a1 : AV) (H : Ae) (k : KO β) : Option β :=
 p.box a0 H fun t2 H =>
 p.fadr 0 t2 fun t5 =>
 p.load false 1 t5 H fun t6 =>
 p.call 3 (.fn 47 [] []) [t6, a1] H fun t8 H =>
 p.bin .lss t8 i0 fun t10 =>
 p.cond t10
 (k (si (-1)) H)
 (k t8 H)
theorem AcG : Nf Ai1 @f15 := fun p n a0 a1 H k => by kernel_rfl
noncomputable def S2 (p : Pr β) (n : Nat)  (k : KO β) : Nat → AV → AV → KO β
 | 0, _, _, _, _ => none
 | m + 1, t0, t3, t4, H => p.len t0 fun t10 =>
   p.bin .lss t4 t10 fun t11 =>
   p.cond t11
   (p.iadr 1 t0 t4 fun t18 =>
   p.load false 1 t18 H fun t19 =>
   p.iadr 1 t3 t4 fun t20 =>
   p.store 1 t20 t19 H fun H =>
   p.bin .add t4 (si 1) fun t13 =>
   S2 p n  k m t0 t3 t13 H)
   (k t3 H)
noncomputable def f32 (p : Pr β) (n : Nat) (a0 : AV) (H : Ae) (k : KO β) : Option β :=
 p.len a0 fun t6 =>
 p.make 1 1 [(su 0)] t6 t6 H fun t7 H =>
 S2 p n  k n a0 t7 i0 H
noncomputable def AcM (p : Pr β) (n : Nat)  (k : KO β) (m : Nat) (tm : Tm) (H : Ae) : Option β :=
 E2 22 (fun tm H k => At A4 p [] 22 n (cd c32 [1, 1, 0, 1, 0, 0]) tm H k) (Fq 0 (E8 (fun tm H => At A4 p [] 22 n (cd c32 [1, 1, 1]) tm H (Dp A4 p fi32.results k)) (Dp A4 p fi32.results k))) m tm H
theorem AbI (p : Pr β) (n : Nat)  (k : KO β) (m0 : Nat) : ∀ (t : Nat → AV) (H : Ae), AcM p n  k m0 (tf 22 0 t) H = S2 p n  k m0 (t 0) (t 3) (t 4) H := by
 induction m0 with
 | zero => intros; rfl
 | succ m0 ih =>
  intro t H
  refine Eq.trans (C0 (nt := 22) (m := m0) (g := fun t H => S2 p n  k m0 (t 0) (t 3) (t 4) H) ih rfl) ?_
  kernel_rfl
theorem Aft (p : Pr β) (n : Nat) (a0 : AV) (H : Ae) (k : KO β) : D0 A4 p n fi32 [a0] H k =
 p.len a0 fun t6 =>
 p.make 1 1 [(su 0)] t6 t6 H fun t7 H =>
 AcM p n  k n (tf 22 0 (ud [(0, a0), (2, .nl), (3, t7), (4, i0), (5, a0), (6, t6), (7, t7)] ut)) H := by kernel_rfl
theorem AcN : M4 fi32 @f32 := fun p n a0 H k => by
 rw [Aft]
 simp only [AbI]
 kernel_rfl
noncomputable def f18 (p : Pr β) (n : Nat) (a0 : AV) (H : Ae) (k : KO β) : Option β :=
 p.box a0 H fun t1 H =>
 p.new [.nl, bF] H fun t2 H =>
 p.new [.nl, bF] H fun t3 H =>
 p.fadr 0 t1 fun t4 =>
 p.load false 1 t4 H fun t5 =>
 p.call 22 (.fn 32 [] []) [t5] H fun t6 H =>
 p.fadr 0 t3 fun t7 =>
 p.store 1 t7 t6 H fun H =>
 p.fadr 1 t1 fun t8 =>
 p.load false 1 t8 H fun t9 =>
 p.fadr 1 t3 fun t10 =>
 p.store 1 t10 t9 H fun H =>
 p.load true 2 t3 H fun t11 =>
 p.store 2 t2 t11 H fun H =>
 p.load true 2 t2 H fun r0 =>
 k r0 H
theorem AcH : M4 Ai2 @f18 := fun p n a0 H k => by kernel_rfl
noncomputable def f61 (p : Pr β) (n : Nat) (a0 : AV) (H : Ae) (k : KO β) : Option β :=
 p.bin .quo a0 (si 16) fun t7 =>
 p.bin .rem a0 (si 16) fun t9 =>
 p.bin .eql t7 i0 fun t12 =>
 E4 (fun (t4 t10 t11 : AV) (H : Ae) => p.cond t11
 (k bF H)
 (p.bin .eql t10 (si 3) fun t15 =>
 p.cond t15
 (p.bin .quo t4 (si 2) fun t17 =>
 p.bin .rem t17 (si 4) fun t18 =>
 p.bin .lss t18 (si 3) fun t20 =>
 p.kT t20 H t18 fun t22 H =>
 p.gT t20 H (p.bin .gtr t22 i0) fun t23 H =>
 p.kT t20 H t23 fun t24 H =>
 p.kF t24 H t4 fun t25 H =>
 p.gF t24 H (p.bin .lss t25 (si 8)) fun t26 H =>
 p.gT t20 H (p.pick t24 bT t26) fun t27 H =>
 p.pick t20 t27 bF fun t28 =>
 k t28 H)
 (p.bin .eql t10 (si 6) fun t30 =>
 E4 (fun (t4 t29 : AV) (H : Ae) => p.cond t29
 (p.bin .eql t4 (si 2) fun t34 =>
 k t34 H)
 (p.bin .eql t4 i0 fun t36 =>
 k t36 H)) fun j2 =>
 p.cond t30
 (j2 t4 t30 H)
 (p.bin .eql t10 (si 8) fun t31 =>
 p.cond t31
 (j2 t4 t31 H)
 (p.bin .eql t10 (si 10) fun t32 =>
 j2 t4 t32 H))))) fun j1 =>
 p.cond t12
 (j1 t9 t7 t12 H)
 (p.bin .eql t7 (si 15) fun t13 =>
 j1 t9 t7 t13 H)
theorem AcS : M4 Ai9 @f61 := fun p n a0 H k => by kernel_rfl
noncomputable def O5 (p : Pr β) (n : Nat)  (k : KO β) : Nat → AV → AV → AV → KO β
 | 0, _, _, _, _, _ => none
 | m + 1, t0, t1, t7, t8, H => p.bin .lss t8 (si 4) fun t19 =>
   p.cond t19
   (p.bin .add t1 t8 fun t24 =>
   p.len t0 fun t26 =>
   p.bin .geq t24 t26 fun t27 =>
   p.cond t27
   (k (Dt [i0, i0, (si 1)]) H)
   (p.bin .add t1 t8 fun t31 =>
   p.iadr 1 t0 t31 fun t32 =>
   p.load false 1 t32 H fun t33 =>
   p.cvI .i64 t33 fun t34 =>
   p.bin .and t34 (si 127) fun t37 =>
   p.bin .mul (si 7) t8 fun t39 =>
   p.bin .shl t37 t39 fun t40 =>
   p.bin .or t7 t40 fun t41 =>
   p.bin .lss t34 (si 128) fun t43 =>
   p.cond t43
   (p.bin .gtr t8 i0 fun t45 =>
   p.kT t45 H t34 fun t47 H =>
   p.gT t45 H (p.bin .eql t47 i0) fun t48 H =>
   p.pick t45 t48 bF fun t49 =>
   p.cond t49
   (k (Dt [i0, i0, (si 2)]) H)
   (p.bin .add t1 t8 fun t53 =>
   p.bin .add t53 (si 1) fun t54 =>
   k (Dt [t41, t54, i0]) H))
   (p.bin .add t8 (si 1) fun t21 =>
   O5 p n  k m t0 t1 t41 t21 H)))
   (k (Dt [i0, i0, (si 2)]) H)
noncomputable def f62 (p : Pr β) (n : Nat) (a0 a1 : AV) (H : Ae) (k : KO β) : Option β :=
 p.bin .lss a1 i0 fun t11 =>
 p.kF t11 H a1 fun t13 H =>
 p.kF t11 H a0 fun t14 H =>
 p.gF t11 H (p.len t14) fun t15 H =>
 p.gF t11 H (p.bin .gtr t13 t15) fun t16 H =>
 p.pick t11 bT t16 fun t17 =>
 p.cond t17
 (k (Dt [i0, i0, (si 2)]) H)
 (O5 p n  k n a0 a1 i0 i0 H)
noncomputable def AcT (p : Pr β) (n : Nat)  (k : KO β) (m : Nat) (tm : Tm) (H : Ae) : Option β :=
 E2 55 (fun tm H k => At A4 p [] 55 n (cd c62 [1, 1, 1, 0, 1, 0, 0]) tm H k) (Fq 0 (E8 (fun tm H => At A4 p [] 55 n (cd c62 [1, 1, 1, 1]) tm H (Dp A4 p fi62.results k)) (Dp A4 p fi62.results k))) m tm H
theorem AbK (p : Pr β) (n : Nat)  (k : KO β) (m0 : Nat) : ∀ (t : Nat → AV) (H : Ae), AcT p n  k m0 (tf 55 0 t) H = O5 p n  k m0 (t 0) (t 1) (t 7) (t 8) H := by
 induction m0 with
 | zero => intros; rfl
 | succ m0 ih =>
  intro t H
  refine Eq.trans (C0 (nt := 55) (m := m0) (g := fun t H => O5 p n  k m0 (t 0) (t 1) (t 7) (t 8) H) ih rfl) ?_
  kernel_rfl
theorem Afw (p : Pr β) (n : Nat) (a0 a1 : AV) (H : Ae) (k : KO β) : D0 A4 p n fi62 [a0, a1] H k =
 p.bin .lss a1 i0 fun t11 =>
 p.kF t11 H a1 fun t13 H =>
 p.kF t11 H a0 fun t14 H =>
 p.gF t11 H (p.len t14) fun t15 H =>
 p.gF t11 H (p.bin .gtr t13 t15) fun t16 H =>
 p.pick t11 bT t16 fun t17 =>
 p.cond t17
 (k (Dt [i0, i0, (si 2)]) H)
 (AcT p n  k n (tf 55 0 (ud [(0, a0), (1, a1), (4, i0), (5, i0), (6, i0), (7, i0), (8, i0), (10, a1), (11, t11), (12, t11), (13, t13), (14, t14), (15, t15), (16, t16), (17, t17)] ut)) H) := by kernel_rfl
theorem AcU : Nf fi62 @f62 := fun p n a0 a1 H k => by
 rw [Afw]
 simp only [AbK]
 kernel_rfl
noncomputable def f88 (p : Pr β) (n : Nat) (a0 a1 : AV) (H : Ae) (k : KO β) : Option β :=
 p.bin .lss a1 i0 fun t8 =>
 p.kF t8 H a1 fun t10 H =>
 p.kF t8 H a0 fun t11 H =>
 p.gF t8 H (p.len t11) fun t12 H =>
 p.gF t8 H (p.bin .sub t12 (si 2)) fun t13 H =>
 p.gF t8 H (p.bin .gtr t10 t13) fun t14 H =>
 p.pick t8 bT t14 fun t15 =>
 p.cond t15
 (k (Dt [i0, i0, bF]) H)
 (p.iadr 1 a0 a1 fun t18 =>
 p.load false 1 t18 H fun t19 =>
 p.cvI .i64 t19 fun t20 =>
 p.bin .mul t20 (si 256) fun t21 =>
 p.bin .add a1 (si 1) fun t24 =>
 p.iadr 1 a0 t24 fun t25 =>
 p.load false 1 t25 H fun t26 =>
 p.cvI .i64 t26 fun t27 =>
 p.bin .add t21 t27 fun t28 =>
 p.bin .add a1 (si 2) fun t30 =>
 k (Dt [t28, t30, bT]) H)
theorem Adr : Nf AiK @f88 := fun p n a0 a1 H k => by kernel_rfl
noncomputable def f126 (p : Pr β) (n : Nat) (a0 a1 : AV) (H : Ae) (k : KO β) : Option β :=
 p.call 110 (.fn 88 [] []) [a0, a1] H fun t13 H =>
 p.extr t13 0 fun t14 =>
 p.extr t13 1 fun t15 =>
 p.extr t13 2 fun t16 =>
 p.un .not t16 fun t18 =>
 p.kF t18 H t14 fun t20 H =>
 p.gF t18 H (p.bin .gtr t20 (si 60)) fun t21 H =>
 p.pick t18 bT t21 fun t22 =>
 p.kF t22 H t14 fun t24 H =>
 p.kF t22 H a0 fun t25 H =>
 p.gF t22 H (p.len t25) fun t26 H =>
 p.kF t22 H t15 fun t27 H =>
 p.gF t22 H (p.bin .sub t26 t27) fun t28 H =>
 p.gF t22 H (p.bin .gtr t24 t28) fun t29 H =>
 p.pick t22 bT t29 fun t30 =>
 p.cond t30
 (k (Dt [.nl, i0, bF]) H)
 (p.bin .add t15 t14 fun t37 =>
 p.slice 1 a0 (some t15) (some t37) fun t38 =>
 p.app 1 1 .nl t38 H fun t39 H =>
 p.bin .add t15 t14 fun t42 =>
 k (Dt [t39, t42, bT]) H)
theorem Abz : Nf Ag7 @f126 := fun p n a0 a1 H k => by kernel_rfl
noncomputable def f81 (p : Pr β) (n : Nat) (a0 a1 a2 : AV) (H : Ae) (k : KO β) : Option β :=
 p.bin .geq a0 a1 fun t9 =>
 p.kT t9 H a0 fun t11 H =>
 p.kT t9 H a2 fun t12 H =>
 p.gT t9 H (p.bin .leq t11 t12) fun t13 H =>
 p.pick t9 t13 bF fun t14 =>
 k t14 H
theorem Ado : Bd3 AiH @f81 := fun p n a0 a1 a2 H k => by kernel_rfl
noncomputable def Io (p : Pr β) (n : Nat)  (k : KO β) : Nat → AV → AV → AV → AV → AV → KO β
 | 0, _, _, _, _, _, _, _ => none
 | m + 1, t0, t1, t8, t9, t10, t11, H => p.bin .leq t11 t8 fun t67 =>
   p.cond t67
   (p.bin .add t1 t11 fun t73 =>
   p.iadr 1 t0 t73 fun t74 =>
   p.load false 1 t74 H fun t75 =>
   p.cvI .i64 t75 fun t76 =>
   p.bin .lss t76 (si 128) fun t78 =>
   p.kF t78 H t76 fun t80 H =>
   p.gF t78 H (p.bin .gtr t80 (si 191)) fun t81 H =>
   p.pick t78 bT t81 fun t82 =>
   p.cond t82
   (k (Dt [i0, i0, bF]) H)
   (p.bin .mul t10 (si 64) fun t84 =>
   p.bin .add t84 t76 fun t86 =>
   p.bin .sub t86 (si 128) fun t87 =>
   p.bin .add t11 (si 1) fun t69 =>
   Io p n  k m t0 t1 t8 t9 t87 t69 H))
   (p.bin .lss t10 t9 fun t90 =>
   p.kF t90 H t10 fun t92 H =>
   p.gF t90 H (p.bin .gtr t92 (si 1114111)) fun t93 H =>
   p.pick t90 bT t93 fun t94 =>
   p.kF t94 H t10 fun t96 H =>
   p.hF t94 H (p.call 4 (.fn 81 [] []) [t96, (si 55296), (si 57343)] H) fun t97 H =>
   p.pick t94 bT t97 fun t98 =>
   p.cond t98
   (k (Dt [i0, i0, bF]) H)
   (p.bin .add t1 (si 1) fun t101 =>
   p.bin .add t101 t8 fun t103 =>
   k (Dt [t10, t103, bT]) H))
noncomputable def f143 (p : Pr β) (n : Nat) (a0 a1 : AV) (H : Ae) (k : KO β) : Option β :=
 p.bin .lss a1 i0 fun t14 =>
 p.kF t14 H a1 fun t16 H =>
 p.kF t14 H a0 fun t17 H =>
 p.gF t14 H (p.len t17) fun t18 H =>
 p.gF t14 H (p.bin .geq t16 t18) fun t19 H =>
 p.pick t14 bT t19 fun t20 =>
 p.cond t20
 (k (Dt [i0, i0, bF]) H)
 (p.iadr 1 a0 a1 fun t23 =>
 p.load false 1 t23 H fun t24 =>
 p.cvI .i64 t24 fun t25 =>
 p.bin .lss t25 (si 128) fun t27 =>
 p.cond t27
 (p.bin .add a1 (si 1) fun t30 =>
 k (Dt [t25, t30, bT]) H)
 (p.bin .geq t25 (si 192) fun t33 =>
 p.kT t33 H t25 fun t35 H =>
 p.gT t33 H (p.bin .lss t35 (si 224)) fun t36 H =>
 p.pick t33 t36 bF fun t37 =>
 p.cond t37
 (p.bin .and t25 (si 31) fun t39 =>
 p.len a0 fun t60 =>
 p.bin .sub t60 (si 1) fun t61 =>
 p.bin .sub t61 (si 1) fun t63 =>
 p.bin .gtr a1 t63 fun t64 =>
 p.cond t64
 (k (Dt [i0, i0, bF]) H)
 (Io p n  k n a0 a1 (si 1) (si 128) t39 (si 1) H))
 (p.bin .geq t25 (si 224) fun t42 =>
 p.kT t42 H t25 fun t44 H =>
 p.gT t42 H (p.bin .lss t44 (si 240)) fun t45 H =>
 p.pick t42 t45 bF fun t46 =>
 p.cond t46
 (p.bin .and t25 (si 15) fun t48 =>
 p.len a0 fun t60 =>
 p.bin .sub t60 (si 1) fun t61 =>
 p.bin .sub t61 (si 2) fun t63 =>
 p.bin .gtr a1 t63 fun t64 =>
 p.cond t64
 (k (Dt [i0, i0, bF]) H)
 (Io p n  k n a0 a1 (si 2) (si 2048) t48 (si 1) H))
 (p.bin .geq t25 (si 240) fun t51 =>
 p.kT t51 H t25 fun t53 H =>
 p.gT t51 H (p.bin .lss t53 (si 248)) fun t54 H =>
 p.pick t51 t54 bF fun t55 =>
 p.cond t55
 (p.bin .and t25 (si 7) fun t57 =>
 p.len a0 fun t60 =>
 p.bin .sub t60 (si 1) fun t61 =>
 p.bin .sub t61 (si 3) fun t63 =>
 p.bin .gtr a1 t63 fun t64 =>
 p.cond t64
 (k (Dt [i0, i0, bF]) H)
 (Io p n  k n a0 a1 (si 3) (si 65536) t57 (si 1) H))
 (k (Dt [i0, i0, bF]) H)))))
noncomputable def R7 (p : Pr β) (n : Nat)  (k : KO β) (m : Nat) (tm : Tm) (H : Ae) : Option β :=
 E2 104 (fun tm H k => At A4 p [] 104 n (cd Ahf [1, 1, 1, 1, 1, 1, 1, 1, 1, 0, 1, 0, 0]) tm H k) (Fq 1 (E8 (fun tm H => At A4 p [] 104 n (cd Ahf [1, 1, 1, 1, 1, 1, 1, 1, 1, 1]) tm H (Dp A4 p fi143.results k)) (Dp A4 p fi143.results k))) m tm H
theorem Zn (p : Pr β) (n : Nat)  (k : KO β) (m0 : Nat) : ∀ (t : Nat → AV) (H : Ae), R7 p n  k m0 (tf 104 0 t) H = Io p n  k m0 (t 0) (t 1) (t 8) (t 9) (t 10) (t 11) H := by
 induction m0 with
 | zero => intros; rfl
 | succ m0 ih =>
  intro t H
  refine Eq.trans (C0 (nt := 104) (m := m0) (g := fun t H => Io p n  k m0 (t 0) (t 1) (t 8) (t 9) (t 10) (t 11) H) ih rfl) ?_
  kernel_rfl
theorem AcF (p : Pr β) (n : Nat) (a0 a1 : AV) (H : Ae) (k : KO β) : D0 A4 p n fi143 [a0, a1] H k =
 p.bin .lss a1 i0 fun t14 =>
 p.kF t14 H a1 fun t16 H =>
 p.kF t14 H a0 fun t17 H =>
 p.gF t14 H (p.len t17) fun t18 H =>
 p.gF t14 H (p.bin .geq t16 t18) fun t19 H =>
 p.pick t14 bT t19 fun t20 =>
 p.cond t20
 (k (Dt [i0, i0, bF]) H)
 (p.iadr 1 a0 a1 fun t23 =>
 p.load false 1 t23 H fun t24 =>
 p.cvI .i64 t24 fun t25 =>
 p.bin .lss t25 (si 128) fun t27 =>
 p.cond t27
 (p.bin .add a1 (si 1) fun t30 =>
 k (Dt [t25, t30, bT]) H)
 (p.bin .geq t25 (si 192) fun t33 =>
 p.kT t33 H t25 fun t35 H =>
 p.gT t33 H (p.bin .lss t35 (si 224)) fun t36 H =>
 p.pick t33 t36 bF fun t37 =>
 p.cond t37
 (p.bin .and t25 (si 31) fun t39 =>
 p.len a0 fun t60 =>
 p.bin .sub t60 (si 1) fun t61 =>
 p.bin .sub t61 (si 1) fun t63 =>
 p.bin .gtr a1 t63 fun t64 =>
 p.cond t64
 (k (Dt [i0, i0, bF]) H)
 (R7 p n  k n (tf 104 0 (ud [(0, a0), (1, a1), (4, i0), (5, i0), (6, bF), (7, t25), (8, (si 1)), (9, (si 128)), (10, t39), (11, (si 1)), (13, a1), (14, t14), (15, t14), (16, t16), (17, t17), (18, t18), (19, t19), (20, t20), (21, a0), (22, a1), (23, t23), (24, t24), (25, t25), (26, t25), (27, t27), (31, t37), (32, t25), (33, t33), (34, t33), (35, t35), (36, t36), (37, t37), (38, t25), (39, t39), (58, a1), (59, a0), (60, t60), (61, t61), (62, (si 1)), (63, t63), (64, t64)] ut)) H))
 (p.bin .geq t25 (si 224) fun t42 =>
 p.kT t42 H t25 fun t44 H =>
 p.gT t42 H (p.bin .lss t44 (si 240)) fun t45 H =>
 p.pick t42 t45 bF fun t46 =>
 p.cond t46
 (p.bin .and t25 (si 15) fun t48 =>
 p.len a0 fun t60 =>
 p.bin .sub t60 (si 1) fun t61 =>
 p.bin .sub t61 (si 2) fun t63 =>
 p.bin .gtr a1 t63 fun t64 =>
 p.cond t64
 (k (Dt [i0, i0, bF]) H)
 (R7 p n  k n (tf 104 0 (ud [(0, a0), (1, a1), (4, i0), (5, i0), (6, bF), (7, t25), (8, (si 2)), (9, (si 2048)), (10, t48), (11, (si 1)), (13, a1), (14, t14), (15, t14), (16, t16), (17, t17), (18, t18), (19, t19), (20, t20), (21, a0), (22, a1), (23, t23), (24, t24), (25, t25), (26, t25), (27, t27), (31, t37), (32, t25), (33, t33), (34, t33), (35, t35), (36, t36), (37, t37), (40, t46), (41, t25), (42, t42), (43, t42), (44, t44), (45, t45), (46, t46), (47, t25), (48, t48), (58, a1), (59, a0), (60, t60), (61, t61), (62, (si 2)), (63, t63), (64, t64)] ut)) H))
 (p.bin .geq t25 (si 240) fun t51 =>
 p.kT t51 H t25 fun t53 H =>
 p.gT t51 H (p.bin .lss t53 (si 248)) fun t54 H =>
 p.pick t51 t54 bF fun t55 =>
 p.cond t55
 (p.bin .and t25 (si 7) fun t57 =>
 p.len a0 fun t60 =>
 p.bin .sub t60 (si 1) fun t61 =>
 p.bin .sub t61 (si 3) fun t63 =>
 p.bin .gtr a1 t63 fun t64 =>
 p.cond t64
 (k (Dt [i0, i0, bF]) H)
 (R7 p n  k n (tf 104 0 (ud [(0, a0), (1, a1), (4, i0), (5, i0), (6, bF), (7, t25), (8, (si 3)), (9, (si 65536)), (10, t57), (11, (si 1)), (13, a1), (14, t14), (15, t14), (16, t16), (17, t17), (18, t18), (19, t19), (20, t20), (21, a0), (22, a1), (23, t23), (24, t24), (25, t25), (26, t25), (27, t27), (31, t37), (32, t25), (33, t33), (34, t33), (35, t35), (36, t36), (37, t37), (40, t46), (41, t25), (42, t42), (43, t42), (44, t44), (45, t45), (46, t46), (49, t55), (50, t25), (51, t51), (52, t51), (53, t53), (54, t54), (55, t55), (56, t25), (57, t57), (58, a1), (59, a0), (60, t60), (61, t61), (62, (si 3)), (63, t63), (64, t64)] ut)) H))
 (k (Dt [i0, i0, bF]) H))))) := by kernel_rfl
theorem AbE : Nf fi143 @f143 := fun p n a0 a1 H k => by
 rw [AcF]
 simp only [Zn]
 kernel_rfl
noncomputable def Oc (p : Pr β) (n : Nat)  (k : KO β) : Nat → AV → AV → KO β
 | 0, _, _, _, _ => none
 | m + 1, t3, t4, t5, H => p.len t3 fun t16 =>
   p.bin .lss t5 t16 fun t17 =>
   p.cond t17
   (p.call 110 (.fn 143 [] []) [t3, t5] H fun t21 H =>
   p.extr t21 0 fun t22 =>
   p.extr t21 1 fun t23 =>
   p.extr t21 2 fun t24 =>
   p.un .not t24 fun t26 =>
   p.kF t26 H t22 fun t28 H =>
   p.gF t26 H (p.bin .eql t28 i0) fun t29 H =>
   p.pick t26 bT t29 fun t30 =>
   p.cond t30
   (k (si (-1)) H)
   (p.bin .add t4 (si 1) fun t33 =>
   Oc p n  k m t3 t33 t23 H))
   (k t4 H)
noncomputable def f115 (p : Pr β) (n : Nat) (a0 : AV) (H : Ae) (k : KO β) : Option β :=
 p.lenS a0 fun t10 =>
 p.bin .gtr t10 (si 60) fun t11 =>
 p.cond t11
 (k (si (-1)) H)
 (p.cvSB a0 H fun t13 H =>
 Oc p n  k n t13 i0 i0 H)
noncomputable def Aa1 (p : Pr β) (n : Nat)  (k : KO β) (m : Nat) (tm : Tm) (H : Ae) : Option β :=
 E2 35 (fun tm H k => At A4 p [] 35 n (cd AgY [1, 1, 1, 1, 0, 1, 0, 0]) tm H k) (Fq 0 (E8 (fun tm H => At A4 p [] 35 n (cd AgY [1, 1, 1, 1, 1]) tm H (Dp A4 p fi115.results k)) (Dp A4 p fi115.results k))) m tm H
theorem Zg (p : Pr β) (n : Nat)  (k : KO β) (m0 : Nat) : ∀ (t : Nat → AV) (H : Ae), Aa1 p n  k m0 (tf 35 0 t) H = Oc p n  k m0 (t 3) (t 4) (t 5) H := by
 induction m0 with
 | zero => intros; rfl
 | succ m0 ih =>
  intro t H
  refine Eq.trans (C0 (nt := 35) (m := m0) (g := fun t H => Oc p n  k m0 (t 3) (t 4) (t 5) H) ih rfl) ?_
  kernel_rfl
theorem Ac8 (p : Pr β) (n : Nat) (a0 : AV) (H : Ae) (k : KO β) : D0 A4 p n fi115 [a0] H k =
 p.lenS a0 fun t10 =>
 p.bin .gtr t10 (si 60) fun t11 =>
 p.cond t11
 (k (si (-1)) H)
 (p.cvSB a0 H fun t13 H =>
 Aa1 p n  k n (tf 35 0 (ud [(0, a0), (2, i0), (3, t13), (4, i0), (5, i0), (9, a0), (10, t10), (11, t11), (12, a0), (13, t13)] ut)) H) := by kernel_rfl
theorem Abx : M4 fi115 @f115 := fun p n a0 H k => by
 rw [Ac8]
 simp only [Zg]
 kernel_rfl
noncomputable def f80 (p : Pr β) (n : Nat) (a0 : AV) (H : Ae) (k : KO β) : Option β :=
 p.call 3 (.fn 115 [] []) [a0] H fun t4 H =>
 p.bin .geq t4 i0 fun t5 =>
 k t5 H
theorem Adn : M4 AiG @f80 := fun p n a0 H k => by kernel_rfl
noncomputable def f87 (p : Pr β) (n : Nat) (a0 a1 : AV) (H : Ae) (k : KO β) : Option β :=
 p.call 131 (.fn 126 [] []) [a0, a1] H fun t13 H =>
 p.extr t13 0 fun t14 =>
 p.extr t13 1 fun t15 =>
 p.extr t13 2 fun t16 =>
 p.un .not t16 fun t18 =>
 p.kF t18 H t14 fun t20 H =>
 p.gF t18 H (p.cvBS t20 H) fun t21 H =>
 p.hF t18 H (p.call 4 (.fn 80 [] []) [t21] H) fun t22 H =>
 p.gF t18 H (p.un .not t22) fun t23 H =>
 p.pick t18 bT t23 fun t24 =>
 p.cond t24
 (k (Dt [sE, i0, bF]) H)
 (p.cvBS t14 H fun t26 =>
 k (Dt [t26, t15, bT]) H)
theorem Adq : Nf AiJ @f87 := fun p n a0 a1 H k => by kernel_rfl
noncomputable def f86 (p : Pr β) (n : Nat) (a0 : AV) (H : Ae) (k : KO β) : Option β :=
 p.new Ez H fun t2 H =>
 p.fill Ez [(0, 1, (si 1))] fun ct26 =>
 p.new Ez H fun t3 H =>
 p.store 25 t3 (.agg ct26) H fun H =>
 p.call 108 (.fn 87 [] []) [a0, i0] H fun t29 H =>
 p.extr t29 0 fun t30 =>
 p.extr t29 1 fun t31 =>
 p.extr t29 2 fun t32 =>
 p.un .not t32 fun t34 =>
 p.kF t34 H t30 fun t36 H =>
 p.gF t34 H (p.bin .neq t36 (.sc (.string ⟨#[77, 81, 84, 84]⟩))) fun t37 H =>
 p.pick t34 bT t37 fun t38 =>
 p.kF t38 H t31 fun t40 H =>
 p.kF t38 H a0 fun t41 H =>
 p.gF t38 H (p.len t41) fun t42 H =>
 p.gF t38 H (p.bin .sub t42 (si 2)) fun t43 H =>
 p.gF t38 H (p.bin .gtr t40 t43) fun t44 H =>
 p.pick t38 bT t44 fun t45 =>
 p.cond t45
 (p.fill Ez [] fun ct46 =>
 p.store 25 t2 (.agg ct46) H fun H =>
 p.load true 25 t2 H fun r0 =>
 k r0 H)
 (p.iadr 1 a0 t31 fun t49 =>
 p.load false 1 t49 H fun t50 =>
 p.cvI .i64 t50 fun t51 =>
 p.fadr 8 t3 fun t52 =>
 p.store 1 t52 t51 H fun H =>
 p.bin .add t31 (si 1) fun t55 =>
 p.iadr 1 a0 t55 fun t56 =>
 p.load false 1 t56 H fun t57 =>
 p.cvI .i64 t57 fun t58 =>
 p.bin .and t58 (si 2) fun t60 =>
 p.bin .gtr t60 i0 fun t61 =>
 p.fadr 9 t3 fun t62 =>
 p.store 1 t62 t61 H fun H =>
 p.bin .and t58 (si 4) fun t64 =>
 p.bin .gtr t64 i0 fun t65 =>
 p.fadr 11 t3 fun t66 =>
 p.store 1 t66 t65 H fun H =>
 p.bin .shr t58 (.sc (.int .u64 3)) fun t68 =>
 p.bin .and t68 (si 3) fun t69 =>
 p.fadr 14 t3 fun t70 =>
 p.store 1 t70 t69 H fun H =>
 p.bin .and t58 (si 32) fun t72 =>
 p.bin .gtr t72 i0 fun t73 =>
 p.fadr 15 t3 fun t74 =>
 p.store 1 t74 t73 H fun H =>
 p.bin .and t58 (si 64) fun t76 =>
 p.bin .gtr t76 i0 fun t77 =>
 p.fadr 18 t3 fun t78 =>
 p.store 1 t78 t77 H fun H =>
 p.bin .and t58 (si 128) fun t80 =>
 p.bin .gtr t80 i0 fun t81 =>
 p.fadr 16 t3 fun t82 =>
 p.store 1 t82 t81 H fun H =>
 p.bin .add t31 (si 2) fun t86 =>
 p.call 110 (.fn 88 [] []) [a0, t86] H fun t87 H =>
 p.extr t87 0 fun t88 =>
 p.extr t87 1 fun t89 =>
 p.extr t87 2 fun t90 =>
 p.fadr 10 t3 fun t92 =>
 p.store 1 t92 t88 H fun H =>
 p.call 108 (.fn 87 [] []) [a0, t89] H fun t96 H =>
 p.extr t96 0 fun t97 =>
 p.extr t96 1 fun t98 =>
 p.extr t96 2 fun t99 =>
 p.fadr 7 t3 fun t101 =>
 p.store 1 t101 t97 H fun H =>
 p.un .not t90 fun t103 =>
 p.kF t103 H t99 fun t105 H =>
 p.gF t103 H (p.un .not t105) fun t106 H =>
 p.pick t103 bT t106 fun t107 =>
 p.cond t107
 (p.fill Ez [] fun ct108 =>
 p.store 25 t2 (.agg ct108) H fun H =>
 p.load true 25 t2 H fun r0 =>
 k r0 H)
 (p.fadr 11 t3 fun t110 =>
 p.load false 1 t110 H fun t111 =>
 E4 (fun (t0 t2 t3 t5 : AV) (H : Ae) => p.fadr 16 t3 fun t138 =>
 p.load false 1 t138 H fun t139 =>
 E4 (fun (t0 t2 t3 t5 : AV) (H : Ae) => p.fadr 18 t3 fun t153 =>
 p.load false 1 t153 H fun t154 =>
 E4 (fun (t2 t3 : AV) (H : Ae) => p.load true 25 t3 H fun t167 =>
 p.store 25 t2 t167 H fun H =>
 p.load true 25 t2 H fun r0 =>
 k r0 H) fun j3 =>
 p.cond t154
 (p.call 131 (.fn 126 [] []) [t0, t5] H fun t158 H =>
 p.extr t158 0 fun t159 =>
 p.extr t158 1 fun t160 =>
 p.extr t158 2 fun t161 =>
 p.un .not t161 fun t163 =>
 p.cond t163
 (p.fill Ez [] fun ct164 =>
 p.store 25 t2 (.agg ct164) H fun H =>
 p.load true 25 t2 H fun r0 =>
 k r0 H)
 (p.fadr 19 t3 fun t166 =>
 p.store 1 t166 t159 H fun H =>
 j3 t2 t3 H))
 (j3 t2 t3 H)) fun j2 =>
 p.cond t139
 (p.call 108 (.fn 87 [] []) [t0, t5] H fun t143 H =>
 p.extr t143 0 fun t144 =>
 p.extr t143 1 fun t145 =>
 p.extr t143 2 fun t146 =>
 p.un .not t146 fun t148 =>
 p.cond t148
 (p.fill Ez [] fun ct149 =>
 p.store 25 t2 (.agg ct149) H fun H =>
 p.load true 25 t2 H fun r0 =>
 k r0 H)
 (p.fadr 17 t3 fun t151 =>
 p.store 1 t151 t144 H fun H =>
 j2 t0 t2 t3 t145 H))
 (j2 t0 t2 t3 t5 H)) fun j1 =>
 p.cond t111
 (p.call 108 (.fn 87 [] []) [a0, t98] H fun t115 H =>
 p.extr t115 0 fun t116 =>
 p.extr t115 1 fun t117 =>
 p.extr t115 2 fun t118 =>
 p.call 131 (.fn 126 [] []) [a0, t117] H fun t122 H =>
 p.extr t122 0 fun t123 =>
 p.extr t122 1 fun t124 =>
 p.extr t122 2 fun t125 =>
 p.un .not t118 fun t127 =>
 p.kF t127 H t125 fun t129 H =>
 p.gF t127 H (p.un .not t129) fun t130 H =>
 p.pick t127 bT t130 fun t131 =>
 p.cond t131
 (p.fill Ez [] fun ct132 =>
 p.store 25 t2 (.agg ct132) H fun H =>
 p.load true 25 t2 H fun r0 =>
 k r0 H)
 (p.fadr 12 t3 fun t134 =>
 p.store 1 t134 t116 H fun H =>
 p.fadr 13 t3 fun t136 =>
 p.store 1 t136 t123 H fun H =>
 j1 a0 t2 t3 t124 H))
 (j1 a0 t2 t3 t98 H)))
theorem Adp : M4 AiI @f86 := fun p n a0 H k => by kernel_rfl
noncomputable def Nm (p : Pr β) (n : Nat)  (k : KO β) : Nat → AV → AV → AV → KO β
 | 0, _, _, _, _, _ => none
 | m + 1, t1, t4, t5, t6, H => p.len t1 fun t134 =>
   p.bin .lss t6 t134 fun t135 =>
   p.gT t135 H (p.fadr 0 t5) fun t137 H =>
   p.gT t135 H (p.load false 1 t137 H) fun t138 H =>
   p.gT t135 H (p.bin .eql t138 (si 8)) fun t139 H =>
   p.kT t135 H t139 fun t140 H =>
   p.gF t140 H (p.fadr 0 t5) fun t141 H =>
   p.gF t140 H (p.load false 1 t141 H) fun t142 H =>
   p.gF t140 H (p.bin .eql t142 (si 10)) fun t143 H =>
   p.gT t135 H (p.pick t140 bT t143) fun t144 H =>
   p.pick t135 t144 bF fun t145 =>
   p.cond t145
   (p.call 108 (.fn 87 [] []) [t1, t6] H fun t149 H =>
   p.extr t149 0 fun t150 =>
   p.extr t149 1 fun t151 =>
   p.extr t149 2 fun t152 =>
   p.un .not t152 fun t154 =>
   p.cond t154
   (p.fill Ez [] fun ct155 =>
   p.store 25 t4 (.agg ct155) H fun H =>
   p.load true 25 t4 H fun r0 =>
   k r0 H)
   (p.fadr 0 t5 fun t157 =>
   p.load false 1 t157 H fun t158 =>
   p.bin .eql t158 (si 10) fun t159 =>
   p.cond t159
   (p.fadr 23 t5 fun t160 =>
   p.load false 1 t160 H fun t161 =>
   p.fill [sE] [(0, 1, t150)] fun ct163 => p.newSl 1 1 ct163 true H fun t163 H =>
   p.app 1 16 t161 t163 H fun t164 H =>
   p.fadr 23 t5 fun t165 =>
   p.store 1 t165 t164 H fun H =>
   Nm p n  k m t1 t4 t5 t151 H)
   (p.len t1 fun t168 =>
   p.bin .eql t151 t168 fun t169 =>
   p.cond t169
   (p.fill Ez [] fun ct170 =>
   p.store 25 t4 (.agg ct170) H fun H =>
   p.load true 25 t4 H fun r0 =>
   k r0 H)
   (p.fadr 22 t5 fun t171 =>
   p.load false 1 t171 H fun t172 =>
   p.iadr 1 t1 t151 fun t176 =>
   p.load false 1 t176 H fun t177 =>
   p.cvI .i64 t177 fun t178 =>
   p.fill [sE, i0] [(0, 1, t150), (1, 1, t178)] fun ct179 =>
   p.fill [sE, i0] [(0, 2, (.agg ct179))] fun ct180 => p.newSl 1 2 ct180 true H fun t180 H =>
   p.app 2 24 t172 t180 H fun t181 H =>
   p.fadr 22 t5 fun t182 =>
   p.store 1 t182 t181 H fun H =>
   p.bin .add t151 (si 1) fun t184 =>
   Nm p n  k m t1 t4 t5 t184 H))))
   (p.load true 25 t5 H fun t185 =>
   p.store 25 t4 t185 H fun H =>
   p.load true 25 t4 H fun r0 =>
   k r0 H)
noncomputable def Nn (p : Pr β) (n : Nat)  (k : KO β) : Nat → AV → AV → AV → AV → KO β
 | 0, _, _, _, _, _, _ => none
 | m + 1, t1, t4, t5, t6, t16, H => p.len t1 fun t118 =>
   p.bin .lss t16 t118 fun t119 =>
   p.cond t119
   (p.fadr 24 t5 fun t122 =>
   p.load false 1 t122 H fun t123 =>
   p.iadr 1 t1 t16 fun t126 =>
   p.load false 1 t126 H fun t127 =>
   p.cvI .i64 t127 fun t128 =>
   p.fill [i0] [(0, 1, t128)] fun ct129 => p.newSl 1 1 ct129 true H fun t129 H =>
   p.app 1 8 t123 t129 H fun t130 H =>
   p.fadr 24 t5 fun t131 =>
   p.store 1 t131 t130 H fun H =>
   p.bin .add t16 (si 1) fun t121 =>
   Nn p n  k m t1 t4 t5 t6 t121 H)
   (Nm p n  k n t1 t4 t5 t6 H)
noncomputable def f63 (p : Pr β) (n : Nat) (a0 a1 : AV) (H : Ae) (k : KO β) : Option β :=
 p.new Ez H fun t4 H =>
 p.bin .quo a0 (si 16) fun t21 =>
 p.fill Ez [(0, 1, t21)] fun ct22 =>
 p.new Ez H fun t5 H =>
 p.store 25 t5 (.agg ct22) H fun H =>
 p.fadr 0 t5 fun t23 =>
 p.load false 1 t23 H fun t24 =>
 p.bin .eql t24 (si 1) fun t25 =>
 p.cond t25
 (p.call 59 (.fn 86 [] []) [a1] H fun t27 H =>
 p.store 25 t4 t27 H fun H =>
 p.load true 25 t4 H fun r0 =>
 k r0 H)
 (p.fadr 0 t5 fun t28 =>
 p.load false 1 t28 H fun t29 =>
 p.bin .eql t29 (si 2) fun t30 =>
 p.kT t30 H a1 fun t32 H =>
 p.gT t30 H (p.len t32) fun t33 H =>
 p.gT t30 H (p.bin .eql t33 (si 2)) fun t34 H =>
 p.pick t30 t34 bF fun t35 =>
 p.cond t35
 (p.iadr 1 a1 i0 fun t37 =>
 p.load false 1 t37 H fun t38 =>
 p.bin .eql t38 (su 1) fun t39 =>
 p.fadr 21 t5 fun t40 =>
 p.store 1 t40 t39 H fun H =>
 p.iadr 1 a1 (si 1) fun t42 =>
 p.load false 1 t42 H fun t43 =>
 p.cvI .i64 t43 fun t44 =>
 p.fadr 20 t5 fun t45 =>
 p.store 1 t45 t44 H fun H =>
 p.load true 25 t5 H fun t46 =>
 p.store 25 t4 t46 H fun H =>
 p.load true 25 t4 H fun r0 =>
 k r0 H)
 (p.fadr 0 t5 fun t47 =>
 p.load false 1 t47 H fun t48 =>
 p.bin .eql t48 (si 3) fun t49 =>
 p.cond t49
 (p.bin .and a0 (si 8) fun t51 =>
 p.bin .gtr t51 i0 fun t52 =>
 p.fadr 1 t5 fun t53 =>
 p.store 1 t53 t52 H fun H =>
 p.bin .shr a0 (.sc (.int .u64 1)) fun t55 =>
 p.bin .and t55 (si 3) fun t56 =>
 p.fadr 2 t5 fun t57 =>
 p.store 1 t57 t56 H fun H =>
 p.bin .and a0 (si 1) fun t59 =>
 p.bin .gtr t59 i0 fun t60 =>
 p.fadr 3 t5 fun t61 =>
 p.store 1 t61 t60 H fun H =>
 p.call 108 (.fn 87 [] []) [a1, i0] H fun t64 H =>
 p.extr t64 0 fun t65 =>
 p.extr t64 1 fun t66 =>
 p.extr t64 2 fun t67 =>
 p.un .not t67 fun t69 =>
 p.cond t69
 (p.fill Ez [] fun ct70 =>
 p.store 25 t4 (.agg ct70) H fun H =>
 p.load true 25 t4 H fun r0 =>
 k r0 H)
 (p.fadr 5 t5 fun t72 =>
 p.store 1 t72 t65 H fun H =>
 p.fadr 2 t5 fun t74 =>
 p.load false 1 t74 H fun t75 =>
 p.bin .gtr t75 i0 fun t76 =>
 E4 (fun (t1 t4 t5 t6 : AV) (H : Ae) => p.slice 1 t1 (some t6) none fun t93 =>
 p.app 1 1 .nl t93 H fun t94 H =>
 p.fadr 6 t5 fun t95 =>
 p.store 1 t95 t94 H fun H =>
 p.load true 25 t5 H fun t96 =>
 p.store 25 t4 t96 H fun H =>
 p.load true 25 t4 H fun r0 =>
 k r0 H) fun j1 =>
 p.cond t76
 (p.call 110 (.fn 88 [] []) [a1, t66] H fun t80 H =>
 p.extr t80 0 fun t81 =>
 p.extr t80 1 fun t82 =>
 p.extr t80 2 fun t83 =>
 p.un .not t83 fun t85 =>
 p.cond t85
 (p.fill Ez [] fun ct86 =>
 p.store 25 t4 (.agg ct86) H fun H =>
 p.load true 25 t4 H fun r0 =>
 k r0 H)
 (p.fadr 4 t5 fun t88 =>
 p.store 1 t88 t81 H fun H =>
 j1 a1 t4 t5 t82 H))
 (j1 a1 t4 t5 t66 H)))
 (p.fadr 0 t5 fun t97 =>
 p.load false 1 t97 H fun t98 =>
 p.bin .lss t98 (si 12) fun t99 =>
 E4 (fun (t1 t4 t5 t6 : AV) (H : Ae) => p.fadr 0 t5 fun t112 =>
 p.load false 1 t112 H fun t113 =>
 p.bin .eql t113 (si 9) fun t114 =>
 E4 (fun (t1 t4 t5 t6 : AV) (H : Ae) => Nm p n  k n t1 t4 t5 t6 H) fun j3 =>
 p.cond t114
 (Nn p n  k n t1 t4 t5 t6 t6 H)
 (j3 t1 t4 t5 t6 H)) fun j2 =>
 p.cond t99
 (p.call 110 (.fn 88 [] []) [a1, i0] H fun t102 H =>
 p.extr t102 0 fun t103 =>
 p.extr t102 1 fun t104 =>
 p.extr t102 2 fun t105 =>
 p.un .not t105 fun t107 =>
 p.cond t107
 (p.fill Ez [] fun ct108 =>
 p.store 25 t4 (.agg ct108) H fun H =>
 p.load true 25 t4 H fun r0 =>
 k r0 H)
 (p.fadr 4 t5 fun t110 =>
 p.store 1 t110 t103 H fun H =>
 j2 a1 t4 t5 t104 H))
 (j2 a1 t4 t5 i0 H))))
noncomputable def Zo (p : Pr β) (n : Nat)  (k : KO β) (m : Nat) (tm : Tm) (H : Ae) : Option β :=
 E2 186 (fun tm H k => At A4 p o63 186 n (cd c63 [1, 1, 1, 1, 1, 1, 1, 1, 0, 0, 0]) tm H k) (Fq 2 (E8 (fun tm H => At A4 p o63 186 n (cd c63 [1, 1, 1, 1, 1, 1, 1, 1, 1]) tm H (Dp A4 p fi63.results k)) (Dp A4 p fi63.results k))) m tm H
noncomputable def AcV (p : Pr β) (n : Nat)  (k : KO β) (m : Nat) (tm : Tm) (H : Ae) : Option β :=
 E2 186 (fun tm H k => At A4 p o63 186 n (cd c63 [1, 1, 1, 1, 1, 1, 1, 0, 1, 1, 1, 0, 0]) tm H k) (Fq 0 (E8 (fun tm H => At A4 p o63 186 n (cd c63 [1, 1, 1, 1, 1, 1, 1, 1]) tm H (Dp A4 p fi63.results k)) (Dp A4 p fi63.results k))) m tm H
theorem Uu (p : Pr β) (n : Nat)  (k : KO β) (m0 : Nat) : ∀ (t : Nat → AV) (H : Ae), Zo p n  k m0 (tf 186 0 t) H = Nm p n  k m0 (t 1) (t 4) (t 5) (t 6) H := by
 induction m0 with
 | zero => intros; rfl
 | succ m0 ih =>
  intro t H
  refine Eq.trans (C0 (nt := 186) (m := m0) (g := fun t H => Nm p n  k m0 (t 1) (t 4) (t 5) (t 6) H) ih rfl) ?_
  kernel_rfl
theorem Xl (p : Pr β) (n : Nat)  (k : KO β) (m1 : Nat) (t : Nat → AV) (H : Ae) : At A4 p o63 186 n (cd c63 [1, 1, 1, 1, 1, 1, 1, 0, 1, 1, 1, 0, 0]) (tf 186 0 t) H (E8 (fun tm H => Nn p n  k m1 (gt tm 1) (gt tm 4) (gt tm 5) (gt tm 6) (gt tm 16) H) (Fq 0 (E8 (fun tm H => At A4 p o63 186 n (cd c63 [1, 1, 1, 1, 1, 1, 1, 1]) tm H (Dp A4 p fi63.results k)) (Dp A4 p fi63.results k)))) =
 p.len (t 1) fun t118 =>
 p.bin .lss (t 16) t118 fun t119 =>
 p.cond t119
 (p.fadr 24 (t 5) fun t122 =>
 p.load false 1 t122 H fun t123 =>
 p.iadr 1 (t 1) (t 16) fun t126 =>
 p.load false 1 t126 H fun t127 =>
 p.cvI .i64 t127 fun t128 =>
 p.fill [i0] [(0, 1, t128)] fun ct129 => p.newSl 1 1 ct129 true H fun t129 H =>
 p.app 1 8 t123 t129 H fun t130 H =>
 p.fadr 24 (t 5) fun t131 =>
 p.store 1 t131 t130 H fun H =>
 p.bin .add (t 16) (si 1) fun t121 =>
 Nn p n  k m1 (t 1) (t 4) (t 5) (t 6) t121 H)
 (Zo p n  k n (tf 186 0 (ud [(116, (t 16)), (117, (t 1)), (118, t118), (119, t119)] t)) H) := by kernel_rfl
theorem AbL (p : Pr β) (n : Nat)  (k : KO β) (m1 : Nat) : ∀ (t : Nat → AV) (H : Ae), AcV p n  k m1 (tf 186 0 t) H = Nn p n  k m1 (t 1) (t 4) (t 5) (t 6) (t 16) H := by
 induction m1 with
 | zero => intros; rfl
 | succ m1 ih =>
  intro t H
  refine Eq.trans (C0 (nt := 186) (m := m1) (g := fun t H => Nn p n  k m1 (t 1) (t 4) (t 5) (t 6) (t 16) H) ih rfl) ?_
  refine Eq.trans (Xl p n  k m1 t H) ?_
  simp only [Uu]
  kernel_rfl
theorem Afx (p : Pr β) (n : Nat) (a0 a1 : AV) (H : Ae) (k : KO β) : D0 A4 p n fi63 [a0, a1] H k =
 p.new Ez H fun t4 H =>
 p.bin .quo a0 (si 16) fun t21 =>
 p.fill Ez [(0, 1, t21)] fun ct22 =>
 p.new Ez H fun t5 H =>
 p.store 25 t5 (.agg ct22) H fun H =>
 p.fadr 0 t5 fun t23 =>
 p.load false 1 t23 H fun t24 =>
 p.bin .eql t24 (si 1) fun t25 =>
 p.cond t25
 (p.call 59 (.fn 86 [] []) [a1] H fun t27 H =>
 p.store 25 t4 t27 H fun H =>
 p.load true 25 t4 H fun r0 =>
 k r0 H)
 (p.fadr 0 t5 fun t28 =>
 p.load false 1 t28 H fun t29 =>
 p.bin .eql t29 (si 2) fun t30 =>
 p.kT t30 H a1 fun t32 H =>
 p.gT t30 H (p.len t32) fun t33 H =>
 p.gT t30 H (p.bin .eql t33 (si 2)) fun t34 H =>
 p.pick t30 t34 bF fun t35 =>
 p.cond t35
 (p.iadr 1 a1 i0 fun t37 =>
 p.load false 1 t37 H fun t38 =>
 p.bin .eql t38 (su 1) fun t39 =>
 p.fadr 21 t5 fun t40 =>
 p.store 1 t40 t39 H fun H =>
 p.iadr 1 a1 (si 1) fun t42 =>
 p.load false 1 t42 H fun t43 =>
 p.cvI .i64 t43 fun t44 =>
 p.fadr 20 t5 fun t45 =>
 p.store 1 t45 t44 H fun H =>
 p.load true 25 t5 H fun t46 =>
 p.store 25 t4 t46 H fun H =>
 p.load true 25 t4 H fun r0 =>
 k r0 H)
 (p.fadr 0 t5 fun t47 =>
 p.load false 1 t47 H fun t48 =>
 p.bin .eql t48 (si 3) fun t49 =>
 p.cond t49
 (p.bin .and a0 (si 8) fun t51 =>
 p.bin .gtr t51 i0 fun t52 =>
 p.fadr 1 t5 fun t53 =>
 p.store 1 t53 t52 H fun H =>
 p.bin .shr a0 (.sc (.int .u64 1)) fun t55 =>
 p.bin .and t55 (si 3) fun t56 =>
 p.fadr 2 t5 fun t57 =>
 p.store 1 t57 t56 H fun H =>
 p.bin .and a0 (si 1) fun t59 =>
 p.bin .gtr t59 i0 fun t60 =>
 p.fadr 3 t5 fun t61 =>
 p.store 1 t61 t60 H fun H =>
 p.call 108 (.fn 87 [] []) [a1, i0] H fun t64 H =>
 p.extr t64 0 fun t65 =>
 p.extr t64 1 fun t66 =>
 p.extr t64 2 fun t67 =>
 p.un .not t67 fun t69 =>
 p.cond t69
 (p.fill Ez [] fun ct70 =>
 p.store 25 t4 (.agg ct70) H fun H =>
 p.load true 25 t4 H fun r0 =>
 k r0 H)
 (p.fadr 5 t5 fun t72 =>
 p.store 1 t72 t65 H fun H =>
 p.fadr 2 t5 fun t74 =>
 p.load false 1 t74 H fun t75 =>
 p.bin .gtr t75 i0 fun t76 =>
 E4 (fun (t : Nat → AV) (H : Ae) => p.slice 1 (t 1) (some (t 6)) none fun t93 =>
 p.app 1 1 .nl t93 H fun t94 H =>
 p.fadr 6 (t 5) fun t95 =>
 p.store 1 t95 t94 H fun H =>
 p.load true 25 (t 5) H fun t96 =>
 p.store 25 (t 4) t96 H fun H =>
 p.load true 25 (t 4) H fun r0 =>
 k r0 H) fun j1 =>
 p.cond t76
 (p.call 110 (.fn 88 [] []) [a1, t66] H fun t80 H =>
 p.extr t80 0 fun t81 =>
 p.extr t80 1 fun t82 =>
 p.extr t80 2 fun t83 =>
 p.un .not t83 fun t85 =>
 p.cond t85
 (p.fill Ez [] fun ct86 =>
 p.store 25 t4 (.agg ct86) H fun H =>
 p.load true 25 t4 H fun r0 =>
 k r0 H)
 (p.fadr 4 t5 fun t88 =>
 p.store 1 t88 t81 H fun H =>
 j1 (ud [(0, a0), (1, a1), (4, t4), (5, t5), (6, t82), (7, t65), (8, t66), (9, t67), (10, t81), (11, t82), (12, t83), (20, a0), (21, t21), (22, (.agg ct22)), (23, t23), (24, t24), (25, t25), (28, t28), (29, t29), (30, t30), (31, t30), (32, t32), (33, t33), (34, t34), (35, t35), (47, t47), (48, t48), (49, t49), (50, a0), (51, t51), (52, t52), (53, t53), (54, a0), (55, t55), (56, t56), (57, t57), (58, a0), (59, t59), (60, t60), (61, t61), (62, t64), (63, a1), (64, t64), (65, t65), (66, t66), (67, t67), (68, t67), (69, t69), (71, t65), (72, t72), (73, t66), (74, t74), (75, t75), (76, t76), (77, t80), (78, a1), (79, t66), (80, t80), (81, t81), (82, t82), (83, t83), (84, t83), (85, t85), (87, t81), (88, t88), (89, t82)] ut) H))
 (j1 (ud [(0, a0), (1, a1), (4, t4), (5, t5), (6, t66), (7, t65), (8, t66), (9, t67), (20, a0), (21, t21), (22, (.agg ct22)), (23, t23), (24, t24), (25, t25), (28, t28), (29, t29), (30, t30), (31, t30), (32, t32), (33, t33), (34, t34), (35, t35), (47, t47), (48, t48), (49, t49), (50, a0), (51, t51), (52, t52), (53, t53), (54, a0), (55, t55), (56, t56), (57, t57), (58, a0), (59, t59), (60, t60), (61, t61), (62, t64), (63, a1), (64, t64), (65, t65), (66, t66), (67, t67), (68, t67), (69, t69), (71, t65), (72, t72), (73, t66), (74, t74), (75, t75), (76, t76)] ut) H)))
 (p.fadr 0 t5 fun t97 =>
 p.load false 1 t97 H fun t98 =>
 p.bin .lss t98 (si 12) fun t99 =>
 E4 (fun (t : Nat → AV) (H : Ae) => p.fadr 0 (t 5) fun t112 =>
 p.load false 1 t112 H fun t113 =>
 p.bin .eql t113 (si 9) fun t114 =>
 E4 (fun (t : Nat → AV) (H : Ae) => Zo p n  k n (tf 186 0 t) H) fun j3 =>
 p.cond t114
 (AcV p n  k n (tf 186 0 (ud [(16, (t 6)), (112, t112), (113, t113), (114, t114), (115, (t 6))] t)) H)
 (j3 (ud [(112, t112), (113, t113), (114, t114)] t) H)) fun j2 =>
 p.cond t99
 (p.call 110 (.fn 88 [] []) [a1, i0] H fun t102 H =>
 p.extr t102 0 fun t103 =>
 p.extr t102 1 fun t104 =>
 p.extr t102 2 fun t105 =>
 p.un .not t105 fun t107 =>
 p.cond t107
 (p.fill Ez [] fun ct108 =>
 p.store 25 t4 (.agg ct108) H fun H =>
 p.load true 25 t4 H fun r0 =>
 k r0 H)
 (p.fadr 4 t5 fun t110 =>
 p.store 1 t110 t103 H fun H =>
 j2 (ud [(0, a0), (1, a1), (4, t4), (5, t5), (6, t104), (13, t103), (14, t104), (15, t105), (20, a0), (21, t21), (22, (.agg ct22)), (23, t23), (24, t24), (25, t25), (28, t28), (29, t29), (30, t30), (31, t30), (32, t32), (33, t33), (34, t34), (35, t35), (47, t47), (48, t48), (49, t49), (97, t97), (98, t98), (99, t99), (100, t102), (101, a1), (102, t102), (103, t103), (104, t104), (105, t105), (106, t105), (107, t107), (109, t103), (110, t110), (111, t104)] ut) H))
 (j2 (ud [(0, a0), (1, a1), (4, t4), (5, t5), (6, i0), (20, a0), (21, t21), (22, (.agg ct22)), (23, t23), (24, t24), (25, t25), (28, t28), (29, t29), (30, t30), (31, t30), (32, t32), (33, t33), (34, t34), (35, t35), (47, t47), (48, t48), (49, t49), (97, t97), (98, t98), (99, t99)] ut) H)))) := by kernel_rfl
theorem AcW : Nf fi63 @f63 := fun p n a0 a1 H k => by
 rw [Afx]
 simp only [Uu, AbL]
 kernel_rfl
noncomputable def f90 (p : Pr β) (n : Nat) (a0 : AV) (H : Ae) (k : KO β) : Option β :=
 p.box a0 H fun t1 H =>
 p.new Ez H fun t2 H =>
 p.fadr 0 t1 fun t4 =>
 p.load false 1 t4 H fun t5 =>
 p.fill Ez [(0, 1, t5)] fun ct6 =>
 p.new Ez H fun t3 H =>
 p.store 25 t3 (.agg ct6) H fun H =>
 p.fadr 0 t1 fun t7 =>
 p.load false 1 t7 H fun t8 =>
 p.bin .eql t8 (si 1) fun t10 =>
 p.cond t10
 (p.fadr 8 t1 fun t11 =>
 p.load false 1 t11 H fun t12 =>
 p.fadr 8 t3 fun t13 =>
 p.store 1 t13 t12 H fun H =>
 p.fadr 7 t1 fun t14 =>
 p.load false 1 t14 H fun t15 =>
 p.fadr 7 t3 fun t16 =>
 p.store 1 t16 t15 H fun H =>
 p.fadr 9 t1 fun t17 =>
 p.load false 1 t17 H fun t18 =>
 p.fadr 9 t3 fun t19 =>
 p.store 1 t19 t18 H fun H =>
 p.fadr 10 t1 fun t20 =>
 p.load false 1 t20 H fun t21 =>
 p.fadr 10 t3 fun t22 =>
 p.store 1 t22 t21 H fun H =>
 p.fadr 11 t1 fun t23 =>
 p.load false 1 t23 H fun t24 =>
 E4 (fun (t1 t2 t3 : AV) (H : Ae) => p.fadr 16 t1 fun t38 =>
 p.load false 1 t38 H fun t39 =>
 p.cond t39
 (p.fadr 16 t3 fun t40 =>
 p.store 1 t40 bT H fun H =>
 p.fadr 17 t1 fun t41 =>
 p.load false 1 t41 H fun t42 =>
 p.fadr 17 t3 fun t43 =>
 p.store 1 t43 t42 H fun H =>
 p.fadr 18 t1 fun t44 =>
 p.load false 1 t44 H fun t45 =>
 p.cond t45
 (p.fadr 18 t3 fun t46 =>
 p.store 1 t46 bT H fun H =>
 p.fadr 19 t1 fun t47 =>
 p.load false 1 t47 H fun t48 =>
 p.fadr 19 t3 fun t49 =>
 p.store 1 t49 t48 H fun H =>
 p.load true 25 t3 H fun t119 =>
 p.store 25 t2 t119 H fun H =>
 p.load true 25 t2 H fun r0 =>
 k r0 H)
 (p.load true 25 t3 H fun t119 =>
 p.store 25 t2 t119 H fun H =>
 p.load true 25 t2 H fun r0 =>
 k r0 H))
 (p.load true 25 t3 H fun t119 =>
 p.store 25 t2 t119 H fun H =>
 p.load true 25 t2 H fun r0 =>
 k r0 H)) fun j1 =>
 p.cond t24
 (p.fadr 11 t3 fun t25 =>
 p.store 1 t25 bT H fun H =>
 p.fadr 12 t1 fun t26 =>
 p.load false 1 t26 H fun t27 =>
 p.fadr 12 t3 fun t28 =>
 p.store 1 t28 t27 H fun H =>
 p.fadr 13 t1 fun t29 =>
 p.load false 1 t29 H fun t30 =>
 p.fadr 13 t3 fun t31 =>
 p.store 1 t31 t30 H fun H =>
 p.fadr 14 t1 fun t32 =>
 p.load false 1 t32 H fun t33 =>
 p.fadr 14 t3 fun t34 =>
 p.store 1 t34 t33 H fun H =>
 p.fadr 15 t1 fun t35 =>
 p.load false 1 t35 H fun t36 =>
 p.fadr 15 t3 fun t37 =>
 p.store 1 t37 t36 H fun H =>
 j1 t1 t2 t3 H)
 (j1 t1 t2 t3 H))
 (p.bin .eql t8 (si 2) fun t51 =>
 p.cond t51
 (p.fadr 20 t1 fun t52 =>
 p.load false 1 t52 H fun t53 =>
 p.fadr 20 t3 fun t54 =>
 p.store 1 t54 t53 H fun H =>
 p.fadr 21 t1 fun t55 =>
 p.load false 1 t55 H fun t56 =>
 p.gT t56 H (p.fadr 20 t1) fun t58 H =>
 p.gT t56 H (p.load false 1 t58 H) fun t59 H =>
 p.gT t56 H (p.bin .eql t59 i0) fun t60 H =>
 p.pick t56 t60 bF fun t61 =>
 p.fadr 21 t3 fun t62 =>
 p.store 1 t62 t61 H fun H =>
 p.load true 25 t3 H fun t119 =>
 p.store 25 t2 t119 H fun H =>
 p.load true 25 t2 H fun r0 =>
 k r0 H)
 (p.bin .eql t8 (si 3) fun t64 =>
 p.cond t64
 (p.fadr 2 t1 fun t65 =>
 p.load false 1 t65 H fun t66 =>
 p.fadr 2 t3 fun t67 =>
 p.store 1 t67 t66 H fun H =>
 p.fadr 3 t1 fun t68 =>
 p.load false 1 t68 H fun t69 =>
 p.fadr 3 t3 fun t70 =>
 p.store 1 t70 t69 H fun H =>
 p.fadr 5 t1 fun t71 =>
 p.load false 1 t71 H fun t72 =>
 p.fadr 5 t3 fun t73 =>
 p.store 1 t73 t72 H fun H =>
 p.fadr 6 t1 fun t74 =>
 p.load false 1 t74 H fun t75 =>
 p.fadr 6 t3 fun t76 =>
 p.store 1 t76 t75 H fun H =>
 p.fadr 2 t1 fun t77 =>
 p.load false 1 t77 H fun t78 =>
 p.bin .gtr t78 i0 fun t79 =>
 p.cond t79
 (p.fadr 1 t1 fun t80 =>
 p.load false 1 t80 H fun t81 =>
 p.fadr 1 t3 fun t82 =>
 p.store 1 t82 t81 H fun H =>
 p.fadr 4 t1 fun t83 =>
 p.load false 1 t83 H fun t84 =>
 p.fadr 4 t3 fun t85 =>
 p.store 1 t85 t84 H fun H =>
 p.load true 25 t3 H fun t119 =>
 p.store 25 t2 t119 H fun H =>
 p.load true 25 t2 H fun r0 =>
 k r0 H)
 (p.load true 25 t3 H fun t119 =>
 p.store 25 t2 t119 H fun H =>
 p.load true 25 t2 H fun r0 =>
 k r0 H))
 (p.bin .eql t8 (si 4) fun t87 =>
 E4 (fun (t1 t2 t3 t8 t86 : AV) (H : Ae) => p.cond t86
 (p.fadr 4 t1 fun t92 =>
 p.load false 1 t92 H fun t93 =>
 p.fadr 4 t3 fun t94 =>
 p.store 1 t94 t93 H fun H =>
 p.load true 25 t3 H fun t119 =>
 p.store 25 t2 t119 H fun H =>
 p.load true 25 t2 H fun r0 =>
 k r0 H)
 (p.bin .eql t8 (si 8) fun t96 =>
 p.cond t96
 (p.fadr 4 t1 fun t97 =>
 p.load false 1 t97 H fun t98 =>
 p.fadr 4 t3 fun t99 =>
 p.store 1 t99 t98 H fun H =>
 p.fadr 22 t1 fun t100 =>
 p.load false 1 t100 H fun t101 =>
 p.fadr 22 t3 fun t102 =>
 p.store 1 t102 t101 H fun H =>
 p.load true 25 t3 H fun t119 =>
 p.store 25 t2 t119 H fun H =>
 p.load true 25 t2 H fun r0 =>
 k r0 H)
 (p.bin .eql t8 (si 9) fun t104 =>
 p.cond t104
 (p.fadr 4 t1 fun t105 =>
 p.load false 1 t105 H fun t106 =>
 p.fadr 4 t3 fun t107 =>
 p.store 1 t107 t106 H fun H =>
 p.fadr 24 t1 fun t108 =>
 p.load false 1 t108 H fun t109 =>
 p.fadr 24 t3 fun t110 =>
 p.store 1 t110 t109 H fun H =>
 p.load true 25 t3 H fun t119 =>
 p.store 25 t2 t119 H fun H =>
 p.load true 25 t2 H fun r0 =>
 k r0 H)
 (p.bin .eql t8 (si 10) fun t112 =>
 p.cond t112
 (p.fadr 4 t1 fun t113 =>
 p.load false 1 t113 H fun t114 =>
 p.fadr 4 t3 fun t115 =>
 p.store 1 t115 t114 H fun H =>
 p.fadr 23 t1 fun t116 =>
 p.load false 1 t116 H fun t117 =>
 p.fadr 23 t3 fun t118 =>
 p.store 1 t118 t117 H fun H =>
 p.load true 25 t3 H fun t119 =>
 p.store 25 t2 t119 H fun H =>
 p.load true 25 t2 H fun r0 =>
 k r0 H)
 (p.load true 25 t3 H fun t119 =>
 p.store 25 t2 t119 H fun H =>
 p.load true 25 t2 H fun r0 =>
 k r0 H))))) fun j2 =>
 p.cond t87
 (j2 t1 t2 t3 t8 t87 H)
 (p.bin .eql t8 (si 5) fun t88 =>
 p.cond t88
 (j2 t1 t2 t3 t8 t88 H)
 (p.bin .eql t8 (si 6) fun t89 =>
 p.cond t89
 (j2 t1 t2 t3 t8 t89 H)
 (p.bin .eql t8 (si 7) fun t90 =>
 p.cond t90
 (j2 t1 t2 t3 t8 t90 H)
 (p.bin .eql t8 (si 11) fun t91 =>
 j2 t1 t2 t3 t8 t91 H)))))))
theorem Adw : M4 AiL @f90 := fun p n a0 H k => by kernel_rfl
noncomputable def f65 (p : Pr β) (n : Nat) (a0 a1 : AV) (H : Ae) (k : KO β) : Option β :=
 p.cvBS a0 H fun t6 =>
 p.cvBS a1 H fun t8 =>
 p.bin .eql t6 t8 fun t9 =>
 k t9 H
theorem AcY : Nf AiA @f65 := fun p n a0 a1 H k => by kernel_rfl
noncomputable def Np (p : Pr β) (n : Nat)  (k : KO β) : Nat → AV → AV → KO β
 | 0, _, _, _, _ => none
 | m + 1, t2, t3, t7, H => p.fadr 24 t2 fun t70 =>
   p.load false 1 t70 H fun t71 =>
   p.len t71 fun t72 =>
   p.bin .lss t7 t72 fun t73 =>
   p.cond t73
   (p.fadr 24 t2 fun t76 =>
   p.load false 1 t76 H fun t77 =>
   p.iadr 1 t77 t7 fun t79 =>
   p.load false 1 t79 H fun t80 =>
   p.fadr 24 t3 fun t81 =>
   p.load false 1 t81 H fun t82 =>
   p.iadr 1 t82 t7 fun t84 =>
   p.load false 1 t84 H fun t85 =>
   p.bin .neq t80 t85 fun t86 =>
   p.cond t86
   (k bF H)
   (p.bin .add t7 (si 1) fun t75 =>
   Np p n  k m t2 t3 t75 H))
   (p.fadr 0 t2 fun t87 =>
   p.load false 1 t87 H fun t88 =>
   p.fadr 0 t3 fun t89 =>
   p.load false 1 t89 H fun t90 =>
   p.bin .eql t88 t90 fun t91 =>
   p.gT t91 H (p.fadr 1 t2) fun t93 H =>
   p.gT t91 H (p.load false 1 t93 H) fun t94 H =>
   p.gT t91 H (p.fadr 1 t3) fun t95 H =>
   p.gT t91 H (p.load false 1 t95 H) fun t96 H =>
   p.gT t91 H (p.binB .eql t94 t96) fun t97 H =>
   p.pick t91 t97 bF fun t98 =>
   p.gT t98 H (p.fadr 2 t2) fun t100 H =>
   p.gT t98 H (p.load false 1 t100 H) fun t101 H =>
   p.gT t98 H (p.fadr 2 t3) fun t102 H =>
   p.gT t98 H (p.load false 1 t102 H) fun t103 H =>
   p.gT t98 H (p.bin .eql t101 t103) fun t104 H =>
   p.pick t98 t104 bF fun t105 =>
   p.gT t105 H (p.fadr 3 t2) fun t107 H =>
   p.gT t105 H (p.load false 1 t107 H) fun t108 H =>
   p.gT t105 H (p.fadr 3 t3) fun t109 H =>
   p.gT t105 H (p.load false 1 t109 H) fun t110 H =>
   p.gT t105 H (p.binB .eql t108 t110) fun t111 H =>
   p.pick t105 t111 bF fun t112 =>
   p.gT t112 H (p.fadr 4 t2) fun t114 H =>
   p.gT t112 H (p.load false 1 t114 H) fun t115 H =>
   p.gT t112 H (p.fadr 4 t3) fun t116 H =>
   p.gT t112 H (p.load false 1 t116 H) fun t117 H =>
   p.gT t112 H (p.bin .eql t115 t117) fun t118 H =>
   p.pick t112 t118 bF fun t119 =>
   p.gT t119 H (p.fadr 5 t2) fun t121 H =>
   p.gT t119 H (p.load false 1 t121 H) fun t122 H =>
   p.gT t119 H (p.fadr 5 t3) fun t123 H =>
   p.gT t119 H (p.load false 1 t123 H) fun t124 H =>
   p.gT t119 H (p.bin .eql t122 t124) fun t125 H =>
   p.pick t119 t125 bF fun t126 =>
   p.gT t126 H (p.fadr 6 t2) fun t128 H =>
   p.gT t126 H (p.load false 1 t128 H) fun t129 H =>
   p.gT t126 H (p.fadr 6 t3) fun t130 H =>
   p.gT t126 H (p.load false 1 t130 H) fun t131 H =>
   p.hT t126 H (p.call 4 (.fn 65 [] []) [t129, t131] H) fun t132 H =>
   p.pick t126 t132 bF fun t133 =>
   p.gT t133 H (p.fadr 7 t2) fun t135 H =>
   p.gT t133 H (p.load false 1 t135 H) fun t136 H =>
   p.gT t133 H (p.fadr 7 t3) fun t137 H =>
   p.gT t133 H (p.load false 1 t137 H) fun t138 H =>
   p.gT t133 H (p.bin .eql t136 t138) fun t139 H =>
   p.pick t133 t139 bF fun t140 =>
   p.gT t140 H (p.fadr 8 t2) fun t142 H =>
   p.gT t140 H (p.load false 1 t142 H) fun t143 H =>
   p.gT t140 H (p.fadr 8 t3) fun t144 H =>
   p.gT t140 H (p.load false 1 t144 H) fun t145 H =>
   p.gT t140 H (p.bin .eql t143 t145) fun t146 H =>
   p.pick t140 t146 bF fun t147 =>
   p.gT t147 H (p.fadr 9 t2) fun t149 H =>
   p.gT t147 H (p.load false 1 t149 H) fun t150 H =>
   p.gT t147 H (p.fadr 9 t3) fun t151 H =>
   p.gT t147 H (p.load false 1 t151 H) fun t152 H =>
   p.gT t147 H (p.binB .eql t150 t152) fun t153 H =>
   p.pick t147 t153 bF fun t154 =>
   p.gT t154 H (p.fadr 10 t2) fun t156 H =>
   p.gT t154 H (p.load false 1 t156 H) fun t157 H =>
   p.gT t154 H (p.fadr 10 t3) fun t158 H =>
   p.gT t154 H (p.load false 1 t158 H) fun t159 H =>
   p.gT t154 H (p.bin .eql t157 t159) fun t160 H =>
   p.pick t154 t160 bF fun t161 =>
   p.gT t161 H (p.fadr 11 t2) fun t163 H =>
   p.gT t161 H (p.load false 1 t163 H) fun t164 H =>
   p.gT t161 H (p.fadr 11 t3) fun t165 H =>
   p.gT t161 H (p.load false 1 t165 H) fun t166 H =>
   p.gT t161 H (p.binB .eql t164 t166) fun t167 H =>
   p.pick t161 t167 bF fun t168 =>
   p.gT t168 H (p.fadr 12 t2) fun t170 H =>
   p.gT t168 H (p.load false 1 t170 H) fun t171 H =>
   p.gT t168 H (p.fadr 12 t3) fun t172 H =>
   p.gT t168 H (p.load false 1 t172 H) fun t173 H =>
   p.gT t168 H (p.bin .eql t171 t173) fun t174 H =>
   p.pick t168 t174 bF fun t175 =>
   p.gT t175 H (p.fadr 13 t2) fun t177 H =>
   p.gT t175 H (p.load false 1 t177 H) fun t178 H =>
   p.gT t175 H (p.fadr 13 t3) fun t179 H =>
   p.gT t175 H (p.load false 1 t179 H) fun t180 H =>
   p.hT t175 H (p.call 4 (.fn 65 [] []) [t178, t180] H) fun t181 H =>
   p.pick t175 t181 bF fun t182 =>
   p.gT t182 H (p.fadr 14 t2) fun t184 H =>
   p.gT t182 H (p.load false 1 t184 H) fun t185 H =>
   p.gT t182 H (p.fadr 14 t3) fun t186 H =>
   p.gT t182 H (p.load false 1 t186 H) fun t187 H =>
   p.gT t182 H (p.bin .eql t185 t187) fun t188 H =>
   p.pick t182 t188 bF fun t189 =>
   p.gT t189 H (p.fadr 15 t2) fun t191 H =>
   p.gT t189 H (p.load false 1 t191 H) fun t192 H =>
   p.gT t189 H (p.fadr 15 t3) fun t193 H =>
   p.gT t189 H (p.load false 1 t193 H) fun t194 H =>
   p.gT t189 H (p.binB .eql t192 t194) fun t195 H =>
   p.pick t189 t195 bF fun t196 =>
   p.gT t196 H (p.fadr 16 t2) fun t198 H =>
   p.gT t196 H (p.load false 1 t198 H) fun t199 H =>
   p.gT t196 H (p.fadr 16 t3) fun t200 H =>
   p.gT t196 H (p.load false 1 t200 H) fun t201 H =>
   p.gT t196 H (p.binB .eql t199 t201) fun t202 H =>
   p.pick t196 t202 bF fun t203 =>
   p.gT t203 H (p.fadr 17 t2) fun t205 H =>
   p.gT t203 H (p.load false 1 t205 H) fun t206 H =>
   p.gT t203 H (p.fadr 17 t3) fun t207 H =>
   p.gT t203 H (p.load false 1 t207 H) fun t208 H =>
   p.gT t203 H (p.bin .eql t206 t208) fun t209 H =>
   p.pick t203 t209 bF fun t210 =>
   p.gT t210 H (p.fadr 18 t2) fun t212 H =>
   p.gT t210 H (p.load false 1 t212 H) fun t213 H =>
   p.gT t210 H (p.fadr 18 t3) fun t214 H =>
   p.gT t210 H (p.load false 1 t214 H) fun t215 H =>
   p.gT t210 H (p.binB .eql t213 t215) fun t216 H =>
   p.pick t210 t216 bF fun t217 =>
   p.gT t217 H (p.fadr 19 t2) fun t219 H =>
   p.gT t217 H (p.load false 1 t219 H) fun t220 H =>
   p.gT t217 H (p.fadr 19 t3) fun t221 H =>
   p.gT t217 H (p.load false 1 t221 H) fun t222 H =>
   p.hT t217 H (p.call 4 (.fn 65 [] []) [t220, t222] H) fun t223 H =>
   p.pick t217 t223 bF fun t224 =>
   p.gT t224 H (p.fadr 20 t2) fun t226 H =>
   p.gT t224 H (p.load false 1 t226 H) fun t227 H =>
   p.gT t224 H (p.fadr 20 t3) fun t228 H =>
   p.gT t224 H (p.load false 1 t228 H) fun t229 H =>
   p.gT t224 H (p.bin .eql t227 t229) fun t230 H =>
   p.pick t224 t230 bF fun t231 =>
   p.gT t231 H (p.fadr 21 t2) fun t233 H =>
   p.gT t231 H (p.load false 1 t233 H) fun t234 H =>
   p.gT t231 H (p.fadr 21 t3) fun t235 H =>
   p.gT t231 H (p.load false 1 t235 H) fun t236 H =>
   p.gT t231 H (p.binB .eql t234 t236) fun t237 H =>
   p.pick t231 t237 bF fun t238 =>
   k t238 H)
noncomputable def Lk (p : Pr β) (n : Nat)  (k : KO β) : Nat → AV → AV → KO β
 | 0, _, _, _, _ => none
 | m + 1, t2, t3, t6, H => p.fadr 23 t2 fun t52 =>
   p.load false 1 t52 H fun t53 =>
   p.len t53 fun t54 =>
   p.bin .lss t6 t54 fun t55 =>
   p.cond t55
   (p.fadr 23 t2 fun t58 =>
   p.load false 1 t58 H fun t59 =>
   p.iadr 1 t59 t6 fun t61 =>
   p.load false 1 t61 H fun t62 =>
   p.fadr 23 t3 fun t63 =>
   p.load false 1 t63 H fun t64 =>
   p.iadr 1 t64 t6 fun t66 =>
   p.load false 1 t66 H fun t67 =>
   p.bin .neq t62 t67 fun t68 =>
   p.cond t68
   (k bF H)
   (p.bin .add t6 (si 1) fun t57 =>
   Lk p n  k m t2 t3 t57 H))
   (Np p n  k n t2 t3 i0 H)
noncomputable def Lj (p : Pr β) (n : Nat)  (k : KO β) : Nat → AV → AV → KO β
 | 0, _, _, _, _ => none
 | m + 1, t2, t3, t5, H => p.fadr 22 t2 fun t34 =>
   p.load false 1 t34 H fun t35 =>
   p.len t35 fun t36 =>
   p.bin .lss t5 t36 fun t37 =>
   p.cond t37
   (p.fadr 22 t2 fun t40 =>
   p.load false 1 t40 H fun t41 =>
   p.iadr 2 t41 t5 fun t43 =>
   p.load true 2 t43 H fun t44 =>
   p.fadr 22 t3 fun t45 =>
   p.load false 1 t45 H fun t46 =>
   p.iadr 2 t46 t5 fun t48 =>
   p.load true 2 t48 H fun t49 =>
   p.binA .neq [1, 0] t44 t49 fun t50 =>
   p.cond t50
   (k bF H)
   (p.bin .add t5 (si 1) fun t39 =>
   Lj p n  k m t2 t3 t39 H))
   (Lk p n  k n t2 t3 i0 H)
noncomputable def f89 (p : Pr β) (n : Nat) (a0 a1 : AV) (H : Ae) (k : KO β) : Option β :=
 p.box a0 H fun t2 H =>
 p.box a1 H fun t3 H =>
 p.fadr 22 t2 fun t8 =>
 p.load false 1 t8 H fun t9 =>
 p.len t9 fun t10 =>
 p.fadr 22 t3 fun t11 =>
 p.load false 1 t11 H fun t12 =>
 p.len t12 fun t13 =>
 p.bin .neq t10 t13 fun t14 =>
 p.gF t14 H (p.fadr 23 t2) fun t16 H =>
 p.gF t14 H (p.load false 1 t16 H) fun t17 H =>
 p.gF t14 H (p.len t17) fun t18 H =>
 p.gF t14 H (p.fadr 23 t3) fun t19 H =>
 p.gF t14 H (p.load false 1 t19 H) fun t20 H =>
 p.gF t14 H (p.len t20) fun t21 H =>
 p.gF t14 H (p.bin .neq t18 t21) fun t22 H =>
 p.pick t14 bT t22 fun t23 =>
 p.gF t23 H (p.fadr 24 t2) fun t25 H =>
 p.gF t23 H (p.load false 1 t25 H) fun t26 H =>
 p.gF t23 H (p.len t26) fun t27 H =>
 p.gF t23 H (p.fadr 24 t3) fun t28 H =>
 p.gF t23 H (p.load false 1 t28 H) fun t29 H =>
 p.gF t23 H (p.len t29) fun t30 H =>
 p.gF t23 H (p.bin .neq t27 t30) fun t31 H =>
 p.pick t23 bT t31 fun t32 =>
 p.cond t32
 (k bF H)
 (Lj p n  k n t2 t3 i0 H)
noncomputable def Adu (p : Pr β) (n : Nat)  (k : KO β) (m : Nat) (tm : Tm) (H : Ae) : Option β :=
 E2 239 (fun tm H k => At A4 p o89 239 n (cd c89 [1, 1, 1, 1, 0, 1, 0, 0]) tm H k) (Fq 4 (E8 (fun tm H => At A4 p o89 239 n (cd c89 [1, 1, 1, 1, 1]) tm H (Dp A4 p fi89.results k)) (Dp A4 p fi89.results k))) m tm H
noncomputable def Adt (p : Pr β) (n : Nat)  (k : KO β) (m : Nat) (tm : Tm) (H : Ae) : Option β :=
 E2 239 (fun tm H k => At A4 p o89 239 n (cd c89 [1, 1, 1, 0, 1, 0, 0]) tm H k) (Fq 2 (E8 (fun tm H => At A4 p o89 239 n (cd c89 [1, 1, 1, 1]) tm H (Dp A4 p fi89.results k)) (Dp A4 p fi89.results k))) m tm H
noncomputable def Ads (p : Pr β) (n : Nat)  (k : KO β) (m : Nat) (tm : Tm) (H : Ae) : Option β :=
 E2 239 (fun tm H k => At A4 p o89 239 n (cd c89 [1, 1, 0, 1, 0, 0]) tm H k) (Fq 0 (E8 (fun tm H => At A4 p o89 239 n (cd c89 [1, 1, 1]) tm H (Dp A4 p fi89.results k)) (Dp A4 p fi89.results k))) m tm H
theorem Uy (p : Pr β) (n : Nat)  (k : KO β) (m2 : Nat) : ∀ (t : Nat → AV) (H : Ae), Adu p n  k m2 (tf 239 0 t) H = Np p n  k m2 (t 2) (t 3) (t 7) H := by
 induction m2 with
 | zero => intros; rfl
 | succ m2 ih =>
  intro t H
  refine Eq.trans (C0 (nt := 239) (m := m2) (g := fun t H => Np p n  k m2 (t 2) (t 3) (t 7) H) ih rfl) ?_
  kernel_rfl
theorem Xp (p : Pr β) (n : Nat)  (k : KO β) (m1 : Nat) (t : Nat → AV) (H : Ae) : At A4 p o89 239 n (cd c89 [1, 1, 1, 0, 1, 0, 0]) (tf 239 0 t) H (E8 (fun tm H => Lk p n  k m1 (gt tm 2) (gt tm 3) (gt tm 6) H) (Fq 2 (E8 (fun tm H => At A4 p o89 239 n (cd c89 [1, 1, 1, 1]) tm H (Dp A4 p fi89.results k)) (Dp A4 p fi89.results k)))) =
 p.fadr 23 (t 2) fun t52 =>
 p.load false 1 t52 H fun t53 =>
 p.len t53 fun t54 =>
 p.bin .lss (t 6) t54 fun t55 =>
 p.cond t55
 (p.fadr 23 (t 2) fun t58 =>
 p.load false 1 t58 H fun t59 =>
 p.iadr 1 t59 (t 6) fun t61 =>
 p.load false 1 t61 H fun t62 =>
 p.fadr 23 (t 3) fun t63 =>
 p.load false 1 t63 H fun t64 =>
 p.iadr 1 t64 (t 6) fun t66 =>
 p.load false 1 t66 H fun t67 =>
 p.bin .neq t62 t67 fun t68 =>
 p.cond t68
 (k bF H)
 (p.bin .add (t 6) (si 1) fun t57 =>
 Lk p n  k m1 (t 2) (t 3) t57 H))
 (Adu p n  k n (tf 239 0 (ud [(7, i0), (51, (t 6)), (52, t52), (53, t53), (54, t54), (55, t55)] t)) H) := by kernel_rfl
theorem Ux (p : Pr β) (n : Nat)  (k : KO β) (m1 : Nat) : ∀ (t : Nat → AV) (H : Ae), Adt p n  k m1 (tf 239 0 t) H = Lk p n  k m1 (t 2) (t 3) (t 6) H := by
 induction m1 with
 | zero => intros; rfl
 | succ m1 ih =>
  intro t H
  refine Eq.trans (C0 (nt := 239) (m := m1) (g := fun t H => Lk p n  k m1 (t 2) (t 3) (t 6) H) ih rfl) ?_
  refine Eq.trans (Xp p n  k m1 t H) ?_
  simp only [Uy]
  kernel_rfl
theorem Xo (p : Pr β) (n : Nat)  (k : KO β) (m0 : Nat) (t : Nat → AV) (H : Ae) : At A4 p o89 239 n (cd c89 [1, 1, 0, 1, 0, 0]) (tf 239 0 t) H (E8 (fun tm H => Lj p n  k m0 (gt tm 2) (gt tm 3) (gt tm 5) H) (Fq 0 (E8 (fun tm H => At A4 p o89 239 n (cd c89 [1, 1, 1]) tm H (Dp A4 p fi89.results k)) (Dp A4 p fi89.results k)))) =
 p.fadr 22 (t 2) fun t34 =>
 p.load false 1 t34 H fun t35 =>
 p.len t35 fun t36 =>
 p.bin .lss (t 5) t36 fun t37 =>
 p.cond t37
 (p.fadr 22 (t 2) fun t40 =>
 p.load false 1 t40 H fun t41 =>
 p.iadr 2 t41 (t 5) fun t43 =>
 p.load true 2 t43 H fun t44 =>
 p.fadr 22 (t 3) fun t45 =>
 p.load false 1 t45 H fun t46 =>
 p.iadr 2 t46 (t 5) fun t48 =>
 p.load true 2 t48 H fun t49 =>
 p.binA .neq [1, 0] t44 t49 fun t50 =>
 p.cond t50
 (k bF H)
 (p.bin .add (t 5) (si 1) fun t39 =>
 Lj p n  k m0 (t 2) (t 3) t39 H))
 (Adt p n  k n (tf 239 0 (ud [(6, i0), (33, (t 5)), (34, t34), (35, t35), (36, t36), (37, t37)] t)) H) := by kernel_rfl
theorem AbS (p : Pr β) (n : Nat)  (k : KO β) (m0 : Nat) : ∀ (t : Nat → AV) (H : Ae), Ads p n  k m0 (tf 239 0 t) H = Lj p n  k m0 (t 2) (t 3) (t 5) H := by
 induction m0 with
 | zero => intros; rfl
 | succ m0 ih =>
  intro t H
  refine Eq.trans (C0 (nt := 239) (m := m0) (g := fun t H => Lj p n  k m0 (t 2) (t 3) (t 5) H) ih rfl) ?_
  refine Eq.trans (Xo p n  k m0 t H) ?_
  simp only [Ux]
  kernel_rfl
theorem Af2 (p : Pr β) (n : Nat) (a0 a1 : AV) (H : Ae) (k : KO β) : D0 A4 p n fi89 [a0, a1] H k =
 p.box a0 H fun t2 H =>
 p.box a1 H fun t3 H =>
 p.fadr 22 t2 fun t8 =>
 p.load false 1 t8 H fun t9 =>
 p.len t9 fun t10 =>
 p.fadr 22 t3 fun t11 =>
 p.load false 1 t11 H fun t12 =>
 p.len t12 fun t13 =>
 p.bin .neq t10 t13 fun t14 =>
 p.gF t14 H (p.fadr 23 t2) fun t16 H =>
 p.gF t14 H (p.load false 1 t16 H) fun t17 H =>
 p.gF t14 H (p.len t17) fun t18 H =>
 p.gF t14 H (p.fadr 23 t3) fun t19 H =>
 p.gF t14 H (p.load false 1 t19 H) fun t20 H =>
 p.gF t14 H (p.len t20) fun t21 H =>
 p.gF t14 H (p.bin .neq t18 t21) fun t22 H =>
 p.pick t14 bT t22 fun t23 =>
 p.gF t23 H (p.fadr 24 t2) fun t25 H =>
 p.gF t23 H (p.load false 1 t25 H) fun t26 H =>
 p.gF t23 H (p.len t26) fun t27 H =>
 p.gF t23 H (p.fadr 24 t3) fun t28 H =>
 p.gF t23 H (p.load false 1 t28 H) fun t29 H =>
 p.gF t23 H (p.len t29) fun t30 H =>
 p.gF t23 H (p.bin .neq t27 t30) fun t31 H =>
 p.pick t23 bT t31 fun t32 =>
 p.cond t32
 (k bF H)
 (Ads p n  k n (tf 239 0 (ud [(0, a0), (1, a1), (2, t2), (3, t3), (4, bF), (5, i0), (8, t8), (9, t9), (10, t10), (11, t11), (12, t12), (13, t13), (14, t14), (15, t14), (16, t16), (17, t17), (18, t18), (19, t19), (20, t20), (21, t21), (22, t22), (23, t23), (24, t23), (25, t25), (26, t26), (27, t27), (28, t28), (29, t29), (30, t30), (31, t31), (32, t32)] ut)) H) := by kernel_rfl
theorem Adv : Nf fi89 @f89 := fun p n a0 a1 H k => by
 rw [Af2]
 simp only [Uy, Ux, AbS]
 kernel_rfl
noncomputable def Mo (p : Pr β) (n : Nat)  (k : KO β) : Nat → AV → AV → KO β
 | 0, _, _, _, _ => none
 | m + 1, t0, t1, t5, H => p.lenS t0 fun t8 =>
   p.bin .lss t5 t8 fun t9 =>
   p.cond t9
   (p.idx t0 t5 fun t14 =>
   p.bin .eql t14 t1 fun t16 =>
   p.cond t16
   (k bT H)
   (p.bin .add t5 (si 1) fun t11 =>
   Mo p n  k m t0 t1 t11 H))
   (k bF H)
noncomputable def f127 (p : Pr β) (n : Nat) (a0 a1 : AV) (H : Ae) (k : KO β) : Option β :=
 Mo p n  k n a0 a1 i0 H
noncomputable def Aa2 (p : Pr β) (n : Nat)  (k : KO β) (m : Nat) (tm : Tm) (H : Ae) : Option β :=
 E2 17 (fun tm H k => At A4 p [] 17 n (cd AgZ [1, 0, 1, 0, 0]) tm H k) (Fq 0 (E8 (fun tm H => At A4 p [] 17 n (cd AgZ [1, 1]) tm H (Dp A4 p fi127.results k)) (Dp A4 p fi127.results k))) m tm H
theorem Zh (p : Pr β) (n : Nat)  (k : KO β) (m0 : Nat) : ∀ (t : Nat → AV) (H : Ae), Aa2 p n  k m0 (tf 17 0 t) H = Mo p n  k m0 (t 0) (t 1) (t 5) H := by
 induction m0 with
 | zero => intros; rfl
 | succ m0 ih =>
  intro t H
  refine Eq.trans (C0 (nt := 17) (m := m0) (g := fun t H => Mo p n  k m0 (t 0) (t 1) (t 5) H) ih rfl) ?_
  kernel_rfl
theorem Ac9 (p : Pr β) (n : Nat) (a0 a1 : AV) (H : Ae) (k : KO β) : D0 A4 p n fi127 [a0, a1] H k =
 Aa2 p n  k n (tf 17 0 (ud [(0, a0), (1, a1), (4, bF), (5, i0)] ut)) H := by kernel_rfl
theorem Ab0 : Nf fi127 @f127 := fun p n a0 a1 H k => by
 rw [Ac9]
 simp only [Zh]
 kernel_rfl
noncomputable def Kc (p : Pr β) (n : Nat)  (k : KO β) : Nat → AV → AV → AV → KO β
 | 0, _, _, _, _, _ => none
 | m + 1, t0, t3, t4, t5, H => p.lenS t0 fun t9 =>
   p.bin .leq t5 t9 fun t10 =>
   p.cond t10
   (p.lenS t0 fun t15 =>
   p.bin .eql t5 t15 fun t16 =>
   p.kF t16 H t0 fun t18 H =>
   p.kF t16 H t5 fun t19 H =>
   p.gF t16 H (p.idx t18 t19) fun t20 H =>
   p.gF t16 H (p.bin .eql t20 (su 47)) fun t21 H =>
   p.pick t16 bT t21 fun t22 =>
   p.cond t22
   (p.sliceS t0 (some t4) (some t5) fun t27 =>
   p.fill [sE] [(0, 1, t27)] fun ct28 => p.newSl 1 1 ct28 true H fun t28 H =>
   p.app 1 16 t3 t28 H fun t29 H =>
   p.bin .add t5 (si 1) fun t31 =>
   p.bin .add t5 (si 1) fun t12 =>
   Kc p n  k m t0 t29 t31 t12 H)
   (p.bin .add t5 (si 1) fun t12 =>
   Kc p n  k m t0 t3 t4 t12 H))
   (k t3 H)
noncomputable def f128 (p : Pr β) (n : Nat) (a0 : AV) (H : Ae) (k : KO β) : Option β :=
 Kc p n  k n a0 .nl i0 i0 H
noncomputable def Aa3 (p : Pr β) (n : Nat)  (k : KO β) (m : Nat) (tm : Tm) (H : Ae) : Option β :=
 E2 33 (fun tm H k => At A4 p [] 33 n (cd Aha [1, 1, 1, 0, 1, 0, 0]) tm H k) (Fq 0 (E8 (fun tm H => At A4 p [] 33 n (cd Aha [1, 1, 1, 1]) tm H (Dp A4 p fi128.results k)) (Dp A4 p fi128.results k))) m tm H
theorem Zi (p : Pr β) (n : Nat)  (k : KO β) (m0 : Nat) : ∀ (t : Nat → AV) (H : Ae), Aa3 p n  k m0 (tf 33 0 t) H = Kc p n  k m0 (t 0) (t 3) (t 4) (t 5) H := by
 induction m0 with
 | zero => intros; rfl
 | succ m0 ih =>
  intro t H
  refine Eq.trans (C0 (nt := 33) (m := m0) (g := fun t H => Kc p n  k m0 (t 0) (t 3) (t 4) (t 5) H) ih rfl) ?_
  kernel_rfl
theorem AcA (p : Pr β) (n : Nat) (a0 : AV) (H : Ae) (k : KO β) : D0 A4 p n fi128 [a0] H k =
 Aa3 p n  k n (tf 33 0 (ud [(0, a0), (2, .nl), (3, .nl), (4, i0), (5, i0), (6, .nl)] ut)) H := by kernel_rfl
theorem Ab1 : M4 fi128 @f128 := fun p n a0 H k => by
 rw [AcA]
 simp only [Zi]
 kernel_rfl
noncomputable def f91 (p : Pr β) (n : Nat) (a0 : AV) (H : Ae) (k : KO β) : Option β :=
 p.call 4 (.fn 80 [] []) [a0] H fun t4 H =>
 p.kT t4 H a0 fun t6 H =>
 p.gT t4 H (p.bin .neq t6 sE) fun t7 H =>
 p.pick t4 t7 bF fun t8 =>
 p.kT t8 H a0 fun t10 H =>
 p.hT t8 H (p.call 4 (.fn 127 [] []) [t10, (su 43)] H) fun t11 H =>
 p.gT t8 H (p.un .not t11) fun t12 H =>
 p.pick t8 t12 bF fun t13 =>
 p.kT t13 H a0 fun t15 H =>
 p.hT t13 H (p.call 4 (.fn 127 [] []) [t15, (su 35)] H) fun t16 H =>
 p.gT t13 H (p.un .not t16) fun t17 H =>
 p.pick t13 t17 bF fun t18 =>
 p.kT t18 H a0 fun t20 H =>
 p.hT t18 H (p.call 56 (.fn 128 [] []) [t20] H) fun t21 H =>
 p.gT t18 H (p.len t21) fun t22 H =>
 p.gT t18 H (p.bin .leq t22 (si 6)) fun t23 H =>
 p.pick t18 t23 bF fun t24 =>
 k t24 H
theorem Adx : M4 AiM @f91 := fun p n a0 H k => by kernel_rfl
noncomputable def O8 (p : Pr β) (n : Nat)  (k : KO β) : Nat → AV → AV → KO β
 | 0, _, _, _, _ => none
 | m + 1, t0, t3, t4, H => p.len t3 fun t9 =>
   p.bin .lss t4 t9 fun t10 =>
   p.cond t10
   (p.iadr 1 t3 t4 fun t15 =>
   p.load false 1 t15 H fun t16 =>
   p.call 4 (.fn 127 [] []) [t16, (su 43)] H fun t17 H =>
   p.kT t17 H t3 fun t19 H =>
   p.kT t17 H t4 fun t20 H =>
   p.gT t17 H (p.iadr 1 t19 t20) fun t21 H =>
   p.gT t17 H (p.load false 1 t21 H) fun t22 H =>
   p.gT t17 H (p.bin .neq t22 (.sc (.string ⟨#[43]⟩))) fun t23 H =>
   p.pick t17 t23 bF fun t24 =>
   p.kF t24 H t3 fun t26 H =>
   p.kF t24 H t4 fun t27 H =>
   p.gF t24 H (p.iadr 1 t26 t27) fun t28 H =>
   p.gF t24 H (p.load false 1 t28 H) fun t29 H =>
   p.hF t24 H (p.call 4 (.fn 127 [] []) [t29, (su 35)] H) fun t30 H =>
   p.kF t24 H t30 fun t31 H =>
   p.kT t31 H t3 fun t32 H =>
   p.kT t31 H t4 fun t33 H =>
   p.gT t31 H (p.iadr 1 t32 t33) fun t34 H =>
   p.gT t31 H (p.load false 1 t34 H) fun t35 H =>
   p.gT t31 H (p.bin .neq t35 (.sc (.string ⟨#[35]⟩))) fun t36 H =>
   p.kT t31 H t36 fun t37 H =>
   p.kF t37 H t4 fun t38 H =>
   p.kF t37 H t3 fun t39 H =>
   p.gF t37 H (p.len t39) fun t40 H =>
   p.gF t37 H (p.bin .sub t40 (si 1)) fun t41 H =>
   p.gF t37 H (p.bin .lss t38 t41) fun t42 H =>
   p.gT t31 H (p.pick t37 bT t42) fun t43 H =>
   p.gF t24 H (p.pick t31 t43 bF) fun t44 H =>
   p.pick t24 bT t44 fun t45 =>
   p.cond t45
   (k bF H)
   (p.bin .add t4 (si 1) fun t12 =>
   O8 p n  k m t0 t3 t12 H))
   (p.call 4 (.fn 80 [] []) [t0] H fun t47 H =>
   p.kT t47 H t0 fun t49 H =>
   p.gT t47 H (p.bin .neq t49 sE) fun t50 H =>
   p.pick t47 t50 bF fun t51 =>
   p.kT t51 H t3 fun t53 H =>
   p.gT t51 H (p.len t53) fun t54 H =>
   p.gT t51 H (p.bin .leq t54 (si 6)) fun t55 H =>
   p.pick t51 t55 bF fun t56 =>
   k t56 H)
noncomputable def f92 (p : Pr β) (n : Nat) (a0 : AV) (H : Ae) (k : KO β) : Option β :=
 p.call 56 (.fn 128 [] []) [a0] H fun t6 H =>
 O8 p n  k n a0 t6 i0 H
noncomputable def Ady (p : Pr β) (n : Nat)  (k : KO β) (m : Nat) (tm : Tm) (H : Ae) : Option β :=
 E2 57 (fun tm H k => At A4 p [] 57 n (cd c92 [1, 1, 0, 1, 0, 0]) tm H k) (Fq 0 (E8 (fun tm H => At A4 p [] 57 n (cd c92 [1, 1, 1]) tm H (Dp A4 p fi92.results k)) (Dp A4 p fi92.results k))) m tm H
theorem AbT (p : Pr β) (n : Nat)  (k : KO β) (m0 : Nat) : ∀ (t : Nat → AV) (H : Ae), Ady p n  k m0 (tf 57 0 t) H = O8 p n  k m0 (t 0) (t 3) (t 4) H := by
 induction m0 with
 | zero => intros; rfl
 | succ m0 ih =>
  intro t H
  refine Eq.trans (C0 (nt := 57) (m := m0) (g := fun t H => O8 p n  k m0 (t 0) (t 3) (t 4) H) ih rfl) ?_
  kernel_rfl
theorem Af3 (p : Pr β) (n : Nat) (a0 : AV) (H : Ae) (k : KO β) : D0 A4 p n fi92 [a0] H k =
 p.call 56 (.fn 128 [] []) [a0] H fun t6 H =>
 Ady p n  k n (tf 57 0 (ud [(0, a0), (2, bF), (3, t6), (4, i0), (5, a0), (6, t6)] ut)) H := by kernel_rfl
theorem Adz : M4 fi92 @f92 := fun p n a0 H k => by
 rw [Af3]
 simp only [AbT]
 kernel_rfl
noncomputable def Kv (p : Pr β) (n : Nat)  (k : KO β) : Nat → AV → AV → KO β
 | 0, _, _, _, _ => none
 | m + 1, t1, t3, t4, H => p.fadr 22 t1 fun t105 =>
   p.load false 1 t105 H fun t106 =>
   p.len t106 fun t107 =>
   p.bin .lss t4 t107 fun t108 =>
   p.cond t108
   (p.fadr 22 t1 fun t111 =>
   p.load false 1 t111 H fun t112 =>
   p.iadr 2 t112 t4 fun t114 =>
   p.fadr 0 t114 fun t115 =>
   p.load false 1 t115 H fun t116 =>
   p.call 4 (.fn 92 [] []) [t116] H fun t117 H =>
   p.un .not t117 fun t118 =>
   p.gF t118 H (p.fadr 22 t1) fun t120 H =>
   p.gF t118 H (p.load false 1 t120 H) fun t121 H =>
   p.kF t118 H t4 fun t122 H =>
   p.gF t118 H (p.iadr 2 t121 t122) fun t123 H =>
   p.gF t118 H (p.fadr 1 t123) fun t124 H =>
   p.gF t118 H (p.load false 1 t124 H) fun t125 H =>
   p.hF t118 H (p.call 4 (.fn 81 [] []) [t125, i0, (si 2)] H) fun t126 H =>
   p.gF t118 H (p.un .not t126) fun t127 H =>
   p.pick t118 bT t127 fun t128 =>
   p.cond t128
   (k bF H)
   (p.bin .add t4 (si 1) fun t110 =>
   Kv p n  k m t1 t3 t110 H))
   (p.gT t3 H (p.fadr 22 t1) fun t131 H =>
   p.gT t3 H (p.load false 1 t131 H) fun t132 H =>
   p.gT t3 H (p.len t132) fun t133 H =>
   p.hT t3 H (p.call 4 (.fn 81 [] []) [t133, (si 1), (si 4)] H) fun t134 H =>
   p.pick t3 t134 bF fun t135 =>
   k t135 H)
noncomputable def Kw (p : Pr β) (n : Nat)  (k : KO β) : Nat → AV → AV → KO β
 | 0, _, _, _, _ => none
 | m + 1, t1, t3, t5, H => p.fadr 24 t1 fun t139 =>
   p.load false 1 t139 H fun t140 =>
   p.len t140 fun t141 =>
   p.bin .lss t5 t141 fun t142 =>
   p.cond t142
   (p.fadr 24 t1 fun t145 =>
   p.load false 1 t145 H fun t146 =>
   p.iadr 1 t146 t5 fun t148 =>
   p.load false 1 t148 H fun t149 =>
   p.call 4 (.fn 81 [] []) [t149, i0, (si 2)] H fun t150 H =>
   p.un .not t150 fun t151 =>
   p.gT t151 H (p.fadr 24 t1) fun t153 H =>
   p.gT t151 H (p.load false 1 t153 H) fun t154 H =>
   p.kT t151 H t5 fun t155 H =>
   p.gT t151 H (p.iadr 1 t154 t155) fun t156 H =>
   p.gT t151 H (p.load false 1 t156 H) fun t157 H =>
   p.gT t151 H (p.bin .neq t157 (si 128)) fun t158 H =>
   p.pick t151 t158 bF fun t159 =>
   p.cond t159
   (k bF H)
   (p.bin .add t5 (si 1) fun t144 =>
   Kw p n  k m t1 t3 t144 H))
   (p.gT t3 H (p.fadr 24 t1) fun t162 H =>
   p.gT t3 H (p.load false 1 t162 H) fun t163 H =>
   p.gT t3 H (p.len t163) fun t164 H =>
   p.hT t3 H (p.call 4 (.fn 81 [] []) [t164, (si 1), (si 4)] H) fun t165 H =>
   p.pick t3 t165 bF fun t166 =>
   k t166 H)
noncomputable def Kx (p : Pr β) (n : Nat)  (k : KO β) : Nat → AV → AV → KO β
 | 0, _, _, _, _ => none
 | m + 1, t1, t3, t6, H => p.fadr 23 t1 fun t170 =>
   p.load false 1 t170 H fun t171 =>
   p.len t171 fun t172 =>
   p.bin .lss t6 t172 fun t173 =>
   p.cond t173
   (p.fadr 23 t1 fun t176 =>
   p.load false 1 t176 H fun t177 =>
   p.iadr 1 t177 t6 fun t179 =>
   p.load false 1 t179 H fun t180 =>
   p.call 4 (.fn 92 [] []) [t180] H fun t181 H =>
   p.un .not t181 fun t182 =>
   p.cond t182
   (k bF H)
   (p.bin .add t6 (si 1) fun t175 =>
   Kx p n  k m t1 t3 t175 H))
   (p.gT t3 H (p.fadr 23 t1) fun t185 H =>
   p.gT t3 H (p.load false 1 t185 H) fun t186 H =>
   p.gT t3 H (p.len t186) fun t187 H =>
   p.hT t3 H (p.call 4 (.fn 81 [] []) [t187, (si 1), (si 4)] H) fun t188 H =>
   p.pick t3 t188 bF fun t189 =>
   k t189 H)
noncomputable def f64 (p : Pr β) (n : Nat) (a0 : AV) (H : Ae) (k : KO β) : Option β :=
 p.box a0 H fun t1 H =>
 p.fadr 0 t1 fun t7 =>
 p.load false 1 t7 H fun t8 =>
 p.call 4 (.fn 81 [] []) [t8, (si 1), (si 14)] H fun t9 H =>
 p.un .not t9 fun t10 =>
 p.gF t10 H (p.load true 25 t1 H) fun t13 H =>
 p.both
 (p.gF t10 H (p.load true 25 t1 H) fun t12 H =>
 p.hF t10 H (p.call 59 (.fn 90 [] []) [t13] H) fun t14 H =>
 p.hF t10 H (p.call 4 (.fn 89 [] []) [t12, t14] H) fun t15 H =>
 p.gF t10 H (p.un .not t15) fun t16 H =>
 p.pick t10 bT t16 fun t17 =>
 p.cond t17
 (k bF H)
 (p.fadr 4 t1 fun t18 =>
 p.load false 1 t18 H fun t19 =>
 p.call 4 (.fn 81 [] []) [t19, (si 1), (si 65535)] H fun t20 H =>
 p.fadr 0 t1 fun t21 =>
 p.load false 1 t21 H fun t22 =>
 p.bin .eql t22 (si 1) fun t24 =>
 p.cond t24
 (p.fadr 11 t1 fun t25 =>
 p.load false 1 t25 H fun t26 =>
 p.gT t26 H (p.fadr 12 t1) fun t28 H =>
 p.gT t26 H (p.load false 1 t28 H) fun t29 H =>
 p.hT t26 H (p.call 4 (.fn 91 [] []) [t29] H) fun t30 H =>
 p.gT t26 H (p.un .not t30) fun t31 H =>
 p.kT t26 H t31 fun t32 H =>
 p.gF t32 H (p.fadr 13 t1) fun t33 H =>
 p.gF t32 H (p.load false 1 t33 H) fun t34 H =>
 p.gF t32 H (p.len t34) fun t35 H =>
 p.gF t32 H (p.bin .gtr t35 (si 40)) fun t36 H =>
 p.gT t26 H (p.pick t32 bT t36) fun t37 H =>
 p.kT t26 H t37 fun t38 H =>
 p.gF t38 H (p.fadr 14 t1) fun t39 H =>
 p.gF t38 H (p.load false 1 t39 H) fun t40 H =>
 p.hF t38 H (p.call 4 (.fn 81 [] []) [t40, i0, (si 2)] H) fun t41 H =>
 p.gF t38 H (p.un .not t41) fun t42 H =>
 p.gT t26 H (p.pick t38 bT t42) fun t43 H =>
 p.pick t26 t43 bF fun t44 =>
 p.cond t44
 (k bF H)
 (p.fadr 8 t1 fun t45 =>
 p.load false 1 t45 H fun t46 =>
 p.call 4 (.fn 81 [] []) [t46, i0, (si 255)] H fun t47 H =>
 p.gT t47 H (p.fadr 7 t1) fun t49 H =>
 p.gT t47 H (p.load false 1 t49 H) fun t50 H =>
 p.hT t47 H (p.call 4 (.fn 80 [] []) [t50] H) fun t51 H =>
 p.pick t47 t51 bF fun t52 =>
 p.gT t52 H (p.fadr 10 t1) fun t54 H =>
 p.gT t52 H (p.load false 1 t54 H) fun t55 H =>
 p.hT t52 H (p.call 4 (.fn 81 [] []) [t55, i0, (si 65535)] H) fun t56 H =>
 p.pick t52 t56 bF fun t57 =>
 p.gT t57 H (p.fadr 17 t1) fun t59 H =>
 p.gT t57 H (p.load false 1 t59 H) fun t60 H =>
 p.hT t57 H (p.call 4 (.fn 80 [] []) [t60] H) fun t61 H =>
 p.pick t57 t61 bF fun t62 =>
 p.gT t62 H (p.fadr 19 t1) fun t64 H =>
 p.gT t62 H (p.load false 1 t64 H) fun t65 H =>
 p.gT t62 H (p.len t65) fun t66 H =>
 p.gT t62 H (p.bin .leq t66 (si 60)) fun t67 H =>
 p.pick t62 t67 bF fun t68 =>
 k t68 H))
 (p.bin .eql t22 (si 2) fun t70 =>
 p.cond t70
 (p.fadr 20 t1 fun t71 =>
 p.load false 1 t71 H fun t72 =>
 p.call 4 (.fn 81 [] []) [t72, i0, (si 5)] H fun t73 H =>
 k t73 H)
 (p.bin .eql t22 (si 3) fun t75 =>
 p.cond t75
 (p.fadr 2 t1 fun t76 =>
 p.load false 1 t76 H fun t77 =>
 p.call 4 (.fn 81 [] []) [t77, i0, (si 2)] H fun t78 H =>
 p.gT t78 H (p.fadr 2 t1) fun t80 H =>
 p.gT t78 H (p.load false 1 t80 H) fun t81 H =>
 p.gT t78 H (p.bin .eql t81 i0) fun t82 H =>
 p.kT t78 H t82 fun t83 H =>
 p.kF t83 H t20 fun t84 H =>
 p.gT t78 H (p.pick t83 bT t84) fun t85 H =>
 p.pick t78 t85 bF fun t86 =>
 p.gT t86 H (p.fadr 5 t1) fun t88 H =>
 p.gT t86 H (p.load false 1 t88 H) fun t89 H =>
 p.hT t86 H (p.call 4 (.fn 91 [] []) [t89] H) fun t90 H =>
 p.pick t86 t90 bF fun t91 =>
 p.gT t91 H (p.fadr 6 t1) fun t93 H =>
 p.gT t91 H (p.load false 1 t93 H) fun t94 H =>
 p.gT t91 H (p.len t94) fun t95 H =>
 p.gT t91 H (p.bin .leq t95 (si 40)) fun t96 H =>
 p.pick t91 t96 bF fun t97 =>
 k t97 H)
 (p.bin .eql t22 (si 12) fun t99 =>
 E4 (fun (t1 t3 t22 t98 : AV) (H : Ae) => p.cond t98
 (k bT H)
 (p.bin .eql t22 (si 8) fun t103 =>
 p.cond t103
 (Kv p n  k n t1 t3 i0 H)
 (p.bin .eql t22 (si 9) fun t137 =>
 p.cond t137
 (Kw p n  k n t1 t3 i0 H)
 (p.bin .eql t22 (si 10) fun t168 =>
 p.cond t168
 (Kx p n  k n t1 t3 i0 H)
 (k t3 H))))) fun j1 =>
 p.cond t99
 (j1 t1 t20 t22 t99 H)
 (p.bin .eql t22 (si 13) fun t100 =>
 p.cond t100
 (j1 t1 t20 t22 t100 H)
 (p.bin .eql t22 (si 14) fun t101 =>
 j1 t1 t20 t22 t101 H)))))))
 (p.hF t10 H (p.call 59 (.fn 90 [] []) [t13] H) fun t14 H =>
 p.gF t10 H (p.load true 25 t1 H) fun t12 H =>
 p.hF t10 H (p.call 4 (.fn 89 [] []) [t12, t14] H) fun t15 H =>
 p.gF t10 H (p.un .not t15) fun t16 H =>
 p.pick t10 bT t16 fun t17 =>
 p.cond t17
 (k bF H)
 (p.fadr 4 t1 fun t18 =>
 p.load false 1 t18 H fun t19 =>
 p.call 4 (.fn 81 [] []) [t19, (si 1), (si 65535)] H fun t20 H =>
 p.fadr 0 t1 fun t21 =>
 p.load false 1 t21 H fun t22 =>
 p.bin .eql t22 (si 1) fun t24 =>
 p.cond t24
 (p.fadr 11 t1 fun t25 =>
 p.load false 1 t25 H fun t26 =>
 p.gT t26 H (p.fadr 12 t1) fun t28 H =>
 p.gT t26 H (p.load false 1 t28 H) fun t29 H =>
 p.hT t26 H (p.call 4 (.fn 91 [] []) [t29] H) fun t30 H =>
 p.gT t26 H (p.un .not t30) fun t31 H =>
 p.kT t26 H t31 fun t32 H =>
 p.gF t32 H (p.fadr 13 t1) fun t33 H =>
 p.gF t32 H (p.load false 1 t33 H) fun t34 H =>
 p.gF t32 H (p.len t34) fun t35 H =>
 p.gF t32 H (p.bin .gtr t35 (si 40)) fun t36 H =>
 p.gT t26 H (p.pick t32 bT t36) fun t37 H =>
 p.kT t26 H t37 fun t38 H =>
 p.gF t38 H (p.fadr 14 t1) fun t39 H =>
 p.gF t38 H (p.load false 1 t39 H) fun t40 H =>
 p.hF t38 H (p.call 4 (.fn 81 [] []) [t40, i0, (si 2)] H) fun t41 H =>
 p.gF t38 H (p.un .not t41) fun t42 H =>
 p.gT t26 H (p.pick t38 bT t42) fun t43 H =>
 p.pick t26 t43 bF fun t44 =>
 p.cond t44
 (k bF H)
 (p.fadr 8 t1 fun t45 =>
 p.load false 1 t45 H fun t46 =>
 p.call 4 (.fn 81 [] []) [t46, i0, (si 255)] H fun t47 H =>
 p.gT t47 H (p.fadr 7 t1) fun t49 H =>
 p.gT t47 H (p.load false 1 t49 H) fun t50 H =>
 p.hT t47 H (p.call 4 (.fn 80 [] []) [t50] H) fun t51 H =>
 p.pick t47 t51 bF fun t52 =>
 p.gT t52 H (p.fadr 10 t1) fun t54 H =>
 p.gT t52 H (p.load false 1 t54 H) fun t55 H =>
 p.hT t52 H (p.call 4 (.fn 81 [] []) [t55, i0, (si 65535)] H) fun t56 H =>
 p.pick t52 t56 bF fun t57 =>
 p.gT t57 H (p.fadr 17 t1) fun t59 H =>
 p.gT t57 H (p.load false 1 t59 H) fun t60 H =>
 p.hT t57 H (p.call 4 (.fn 80 [] []) [t60] H) fun t61 H =>
 p.pick t57 t61 bF fun t62 =>
 p.gT t62 H (p.fadr 19 t1) fun t64 H =>
 p.gT t62 H (p.load false 1 t64 H) fun t65 H =>
 p.gT t62 H (p.len t65) fun t66 H =>
 p.gT t62 H (p.bin .leq t66 (si 60)) fun t67 H =>
 p.pick t62 t67 bF fun t68 =>
 k t68 H))
 (p.bin .eql t22 (si 2) fun t70 =>
 p.cond t70
 (p.fadr 20 t1 fun t71 =>
 p.load false 1 t71 H fun t72 =>
 p.call 4 (.fn 81 [] []) [t72, i0, (si 5)] H fun t73 H =>
 k t73 H)
 (p.bin .eql t22 (si 3) fun t75 =>
 p.cond t75
 (p.fadr 2 t1 fun t76 =>
 p.load false 1 t76 H fun t77 =>
 p.call 4 (.fn 81 [] []) [t77, i0, (si 2)] H fun t78 H =>
 p.gT t78 H (p.fadr 2 t1) fun t80 H =>
 p.gT t78 H (p.load false 1 t80 H) fun t81 H =>
 p.gT t78 H (p.bin .eql t81 i0) fun t82 H =>
 p.kT t78 H t82 fun t83 H =>
 p.kF t83 H t20 fun t84 H =>
 p.gT t78 H (p.pick t83 bT t84) fun t85 H =>
 p.pick t78 t85 bF fun t86 =>
 p.gT t86 H (p.fadr 5 t1) fun t88 H =>
 p.gT t86 H (p.load false 1 t88 H) fun t89 H =>
 p.hT t86 H (p.call 4 (.fn 91 [] []) [t89] H) fun t90 H =>
 p.pick t86 t90 bF fun t91 =>
 p.gT t91 H (p.fadr 6 t1) fun t93 H =>
 p.gT t91 H (p.load false 1 t93 H) fun t94 H =>
 p.gT t91 H (p.len t94) fun t95 H =>
 p.gT t91 H (p.bin .leq t95 (si 40)) fun t96 H =>
 p.pick t91 t96 bF fun t97 =>
 k t97 H)
 (p.bin .eql t22 (si 12) fun t99 =>
 E4 (fun (t1 t3 t22 t98 : AV) (H : Ae) => p.cond t98
 (k bT H)
 (p.bin .eql t22 (si 8) fun t103 =>
 p.cond t103
 (Kv p n  k n t1 t3 i0 H)
 (p.bin .eql t22 (si 9) fun t137 =>
 p.cond t137
 (Kw p n  k n t1 t3 i0 H)
 (p.bin .eql t22 (si 10) fun t168 =>
 p.cond t168
 (Kx p n  k n t1 t3 i0 H)
 (k t3 H))))) fun j2 =>
 p.cond t99
 (j2 t1 t20 t22 t99 H)
 (p.bin .eql t22 (si 13) fun t100 =>
 p.cond t100
 (j2 t1 t20 t22 t100 H)
 (p.bin .eql t22 (si 14) fun t101 =>
 j2 t1 t20 t22 t101 H)))))))
noncomputable def Zp (p : Pr β) (n : Nat)  (k : KO β) (m : Nat) (tm : Tm) (H : Ae) : Option β :=
 E2 191 (fun tm H k => At A4 p o64 191 n (cd c64 [1, 1, 1, 0, 1, 0, 1, 2, 1, 2, 1, 2, 1, 2, 1, 1, 0, 1, 0, 0]) tm H k) (Fq 1 (E8 (fun tm H => At A4 p o64 191 n (cd c64 [1, 1, 1, 0, 1, 0, 1, 2, 1, 2, 1, 2, 1, 2, 1, 1, 1]) tm H (Fq 0 (E8 (fun tm H => At A4 p o64 191 n (cd c64 [1, 1, 1, 1]) tm H (Dp A4 p fi64.results k)) (Dp A4 p fi64.results k)))) (Fq 0 (E8 (fun tm H => At A4 p o64 191 n (cd c64 [1, 1, 1, 1]) tm H (Dp A4 p fi64.results k)) (Dp A4 p fi64.results k))))) m tm H
noncomputable def Zq (p : Pr β) (n : Nat)  (k : KO β) (m : Nat) (tm : Tm) (H : Ae) : Option β :=
 E2 191 (fun tm H k => At A4 p o64 191 n (cd c64 [1, 1, 1, 0, 1, 0, 1, 2, 1, 2, 1, 2, 1, 2, 1, 2, 1, 1, 0, 1, 0, 0]) tm H k) (Fq 3 (E8 (fun tm H => At A4 p o64 191 n (cd c64 [1, 1, 1, 0, 1, 0, 1, 2, 1, 2, 1, 2, 1, 2, 1, 2, 1, 1, 1]) tm H (Fq 0 (E8 (fun tm H => At A4 p o64 191 n (cd c64 [1, 1, 1, 1]) tm H (Dp A4 p fi64.results k)) (Dp A4 p fi64.results k)))) (Fq 0 (E8 (fun tm H => At A4 p o64 191 n (cd c64 [1, 1, 1, 1]) tm H (Dp A4 p fi64.results k)) (Dp A4 p fi64.results k))))) m tm H
noncomputable def Zr (p : Pr β) (n : Nat)  (k : KO β) (m : Nat) (tm : Tm) (H : Ae) : Option β :=
 E2 191 (fun tm H k => At A4 p o64 191 n (cd c64 [1, 1, 1, 0, 1, 0, 1, 2, 1, 2, 1, 2, 1, 2, 1, 2, 1, 2, 1, 1, 0, 1, 0, 0]) tm H k) (Fq 5 (E8 (fun tm H => At A4 p o64 191 n (cd c64 [1, 1, 1, 0, 1, 0, 1, 2, 1, 2, 1, 2, 1, 2, 1, 2, 1, 2, 1, 1, 1]) tm H (Fq 0 (E8 (fun tm H => At A4 p o64 191 n (cd c64 [1, 1, 1, 1]) tm H (Dp A4 p fi64.results k)) (Dp A4 p fi64.results k)))) (Fq 0 (E8 (fun tm H => At A4 p o64 191 n (cd c64 [1, 1, 1, 1]) tm H (Dp A4 p fi64.results k)) (Dp A4 p fi64.results k))))) m tm H
theorem AbM (p : Pr β) (n : Nat)  (k : KO β) (m0 : Nat) : ∀ (t : Nat → AV) (H : Ae), Zp p n  k m0 (tf 191 0 t) H = Kv p n  k m0 (t 1) (t 3) (t 4) H := by
 induction m0 with
 | zero => intros; rfl
 | succ m0 ih =>
  intro t H
  refine Eq.trans (C0 (nt := 191) (m := m0) (g := fun t H => Kv p n  k m0 (t 1) (t 3) (t 4) H) ih rfl) ?_
  kernel_rfl
theorem AbN (p : Pr β) (n : Nat)  (k : KO β) (m1 : Nat) : ∀ (t : Nat → AV) (H : Ae), Zq p n  k m1 (tf 191 0 t) H = Kw p n  k m1 (t 1) (t 3) (t 5) H := by
 induction m1 with
 | zero => intros; rfl
 | succ m1 ih =>
  intro t H
  refine Eq.trans (C0 (nt := 191) (m := m1) (g := fun t H => Kw p n  k m1 (t 1) (t 3) (t 5) H) ih rfl) ?_
  kernel_rfl
theorem AbO (p : Pr β) (n : Nat)  (k : KO β) (m2 : Nat) : ∀ (t : Nat → AV) (H : Ae), Zr p n  k m2 (tf 191 0 t) H = Kx p n  k m2 (t 1) (t 3) (t 6) H := by
 induction m2 with
 | zero => intros; rfl
 | succ m2 ih =>
  intro t H
  refine Eq.trans (C0 (nt := 191) (m := m2) (g := fun t H => Kx p n  k m2 (t 1) (t 3) (t 6) H) ih rfl) ?_
  kernel_rfl
theorem Afy (p : Pr β) (n : Nat) (a0 : AV) (H : Ae) (k : KO β) : D0 A4 p n fi64 [a0] H k =
 p.box a0 H fun t1 H =>
 p.fadr 0 t1 fun t7 =>
 p.load false 1 t7 H fun t8 =>
 p.call 4 (.fn 81 [] []) [t8, (si 1), (si 14)] H fun t9 H =>
 p.un .not t9 fun t10 =>
 p.gF t10 H (p.load true 25 t1 H) fun t13 H =>
 p.both
 (p.gF t10 H (p.load true 25 t1 H) fun t12 H =>
 p.hF t10 H (p.call 59 (.fn 90 [] []) [t13] H) fun t14 H =>
 p.hF t10 H (p.call 4 (.fn 89 [] []) [t12, t14] H) fun t15 H =>
 p.gF t10 H (p.un .not t15) fun t16 H =>
 p.pick t10 bT t16 fun t17 =>
 p.cond t17
 (k bF H)
 (p.fadr 4 t1 fun t18 =>
 p.load false 1 t18 H fun t19 =>
 p.call 4 (.fn 81 [] []) [t19, (si 1), (si 65535)] H fun t20 H =>
 p.fadr 0 t1 fun t21 =>
 p.load false 1 t21 H fun t22 =>
 p.bin .eql t22 (si 1) fun t24 =>
 p.cond t24
 (p.fadr 11 t1 fun t25 =>
 p.load false 1 t25 H fun t26 =>
 p.gT t26 H (p.fadr 12 t1) fun t28 H =>
 p.gT t26 H (p.load false 1 t28 H) fun t29 H =>
 p.hT t26 H (p.call 4 (.fn 91 [] []) [t29] H) fun t30 H =>
 p.gT t26 H (p.un .not t30) fun t31 H =>
 p.kT t26 H t31 fun t32 H =>
 p.gF t32 H (p.fadr 13 t1) fun t33 H =>
 p.gF t32 H (p.load false 1 t33 H) fun t34 H =>
 p.gF t32 H (p.len t34) fun t35 H =>
 p.gF t32 H (p.bin .gtr t35 (si 40)) fun t36 H =>
 p.gT t26 H (p.pick t32 bT t36) fun t37 H =>
 p.kT t26 H t37 fun t38 H =>
 p.gF t38 H (p.fadr 14 t1) fun t39 H =>
 p.gF t38 H (p.load false 1 t39 H) fun t40 H =>
 p.hF t38 H (p.call 4 (.fn 81 [] []) [t40, i0, (si 2)] H) fun t41 H =>
 p.gF t38 H (p.un .not t41) fun t42 H =>
 p.gT t26 H (p.pick t38 bT t42) fun t43 H =>
 p.pick t26 t43 bF fun t44 =>
 p.cond t44
 (k bF H)
 (p.fadr 8 t1 fun t45 =>
 p.load false 1 t45 H fun t46 =>
 p.call 4 (.fn 81 [] []) [t46, i0, (si 255)] H fun t47 H =>
 p.gT t47 H (p.fadr 7 t1) fun t49 H =>
 p.gT t47 H (p.load false 1 t49 H) fun t50 H =>
 p.hT t47 H (p.call 4 (.fn 80 [] []) [t50] H) fun t51 H =>
 p.pick t47 t51 bF fun t52 =>
 p.gT t52 H (p.fadr 10 t1) fun t54 H =>
 p.gT t52 H (p.load false 1 t54 H) fun t55 H =>
 p.hT t52 H (p.call 4 (.fn 81 [] []) [t55, i0, (si 65535)] H) fun t56 H =>
 p.pick t52 t56 bF fun t57 =>
 p.gT t57 H (p.fadr 17 t1) fun t59 H =>
 p.gT t57 H (p.load false 1 t59 H) fun t60 H =>
 p.hT t57 H (p.call 4 (.fn 80 [] []) [t60] H) fun t61 H =>
 p.pick t57 t61 bF fun t62 =>
 p.gT t62 H (p.fadr 19 t1) fun t64 H =>
 p.gT t62 H (p.load false 1 t64 H) fun t65 H =>
 p.gT t62 H (p.len t65) fun t66 H =>
 p.gT t62 H (p.bin .leq t66 (si 60)) fun t67 H =>
 p.pick t62 t67 bF fun t68 =>
 k t68 H))
 (p.bin .eql t22 (si 2) fun t70 =>
 p.cond t70
 (p.fadr 20 t1 fun t71 =>
 p.load false 1 t71 H fun t72 =>
 p.call 4 (.fn 81 [] []) [t72, i0, (si 5)] H fun t73 H =>
 k t73 H)
 (p.bin .eql t22 (si 3) fun t75 =>
 p.cond t75
 (p.fadr 2 t1 fun t76 =>
 p.load false 1 t76 H fun t77 =>
 p.call 4 (.fn 81 [] []) [t77, i0, (si 2)] H fun t78 H =>
 p.gT t78 H (p.fadr 2 t1) fun t80 H =>
 p.gT t78 H (p.load false 1 t80 H) fun t81 H =>
 p.gT t78 H (p.bin .eql t81 i0) fun t82 H =>
 p.kT t78 H t82 fun t83 H =>
 p.kF t83 H t20 fun t84 H =>
 p.gT t78 H (p.pick t83 bT t84) fun t85 H =>
 p.pick t78 t85 bF fun t86 =>
 p.gT t86 H (p.fadr 5 t1) fun t88 H =>
 p.gT t86 H (p.load false 1 t88 H) fun t89 H =>
 p.hT t86 H (p.call 4 (.fn 91 [] []) [t89] H) fun t90 H =>
 p.pick t86 t90 bF fun t91 =>
 p.gT t91 H (p.fadr 6 t1) fun t93 H =>
 p.gT t91 H (p.load false 1 t93 H) fun t94 H =>
 p.gT t91 H (p.len t94) fun t95 H =>
 p.gT t91 H (p.bin .leq t95 (si 40)) fun t96 H =>
 p.pick t91 t96 bF fun t97 =>
 k t97 H)
 (p.bin .eql t22 (si 12) fun t99 =>
 E4 (fun (t : Nat → AV) (H : Ae) => p.cond (t 98)
 (k bT H)
 (p.bin .eql (t 22) (si 8) fun t103 =>
 p.cond t103
 (Zp p n  k n (tf 191 0 (ud [(4, i0), (102, t103), (103, t103)] t)) H)
 (p.bin .eql (t 22) (si 9) fun t137 =>
 p.cond t137
 (Zq p n  k n (tf 191 0 (ud [(5, i0), (102, t103), (103, t103), (136, t137), (137, t137)] t)) H)
 (p.bin .eql (t 22) (si 10) fun t168 =>
 p.cond t168
 (Zr p n  k n (tf 191 0 (ud [(6, i0), (102, t103), (103, t103), (136, t137), (137, t137), (167, t168), (168, t168)] t)) H)
 (k (t 3) H))))) fun j1 =>
 p.cond t99
 (j1 (ud [(0, a0), (1, t1), (2, bF), (3, t20), (7, t7), (8, t8), (9, t9), (10, t10), (11, t10), (12, t12), (13, t13), (14, t14), (15, t15), (16, t16), (17, t17), (18, t18), (19, t19), (20, t20), (21, t21), (22, t22), (23, t24), (24, t24), (69, t70), (70, t70), (74, t75), (75, t75), (98, t99), (99, t99)] ut) H)
 (p.bin .eql t22 (si 13) fun t100 =>
 p.cond t100
 (j1 (ud [(0, a0), (1, t1), (2, bF), (3, t20), (7, t7), (8, t8), (9, t9), (10, t10), (11, t10), (12, t12), (13, t13), (14, t14), (15, t15), (16, t16), (17, t17), (18, t18), (19, t19), (20, t20), (21, t21), (22, t22), (23, t24), (24, t24), (69, t70), (70, t70), (74, t75), (75, t75), (98, t100), (99, t99), (100, t100)] ut) H)
 (p.bin .eql t22 (si 14) fun t101 =>
 j1 (ud [(0, a0), (1, t1), (2, bF), (3, t20), (7, t7), (8, t8), (9, t9), (10, t10), (11, t10), (12, t12), (13, t13), (14, t14), (15, t15), (16, t16), (17, t17), (18, t18), (19, t19), (20, t20), (21, t21), (22, t22), (23, t24), (24, t24), (69, t70), (70, t70), (74, t75), (75, t75), (98, t101), (99, t99), (100, t100), (101, t101)] ut) H)))))))
 (p.hF t10 H (p.call 59 (.fn 90 [] []) [t13] H) fun t14 H =>
 p.gF t10 H (p.load true 25 t1 H) fun t12 H =>
 p.hF t10 H (p.call 4 (.fn 89 [] []) [t12, t14] H) fun t15 H =>
 p.gF t10 H (p.un .not t15) fun t16 H =>
 p.pick t10 bT t16 fun t17 =>
 p.cond t17
 (k bF H)
 (p.fadr 4 t1 fun t18 =>
 p.load false 1 t18 H fun t19 =>
 p.call 4 (.fn 81 [] []) [t19, (si 1), (si 65535)] H fun t20 H =>
 p.fadr 0 t1 fun t21 =>
 p.load false 1 t21 H fun t22 =>
 p.bin .eql t22 (si 1) fun t24 =>
 p.cond t24
 (p.fadr 11 t1 fun t25 =>
 p.load false 1 t25 H fun t26 =>
 p.gT t26 H (p.fadr 12 t1) fun t28 H =>
 p.gT t26 H (p.load false 1 t28 H) fun t29 H =>
 p.hT t26 H (p.call 4 (.fn 91 [] []) [t29] H) fun t30 H =>
 p.gT t26 H (p.un .not t30) fun t31 H =>
 p.kT t26 H t31 fun t32 H =>
 p.gF t32 H (p.fadr 13 t1) fun t33 H =>
 p.gF t32 H (p.load false 1 t33 H) fun t34 H =>
 p.gF t32 H (p.len t34) fun t35 H =>
 p.gF t32 H (p.bin .gtr t35 (si 40)) fun t36 H =>
 p.gT t26 H (p.pick t32 bT t36) fun t37 H =>
 p.kT t26 H t37 fun t38 H =>
 p.gF t38 H (p.fadr 14 t1) fun t39 H =>
 p.gF t38 H (p.load false 1 t39 H) fun t40 H =>
 p.hF t38 H (p.call 4 (.fn 81 [] []) [t40, i0, (si 2)] H) fun t41 H =>
 p.gF t38 H (p.un .not t41) fun t42 H =>
 p.gT t26 H (p.pick t38 bT t42) fun t43 H =>
 p.pick t26 t43 bF fun t44 =>
 p.cond t44
 (k bF H)
 (p.fadr 8 t1 fun t45 =>
 p.load false 1 t45 H fun t46 =>
 p.call 4 (.fn 81 [] []) [t46, i0, (si 255)] H fun t47 H =>
 p.gT t47 H (p.fadr 7 t1) fun t49 H =>
 p.gT t47 H (p.load false 1 t49 H) fun t50 H =>
 p.hT t47 H (p.call 4 (.fn 80 [] []) [t50] H) fun t51 H =>
 p.pick t47 t51 bF fun t52 =>
 p.gT t52 H (p.fadr 10 t1) fun t54 H =>
 p.gT t52 H (p.load false 1 t54 H) fun t55 H =>
 p.hT t52 H (p.call 4 (.fn 81 [] []) [t55, i0, (si 65535)] H) fun t56 H =>
 p.pick t52 t56 bF fun t57 =>
 p.gT t57 H (p.fadr 17 t1) fun t59 H =>
 p.gT t57 H (p.load false 1 t59 H) fun t60 H =>
 p.hT t57 H (p.call 4 (.fn 80 [] []) [t60] H) fun t61 H =>
 p.pick t57 t61 bF fun t62 =>
 p.gT t62 H (p.fadr 19 t1) fun t64 H =>
 p.gT t62 H (p.load false 1 t64 H) fun t65 H =>
 p.gT t62 H (p.len t65) fun t66 H =>
 p.gT t62 H (p.bin .leq t66 (si 60)) fun t67 H =>
 p.pick t62 t67 bF fun t68 =>
 k t68 H))
 (p.bin .eql t22 (si 2) fun t70 =>
 p.cond t70
 (p.fadr 20 t1 fun t71 =>
 p.load false 1 t71 H fun t72 =>
 p.call 4 (.fn 81 [] []) [t72, i0, (si 5)] H fun t73 H =>
 k t73 H)
 (p.bin .eql t22 (si 3) fun t75 =>
 p.cond t75
 (p.fadr 2 t1 fun t76 =>
 p.load false 1 t76 H fun t77 =>
 p.call 4 (.fn 81 [] []) [t77, i0, (si 2)] H fun t78 H =>
 p.gT t78 H (p.fadr 2 t1) fun t80 H =>
 p.gT t78 H (p.load false 1 t80 H) fun t81 H =>
 p.gT t78 H (p.bin .eql t81 i0) fun t82 H =>
 p.kT t78 H t82 fun t83 H =>
 p.kF t83 H t20 fun t84 H =>
 p.gT t78 H (p.pick t83 bT t84) fun t85 H =>
 p.pick t78 t85 bF fun t86 =>
 p.gT t86 H (p.fadr 5 t1) fun t88 H =>
 p.gT t86 H (p.load false 1 t88 H) fun t89 H =>
 p.hT t86 H (p.call 4 (.fn 91 [] []) [t89] H) fun t90 H =>
 p.pick t86 t90 bF fun t91 =>
 p.gT t91 H (p.fadr 6 t1) fun t93 H =>
 p.gT t91 H (p.load false 1 t93 H) fun t94 H =>
 p.gT t91 H (p.len t94) fun t95 H =>
 p.gT t91 H (p.bin .leq t95 (si 40)) fun t96 H =>
 p.pick t91 t96 bF fun t97 =>
 k t97 H)
 (p.bin .eql t22 (si 12) fun t99 =>
 E4 (fun (t : Nat → AV) (H : Ae) => p.cond (t 98)
 (k bT H)
 (p.bin .eql (t 22) (si 8) fun t103 =>
 p.cond t103
 (Zp p n  k n (tf 191 0 (ud [(4, i0), (102, t103), (103, t103)] t)) H)
 (p.bin .eql (t 22) (si 9) fun t137 =>
 p.cond t137
 (Zq p n  k n (tf 191 0 (ud [(5, i0), (102, t103), (103, t103), (136, t137), (137, t137)] t)) H)
 (p.bin .eql (t 22) (si 10) fun t168 =>
 p.cond t168
 (Zr p n  k n (tf 191 0 (ud [(6, i0), (102, t103), (103, t103), (136, t137), (137, t137), (167, t168), (168, t168)] t)) H)
 (k (t 3) H))))) fun j2 =>
 p.cond t99
 (j2 (ud [(0, a0), (1, t1), (2, bF), (3, t20), (7, t7), (8, t8), (9, t9), (10, t10), (11, t10), (12, t12), (13, t13), (14, t14), (15, t15), (16, t16), (17, t17), (18, t18), (19, t19), (20, t20), (21, t21), (22, t22), (23, t24), (24, t24), (69, t70), (70, t70), (74, t75), (75, t75), (98, t99), (99, t99)] ut) H)
 (p.bin .eql t22 (si 13) fun t100 =>
 p.cond t100
 (j2 (ud [(0, a0), (1, t1), (2, bF), (3, t20), (7, t7), (8, t8), (9, t9), (10, t10), (11, t10), (12, t12), (13, t13), (14, t14), (15, t15), (16, t16), (17, t17), (18, t18), (19, t19), (20, t20), (21, t21), (22, t22), (23, t24), (24, t24), (69, t70), (70, t70), (74, t75), (75, t75), (98, t100), (99, t99), (100, t100)] ut) H)
 (p.bin .eql t22 (si 14) fun t101 =>
 j2 (ud [(0, a0), (1, t1), (2, bF), (3, t20), (7, t7), (8, t8), (9, t9), (10, t10), (11, t10), (12, t12), (13, t13), (14, t14), (15, t15), (16, t16), (17, t17), (18, t18), (19, t19), (20, t20), (21, t21), (22, t22), (23, t24), (24, t24), (69, t70), (70, t70), (74, t75), (75, t75), (98, t101), (99, t99), (100, t100), (101, t101)] ut) H))))))) := by kernel_rfl
theorem AcX : M4 fi64 @f64 := fun p n a0 H k => by
 rw [Afy]
 simp only [AbM, AbN, AbO]
 kernel_rfl
noncomputable def f95 (p : Pr β) (n : Nat) (a0 a1 : AV) (H : Ae) (k : KO β) : Option β :=
 p.app 1 1 .nl a0 H fun t7 H =>
 p.bin .shr a1 (.sc (.int .u64 8)) fun t9 =>
 p.bin .and t9 (si 255) fun t10 =>
 p.cvI .u8 t10 fun t11 =>
 p.bin .and a1 (si 255) fun t13 =>
 p.cvI .u8 t13 fun t14 =>
 p.fill [(su 0), (su 0)] [(0, 1, t11), (1, 1, t14)] fun ct15 => p.newSl 2 1 ct15 true H fun t15 H =>
 p.app 1 1 t7 t15 H fun t16 H =>
 k t16 H
theorem Ad2 : Nf AiP @f95 := fun p n a0 a1 H k => by kernel_rfl
noncomputable def f93 (p : Pr β) (n : Nat) (a0 a1 : AV) (H : Ae) (k : KO β) : Option β :=
 p.call 4 (.fn 80 [] []) [a1] H fun t6 H =>
 p.un .not t6 fun t7 =>
 p.cond t7
 (p.app 1 1 .nl a0 H fun t10 H =>
 k t10 H)
 (p.lenS a1 fun t13 =>
 p.call 22 (.fn 95 [] []) [a0, t13] H fun t14 H =>
 p.appS 1 t14 a1 H fun t16 H =>
 k t16 H)
theorem Ad0 : Nf AiN @f93 := fun p n a0 a1 H k => by kernel_rfl
noncomputable def f94 (p : Pr β) (n : Nat) (a0 a1 : AV) (H : Ae) (k : KO β) : Option β :=
 p.cond a0
 (k a1 H)
 (k i0 H)
theorem Ad1 : Nf AiO @f94 := fun p n a0 a1 H k => by kernel_rfl
noncomputable def f96 (p : Pr β) (n : Nat) (a0 a1 : AV) (H : Ae) (k : KO β) : Option β :=
 p.len a1 fun t6 =>
 p.bin .gtr t6 (si 60) fun t7 =>
 p.cond t7
 (p.app 1 1 .nl a0 H fun t10 H =>
 k t10 H)
 (p.len a1 fun t13 =>
 p.call 22 (.fn 95 [] []) [a0, t13] H fun t14 H =>
 p.app 1 1 t14 a1 H fun t16 H =>
 k t16 H)
theorem Ad3 : Nf AiQ @f96 := fun p n a0 a1 H k => by kernel_rfl
noncomputable def Nq (p : Pr β) (n : Nat)  (k : KO β) : Nat → AV → KO β
 | 0, _, _, _ => none
 | m + 1, t1, t5, H => p.bin .gtr t1 (si 127) fun t14 =>
   p.cond t14
   (p.bin .rem t1 (si 128) fun t17 =>
   p.bin .add (si 128) t17 fun t18 =>
   p.cvI .u8 t18 fun t19 =>
   p.fill [(su 0)] [(0, 1, t19)] fun ct20 => p.newSl 1 1 ct20 true H fun t20 H =>
   p.app 1 1 t5 t20 H fun t21 H =>
   p.bin .quo t1 (si 128) fun t23 =>
   Nq p n  k m t23 t21 H)
   (p.cvI .u8 t1 fun t26 =>
   p.fill [(su 0)] [(0, 1, t26)] fun ct27 => p.newSl 1 1 ct27 true H fun t27 H =>
   p.app 1 1 t5 t27 H fun t28 H =>
   k t28 H)
noncomputable def f97 (p : Pr β) (n : Nat) (a0 a1 : AV) (H : Ae) (k : KO β) : Option β :=
 p.app 1 1 .nl a0 H fun t8 H =>
 p.call 4 (.fn 81 [] []) [a1, i0, (si 268435455)] H fun t10 H =>
 p.un .not t10 fun t11 =>
 p.cond t11
 (k t8 H)
 (Nq p n  k n a1 t8 H)
noncomputable def Ad4 (p : Pr β) (n : Nat)  (k : KO β) (m : Nat) (tm : Tm) (H : Ae) : Option β :=
 E2 29 (fun tm H k => At A4 p [] 29 n (cd c97 [1, 1, 1, 0, 0, 0]) tm H k) (Fq 0 (E8 (fun tm H => At A4 p [] 29 n (cd c97 [1, 1, 1, 1]) tm H (Dp A4 p fi97.results k)) (Dp A4 p fi97.results k))) m tm H
theorem AbU (p : Pr β) (n : Nat)  (k : KO β) (m0 : Nat) : ∀ (t : Nat → AV) (H : Ae), Ad4 p n  k m0 (tf 29 0 t) H = Nq p n  k m0 (t 1) (t 5) H := by
 induction m0 with
 | zero => intros; rfl
 | succ m0 ih =>
  intro t H
  refine Eq.trans (C0 (nt := 29) (m := m0) (g := fun t H => Nq p n  k m0 (t 1) (t 5) H) ih rfl) ?_
  kernel_rfl
theorem Af4 (p : Pr β) (n : Nat) (a0 a1 : AV) (H : Ae) (k : KO β) : D0 A4 p n fi97 [a0, a1] H k =
 p.app 1 1 .nl a0 H fun t8 H =>
 p.call 4 (.fn 81 [] []) [a1, i0, (si 268435455)] H fun t10 H =>
 p.un .not t10 fun t11 =>
 p.cond t11
 (k t8 H)
 (Ad4 p n  k n (tf 29 0 (ud [(0, a0), (1, a1), (4, .nl), (5, t8), (6, .nl), (7, a0), (8, t8), (9, a1), (10, t10), (11, t11)] ut)) H) := by kernel_rfl
theorem Ad5 : Nf fi97 @f97 := fun p n a0 a1 H k => by
 rw [Af4]
 simp only [AbU]
 kernel_rfl
noncomputable def O6 (p : Pr β) (n : Nat)  (k : KO β) : Nat → AV → AV → AV → KO β
 | 0, _, _, _, _, _ => none
 | m + 1, t1, t3, t4, t7, H => p.fadr 23 t1 fun t183 =>
   p.load false 1 t183 H fun t184 =>
   p.len t184 fun t185 =>
   p.bin .lss t7 t185 fun t186 =>
   p.cond t186
   (p.fadr 23 t1 fun t190 =>
   p.load false 1 t190 H fun t191 =>
   p.iadr 1 t191 t7 fun t193 =>
   p.load false 1 t193 H fun t194 =>
   p.call 22 (.fn 93 [] []) [t4, t194] H fun t195 H =>
   p.bin .add t7 (si 1) fun t188 =>
   O6 p n  k m t1 t3 t195 t188 H)
   (p.cvI .u8 t3 fun t197 =>
   p.fill [(su 0)] [(0, 1, t197)] fun ct198 => p.newSl 1 1 ct198 true H fun t198 H =>
   p.len t4 fun t200 =>
   p.call 22 (.fn 97 [] []) [t198, t200] H fun t201 H =>
   p.app 1 1 t201 t4 H fun t203 H =>
   k t203 H)
noncomputable def Mr (p : Pr β) (n : Nat)  (k : KO β) : Nat → AV → AV → AV → KO β
 | 0, _, _, _, _, _ => none
 | m + 1, t1, t3, t4, t6, H => p.fadr 24 t1 fun t167 =>
   p.load false 1 t167 H fun t168 =>
   p.len t168 fun t169 =>
   p.bin .lss t6 t169 fun t170 =>
   p.cond t170
   (p.fadr 24 t1 fun t174 =>
   p.load false 1 t174 H fun t175 =>
   p.iadr 1 t175 t6 fun t177 =>
   p.load false 1 t177 H fun t178 =>
   p.cvI .u8 t178 fun t179 =>
   p.fill [(su 0)] [(0, 1, t179)] fun ct180 => p.newSl 1 1 ct180 true H fun t180 H =>
   p.app 1 1 t4 t180 H fun t181 H =>
   p.bin .add t6 (si 1) fun t172 =>
   Mr p n  k m t1 t3 t181 t172 H)
   (O6 p n  k n t1 t3 t4 i0 H)
noncomputable def Mq (p : Pr β) (n : Nat)  (k : KO β) : Nat → AV → AV → AV → KO β
 | 0, _, _, _, _, _ => none
 | m + 1, t1, t3, t4, t5, H => p.fadr 22 t1 fun t143 =>
   p.load false 1 t143 H fun t144 =>
   p.len t144 fun t145 =>
   p.bin .lss t5 t145 fun t146 =>
   p.cond t146
   (p.fadr 22 t1 fun t150 =>
   p.load false 1 t150 H fun t151 =>
   p.iadr 2 t151 t5 fun t153 =>
   p.fadr 0 t153 fun t154 =>
   p.load false 1 t154 H fun t155 =>
   p.fadr 22 t1 fun t157 =>
   p.load false 1 t157 H fun t158 =>
   p.iadr 2 t158 t5 fun t160 =>
   p.fadr 1 t160 fun t161 =>
   p.load false 1 t161 H fun t162 =>
   p.cvI .u8 t162 fun t163 =>
   E4 (fun (t1 t3 t4 t5 : AV) (H : Ae) => p.bin .add t5 (si 1) fun t148 =>
   Mq p n  k m t1 t3 t4 t148 H) fun j1 =>
   p.both
   (p.call 22 (.fn 93 [] []) [t4, t155] H fun t156 H =>
   p.fill [(su 0)] [(0, 1, t163)] fun ct164 => p.newSl 1 1 ct164 true H fun t164 H =>
   p.app 1 1 t156 t164 H fun t165 H =>
   j1 t1 t3 t165 t5 H)
   (p.fill [(su 0)] [(0, 1, t163)] fun ct164 => p.newSl 1 1 ct164 true H fun t164 H =>
   p.call 22 (.fn 93 [] []) [t4, t155] H fun t156 H =>
   p.app 1 1 t156 t164 H fun t165 H =>
   j1 t1 t3 t165 t5 H))
   (Mr p n  k n t1 t3 t4 i0 H)
noncomputable def f66 (p : Pr β) (n : Nat) (a0 : AV) (H : Ae) (k : KO β) : Option β :=
 p.box a0 H fun t1 H =>
 p.load true 25 t1 H fun t8 =>
 p.call 4 (.fn 64 [] []) [t8] H fun t9 H =>
 p.un .not t9 fun t10 =>
 p.cond t10
 (k .nl H)
 (p.fadr 0 t1 fun t12 =>
 p.load false 1 t12 H fun t13 =>
 p.bin .mul (si 16) t13 fun t14 =>
 p.fadr 0 t1 fun t16 =>
 p.load false 1 t16 H fun t17 =>
 p.bin .eql t17 (si 1) fun t19 =>
 E4 (fun (t1 t3 t4 : AV) (H : Ae) => p.fadr 0 t1 fun t130 =>
 p.load false 1 t130 H fun t131 =>
 p.bin .neq t131 (si 3) fun t132 =>
 p.gT t132 H (p.fadr 4 t1) fun t134 H =>
 p.gT t132 H (p.load false 1 t134 H) fun t135 H =>
 p.gT t132 H (p.bin .gtr t135 i0) fun t136 H =>
 p.pick t132 t136 bF fun t137 =>
 E4 (fun (t1 t3 t4 : AV) (H : Ae) => Mq p n  k n t1 t3 t4 i0 H) fun j2 =>
 p.cond t137
 (p.fadr 4 t1 fun t139 =>
 p.load false 1 t139 H fun t140 =>
 p.call 22 (.fn 95 [] []) [t4, t140] H fun t141 H =>
 j2 t1 t3 t141 H)
 (j2 t1 t3 t4 H)) fun j1 =>
 p.cond t19
 (p.fadr 8 t1 fun t22 =>
 p.load false 1 t22 H fun t23 =>
 p.cvI .u8 t23 fun t24 =>
 E4 (fun (t1 t3 t4 : AV) (H : Ae) => p.fadr 9 t1 fun t28 =>
 p.load false 1 t28 H fun t29 =>
 p.fadr 11 t1 fun t31 =>
 p.load false 1 t31 H fun t32 =>
 p.fadr 14 t1 fun t35 =>
 p.load false 1 t35 H fun t36 =>
 p.bin .mul (si 8) t36 fun t37 =>
 p.fadr 15 t1 fun t39 =>
 p.load false 1 t39 H fun t40 =>
 p.fadr 18 t1 fun t43 =>
 p.load false 1 t43 H fun t44 =>
 p.fadr 16 t1 fun t47 =>
 p.load false 1 t47 H fun t48 =>
 p.call 3 (.fn 94 [] []) [t29, (si 2)] H fun t30 H =>
 p.call 3 (.fn 94 [] []) [t32, (si 4)] H fun t33 H =>
 p.bin .add t30 t33 fun t34 =>
 p.bin .add t34 t37 fun t38 =>
 p.call 3 (.fn 94 [] []) [t40, (si 32)] H fun t41 H =>
 p.bin .add t38 t41 fun t42 =>
 p.call 3 (.fn 94 [] []) [t44, (si 64)] H fun t45 H =>
 p.bin .add t42 t45 fun t46 =>
 p.call 3 (.fn 94 [] []) [t48, (si 128)] H fun t49 H =>
 p.bin .add t46 t49 fun t50 =>
 p.cvI .u8 t50 fun t51 =>
 p.fill [(su 0)] [(0, 1, t51)] fun ct52 => p.newSl 1 1 ct52 true H fun t52 H =>
 p.app 1 1 t4 t52 H fun t53 H =>
 p.fadr 10 t1 fun t55 =>
 p.load false 1 t55 H fun t56 =>
 p.fadr 7 t1 fun t58 =>
 p.load false 1 t58 H fun t59 =>
 p.call 22 (.fn 95 [] []) [t53, t56] H fun t57 H =>
 p.call 22 (.fn 93 [] []) [t57, t59] H fun t60 H =>
 p.fadr 11 t1 fun t61 =>
 p.load false 1 t61 H fun t62 =>
 E4 (fun (t1 t3 t4 : AV) (H : Ae) => p.fadr 16 t1 fun t70 =>
 p.load false 1 t70 H fun t71 =>
 E4 (fun (t1 t3 t4 : AV) (H : Ae) => p.fadr 18 t1 fun t76 =>
 p.load false 1 t76 H fun t77 =>
 p.cond t77
 (p.fadr 19 t1 fun t79 =>
 p.load false 1 t79 H fun t80 =>
 p.call 22 (.fn 96 [] []) [t4, t80] H fun t81 H =>
 j1 t1 t3 t81 H)
 (j1 t1 t3 t4 H)) fun j5 =>
 p.cond t71
 (p.fadr 17 t1 fun t73 =>
 p.load false 1 t73 H fun t74 =>
 p.call 22 (.fn 93 [] []) [t4, t74] H fun t75 H =>
 j5 t1 t3 t75 H)
 (j5 t1 t3 t4 H)) fun j4 =>
 p.cond t62
 (p.fadr 12 t1 fun t64 =>
 p.load false 1 t64 H fun t65 =>
 p.fadr 13 t1 fun t67 =>
 p.load false 1 t67 H fun t68 =>
 p.call 22 (.fn 93 [] []) [t60, t65] H fun t66 H =>
 p.call 22 (.fn 96 [] []) [t66, t68] H fun t69 H =>
 j4 t1 t3 t69 H)
 (j4 t1 t3 t60 H)) fun j3 =>
 p.both
 (p.call 22 (.fn 93 [] []) [.nl, (.sc (.string ⟨#[77, 81, 84, 84]⟩))] H fun t21 H =>
 p.fill [(su 0)] [(0, 1, t24)] fun ct25 => p.newSl 1 1 ct25 true H fun t25 H =>
 p.app 1 1 t21 t25 H fun t26 H =>
 j3 t1 t14 t26 H)
 (p.fill [(su 0)] [(0, 1, t24)] fun ct25 => p.newSl 1 1 ct25 true H fun t25 H =>
 p.call 22 (.fn 93 [] []) [.nl, (.sc (.string ⟨#[77, 81, 84, 84]⟩))] H fun t21 H =>
 p.app 1 1 t21 t25 H fun t26 H =>
 j3 t1 t14 t26 H))
 (p.bin .eql t17 (si 2) fun t83 =>
 p.cond t83
 (p.fadr 21 t1 fun t85 =>
 p.load false 1 t85 H fun t86 =>
 p.fadr 20 t1 fun t89 =>
 p.load false 1 t89 H fun t90 =>
 p.cvI .u8 t90 fun t91 =>
 p.call 3 (.fn 94 [] []) [t86, (si 1)] H fun t87 H =>
 p.cvI .u8 t87 fun t88 =>
 p.fill [(su 0), (su 0)] [(0, 1, t88), (1, 1, t91)] fun ct92 => p.newSl 2 1 ct92 true H fun t92 H =>
 p.app 1 1 .nl t92 H fun t93 H =>
 j1 t1 t14 t93 H)
 (p.bin .eql t17 (si 3) fun t95 =>
 p.cond t95
 (p.fadr 1 t1 fun t97 =>
 p.load false 1 t97 H fun t98 =>
 p.fadr 2 t1 fun t101 =>
 p.load false 1 t101 H fun t102 =>
 p.bin .mul (si 2) t102 fun t103 =>
 p.fadr 3 t1 fun t105 =>
 p.load false 1 t105 H fun t106 =>
 p.call 3 (.fn 94 [] []) [t98, (si 8)] H fun t99 H =>
 p.bin .add t14 t99 fun t100 =>
 p.bin .add t100 t103 fun t104 =>
 p.call 3 (.fn 94 [] []) [t106, (si 1)] H fun t107 H =>
 p.bin .add t104 t107 fun t108 =>
 p.fadr 5 t1 fun t110 =>
 p.load false 1 t110 H fun t111 =>
 p.call 22 (.fn 93 [] []) [.nl, t111] H fun t112 H =>
 p.fadr 2 t1 fun t113 =>
 p.load false 1 t113 H fun t114 =>
 p.bin .gtr t114 i0 fun t115 =>
 E4 (fun (t1 t3 t4 : AV) (H : Ae) => p.fadr 6 t1 fun t121 =>
 p.load false 1 t121 H fun t122 =>
 p.app 1 1 t4 t122 H fun t123 H =>
 j1 t1 t3 t123 H) fun j6 =>
 p.cond t115
 (p.fadr 4 t1 fun t117 =>
 p.load false 1 t117 H fun t118 =>
 p.call 22 (.fn 95 [] []) [t112, t118] H fun t119 H =>
 j6 t1 t108 t119 H)
 (j6 t1 t108 t112 H))
 (p.bin .eql t17 (si 6) fun t125 =>
 E4 (fun (t1 t3 t4 t124 : AV) (H : Ae) => p.cond t124
 (p.bin .add t3 (si 2) fun t129 =>
 j1 t1 t129 t4 H)
 (j1 t1 t3 t4 H)) fun j7 =>
 p.cond t125
 (j7 t1 t14 .nl t125 H)
 (p.bin .eql t17 (si 8) fun t126 =>
 p.cond t126
 (j7 t1 t14 .nl t126 H)
 (p.bin .eql t17 (si 10) fun t127 =>
 j7 t1 t14 .nl t127 H))))))
noncomputable def Adb (p : Pr β) (n : Nat)  (k : KO β) (m : Nat) (tm : Tm) (H : Ae) : Option β :=
 E2 204 (fun tm H k => At A4 p o66 204 n (cd c66 [1, 1, 1, 1, 1, 1, 1, 1, 0, 1, 0, 0]) tm H k) (Fq 5 (E8 (fun tm H => At A4 p o66 204 n (cd c66 [1, 1, 1, 1, 1, 1, 1, 1, 1]) tm H (Dp A4 p fi66.results k)) (Dp A4 p fi66.results k))) m tm H
noncomputable def Ada (p : Pr β) (n : Nat)  (k : KO β) (m : Nat) (tm : Tm) (H : Ae) : Option β :=
 E2 204 (fun tm H k => At A4 p o66 204 n (cd c66 [1, 1, 1, 1, 1, 1, 1, 0, 1, 0, 0]) tm H k) (Fq 3 (E8 (fun tm H => At A4 p o66 204 n (cd c66 [1, 1, 1, 1, 1, 1, 1, 1]) tm H (Dp A4 p fi66.results k)) (Dp A4 p fi66.results k))) m tm H
noncomputable def AcZ (p : Pr β) (n : Nat)  (k : KO β) (m : Nat) (tm : Tm) (H : Ae) : Option β :=
 E2 204 (fun tm H k => At A4 p o66 204 n (cd c66 [1, 1, 1, 1, 1, 1, 0, 1, 0, 0]) tm H k) (Fq 1 (E8 (fun tm H => At A4 p o66 204 n (cd c66 [1, 1, 1, 1, 1, 1, 1]) tm H (Dp A4 p fi66.results k)) (Dp A4 p fi66.results k))) m tm H
theorem Uw (p : Pr β) (n : Nat)  (k : KO β) (m2 : Nat) : ∀ (t : Nat → AV) (H : Ae), Adb p n  k m2 (tf 204 0 t) H = O6 p n  k m2 (t 1) (t 3) (t 4) (t 7) H := by
 induction m2 with
 | zero => intros; rfl
 | succ m2 ih =>
  intro t H
  refine Eq.trans (C0 (nt := 204) (m := m2) (g := fun t H => O6 p n  k m2 (t 1) (t 3) (t 4) (t 7) H) ih rfl) ?_
  kernel_rfl
theorem Xn (p : Pr β) (n : Nat)  (k : KO β) (m1 : Nat) (t : Nat → AV) (H : Ae) : At A4 p o66 204 n (cd c66 [1, 1, 1, 1, 1, 1, 1, 0, 1, 0, 0]) (tf 204 0 t) H (E8 (fun tm H => Mr p n  k m1 (gt tm 1) (gt tm 3) (gt tm 4) (gt tm 6) H) (Fq 3 (E8 (fun tm H => At A4 p o66 204 n (cd c66 [1, 1, 1, 1, 1, 1, 1, 1]) tm H (Dp A4 p fi66.results k)) (Dp A4 p fi66.results k)))) =
 p.fadr 24 (t 1) fun t167 =>
 p.load false 1 t167 H fun t168 =>
 p.len t168 fun t169 =>
 p.bin .lss (t 6) t169 fun t170 =>
 p.cond t170
 (p.fadr 24 (t 1) fun t174 =>
 p.load false 1 t174 H fun t175 =>
 p.iadr 1 t175 (t 6) fun t177 =>
 p.load false 1 t177 H fun t178 =>
 p.cvI .u8 t178 fun t179 =>
 p.fill [(su 0)] [(0, 1, t179)] fun ct180 => p.newSl 1 1 ct180 true H fun t180 H =>
 p.app 1 1 (t 4) t180 H fun t181 H =>
 p.bin .add (t 6) (si 1) fun t172 =>
 Mr p n  k m1 (t 1) (t 3) t181 t172 H)
 (Adb p n  k n (tf 204 0 (ud [(7, i0), (166, (t 6)), (167, t167), (168, t168), (169, t169), (170, t170)] t)) H) := by kernel_rfl
theorem Uv (p : Pr β) (n : Nat)  (k : KO β) (m1 : Nat) : ∀ (t : Nat → AV) (H : Ae), Ada p n  k m1 (tf 204 0 t) H = Mr p n  k m1 (t 1) (t 3) (t 4) (t 6) H := by
 induction m1 with
 | zero => intros; rfl
 | succ m1 ih =>
  intro t H
  refine Eq.trans (C0 (nt := 204) (m := m1) (g := fun t H => Mr p n  k m1 (t 1) (t 3) (t 4) (t 6) H) ih rfl) ?_
  refine Eq.trans (Xn p n  k m1 t H) ?_
  simp only [Uw]
  kernel_rfl
theorem Xm (p : Pr β) (n : Nat)  (k : KO β) (m0 : Nat) (t : Nat → AV) (H : Ae) : At A4 p o66 204 n (cd c66 [1, 1, 1, 1, 1, 1, 0, 1, 0, 0]) (tf 204 0 t) H (E8 (fun tm H => Mq p n  k m0 (gt tm 1) (gt tm 3) (gt tm 4) (gt tm 5) H) (Fq 1 (E8 (fun tm H => At A4 p o66 204 n (cd c66 [1, 1, 1, 1, 1, 1, 1]) tm H (Dp A4 p fi66.results k)) (Dp A4 p fi66.results k)))) =
 p.fadr 22 (t 1) fun t143 =>
 p.load false 1 t143 H fun t144 =>
 p.len t144 fun t145 =>
 p.bin .lss (t 5) t145 fun t146 =>
 p.cond t146
 (p.fadr 22 (t 1) fun t150 =>
 p.load false 1 t150 H fun t151 =>
 p.iadr 2 t151 (t 5) fun t153 =>
 p.fadr 0 t153 fun t154 =>
 p.load false 1 t154 H fun t155 =>
 p.fadr 22 (t 1) fun t157 =>
 p.load false 1 t157 H fun t158 =>
 p.iadr 2 t158 (t 5) fun t160 =>
 p.fadr 1 t160 fun t161 =>
 p.load false 1 t161 H fun t162 =>
 p.cvI .u8 t162 fun t163 =>
 E4 (fun (t : Nat → AV) (H : Ae) => p.bin .add (t 5) (si 1) fun t148 =>
 Mq p n  k m0 (t 1) (t 3) (t 4) t148 H) fun j1 =>
 p.both
 (p.call 22 (.fn 93 [] []) [(t 4), t155] H fun t156 H =>
 p.fill [(su 0)] [(0, 1, t163)] fun ct164 => p.newSl 1 1 ct164 true H fun t164 H =>
 p.app 1 1 t156 t164 H fun t165 H =>
 j1 (ud [(4, t165), (142, (t 5)), (143, t143), (144, t144), (145, t145), (146, t146), (149, (t 4)), (150, t150), (151, t151), (152, (t 5)), (153, t153), (154, t154), (155, t155), (156, t156), (157, t157), (158, t158), (159, (t 5)), (160, t160), (161, t161), (162, t162), (163, t163), (164, t164), (165, t165)] t) H)
 (p.fill [(su 0)] [(0, 1, t163)] fun ct164 => p.newSl 1 1 ct164 true H fun t164 H =>
 p.call 22 (.fn 93 [] []) [(t 4), t155] H fun t156 H =>
 p.app 1 1 t156 t164 H fun t165 H =>
 j1 (ud [(4, t165), (142, (t 5)), (143, t143), (144, t144), (145, t145), (146, t146), (149, (t 4)), (150, t150), (151, t151), (152, (t 5)), (153, t153), (154, t154), (155, t155), (156, t156), (157, t157), (158, t158), (159, (t 5)), (160, t160), (161, t161), (162, t162), (163, t163), (164, t164), (165, t165)] t) H))
 (Ada p n  k n (tf 204 0 (ud [(6, i0), (142, (t 5)), (143, t143), (144, t144), (145, t145), (146, t146)] t)) H) := by kernel_rfl
theorem AbP (p : Pr β) (n : Nat)  (k : KO β) (m0 : Nat) : ∀ (t : Nat → AV) (H : Ae), AcZ p n  k m0 (tf 204 0 t) H = Mq p n  k m0 (t 1) (t 3) (t 4) (t 5) H := by
 induction m0 with
 | zero => intros; rfl
 | succ m0 ih =>
  intro t H
  refine Eq.trans (C0 (nt := 204) (m := m0) (g := fun t H => Mq p n  k m0 (t 1) (t 3) (t 4) (t 5) H) ih rfl) ?_
  refine Eq.trans (Xm p n  k m0 t H) ?_
  simp only [Uv]
  kernel_rfl
theorem Afz (p : Pr β) (n : Nat) (a0 : AV) (H : Ae) (k : KO β) : D0 A4 p n fi66 [a0] H k =
 p.box a0 H fun t1 H =>
 p.load true 25 t1 H fun t8 =>
 p.call 4 (.fn 64 [] []) [t8] H fun t9 H =>
 p.un .not t9 fun t10 =>
 p.cond t10
 (k .nl H)
 (p.fadr 0 t1 fun t12 =>
 p.load false 1 t12 H fun t13 =>
 p.bin .mul (si 16) t13 fun t14 =>
 p.fadr 0 t1 fun t16 =>
 p.load false 1 t16 H fun t17 =>
 p.bin .eql t17 (si 1) fun t19 =>
 E4 (fun (t : Nat → AV) (H : Ae) => p.fadr 0 (t 1) fun t130 =>
 p.load false 1 t130 H fun t131 =>
 p.bin .neq t131 (si 3) fun t132 =>
 p.gT t132 H (p.fadr 4 (t 1)) fun t134 H =>
 p.gT t132 H (p.load false 1 t134 H) fun t135 H =>
 p.gT t132 H (p.bin .gtr t135 i0) fun t136 H =>
 p.pick t132 t136 bF fun t137 =>
 E4 (fun (t : Nat → AV) (H : Ae) => AcZ p n  k n (tf 204 0 (ud [(5, i0)] t)) H) fun j2 =>
 p.cond t137
 (p.fadr 4 (t 1) fun t139 =>
 p.load false 1 t139 H fun t140 =>
 p.call 22 (.fn 95 [] []) [(t 4), t140] H fun t141 H =>
 j2 (ud [(4, t141), (130, t130), (131, t131), (132, t132), (133, t132), (134, t134), (135, t135), (136, t136), (137, t137), (138, (t 4)), (139, t139), (140, t140), (141, t141)] t) H)
 (j2 (ud [(130, t130), (131, t131), (132, t132), (133, t132), (134, t134), (135, t135), (136, t136), (137, t137)] t) H)) fun j1 =>
 p.cond t19
 (p.fadr 8 t1 fun t22 =>
 p.load false 1 t22 H fun t23 =>
 p.cvI .u8 t23 fun t24 =>
 E4 (fun (t : Nat → AV) (H : Ae) => p.fadr 9 (t 1) fun t28 =>
 p.load false 1 t28 H fun t29 =>
 p.fadr 11 (t 1) fun t31 =>
 p.load false 1 t31 H fun t32 =>
 p.fadr 14 (t 1) fun t35 =>
 p.load false 1 t35 H fun t36 =>
 p.bin .mul (si 8) t36 fun t37 =>
 p.fadr 15 (t 1) fun t39 =>
 p.load false 1 t39 H fun t40 =>
 p.fadr 18 (t 1) fun t43 =>
 p.load false 1 t43 H fun t44 =>
 p.fadr 16 (t 1) fun t47 =>
 p.load false 1 t47 H fun t48 =>
 p.call 3 (.fn 94 [] []) [t29, (si 2)] H fun t30 H =>
 p.call 3 (.fn 94 [] []) [t32, (si 4)] H fun t33 H =>
 p.bin .add t30 t33 fun t34 =>
 p.bin .add t34 t37 fun t38 =>
 p.call 3 (.fn 94 [] []) [t40, (si 32)] H fun t41 H =>
 p.bin .add t38 t41 fun t42 =>
 p.call 3 (.fn 94 [] []) [t44, (si 64)] H fun t45 H =>
 p.bin .add t42 t45 fun t46 =>
 p.call 3 (.fn 94 [] []) [t48, (si 128)] H fun t49 H =>
 p.bin .add t46 t49 fun t50 =>
 p.cvI .u8 t50 fun t51 =>
 p.fill [(su 0)] [(0, 1, t51)] fun ct52 => p.newSl 1 1 ct52 true H fun t52 H =>
 p.app 1 1 (t 4) t52 H fun t53 H =>
 p.fadr 10 (t 1) fun t55 =>
 p.load false 1 t55 H fun t56 =>
 p.fadr 7 (t 1) fun t58 =>
 p.load false 1 t58 H fun t59 =>
 p.call 22 (.fn 95 [] []) [t53, t56] H fun t57 H =>
 p.call 22 (.fn 93 [] []) [t57, t59] H fun t60 H =>
 p.fadr 11 (t 1) fun t61 =>
 p.load false 1 t61 H fun t62 =>
 E4 (fun (t : Nat → AV) (H : Ae) => p.fadr 16 (t 1) fun t70 =>
 p.load false 1 t70 H fun t71 =>
 E4 (fun (t : Nat → AV) (H : Ae) => p.fadr 18 (t 1) fun t76 =>
 p.load false 1 t76 H fun t77 =>
 p.cond t77
 (p.fadr 19 (t 1) fun t79 =>
 p.load false 1 t79 H fun t80 =>
 p.call 22 (.fn 96 [] []) [(t 4), t80] H fun t81 H =>
 j1 (ud [(4, t81), (76, t76), (77, t77), (78, (t 4)), (79, t79), (80, t80), (81, t81)] t) H)
 (j1 (ud [(76, t76), (77, t77)] t) H)) fun j5 =>
 p.cond t71
 (p.fadr 17 (t 1) fun t73 =>
 p.load false 1 t73 H fun t74 =>
 p.call 22 (.fn 93 [] []) [(t 4), t74] H fun t75 H =>
 j5 (ud [(4, t75), (70, t70), (71, t71), (72, (t 4)), (73, t73), (74, t74), (75, t75)] t) H)
 (j5 (ud [(70, t70), (71, t71)] t) H)) fun j4 =>
 p.cond t62
 (p.fadr 12 (t 1) fun t64 =>
 p.load false 1 t64 H fun t65 =>
 p.fadr 13 (t 1) fun t67 =>
 p.load false 1 t67 H fun t68 =>
 p.call 22 (.fn 93 [] []) [t60, t65] H fun t66 H =>
 p.call 22 (.fn 96 [] []) [t66, t68] H fun t69 H =>
 j4 (ud [(4, t69), (27, (t 4)), (28, t28), (29, t29), (30, t30), (31, t31), (32, t32), (33, t33), (34, t34), (35, t35), (36, t36), (37, t37), (38, t38), (39, t39), (40, t40), (41, t41), (42, t42), (43, t43), (44, t44), (45, t45), (46, t46), (47, t47), (48, t48), (49, t49), (50, t50), (51, t51), (52, t52), (53, t53), (54, t53), (55, t55), (56, t56), (57, t57), (58, t58), (59, t59), (60, t60), (61, t61), (62, t62), (63, t60), (64, t64), (65, t65), (66, t66), (67, t67), (68, t68), (69, t69)] t) H)
 (j4 (ud [(4, t60), (27, (t 4)), (28, t28), (29, t29), (30, t30), (31, t31), (32, t32), (33, t33), (34, t34), (35, t35), (36, t36), (37, t37), (38, t38), (39, t39), (40, t40), (41, t41), (42, t42), (43, t43), (44, t44), (45, t45), (46, t46), (47, t47), (48, t48), (49, t49), (50, t50), (51, t51), (52, t52), (53, t53), (54, t53), (55, t55), (56, t56), (57, t57), (58, t58), (59, t59), (60, t60), (61, t61), (62, t62)] t) H)) fun j3 =>
 p.both
 (p.call 22 (.fn 93 [] []) [.nl, (.sc (.string ⟨#[77, 81, 84, 84]⟩))] H fun t21 H =>
 p.fill [(su 0)] [(0, 1, t24)] fun ct25 => p.newSl 1 1 ct25 true H fun t25 H =>
 p.app 1 1 t21 t25 H fun t26 H =>
 j3 (ud [(0, a0), (1, t1), (2, .nl), (3, t14), (4, t26), (8, t8), (9, t9), (10, t10), (12, t12), (13, t13), (14, t14), (15, .nl), (16, t16), (17, t17), (18, t19), (19, t19), (20, .nl), (21, t21), (22, t22), (23, t23), (24, t24), (25, t25), (26, t26)] ut) H)
 (p.fill [(su 0)] [(0, 1, t24)] fun ct25 => p.newSl 1 1 ct25 true H fun t25 H =>
 p.call 22 (.fn 93 [] []) [.nl, (.sc (.string ⟨#[77, 81, 84, 84]⟩))] H fun t21 H =>
 p.app 1 1 t21 t25 H fun t26 H =>
 j3 (ud [(0, a0), (1, t1), (2, .nl), (3, t14), (4, t26), (8, t8), (9, t9), (10, t10), (12, t12), (13, t13), (14, t14), (15, .nl), (16, t16), (17, t17), (18, t19), (19, t19), (20, .nl), (21, t21), (22, t22), (23, t23), (24, t24), (25, t25), (26, t26)] ut) H))
 (p.bin .eql t17 (si 2) fun t83 =>
 p.cond t83
 (p.fadr 21 t1 fun t85 =>
 p.load false 1 t85 H fun t86 =>
 p.fadr 20 t1 fun t89 =>
 p.load false 1 t89 H fun t90 =>
 p.cvI .u8 t90 fun t91 =>
 p.call 3 (.fn 94 [] []) [t86, (si 1)] H fun t87 H =>
 p.cvI .u8 t87 fun t88 =>
 p.fill [(su 0), (su 0)] [(0, 1, t88), (1, 1, t91)] fun ct92 => p.newSl 2 1 ct92 true H fun t92 H =>
 p.app 1 1 .nl t92 H fun t93 H =>
 j1 (ud [(0, a0), (1, t1), (2, .nl), (3, t14), (4, t93), (8, t8), (9, t9), (10, t10), (12, t12), (13, t13), (14, t14), (15, .nl), (16, t16), (17, t17), (18, t19), (19, t19), (82, t83), (83, t83), (84, .nl), (85, t85), (86, t86), (87, t87), (88, t88), (89, t89), (90, t90), (91, t91), (92, t92), (93, t93)] ut) H)
 (p.bin .eql t17 (si 3) fun t95 =>
 p.cond t95
 (p.fadr 1 t1 fun t97 =>
 p.load false 1 t97 H fun t98 =>
 p.fadr 2 t1 fun t101 =>
 p.load false 1 t101 H fun t102 =>
 p.bin .mul (si 2) t102 fun t103 =>
 p.fadr 3 t1 fun t105 =>
 p.load false 1 t105 H fun t106 =>
 p.call 3 (.fn 94 [] []) [t98, (si 8)] H fun t99 H =>
 p.bin .add t14 t99 fun t100 =>
 p.bin .add t100 t103 fun t104 =>
 p.call 3 (.fn 94 [] []) [t106, (si 1)] H fun t107 H =>
 p.bin .add t104 t107 fun t108 =>
 p.fadr 5 t1 fun t110 =>
 p.load false 1 t110 H fun t111 =>
 p.call 22 (.fn 93 [] []) [.nl, t111] H fun t112 H =>
 p.fadr 2 t1 fun t113 =>
 p.load false 1 t113 H fun t114 =>
 p.bin .gtr t114 i0 fun t115 =>
 E4 (fun (t : Nat → AV) (H : Ae) => p.fadr 6 (t 1) fun t121 =>
 p.load false 1 t121 H fun t122 =>
 p.app 1 1 (t 4) t122 H fun t123 H =>
 j1 (ud [(4, t123), (120, (t 4)), (121, t121), (122, t122), (123, t123)] t) H) fun j6 =>
 p.cond t115
 (p.fadr 4 t1 fun t117 =>
 p.load false 1 t117 H fun t118 =>
 p.call 22 (.fn 95 [] []) [t112, t118] H fun t119 H =>
 j6 (ud [(0, a0), (1, t1), (2, .nl), (3, t108), (4, t119), (8, t8), (9, t9), (10, t10), (12, t12), (13, t13), (14, t14), (15, .nl), (16, t16), (17, t17), (18, t19), (19, t19), (82, t83), (83, t83), (94, t95), (95, t95), (96, t14), (97, t97), (98, t98), (99, t99), (100, t100), (101, t101), (102, t102), (103, t103), (104, t104), (105, t105), (106, t106), (107, t107), (108, t108), (109, .nl), (110, t110), (111, t111), (112, t112), (113, t113), (114, t114), (115, t115), (116, t112), (117, t117), (118, t118), (119, t119)] ut) H)
 (j6 (ud [(0, a0), (1, t1), (2, .nl), (3, t108), (4, t112), (8, t8), (9, t9), (10, t10), (12, t12), (13, t13), (14, t14), (15, .nl), (16, t16), (17, t17), (18, t19), (19, t19), (82, t83), (83, t83), (94, t95), (95, t95), (96, t14), (97, t97), (98, t98), (99, t99), (100, t100), (101, t101), (102, t102), (103, t103), (104, t104), (105, t105), (106, t106), (107, t107), (108, t108), (109, .nl), (110, t110), (111, t111), (112, t112), (113, t113), (114, t114), (115, t115)] ut) H))
 (p.bin .eql t17 (si 6) fun t125 =>
 E4 (fun (t : Nat → AV) (H : Ae) => p.cond (t 124)
 (p.bin .add (t 3) (si 2) fun t129 =>
 j1 (ud [(3, t129), (128, (t 3)), (129, t129)] t) H)
 (j1 t H)) fun j7 =>
 p.cond t125
 (j7 (ud [(0, a0), (1, t1), (2, .nl), (3, t14), (4, .nl), (8, t8), (9, t9), (10, t10), (12, t12), (13, t13), (14, t14), (15, .nl), (16, t16), (17, t17), (18, t19), (19, t19), (82, t83), (83, t83), (94, t95), (95, t95), (124, t125), (125, t125)] ut) H)
 (p.bin .eql t17 (si 8) fun t126 =>
 p.cond t126
 (j7 (ud [(0, a0), (1, t1), (2, .nl), (3, t14), (4, .nl), (8, t8), (9, t9), (10, t10), (12, t12), (13, t13), (14, t14), (15, .nl), (16, t16), (17, t17), (18, t19), (19, t19), (82, t83), (83, t83), (94, t95), (95, t95), (124, t126), (125, t125), (126, t126)] ut) H)
 (p.bin .eql t17 (si 10) fun t127 =>
 j7 (ud [(0, a0), (1, t1), (2, .nl), (3, t14), (4, .nl), (8, t8), (9, t9), (10, t10), (12, t12), (13, t13), (14, t14), (15, .nl), (16, t16), (17, t17), (18, t19), (19, t19), (82, t83), (83, t83), (94, t95), (95, t95), (124, t127), (125, t125), (126, t126), (127, t127)] ut) H)))))) := by kernel_rfl
theorem Adc : M4 fi66 @f66 := fun p n a0 H k => by
 rw [Afz]
 simp only [Uw, Uv, AbP]
 kernel_rfl
noncomputable def f31 (p : Pr β) (n : Nat) (a0 : AV) (H : Ae) (k : KO β) : Option β :=
 p.new Ez H fun t2 H =>
 p.len a0 fun t10 =>
 p.bin .eql t10 i0 fun t11 =>
 p.cond t11
 (p.fill Ez [] fun ct12 =>
 p.store 25 t2 (.agg ct12) H fun H =>
 p.load true 25 t2 H fun r0 =>
 k (Dt [r0, i0, (si 1)]) H)
 (p.iadr 1 a0 i0 fun t14 =>
 p.load false 1 t14 H fun t15 =>
 p.cvI .i64 t15 fun t16 =>
 p.call 4 (.fn 61 [] []) [t16] H fun t17 H =>
 p.un .not t17 fun t18 =>
 p.cond t18
 (p.fill Ez [] fun ct19 =>
 p.store 25 t2 (.agg ct19) H fun H =>
 p.load true 25 t2 H fun r0 =>
 k (Dt [r0, i0, (si 2)]) H)
 (p.call 85 (.fn 62 [] []) [a0, (si 1)] H fun t22 H =>
 p.extr t22 0 fun t23 =>
 p.extr t22 1 fun t24 =>
 p.extr t22 2 fun t25 =>
 p.bin .neq t25 i0 fun t27 =>
 p.cond t27
 (p.fill Ez [] fun ct28 =>
 p.store 25 t2 (.agg ct28) H fun H =>
 p.load true 25 t2 H fun r0 =>
 k (Dt [r0, i0, t25]) H)
 (p.bin .gtr t23 (si 340) fun t31 =>
 p.cond t31
 (p.fill Ez [] fun ct32 =>
 p.store 25 t2 (.agg ct32) H fun H =>
 p.load true 25 t2 H fun r0 =>
 k (Dt [r0, i0, (si 2)]) H)
 (p.len a0 fun t35 =>
 p.bin .sub t35 t24 fun t37 =>
 p.bin .gtr t23 t37 fun t38 =>
 p.cond t38
 (p.fill Ez [] fun ct39 =>
 p.store 25 t2 (.agg ct39) H fun H =>
 p.load true 25 t2 H fun r0 =>
 k (Dt [r0, i0, (si 1)]) H)
 (p.iadr 1 a0 i0 fun t41 =>
 p.load false 1 t41 H fun t42 =>
 p.cvI .i64 t42 fun t43 =>
 p.bin .add t24 t23 fun t48 =>
 p.slice 1 a0 (some t24) (some t48) fun t49 =>
 E4 (fun (t0 t2 t5 t6 t8 : AV) (H : Ae) => p.load true 25 t8 H fun t51 =>
 p.call 4 (.fn 64 [] []) [t51] H fun t52 H =>
 p.un .not t52 fun t53 =>
 p.gF t53 H (p.load true 25 t8 H) fun t55 H =>
 p.kF t53 H t0 fun t57 H =>
 p.kF t53 H t6 fun t58 H =>
 p.kF t53 H t5 fun t59 H =>
 p.gF t53 H (p.bin .add t58 t59) fun t60 H =>
 p.gF t53 H (p.slice 1 t57 none (some t60)) fun t61 H =>
 p.hF t53 H (p.call 22 (.fn 66 [] []) [t55] H) fun t56 H =>
 p.hF t53 H (p.call 4 (.fn 65 [] []) [t56, t61] H) fun t62 H =>
 p.gF t53 H (p.un .not t62) fun t63 H =>
 p.pick t53 bT t63 fun t64 =>
 p.cond t64
 (p.fill Ez [] fun ct65 =>
 p.store 25 t2 (.agg ct65) H fun H =>
 p.load true 25 t2 H fun r0 =>
 k (Dt [r0, i0, (si 2)]) H)
 (p.load true 25 t8 H fun t66 =>
 p.bin .add t6 t5 fun t69 =>
 p.store 25 t2 t66 H fun H =>
 p.load true 25 t2 H fun r0 =>
 k (Dt [r0, t69, i0]) H)) fun j1 =>
 p.both
 (p.call 59 (.fn 63 [] []) [t43, t49] H fun t50 H =>
 p.new Ez H fun t8 H =>
 p.store 25 t8 t50 H fun H =>
 j1 a0 t2 t23 t24 t8 H)
 (p.new Ez H fun t8 H =>
 p.call 59 (.fn 63 [] []) [t43, t49] H fun t50 H =>
 p.store 25 t8 t50 H fun H =>
 j1 a0 t2 t23 t24 t8 H))))))
theorem AcL : M4 Ai6 @f31 := fun p n a0 H k => by kernel_rfl
noncomputable def f29 (p : Pr β) (n : Nat) (a0 : AV) (H : Ae) (k : KO β) : Option β :=
 p.box a0 H fun t1 H =>
 p.fadr 0 t1 fun t6 =>
 p.load false 1 t6 H fun t7 =>
 p.len t7 fun t8 =>
 p.bin .eql t8 i0 fun t9 =>
 p.cond t9
 (k bT H)
 (p.fadr 0 t1 fun t11 =>
 p.load false 1 t11 H fun t12 =>
 p.call 60 (.fn 31 [] []) [t12] H fun t13 H =>
 p.extr t13 0 fun t14 =>
 p.extr t13 1 fun t15 =>
 p.extr t13 2 fun t16 =>
 p.new Ez H fun t3 H =>
 p.store 25 t3 t14 H fun H =>
 p.bin .eql t16 (si 1) fun t18 =>
 p.gT t18 H (p.fadr 1 t1) fun t20 H =>
 p.gT t18 H (p.load false 1 t20 H) fun t21 H =>
 p.gT t18 H (p.un .not t21) fun t22 H =>
 p.pick t18 t22 bF fun t23 =>
 k t23 H)
theorem AcJ : M4 Ai4 @f29 := fun p n a0 H k => by kernel_rfl
noncomputable def f98 (p : Pr β) (n : Nat) (a0 a1 a2 : AV) (H : Ae) (k : KO β) : Option β :=
 p.bin .geq a0 a1 fun t9 =>
 p.kT t9 H a0 fun t11 H =>
 p.kT t9 H a2 fun t12 H =>
 p.gT t9 H (p.bin .leq t11 t12) fun t13 H =>
 p.pick t9 t13 bF fun t14 =>
 k t14 H
theorem Ad6 : Bd3 AiR @f98 := fun p n a0 a1 a2 H k => by kernel_rfl
noncomputable def f67 (p : Pr β) (n : Nat) (a0 : AV) (H : Ae) (k : KO β) : Option β :=
 p.bin .quo a0 (si 16) fun t7 =>
 p.bin .rem a0 (si 16) fun t9 =>
 p.bin .eql t7 (si 3) fun t12 =>
 p.cond t12
 (p.bin .shr t9 (.sc (.int .u64 1)) fun t14 =>
 p.bin .and t14 (si 3) fun t15 =>
 p.bin .neq t15 (si 3) fun t17 =>
 p.kT t17 H t15 fun t19 H =>
 p.gT t17 H (p.bin .gtr t19 i0) fun t20 H =>
 p.kT t17 H t20 fun t21 H =>
 p.kF t21 H t9 fun t22 H =>
 p.gF t21 H (p.bin .and t22 (si 8)) fun t23 H =>
 p.gF t21 H (p.bin .eql t23 i0) fun t24 H =>
 p.gT t17 H (p.pick t21 bT t24) fun t25 H =>
 p.pick t17 t25 bF fun t26 =>
 k t26 H)
 (p.bin .eql t7 (si 6) fun t28 =>
 E4 (fun (t3 t4 t27 : AV) (H : Ae) => p.cond t27
 (p.bin .eql t4 (si 2) fun t32 =>
 k t32 H)
 (p.call 4 (.fn 98 [] []) [t3, (si 1), (si 14)] H fun t34 H =>
 p.kT t34 H t4 fun t36 H =>
 p.gT t34 H (p.bin .eql t36 i0) fun t37 H =>
 p.pick t34 t37 bF fun t38 =>
 k t38 H)) fun j1 =>
 p.cond t28
 (j1 t7 t9 t28 H)
 (p.bin .eql t7 (si 8) fun t29 =>
 p.cond t29
 (j1 t7 t9 t29 H)
 (p.bin .eql t7 (si 10) fun t30 =>
 j1 t7 t9 t30 H)))
theorem Add : M4 AiB @f67 := fun p n a0 H k => by kernel_rfl
noncomputable def O7 (p : Pr β) (n : Nat)  (k : KO β) : Nat → AV → AV → AV → KO β
 | 0, _, _, _, _, _ => none
 | m + 1, t0, t1, t7, t15, H => p.bin .lss t15 (si 4) fun t16 =>
   p.cond t16
   (p.bin .add t1 t15 fun t20 =>
   p.len t0 fun t22 =>
   p.bin .eql t20 t22 fun t23 =>
   p.cond t23
   (k (Dt [i0, i0, (si 1)]) H)
   (p.bin .add t1 t15 fun t27 =>
   p.iadr 1 t0 t27 fun t28 =>
   p.load false 1 t28 H fun t29 =>
   p.cvI .i64 t29 fun t30 =>
   p.bin .and t30 (si 127) fun t33 =>
   p.bin .mul (si 7) t15 fun t35 =>
   p.bin .shl t33 t35 fun t36 =>
   p.bin .or t7 t36 fun t37 =>
   p.bin .gtr t30 (si 127) fun t39 =>
   p.cond t39
   (p.bin .add t15 (si 1) fun t51 =>
   O7 p n  k m t0 t1 t37 t51 H)
   (p.bin .gtr t15 i0 fun t41 =>
   p.kT t41 H t30 fun t43 H =>
   p.gT t41 H (p.bin .eql t43 i0) fun t44 H =>
   p.pick t41 t44 bF fun t45 =>
   p.cond t45
   (k (Dt [i0, i0, (si 2)]) H)
   (p.bin .add t1 t15 fun t49 =>
   p.bin .add t49 (si 1) fun t50 =>
   k (Dt [t37, t50, i0]) H))))
   (k (Dt [i0, i0, (si 2)]) H)
noncomputable def f68 (p : Pr β) (n : Nat) (a0 a1 : AV) (H : Ae) (k : KO β) : Option β :=
 p.len a0 fun t12 =>
 p.call 4 (.fn 98 [] []) [a1, i0, t12] H fun t13 H =>
 p.un .not t13 fun t14 =>
 p.cond t14
 (k (Dt [i0, i0, (si 2)]) H)
 (O7 p n  k n a0 a1 i0 i0 H)
noncomputable def Ade (p : Pr β) (n : Nat)  (k : KO β) (m : Nat) (tm : Tm) (H : Ae) : Option β :=
 E2 52 (fun tm H k => At A4 p [] 52 n (cd c68 [1, 1, 1, 0, 1, 0, 0]) tm H k) (Fq 0 (E8 (fun tm H => At A4 p [] 52 n (cd c68 [1, 1, 1, 1]) tm H (Dp A4 p fi68.results k)) (Dp A4 p fi68.results k))) m tm H
theorem AbQ (p : Pr β) (n : Nat)  (k : KO β) (m0 : Nat) : ∀ (t : Nat → AV) (H : Ae), Ade p n  k m0 (tf 52 0 t) H = O7 p n  k m0 (t 0) (t 1) (t 7) (t 15) H := by
 induction m0 with
 | zero => intros; rfl
 | succ m0 ih =>
  intro t H
  refine Eq.trans (C0 (nt := 52) (m := m0) (g := fun t H => O7 p n  k m0 (t 0) (t 1) (t 7) (t 15) H) ih rfl) ?_
  kernel_rfl
theorem Af0 (p : Pr β) (n : Nat) (a0 a1 : AV) (H : Ae) (k : KO β) : D0 A4 p n fi68 [a0, a1] H k =
 p.len a0 fun t12 =>
 p.call 4 (.fn 98 [] []) [a1, i0, t12] H fun t13 H =>
 p.un .not t13 fun t14 =>
 p.cond t14
 (k (Dt [i0, i0, (si 2)]) H)
 (Ade p n  k n (tf 52 0 (ud [(0, a0), (1, a1), (4, i0), (5, i0), (6, i0), (7, i0), (10, a1), (11, a0), (12, t12), (13, t13), (14, t14), (15, i0)] ut)) H) := by kernel_rfl
theorem Adf : Nf fi68 @f68 := fun p n a0 a1 H k => by
 rw [Af0]
 simp only [AbQ]
 kernel_rfl
noncomputable def f130 (p : Pr β) (n : Nat) (a0 a1 : AV) (H : Ae) (k : KO β) : Option β :=
 p.bin .lss a1 i0 fun t8 =>
 p.kF t8 H a1 fun t10 H =>
 p.kF t8 H a0 fun t11 H =>
 p.gF t8 H (p.len t11) fun t12 H =>
 p.gF t8 H (p.bin .sub t12 (si 2)) fun t13 H =>
 p.gF t8 H (p.bin .gtr t10 t13) fun t14 H =>
 p.pick t8 bT t14 fun t15 =>
 p.cond t15
 (k (Dt [i0, i0, bF]) H)
 (p.iadr 1 a0 a1 fun t18 =>
 p.load false 1 t18 H fun t19 =>
 p.cvI .i64 t19 fun t20 =>
 p.bin .shl t20 (.sc (.int .u64 8)) fun t21 =>
 p.bin .add a1 (si 1) fun t24 =>
 p.iadr 1 a0 t24 fun t25 =>
 p.load false 1 t25 H fun t26 =>
 p.cvI .i64 t26 fun t27 =>
 p.bin .or t21 t27 fun t28 =>
 p.bin .add a1 (si 2) fun t30 =>
 k (Dt [t28, t30, bT]) H)
theorem Ab3 : Nf Ag9 @f130 := fun p n a0 a1 H k => by kernel_rfl
noncomputable def Ms (p : Pr β) (n : Nat)  (k : KO β) : Nat → AV → AV → AV → KO β
 | 0, _, _, _, _, _ => none
 | m + 1, t3, t7, t8, t9, H => p.bin .lss t9 t8 fun t10 =>
   p.cond t10
   (p.iadr 1 t7 t9 fun t11 =>
   p.load false 1 t11 H fun t12 =>
   p.app 1 1 t3 t12 H fun t15 H =>
   p.bin .add t9 (si 1) fun t16 =>
   Ms p n  k m t15 t7 t8 t16 H)
   (k t3 H)
noncomputable def f77 (p : Pr β) (n : Nat) (a0 : AV) (H : Ae) (k : KO β) : Option β :=
 p.len a0 fun t8 =>
 Ms p n  k n .nl a0 t8 i0 H
noncomputable def Adk (p : Pr β) (n : Nat)  (k : KO β) (m : Nat) (tm : Tm) (H : Ae) : Option β :=
 E2 18 (fun tm H k => At A4 p [] 18 n (cd c77 [1, 1, 0, 1, 0, 0]) tm H k) (Fq 0 (E8 (fun tm H => At A4 p [] 18 n (cd c77 [1, 1, 1]) tm H (Dp A4 p fi77.results k)) (Dp A4 p fi77.results k))) m tm H
theorem AbR (p : Pr β) (n : Nat)  (k : KO β) (m0 : Nat) : ∀ (t : Nat → AV) (H : Ae), Adk p n  k m0 (tf 18 0 t) H = Ms p n  k m0 (t 3) (t 7) (t 8) (t 9) H := by
 induction m0 with
 | zero => intros; rfl
 | succ m0 ih =>
  intro t H
  refine Eq.trans (C0 (nt := 18) (m := m0) (g := fun t H => Ms p n  k m0 (t 3) (t 7) (t 8) (t 9) H) ih rfl) ?_
  kernel_rfl
theorem Af1 (p : Pr β) (n : Nat) (a0 : AV) (H : Ae) (k : KO β) : D0 A4 p n fi77 [a0] H k =
 p.len a0 fun t8 =>
 Adk p n  k n (tf 18 0 (ud [(0, a0), (2, .nl), (3, .nl), (6, .nl), (7, a0), (8, t8), (9, i0)] ut)) H := by kernel_rfl
theorem Adl : M4 fi77 @f77 := fun p n a0 H k => by
 rw [Af1]
 simp only [AbR]
 kernel_rfl
noncomputable def f146 (p : Pr β) (n : Nat) (a0 a1 : AV) (H : Ae) (k : KO β) : Option β :=
 p.call 110 (.fn 130 [] []) [a0, a1] H fun t13 H =>
 p.extr t13 0 fun t14 =>
 p.extr t13 1 fun t15 =>
 p.extr t13 2 fun t16 =>
 p.un .not t16 fun t18 =>
 p.kF t18 H t14 fun t20 H =>
 p.gF t18 H (p.bin .gtr t20 (si 60)) fun t21 H =>
 p.pick t18 bT t21 fun t22 =>
 p.kF t22 H t14 fun t24 H =>
 p.kF t22 H a0 fun t25 H =>
 p.gF t22 H (p.len t25) fun t26 H =>
 p.kF t22 H t15 fun t27 H =>
 p.gF t22 H (p.bin .sub t26 t27) fun t28 H =>
 p.gF t22 H (p.bin .gtr t24 t28) fun t29 H =>
 p.pick t22 bT t29 fun t30 =>
 p.cond t30
 (k (Dt [.nl, i0, bF]) H)
 (p.bin .add t15 t14 fun t35 =>
 p.slice 1 a0 (some t15) (some t35) fun t36 =>
 p.fill [.nl] [(0, 1, t36)] fun ct37 => p.newSl 1 1 ct37 true H fun t37 H =>
 p.call 22 (.fn 77 [] []) [t37] H fun t38 H =>
 p.bin .add t15 t14 fun t41 =>
 k (Dt [t38, t41, bT]) H)
theorem AbF : Nf AgG @f146 := fun p n a0 a1 H k => by kernel_rfl
noncomputable def f129 (p : Pr β) (n : Nat) (a0 : AV) (H : Ae) (k : KO β) : Option β :=
 p.nil a0 fun t8 =>
 p.fadr 0 t8 fun t9 =>
 p.load false 1 t9 H fun t10 =>
 p.nil a0 fun t12 =>
 p.fadr 1 t12 fun t13 =>
 p.load false 1 t13 H fun t14 =>
 p.call 131 (.fn 146 [] []) [t10, t14] H fun t15 H =>
 p.extr t15 0 fun t16 =>
 p.extr t15 1 fun t17 =>
 p.extr t15 2 fun t18 =>
 p.nil a0 fun t20 =>
 p.fadr 2 t20 fun t21 =>
 p.load false 1 t21 H fun t22 =>
 p.kF t22 H t18 fun t24 H =>
 p.gF t22 H (p.un .not t24) fun t25 H =>
 p.pick t22 bT t25 fun t26 =>
 p.cond t26
 (p.nil a0 fun t28 =>
 p.fadr 2 t28 fun t29 =>
 p.store 1 t29 bT H fun H =>
 k .nl H)
 (p.nil a0 fun t32 =>
 p.fadr 1 t32 fun t33 =>
 p.store 1 t33 t17 H fun H =>
 k t16 H)
theorem Ab2 : M4 Ag8 @f129 := fun p n a0 H k => by kernel_rfl
noncomputable def f101 (p : Pr β) (n : Nat) (a0 : AV) (H : Ae) (k : KO β) : Option β :=
 p.call 22 (.fn 129 [] []) [a0] H fun t4 H =>
 p.cvBS t4 H fun t5 =>
 k t5 H
theorem Abj : M4 Agx @f101 := fun p n a0 H k => by kernel_rfl
noncomputable def f100 (p : Pr β) (n : Nat) (a0 : AV) (H : Ae) (k : KO β) : Option β :=
 p.nil a0 fun t4 =>
 p.fadr 2 t4 fun t5 =>
 p.load false 1 t5 H fun t6 =>
 p.kF t6 H a0 fun t8 H =>
 p.gF t6 H (p.nil t8) fun t9 H =>
 p.gF t6 H (p.fadr 1 t9) fun t10 H =>
 p.gF t6 H (p.load false 1 t10 H) fun t11 H =>
 p.kF t6 H a0 fun t12 H =>
 p.gF t6 H (p.nil t12) fun t13 H =>
 p.gF t6 H (p.fadr 0 t13) fun t14 H =>
 p.gF t6 H (p.load false 1 t14 H) fun t15 H =>
 p.gF t6 H (p.len t15) fun t16 H =>
 p.gF t6 H (p.bin .geq t11 t16) fun t17 H =>
 p.pick t6 bT t17 fun t18 =>
 p.cond t18
 (p.nil a0 fun t20 =>
 p.fadr 2 t20 fun t21 =>
 p.store 1 t21 bT H fun H =>
 k i0 H)
 (p.nil a0 fun t23 =>
 p.fadr 1 t23 fun t24 =>
 p.load false 1 t24 H fun t25 =>
 p.bin .add t25 (si 1) fun t26 =>
 p.nil a0 fun t27 =>
 p.fadr 1 t27 fun t28 =>
 p.store 1 t28 t26 H fun H =>
 p.nil a0 fun t30 =>
 p.fadr 0 t30 fun t31 =>
 p.load false 1 t31 H fun t32 =>
 p.nil a0 fun t34 =>
 p.fadr 1 t34 fun t35 =>
 p.load false 1 t35 H fun t36 =>
 p.bin .sub t36 (si 1) fun t37 =>
 p.iadr 1 t32 t37 fun t38 =>
 p.load false 1 t38 H fun t39 =>
 p.cvI .i64 t39 fun t40 =>
 k t40 H)
theorem Abi : M4 Agw @f100 := fun p n a0 H k => by kernel_rfl
noncomputable def f102 (p : Pr β) (n : Nat) (a0 : AV) (H : Ae) (k : KO β) : Option β :=
 p.nil a0 fun t8 =>
 p.fadr 0 t8 fun t9 =>
 p.load false 1 t9 H fun t10 =>
 p.nil a0 fun t12 =>
 p.fadr 1 t12 fun t13 =>
 p.load false 1 t13 H fun t14 =>
 p.call 110 (.fn 130 [] []) [t10, t14] H fun t15 H =>
 p.extr t15 0 fun t16 =>
 p.extr t15 1 fun t17 =>
 p.extr t15 2 fun t18 =>
 p.nil a0 fun t20 =>
 p.fadr 2 t20 fun t21 =>
 p.load false 1 t21 H fun t22 =>
 p.kF t22 H t18 fun t24 H =>
 p.gF t22 H (p.un .not t24) fun t25 H =>
 p.pick t22 bT t25 fun t26 =>
 p.cond t26
 (p.nil a0 fun t28 =>
 p.fadr 2 t28 fun t29 =>
 p.store 1 t29 bT H fun H =>
 k i0 H)
 (p.nil a0 fun t32 =>
 p.fadr 1 t32 fun t33 =>
 p.store 1 t33 t17 H fun H =>
 k t16 H)
theorem Abk : M4 Agy @f102 := fun p n a0 H k => by kernel_rfl
noncomputable def f99 (p : Pr β) (n : Nat) (a0 a1 : AV) (H : Ae) (k : KO β) : Option β :=
 p.call 9 (.fn 101 [] []) [a0] H fun t6 H =>
 p.call 3 (.fn 100 [] []) [a0] H fun t9 H =>
 p.nil a1 fun t10 =>
 p.fadr 8 t10 fun t11 =>
 p.store 1 t11 t9 H fun H =>
 p.call 3 (.fn 100 [] []) [a0] H fun t13 H =>
 p.call 3 (.fn 102 [] []) [a0] H fun t16 H =>
 p.nil a1 fun t17 =>
 p.fadr 10 t17 fun t18 =>
 p.store 1 t18 t16 H fun H =>
 p.call 9 (.fn 101 [] []) [a0] H fun t21 H =>
 p.nil a1 fun t22 =>
 p.fadr 7 t22 fun t23 =>
 p.store 1 t23 t21 H fun H =>
 p.bin .and t13 (si 2) fun t29 =>
 p.bin .neq t29 i0 fun t30 =>
 p.bin .and t13 (si 4) fun t32 =>
 p.bin .neq t32 i0 fun t33 =>
 p.bin .and t13 (si 64) fun t35 =>
 p.bin .neq t35 i0 fun t36 =>
 p.bin .and t13 (si 128) fun t38 =>
 p.bin .neq t38 i0 fun t39 =>
 p.nil a1 fun t40 =>
 p.fadr 9 t40 fun t41 =>
 p.store 1 t41 t30 H fun H =>
 p.nil a1 fun t42 =>
 p.fadr 11 t42 fun t43 =>
 p.store 1 t43 t33 H fun H =>
 p.nil a1 fun t44 =>
 p.fadr 18 t44 fun t45 =>
 p.store 1 t45 t36 H fun H =>
 p.nil a1 fun t46 =>
 p.fadr 16 t46 fun t47 =>
 p.store 1 t47 t39 H fun H =>
 p.nil a1 fun t49 =>
 p.fadr 11 t49 fun t50 =>
 p.load false 1 t50 H fun t51 =>
 E4 (fun (t0 t1 : AV) (H : Ae) => p.nil t1 fun t75 =>
 p.fadr 16 t75 fun t76 =>
 p.load false 1 t76 H fun t77 =>
 E4 (fun (t0 t1 : AV) (H : Ae) => p.nil t1 fun t84 =>
 p.fadr 18 t84 fun t85 =>
 p.load false 1 t85 H fun t86 =>
 p.cond t86
 (p.call 22 (.fn 129 [] []) [t0] H fun t89 H =>
 p.nil t1 fun t90 =>
 p.fadr 19 t90 fun t91 =>
 p.store 1 t91 t89 H fun H =>
 k (Dt []) H)
 (k (Dt []) H)) fun j2 =>
 p.cond t77
 (p.call 9 (.fn 101 [] []) [t0] H fun t80 H =>
 p.nil t1 fun t81 =>
 p.fadr 17 t81 fun t82 =>
 p.store 1 t82 t80 H fun H =>
 j2 t0 t1 H)
 (j2 t0 t1 H)) fun j1 =>
 p.cond t51
 (p.bin .shr t13 (.sc (.int .u64 3)) fun t55 =>
 p.bin .and t55 (si 3) fun t56 =>
 p.bin .and t13 (si 32) fun t58 =>
 p.bin .neq t58 i0 fun t59 =>
 p.nil a1 fun t60 =>
 p.fadr 14 t60 fun t61 =>
 p.store 1 t61 t56 H fun H =>
 p.nil a1 fun t62 =>
 p.fadr 15 t62 fun t63 =>
 p.store 1 t63 t59 H fun H =>
 p.call 9 (.fn 101 [] []) [a0] H fun t66 H =>
 p.nil a1 fun t67 =>
 p.fadr 12 t67 fun t68 =>
 p.store 1 t68 t66 H fun H =>
 p.call 22 (.fn 129 [] []) [a0] H fun t71 H =>
 p.nil a1 fun t72 =>
 p.fadr 13 t72 fun t73 =>
 p.store 1 t73 t71 H fun H =>
 j1 a0 a1 H)
 (j1 a0 a1 H)
theorem Ad7 : Nf AiS @f99 := fun p n a0 a1 H k => by kernel_rfl
noncomputable def f131 (p : Pr β) (n : Nat) (a0 : AV) (H : Ae) (k : KO β) : Option β :=
 p.nil a0 fun t4 =>
 p.fadr 2 t4 fun t5 =>
 p.load false 1 t5 H fun t6 =>
 p.un .not t6 fun t7 =>
 p.kT t7 H a0 fun t9 H =>
 p.gT t7 H (p.nil t9) fun t10 H =>
 p.gT t7 H (p.fadr 1 t10) fun t11 H =>
 p.gT t7 H (p.load false 1 t11 H) fun t12 H =>
 p.kT t7 H a0 fun t13 H =>
 p.gT t7 H (p.nil t13) fun t14 H =>
 p.gT t7 H (p.fadr 0 t14) fun t15 H =>
 p.gT t7 H (p.load false 1 t15 H) fun t16 H =>
 p.gT t7 H (p.len t16) fun t17 H =>
 p.gT t7 H (p.bin .lss t12 t17) fun t18 H =>
 p.pick t7 t18 bF fun t19 =>
 k t19 H
theorem Ab4 : M4 AgA @f131 := fun p n a0 H k => by kernel_rfl
noncomputable def J7 (p : Pr β) (n : Nat)  (k : KO β) : Nat → AV → KO β
 | 0, _, _, _ => none
 | m + 1, t0, t1, H => p.call 4 (.fn 131 [] []) [t0] H fun t8 H =>
   p.kT t8 H t1 fun t10 H =>
   p.gT t8 H (p.nil t10) fun t11 H =>
   p.gT t8 H (p.fadr 22 t11) fun t12 H =>
   p.gT t8 H (p.load false 1 t12 H) fun t13 H =>
   p.gT t8 H (p.len t13) fun t14 H =>
   p.kT t8 H t1 fun t15 H =>
   p.gT t8 H (p.nil t15) fun t16 H =>
   p.gT t8 H (p.fadr 24 t16) fun t17 H =>
   p.gT t8 H (p.load false 1 t17 H) fun t18 H =>
   p.gT t8 H (p.len t18) fun t19 H =>
   p.gT t8 H (p.bin .add t14 t19) fun t20 H =>
   p.kT t8 H t1 fun t21 H =>
   p.gT t8 H (p.nil t21) fun t22 H =>
   p.gT t8 H (p.fadr 23 t22) fun t23 H =>
   p.gT t8 H (p.load false 1 t23 H) fun t24 H =>
   p.gT t8 H (p.len t24) fun t25 H =>
   p.gT t8 H (p.bin .add t20 t25) fun t26 H =>
   p.gT t8 H (p.bin .leq t26 (si 4)) fun t27 H =>
   p.pick t8 t27 bF fun t28 =>
   p.cond t28
   (p.nil t1 fun t30 =>
   p.fadr 0 t30 fun t31 =>
   p.load false 1 t31 H fun t32 =>
   p.bin .eql t32 (si 8) fun t37 =>
   p.cond t37
   (p.fill [sE, i0] [] fun ct38 =>
   p.new [sE, i0] H fun t4 H =>
   p.store 2 t4 (.agg ct38) H fun H =>
   p.call 9 (.fn 101 [] []) [t0] H fun t40 H =>
   p.fadr 0 t4 fun t41 =>
   p.store 1 t41 t40 H fun H =>
   p.call 3 (.fn 100 [] []) [t0] H fun t43 H =>
   p.fadr 1 t4 fun t44 =>
   p.store 1 t44 t43 H fun H =>
   p.nil t1 fun t47 =>
   p.fadr 22 t47 fun t48 =>
   p.load false 1 t48 H fun t49 =>
   p.load true 2 t4 H fun t50 =>
   p.fill [sE, i0] [(0, 2, t50)] fun ct51 => p.newSl 1 2 ct51 true H fun t51 H =>
   p.app 2 24 t49 t51 H fun t52 H =>
   p.nil t1 fun t53 =>
   p.fadr 22 t53 fun t54 =>
   p.store 1 t54 t52 H fun H =>
   J7 p n  k m t0 t1 H)
   (p.bin .eql t32 (si 9) fun t56 =>
   p.cond t56
   (p.call 3 (.fn 100 [] []) [t0] H fun t58 H =>
   p.nil t1 fun t61 =>
   p.fadr 24 t61 fun t62 =>
   p.load false 1 t62 H fun t63 =>
   p.fill [i0] [(0, 1, t58)] fun ct65 => p.newSl 1 1 ct65 true H fun t65 H =>
   p.app 1 8 t63 t65 H fun t66 H =>
   p.nil t1 fun t67 =>
   p.fadr 24 t67 fun t68 =>
   p.store 1 t68 t66 H fun H =>
   J7 p n  k m t0 t1 H)
   (p.bin .eql t32 (si 10) fun t70 =>
   p.cond t70
   (p.call 9 (.fn 101 [] []) [t0] H fun t72 H =>
   p.nil t1 fun t75 =>
   p.fadr 23 t75 fun t76 =>
   p.load false 1 t76 H fun t77 =>
   p.fill [sE] [(0, 1, t72)] fun ct79 => p.newSl 1 1 ct79 true H fun t79 H =>
   p.app 1 16 t77 t79 H fun t80 H =>
   p.nil t1 fun t81 =>
   p.fadr 23 t81 fun t82 =>
   p.store 1 t82 t80 H fun H =>
   J7 p n  k m t0 t1 H)
   (p.nil t0 fun t34 =>
   p.fadr 2 t34 fun t35 =>
   p.store 1 t35 bT H fun H =>
   J7 p n  k m t0 t1 H))))
   (k (Dt []) H)
noncomputable def f103 (p : Pr β) (n : Nat) (a0 a1 : AV) (H : Ae) (k : KO β) : Option β :=
 J7 p n  k n a0 a1 H
noncomputable def Aat (p : Pr β) (n : Nat)  (k : KO β) (m : Nat) (tm : Tm) (H : Ae) : Option β :=
 E2 83 (fun tm H k => At A4 p Ajj 83 n (cd Aix [0, 0]) tm H k) (Fq 0 (Dp A4 p fi103.results k)) m tm H
theorem Zc (p : Pr β) (n : Nat)  (k : KO β) (m0 : Nat) : ∀ (t : Nat → AV) (H : Ae), Aat p n  k m0 (tf 83 0 t) H = J7 p n  k m0 (t 0) (t 1) H := by
 induction m0 with
 | zero => intros; rfl
 | succ m0 ih =>
  intro t H
  refine Eq.trans (C0 (nt := 83) (m := m0) (g := fun t H => J7 p n  k m0 (t 0) (t 1) H) ih rfl) ?_
  kernel_rfl
theorem Ac4 (p : Pr β) (n : Nat) (a0 a1 : AV) (H : Ae) (k : KO β) : D0 A4 p n fi103 [a0, a1] H k =
 Aat p n  k n (tf 83 0 (ud [(0, a0), (1, a1)] ut)) H := by kernel_rfl
theorem Abl : Nf fi103 @f103 := fun p n a0 a1 H k => by
 rw [Ac4]
 simp only [Zc]
 kernel_rfl
end
section
open Go
variable {β : Type}
noncomputable def f69 (p : Pr β) (n : Nat) (a0 a1 : AV) (H : Ae) (k : KO β) : Option β :=
 p.new Ez H fun t4 H =>
 p.fill [.nl, i0, bF] [(0, 1, a1)] fun ct9 =>
 p.box (.agg ct9) H fun t10 H =>
 p.bin .quo a0 (si 16) fun t12 =>
 p.fill Ez [(0, 1, t12)] fun ct13 =>
 p.new Ez H fun t6 H =>
 p.store 25 t6 (.agg ct13) H fun H =>
 p.fadr 0 t6 fun t14 =>
 p.load false 1 t14 H fun t15 =>
 p.bin .eql t15 (si 1) fun t22 =>
 E4 (fun (t4 t6 : AV) (H : Ae) => p.load true 25 t6 H fun t76 =>
 p.store 25 t4 t76 H fun H =>
 p.load true 25 t4 H fun r0 =>
 k r0 H) fun j1 =>
 p.cond t22
 (p.call 0 (.fn 99 [] []) [t10, t6] H fun t24 H =>
 j1 t4 t6 H)
 (p.bin .eql t15 (si 2) fun t26 =>
 p.cond t26
 (p.call 3 (.fn 100 [] []) [t10] H fun t28 H =>
 p.bin .eql t28 (si 1) fun t30 =>
 p.fadr 21 t6 fun t31 =>
 p.store 1 t31 t30 H fun H =>
 p.call 3 (.fn 100 [] []) [t10] H fun t33 H =>
 p.fadr 20 t6 fun t34 =>
 p.store 1 t34 t33 H fun H =>
 j1 t4 t6 H)
 (p.bin .eql t15 (si 3) fun t36 =>
 p.cond t36
 (p.bin .and a0 (si 8) fun t38 =>
 p.bin .neq t38 i0 fun t39 =>
 p.bin .shr a0 (.sc (.int .u64 1)) fun t41 =>
 p.bin .and t41 (si 3) fun t42 =>
 p.bin .and a0 (si 1) fun t44 =>
 p.bin .neq t44 i0 fun t45 =>
 p.fadr 1 t6 fun t46 =>
 p.store 1 t46 t39 H fun H =>
 p.fadr 2 t6 fun t47 =>
 p.store 1 t47 t42 H fun H =>
 p.fadr 3 t6 fun t48 =>
 p.store 1 t48 t45 H fun H =>
 p.call 9 (.fn 101 [] []) [t10] H fun t50 H =>
 p.fadr 5 t6 fun t51 =>
 p.store 1 t51 t50 H fun H =>
 p.fadr 2 t6 fun t52 =>
 p.load false 1 t52 H fun t53 =>
 p.bin .gtr t53 i0 fun t54 =>
 E4 (fun (t1 t4 t5 t6 : AV) (H : Ae) => p.nil t5 fun t59 =>
 p.fadr 2 t59 fun t60 =>
 p.load false 1 t60 H fun t61 =>
 p.un .not t61 fun t62 =>
 p.cond t62
 (p.nil t5 fun t65 =>
 p.fadr 1 t65 fun t66 =>
 p.load false 1 t66 H fun t67 =>
 p.slice 1 t1 (some t67) none fun t68 =>
 p.fill [.nl] [(0, 1, t68)] fun ct69 => p.newSl 1 1 ct69 true H fun t69 H =>
 p.call 22 (.fn 77 [] []) [t69] H fun t70 H =>
 p.fadr 6 t6 fun t71 =>
 p.store 1 t71 t70 H fun H =>
 j1 t4 t6 H)
 (j1 t4 t6 H)) fun j2 =>
 p.cond t54
 (p.call 3 (.fn 102 [] []) [t10] H fun t56 H =>
 p.fadr 4 t6 fun t57 =>
 p.store 1 t57 t56 H fun H =>
 j2 a1 t4 t10 t6 H)
 (j2 a1 t4 t10 t6 H))
 (p.bin .eql t15 (si 12) fun t73 =>
 E4 (fun (t4 t5 t6 t72 : AV) (H : Ae) => p.cond t72
 (j1 t4 t6 H)
 (p.call 3 (.fn 102 [] []) [t5] H fun t17 H =>
 p.fadr 4 t6 fun t18 =>
 p.store 1 t18 t17 H fun H =>
 p.call 0 (.fn 103 [] []) [t5, t6] H fun t20 H =>
 j1 t4 t6 H)) fun j3 =>
 p.cond t73
 (j3 t4 t10 t6 t73 H)
 (p.bin .eql t15 (si 13) fun t74 =>
 p.cond t74
 (j3 t4 t10 t6 t74 H)
 (p.bin .eql t15 (si 14) fun t75 =>
 j3 t4 t10 t6 t75 H)))))
theorem Adg : Nf AiC @f69 := fun p n a0 a1 H k => by kernel_rfl
noncomputable def f105 (p : Pr β) (n : Nat) (a0 : AV) (H : Ae) (k : KO β) : Option β :=
 p.box a0 H fun t1 H =>
 p.new Ez H fun t2 H =>
 p.fadr 0 t1 fun t4 =>
 p.load false 1 t4 H fun t5 =>
 p.fill Ez [(0, 1, t5)] fun ct6 =>
 p.new Ez H fun t3 H =>
 p.store 25 t3 (.agg ct6) H fun H =>
 p.fadr 0 t1 fun t7 =>
 p.load false 1 t7 H fun t8 =>
 p.bin .eql t8 (si 1) fun t10 =>
 p.cond t10
 (p.fadr 7 t1 fun t11 =>
 p.load false 1 t11 H fun t12 =>
 p.fadr 8 t1 fun t13 =>
 p.fadr 9 t1 fun t15 =>
 p.fadr 10 t1 fun t17 =>
 p.fadr 11 t1 fun t19 =>
 p.fadr 16 t1 fun t21 =>
 p.fadr 7 t3 fun t23 =>
 p.apart t13 [t3] H
 (p.load false 1 t13 H fun t14 =>
 p.apart t15 [t3] H
 (p.load false 1 t15 H fun t16 =>
 p.apart t17 [t3] H
 (p.load false 1 t17 H fun t18 =>
 p.apart t19 [t3] H
 (p.load false 1 t19 H fun t20 =>
 p.apart t21 [t3] H
 (p.load false 1 t21 H fun t22 =>
 p.same t23 t3
 (p.store 1 t23 t12 H fun H =>
 p.fadr 8 t3 fun t24 =>
 p.same t24 t3
 (p.store 1 t24 t14 H fun H =>
 p.fadr 9 t3 fun t25 =>
 p.same t25 t3
 (p.store 1 t25 t16 H fun H =>
 p.fadr 10 t3 fun t26 =>
 p.same t26 t3
 (p.store 1 t26 t18 H fun H =>
 p.fadr 11 t3 fun t27 =>
 p.same t27 t3
 (p.store 1 t27 t20 H fun H =>
 p.fadr 16 t3 fun t28 =>
 p.store 1 t28 t22 H fun H =>
 p.fadr 11 t1 fun t29 =>
 p.load false 1 t29 H fun t30 =>
 E4 (fun (t1 t2 t3 : AV) (H : Ae) => p.fadr 16 t1 fun t43 =>
 p.load false 1 t43 H fun t44 =>
 E4 (fun (t1 t2 t3 : AV) (H : Ae) => p.fadr 18 t3 fun t51 =>
 p.load false 1 t51 H fun t52 =>
 p.cond t52
 (p.fadr 19 t1 fun t53 =>
 p.load false 1 t53 H fun t54 =>
 p.fadr 19 t3 fun t55 =>
 p.store 1 t55 t54 H fun H =>
 p.load true 25 t3 H fun t120 =>
 p.store 25 t2 t120 H fun H =>
 p.load true 25 t2 H fun r0 =>
 k r0 H)
 (p.load true 25 t3 H fun t120 =>
 p.store 25 t2 t120 H fun H =>
 p.load true 25 t2 H fun r0 =>
 k r0 H)) fun j2 =>
 p.cond t44
 (p.fadr 17 t1 fun t45 =>
 p.load false 1 t45 H fun t46 =>
 p.fadr 18 t1 fun t47 =>
 p.fadr 17 t3 fun t49 =>
 p.apart t47 [t3] H
 (p.load false 1 t47 H fun t48 =>
 p.same t49 t3
 (p.store 1 t49 t46 H fun H =>
 p.fadr 18 t3 fun t50 =>
 p.store 1 t50 t48 H fun H =>
 j2 t1 t2 t3 H)))
 (j2 t1 t2 t3 H)) fun j1 =>
 p.cond t30
 (p.fadr 12 t1 fun t31 =>
 p.load false 1 t31 H fun t32 =>
 p.fadr 13 t1 fun t33 =>
 p.fadr 14 t1 fun t35 =>
 p.fadr 15 t1 fun t37 =>
 p.fadr 12 t3 fun t39 =>
 p.apart t33 [t3] H
 (p.load false 1 t33 H fun t34 =>
 p.apart t35 [t3] H
 (p.load false 1 t35 H fun t36 =>
 p.apart t37 [t3] H
 (p.load false 1 t37 H fun t38 =>
 p.same t39 t3
 (p.store 1 t39 t32 H fun H =>
 p.fadr 13 t3 fun t40 =>
 p.same t40 t3
 (p.store 1 t40 t34 H fun H =>
 p.fadr 14 t3 fun t41 =>
 p.same t41 t3
 (p.store 1 t41 t36 H fun H =>
 p.fadr 15 t3 fun t42 =>
 p.store 1 t42 t38 H fun H =>
 j1 t1 t2 t3 H)))))))
 (j1 t1 t2 t3 H))))))))))))
 (p.bin .eql t8 (si 2) fun t57 =>
 p.cond t57
 (p.fadr 20 t1 fun t58 =>
 p.load false 1 t58 H fun t59 =>
 p.fadr 21 t1 fun t60 =>
 p.fadr 20 t3 fun t62 =>
 p.apart t60 [t3] H
 (p.load false 1 t60 H fun t61 =>
 p.same t62 t3
 (p.store 1 t62 t59 H fun H =>
 p.fadr 21 t3 fun t63 =>
 p.store 1 t63 t61 H fun H =>
 p.load true 25 t3 H fun t120 =>
 p.store 25 t2 t120 H fun H =>
 p.load true 25 t2 H fun r0 =>
 k r0 H)))
 (p.bin .eql t8 (si 3) fun t65 =>
 p.cond t65
 (p.fadr 2 t1 fun t66 =>
 p.load false 1 t66 H fun t67 =>
 p.fadr 3 t1 fun t68 =>
 p.fadr 5 t1 fun t70 =>
 p.fadr 6 t1 fun t72 =>
 p.fadr 2 t3 fun t74 =>
 p.apart t68 [t3] H
 (p.load false 1 t68 H fun t69 =>
 p.apart t70 [t3] H
 (p.load false 1 t70 H fun t71 =>
 p.apart t72 [t3] H
 (p.load false 1 t72 H fun t73 =>
 p.same t74 t3
 (p.store 1 t74 t67 H fun H =>
 p.fadr 3 t3 fun t75 =>
 p.same t75 t3
 (p.store 1 t75 t69 H fun H =>
 p.fadr 5 t3 fun t76 =>
 p.same t76 t3
 (p.store 1 t76 t71 H fun H =>
 p.fadr 6 t3 fun t77 =>
 p.store 1 t77 t73 H fun H =>
 p.fadr 2 t1 fun t78 =>
 p.load false 1 t78 H fun t79 =>
 p.bin .gtr t79 i0 fun t80 =>
 p.cond t80
 (p.fadr 1 t1 fun t81 =>
 p.load false 1 t81 H fun t82 =>
 p.fadr 4 t1 fun t83 =>
 p.fadr 1 t3 fun t85 =>
 p.apart t83 [t3] H
 (p.load false 1 t83 H fun t84 =>
 p.same t85 t3
 (p.store 1 t85 t82 H fun H =>
 p.fadr 4 t3 fun t86 =>
 p.store 1 t86 t84 H fun H =>
 p.load true 25 t3 H fun t120 =>
 p.store 25 t2 t120 H fun H =>
 p.load true 25 t2 H fun r0 =>
 k r0 H)))
 (p.load true 25 t3 H fun t120 =>
 p.store 25 t2 t120 H fun H =>
 p.load true 25 t2 H fun r0 =>
 k r0 H))))))))
 (p.bin .eql t8 (si 4) fun t88 =>
 E4 (fun (t1 t2 t3 t8 t87 : AV) (H : Ae) => p.cond t87
 (p.fadr 4 t1 fun t93 =>
 p.load false 1 t93 H fun t94 =>
 p.fadr 4 t3 fun t95 =>
 p.store 1 t95 t94 H fun H =>
 p.load true 25 t3 H fun t120 =>
 p.store 25 t2 t120 H fun H =>
 p.load true 25 t2 H fun r0 =>
 k r0 H)
 (p.bin .eql t8 (si 8) fun t97 =>
 p.cond t97
 (p.fadr 4 t1 fun t98 =>
 p.load false 1 t98 H fun t99 =>
 p.fadr 22 t1 fun t100 =>
 p.fadr 4 t3 fun t102 =>
 p.apart t100 [t3] H
 (p.load false 1 t100 H fun t101 =>
 p.same t102 t3
 (p.store 1 t102 t99 H fun H =>
 p.fadr 22 t3 fun t103 =>
 p.store 1 t103 t101 H fun H =>
 p.load true 25 t3 H fun t120 =>
 p.store 25 t2 t120 H fun H =>
 p.load true 25 t2 H fun r0 =>
 k r0 H)))
 (p.bin .eql t8 (si 9) fun t105 =>
 p.cond t105
 (p.fadr 4 t1 fun t106 =>
 p.load false 1 t106 H fun t107 =>
 p.fadr 24 t1 fun t108 =>
 p.fadr 4 t3 fun t110 =>
 p.apart t108 [t3] H
 (p.load false 1 t108 H fun t109 =>
 p.same t110 t3
 (p.store 1 t110 t107 H fun H =>
 p.fadr 24 t3 fun t111 =>
 p.store 1 t111 t109 H fun H =>
 p.load true 25 t3 H fun t120 =>
 p.store 25 t2 t120 H fun H =>
 p.load true 25 t2 H fun r0 =>
 k r0 H)))
 (p.bin .eql t8 (si 10) fun t113 =>
 p.cond t113
 (p.fadr 4 t1 fun t114 =>
 p.load false 1 t114 H fun t115 =>
 p.fadr 23 t1 fun t116 =>
 p.fadr 4 t3 fun t118 =>
 p.apart t116 [t3] H
 (p.load false 1 t116 H fun t117 =>
 p.same t118 t3
 (p.store 1 t118 t115 H fun H =>
 p.fadr 23 t3 fun t119 =>
 p.store 1 t119 t117 H fun H =>
 p.load true 25 t3 H fun t120 =>
 p.store 25 t2 t120 H fun H =>
 p.load true 25 t2 H fun r0 =>
 k r0 H)))
 (p.load true 25 t3 H fun t120 =>
 p.store 25 t2 t120 H fun H =>
 p.load true 25 t2 H fun r0 =>
 k r0 H))))) fun j3 =>
 p.cond t88
 (j3 t1 t2 t3 t8 t88 H)
 (p.bin .eql t8 (si 5) fun t89 =>
 p.cond t89
 (j3 t1 t2 t3 t8 t89 H)
 (p.bin .eql t8 (si 6) fun t90 =>
 p.cond t90
 (j3 t1 t2 t3 t8 t90 H)
 (p.bin .eql t8 (si 7) fun t91 =>
 p.cond t91
 (j3 t1 t2 t3 t8 t91 H)
 (p.bin .eql t8 (si 11) fun t92 =>
 j3 t1 t2 t3 t8 t92 H)))))))
theorem Abn : M4 Ag0 @f105 := fun p n a0 H k => by kernel_rfl
noncomputable def f71 (p : Pr β) (n : Nat) (a0 a1 : AV) (H : Ae) (k : KO β) : Option β :=
 p.cvBS a0 H fun t6 =>
 p.cvBS a1 H fun t8 =>
 p.bin .eql t6 t8 fun t9 =>
 k t9 H
theorem Adi : Nf AiE @f71 := fun p n a0 a1 H k => by kernel_rfl
noncomputable def Po (p : Pr β) (n : Nat)  (k : KO β) : Nat → AV → AV → AV → KO β
 | 0, _, _, _, _, _ => none
 | m + 1, t0, t1, t12, t13, H => p.bin .lss t13 t12 fun t14 =>
   p.cond t14
   (p.iadr 2 t0 t13 fun t18 =>
   p.load true 2 t18 H fun t19 =>
   p.iadr 2 t1 t13 fun t22 =>
   p.load true 2 t22 H fun t23 =>
   p.binA .neq [1, 0] t19 t23 fun t24 =>
   p.cond t24
   (k bF H)
   (p.bin .add t13 (si 1) fun t25 =>
   Po p n  k m t0 t1 t12 t25 H))
   (k bT H)
noncomputable def f132 (p : Pr β) (n : Nat) (a0 a1 : AV) (H : Ae) (k : KO β) : Option β :=
 p.len a0 fun t7 =>
 p.len a1 fun t9 =>
 p.bin .neq t7 t9 fun t10 =>
 p.cond t10
 (k bF H)
 (p.len a0 fun t12 =>
 Po p n  k n a0 a1 t12 i0 H)
noncomputable def Aa4 (p : Pr β) (n : Nat)  (k : KO β) (m : Nat) (tm : Tm) (H : Ae) : Option β :=
 E2 26 (fun tm H k => At A4 p AhY 26 n (cd Ahb [1, 1, 0, 1, 0, 0]) tm H k) (Fq 0 (E8 (fun tm H => At A4 p AhY 26 n (cd Ahb [1, 1, 1]) tm H (Dp A4 p fi132.results k)) (Dp A4 p fi132.results k))) m tm H
theorem Zj (p : Pr β) (n : Nat)  (k : KO β) (m0 : Nat) : ∀ (t : Nat → AV) (H : Ae), Aa4 p n  k m0 (tf 26 0 t) H = Po p n  k m0 (t 0) (t 1) (t 12) (t 13) H := by
 induction m0 with
 | zero => intros; rfl
 | succ m0 ih =>
  intro t H
  refine Eq.trans (C0 (nt := 26) (m := m0) (g := fun t H => Po p n  k m0 (t 0) (t 1) (t 12) (t 13) H) ih rfl) ?_
  kernel_rfl
theorem AcB (p : Pr β) (n : Nat) (a0 a1 : AV) (H : Ae) (k : KO β) : D0 A4 p n fi132 [a0, a1] H k =
 p.len a0 fun t7 =>
 p.len a1 fun t9 =>
 p.bin .neq t7 t9 fun t10 =>
 p.cond t10
 (k bF H)
 (p.len a0 fun t12 =>
 Aa4 p n  k n (tf 26 0 (ud [(0, a0), (1, a1), (4, bF), (6, a0), (7, t7), (8, a1), (9, t9), (10, t10), (11, a0), (12, t12), (13, i0)] ut)) H) := by kernel_rfl
theorem Ab5 : Nf fi132 @f132 := fun p n a0 a1 H k => by
 rw [AcB]
 simp only [Zj]
 kernel_rfl
noncomputable def Pp (p : Pr β) (n : Nat)  (k : KO β) : Nat → AV → AV → AV → KO β
 | 0, _, _, _, _, _ => none
 | m + 1, t0, t1, t12, t13, H => p.bin .lss t13 t12 fun t14 =>
   p.cond t14
   (p.iadr 1 t0 t13 fun t18 =>
   p.load false 1 t18 H fun t19 =>
   p.iadr 1 t1 t13 fun t22 =>
   p.load false 1 t22 H fun t23 =>
   p.bin .neq t19 t23 fun t24 =>
   p.cond t24
   (k bF H)
   (p.bin .add t13 (si 1) fun t25 =>
   Pp p n  k m t0 t1 t12 t25 H))
   (k bT H)
noncomputable def f133 (p : Pr β) (n : Nat) (a0 a1 : AV) (H : Ae) (k : KO β) : Option β :=
 p.len a0 fun t7 =>
 p.len a1 fun t9 =>
 p.bin .neq t7 t9 fun t10 =>
 p.cond t10
 (k bF H)
 (p.len a0 fun t12 =>
 Pp p n  k n a0 a1 t12 i0 H)
noncomputable def Aa5 (p : Pr β) (n : Nat)  (k : KO β) (m : Nat) (tm : Tm) (H : Ae) : Option β :=
 E2 26 (fun tm H k => At A4 p AhZ 26 n (cd Ahc [1, 1, 0, 1, 0, 0]) tm H k) (Fq 0 (E8 (fun tm H => At A4 p AhZ 26 n (cd Ahc [1, 1, 1]) tm H (Dp A4 p fi133.results k)) (Dp A4 p fi133.results k))) m tm H
theorem Zk (p : Pr β) (n : Nat)  (k : KO β) (m0 : Nat) : ∀ (t : Nat → AV) (H : Ae), Aa5 p n  k m0 (tf 26 0 t) H = Pp p n  k m0 (t 0) (t 1) (t 12) (t 13) H := by
 induction m0 with
 | zero => intros; rfl
 | succ m0 ih =>
  intro t H
  refine Eq.trans (C0 (nt := 26) (m := m0) (g := fun t H => Pp p n  k m0 (t 0) (t 1) (t 12) (t 13) H) ih rfl) ?_
  kernel_rfl
theorem AcC (p : Pr β) (n : Nat) (a0 a1 : AV) (H : Ae) (k : KO β) : D0 A4 p n fi133 [a0, a1] H k =
 p.len a0 fun t7 =>
 p.len a1 fun t9 =>
 p.bin .neq t7 t9 fun t10 =>
 p.cond t10
 (k bF H)
 (p.len a0 fun t12 =>
 Aa5 p n  k n (tf 26 0 (ud [(0, a0), (1, a1), (4, bF), (6, a0), (7, t7), (8, a1), (9, t9), (10, t10), (11, a0), (12, t12), (13, i0)] ut)) H) := by kernel_rfl
theorem Ab6 : Nf fi133 @f133 := fun p n a0 a1 H k => by
 rw [AcC]
 simp only [Zk]
 kernel_rfl
noncomputable def Pq (p : Pr β) (n : Nat)  (k : KO β) : Nat → AV → AV → AV → KO β
 | 0, _, _, _, _, _ => none
 | m + 1, t0, t1, t12, t13, H => p.bin .lss t13 t12 fun t14 =>
   p.cond t14
   (p.iadr 1 t0 t13 fun t18 =>
   p.load false 1 t18 H fun t19 =>
   p.iadr 1 t1 t13 fun t22 =>
   p.load false 1 t22 H fun t23 =>
   p.bin .neq t19 t23 fun t24 =>
   p.cond t24
   (k bF H)
   (p.bin .add t13 (si 1) fun t25 =>
   Pq p n  k m t0 t1 t12 t25 H))
   (k bT H)
noncomputable def f134 (p : Pr β) (n : Nat) (a0 a1 : AV) (H : Ae) (k : KO β) : Option β :=
 p.len a0 fun t7 =>
 p.len a1 fun t9 =>
 p.bin .neq t7 t9 fun t10 =>
 p.cond t10
 (k bF H)
 (p.len a0 fun t12 =>
 Pq p n  k n a0 a1 t12 i0 H)
noncomputable def Aa6 (p : Pr β) (n : Nat)  (k : KO β) (m : Nat) (tm : Tm) (H : Ae) : Option β :=
 E2 26 (fun tm H k => At A4 p Aia 26 n (cd Ahd [1, 1, 0, 1, 0, 0]) tm H k) (Fq 0 (E8 (fun tm H => At A4 p Aia 26 n (cd Ahd [1, 1, 1]) tm H (Dp A4 p fi134.results k)) (Dp A4 p fi134.results k))) m tm H
theorem Zl (p : Pr β) (n : Nat)  (k : KO β) (m0 : Nat) : ∀ (t : Nat → AV) (H : Ae), Aa6 p n  k m0 (tf 26 0 t) H = Pq p n  k m0 (t 0) (t 1) (t 12) (t 13) H := by
 induction m0 with
 | zero => intros; rfl
 | succ m0 ih =>
  intro t H
  refine Eq.trans (C0 (nt := 26) (m := m0) (g := fun t H => Pq p n  k m0 (t 0) (t 1) (t 12) (t 13) H) ih rfl) ?_
  kernel_rfl
theorem AcD (p : Pr β) (n : Nat) (a0 a1 : AV) (H : Ae) (k : KO β) : D0 A4 p n fi134 [a0, a1] H k =
 p.len a0 fun t7 =>
 p.len a1 fun t9 =>
 p.bin .neq t7 t9 fun t10 =>
 p.cond t10
 (k bF H)
 (p.len a0 fun t12 =>
 Aa6 p n  k n (tf 26 0 (ud [(0, a0), (1, a1), (4, bF), (6, a0), (7, t7), (8, a1), (9, t9), (10, t10), (11, a0), (12, t12), (13, i0)] ut)) H) := by kernel_rfl
theorem Ab7 : Nf fi134 @f134 := fun p n a0 a1 H k => by
 rw [AcD]
 simp only [Zl]
 kernel_rfl
noncomputable def f104 (p : Pr β) (n : Nat) (a0 a1 : AV) (H : Ae) (k : KO β) : Option β :=
 p.box a0 H fun t2 H =>
 p.box a1 H fun t3 H =>
 p.fadr 0 t2 fun t9 =>
 p.load false 1 t9 H fun t10 =>
 p.fadr 0 t3 fun t11 =>
 p.load false 1 t11 H fun t12 =>
 p.bin .eql t10 t12 fun t13 =>
 p.gT t13 H (p.fadr 1 t2) fun t15 H =>
 p.gT t13 H (p.load false 1 t15 H) fun t16 H =>
 p.gT t13 H (p.fadr 1 t3) fun t17 H =>
 p.gT t13 H (p.load false 1 t17 H) fun t18 H =>
 p.gT t13 H (p.binB .eql t16 t18) fun t19 H =>
 p.pick t13 t19 bF fun t20 =>
 p.gT t20 H (p.fadr 2 t2) fun t22 H =>
 p.gT t20 H (p.load false 1 t22 H) fun t23 H =>
 p.gT t20 H (p.fadr 2 t3) fun t24 H =>
 p.gT t20 H (p.load false 1 t24 H) fun t25 H =>
 p.gT t20 H (p.bin .eql t23 t25) fun t26 H =>
 p.pick t20 t26 bF fun t27 =>
 p.gT t27 H (p.fadr 3 t2) fun t29 H =>
 p.gT t27 H (p.load false 1 t29 H) fun t30 H =>
 p.gT t27 H (p.fadr 3 t3) fun t31 H =>
 p.gT t27 H (p.load false 1 t31 H) fun t32 H =>
 p.gT t27 H (p.binB .eql t30 t32) fun t33 H =>
 p.pick t27 t33 bF fun t34 =>
 p.gT t34 H (p.fadr 4 t2) fun t36 H =>
 p.gT t34 H (p.load false 1 t36 H) fun t37 H =>
 p.gT t34 H (p.fadr 4 t3) fun t38 H =>
 p.gT t34 H (p.load false 1 t38 H) fun t39 H =>
 p.gT t34 H (p.bin .eql t37 t39) fun t40 H =>
 p.pick t34 t40 bF fun t41 =>
 p.gT t41 H (p.fadr 5 t2) fun t43 H =>
 p.gT t41 H (p.load false 1 t43 H) fun t44 H =>
 p.gT t41 H (p.fadr 5 t3) fun t45 H =>
 p.gT t41 H (p.load false 1 t45 H) fun t46 H =>
 p.gT t41 H (p.bin .eql t44 t46) fun t47 H =>
 p.pick t41 t47 bF fun t48 =>
 p.gT t48 H (p.fadr 6 t2) fun t50 H =>
 p.gT t48 H (p.load false 1 t50 H) fun t51 H =>
 p.gT t48 H (p.fadr 6 t3) fun t52 H =>
 p.gT t48 H (p.load false 1 t52 H) fun t53 H =>
 p.hT t48 H (p.call 4 (.fn 71 [] []) [t51, t53] H) fun t54 H =>
 p.pick t48 t54 bF fun t55 =>
 p.fadr 7 t2 fun t56 =>
 p.load false 1 t56 H fun t57 =>
 p.fadr 7 t3 fun t58 =>
 p.load false 1 t58 H fun t59 =>
 p.bin .eql t57 t59 fun t60 =>
 p.gT t60 H (p.fadr 8 t2) fun t62 H =>
 p.gT t60 H (p.load false 1 t62 H) fun t63 H =>
 p.gT t60 H (p.fadr 8 t3) fun t64 H =>
 p.gT t60 H (p.load false 1 t64 H) fun t65 H =>
 p.gT t60 H (p.bin .eql t63 t65) fun t66 H =>
 p.pick t60 t66 bF fun t67 =>
 p.gT t67 H (p.fadr 9 t2) fun t69 H =>
 p.gT t67 H (p.load false 1 t69 H) fun t70 H =>
 p.gT t67 H (p.fadr 9 t3) fun t71 H =>
 p.gT t67 H (p.load false 1 t71 H) fun t72 H =>
 p.gT t67 H (p.binB .eql t70 t72) fun t73 H =>
 p.pick t67 t73 bF fun t74 =>
 p.gT t74 H (p.fadr 10 t2) fun t76 H =>
 p.gT t74 H (p.load false 1 t76 H) fun t77 H =>
 p.gT t74 H (p.fadr 10 t3) fun t78 H =>
 p.gT t74 H (p.load false 1 t78 H) fun t79 H =>
 p.gT t74 H (p.bin .eql t77 t79) fun t80 H =>
 p.pick t74 t80 bF fun t81 =>
 p.gT t81 H (p.fadr 16 t2) fun t83 H =>
 p.gT t81 H (p.load false 1 t83 H) fun t84 H =>
 p.gT t81 H (p.fadr 16 t3) fun t85 H =>
 p.gT t81 H (p.load false 1 t85 H) fun t86 H =>
 p.gT t81 H (p.binB .eql t84 t86) fun t87 H =>
 p.pick t81 t87 bF fun t88 =>
 p.gT t88 H (p.fadr 17 t2) fun t90 H =>
 p.gT t88 H (p.load false 1 t90 H) fun t91 H =>
 p.gT t88 H (p.fadr 17 t3) fun t92 H =>
 p.gT t88 H (p.load false 1 t92 H) fun t93 H =>
 p.gT t88 H (p.bin .eql t91 t93) fun t94 H =>
 p.pick t88 t94 bF fun t95 =>
 p.gT t95 H (p.fadr 18 t2) fun t97 H =>
 p.gT t95 H (p.load false 1 t97 H) fun t98 H =>
 p.gT t95 H (p.fadr 18 t3) fun t99 H =>
 p.gT t95 H (p.load false 1 t99 H) fun t100 H =>
 p.gT t95 H (p.binB .eql t98 t100) fun t101 H =>
 p.pick t95 t101 bF fun t102 =>
 p.gT t102 H (p.fadr 19 t2) fun t104 H =>
 p.gT t102 H (p.load false 1 t104 H) fun t105 H =>
 p.gT t102 H (p.fadr 19 t3) fun t106 H =>
 p.gT t102 H (p.load false 1 t106 H) fun t107 H =>
 p.hT t102 H (p.call 4 (.fn 71 [] []) [t105, t107] H) fun t108 H =>
 p.pick t102 t108 bF fun t109 =>
 p.fadr 11 t2 fun t110 =>
 p.load false 1 t110 H fun t111 =>
 p.fadr 11 t3 fun t112 =>
 p.load false 1 t112 H fun t113 =>
 p.binB .eql t111 t113 fun t114 =>
 p.gT t114 H (p.fadr 12 t2) fun t116 H =>
 p.gT t114 H (p.load false 1 t116 H) fun t117 H =>
 p.gT t114 H (p.fadr 12 t3) fun t118 H =>
 p.gT t114 H (p.load false 1 t118 H) fun t119 H =>
 p.gT t114 H (p.bin .eql t117 t119) fun t120 H =>
 p.pick t114 t120 bF fun t121 =>
 p.gT t121 H (p.fadr 13 t2) fun t123 H =>
 p.gT t121 H (p.load false 1 t123 H) fun t124 H =>
 p.gT t121 H (p.fadr 13 t3) fun t125 H =>
 p.gT t121 H (p.load false 1 t125 H) fun t126 H =>
 p.hT t121 H (p.call 4 (.fn 71 [] []) [t124, t126] H) fun t127 H =>
 p.pick t121 t127 bF fun t128 =>
 p.gT t128 H (p.fadr 14 t2) fun t130 H =>
 p.gT t128 H (p.load false 1 t130 H) fun t131 H =>
 p.gT t128 H (p.fadr 14 t3) fun t132 H =>
 p.gT t128 H (p.load false 1 t132 H) fun t133 H =>
 p.gT t128 H (p.bin .eql t131 t133) fun t134 H =>
 p.pick t128 t134 bF fun t135 =>
 p.gT t135 H (p.fadr 15 t2) fun t137 H =>
 p.gT t135 H (p.load false 1 t137 H) fun t138 H =>
 p.gT t135 H (p.fadr 15 t3) fun t139 H =>
 p.gT t135 H (p.load false 1 t139 H) fun t140 H =>
 p.gT t135 H (p.binB .eql t138 t140) fun t141 H =>
 p.pick t135 t141 bF fun t142 =>
 p.fadr 22 t2 fun t143 =>
 p.load false 1 t143 H fun t144 =>
 p.fadr 22 t3 fun t145 =>
 p.load false 1 t145 H fun t146 =>
 p.call 4 (.fn 132 [] []) [t144, t146] H fun t147 H =>
 p.gT t147 H (p.fadr 23 t2) fun t149 H =>
 p.gT t147 H (p.load false 1 t149 H) fun t150 H =>
 p.gT t147 H (p.fadr 23 t3) fun t151 H =>
 p.gT t147 H (p.load false 1 t151 H) fun t152 H =>
 p.hT t147 H (p.call 4 (.fn 133 [] []) [t150, t152] H) fun t153 H =>
 p.pick t147 t153 bF fun t154 =>
 p.gT t154 H (p.fadr 24 t2) fun t156 H =>
 p.gT t154 H (p.load false 1 t156 H) fun t157 H =>
 p.gT t154 H (p.fadr 24 t3) fun t158 H =>
 p.gT t154 H (p.load false 1 t158 H) fun t159 H =>
 p.hT t154 H (p.call 4 (.fn 134 [] []) [t157, t159] H) fun t160 H =>
 p.pick t154 t160 bF fun t161 =>
 p.kT t55 H t109 fun t164 H =>
 p.pick t55 t164 bF fun t165 =>
 p.kT t165 H t142 fun t167 H =>
 p.pick t165 t167 bF fun t168 =>
 p.kT t168 H t161 fun t170 H =>
 p.pick t168 t170 bF fun t171 =>
 p.gT t171 H (p.fadr 20 t2) fun t173 H =>
 p.gT t171 H (p.load false 1 t173 H) fun t174 H =>
 p.gT t171 H (p.fadr 20 t3) fun t175 H =>
 p.gT t171 H (p.load false 1 t175 H) fun t176 H =>
 p.gT t171 H (p.bin .eql t174 t176) fun t177 H =>
 p.pick t171 t177 bF fun t178 =>
 p.gT t178 H (p.fadr 21 t2) fun t180 H =>
 p.gT t178 H (p.load false 1 t180 H) fun t181 H =>
 p.gT t178 H (p.fadr 21 t3) fun t182 H =>
 p.gT t178 H (p.load false 1 t182 H) fun t183 H =>
 p.gT t178 H (p.binB .eql t181 t183) fun t184 H =>
 p.pick t178 t184 bF fun t185 =>
 k t185 H
theorem Abm : Nf Agz @f104 := fun p n a0 a1 H k => by kernel_rfl
noncomputable def f137 (p : Pr β) (n : Nat) (a0 : AV) (H : Ae) (k : KO β) : Option β :=
 p.call 56 (.fn 149 [] []) [a0, (.sc (.string ⟨#[47]⟩))] H fun t4 H =>
 k t4 H
theorem Ab8 : M4 AgB @f137 := fun p n a0 H k => by kernel_rfl
noncomputable def f108 (p : Pr β) (n : Nat) (a0 : AV) (H : Ae) (k : KO β) : Option β :=
 p.call 4 (.fn 135 [] []) [a0] H fun t4 H =>
 p.kT t4 H a0 fun t6 H =>
 p.gT t4 H (p.bin .neq t6 sE) fun t7 H =>
 p.pick t4 t7 bF fun t8 =>
 p.kT t8 H a0 fun t10 H =>
 p.hT t8 H (p.call 4 (.fn 136 [] []) [t10, (.sc (.string ⟨#[43, 35]⟩))] H) fun t11 H =>
 p.gT t8 H (p.un .not t11) fun t12 H =>
 p.pick t8 t12 bF fun t13 =>
 p.kT t13 H a0 fun t15 H =>
 p.hT t13 H (p.call 56 (.fn 137 [] []) [t15] H) fun t16 H =>
 p.gT t13 H (p.len t16) fun t17 H =>
 p.gT t13 H (p.bin .leq t17 (si 6)) fun t18 H =>
 p.pick t13 t18 bF fun t19 =>
 k t19 H
theorem Abq : M4 Ag3 @f108 := fun p n a0 H k => by kernel_rfl
noncomputable def f107 (p : Pr β) (n : Nat) (a0 : AV) (H : Ae) (k : KO β) : Option β :=
 p.call 4 (.fn 98 [] []) [a0, i0, (si 2)] H fun t4 H =>
 k t4 H
theorem Abp : M4 Ag2 @f107 := fun p n a0 H k => by kernel_rfl
noncomputable def f118 (p : Pr β) (n : Nat) (a0 : AV) (H : Ae) (k : KO β) : Option β :=
 p.call 4 (.fn 98 [] []) [a0, i0, (si 65535)] H fun t4 H =>
 k t4 H
theorem Aby : M4 Ag6 @f118 := fun p n a0 H k => by kernel_rfl
noncomputable def f106 (p : Pr β) (n : Nat) (a0 : AV) (H : Ae) (k : KO β) : Option β :=
 p.box a0 H fun t1 H =>
 p.fadr 11 t1 fun t4 =>
 p.load false 1 t4 H fun t5 =>
 p.un .not t5 fun t6 =>
 p.gF t6 H (p.fadr 12 t1) fun t8 H =>
 p.gF t6 H (p.load false 1 t8 H) fun t9 H =>
 p.hF t6 H (p.call 4 (.fn 108 [] []) [t9] H) fun t10 H =>
 p.kF t6 H t10 fun t11 H =>
 p.gT t11 H (p.fadr 13 t1) fun t12 H =>
 p.gT t11 H (p.load false 1 t12 H) fun t13 H =>
 p.gT t11 H (p.len t13) fun t14 H =>
 p.gT t11 H (p.bin .leq t14 (si 40)) fun t15 H =>
 p.gF t6 H (p.pick t11 t15 bF) fun t16 H =>
 p.kF t6 H t16 fun t17 H =>
 p.gT t17 H (p.fadr 14 t1) fun t18 H =>
 p.gT t17 H (p.load false 1 t18 H) fun t19 H =>
 p.hT t17 H (p.call 4 (.fn 107 [] []) [t19] H) fun t20 H =>
 p.gF t6 H (p.pick t17 t20 bF) fun t21 H =>
 p.pick t6 bT t21 fun t22 =>
 p.fadr 8 t1 fun t23 =>
 p.load false 1 t23 H fun t24 =>
 p.call 4 (.fn 98 [] []) [t24, i0, (si 255)] H fun t25 H =>
 p.gT t25 H (p.fadr 7 t1) fun t27 H =>
 p.gT t25 H (p.load false 1 t27 H) fun t28 H =>
 p.hT t25 H (p.call 4 (.fn 135 [] []) [t28] H) fun t29 H =>
 p.pick t25 t29 bF fun t30 =>
 p.gT t30 H (p.fadr 10 t1) fun t32 H =>
 p.gT t30 H (p.load false 1 t32 H) fun t33 H =>
 p.hT t30 H (p.call 4 (.fn 118 [] []) [t33] H) fun t34 H =>
 p.pick t30 t34 bF fun t35 =>
 p.kT t35 H t22 fun t37 H =>
 p.pick t35 t37 bF fun t38 =>
 p.gT t38 H (p.fadr 17 t1) fun t40 H =>
 p.gT t38 H (p.load false 1 t40 H) fun t41 H =>
 p.hT t38 H (p.call 4 (.fn 135 [] []) [t41] H) fun t42 H =>
 p.pick t38 t42 bF fun t43 =>
 p.gT t43 H (p.fadr 19 t1) fun t45 H =>
 p.gT t43 H (p.load false 1 t45 H) fun t46 H =>
 p.gT t43 H (p.len t46) fun t47 H =>
 p.gT t43 H (p.bin .leq t47 (si 60)) fun t48 H =>
 p.pick t43 t48 bF fun t49 =>
 k t49 H
theorem Abo : M4 Ag1 @f106 := fun p n a0 H k => by kernel_rfl
noncomputable def f109 (p : Pr β) (n : Nat) (a0 : AV) (H : Ae) (k : KO β) : Option β :=
 p.call 4 (.fn 98 [] []) [a0, (si 1), (si 65535)] H fun t4 H =>
 k t4 H
theorem Abr : M4 Ag4 @f109 := fun p n a0 H k => by kernel_rfl
noncomputable def f150 (p : Pr β) (n : Nat) (a0 a1 : AV) (H : Ae) (k : KO β) : Option β :=
 p.call 4 (.fn 136 [] []) [a0, (.sc (.string ⟨#[43, 35]⟩))] H fun t6 H =>
 p.un .not t6 fun t7 =>
 p.kF t7 H a0 fun t9 H =>
 p.gF t7 H (p.bin .eql t9 (.sc (.string ⟨#[43]⟩))) fun t10 H =>
 p.pick t7 bT t10 fun t11 =>
 p.kF t11 H a0 fun t13 H =>
 p.gF t11 H (p.bin .eql t13 (.sc (.string ⟨#[35]⟩))) fun t14 H =>
 p.kF t11 H t14 fun t15 H =>
 p.kT t15 H a1 fun t16 H =>
 p.gF t11 H (p.pick t15 t16 bF) fun t17 H =>
 p.pick t11 bT t17 fun t18 =>
 k t18 H
theorem AbG : Nf AgH @f150 := fun p n a0 a1 H k => by kernel_rfl
noncomputable def Mp (p : Pr β) (n : Nat)  (k : KO β) : Nat → AV → AV → AV → AV → KO β
 | 0, _, _, _, _, _, _ => none
 | m + 1, t0, t3, t8, t9, t10, H => p.bin .lss t10 t9 fun t11 =>
   p.cond t11
   (p.iadr 1 t8 t10 fun t13 =>
   p.load false 1 t13 H fun t14 =>
   p.len t3 fun t18 =>
   p.bin .sub t18 (si 1) fun t19 =>
   p.bin .eql t10 t19 fun t20 =>
   p.call 4 (.fn 150 [] []) [t14, t20] H fun t21 H =>
   p.un .not t21 fun t22 =>
   p.cond t22
   (k bF H)
   (p.bin .add t10 (si 1) fun t23 =>
   Mp p n  k m t0 t3 t8 t9 t23 H))
   (p.call 4 (.fn 135 [] []) [t0] H fun t25 H =>
   p.kT t25 H t0 fun t27 H =>
   p.gT t25 H (p.bin .neq t27 sE) fun t28 H =>
   p.pick t25 t28 bF fun t29 =>
   p.kT t29 H t3 fun t31 H =>
   p.gT t29 H (p.len t31) fun t32 H =>
   p.gT t29 H (p.bin .leq t32 (si 6)) fun t33 H =>
   p.pick t29 t33 bF fun t34 =>
   k t34 H)
noncomputable def f138 (p : Pr β) (n : Nat) (a0 : AV) (H : Ae) (k : KO β) : Option β :=
 p.call 56 (.fn 137 [] []) [a0] H fun t7 H =>
 p.len t7 fun t9 =>
 Mp p n  k n a0 t7 t7 t9 i0 H
noncomputable def Aa7 (p : Pr β) (n : Nat)  (k : KO β) (m : Nat) (tm : Tm) (H : Ae) : Option β :=
 E2 35 (fun tm H k => At A4 p [] 35 n (cd Ahe [1, 1, 0, 1, 0, 0]) tm H k) (Fq 0 (E8 (fun tm H => At A4 p [] 35 n (cd Ahe [1, 1, 1]) tm H (Dp A4 p fi138.results k)) (Dp A4 p fi138.results k))) m tm H
theorem Zm (p : Pr β) (n : Nat)  (k : KO β) (m0 : Nat) : ∀ (t : Nat → AV) (H : Ae), Aa7 p n  k m0 (tf 35 0 t) H = Mp p n  k m0 (t 0) (t 3) (t 8) (t 9) (t 10) H := by
 induction m0 with
 | zero => intros; rfl
 | succ m0 ih =>
  intro t H
  refine Eq.trans (C0 (nt := 35) (m := m0) (g := fun t H => Mp p n  k m0 (t 0) (t 3) (t 8) (t 9) (t 10) H) ih rfl) ?_
  kernel_rfl
theorem AcE (p : Pr β) (n : Nat) (a0 : AV) (H : Ae) (k : KO β) : D0 A4 p n fi138 [a0] H k =
 p.call 56 (.fn 137 [] []) [a0] H fun t7 H =>
 p.len t7 fun t9 =>
 Aa7 p n  k n (tf 35 0 (ud [(0, a0), (2, bF), (3, t7), (6, a0), (7, t7), (8, t7), (9, t9), (10, i0)] ut)) H := by kernel_rfl
theorem Ab9 : M4 fi138 @f138 := fun p n a0 H k => by
 rw [AcE]
 simp only [Zm]
 kernel_rfl
noncomputable def Mm (p : Pr β) (n : Nat)  (k : KO β) : Nat → AV → AV → AV → KO β
 | 0, _, _, _, _, _ => none
 | m + 1, t1, t39, t40, t41, H => p.bin .lss t41 t40 fun t42 =>
   p.cond t42
   (p.iadr 1 t39 t41 fun t43 =>
   p.load false 1 t43 H fun t44 =>
   p.call 4 (.fn 107 [] []) [t44] H fun t46 H =>
   p.un .not t46 fun t47 =>
   p.kT t47 H t44 fun t49 H =>
   p.gT t47 H (p.bin .neq t49 (si 128)) fun t50 H =>
   p.pick t47 t50 bF fun t51 =>
   p.cond t51
   (k bF H)
   (p.bin .add t41 (si 1) fun t52 =>
   Mm p n  k m t1 t39 t40 t52 H))
   (p.fadr 22 t1 fun t53 =>
   p.load false 1 t53 H fun t54 =>
   p.len t54 fun t55 =>
   p.fadr 23 t1 fun t56 =>
   p.load false 1 t56 H fun t57 =>
   p.len t57 fun t58 =>
   p.bin .add t55 t58 fun t59 =>
   p.fadr 24 t1 fun t60 =>
   p.load false 1 t60 H fun t61 =>
   p.len t61 fun t62 =>
   p.bin .add t59 t62 fun t63 =>
   p.call 4 (.fn 98 [] []) [t63, (si 1), (si 4)] H fun t64 H =>
   k t64 H)
noncomputable def J9 (p : Pr β) (n : Nat)  (k : KO β) : Nat → AV → AV → AV → KO β
 | 0, _, _, _, _, _ => none
 | m + 1, t1, t28, t29, t30, H => p.bin .lss t30 t29 fun t31 =>
   p.cond t31
   (p.iadr 1 t28 t30 fun t32 =>
   p.load false 1 t32 H fun t33 =>
   p.call 4 (.fn 138 [] []) [t33] H fun t35 H =>
   p.un .not t35 fun t36 =>
   p.cond t36
   (k bF H)
   (p.bin .add t30 (si 1) fun t37 =>
   J9 p n  k m t1 t28 t29 t37 H))
   (p.fadr 24 t1 fun t38 =>
   p.load false 1 t38 H fun t39 =>
   p.len t39 fun t40 =>
   Mm p n  k n t1 t39 t40 i0 H)
noncomputable def J8 (p : Pr β) (n : Nat)  (k : KO β) : Nat → AV → AV → AV → KO β
 | 0, _, _, _, _, _ => none
 | m + 1, t1, t10, t11, t12, H => p.bin .lss t12 t11 fun t13 =>
   p.cond t13
   (p.iadr 2 t10 t12 fun t14 =>
   p.load true 2 t14 H fun t15 =>
   p.new [sE, i0] H fun t4 H =>
   p.store 2 t4 t15 H fun H =>
   p.fadr 0 t4 fun t16 =>
   p.load false 1 t16 H fun t17 =>
   p.call 4 (.fn 138 [] []) [t17] H fun t18 H =>
   p.un .not t18 fun t19 =>
   p.gF t19 H (p.fadr 1 t4) fun t21 H =>
   p.gF t19 H (p.load false 1 t21 H) fun t22 H =>
   p.hF t19 H (p.call 4 (.fn 107 [] []) [t22] H) fun t23 H =>
   p.gF t19 H (p.un .not t23) fun t24 H =>
   p.pick t19 bT t24 fun t25 =>
   p.cond t25
   (k bF H)
   (p.bin .add t12 (si 1) fun t26 =>
   J8 p n  k m t1 t10 t11 t26 H))
   (p.fadr 23 t1 fun t27 =>
   p.load false 1 t27 H fun t28 =>
   p.len t28 fun t29 =>
   J9 p n  k n t1 t28 t29 i0 H)
noncomputable def f110 (p : Pr β) (n : Nat) (a0 : AV) (H : Ae) (k : KO β) : Option β :=
 p.box a0 H fun t1 H =>
 p.fadr 22 t1 fun t9 =>
 p.load false 1 t9 H fun t10 =>
 p.len t10 fun t11 =>
 J8 p n  k n t1 t10 t11 i0 H
noncomputable def Aaw (p : Pr β) (n : Nat)  (k : KO β) (m : Nat) (tm : Tm) (H : Ae) : Option β :=
 E2 65 (fun tm H k => At A4 p [] 65 n (cd Sn [1, 1, 1, 0, 1, 0, 0]) tm H k) (Fq 4 (E8 (fun tm H => At A4 p [] 65 n (cd Sn [1, 1, 1, 1]) tm H (Dp A4 p fi110.results k)) (Dp A4 p fi110.results k))) m tm H
noncomputable def Aav (p : Pr β) (n : Nat)  (k : KO β) (m : Nat) (tm : Tm) (H : Ae) : Option β :=
 E2 65 (fun tm H k => At A4 p [] 65 n (cd Sn [1, 1, 0, 1, 0, 0]) tm H k) (Fq 2 (E8 (fun tm H => At A4 p [] 65 n (cd Sn [1, 1, 1]) tm H (Dp A4 p fi110.results k)) (Dp A4 p fi110.results k))) m tm H
noncomputable def Aau (p : Pr β) (n : Nat)  (k : KO β) (m : Nat) (tm : Tm) (H : Ae) : Option β :=
 E2 65 (fun tm H k => At A4 p [] 65 n (cd Sn [1, 0, 1, 0, 0]) tm H k) (Fq 0 (E8 (fun tm H => At A4 p [] 65 n (cd Sn [1, 1]) tm H (Dp A4 p fi110.results k)) (Dp A4 p fi110.results k))) m tm H
theorem Sz (p : Pr β) (n : Nat)  (k : KO β) (m2 : Nat) : ∀ (t : Nat → AV) (H : Ae), Aaw p n  k m2 (tf 65 0 t) H = Mm p n  k m2 (t 1) (t 39) (t 40) (t 41) H := by
 induction m2 with
 | zero => intros; rfl
 | succ m2 ih =>
  intro t H
  refine Eq.trans (C0 (nt := 65) (m := m2) (g := fun t H => Mm p n  k m2 (t 1) (t 39) (t 40) (t 41) H) ih rfl) ?_
  kernel_rfl
theorem V4 (p : Pr β) (n : Nat)  (k : KO β) (m1 : Nat) (t : Nat → AV) (H : Ae) : At A4 p [] 65 n (cd Sn [1, 1, 0, 1, 0, 0]) (tf 65 0 t) H (E8 (fun tm H => J9 p n  k m1 (gt tm 1) (gt tm 28) (gt tm 29) (gt tm 30) H) (Fq 2 (E8 (fun tm H => At A4 p [] 65 n (cd Sn [1, 1, 1]) tm H (Dp A4 p fi110.results k)) (Dp A4 p fi110.results k)))) =
 p.bin .lss (t 30) (t 29) fun t31 =>
 p.cond t31
 (p.iadr 1 (t 28) (t 30) fun t32 =>
 p.load false 1 t32 H fun t33 =>
 p.call 4 (.fn 138 [] []) [t33] H fun t35 H =>
 p.un .not t35 fun t36 =>
 p.cond t36
 (k bF H)
 (p.bin .add (t 30) (si 1) fun t37 =>
 J9 p n  k m1 (t 1) (t 28) (t 29) t37 H))
 (p.fadr 24 (t 1) fun t38 =>
 p.load false 1 t38 H fun t39 =>
 p.len t39 fun t40 =>
 Aaw p n  k n (tf 65 0 (ud [(31, t31), (38, t38), (39, t39), (40, t40), (41, i0)] t)) H) := by kernel_rfl
theorem Sy (p : Pr β) (n : Nat)  (k : KO β) (m1 : Nat) : ∀ (t : Nat → AV) (H : Ae), Aav p n  k m1 (tf 65 0 t) H = J9 p n  k m1 (t 1) (t 28) (t 29) (t 30) H := by
 induction m1 with
 | zero => intros; rfl
 | succ m1 ih =>
  intro t H
  refine Eq.trans (C0 (nt := 65) (m := m1) (g := fun t H => J9 p n  k m1 (t 1) (t 28) (t 29) (t 30) H) ih rfl) ?_
  refine Eq.trans (V4 p n  k m1 t H) ?_
  simp only [Sz]
  kernel_rfl
theorem V3 (p : Pr β) (n : Nat)  (k : KO β) (m0 : Nat) (t : Nat → AV) (H : Ae) : At A4 p [] 65 n (cd Sn [1, 0, 1, 0, 0]) (tf 65 0 t) H (E8 (fun tm H => J8 p n  k m0 (gt tm 1) (gt tm 10) (gt tm 11) (gt tm 12) H) (Fq 0 (E8 (fun tm H => At A4 p [] 65 n (cd Sn [1, 1]) tm H (Dp A4 p fi110.results k)) (Dp A4 p fi110.results k)))) =
 p.bin .lss (t 12) (t 11) fun t13 =>
 p.cond t13
 (p.iadr 2 (t 10) (t 12) fun t14 =>
 p.load true 2 t14 H fun t15 =>
 p.new [sE, i0] H fun t4 H =>
 p.store 2 t4 t15 H fun H =>
 p.fadr 0 t4 fun t16 =>
 p.load false 1 t16 H fun t17 =>
 p.call 4 (.fn 138 [] []) [t17] H fun t18 H =>
 p.un .not t18 fun t19 =>
 p.gF t19 H (p.fadr 1 t4) fun t21 H =>
 p.gF t19 H (p.load false 1 t21 H) fun t22 H =>
 p.hF t19 H (p.call 4 (.fn 107 [] []) [t22] H) fun t23 H =>
 p.gF t19 H (p.un .not t23) fun t24 H =>
 p.pick t19 bT t24 fun t25 =>
 p.cond t25
 (k bF H)
 (p.bin .add (t 12) (si 1) fun t26 =>
 J8 p n  k m0 (t 1) (t 10) (t 11) t26 H))
 (p.fadr 23 (t 1) fun t27 =>
 p.load false 1 t27 H fun t28 =>
 p.len t28 fun t29 =>
 Aav p n  k n (tf 65 0 (ud [(13, t13), (27, t27), (28, t28), (29, t29), (30, i0)] t)) H) := by kernel_rfl
theorem Zd (p : Pr β) (n : Nat)  (k : KO β) (m0 : Nat) : ∀ (t : Nat → AV) (H : Ae), Aau p n  k m0 (tf 65 0 t) H = J8 p n  k m0 (t 1) (t 10) (t 11) (t 12) H := by
 induction m0 with
 | zero => intros; rfl
 | succ m0 ih =>
  intro t H
  refine Eq.trans (C0 (nt := 65) (m := m0) (g := fun t H => J8 p n  k m0 (t 1) (t 10) (t 11) (t 12) H) ih rfl) ?_
  refine Eq.trans (V3 p n  k m0 t H) ?_
  simp only [Sy]
  kernel_rfl
theorem Ac5 (p : Pr β) (n : Nat) (a0 : AV) (H : Ae) (k : KO β) : D0 A4 p n fi110 [a0] H k =
 p.box a0 H fun t1 H =>
 p.fadr 22 t1 fun t9 =>
 p.load false 1 t9 H fun t10 =>
 p.len t10 fun t11 =>
 Aau p n  k n (tf 65 0 (ud [(0, a0), (1, t1), (2, bF), (9, t9), (10, t10), (11, t11), (12, i0)] ut)) H := by kernel_rfl
theorem Abt : M4 fi110 @f110 := fun p n a0 H k => by
 rw [Ac5]
 simp only [Sz, Sy, Zd]
 kernel_rfl
noncomputable def f70 (p : Pr β) (n : Nat) (a0 : AV) (H : Ae) (k : KO β) : Option β :=
 p.box a0 H fun t1 H =>
 p.fadr 0 t1 fun t3 =>
 p.load false 1 t3 H fun t4 =>
 p.call 4 (.fn 98 [] []) [t4, (si 1), (si 14)] H fun t5 H =>
 p.un .not t5 fun t6 =>
 p.gF t6 H (p.load true 25 t1 H) fun t9 H =>
 p.both
 (p.gF t6 H (p.load true 25 t1 H) fun t8 H =>
 p.hF t6 H (p.call 59 (.fn 105 [] []) [t9] H) fun t10 H =>
 p.hF t6 H (p.call 4 (.fn 104 [] []) [t8, t10] H) fun t11 H =>
 p.gF t6 H (p.un .not t11) fun t12 H =>
 p.pick t6 bT t12 fun t13 =>
 p.cond t13
 (k bF H)
 (p.fadr 0 t1 fun t14 =>
 p.load false 1 t14 H fun t15 =>
 p.bin .eql t15 (si 1) fun t17 =>
 p.cond t17
 (p.load true 25 t1 H fun t18 =>
 p.call 4 (.fn 106 [] []) [t18] H fun t19 H =>
 k t19 H)
 (p.bin .eql t15 (si 2) fun t21 =>
 p.cond t21
 (p.fadr 20 t1 fun t22 =>
 p.load false 1 t22 H fun t23 =>
 p.call 4 (.fn 98 [] []) [t23, i0, (si 5)] H fun t24 H =>
 p.gT t24 H (p.fadr 21 t1) fun t26 H =>
 p.gT t24 H (p.load false 1 t26 H) fun t27 H =>
 p.gT t24 H (p.un .not t27) fun t28 H =>
 p.kT t24 H t28 fun t29 H =>
 p.gF t29 H (p.fadr 20 t1) fun t30 H =>
 p.gF t29 H (p.load false 1 t30 H) fun t31 H =>
 p.gF t29 H (p.bin .eql t31 i0) fun t32 H =>
 p.gT t24 H (p.pick t29 bT t32) fun t33 H =>
 p.pick t24 t33 bF fun t34 =>
 k t34 H)
 (p.bin .eql t15 (si 3) fun t36 =>
 p.cond t36
 (p.fadr 2 t1 fun t37 =>
 p.load false 1 t37 H fun t38 =>
 p.call 4 (.fn 107 [] []) [t38] H fun t39 H =>
 p.gT t39 H (p.fadr 5 t1) fun t41 H =>
 p.gT t39 H (p.load false 1 t41 H) fun t42 H =>
 p.hT t39 H (p.call 4 (.fn 108 [] []) [t42] H) fun t43 H =>
 p.pick t39 t43 bF fun t44 =>
 p.gT t44 H (p.fadr 6 t1) fun t46 H =>
 p.gT t44 H (p.load false 1 t46 H) fun t47 H =>
 p.gT t44 H (p.len t47) fun t48 H =>
 p.gT t44 H (p.bin .leq t48 (si 40)) fun t49 H =>
 p.pick t44 t49 bF fun t50 =>
 p.gT t50 H (p.fadr 2 t1) fun t52 H =>
 p.gT t50 H (p.load false 1 t52 H) fun t53 H =>
 p.gT t50 H (p.bin .eql t53 i0) fun t54 H =>
 p.kT t50 H t54 fun t55 H =>
 p.gF t55 H (p.fadr 4 t1) fun t56 H =>
 p.gF t55 H (p.load false 1 t56 H) fun t57 H =>
 p.hF t55 H (p.call 4 (.fn 109 [] []) [t57] H) fun t58 H =>
 p.gT t50 H (p.pick t55 bT t58) fun t59 H =>
 p.pick t50 t59 bF fun t60 =>
 k t60 H)
 (p.bin .eql t15 (si 4) fun t62 =>
 E4 (fun (t1 t15 t61 : AV) (H : Ae) => p.cond t61
 (p.fadr 4 t1 fun t67 =>
 p.load false 1 t67 H fun t68 =>
 p.call 4 (.fn 109 [] []) [t68] H fun t69 H =>
 k t69 H)
 (p.bin .eql t15 (si 8) fun t71 =>
 E4 (fun (t1 t70 : AV) (H : Ae) => p.cond t70
 (p.fadr 4 t1 fun t74 =>
 p.load false 1 t74 H fun t75 =>
 p.call 4 (.fn 109 [] []) [t75] H fun t76 H =>
 p.gT t76 H (p.load true 25 t1 H) fun t78 H =>
 p.hT t76 H (p.call 4 (.fn 110 [] []) [t78] H) fun t79 H =>
 p.pick t76 t79 bF fun t80 =>
 k t80 H)
 (k bT H)) fun j2 =>
 p.cond t71
 (j2 t1 t71 H)
 (p.bin .eql t15 (si 9) fun t72 =>
 p.cond t72
 (j2 t1 t72 H)
 (p.bin .eql t15 (si 10) fun t73 =>
 j2 t1 t73 H)))) fun j1 =>
 p.cond t62
 (j1 t1 t15 t62 H)
 (p.bin .eql t15 (si 5) fun t63 =>
 p.cond t63
 (j1 t1 t15 t63 H)
 (p.bin .eql t15 (si 6) fun t64 =>
 p.cond t64
 (j1 t1 t15 t64 H)
 (p.bin .eql t15 (si 7) fun t65 =>
 p.cond t65
 (j1 t1 t15 t65 H)
 (p.bin .eql t15 (si 11) fun t66 =>
 j1 t1 t15 t66 H)))))))))
 (p.hF t6 H (p.call 59 (.fn 105 [] []) [t9] H) fun t10 H =>
 p.gF t6 H (p.load true 25 t1 H) fun t8 H =>
 p.hF t6 H (p.call 4 (.fn 104 [] []) [t8, t10] H) fun t11 H =>
 p.gF t6 H (p.un .not t11) fun t12 H =>
 p.pick t6 bT t12 fun t13 =>
 p.cond t13
 (k bF H)
 (p.fadr 0 t1 fun t14 =>
 p.load false 1 t14 H fun t15 =>
 p.bin .eql t15 (si 1) fun t17 =>
 p.cond t17
 (p.load true 25 t1 H fun t18 =>
 p.call 4 (.fn 106 [] []) [t18] H fun t19 H =>
 k t19 H)
 (p.bin .eql t15 (si 2) fun t21 =>
 p.cond t21
 (p.fadr 20 t1 fun t22 =>
 p.load false 1 t22 H fun t23 =>
 p.call 4 (.fn 98 [] []) [t23, i0, (si 5)] H fun t24 H =>
 p.gT t24 H (p.fadr 21 t1) fun t26 H =>
 p.gT t24 H (p.load false 1 t26 H) fun t27 H =>
 p.gT t24 H (p.un .not t27) fun t28 H =>
 p.kT t24 H t28 fun t29 H =>
 p.gF t29 H (p.fadr 20 t1) fun t30 H =>
 p.gF t29 H (p.load false 1 t30 H) fun t31 H =>
 p.gF t29 H (p.bin .eql t31 i0) fun t32 H =>
 p.gT t24 H (p.pick t29 bT t32) fun t33 H =>
 p.pick t24 t33 bF fun t34 =>
 k t34 H)
 (p.bin .eql t15 (si 3) fun t36 =>
 p.cond t36
 (p.fadr 2 t1 fun t37 =>
 p.load false 1 t37 H fun t38 =>
 p.call 4 (.fn 107 [] []) [t38] H fun t39 H =>
 p.gT t39 H (p.fadr 5 t1) fun t41 H =>
 p.gT t39 H (p.load false 1 t41 H) fun t42 H =>
 p.hT t39 H (p.call 4 (.fn 108 [] []) [t42] H) fun t43 H =>
 p.pick t39 t43 bF fun t44 =>
 p.gT t44 H (p.fadr 6 t1) fun t46 H =>
 p.gT t44 H (p.load false 1 t46 H) fun t47 H =>
 p.gT t44 H (p.len t47) fun t48 H =>
 p.gT t44 H (p.bin .leq t48 (si 40)) fun t49 H =>
 p.pick t44 t49 bF fun t50 =>
 p.gT t50 H (p.fadr 2 t1) fun t52 H =>
 p.gT t50 H (p.load false 1 t52 H) fun t53 H =>
 p.gT t50 H (p.bin .eql t53 i0) fun t54 H =>
 p.kT t50 H t54 fun t55 H =>
 p.gF t55 H (p.fadr 4 t1) fun t56 H =>
 p.gF t55 H (p.load false 1 t56 H) fun t57 H =>
 p.hF t55 H (p.call 4 (.fn 109 [] []) [t57] H) fun t58 H =>
 p.gT t50 H (p.pick t55 bT t58) fun t59 H =>
 p.pick t50 t59 bF fun t60 =>
 k t60 H)
 (p.bin .eql t15 (si 4) fun t62 =>
 E4 (fun (t1 t15 t61 : AV) (H : Ae) => p.cond t61
 (p.fadr 4 t1 fun t67 =>
 p.load false 1 t67 H fun t68 =>
 p.call 4 (.fn 109 [] []) [t68] H fun t69 H =>
 k t69 H)
 (p.bin .eql t15 (si 8) fun t71 =>
 E4 (fun (t1 t70 : AV) (H : Ae) => p.cond t70
 (p.fadr 4 t1 fun t74 =>
 p.load false 1 t74 H fun t75 =>
 p.call 4 (.fn 109 [] []) [t75] H fun t76 H =>
 p.gT t76 H (p.load true 25 t1 H) fun t78 H =>
 p.hT t76 H (p.call 4 (.fn 110 [] []) [t78] H) fun t79 H =>
 p.pick t76 t79 bF fun t80 =>
 k t80 H)
 (k bT H)) fun j4 =>
 p.cond t71
 (j4 t1 t71 H)
 (p.bin .eql t15 (si 9) fun t72 =>
 p.cond t72
 (j4 t1 t72 H)
 (p.bin .eql t15 (si 10) fun t73 =>
 j4 t1 t73 H)))) fun j3 =>
 p.cond t62
 (j3 t1 t15 t62 H)
 (p.bin .eql t15 (si 5) fun t63 =>
 p.cond t63
 (j3 t1 t15 t63 H)
 (p.bin .eql t15 (si 6) fun t64 =>
 p.cond t64
 (j3 t1 t15 t64 H)
 (p.bin .eql t15 (si 7) fun t65 =>
 p.cond t65
 (j3 t1 t15 t65 H)
 (p.bin .eql t15 (si 11) fun t66 =>
 j3 t1 t15 t66 H)))))))))
theorem Adh : M4 AiD @f70 := fun p n a0 H k => by kernel_rfl
noncomputable def f140 (p : Pr β) (n : Nat) (a0 a1 : AV) (H : Ae) (k : KO β) : Option β :=
 p.cond a0
 (k a1 H)
 (k i0 H)
theorem AbB : Nf AgD @f140 := fun p n a0 a1 H k => by kernel_rfl
noncomputable def f142 (p : Pr β) (n : Nat) (a0 a1 : AV) (H : Ae) (k : KO β) : Option β :=
 p.bin .shr a1 (.sc (.int .u64 8)) fun t7 =>
 p.bin .and t7 (si 255) fun t8 =>
 p.cvI .u8 t8 fun t9 =>
 p.bin .and a1 (si 255) fun t11 =>
 p.cvI .u8 t11 fun t12 =>
 p.fill [(su 0), (su 0)] [(0, 1, t9), (1, 1, t12)] fun ct13 => p.newSl 2 1 ct13 true H fun t13 H =>
 p.fill [.nl, .nl] [(0, 1, a0), (1, 1, t13)] fun ct14 => p.newSl 2 1 ct14 true H fun t14 H =>
 p.call 22 (.fn 77 [] []) [t14] H fun t15 H =>
 k t15 H
theorem AbD : Nf AgF @f142 := fun p n a0 a1 H k => by kernel_rfl
noncomputable def f141 (p : Pr β) (n : Nat) (a0 a1 : AV) (H : Ae) (k : KO β) : Option β :=
 p.call 4 (.fn 135 [] []) [a1] H fun t6 H =>
 p.un .not t6 fun t7 =>
 p.cond t7
 (p.fill [.nl] [(0, 1, a0)] fun ct9 => p.newSl 1 1 ct9 true H fun t9 H =>
 p.call 22 (.fn 77 [] []) [t9] H fun t10 H =>
 k t10 H)
 (p.lenS a1 fun t13 =>
 p.call 22 (.fn 142 [] []) [a0, t13] H fun t14 H =>
 p.cvSB a1 H fun t16 H =>
 p.fill [.nl, .nl] [(0, 1, t14), (1, 1, t16)] fun ct17 => p.newSl 2 1 ct17 true H fun t17 H =>
 p.call 22 (.fn 77 [] []) [t17] H fun t18 H =>
 k t18 H)
theorem AbC : Nf AgE @f141 := fun p n a0 a1 H k => by kernel_rfl
noncomputable def f151 (p : Pr β) (n : Nat) (a0 a1 : AV) (H : Ae) (k : KO β) : Option β :=
 p.len a1 fun t6 =>
 p.bin .gtr t6 (si 60) fun t7 =>
 p.cond t7
 (p.fill [.nl] [(0, 1, a0)] fun ct9 => p.newSl 1 1 ct9 true H fun t9 H =>
 p.call 22 (.fn 77 [] []) [t9] H fun t10 H =>
 k t10 H)
 (p.len a1 fun t13 =>
 p.call 22 (.fn 142 [] []) [a0, t13] H fun t14 H =>
 p.fill [.nl, .nl] [(0, 1, t14), (1, 1, a1)] fun ct16 => p.newSl 2 1 ct16 true H fun t16 H =>
 p.call 22 (.fn 77 [] []) [t16] H fun t17 H =>
 k t17 H)
theorem AbH : Nf AgI @f151 := fun p n a0 a1 H k => by kernel_rfl
noncomputable def f139 (p : Pr β) (n : Nat) (a0 : AV) (H : Ae) (k : KO β) : Option β :=
 p.box a0 H fun t1 H =>
 p.fadr 9 t1 fun t5 =>
 p.load false 1 t5 H fun t6 =>
 p.fadr 11 t1 fun t8 =>
 p.load false 1 t8 H fun t9 =>
 p.fadr 14 t1 fun t12 =>
 p.load false 1 t12 H fun t13 =>
 p.bin .mul (si 8) t13 fun t14 =>
 p.fadr 15 t1 fun t16 =>
 p.load false 1 t16 H fun t17 =>
 p.fadr 18 t1 fun t20 =>
 p.load false 1 t20 H fun t21 =>
 p.fadr 16 t1 fun t24 =>
 p.load false 1 t24 H fun t25 =>
 p.call 3 (.fn 140 [] []) [t6, (si 2)] H fun t7 H =>
 p.call 3 (.fn 140 [] []) [t9, (si 4)] H fun t10 H =>
 p.bin .add t7 t10 fun t11 =>
 p.bin .add t11 t14 fun t15 =>
 p.call 3 (.fn 140 [] []) [t17, (si 32)] H fun t18 H =>
 p.bin .add t15 t18 fun t19 =>
 p.call 3 (.fn 140 [] []) [t21, (si 64)] H fun t22 H =>
 p.bin .add t19 t22 fun t23 =>
 p.call 3 (.fn 140 [] []) [t25, (si 128)] H fun t26 H =>
 p.bin .add t23 t26 fun t27 =>
 p.fadr 8 t1 fun t29 =>
 p.load false 1 t29 H fun t30 =>
 p.cvI .u8 t30 fun t31 =>
 p.cvI .u8 t27 fun t33 =>
 E4 (fun (t1 t4 : AV) (H : Ae) => p.fadr 10 t1 fun t37 =>
 p.load false 1 t37 H fun t38 =>
 p.fadr 7 t1 fun t40 =>
 p.load false 1 t40 H fun t41 =>
 p.call 22 (.fn 142 [] []) [t4, t38] H fun t39 H =>
 p.call 22 (.fn 141 [] []) [t39, t41] H fun t42 H =>
 p.fadr 11 t1 fun t43 =>
 p.load false 1 t43 H fun t44 =>
 E4 (fun (t1 t4 : AV) (H : Ae) => p.fadr 16 t1 fun t52 =>
 p.load false 1 t52 H fun t53 =>
 E4 (fun (t1 t4 : AV) (H : Ae) => p.fadr 18 t1 fun t58 =>
 p.load false 1 t58 H fun t59 =>
 E4 (fun (t4 : AV) (H : Ae) => k t4 H) fun j4 =>
 p.cond t59
 (p.fadr 19 t1 fun t61 =>
 p.load false 1 t61 H fun t62 =>
 p.call 22 (.fn 151 [] []) [t4, t62] H fun t63 H =>
 j4 t63 H)
 (j4 t4 H)) fun j3 =>
 p.cond t53
 (p.fadr 17 t1 fun t55 =>
 p.load false 1 t55 H fun t56 =>
 p.call 22 (.fn 141 [] []) [t4, t56] H fun t57 H =>
 j3 t1 t57 H)
 (j3 t1 t4 H)) fun j2 =>
 p.cond t44
 (p.fadr 12 t1 fun t46 =>
 p.load false 1 t46 H fun t47 =>
 p.fadr 13 t1 fun t49 =>
 p.load false 1 t49 H fun t50 =>
 p.call 22 (.fn 141 [] []) [t42, t47] H fun t48 H =>
 p.call 22 (.fn 151 [] []) [t48, t50] H fun t51 H =>
 j2 t1 t51 H)
 (j2 t1 t42 H)) fun j1 =>
 p.both
 (p.call 22 (.fn 141 [] []) [.nl, (.sc (.string ⟨#[77, 81, 84, 84]⟩))] H fun t28 H =>
 p.fill [(su 0), (su 0)] [(0, 1, t31), (1, 1, t33)] fun ct34 => p.newSl 2 1 ct34 true H fun t34 H =>
 p.app 1 1 t28 t34 H fun t35 H =>
 j1 t1 t35 H)
 (p.fill [(su 0), (su 0)] [(0, 1, t31), (1, 1, t33)] fun ct34 => p.newSl 2 1 ct34 true H fun t34 H =>
 p.call 22 (.fn 141 [] []) [.nl, (.sc (.string ⟨#[77, 81, 84, 84]⟩))] H fun t28 H =>
 p.app 1 1 t28 t34 H fun t35 H =>
 j1 t1 t35 H)
theorem AbA : M4 AgC @f139 := fun p n a0 H k => by kernel_rfl
noncomputable def Mn (p : Pr β) (n : Nat)  (k : KO β) : Nat → AV → AV → AV → KO β
 | 0, _, _, _, _, _ => none
 | m + 1, t3, t85, t86, t87, H => p.bin .lss t87 t86 fun t88 =>
   p.cond t88
   (p.iadr 1 t85 t87 fun t89 =>
   p.load false 1 t89 H fun t90 =>
   p.call 22 (.fn 141 [] []) [t3, t90] H fun t93 H =>
   p.bin .add t87 (si 1) fun t94 =>
   Mn p n  k m t93 t85 t86 t94 H)
   (k t3 H)
noncomputable def Kb (p : Pr β) (n : Nat)  (k : KO β) : Nat → AV → AV → AV → AV → KO β
 | 0, _, _, _, _, _, _ => none
 | m + 1, t1, t3, t72, t73, t74, H => p.bin .lss t74 t73 fun t75 =>
   p.cond t75
   (p.iadr 1 t72 t74 fun t76 =>
   p.load false 1 t76 H fun t77 =>
   p.cvI .u8 t77 fun t80 =>
   p.fill [(su 0)] [(0, 1, t80)] fun ct81 => p.newSl 1 1 ct81 true H fun t81 H =>
   p.app 1 1 t3 t81 H fun t82 H =>
   p.bin .add t74 (si 1) fun t83 =>
   Kb p n  k m t1 t82 t72 t73 t83 H)
   (p.fadr 23 t1 fun t84 =>
   p.load false 1 t84 H fun t85 =>
   p.len t85 fun t86 =>
   Mn p n  k n t3 t85 t86 i0 H)
noncomputable def Ka (p : Pr β) (n : Nat)  (k : KO β) : Nat → AV → AV → AV → AV → KO β
 | 0, _, _, _, _, _, _ => none
 | m + 1, t1, t3, t55, t56, t57, H => p.bin .lss t57 t56 fun t58 =>
   p.cond t58
   (p.iadr 2 t55 t57 fun t59 =>
   p.load true 2 t59 H fun t60 =>
   p.new [sE, i0] H fun t5 H =>
   p.store 2 t5 t60 H fun H =>
   p.fadr 0 t5 fun t62 =>
   p.load false 1 t62 H fun t63 =>
   p.fadr 1 t5 fun t65 =>
   p.load false 1 t65 H fun t66 =>
   p.cvI .u8 t66 fun t67 =>
   E4 (fun (t1 t3 t55 t56 t57 : AV) (H : Ae) => p.bin .add t57 (si 1) fun t70 =>
   Ka p n  k m t1 t3 t55 t56 t70 H) fun j1 =>
   p.both
   (p.call 22 (.fn 141 [] []) [t3, t63] H fun t64 H =>
   p.fill [(su 0)] [(0, 1, t67)] fun ct68 => p.newSl 1 1 ct68 true H fun t68 H =>
   p.app 1 1 t64 t68 H fun t69 H =>
   j1 t1 t69 t55 t56 t57 H)
   (p.fill [(su 0)] [(0, 1, t67)] fun ct68 => p.newSl 1 1 ct68 true H fun t68 H =>
   p.call 22 (.fn 141 [] []) [t3, t63] H fun t64 H =>
   p.app 1 1 t64 t68 H fun t69 H =>
   j1 t1 t69 t55 t56 t57 H))
   (p.fadr 24 t1 fun t71 =>
   p.load false 1 t71 H fun t72 =>
   p.len t72 fun t73 =>
   Kb p n  k n t1 t3 t72 t73 i0 H)
noncomputable def f111 (p : Pr β) (n : Nat) (a0 : AV) (H : Ae) (k : KO β) : Option β :=
 p.box a0 H fun t1 H =>
 p.fadr 0 t1 fun t11 =>
 p.load false 1 t11 H fun t12 =>
 p.bin .eql t12 (si 1) fun t14 =>
 E4 (fun (t1 t3 : AV) (H : Ae) => p.fadr 4 t1 fun t51 =>
 p.load false 1 t51 H fun t52 =>
 p.call 22 (.fn 142 [] []) [t3, t52] H fun t53 H =>
 p.fadr 22 t1 fun t54 =>
 p.load false 1 t54 H fun t55 =>
 p.len t55 fun t56 =>
 Ka p n  k n t1 t53 t55 t56 i0 H) fun j1 =>
 p.cond t14
 (p.load true 25 t1 H fun t15 =>
 p.call 22 (.fn 139 [] []) [t15] H fun t16 H =>
 k t16 H)
 (p.bin .eql t12 (si 2) fun t18 =>
 p.cond t18
 (p.fadr 21 t1 fun t19 =>
 p.load false 1 t19 H fun t20 =>
 p.fadr 20 t1 fun t23 =>
 p.load false 1 t23 H fun t24 =>
 p.cvI .u8 t24 fun t25 =>
 p.call 3 (.fn 140 [] []) [t20, (si 1)] H fun t21 H =>
 p.cvI .u8 t21 fun t22 =>
 p.fill [(su 0), (su 0)] [(0, 1, t22), (1, 1, t25)] fun ct26 => p.newSl 2 1 ct26 true H fun t26 H =>
 k t26 H)
 (p.bin .eql t12 (si 3) fun t28 =>
 p.cond t28
 (p.fadr 5 t1 fun t30 =>
 p.load false 1 t30 H fun t31 =>
 p.call 22 (.fn 141 [] []) [.nl, t31] H fun t32 H =>
 p.fadr 2 t1 fun t33 =>
 p.load false 1 t33 H fun t34 =>
 p.bin .gtr t34 i0 fun t35 =>
 E4 (fun (t1 t3 : AV) (H : Ae) => p.fadr 6 t1 fun t41 =>
 p.load false 1 t41 H fun t42 =>
 p.fill [.nl, .nl] [(0, 1, t3), (1, 1, t42)] fun ct43 => p.newSl 2 1 ct43 true H fun t43 H =>
 p.call 22 (.fn 77 [] []) [t43] H fun t44 H =>
 k t44 H) fun j2 =>
 p.cond t35
 (p.fadr 4 t1 fun t37 =>
 p.load false 1 t37 H fun t38 =>
 p.call 22 (.fn 142 [] []) [t32, t38] H fun t39 H =>
 j2 t1 t39 H)
 (j2 t1 t32 H))
 (p.bin .eql t12 (si 12) fun t46 =>
 E4 (fun (t1 t3 t45 : AV) (H : Ae) => p.cond t45
 (k t3 H)
 (j1 t1 t3 H)) fun j3 =>
 p.cond t46
 (j3 t1 .nl t46 H)
 (p.bin .eql t12 (si 13) fun t47 =>
 p.cond t47
 (j3 t1 .nl t47 H)
 (p.bin .eql t12 (si 14) fun t48 =>
 j3 t1 .nl t48 H)))))
noncomputable def Aaz (p : Pr β) (n : Nat)  (k : KO β) (m : Nat) (tm : Tm) (H : Ae) : Option β :=
 E2 96 (fun tm H k => At A4 p Ti 96 n (cd So [1, 1, 1, 1, 1, 1, 0, 1, 0, 0]) tm H k) (Fq 5 (E8 (fun tm H => At A4 p Ti 96 n (cd So [1, 1, 1, 1, 1, 1, 1]) tm H (Dp A4 p fi111.results k)) (Dp A4 p fi111.results k))) m tm H
noncomputable def Aay (p : Pr β) (n : Nat)  (k : KO β) (m : Nat) (tm : Tm) (H : Ae) : Option β :=
 E2 96 (fun tm H k => At A4 p Ti 96 n (cd So [1, 1, 1, 1, 1, 0, 1, 0, 0]) tm H k) (Fq 3 (E8 (fun tm H => At A4 p Ti 96 n (cd So [1, 1, 1, 1, 1, 1]) tm H (Dp A4 p fi111.results k)) (Dp A4 p fi111.results k))) m tm H
noncomputable def Aax (p : Pr β) (n : Nat)  (k : KO β) (m : Nat) (tm : Tm) (H : Ae) : Option β :=
 E2 96 (fun tm H k => At A4 p Ti 96 n (cd So [1, 1, 1, 1, 0, 1, 0, 0]) tm H k) (Fq 1 (E8 (fun tm H => At A4 p Ti 96 n (cd So [1, 1, 1, 1, 1]) tm H (Dp A4 p fi111.results k)) (Dp A4 p fi111.results k))) m tm H
theorem S1 (p : Pr β) (n : Nat)  (k : KO β) (m2 : Nat) : ∀ (t : Nat → AV) (H : Ae), Aaz p n  k m2 (tf 96 0 t) H = Mn p n  k m2 (t 3) (t 85) (t 86) (t 87) H := by
 induction m2 with
 | zero => intros; rfl
 | succ m2 ih =>
  intro t H
  refine Eq.trans (C0 (nt := 96) (m := m2) (g := fun t H => Mn p n  k m2 (t 3) (t 85) (t 86) (t 87) H) ih rfl) ?_
  kernel_rfl
theorem V6 (p : Pr β) (n : Nat)  (k : KO β) (m1 : Nat) (t : Nat → AV) (H : Ae) : At A4 p Ti 96 n (cd So [1, 1, 1, 1, 1, 0, 1, 0, 0]) (tf 96 0 t) H (E8 (fun tm H => Kb p n  k m1 (gt tm 1) (gt tm 3) (gt tm 72) (gt tm 73) (gt tm 74) H) (Fq 3 (E8 (fun tm H => At A4 p Ti 96 n (cd So [1, 1, 1, 1, 1, 1]) tm H (Dp A4 p fi111.results k)) (Dp A4 p fi111.results k)))) =
 p.bin .lss (t 74) (t 73) fun t75 =>
 p.cond t75
 (p.iadr 1 (t 72) (t 74) fun t76 =>
 p.load false 1 t76 H fun t77 =>
 p.cvI .u8 t77 fun t80 =>
 p.fill [(su 0)] [(0, 1, t80)] fun ct81 => p.newSl 1 1 ct81 true H fun t81 H =>
 p.app 1 1 (t 3) t81 H fun t82 H =>
 p.bin .add (t 74) (si 1) fun t83 =>
 Kb p n  k m1 (t 1) t82 (t 72) (t 73) t83 H)
 (p.fadr 23 (t 1) fun t84 =>
 p.load false 1 t84 H fun t85 =>
 p.len t85 fun t86 =>
 Aaz p n  k n (tf 96 0 (ud [(75, t75), (84, t84), (85, t85), (86, t86), (87, i0)] t)) H) := by kernel_rfl
theorem S0 (p : Pr β) (n : Nat)  (k : KO β) (m1 : Nat) : ∀ (t : Nat → AV) (H : Ae), Aay p n  k m1 (tf 96 0 t) H = Kb p n  k m1 (t 1) (t 3) (t 72) (t 73) (t 74) H := by
 induction m1 with
 | zero => intros; rfl
 | succ m1 ih =>
  intro t H
  refine Eq.trans (C0 (nt := 96) (m := m1) (g := fun t H => Kb p n  k m1 (t 1) (t 3) (t 72) (t 73) (t 74) H) ih rfl) ?_
  refine Eq.trans (V6 p n  k m1 t H) ?_
  simp only [S1]
  kernel_rfl
theorem V5 (p : Pr β) (n : Nat)  (k : KO β) (m0 : Nat) (t : Nat → AV) (H : Ae) : At A4 p Ti 96 n (cd So [1, 1, 1, 1, 0, 1, 0, 0]) (tf 96 0 t) H (E8 (fun tm H => Ka p n  k m0 (gt tm 1) (gt tm 3) (gt tm 55) (gt tm 56) (gt tm 57) H) (Fq 1 (E8 (fun tm H => At A4 p Ti 96 n (cd So [1, 1, 1, 1, 1]) tm H (Dp A4 p fi111.results k)) (Dp A4 p fi111.results k)))) =
 p.bin .lss (t 57) (t 56) fun t58 =>
 p.cond t58
 (p.iadr 2 (t 55) (t 57) fun t59 =>
 p.load true 2 t59 H fun t60 =>
 p.new [sE, i0] H fun t5 H =>
 p.store 2 t5 t60 H fun H =>
 p.fadr 0 t5 fun t62 =>
 p.load false 1 t62 H fun t63 =>
 p.fadr 1 t5 fun t65 =>
 p.load false 1 t65 H fun t66 =>
 p.cvI .u8 t66 fun t67 =>
 E4 (fun (t : Nat → AV) (H : Ae) => p.bin .add (t 57) (si 1) fun t70 =>
 Ka p n  k m0 (t 1) (t 3) (t 55) (t 56) t70 H) fun j1 =>
 p.both
 (p.call 22 (.fn 141 [] []) [(t 3), t63] H fun t64 H =>
 p.fill [(su 0)] [(0, 1, t67)] fun ct68 => p.newSl 1 1 ct68 true H fun t68 H =>
 p.app 1 1 t64 t68 H fun t69 H =>
 j1 (ud [(3, t69), (5, t5), (58, t58), (59, t59), (60, t60), (61, (t 3)), (62, t62), (63, t63), (64, t64), (65, t65), (66, t66), (67, t67), (68, t68), (69, t69)] t) H)
 (p.fill [(su 0)] [(0, 1, t67)] fun ct68 => p.newSl 1 1 ct68 true H fun t68 H =>
 p.call 22 (.fn 141 [] []) [(t 3), t63] H fun t64 H =>
 p.app 1 1 t64 t68 H fun t69 H =>
 j1 (ud [(3, t69), (5, t5), (58, t58), (59, t59), (60, t60), (61, (t 3)), (62, t62), (63, t63), (64, t64), (65, t65), (66, t66), (67, t67), (68, t68), (69, t69)] t) H))
 (p.fadr 24 (t 1) fun t71 =>
 p.load false 1 t71 H fun t72 =>
 p.len t72 fun t73 =>
 Aay p n  k n (tf 96 0 (ud [(58, t58), (71, t71), (72, t72), (73, t73), (74, i0)] t)) H) := by kernel_rfl
theorem Ze (p : Pr β) (n : Nat)  (k : KO β) (m0 : Nat) : ∀ (t : Nat → AV) (H : Ae), Aax p n  k m0 (tf 96 0 t) H = Ka p n  k m0 (t 1) (t 3) (t 55) (t 56) (t 57) H := by
 induction m0 with
 | zero => intros; rfl
 | succ m0 ih =>
  intro t H
  refine Eq.trans (C0 (nt := 96) (m := m0) (g := fun t H => Ka p n  k m0 (t 1) (t 3) (t 55) (t 56) (t 57) H) ih rfl) ?_
  refine Eq.trans (V5 p n  k m0 t H) ?_
  simp only [S0]
  kernel_rfl
theorem Ac6 (p : Pr β) (n : Nat) (a0 : AV) (H : Ae) (k : KO β) : D0 A4 p n fi111 [a0] H k =
 p.box a0 H fun t1 H =>
 p.fadr 0 t1 fun t11 =>
 p.load false 1 t11 H fun t12 =>
 p.bin .eql t12 (si 1) fun t14 =>
 E4 (fun (t : Nat → AV) (H : Ae) => p.fadr 4 (t 1) fun t51 =>
 p.load false 1 t51 H fun t52 =>
 p.call 22 (.fn 142 [] []) [(t 3), t52] H fun t53 H =>
 p.fadr 22 (t 1) fun t54 =>
 p.load false 1 t54 H fun t55 =>
 p.len t55 fun t56 =>
 Aax p n  k n (tf 96 0 (ud [(3, t53), (50, (t 3)), (51, t51), (52, t52), (53, t53), (54, t54), (55, t55), (56, t56), (57, i0)] t)) H) fun j1 =>
 p.cond t14
 (p.load true 25 t1 H fun t15 =>
 p.call 22 (.fn 139 [] []) [t15] H fun t16 H =>
 k t16 H)
 (p.bin .eql t12 (si 2) fun t18 =>
 p.cond t18
 (p.fadr 21 t1 fun t19 =>
 p.load false 1 t19 H fun t20 =>
 p.fadr 20 t1 fun t23 =>
 p.load false 1 t23 H fun t24 =>
 p.cvI .u8 t24 fun t25 =>
 p.call 3 (.fn 140 [] []) [t20, (si 1)] H fun t21 H =>
 p.cvI .u8 t21 fun t22 =>
 p.fill [(su 0), (su 0)] [(0, 1, t22), (1, 1, t25)] fun ct26 => p.newSl 2 1 ct26 true H fun t26 H =>
 k t26 H)
 (p.bin .eql t12 (si 3) fun t28 =>
 p.cond t28
 (p.fadr 5 t1 fun t30 =>
 p.load false 1 t30 H fun t31 =>
 p.call 22 (.fn 141 [] []) [.nl, t31] H fun t32 H =>
 p.fadr 2 t1 fun t33 =>
 p.load false 1 t33 H fun t34 =>
 p.bin .gtr t34 i0 fun t35 =>
 E4 (fun (t : Nat → AV) (H : Ae) => p.fadr 6 (t 1) fun t41 =>
 p.load false 1 t41 H fun t42 =>
 p.fill [.nl, .nl] [(0, 1, (t 3)), (1, 1, t42)] fun ct43 => p.newSl 2 1 ct43 true H fun t43 H =>
 p.call 22 (.fn 77 [] []) [t43] H fun t44 H =>
 k t44 H) fun j2 =>
 p.cond t35
 (p.fadr 4 t1 fun t37 =>
 p.load false 1 t37 H fun t38 =>
 p.call 22 (.fn 142 [] []) [t32, t38] H fun t39 H =>
 j2 (ud [(0, a0), (1, t1), (2, .nl), (3, t39), (10, .nl), (11, t11), (12, t12), (13, t14), (14, t14), (17, t18), (18, t18), (27, t28), (28, t28), (29, .nl), (30, t30), (31, t31), (32, t32), (33, t33), (34, t34), (35, t35), (36, t32), (37, t37), (38, t38), (39, t39)] ut) H)
 (j2 (ud [(0, a0), (1, t1), (2, .nl), (3, t32), (10, .nl), (11, t11), (12, t12), (13, t14), (14, t14), (17, t18), (18, t18), (27, t28), (28, t28), (29, .nl), (30, t30), (31, t31), (32, t32), (33, t33), (34, t34), (35, t35)] ut) H))
 (p.bin .eql t12 (si 12) fun t46 =>
 E4 (fun (t : Nat → AV) (H : Ae) => p.cond (t 45)
 (k (t 3) H)
 (j1 t H)) fun j3 =>
 p.cond t46
 (j3 (ud [(0, a0), (1, t1), (2, .nl), (3, .nl), (10, .nl), (11, t11), (12, t12), (13, t14), (14, t14), (17, t18), (18, t18), (27, t28), (28, t28), (45, t46), (46, t46)] ut) H)
 (p.bin .eql t12 (si 13) fun t47 =>
 p.cond t47
 (j3 (ud [(0, a0), (1, t1), (2, .nl), (3, .nl), (10, .nl), (11, t11), (12, t12), (13, t14), (14, t14), (17, t18), (18, t18), (27, t28), (28, t28), (45, t47), (46, t46), (47, t47)] ut) H)
 (p.bin .eql t12 (si 14) fun t48 =>
 j3 (ud [(0, a0), (1, t1), (2, .nl), (3, .nl), (10, .nl), (11, t11), (12, t12), (13, t14), (14, t14), (17, t18), (18, t18), (27, t28), (28, t28), (45, t48), (46, t46), (47, t47), (48, t48)] ut) H))))) := by kernel_rfl
theorem Abu : M4 fi111 @f111 := fun p n a0 H k => by
 rw [Ac6]
 simp only [S1, S0, Ze]
 kernel_rfl
noncomputable def f113 (p : Pr β) (n : Nat) (a0 : AV) (H : Ae) (k : KO β) : Option β :=
 p.box a0 H fun t1 H =>
 p.fadr 0 t1 fun t4 =>
 p.load false 1 t4 H fun t5 =>
 p.bin .mul (si 16) t5 fun t6 =>
 p.fadr 0 t1 fun t7 =>
 p.load false 1 t7 H fun t8 =>
 p.bin .eql t8 (si 3) fun t10 =>
 p.cond t10
 (p.fadr 1 t1 fun t12 =>
 p.load false 1 t12 H fun t13 =>
 p.fadr 2 t1 fun t15 =>
 p.load false 1 t15 H fun t16 =>
 p.bin .mul (si 2) t16 fun t17 =>
 p.fadr 3 t1 fun t19 =>
 p.load false 1 t19 H fun t20 =>
 p.call 3 (.fn 140 [] []) [t13, (si 8)] H fun t14 H =>
 p.bin .add t14 t17 fun t18 =>
 p.call 3 (.fn 140 [] []) [t20, (si 1)] H fun t21 H =>
 p.bin .add t18 t21 fun t22 =>
 p.bin .add t6 t22 fun t23 =>
 k t23 H)
 (p.bin .eql t8 (si 6) fun t25 =>
 E4 (fun (t3 t24 : AV) (H : Ae) => p.cond t24
 (p.bin .add t3 (si 2) fun t29 =>
 k t29 H)
 (k t3 H)) fun j1 =>
 p.cond t25
 (j1 t6 t25 H)
 (p.bin .eql t8 (si 8) fun t26 =>
 p.cond t26
 (j1 t6 t26 H)
 (p.bin .eql t8 (si 10) fun t27 =>
 j1 t6 t27 H)))
theorem Abw : M4 Ag5 @f113 := fun p n a0 H k => by kernel_rfl
noncomputable def Lf (p : Pr β) (n : Nat)  (k : KO β) : Nat → AV → KO β
 | 0, _, _, _ => none
 | m + 1, t1, t5, H => p.bin .gtr t1 (si 127) fun t14 =>
   p.cond t14
   (p.bin .rem t1 (si 128) fun t17 =>
   p.bin .add t17 (si 128) fun t18 =>
   p.cvI .u8 t18 fun t19 =>
   p.fill [(su 0)] [(0, 1, t19)] fun ct20 => p.newSl 1 1 ct20 true H fun t20 H =>
   p.app 1 1 t5 t20 H fun t21 H =>
   p.bin .quo t1 (si 128) fun t23 =>
   Lf p n  k m t23 t21 H)
   (p.cvI .u8 t1 fun t26 =>
   p.fill [(su 0)] [(0, 1, t26)] fun ct27 => p.newSl 1 1 ct27 true H fun t27 H =>
   p.app 1 1 t5 t27 H fun t28 H =>
   k t28 H)
noncomputable def f112 (p : Pr β) (n : Nat) (a0 a1 : AV) (H : Ae) (k : KO β) : Option β :=
 p.fill [.nl] [(0, 1, a0)] fun ct7 => p.newSl 1 1 ct7 true H fun t7 H =>
 p.call 22 (.fn 77 [] []) [t7] H fun t8 H =>
 p.call 4 (.fn 98 [] []) [a1, i0, (si 268435455)] H fun t10 H =>
 p.un .not t10 fun t11 =>
 p.cond t11
 (k t8 H)
 (Lf p n  k n a1 t8 H)
noncomputable def Aa0 (p : Pr β) (n : Nat)  (k : KO β) (m : Nat) (tm : Tm) (H : Ae) : Option β :=
 E2 29 (fun tm H k => At A4 p [] 29 n (cd AgX [1, 1, 1, 0, 0, 0]) tm H k) (Fq 0 (E8 (fun tm H => At A4 p [] 29 n (cd AgX [1, 1, 1, 1]) tm H (Dp A4 p fi112.results k)) (Dp A4 p fi112.results k))) m tm H
theorem Zf (p : Pr β) (n : Nat)  (k : KO β) (m0 : Nat) : ∀ (t : Nat → AV) (H : Ae), Aa0 p n  k m0 (tf 29 0 t) H = Lf p n  k m0 (t 1) (t 5) H := by
 induction m0 with
 | zero => intros; rfl
 | succ m0 ih =>
  intro t H
  refine Eq.trans (C0 (nt := 29) (m := m0) (g := fun t H => Lf p n  k m0 (t 1) (t 5) H) ih rfl) ?_
  kernel_rfl
theorem Ac7 (p : Pr β) (n : Nat) (a0 a1 : AV) (H : Ae) (k : KO β) : D0 A4 p n fi112 [a0, a1] H k =
 p.fill [.nl] [(0, 1, a0)] fun ct7 => p.newSl 1 1 ct7 true H fun t7 H =>
 p.call 22 (.fn 77 [] []) [t7] H fun t8 H =>
 p.call 4 (.fn 98 [] []) [a1, i0, (si 268435455)] H fun t10 H =>
 p.un .not t10 fun t11 =>
 p.cond t11
 (k t8 H)
 (Aa0 p n  k n (tf 29 0 (ud [(0, a0), (1, a1), (4, .nl), (5, t8), (6, a0), (7, t7), (8, t8), (9, a1), (10, t10), (11, t11)] ut)) H) := by kernel_rfl
theorem Abv : Nf fi112 @f112 := fun p n a0 a1 H k => by
 rw [Ac7]
 simp only [Zf]
 kernel_rfl
noncomputable def f72 (p : Pr β) (n : Nat) (a0 : AV) (H : Ae) (k : KO β) : Option β :=
 p.box a0 H fun t1 H =>
 p.load true 25 t1 H fun t4 =>
 p.call 4 (.fn 70 [] []) [t4] H fun t5 H =>
 p.un .not t5 fun t6 =>
 p.cond t6
 (k .nl H)
 (p.load true 25 t1 H fun t7 =>
 p.call 22 (.fn 111 [] []) [t7] H fun t8 H =>
 p.load true 25 t1 H fun t9 =>
 p.call 3 (.fn 113 [] []) [t9] H fun t10 H =>
 p.cvI .u8 t10 fun t11 =>
 p.fill [(su 0)] [(0, 1, t11)] fun ct12 => p.newSl 1 1 ct12 true H fun t12 H =>
 p.len t8 fun t14 =>
 p.call 22 (.fn 112 [] []) [t12, t14] H fun t15 H =>
 p.fill [.nl, .nl] [(0, 1, t15), (1, 1, t8)] fun ct17 => p.newSl 2 1 ct17 true H fun t17 H =>
 p.call 22 (.fn 77 [] []) [t17] H fun t18 H =>
 k t18 H)
theorem Adj : M4 AiF @f72 := fun p n a0 H k => by kernel_rfl
noncomputable def f33 (p : Pr β) (n : Nat) (a0 : AV) (H : Ae) (k : KO β) : Option β :=
 p.new Ez H fun t2 H =>
 p.len a0 fun t10 =>
 p.bin .eql t10 i0 fun t11 =>
 p.cond t11
 (p.fill Ez [] fun ct12 =>
 p.store 25 t2 (.agg ct12) H fun H =>
 p.load true 25 t2 H fun r0 =>
 k (Dt [r0, i0, (si 1)]) H)
 (p.iadr 1 a0 i0 fun t14 =>
 p.load false 1 t14 H fun t15 =>
 p.cvI .i64 t15 fun t16 =>
 p.call 4 (.fn 67 [] []) [t16] H fun t17 H =>
 p.un .not t17 fun t18 =>
 p.cond t18
 (p.fill Ez [] fun ct19 =>
 p.store 25 t2 (.agg ct19) H fun H =>
 p.load true 25 t2 H fun r0 =>
 k (Dt [r0, i0, (si 2)]) H)
 (p.call 85 (.fn 68 [] []) [a0, (si 1)] H fun t22 H =>
 p.extr t22 0 fun t23 =>
 p.extr t22 1 fun t24 =>
 p.extr t22 2 fun t25 =>
 p.bin .neq t25 i0 fun t28 =>
 p.cond t28
 (p.fill Ez [] fun ct29 =>
 p.store 25 t2 (.agg ct29) H fun H =>
 p.load true 25 t2 H fun r0 =>
 k (Dt [r0, i0, t25]) H)
 (p.bin .gtr t23 (si 340) fun t33 =>
 p.cond t33
 (p.fill Ez [] fun ct34 =>
 p.store 25 t2 (.agg ct34) H fun H =>
 p.load true 25 t2 H fun r0 =>
 k (Dt [r0, i0, (si 2)]) H)
 (p.len a0 fun t38 =>
 p.bin .sub t38 t24 fun t40 =>
 p.bin .gtr t23 t40 fun t41 =>
 p.cond t41
 (p.fill Ez [] fun ct42 =>
 p.store 25 t2 (.agg ct42) H fun H =>
 p.load true 25 t2 H fun r0 =>
 k (Dt [r0, i0, (si 1)]) H)
 (p.iadr 1 a0 i0 fun t44 =>
 p.load false 1 t44 H fun t45 =>
 p.cvI .i64 t45 fun t46 =>
 p.bin .add t24 t23 fun t51 =>
 p.slice 1 a0 (some t24) (some t51) fun t52 =>
 E4 (fun (t0 t2 t5 t6 t8 : AV) (H : Ae) => p.load true 25 t8 H fun t54 =>
 p.call 4 (.fn 70 [] []) [t54] H fun t55 H =>
 p.un .not t55 fun t56 =>
 p.gF t56 H (p.load true 25 t8 H) fun t58 H =>
 p.kF t56 H t0 fun t60 H =>
 p.kF t56 H t6 fun t61 H =>
 p.kF t56 H t5 fun t62 H =>
 p.gF t56 H (p.bin .add t61 t62) fun t63 H =>
 p.gF t56 H (p.slice 1 t60 none (some t63)) fun t64 H =>
 p.hF t56 H (p.call 22 (.fn 72 [] []) [t58] H) fun t59 H =>
 p.hF t56 H (p.call 4 (.fn 71 [] []) [t59, t64] H) fun t65 H =>
 p.gF t56 H (p.un .not t65) fun t66 H =>
 p.pick t56 bT t66 fun t67 =>
 p.cond t67
 (p.fill Ez [] fun ct68 =>
 p.store 25 t2 (.agg ct68) H fun H =>
 p.load true 25 t2 H fun r0 =>
 k (Dt [r0, i0, (si 2)]) H)
 (p.load true 25 t8 H fun t69 =>
 p.bin .add t6 t5 fun t72 =>
 p.store 25 t2 t69 H fun H =>
 p.load true 25 t2 H fun r0 =>
 k (Dt [r0, t72, i0]) H)) fun j1 =>
 p.both
 (p.call 59 (.fn 69 [] []) [t46, t52] H fun t53 H =>
 p.new Ez H fun t8 H =>
 p.store 25 t8 t53 H fun H =>
 j1 a0 t2 t23 t24 t8 H)
 (p.new Ez H fun t8 H =>
 p.call 59 (.fn 69 [] []) [t46, t52] H fun t53 H =>
 p.store 25 t8 t53 H fun H =>
 j1 a0 t2 t23 t24 t8 H))))))
theorem AcO : M4 Ai7 @f33 := fun p n a0 H k => by kernel_rfl
noncomputable def f30 (p : Pr β) (n : Nat) (a0 : AV) (H : Ae) (k : KO β) : Option β :=
 p.box a0 H fun t1 H =>
 p.fadr 0 t1 fun t7 =>
 p.load false 1 t7 H fun t8 =>
 p.call 60 (.fn 33 [] []) [t8] H fun t9 H =>
 p.extr t9 0 fun t10 =>
 p.extr t9 1 fun t11 =>
 p.extr t9 2 fun t12 =>
 p.new Ez H fun t3 H =>
 p.store 25 t3 t10 H fun H =>
 p.fadr 0 t1 fun t13 =>
 p.load false 1 t13 H fun t14 =>
 p.len t14 fun t15 =>
 p.bin .eql t15 i0 fun t16 =>
 p.gF t16 H (p.fadr 1 t1) fun t18 H =>
 p.gF t16 H (p.load false 1 t18 H) fun t19 H =>
 p.gF t16 H (p.un .not t19) fun t20 H =>
 p.kF t16 H t20 fun t21 H =>
 p.kT t21 H t12 fun t22 H =>
 p.gT t21 H (p.bin .eql t22 (si 1)) fun t23 H =>
 p.gF t16 H (p.pick t21 t23 bF) fun t24 H =>
 p.pick t16 bT t24 fun t25 =>
 k t25 H
theorem AcK : M4 Ai5 @f30 := fun p n a0 H k => by kernel_rfl
noncomputable def S3 (p : Pr β) (n : Nat)  (k : KO β) : Nat → AV → AV → KO β
 | 0, _, _, _, _ => none
 | m + 1, t0, t1, t5, H => p.len t0 fun t13 =>
   p.bin .lss t5 t13 fun t14 =>
   p.cond t14
   (p.iadr 1 t0 t5 fun t19 =>
   p.load false 1 t19 H fun t20 =>
   p.iadr 1 t1 t5 fun t23 =>
   p.load false 1 t23 H fun t24 =>
   p.bin .neq t20 t24 fun t25 =>
   p.cond t25
   (k bF H)
   (p.bin .add t5 (si 1) fun t16 =>
   S3 p n  k m t0 t1 t16 H))
   (k bT H)
noncomputable def f35 (p : Pr β) (n : Nat) (a0 a1 : AV) (H : Ae) (k : KO β) : Option β :=
 p.len a0 fun t7 =>
 p.len a1 fun t9 =>
 p.bin .neq t7 t9 fun t10 =>
 p.cond t10
 (k bF H)
 (S3 p n  k n a0 a1 i0 H)
noncomputable def AcP (p : Pr β) (n : Nat)  (k : KO β) (m : Nat) (tm : Tm) (H : Ae) : Option β :=
 E2 26 (fun tm H k => At A4 p o35 26 n (cd c35 [1, 1, 0, 1, 0, 0]) tm H k) (Fq 0 (E8 (fun tm H => At A4 p o35 26 n (cd c35 [1, 1, 1]) tm H (Dp A4 p fi35.results k)) (Dp A4 p fi35.results k))) m tm H
theorem AbJ (p : Pr β) (n : Nat)  (k : KO β) (m0 : Nat) : ∀ (t : Nat → AV) (H : Ae), AcP p n  k m0 (tf 26 0 t) H = S3 p n  k m0 (t 0) (t 1) (t 5) H := by
 induction m0 with
 | zero => intros; rfl
 | succ m0 ih =>
  intro t H
  refine Eq.trans (C0 (nt := 26) (m := m0) (g := fun t H => S3 p n  k m0 (t 0) (t 1) (t 5) H) ih rfl) ?_
  kernel_rfl
theorem Afu (p : Pr β) (n : Nat) (a0 a1 : AV) (H : Ae) (k : KO β) : D0 A4 p n fi35 [a0, a1] H k =
 p.len a0 fun t7 =>
 p.len a1 fun t9 =>
 p.bin .neq t7 t9 fun t10 =>
 p.cond t10
 (k bF H)
 (AcP p n  k n (tf 26 0 (ud [(0, a0), (1, a1), (4, bF), (5, i0), (6, a0), (7, t7), (8, a1), (9, t9), (10, t10)] ut)) H) := by kernel_rfl
theorem AcQ : Nf fi35 @f35 := fun p n a0 a1 H k => by
 rw [Afu]
 simp only [AbJ]
 kernel_rfl
noncomputable def f21 (p : Pr β) (n : Nat) (a0 a1 : AV) (H : Ae) (k : KO β) : Option β :=
 p.box a0 H fun t2 H =>
 p.box a1 H fun t3 H =>
 p.fadr 0 t2 fun t5 =>
 p.load false 1 t5 H fun t6 =>
 p.fadr 0 t3 fun t7 =>
 p.load false 1 t7 H fun t8 =>
 p.call 4 (.fn 35 [] []) [t6, t8] H fun t9 H =>
 p.un .not t9 fun t10 =>
 p.cond t10
 (k bF H)
 (p.fadr 1 t2 fun t11 =>
 p.load false 1 t11 H fun t12 =>
 p.fadr 1 t3 fun t13 =>
 p.load false 1 t13 H fun t14 =>
 p.binB .neq t12 t14 fun t15 =>
 p.cond t15
 (k bF H)
 (k bT H))
theorem AcI : Nf Ai3 @f21 := fun p n a0 a1 H k => by kernel_rfl
noncomputable def f5 (p : Pr β) (n : Nat) (a0 : AV) (H : Ae) (k : KO β) : Option β :=
 p.box a0 H fun t1 H =>
 p.load true 2 t1 H fun t7 =>
 p.call 3 (.fn 15 [] []) [t7, (si 1048576)] H fun t9 H =>
 p.bin .lss t9 i0 fun t11 =>
 p.cond t11
 (k bT H)
 (p.load true 2 t1 H fun t12 =>
 p.call 32 (.fn 18 [] []) [t12] H fun t13 H =>
 p.call 4 (.fn 29 [] []) [t13] H fun t14 H =>
 p.load true 2 t1 H fun t15 =>
 p.call 32 (.fn 18 [] []) [t15] H fun t16 H =>
 p.new [.nl, bF] H fun t5 H =>
 p.store 2 t5 t16 H fun H =>
 p.load true 2 t5 H fun t17 =>
 p.call 4 (.fn 30 [] []) [t17] H fun t18 H =>
 p.binB .neq t18 t14 fun t21 =>
 p.cond t21
 (k bF H)
 (p.load true 2 t5 H fun t22 =>
 p.load true 2 t1 H fun t23 =>
 p.call 32 (.fn 18 [] []) [t23] H fun t24 H =>
 p.call 4 (.fn 21 [] []) [t22, t24] H fun t25 H =>
 p.un .not t25 fun t26 =>
 p.cond t26
 (k bF H)
 (k bT H)))
theorem Afv : M4 fi5 @f5 := fun p n a0 H k => by kernel_rfl
noncomputable def fss : List (Option Gf) := [none, none, none, none, none, some fi5, none, none, none, none, none, none, none, none, none, some Ai1, none, none, some Ai2, none, none, some Ai3, none, none, none, none, none, none, none, some Ai4, some Ai5, some Ai6, some fi32, some Ai7, none, some fi35, none, none, none, none, none, none, none, none, none, none, none, some Ai8, none, none, none, none, none, none, none, none, none, none, none, none, none, some Ai9, some fi62, some fi63, some fi64, some AiA, some fi66, some AiB, some fi68, some AiC, some AiD, some AiE, some AiF, none, none, none, none, some fi77, none, none, some AiG, some AiH, none, none, none, none, some AiI, some AiJ, some AiK, some fi89, some AiL, some AiM, some fi92, some AiN, some AiO, some AiP, some AiQ, some fi97, some AiR, some AiS, some Agw, some Agx, some Agy, some fi103, some Agz, some Ag0, some Ag1, some Ag2, some Ag3, some Ag4, some fi110, some fi111, some fi112, some Ag5, none, some fi115, none, none, some Ag6, none, none, none, none, none, none, none, some Ag7, some fi127, some fi128, some Ag8, some Ag9, some AgA, some fi132, some fi133, some fi134, none, none, some AgB, some fi138, some AgC, some AgD, some AgE, some AgF, some fi143, none, none, some AgG, none, none, none, some AgH, some AgI]
noncomputable def tps : List (Nat × List Nat) := [(43, [32, 33]), (60, [59, 3, 3]), (68, [33, 3]), (85, [3, 3, 3]), (93, [33, 3, 3]), (108, [9, 3, 4]), (110, [3, 3, 4]), (131, [22, 3, 4]), (152, [151, 4]), (162, [21, 3]), (165, [164, 164])]
noncomputable def E0 : Nc := { ti := A4, tp := fun t => AaH tps t, fs := fun f => (fss[f]?).getD none, ext := fun f => if zb3 f 135 then some V2 else if zb3 f 136 then some Sx else if zb3 f 149 then some Qr else none, hm := fun f => [24, 25, 26, 36, 37, 54, 55, 56, 90, 99, 100, 101, 102, 103, 105, 129, 131, 156, 182, 183, 184, 185, 186].contains f }
noncomputable def PR (n : Nat) (β : Type) : Pr β := Ew E0 (Ff E0 n) β
abbrev M5 (j : Nat) (f : (β : Type) → Pr β → Nat → AV → Ae → KO β → Option β) : Prop := ∀ {β : Type} (n : Nat) (a0 : AV) (H : Ae) (k : KO β), Ff E0 (n + 1) β j [a0] H k = f β (PR n β) n a0 H k
abbrev Ng (j : Nat) (f : (β : Type) → Pr β → Nat → AV → AV → Ae → KO β → Option β) : Prop := ∀ {β : Type} (n : Nat) (a0 a1 : AV) (H : Ae) (k : KO β), Ff E0 (n + 1) β j [a0, a1] H k = f β (PR n β) n a0 a1 H k
abbrev Ce3 (j : Nat) (f : (β : Type) → Pr β → Nat → AV → AV → AV → Ae → KO β → Option β) : Prop := ∀ {β : Type} (n : Nat) (a0 a1 a2 : AV) (H : Ae) (k : KO β), Ff E0 (n + 1) β j [a0, a1, a2] H k = f β (PR n β) n a0 a1 a2 H k
theorem Ahs : Ng 47 @f47 := fun n => AcR (PR n _) n
theorem Ahj : Ng 15 @f15 := fun n => AcG (PR n _) n
theorem Ahp : M5 32 @f32 := fun n => AcN (PR n _) n
theorem Ahk : M5 18 @f18 := fun n => AcH (PR n _) n
theorem Aht : M5 61 @f61 := fun n => AcS (PR n _) n
theorem Ahu : Ng 62 @f62 := fun n => AcU (PR n _) n
theorem Ah9 : Ng 88 @f88 := fun n => Adr (PR n _) n
theorem Afa : Ng 126 @f126 := fun n => Abz (PR n _) n
theorem Ah6 : Ce3 81 @f81 := fun n => Ado (PR n _) n
theorem Afp : Ng 143 @f143 := fun n => AbE (PR n _) n
theorem AeY : M5 115 @f115 := fun n => Abx (PR n _) n
theorem Ah5 : M5 80 @f80 := fun n => Adn (PR n _) n
theorem Ah8 : Ng 87 @f87 := fun n => Adq (PR n _) n
theorem Ah7 : M5 86 @f86 := fun n => Adp (PR n _) n
theorem Ahv : Ng 63 @f63 := fun n => AcW (PR n _) n
theorem AhB : M5 90 @f90 := fun n => Adw (PR n _) n
theorem Ahx : Ng 65 @f65 := fun n => AcY (PR n _) n
theorem AhA : Ng 89 @f89 := fun n => Adv (PR n _) n
theorem Afb : Ng 127 @f127 := fun n => Ab0 (PR n _) n
theorem Afc : M5 128 @f128 := fun n => Ab1 (PR n _) n
theorem AhC : M5 91 @f91 := fun n => Adx (PR n _) n
theorem AhD : M5 92 @f92 := fun n => Adz (PR n _) n
theorem Ahw : M5 64 @f64 := fun n => AcX (PR n _) n
theorem AhG : Ng 95 @f95 := fun n => Ad2 (PR n _) n
theorem AhE : Ng 93 @f93 := fun n => Ad0 (PR n _) n
theorem AhF : Ng 94 @f94 := fun n => Ad1 (PR n _) n
theorem AhH : Ng 96 @f96 := fun n => Ad3 (PR n _) n
theorem AhI : Ng 97 @f97 := fun n => Ad5 (PR n _) n
theorem Ahy : M5 66 @f66 := fun n => Adc (PR n _) n
theorem Aho : M5 31 @f31 := fun n => AcL (PR n _) n
theorem Ahm : M5 29 @f29 := fun n => AcJ (PR n _) n
theorem AhJ : Ce3 98 @f98 := fun n => Ad6 (PR n _) n
theorem Ahz : M5 67 @f67 := fun n => Add (PR n _) n
theorem Ah0 : Ng 68 @f68 := fun n => Adf (PR n _) n
theorem Afe : Ng 130 @f130 := fun n => Ab3 (PR n _) n
theorem Adm : M5 77 @f77 := fun n => Adl (PR n _) n
theorem Afq : Ng 146 @f146 := fun n => AbF (PR n _) n
theorem Afd : M5 129 @f129 := fun n => Ab2 (PR n _) n
theorem Le : M5 101 @f101 := fun n => Abj (PR n _) n
theorem AeL : M5 100 @f100 := fun n => Abi (PR n _) n
theorem AeM : M5 102 @f102 := fun n => Abk (PR n _) n
theorem AhK : Ng 99 @f99 := fun n => Ad7 (PR n _) n
theorem Aff : M5 131 @f131 := fun n => Ab4 (PR n _) n
theorem AeN : Ng 103 @f103 := fun n => Abl (PR n _) n
theorem Ah1 : Ng 69 @f69 := fun n => Adg (PR n _) n
theorem AeP : M5 105 @f105 := fun n => Abn (PR n _) n
theorem Ah3 : Ng 71 @f71 := fun n => Adi (PR n _) n
theorem Afg : Ng 132 @f132 := fun n => Ab5 (PR n _) n
theorem Afh : Ng 133 @f133 := fun n => Ab6 (PR n _) n
theorem Afi : Ng 134 @f134 := fun n => Ab7 (PR n _) n
theorem AeO : Ng 104 @f104 := fun n => Abm (PR n _) n
theorem Afj : M5 137 @f137 := fun n => Ab8 (PR n _) n
theorem AeS : M5 108 @f108 := fun n => Abq (PR n _) n
theorem AeR : M5 107 @f107 := fun n => Abp (PR n _) n
theorem AeZ : M5 118 @f118 := fun n => Aby (PR n _) n
theorem AeQ : M5 106 @f106 := fun n => Abo (PR n _) n
theorem AeT : M5 109 @f109 := fun n => Abr (PR n _) n
theorem Afr : Ng 150 @f150 := fun n => AbG (PR n _) n
theorem Afk : M5 138 @f138 := fun n => Ab9 (PR n _) n
theorem AeU : M5 110 @f110 := fun n => Abt (PR n _) n
theorem Ah2 : M5 70 @f70 := fun n => Adh (PR n _) n
theorem Afm : Ng 140 @f140 := fun n => AbB (PR n _) n
theorem Afo : Ng 142 @f142 := fun n => AbD (PR n _) n
theorem Afn : Ng 141 @f141 := fun n => AbC (PR n _) n
theorem Afs : Ng 151 @f151 := fun n => AbH (PR n _) n
theorem Afl : M5 139 @f139 := fun n => AbA (PR n _) n
theorem AeV : M5 111 @f111 := fun n => Abu (PR n _) n
theorem AeX : M5 113 @f113 := fun n => Abw (PR n _) n
theorem AeW : Ng 112 @f112 := fun n => Abv (PR n _) n
theorem Ah4 : M5 72 @f72 := fun n => Adj (PR n _) n
theorem Ahq : M5 33 @f33 := fun n => AcO (PR n _) n
theorem Ahn : M5 30 @f30 := fun n => AcK (PR n _) n
theorem Ahr : Ng 35 @f35 := fun n => AcQ (PR n _) n
theorem Ahl : Ng 21 @f21 := fun n => AcI (PR n _) n
theorem Ai0 : M5 5 @f5 := fun n => Afv (PR n _) n
end
section
open Go Go.Shelf Go.RowKit Go.Lib Go.Proofs
variable {P : Program} {ρ : Ren}
def ItAt (w w' : World) (s : ByteArray) (pos : Nat) : Prop := Below w.heap.size w w' ∧ w'.heap[w.heap.size]? = some (.stringIter s pos)
def Rv (w' : World) (a : Nat) (s : ByteArray) (pos : Nat) : World := { w' with heap := w'.heap.setIfInBounds a (.stringIter s pos) }
theorem Zx (w : World) (s : ByteArray) (pos : Nat) : ItAt w (w.iter s pos) s pos := ⟨(Below.refl _ w).alloc (zam _) _, World.iter_heap w s pos⟩
theorem ItAt.lt {w w' : World} {s : ByteArray} {pos : Nat} (h : ItAt w w' s pos) : w.heap.size < w'.heap.size := by
 have := h.2
 simp only [za9] at this
 exact this.1
theorem ItAt.set {w w' : World} {s : ByteArray} {pos : Nat} (h : ItAt w w' s pos) (pos' : Nat) : ItAt w (Rv w' w.heap.size s pos') s pos' := by
 refine ⟨h.1.trans ⟨rfl, rfl, rfl, by simp [Rv], fun k hk => ?_⟩, ?_⟩
 ·simp only [Rv]
  rw [zby (by omega)]
 ·simp only [Rv]
  rw [Array.getElem?_setIfInBounds_self_of_lt h.lt]
theorem ItAt.below {w w1 w2 : World} {s : ByteArray} {pos : Nat} (h : ItAt w w1 s pos) (hb : Below w1.heap.size w1 w2) : ItAt w w2 s pos :=
 ⟨h.1.trans (hb.mono h.1.size), by rw [hb.block _ h.lt]; exact h.2⟩
theorem AfR {w w' : World} {s : ByteArray} {pos : Nat} (h : ItAt w w' s pos) (hp : pos < s.size) (ty : TypeId) :
  (Instr.next (.pointer (some ⟨w.heap.size, 0, none⟩)) true ty).run P w' = .ok (.tuple #[.bool true, .int .i64 pos, .int .i32 (Utf8.decode s pos).1]) (Rv w' w.heap.size s (pos + (Utf8.decode s pos).2)) := by
 simp only [Instr.next, getObj, setObj, Sem.run_bind, Sem.run, h.2, Result.andThen, hp, if_true]
 simp [goInt, Rv]
theorem AdV {w w' : World} {s : ByteArray} {pos : Nat} (h : ItAt w w' s pos) (hp : ¬ pos < s.size) (ty : TypeId) :
  (Instr.next (.pointer (some ⟨w.heap.size, 0, none⟩)) true ty).run P w' = .ok (.tuple #[.bool false]) w' := by
 simp [Instr.next, getObj, Sem.run, h.2, hp]
theorem Agi (s : ByteArray) (pos : Nat) : (Utf8.decode s pos).1 < 55296 ∨ (57343 < (Utf8.decode s pos).1 ∧ (Utf8.decode s pos).1 ≤ 1114111) := by
 rw [← Lib.decodeL_drop, Lib.decodeL_N]
 exact Lib.decodeN_valid _ _ _ _ _ (UInt8.toNat_lt _)
theorem Aga : phB.size = 2 := rfl
set_option maxHeartbeats 8000000 in
set_option maxRecDepth 1000000 in
theorem Aek (L : Lays.n152 P ρ) (r : Nat) (rs : ByteArray) (w : World) (h1 : 128 ≤ r) (hv : r < 55296 ∨ (57343 < r ∧ r ≤ 1114111)) (he : ¬ r = 65533) (hcv : ∀ w, (convert (ρ.t 21) (ρ.t 9) (.int .i32 r)).run P w = .ok (.string rs) w)
  (hs2 : 2 ≤ rs.size) (hs4 : rs.size ≤ 4) (hsl : rs.size = 2 → ∀ h : 1 < rs.size, 128 ≤ (rs[1]'h).toNat) :
  Calls P (ρ.f 152) #[.string phB, .int .i32 r] w fun e w' => e = .returned (.int .i64 (-1)) ∧ Below w.heap.size w w' := by
 have cV : ∀ w, Calls P (ρ.f 119) #[.int .i32 r] w _ := fun w => Any.utf8_ValidRune { L with } r w
 have cI : ∀ s c w, Calls P (ρ.f 137) #[.string s, .int .u8 c] w _ := fun s c w => Any.strings_IndexByte { L with } s c w
 have mixed := L.mixed
 have t3 := L.t3; have a3 := L.a3; have z3 := L.z3; have v3 := L.v3
 have t4 := L.t4; have a4 := L.a4; have z4 := L.z4; have v4 := L.v4
 have t5 := L.t5; have a5 := L.a5; have z5 := L.z5; have v5 := L.v5
 have t9 := L.t9; have a9 := L.a9; have z9 := L.z9; have v9 := L.v9
 have t21 := L.t21; have a21 := L.a21; have z21 := L.z21; have v21 := L.v21
 have e137 : ∀ args w, (callFunc (ρ.f 137) args).run P w = .ok (.enter (ρ.f 137) args) w := enters_of L.f137 (by kernel_rfl) rfl
 have e119 : ∀ args w, (callFunc (ρ.f 119) args).run P w = .ok (.enter (ρ.f 119) args) w := enters_of L.f119 (by kernel_rfl) rfl
 have hge : decide ((0 : Int) ≤ (r : Int)) = true := by simp
 have hlt : decide ((r : Int) < 128) = false := by simp; omega
 have bel : ∀ pos, Below w.heap.size w (w.iter phB pos) := fun pos => (Below.refl _ w).alloc (zam _) _
 have hne : ((r : Int) == 65533) = false := by simp; omega
 have hvr : Lib.validRune (r : Int) = true := by simp [Lib.validRune]; omega
 go_enter L.f152, Body.n152_ntmps ρ
 go_wp2_with (first
  | (go_at_fn (ρ.f 119); refine (cV _).mono ?_; rintro e w' ⟨rfl, hw⟩; rw [hw, hvr])
  | (go_at_fn (ρ.f 137); refine (cI _ _ _).mono ?_; rintro e w' ⟨rfl, hw⟩; rw [hw]))
 go_step3
 go_wp2
 go_loopg [9, 10] 1 (fun g i fl wx => g = 1 ∧ i = .int .i64 ((rs.size : Int) - 1) ∧ fl = .int .i64 0 ∧ wx = w)
 case atStart => exact ⟨rfl, rfl, rfl, rfl⟩
 case round =>
  obtain ⟨-, rfl, rfl, rfl⟩ := hrel
  by_cases h3 : 3 ≤ rs.size
  ·have hlt : decide ((rs.size : Int) - 1 < (phB.size : Int)) = false := by rw [Aga]; simp; omega
   go_wp2
   try rw [Exit.noGoto_ret]
   go_ret
   exact ⟨rfl, Below.refl _ _⟩
  ·have h2 : rs.size = 2 := by omega
   have hi1 : ((rs.size : Int) - 1) = 1 := by omega
   have hi : 1 < rs.size := by omega
   have hp : 1 < phB.size := by decide
   obtain ⟨x, hx⟩ : ∃ x : UInt8, rs[1]'hi = x := ⟨_, rfl⟩
   have hx128 : 128 ≤ x.toNat := by
    rw [← hx]
    exact hsl h2 hi
   have hp1 : phB[1]'hp = 35 := rfl
   have hlt : decide ((1 : Int) < (phB.size : Int)) = true := rfl
   have hne35 : (((35 : UInt8).toNat : Int) != (x.toNat : Int)) = true := by simp; omega
   have hib : Lib.indexByte (List.take (phB.size - 2) (List.drop 2 phB.data.toList)) x = -1 := rfl
   rw [hi1]
   clear hsl hs2 hs4
   go_wp2
   go_step3
   go_wp2
   go_region_o
   all_goals
    go_wp2
    go_region_with_o (go_at_fn (ρ.f 137); refine (cI _ _ _).mono ?_; rintro e w' ⟨rfl, hw⟩; rw [hw])
   all_goals
    go_wp2
    simp only [Exit.inBlock, Exit.then, Exit.noGoto]
    go_ret
    exact ⟨rfl, (Below.refl _ _).drew.drew⟩
set_option maxHeartbeats 8000000 in
set_option maxRecDepth 1000000 in
theorem Agj (L : Lays.n152 P ρ) (r : Nat) (w : World) (h1 : 128 ≤ r) (hv : r < 55296 ∨ (57343 < r ∧ r ≤ 1114111)) :
  Calls P (ρ.f 152) #[.string phB, .int .i32 r] w fun e w' => e = .returned (.int .i64 (-1)) ∧ Below w.heap.size w w' := by
 have cV : ∀ w, Calls P (ρ.f 119) #[.int .i32 r] w _ := fun w => Any.utf8_ValidRune { L with } r w
 have cI : ∀ s c w, Calls P (ρ.f 137) #[.string s, .int .u8 c] w _ := fun s c w => Any.strings_IndexByte { L with } s c w
 have t3 := L.t3; have a3 := L.a3; have z3 := L.z3; have v3 := L.v3
 have t4 := L.t4; have a4 := L.a4; have z4 := L.z4; have v4 := L.v4
 have t5 := L.t5; have a5 := L.a5; have z5 := L.z5; have v5 := L.v5
 have t9 := L.t9; have a9 := L.a9; have z9 := L.z9; have v9 := L.v9
 have t21 := L.t21; have a21 := L.a21; have z21 := L.z21; have v21 := L.v21
 have e137 : ∀ args w, (callFunc (ρ.f 137) args).run P w = .ok (.enter (ρ.f 137) args) w := enters_of L.f137 (by kernel_rfl) rfl
 have e119 : ∀ args w, (callFunc (ρ.f 119) args).run P w = .ok (.enter (ρ.f 119) args) w := enters_of L.f119 (by kernel_rfl) rfl
 have hge : decide ((0 : Int) ≤ (r : Int)) = true := by simp
 have hlt : decide ((r : Int) < 128) = false := by simp; omega
 have bel : ∀ pos, Below w.heap.size w (w.iter phB pos) := fun pos => (Below.refl _ w).alloc (zam _) _
 by_cases he : r = 65533
 ·subst he
  go_enter L.f152, Body.n152_ntmps ρ
  go_wp2
  go_loopg [5, 6] 2 (fun g _ _ wx => ∃ i : Nat, i + g = 2 ∧ wx = w.iter phB i)
  case atStart => exact ⟨0, by omega, rfl⟩
  case round =>
   obtain ⟨i, hig, rfl⟩ := hrel
   cases gk with
   | zero =>
    obtain rfl : i = 2 := by omega
    have hnx := fun ty => run_next_end (P := P) w phB 2 ty (by decide)
    go_wp2
    go_ret
    exact ⟨rfl, bel _⟩
   | succ g =>
    have hi : i < phB.size := by
     show i < 2
     omega
    have hx : (phB[i]'hi).toNat < 64 := by
     have : ∀ q : Fin 2, (phB[q.val]'q.isLt).toNat < 64 := by decide
     exact this ⟨i, hi⟩
    have hnx := fun ty => run_next_ascii (P := P) w phB i ty hi (by omega)
    generalize (phB[i]'hi).toNat = x at hnx hx
    have hxe : ((x : Int) == 65533) = false := by simp; omega
    go_wp2
    go_roundg g
    case measure => omega
    case rel => exact ⟨i + 1, by omega, rfl⟩
 ·obtain ⟨hs2, hs4, hsl⟩ := encode_facts (r : Int) (by simp [Utf8.valid]; omega) (by omega)
  refine Aek L r (Utf8.encode r) w h1 hv he (fun w => run_convert_int_string w _ _ _ _ (by rw [t21]; rfl) t9) hs2 hs4 ?_
  intro h2 hi
  have := hsl (by omega)
  simp only [h2] at this
  exact this
theorem Ahh (l : List UInt8) (h : 128 ≤ (l.getD 0 0).toNat) : 128 ≤ (Lib.decodeL l).1 ∧ ∀ j, j < (Lib.decodeL l).2 → 128 ≤ (l.getD j 0).toNat := by
 rw [Lib.decodeL_N]
 generalize hn : l.length = n
 generalize h0 : (l.getD 0 0).toNat = b0 at h ⊢
 generalize h1 : (l.getD 1 0).toNat = b1
 generalize h2 : (l.getD 2 0).toNat = b2
 generalize h3 : (l.getD 3 0).toNat = b3
 have key : ∀ q, q ≤ 4 → (q = 2 → 128 ≤ b1) → (q = 3 → 128 ≤ b1 ∧ 128 ≤ b2) → (q = 4 → 128 ≤ b1 ∧ 128 ≤ b2 ∧ 128 ≤ b3) → ∀ j, j < q → 128 ≤ (l.getD j 0).toNat := by
  intro q hq k2 k3 k4 j hj
  have : j = 0 ∨ j = 1 ∨ j = 2 ∨ j = 3 := by omega
  rcases this with rfl | rfl | rfl | rfl
  ·rw [h0]; exact h
  ·rw [h1]; omega
  ·rw [h2]; omega
  ·rw [h3]; omega
 unfold Lib.decodeN
 rw [if_neg (by omega)]
 repeat' split
 all_goals
  refine ⟨?_, key _ ?_ ?_ ?_ ?_⟩ <;> simp only <;> omega
def phL (l : List UInt8) : Bool := l.any fun c => c == 43 || c == 35
theorem Yd : ∀ (k : Nat) (l : List UInt8), (∀ j, j < k → 128 ≤ (l.getD j 0).toNat) → phL l = phL (l.drop k)
 | 0, l, _ => rfl
 | k + 1, [], _ => by simp
 | k + 1, b :: l, h => by
  have h0 : 128 ≤ b.toNat := h 0 (by omega)
  have ih := Yd k l fun j hj => h (j + 1) (by omega)
  have e1 : (b == 43) = false := by
   rw [beq_eq_false_iff_ne]
   rintro rfl
   simp at h0
  have e2 : (b == 35) = false := by
   rw [beq_eq_false_iff_ne]
   rintro rfl
   simp at h0
  show (List.any (b :: l) _) = _
  rw [zb8, e1, e2, Bool.or_self, za4, List.drop_succ_cons]
  exact ih
theorem Aed (l : List UInt8) (hne : l ≠ []) : phL l = (((Lib.decodeL l).1 == 43 || (Lib.decodeL l).1 == 35) || phL (l.drop (Lib.decodeL l).2)) := by
 cases l with
 | nil => exact absurd rfl hne
 | cons b l =>
  by_cases hb : 128 ≤ b.toNat
  ·obtain ⟨h1, h2⟩ := Ahh (b :: l) hb
   have e1 : ((Lib.decodeL (b :: l)).1 == 43) = false := by simp; omega
   have e2 : ((Lib.decodeL (b :: l)).1 == 35) = false := by simp; omega
   rw [e1, e2, Bool.or_self, za4]
   exact Yd _ _ h2
  ·have e : Lib.decodeL (b :: l) = (b.toNat, 1) := by
    rw [Lib.decodeL_N]
    unfold Lib.decodeN
    rw [if_pos (by simpa using hb)]
    rfl
   rw [e]
   show List.any (b :: l) _ = _
   rw [zb8, List.drop_succ_cons, zaS]
   have e1 : (b == 43) = (b.toNat == 43) := by
    rw [zb6, beq_iff_eq, beq_iff_eq, ← UInt8.toNat_inj]; rfl
   have e2 : (b == 35) = (b.toNat == 35) := by
    rw [zb6, beq_iff_eq, beq_iff_eq, ← UInt8.toNat_inj]; rfl
   rw [e1, e2]
   rfl
theorem AaK (s : ByteArray) : phL s.data.toList = vPH s := Yv _ _ _
theorem AeC (r : Nat) (h : r < 128) : decide (0 ≤ Lib.indexByte phB.data.toList r.toUInt8) = (r == 43 || r == 35) := by
 have : ∀ q : Fin 128, decide (0 ≤ Lib.indexByte phB.data.toList (q.val).toUInt8) = (q.val == 43 || q.val == 35) := by decide
 exact this ⟨r, h⟩
set_option maxHeartbeats 8000000 in
set_option maxRecDepth 1000000 in
theorem Aem (L : Lays.n153 P ρ) (s : ByteArray) (w : World) (h8 : s.size ≤ 8) :
  Calls P (ρ.f 153) #[.string s, .string phB] w fun e w' => (∃ z : Int, e = .returned (.int .i64 z) ∧ decide (0 ≤ z) = phL s.data.toList) ∧ Below w.heap.size w w' := by
 have cA : ∀ (r : Nat) w, r < 128 → ∃ z : Int, decide (0 ≤ z) = (r == 43 || r == 35) ∧ Calls P (ρ.f 152) #[.string phB, .int .i32 r] w fun e w' => e = .returned (.int .i64 z) ∧ w' = w := fun r w h => ⟨_, AeC r h, Any.strings_IndexRune_ascii { L with } phB r w (by omega) (by omega)⟩
 have cR : ∀ (r : Nat) w, 128 ≤ r → r < 55296 ∨ (57343 < r ∧ r ≤ 1114111) → Calls P (ρ.f 152) #[.string phB, .int .i32 r] w _ := fun r w h h' => Agj { L with } r w h h'
 have hemp : phB.toList.isEmpty = false := by rw [Lib.toList_data]; rfl
 have hn1 : ((phB.size : Int) == 1) = false := rfl
 have h8z : decide ((8 : Int) < (s.size : Int)) = false := decide_eq_false (by omega)
 have t3 := L.t3; have a3 := L.a3; have z3 := L.z3; have v3 := L.v3
 have t4 := L.t4; have a4 := L.a4; have z4 := L.z4; have v4 := L.v4
 have t5 := L.t5; have a5 := L.a5; have z5 := L.z5; have v5 := L.v5
 have t9 := L.t9; have a9 := L.a9; have z9 := L.z9; have v9 := L.v9
 have t21 := L.t21; have a21 := L.a21; have z21 := L.z21; have v21 := L.v21
 have e152 : ∀ args w, (callFunc (ρ.f 152) args).run P w = .ok (.enter (ρ.f 152) args) w := enters_of L.f152 (by kernel_rfl) rfl
 have e226 : ∀ args w, (callFunc (ρ.f 226) args).run P w = .ok (.enter (ρ.f 226) args) w := enters_of L.f226 (by kernel_rfl) rfl
 go_enter L.f153, Body.n153_ntmps ρ
 go_wp2_with (go_at_fn (ρ.f 226); refine (Any.strings_shouldUseASCIISet { L with } _ _).mono ?_; rintro e w' ⟨rfl, hw⟩; rw [hw, h8z])
 go_loopg [9, 10] s.size (fun g _ _ wx => ∃ pos : Nat, s.size ≤ pos + g ∧ ItAt w wx s pos ∧ phL (s.data.toList.drop pos) = phL s.data.toList)
 case atStart => exact ⟨0, by omega, Zx w s 0, by simp⟩
 case round =>
  obtain ⟨pos, hpg, hit, hph⟩ := hrel
  have HIT : Aside (ItAt w wr s pos) := hit
  have HPH : Aside (phL (s.data.toList.drop pos) = phL s.data.toList) := hph
  by_cases hp : pos < s.size
  ·obtain ⟨g, rfl⟩ : ∃ g, gk = g + 1 := ⟨gk - 1, by omega⟩
   have hnx := fun ty => AfR (P := P) hit hp ty
   have hne : s.data.toList.drop pos ≠ [] := by
    intro h
    have := congrArg List.length h
    simp at this
    omega
   have hst := Aed _ hne
   rw [Lib.decodeL_drop, hph, zbA] at hst
   have hwd : 1 ≤ (Utf8.decode s pos).2 := by rw [← Lib.decodeL_drop s pos]; exact Lib.decodeL_width _
   have hru := Agi s pos
   have HIT2 : Aside (ItAt w (Rv wr w.heap.size s (pos + (Utf8.decode s pos).2)) s (pos + (Utf8.decode s pos).2)) := hit.set _
   clear hit hph
   generalize hr : (Utf8.decode s pos).1 = r at hnx hst hru
   have HST : Aside (phL s.data.toList = ((r == 43 || r == 35) || phL (s.data.toList.drop (pos + (Utf8.decode s pos).2)))) := hst
   clear hst
   by_cases h128 : r < 128
   ·obtain ⟨z, hz, cz⟩ := cA r (Rv wr w.heap.size s (pos + (Utf8.decode s pos).2)) h128
    clear cA
    cases hin : (r == 43 || r == 35)
    ·rw [hin] at hz
     have hlt : ¬ ((0 : Int) ≤ z) := of_decide_eq_false hz
     clear hz
     go_wp2_with (go_at_fn (ρ.f 152); refine cz.mono ?_; rintro e w' ⟨rfl, hw⟩; rw [hw])
     go_roundg g
     case measure => omega
     case rel => exact ⟨_, by omega, HIT2.out, by rw [HST.out, hin, za4]⟩
    ·rw [hin] at hz
     have hge : (0 : Int) ≤ z := of_decide_eq_true hz
     clear hz
     go_wp2_with (go_at_fn (ρ.f 152); refine cz.mono ?_; rintro e w' ⟨rfl, hw⟩; rw [hw])
     go_ret
     exact ⟨⟨_, rfl, by rw [HST.out, hin, zaI]; simp⟩, HIT2.out.1⟩
   ·have hin : (r == 43 || r == 35) = false := by simp; omega
    go_wp2_with (go_at_fn (ρ.f 152); refine (cR r _ (by omega) hru).mono ?_; rintro e w' ⟨rfl, hw⟩)
    go_roundg g
    case measure => omega
    case rel => exact ⟨_, by omega, HIT2.out.below hw, by rw [HST.out, hin, za4]⟩
  ·have hnx := fun ty => AdV (P := P) hit hp ty
   have hnil : s.data.toList.drop pos = [] := by
    apply zbf
    simp
    omega
   rw [hnil] at hph
   go_wp2
   go_ret
   exact ⟨⟨_, rfl, by rw [← hph]; rfl⟩, HIT.out.1⟩
theorem AdN (L : Lays.n153 P ρ) (hv116 : ∀ w, (zeroValue (ρ.t 116)).run P w = .ok (.agg (zbx 256 (.bool false))) w) (hi116 : (P.info? (ρ.t 116)).map (·.size) = some 256) (s : ByteArray) (w : World) (hs : s.size < 4294967281) :
  Calls P (ρ.f 153) #[.string s, .string phB] w fun e w' => (∃ z : Int, e = .returned (.int .i64 z) ∧ decide (0 ≤ z) = phL s.data.toList) ∧ Below w.heap.size w w' := by
 by_cases h8 : s.size ≤ 8
 ·exact Aem L s w h8
 ·refine (Any.strings_IndexAny_long L hv116 hi116 s phB w (by decide) (by omega) hs (by decide) ?_).mono fun e w' ⟨h1, h2⟩ => ⟨⟨_, h1, ?_⟩, ?_⟩
  ·intro j b hb
   have : phB.data.toList = [43, 35] := rfl
   rw [this] at hb
   match j, hb with
   | 0, hb => cases hb; decide
   | 1, hb => cases hb; decide
  ·have := AhS s
   rw [AaK, ← this]
   rfl
  ·rw [h2]
   exact ((Below.refl _ _).alloc (zam _) _).alloc (by simp) _
set_option maxHeartbeats 1000000 in
theorem Xg (L : Lays.n150 P ρ) (hv116 : ∀ w, (zeroValue (ρ.t 116)).run P w = .ok (.agg (zbx 256 (.bool false))) w) (hi116 : (P.info? (ρ.t 116)).map (·.size) = some 256) (s : ByteArray) (w : World) (hs : s.size < 4294967281) :
  Calls P (ρ.f 150) #[.string s, .string phB] w fun e w' => e = .returned (.bool (vPH s)) ∧ Below w.heap.size w w' := by
 have c := AdN { L with } hv116 hi116 s w hs
 have t3 := L.t3; have a3 := L.a3; have z3 := L.z3; have v3 := L.v3
 have t4 := L.t4; have a4 := L.a4; have z4 := L.z4; have v4 := L.v4
 have t9 := L.t9; have a9 := L.a9; have z9 := L.z9; have v9 := L.v9
 have e153 : ∀ args w, (callFunc (ρ.f 153) args).run P w = .ok (.enter (ρ.f 153) args) w := enters_of L.f153 (by kernel_rfl) rfl
 go_enter L.f150, Body.n150_ntmps ρ
 go_wp2_with (go_at_fn (ρ.f 153); refine c.mono ?_; rintro e w' ⟨⟨z, rfl, hz⟩, hw⟩)
 go_ret
 refine ⟨?_, hw⟩
 rw [← AaK, ← hz]
 rfl
end
end Go.Proofs.YtlcpigdmekgajaaGreatDoor.Abs
set_option linter.unusedVariables false
set_option linter.unusedSimpArgs false
namespace Go.Proofs
open _root_.Bool renaming false_eq_true → zaa, false_or → za4, true_or → zaI, eq_iff_iff → zb6
open _root_.Option renaming bind_some → zad, map_eq_some_iff → zaH, getD_some → zaO
open _root_.List renaming getElem?_eq_some_iff → zae, replicate → zaj, length_singleton → zan, map_cons → zaq, drop_zero → zaS, getElem?_map → zaT, take_of_length_le → zaV, drop_of_length_le → zbf, any_cons → zb8, drop_drop → zbA, map_map → zbG
open _root_.Nat renaming le_refl → zam, eq_of_beq_eq_true → zaQ, add_zero → zaZ, beq → zb3, add_comm → zbE
open _root_.Array renaming getElem?_eq_some_iff → za9, ext' → zbe, replicate → zbx, getElem?_setIfInBounds_ne → zby
open Go.RowKit Go.Shelf Go.Lib
def Tryz.laysValid_ren : Go.Shelf.Ren := ⟨fun | 196 => 147 | 259 => 152 | n => n, fun | 9 => 9 | 4 => 4 | 3 => 3 | 5 => 5 | 12 => 12 | 119 => 145 | 0 => 0 | 46 => 107 | 139 => 148 | 138 => 147 | 53 => 156 | n => n, fun | 3 => 0 | 4 => 1 | n => n⟩
theorem Tryz.laysValid : Go.Proofs.Lays.n196 Tryz.prog Tryz.laysValid_ren := {
 mixed := by kernel_rfl
 f196 := Tryz.func147.trans (congrArg some (by kernel_rfl))
 f259 := Tryz.func152.trans (congrArg some (by kernel_rfl))
 t0 := Tryz.underlying0
 a0 := Tryz.isAgg0
 z0 := Tryz.sizeOf0
 v0 := Tryz.zeroValue0
 t3 := Tryz.underlying3
 a3 := Tryz.isAgg3
 z3 := Tryz.sizeOf3
 v3 := Tryz.zeroValue3
 t4 := Tryz.underlying4
 a4 := Tryz.isAgg4
 z4 := Tryz.sizeOf4
 v4 := Tryz.zeroValue4
 t5 := Tryz.underlying5
 a5 := Tryz.isAgg5
 z5 := Tryz.sizeOf5
 v5 := Tryz.zeroValue5
 t9 := Tryz.underlying9
 a9 := Tryz.isAgg9
 z9 := Tryz.sizeOf9
 v9 := Tryz.zeroValue9
 t12 := Tryz.underlying12
 a12 := Tryz.isAgg12
 z12 := Tryz.sizeOf12
 v12 := Tryz.zeroValue12
 t46 := Tryz.underlying107
 a46 := Tryz.isAgg107
 z46 := Tryz.sizeOf107
 v46 := Tryz.zeroValue107
 t53 := Tryz.underlying156
 a53 := Tryz.isAgg156
 z53 := Tryz.sizeOf156
 v53 := Tryz.zeroValue156
 t119 := Tryz.underlying145
 a119 := Tryz.isAgg145
 z119 := Tryz.sizeOf145
 t138 := Tryz.underlying147
 a138 := Tryz.isAgg147
 z138 := Tryz.sizeOf147
 v138 := Tryz.zeroValue147
 t139 := Tryz.underlying148
 a139 := Tryz.isAgg148
 z139 := Tryz.sizeOf148
 v139 := Tryz.zeroValue148
 g3 := by kernel_rfl
 g4 := by kernel_rfl }
def Tryz.laysAny_ren : Go.Shelf.Ren := ⟨fun | 150 => 136 | 153 => 148 | 152 => 153 | 226 => 154 | 227 => 155 | 228 => 156 | 137 => 158 | 119 => 159 | 224 => 160 | 225 => 161 | 217 => 165 | 266 => 170 | n => n, fun | 9 => 9 | 4 => 4 | 3 => 3 | 5 => 5 | 21 => 21 | 117 => 152 | 116 => 151 | 0 => 0 | 46 => 107 | 124 => 160 | n => n, fun | n => n⟩
theorem Tryz.laysAny : Go.Proofs.Lays.n150 Tryz.prog Tryz.laysAny_ren := {
 mixed := by kernel_rfl
 f119 := Tryz.func159.trans (congrArg some (by kernel_rfl))
 f137 := Tryz.func158.trans (congrArg some (by kernel_rfl))
 f150 := Tryz.func136.trans (congrArg some (by kernel_rfl))
 f152 := Tryz.func153.trans (congrArg some (by kernel_rfl))
 f153 := Tryz.func148.trans (congrArg some (by kernel_rfl))
 f217 := Tryz.func165.trans (congrArg some (by kernel_rfl))
 f224 := Tryz.func160.trans (congrArg some (by kernel_rfl))
 f225 := Tryz.func161.trans (congrArg some (by kernel_rfl))
 f226 := Tryz.func154.trans (congrArg some (by kernel_rfl))
 f227 := Tryz.func155.trans (congrArg some (by kernel_rfl))
 f228 := Tryz.func156.trans (congrArg some (by kernel_rfl))
 f266 := Tryz.func170.trans (congrArg some (by kernel_rfl))
 t0 := Tryz.underlying0
 a0 := Tryz.isAgg0
 z0 := Tryz.sizeOf0
 v0 := Tryz.zeroValue0
 t3 := Tryz.underlying3
 a3 := Tryz.isAgg3
 z3 := Tryz.sizeOf3
 v3 := Tryz.zeroValue3
 t4 := Tryz.underlying4
 a4 := Tryz.isAgg4
 z4 := Tryz.sizeOf4
 v4 := Tryz.zeroValue4
 t5 := Tryz.underlying5
 a5 := Tryz.isAgg5
 z5 := Tryz.sizeOf5
 v5 := Tryz.zeroValue5
 t9 := Tryz.underlying9
 a9 := Tryz.isAgg9
 z9 := Tryz.sizeOf9
 v9 := Tryz.zeroValue9
 t21 := Tryz.underlying21
 a21 := Tryz.isAgg21
 z21 := Tryz.sizeOf21
 v21 := Tryz.zeroValue21
 t46 := Tryz.underlying107
 a46 := Tryz.isAgg107
 z46 := Tryz.sizeOf107
 v46 := Tryz.zeroValue107
 t116 := Tryz.underlying151
 a116 := Tryz.isAgg151
 z116 := Tryz.sizeOf151
 t117 := Tryz.underlying152
 a117 := Tryz.isAgg152
 z117 := Tryz.sizeOf152
 v117 := Tryz.zeroValue152
 t124 := Tryz.underlying160
 a124 := Tryz.isAgg160
 z124 := Tryz.sizeOf160
 v124 := Tryz.zeroValue160 }
def Tryz.laysSplit_ren : Go.Shelf.Ren := ⟨fun | 146 => 149 | 221 => 157 | 268 => 162 | 138 => 163 | 143 => 164 | 195 => 166 | 197 => 167 | 218 => 168 | 219 => 169 | 260 => 171 | 217 => 165 | 225 => 161 | 224 => 160 | 267 => 172 | 266 => 170 | 314 => 173 | n => n, fun | 9 => 9 | 31 => 56 | 3 => 3 | 4 => 4 | 0 => 0 | 105 => 162 | 21 => 21 | 5 => 5 | 46 => 107 | 119 => 145 | 139 => 148 | 138 => 147 | 146 => 165 | 51 => 164 | n => n, fun | 1 => 2 | 3 => 0 | 4 => 1 | n => n⟩
theorem Tryz.laysSplit : Go.Proofs.Lays.n146 Tryz.prog Tryz.laysSplit_ren := {
 mixed := by kernel_rfl
 f138 := Tryz.func163.trans (congrArg some (by kernel_rfl))
 f143 := Tryz.func164.trans (congrArg some (by kernel_rfl))
 f146 := Tryz.func149.trans (congrArg some (by kernel_rfl))
 f195 := Tryz.func166.trans (congrArg some (by kernel_rfl))
 f197 := Tryz.func167.trans (congrArg some (by kernel_rfl))
 f217 := Tryz.func165.trans (congrArg some (by kernel_rfl))
 f218 := Tryz.func168.trans (congrArg some (by kernel_rfl))
 f219 := Tryz.func169.trans (congrArg some (by kernel_rfl))
 f221 := Tryz.func157.trans (congrArg some (by kernel_rfl))
 f224 := Tryz.func160.trans (congrArg some (by kernel_rfl))
 f225 := Tryz.func161.trans (congrArg some (by kernel_rfl))
 f260 := Tryz.func171.trans (congrArg some (by kernel_rfl))
 f266 := Tryz.func170.trans (congrArg some (by kernel_rfl))
 f267 := Tryz.func172.trans (congrArg some (by kernel_rfl))
 f268 := Tryz.func162.trans (congrArg some (by kernel_rfl))
 f314 := Tryz.func173.trans (congrArg some (by kernel_rfl))
 t0 := Tryz.underlying0
 a0 := Tryz.isAgg0
 z0 := Tryz.sizeOf0
 v0 := Tryz.zeroValue0
 t3 := Tryz.underlying3
 a3 := Tryz.isAgg3
 z3 := Tryz.sizeOf3
 v3 := Tryz.zeroValue3
 t4 := Tryz.underlying4
 a4 := Tryz.isAgg4
 z4 := Tryz.sizeOf4
 v4 := Tryz.zeroValue4
 t5 := Tryz.underlying5
 a5 := Tryz.isAgg5
 z5 := Tryz.sizeOf5
 v5 := Tryz.zeroValue5
 t9 := Tryz.underlying9
 a9 := Tryz.isAgg9
 z9 := Tryz.sizeOf9
 v9 := Tryz.zeroValue9
 t21 := Tryz.underlying21
 a21 := Tryz.isAgg21
 z21 := Tryz.sizeOf21
 v21 := Tryz.zeroValue21
 t31 := Tryz.underlying56
 a31 := Tryz.isAgg56
 z31 := Tryz.sizeOf56
 v31 := Tryz.zeroValue56
 t46 := Tryz.underlying107
 a46 := Tryz.isAgg107
 z46 := Tryz.sizeOf107
 v46 := Tryz.zeroValue107
 t51 := Tryz.underlying164
 a51 := Tryz.isAgg164
 z51 := Tryz.sizeOf164
 v51 := Tryz.zeroValue164
 t105 := Tryz.underlying162
 a105 := Tryz.isAgg162
 z105 := Tryz.sizeOf162
 v105 := Tryz.zeroValue162
 t119 := Tryz.underlying145
 a119 := Tryz.isAgg145
 z119 := Tryz.sizeOf145
 t138 := Tryz.underlying147
 a138 := Tryz.isAgg147
 z138 := Tryz.sizeOf147
 v138 := Tryz.zeroValue147
 t139 := Tryz.underlying148
 a139 := Tryz.isAgg148
 z139 := Tryz.sizeOf148
 v139 := Tryz.zeroValue148
 t146 := Tryz.underlying165
 a146 := Tryz.isAgg165
 z146 := Tryz.sizeOf165
 v146 := Tryz.zeroValue165
 g1 := by kernel_rfl
 g3 := by kernel_rfl
 g4 := by kernel_rfl }
namespace YtlcpigdmekgajaaGreatDoor.Abs
def noZ : Nat → List UInt8 → Bool
 | 0, _ => true
 | n + 1, l => if l = [] then true else if (Lib.decodeL l).1 = 0 then false else noZ n (l.drop (Lib.decodeL l).2)
def V0 (s : ByteArray) : Bool := noZ s.size s.data.toList && (Lib.validD s.data.toList && decide (s.size ≤ 60))
def JT (w : World) : Prop := Lib.Utf8Tabs (Tryz.laysValid_ren.g 3) (Tryz.laysValid_ren.g 4) w
def J0 (w : World) : Prop := JT w ∧ ∃ m, w.cell? ⟨Tryz.laysSplit_ren.g 1, 0, none⟩ = some (.int .i64 m)
theorem AdP : ∀ w w' : World, JT w → Below w.heap.size w w' → JT w' := fun _ _ h hb => Utf8Tabs_below h hb
theorem AdO : ∀ w w' : World, J0 w → Below w.heap.size w w' → J0 w' := fun w w' h hb => ⟨AdP w w' h.1 hb, by
 obtain ⟨m, hm⟩ := h.2
 have hlt := World.block_lt_of_cell? _ _ hm
 refine ⟨m, ?_⟩
 rw [← hm]
 simp only [World.cell?]
 rw [hb.block _ hlt]⟩
set_option maxHeartbeats 1000000 in
set_option maxRecDepth 1000000 in
theorem Acl (s : ByteArray) (w : World) (hs : s.size ≤ 9223372036854775807) (hT : JT w) :
  Calls Tryz.prog 135 #[.string s] w fun e w' => e = .returned (.bool (V0 s)) ∧ Below w.heap.size w w' := by
 have cV : ∀ w, JT w → Calls Tryz.prog 147 #[.string s] w _ := fun w hT => Any.utf8_ValidString Tryz.laysValid s w hs hT
 unfold V0
 generalize hV : Lib.validD s.data.toList = V at cV ⊢
 have bel : ∀ pos, Below w.heap.size w (w.iter s pos) := fun pos => (Below.refl _ w).alloc (zam _) _
 go_enter Tryz.func135, Tryz.ntmps135
 go_wp2
 go_loopw [] (fun w' => ∃ (pos b : Nat), w' = w.iter s pos ∧ noZ b (s.data.toList.drop pos) = noZ s.size s.data.toList ∧ s.size ≤ pos + b) (fun w' => s.size - w'.iterPos w.heap.size)
 case atStart => exact ⟨0, s.size, rfl, by simp, by omega⟩
 case round =>
  obtain ⟨pos, b, rfl, hc, hb⟩ := hrel
  by_cases hp : pos < s.size
  ·have hnx : ∀ ty, (Instr.next (.pointer (some ⟨w.heap.size, 0, none⟩)) true ty).run Tryz.prog (w.iter s pos) = _ := fun ty => run_next_any w s pos ty hp
   have hdd := Lib.decodeL_drop s pos
   have hwd : 1 ≤ (Utf8.decode s pos).2 := by rw [← hdd]; exact Lib.decodeL_width _
   obtain ⟨b, rfl⟩ : ∃ b', b = b' + 1 := ⟨b - 1, by omega⟩
   have hne : s.data.toList.drop pos ≠ [] := by
    intro h
    have := congrArg List.length h
    simp at this
    omega
   rw [noZ, if_neg hne, hdd] at hc
   by_cases hz : (Utf8.decode s pos).1 = 0
   ·rw [if_pos hz] at hc
    have hz' : (((Utf8.decode s pos).1 : Int) == 0) = true := by simp [hz]
    go_wp2
    go_ret
    rw [← hc]
    exact ⟨by simp, bel _⟩
   ·rw [if_neg hz, zbA] at hc
    have hz' : (((Utf8.decode s pos).1 : Int) == 0) = false := by simp; omega
    go_wp2
    go_roundw
    case rel => exact ⟨pos + (Utf8.decode s pos).2, b, rfl, hc, by omega⟩
    case measure =>
     simp
     omega
  ·have hnx : ∀ ty, (Instr.next (.pointer (some ⟨w.heap.size, 0, none⟩)) true ty).run Tryz.prog (w.iter s pos) = _ := fun ty => run_next_end w s pos ty hp
   have hnil : s.data.toList.drop pos = [] := by
    apply zbf
    simp
    omega
   have hc2 : noZ s.size s.data.toList = true := by
    rw [← hc, hnil]
    cases b <;> simp [noZ]
   rw [hc2]
   have cV2 := cV (w.iter s pos) (Utf8Tabs_below hT (bel pos))
   go_wp2_with (go_at_call 147; refine cV2.mono ?_; rintro e w' ⟨rfl, hb2⟩)
   all_goals
    go_ret
    refine ⟨?_, (bel pos).trans (hb2.mono (bel pos).size)⟩
   ·simp_all
    omega
   ·simp_all
theorem Vq : ∀ (n : Nat) (l : List UInt8), N6 n l = (noZ n l && Lib.validGoD n l)
 | 0, _ => rfl
 | n + 1, l => by
  rw [N6, noZ, Lib.validGoD, Vq n]
  by_cases h : l = []
  ·simp [h]
  ·by_cases h1 : (Lib.decodeL l).1 = 65533 ∧ (Lib.decodeL l).2 = 1
   ·simp [h, h1]
   ·by_cases h2 : (Lib.decodeL l).1 = 0
    ·simp [h, h2]
    ·simp [h, h1, h2]
theorem Ac0 (s : ByteArray) : V0 s = Bi s := by
 have e : s.data.toList.length = s.size := by simp
 unfold V0 Bi Lib.validD
 rw [Vq, e]
 cases noZ s.size s.data.toList <;> cases Lib.validGoD s.size s.data.toList <;> simp
theorem Ajk {c : ByteArray} (h : c.data.toList = [43, 35]) : c = phB := by
 cases c with
 | mk d =>
  have : d = #[43, 35] := by apply zbe; simpa using h
  subst this
  rfl
theorem Ail {c : ByteArray} (h : c.data.toList = [47]) : c = Tx := by
 cases c with
 | mk d =>
  have : d = #[47] := by apply zbe; simpa using h
  subst this
  rfl
theorem Ael : (Tryz.prog.info? (Tryz.laysAny_ren.t 116)).map (fun i => (i.zero, i.size)) = some (some (.agg (zbx 256 (.bool false))), 256) := by kernel_rfl
theorem hi9 : (Tryz.prog.info? (Tryz.laysSplit_ren.t 9)).map (fun i => (i.zero, i.size, i.bytes)) = some (some (.string ByteArray.empty), 1, 16) := by kernel_rfl
theorem AfC {w w' : World} (hb : Below w.heap.size w w') : HR w Gq w' [] := by
 refine ⟨hb, ?_, ?_, ?_, ?_⟩
 ·intro i k b o sz hi
  cases hi
 ·intro i k hi
  cases hi
 ·intro i i' k k' b o sz o' sz' hi
  cases hi
 ·intro i p hp
  cases hp
theorem Aas {w w' : World} (hb : Below w.heap.size w w') (ty : Nat) (v : Value) : ∃ φ' Hc x ids, HR w φ' w' Hc ∧ VR w φ' x v ∧ Dq E0.ti E0.tp Hc 8 ty x = some (.sc v, ids) ∧ ids.Nodup :=
 ⟨Gq, [], .sc v, [], AfC hb, Gh _ _ _, rfl, List.nodup_nil⟩
theorem X9 {ti : Nat → Option TI} {tp : Nat → Option (List Nat)} {H : Ae} {d : Nat} : ∀ (ts : List Nat) (l : List Value), ts.length = l.length → Em (Dq ti tp H (d + 1)) ts (l.map AV.sc) = some (l.map AV.sc, [])
 | [], [], _ => rfl
 | t :: ts, v :: l, h => by
  have ih := X9 (ti := ti) (tp := tp) (H := H) (d := d) ts l (by simpa using h)
  simp only [zaq, Em, ih, zad]
  rfl
theorem AfX {ti : Nat → Option TI} {tp : Nat → Option (List Nat)} {H : Ae} {d ty id off n z : Nat} : Dq ti tp H (d + 1) ty (.sl id off n z) = (ti ty).bind fun i => (ti i.elem).bind fun j => if z = j.size then (if I5 H id then (Bf H id off (n * z)).bind fun cs => (Em (Dq ti tp H d) (zaj n j.cty).flatten cs).bind fun q => some (.ro n q.1, id :: q.2) else none) else none := rfl
theorem Ac3 (w : World) (l : List ByteArray) (e : TypeId) : ∃ φ' Hc x ids, HR w φ' (w.alloc (.cells (l.map Value.string).toArray e)) Hc ∧ VR w φ' x (.slice (some ⟨w.heap.size, 0, none⟩) l.length l.length) ∧
  Dq E0.ti E0.tp Hc 8 56 x = some (.ro l.length (l.map fun s => .sc (.string s)), ids) ∧ ids.Nodup := by
 have hcs : VRs w Gq ((l.map Value.string).map AV.sc) (fun j => (l.map Value.string).toArray[0 + j]?) := by
  rw [D6]
  intro j x hj
  rw [zaT] at hj
  obtain ⟨v, hv, rfl⟩ := zaH.1 hj
  exact ⟨v, by simpa using hv, Gh _ _ _⟩
 obtain ⟨h1, h2⟩ := (HR.start w).alloc (Fy w (.cells (l.map Value.string).toArray e)) (b := w.heap.size) (o := 0) (k := ⟨(l.map Value.string).map AV.sc, true, true⟩) (zam _) (Lv w _) (by simp) (fun _ => rfl) (.inl rfl) hcs
 refine ⟨_, _, .sl 0 0 l.length 1, [0], h1, ?_, ?_, by simp⟩
 ·rw [VR]
  refine .inr ⟨w.heap.size, 0, _, Fp _ _ _, .inr ⟨l.length, zam _, rfl, ?_⟩⟩
  simp
 ·rw [AfX]
  have hr : Bf ([] ++ [⟨(l.map Value.string).map AV.sc, true, true⟩]) 0 0 (l.length * 1) = some ((l.map Value.string).map AV.sc) := by
   simp [Bf, zaV]
  have e1 : E0.ti 56 = A4 56 := rfl
  obtain ⟨i, j, hi, hj, hz, hc⟩ : ∃ i j, A4 56 = some i ∧ A4 i.elem = some j ∧ j.size = 1 ∧ j.cty = [i.elem] := ⟨_, _, rfl, rfl, rfl, rfl⟩
  simp only [e1, hi, zad, show E0.ti i.elem = some j from hj, hz, if_true, hr, hc]
  have ho := X9 (ti := E0.ti) (tp := E0.tp) (H := [] ++ [⟨(l.map Value.string).map AV.sc, true, true⟩]) (d := 6) (zaj l.length [i.elem]).flatten (l.map Value.string) (by simp)
  rw [ho]
  have ha : I5 ([] ++ [(⟨(l.map Value.string).map AV.sc, true, true⟩ : Iy)]) 0 = true := rfl
  rw [if_pos ha]
  simp [zbG]
theorem Acw (s : ByteArray) (w : World) (hs : s.size < 4294967281) : Calls Tryz.prog 136 #[.string s, .string phB] w fun e w' => e = .returned (.bool (vPH s)) ∧ Below w.heap.size w w' :=
 Xg Tryz.laysAny (zero_of_info Ael).1 (zero_of_info Ael).2 s w hs
theorem Aad (s : ByteArray) (w : World) (hs : s.size < 4294967281) (hm : ∃ m, w.cell? ⟨Tryz.laysSplit_ren.g 1, 0, none⟩ = some (.int .i64 m)) : Calls Tryz.prog 149 #[.string s, .string Tx] w fun e w' =>
  e = .returned (.slice (some ⟨w.heap.size, 0, none⟩) (Bq s).length (Bq s).length) ∧ w' = w.alloc (.cells ((Bq s).map Value.string).toArray (Tryz.laysSplit_ren.t 9)) := by
 obtain ⟨m, hm⟩ := hm
 have h := Any.strings_Split Tryz.laysSplit hi9 s Tx m w hs hm (zam _)
 rw [Qk, ← Zz] at h
 exact h
theorem AfV {w : World} {x : Value} {us : List Value} (hl : us.length = 1) (hv : VRs w Gq [.sc x] (fun j => us[j]?)) : us = [x] := by
 match us, hl with
 | [y], _ =>
  rw [VRs] at hv
  obtain ⟨⟨u, hu, hv⟩, _⟩ := hv
  rw [VR] at hv
  simp at hu
  rw [hu, hv]
theorem Yq {w : World} {x y : Value} {us : List Value} (hl : us.length = 2) (hv : VRs w Gq [.sc x, .sc y] (fun j => us[j]?)) : us = [x, y] := by
 match us, hl with
 | [a, b], _ =>
  rw [VRs, VRs] at hv
  obtain ⟨⟨u, hu, hv⟩, ⟨u2, hu2, hv2⟩, _⟩ := hv
  rw [VR] at hv hv2
  simp at hu hu2
  rw [hu, hv, hu2, hv2]
theorem AjQ : Ags Tryz.prog E0 J0 := by
 intro f g hg w hj ty vs us t hl hv ht
 have hf : E0.ext f = if zb3 f 135 then some V2 else if zb3 f 136 then some Sx else if zb3 f 149 then some Qr else none := rfl
 rw [hf] at hg
 split at hg
 ·rename_i hfe
  obtain rfl := zaQ hfe
  cases hg
  unfold V2 at ht
  split at ht
  case h_2 => cases ht
  rename_i s
  split at ht
  case isFalse => cases ht
  rename_i hs
  cases ht
  have hm : maxLen = 9223372036854775807 := by decide
  rw [hm] at hs
  obtain rfl := AfV hl hv
  refine .inr ⟨enters_of Tryz.func135 (by kernel_rfl) rfl _ _, (Acl s w hs hj.1).mono fun e w' ⟨he, hb⟩ => ⟨_, he, ?_⟩⟩
  rw [Ac0]
  exact Aas hb _ _
 split at hg
 ·rename_i hfe
  obtain rfl := zaQ hfe
  cases hg
  unfold Sx at ht
  split at ht
  case h_2 => cases ht
  rename_i s c
  split at ht
  case isFalse => cases ht
  rename_i hs
  cases ht
  obtain rfl := Yq hl hv
  obtain ⟨hc, hs⟩ := hs
  obtain rfl := Ajk hc
  exact .inr ⟨enters_of Tryz.func136 (by kernel_rfl) rfl _ _, (Acw s w hs).mono fun e w' ⟨he, hb⟩ => ⟨_, he, Aas hb _ _⟩⟩
 split at hg
 ·rename_i hfe
  obtain rfl := zaQ hfe
  cases hg
  unfold Qr at ht
  split at ht
  case h_2 => cases ht
  rename_i s c
  split at ht
  case isFalse => cases ht
  rename_i hs
  cases ht
  obtain rfl := Yq hl hv
  obtain ⟨rfl, hc, hs⟩ := hs
  obtain rfl := Ail hc
  exact .inr ⟨enters_of Tryz.func149 (by kernel_rfl) rfl _ _, (Aad s w hs hj.2).mono fun e w' ⟨he, hw⟩ => ⟨_, he, by subst hw; exact Ac3 w (Bq s) _⟩⟩
 ·cases hg
end YtlcpigdmekgajaaGreatDoor.Abs
end Go.Proofs
namespace Go.Proofs.YtlcpigdmekgajaaGreatDoor.Abs
open _root_.Bool renaming false_eq_true → zaa, false_or → za4, true_or → zaI, eq_iff_iff → zb6
open _root_.Option renaming bind_some → zad, map_eq_some_iff → zaH, getD_some → zaO
open _root_.List renaming getElem?_eq_some_iff → zae, replicate → zaj, length_singleton → zan, map_cons → zaq, drop_zero → zaS, getElem?_map → zaT, take_of_length_le → zaV, drop_of_length_le → zbf, any_cons → zb8, drop_drop → zbA, map_map → zbG
open _root_.Nat renaming le_refl → zam, eq_of_beq_eq_true → zaQ, add_zero → zaZ, beq → zb3, add_comm → zbE
open _root_.Array renaming getElem?_eq_some_iff → za9, ext' → zbe, replicate → zbx, getElem?_setIfInBounds_ne → zby
section
open Go
theorem Ajs : Aer Tryz.prog 0 tis = true := by kernel_rfl
theorem Aiy : AdA E0 fss = true := by kernel_rfl
theorem Aes : I2 Tryz.prog A4 := by
 intro t i h
 unfold A4 at h
 cases hl : tis[t]? with
 | none => rw [hl] at h; cases h
 | some o =>
  rw [hl] at h
  simp only [zaO] at h
  subst h
  simpa using (Ws tis 0 t i Ajs hl).1
theorem Aiw : ∀ t i, A4 t = some i → i.ik = some .u8 → i.size = 1 := by
 intro t i h
 unfold A4 at h
 cases hl : tis[t]? with
 | none => rw [hl] at h; cases h
 | some o =>
  rw [hl] at h
  simp only [zaO] at h
  subst h
  exact (Ws tis 0 t i Ajs hl).2
def FnQ (n : Nat) (c : Code) (t : Nat) (f : Func) : Prop := ∃ fn, Tryz.prog.funcs[n]? = some fn ∧ (fn.name == "runtime.NumGoroutine") = false ∧ fn.body = some c ∧ fn.ntmps = t ∧ fn.results.toList = f.results.toList
theorem Hd {c : Code} {t : Nat} {f : Func} {o : List (Nat × PI)} {i : Gf} {n : Nat} (e : some (some (⟨c, t, f.results.toList, o⟩ : Gf)) = some (some i)) (h : FnQ n c t f) : ∃ fn, Tryz.prog.funcs[n]? = some fn ∧ (fn.name == "runtime.NumGoroutine") = false ∧ fn.body = some i.body ∧ fn.ntmps = i.ntmps ∧ fn.results.toList = i.results := by cases e; exact h
theorem AiU : ∀ (f : Nat) (i : Gf), f < 152 → fss[f]? = some (some i) → ∃ fn, Tryz.prog.funcs[f]? = some fn ∧ (fn.name == "runtime.NumGoroutine") = false ∧ fn.body = some i.body ∧ fn.ntmps = i.ntmps ∧ fn.results.toList = i.results
 | 0, i, _, h => nomatch Option.some.inj h
 | 1, i, _, h => nomatch Option.some.inj h
 | 2, i, _, h => nomatch Option.some.inj h
 | 3, i, _, h => nomatch Option.some.inj h
 | 4, i, _, h => nomatch Option.some.inj h
 | 5, i, _, h => Hd (f := Tryz.f5) h ⟨_, Tryz.func5, by kernel_rfl, by kernel_rfl, rfl, rfl⟩
 | 6, i, _, h => nomatch Option.some.inj h
 | 7, i, _, h => nomatch Option.some.inj h
 | 8, i, _, h => nomatch Option.some.inj h
 | 9, i, _, h => nomatch Option.some.inj h
 | 10, i, _, h => nomatch Option.some.inj h
 | 11, i, _, h => nomatch Option.some.inj h
 | 12, i, _, h => nomatch Option.some.inj h
 | 13, i, _, h => nomatch Option.some.inj h
 | 14, i, _, h => nomatch Option.some.inj h
 | 15, i, _, h => Hd (f := Tryz.f15) h ⟨_, Tryz.func15, by kernel_rfl, by kernel_rfl, rfl, rfl⟩
 | 16, i, _, h => nomatch Option.some.inj h
 | 17, i, _, h => nomatch Option.some.inj h
 | 18, i, _, h => Hd (f := Tryz.f18) h ⟨_, Tryz.func18, by kernel_rfl, by kernel_rfl, rfl, rfl⟩
 | 19, i, _, h => nomatch Option.some.inj h
 | 20, i, _, h => nomatch Option.some.inj h
 | 21, i, _, h => Hd (f := Tryz.f21) h ⟨_, Tryz.func21, by kernel_rfl, by kernel_rfl, rfl, rfl⟩
 | 22, i, _, h => nomatch Option.some.inj h
 | 23, i, _, h => nomatch Option.some.inj h
 | 24, i, _, h => nomatch Option.some.inj h
 | 25, i, _, h => nomatch Option.some.inj h
 | 26, i, _, h => nomatch Option.some.inj h
 | 27, i, _, h => nomatch Option.some.inj h
 | 28, i, _, h => nomatch Option.some.inj h
 | 29, i, _, h => Hd (f := Tryz.f29) h ⟨_, Tryz.func29, by kernel_rfl, by kernel_rfl, rfl, rfl⟩
 | 30, i, _, h => Hd (f := Tryz.f30) h ⟨_, Tryz.func30, by kernel_rfl, by kernel_rfl, rfl, rfl⟩
 | 31, i, _, h => Hd (f := Tryz.f31) h ⟨_, Tryz.func31, by kernel_rfl, by kernel_rfl, rfl, rfl⟩
 | 32, i, _, h => Hd (f := Tryz.f32) h ⟨_, Tryz.func32, by kernel_rfl, by kernel_rfl, rfl, rfl⟩
 | 33, i, _, h => Hd (f := Tryz.f33) h ⟨_, Tryz.func33, by kernel_rfl, by kernel_rfl, rfl, rfl⟩
 | 34, i, _, h => nomatch Option.some.inj h
 | 35, i, _, h => Hd (f := Tryz.f35) h ⟨_, Tryz.func35, by kernel_rfl, by kernel_rfl, rfl, rfl⟩
 | 36, i, _, h => nomatch Option.some.inj h
 | 37, i, _, h => nomatch Option.some.inj h
 | 38, i, _, h => nomatch Option.some.inj h
 | 39, i, _, h => nomatch Option.some.inj h
 | 40, i, _, h => nomatch Option.some.inj h
 | 41, i, _, h => nomatch Option.some.inj h
 | 42, i, _, h => nomatch Option.some.inj h
 | 43, i, _, h => nomatch Option.some.inj h
 | 44, i, _, h => nomatch Option.some.inj h
 | 45, i, _, h => nomatch Option.some.inj h
 | 46, i, _, h => nomatch Option.some.inj h
 | 47, i, _, h => Hd (f := Tryz.f47) h ⟨_, Tryz.func47, by kernel_rfl, by kernel_rfl, rfl, rfl⟩
 | 48, i, _, h => nomatch Option.some.inj h
 | 49, i, _, h => nomatch Option.some.inj h
 | 50, i, _, h => nomatch Option.some.inj h
 | 51, i, _, h => nomatch Option.some.inj h
 | 52, i, _, h => nomatch Option.some.inj h
 | 53, i, _, h => nomatch Option.some.inj h
 | 54, i, _, h => nomatch Option.some.inj h
 | 55, i, _, h => nomatch Option.some.inj h
 | 56, i, _, h => nomatch Option.some.inj h
 | 57, i, _, h => nomatch Option.some.inj h
 | 58, i, _, h => nomatch Option.some.inj h
 | 59, i, _, h => nomatch Option.some.inj h
 | 60, i, _, h => nomatch Option.some.inj h
 | 61, i, _, h => Hd (f := Tryz.f61) h ⟨_, Tryz.func61, by kernel_rfl, by kernel_rfl, rfl, rfl⟩
 | 62, i, _, h => Hd (f := Tryz.f62) h ⟨_, Tryz.func62, by kernel_rfl, by kernel_rfl, rfl, rfl⟩
 | 63, i, _, h => Hd (f := Tryz.f63) h ⟨_, Tryz.func63, by kernel_rfl, by kernel_rfl, rfl, rfl⟩
 | 64, i, _, h => Hd (f := Tryz.f64) h ⟨_, Tryz.func64, by kernel_rfl, by kernel_rfl, rfl, rfl⟩
 | 65, i, _, h => Hd (f := Tryz.f65) h ⟨_, Tryz.func65, by kernel_rfl, by kernel_rfl, rfl, rfl⟩
 | 66, i, _, h => Hd (f := Tryz.f66) h ⟨_, Tryz.func66, by kernel_rfl, by kernel_rfl, rfl, rfl⟩
 | 67, i, _, h => Hd (f := Tryz.f67) h ⟨_, Tryz.func67, by kernel_rfl, by kernel_rfl, rfl, rfl⟩
 | 68, i, _, h => Hd (f := Tryz.f68) h ⟨_, Tryz.func68, by kernel_rfl, by kernel_rfl, rfl, rfl⟩
 | 69, i, _, h => Hd (f := Tryz.f69) h ⟨_, Tryz.func69, by kernel_rfl, by kernel_rfl, rfl, rfl⟩
 | 70, i, _, h => Hd (f := Tryz.f70) h ⟨_, Tryz.func70, by kernel_rfl, by kernel_rfl, rfl, rfl⟩
 | 71, i, _, h => Hd (f := Tryz.f71) h ⟨_, Tryz.func71, by kernel_rfl, by kernel_rfl, rfl, rfl⟩
 | 72, i, _, h => Hd (f := Tryz.f72) h ⟨_, Tryz.func72, by kernel_rfl, by kernel_rfl, rfl, rfl⟩
 | 73, i, _, h => nomatch Option.some.inj h
 | 74, i, _, h => nomatch Option.some.inj h
 | 75, i, _, h => nomatch Option.some.inj h
 | 76, i, _, h => nomatch Option.some.inj h
 | 77, i, _, h => Hd (f := Tryz.f77) h ⟨_, Tryz.func77, by kernel_rfl, by kernel_rfl, rfl, rfl⟩
 | 78, i, _, h => nomatch Option.some.inj h
 | 79, i, _, h => nomatch Option.some.inj h
 | 80, i, _, h => Hd (f := Tryz.f80) h ⟨_, Tryz.func80, by kernel_rfl, by kernel_rfl, rfl, rfl⟩
 | 81, i, _, h => Hd (f := Tryz.f81) h ⟨_, Tryz.func81, by kernel_rfl, by kernel_rfl, rfl, rfl⟩
 | 82, i, _, h => nomatch Option.some.inj h
 | 83, i, _, h => nomatch Option.some.inj h
 | 84, i, _, h => nomatch Option.some.inj h
 | 85, i, _, h => nomatch Option.some.inj h
 | 86, i, _, h => Hd (f := Tryz.f86) h ⟨_, Tryz.func86, by kernel_rfl, by kernel_rfl, rfl, rfl⟩
 | 87, i, _, h => Hd (f := Tryz.f87) h ⟨_, Tryz.func87, by kernel_rfl, by kernel_rfl, rfl, rfl⟩
 | 88, i, _, h => Hd (f := Tryz.f88) h ⟨_, Tryz.func88, by kernel_rfl, by kernel_rfl, rfl, rfl⟩
 | 89, i, _, h => Hd (f := Tryz.f89) h ⟨_, Tryz.func89, by kernel_rfl, by kernel_rfl, rfl, rfl⟩
 | 90, i, _, h => Hd (f := Tryz.f90) h ⟨_, Tryz.func90, by kernel_rfl, by kernel_rfl, rfl, rfl⟩
 | 91, i, _, h => Hd (f := Tryz.f91) h ⟨_, Tryz.func91, by kernel_rfl, by kernel_rfl, rfl, rfl⟩
 | 92, i, _, h => Hd (f := Tryz.f92) h ⟨_, Tryz.func92, by kernel_rfl, by kernel_rfl, rfl, rfl⟩
 | 93, i, _, h => Hd (f := Tryz.f93) h ⟨_, Tryz.func93, by kernel_rfl, by kernel_rfl, rfl, rfl⟩
 | 94, i, _, h => Hd (f := Tryz.f94) h ⟨_, Tryz.func94, by kernel_rfl, by kernel_rfl, rfl, rfl⟩
 | 95, i, _, h => Hd (f := Tryz.f95) h ⟨_, Tryz.func95, by kernel_rfl, by kernel_rfl, rfl, rfl⟩
 | 96, i, _, h => Hd (f := Tryz.f96) h ⟨_, Tryz.func96, by kernel_rfl, by kernel_rfl, rfl, rfl⟩
 | 97, i, _, h => Hd (f := Tryz.f97) h ⟨_, Tryz.func97, by kernel_rfl, by kernel_rfl, rfl, rfl⟩
 | 98, i, _, h => Hd (f := Tryz.f98) h ⟨_, Tryz.func98, by kernel_rfl, by kernel_rfl, rfl, rfl⟩
 | 99, i, _, h => Hd (f := Tryz.f99) h ⟨_, Tryz.func99, by kernel_rfl, by kernel_rfl, rfl, rfl⟩
 | 100, i, _, h => Hd (f := Tryz.f100) h ⟨_, Tryz.func100, by kernel_rfl, by kernel_rfl, rfl, rfl⟩
 | 101, i, _, h => Hd (f := Tryz.f101) h ⟨_, Tryz.func101, by kernel_rfl, by kernel_rfl, rfl, rfl⟩
 | 102, i, _, h => Hd (f := Tryz.f102) h ⟨_, Tryz.func102, by kernel_rfl, by kernel_rfl, rfl, rfl⟩
 | 103, i, _, h => Hd (f := Tryz.f103) h ⟨_, Tryz.func103, by kernel_rfl, by kernel_rfl, rfl, rfl⟩
 | 104, i, _, h => Hd (f := Tryz.f104) h ⟨_, Tryz.func104, by kernel_rfl, by kernel_rfl, rfl, rfl⟩
 | 105, i, _, h => Hd (f := Tryz.f105) h ⟨_, Tryz.func105, by kernel_rfl, by kernel_rfl, rfl, rfl⟩
 | 106, i, _, h => Hd (f := Tryz.f106) h ⟨_, Tryz.func106, by kernel_rfl, by kernel_rfl, rfl, rfl⟩
 | 107, i, _, h => Hd (f := Tryz.f107) h ⟨_, Tryz.func107, by kernel_rfl, by kernel_rfl, rfl, rfl⟩
 | 108, i, _, h => Hd (f := Tryz.f108) h ⟨_, Tryz.func108, by kernel_rfl, by kernel_rfl, rfl, rfl⟩
 | 109, i, _, h => Hd (f := Tryz.f109) h ⟨_, Tryz.func109, by kernel_rfl, by kernel_rfl, rfl, rfl⟩
 | 110, i, _, h => Hd (f := Tryz.f110) h ⟨_, Tryz.func110, by kernel_rfl, by kernel_rfl, rfl, rfl⟩
 | 111, i, _, h => Hd (f := Tryz.f111) h ⟨_, Tryz.func111, by kernel_rfl, by kernel_rfl, rfl, rfl⟩
 | 112, i, _, h => Hd (f := Tryz.f112) h ⟨_, Tryz.func112, by kernel_rfl, by kernel_rfl, rfl, rfl⟩
 | 113, i, _, h => Hd (f := Tryz.f113) h ⟨_, Tryz.func113, by kernel_rfl, by kernel_rfl, rfl, rfl⟩
 | 114, i, _, h => nomatch Option.some.inj h
 | 115, i, _, h => Hd (f := Tryz.f115) h ⟨_, Tryz.func115, by kernel_rfl, by kernel_rfl, rfl, rfl⟩
 | 116, i, _, h => nomatch Option.some.inj h
 | 117, i, _, h => nomatch Option.some.inj h
 | 118, i, _, h => Hd (f := Tryz.f118) h ⟨_, Tryz.func118, by kernel_rfl, by kernel_rfl, rfl, rfl⟩
 | 119, i, _, h => nomatch Option.some.inj h
 | 120, i, _, h => nomatch Option.some.inj h
 | 121, i, _, h => nomatch Option.some.inj h
 | 122, i, _, h => nomatch Option.some.inj h
 | 123, i, _, h => nomatch Option.some.inj h
 | 124, i, _, h => nomatch Option.some.inj h
 | 125, i, _, h => nomatch Option.some.inj h
 | 126, i, _, h => Hd (f := Tryz.f126) h ⟨_, Tryz.func126, by kernel_rfl, by kernel_rfl, rfl, rfl⟩
 | 127, i, _, h => Hd (f := Tryz.f127) h ⟨_, Tryz.func127, by kernel_rfl, by kernel_rfl, rfl, rfl⟩
 | 128, i, _, h => Hd (f := Tryz.f128) h ⟨_, Tryz.func128, by kernel_rfl, by kernel_rfl, rfl, rfl⟩
 | 129, i, _, h => Hd (f := Tryz.f129) h ⟨_, Tryz.func129, by kernel_rfl, by kernel_rfl, rfl, rfl⟩
 | 130, i, _, h => Hd (f := Tryz.f130) h ⟨_, Tryz.func130, by kernel_rfl, by kernel_rfl, rfl, rfl⟩
 | 131, i, _, h => Hd (f := Tryz.f131) h ⟨_, Tryz.func131, by kernel_rfl, by kernel_rfl, rfl, rfl⟩
 | 132, i, _, h => Hd (f := Tryz.f132) h ⟨_, Tryz.func132, by kernel_rfl, by kernel_rfl, rfl, rfl⟩
 | 133, i, _, h => Hd (f := Tryz.f133) h ⟨_, Tryz.func133, by kernel_rfl, by kernel_rfl, rfl, rfl⟩
 | 134, i, _, h => Hd (f := Tryz.f134) h ⟨_, Tryz.func134, by kernel_rfl, by kernel_rfl, rfl, rfl⟩
 | 135, i, _, h => nomatch Option.some.inj h
 | 136, i, _, h => nomatch Option.some.inj h
 | 137, i, _, h => Hd (f := Tryz.f137) h ⟨_, Tryz.func137, by kernel_rfl, by kernel_rfl, rfl, rfl⟩
 | 138, i, _, h => Hd (f := Tryz.f138) h ⟨_, Tryz.func138, by kernel_rfl, by kernel_rfl, rfl, rfl⟩
 | 139, i, _, h => Hd (f := Tryz.f139) h ⟨_, Tryz.func139, by kernel_rfl, by kernel_rfl, rfl, rfl⟩
 | 140, i, _, h => Hd (f := Tryz.f140) h ⟨_, Tryz.func140, by kernel_rfl, by kernel_rfl, rfl, rfl⟩
 | 141, i, _, h => Hd (f := Tryz.f141) h ⟨_, Tryz.func141, by kernel_rfl, by kernel_rfl, rfl, rfl⟩
 | 142, i, _, h => Hd (f := Tryz.f142) h ⟨_, Tryz.func142, by kernel_rfl, by kernel_rfl, rfl, rfl⟩
 | 143, i, _, h => Hd (f := Tryz.f143) h ⟨_, Tryz.func143, by kernel_rfl, by kernel_rfl, rfl, rfl⟩
 | 144, i, _, h => nomatch Option.some.inj h
 | 145, i, _, h => nomatch Option.some.inj h
 | 146, i, _, h => Hd (f := Tryz.f146) h ⟨_, Tryz.func146, by kernel_rfl, by kernel_rfl, rfl, rfl⟩
 | 147, i, _, h => nomatch Option.some.inj h
 | 148, i, _, h => nomatch Option.some.inj h
 | 149, i, _, h => nomatch Option.some.inj h
 | 150, i, _, h => Hd (f := Tryz.f150) h ⟨_, Tryz.func150, by kernel_rfl, by kernel_rfl, rfl, rfl⟩
 | 151, i, _, h => Hd (f := Tryz.f151) h ⟨_, Tryz.func151, by kernel_rfl, by kernel_rfl, rfl, rfl⟩
 | n + 152, i, hlt, h => by omega
theorem AjR : ∀ f i, E0.fs f = some i → AgV Tryz.prog E0 f i := by
 intro f i h
 have hl : fss[f]? = some (some i) := by
  have h : (fss[f]?).getD none = some i := h
  cases hl : fss[f]? with
  | none => rw [hl] at h; cases h
  | some o => rw [hl] at h; simp only [zaO] at h; rw [h]
 refine ⟨?_, Aa8 Aiy hl⟩
 have hlt : f < 152 := (zae.1 hl).1
 exact AiU f i hlt hl
theorem AjN : Wz Tryz.prog E0 J0 := ⟨Aes, Aiw, by kernel_rfl, AjR, AjQ, (fun f q h => by cases h), AdO⟩
end
end Go.Proofs.YtlcpigdmekgajaaGreatDoor.Abs
