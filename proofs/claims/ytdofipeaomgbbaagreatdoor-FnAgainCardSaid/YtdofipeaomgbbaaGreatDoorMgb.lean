/- What the proof needs, part 2: a sound evaluator over trees, the program's functions on it, and what they come to. -/
import Derived.Test.YtdofipeaomgbbaaGreatDoorMga
import Derived.Lib.SplitLaws
import Derived.Lib.IndexAny
import Derived.Lib.ValidLaws
import Derived.Test.YtdofipeaomgbbaaGreatDoorProg
import Derived.KernelRfl
import Derived.Shelf.Strings.IndexAnyAll
import Derived.Shelf.Small.Utf8
import Derived.Lib.TrimUEq
import Derived.Lib.QuoteLoop
import Derived.Laws.RangeAny
import Derived.Laws.Runes
import Derived.WalkKit
import Derived.WalkMore
import Derived.Below
import Derived.LoopTactic
import Derived.Shelf.RegionOpenPlain
set_option linter.unusedVariables false
set_option linter.unusedSimpArgs false
namespace Go.Proofs.YtdofipeaomgbbaaGreatDoor.Abs
open _root_.List renaming length_singleton → zao, map_cons → zau, drop_zero → zaA, drop_drop → zaV, drop_of_length_le → zbe, any_cons → zbg, range' → zbk
open _root_.Bool renaming false_eq_true → zal, eq_iff_iff → zbi, false_or → zbq
open _root_.Nat renaming le_refl → zak, add_zero → zbd, beq → zby, add_comm → zbK
open _root_.Array renaming getElem?_eq_some_iff → zaG, replicate → zbz, getElem?_setIfInBounds_ne → zb0
section
open Go
def lvL : List UInt8 → List UInt8 → List (List UInt8)
 | cur, [] => [cur]
 | cur, b :: l => if b = 47 then cur :: lvL [] l else lvL (cur ++ [b]) l
def ofL (l : List UInt8) : ByteArray := ⟨l.toArray⟩
def Ek (s : ByteArray) : List ByteArray := (lvL [] s.data.toList).map ofL
def Pg (s : ByteArray) (b : UInt8) : Bool := s.data.toList.any fun c => c == b
def vPH (s : ByteArray) : Bool := Pg s 43 || Pg s 35
def Td : ByteArray := ⟨#[47]⟩
def phB : ByteArray := ⟨#[43, 35]⟩
def Mo (c : List UInt8) : List (List UInt8) → List (List UInt8)
 | [] => [c]
 | h :: t => (c ++ h) :: t
theorem T6 {X : List (List UInt8)} (h : X ≠ []) : Mo [] X = X := by
 cases X with
 | nil => exact absurd rfl h
 | cons h t => rfl
theorem Wi (a b : List UInt8) {X : List (List UInt8)} (h : X ≠ []) : Mo a (Mo b X) = Mo (a ++ b) X := by
 cases X with
 | nil => exact absurd rfl h
 | cons h t => simp [Mo]
theorem Qc (sep : List UInt8) (k : Nat) (l : List UInt8) : Lib.splitK sep 0 k l ≠ [] := by
 cases k with
 | zero => simp [Lib.splitK]
 | succ k =>
  unfold Lib.splitK
  split <;> simp
theorem Aer (l : List UInt8) : Lib.index (47 :: l) [47] = 0 := by
 unfold Lib.index
 simp
theorem Aes (b : UInt8) (l : List UInt8) (h : b ≠ 47) : Lib.index (b :: l) [47] = if Lib.index l [47] == -1 then -1 else Lib.index l [47] + 1 := by
 rw [Lib.index]
 rw [if_neg]
 simpa using fun h' => h h'.symm
theorem Tn (b : UInt8) (h : b ≠ 47) (k : Nat) (l : List UInt8) : Lib.splitK [47] 0 k (b :: l) = Mo [b] (Lib.splitK [47] 0 k l) := by
 cases k with
 | zero => rfl
 | succ k =>
  have hge := Lib.index_ge l [47]
  unfold Lib.splitK
  rw [Aes b l h]
  by_cases hi : Lib.index l [47] = -1
  ·simp [hi, Mo]
  ·have e1 : (Lib.index l [47] == -1) = false := by simpa using hi
   have e2 : (Lib.index l [47] + 1 == -1) = false := by simp; omega
   have e3 : (Lib.index l [47] + 1).toNat = (Lib.index l [47]).toNat + 1 := by omega
   simp only [e1, e2, e3, zal, if_false, Mo, zbd, zao]
   rw [show (Lib.index l [47]).toNat + 1 + 1 = ((Lib.index l [47]).toNat + 1) + 1 from rfl, List.drop_succ_cons, List.take_succ_cons]
   rfl
theorem Pz : ∀ (l cur : List UInt8), lvL cur l = Mo cur (Lib.splitK [47] 0 (Lib.count l [47]) l)
 | [], cur => by
  have e : Lib.count [] [47] = 0 := by rw [Lib.count_one]; rfl
  rw [e]
  simp [lvL, Lib.splitK, Mo]
 | b :: l, cur => by
  rw [lvL]
  by_cases h : b = 47
  ·subst h
   rw [if_pos rfl, Pz l [], Lib.count_cons_eq, zbK, Lib.splitK, Aer]
   rw [T6 (Qc _ _ _)]
   simp [Mo]
  ·rw [if_neg h, Pz l (cur ++ [b]), Lib.count_cons_ne _ _ _ h, Tn b h, Wi _ _ (Qc _ _ _)]
theorem Xa (s : ByteArray) : ofL s.data.toList = s := by
 cases s
 rfl
theorem Agf (l : List ByteArray) : (l.map (·.data.toList)).map ofL = l := by
 rw [List.map_map]
 conv => rhs; rw [← List.map_id l]
 exact List.map_congr_left fun s _ => Xa s
theorem Pf (s : ByteArray) : Lib.splitB Td 0 (Lib.countB s Td) s = Ek s := by
 have h := Lib.splitB_data Td 0 (Lib.countB s Td) s
 rw [← Agf (Lib.splitB Td 0 (Lib.countB s Td) s), h, Ek, Pz, T6 (Qc _ _ _)]
 rfl
theorem Zo (s : ByteArray) : (Ek s).length = Lib.countB s Td + 1 := by
 rw [← Pf]
 exact Lib.splitB_all Td (zak _) 0 _ s rfl
theorem Ou (chars : List UInt8) : ∀ l : List UInt8, decide (0 ≤ Lib.indexAny l chars) = l.any fun c => chars.contains c
 | [] => rfl
 | b :: l => by
  have ih := Ou chars l
  have hge := Lib.indexAny_ge chars l
  rw [Lib.indexAny, zbg, ← ih]
  by_cases h : chars.contains b = true
  ·rw [if_pos h, h]
   simp
  ·rw [if_neg h]
   have h' : chars.contains b = false := by simpa using h
   rw [h', zbq]
   by_cases hi : Lib.indexAny l chars = -1
   ·rw [hi]
    rfl
   ·rw [if_neg (by simpa using hi)]
    congr 1
    simp
    omega
theorem Yh {α : Type} (p q : α → Bool) : ∀ l : List α, (l.any fun c => p c || q c) = (l.any p || l.any q)
 | [] => rfl
 | x :: l => by
  rw [zbg, zbg, zbg, Yh p q l]
  cases p x <;> cases q x <;> simp
theorem Aig (s : ByteArray) : Lib.containsAny s.data.toList phB.data.toList = vPH s := by
 unfold Lib.containsAny vPH Pg
 rw [Ou, ← Yh]
 congr 1
 funext c
 simp [phB]
 rfl
end
section
open Go
def M1 : Nat → List UInt8 → Bool
 | 0, _ => true
 | n + 1, l => if l = [] then true else if (Lib.decodeL l).1 = 65533 ∧ (Lib.decodeL l).2 = 1 then false else if (Lib.decodeL l).1 = 0 then false else M1 n (l.drop (Lib.decodeL l).2)
def F7 (s : ByteArray) : Bool := decide (s.size ≤ 60) && M1 s.size s.data.toList
def Aal (ty : Nat) (vs : List AV) : Option AV :=
 match vs with
 | [.sc (.string s)] => if s.size ≤ maxLen then some (.sc (.bool (F7 s))) else none
 | _ => none
def Wo (ty : Nat) (vs : List AV) : Option AV :=
 match vs with
 | [.sc (.string s), .sc (.string c)] => if c.data.toList = [43, 35] ∧ s.size < 4294967281 then some (.sc (.bool (vPH s))) else none
 | _ => none
def Ps (ty : Nat) (vs : List AV) : Option AV :=
 match vs with
 | [.sc (.string s), .sc (.string c)] => if ty = 38 ∧ c.data.toList = [47] ∧ s.size < 4294967281 then some (.ro (Ek s).length ((Ek s).map fun x => .sc (.string x))) else none
 | _ => none
end
end Go.Proofs.YtdofipeaomgbbaaGreatDoor.Abs
set_option maxRecDepth 100000
namespace Go.Proofs.YtdofipeaomgbbaaGreatDoor.Abs
open _root_.List renaming length_singleton → zao, map_cons → zau, drop_zero → zaA, drop_drop → zaV, drop_of_length_le → zbe, any_cons → zbg, range' → zbk
open _root_.Bool renaming false_eq_true → zal, eq_iff_iff → zbi, false_or → zbq
open _root_.Nat renaming le_refl → zak, add_zero → zbd, beq → zby, add_comm → zbK
open _root_.Array renaming getElem?_eq_some_iff → zaG, replicate → zbz, getElem?_setIfInBounds_ne → zb0
section
open Go
variable {β : Type} (p : Pr β)
noncomputable def tis : List (Option TI) := [none,
 none,
 some ⟨false, false, 1, 8, [(.int .i64 0)], 0, [], some .i64, false, false, [2], false⟩,
 some ⟨false, false, 1, 8, [(.int .i64 0)], 0, [], some .i64, false, false, [3], false⟩,
 some ⟨false, false, 1, 1, [(.bool false)], 0, [], none, false, true, [4], false⟩,
 some ⟨false, false, 1, 1, [(.int .u8 0)], 0, [], some .u8, false, false, [5], false⟩,
 some ⟨false, false, 1, 1, [(.int .u8 0)], 0, [], some .u8, false, false, [6], false⟩,
 none,
 none,
 some ⟨false, false, 1, 16, [(.string ⟨#[]⟩)], 0, [], none, true, false, [9], false⟩,
 some ⟨false, false, 1, 16, [(.string ⟨#[]⟩)], 0, [], none, true, false, [10], false⟩,
 some ⟨false, false, 1, 16, [(.string ⟨#[]⟩)], 0, [], none, true, false, [11], false⟩,
 some ⟨false, false, 1, 8, [(.int .u64 0)], 0, [], some .u64, false, false, [12], false⟩,
 none,
 none,
 none,
 none,
 none,
 none,
 none,
 none,
 some ⟨false, false, 1, 4, [(.int .i32 0)], 0, [], some .i32, false, false, [21], false⟩,
 some ⟨false, true, 1, 24, [(.slice none 0 0)], 5, [], none, false, false, [22], false⟩,
 none,
 some ⟨false, true, 1, 24, [(.slice none 0 0)], 35, [], none, false, false, [24], false⟩,
 some ⟨false, true, 1, 24, [(.slice none 0 0)], 33, [], none, false, false, [25], false⟩,
 none,
 some ⟨true, false, 3, 56, [(.int .i64 0), (.slice none 0 0), (.slice none 0 0)], 0, [(0, 3), (1, 24), (2, 25)], none, false, false, [3, 24, 25], false⟩,
 none,
 some ⟨false, true, 1, 24, [(.slice none 0 0)], 41, [], none, false, false, [29], false⟩,
 none,
 none,
 none,
 some ⟨true, false, 4, 56, [(.string ⟨#[]⟩), (.slice none 0 0), (.int .i64 0), (.bool false)], 0, [(0, 9), (1, 22), (2, 3), (3, 4)], none, false, false, [9, 22, 3, 4], false⟩,
 none,
 some ⟨true, false, 6, 72, [(.int .i64 0), (.string ⟨#[]⟩), (.slice none 0 0), (.int .i64 0), (.bool false), (.int .i64 0)], 0, [(0, 3), (1, 33), (5, 3)], none, false, false, [3, 9, 22, 3, 4, 3], false⟩,
 none,
 some ⟨false, true, 1, 24, [(.slice none 0 0)], 94, [], none, false, false, [37], false⟩,
 some ⟨false, true, 1, 24, [(.slice none 0 0)], 9, [], none, false, false, [38], false⟩,
 some ⟨false, true, 1, 24, [(.slice none 0 0)], 3, [], none, false, false, [39], false⟩,
 none,
 some ⟨true, false, 25, 320, [(.int .i64 0), (.bool false), (.int .i64 0), (.bool false), (.int .i64 0), (.string ⟨#[]⟩), (.slice none 0 0), (.string ⟨#[]⟩), (.int .i64 0), (.bool false), (.int .i64 0), (.bool false), (.string ⟨#[]⟩), (.slice none 0 0), (.int .i64 0), (.bool false), (.bool false), (.string ⟨#[]⟩), (.bool false), (.slice none 0 0), (.int .i64 0), (.bool false), (.slice none 0 0), (.slice none 0 0), (.slice none 0 0)], 0, [(0, 3), (1, 4), (2, 3), (3, 4), (4, 3), (5, 9), (6, 22), (7, 9), (8, 3), (9, 4), (10, 3), (11, 4), (12, 9), (13, 22), (14, 3), (15, 4), (16, 4), (17, 9), (18, 4), (19, 22), (20, 3), (21, 4), (22, 37), (23, 38), (24, 39)], none, false, false, [3, 4, 3, 4, 3, 9, 22, 9, 3, 4, 3, 4, 9, 22, 3, 4, 4, 9, 4, 22, 3, 4, 37, 38, 39], false⟩,
 none,
 none,
 none,
 none,
 none,
 none,
 none,
 none,
 none,
 none,
 none,
 none,
 none,
 none,
 none,
 none,
 none,
 none,
 none,
 none,
 none,
 none,
 none,
 none,
 none,
 none,
 none,
 none,
 none,
 some ⟨false, false, 1, 8, [(.pointer none)], 0, [], none, false, false, [71], false⟩,
 none,
 none,
 none,
 none,
 none,
 none,
 none,
 none,
 none,
 none,
 none,
 none,
 none,
 none,
 none,
 none,
 none,
 none,
 none,
 none,
 none,
 none,
 some ⟨true, false, 2, 24, [(.string ⟨#[]⟩), (.int .i64 0)], 0, [(0, 9), (1, 3)], none, false, false, [9, 3], true⟩,
 none,
 none,
 none,
 none,
 none,
 none,
 none,
 none,
 none,
 none,
 some ⟨true, false, 3, 40, [(.slice none 0 0), (.int .i64 0), (.int .i64 0)], 0, [(0, 22), (1, 3), (2, 3)], none, false, false, [22, 3, 3], false⟩,
 none,
 none,
 none,
 none,
 none,
 none,
 none,
 none,
 none,
 none,
 none,
 none,
 none,
 none,
 some ⟨false, true, 1, 24, [(.slice none 0 0)], 4, [], none, false, false, [120], false⟩,
 none,
 some ⟨false, true, 1, 24, [(.slice none 0 0)], 22, [], none, false, false, [122], false⟩]
noncomputable def Bi (f : Func) : Code := match f.body with | some c => c | none => .skip
noncomputable def c7 : Code := Bi Tryz.f7
noncomputable def c40 : Code := Bi Tryz.f40
noncomputable def c97 : Code := Bi Tryz.f97
noncomputable def c59 : Code := Bi Tryz.f59
noncomputable def c61 : Code := Bi Tryz.f61
noncomputable def AjW : Code := Bi Tryz.f107
noncomputable def Aka : Code := Bi Tryz.f123
noncomputable def Ahc : Code := Bi Tryz.f105
noncomputable def c60 : Code := Bi Tryz.f60
noncomputable def AjU : Code := Bi Tryz.f103
noncomputable def Ahe : Code := Bi Tryz.f112
noncomputable def AjT : Code := Bi Tryz.f101
noncomputable def Ahb : Code := Bi Tryz.f100
noncomputable def c64 : Code := Bi Tryz.f64
noncomputable def c50 : Code := Bi Tryz.f50
noncomputable def Ahi : Code := Bi Tryz.f128
noncomputable def Ahd : Code := Bi Tryz.f111
noncomputable def c82 : Code := Bi Tryz.f82
noncomputable def Ahg : Code := Bi Tryz.f114
noncomputable def Ahh : Code := Bi Tryz.f115
noncomputable def c92 : Code := Bi Tryz.f92
noncomputable def c51 : Code := Bi Tryz.f51
noncomputable def c52 : Code := Bi Tryz.f52
noncomputable def c53 : Code := Bi Tryz.f53
noncomputable def c11 : Code := Bi Tryz.f11
noncomputable def c39 : Code := Bi Tryz.f39
noncomputable def Akc : Code := Bi Tryz.f129
noncomputable def Akd : Code := Bi Tryz.f130
noncomputable def Ahk : Code := Bi Tryz.f139
noncomputable def Ahj : Code := Bi Tryz.f131
noncomputable def Ahf : Code := Bi Tryz.f113
noncomputable def AjY : Code := Bi Tryz.f121
noncomputable def Ake : Code := Bi Tryz.f138
noncomputable def Rn : Code := Bi Tryz.f120
noncomputable def AjZ : Code := Bi Tryz.f122
noncomputable def Pp : Code := Bi Tryz.f102
noncomputable def c65 : Code := Bi Tryz.f65
noncomputable def c16 : Code := Bi Tryz.f16
noncomputable def c68 : Code := Bi Tryz.f68
noncomputable def c19 : Code := Bi Tryz.f19
noncomputable def c86 : Code := Bi Tryz.f86
noncomputable def Akb : Code := Bi Tryz.f124
noncomputable def AjV : Code := Bi Tryz.f104
noncomputable def c66 : Code := Bi Tryz.f66
noncomputable def c87 : Code := Bi Tryz.f87
noncomputable def c41 : Code := Bi Tryz.f41
noncomputable def c8 : Code := Bi Tryz.f8
noncomputable def c47 : Code := Bi Tryz.f47
noncomputable def c44 : Code := Bi Tryz.f44
noncomputable def c90 : Code := Bi Tryz.f90
noncomputable def c89 : Code := Bi Tryz.f89
noncomputable def c45 : Code := Bi Tryz.f45
noncomputable def c95 : Code := Bi Tryz.f95
noncomputable def c57 : Code := Bi Tryz.f57
noncomputable def c56 : Code := Bi Tryz.f56
noncomputable def c46 : Code := Bi Tryz.f46
noncomputable def c48 : Code := Bi Tryz.f48
noncomputable def c91 : Code := Bi Tryz.f91
noncomputable def c49 : Code := Bi Tryz.f49
noncomputable def c10 : Code := Bi Tryz.f10
noncomputable def c54 : Code := Bi Tryz.f54
noncomputable def c69 : Code := Bi Tryz.f69
noncomputable def c70 : Code := Bi Tryz.f70
noncomputable def c71 : Code := Bi Tryz.f71
noncomputable def c72 : Code := Bi Tryz.f72
noncomputable def c20 : Code := Bi Tryz.f20
noncomputable def c55 : Code := Bi Tryz.f55
noncomputable def AjX : Code := Bi Tryz.f119
noncomputable def c96 : Code := Bi Tryz.f96
noncomputable def c58 : Code := Bi Tryz.f58
noncomputable def c12 : Code := Bi Tryz.f12
noncomputable def c42 : Code := Bi Tryz.f42
noncomputable def c88 : Code := Bi Tryz.f88
noncomputable def c43 : Code := Bi Tryz.f43
noncomputable def c9 : Code := Bi Tryz.f9
noncomputable def c13 : Code := Bi Tryz.f13
noncomputable def c14 : Code := Bi Tryz.f14
noncomputable def c99 : Code := Bi Tryz.f99
noncomputable def c98 : Code := Bi Tryz.f98
noncomputable def c62 : Code := Bi Tryz.f62
noncomputable def c15 : Code := Bi Tryz.f15
noncomputable def c17 : Code := Bi Tryz.f17
noncomputable def c67 : Code := Bi Tryz.f67
noncomputable def c18 : Code := Bi Tryz.f18
noncomputable def c3 : Code := Bi Tryz.f3
noncomputable def o97 : List (Nat × PI) := [(2, PI.of [0, 1, 2, 3, 4, 5, 6, 7, 8, 9, 10, 11, 12]), (3, PI.of [0, 1, 2, 3, 4, 5, 6, 7, 8, 9]), (4, PI.of [0, 1, 2, 3, 4, 5, 6, 7, 8, 9, 10, 11, 12, 13, 14])]
noncomputable def Ako : List (Nat × PI) := [(1, PI.of [0, 1, 3, 4, 6, 7, 8, 9, 2, 5, 10, 11])]
noncomputable def o64 : List (Nat × PI) := [(1, .one 0 (.one 1 (.one 2 (.one 3 (.two 4 (PI.of [5, 6, 7]) 6 (PI.of [4, 5, 7])))))), (5, PI.of [0, 1, 2, 3, 4, 5, 6, 7, 8, 9, 10, 11, 12, 13, 15, 16, 17, 18, 19, 20, 14, 21, 22, 23, 24, 25])]
noncomputable def o11 : List (Nat × PI) := [(9, PI.of [0, 1, 2, 3, 4, 5, 6, 7, 8, 9, 10, 11, 12])]
noncomputable def Akp : List (Nat × PI) := [(3, PI.of [0, 1, 3, 4, 5, 2, 6, 7, 8, 9])]
noncomputable def Akq : List (Nat × PI) := [(1, PI.of [0, 1, 2, 3, 4, 5, 6, 7, 9, 10, 8, 11, 12, 13])]
noncomputable def Aip : List (Nat × PI) := [(7, PI.of [0, 1, 2, 3, 4, 5]), (16, PI.of [0, 1, 2, 3, 4, 5, 6])]
noncomputable def Sx : List (Nat × PI) := [(6, PI.of [0, 1, 2, 3, 4, 5, 6, 7, 8, 9, 10]), (11, PI.of [0, 1, 2, 3, 4, 5, 6, 7, 8, 9, 10]), (16, PI.of [0, 1, 2, 3, 4, 5, 6, 7, 8, 9, 10])]
noncomputable def P0 : List (Nat × PI) := [(1, .one 0 (.one 1 (.one 2 (.one 3 (.one 4 (.one 6 (.two 5 (PI.of [7, 8, 9, 10]) 7 (PI.of [5, 8, 9, 10]))))))))]
noncomputable def o16 : List (Nat × PI) := [(10, PI.of [0, 1, 2, 3, 4, 5, 6, 7, 8, 9, 10, 11]), (14, PI.of [0, 1, 2, 3, 4, 5])]
noncomputable def o86 : List (Nat × PI) := [(8, .one 0 (.one 2 (.one 3 (.one 4 (.one 5 (.alt 1 (.two 6 (PI.of [7, 8, 9, 10]) 9 (PI.of [6, 7, 8, 10])) (.alt 6 (PI.of [1, 7, 8, 9, 10]) (.one 9 (.two 1 (PI.of [6, 7, 8, 10]) 6 (PI.of [1, 7, 8, 10])))))))))), (9, .one 1 (.one 4 (.alt 0 (.two 2 (.two 3 (PI.of [5, 6, 7, 8, 9, 10, 11]) 5 (PI.of [3, 6, 7, 8, 9, 10, 11])) 5 (PI.of [2, 3, 6, 7, 8, 9, 10, 11])) (.alt 2 (.alt 0 (.two 3 (PI.of [5, 6, 7, 8, 9, 10, 11]) 5 (PI.of [3, 6, 7, 8, 9, 10, 11])) (.alt 3 (PI.of [0, 5, 6, 7, 8, 9, 10, 11]) (.one 5 (.two 0 (PI.of [3, 6, 7, 8, 9, 10, 11]) 3 (PI.of [0, 6, 7, 8, 9, 10, 11]))))) (.one 5 (.two 0 (PI.of [2, 3, 6, 7, 8, 9, 10, 11]) 2 (.two 0 (PI.of [3, 6, 7, 8, 9, 10, 11]) 3 (PI.of [0, 6, 7, 8, 9, 10, 11])))))))), (13, .one 1 (.two 0 (PI.of [2, 3, 4, 5, 6, 7]) 2 (PI.of [0, 3, 4, 5, 6, 7])))]
noncomputable def o41 : List (Nat × PI) := [(9, .one 0 (.one 2 (.two 1 (PI.of [3, 4, 5, 6, 7]) 3 (.two 1 (PI.of [4, 5, 6, 7]) 4 (PI.of [1, 5, 6, 7]))))), (12, .one 0 (.one 2 (.two 1 (PI.of [3, 4, 5, 6, 7]) 3 (.two 1 (PI.of [4, 5, 6, 7]) 4 (PI.of [1, 5, 6, 7]))))), (15, .one 0 (.one 2 (.two 1 (PI.of [3, 4, 5, 6]) 3 (PI.of [1, 4, 5, 6]))))]
noncomputable def o54 : List (Nat × PI) := [(4, .one 0 (.one 1 (.one 2 (.one 4 (.one 6 (.one 8 (.one 10 (.one 12 (.ld 3 (.ld 5 (.ld 7 (.ld 9 (.ld 11 (.st 13 3 (.one 14 (.st 15 3 (.one 16 (.st 17 3 (.one 18 (.st 19 3 (.one 20 (.st 21 3 (PI.of [22, 23]))))))))))))))))))))))), (6, .one 0 (.one 1 (.one 2 (.one 4 (.one 6 (.one 8 (.ld 3 (.ld 5 (.ld 7 (.st 9 3 (.one 10 (.st 11 3 (.one 12 (.st 13 3 (PI.of [14, 15]))))))))))))))), (8, .one 0 (.one 1 (.one 2 (.one 4 (.ld 3 (.st 5 3 (PI.of [6, 7]))))))), (12, .one 0 (.one 1 (.one 2 (.one 4 (.ld 3 (.st 5 3 (PI.of [6, 7]))))))), (14, .one 0 (.one 1 (.one 2 (.one 4 (.one 6 (.one 8 (.ld 3 (.ld 5 (.ld 7 (.st 9 3 (.one 10 (.st 11 3 (.one 12 (.st 13 3 (PI.of [14, 15]))))))))))))))), (16, .one 0 (.one 1 (.one 2 (.one 4 (.ld 3 (.st 5 3 (PI.of [6, 7]))))))), (24, .one 0 (.one 1 (.one 2 (.one 4 (.ld 3 (.st 5 3 (PI.of [6, 7]))))))), (26, .one 0 (.one 1 (.one 2 (.one 4 (.ld 3 (.st 5 3 (PI.of [6, 7]))))))), (28, .one 0 (.one 1 (.one 2 (.one 4 (.ld 3 (.st 5 3 (PI.of [6, 7])))))))]
noncomputable def o70 : List (Nat × PI) := [(6, PI.of [0, 1, 2, 3, 4, 5, 6, 7, 8])]
noncomputable def o71 : List (Nat × PI) := [(6, PI.of [0, 1, 2, 3, 4, 5, 6, 7, 8])]
noncomputable def o72 : List (Nat × PI) := [(6, PI.of [0, 1, 2, 3, 4, 5, 6, 7, 8])]
noncomputable def o12 : List (Nat × PI) := [(1, .one 0 (.one 1 (.one 2 (.one 3 (.one 4 (.one 6 (.two 5 (PI.of [7, 8, 9, 10]) 7 (PI.of [5, 8, 9, 10]))))))))]
noncomputable def o43 : List (Nat × PI) := [(1, PI.of [0, 1, 2, 3, 4, 5, 6, 7, 8, 9, 10, 11, 12, 13])]
noncomputable def o14 : List (Nat × PI) := [(5, .one 0 (.one 2 (.one 3 (.one 4 (.one 5 (.two 1 (PI.of [6, 7, 8, 9, 10]) 6 (PI.of [1, 7, 8, 9, 10]))))))), (6, .one 1 (.one 4 (.two 0 (PI.of [2, 3, 5, 6, 7]) 2 (.two 0 (PI.of [3, 5, 6, 7]) 3 (PI.of [0, 5, 6, 7])))))]
noncomputable def o62 : List (Nat × PI) := [(1, .one 0 (.one 1 (.one 2 (.one 3 (.two 4 (PI.of [5, 6, 7]) 6 (PI.of [4, 5, 7])))))), (5, PI.of [0, 1, 2, 3, 4, 5, 7, 8, 6, 9, 10, 11, 12, 13])]
noncomputable def o15 : List (Nat × PI) := [(12, PI.of [0, 1, 2, 3, 4, 5])]
noncomputable def o17 : List (Nat × PI) := [(3, .one 1 (.two 0 (PI.of [2, 3, 4]) 2 (PI.of [0, 3, 4])))]
noncomputable def o3 : List (Nat × PI) := [(5, PI.of [0, 2, 1, 3, 4]), (13, PI.of [0, 1, 2, 3, 4, 5, 6, 7, 8, 9, 10, 11, 12, 13, 14, 15, 16, 17, 18, 19, 20, 21, 22, 23, 24, 25, 26, 27, 28, 29, 30, 31, 32, 33, 34, 35, 36, 37, 38, 39, 40, 41, 42, 43, 44, 45, 46, 47, 48, 49, 50, 51, 52, 53, 54, 55, 56, 57, 58, 59, 60, 61, 62, 63, 64, 65, 66])]
noncomputable abbrev fi7 : E6 := ⟨c7, 6, Tryz.f7.results.toList, []⟩
noncomputable abbrev fi40 : E6 := ⟨c40, 32, Tryz.f40.results.toList, []⟩
noncomputable abbrev Ajx : E6 := ⟨c97, 58, Tryz.f97.results.toList, o97⟩
noncomputable abbrev Ajk : E6 := ⟨c59, 31, Tryz.f59.results.toList, []⟩
noncomputable abbrev Ajm : E6 := ⟨c61, 12, Tryz.f61.results.toList, []⟩
noncomputable abbrev AgE : E6 := ⟨AjW, 12, Tryz.f107.results.toList, []⟩
noncomputable abbrev AgG : E6 := ⟨Aka, 6, Tryz.f123.results.toList, []⟩
noncomputable abbrev fi105 : E6 := ⟨Ahc, 20, Tryz.f105.results.toList, []⟩
noncomputable abbrev Ajl : E6 := ⟨c60, 9, Tryz.f60.results.toList, []⟩
noncomputable abbrev AgC : E6 := ⟨AjU, 14, Tryz.f103.results.toList, []⟩
noncomputable abbrev fi112 : E6 := ⟨Ahe, 22, Tryz.f112.results.toList, []⟩
noncomputable abbrev AgB : E6 := ⟨AjT, 14, Tryz.f101.results.toList, Ako⟩
noncomputable abbrev fi100 : E6 := ⟨Ahb, 21, Tryz.f100.results.toList, []⟩
noncomputable abbrev fi64 : E6 := ⟨c64, 44, Tryz.f64.results.toList, o64⟩
noncomputable abbrev Aje : E6 := ⟨c50, 15, Tryz.f50.results.toList, []⟩
noncomputable abbrev fi128 : E6 := ⟨Ahi, 104, Tryz.f128.results.toList, []⟩
noncomputable abbrev fi111 : E6 := ⟨Ahd, 35, Tryz.f111.results.toList, []⟩
noncomputable abbrev Ajs : E6 := ⟨c82, 6, Tryz.f82.results.toList, []⟩
noncomputable abbrev fi114 : E6 := ⟨Ahg, 17, Tryz.f114.results.toList, []⟩
noncomputable abbrev fi115 : E6 := ⟨Ahh, 33, Tryz.f115.results.toList, []⟩
noncomputable abbrev Ajv : E6 := ⟨c92, 25, Tryz.f92.results.toList, []⟩
noncomputable abbrev Ajf : E6 := ⟨c51, 17, Tryz.f51.results.toList, []⟩
noncomputable abbrev Ajg : E6 := ⟨c52, 24, Tryz.f52.results.toList, []⟩
noncomputable abbrev fi53 : E6 := ⟨c53, 19, Tryz.f53.results.toList, []⟩
noncomputable abbrev fi11 : E6 := ⟨c11, 71, Tryz.f11.results.toList, o11⟩
noncomputable abbrev AiU : E6 := ⟨c39, 25, Tryz.f39.results.toList, []⟩
noncomputable abbrev AgI : E6 := ⟨Akc, 17, Tryz.f129.results.toList, Akp⟩
noncomputable abbrev AgJ : E6 := ⟨Akd, 20, Tryz.f130.results.toList, Akq⟩
noncomputable abbrev fi139 : E6 := ⟨Ahk, 18, Tryz.f139.results.toList, []⟩
noncomputable abbrev fi131 : E6 := ⟨Ahj, 31, Tryz.f131.results.toList, []⟩
noncomputable abbrev fi113 : E6 := ⟨Ahf, 75, Tryz.f113.results.toList, Aip⟩
noncomputable abbrev AgF : E6 := ⟨AjY, 120, Tryz.f121.results.toList, []⟩
noncomputable abbrev AgK : E6 := ⟨Ake, 10, Tryz.f138.results.toList, []⟩
noncomputable abbrev fi120 : E6 := ⟨Rn, 239, Tryz.f120.results.toList, Sx⟩
noncomputable abbrev AiM : E6 := ⟨AjZ, 57, Tryz.f122.results.toList, []⟩
noncomputable abbrev fi102 : E6 := ⟨Pp, 191, Tryz.f102.results.toList, P0⟩
noncomputable abbrev Ajn : E6 := ⟨c65, 23, Tryz.f65.results.toList, []⟩
noncomputable abbrev fi16 : E6 := ⟨c16, 81, Tryz.f16.results.toList, o16⟩
noncomputable abbrev Ajq : E6 := ⟨c68, 31, Tryz.f68.results.toList, []⟩
noncomputable abbrev AiS : E6 := ⟨c19, 26, Tryz.f19.results.toList, []⟩
noncomputable abbrev fi86 : E6 := ⟨c86, 68, Tryz.f86.results.toList, o86⟩
noncomputable abbrev AgH : E6 := ⟨Akb, 10, Tryz.f124.results.toList, []⟩
noncomputable abbrev AgD : E6 := ⟨AjV, 16, Tryz.f104.results.toList, []⟩
noncomputable abbrev Ajo : E6 := ⟨c66, 28, Tryz.f66.results.toList, []⟩
noncomputable abbrev Ajt : E6 := ⟨c87, 14, Tryz.f87.results.toList, []⟩
noncomputable abbrev AiV : E6 := ⟨c41, 69, Tryz.f41.results.toList, o41⟩
noncomputable abbrev fi8 : E6 := ⟨c8, 8, Tryz.f8.results.toList, []⟩
noncomputable abbrev Ajb : E6 := ⟨c47, 15, Tryz.f47.results.toList, []⟩
noncomputable abbrev AiY : E6 := ⟨c44, 5, Tryz.f44.results.toList, []⟩
noncomputable abbrev Aju : E6 := ⟨c90, 8, Tryz.f90.results.toList, []⟩
noncomputable abbrev fi89 : E6 := ⟨c89, 19, Tryz.f89.results.toList, []⟩
noncomputable abbrev AiZ : E6 := ⟨c45, 8, Tryz.f45.results.toList, []⟩
noncomputable abbrev Ajw : E6 := ⟨c95, 5, Tryz.f95.results.toList, []⟩
noncomputable abbrev Ajj : E6 := ⟨c57, 20, Tryz.f57.results.toList, []⟩
noncomputable abbrev Aji : E6 := ⟨c56, 5, Tryz.f56.results.toList, []⟩
noncomputable abbrev Aja : E6 := ⟨c46, 17, Tryz.f46.results.toList, []⟩
noncomputable abbrev Ajc : E6 := ⟨c48, 5, Tryz.f48.results.toList, []⟩
noncomputable abbrev fi91 : E6 := ⟨c91, 15, Tryz.f91.results.toList, []⟩
noncomputable abbrev Ajd : E6 := ⟨c49, 10, Tryz.f49.results.toList, []⟩
noncomputable abbrev fi10 : E6 := ⟨c10, 67, Tryz.f10.results.toList, []⟩
noncomputable abbrev Ajh : E6 := ⟨c54, 121, Tryz.f54.results.toList, o54⟩
noncomputable abbrev Ajr : E6 := ⟨c69, 10, Tryz.f69.results.toList, []⟩
noncomputable abbrev fi70 : E6 := ⟨c70, 26, Tryz.f70.results.toList, o70⟩
noncomputable abbrev fi71 : E6 := ⟨c71, 26, Tryz.f71.results.toList, o71⟩
noncomputable abbrev fi72 : E6 := ⟨c72, 26, Tryz.f72.results.toList, o72⟩
noncomputable abbrev AiT : E6 := ⟨c20, 186, Tryz.f20.results.toList, []⟩
noncomputable abbrev Akk : E6 := ⟨c55, 50, Tryz.f55.results.toList, []⟩
noncomputable abbrev AiK : E6 := ⟨AjX, 19, Tryz.f119.results.toList, []⟩
noncomputable abbrev Akm : E6 := ⟨c96, 35, Tryz.f96.results.toList, []⟩
noncomputable abbrev Akl : E6 := ⟨c58, 65, Tryz.f58.results.toList, []⟩
noncomputable abbrev AiL : E6 := ⟨c12, 81, Tryz.f12.results.toList, o12⟩
noncomputable abbrev AiW : E6 := ⟨c42, 23, Tryz.f42.results.toList, []⟩
noncomputable abbrev fi88 : E6 := ⟨c88, 18, Tryz.f88.results.toList, []⟩
noncomputable abbrev AiX : E6 := ⟨c43, 20, Tryz.f43.results.toList, o43⟩
noncomputable abbrev fi9 : E6 := ⟨c9, 37, Tryz.f9.results.toList, []⟩
noncomputable abbrev AiN : E6 := ⟨c13, 10, Tryz.f13.results.toList, []⟩
noncomputable abbrev AiO : E6 := ⟨c14, 38, Tryz.f14.results.toList, o14⟩
noncomputable abbrev Ajy : E6 := ⟨c99, 9, Tryz.f99.results.toList, []⟩
noncomputable abbrev fi98 : E6 := ⟨c98, 20, Tryz.f98.results.toList, []⟩
noncomputable abbrev fi62 : E6 := ⟨c62, 34, Tryz.f62.results.toList, o62⟩
noncomputable abbrev AiP : E6 := ⟨c15, 72, Tryz.f15.results.toList, o15⟩
noncomputable abbrev AiQ : E6 := ⟨c17, 13, Tryz.f17.results.toList, o17⟩
noncomputable abbrev Ajp : E6 := ⟨c67, 34, Tryz.f67.results.toList, []⟩
noncomputable abbrev AiR : E6 := ⟨c18, 26, Tryz.f18.results.toList, []⟩
noncomputable abbrev fi3 : E6 := ⟨c3, 201, Tryz.f3.results.toList, o3⟩
abbrev uu : AV := .sc undef
noncomputable def tf : Nat → Nat → (Nat → AV) → Tm
 | 0, _, _ => []
 | n + 1, i, t => (i, t i) :: tf n (i + 1) t
noncomputable def ut : Nat → AV := fun _ => uu
noncomputable def ud : List (Nat × AV) → (Nat → AV) → Nat → AV
 | [], t, i => t i
 | (j, v) :: r, t, i => match zby j i with
  | true => v
  | false => ud r t i
theorem X1 : ∀ (n i : Nat) (t : Nat → AV), tf n i t = (zbk i n).map fun j => (j, t j)
 | 0, _, _ => rfl
 | n + 1, i, t => by
  rw [tf, X1 n (i + 1) t, List.range'_succ, zau]
theorem Aio (nt : Nat) (tm : Tm) : nrm nt tm = tf nt 0 (fun i => gt tm i) := by
 rw [X1, nrm, List.range_eq_range']
theorem B8 {nt m : Nat} {body : Tm → Ab → (Ex → Tm → Ab → Option β) → Option β} {c c' : Ex → Tm → Ab → Option β} {g : (Nat → AV) → Ab → Option β} {tm : Tm} {H : Ab} (h : ∀ t H, D3 nt body c m (tf nt 0 t) H = g t H) (hc : c = c') : D3 nt body c (m + 1) tm H = body tm H (Em (fun tm H => g (fun i => gt tm i) H) c') := by
 have e : (fun tm H => D3 nt body c m (nrm nt tm) H) = fun tm H => g (fun i => gt tm i) H := by
  funext tm H
  rw [Aio, h]
 rw [D3, e, hc]
noncomputable def Ar (t : Nat) : Option TI := (tis[t]?).getD none
noncomputable def cd : Code → List Nat → Code
 | c, [] => c
 | .seq a b, i :: p => cd (if i = 0 then a else b) p
 | .cond _ a b, i :: p => cd (if i = 1 then a else b) p
 | .block _ a, _ :: p => cd a p
 | .loop a, _ :: p => cd a p
 | c, _ => c
abbrev Jr (i : E6) (f : (β : Type) → Pr β → Nat → AV → Ab → KO β → Option β) : Prop := ∀ {β : Type} (p : Pr β) (n : Nat) (a0 : AV) (H : Ab) (k : KO β), Cf Ar p n i [a0] H k = f β p n a0 H k
abbrev Pi (i : E6) (f : (β : Type) → Pr β → Nat → AV → AV → Ab → KO β → Option β) : Prop := ∀ {β : Type} (p : Pr β) (n : Nat) (a0 a1 : AV) (H : Ab) (k : KO β), Cf Ar p n i [a0, a1] H k = f β p n a0 a1 H k
abbrev Bd3 (i : E6) (f : (β : Type) → Pr β → Nat → AV → AV → AV → Ab → KO β → Option β) : Prop := ∀ {β : Type} (p : Pr β) (n : Nat) (a0 a1 a2 : AV) (H : Ab) (k : KO β), Cf Ar p n i [a0, a1, a2] H k = f β p n a0 a1 a2 H k
noncomputable def f7 (n : Nat) (a0 : AV) (H : Ab) (k : KO β) : Option β :=
 p.len a0 fun t4 =>
 p.bin .gtr t4 (si 1048576) fun t5 =>
 k t5 H
theorem AfA : Jr fi7 @f7 := fun p n a0 H k => by kernel_rfl
noncomputable def N2 (p : Pr β) (n : Nat)  (k : KO β) : Nat → AV → AV → KO β
 | 0, _, _, _, _ => none
 | m + 1, t0, t3, t4, H => p.len t0 fun t10 =>
   p.bin .lss t4 t10 fun t11 =>
   p.kT t11 H t4 fun t13 H =>
   p.gT t11 H (p.bin .lss t13 (si 4000)) fun t14 H =>
   p.pick t11 t14 bF fun t15 =>
   p.cond t15
   (p.bin .mul t3 (si 137) fun t19 =>
   p.iadr 1 t0 t4 fun t22 =>
   p.load false 1 t22 H fun t23 =>
   p.cvI .i64 t23 fun t24 =>
   p.bin .add t19 t24 fun t25 =>
   p.bin .add t25 (si 11) fun t26 =>
   p.bin .and t26 (si 1073741823) fun t27 =>
   p.bin .add t4 (si 1) fun t17 =>
   N2 p n  k m t0 t27 t17 H)
   (p.fill [.nl, i0, i0] [(0, 1, t0), (2, 1, t3)] fun ct30 =>
   p.box (.agg ct30) H fun t31 H =>
   k t31 H)
noncomputable def f40 (n : Nat) (a0 : AV) (H : Ab) (k : KO β) : Option β :=
 p.len a0 fun t6 =>
 p.bin .add (si 128361) t6 fun t7 =>
 N2 p n  k n a0 t7 i0 H
noncomputable def Ade (p : Pr β) (n : Nat)  (k : KO β) (m : Nat) (tm : Tm) (H : Ab) : Option β :=
 D3 32 (fun tm H k => Ak Ar p [] 32 n (cd c40 [1, 1, 0, 1, 0, 0]) tm H k) (E3 0 (Em (fun tm H => Ak Ar p [] 32 n (cd c40 [1, 1, 1]) tm H (Cz Ar p fi40.results k)) (Cz Ar p fi40.results k))) m tm H
theorem Ab9 (p : Pr β) (n : Nat)  (k : KO β) (m0 : Nat) : ∀ (t : Nat → AV) (H : Ab), Ade p n  k m0 (tf 32 0 t) H = N2 p n  k m0 (t 0) (t 3) (t 4) H := by
 induction m0 with
 | zero => intros; rfl
 | succ m0 ih =>
  intro t H
  refine Eq.trans (B8 (nt := 32) (m := m0) (g := fun t H => N2 p n  k m0 (t 0) (t 3) (t 4) H) ih rfl) ?_
  kernel_rfl
theorem Af3 (p : Pr β) (n : Nat) (a0 : AV) (H : Ab) (k : KO β) : Cf Ar p n fi40 [a0] H k =
 p.len a0 fun t6 =>
 p.bin .add (si 128361) t6 fun t7 =>
 Ade p n  k n (tf 32 0 (ud [(0, a0), (2, (.sc (.pointer none))), (3, t7), (4, i0), (5, a0), (6, t6), (7, t7)] ut)) H := by kernel_rfl
theorem Adf : Jr fi40 @f40 := fun p n a0 H k => by
 rw [Af3]
 simp only [Ab9]
 kernel_rfl
noncomputable def f97 (n : Nat) (a0 : AV) (H : Ab) (k : KO β) : Option β :=
 p.nil a0 fun t6 =>
 p.fadr 2 t6 fun t7 =>
 p.load false 1 t7 H fun t8 =>
 p.bin .mul t8 (si 6364136223846793005) fun t9 =>
 p.bin .add t9 (si 1442695040888963407) fun t10 =>
 p.nil a0 fun t11 =>
 p.fadr 2 t11 fun t12 =>
 p.store 1 t12 t10 H fun H =>
 p.nil a0 fun t14 =>
 p.fadr 2 t14 fun t15 =>
 p.load false 1 t15 H fun t16 =>
 p.bin .shr t16 (.sc (.int .u64 33)) fun t17 =>
 p.nil a0 fun t19 =>
 p.fadr 2 t19 fun t20 =>
 p.load false 1 t20 H fun t21 =>
 p.bin .shr t21 (.sc (.int .u64 47)) fun t22 =>
 p.bin .xor t17 t22 fun t23 =>
 p.bin .and t23 (si 255) fun t24 =>
 p.nil a0 fun t26 =>
 p.fadr 1 t26 fun t27 =>
 p.load false 1 t27 H fun t28 =>
 p.nil a0 fun t30 =>
 p.fadr 0 t30 fun t31 =>
 p.load false 1 t31 H fun t32 =>
 p.len t32 fun t33 =>
 p.bin .lss t28 t33 fun t34 =>
 Le (fun (t3 : AV) (H : Ab) => k t3 H) fun j1 =>
 p.cond t34
 (p.nil a0 fun t37 =>
 p.fadr 0 t37 fun t38 =>
 p.load false 1 t38 H fun t39 =>
 p.nil a0 fun t41 =>
 p.fadr 1 t41 fun t42 =>
 p.load false 1 t42 H fun t43 =>
 p.iadr 1 t39 t43 fun t44 =>
 p.load false 1 t44 H fun t45 =>
 p.cvI .i64 t45 fun t46 =>
 p.bin .add t24 t46 fun t47 =>
 p.bin .and t47 (si 255) fun t48 =>
 p.nil a0 fun t51 =>
 p.fadr 1 t51 fun t52 =>
 p.load false 1 t52 H fun t53 =>
 p.bin .add t53 (si 1) fun t54 =>
 p.nil a0 fun t55 =>
 p.fadr 1 t55 fun t56 =>
 p.store 1 t56 t54 H fun H =>
 j1 t48 H)
 (j1 t24 H)
theorem AdX : Jr Ajx @f97 := fun p n a0 H k => by kernel_rfl
noncomputable def f59 (n : Nat) (a0 a1 : AV) (H : Ab) (k : KO β) : Option β :=
 p.bin .leq a1 i0 fun t9 =>
 p.cond t9
 (k i0 H)
 (p.bin .leq a1 (si 256) fun t11 =>
 p.cond t11
 (p.call 3 (.fn 97 [] []) [a0] H fun t13 H =>
 p.bin .rem t13 a1 fun t15 =>
 k t15 H)
 (p.call 3 (.fn 97 [] []) [a0] H fun t17 H =>
 p.call 3 (.fn 97 [] []) [a0] H fun t19 H =>
 p.call 3 (.fn 97 [] []) [a0] H fun t21 H =>
 p.bin .mul t17 (si 65536) fun t23 =>
 p.bin .mul t19 (si 256) fun t25 =>
 p.bin .add t23 t25 fun t26 =>
 p.bin .add t26 t21 fun t28 =>
 p.bin .rem t28 a1 fun t30 =>
 k t30 H))
theorem Ad2 : Pi Ajk @f59 := fun p n a0 a1 H k => by kernel_rfl
noncomputable def f61 (n : Nat) (a0 a1 : AV) (H : Ab) (k : KO β) : Option β :=
 p.len a1 fun t8 =>
 p.call 3 (.fn 59 [] []) [a0, t8] H fun t9 H =>
 p.iadr 1 a1 t9 fun t10 =>
 p.load false 1 t10 H fun t11 =>
 k t11 H
theorem Ad4 : Pi Ajm @f61 := fun p n a0 a1 H k => by kernel_rfl
noncomputable def f107 (n : Nat) (a0 a1 : AV) (H : Ab) (k : KO β) : Option β :=
 p.len a1 fun t8 =>
 p.call 3 (.fn 59 [] []) [a0, t8] H fun t9 H =>
 p.iadr 1 a1 t9 fun t10 =>
 p.load false 1 t10 H fun t11 =>
 k t11 H
theorem Abo : Pi AgE @f107 := fun p n a0 a1 H k => by kernel_rfl
noncomputable def f123 (n : Nat) (a0 : AV) (H : Ab) (k : KO β) : Option β :=
 p.fill [sE, sE, sE, sE, sE, sE, sE, sE, sE, sE, sE, sE, sE] [(0, 1, (.sc (.string ⟨#[97]⟩))), (1, 1, (.sc (.string ⟨#[98]⟩))), (2, 1, (.sc (.string ⟨#[97, 47, 98]⟩))), (3, 1, (.sc (.string ⟨#[97, 47, 99]⟩))), (4, 1, (.sc (.string ⟨#[97, 47, 98, 47, 99]⟩))), (5, 1, (.sc (.string ⟨#[97, 47, 98, 47, 99, 47, 100]⟩))), (6, 1, (.sc (.string ⟨#[36, 115]⟩))), (7, 1, (.sc (.string ⟨#[36, 115, 47, 97]⟩))), (8, 1, (.sc (.string ⟨#[47]⟩))), (9, 1, (.sc (.string ⟨#[97, 47]⟩))), (10, 1, (.sc (.string ⟨#[47, 97]⟩))), (11, 1, (.sc (.string ⟨#[98, 47, 98]⟩))), (12, 1, (.sc (.string ⟨#[195, 169, 47, 97]⟩)))] fun ct4 => p.newSl 13 1 ct4 true H fun t4 H =>
 p.call 9 (.fn 107 [] []) [a0, t4] H fun t5 H =>
 k t5 H
theorem Ab0 : Jr AgG @f123 := fun p n a0 H k => by kernel_rfl
noncomputable def Lt (p : Pr β) (n : Nat)  (k : KO β) : Nat → AV → AV → AV → KO β
 | 0, _, _, _, _, _ => none
 | m + 1, t0, t1, t5, t6, H => p.bin .lss t6 t1 fun t10 =>
   p.cond t10
   (p.call 3 (.fn 97 [] []) [t0] H fun t15 H =>
   p.cvI .u8 t15 fun t16 =>
   p.fill [(su 0)] [(0, 1, t16)] fun ct17 => p.newSl 1 1 ct17 true H fun t17 H =>
   p.app 1 1 t5 t17 H fun t18 H =>
   p.bin .add t6 (si 1) fun t12 =>
   Lt p n  k m t0 t1 t18 t12 H)
   (k t5 H)
noncomputable def f105 (n : Nat) (a0 a1 : AV) (H : Ab) (k : KO β) : Option β :=
 Lt p n  k n a0 a1 .nl i0 H
noncomputable def Aao (p : Pr β) (n : Nat)  (k : KO β) (m : Nat) (tm : Tm) (H : Ab) : Option β :=
 D3 20 (fun tm H k => Ak Ar p [] 20 n (cd Ahc [1, 1, 0, 1, 0, 0]) tm H k) (E3 0 (Em (fun tm H => Ak Ar p [] 20 n (cd Ahc [1, 1, 1]) tm H (Cz Ar p fi105.results k)) (Cz Ar p fi105.results k))) m tm H
theorem Y0 (p : Pr β) (n : Nat)  (k : KO β) (m0 : Nat) : ∀ (t : Nat → AV) (H : Ab), Aao p n  k m0 (tf 20 0 t) H = Lt p n  k m0 (t 0) (t 1) (t 5) (t 6) H := by
 induction m0 with
 | zero => intros; rfl
 | succ m0 ih =>
  intro t H
  refine Eq.trans (B8 (nt := 20) (m := m0) (g := fun t H => Lt p n  k m0 (t 0) (t 1) (t 5) (t 6) H) ih rfl) ?_
  kernel_rfl
theorem AcC (p : Pr β) (n : Nat) (a0 a1 : AV) (H : Ab) (k : KO β) : Cf Ar p n fi105 [a0, a1] H k =
 Aao p n  k n (tf 20 0 (ud [(0, a0), (1, a1), (4, .nl), (5, .nl), (6, i0), (7, .nl)] ut)) H := by kernel_rfl
theorem Abn : Pi fi105 @f105 := fun p n a0 a1 H k => by
 rw [AcC]
 simp only [Y0]
 kernel_rfl
noncomputable def f60 (n : Nat) (a0 a1 : AV) (H : Ab) (k : KO β) : Option β :=
 p.call 3 (.fn 59 [] []) [a0, a1] H fun t7 H =>
 p.bin .eql t7 i0 fun t8 =>
 k t8 H
theorem Ad3 : Pi Ajl @f60 := fun p n a0 a1 H k => by kernel_rfl
noncomputable def f103 (n : Nat) (a0 : AV) (H : Ab) (k : KO β) : Option β :=
 p.new [sE, .nl, i0, bF] H fun t2 H =>
 p.call 9 (.fn 123 [] []) [a0] H fun t4 H =>
 p.call 3 (.fn 59 [] []) [a0, (si 3)] H fun t7 H =>
 p.call 22 (.fn 105 [] []) [a0, t7] H fun t8 H =>
 p.call 3 (.fn 59 [] []) [a0, (si 3)] H fun t10 H =>
 p.call 4 (.fn 60 [] []) [a0, (si 4)] H fun t12 H =>
 p.fill [sE, .nl, i0, bF] [(0, 1, t4), (1, 1, t8), (2, 1, t10), (3, 1, t12)] fun ct13 =>
 p.store 4 t2 (.agg ct13) H fun H =>
 p.load true 4 t2 H fun r0 =>
 k r0 H
theorem Abl : Jr AgC @f103 := fun p n a0 H k => by kernel_rfl
noncomputable def Lu (p : Pr β) (n : Nat)  (k : KO β) : Nat → AV → AV → KO β
 | 0, _, _, _, _ => none
 | m + 1, t0, t5, t6, H => p.bin .gtr t6 i0 fun t13 =>
   p.cond t13
   (p.call 33 (.fn 103 [] []) [t0] H fun t18 H =>
   p.fill [sE, .nl, i0, bF] [(0, 4, t18)] fun ct19 => p.newSl 1 4 ct19 true H fun t19 H =>
   p.app 4 56 t5 t19 H fun t20 H =>
   p.bin .sub t6 (si 1) fun t15 =>
   Lu p n  k m t0 t20 t15 H)
   (k t5 H)
noncomputable def f112 (n : Nat) (a0 a1 : AV) (H : Ab) (k : KO β) : Option β :=
 p.bin .add a1 (si 1) fun t10 =>
 p.call 3 (.fn 59 [] []) [a0, t10] H fun t11 H =>
 Lu p n  k n a0 .nl t11 H
noncomputable def Aaq (p : Pr β) (n : Nat)  (k : KO β) (m : Nat) (tm : Tm) (H : Ab) : Option β :=
 D3 22 (fun tm H k => Ak Ar p [] 22 n (cd Ahe [1, 1, 0, 1, 0, 0]) tm H k) (E3 0 (Em (fun tm H => Ak Ar p [] 22 n (cd Ahe [1, 1, 1]) tm H (Cz Ar p fi112.results k)) (Cz Ar p fi112.results k))) m tm H
theorem Y2 (p : Pr β) (n : Nat)  (k : KO β) (m0 : Nat) : ∀ (t : Nat → AV) (H : Ab), Aaq p n  k m0 (tf 22 0 t) H = Lu p n  k m0 (t 0) (t 5) (t 6) H := by
 induction m0 with
 | zero => intros; rfl
 | succ m0 ih =>
  intro t H
  refine Eq.trans (B8 (nt := 22) (m := m0) (g := fun t H => Lu p n  k m0 (t 0) (t 5) (t 6) H) ih rfl) ?_
  kernel_rfl
theorem AcG (p : Pr β) (n : Nat) (a0 a1 : AV) (H : Ab) (k : KO β) : Cf Ar p n fi112 [a0, a1] H k =
 p.bin .add a1 (si 1) fun t10 =>
 p.call 3 (.fn 59 [] []) [a0, t10] H fun t11 H =>
 Aaq p n  k n (tf 22 0 (ud [(0, a0), (1, a1), (4, .nl), (5, .nl), (6, t11), (7, .nl), (8, a0), (9, a1), (10, t10), (11, t11)] ut)) H := by kernel_rfl
theorem Abr : Pi fi112 @f112 := fun p n a0 a1 H k => by
 rw [AcG]
 simp only [Y2]
 kernel_rfl
noncomputable def f101 (n : Nat) (a0 : AV) (H : Ab) (k : KO β) : Option β :=
 p.box a0 H fun t1 H =>
 p.new [sE, .nl, i0, bF] H fun t2 H =>
 p.fadr 0 t1 fun t3 =>
 p.load false 1 t3 H fun t4 =>
 p.fadr 1 t1 fun t6 =>
 p.load false 1 t6 H fun t7 =>
 p.fadr 2 t1 fun t9 =>
 p.load false 1 t9 H fun t10 =>
 p.fadr 3 t1 fun t11 =>
 p.load false 1 t11 H fun t12 =>
 p.app 1 1 .nl t7 H fun t8 H =>
 p.fill [sE, .nl, i0, bF] [(0, 1, t4), (1, 1, t8), (2, 1, t10), (3, 1, t12)] fun ct13 =>
 p.store 4 t2 (.agg ct13) H fun H =>
 p.load true 4 t2 H fun r0 =>
 k r0 H
theorem Abj : Jr AgB @f101 := fun p n a0 H k => by kernel_rfl
noncomputable def Ls (p : Pr β) (n : Nat)  (k : KO β) : Nat → AV → AV → KO β
 | 0, _, _, _, _ => none
 | m + 1, t0, t3, t4, H => p.len t0 fun t8 =>
   p.bin .lss t4 t8 fun t9 =>
   p.cond t9
   (p.iadr 4 t0 t4 fun t15 =>
   p.load true 4 t15 H fun t16 =>
   p.call 33 (.fn 101 [] []) [t16] H fun t17 H =>
   p.fill [sE, .nl, i0, bF] [(0, 4, t17)] fun ct18 => p.newSl 1 4 ct18 true H fun t18 H =>
   p.app 4 56 t3 t18 H fun t19 H =>
   p.bin .add t4 (si 1) fun t11 =>
   Ls p n  k m t0 t19 t11 H)
   (k t3 H)
noncomputable def f100 (n : Nat) (a0 : AV) (H : Ab) (k : KO β) : Option β :=
 Ls p n  k n a0 .nl i0 H
noncomputable def Aan (p : Pr β) (n : Nat)  (k : KO β) (m : Nat) (tm : Tm) (H : Ab) : Option β :=
 D3 21 (fun tm H k => Ak Ar p [] 21 n (cd Ahb [1, 1, 0, 1, 0, 0]) tm H k) (E3 0 (Em (fun tm H => Ak Ar p [] 21 n (cd Ahb [1, 1, 1]) tm H (Cz Ar p fi100.results k)) (Cz Ar p fi100.results k))) m tm H
theorem Yw (p : Pr β) (n : Nat)  (k : KO β) (m0 : Nat) : ∀ (t : Nat → AV) (H : Ab), Aan p n  k m0 (tf 21 0 t) H = Ls p n  k m0 (t 0) (t 3) (t 4) H := by
 induction m0 with
 | zero => intros; rfl
 | succ m0 ih =>
  intro t H
  refine Eq.trans (B8 (nt := 21) (m := m0) (g := fun t H => Ls p n  k m0 (t 0) (t 3) (t 4) H) ih rfl) ?_
  kernel_rfl
theorem AcA (p : Pr β) (n : Nat) (a0 : AV) (H : Ab) (k : KO β) : Cf Ar p n fi100 [a0] H k =
 Aan p n  k n (tf 21 0 (ud [(0, a0), (2, .nl), (3, .nl), (4, i0), (5, .nl)] ut)) H := by kernel_rfl
theorem Abi : Jr fi100 @f100 := fun p n a0 H k => by
 rw [AcA]
 simp only [Yw]
 kernel_rfl
noncomputable def Pu (p : Pr β) (n : Nat)  (k : KO β) : Nat → AV → AV → AV → KO β
 | 0, _, _, _, _, _ => none
 | m + 1, t1, t2, t3, t4, H => p.fadr 1 t1 fun t12 =>
   p.load false 1 t12 H fun t13 =>
   p.len t13 fun t14 =>
   p.bin .lss t4 t14 fun t15 =>
   p.cond t15
   (p.fadr 1 t3 fun t18 =>
   p.load false 1 t18 H fun t19 =>
   p.fadr 1 t1 fun t20 =>
   p.load false 1 t20 H fun t21 =>
   p.iadr 6 t21 t4 fun t23 =>
   p.fadr 0 t23 fun t24 =>
   p.load false 1 t24 H fun t25 =>
   p.fadr 1 t1 fun t26 =>
   p.load false 1 t26 H fun t27 =>
   p.iadr 6 t27 t4 fun t29 =>
   p.fadr 1 t29 fun t30 =>
   p.load true 4 t30 H fun t31 =>
   p.fadr 1 t1 fun t33 =>
   p.load false 1 t33 H fun t34 =>
   p.iadr 6 t34 t4 fun t36 =>
   p.fadr 5 t36 fun t37 =>
   p.load false 1 t37 H fun t38 =>
   p.call 33 (.fn 101 [] []) [t31] H fun t32 H =>
   p.fill [i0, sE, .nl, i0, bF, i0] [(0, 1, t25), (1, 4, t32), (5, 1, t38)] fun ct39 =>
   p.fill [i0, sE, .nl, i0, bF, i0] [(0, 6, (.agg ct39))] fun ct40 => p.newSl 1 6 ct40 true H fun t40 H =>
   p.app 6 72 t19 t40 H fun t41 H =>
   p.fadr 1 t3 fun t42 =>
   p.store 1 t42 t41 H fun H =>
   p.bin .add t4 (si 1) fun t17 =>
   Pu p n  k m t1 t2 t3 t17 H)
   (p.load true 3 t3 H fun t43 =>
   p.store 3 t2 t43 H fun H =>
   p.load true 3 t2 H fun r0 =>
   k r0 H)
noncomputable def f64 (n : Nat) (a0 : AV) (H : Ab) (k : KO β) : Option β :=
 p.box a0 H fun t1 H =>
 p.new [i0, .nl, .nl] H fun t2 H =>
 p.fadr 0 t1 fun t5 =>
 p.load false 1 t5 H fun t6 =>
 p.fadr 2 t1 fun t7 =>
 p.load false 1 t7 H fun t8 =>
 p.both
 (p.call 25 (.fn 100 [] []) [t8] H fun t9 H =>
 p.fill [i0, .nl, .nl] [(0, 1, t6), (2, 1, t9)] fun ct10 =>
 p.new [i0, .nl, .nl] H fun t3 H =>
 p.store 3 t3 (.agg ct10) H fun H =>
 Pu p n  k n t1 t2 t3 i0 H)
 (p.new [i0, .nl, .nl] H fun t3 H =>
 p.call 25 (.fn 100 [] []) [t8] H fun t9 H =>
 p.fill [i0, .nl, .nl] [(0, 1, t6), (2, 1, t9)] fun ct10 =>
 p.store 3 t3 (.agg ct10) H fun H =>
 Pu p n  k n t1 t2 t3 i0 H)
noncomputable def Zc (p : Pr β) (n : Nat)  (k : KO β) (m : Nat) (tm : Tm) (H : Ab) : Option β :=
 D3 44 (fun tm H k => Ak Ar p o64 44 n (cd c64 [1, 1, 0, 1, 0, 0]) tm H k) (E3 0 (Em (fun tm H => Ak Ar p o64 44 n (cd c64 [1, 1, 1]) tm H (Cz Ar p fi64.results k)) (Cz Ar p fi64.results k))) m tm H
theorem AbC (p : Pr β) (n : Nat)  (k : KO β) (m0 : Nat) : ∀ (t : Nat → AV) (H : Ab), Zc p n  k m0 (tf 44 0 t) H = Pu p n  k m0 (t 1) (t 2) (t 3) (t 4) H := by
 induction m0 with
 | zero => intros; rfl
 | succ m0 ih =>
  intro t H
  refine Eq.trans (B8 (nt := 44) (m := m0) (g := fun t H => Pu p n  k m0 (t 1) (t 2) (t 3) (t 4) H) ih rfl) ?_
  kernel_rfl
theorem Af6 (p : Pr β) (n : Nat) (a0 : AV) (H : Ab) (k : KO β) : Cf Ar p n fi64 [a0] H k =
 p.box a0 H fun t1 H =>
 p.new [i0, .nl, .nl] H fun t2 H =>
 p.fadr 0 t1 fun t5 =>
 p.load false 1 t5 H fun t6 =>
 p.fadr 2 t1 fun t7 =>
 p.load false 1 t7 H fun t8 =>
 p.both
 (p.call 25 (.fn 100 [] []) [t8] H fun t9 H =>
 p.fill [i0, .nl, .nl] [(0, 1, t6), (2, 1, t9)] fun ct10 =>
 p.new [i0, .nl, .nl] H fun t3 H =>
 p.store 3 t3 (.agg ct10) H fun H =>
 Zc p n  k n (tf 44 0 (ud [(0, a0), (1, t1), (2, t2), (3, t3), (4, i0), (5, t5), (6, t6), (7, t7), (8, t8), (9, t9), (10, (.agg ct10))] ut)) H)
 (p.new [i0, .nl, .nl] H fun t3 H =>
 p.call 25 (.fn 100 [] []) [t8] H fun t9 H =>
 p.fill [i0, .nl, .nl] [(0, 1, t6), (2, 1, t9)] fun ct10 =>
 p.store 3 t3 (.agg ct10) H fun H =>
 Zc p n  k n (tf 44 0 (ud [(0, a0), (1, t1), (2, t2), (3, t3), (4, i0), (5, t5), (6, t6), (7, t7), (8, t8), (9, t9), (10, (.agg ct10))] ut)) H) := by kernel_rfl
theorem Ad6 : Jr fi64 @f64 := fun p n a0 H k => by
 rw [Af6]
 simp only [AbC]
 kernel_rfl
noncomputable def f50 (n : Nat) (a0 a1 a2 : AV) (H : Ab) (k : KO β) : Option β :=
 p.bin .geq a0 a1 fun t9 =>
 p.kT t9 H a0 fun t11 H =>
 p.kT t9 H a2 fun t12 H =>
 p.gT t9 H (p.bin .leq t11 t12) fun t13 H =>
 p.pick t9 t13 bF fun t14 =>
 k t14 H
theorem Adq : Bd3 Aje @f50 := fun p n a0 a1 a2 H k => by kernel_rfl
noncomputable def Ii (p : Pr β) (n : Nat)  (k : KO β) : Nat → AV → AV → AV → AV → AV → KO β
 | 0, _, _, _, _, _, _, _ => none
 | m + 1, t0, t1, t8, t9, t10, t11, H => p.bin .leq t11 t8 fun t67 =>
   p.cond t67
   (p.bin .add t1 t11 fun t73 =>
   p.iadr 1 t0 t73 fun t74 =>
   p.load false 1 t74 H fun t75 =>
   p.cvI .i64 t75 fun t76 =>
   p.bin .lss t76 (si 128) fun t78 =>
   p.kF t78 H t76 fun t80 H =>
   p.gF t78 H (p.bin .gtr t80 (si 191)) fun t81 H =>
   p.pick t78 bT t81 fun t82 =>
   p.cond t82
   (k (Cu [i0, i0, bF]) H)
   (p.bin .mul t10 (si 64) fun t84 =>
   p.bin .add t84 t76 fun t86 =>
   p.bin .sub t86 (si 128) fun t87 =>
   p.bin .add t11 (si 1) fun t69 =>
   Ii p n  k m t0 t1 t8 t9 t87 t69 H))
   (p.bin .lss t10 t9 fun t90 =>
   p.kF t90 H t10 fun t92 H =>
   p.gF t90 H (p.bin .gtr t92 (si 1114111)) fun t93 H =>
   p.pick t90 bT t93 fun t94 =>
   p.kF t94 H t10 fun t96 H =>
   p.hF t94 H (p.call 4 (.fn 50 [] []) [t96, (si 55296), (si 57343)] H) fun t97 H =>
   p.pick t94 bT t97 fun t98 =>
   p.cond t98
   (k (Cu [i0, i0, bF]) H)
   (p.bin .add t1 (si 1) fun t101 =>
   p.bin .add t101 t8 fun t103 =>
   k (Cu [t10, t103, bT]) H))
noncomputable def f128 (n : Nat) (a0 a1 : AV) (H : Ab) (k : KO β) : Option β :=
 p.bin .lss a1 i0 fun t14 =>
 p.kF t14 H a1 fun t16 H =>
 p.kF t14 H a0 fun t17 H =>
 p.gF t14 H (p.len t17) fun t18 H =>
 p.gF t14 H (p.bin .geq t16 t18) fun t19 H =>
 p.pick t14 bT t19 fun t20 =>
 p.cond t20
 (k (Cu [i0, i0, bF]) H)
 (p.iadr 1 a0 a1 fun t23 =>
 p.load false 1 t23 H fun t24 =>
 p.cvI .i64 t24 fun t25 =>
 p.bin .lss t25 (si 128) fun t27 =>
 p.cond t27
 (p.bin .add a1 (si 1) fun t30 =>
 k (Cu [t25, t30, bT]) H)
 (p.bin .geq t25 (si 192) fun t33 =>
 p.kT t33 H t25 fun t35 H =>
 p.gT t33 H (p.bin .lss t35 (si 224)) fun t36 H =>
 p.pick t33 t36 bF fun t37 =>
 p.cond t37
 (p.bin .and t25 (si 31) fun t39 =>
 p.len a0 fun t60 =>
 p.bin .sub t60 (si 1) fun t61 =>
 p.bin .sub t61 (si 1) fun t63 =>
 p.bin .gtr a1 t63 fun t64 =>
 p.cond t64
 (k (Cu [i0, i0, bF]) H)
 (Ii p n  k n a0 a1 (si 1) (si 128) t39 (si 1) H))
 (p.bin .geq t25 (si 224) fun t42 =>
 p.kT t42 H t25 fun t44 H =>
 p.gT t42 H (p.bin .lss t44 (si 240)) fun t45 H =>
 p.pick t42 t45 bF fun t46 =>
 p.cond t46
 (p.bin .and t25 (si 15) fun t48 =>
 p.len a0 fun t60 =>
 p.bin .sub t60 (si 1) fun t61 =>
 p.bin .sub t61 (si 2) fun t63 =>
 p.bin .gtr a1 t63 fun t64 =>
 p.cond t64
 (k (Cu [i0, i0, bF]) H)
 (Ii p n  k n a0 a1 (si 2) (si 2048) t48 (si 1) H))
 (p.bin .geq t25 (si 240) fun t51 =>
 p.kT t51 H t25 fun t53 H =>
 p.gT t51 H (p.bin .lss t53 (si 248)) fun t54 H =>
 p.pick t51 t54 bF fun t55 =>
 p.cond t55
 (p.bin .and t25 (si 7) fun t57 =>
 p.len a0 fun t60 =>
 p.bin .sub t60 (si 1) fun t61 =>
 p.bin .sub t61 (si 3) fun t63 =>
 p.bin .gtr a1 t63 fun t64 =>
 p.cond t64
 (k (Cu [i0, i0, bF]) H)
 (Ii p n  k n a0 a1 (si 3) (si 65536) t57 (si 1) H))
 (k (Cu [i0, i0, bF]) H)))))
noncomputable def Q4 (p : Pr β) (n : Nat)  (k : KO β) (m : Nat) (tm : Tm) (H : Ab) : Option β :=
 D3 104 (fun tm H k => Ak Ar p [] 104 n (cd Ahi [1, 1, 1, 1, 1, 1, 1, 1, 1, 0, 1, 0, 0]) tm H k) (E3 1 (Em (fun tm H => Ak Ar p [] 104 n (cd Ahi [1, 1, 1, 1, 1, 1, 1, 1, 1, 1]) tm H (Cz Ar p fi128.results k)) (Cz Ar p fi128.results k))) m tm H
theorem Y7 (p : Pr β) (n : Nat)  (k : KO β) (m0 : Nat) : ∀ (t : Nat → AV) (H : Ab), Q4 p n  k m0 (tf 104 0 t) H = Ii p n  k m0 (t 0) (t 1) (t 8) (t 9) (t 10) (t 11) H := by
 induction m0 with
 | zero => intros; rfl
 | succ m0 ih =>
  intro t H
  refine Eq.trans (B8 (nt := 104) (m := m0) (g := fun t H => Ii p n  k m0 (t 0) (t 1) (t 8) (t 9) (t 10) (t 11) H) ih rfl) ?_
  kernel_rfl
theorem AcO (p : Pr β) (n : Nat) (a0 a1 : AV) (H : Ab) (k : KO β) : Cf Ar p n fi128 [a0, a1] H k =
 p.bin .lss a1 i0 fun t14 =>
 p.kF t14 H a1 fun t16 H =>
 p.kF t14 H a0 fun t17 H =>
 p.gF t14 H (p.len t17) fun t18 H =>
 p.gF t14 H (p.bin .geq t16 t18) fun t19 H =>
 p.pick t14 bT t19 fun t20 =>
 p.cond t20
 (k (Cu [i0, i0, bF]) H)
 (p.iadr 1 a0 a1 fun t23 =>
 p.load false 1 t23 H fun t24 =>
 p.cvI .i64 t24 fun t25 =>
 p.bin .lss t25 (si 128) fun t27 =>
 p.cond t27
 (p.bin .add a1 (si 1) fun t30 =>
 k (Cu [t25, t30, bT]) H)
 (p.bin .geq t25 (si 192) fun t33 =>
 p.kT t33 H t25 fun t35 H =>
 p.gT t33 H (p.bin .lss t35 (si 224)) fun t36 H =>
 p.pick t33 t36 bF fun t37 =>
 p.cond t37
 (p.bin .and t25 (si 31) fun t39 =>
 p.len a0 fun t60 =>
 p.bin .sub t60 (si 1) fun t61 =>
 p.bin .sub t61 (si 1) fun t63 =>
 p.bin .gtr a1 t63 fun t64 =>
 p.cond t64
 (k (Cu [i0, i0, bF]) H)
 (Q4 p n  k n (tf 104 0 (ud [(0, a0), (1, a1), (4, i0), (5, i0), (6, bF), (7, t25), (8, (si 1)), (9, (si 128)), (10, t39), (11, (si 1)), (13, a1), (14, t14), (15, t14), (16, t16), (17, t17), (18, t18), (19, t19), (20, t20), (21, a0), (22, a1), (23, t23), (24, t24), (25, t25), (26, t25), (27, t27), (31, t37), (32, t25), (33, t33), (34, t33), (35, t35), (36, t36), (37, t37), (38, t25), (39, t39), (58, a1), (59, a0), (60, t60), (61, t61), (62, (si 1)), (63, t63), (64, t64)] ut)) H))
 (p.bin .geq t25 (si 224) fun t42 =>
 p.kT t42 H t25 fun t44 H =>
 p.gT t42 H (p.bin .lss t44 (si 240)) fun t45 H =>
 p.pick t42 t45 bF fun t46 =>
 p.cond t46
 (p.bin .and t25 (si 15) fun t48 =>
 p.len a0 fun t60 =>
 p.bin .sub t60 (si 1) fun t61 =>
 p.bin .sub t61 (si 2) fun t63 =>
 p.bin .gtr a1 t63 fun t64 =>
 p.cond t64
 (k (Cu [i0, i0, bF]) H)
 (Q4 p n  k n (tf 104 0 (ud [(0, a0), (1, a1), (4, i0), (5, i0), (6, bF), (7, t25), (8, (si 2)), (9, (si 2048)), (10, t48), (11, (si 1)), (13, a1), (14, t14), (15, t14), (16, t16), (17, t17), (18, t18), (19, t19), (20, t20), (21, a0), (22, a1), (23, t23), (24, t24), (25, t25), (26, t25), (27, t27), (31, t37), (32, t25), (33, t33), (34, t33), (35, t35), (36, t36), (37, t37), (40, t46), (41, t25), (42, t42), (43, t42), (44, t44), (45, t45), (46, t46), (47, t25), (48, t48), (58, a1), (59, a0), (60, t60), (61, t61), (62, (si 2)), (63, t63), (64, t64)] ut)) H))
 (p.bin .geq t25 (si 240) fun t51 =>
 p.kT t51 H t25 fun t53 H =>
 p.gT t51 H (p.bin .lss t53 (si 248)) fun t54 H =>
 p.pick t51 t54 bF fun t55 =>
 p.cond t55
 (p.bin .and t25 (si 7) fun t57 =>
 p.len a0 fun t60 =>
 p.bin .sub t60 (si 1) fun t61 =>
 p.bin .sub t61 (si 3) fun t63 =>
 p.bin .gtr a1 t63 fun t64 =>
 p.cond t64
 (k (Cu [i0, i0, bF]) H)
 (Q4 p n  k n (tf 104 0 (ud [(0, a0), (1, a1), (4, i0), (5, i0), (6, bF), (7, t25), (8, (si 3)), (9, (si 65536)), (10, t57), (11, (si 1)), (13, a1), (14, t14), (15, t14), (16, t16), (17, t17), (18, t18), (19, t19), (20, t20), (21, a0), (22, a1), (23, t23), (24, t24), (25, t25), (26, t25), (27, t27), (31, t37), (32, t25), (33, t33), (34, t33), (35, t35), (36, t36), (37, t37), (40, t46), (41, t25), (42, t42), (43, t42), (44, t44), (45, t45), (46, t46), (49, t55), (50, t25), (51, t51), (52, t51), (53, t53), (54, t54), (55, t55), (56, t25), (57, t57), (58, a1), (59, a0), (60, t60), (61, t61), (62, (si 3)), (63, t63), (64, t64)] ut)) H))
 (k (Cu [i0, i0, bF]) H))))) := by kernel_rfl
theorem Ab2 : Pi fi128 @f128 := fun p n a0 a1 H k => by
 rw [AcO]
 simp only [Y7]
 kernel_rfl
noncomputable def M5 (p : Pr β) (n : Nat)  (k : KO β) : Nat → AV → AV → KO β
 | 0, _, _, _, _ => none
 | m + 1, t3, t4, t5, H => p.len t3 fun t16 =>
   p.bin .lss t5 t16 fun t17 =>
   p.cond t17
   (p.call 129 (.fn 128 [] []) [t3, t5] H fun t21 H =>
   p.extr t21 0 fun t22 =>
   p.extr t21 1 fun t23 =>
   p.extr t21 2 fun t24 =>
   p.un .not t24 fun t26 =>
   p.kF t26 H t22 fun t28 H =>
   p.gF t26 H (p.bin .eql t28 i0) fun t29 H =>
   p.pick t26 bT t29 fun t30 =>
   p.cond t30
   (k (si (-1)) H)
   (p.bin .add t4 (si 1) fun t33 =>
   M5 p n  k m t3 t33 t23 H))
   (k t4 H)
noncomputable def f111 (n : Nat) (a0 : AV) (H : Ab) (k : KO β) : Option β :=
 p.lenS a0 fun t10 =>
 p.bin .gtr t10 (si 60) fun t11 =>
 p.cond t11
 (k (si (-1)) H)
 (p.cvSB a0 H fun t13 H =>
 M5 p n  k n t13 i0 i0 H)
noncomputable def Aap (p : Pr β) (n : Nat)  (k : KO β) (m : Nat) (tm : Tm) (H : Ab) : Option β :=
 D3 35 (fun tm H k => Ak Ar p [] 35 n (cd Ahd [1, 1, 1, 1, 0, 1, 0, 0]) tm H k) (E3 0 (Em (fun tm H => Ak Ar p [] 35 n (cd Ahd [1, 1, 1, 1, 1]) tm H (Cz Ar p fi111.results k)) (Cz Ar p fi111.results k))) m tm H
theorem Y1 (p : Pr β) (n : Nat)  (k : KO β) (m0 : Nat) : ∀ (t : Nat → AV) (H : Ab), Aap p n  k m0 (tf 35 0 t) H = M5 p n  k m0 (t 3) (t 4) (t 5) H := by
 induction m0 with
 | zero => intros; rfl
 | succ m0 ih =>
  intro t H
  refine Eq.trans (B8 (nt := 35) (m := m0) (g := fun t H => M5 p n  k m0 (t 3) (t 4) (t 5) H) ih rfl) ?_
  kernel_rfl
theorem AcF (p : Pr β) (n : Nat) (a0 : AV) (H : Ab) (k : KO β) : Cf Ar p n fi111 [a0] H k =
 p.lenS a0 fun t10 =>
 p.bin .gtr t10 (si 60) fun t11 =>
 p.cond t11
 (k (si (-1)) H)
 (p.cvSB a0 H fun t13 H =>
 Aap p n  k n (tf 35 0 (ud [(0, a0), (2, i0), (3, t13), (4, i0), (5, i0), (9, a0), (10, t10), (11, t11), (12, a0), (13, t13)] ut)) H) := by kernel_rfl
theorem Abq : Jr fi111 @f111 := fun p n a0 H k => by
 rw [AcF]
 simp only [Y1]
 kernel_rfl
noncomputable def f82 (n : Nat) (a0 : AV) (H : Ab) (k : KO β) : Option β :=
 p.call 3 (.fn 111 [] []) [a0] H fun t4 H =>
 p.bin .geq t4 i0 fun t5 =>
 k t5 H
theorem AdI : Jr Ajs @f82 := fun p n a0 H k => by kernel_rfl
noncomputable def Lw (p : Pr β) (n : Nat)  (k : KO β) : Nat → AV → AV → KO β
 | 0, _, _, _, _ => none
 | m + 1, t0, t1, t5, H => p.lenS t0 fun t8 =>
   p.bin .lss t5 t8 fun t9 =>
   p.cond t9
   (p.idx t0 t5 fun t14 =>
   p.bin .eql t14 t1 fun t16 =>
   p.cond t16
   (k bT H)
   (p.bin .add t5 (si 1) fun t11 =>
   Lw p n  k m t0 t1 t11 H))
   (k bF H)
noncomputable def f114 (n : Nat) (a0 a1 : AV) (H : Ab) (k : KO β) : Option β :=
 Lw p n  k n a0 a1 i0 H
noncomputable def Aas (p : Pr β) (n : Nat)  (k : KO β) (m : Nat) (tm : Tm) (H : Ab) : Option β :=
 D3 17 (fun tm H k => Ak Ar p [] 17 n (cd Ahg [1, 0, 1, 0, 0]) tm H k) (E3 0 (Em (fun tm H => Ak Ar p [] 17 n (cd Ahg [1, 1]) tm H (Cz Ar p fi114.results k)) (Cz Ar p fi114.results k))) m tm H
theorem Y4 (p : Pr β) (n : Nat)  (k : KO β) (m0 : Nat) : ∀ (t : Nat → AV) (H : Ab), Aas p n  k m0 (tf 17 0 t) H = Lw p n  k m0 (t 0) (t 1) (t 5) H := by
 induction m0 with
 | zero => intros; rfl
 | succ m0 ih =>
  intro t H
  refine Eq.trans (B8 (nt := 17) (m := m0) (g := fun t H => Lw p n  k m0 (t 0) (t 1) (t 5) H) ih rfl) ?_
  kernel_rfl
theorem AcI (p : Pr β) (n : Nat) (a0 a1 : AV) (H : Ab) (k : KO β) : Cf Ar p n fi114 [a0, a1] H k =
 Aas p n  k n (tf 17 0 (ud [(0, a0), (1, a1), (4, bF), (5, i0)] ut)) H := by kernel_rfl
theorem Abu : Pi fi114 @f114 := fun p n a0 a1 H k => by
 rw [AcI]
 simp only [Y4]
 kernel_rfl
noncomputable def Jj (p : Pr β) (n : Nat)  (k : KO β) : Nat → AV → AV → AV → KO β
 | 0, _, _, _, _, _ => none
 | m + 1, t0, t3, t4, t5, H => p.lenS t0 fun t9 =>
   p.bin .leq t5 t9 fun t10 =>
   p.cond t10
   (p.lenS t0 fun t15 =>
   p.bin .eql t5 t15 fun t16 =>
   p.kF t16 H t0 fun t18 H =>
   p.kF t16 H t5 fun t19 H =>
   p.gF t16 H (p.idx t18 t19) fun t20 H =>
   p.gF t16 H (p.bin .eql t20 (su 47)) fun t21 H =>
   p.pick t16 bT t21 fun t22 =>
   p.cond t22
   (p.sliceS t0 (some t4) (some t5) fun t27 =>
   p.fill [sE] [(0, 1, t27)] fun ct28 => p.newSl 1 1 ct28 true H fun t28 H =>
   p.app 1 16 t3 t28 H fun t29 H =>
   p.bin .add t5 (si 1) fun t31 =>
   p.bin .add t5 (si 1) fun t12 =>
   Jj p n  k m t0 t29 t31 t12 H)
   (p.bin .add t5 (si 1) fun t12 =>
   Jj p n  k m t0 t3 t4 t12 H))
   (k t3 H)
noncomputable def f115 (n : Nat) (a0 : AV) (H : Ab) (k : KO β) : Option β :=
 Jj p n  k n a0 .nl i0 i0 H
noncomputable def Aat (p : Pr β) (n : Nat)  (k : KO β) (m : Nat) (tm : Tm) (H : Ab) : Option β :=
 D3 33 (fun tm H k => Ak Ar p [] 33 n (cd Ahh [1, 1, 1, 0, 1, 0, 0]) tm H k) (E3 0 (Em (fun tm H => Ak Ar p [] 33 n (cd Ahh [1, 1, 1, 1]) tm H (Cz Ar p fi115.results k)) (Cz Ar p fi115.results k))) m tm H
theorem Y5 (p : Pr β) (n : Nat)  (k : KO β) (m0 : Nat) : ∀ (t : Nat → AV) (H : Ab), Aat p n  k m0 (tf 33 0 t) H = Jj p n  k m0 (t 0) (t 3) (t 4) (t 5) H := by
 induction m0 with
 | zero => intros; rfl
 | succ m0 ih =>
  intro t H
  refine Eq.trans (B8 (nt := 33) (m := m0) (g := fun t H => Jj p n  k m0 (t 0) (t 3) (t 4) (t 5) H) ih rfl) ?_
  kernel_rfl
theorem AcJ (p : Pr β) (n : Nat) (a0 : AV) (H : Ab) (k : KO β) : Cf Ar p n fi115 [a0] H k =
 Aat p n  k n (tf 33 0 (ud [(0, a0), (2, .nl), (3, .nl), (4, i0), (5, i0), (6, .nl)] ut)) H := by kernel_rfl
theorem Abv : Jr fi115 @f115 := fun p n a0 H k => by
 rw [AcJ]
 simp only [Y5]
 kernel_rfl
noncomputable def f92 (n : Nat) (a0 : AV) (H : Ab) (k : KO β) : Option β :=
 p.call 4 (.fn 82 [] []) [a0] H fun t4 H =>
 p.kT t4 H a0 fun t6 H =>
 p.gT t4 H (p.bin .neq t6 sE) fun t7 H =>
 p.pick t4 t7 bF fun t8 =>
 p.kT t8 H a0 fun t10 H =>
 p.hT t8 H (p.call 4 (.fn 114 [] []) [t10, (su 43)] H) fun t11 H =>
 p.gT t8 H (p.un .not t11) fun t12 H =>
 p.pick t8 t12 bF fun t13 =>
 p.kT t13 H a0 fun t15 H =>
 p.hT t13 H (p.call 4 (.fn 114 [] []) [t15, (su 35)] H) fun t16 H =>
 p.gT t13 H (p.un .not t16) fun t17 H =>
 p.pick t13 t17 bF fun t18 =>
 p.kT t18 H a0 fun t20 H =>
 p.hT t18 H (p.call 38 (.fn 115 [] []) [t20] H) fun t21 H =>
 p.gT t18 H (p.len t21) fun t22 H =>
 p.gT t18 H (p.bin .leq t22 (si 6)) fun t23 H =>
 p.pick t18 t23 bF fun t24 =>
 k t24 H
theorem AdU : Jr Ajv @f92 := fun p n a0 H k => by kernel_rfl
noncomputable def f51 (n : Nat) (a0 : AV) (H : Ab) (k : KO β) : Option β :=
 p.box a0 H fun t1 H =>
 p.fadr 0 t1 fun t3 =>
 p.load false 1 t3 H fun t4 =>
 p.call 4 (.fn 92 [] []) [t4] H fun t5 H =>
 p.gT t5 H (p.fadr 1 t1) fun t7 H =>
 p.gT t5 H (p.load false 1 t7 H) fun t8 H =>
 p.gT t5 H (p.len t8) fun t9 H =>
 p.gT t5 H (p.bin .leq t9 (si 40)) fun t10 H =>
 p.pick t5 t10 bF fun t11 =>
 p.gT t11 H (p.fadr 2 t1) fun t13 H =>
 p.gT t11 H (p.load false 1 t13 H) fun t14 H =>
 p.hT t11 H (p.call 4 (.fn 50 [] []) [t14, i0, (si 2)] H) fun t15 H =>
 p.pick t11 t15 bF fun t16 =>
 k t16 H
theorem Adr : Jr Ajf @f51 := fun p n a0 H k => by kernel_rfl
noncomputable def f52 (n : Nat) (a0 : AV) (H : Ab) (k : KO β) : Option β :=
 p.box a0 H fun t1 H =>
 p.fadr 1 t1 fun t3 =>
 p.fadr 2 t3 fun t4 =>
 p.load false 1 t4 H fun t5 =>
 p.bin .eql t5 (si 1) fun t6 =>
 p.cond t6
 (p.fadr 5 t1 fun t7 =>
 p.load false 1 t7 H fun t8 =>
 p.bin .eql t8 (si 1) fun t9 =>
 k t9 H)
 (p.fadr 1 t1 fun t10 =>
 p.fadr 2 t10 fun t11 =>
 p.load false 1 t11 H fun t12 =>
 p.bin .eql t12 (si 2) fun t13 =>
 p.gT t13 H (p.fadr 5 t1) fun t15 H =>
 p.gT t13 H (p.load false 1 t15 H) fun t16 H =>
 p.gT t13 H (p.bin .eql t16 (si 2)) fun t17 H =>
 p.kT t13 H t17 fun t18 H =>
 p.gF t18 H (p.fadr 5 t1) fun t19 H =>
 p.gF t18 H (p.load false 1 t19 H) fun t20 H =>
 p.gF t18 H (p.bin .eql t20 (si 3)) fun t21 H =>
 p.gT t13 H (p.pick t18 bT t21) fun t22 H =>
 p.pick t13 t22 bF fun t23 =>
 k t23 H)
theorem Ads : Jr Ajg @f52 := fun p n a0 H k => by kernel_rfl
noncomputable def R2 (p : Pr β) (n : Nat)  (k : KO β) : Nat → AV → KO β
 | 0, _, _, _ => none
 | m + 1, t0, t3, H => p.len t0 fun t6 =>
   p.bin .lss t3 t6 fun t7 =>
   p.cond t7
   (p.iadr 4 t0 t3 fun t12 =>
   p.load true 4 t12 H fun t13 =>
   p.call 4 (.fn 51 [] []) [t13] H fun t14 H =>
   p.un .not t14 fun t15 =>
   p.cond t15
   (k bF H)
   (p.bin .add t3 (si 1) fun t9 =>
   R2 p n  k m t0 t9 H))
   (p.len t0 fun t17 =>
   p.bin .leq t17 (si 6) fun t18 =>
   k t18 H)
noncomputable def f53 (n : Nat) (a0 : AV) (H : Ab) (k : KO β) : Option β :=
 R2 p n  k n a0 i0 H
noncomputable def Adt (p : Pr β) (n : Nat)  (k : KO β) (m : Nat) (tm : Tm) (H : Ab) : Option β :=
 D3 19 (fun tm H k => Ak Ar p [] 19 n (cd c53 [1, 0, 1, 0, 0]) tm H k) (E3 0 (Em (fun tm H => Ak Ar p [] 19 n (cd c53 [1, 1]) tm H (Cz Ar p fi53.results k)) (Cz Ar p fi53.results k))) m tm H
theorem AbA (p : Pr β) (n : Nat)  (k : KO β) (m0 : Nat) : ∀ (t : Nat → AV) (H : Ab), Adt p n  k m0 (tf 19 0 t) H = R2 p n  k m0 (t 0) (t 3) H := by
 induction m0 with
 | zero => intros; rfl
 | succ m0 ih =>
  intro t H
  refine Eq.trans (B8 (nt := 19) (m := m0) (g := fun t H => R2 p n  k m0 (t 0) (t 3) H) ih rfl) ?_
  kernel_rfl
theorem Af4 (p : Pr β) (n : Nat) (a0 : AV) (H : Ab) (k : KO β) : Cf Ar p n fi53 [a0] H k =
 Adt p n  k n (tf 19 0 (ud [(0, a0), (2, bF), (3, i0)] ut)) H := by kernel_rfl
theorem Adu : Jr fi53 @f53 := fun p n a0 H k => by
 rw [Af4]
 simp only [AbA]
 kernel_rfl
noncomputable def Rw (p : Pr β) (n : Nat) (g0 : AV → KO β) (k : KO β) : Nat → AV → AV → KO β
 | 0, _, _, _, _ => none
 | m + 1, t1, t3, t4, H => p.bin .lss t4 t3 fun t41 =>
   p.cond t41
   (p.fadr 1 t1 fun t44 =>
   p.load false 1 t44 H fun t45 =>
   p.iadr 6 t45 t4 fun t47 =>
   p.fadr 0 t47 fun t48 =>
   p.load false 1 t48 H fun t49 =>
   p.fadr 1 t1 fun t50 =>
   p.load false 1 t50 H fun t51 =>
   p.iadr 6 t51 t3 fun t53 =>
   p.fadr 0 t53 fun t54 =>
   p.load false 1 t54 H fun t55 =>
   p.bin .eql t49 t55 fun t56 =>
   p.cond t56
   (k bF H)
   (p.bin .add t4 (si 1) fun t43 =>
   Rw p n g0 k m t1 t3 t43 H))
   (p.bin .add t3 (si 1) fun t11 =>
   g0 t1 t11 H)
noncomputable def N1 (p : Pr β) (n : Nat)  (k : KO β) : Nat → AV → KO β
 | 0, _, _, _ => none
 | m + 1, t1, t3, H => p.fadr 1 t1 fun t6 =>
   p.load false 1 t6 H fun t7 =>
   p.len t7 fun t8 =>
   p.bin .lss t3 t8 fun t9 =>
   p.cond t9
   (p.fadr 1 t1 fun t12 =>
   p.load false 1 t12 H fun t13 =>
   p.iadr 6 t13 t3 fun t15 =>
   p.fadr 0 t15 fun t16 =>
   p.load false 1 t16 H fun t17 =>
   p.call 4 (.fn 50 [] []) [t17, (si 1), (si 65535)] H fun t18 H =>
   p.un .not t18 fun t19 =>
   p.gF t19 H (p.fadr 1 t1) fun t21 H =>
   p.gF t19 H (p.load false 1 t21 H) fun t22 H =>
   p.kF t19 H t3 fun t23 H =>
   p.gF t19 H (p.iadr 6 t22 t23) fun t24 H =>
   p.gF t19 H (p.fadr 1 t24) fun t25 H =>
   p.gF t19 H (p.load true 4 t25 H) fun t26 H =>
   p.hF t19 H (p.call 4 (.fn 51 [] []) [t26] H) fun t27 H =>
   p.gF t19 H (p.un .not t27) fun t28 H =>
   p.pick t19 bT t28 fun t29 =>
   p.gF t29 H (p.fadr 1 t1) fun t31 H =>
   p.gF t29 H (p.load false 1 t31 H) fun t32 H =>
   p.kF t29 H t3 fun t33 H =>
   p.gF t29 H (p.iadr 6 t32 t33) fun t34 H =>
   p.gF t29 H (p.load true 6 t34 H) fun t35 H =>
   p.hF t29 H (p.call 4 (.fn 52 [] []) [t35] H) fun t36 H =>
   p.gF t29 H (p.un .not t36) fun t37 H =>
   p.pick t29 bT t37 fun t38 =>
   p.cond t38
   (k bF H)
   (Rw p n (N1 p n  k m) k n t1 t3 i0 H))
   (p.fadr 0 t1 fun t57 =>
   p.load false 1 t57 H fun t58 =>
   p.call 4 (.fn 50 [] []) [t58, i0, (si 65535)] H fun t59 H =>
   p.gT t59 H (p.fadr 1 t1) fun t61 H =>
   p.gT t59 H (p.load false 1 t61 H) fun t62 H =>
   p.gT t59 H (p.len t62) fun t63 H =>
   p.gT t59 H (p.bin .leq t63 (si 3)) fun t64 H =>
   p.pick t59 t64 bF fun t65 =>
   p.gT t65 H (p.fadr 2 t1) fun t67 H =>
   p.gT t65 H (p.load false 1 t67 H) fun t68 H =>
   p.hT t65 H (p.call 4 (.fn 53 [] []) [t68] H) fun t69 H =>
   p.pick t65 t69 bF fun t70 =>
   k t70 H)
noncomputable def f11 (n : Nat) (a0 : AV) (H : Ab) (k : KO β) : Option β :=
 p.box a0 H fun t1 H =>
 N1 p n  k n t1 i0 H
noncomputable def AcL (p : Pr β) (n : Nat) (g0 : AV → KO β) (k : KO β) (m : Nat) (tm : Tm) (H : Ab) : Option β :=
 D3 71 (fun tm H k => Ak Ar p o11 71 n (cd c11 [1, 0, 1, 0, 0, 1, 0, 0, 1, 1, 0, 0]) tm H k) (E3 2 (E3 1 (Em (fun tm H => Ak Ar p o11 71 n (cd c11 [1, 0, 1, 0, 0, 1, 1]) tm H (Em (fun tm H => g0 (gt tm 1) (gt tm 3) H) (E3 0 (Em (fun tm H => Ak Ar p o11 71 n (cd c11 [1, 1]) tm H (Cz Ar p fi11.results k)) (Cz Ar p fi11.results k))))) (Em (fun tm H => g0 (gt tm 1) (gt tm 3) H) (E3 0 (Em (fun tm H => Ak Ar p o11 71 n (cd c11 [1, 1]) tm H (Cz Ar p fi11.results k)) (Cz Ar p fi11.results k))))))) m tm H
noncomputable def AcK (p : Pr β) (n : Nat)  (k : KO β) (m : Nat) (tm : Tm) (H : Ab) : Option β :=
 D3 71 (fun tm H k => Ak Ar p o11 71 n (cd c11 [1, 0, 1, 0, 0]) tm H k) (E3 0 (Em (fun tm H => Ak Ar p o11 71 n (cd c11 [1, 1]) tm H (Cz Ar p fi11.results k)) (Cz Ar p fi11.results k))) m tm H
theorem Abx (p : Pr β) (n : Nat) (g0 : AV → KO β) (k : KO β) (m1 : Nat) : ∀ (t : Nat → AV) (H : Ab), AcL p n g0 k m1 (tf 71 0 t) H = Rw p n g0 k m1 (t 1) (t 3) (t 4) H := by
 induction m1 with
 | zero => intros; rfl
 | succ m1 ih =>
  intro t H
  refine Eq.trans (B8 (nt := 71) (m := m1) (g := fun t H => Rw p n g0 k m1 (t 1) (t 3) (t 4) H) ih rfl) ?_
  kernel_rfl
theorem Wp (p : Pr β) (n : Nat)  (k : KO β) (m0 : Nat) (t : Nat → AV) (H : Ab) : Ak Ar p o11 71 n (cd c11 [1, 0, 1, 0, 0]) (tf 71 0 t) H (Em (fun tm H => N1 p n  k m0 (gt tm 1) (gt tm 3) H) (E3 0 (Em (fun tm H => Ak Ar p o11 71 n (cd c11 [1, 1]) tm H (Cz Ar p fi11.results k)) (Cz Ar p fi11.results k)))) =
 p.fadr 1 (t 1) fun t6 =>
 p.load false 1 t6 H fun t7 =>
 p.len t7 fun t8 =>
 p.bin .lss (t 3) t8 fun t9 =>
 p.cond t9
 (p.fadr 1 (t 1) fun t12 =>
 p.load false 1 t12 H fun t13 =>
 p.iadr 6 t13 (t 3) fun t15 =>
 p.fadr 0 t15 fun t16 =>
 p.load false 1 t16 H fun t17 =>
 p.call 4 (.fn 50 [] []) [t17, (si 1), (si 65535)] H fun t18 H =>
 p.un .not t18 fun t19 =>
 p.gF t19 H (p.fadr 1 (t 1)) fun t21 H =>
 p.gF t19 H (p.load false 1 t21 H) fun t22 H =>
 p.kF t19 H (t 3) fun t23 H =>
 p.gF t19 H (p.iadr 6 t22 t23) fun t24 H =>
 p.gF t19 H (p.fadr 1 t24) fun t25 H =>
 p.gF t19 H (p.load true 4 t25 H) fun t26 H =>
 p.hF t19 H (p.call 4 (.fn 51 [] []) [t26] H) fun t27 H =>
 p.gF t19 H (p.un .not t27) fun t28 H =>
 p.pick t19 bT t28 fun t29 =>
 p.gF t29 H (p.fadr 1 (t 1)) fun t31 H =>
 p.gF t29 H (p.load false 1 t31 H) fun t32 H =>
 p.kF t29 H (t 3) fun t33 H =>
 p.gF t29 H (p.iadr 6 t32 t33) fun t34 H =>
 p.gF t29 H (p.load true 6 t34 H) fun t35 H =>
 p.hF t29 H (p.call 4 (.fn 52 [] []) [t35] H) fun t36 H =>
 p.gF t29 H (p.un .not t36) fun t37 H =>
 p.pick t29 bT t37 fun t38 =>
 p.cond t38
 (k bF H)
 (AcL p n (N1 p n  k m0) k n (tf 71 0 (ud [(4, i0), (5, (t 3)), (6, t6), (7, t7), (8, t8), (9, t9), (12, t12), (13, t13), (14, (t 3)), (15, t15), (16, t16), (17, t17), (18, t18), (19, t19), (20, t19), (21, t21), (22, t22), (23, t23), (24, t24), (25, t25), (26, t26), (27, t27), (28, t28), (29, t29), (30, t29), (31, t31), (32, t32), (33, t33), (34, t34), (35, t35), (36, t36), (37, t37), (38, t38)] t)) H))
 (p.fadr 0 (t 1) fun t57 =>
 p.load false 1 t57 H fun t58 =>
 p.call 4 (.fn 50 [] []) [t58, i0, (si 65535)] H fun t59 H =>
 p.gT t59 H (p.fadr 1 (t 1)) fun t61 H =>
 p.gT t59 H (p.load false 1 t61 H) fun t62 H =>
 p.gT t59 H (p.len t62) fun t63 H =>
 p.gT t59 H (p.bin .leq t63 (si 3)) fun t64 H =>
 p.pick t59 t64 bF fun t65 =>
 p.gT t65 H (p.fadr 2 (t 1)) fun t67 H =>
 p.gT t65 H (p.load false 1 t67 H) fun t68 H =>
 p.hT t65 H (p.call 4 (.fn 53 [] []) [t68] H) fun t69 H =>
 p.pick t65 t69 bF fun t70 =>
 k t70 H) := by kernel_rfl
theorem Abw (p : Pr β) (n : Nat)  (k : KO β) (m0 : Nat) : ∀ (t : Nat → AV) (H : Ab), AcK p n  k m0 (tf 71 0 t) H = N1 p n  k m0 (t 1) (t 3) H := by
 induction m0 with
 | zero => intros; rfl
 | succ m0 ih =>
  intro t H
  refine Eq.trans (B8 (nt := 71) (m := m0) (g := fun t H => N1 p n  k m0 (t 1) (t 3) H) ih rfl) ?_
  refine Eq.trans (Wp p n  k m0 t H) ?_
  simp only [Abx]
  kernel_rfl
theorem Afq (p : Pr β) (n : Nat) (a0 : AV) (H : Ab) (k : KO β) : Cf Ar p n fi11 [a0] H k =
 p.box a0 H fun t1 H =>
 AcK p n  k n (tf 71 0 (ud [(0, a0), (1, t1), (2, bF), (3, i0)] ut)) H := by kernel_rfl
theorem AcM : Jr fi11 @f11 := fun p n a0 H k => by
 rw [Afq]
 simp only [Abw]
 kernel_rfl
noncomputable def f39 (n : Nat) (a0 : AV) (H : Ab) (k : KO β) : Option β :=
 p.box a0 H fun t1 H =>
 p.load true 3 t1 H fun t3 =>
 p.call 4 (.fn 11 [] []) [t3] H fun t4 H =>
 p.gT t4 H (p.fadr 2 t1) fun t6 H =>
 p.gT t4 H (p.load false 1 t6 H) fun t7 H =>
 p.gT t4 H (p.len t7) fun t8 H =>
 p.gT t4 H (p.bin .gtr t8 i0) fun t9 H =>
 p.pick t4 t9 bF fun t10 =>
 p.gT t10 H (p.fadr 2 t1) fun t12 H =>
 p.gT t10 H (p.load false 1 t12 H) fun t13 H =>
 p.gT t10 H (p.iadr 4 t13 i0) fun t14 H =>
 p.gT t10 H (p.fadr 2 t14) fun t15 H =>
 p.gT t10 H (p.load false 1 t15 H) fun t16 H =>
 p.gT t10 H (p.bin .eql t16 i0) fun t17 H =>
 p.kT t10 H t17 fun t18 H =>
 p.gF t18 H (p.fadr 1 t1) fun t19 H =>
 p.gF t18 H (p.load false 1 t19 H) fun t20 H =>
 p.gF t18 H (p.len t20) fun t21 H =>
 p.gF t18 H (p.bin .lss t21 (si 3)) fun t22 H =>
 p.gT t10 H (p.pick t18 bT t22) fun t23 H =>
 p.pick t10 t23 bF fun t24 =>
 k t24 H
theorem Adc : Jr AiU @f39 := fun p n a0 H k => by kernel_rfl
noncomputable def f129 (n : Nat) (a0 : AV) (H : Ab) (k : KO β) : Option β :=
 p.new [sE, .nl, i0, bF] H fun t3 H =>
 p.len a0 fun t6 =>
 p.bin .eql t6 i0 fun t7 =>
 p.cond t7
 (p.fill [sE, .nl, i0, bF] [] fun ct9 =>
 p.store 4 t3 (.agg ct9) H fun H =>
 p.load true 4 t3 H fun r1 =>
 k (Cu [.nl, r1, bF]) H)
 (p.slice 4 a0 (some (si 1)) none fun t11 =>
 p.iadr 4 a0 i0 fun t14 =>
 p.load true 4 t14 H fun t15 =>
 p.call 25 (.fn 100 [] []) [t11] H fun t12 H =>
 p.call 33 (.fn 101 [] []) [t15] H fun t16 H =>
 p.store 4 t3 t16 H fun H =>
 p.load true 4 t3 H fun r1 =>
 k (Cu [t12, r1, bT]) H)
theorem Ab3 : Jr AgI @f129 := fun p n a0 H k => by kernel_rfl
noncomputable def f130 (n : Nat) (a0 a1 a2 : AV) (H : Ab) (k : KO β) : Option β :=
 p.box a0 H fun t3 H =>
 p.new Hl H fun t6 H =>
 p.fl 2 t3 1 H fun t9 =>
 p.fl 3 t3 1 H fun t11 =>
 p.fl 0 t3 1 H fun t14 =>
 p.fl 1 t3 1 H fun t17 =>
 p.app 1 1 .nl t17 H fun t18 H =>
 p.fill Hl [(0, 1, (si 3)), (1, 1, a2), (2, 1, t9), (3, 1, t11), (4, 1, a1), (5, 1, t14), (6, 1, t18)] fun ct19 =>
 p.store 25 t6 (.agg ct19) H fun H =>
 p.load true 25 t6 H fun r0 =>
 k r0 H
theorem Ab4 : Bd3 AgJ @f130 := fun p n a0 a1 a2 H k => by kernel_rfl
noncomputable def L0 (p : Pr β) (n : Nat)  (k : KO β) : Nat → AV → AV → KO β
 | 0, _, _, _, _ => none
 | m + 1, t0, t1, t5, H => p.len t0 fun t8 =>
   p.bin .lss t5 t8 fun t9 =>
   p.cond t9
   (p.iadr 1 t0 t5 fun t14 =>
   p.load false 1 t14 H fun t15 =>
   p.bin .eql t15 t1 fun t17 =>
   p.cond t17
   (k (.sc (.bool true)) H)
   (p.bin .add t5 (.sc (.int .i64 1)) fun t11 =>
   L0 p n  k m t0 t1 t11 H))
   (k (.sc (.bool false)) H)
noncomputable def f139 (n : Nat) (a0 a1 : AV) (H : Ab) (k : KO β) : Option β :=
 L0 p n  k n a0 a1 (.sc (.int .i64 0)) H
noncomputable def Aaz (p : Pr β) (n : Nat)  (k : KO β) (m : Nat) (tm : Tm) (H : Ab) : Option β :=
 D3 18 (fun tm H k => Ak Ar p [] 18 n (cd Ahk [1, 0, 1, 0, 0]) tm H k) (E3 0 (Em (fun tm H => Ak Ar p [] 18 n (cd Ahk [1, 1]) tm H (Cz Ar p fi139.results k)) (Cz Ar p fi139.results k))) m tm H
theorem Y9 (p : Pr β) (n : Nat)  (k : KO β) (m0 : Nat) : ∀ (t : Nat → AV) (H : Ab), Aaz p n  k m0 (tf 18 0 t) H = L0 p n  k m0 (t 0) (t 1) (t 5) H := by
 induction m0 with
 | zero => intros; rfl
 | succ m0 ih =>
  intro t H
  refine Eq.trans (B8 (nt := 18) (m := m0) (g := fun t H => L0 p n  k m0 (t 0) (t 1) (t 5) H) ih rfl) ?_
  kernel_rfl
theorem AcS (p : Pr β) (n : Nat) (a0 a1 : AV) (H : Ab) (k : KO β) : Cf Ar p n fi139 [a0, a1] H k =
 Aaz p n  k n (tf 18 0 (ud [(0, a0), (1, a1), (4, bF), (5, i0)] ut)) H := by kernel_rfl
theorem Ab7 : Pi fi139 @f139 := fun p n a0 a1 H k => by
 rw [AcS]
 simp only [Y9]
 kernel_rfl
noncomputable def Ko (p : Pr β) (n : Nat)  (k : KO β) : Nat → AV → AV → KO β
 | 0, _, _, _, _ => none
 | m + 1, t1, t6, t7, H => p.len t1 fun t14 =>
   p.bin .leq t7 t14 fun t15 =>
   p.kT t15 H t7 fun t17 H =>
   p.gT t15 H (p.bin .lss t17 (.sc (.int .i64 65535))) fun t18 H =>
   p.pick t15 t18 (.sc (.bool false)) fun t19 =>
   p.cond t19
   (p.bin .add t6 (.sc (.int .i64 1)) fun t23 =>
   p.bin .gtr t23 (.sc (.int .i64 65535)) fun t25 =>
   Le (fun (t1 t6 t7 : AV) (H : Ab) => p.call 4 (.fn 139 [] []) [t1, t6] H fun t28 H =>
   p.un .not t28 fun t29 =>
   p.cond t29
   (k (Cu [t6, (.sc (.bool true))]) H)
   (p.bin .add t7 (.sc (.int .i64 1)) fun t21 =>
   Ko p n  k m t1 t6 t21 H)) fun j1 =>
   p.cond t25
   (j1 t1 (.sc (.int .i64 1)) t7 H)
   (j1 t1 t23 t7 H))
   (k (Cu [(.sc (.int .i64 0)), (.sc (.bool false))]) H)
noncomputable def f131 (n : Nat) (a0 a1 : AV) (H : Ab) (k : KO β) : Option β :=
 p.call 4 (.fn 50 [] []) [a0, (.sc (.int .i64 0)), (.sc (.int .i64 65535))] H fun t9 H =>
 p.un .not t9 fun t10 =>
 p.cond t10
 (k (Cu [(.sc (.int .i64 0)), (.sc (.bool false))]) H)
 (Ko p n  k n a1 a0 (.sc (.int .i64 0)) H)
noncomputable def Aay (p : Pr β) (n : Nat)  (k : KO β) (m : Nat) (tm : Tm) (H : Ab) : Option β :=
 D3 31 (fun tm H k => Ak Ar p [] 31 n (cd Ahj [1, 1, 1, 0, 1, 0, 0]) tm H k) (E3 0 (Em (fun tm H => Ak Ar p [] 31 n (cd Ahj [1, 1, 1, 1]) tm H (Cz Ar p fi131.results k)) (Cz Ar p fi131.results k))) m tm H
theorem Y8 (p : Pr β) (n : Nat)  (k : KO β) (m0 : Nat) : ∀ (t : Nat → AV) (H : Ab), Aay p n  k m0 (tf 31 0 t) H = Ko p n  k m0 (t 1) (t 6) (t 7) H := by
 induction m0 with
 | zero => intros; rfl
 | succ m0 ih =>
  intro t H
  refine Eq.trans (B8 (nt := 31) (m := m0) (g := fun t H => Ko p n  k m0 (t 1) (t 6) (t 7) H) ih rfl) ?_
  kernel_rfl
theorem AcR (p : Pr β) (n : Nat) (a0 a1 : AV) (H : Ab) (k : KO β) : Cf Ar p n fi131 [a0, a1] H k =
 p.call 4 (.fn 50 [] []) [a0, i0, (si 65535)] H fun t9 H =>
 p.un .not t9 fun t10 =>
 p.cond t10
 (k (Cu [i0, bF]) H)
 (Aay p n  k n (tf 31 0 (ud [(0, a0), (1, a1), (4, i0), (5, bF), (6, a0), (7, i0), (8, a0), (9, t9), (10, t10), (11, a0)] ut)) H) := by kernel_rfl
theorem Ab5 : Pi fi131 @f131 := fun p n a0 a1 H k => by
 rw [AcR]
 simp only [Y8]
 kernel_rfl
noncomputable def Lv (p : Pr β) (n : Nat)  (k : KO β) : Nat → AV → AV → AV → AV → AV → AV → KO β
 | 0, _, _, _, _, _, _, _, _ => none
 | m + 1, t1, t2, t3, t5, t7, t9, t10, H => p.fadr 1 t1 fun t37 =>
   p.load false 1 t37 H fun t38 =>
   p.len t38 fun t39 =>
   p.bin .lss t10 t39 fun t40 =>
   p.cond t40
   (p.fadr 1 t1 fun t44 =>
   p.load false 1 t44 H fun t45 =>
   p.iadr 6 t45 t10 fun t47 =>
   p.fl 0 t47 1 H fun t49 =>
   p.fill [i0] [(0, 1, t49)] fun ct50 => p.newSl 1 1 ct50 true H fun t50 H =>
   p.app 1 8 t9 t50 H fun t51 H =>
   p.bin .add t10 (si 1) fun t42 =>
   Lv p n  k m t1 t2 t3 t5 t7 t51 t42 H)
   (p.fadr 0 t1 fun t53 =>
   p.load false 1 t53 H fun t54 =>
   p.ca 102 131 [t54, t9] H fun t56 H =>
   p.extr t56 0 fun t57 =>
   p.extr t56 1 fun t58 =>
   p.fs 0 t5 1 t57 H fun H =>
   p.fl 1 t5 1 H fun t62 =>
   p.load true 4 t7 H fun t64 =>
   p.fl 2 t7 1 H fun t66 =>
   p.fill [i0, sE, .nl, i0, bF, i0] [(0, 1, t57), (1, 4, t64), (5, 1, t66)] fun ct67 =>
   p.fill [i0, sE, .nl, i0, bF, i0] [(0, 6, (.agg ct67))] fun ct68 => p.newSl 1 6 ct68 true H fun t68 H =>
   p.app 6 72 t62 t68 H fun t69 H =>
   p.fs 1 t5 1 t69 H fun H =>
   p.load true 3 t5 H fun t71 =>
   p.load true 4 t7 H fun t72 =>
   p.ca 41 130 [t72, t57, bF] H fun t74 H =>
   p.store 3 t2 t71 H fun H =>
   p.store 25 t3 t74 H fun H =>
   p.load true 3 t2 H fun r0 =>
   p.load true 25 t3 H fun r1 =>
   k (Cu [r0, r1, bT]) H)
noncomputable def f113 (n : Nat) (a0 : AV) (H : Ab) (k : KO β) : Option β :=
 p.box a0 H fun t1 H =>
 p.new [i0, .nl, .nl] H fun t2 H =>
 p.new Hl H fun t3 H =>
 p.load true 3 t1 H fun t13 =>
 p.ca 27 64 [t13] H fun t14 H =>
 p.new [i0, .nl, .nl] H fun t5 H =>
 p.store 3 t5 t14 H fun H =>
 p.load true 3 t1 H fun t15 =>
 p.ca 4 39 [t15] H fun t16 H =>
 p.un .not t16 fun t17 =>
 p.cond t17
 (p.load true 3 t5 H fun t18 =>
 p.fill Hl [] fun ct19 =>
 p.store 3 t2 t18 H fun H =>
 p.store 25 t3 (.agg ct19) H fun H =>
 p.load true 3 t2 H fun r0 =>
 p.load true 25 t3 H fun r1 =>
 k (Cu [r0, r1, bF]) H)
 (p.fadr 2 t1 fun t21 =>
 p.load false 1 t21 H fun t22 =>
 p.ca 100 129 [t22] H fun t23 H =>
 p.extr t23 0 fun t24 =>
 p.extr t23 1 fun t25 =>
 p.extr t23 2 fun t26 =>
 p.new [sE, .nl, i0, bF] H fun t7 H =>
 p.store 4 t7 t25 H fun H =>
 p.fs 2 t5 1 t24 H fun H =>
 p.fl 2 t7 1 H fun t30 =>
 p.bin .eql t30 i0 fun t31 =>
 p.cond t31
 (p.load true 3 t5 H fun t32 =>
 p.load true 4 t7 H fun t33 =>
 p.ca 41 130 [t33, i0, bF] H fun t34 H =>
 p.store 3 t2 t32 H fun H =>
 p.store 25 t3 t34 H fun H =>
 p.load true 3 t2 H fun r0 =>
 p.load true 25 t3 H fun r1 =>
 k (Cu [r0, r1, bT]) H)
 (Lv p n  k n t1 t2 t3 t5 t7 .nl i0 H))
noncomputable def Aar (p : Pr β) (n : Nat)  (k : KO β) (m : Nat) (tm : Tm) (H : Ab) : Option β :=
 D3 75 (fun tm H k => Ak Ar p Aip 75 n (cd Ahf [1, 1, 1, 1, 1, 1, 1, 0, 1, 0, 0]) tm H k) (E3 0 (Em (fun tm H => Ak Ar p Aip 75 n (cd Ahf [1, 1, 1, 1, 1, 1, 1, 1]) tm H (Cz Ar p fi113.results k)) (Cz Ar p fi113.results k))) m tm H
theorem Y3 (p : Pr β) (n : Nat)  (k : KO β) (m0 : Nat) : ∀ (t : Nat → AV) (H : Ab), Aar p n  k m0 (tf 75 0 t) H = Lv p n  k m0 (t 1) (t 2) (t 3) (t 5) (t 7) (t 9) (t 10) H := by
 induction m0 with
 | zero => intros; rfl
 | succ m0 ih =>
  intro t H
  refine Eq.trans (B8 (nt := 75) (m := m0) (g := fun t H => Lv p n  k m0 (t 1) (t 2) (t 3) (t 5) (t 7) (t 9) (t 10) H) ih rfl) ?_
  kernel_rfl
theorem AcH (p : Pr β) (n : Nat) (a0 : AV) (H : Ab) (k : KO β) : Cf Ar p n fi113 [a0] H k =
 p.box a0 H fun t1 H =>
 p.new [i0, .nl, .nl] H fun t2 H =>
 p.new Hl H fun t3 H =>
 p.load true 3 t1 H fun t13 =>
 p.call 27 (.fn 64 [] []) [t13] H fun t14 H =>
 p.new [i0, .nl, .nl] H fun t5 H =>
 p.store 3 t5 t14 H fun H =>
 p.load true 3 t1 H fun t15 =>
 p.call 4 (.fn 39 [] []) [t15] H fun t16 H =>
 p.un .not t16 fun t17 =>
 p.cond t17
 (p.load true 3 t5 H fun t18 =>
 p.fill Hl [] fun ct19 =>
 p.store 3 t2 t18 H fun H =>
 p.store 25 t3 (.agg ct19) H fun H =>
 p.load true 3 t2 H fun r0 =>
 p.load true 25 t3 H fun r1 =>
 k (Cu [r0, r1, bF]) H)
 (p.fadr 2 t1 fun t21 =>
 p.load false 1 t21 H fun t22 =>
 p.call 100 (.fn 129 [] []) [t22] H fun t23 H =>
 p.extr t23 0 fun t24 =>
 p.extr t23 1 fun t25 =>
 p.extr t23 2 fun t26 =>
 p.new [sE, .nl, i0, bF] H fun t7 H =>
 p.store 4 t7 t25 H fun H =>
 p.fadr 2 t5 fun t28 =>
 p.store 1 t28 t24 H fun H =>
 p.fadr 2 t7 fun t29 =>
 p.load false 1 t29 H fun t30 =>
 p.bin .eql t30 i0 fun t31 =>
 p.cond t31
 (p.load true 3 t5 H fun t32 =>
 p.load true 4 t7 H fun t33 =>
 p.call 41 (.fn 130 [] []) [t33, i0, bF] H fun t34 H =>
 p.store 3 t2 t32 H fun H =>
 p.store 25 t3 t34 H fun H =>
 p.load true 3 t2 H fun r0 =>
 p.load true 25 t3 H fun r1 =>
 k (Cu [r0, r1, bT]) H)
 (Aar p n  k n (tf 75 0 (ud [(0, a0), (1, t1), (2, t2), (3, t3), (4, bF), (5, t5), (6, t24), (7, t7), (8, t26), (9, .nl), (10, i0), (13, t13), (14, t14), (15, t15), (16, t16), (17, t17), (20, t23), (21, t21), (22, t22), (23, t23), (24, t24), (25, t25), (26, t26), (27, t24), (28, t28), (29, t29), (30, t30), (31, t31), (35, .nl)] ut)) H)) := by kernel_rfl
theorem Abt : Jr fi113 @f113 := fun p n a0 H k => by
 rw [AcH]
 simp only [Y3]
 kernel_rfl
noncomputable def f121 (n : Nat) (a0 : AV) (H : Ab) (k : KO β) : Option β :=
 p.box a0 H fun t1 H =>
 p.new Hl H fun t2 H =>
 p.fadr 0 t1 fun t4 =>
 p.load false 1 t4 H fun t5 =>
 p.fill Hl [(0, 1, t5)] fun ct6 =>
 p.new Hl H fun t3 H =>
 p.store 25 t3 (.agg ct6) H fun H =>
 p.fadr 0 t1 fun t7 =>
 p.load false 1 t7 H fun t8 =>
 p.bin .eql t8 (si 1) fun t10 =>
 p.cond t10
 (p.fadr 8 t1 fun t11 =>
 p.load false 1 t11 H fun t12 =>
 p.fadr 8 t3 fun t13 =>
 p.store 1 t13 t12 H fun H =>
 p.fadr 7 t1 fun t14 =>
 p.load false 1 t14 H fun t15 =>
 p.fadr 7 t3 fun t16 =>
 p.store 1 t16 t15 H fun H =>
 p.fadr 9 t1 fun t17 =>
 p.load false 1 t17 H fun t18 =>
 p.fadr 9 t3 fun t19 =>
 p.store 1 t19 t18 H fun H =>
 p.fadr 10 t1 fun t20 =>
 p.load false 1 t20 H fun t21 =>
 p.fadr 10 t3 fun t22 =>
 p.store 1 t22 t21 H fun H =>
 p.fadr 11 t1 fun t23 =>
 p.load false 1 t23 H fun t24 =>
 Le (fun (t1 t2 t3 : AV) (H : Ab) => p.fadr 16 t1 fun t38 =>
 p.load false 1 t38 H fun t39 =>
 p.cond t39
 (p.fadr 16 t3 fun t40 =>
 p.store 1 t40 bT H fun H =>
 p.fadr 17 t1 fun t41 =>
 p.load false 1 t41 H fun t42 =>
 p.fadr 17 t3 fun t43 =>
 p.store 1 t43 t42 H fun H =>
 p.fadr 18 t1 fun t44 =>
 p.load false 1 t44 H fun t45 =>
 p.cond t45
 (p.fadr 18 t3 fun t46 =>
 p.store 1 t46 bT H fun H =>
 p.fadr 19 t1 fun t47 =>
 p.load false 1 t47 H fun t48 =>
 p.fadr 19 t3 fun t49 =>
 p.store 1 t49 t48 H fun H =>
 p.load true 25 t3 H fun t119 =>
 p.store 25 t2 t119 H fun H =>
 p.load true 25 t2 H fun r0 =>
 k r0 H)
 (p.load true 25 t3 H fun t119 =>
 p.store 25 t2 t119 H fun H =>
 p.load true 25 t2 H fun r0 =>
 k r0 H))
 (p.load true 25 t3 H fun t119 =>
 p.store 25 t2 t119 H fun H =>
 p.load true 25 t2 H fun r0 =>
 k r0 H)) fun j1 =>
 p.cond t24
 (p.fadr 11 t3 fun t25 =>
 p.store 1 t25 bT H fun H =>
 p.fadr 12 t1 fun t26 =>
 p.load false 1 t26 H fun t27 =>
 p.fadr 12 t3 fun t28 =>
 p.store 1 t28 t27 H fun H =>
 p.fadr 13 t1 fun t29 =>
 p.load false 1 t29 H fun t30 =>
 p.fadr 13 t3 fun t31 =>
 p.store 1 t31 t30 H fun H =>
 p.fadr 14 t1 fun t32 =>
 p.load false 1 t32 H fun t33 =>
 p.fadr 14 t3 fun t34 =>
 p.store 1 t34 t33 H fun H =>
 p.fadr 15 t1 fun t35 =>
 p.load false 1 t35 H fun t36 =>
 p.fadr 15 t3 fun t37 =>
 p.store 1 t37 t36 H fun H =>
 j1 t1 t2 t3 H)
 (j1 t1 t2 t3 H))
 (p.bin .eql t8 (si 2) fun t51 =>
 p.cond t51
 (p.fadr 20 t1 fun t52 =>
 p.load false 1 t52 H fun t53 =>
 p.fadr 20 t3 fun t54 =>
 p.store 1 t54 t53 H fun H =>
 p.fadr 21 t1 fun t55 =>
 p.load false 1 t55 H fun t56 =>
 p.gT t56 H (p.fadr 20 t1) fun t58 H =>
 p.gT t56 H (p.load false 1 t58 H) fun t59 H =>
 p.gT t56 H (p.bin .eql t59 i0) fun t60 H =>
 p.pick t56 t60 bF fun t61 =>
 p.fadr 21 t3 fun t62 =>
 p.store 1 t62 t61 H fun H =>
 p.load true 25 t3 H fun t119 =>
 p.store 25 t2 t119 H fun H =>
 p.load true 25 t2 H fun r0 =>
 k r0 H)
 (p.bin .eql t8 (si 3) fun t64 =>
 p.cond t64
 (p.fadr 2 t1 fun t65 =>
 p.load false 1 t65 H fun t66 =>
 p.fadr 2 t3 fun t67 =>
 p.store 1 t67 t66 H fun H =>
 p.fadr 3 t1 fun t68 =>
 p.load false 1 t68 H fun t69 =>
 p.fadr 3 t3 fun t70 =>
 p.store 1 t70 t69 H fun H =>
 p.fadr 5 t1 fun t71 =>
 p.load false 1 t71 H fun t72 =>
 p.fadr 5 t3 fun t73 =>
 p.store 1 t73 t72 H fun H =>
 p.fadr 6 t1 fun t74 =>
 p.load false 1 t74 H fun t75 =>
 p.fadr 6 t3 fun t76 =>
 p.store 1 t76 t75 H fun H =>
 p.fadr 2 t1 fun t77 =>
 p.load false 1 t77 H fun t78 =>
 p.bin .gtr t78 i0 fun t79 =>
 p.cond t79
 (p.fadr 1 t1 fun t80 =>
 p.load false 1 t80 H fun t81 =>
 p.fadr 1 t3 fun t82 =>
 p.store 1 t82 t81 H fun H =>
 p.fadr 4 t1 fun t83 =>
 p.load false 1 t83 H fun t84 =>
 p.fadr 4 t3 fun t85 =>
 p.store 1 t85 t84 H fun H =>
 p.load true 25 t3 H fun t119 =>
 p.store 25 t2 t119 H fun H =>
 p.load true 25 t2 H fun r0 =>
 k r0 H)
 (p.load true 25 t3 H fun t119 =>
 p.store 25 t2 t119 H fun H =>
 p.load true 25 t2 H fun r0 =>
 k r0 H))
 (p.bin .eql t8 (si 4) fun t87 =>
 Le (fun (t1 t2 t3 t8 t86 : AV) (H : Ab) => p.cond t86
 (p.fadr 4 t1 fun t92 =>
 p.load false 1 t92 H fun t93 =>
 p.fadr 4 t3 fun t94 =>
 p.store 1 t94 t93 H fun H =>
 p.load true 25 t3 H fun t119 =>
 p.store 25 t2 t119 H fun H =>
 p.load true 25 t2 H fun r0 =>
 k r0 H)
 (p.bin .eql t8 (si 8) fun t96 =>
 p.cond t96
 (p.fadr 4 t1 fun t97 =>
 p.load false 1 t97 H fun t98 =>
 p.fadr 4 t3 fun t99 =>
 p.store 1 t99 t98 H fun H =>
 p.fadr 22 t1 fun t100 =>
 p.load false 1 t100 H fun t101 =>
 p.fadr 22 t3 fun t102 =>
 p.store 1 t102 t101 H fun H =>
 p.load true 25 t3 H fun t119 =>
 p.store 25 t2 t119 H fun H =>
 p.load true 25 t2 H fun r0 =>
 k r0 H)
 (p.bin .eql t8 (si 9) fun t104 =>
 p.cond t104
 (p.fadr 4 t1 fun t105 =>
 p.load false 1 t105 H fun t106 =>
 p.fadr 4 t3 fun t107 =>
 p.store 1 t107 t106 H fun H =>
 p.fadr 24 t1 fun t108 =>
 p.load false 1 t108 H fun t109 =>
 p.fadr 24 t3 fun t110 =>
 p.store 1 t110 t109 H fun H =>
 p.load true 25 t3 H fun t119 =>
 p.store 25 t2 t119 H fun H =>
 p.load true 25 t2 H fun r0 =>
 k r0 H)
 (p.bin .eql t8 (si 10) fun t112 =>
 p.cond t112
 (p.fadr 4 t1 fun t113 =>
 p.load false 1 t113 H fun t114 =>
 p.fadr 4 t3 fun t115 =>
 p.store 1 t115 t114 H fun H =>
 p.fadr 23 t1 fun t116 =>
 p.load false 1 t116 H fun t117 =>
 p.fadr 23 t3 fun t118 =>
 p.store 1 t118 t117 H fun H =>
 p.load true 25 t3 H fun t119 =>
 p.store 25 t2 t119 H fun H =>
 p.load true 25 t2 H fun r0 =>
 k r0 H)
 (p.load true 25 t3 H fun t119 =>
 p.store 25 t2 t119 H fun H =>
 p.load true 25 t2 H fun r0 =>
 k r0 H))))) fun j2 =>
 p.cond t87
 (j2 t1 t2 t3 t8 t87 H)
 (p.bin .eql t8 (si 5) fun t88 =>
 p.cond t88
 (j2 t1 t2 t3 t8 t88 H)
 (p.bin .eql t8 (si 6) fun t89 =>
 p.cond t89
 (j2 t1 t2 t3 t8 t89 H)
 (p.bin .eql t8 (si 7) fun t90 =>
 p.cond t90
 (j2 t1 t2 t3 t8 t90 H)
 (p.bin .eql t8 (si 11) fun t91 =>
 j2 t1 t2 t3 t8 t91 H)))))))
theorem Abz : Jr AgF @f121 := fun p n a0 H k => by kernel_rfl
noncomputable def f138 (n : Nat) (a0 a1 : AV) (H : Ab) (k : KO β) : Option β :=
 p.cvBS a0 H fun t6 =>
 p.cvBS a1 H fun t8 =>
 p.bin .eql t6 t8 fun t9 =>
 k t9 H
theorem Ab6 : Pi AgK @f138 := fun p n a0 a1 H k => by kernel_rfl
noncomputable def Kn (p : Pr β) (n : Nat)  (k : KO β) : Nat → AV → AV → KO β
 | 0, _, _, _, _ => none
 | m + 1, t2, t3, t7, H => p.fadr 24 t2 fun t70 =>
   p.load false 1 t70 H fun t71 =>
   p.len t71 fun t72 =>
   p.bin .lss t7 t72 fun t73 =>
   p.cond t73
   (p.fadr 24 t2 fun t76 =>
   p.load false 1 t76 H fun t77 =>
   p.iadr 1 t77 t7 fun t79 =>
   p.load false 1 t79 H fun t80 =>
   p.fadr 24 t3 fun t81 =>
   p.load false 1 t81 H fun t82 =>
   p.iadr 1 t82 t7 fun t84 =>
   p.load false 1 t84 H fun t85 =>
   p.bin .neq t80 t85 fun t86 =>
   p.cond t86
   (k bF H)
   (p.bin .add t7 (si 1) fun t75 =>
   Kn p n  k m t2 t3 t75 H))
   (p.fadr 0 t2 fun t87 =>
   p.load false 1 t87 H fun t88 =>
   p.fadr 0 t3 fun t89 =>
   p.load false 1 t89 H fun t90 =>
   p.bin .eql t88 t90 fun t91 =>
   p.gT t91 H (p.fadr 1 t2) fun t93 H =>
   p.gT t91 H (p.load false 1 t93 H) fun t94 H =>
   p.gT t91 H (p.fadr 1 t3) fun t95 H =>
   p.gT t91 H (p.load false 1 t95 H) fun t96 H =>
   p.gT t91 H (p.binB .eql t94 t96) fun t97 H =>
   p.pick t91 t97 bF fun t98 =>
   p.gT t98 H (p.fadr 2 t2) fun t100 H =>
   p.gT t98 H (p.load false 1 t100 H) fun t101 H =>
   p.gT t98 H (p.fadr 2 t3) fun t102 H =>
   p.gT t98 H (p.load false 1 t102 H) fun t103 H =>
   p.gT t98 H (p.bin .eql t101 t103) fun t104 H =>
   p.pick t98 t104 bF fun t105 =>
   p.gT t105 H (p.fadr 3 t2) fun t107 H =>
   p.gT t105 H (p.load false 1 t107 H) fun t108 H =>
   p.gT t105 H (p.fadr 3 t3) fun t109 H =>
   p.gT t105 H (p.load false 1 t109 H) fun t110 H =>
   p.gT t105 H (p.binB .eql t108 t110) fun t111 H =>
   p.pick t105 t111 bF fun t112 =>
   p.gT t112 H (p.fadr 4 t2) fun t114 H =>
   p.gT t112 H (p.load false 1 t114 H) fun t115 H =>
   p.gT t112 H (p.fadr 4 t3) fun t116 H =>
   p.gT t112 H (p.load false 1 t116 H) fun t117 H =>
   p.gT t112 H (p.bin .eql t115 t117) fun t118 H =>
   p.pick t112 t118 bF fun t119 =>
   p.gT t119 H (p.fadr 5 t2) fun t121 H =>
   p.gT t119 H (p.load false 1 t121 H) fun t122 H =>
   p.gT t119 H (p.fadr 5 t3) fun t123 H =>
   p.gT t119 H (p.load false 1 t123 H) fun t124 H =>
   p.gT t119 H (p.bin .eql t122 t124) fun t125 H =>
   p.pick t119 t125 bF fun t126 =>
   p.gT t126 H (p.fadr 6 t2) fun t128 H =>
   p.gT t126 H (p.load false 1 t128 H) fun t129 H =>
   p.gT t126 H (p.fadr 6 t3) fun t130 H =>
   p.gT t126 H (p.load false 1 t130 H) fun t131 H =>
   p.hT t126 H (p.call 4 (.fn 138 [] []) [t129, t131] H) fun t132 H =>
   p.pick t126 t132 bF fun t133 =>
   p.gT t133 H (p.fadr 7 t2) fun t135 H =>
   p.gT t133 H (p.load false 1 t135 H) fun t136 H =>
   p.gT t133 H (p.fadr 7 t3) fun t137 H =>
   p.gT t133 H (p.load false 1 t137 H) fun t138 H =>
   p.gT t133 H (p.bin .eql t136 t138) fun t139 H =>
   p.pick t133 t139 bF fun t140 =>
   p.gT t140 H (p.fadr 8 t2) fun t142 H =>
   p.gT t140 H (p.load false 1 t142 H) fun t143 H =>
   p.gT t140 H (p.fadr 8 t3) fun t144 H =>
   p.gT t140 H (p.load false 1 t144 H) fun t145 H =>
   p.gT t140 H (p.bin .eql t143 t145) fun t146 H =>
   p.pick t140 t146 bF fun t147 =>
   p.gT t147 H (p.fadr 9 t2) fun t149 H =>
   p.gT t147 H (p.load false 1 t149 H) fun t150 H =>
   p.gT t147 H (p.fadr 9 t3) fun t151 H =>
   p.gT t147 H (p.load false 1 t151 H) fun t152 H =>
   p.gT t147 H (p.binB .eql t150 t152) fun t153 H =>
   p.pick t147 t153 bF fun t154 =>
   p.gT t154 H (p.fadr 10 t2) fun t156 H =>
   p.gT t154 H (p.load false 1 t156 H) fun t157 H =>
   p.gT t154 H (p.fadr 10 t3) fun t158 H =>
   p.gT t154 H (p.load false 1 t158 H) fun t159 H =>
   p.gT t154 H (p.bin .eql t157 t159) fun t160 H =>
   p.pick t154 t160 bF fun t161 =>
   p.gT t161 H (p.fadr 11 t2) fun t163 H =>
   p.gT t161 H (p.load false 1 t163 H) fun t164 H =>
   p.gT t161 H (p.fadr 11 t3) fun t165 H =>
   p.gT t161 H (p.load false 1 t165 H) fun t166 H =>
   p.gT t161 H (p.binB .eql t164 t166) fun t167 H =>
   p.pick t161 t167 bF fun t168 =>
   p.gT t168 H (p.fadr 12 t2) fun t170 H =>
   p.gT t168 H (p.load false 1 t170 H) fun t171 H =>
   p.gT t168 H (p.fadr 12 t3) fun t172 H =>
   p.gT t168 H (p.load false 1 t172 H) fun t173 H =>
   p.gT t168 H (p.bin .eql t171 t173) fun t174 H =>
   p.pick t168 t174 bF fun t175 =>
   p.gT t175 H (p.fadr 13 t2) fun t177 H =>
   p.gT t175 H (p.load false 1 t177 H) fun t178 H =>
   p.gT t175 H (p.fadr 13 t3) fun t179 H =>
   p.gT t175 H (p.load false 1 t179 H) fun t180 H =>
   p.hT t175 H (p.call 4 (.fn 138 [] []) [t178, t180] H) fun t181 H =>
   p.pick t175 t181 bF fun t182 =>
   p.gT t182 H (p.fadr 14 t2) fun t184 H =>
   p.gT t182 H (p.load false 1 t184 H) fun t185 H =>
   p.gT t182 H (p.fadr 14 t3) fun t186 H =>
   p.gT t182 H (p.load false 1 t186 H) fun t187 H =>
   p.gT t182 H (p.bin .eql t185 t187) fun t188 H =>
   p.pick t182 t188 bF fun t189 =>
   p.gT t189 H (p.fadr 15 t2) fun t191 H =>
   p.gT t189 H (p.load false 1 t191 H) fun t192 H =>
   p.gT t189 H (p.fadr 15 t3) fun t193 H =>
   p.gT t189 H (p.load false 1 t193 H) fun t194 H =>
   p.gT t189 H (p.binB .eql t192 t194) fun t195 H =>
   p.pick t189 t195 bF fun t196 =>
   p.gT t196 H (p.fadr 16 t2) fun t198 H =>
   p.gT t196 H (p.load false 1 t198 H) fun t199 H =>
   p.gT t196 H (p.fadr 16 t3) fun t200 H =>
   p.gT t196 H (p.load false 1 t200 H) fun t201 H =>
   p.gT t196 H (p.binB .eql t199 t201) fun t202 H =>
   p.pick t196 t202 bF fun t203 =>
   p.gT t203 H (p.fadr 17 t2) fun t205 H =>
   p.gT t203 H (p.load false 1 t205 H) fun t206 H =>
   p.gT t203 H (p.fadr 17 t3) fun t207 H =>
   p.gT t203 H (p.load false 1 t207 H) fun t208 H =>
   p.gT t203 H (p.bin .eql t206 t208) fun t209 H =>
   p.pick t203 t209 bF fun t210 =>
   p.gT t210 H (p.fadr 18 t2) fun t212 H =>
   p.gT t210 H (p.load false 1 t212 H) fun t213 H =>
   p.gT t210 H (p.fadr 18 t3) fun t214 H =>
   p.gT t210 H (p.load false 1 t214 H) fun t215 H =>
   p.gT t210 H (p.binB .eql t213 t215) fun t216 H =>
   p.pick t210 t216 bF fun t217 =>
   p.gT t217 H (p.fadr 19 t2) fun t219 H =>
   p.gT t217 H (p.load false 1 t219 H) fun t220 H =>
   p.gT t217 H (p.fadr 19 t3) fun t221 H =>
   p.gT t217 H (p.load false 1 t221 H) fun t222 H =>
   p.hT t217 H (p.call 4 (.fn 138 [] []) [t220, t222] H) fun t223 H =>
   p.pick t217 t223 bF fun t224 =>
   p.gT t224 H (p.fadr 20 t2) fun t226 H =>
   p.gT t224 H (p.load false 1 t226 H) fun t227 H =>
   p.gT t224 H (p.fadr 20 t3) fun t228 H =>
   p.gT t224 H (p.load false 1 t228 H) fun t229 H =>
   p.gT t224 H (p.bin .eql t227 t229) fun t230 H =>
   p.pick t224 t230 bF fun t231 =>
   p.gT t231 H (p.fadr 21 t2) fun t233 H =>
   p.gT t231 H (p.load false 1 t233 H) fun t234 H =>
   p.gT t231 H (p.fadr 21 t3) fun t235 H =>
   p.gT t231 H (p.load false 1 t235 H) fun t236 H =>
   p.gT t231 H (p.binB .eql t234 t236) fun t237 H =>
   p.pick t231 t237 bF fun t238 =>
   k t238 H)
noncomputable def I6 (p : Pr β) (n : Nat)  (k : KO β) : Nat → AV → AV → KO β
 | 0, _, _, _, _ => none
 | m + 1, t2, t3, t6, H => p.fadr 23 t2 fun t52 =>
   p.load false 1 t52 H fun t53 =>
   p.len t53 fun t54 =>
   p.bin .lss t6 t54 fun t55 =>
   p.cond t55
   (p.fadr 23 t2 fun t58 =>
   p.load false 1 t58 H fun t59 =>
   p.iadr 1 t59 t6 fun t61 =>
   p.load false 1 t61 H fun t62 =>
   p.fadr 23 t3 fun t63 =>
   p.load false 1 t63 H fun t64 =>
   p.iadr 1 t64 t6 fun t66 =>
   p.load false 1 t66 H fun t67 =>
   p.bin .neq t62 t67 fun t68 =>
   p.cond t68
   (k bF H)
   (p.bin .add t6 (si 1) fun t57 =>
   I6 p n  k m t2 t3 t57 H))
   (Kn p n  k n t2 t3 i0 H)
noncomputable def I5 (p : Pr β) (n : Nat)  (k : KO β) : Nat → AV → AV → KO β
 | 0, _, _, _, _ => none
 | m + 1, t2, t3, t5, H => p.fadr 22 t2 fun t34 =>
   p.load false 1 t34 H fun t35 =>
   p.len t35 fun t36 =>
   p.bin .lss t5 t36 fun t37 =>
   p.cond t37
   (p.fadr 22 t2 fun t40 =>
   p.load false 1 t40 H fun t41 =>
   p.iadr 2 t41 t5 fun t43 =>
   p.load true 2 t43 H fun t44 =>
   p.fadr 22 t3 fun t45 =>
   p.load false 1 t45 H fun t46 =>
   p.iadr 2 t46 t5 fun t48 =>
   p.load true 2 t48 H fun t49 =>
   p.binA .neq [1, 0] t44 t49 fun t50 =>
   p.cond t50
   (k bF H)
   (p.bin .add t5 (si 1) fun t39 =>
   I5 p n  k m t2 t3 t39 H))
   (I6 p n  k n t2 t3 i0 H)
noncomputable def f120 (n : Nat) (a0 a1 : AV) (H : Ab) (k : KO β) : Option β :=
 p.box a0 H fun t2 H =>
 p.box a1 H fun t3 H =>
 p.fadr 22 t2 fun t8 =>
 p.load false 1 t8 H fun t9 =>
 p.len t9 fun t10 =>
 p.fadr 22 t3 fun t11 =>
 p.load false 1 t11 H fun t12 =>
 p.len t12 fun t13 =>
 p.bin .neq t10 t13 fun t14 =>
 p.gF t14 H (p.fadr 23 t2) fun t16 H =>
 p.gF t14 H (p.load false 1 t16 H) fun t17 H =>
 p.gF t14 H (p.len t17) fun t18 H =>
 p.gF t14 H (p.fadr 23 t3) fun t19 H =>
 p.gF t14 H (p.load false 1 t19 H) fun t20 H =>
 p.gF t14 H (p.len t20) fun t21 H =>
 p.gF t14 H (p.bin .neq t18 t21) fun t22 H =>
 p.pick t14 bT t22 fun t23 =>
 p.gF t23 H (p.fadr 24 t2) fun t25 H =>
 p.gF t23 H (p.load false 1 t25 H) fun t26 H =>
 p.gF t23 H (p.len t26) fun t27 H =>
 p.gF t23 H (p.fadr 24 t3) fun t28 H =>
 p.gF t23 H (p.load false 1 t28 H) fun t29 H =>
 p.gF t23 H (p.len t29) fun t30 H =>
 p.gF t23 H (p.bin .neq t27 t30) fun t31 H =>
 p.pick t23 bT t31 fun t32 =>
 p.cond t32
 (k bF H)
 (I5 p n  k n t2 t3 i0 H)
noncomputable def Aaw (p : Pr β) (n : Nat)  (k : KO β) (m : Nat) (tm : Tm) (H : Ab) : Option β :=
 D3 239 (fun tm H k => Ak Ar p Sx 239 n (cd Rn [1, 1, 1, 1, 0, 1, 0, 0]) tm H k) (E3 4 (Em (fun tm H => Ak Ar p Sx 239 n (cd Rn [1, 1, 1, 1, 1]) tm H (Cz Ar p fi120.results k)) (Cz Ar p fi120.results k))) m tm H
noncomputable def Aav (p : Pr β) (n : Nat)  (k : KO β) (m : Nat) (tm : Tm) (H : Ab) : Option β :=
 D3 239 (fun tm H k => Ak Ar p Sx 239 n (cd Rn [1, 1, 1, 0, 1, 0, 0]) tm H k) (E3 2 (Em (fun tm H => Ak Ar p Sx 239 n (cd Rn [1, 1, 1, 1]) tm H (Cz Ar p fi120.results k)) (Cz Ar p fi120.results k))) m tm H
noncomputable def Aau (p : Pr β) (n : Nat)  (k : KO β) (m : Nat) (tm : Tm) (H : Ab) : Option β :=
 D3 239 (fun tm H k => Ak Ar p Sx 239 n (cd Rn [1, 1, 0, 1, 0, 0]) tm H k) (E3 0 (Em (fun tm H => Ak Ar p Sx 239 n (cd Rn [1, 1, 1]) tm H (Cz Ar p fi120.results k)) (Cz Ar p fi120.results k))) m tm H
theorem Rz (p : Pr β) (n : Nat)  (k : KO β) (m2 : Nat) : ∀ (t : Nat → AV) (H : Ab), Aaw p n  k m2 (tf 239 0 t) H = Kn p n  k m2 (t 2) (t 3) (t 7) H := by
 induction m2 with
 | zero => intros; rfl
 | succ m2 ih =>
  intro t H
  refine Eq.trans (B8 (nt := 239) (m := m2) (g := fun t H => Kn p n  k m2 (t 2) (t 3) (t 7) H) ih rfl) ?_
  kernel_rfl
theorem Vi (p : Pr β) (n : Nat)  (k : KO β) (m1 : Nat) (t : Nat → AV) (H : Ab) : Ak Ar p Sx 239 n (cd Rn [1, 1, 1, 0, 1, 0, 0]) (tf 239 0 t) H (Em (fun tm H => I6 p n  k m1 (gt tm 2) (gt tm 3) (gt tm 6) H) (E3 2 (Em (fun tm H => Ak Ar p Sx 239 n (cd Rn [1, 1, 1, 1]) tm H (Cz Ar p fi120.results k)) (Cz Ar p fi120.results k)))) =
 p.fadr 23 (t 2) fun t52 =>
 p.load false 1 t52 H fun t53 =>
 p.len t53 fun t54 =>
 p.bin .lss (t 6) t54 fun t55 =>
 p.cond t55
 (p.fadr 23 (t 2) fun t58 =>
 p.load false 1 t58 H fun t59 =>
 p.iadr 1 t59 (t 6) fun t61 =>
 p.load false 1 t61 H fun t62 =>
 p.fadr 23 (t 3) fun t63 =>
 p.load false 1 t63 H fun t64 =>
 p.iadr 1 t64 (t 6) fun t66 =>
 p.load false 1 t66 H fun t67 =>
 p.bin .neq t62 t67 fun t68 =>
 p.cond t68
 (k bF H)
 (p.bin .add (t 6) (si 1) fun t57 =>
 I6 p n  k m1 (t 2) (t 3) t57 H))
 (Aaw p n  k n (tf 239 0 (ud [(7, i0), (51, (t 6)), (52, t52), (53, t53), (54, t54), (55, t55)] t)) H) := by kernel_rfl
theorem Rx (p : Pr β) (n : Nat)  (k : KO β) (m1 : Nat) : ∀ (t : Nat → AV) (H : Ab), Aav p n  k m1 (tf 239 0 t) H = I6 p n  k m1 (t 2) (t 3) (t 6) H := by
 induction m1 with
 | zero => intros; rfl
 | succ m1 ih =>
  intro t H
  refine Eq.trans (B8 (nt := 239) (m := m1) (g := fun t H => I6 p n  k m1 (t 2) (t 3) (t 6) H) ih rfl) ?_
  refine Eq.trans (Vi p n  k m1 t H) ?_
  simp only [Rz]
  kernel_rfl
theorem Vh (p : Pr β) (n : Nat)  (k : KO β) (m0 : Nat) (t : Nat → AV) (H : Ab) : Ak Ar p Sx 239 n (cd Rn [1, 1, 0, 1, 0, 0]) (tf 239 0 t) H (Em (fun tm H => I5 p n  k m0 (gt tm 2) (gt tm 3) (gt tm 5) H) (E3 0 (Em (fun tm H => Ak Ar p Sx 239 n (cd Rn [1, 1, 1]) tm H (Cz Ar p fi120.results k)) (Cz Ar p fi120.results k)))) =
 p.fadr 22 (t 2) fun t34 =>
 p.load false 1 t34 H fun t35 =>
 p.len t35 fun t36 =>
 p.bin .lss (t 5) t36 fun t37 =>
 p.cond t37
 (p.fadr 22 (t 2) fun t40 =>
 p.load false 1 t40 H fun t41 =>
 p.iadr 2 t41 (t 5) fun t43 =>
 p.load true 2 t43 H fun t44 =>
 p.fadr 22 (t 3) fun t45 =>
 p.load false 1 t45 H fun t46 =>
 p.iadr 2 t46 (t 5) fun t48 =>
 p.load true 2 t48 H fun t49 =>
 p.binA .neq [1, 0] t44 t49 fun t50 =>
 p.cond t50
 (k bF H)
 (p.bin .add (t 5) (si 1) fun t39 =>
 I5 p n  k m0 (t 2) (t 3) t39 H))
 (Aav p n  k n (tf 239 0 (ud [(6, i0), (33, (t 5)), (34, t34), (35, t35), (36, t36), (37, t37)] t)) H) := by kernel_rfl
theorem Y6 (p : Pr β) (n : Nat)  (k : KO β) (m0 : Nat) : ∀ (t : Nat → AV) (H : Ab), Aau p n  k m0 (tf 239 0 t) H = I5 p n  k m0 (t 2) (t 3) (t 5) H := by
 induction m0 with
 | zero => intros; rfl
 | succ m0 ih =>
  intro t H
  refine Eq.trans (B8 (nt := 239) (m := m0) (g := fun t H => I5 p n  k m0 (t 2) (t 3) (t 5) H) ih rfl) ?_
  refine Eq.trans (Vh p n  k m0 t H) ?_
  simp only [Rx]
  kernel_rfl
theorem AcN (p : Pr β) (n : Nat) (a0 a1 : AV) (H : Ab) (k : KO β) : Cf Ar p n fi120 [a0, a1] H k =
 p.box a0 H fun t2 H =>
 p.box a1 H fun t3 H =>
 p.fadr 22 t2 fun t8 =>
 p.load false 1 t8 H fun t9 =>
 p.len t9 fun t10 =>
 p.fadr 22 t3 fun t11 =>
 p.load false 1 t11 H fun t12 =>
 p.len t12 fun t13 =>
 p.bin .neq t10 t13 fun t14 =>
 p.gF t14 H (p.fadr 23 t2) fun t16 H =>
 p.gF t14 H (p.load false 1 t16 H) fun t17 H =>
 p.gF t14 H (p.len t17) fun t18 H =>
 p.gF t14 H (p.fadr 23 t3) fun t19 H =>
 p.gF t14 H (p.load false 1 t19 H) fun t20 H =>
 p.gF t14 H (p.len t20) fun t21 H =>
 p.gF t14 H (p.bin .neq t18 t21) fun t22 H =>
 p.pick t14 bT t22 fun t23 =>
 p.gF t23 H (p.fadr 24 t2) fun t25 H =>
 p.gF t23 H (p.load false 1 t25 H) fun t26 H =>
 p.gF t23 H (p.len t26) fun t27 H =>
 p.gF t23 H (p.fadr 24 t3) fun t28 H =>
 p.gF t23 H (p.load false 1 t28 H) fun t29 H =>
 p.gF t23 H (p.len t29) fun t30 H =>
 p.gF t23 H (p.bin .neq t27 t30) fun t31 H =>
 p.pick t23 bT t31 fun t32 =>
 p.cond t32
 (k bF H)
 (Aau p n  k n (tf 239 0 (ud [(0, a0), (1, a1), (2, t2), (3, t3), (4, bF), (5, i0), (8, t8), (9, t9), (10, t10), (11, t11), (12, t12), (13, t13), (14, t14), (15, t14), (16, t16), (17, t17), (18, t18), (19, t19), (20, t20), (21, t21), (22, t22), (23, t23), (24, t23), (25, t25), (26, t26), (27, t27), (28, t28), (29, t29), (30, t30), (31, t31), (32, t32)] ut)) H) := by kernel_rfl
theorem Aby : Pi fi120 @f120 := fun p n a0 a1 H k => by
 rw [AcN]
 simp only [Rz, Rx, Y6]
 kernel_rfl
noncomputable def Aax (p : Pr β) (n : Nat)  (k : KO β) : Nat → AV → AV → KO β
 | 0, _, _, _, _ => none
 | m + 1, t0, t3, t4, H => p.len t3 fun t9 =>
   p.bin .lss t4 t9 fun t10 =>
   p.cond t10
   (p.iadr 1 t3 t4 fun t15 =>
   p.load false 1 t15 H fun t16 =>
   p.ca 4 114 [t16, (su 43)] H fun t17 H =>
   p.kT t17 H t3 fun t19 H =>
   p.kT t17 H t4 fun t20 H =>
   p.gT t17 H (p.iadr 1 t19 t20) fun t21 H =>
   p.gT t17 H (p.load false 1 t21 H) fun t22 H =>
   p.gT t17 H (p.bin .neq t22 (.sc (.string ⟨#[43]⟩))) fun t23 H =>
   p.pick t17 t23 bF fun t24 =>
   p.kF t24 H t3 fun t26 H =>
   p.kF t24 H t4 fun t27 H =>
   p.gF t24 H (p.iadr 1 t26 t27) fun t28 H =>
   p.gF t24 H (p.load false 1 t28 H) fun t29 H =>
   p.hF t24 H (p.ca 4 114 [t29, (su 35)] H) fun t30 H =>
   p.kF t24 H t30 fun t31 H =>
   p.kT t31 H t3 fun t32 H =>
   p.kT t31 H t4 fun t33 H =>
   p.gT t31 H (p.iadr 1 t32 t33) fun t34 H =>
   p.gT t31 H (p.load false 1 t34 H) fun t35 H =>
   p.gT t31 H (p.bin .neq t35 (.sc (.string ⟨#[35]⟩))) fun t36 H =>
   p.kT t31 H t36 fun t37 H =>
   p.kF t37 H t4 fun t38 H =>
   p.kF t37 H t3 fun t39 H =>
   p.gF t37 H (p.len t39) fun t40 H =>
   p.gF t37 H (p.bin .sub t40 (si 1)) fun t41 H =>
   p.gF t37 H (p.bin .lss t38 t41) fun t42 H =>
   p.gT t31 H (p.pick t37 bT t42) fun t43 H =>
   p.gF t24 H (p.pick t31 t43 bF) fun t44 H =>
   p.pick t24 bT t44 fun t45 =>
   p.cond t45
   (k bF H)
   (p.bin .add t4 (si 1) fun t12 =>
   Aax p n  k m t0 t3 t12 H))
   (p.ca 4 82 [t0] H fun t47 H =>
   p.kT t47 H t0 fun t49 H =>
   p.gT t47 H (p.bin .neq t49 sE) fun t50 H =>
   p.pick t47 t50 bF fun t51 =>
   p.kT t51 H t3 fun t53 H =>
   p.gT t51 H (p.len t53) fun t54 H =>
   p.gT t51 H (p.bin .leq t54 (si 6)) fun t55 H =>
   p.pick t51 t55 bF fun t56 =>
   k t56 H)
noncomputable def f122 (n : Nat) (a0 : AV) (H : Ab) (k : KO β) : Option β :=
 p.call 38 (.fn 115 [] []) [a0] H fun t6 H =>
 Aax p n  k n a0 t6 i0 H
noncomputable def Oj (p : Pr β) (n : Nat)  (k : KO β) : Nat → AV → AV → KO β
 | 0, _, _, _, _ => none
 | m + 1, t1, t3, t4, H => p.fadr 22 t1 fun t105 =>
   p.load false 1 t105 H fun t106 =>
   p.len t106 fun t107 =>
   p.bin .lss t4 t107 fun t108 =>
   p.cond t108
   (p.fadr 22 t1 fun t111 =>
   p.load false 1 t111 H fun t112 =>
   p.iadr 2 t112 t4 fun t114 =>
   p.fl 0 t114 1 H fun t116 =>
   p.ca 4 122 [t116] H fun t117 H =>
   p.un .not t117 fun t118 =>
   p.lF t118 H 22 t1 1 fun t121 H =>
   p.kF t118 H t4 fun t122 H =>
   p.gF t118 H (p.iadr 2 t121 t122) fun t123 H =>
   p.lF t118 H 1 t123 1 fun t125 H =>
   p.hF t118 H (p.ca 4 50 [t125, i0, (si 2)] H) fun t126 H =>
   p.gF t118 H (p.un .not t126) fun t127 H =>
   p.pick t118 bT t127 fun t128 =>
   p.cond t128
   (k bF H)
   (p.bin .add t4 (si 1) fun t110 =>
   Oj p n  k m t1 t3 t110 H))
   (p.gT t3 H (p.fadr 22 t1) fun t131 H =>
   p.gT t3 H (p.load false 1 t131 H) fun t132 H =>
   p.gT t3 H (p.len t132) fun t133 H =>
   p.hT t3 H (p.ca 4 50 [t133, (si 1), (si 4)] H) fun t134 H =>
   p.pick t3 t134 bF fun t135 =>
   k t135 H)
noncomputable def Ok (p : Pr β) (n : Nat)  (k : KO β) : Nat → AV → AV → KO β
 | 0, _, _, _, _ => none
 | m + 1, t1, t3, t5, H => p.fadr 24 t1 fun t139 =>
   p.load false 1 t139 H fun t140 =>
   p.len t140 fun t141 =>
   p.bin .lss t5 t141 fun t142 =>
   p.cond t142
   (p.fadr 24 t1 fun t145 =>
   p.load false 1 t145 H fun t146 =>
   p.iadr 1 t146 t5 fun t148 =>
   p.load false 1 t148 H fun t149 =>
   p.ca 4 50 [t149, i0, (si 2)] H fun t150 H =>
   p.un .not t150 fun t151 =>
   p.lT t151 H 24 t1 1 fun t154 H =>
   p.kT t151 H t5 fun t155 H =>
   p.gT t151 H (p.iadr 1 t154 t155) fun t156 H =>
   p.gT t151 H (p.load false 1 t156 H) fun t157 H =>
   p.gT t151 H (p.bin .neq t157 (si 128)) fun t158 H =>
   p.pick t151 t158 bF fun t159 =>
   p.cond t159
   (k bF H)
   (p.bin .add t5 (si 1) fun t144 =>
   Ok p n  k m t1 t3 t144 H))
   (p.gT t3 H (p.fadr 24 t1) fun t162 H =>
   p.gT t3 H (p.load false 1 t162 H) fun t163 H =>
   p.gT t3 H (p.len t163) fun t164 H =>
   p.hT t3 H (p.ca 4 50 [t164, (si 1), (si 4)] H) fun t165 H =>
   p.pick t3 t165 bF fun t166 =>
   k t166 H)
noncomputable def Ol (p : Pr β) (n : Nat)  (k : KO β) : Nat → AV → AV → KO β
 | 0, _, _, _, _ => none
 | m + 1, t1, t3, t6, H => p.fadr 23 t1 fun t170 =>
   p.load false 1 t170 H fun t171 =>
   p.len t171 fun t172 =>
   p.bin .lss t6 t172 fun t173 =>
   p.cond t173
   (p.fadr 23 t1 fun t176 =>
   p.load false 1 t176 H fun t177 =>
   p.iadr 1 t177 t6 fun t179 =>
   p.load false 1 t179 H fun t180 =>
   p.ca 4 122 [t180] H fun t181 H =>
   p.un .not t181 fun t182 =>
   p.cond t182
   (k bF H)
   (p.bin .add t6 (si 1) fun t175 =>
   Ol p n  k m t1 t3 t175 H))
   (p.gT t3 H (p.fadr 23 t1) fun t185 H =>
   p.gT t3 H (p.load false 1 t185 H) fun t186 H =>
   p.gT t3 H (p.len t186) fun t187 H =>
   p.hT t3 H (p.ca 4 50 [t187, (si 1), (si 4)] H) fun t188 H =>
   p.pick t3 t188 bF fun t189 =>
   k t189 H)
noncomputable def f102 (n : Nat) (a0 : AV) (H : Ab) (k : KO β) : Option β :=
 p.box a0 H fun t1 H =>
 p.fl 0 t1 1 H fun t8 =>
 p.ca 4 50 [t8, (si 1), (si 14)] H fun t9 H =>
 p.un .not t9 fun t10 =>
 p.gF t10 H (p.load true 25 t1 H) fun t13 H =>
 p.both
 (p.gF t10 H (p.load true 25 t1 H) fun t12 H =>
 p.hF t10 H (p.ca 41 121 [t13] H) fun t14 H =>
 p.hF t10 H (p.ca 4 120 [t12, t14] H) fun t15 H =>
 p.gF t10 H (p.un .not t15) fun t16 H =>
 p.pick t10 bT t16 fun t17 =>
 p.cond t17
 (k bF H)
 (p.fadr 4 t1 fun t18 =>
 p.load false 1 t18 H fun t19 =>
 p.ca 4 50 [t19, (si 1), (si 65535)] H fun t20 H =>
 p.fl 0 t1 1 H fun t22 =>
 p.bin .eql t22 (si 1) fun t24 =>
 p.cond t24
 (p.fadr 11 t1 fun t25 =>
 p.load false 1 t25 H fun t26 =>
 p.lT t26 H 12 t1 1 fun t29 H =>
 p.hT t26 H (p.ca 4 92 [t29] H) fun t30 H =>
 p.gT t26 H (p.un .not t30) fun t31 H =>
 p.kT t26 H t31 fun t32 H =>
 p.lF t32 H 13 t1 1 fun t34 H =>
 p.gF t32 H (p.len t34) fun t35 H =>
 p.gF t32 H (p.bin .gtr t35 (si 40)) fun t36 H =>
 p.gT t26 H (p.pick t32 bT t36) fun t37 H =>
 p.kT t26 H t37 fun t38 H =>
 p.lF t38 H 14 t1 1 fun t40 H =>
 p.hF t38 H (p.ca 4 50 [t40, i0, (si 2)] H) fun t41 H =>
 p.gF t38 H (p.un .not t41) fun t42 H =>
 p.gT t26 H (p.pick t38 bT t42) fun t43 H =>
 p.pick t26 t43 bF fun t44 =>
 p.cond t44
 (k bF H)
 (p.fadr 8 t1 fun t45 =>
 p.load false 1 t45 H fun t46 =>
 p.ca 4 50 [t46, i0, (si 255)] H fun t47 H =>
 p.lT t47 H 7 t1 1 fun t50 H =>
 p.hT t47 H (p.ca 4 82 [t50] H) fun t51 H =>
 p.pick t47 t51 bF fun t52 =>
 p.lT t52 H 10 t1 1 fun t55 H =>
 p.hT t52 H (p.ca 4 50 [t55, i0, (si 65535)] H) fun t56 H =>
 p.pick t52 t56 bF fun t57 =>
 p.lT t57 H 17 t1 1 fun t60 H =>
 p.hT t57 H (p.ca 4 82 [t60] H) fun t61 H =>
 p.pick t57 t61 bF fun t62 =>
 p.lT t62 H 19 t1 1 fun t65 H =>
 p.gT t62 H (p.len t65) fun t66 H =>
 p.gT t62 H (p.bin .leq t66 (si 60)) fun t67 H =>
 p.pick t62 t67 bF fun t68 =>
 k t68 H))
 (p.bin .eql t22 (si 2) fun t70 =>
 p.cond t70
 (p.fadr 20 t1 fun t71 =>
 p.load false 1 t71 H fun t72 =>
 p.ca 4 50 [t72, i0, (si 5)] H fun t73 H =>
 k t73 H)
 (p.bin .eql t22 (si 3) fun t75 =>
 p.cond t75
 (p.fadr 2 t1 fun t76 =>
 p.load false 1 t76 H fun t77 =>
 p.ca 4 50 [t77, i0, (si 2)] H fun t78 H =>
 p.lT t78 H 2 t1 1 fun t81 H =>
 p.gT t78 H (p.bin .eql t81 i0) fun t82 H =>
 p.kT t78 H t82 fun t83 H =>
 p.kF t83 H t20 fun t84 H =>
 p.gT t78 H (p.pick t83 bT t84) fun t85 H =>
 p.pick t78 t85 bF fun t86 =>
 p.lT t86 H 5 t1 1 fun t89 H =>
 p.hT t86 H (p.ca 4 92 [t89] H) fun t90 H =>
 p.pick t86 t90 bF fun t91 =>
 p.lT t91 H 6 t1 1 fun t94 H =>
 p.gT t91 H (p.len t94) fun t95 H =>
 p.gT t91 H (p.bin .leq t95 (si 40)) fun t96 H =>
 p.pick t91 t96 bF fun t97 =>
 k t97 H)
 (p.bin .eql t22 (si 12) fun t99 =>
 Le (fun (t1 t3 t22 t98 : AV) (H : Ab) => p.cond t98
 (k bT H)
 (p.bin .eql t22 (si 8) fun t103 =>
 p.cond t103
 (Oj p n  k n t1 t3 i0 H)
 (p.bin .eql t22 (si 9) fun t137 =>
 p.cond t137
 (Ok p n  k n t1 t3 i0 H)
 (p.bin .eql t22 (si 10) fun t168 =>
 p.cond t168
 (Ol p n  k n t1 t3 i0 H)
 (k t3 H))))) fun j1 =>
 p.cond t99
 (j1 t1 t20 t22 t99 H)
 (p.bin .eql t22 (si 13) fun t100 =>
 p.cond t100
 (j1 t1 t20 t22 t100 H)
 (p.bin .eql t22 (si 14) fun t101 =>
 j1 t1 t20 t22 t101 H)))))))
 (p.hF t10 H (p.ca 41 121 [t13] H) fun t14 H =>
 p.gF t10 H (p.load true 25 t1 H) fun t12 H =>
 p.hF t10 H (p.ca 4 120 [t12, t14] H) fun t15 H =>
 p.gF t10 H (p.un .not t15) fun t16 H =>
 p.pick t10 bT t16 fun t17 =>
 p.cond t17
 (k bF H)
 (p.fadr 4 t1 fun t18 =>
 p.load false 1 t18 H fun t19 =>
 p.ca 4 50 [t19, (si 1), (si 65535)] H fun t20 H =>
 p.fl 0 t1 1 H fun t22 =>
 p.bin .eql t22 (si 1) fun t24 =>
 p.cond t24
 (p.fadr 11 t1 fun t25 =>
 p.load false 1 t25 H fun t26 =>
 p.lT t26 H 12 t1 1 fun t29 H =>
 p.hT t26 H (p.ca 4 92 [t29] H) fun t30 H =>
 p.gT t26 H (p.un .not t30) fun t31 H =>
 p.kT t26 H t31 fun t32 H =>
 p.lF t32 H 13 t1 1 fun t34 H =>
 p.gF t32 H (p.len t34) fun t35 H =>
 p.gF t32 H (p.bin .gtr t35 (si 40)) fun t36 H =>
 p.gT t26 H (p.pick t32 bT t36) fun t37 H =>
 p.kT t26 H t37 fun t38 H =>
 p.lF t38 H 14 t1 1 fun t40 H =>
 p.hF t38 H (p.ca 4 50 [t40, i0, (si 2)] H) fun t41 H =>
 p.gF t38 H (p.un .not t41) fun t42 H =>
 p.gT t26 H (p.pick t38 bT t42) fun t43 H =>
 p.pick t26 t43 bF fun t44 =>
 p.cond t44
 (k bF H)
 (p.fadr 8 t1 fun t45 =>
 p.load false 1 t45 H fun t46 =>
 p.ca 4 50 [t46, i0, (si 255)] H fun t47 H =>
 p.lT t47 H 7 t1 1 fun t50 H =>
 p.hT t47 H (p.ca 4 82 [t50] H) fun t51 H =>
 p.pick t47 t51 bF fun t52 =>
 p.lT t52 H 10 t1 1 fun t55 H =>
 p.hT t52 H (p.ca 4 50 [t55, i0, (si 65535)] H) fun t56 H =>
 p.pick t52 t56 bF fun t57 =>
 p.lT t57 H 17 t1 1 fun t60 H =>
 p.hT t57 H (p.ca 4 82 [t60] H) fun t61 H =>
 p.pick t57 t61 bF fun t62 =>
 p.lT t62 H 19 t1 1 fun t65 H =>
 p.gT t62 H (p.len t65) fun t66 H =>
 p.gT t62 H (p.bin .leq t66 (si 60)) fun t67 H =>
 p.pick t62 t67 bF fun t68 =>
 k t68 H))
 (p.bin .eql t22 (si 2) fun t70 =>
 p.cond t70
 (p.fadr 20 t1 fun t71 =>
 p.load false 1 t71 H fun t72 =>
 p.ca 4 50 [t72, i0, (si 5)] H fun t73 H =>
 k t73 H)
 (p.bin .eql t22 (si 3) fun t75 =>
 p.cond t75
 (p.fadr 2 t1 fun t76 =>
 p.load false 1 t76 H fun t77 =>
 p.ca 4 50 [t77, i0, (si 2)] H fun t78 H =>
 p.lT t78 H 2 t1 1 fun t81 H =>
 p.gT t78 H (p.bin .eql t81 i0) fun t82 H =>
 p.kT t78 H t82 fun t83 H =>
 p.kF t83 H t20 fun t84 H =>
 p.gT t78 H (p.pick t83 bT t84) fun t85 H =>
 p.pick t78 t85 bF fun t86 =>
 p.lT t86 H 5 t1 1 fun t89 H =>
 p.hT t86 H (p.ca 4 92 [t89] H) fun t90 H =>
 p.pick t86 t90 bF fun t91 =>
 p.lT t91 H 6 t1 1 fun t94 H =>
 p.gT t91 H (p.len t94) fun t95 H =>
 p.gT t91 H (p.bin .leq t95 (si 40)) fun t96 H =>
 p.pick t91 t96 bF fun t97 =>
 k t97 H)
 (p.bin .eql t22 (si 12) fun t99 =>
 Le (fun (t1 t3 t22 t98 : AV) (H : Ab) => p.cond t98
 (k bT H)
 (p.bin .eql t22 (si 8) fun t103 =>
 p.cond t103
 (Oj p n  k n t1 t3 i0 H)
 (p.bin .eql t22 (si 9) fun t137 =>
 p.cond t137
 (Ok p n  k n t1 t3 i0 H)
 (p.bin .eql t22 (si 10) fun t168 =>
 p.cond t168
 (Ol p n  k n t1 t3 i0 H)
 (k t3 H))))) fun j2 =>
 p.cond t99
 (j2 t1 t20 t22 t99 H)
 (p.bin .eql t22 (si 13) fun t100 =>
 p.cond t100
 (j2 t1 t20 t22 t100 H)
 (p.bin .eql t22 (si 14) fun t101 =>
 j2 t1 t20 t22 t101 H)))))))
noncomputable def Ve (p : Pr β) (n : Nat)  (k : KO β) (m : Nat) (tm : Tm) (H : Ab) : Option β :=
 D3 191 (fun tm H k => Ak Ar p P0 191 n (cd Pp [1, 1, 1, 0, 1, 0, 1, 2, 1, 2, 1, 2, 1, 2, 1, 1, 0, 1, 0, 0]) tm H k) (E3 1 (Em (fun tm H => Ak Ar p P0 191 n (cd Pp [1, 1, 1, 0, 1, 0, 1, 2, 1, 2, 1, 2, 1, 2, 1, 1, 1]) tm H (E3 0 (Em (fun tm H => Ak Ar p P0 191 n (cd Pp [1, 1, 1, 1]) tm H (Cz Ar p fi102.results k)) (Cz Ar p fi102.results k)))) (E3 0 (Em (fun tm H => Ak Ar p P0 191 n (cd Pp [1, 1, 1, 1]) tm H (Cz Ar p fi102.results k)) (Cz Ar p fi102.results k))))) m tm H
noncomputable def Vf (p : Pr β) (n : Nat)  (k : KO β) (m : Nat) (tm : Tm) (H : Ab) : Option β :=
 D3 191 (fun tm H k => Ak Ar p P0 191 n (cd Pp [1, 1, 1, 0, 1, 0, 1, 2, 1, 2, 1, 2, 1, 2, 1, 2, 1, 1, 0, 1, 0, 0]) tm H k) (E3 3 (Em (fun tm H => Ak Ar p P0 191 n (cd Pp [1, 1, 1, 0, 1, 0, 1, 2, 1, 2, 1, 2, 1, 2, 1, 2, 1, 1, 1]) tm H (E3 0 (Em (fun tm H => Ak Ar p P0 191 n (cd Pp [1, 1, 1, 1]) tm H (Cz Ar p fi102.results k)) (Cz Ar p fi102.results k)))) (E3 0 (Em (fun tm H => Ak Ar p P0 191 n (cd Pp [1, 1, 1, 1]) tm H (Cz Ar p fi102.results k)) (Cz Ar p fi102.results k))))) m tm H
noncomputable def Vg (p : Pr β) (n : Nat)  (k : KO β) (m : Nat) (tm : Tm) (H : Ab) : Option β :=
 D3 191 (fun tm H k => Ak Ar p P0 191 n (cd Pp [1, 1, 1, 0, 1, 0, 1, 2, 1, 2, 1, 2, 1, 2, 1, 2, 1, 2, 1, 1, 0, 1, 0, 0]) tm H k) (E3 5 (Em (fun tm H => Ak Ar p P0 191 n (cd Pp [1, 1, 1, 0, 1, 0, 1, 2, 1, 2, 1, 2, 1, 2, 1, 2, 1, 2, 1, 1, 1]) tm H (E3 0 (Em (fun tm H => Ak Ar p P0 191 n (cd Pp [1, 1, 1, 1]) tm H (Cz Ar p fi102.results k)) (Cz Ar p fi102.results k)))) (E3 0 (Em (fun tm H => Ak Ar p P0 191 n (cd Pp [1, 1, 1, 1]) tm H (Cz Ar p fi102.results k)) (Cz Ar p fi102.results k))))) m tm H
theorem Yx (p : Pr β) (n : Nat)  (k : KO β) (m0 : Nat) : ∀ (t : Nat → AV) (H : Ab), Ve p n  k m0 (tf 191 0 t) H = Oj p n  k m0 (t 1) (t 3) (t 4) H := by
 induction m0 with
 | zero => intros; rfl
 | succ m0 ih =>
  intro t H
  refine Eq.trans (B8 (nt := 191) (m := m0) (g := fun t H => Oj p n  k m0 (t 1) (t 3) (t 4) H) ih rfl) ?_
  kernel_rfl
theorem Yy (p : Pr β) (n : Nat)  (k : KO β) (m1 : Nat) : ∀ (t : Nat → AV) (H : Ab), Vf p n  k m1 (tf 191 0 t) H = Ok p n  k m1 (t 1) (t 3) (t 5) H := by
 induction m1 with
 | zero => intros; rfl
 | succ m1 ih =>
  intro t H
  refine Eq.trans (B8 (nt := 191) (m := m1) (g := fun t H => Ok p n  k m1 (t 1) (t 3) (t 5) H) ih rfl) ?_
  kernel_rfl
theorem Yz (p : Pr β) (n : Nat)  (k : KO β) (m2 : Nat) : ∀ (t : Nat → AV) (H : Ab), Vg p n  k m2 (tf 191 0 t) H = Ol p n  k m2 (t 1) (t 3) (t 6) H := by
 induction m2 with
 | zero => intros; rfl
 | succ m2 ih =>
  intro t H
  refine Eq.trans (B8 (nt := 191) (m := m2) (g := fun t H => Ol p n  k m2 (t 1) (t 3) (t 6) H) ih rfl) ?_
  kernel_rfl
theorem AcB (p : Pr β) (n : Nat) (a0 : AV) (H : Ab) (k : KO β) : Cf Ar p n fi102 [a0] H k =
 p.box a0 H fun t1 H =>
 p.fadr 0 t1 fun t7 =>
 p.load false 1 t7 H fun t8 =>
 p.call 4 (.fn 50 [] []) [t8, (si 1), (si 14)] H fun t9 H =>
 p.un .not t9 fun t10 =>
 p.gF t10 H (p.load true 25 t1 H) fun t13 H =>
 p.both
 (p.gF t10 H (p.load true 25 t1 H) fun t12 H =>
 p.hF t10 H (p.call 41 (.fn 121 [] []) [t13] H) fun t14 H =>
 p.hF t10 H (p.call 4 (.fn 120 [] []) [t12, t14] H) fun t15 H =>
 p.gF t10 H (p.un .not t15) fun t16 H =>
 p.pick t10 bT t16 fun t17 =>
 p.cond t17
 (k bF H)
 (p.fadr 4 t1 fun t18 =>
 p.load false 1 t18 H fun t19 =>
 p.call 4 (.fn 50 [] []) [t19, (si 1), (si 65535)] H fun t20 H =>
 p.fadr 0 t1 fun t21 =>
 p.load false 1 t21 H fun t22 =>
 p.bin .eql t22 (si 1) fun t24 =>
 p.cond t24
 (p.fadr 11 t1 fun t25 =>
 p.load false 1 t25 H fun t26 =>
 p.gT t26 H (p.fadr 12 t1) fun t28 H =>
 p.gT t26 H (p.load false 1 t28 H) fun t29 H =>
 p.hT t26 H (p.call 4 (.fn 92 [] []) [t29] H) fun t30 H =>
 p.gT t26 H (p.un .not t30) fun t31 H =>
 p.kT t26 H t31 fun t32 H =>
 p.gF t32 H (p.fadr 13 t1) fun t33 H =>
 p.gF t32 H (p.load false 1 t33 H) fun t34 H =>
 p.gF t32 H (p.len t34) fun t35 H =>
 p.gF t32 H (p.bin .gtr t35 (si 40)) fun t36 H =>
 p.gT t26 H (p.pick t32 bT t36) fun t37 H =>
 p.kT t26 H t37 fun t38 H =>
 p.gF t38 H (p.fadr 14 t1) fun t39 H =>
 p.gF t38 H (p.load false 1 t39 H) fun t40 H =>
 p.hF t38 H (p.call 4 (.fn 50 [] []) [t40, i0, (si 2)] H) fun t41 H =>
 p.gF t38 H (p.un .not t41) fun t42 H =>
 p.gT t26 H (p.pick t38 bT t42) fun t43 H =>
 p.pick t26 t43 bF fun t44 =>
 p.cond t44
 (k bF H)
 (p.fadr 8 t1 fun t45 =>
 p.load false 1 t45 H fun t46 =>
 p.call 4 (.fn 50 [] []) [t46, i0, (si 255)] H fun t47 H =>
 p.gT t47 H (p.fadr 7 t1) fun t49 H =>
 p.gT t47 H (p.load false 1 t49 H) fun t50 H =>
 p.hT t47 H (p.call 4 (.fn 82 [] []) [t50] H) fun t51 H =>
 p.pick t47 t51 bF fun t52 =>
 p.gT t52 H (p.fadr 10 t1) fun t54 H =>
 p.gT t52 H (p.load false 1 t54 H) fun t55 H =>
 p.hT t52 H (p.call 4 (.fn 50 [] []) [t55, i0, (si 65535)] H) fun t56 H =>
 p.pick t52 t56 bF fun t57 =>
 p.gT t57 H (p.fadr 17 t1) fun t59 H =>
 p.gT t57 H (p.load false 1 t59 H) fun t60 H =>
 p.hT t57 H (p.call 4 (.fn 82 [] []) [t60] H) fun t61 H =>
 p.pick t57 t61 bF fun t62 =>
 p.gT t62 H (p.fadr 19 t1) fun t64 H =>
 p.gT t62 H (p.load false 1 t64 H) fun t65 H =>
 p.gT t62 H (p.len t65) fun t66 H =>
 p.gT t62 H (p.bin .leq t66 (si 60)) fun t67 H =>
 p.pick t62 t67 bF fun t68 =>
 k t68 H))
 (p.bin .eql t22 (si 2) fun t70 =>
 p.cond t70
 (p.fadr 20 t1 fun t71 =>
 p.load false 1 t71 H fun t72 =>
 p.call 4 (.fn 50 [] []) [t72, i0, (si 5)] H fun t73 H =>
 k t73 H)
 (p.bin .eql t22 (si 3) fun t75 =>
 p.cond t75
 (p.fadr 2 t1 fun t76 =>
 p.load false 1 t76 H fun t77 =>
 p.call 4 (.fn 50 [] []) [t77, i0, (si 2)] H fun t78 H =>
 p.gT t78 H (p.fadr 2 t1) fun t80 H =>
 p.gT t78 H (p.load false 1 t80 H) fun t81 H =>
 p.gT t78 H (p.bin .eql t81 i0) fun t82 H =>
 p.kT t78 H t82 fun t83 H =>
 p.kF t83 H t20 fun t84 H =>
 p.gT t78 H (p.pick t83 bT t84) fun t85 H =>
 p.pick t78 t85 bF fun t86 =>
 p.gT t86 H (p.fadr 5 t1) fun t88 H =>
 p.gT t86 H (p.load false 1 t88 H) fun t89 H =>
 p.hT t86 H (p.call 4 (.fn 92 [] []) [t89] H) fun t90 H =>
 p.pick t86 t90 bF fun t91 =>
 p.gT t91 H (p.fadr 6 t1) fun t93 H =>
 p.gT t91 H (p.load false 1 t93 H) fun t94 H =>
 p.gT t91 H (p.len t94) fun t95 H =>
 p.gT t91 H (p.bin .leq t95 (si 40)) fun t96 H =>
 p.pick t91 t96 bF fun t97 =>
 k t97 H)
 (p.bin .eql t22 (si 12) fun t99 =>
 Le (fun (t : Nat → AV) (H : Ab) => p.cond (t 98)
 (k bT H)
 (p.bin .eql (t 22) (si 8) fun t103 =>
 p.cond t103
 (Ve p n  k n (tf 191 0 (ud [(4, i0), (102, t103), (103, t103)] t)) H)
 (p.bin .eql (t 22) (si 9) fun t137 =>
 p.cond t137
 (Vf p n  k n (tf 191 0 (ud [(5, i0), (102, t103), (103, t103), (136, t137), (137, t137)] t)) H)
 (p.bin .eql (t 22) (si 10) fun t168 =>
 p.cond t168
 (Vg p n  k n (tf 191 0 (ud [(6, i0), (102, t103), (103, t103), (136, t137), (137, t137), (167, t168), (168, t168)] t)) H)
 (k (t 3) H))))) fun j1 =>
 p.cond t99
 (j1 (ud [(0, a0), (1, t1), (2, bF), (3, t20), (7, t7), (8, t8), (9, t9), (10, t10), (11, t10), (12, t12), (13, t13), (14, t14), (15, t15), (16, t16), (17, t17), (18, t18), (19, t19), (20, t20), (21, t21), (22, t22), (23, t24), (24, t24), (69, t70), (70, t70), (74, t75), (75, t75), (98, t99), (99, t99)] ut) H)
 (p.bin .eql t22 (si 13) fun t100 =>
 p.cond t100
 (j1 (ud [(0, a0), (1, t1), (2, bF), (3, t20), (7, t7), (8, t8), (9, t9), (10, t10), (11, t10), (12, t12), (13, t13), (14, t14), (15, t15), (16, t16), (17, t17), (18, t18), (19, t19), (20, t20), (21, t21), (22, t22), (23, t24), (24, t24), (69, t70), (70, t70), (74, t75), (75, t75), (98, t100), (99, t99), (100, t100)] ut) H)
 (p.bin .eql t22 (si 14) fun t101 =>
 j1 (ud [(0, a0), (1, t1), (2, bF), (3, t20), (7, t7), (8, t8), (9, t9), (10, t10), (11, t10), (12, t12), (13, t13), (14, t14), (15, t15), (16, t16), (17, t17), (18, t18), (19, t19), (20, t20), (21, t21), (22, t22), (23, t24), (24, t24), (69, t70), (70, t70), (74, t75), (75, t75), (98, t101), (99, t99), (100, t100), (101, t101)] ut) H)))))))
 (p.hF t10 H (p.call 41 (.fn 121 [] []) [t13] H) fun t14 H =>
 p.gF t10 H (p.load true 25 t1 H) fun t12 H =>
 p.hF t10 H (p.call 4 (.fn 120 [] []) [t12, t14] H) fun t15 H =>
 p.gF t10 H (p.un .not t15) fun t16 H =>
 p.pick t10 bT t16 fun t17 =>
 p.cond t17
 (k bF H)
 (p.fadr 4 t1 fun t18 =>
 p.load false 1 t18 H fun t19 =>
 p.call 4 (.fn 50 [] []) [t19, (si 1), (si 65535)] H fun t20 H =>
 p.fadr 0 t1 fun t21 =>
 p.load false 1 t21 H fun t22 =>
 p.bin .eql t22 (si 1) fun t24 =>
 p.cond t24
 (p.fadr 11 t1 fun t25 =>
 p.load false 1 t25 H fun t26 =>
 p.gT t26 H (p.fadr 12 t1) fun t28 H =>
 p.gT t26 H (p.load false 1 t28 H) fun t29 H =>
 p.hT t26 H (p.call 4 (.fn 92 [] []) [t29] H) fun t30 H =>
 p.gT t26 H (p.un .not t30) fun t31 H =>
 p.kT t26 H t31 fun t32 H =>
 p.gF t32 H (p.fadr 13 t1) fun t33 H =>
 p.gF t32 H (p.load false 1 t33 H) fun t34 H =>
 p.gF t32 H (p.len t34) fun t35 H =>
 p.gF t32 H (p.bin .gtr t35 (si 40)) fun t36 H =>
 p.gT t26 H (p.pick t32 bT t36) fun t37 H =>
 p.kT t26 H t37 fun t38 H =>
 p.gF t38 H (p.fadr 14 t1) fun t39 H =>
 p.gF t38 H (p.load false 1 t39 H) fun t40 H =>
 p.hF t38 H (p.call 4 (.fn 50 [] []) [t40, i0, (si 2)] H) fun t41 H =>
 p.gF t38 H (p.un .not t41) fun t42 H =>
 p.gT t26 H (p.pick t38 bT t42) fun t43 H =>
 p.pick t26 t43 bF fun t44 =>
 p.cond t44
 (k bF H)
 (p.fadr 8 t1 fun t45 =>
 p.load false 1 t45 H fun t46 =>
 p.call 4 (.fn 50 [] []) [t46, i0, (si 255)] H fun t47 H =>
 p.gT t47 H (p.fadr 7 t1) fun t49 H =>
 p.gT t47 H (p.load false 1 t49 H) fun t50 H =>
 p.hT t47 H (p.call 4 (.fn 82 [] []) [t50] H) fun t51 H =>
 p.pick t47 t51 bF fun t52 =>
 p.gT t52 H (p.fadr 10 t1) fun t54 H =>
 p.gT t52 H (p.load false 1 t54 H) fun t55 H =>
 p.hT t52 H (p.call 4 (.fn 50 [] []) [t55, i0, (si 65535)] H) fun t56 H =>
 p.pick t52 t56 bF fun t57 =>
 p.gT t57 H (p.fadr 17 t1) fun t59 H =>
 p.gT t57 H (p.load false 1 t59 H) fun t60 H =>
 p.hT t57 H (p.call 4 (.fn 82 [] []) [t60] H) fun t61 H =>
 p.pick t57 t61 bF fun t62 =>
 p.gT t62 H (p.fadr 19 t1) fun t64 H =>
 p.gT t62 H (p.load false 1 t64 H) fun t65 H =>
 p.gT t62 H (p.len t65) fun t66 H =>
 p.gT t62 H (p.bin .leq t66 (si 60)) fun t67 H =>
 p.pick t62 t67 bF fun t68 =>
 k t68 H))
 (p.bin .eql t22 (si 2) fun t70 =>
 p.cond t70
 (p.fadr 20 t1 fun t71 =>
 p.load false 1 t71 H fun t72 =>
 p.call 4 (.fn 50 [] []) [t72, i0, (si 5)] H fun t73 H =>
 k t73 H)
 (p.bin .eql t22 (si 3) fun t75 =>
 p.cond t75
 (p.fadr 2 t1 fun t76 =>
 p.load false 1 t76 H fun t77 =>
 p.call 4 (.fn 50 [] []) [t77, i0, (si 2)] H fun t78 H =>
 p.gT t78 H (p.fadr 2 t1) fun t80 H =>
 p.gT t78 H (p.load false 1 t80 H) fun t81 H =>
 p.gT t78 H (p.bin .eql t81 i0) fun t82 H =>
 p.kT t78 H t82 fun t83 H =>
 p.kF t83 H t20 fun t84 H =>
 p.gT t78 H (p.pick t83 bT t84) fun t85 H =>
 p.pick t78 t85 bF fun t86 =>
 p.gT t86 H (p.fadr 5 t1) fun t88 H =>
 p.gT t86 H (p.load false 1 t88 H) fun t89 H =>
 p.hT t86 H (p.call 4 (.fn 92 [] []) [t89] H) fun t90 H =>
 p.pick t86 t90 bF fun t91 =>
 p.gT t91 H (p.fadr 6 t1) fun t93 H =>
 p.gT t91 H (p.load false 1 t93 H) fun t94 H =>
 p.gT t91 H (p.len t94) fun t95 H =>
 p.gT t91 H (p.bin .leq t95 (si 40)) fun t96 H =>
 p.pick t91 t96 bF fun t97 =>
 k t97 H)
 (p.bin .eql t22 (si 12) fun t99 =>
 Le (fun (t : Nat → AV) (H : Ab) => p.cond (t 98)
 (k bT H)
 (p.bin .eql (t 22) (si 8) fun t103 =>
 p.cond t103
 (Ve p n  k n (tf 191 0 (ud [(4, i0), (102, t103), (103, t103)] t)) H)
 (p.bin .eql (t 22) (si 9) fun t137 =>
 p.cond t137
 (Vf p n  k n (tf 191 0 (ud [(5, i0), (102, t103), (103, t103), (136, t137), (137, t137)] t)) H)
 (p.bin .eql (t 22) (si 10) fun t168 =>
 p.cond t168
 (Vg p n  k n (tf 191 0 (ud [(6, i0), (102, t103), (103, t103), (136, t137), (137, t137), (167, t168), (168, t168)] t)) H)
 (k (t 3) H))))) fun j2 =>
 p.cond t99
 (j2 (ud [(0, a0), (1, t1), (2, bF), (3, t20), (7, t7), (8, t8), (9, t9), (10, t10), (11, t10), (12, t12), (13, t13), (14, t14), (15, t15), (16, t16), (17, t17), (18, t18), (19, t19), (20, t20), (21, t21), (22, t22), (23, t24), (24, t24), (69, t70), (70, t70), (74, t75), (75, t75), (98, t99), (99, t99)] ut) H)
 (p.bin .eql t22 (si 13) fun t100 =>
 p.cond t100
 (j2 (ud [(0, a0), (1, t1), (2, bF), (3, t20), (7, t7), (8, t8), (9, t9), (10, t10), (11, t10), (12, t12), (13, t13), (14, t14), (15, t15), (16, t16), (17, t17), (18, t18), (19, t19), (20, t20), (21, t21), (22, t22), (23, t24), (24, t24), (69, t70), (70, t70), (74, t75), (75, t75), (98, t100), (99, t99), (100, t100)] ut) H)
 (p.bin .eql t22 (si 14) fun t101 =>
 j2 (ud [(0, a0), (1, t1), (2, bF), (3, t20), (7, t7), (8, t8), (9, t9), (10, t10), (11, t10), (12, t12), (13, t13), (14, t14), (15, t15), (16, t16), (17, t17), (18, t18), (19, t19), (20, t20), (21, t21), (22, t22), (23, t24), (24, t24), (69, t70), (70, t70), (74, t75), (75, t75), (98, t101), (99, t99), (100, t100), (101, t101)] ut) H))))))) := by kernel_rfl
theorem Abk : Jr fi102 @f102 := fun p n a0 H k => by
 rw [AcB]
 simp only [Yx, Yy, Yz]
 kernel_rfl
noncomputable def f65 (n : Nat) (a0 a1 : AV) (H : Ab) (k : KO β) : Option β :=
 p.new Hl H fun t4 H =>
 p.fill Hl [(0, 1, a0), (4, 1, a1)] fun ct8 =>
 p.new Hl H fun t5 H =>
 p.store 25 t5 (.agg ct8) H fun H =>
 p.ca 4 50 [a0, (si 4), (si 7)] H fun t10 H =>
 p.un .not t10 fun t11 =>
 p.kT t11 H a0 fun t13 H =>
 p.gT t11 H (p.bin .neq t13 (si 11)) fun t14 H =>
 p.pick t11 t14 bF fun t15 =>
 p.gF t15 H (p.load true 25 t5 H) fun t17 H =>
 p.hF t15 H (p.ca 4 102 [t17] H) fun t18 H =>
 p.gF t15 H (p.un .not t18) fun t19 H =>
 p.pick t15 bT t19 fun t20 =>
 p.cond t20
 (p.fill Hl [] fun ct21 =>
 p.store 25 t4 (.agg ct21) H fun H =>
 p.load true 25 t4 H fun r0 =>
 k r0 H)
 (p.load true 25 t5 H fun t22 =>
 p.store 25 t4 t22 H fun H =>
 p.load true 25 t4 H fun r0 =>
 k r0 H)
theorem Ad7 : Pi Ajn @f65 := fun p n a0 a1 H k => by kernel_rfl
noncomputable def Mq (p : Pr β) (n : Nat)  (k : KO β) : Nat → AV → AV → AV → AV → AV → AV → KO β
 | 0, _, _, _, _, _, _, _, _ => none
 | m + 1, t1, t2, t3, t6, t7, t9, t10, H => p.fadr 1 t3 fun t20 =>
   p.load false 1 t20 H fun t21 =>
   p.len t21 fun t22 =>
   p.bin .lss t10 t22 fun t23 =>
   p.cond t23
   (p.fadr 1 t3 fun t26 =>
   p.load false 1 t26 H fun t27 =>
   p.iadr 6 t27 t10 fun t29 =>
   p.load true 6 t29 H fun t30 =>
   p.new [i0, sE, .nl, i0, bF, i0] H fun t11 H =>
   p.store 6 t11 t30 H fun H =>
   p.fl 0 t11 1 H fun t32 =>
   p.bin .neq t32 t2 fun t34 =>
   p.cond t34
   (p.bin .add t10 (si 1) fun t25 =>
   Mq p n  k m t1 t2 t3 t6 t7 t9 t25 H)
   (p.bin .eql t1 (si 4) fun t36 =>
   p.lT t36 H 5 t11 1 fun t39 H =>
   p.gT t36 H (p.bin .eql t39 (si 1)) fun t40 H =>
   p.pick t36 t40 bF fun t41 =>
   p.kF t41 H t1 fun t43 H =>
   p.gF t41 H (p.bin .eql t43 (si 7)) fun t44 H =>
   p.kF t41 H t44 fun t45 H =>
   p.lT t45 H 5 t11 1 fun t47 H =>
   p.gT t45 H (p.bin .eql t47 (si 3)) fun t48 H =>
   p.gF t41 H (p.pick t45 t48 bF) fun t49 H =>
   p.pick t41 bT t49 fun t50 =>
   p.cond t50
   (p.fadr 1 t9 fun t51 =>
   p.load false 1 t51 H fun t52 =>
   p.slice 6 t52 none (some t10) fun t54 =>
   p.fl 1 t9 1 H fun t56 =>
   p.bin .add t10 (si 1) fun t58 =>
   p.slice 6 t56 (some t58) none fun t59 =>
   p.app 6 72 t54 t59 H fun t60 H =>
   p.fs 1 t9 1 t60 H fun H =>
   p.load true 3 t9 H fun t62 =>
   p.fill Hl [] fun ct63 =>
   p.store 3 t6 t62 H fun H =>
   p.store 25 t7 (.agg ct63) H fun H =>
   p.load true 3 t6 H fun r0 =>
   p.load true 25 t7 H fun r1 =>
   k (Cu [r0, r1, bT]) H)
   (p.bin .eql t1 (si 5) fun t65 =>
   p.lT t65 H 5 t11 1 fun t68 H =>
   p.gT t65 H (p.bin .neq t68 (si 1)) fun t69 H =>
   p.pick t65 t69 bF fun t70 =>
   p.cond t70
   (p.fadr 1 t9 fun t71 =>
   p.load false 1 t71 H fun t72 =>
   p.iadr 6 t72 t10 fun t74 =>
   p.fs 5 t74 1 (si 3) H fun H =>
   p.load true 3 t9 H fun t76 =>
   p.ca 41 65 [(si 6), t2] H fun t78 H =>
   p.store 3 t6 t76 H fun H =>
   p.store 25 t7 t78 H fun H =>
   p.load true 3 t6 H fun r0 =>
   p.load true 25 t7 H fun r1 =>
   k (Cu [r0, r1, bT]) H)
   (p.bin .add t10 (si 1) fun t25 =>
   Mq p n  k m t1 t2 t3 t6 t7 t9 t25 H))))
   (p.load true 3 t9 H fun t79 =>
   p.fill Hl [] fun ct80 =>
   p.store 3 t6 t79 H fun H =>
   p.store 25 t7 (.agg ct80) H fun H =>
   p.load true 3 t6 H fun r0 =>
   p.load true 25 t7 H fun r1 =>
   k (Cu [r0, r1, bF]) H)
noncomputable def f16 (n : Nat) (a0 a1 a2 : AV) (H : Ab) (k : KO β) : Option β :=
 p.box a0 H fun t3 H =>
 p.new [i0, .nl, .nl] H fun t6 H =>
 p.new Hl H fun t7 H =>
 p.load true 3 t3 H fun t12 =>
 p.ca 27 64 [t12] H fun t13 H =>
 p.new [i0, .nl, .nl] H fun t9 H =>
 p.store 3 t9 t13 H fun H =>
 p.load true 3 t3 H fun t14 =>
 p.ca 4 11 [t14] H fun t15 H =>
 p.un .not t15 fun t16 =>
 p.cond t16
 (p.load true 3 t9 H fun t17 =>
 p.fill Hl [] fun ct18 =>
 p.store 3 t6 t17 H fun H =>
 p.store 25 t7 (.agg ct18) H fun H =>
 p.load true 3 t6 H fun r0 =>
 p.load true 25 t7 H fun r1 =>
 k (Cu [r0, r1, bF]) H)
 (Mq p n  k n a1 a2 t3 t6 t7 t9 i0 H)
noncomputable def AcW (p : Pr β) (n : Nat)  (k : KO β) (m : Nat) (tm : Tm) (H : Ab) : Option β :=
 D3 81 (fun tm H k => Ak Ar p o16 81 n (cd c16 [1, 1, 1, 0, 1, 0, 0]) tm H k) (E3 0 (Em (fun tm H => Ak Ar p o16 81 n (cd c16 [1, 1, 1, 1]) tm H (Cz Ar p fi16.results k)) (Cz Ar p fi16.results k))) m tm H
theorem Ab8 (p : Pr β) (n : Nat)  (k : KO β) (m0 : Nat) : ∀ (t : Nat → AV) (H : Ab), AcW p n  k m0 (tf 81 0 t) H = Mq p n  k m0 (t 1) (t 2) (t 3) (t 6) (t 7) (t 9) (t 10) H := by
 induction m0 with
 | zero => intros; rfl
 | succ m0 ih =>
  intro t H
  refine Eq.trans (B8 (nt := 81) (m := m0) (g := fun t H => Mq p n  k m0 (t 1) (t 2) (t 3) (t 6) (t 7) (t 9) (t 10) H) ih rfl) ?_
  kernel_rfl
theorem Af1 (p : Pr β) (n : Nat) (a0 a1 a2 : AV) (H : Ab) (k : KO β) : Cf Ar p n fi16 [a0, a1, a2] H k =
 p.box a0 H fun t3 H =>
 p.new [i0, .nl, .nl] H fun t6 H =>
 p.new Hl H fun t7 H =>
 p.load true 3 t3 H fun t12 =>
 p.call 27 (.fn 64 [] []) [t12] H fun t13 H =>
 p.new [i0, .nl, .nl] H fun t9 H =>
 p.store 3 t9 t13 H fun H =>
 p.load true 3 t3 H fun t14 =>
 p.call 4 (.fn 11 [] []) [t14] H fun t15 H =>
 p.un .not t15 fun t16 =>
 p.cond t16
 (p.load true 3 t9 H fun t17 =>
 p.fill Hl [] fun ct18 =>
 p.store 3 t6 t17 H fun H =>
 p.store 25 t7 (.agg ct18) H fun H =>
 p.load true 3 t6 H fun r0 =>
 p.load true 25 t7 H fun r1 =>
 k (Cu [r0, r1, bF]) H)
 (AcW p n  k n (tf 81 0 (ud [(0, a0), (1, a1), (2, a2), (3, t3), (6, t6), (7, t7), (8, bF), (9, t9), (10, i0), (12, t12), (13, t13), (14, t14), (15, t15), (16, t16)] ut)) H) := by kernel_rfl
theorem AcX : Bd3 fi16 @f16 := fun p n a0 a1 a2 H k => by
 rw [Af1]
 simp only [Ab8]
 kernel_rfl
noncomputable def f68 (n : Nat) (a0 a1 : AV) (H : Ab) (k : KO β) : Option β :=
 p.box a1 H fun t3 H =>
 p.call 25 (.fn 100 [] []) [a0] H fun t8 H =>
 p.call 4 (.fn 53 [] []) [a0] H fun t10 H =>
 p.un .not t10 fun t11 =>
 p.gF t11 H (p.load true 4 t3 H) fun t13 H =>
 p.hF t11 H (p.call 4 (.fn 51 [] []) [t13] H) fun t14 H =>
 p.gF t11 H (p.un .not t14) fun t15 H =>
 p.pick t11 bT t15 fun t16 =>
 p.cond t16
 (k (Cu [t8, (si 2)]) H)
 (p.len a0 fun t19 =>
 p.bin .eql t19 (si 6) fun t20 =>
 p.cond t20
 (p.fadr 2 t3 fun t21 =>
 p.load false 1 t21 H fun t22 =>
 p.bin .eql t22 i0 fun t23 =>
 p.cond t23
 (k (Cu [t8, (si 1)]) H)
 (k (Cu [t8, (si 2)]) H))
 (p.load true 4 t3 H fun t27 =>
 p.call 33 (.fn 101 [] []) [t27] H fun t28 H =>
 p.fill [sE, .nl, i0, bF] [(0, 4, t28)] fun ct29 => p.newSl 1 4 ct29 true H fun t29 H =>
 p.app 4 56 t8 t29 H fun t30 H =>
 k (Cu [t30, i0]) H))
theorem AdA : Pi Ajq @f68 := fun p n a0 a1 H k => by kernel_rfl
noncomputable def f19 (n : Nat) (a0 a1 : AV) (H : Ab) (k : KO β) : Option β :=
 p.box a0 H fun t2 H =>
 p.box a1 H fun t3 H =>
 p.new [i0, .nl, .nl] H fun t4 H =>
 p.load true 3 t2 H fun t9 =>
 p.call 27 (.fn 64 [] []) [t9] H fun t10 H =>
 p.new [i0, .nl, .nl] H fun t6 H =>
 p.store 3 t6 t10 H fun H =>
 p.load true 3 t2 H fun t11 =>
 p.call 4 (.fn 11 [] []) [t11] H fun t12 H =>
 p.un .not t12 fun t13 =>
 p.cond t13
 (p.load true 3 t6 H fun t14 =>
 p.store 3 t4 t14 H fun H =>
 p.load true 3 t4 H fun r0 =>
 k (Cu [r0, (si 2)]) H)
 (p.fadr 2 t2 fun t16 =>
 p.load false 1 t16 H fun t17 =>
 p.load true 4 t3 H fun t18 =>
 p.call 90 (.fn 68 [] []) [t17, t18] H fun t19 H =>
 p.extr t19 0 fun t20 =>
 p.extr t19 1 fun t21 =>
 p.fadr 2 t6 fun t23 =>
 p.store 1 t23 t20 H fun H =>
 p.load true 3 t6 H fun t24 =>
 p.store 3 t4 t24 H fun H =>
 p.load true 3 t4 H fun r0 =>
 k (Cu [r0, t21]) H)
theorem Ada : Pi AiS @f19 := fun p n a0 a1 H k => by kernel_rfl
end
section
open Go
variable {β : Type} (p : Pr β)
noncomputable def Mr (p : Pr β) (n : Nat)  (k : KO β) : Nat → AV → AV → AV → KO β
 | 0, _, _, _, _, _ => none
 | m + 1, t0, t2, t3, t6, H => p.bin .gtr t6 i0 fun t57 =>
   p.cond t57
   (p.both
   (p.load true 3 t3 H fun t61 =>
   p.call 33 (.fn 103 [] []) [t0] H fun t63 H =>
   p.call 49 (.fn 19 [] []) [t61, t63] H fun t64 H =>
   p.extr t64 0 fun t65 =>
   p.extr t64 1 fun t66 =>
   p.store 3 t3 t65 H fun H =>
   p.bin .sub t6 (si 1) fun t59 =>
   Mr p n  k m t0 t2 t3 t59 H)
   (p.call 33 (.fn 103 [] []) [t0] H fun t63 H =>
   p.load true 3 t3 H fun t61 =>
   p.call 49 (.fn 19 [] []) [t61, t63] H fun t64 H =>
   p.extr t64 0 fun t65 =>
   p.extr t64 1 fun t66 =>
   p.store 3 t3 t65 H fun H =>
   p.bin .sub t6 (si 1) fun t59 =>
   Mr p n  k m t0 t2 t3 t59 H))
   (p.load true 3 t3 H fun t67 =>
   p.store 3 t2 t67 H fun H =>
   p.load true 3 t2 H fun r0 =>
   k r0 H)
noncomputable def Aw (p : Pr β) (n : Nat)  (k : KO β) : Nat → AV → AV → AV → KO β
 | 0, _, _, _, _, _ => none
 | m + 1, t0, t2, t3, t4, H => p.bin .gtr t4 i0 fun t17 =>
   p.cond t17
   (p.load true 3 t3 H fun t21 =>
   p.call 45 (.fn 113 [] []) [t21] H fun t22 H =>
   p.extr t22 0 fun t23 =>
   p.extr t22 1 fun t24 =>
   p.extr t22 2 fun t25 =>
   p.store 3 t3 t23 H fun H =>
   p.fadr 1 t3 fun t26 =>
   p.load false 1 t26 H fun t27 =>
   p.len t27 fun t28 =>
   p.bin .gtr t28 i0 fun t29 =>
   p.kT t29 H t0 fun t31 H =>
   p.hT t29 H (p.call 4 (.fn 60 [] []) [t31, (si 3)] H) fun t32 H =>
   p.pick t29 t32 bF fun t33 =>
   p.cond t33
   (p.fadr 1 t3 fun t34 =>
   p.fadr 1 t3 fun t37 =>
   p.load false 1 t37 H fun t38 =>
   p.len t38 fun t39 =>
   p.both
   (p.load false 1 t34 H fun t35 =>
   p.both
   (p.call 3 (.fn 59 [] []) [t0, t39] H fun t40 H =>
   p.iadr 6 t35 t40 fun t41 =>
   p.load true 6 t41 H fun t42 =>
   p.new [i0, sE, .nl, i0, bF, i0] H fun t5 H =>
   p.store 6 t5 t42 H fun H =>
   p.fadr 0 t5 fun t48 =>
   p.both
   (p.load true 3 t3 H fun t44 =>
   p.both
   (p.fill [i0, i0, i0] [(0, 1, (si 4)), (1, 1, (si 5)), (2, 1, (si 7))] fun ct46 => p.newSl 3 1 ct46 true H fun t46 H =>
   p.both
   (p.call 3 (.fn 61 [] []) [t0, t46] H fun t47 H =>
   p.load false 1 t48 H fun t49 =>
   p.call 45 (.fn 16 [] []) [t44, t47, t49] H fun t50 H =>
   p.extr t50 0 fun t51 =>
   p.extr t50 1 fun t52 =>
   p.extr t50 2 fun t53 =>
   p.store 3 t3 t51 H fun H =>
   p.bin .sub t4 (si 1) fun t19 =>
   Aw p n  k m t0 t2 t3 t19 H)
   (p.load false 1 t48 H fun t49 =>
   p.call 3 (.fn 61 [] []) [t0, t46] H fun t47 H =>
   p.call 45 (.fn 16 [] []) [t44, t47, t49] H fun t50 H =>
   p.extr t50 0 fun t51 =>
   p.extr t50 1 fun t52 =>
   p.extr t50 2 fun t53 =>
   p.store 3 t3 t51 H fun H =>
   p.bin .sub t4 (si 1) fun t19 =>
   Aw p n  k m t0 t2 t3 t19 H))
   (p.load false 1 t48 H fun t49 =>
   p.fill [i0, i0, i0] [(0, 1, (si 4)), (1, 1, (si 5)), (2, 1, (si 7))] fun ct46 => p.newSl 3 1 ct46 true H fun t46 H =>
   p.call 3 (.fn 61 [] []) [t0, t46] H fun t47 H =>
   p.call 45 (.fn 16 [] []) [t44, t47, t49] H fun t50 H =>
   p.extr t50 0 fun t51 =>
   p.extr t50 1 fun t52 =>
   p.extr t50 2 fun t53 =>
   p.store 3 t3 t51 H fun H =>
   p.bin .sub t4 (si 1) fun t19 =>
   Aw p n  k m t0 t2 t3 t19 H))
   (p.both
   (p.fill [i0, i0, i0] [(0, 1, (si 4)), (1, 1, (si 5)), (2, 1, (si 7))] fun ct46 => p.newSl 3 1 ct46 true H fun t46 H =>
   p.both
   (p.load true 3 t3 H fun t44 =>
   p.both
   (p.call 3 (.fn 61 [] []) [t0, t46] H fun t47 H =>
   p.load false 1 t48 H fun t49 =>
   p.call 45 (.fn 16 [] []) [t44, t47, t49] H fun t50 H =>
   p.extr t50 0 fun t51 =>
   p.extr t50 1 fun t52 =>
   p.extr t50 2 fun t53 =>
   p.store 3 t3 t51 H fun H =>
   p.bin .sub t4 (si 1) fun t19 =>
   Aw p n  k m t0 t2 t3 t19 H)
   (p.load false 1 t48 H fun t49 =>
   p.call 3 (.fn 61 [] []) [t0, t46] H fun t47 H =>
   p.call 45 (.fn 16 [] []) [t44, t47, t49] H fun t50 H =>
   p.extr t50 0 fun t51 =>
   p.extr t50 1 fun t52 =>
   p.extr t50 2 fun t53 =>
   p.store 3 t3 t51 H fun H =>
   p.bin .sub t4 (si 1) fun t19 =>
   Aw p n  k m t0 t2 t3 t19 H))
   (p.both
   (p.call 3 (.fn 61 [] []) [t0, t46] H fun t47 H =>
   p.load true 3 t3 H fun t44 =>
   p.load false 1 t48 H fun t49 =>
   p.call 45 (.fn 16 [] []) [t44, t47, t49] H fun t50 H =>
   p.extr t50 0 fun t51 =>
   p.extr t50 1 fun t52 =>
   p.extr t50 2 fun t53 =>
   p.store 3 t3 t51 H fun H =>
   p.bin .sub t4 (si 1) fun t19 =>
   Aw p n  k m t0 t2 t3 t19 H)
   (p.load false 1 t48 H fun t49 =>
   p.both
   (p.load true 3 t3 H fun t44 =>
   p.call 3 (.fn 61 [] []) [t0, t46] H fun t47 H =>
   p.call 45 (.fn 16 [] []) [t44, t47, t49] H fun t50 H =>
   p.extr t50 0 fun t51 =>
   p.extr t50 1 fun t52 =>
   p.extr t50 2 fun t53 =>
   p.store 3 t3 t51 H fun H =>
   p.bin .sub t4 (si 1) fun t19 =>
   Aw p n  k m t0 t2 t3 t19 H)
   (p.call 3 (.fn 61 [] []) [t0, t46] H fun t47 H =>
   p.load true 3 t3 H fun t44 =>
   p.call 45 (.fn 16 [] []) [t44, t47, t49] H fun t50 H =>
   p.extr t50 0 fun t51 =>
   p.extr t50 1 fun t52 =>
   p.extr t50 2 fun t53 =>
   p.store 3 t3 t51 H fun H =>
   p.bin .sub t4 (si 1) fun t19 =>
   Aw p n  k m t0 t2 t3 t19 H))))
   (p.load false 1 t48 H fun t49 =>
   p.both
   (p.load true 3 t3 H fun t44 =>
   p.fill [i0, i0, i0] [(0, 1, (si 4)), (1, 1, (si 5)), (2, 1, (si 7))] fun ct46 => p.newSl 3 1 ct46 true H fun t46 H =>
   p.call 3 (.fn 61 [] []) [t0, t46] H fun t47 H =>
   p.call 45 (.fn 16 [] []) [t44, t47, t49] H fun t50 H =>
   p.extr t50 0 fun t51 =>
   p.extr t50 1 fun t52 =>
   p.extr t50 2 fun t53 =>
   p.store 3 t3 t51 H fun H =>
   p.bin .sub t4 (si 1) fun t19 =>
   Aw p n  k m t0 t2 t3 t19 H)
   (p.fill [i0, i0, i0] [(0, 1, (si 4)), (1, 1, (si 5)), (2, 1, (si 7))] fun ct46 => p.newSl 3 1 ct46 true H fun t46 H =>
   p.both
   (p.load true 3 t3 H fun t44 =>
   p.call 3 (.fn 61 [] []) [t0, t46] H fun t47 H =>
   p.call 45 (.fn 16 [] []) [t44, t47, t49] H fun t50 H =>
   p.extr t50 0 fun t51 =>
   p.extr t50 1 fun t52 =>
   p.extr t50 2 fun t53 =>
   p.store 3 t3 t51 H fun H =>
   p.bin .sub t4 (si 1) fun t19 =>
   Aw p n  k m t0 t2 t3 t19 H)
   (p.call 3 (.fn 61 [] []) [t0, t46] H fun t47 H =>
   p.load true 3 t3 H fun t44 =>
   p.call 45 (.fn 16 [] []) [t44, t47, t49] H fun t50 H =>
   p.extr t50 0 fun t51 =>
   p.extr t50 1 fun t52 =>
   p.extr t50 2 fun t53 =>
   p.store 3 t3 t51 H fun H =>
   p.bin .sub t4 (si 1) fun t19 =>
   Aw p n  k m t0 t2 t3 t19 H)))))
   (p.new [i0, sE, .nl, i0, bF, i0] H fun t5 H =>
   p.call 3 (.fn 59 [] []) [t0, t39] H fun t40 H =>
   p.iadr 6 t35 t40 fun t41 =>
   p.load true 6 t41 H fun t42 =>
   p.store 6 t5 t42 H fun H =>
   p.fadr 0 t5 fun t48 =>
   p.both
   (p.load true 3 t3 H fun t44 =>
   p.both
   (p.fill [i0, i0, i0] [(0, 1, (si 4)), (1, 1, (si 5)), (2, 1, (si 7))] fun ct46 => p.newSl 3 1 ct46 true H fun t46 H =>
   p.both
   (p.call 3 (.fn 61 [] []) [t0, t46] H fun t47 H =>
   p.load false 1 t48 H fun t49 =>
   p.call 45 (.fn 16 [] []) [t44, t47, t49] H fun t50 H =>
   p.extr t50 0 fun t51 =>
   p.extr t50 1 fun t52 =>
   p.extr t50 2 fun t53 =>
   p.store 3 t3 t51 H fun H =>
   p.bin .sub t4 (si 1) fun t19 =>
   Aw p n  k m t0 t2 t3 t19 H)
   (p.load false 1 t48 H fun t49 =>
   p.call 3 (.fn 61 [] []) [t0, t46] H fun t47 H =>
   p.call 45 (.fn 16 [] []) [t44, t47, t49] H fun t50 H =>
   p.extr t50 0 fun t51 =>
   p.extr t50 1 fun t52 =>
   p.extr t50 2 fun t53 =>
   p.store 3 t3 t51 H fun H =>
   p.bin .sub t4 (si 1) fun t19 =>
   Aw p n  k m t0 t2 t3 t19 H))
   (p.load false 1 t48 H fun t49 =>
   p.fill [i0, i0, i0] [(0, 1, (si 4)), (1, 1, (si 5)), (2, 1, (si 7))] fun ct46 => p.newSl 3 1 ct46 true H fun t46 H =>
   p.call 3 (.fn 61 [] []) [t0, t46] H fun t47 H =>
   p.call 45 (.fn 16 [] []) [t44, t47, t49] H fun t50 H =>
   p.extr t50 0 fun t51 =>
   p.extr t50 1 fun t52 =>
   p.extr t50 2 fun t53 =>
   p.store 3 t3 t51 H fun H =>
   p.bin .sub t4 (si 1) fun t19 =>
   Aw p n  k m t0 t2 t3 t19 H))
   (p.both
   (p.fill [i0, i0, i0] [(0, 1, (si 4)), (1, 1, (si 5)), (2, 1, (si 7))] fun ct46 => p.newSl 3 1 ct46 true H fun t46 H =>
   p.both
   (p.load true 3 t3 H fun t44 =>
   p.both
   (p.call 3 (.fn 61 [] []) [t0, t46] H fun t47 H =>
   p.load false 1 t48 H fun t49 =>
   p.call 45 (.fn 16 [] []) [t44, t47, t49] H fun t50 H =>
   p.extr t50 0 fun t51 =>
   p.extr t50 1 fun t52 =>
   p.extr t50 2 fun t53 =>
   p.store 3 t3 t51 H fun H =>
   p.bin .sub t4 (si 1) fun t19 =>
   Aw p n  k m t0 t2 t3 t19 H)
   (p.load false 1 t48 H fun t49 =>
   p.call 3 (.fn 61 [] []) [t0, t46] H fun t47 H =>
   p.call 45 (.fn 16 [] []) [t44, t47, t49] H fun t50 H =>
   p.extr t50 0 fun t51 =>
   p.extr t50 1 fun t52 =>
   p.extr t50 2 fun t53 =>
   p.store 3 t3 t51 H fun H =>
   p.bin .sub t4 (si 1) fun t19 =>
   Aw p n  k m t0 t2 t3 t19 H))
   (p.both
   (p.call 3 (.fn 61 [] []) [t0, t46] H fun t47 H =>
   p.load true 3 t3 H fun t44 =>
   p.load false 1 t48 H fun t49 =>
   p.call 45 (.fn 16 [] []) [t44, t47, t49] H fun t50 H =>
   p.extr t50 0 fun t51 =>
   p.extr t50 1 fun t52 =>
   p.extr t50 2 fun t53 =>
   p.store 3 t3 t51 H fun H =>
   p.bin .sub t4 (si 1) fun t19 =>
   Aw p n  k m t0 t2 t3 t19 H)
   (p.load false 1 t48 H fun t49 =>
   p.both
   (p.load true 3 t3 H fun t44 =>
   p.call 3 (.fn 61 [] []) [t0, t46] H fun t47 H =>
   p.call 45 (.fn 16 [] []) [t44, t47, t49] H fun t50 H =>
   p.extr t50 0 fun t51 =>
   p.extr t50 1 fun t52 =>
   p.extr t50 2 fun t53 =>
   p.store 3 t3 t51 H fun H =>
   p.bin .sub t4 (si 1) fun t19 =>
   Aw p n  k m t0 t2 t3 t19 H)
   (p.call 3 (.fn 61 [] []) [t0, t46] H fun t47 H =>
   p.load true 3 t3 H fun t44 =>
   p.call 45 (.fn 16 [] []) [t44, t47, t49] H fun t50 H =>
   p.extr t50 0 fun t51 =>
   p.extr t50 1 fun t52 =>
   p.extr t50 2 fun t53 =>
   p.store 3 t3 t51 H fun H =>
   p.bin .sub t4 (si 1) fun t19 =>
   Aw p n  k m t0 t2 t3 t19 H))))
   (p.load false 1 t48 H fun t49 =>
   p.both
   (p.load true 3 t3 H fun t44 =>
   p.fill [i0, i0, i0] [(0, 1, (si 4)), (1, 1, (si 5)), (2, 1, (si 7))] fun ct46 => p.newSl 3 1 ct46 true H fun t46 H =>
   p.call 3 (.fn 61 [] []) [t0, t46] H fun t47 H =>
   p.call 45 (.fn 16 [] []) [t44, t47, t49] H fun t50 H =>
   p.extr t50 0 fun t51 =>
   p.extr t50 1 fun t52 =>
   p.extr t50 2 fun t53 =>
   p.store 3 t3 t51 H fun H =>
   p.bin .sub t4 (si 1) fun t19 =>
   Aw p n  k m t0 t2 t3 t19 H)
   (p.fill [i0, i0, i0] [(0, 1, (si 4)), (1, 1, (si 5)), (2, 1, (si 7))] fun ct46 => p.newSl 3 1 ct46 true H fun t46 H =>
   p.both
   (p.load true 3 t3 H fun t44 =>
   p.call 3 (.fn 61 [] []) [t0, t46] H fun t47 H =>
   p.call 45 (.fn 16 [] []) [t44, t47, t49] H fun t50 H =>
   p.extr t50 0 fun t51 =>
   p.extr t50 1 fun t52 =>
   p.extr t50 2 fun t53 =>
   p.store 3 t3 t51 H fun H =>
   p.bin .sub t4 (si 1) fun t19 =>
   Aw p n  k m t0 t2 t3 t19 H)
   (p.call 3 (.fn 61 [] []) [t0, t46] H fun t47 H =>
   p.load true 3 t3 H fun t44 =>
   p.call 45 (.fn 16 [] []) [t44, t47, t49] H fun t50 H =>
   p.extr t50 0 fun t51 =>
   p.extr t50 1 fun t52 =>
   p.extr t50 2 fun t53 =>
   p.store 3 t3 t51 H fun H =>
   p.bin .sub t4 (si 1) fun t19 =>
   Aw p n  k m t0 t2 t3 t19 H))))))
   (p.both
   (p.call 3 (.fn 59 [] []) [t0, t39] H fun t40 H =>
   p.load false 1 t34 H fun t35 =>
   p.iadr 6 t35 t40 fun t41 =>
   p.load true 6 t41 H fun t42 =>
   p.new [i0, sE, .nl, i0, bF, i0] H fun t5 H =>
   p.store 6 t5 t42 H fun H =>
   p.fadr 0 t5 fun t48 =>
   p.both
   (p.load true 3 t3 H fun t44 =>
   p.both
   (p.fill [i0, i0, i0] [(0, 1, (si 4)), (1, 1, (si 5)), (2, 1, (si 7))] fun ct46 => p.newSl 3 1 ct46 true H fun t46 H =>
   p.both
   (p.call 3 (.fn 61 [] []) [t0, t46] H fun t47 H =>
   p.load false 1 t48 H fun t49 =>
   p.call 45 (.fn 16 [] []) [t44, t47, t49] H fun t50 H =>
   p.extr t50 0 fun t51 =>
   p.extr t50 1 fun t52 =>
   p.extr t50 2 fun t53 =>
   p.store 3 t3 t51 H fun H =>
   p.bin .sub t4 (si 1) fun t19 =>
   Aw p n  k m t0 t2 t3 t19 H)
   (p.load false 1 t48 H fun t49 =>
   p.call 3 (.fn 61 [] []) [t0, t46] H fun t47 H =>
   p.call 45 (.fn 16 [] []) [t44, t47, t49] H fun t50 H =>
   p.extr t50 0 fun t51 =>
   p.extr t50 1 fun t52 =>
   p.extr t50 2 fun t53 =>
   p.store 3 t3 t51 H fun H =>
   p.bin .sub t4 (si 1) fun t19 =>
   Aw p n  k m t0 t2 t3 t19 H))
   (p.load false 1 t48 H fun t49 =>
   p.fill [i0, i0, i0] [(0, 1, (si 4)), (1, 1, (si 5)), (2, 1, (si 7))] fun ct46 => p.newSl 3 1 ct46 true H fun t46 H =>
   p.call 3 (.fn 61 [] []) [t0, t46] H fun t47 H =>
   p.call 45 (.fn 16 [] []) [t44, t47, t49] H fun t50 H =>
   p.extr t50 0 fun t51 =>
   p.extr t50 1 fun t52 =>
   p.extr t50 2 fun t53 =>
   p.store 3 t3 t51 H fun H =>
   p.bin .sub t4 (si 1) fun t19 =>
   Aw p n  k m t0 t2 t3 t19 H))
   (p.both
   (p.fill [i0, i0, i0] [(0, 1, (si 4)), (1, 1, (si 5)), (2, 1, (si 7))] fun ct46 => p.newSl 3 1 ct46 true H fun t46 H =>
   p.both
   (p.load true 3 t3 H fun t44 =>
   p.both
   (p.call 3 (.fn 61 [] []) [t0, t46] H fun t47 H =>
   p.load false 1 t48 H fun t49 =>
   p.call 45 (.fn 16 [] []) [t44, t47, t49] H fun t50 H =>
   p.extr t50 0 fun t51 =>
   p.extr t50 1 fun t52 =>
   p.extr t50 2 fun t53 =>
   p.store 3 t3 t51 H fun H =>
   p.bin .sub t4 (si 1) fun t19 =>
   Aw p n  k m t0 t2 t3 t19 H)
   (p.load false 1 t48 H fun t49 =>
   p.call 3 (.fn 61 [] []) [t0, t46] H fun t47 H =>
   p.call 45 (.fn 16 [] []) [t44, t47, t49] H fun t50 H =>
   p.extr t50 0 fun t51 =>
   p.extr t50 1 fun t52 =>
   p.extr t50 2 fun t53 =>
   p.store 3 t3 t51 H fun H =>
   p.bin .sub t4 (si 1) fun t19 =>
   Aw p n  k m t0 t2 t3 t19 H))
   (p.both
   (p.call 3 (.fn 61 [] []) [t0, t46] H fun t47 H =>
   p.load true 3 t3 H fun t44 =>
   p.load false 1 t48 H fun t49 =>
   p.call 45 (.fn 16 [] []) [t44, t47, t49] H fun t50 H =>
   p.extr t50 0 fun t51 =>
   p.extr t50 1 fun t52 =>
   p.extr t50 2 fun t53 =>
   p.store 3 t3 t51 H fun H =>
   p.bin .sub t4 (si 1) fun t19 =>
   Aw p n  k m t0 t2 t3 t19 H)
   (p.load false 1 t48 H fun t49 =>
   p.both
   (p.load true 3 t3 H fun t44 =>
   p.call 3 (.fn 61 [] []) [t0, t46] H fun t47 H =>
   p.call 45 (.fn 16 [] []) [t44, t47, t49] H fun t50 H =>
   p.extr t50 0 fun t51 =>
   p.extr t50 1 fun t52 =>
   p.extr t50 2 fun t53 =>
   p.store 3 t3 t51 H fun H =>
   p.bin .sub t4 (si 1) fun t19 =>
   Aw p n  k m t0 t2 t3 t19 H)
   (p.call 3 (.fn 61 [] []) [t0, t46] H fun t47 H =>
   p.load true 3 t3 H fun t44 =>
   p.call 45 (.fn 16 [] []) [t44, t47, t49] H fun t50 H =>
   p.extr t50 0 fun t51 =>
   p.extr t50 1 fun t52 =>
   p.extr t50 2 fun t53 =>
   p.store 3 t3 t51 H fun H =>
   p.bin .sub t4 (si 1) fun t19 =>
   Aw p n  k m t0 t2 t3 t19 H))))
   (p.load false 1 t48 H fun t49 =>
   p.both
   (p.load true 3 t3 H fun t44 =>
   p.fill [i0, i0, i0] [(0, 1, (si 4)), (1, 1, (si 5)), (2, 1, (si 7))] fun ct46 => p.newSl 3 1 ct46 true H fun t46 H =>
   p.call 3 (.fn 61 [] []) [t0, t46] H fun t47 H =>
   p.call 45 (.fn 16 [] []) [t44, t47, t49] H fun t50 H =>
   p.extr t50 0 fun t51 =>
   p.extr t50 1 fun t52 =>
   p.extr t50 2 fun t53 =>
   p.store 3 t3 t51 H fun H =>
   p.bin .sub t4 (si 1) fun t19 =>
   Aw p n  k m t0 t2 t3 t19 H)
   (p.fill [i0, i0, i0] [(0, 1, (si 4)), (1, 1, (si 5)), (2, 1, (si 7))] fun ct46 => p.newSl 3 1 ct46 true H fun t46 H =>
   p.both
   (p.load true 3 t3 H fun t44 =>
   p.call 3 (.fn 61 [] []) [t0, t46] H fun t47 H =>
   p.call 45 (.fn 16 [] []) [t44, t47, t49] H fun t50 H =>
   p.extr t50 0 fun t51 =>
   p.extr t50 1 fun t52 =>
   p.extr t50 2 fun t53 =>
   p.store 3 t3 t51 H fun H =>
   p.bin .sub t4 (si 1) fun t19 =>
   Aw p n  k m t0 t2 t3 t19 H)
   (p.call 3 (.fn 61 [] []) [t0, t46] H fun t47 H =>
   p.load true 3 t3 H fun t44 =>
   p.call 45 (.fn 16 [] []) [t44, t47, t49] H fun t50 H =>
   p.extr t50 0 fun t51 =>
   p.extr t50 1 fun t52 =>
   p.extr t50 2 fun t53 =>
   p.store 3 t3 t51 H fun H =>
   p.bin .sub t4 (si 1) fun t19 =>
   Aw p n  k m t0 t2 t3 t19 H)))))
   (p.new [i0, sE, .nl, i0, bF, i0] H fun t5 H =>
   p.both
   (p.load false 1 t34 H fun t35 =>
   p.call 3 (.fn 59 [] []) [t0, t39] H fun t40 H =>
   p.iadr 6 t35 t40 fun t41 =>
   p.load true 6 t41 H fun t42 =>
   p.store 6 t5 t42 H fun H =>
   p.fadr 0 t5 fun t48 =>
   p.both
   (p.load true 3 t3 H fun t44 =>
   p.both
   (p.fill [i0, i0, i0] [(0, 1, (si 4)), (1, 1, (si 5)), (2, 1, (si 7))] fun ct46 => p.newSl 3 1 ct46 true H fun t46 H =>
   p.both
   (p.call 3 (.fn 61 [] []) [t0, t46] H fun t47 H =>
   p.load false 1 t48 H fun t49 =>
   p.call 45 (.fn 16 [] []) [t44, t47, t49] H fun t50 H =>
   p.extr t50 0 fun t51 =>
   p.extr t50 1 fun t52 =>
   p.extr t50 2 fun t53 =>
   p.store 3 t3 t51 H fun H =>
   p.bin .sub t4 (si 1) fun t19 =>
   Aw p n  k m t0 t2 t3 t19 H)
   (p.load false 1 t48 H fun t49 =>
   p.call 3 (.fn 61 [] []) [t0, t46] H fun t47 H =>
   p.call 45 (.fn 16 [] []) [t44, t47, t49] H fun t50 H =>
   p.extr t50 0 fun t51 =>
   p.extr t50 1 fun t52 =>
   p.extr t50 2 fun t53 =>
   p.store 3 t3 t51 H fun H =>
   p.bin .sub t4 (si 1) fun t19 =>
   Aw p n  k m t0 t2 t3 t19 H))
   (p.load false 1 t48 H fun t49 =>
   p.fill [i0, i0, i0] [(0, 1, (si 4)), (1, 1, (si 5)), (2, 1, (si 7))] fun ct46 => p.newSl 3 1 ct46 true H fun t46 H =>
   p.call 3 (.fn 61 [] []) [t0, t46] H fun t47 H =>
   p.call 45 (.fn 16 [] []) [t44, t47, t49] H fun t50 H =>
   p.extr t50 0 fun t51 =>
   p.extr t50 1 fun t52 =>
   p.extr t50 2 fun t53 =>
   p.store 3 t3 t51 H fun H =>
   p.bin .sub t4 (si 1) fun t19 =>
   Aw p n  k m t0 t2 t3 t19 H))
   (p.both
   (p.fill [i0, i0, i0] [(0, 1, (si 4)), (1, 1, (si 5)), (2, 1, (si 7))] fun ct46 => p.newSl 3 1 ct46 true H fun t46 H =>
   p.both
   (p.load true 3 t3 H fun t44 =>
   p.both
   (p.call 3 (.fn 61 [] []) [t0, t46] H fun t47 H =>
   p.load false 1 t48 H fun t49 =>
   p.call 45 (.fn 16 [] []) [t44, t47, t49] H fun t50 H =>
   p.extr t50 0 fun t51 =>
   p.extr t50 1 fun t52 =>
   p.extr t50 2 fun t53 =>
   p.store 3 t3 t51 H fun H =>
   p.bin .sub t4 (si 1) fun t19 =>
   Aw p n  k m t0 t2 t3 t19 H)
   (p.load false 1 t48 H fun t49 =>
   p.call 3 (.fn 61 [] []) [t0, t46] H fun t47 H =>
   p.call 45 (.fn 16 [] []) [t44, t47, t49] H fun t50 H =>
   p.extr t50 0 fun t51 =>
   p.extr t50 1 fun t52 =>
   p.extr t50 2 fun t53 =>
   p.store 3 t3 t51 H fun H =>
   p.bin .sub t4 (si 1) fun t19 =>
   Aw p n  k m t0 t2 t3 t19 H))
   (p.both
   (p.call 3 (.fn 61 [] []) [t0, t46] H fun t47 H =>
   p.load true 3 t3 H fun t44 =>
   p.load false 1 t48 H fun t49 =>
   p.call 45 (.fn 16 [] []) [t44, t47, t49] H fun t50 H =>
   p.extr t50 0 fun t51 =>
   p.extr t50 1 fun t52 =>
   p.extr t50 2 fun t53 =>
   p.store 3 t3 t51 H fun H =>
   p.bin .sub t4 (si 1) fun t19 =>
   Aw p n  k m t0 t2 t3 t19 H)
   (p.load false 1 t48 H fun t49 =>
   p.both
   (p.load true 3 t3 H fun t44 =>
   p.call 3 (.fn 61 [] []) [t0, t46] H fun t47 H =>
   p.call 45 (.fn 16 [] []) [t44, t47, t49] H fun t50 H =>
   p.extr t50 0 fun t51 =>
   p.extr t50 1 fun t52 =>
   p.extr t50 2 fun t53 =>
   p.store 3 t3 t51 H fun H =>
   p.bin .sub t4 (si 1) fun t19 =>
   Aw p n  k m t0 t2 t3 t19 H)
   (p.call 3 (.fn 61 [] []) [t0, t46] H fun t47 H =>
   p.load true 3 t3 H fun t44 =>
   p.call 45 (.fn 16 [] []) [t44, t47, t49] H fun t50 H =>
   p.extr t50 0 fun t51 =>
   p.extr t50 1 fun t52 =>
   p.extr t50 2 fun t53 =>
   p.store 3 t3 t51 H fun H =>
   p.bin .sub t4 (si 1) fun t19 =>
   Aw p n  k m t0 t2 t3 t19 H))))
   (p.load false 1 t48 H fun t49 =>
   p.both
   (p.load true 3 t3 H fun t44 =>
   p.fill [i0, i0, i0] [(0, 1, (si 4)), (1, 1, (si 5)), (2, 1, (si 7))] fun ct46 => p.newSl 3 1 ct46 true H fun t46 H =>
   p.call 3 (.fn 61 [] []) [t0, t46] H fun t47 H =>
   p.call 45 (.fn 16 [] []) [t44, t47, t49] H fun t50 H =>
   p.extr t50 0 fun t51 =>
   p.extr t50 1 fun t52 =>
   p.extr t50 2 fun t53 =>
   p.store 3 t3 t51 H fun H =>
   p.bin .sub t4 (si 1) fun t19 =>
   Aw p n  k m t0 t2 t3 t19 H)
   (p.fill [i0, i0, i0] [(0, 1, (si 4)), (1, 1, (si 5)), (2, 1, (si 7))] fun ct46 => p.newSl 3 1 ct46 true H fun t46 H =>
   p.both
   (p.load true 3 t3 H fun t44 =>
   p.call 3 (.fn 61 [] []) [t0, t46] H fun t47 H =>
   p.call 45 (.fn 16 [] []) [t44, t47, t49] H fun t50 H =>
   p.extr t50 0 fun t51 =>
   p.extr t50 1 fun t52 =>
   p.extr t50 2 fun t53 =>
   p.store 3 t3 t51 H fun H =>
   p.bin .sub t4 (si 1) fun t19 =>
   Aw p n  k m t0 t2 t3 t19 H)
   (p.call 3 (.fn 61 [] []) [t0, t46] H fun t47 H =>
   p.load true 3 t3 H fun t44 =>
   p.call 45 (.fn 16 [] []) [t44, t47, t49] H fun t50 H =>
   p.extr t50 0 fun t51 =>
   p.extr t50 1 fun t52 =>
   p.extr t50 2 fun t53 =>
   p.store 3 t3 t51 H fun H =>
   p.bin .sub t4 (si 1) fun t19 =>
   Aw p n  k m t0 t2 t3 t19 H)))))
   (p.call 3 (.fn 59 [] []) [t0, t39] H fun t40 H =>
   p.load false 1 t34 H fun t35 =>
   p.iadr 6 t35 t40 fun t41 =>
   p.load true 6 t41 H fun t42 =>
   p.store 6 t5 t42 H fun H =>
   p.fadr 0 t5 fun t48 =>
   p.both
   (p.load true 3 t3 H fun t44 =>
   p.both
   (p.fill [i0, i0, i0] [(0, 1, (si 4)), (1, 1, (si 5)), (2, 1, (si 7))] fun ct46 => p.newSl 3 1 ct46 true H fun t46 H =>
   p.both
   (p.call 3 (.fn 61 [] []) [t0, t46] H fun t47 H =>
   p.load false 1 t48 H fun t49 =>
   p.call 45 (.fn 16 [] []) [t44, t47, t49] H fun t50 H =>
   p.extr t50 0 fun t51 =>
   p.extr t50 1 fun t52 =>
   p.extr t50 2 fun t53 =>
   p.store 3 t3 t51 H fun H =>
   p.bin .sub t4 (si 1) fun t19 =>
   Aw p n  k m t0 t2 t3 t19 H)
   (p.load false 1 t48 H fun t49 =>
   p.call 3 (.fn 61 [] []) [t0, t46] H fun t47 H =>
   p.call 45 (.fn 16 [] []) [t44, t47, t49] H fun t50 H =>
   p.extr t50 0 fun t51 =>
   p.extr t50 1 fun t52 =>
   p.extr t50 2 fun t53 =>
   p.store 3 t3 t51 H fun H =>
   p.bin .sub t4 (si 1) fun t19 =>
   Aw p n  k m t0 t2 t3 t19 H))
   (p.load false 1 t48 H fun t49 =>
   p.fill [i0, i0, i0] [(0, 1, (si 4)), (1, 1, (si 5)), (2, 1, (si 7))] fun ct46 => p.newSl 3 1 ct46 true H fun t46 H =>
   p.call 3 (.fn 61 [] []) [t0, t46] H fun t47 H =>
   p.call 45 (.fn 16 [] []) [t44, t47, t49] H fun t50 H =>
   p.extr t50 0 fun t51 =>
   p.extr t50 1 fun t52 =>
   p.extr t50 2 fun t53 =>
   p.store 3 t3 t51 H fun H =>
   p.bin .sub t4 (si 1) fun t19 =>
   Aw p n  k m t0 t2 t3 t19 H))
   (p.both
   (p.fill [i0, i0, i0] [(0, 1, (si 4)), (1, 1, (si 5)), (2, 1, (si 7))] fun ct46 => p.newSl 3 1 ct46 true H fun t46 H =>
   p.both
   (p.load true 3 t3 H fun t44 =>
   p.both
   (p.call 3 (.fn 61 [] []) [t0, t46] H fun t47 H =>
   p.load false 1 t48 H fun t49 =>
   p.call 45 (.fn 16 [] []) [t44, t47, t49] H fun t50 H =>
   p.extr t50 0 fun t51 =>
   p.extr t50 1 fun t52 =>
   p.extr t50 2 fun t53 =>
   p.store 3 t3 t51 H fun H =>
   p.bin .sub t4 (si 1) fun t19 =>
   Aw p n  k m t0 t2 t3 t19 H)
   (p.load false 1 t48 H fun t49 =>
   p.call 3 (.fn 61 [] []) [t0, t46] H fun t47 H =>
   p.call 45 (.fn 16 [] []) [t44, t47, t49] H fun t50 H =>
   p.extr t50 0 fun t51 =>
   p.extr t50 1 fun t52 =>
   p.extr t50 2 fun t53 =>
   p.store 3 t3 t51 H fun H =>
   p.bin .sub t4 (si 1) fun t19 =>
   Aw p n  k m t0 t2 t3 t19 H))
   (p.both
   (p.call 3 (.fn 61 [] []) [t0, t46] H fun t47 H =>
   p.load true 3 t3 H fun t44 =>
   p.load false 1 t48 H fun t49 =>
   p.call 45 (.fn 16 [] []) [t44, t47, t49] H fun t50 H =>
   p.extr t50 0 fun t51 =>
   p.extr t50 1 fun t52 =>
   p.extr t50 2 fun t53 =>
   p.store 3 t3 t51 H fun H =>
   p.bin .sub t4 (si 1) fun t19 =>
   Aw p n  k m t0 t2 t3 t19 H)
   (p.load false 1 t48 H fun t49 =>
   p.both
   (p.load true 3 t3 H fun t44 =>
   p.call 3 (.fn 61 [] []) [t0, t46] H fun t47 H =>
   p.call 45 (.fn 16 [] []) [t44, t47, t49] H fun t50 H =>
   p.extr t50 0 fun t51 =>
   p.extr t50 1 fun t52 =>
   p.extr t50 2 fun t53 =>
   p.store 3 t3 t51 H fun H =>
   p.bin .sub t4 (si 1) fun t19 =>
   Aw p n  k m t0 t2 t3 t19 H)
   (p.call 3 (.fn 61 [] []) [t0, t46] H fun t47 H =>
   p.load true 3 t3 H fun t44 =>
   p.call 45 (.fn 16 [] []) [t44, t47, t49] H fun t50 H =>
   p.extr t50 0 fun t51 =>
   p.extr t50 1 fun t52 =>
   p.extr t50 2 fun t53 =>
   p.store 3 t3 t51 H fun H =>
   p.bin .sub t4 (si 1) fun t19 =>
   Aw p n  k m t0 t2 t3 t19 H))))
   (p.load false 1 t48 H fun t49 =>
   p.both
   (p.load true 3 t3 H fun t44 =>
   p.fill [i0, i0, i0] [(0, 1, (si 4)), (1, 1, (si 5)), (2, 1, (si 7))] fun ct46 => p.newSl 3 1 ct46 true H fun t46 H =>
   p.call 3 (.fn 61 [] []) [t0, t46] H fun t47 H =>
   p.call 45 (.fn 16 [] []) [t44, t47, t49] H fun t50 H =>
   p.extr t50 0 fun t51 =>
   p.extr t50 1 fun t52 =>
   p.extr t50 2 fun t53 =>
   p.store 3 t3 t51 H fun H =>
   p.bin .sub t4 (si 1) fun t19 =>
   Aw p n  k m t0 t2 t3 t19 H)
   (p.fill [i0, i0, i0] [(0, 1, (si 4)), (1, 1, (si 5)), (2, 1, (si 7))] fun ct46 => p.newSl 3 1 ct46 true H fun t46 H =>
   p.both
   (p.load true 3 t3 H fun t44 =>
   p.call 3 (.fn 61 [] []) [t0, t46] H fun t47 H =>
   p.call 45 (.fn 16 [] []) [t44, t47, t49] H fun t50 H =>
   p.extr t50 0 fun t51 =>
   p.extr t50 1 fun t52 =>
   p.extr t50 2 fun t53 =>
   p.store 3 t3 t51 H fun H =>
   p.bin .sub t4 (si 1) fun t19 =>
   Aw p n  k m t0 t2 t3 t19 H)
   (p.call 3 (.fn 61 [] []) [t0, t46] H fun t47 H =>
   p.load true 3 t3 H fun t44 =>
   p.call 45 (.fn 16 [] []) [t44, t47, t49] H fun t50 H =>
   p.extr t50 0 fun t51 =>
   p.extr t50 1 fun t52 =>
   p.extr t50 2 fun t53 =>
   p.store 3 t3 t51 H fun H =>
   p.bin .sub t4 (si 1) fun t19 =>
   Aw p n  k m t0 t2 t3 t19 H))))))))
   (p.bin .sub t4 (si 1) fun t19 =>
   Aw p n  k m t0 t2 t3 t19 H))
   (p.call 3 (.fn 59 [] []) [t0, (si 4)] H fun t55 H =>
   Mr p n  k n t0 t2 t3 t55 H)
noncomputable def f86 (n : Nat) (a0 : AV) (H : Ab) (k : KO β) : Option β :=
 p.new [i0, .nl, .nl] H fun t2 H =>
 p.fill [i0, i0, i0, i0, i0] [(0, 1, i0), (1, 1, i0), (2, 1, (si 3)), (3, 1, (si 65534)), (4, 1, (si 65535))] fun ct8 => p.newSl 5 1 ct8 true H fun t8 H =>
 p.call 3 (.fn 61 [] []) [a0, t8] H fun t9 H =>
 p.fill [i0, .nl, .nl] [(0, 1, t9)] fun ct10 =>
 p.new [i0, .nl, .nl] H fun t3 H =>
 p.store 3 t3 (.agg ct10) H fun H =>
 p.call 25 (.fn 112 [] []) [a0, (si 6)] H fun t12 H =>
 p.fadr 2 t3 fun t13 =>
 p.store 1 t13 t12 H fun H =>
 p.call 3 (.fn 59 [] []) [a0, (si 6)] H fun t15 H =>
 Aw p n  k n a0 t2 t3 t15 H
noncomputable def AdK (p : Pr β) (n : Nat)  (k : KO β) (m : Nat) (tm : Tm) (H : Ab) : Option β :=
 D3 68 (fun tm H k => Ak Ar p o86 68 n (cd c86 [1, 1, 1, 1, 0, 1, 0, 0]) tm H k) (E3 2 (Em (fun tm H => Ak Ar p o86 68 n (cd c86 [1, 1, 1, 1, 1]) tm H (Cz Ar p fi86.results k)) (Cz Ar p fi86.results k))) m tm H
noncomputable def AdJ (p : Pr β) (n : Nat)  (k : KO β) (m : Nat) (tm : Tm) (H : Ab) : Option β :=
 D3 68 (fun tm H k => Ak Ar p o86 68 n (cd c86 [1, 1, 1, 0, 1, 0, 0]) tm H k) (E3 0 (Em (fun tm H => Ak Ar p o86 68 n (cd c86 [1, 1, 1, 1]) tm H (Cz Ar p fi86.results k)) (Cz Ar p fi86.results k))) m tm H
theorem Ua (p : Pr β) (n : Nat)  (k : KO β) (m1 : Nat) : ∀ (t : Nat → AV) (H : Ab), AdK p n  k m1 (tf 68 0 t) H = Mr p n  k m1 (t 0) (t 2) (t 3) (t 6) H := by
 induction m1 with
 | zero => intros; rfl
 | succ m1 ih =>
  intro t H
  refine Eq.trans (B8 (nt := 68) (m := m1) (g := fun t H => Mr p n  k m1 (t 0) (t 2) (t 3) (t 6) H) ih rfl) ?_
  kernel_rfl
theorem Wq (p : Pr β) (n : Nat)  (k : KO β) (m0 : Nat) (t : Nat → AV) (H : Ab) : Ak Ar p o86 68 n (cd c86 [1, 1, 1, 0, 1, 0, 0]) (tf 68 0 t) H (Em (fun tm H => Aw p n  k m0 (gt tm 0) (gt tm 2) (gt tm 3) (gt tm 4) H) (E3 0 (Em (fun tm H => Ak Ar p o86 68 n (cd c86 [1, 1, 1, 1]) tm H (Cz Ar p fi86.results k)) (Cz Ar p fi86.results k)))) =
 p.bin .gtr (t 4) i0 fun t17 =>
 p.cond t17
 (p.load true 3 (t 3) H fun t21 =>
 p.call 45 (.fn 113 [] []) [t21] H fun t22 H =>
 p.extr t22 0 fun t23 =>
 p.extr t22 1 fun t24 =>
 p.extr t22 2 fun t25 =>
 p.store 3 (t 3) t23 H fun H =>
 p.fadr 1 (t 3) fun t26 =>
 p.load false 1 t26 H fun t27 =>
 p.len t27 fun t28 =>
 p.bin .gtr t28 i0 fun t29 =>
 p.kT t29 H (t 0) fun t31 H =>
 p.hT t29 H (p.call 4 (.fn 60 [] []) [t31, (si 3)] H) fun t32 H =>
 p.pick t29 t32 bF fun t33 =>
 p.cond t33
 (p.fadr 1 (t 3) fun t34 =>
 p.fadr 1 (t 3) fun t37 =>
 p.load false 1 t37 H fun t38 =>
 p.len t38 fun t39 =>
 p.both
 (p.load false 1 t34 H fun t35 =>
 p.both
 (p.call 3 (.fn 59 [] []) [(t 0), t39] H fun t40 H =>
 p.iadr 6 t35 t40 fun t41 =>
 p.load true 6 t41 H fun t42 =>
 p.new [i0, sE, .nl, i0, bF, i0] H fun t5 H =>
 p.store 6 t5 t42 H fun H =>
 p.fadr 0 t5 fun t48 =>
 p.both
 (p.load true 3 (t 3) H fun t44 =>
 p.both
 (p.fill [i0, i0, i0] [(0, 1, (si 4)), (1, 1, (si 5)), (2, 1, (si 7))] fun ct46 => p.newSl 3 1 ct46 true H fun t46 H =>
 p.both
 (p.call 3 (.fn 61 [] []) [(t 0), t46] H fun t47 H =>
 p.load false 1 t48 H fun t49 =>
 p.call 45 (.fn 16 [] []) [t44, t47, t49] H fun t50 H =>
 p.extr t50 0 fun t51 =>
 p.extr t50 1 fun t52 =>
 p.extr t50 2 fun t53 =>
 p.store 3 (t 3) t51 H fun H =>
 p.bin .sub (t 4) (si 1) fun t19 =>
 Aw p n  k m0 (t 0) (t 2) (t 3) t19 H)
 (p.load false 1 t48 H fun t49 =>
 p.call 3 (.fn 61 [] []) [(t 0), t46] H fun t47 H =>
 p.call 45 (.fn 16 [] []) [t44, t47, t49] H fun t50 H =>
 p.extr t50 0 fun t51 =>
 p.extr t50 1 fun t52 =>
 p.extr t50 2 fun t53 =>
 p.store 3 (t 3) t51 H fun H =>
 p.bin .sub (t 4) (si 1) fun t19 =>
 Aw p n  k m0 (t 0) (t 2) (t 3) t19 H))
 (p.load false 1 t48 H fun t49 =>
 p.fill [i0, i0, i0] [(0, 1, (si 4)), (1, 1, (si 5)), (2, 1, (si 7))] fun ct46 => p.newSl 3 1 ct46 true H fun t46 H =>
 p.call 3 (.fn 61 [] []) [(t 0), t46] H fun t47 H =>
 p.call 45 (.fn 16 [] []) [t44, t47, t49] H fun t50 H =>
 p.extr t50 0 fun t51 =>
 p.extr t50 1 fun t52 =>
 p.extr t50 2 fun t53 =>
 p.store 3 (t 3) t51 H fun H =>
 p.bin .sub (t 4) (si 1) fun t19 =>
 Aw p n  k m0 (t 0) (t 2) (t 3) t19 H))
 (p.both
 (p.fill [i0, i0, i0] [(0, 1, (si 4)), (1, 1, (si 5)), (2, 1, (si 7))] fun ct46 => p.newSl 3 1 ct46 true H fun t46 H =>
 p.both
 (p.load true 3 (t 3) H fun t44 =>
 p.both
 (p.call 3 (.fn 61 [] []) [(t 0), t46] H fun t47 H =>
 p.load false 1 t48 H fun t49 =>
 p.call 45 (.fn 16 [] []) [t44, t47, t49] H fun t50 H =>
 p.extr t50 0 fun t51 =>
 p.extr t50 1 fun t52 =>
 p.extr t50 2 fun t53 =>
 p.store 3 (t 3) t51 H fun H =>
 p.bin .sub (t 4) (si 1) fun t19 =>
 Aw p n  k m0 (t 0) (t 2) (t 3) t19 H)
 (p.load false 1 t48 H fun t49 =>
 p.call 3 (.fn 61 [] []) [(t 0), t46] H fun t47 H =>
 p.call 45 (.fn 16 [] []) [t44, t47, t49] H fun t50 H =>
 p.extr t50 0 fun t51 =>
 p.extr t50 1 fun t52 =>
 p.extr t50 2 fun t53 =>
 p.store 3 (t 3) t51 H fun H =>
 p.bin .sub (t 4) (si 1) fun t19 =>
 Aw p n  k m0 (t 0) (t 2) (t 3) t19 H))
 (p.both
 (p.call 3 (.fn 61 [] []) [(t 0), t46] H fun t47 H =>
 p.load true 3 (t 3) H fun t44 =>
 p.load false 1 t48 H fun t49 =>
 p.call 45 (.fn 16 [] []) [t44, t47, t49] H fun t50 H =>
 p.extr t50 0 fun t51 =>
 p.extr t50 1 fun t52 =>
 p.extr t50 2 fun t53 =>
 p.store 3 (t 3) t51 H fun H =>
 p.bin .sub (t 4) (si 1) fun t19 =>
 Aw p n  k m0 (t 0) (t 2) (t 3) t19 H)
 (p.load false 1 t48 H fun t49 =>
 p.both
 (p.load true 3 (t 3) H fun t44 =>
 p.call 3 (.fn 61 [] []) [(t 0), t46] H fun t47 H =>
 p.call 45 (.fn 16 [] []) [t44, t47, t49] H fun t50 H =>
 p.extr t50 0 fun t51 =>
 p.extr t50 1 fun t52 =>
 p.extr t50 2 fun t53 =>
 p.store 3 (t 3) t51 H fun H =>
 p.bin .sub (t 4) (si 1) fun t19 =>
 Aw p n  k m0 (t 0) (t 2) (t 3) t19 H)
 (p.call 3 (.fn 61 [] []) [(t 0), t46] H fun t47 H =>
 p.load true 3 (t 3) H fun t44 =>
 p.call 45 (.fn 16 [] []) [t44, t47, t49] H fun t50 H =>
 p.extr t50 0 fun t51 =>
 p.extr t50 1 fun t52 =>
 p.extr t50 2 fun t53 =>
 p.store 3 (t 3) t51 H fun H =>
 p.bin .sub (t 4) (si 1) fun t19 =>
 Aw p n  k m0 (t 0) (t 2) (t 3) t19 H))))
 (p.load false 1 t48 H fun t49 =>
 p.both
 (p.load true 3 (t 3) H fun t44 =>
 p.fill [i0, i0, i0] [(0, 1, (si 4)), (1, 1, (si 5)), (2, 1, (si 7))] fun ct46 => p.newSl 3 1 ct46 true H fun t46 H =>
 p.call 3 (.fn 61 [] []) [(t 0), t46] H fun t47 H =>
 p.call 45 (.fn 16 [] []) [t44, t47, t49] H fun t50 H =>
 p.extr t50 0 fun t51 =>
 p.extr t50 1 fun t52 =>
 p.extr t50 2 fun t53 =>
 p.store 3 (t 3) t51 H fun H =>
 p.bin .sub (t 4) (si 1) fun t19 =>
 Aw p n  k m0 (t 0) (t 2) (t 3) t19 H)
 (p.fill [i0, i0, i0] [(0, 1, (si 4)), (1, 1, (si 5)), (2, 1, (si 7))] fun ct46 => p.newSl 3 1 ct46 true H fun t46 H =>
 p.both
 (p.load true 3 (t 3) H fun t44 =>
 p.call 3 (.fn 61 [] []) [(t 0), t46] H fun t47 H =>
 p.call 45 (.fn 16 [] []) [t44, t47, t49] H fun t50 H =>
 p.extr t50 0 fun t51 =>
 p.extr t50 1 fun t52 =>
 p.extr t50 2 fun t53 =>
 p.store 3 (t 3) t51 H fun H =>
 p.bin .sub (t 4) (si 1) fun t19 =>
 Aw p n  k m0 (t 0) (t 2) (t 3) t19 H)
 (p.call 3 (.fn 61 [] []) [(t 0), t46] H fun t47 H =>
 p.load true 3 (t 3) H fun t44 =>
 p.call 45 (.fn 16 [] []) [t44, t47, t49] H fun t50 H =>
 p.extr t50 0 fun t51 =>
 p.extr t50 1 fun t52 =>
 p.extr t50 2 fun t53 =>
 p.store 3 (t 3) t51 H fun H =>
 p.bin .sub (t 4) (si 1) fun t19 =>
 Aw p n  k m0 (t 0) (t 2) (t 3) t19 H)))))
 (p.new [i0, sE, .nl, i0, bF, i0] H fun t5 H =>
 p.call 3 (.fn 59 [] []) [(t 0), t39] H fun t40 H =>
 p.iadr 6 t35 t40 fun t41 =>
 p.load true 6 t41 H fun t42 =>
 p.store 6 t5 t42 H fun H =>
 p.fadr 0 t5 fun t48 =>
 p.both
 (p.load true 3 (t 3) H fun t44 =>
 p.both
 (p.fill [i0, i0, i0] [(0, 1, (si 4)), (1, 1, (si 5)), (2, 1, (si 7))] fun ct46 => p.newSl 3 1 ct46 true H fun t46 H =>
 p.both
 (p.call 3 (.fn 61 [] []) [(t 0), t46] H fun t47 H =>
 p.load false 1 t48 H fun t49 =>
 p.call 45 (.fn 16 [] []) [t44, t47, t49] H fun t50 H =>
 p.extr t50 0 fun t51 =>
 p.extr t50 1 fun t52 =>
 p.extr t50 2 fun t53 =>
 p.store 3 (t 3) t51 H fun H =>
 p.bin .sub (t 4) (si 1) fun t19 =>
 Aw p n  k m0 (t 0) (t 2) (t 3) t19 H)
 (p.load false 1 t48 H fun t49 =>
 p.call 3 (.fn 61 [] []) [(t 0), t46] H fun t47 H =>
 p.call 45 (.fn 16 [] []) [t44, t47, t49] H fun t50 H =>
 p.extr t50 0 fun t51 =>
 p.extr t50 1 fun t52 =>
 p.extr t50 2 fun t53 =>
 p.store 3 (t 3) t51 H fun H =>
 p.bin .sub (t 4) (si 1) fun t19 =>
 Aw p n  k m0 (t 0) (t 2) (t 3) t19 H))
 (p.load false 1 t48 H fun t49 =>
 p.fill [i0, i0, i0] [(0, 1, (si 4)), (1, 1, (si 5)), (2, 1, (si 7))] fun ct46 => p.newSl 3 1 ct46 true H fun t46 H =>
 p.call 3 (.fn 61 [] []) [(t 0), t46] H fun t47 H =>
 p.call 45 (.fn 16 [] []) [t44, t47, t49] H fun t50 H =>
 p.extr t50 0 fun t51 =>
 p.extr t50 1 fun t52 =>
 p.extr t50 2 fun t53 =>
 p.store 3 (t 3) t51 H fun H =>
 p.bin .sub (t 4) (si 1) fun t19 =>
 Aw p n  k m0 (t 0) (t 2) (t 3) t19 H))
 (p.both
 (p.fill [i0, i0, i0] [(0, 1, (si 4)), (1, 1, (si 5)), (2, 1, (si 7))] fun ct46 => p.newSl 3 1 ct46 true H fun t46 H =>
 p.both
 (p.load true 3 (t 3) H fun t44 =>
 p.both
 (p.call 3 (.fn 61 [] []) [(t 0), t46] H fun t47 H =>
 p.load false 1 t48 H fun t49 =>
 p.call 45 (.fn 16 [] []) [t44, t47, t49] H fun t50 H =>
 p.extr t50 0 fun t51 =>
 p.extr t50 1 fun t52 =>
 p.extr t50 2 fun t53 =>
 p.store 3 (t 3) t51 H fun H =>
 p.bin .sub (t 4) (si 1) fun t19 =>
 Aw p n  k m0 (t 0) (t 2) (t 3) t19 H)
 (p.load false 1 t48 H fun t49 =>
 p.call 3 (.fn 61 [] []) [(t 0), t46] H fun t47 H =>
 p.call 45 (.fn 16 [] []) [t44, t47, t49] H fun t50 H =>
 p.extr t50 0 fun t51 =>
 p.extr t50 1 fun t52 =>
 p.extr t50 2 fun t53 =>
 p.store 3 (t 3) t51 H fun H =>
 p.bin .sub (t 4) (si 1) fun t19 =>
 Aw p n  k m0 (t 0) (t 2) (t 3) t19 H))
 (p.both
 (p.call 3 (.fn 61 [] []) [(t 0), t46] H fun t47 H =>
 p.load true 3 (t 3) H fun t44 =>
 p.load false 1 t48 H fun t49 =>
 p.call 45 (.fn 16 [] []) [t44, t47, t49] H fun t50 H =>
 p.extr t50 0 fun t51 =>
 p.extr t50 1 fun t52 =>
 p.extr t50 2 fun t53 =>
 p.store 3 (t 3) t51 H fun H =>
 p.bin .sub (t 4) (si 1) fun t19 =>
 Aw p n  k m0 (t 0) (t 2) (t 3) t19 H)
 (p.load false 1 t48 H fun t49 =>
 p.both
 (p.load true 3 (t 3) H fun t44 =>
 p.call 3 (.fn 61 [] []) [(t 0), t46] H fun t47 H =>
 p.call 45 (.fn 16 [] []) [t44, t47, t49] H fun t50 H =>
 p.extr t50 0 fun t51 =>
 p.extr t50 1 fun t52 =>
 p.extr t50 2 fun t53 =>
 p.store 3 (t 3) t51 H fun H =>
 p.bin .sub (t 4) (si 1) fun t19 =>
 Aw p n  k m0 (t 0) (t 2) (t 3) t19 H)
 (p.call 3 (.fn 61 [] []) [(t 0), t46] H fun t47 H =>
 p.load true 3 (t 3) H fun t44 =>
 p.call 45 (.fn 16 [] []) [t44, t47, t49] H fun t50 H =>
 p.extr t50 0 fun t51 =>
 p.extr t50 1 fun t52 =>
 p.extr t50 2 fun t53 =>
 p.store 3 (t 3) t51 H fun H =>
 p.bin .sub (t 4) (si 1) fun t19 =>
 Aw p n  k m0 (t 0) (t 2) (t 3) t19 H))))
 (p.load false 1 t48 H fun t49 =>
 p.both
 (p.load true 3 (t 3) H fun t44 =>
 p.fill [i0, i0, i0] [(0, 1, (si 4)), (1, 1, (si 5)), (2, 1, (si 7))] fun ct46 => p.newSl 3 1 ct46 true H fun t46 H =>
 p.call 3 (.fn 61 [] []) [(t 0), t46] H fun t47 H =>
 p.call 45 (.fn 16 [] []) [t44, t47, t49] H fun t50 H =>
 p.extr t50 0 fun t51 =>
 p.extr t50 1 fun t52 =>
 p.extr t50 2 fun t53 =>
 p.store 3 (t 3) t51 H fun H =>
 p.bin .sub (t 4) (si 1) fun t19 =>
 Aw p n  k m0 (t 0) (t 2) (t 3) t19 H)
 (p.fill [i0, i0, i0] [(0, 1, (si 4)), (1, 1, (si 5)), (2, 1, (si 7))] fun ct46 => p.newSl 3 1 ct46 true H fun t46 H =>
 p.both
 (p.load true 3 (t 3) H fun t44 =>
 p.call 3 (.fn 61 [] []) [(t 0), t46] H fun t47 H =>
 p.call 45 (.fn 16 [] []) [t44, t47, t49] H fun t50 H =>
 p.extr t50 0 fun t51 =>
 p.extr t50 1 fun t52 =>
 p.extr t50 2 fun t53 =>
 p.store 3 (t 3) t51 H fun H =>
 p.bin .sub (t 4) (si 1) fun t19 =>
 Aw p n  k m0 (t 0) (t 2) (t 3) t19 H)
 (p.call 3 (.fn 61 [] []) [(t 0), t46] H fun t47 H =>
 p.load true 3 (t 3) H fun t44 =>
 p.call 45 (.fn 16 [] []) [t44, t47, t49] H fun t50 H =>
 p.extr t50 0 fun t51 =>
 p.extr t50 1 fun t52 =>
 p.extr t50 2 fun t53 =>
 p.store 3 (t 3) t51 H fun H =>
 p.bin .sub (t 4) (si 1) fun t19 =>
 Aw p n  k m0 (t 0) (t 2) (t 3) t19 H))))))
 (p.both
 (p.call 3 (.fn 59 [] []) [(t 0), t39] H fun t40 H =>
 p.load false 1 t34 H fun t35 =>
 p.iadr 6 t35 t40 fun t41 =>
 p.load true 6 t41 H fun t42 =>
 p.new [i0, sE, .nl, i0, bF, i0] H fun t5 H =>
 p.store 6 t5 t42 H fun H =>
 p.fadr 0 t5 fun t48 =>
 p.both
 (p.load true 3 (t 3) H fun t44 =>
 p.both
 (p.fill [i0, i0, i0] [(0, 1, (si 4)), (1, 1, (si 5)), (2, 1, (si 7))] fun ct46 => p.newSl 3 1 ct46 true H fun t46 H =>
 p.both
 (p.call 3 (.fn 61 [] []) [(t 0), t46] H fun t47 H =>
 p.load false 1 t48 H fun t49 =>
 p.call 45 (.fn 16 [] []) [t44, t47, t49] H fun t50 H =>
 p.extr t50 0 fun t51 =>
 p.extr t50 1 fun t52 =>
 p.extr t50 2 fun t53 =>
 p.store 3 (t 3) t51 H fun H =>
 p.bin .sub (t 4) (si 1) fun t19 =>
 Aw p n  k m0 (t 0) (t 2) (t 3) t19 H)
 (p.load false 1 t48 H fun t49 =>
 p.call 3 (.fn 61 [] []) [(t 0), t46] H fun t47 H =>
 p.call 45 (.fn 16 [] []) [t44, t47, t49] H fun t50 H =>
 p.extr t50 0 fun t51 =>
 p.extr t50 1 fun t52 =>
 p.extr t50 2 fun t53 =>
 p.store 3 (t 3) t51 H fun H =>
 p.bin .sub (t 4) (si 1) fun t19 =>
 Aw p n  k m0 (t 0) (t 2) (t 3) t19 H))
 (p.load false 1 t48 H fun t49 =>
 p.fill [i0, i0, i0] [(0, 1, (si 4)), (1, 1, (si 5)), (2, 1, (si 7))] fun ct46 => p.newSl 3 1 ct46 true H fun t46 H =>
 p.call 3 (.fn 61 [] []) [(t 0), t46] H fun t47 H =>
 p.call 45 (.fn 16 [] []) [t44, t47, t49] H fun t50 H =>
 p.extr t50 0 fun t51 =>
 p.extr t50 1 fun t52 =>
 p.extr t50 2 fun t53 =>
 p.store 3 (t 3) t51 H fun H =>
 p.bin .sub (t 4) (si 1) fun t19 =>
 Aw p n  k m0 (t 0) (t 2) (t 3) t19 H))
 (p.both
 (p.fill [i0, i0, i0] [(0, 1, (si 4)), (1, 1, (si 5)), (2, 1, (si 7))] fun ct46 => p.newSl 3 1 ct46 true H fun t46 H =>
 p.both
 (p.load true 3 (t 3) H fun t44 =>
 p.both
 (p.call 3 (.fn 61 [] []) [(t 0), t46] H fun t47 H =>
 p.load false 1 t48 H fun t49 =>
 p.call 45 (.fn 16 [] []) [t44, t47, t49] H fun t50 H =>
 p.extr t50 0 fun t51 =>
 p.extr t50 1 fun t52 =>
 p.extr t50 2 fun t53 =>
 p.store 3 (t 3) t51 H fun H =>
 p.bin .sub (t 4) (si 1) fun t19 =>
 Aw p n  k m0 (t 0) (t 2) (t 3) t19 H)
 (p.load false 1 t48 H fun t49 =>
 p.call 3 (.fn 61 [] []) [(t 0), t46] H fun t47 H =>
 p.call 45 (.fn 16 [] []) [t44, t47, t49] H fun t50 H =>
 p.extr t50 0 fun t51 =>
 p.extr t50 1 fun t52 =>
 p.extr t50 2 fun t53 =>
 p.store 3 (t 3) t51 H fun H =>
 p.bin .sub (t 4) (si 1) fun t19 =>
 Aw p n  k m0 (t 0) (t 2) (t 3) t19 H))
 (p.both
 (p.call 3 (.fn 61 [] []) [(t 0), t46] H fun t47 H =>
 p.load true 3 (t 3) H fun t44 =>
 p.load false 1 t48 H fun t49 =>
 p.call 45 (.fn 16 [] []) [t44, t47, t49] H fun t50 H =>
 p.extr t50 0 fun t51 =>
 p.extr t50 1 fun t52 =>
 p.extr t50 2 fun t53 =>
 p.store 3 (t 3) t51 H fun H =>
 p.bin .sub (t 4) (si 1) fun t19 =>
 Aw p n  k m0 (t 0) (t 2) (t 3) t19 H)
 (p.load false 1 t48 H fun t49 =>
 p.both
 (p.load true 3 (t 3) H fun t44 =>
 p.call 3 (.fn 61 [] []) [(t 0), t46] H fun t47 H =>
 p.call 45 (.fn 16 [] []) [t44, t47, t49] H fun t50 H =>
 p.extr t50 0 fun t51 =>
 p.extr t50 1 fun t52 =>
 p.extr t50 2 fun t53 =>
 p.store 3 (t 3) t51 H fun H =>
 p.bin .sub (t 4) (si 1) fun t19 =>
 Aw p n  k m0 (t 0) (t 2) (t 3) t19 H)
 (p.call 3 (.fn 61 [] []) [(t 0), t46] H fun t47 H =>
 p.load true 3 (t 3) H fun t44 =>
 p.call 45 (.fn 16 [] []) [t44, t47, t49] H fun t50 H =>
 p.extr t50 0 fun t51 =>
 p.extr t50 1 fun t52 =>
 p.extr t50 2 fun t53 =>
 p.store 3 (t 3) t51 H fun H =>
 p.bin .sub (t 4) (si 1) fun t19 =>
 Aw p n  k m0 (t 0) (t 2) (t 3) t19 H))))
 (p.load false 1 t48 H fun t49 =>
 p.both
 (p.load true 3 (t 3) H fun t44 =>
 p.fill [i0, i0, i0] [(0, 1, (si 4)), (1, 1, (si 5)), (2, 1, (si 7))] fun ct46 => p.newSl 3 1 ct46 true H fun t46 H =>
 p.call 3 (.fn 61 [] []) [(t 0), t46] H fun t47 H =>
 p.call 45 (.fn 16 [] []) [t44, t47, t49] H fun t50 H =>
 p.extr t50 0 fun t51 =>
 p.extr t50 1 fun t52 =>
 p.extr t50 2 fun t53 =>
 p.store 3 (t 3) t51 H fun H =>
 p.bin .sub (t 4) (si 1) fun t19 =>
 Aw p n  k m0 (t 0) (t 2) (t 3) t19 H)
 (p.fill [i0, i0, i0] [(0, 1, (si 4)), (1, 1, (si 5)), (2, 1, (si 7))] fun ct46 => p.newSl 3 1 ct46 true H fun t46 H =>
 p.both
 (p.load true 3 (t 3) H fun t44 =>
 p.call 3 (.fn 61 [] []) [(t 0), t46] H fun t47 H =>
 p.call 45 (.fn 16 [] []) [t44, t47, t49] H fun t50 H =>
 p.extr t50 0 fun t51 =>
 p.extr t50 1 fun t52 =>
 p.extr t50 2 fun t53 =>
 p.store 3 (t 3) t51 H fun H =>
 p.bin .sub (t 4) (si 1) fun t19 =>
 Aw p n  k m0 (t 0) (t 2) (t 3) t19 H)
 (p.call 3 (.fn 61 [] []) [(t 0), t46] H fun t47 H =>
 p.load true 3 (t 3) H fun t44 =>
 p.call 45 (.fn 16 [] []) [t44, t47, t49] H fun t50 H =>
 p.extr t50 0 fun t51 =>
 p.extr t50 1 fun t52 =>
 p.extr t50 2 fun t53 =>
 p.store 3 (t 3) t51 H fun H =>
 p.bin .sub (t 4) (si 1) fun t19 =>
 Aw p n  k m0 (t 0) (t 2) (t 3) t19 H)))))
 (p.new [i0, sE, .nl, i0, bF, i0] H fun t5 H =>
 p.both
 (p.load false 1 t34 H fun t35 =>
 p.call 3 (.fn 59 [] []) [(t 0), t39] H fun t40 H =>
 p.iadr 6 t35 t40 fun t41 =>
 p.load true 6 t41 H fun t42 =>
 p.store 6 t5 t42 H fun H =>
 p.fadr 0 t5 fun t48 =>
 p.both
 (p.load true 3 (t 3) H fun t44 =>
 p.both
 (p.fill [i0, i0, i0] [(0, 1, (si 4)), (1, 1, (si 5)), (2, 1, (si 7))] fun ct46 => p.newSl 3 1 ct46 true H fun t46 H =>
 p.both
 (p.call 3 (.fn 61 [] []) [(t 0), t46] H fun t47 H =>
 p.load false 1 t48 H fun t49 =>
 p.call 45 (.fn 16 [] []) [t44, t47, t49] H fun t50 H =>
 p.extr t50 0 fun t51 =>
 p.extr t50 1 fun t52 =>
 p.extr t50 2 fun t53 =>
 p.store 3 (t 3) t51 H fun H =>
 p.bin .sub (t 4) (si 1) fun t19 =>
 Aw p n  k m0 (t 0) (t 2) (t 3) t19 H)
 (p.load false 1 t48 H fun t49 =>
 p.call 3 (.fn 61 [] []) [(t 0), t46] H fun t47 H =>
 p.call 45 (.fn 16 [] []) [t44, t47, t49] H fun t50 H =>
 p.extr t50 0 fun t51 =>
 p.extr t50 1 fun t52 =>
 p.extr t50 2 fun t53 =>
 p.store 3 (t 3) t51 H fun H =>
 p.bin .sub (t 4) (si 1) fun t19 =>
 Aw p n  k m0 (t 0) (t 2) (t 3) t19 H))
 (p.load false 1 t48 H fun t49 =>
 p.fill [i0, i0, i0] [(0, 1, (si 4)), (1, 1, (si 5)), (2, 1, (si 7))] fun ct46 => p.newSl 3 1 ct46 true H fun t46 H =>
 p.call 3 (.fn 61 [] []) [(t 0), t46] H fun t47 H =>
 p.call 45 (.fn 16 [] []) [t44, t47, t49] H fun t50 H =>
 p.extr t50 0 fun t51 =>
 p.extr t50 1 fun t52 =>
 p.extr t50 2 fun t53 =>
 p.store 3 (t 3) t51 H fun H =>
 p.bin .sub (t 4) (si 1) fun t19 =>
 Aw p n  k m0 (t 0) (t 2) (t 3) t19 H))
 (p.both
 (p.fill [i0, i0, i0] [(0, 1, (si 4)), (1, 1, (si 5)), (2, 1, (si 7))] fun ct46 => p.newSl 3 1 ct46 true H fun t46 H =>
 p.both
 (p.load true 3 (t 3) H fun t44 =>
 p.both
 (p.call 3 (.fn 61 [] []) [(t 0), t46] H fun t47 H =>
 p.load false 1 t48 H fun t49 =>
 p.call 45 (.fn 16 [] []) [t44, t47, t49] H fun t50 H =>
 p.extr t50 0 fun t51 =>
 p.extr t50 1 fun t52 =>
 p.extr t50 2 fun t53 =>
 p.store 3 (t 3) t51 H fun H =>
 p.bin .sub (t 4) (si 1) fun t19 =>
 Aw p n  k m0 (t 0) (t 2) (t 3) t19 H)
 (p.load false 1 t48 H fun t49 =>
 p.call 3 (.fn 61 [] []) [(t 0), t46] H fun t47 H =>
 p.call 45 (.fn 16 [] []) [t44, t47, t49] H fun t50 H =>
 p.extr t50 0 fun t51 =>
 p.extr t50 1 fun t52 =>
 p.extr t50 2 fun t53 =>
 p.store 3 (t 3) t51 H fun H =>
 p.bin .sub (t 4) (si 1) fun t19 =>
 Aw p n  k m0 (t 0) (t 2) (t 3) t19 H))
 (p.both
 (p.call 3 (.fn 61 [] []) [(t 0), t46] H fun t47 H =>
 p.load true 3 (t 3) H fun t44 =>
 p.load false 1 t48 H fun t49 =>
 p.call 45 (.fn 16 [] []) [t44, t47, t49] H fun t50 H =>
 p.extr t50 0 fun t51 =>
 p.extr t50 1 fun t52 =>
 p.extr t50 2 fun t53 =>
 p.store 3 (t 3) t51 H fun H =>
 p.bin .sub (t 4) (si 1) fun t19 =>
 Aw p n  k m0 (t 0) (t 2) (t 3) t19 H)
 (p.load false 1 t48 H fun t49 =>
 p.both
 (p.load true 3 (t 3) H fun t44 =>
 p.call 3 (.fn 61 [] []) [(t 0), t46] H fun t47 H =>
 p.call 45 (.fn 16 [] []) [t44, t47, t49] H fun t50 H =>
 p.extr t50 0 fun t51 =>
 p.extr t50 1 fun t52 =>
 p.extr t50 2 fun t53 =>
 p.store 3 (t 3) t51 H fun H =>
 p.bin .sub (t 4) (si 1) fun t19 =>
 Aw p n  k m0 (t 0) (t 2) (t 3) t19 H)
 (p.call 3 (.fn 61 [] []) [(t 0), t46] H fun t47 H =>
 p.load true 3 (t 3) H fun t44 =>
 p.call 45 (.fn 16 [] []) [t44, t47, t49] H fun t50 H =>
 p.extr t50 0 fun t51 =>
 p.extr t50 1 fun t52 =>
 p.extr t50 2 fun t53 =>
 p.store 3 (t 3) t51 H fun H =>
 p.bin .sub (t 4) (si 1) fun t19 =>
 Aw p n  k m0 (t 0) (t 2) (t 3) t19 H))))
 (p.load false 1 t48 H fun t49 =>
 p.both
 (p.load true 3 (t 3) H fun t44 =>
 p.fill [i0, i0, i0] [(0, 1, (si 4)), (1, 1, (si 5)), (2, 1, (si 7))] fun ct46 => p.newSl 3 1 ct46 true H fun t46 H =>
 p.call 3 (.fn 61 [] []) [(t 0), t46] H fun t47 H =>
 p.call 45 (.fn 16 [] []) [t44, t47, t49] H fun t50 H =>
 p.extr t50 0 fun t51 =>
 p.extr t50 1 fun t52 =>
 p.extr t50 2 fun t53 =>
 p.store 3 (t 3) t51 H fun H =>
 p.bin .sub (t 4) (si 1) fun t19 =>
 Aw p n  k m0 (t 0) (t 2) (t 3) t19 H)
 (p.fill [i0, i0, i0] [(0, 1, (si 4)), (1, 1, (si 5)), (2, 1, (si 7))] fun ct46 => p.newSl 3 1 ct46 true H fun t46 H =>
 p.both
 (p.load true 3 (t 3) H fun t44 =>
 p.call 3 (.fn 61 [] []) [(t 0), t46] H fun t47 H =>
 p.call 45 (.fn 16 [] []) [t44, t47, t49] H fun t50 H =>
 p.extr t50 0 fun t51 =>
 p.extr t50 1 fun t52 =>
 p.extr t50 2 fun t53 =>
 p.store 3 (t 3) t51 H fun H =>
 p.bin .sub (t 4) (si 1) fun t19 =>
 Aw p n  k m0 (t 0) (t 2) (t 3) t19 H)
 (p.call 3 (.fn 61 [] []) [(t 0), t46] H fun t47 H =>
 p.load true 3 (t 3) H fun t44 =>
 p.call 45 (.fn 16 [] []) [t44, t47, t49] H fun t50 H =>
 p.extr t50 0 fun t51 =>
 p.extr t50 1 fun t52 =>
 p.extr t50 2 fun t53 =>
 p.store 3 (t 3) t51 H fun H =>
 p.bin .sub (t 4) (si 1) fun t19 =>
 Aw p n  k m0 (t 0) (t 2) (t 3) t19 H)))))
 (p.call 3 (.fn 59 [] []) [(t 0), t39] H fun t40 H =>
 p.load false 1 t34 H fun t35 =>
 p.iadr 6 t35 t40 fun t41 =>
 p.load true 6 t41 H fun t42 =>
 p.store 6 t5 t42 H fun H =>
 p.fadr 0 t5 fun t48 =>
 p.both
 (p.load true 3 (t 3) H fun t44 =>
 p.both
 (p.fill [i0, i0, i0] [(0, 1, (si 4)), (1, 1, (si 5)), (2, 1, (si 7))] fun ct46 => p.newSl 3 1 ct46 true H fun t46 H =>
 p.both
 (p.call 3 (.fn 61 [] []) [(t 0), t46] H fun t47 H =>
 p.load false 1 t48 H fun t49 =>
 p.call 45 (.fn 16 [] []) [t44, t47, t49] H fun t50 H =>
 p.extr t50 0 fun t51 =>
 p.extr t50 1 fun t52 =>
 p.extr t50 2 fun t53 =>
 p.store 3 (t 3) t51 H fun H =>
 p.bin .sub (t 4) (si 1) fun t19 =>
 Aw p n  k m0 (t 0) (t 2) (t 3) t19 H)
 (p.load false 1 t48 H fun t49 =>
 p.call 3 (.fn 61 [] []) [(t 0), t46] H fun t47 H =>
 p.call 45 (.fn 16 [] []) [t44, t47, t49] H fun t50 H =>
 p.extr t50 0 fun t51 =>
 p.extr t50 1 fun t52 =>
 p.extr t50 2 fun t53 =>
 p.store 3 (t 3) t51 H fun H =>
 p.bin .sub (t 4) (si 1) fun t19 =>
 Aw p n  k m0 (t 0) (t 2) (t 3) t19 H))
 (p.load false 1 t48 H fun t49 =>
 p.fill [i0, i0, i0] [(0, 1, (si 4)), (1, 1, (si 5)), (2, 1, (si 7))] fun ct46 => p.newSl 3 1 ct46 true H fun t46 H =>
 p.call 3 (.fn 61 [] []) [(t 0), t46] H fun t47 H =>
 p.call 45 (.fn 16 [] []) [t44, t47, t49] H fun t50 H =>
 p.extr t50 0 fun t51 =>
 p.extr t50 1 fun t52 =>
 p.extr t50 2 fun t53 =>
 p.store 3 (t 3) t51 H fun H =>
 p.bin .sub (t 4) (si 1) fun t19 =>
 Aw p n  k m0 (t 0) (t 2) (t 3) t19 H))
 (p.both
 (p.fill [i0, i0, i0] [(0, 1, (si 4)), (1, 1, (si 5)), (2, 1, (si 7))] fun ct46 => p.newSl 3 1 ct46 true H fun t46 H =>
 p.both
 (p.load true 3 (t 3) H fun t44 =>
 p.both
 (p.call 3 (.fn 61 [] []) [(t 0), t46] H fun t47 H =>
 p.load false 1 t48 H fun t49 =>
 p.call 45 (.fn 16 [] []) [t44, t47, t49] H fun t50 H =>
 p.extr t50 0 fun t51 =>
 p.extr t50 1 fun t52 =>
 p.extr t50 2 fun t53 =>
 p.store 3 (t 3) t51 H fun H =>
 p.bin .sub (t 4) (si 1) fun t19 =>
 Aw p n  k m0 (t 0) (t 2) (t 3) t19 H)
 (p.load false 1 t48 H fun t49 =>
 p.call 3 (.fn 61 [] []) [(t 0), t46] H fun t47 H =>
 p.call 45 (.fn 16 [] []) [t44, t47, t49] H fun t50 H =>
 p.extr t50 0 fun t51 =>
 p.extr t50 1 fun t52 =>
 p.extr t50 2 fun t53 =>
 p.store 3 (t 3) t51 H fun H =>
 p.bin .sub (t 4) (si 1) fun t19 =>
 Aw p n  k m0 (t 0) (t 2) (t 3) t19 H))
 (p.both
 (p.call 3 (.fn 61 [] []) [(t 0), t46] H fun t47 H =>
 p.load true 3 (t 3) H fun t44 =>
 p.load false 1 t48 H fun t49 =>
 p.call 45 (.fn 16 [] []) [t44, t47, t49] H fun t50 H =>
 p.extr t50 0 fun t51 =>
 p.extr t50 1 fun t52 =>
 p.extr t50 2 fun t53 =>
 p.store 3 (t 3) t51 H fun H =>
 p.bin .sub (t 4) (si 1) fun t19 =>
 Aw p n  k m0 (t 0) (t 2) (t 3) t19 H)
 (p.load false 1 t48 H fun t49 =>
 p.both
 (p.load true 3 (t 3) H fun t44 =>
 p.call 3 (.fn 61 [] []) [(t 0), t46] H fun t47 H =>
 p.call 45 (.fn 16 [] []) [t44, t47, t49] H fun t50 H =>
 p.extr t50 0 fun t51 =>
 p.extr t50 1 fun t52 =>
 p.extr t50 2 fun t53 =>
 p.store 3 (t 3) t51 H fun H =>
 p.bin .sub (t 4) (si 1) fun t19 =>
 Aw p n  k m0 (t 0) (t 2) (t 3) t19 H)
 (p.call 3 (.fn 61 [] []) [(t 0), t46] H fun t47 H =>
 p.load true 3 (t 3) H fun t44 =>
 p.call 45 (.fn 16 [] []) [t44, t47, t49] H fun t50 H =>
 p.extr t50 0 fun t51 =>
 p.extr t50 1 fun t52 =>
 p.extr t50 2 fun t53 =>
 p.store 3 (t 3) t51 H fun H =>
 p.bin .sub (t 4) (si 1) fun t19 =>
 Aw p n  k m0 (t 0) (t 2) (t 3) t19 H))))
 (p.load false 1 t48 H fun t49 =>
 p.both
 (p.load true 3 (t 3) H fun t44 =>
 p.fill [i0, i0, i0] [(0, 1, (si 4)), (1, 1, (si 5)), (2, 1, (si 7))] fun ct46 => p.newSl 3 1 ct46 true H fun t46 H =>
 p.call 3 (.fn 61 [] []) [(t 0), t46] H fun t47 H =>
 p.call 45 (.fn 16 [] []) [t44, t47, t49] H fun t50 H =>
 p.extr t50 0 fun t51 =>
 p.extr t50 1 fun t52 =>
 p.extr t50 2 fun t53 =>
 p.store 3 (t 3) t51 H fun H =>
 p.bin .sub (t 4) (si 1) fun t19 =>
 Aw p n  k m0 (t 0) (t 2) (t 3) t19 H)
 (p.fill [i0, i0, i0] [(0, 1, (si 4)), (1, 1, (si 5)), (2, 1, (si 7))] fun ct46 => p.newSl 3 1 ct46 true H fun t46 H =>
 p.both
 (p.load true 3 (t 3) H fun t44 =>
 p.call 3 (.fn 61 [] []) [(t 0), t46] H fun t47 H =>
 p.call 45 (.fn 16 [] []) [t44, t47, t49] H fun t50 H =>
 p.extr t50 0 fun t51 =>
 p.extr t50 1 fun t52 =>
 p.extr t50 2 fun t53 =>
 p.store 3 (t 3) t51 H fun H =>
 p.bin .sub (t 4) (si 1) fun t19 =>
 Aw p n  k m0 (t 0) (t 2) (t 3) t19 H)
 (p.call 3 (.fn 61 [] []) [(t 0), t46] H fun t47 H =>
 p.load true 3 (t 3) H fun t44 =>
 p.call 45 (.fn 16 [] []) [t44, t47, t49] H fun t50 H =>
 p.extr t50 0 fun t51 =>
 p.extr t50 1 fun t52 =>
 p.extr t50 2 fun t53 =>
 p.store 3 (t 3) t51 H fun H =>
 p.bin .sub (t 4) (si 1) fun t19 =>
 Aw p n  k m0 (t 0) (t 2) (t 3) t19 H))))))))
 (p.bin .sub (t 4) (si 1) fun t19 =>
 Aw p n  k m0 (t 0) (t 2) (t 3) t19 H))
 (p.call 3 (.fn 59 [] []) [(t 0), (si 4)] H fun t55 H =>
 AdK p n  k n (tf 68 0 (ud [(6, t55), (16, (t 4)), (17, t17), (54, (t 0)), (55, t55)] t)) H) := by kernel_rfl
theorem AbG (p : Pr β) (n : Nat)  (k : KO β) (m0 : Nat) : ∀ (t : Nat → AV) (H : Ab), AdJ p n  k m0 (tf 68 0 t) H = Aw p n  k m0 (t 0) (t 2) (t 3) (t 4) H := by
 induction m0 with
 | zero => intros; rfl
 | succ m0 ih =>
  intro t H
  refine Eq.trans (B8 (nt := 68) (m := m0) (g := fun t H => Aw p n  k m0 (t 0) (t 2) (t 3) (t 4) H) ih rfl) ?_
  refine Eq.trans (Wq p n  k m0 t H) ?_
  simp only [Ua]
  kernel_rfl
theorem AfB (p : Pr β) (n : Nat) (a0 : AV) (H : Ab) (k : KO β) : Cf Ar p n fi86 [a0] H k =
 p.new [i0, .nl, .nl] H fun t2 H =>
 p.fill [i0, i0, i0, i0, i0] [(0, 1, i0), (1, 1, i0), (2, 1, (si 3)), (3, 1, (si 65534)), (4, 1, (si 65535))] fun ct8 => p.newSl 5 1 ct8 true H fun t8 H =>
 p.call 3 (.fn 61 [] []) [a0, t8] H fun t9 H =>
 p.fill [i0, .nl, .nl] [(0, 1, t9)] fun ct10 =>
 p.new [i0, .nl, .nl] H fun t3 H =>
 p.store 3 t3 (.agg ct10) H fun H =>
 p.call 25 (.fn 112 [] []) [a0, (si 6)] H fun t12 H =>
 p.fadr 2 t3 fun t13 =>
 p.store 1 t13 t12 H fun H =>
 p.call 3 (.fn 59 [] []) [a0, (si 6)] H fun t15 H =>
 AdJ p n  k n (tf 68 0 (ud [(0, a0), (2, t2), (3, t3), (4, t15), (7, a0), (8, t8), (9, t9), (10, (.agg ct10)), (11, a0), (12, t12), (13, t13), (14, a0), (15, t15)] ut)) H := by kernel_rfl
theorem AdL : Jr fi86 @f86 := fun p n a0 H k => by
 rw [AfB]
 simp only [Ua, AbG]
 kernel_rfl
noncomputable def f124 (n : Nat) (a0 : AV) (H : Ab) (k : KO β) : Option β :=
 p.call 4 (.fn 60 [] []) [a0, (si 3)] H fun t4 H =>
 p.cond t4
 (p.call 9 (.fn 123 [] []) [a0] H fun t6 H =>
 k t6 H)
 (p.fill [sE, sE, sE, sE, sE, sE, sE, sE, sE, sE, sE, sE, sE, sE, sE, sE] [(0, 1, (.sc (.string ⟨#[35]⟩))), (1, 1, (.sc (.string ⟨#[43]⟩))), (2, 1, (.sc (.string ⟨#[97, 47, 35]⟩))), (3, 1, (.sc (.string ⟨#[97, 47, 43]⟩))), (4, 1, (.sc (.string ⟨#[43, 47, 98]⟩))), (5, 1, (.sc (.string ⟨#[43, 47, 43]⟩))), (6, 1, (.sc (.string ⟨#[97, 47, 43, 47, 99]⟩))), (7, 1, (.sc (.string ⟨#[97, 47, 98, 47, 35]⟩))), (8, 1, (.sc (.string ⟨#[36, 115, 47, 35]⟩))), (9, 1, (.sc (.string ⟨#[36, 115, 47, 43]⟩))), (10, 1, (.sc (.string ⟨#[43, 47, 35]⟩))), (11, 1, (.sc (.string ⟨#[47, 43]⟩))), (12, 1, (.sc (.string ⟨#[47, 35]⟩))), (13, 1, (.sc (.string ⟨#[97, 47, 43, 47, 35]⟩))), (14, 1, (.sc (.string ⟨#[98, 47, 35]⟩))), (15, 1, (.sc (.string ⟨#[43, 47, 98, 47, 43]⟩)))] fun ct8 => p.newSl 16 1 ct8 true H fun t8 H =>
 p.call 9 (.fn 107 [] []) [a0, t8] H fun t9 H =>
 k t9 H)
theorem Ab1 : Jr AgH @f124 := fun p n a0 H k => by kernel_rfl
noncomputable def f104 (n : Nat) (a0 : AV) (H : Ab) (k : KO β) : Option β :=
 p.call 3 (.fn 59 [] []) [a0, (si 3)] H fun t4 H =>
 p.bin .eql t4 i0 fun t6 =>
 p.cond t6
 (p.call 9 (.fn 123 [] []) [a0] H fun t8 H =>
 k t8 H)
 (p.bin .eql t4 (si 1) fun t10 =>
 p.cond t10
 (p.call 9 (.fn 124 [] []) [a0] H fun t12 H =>
 k t12 H)
 (p.fill [sE, sE, sE, sE, sE, sE, sE, sE, sE, sE, sE, sE, sE, sE, sE, sE] [(0, 1, sE), (1, 1, (.sc (.string ⟨#[97, 43]⟩))), (2, 1, (.sc (.string ⟨#[97, 47, 98, 43]⟩))), (3, 1, (.sc (.string ⟨#[43, 97]⟩))), (4, 1, (.sc (.string ⟨#[35, 47, 97]⟩))), (5, 1, (.sc (.string ⟨#[97, 35]⟩))), (6, 1, (.sc (.string ⟨#[97, 47, 35, 47, 98]⟩))), (7, 1, (.sc (.string ⟨#[35, 35]⟩))), (8, 1, (.sc (.string ⟨#[43, 43]⟩))), (9, 1, (.sc (.string ⟨#[97, 47, 98, 47, 99, 47, 100, 47, 101, 47, 102]⟩))), (10, 1, (.sc (.string ⟨#[97, 47, 98, 47, 99, 47, 100, 47, 101, 47, 102, 47, 103]⟩))), (11, 1, (.sc (.string ⟨#[47, 47, 47, 47, 47]⟩))), (12, 1, (.sc (.string ⟨#[47, 47, 47, 47, 47, 47]⟩))), (13, 1, (.sc (.string ⟨#[0]⟩))), (14, 1, (.sc (.string ⟨#[255]⟩))), (15, 1, (.sc (.string ⟨#[49, 50, 51, 52, 53, 54, 55, 56, 57, 48, 49, 50, 51, 52, 53, 54, 55, 56, 57, 48, 49, 50, 51, 52, 53, 54, 55, 56, 57, 48, 49, 50, 51, 52, 53, 54, 55, 56, 57, 48, 49, 50, 51, 52, 53, 54, 55, 56, 57, 48, 49, 50, 51, 52, 53, 54, 55, 56, 57, 48, 49]⟩)))] fun ct14 => p.newSl 16 1 ct14 true H fun t14 H =>
 p.call 9 (.fn 107 [] []) [a0, t14] H fun t15 H =>
 k t15 H))
theorem Abm : Jr AgD @f104 := fun p n a0 H k => by kernel_rfl
noncomputable def f66 (n : Nat) (a0 : AV) (H : Ab) (k : KO β) : Option β :=
 p.new [sE, .nl, i0, bF] H fun t2 H =>
 p.call 33 (.fn 103 [] []) [a0] H fun t5 H =>
 p.new [sE, .nl, i0, bF] H fun t3 H =>
 p.store 4 t3 t5 H fun H =>
 p.call 3 (.fn 59 [] []) [a0, (si 12)] H fun t7 H =>
 p.bin .eql t7 i0 fun t9 =>
 p.cond t9
 (p.call 9 (.fn 104 [] []) [a0] H fun t11 H =>
 p.fadr 0 t3 fun t12 =>
 p.store 1 t12 t11 H fun H =>
 p.load true 4 t3 H fun t27 =>
 p.store 4 t2 t27 H fun H =>
 p.load true 4 t2 H fun r0 =>
 k r0 H)
 (p.bin .eql t7 (si 1) fun t14 =>
 p.cond t14
 (p.fill [i0, i0] [(0, 1, (si 40)), (1, 1, (si 41))] fun ct17 => p.newSl 2 1 ct17 true H fun t17 H =>
 p.call 3 (.fn 61 [] []) [a0, t17] H fun t18 H =>
 p.call 22 (.fn 105 [] []) [a0, t18] H fun t19 H =>
 p.fadr 1 t3 fun t20 =>
 p.store 1 t20 t19 H fun H =>
 p.load true 4 t3 H fun t27 =>
 p.store 4 t2 t27 H fun H =>
 p.load true 4 t2 H fun r0 =>
 k r0 H)
 (p.bin .eql t7 (si 2) fun t22 =>
 p.cond t22
 (p.fill [i0, i0] [(0, 1, (si (-1))), (1, 1, (si 3))] fun ct24 => p.newSl 2 1 ct24 true H fun t24 H =>
 p.call 3 (.fn 61 [] []) [a0, t24] H fun t25 H =>
 p.fadr 2 t3 fun t26 =>
 p.store 1 t26 t25 H fun H =>
 p.load true 4 t3 H fun t27 =>
 p.store 4 t2 t27 H fun H =>
 p.load true 4 t2 H fun r0 =>
 k r0 H)
 (p.load true 4 t3 H fun t27 =>
 p.store 4 t2 t27 H fun H =>
 p.load true 4 t2 H fun r0 =>
 k r0 H)))
theorem Ad8 : Jr Ajo @f66 := fun p n a0 H k => by kernel_rfl
noncomputable def f87 (n : Nat) (a0 : AV) (H : Ab) (k : KO β) : Option β :=
 p.call 25 (.fn 112 [] []) [a0, (si 8)] H fun t5 H =>
 p.call 4 (.fn 60 [] []) [a0, (si 4)] H fun t7 H =>
 Le (fun (t3 : AV) (H : Ab) => k t3 H) fun j1 =>
 p.cond t7
 (p.call 33 (.fn 66 [] []) [a0] H fun t10 H =>
 p.fill [sE, .nl, i0, bF] [(0, 4, t10)] fun ct11 => p.newSl 1 4 ct11 true H fun t11 H =>
 p.app 4 56 t5 t11 H fun t12 H =>
 j1 t12 H)
 (j1 t5 H)
theorem AdM : Jr Ajt @f87 := fun p n a0 H k => by kernel_rfl
noncomputable def f41 (n : Nat) (a0 : AV) (H : Ab) (k : KO β) : Option β :=
 p.new [i0, .nl, .nl] H fun t2 H =>
 p.call 27 (.fn 86 [] []) [a0] H fun t5 H =>
 p.new [i0, .nl, .nl] H fun t3 H =>
 p.store 3 t3 t5 H fun H =>
 p.call 3 (.fn 59 [] []) [a0, (si 14)] H fun t7 H =>
 p.bin .eql t7 i0 fun t9 =>
 p.cond t9
 (p.fill [i0, i0] [(0, 1, (si (-1))), (1, 1, (si 65536))] fun ct11 => p.newSl 2 1 ct11 true H fun t11 H =>
 p.call 3 (.fn 61 [] []) [a0, t11] H fun t12 H =>
 p.fadr 0 t3 fun t13 =>
 p.store 1 t13 t12 H fun H =>
 p.load true 3 t3 H fun t68 =>
 p.store 3 t2 t68 H fun H =>
 p.load true 3 t2 H fun r0 =>
 k r0 H)
 (p.bin .eql t7 (si 1) fun t15 =>
 p.cond t15
 (p.call 25 (.fn 87 [] []) [a0] H fun t17 H =>
 p.fadr 2 t3 fun t18 =>
 p.store 1 t18 t17 H fun H =>
 p.load true 3 t3 H fun t68 =>
 p.store 3 t2 t68 H fun H =>
 p.load true 3 t2 H fun r0 =>
 k r0 H)
 (p.bin .eql t7 (si 2) fun t20 =>
 p.cond t20
 (p.fadr 1 t3 fun t21 =>
 p.load false 1 t21 H fun t22 =>
 p.len t22 fun t23 =>
 p.bin .gtr t23 i0 fun t24 =>
 p.cond t24
 (p.fadr 1 t3 fun t25 =>
 p.both
 (p.load false 1 t25 H fun t26 =>
 p.fill [i0, i0, i0, i0] [(0, 1, i0), (1, 1, (si 1)), (2, 1, (si 2)), (3, 1, (si 65536))] fun ct28 => p.newSl 4 1 ct28 true H fun t28 H =>
 p.call 3 (.fn 61 [] []) [a0, t28] H fun t29 H =>
 p.iadr 6 t26 i0 fun t30 =>
 p.fadr 0 t30 fun t31 =>
 p.store 1 t31 t29 H fun H =>
 p.load true 3 t3 H fun t68 =>
 p.store 3 t2 t68 H fun H =>
 p.load true 3 t2 H fun r0 =>
 k r0 H)
 (p.fill [i0, i0, i0, i0] [(0, 1, i0), (1, 1, (si 1)), (2, 1, (si 2)), (3, 1, (si 65536))] fun ct28 => p.newSl 4 1 ct28 true H fun t28 H =>
 p.both
 (p.load false 1 t25 H fun t26 =>
 p.call 3 (.fn 61 [] []) [a0, t28] H fun t29 H =>
 p.iadr 6 t26 i0 fun t30 =>
 p.fadr 0 t30 fun t31 =>
 p.store 1 t31 t29 H fun H =>
 p.load true 3 t3 H fun t68 =>
 p.store 3 t2 t68 H fun H =>
 p.load true 3 t2 H fun r0 =>
 k r0 H)
 (p.call 3 (.fn 61 [] []) [a0, t28] H fun t29 H =>
 p.load false 1 t25 H fun t26 =>
 p.iadr 6 t26 i0 fun t30 =>
 p.fadr 0 t30 fun t31 =>
 p.store 1 t31 t29 H fun H =>
 p.load true 3 t3 H fun t68 =>
 p.store 3 t2 t68 H fun H =>
 p.load true 3 t2 H fun r0 =>
 k r0 H)))
 (p.load true 3 t3 H fun t68 =>
 p.store 3 t2 t68 H fun H =>
 p.load true 3 t2 H fun r0 =>
 k r0 H))
 (p.bin .eql t7 (si 3) fun t33 =>
 p.cond t33
 (p.fadr 1 t3 fun t34 =>
 p.load false 1 t34 H fun t35 =>
 p.len t35 fun t36 =>
 p.bin .gtr t36 i0 fun t37 =>
 p.cond t37
 (p.fadr 1 t3 fun t38 =>
 p.both
 (p.load false 1 t38 H fun t39 =>
 p.fill [i0, i0, i0, i0, i0] [(0, 1, i0), (1, 1, (si 1)), (2, 1, (si 2)), (3, 1, (si 3)), (4, 1, (si 4))] fun ct41 => p.newSl 5 1 ct41 true H fun t41 H =>
 p.call 3 (.fn 61 [] []) [a0, t41] H fun t42 H =>
 p.iadr 6 t39 i0 fun t43 =>
 p.fadr 5 t43 fun t44 =>
 p.store 1 t44 t42 H fun H =>
 p.load true 3 t3 H fun t68 =>
 p.store 3 t2 t68 H fun H =>
 p.load true 3 t2 H fun r0 =>
 k r0 H)
 (p.fill [i0, i0, i0, i0, i0] [(0, 1, i0), (1, 1, (si 1)), (2, 1, (si 2)), (3, 1, (si 3)), (4, 1, (si 4))] fun ct41 => p.newSl 5 1 ct41 true H fun t41 H =>
 p.both
 (p.load false 1 t38 H fun t39 =>
 p.call 3 (.fn 61 [] []) [a0, t41] H fun t42 H =>
 p.iadr 6 t39 i0 fun t43 =>
 p.fadr 5 t43 fun t44 =>
 p.store 1 t44 t42 H fun H =>
 p.load true 3 t3 H fun t68 =>
 p.store 3 t2 t68 H fun H =>
 p.load true 3 t2 H fun r0 =>
 k r0 H)
 (p.call 3 (.fn 61 [] []) [a0, t41] H fun t42 H =>
 p.load false 1 t38 H fun t39 =>
 p.iadr 6 t39 i0 fun t43 =>
 p.fadr 5 t43 fun t44 =>
 p.store 1 t44 t42 H fun H =>
 p.load true 3 t3 H fun t68 =>
 p.store 3 t2 t68 H fun H =>
 p.load true 3 t2 H fun r0 =>
 k r0 H)))
 (p.load true 3 t3 H fun t68 =>
 p.store 3 t2 t68 H fun H =>
 p.load true 3 t2 H fun r0 =>
 k r0 H))
 (p.bin .eql t7 (si 4) fun t46 =>
 p.cond t46
 (p.fadr 1 t3 fun t47 =>
 p.load false 1 t47 H fun t48 =>
 p.len t48 fun t49 =>
 p.bin .gtr t49 i0 fun t50 =>
 p.cond t50
 (p.fadr 1 t3 fun t51 =>
 p.both
 (p.load false 1 t51 H fun t52 =>
 p.call 33 (.fn 66 [] []) [a0] H fun t54 H =>
 p.iadr 6 t52 i0 fun t55 =>
 p.fadr 1 t55 fun t56 =>
 p.store 4 t56 t54 H fun H =>
 p.load true 3 t3 H fun t68 =>
 p.store 3 t2 t68 H fun H =>
 p.load true 3 t2 H fun r0 =>
 k r0 H)
 (p.call 33 (.fn 66 [] []) [a0] H fun t54 H =>
 p.load false 1 t51 H fun t52 =>
 p.iadr 6 t52 i0 fun t55 =>
 p.fadr 1 t55 fun t56 =>
 p.store 4 t56 t54 H fun H =>
 p.load true 3 t3 H fun t68 =>
 p.store 3 t2 t68 H fun H =>
 p.load true 3 t2 H fun r0 =>
 k r0 H))
 (p.load true 3 t3 H fun t68 =>
 p.store 3 t2 t68 H fun H =>
 p.load true 3 t2 H fun r0 =>
 k r0 H))
 (p.bin .eql t7 (si 5) fun t58 =>
 p.cond t58
 (p.fadr 1 t3 fun t59 =>
 p.load false 1 t59 H fun t60 =>
 p.fill [sE, .nl, i0, bF] [(0, 1, (.sc (.string ⟨#[97]⟩))), (2, 1, (si 1))] fun ct61 =>
 p.fill [i0, sE, .nl, i0, bF, i0] [(0, 1, (si 9)), (1, 4, (.agg ct61)), (5, 1, (si 1))] fun ct62 =>
 p.fill [sE, .nl, i0, bF] [(0, 1, (.sc (.string ⟨#[97]⟩))), (2, 1, (si 2))] fun ct63 =>
 p.fill [i0, sE, .nl, i0, bF, i0] [(0, 1, (si 10)), (1, 4, (.agg ct63)), (5, 1, (si 3))] fun ct64 =>
 p.fill [i0, sE, .nl, i0, bF, i0, i0, sE, .nl, i0, bF, i0] [(0, 6, (.agg ct62)), (6, 6, (.agg ct64))] fun ct65 => p.newSl 2 6 ct65 true H fun t65 H =>
 p.app 6 72 t60 t65 H fun t66 H =>
 p.fadr 1 t3 fun t67 =>
 p.store 1 t67 t66 H fun H =>
 p.load true 3 t3 H fun t68 =>
 p.store 3 t2 t68 H fun H =>
 p.load true 3 t2 H fun r0 =>
 k r0 H)
 (p.load true 3 t3 H fun t68 =>
 p.store 3 t2 t68 H fun H =>
 p.load true 3 t2 H fun r0 =>
 k r0 H))))))
theorem Adg : Jr AiV @f41 := fun p n a0 H k => by kernel_rfl
noncomputable def f8 (n : Nat) (a0 : AV) (H : Ab) (k : KO β) : Option β :=
 p.new [i0, .nl, .nl] H fun t2 H =>
 p.ca 71 40 [a0] H fun t5 H =>
 p.ca 27 41 [t5] H fun t7 H =>
 p.store 3 t2 t7 H fun H =>
 p.load true 3 t2 H fun r0 =>
 k r0 H
theorem AfE : Jr fi8 @f8 := fun p n a0 H k => by kernel_rfl
noncomputable def f47 (n : Nat) (a0 a1 a2 : AV) (H : Ab) (k : KO β) : Option β :=
 p.bin .geq a0 a1 fun t9 =>
 p.kT t9 H a0 fun t11 H =>
 p.kT t9 H a2 fun t12 H =>
 p.gT t9 H (p.bin .leq t11 t12) fun t13 H =>
 p.pick t9 t13 (.sc (.bool false)) fun t14 =>
 k t14 H
theorem Adn : Bd3 Ajb @f47 := fun p n a0 a1 a2 H k => by kernel_rfl
noncomputable def f44 (n : Nat) (a0 : AV) (H : Ab) (k : KO β) : Option β :=
 p.call 4 (.fn 47 [] []) [a0, (.sc (.int .i64 1)), (.sc (.int .i64 65535))] H fun t4 H =>
 k t4 H
theorem Adj : Jr AiY @f44 := fun p n a0 H k => by kernel_rfl
noncomputable def f90 (n : Nat) (a0 a1 : AV) (H : Ab) (k : KO β) : Option β :=
 p.box a0 H fun t2 H =>
 p.fadr 0 t2 fun t4 =>
 p.load false 1 t4 H fun t5 =>
 p.load false 1 a1 H fun t6 =>
 p.bin .eql t5 t6 fun t7 =>
 k t7 H
theorem AdR : Pi Aju @f90 := fun p n a0 a1 H k => by kernel_rfl
noncomputable def R6 (p : Pr β) (n : Nat)  (k : KO β) : Nat → AV → AV → AV → KO β
 | 0, _, _, _, _, _ => none
 | m + 1, t0, t1, t7, t8, H => p.bin .lss t8 t7 fun t9 =>
   p.cond t9
   (p.iadr 6 t0 t8 fun t14 =>
   p.load true 6 t14 H fun t15 =>
   p.call 4 t1 [t15] H fun t16 H =>
   p.cond t16
   (k t8 H)
   (p.bin .add t8 (si 1) fun t18 =>
   R6 p n  k m t0 t1 t7 t18 H))
   (k (si (-1)) H)
noncomputable def f89 (n : Nat) (a0 a1 : AV) (H : Ab) (k : KO β) : Option β :=
 p.len a0 fun t7 =>
 R6 p n  k n a0 a1 t7 i0 H
noncomputable def AdP (p : Pr β) (n : Nat)  (k : KO β) (m : Nat) (tm : Tm) (H : Ab) : Option β :=
 D3 19 (fun tm H k => Ak Ar p [] 19 n (cd c89 [1, 0, 1, 0, 0]) tm H k) (E3 0 (Em (fun tm H => Ak Ar p [] 19 n (cd c89 [1, 1]) tm H (Cz Ar p fi89.results k)) (Cz Ar p fi89.results k))) m tm H
theorem AbI (p : Pr β) (n : Nat)  (k : KO β) (m0 : Nat) : ∀ (t : Nat → AV) (H : Ab), AdP p n  k m0 (tf 19 0 t) H = R6 p n  k m0 (t 0) (t 1) (t 7) (t 8) H := by
 induction m0 with
 | zero => intros; rfl
 | succ m0 ih =>
  intro t H
  refine Eq.trans (B8 (nt := 19) (m := m0) (g := fun t H => R6 p n  k m0 (t 0) (t 1) (t 7) (t 8) H) ih rfl) ?_
  kernel_rfl
theorem AfD (p : Pr β) (n : Nat) (a0 a1 : AV) (H : Ab) (k : KO β) : Cf Ar p n fi89 [a0, a1] H k =
 p.len a0 fun t7 =>
 AdP p n  k n (tf 19 0 (ud [(0, a0), (1, a1), (4, i0), (6, a0), (7, t7), (8, i0)] ut)) H := by kernel_rfl
theorem AdQ : Pi fi89 @f89 := fun p n a0 a1 H k => by
 rw [AfD]
 simp only [AbI]
 kernel_rfl
noncomputable def f45 (n : Nat) (a0 a1 : AV) (H : Ab) (k : KO β) : Option β :=
 p.box a1 H fun t3 H =>
 p.call 3 (.fn 89 [] []) [a0, (.fn 90 [] [t3])] H fun t7 H =>
 k t7 H
theorem Adl : Pi AiZ @f45 := fun p n a0 a1 H k => by kernel_rfl
noncomputable def f95 (n : Nat) (a0 : AV) (H : Ab) (k : KO β) : Option β :=
 p.call 38 (.fn 118 [] []) [a0, (.sc (.string ⟨#[47]⟩))] H fun t4 H =>
 k t4 H
theorem AdV : Jr Ajw @f95 := fun p n a0 H k => by kernel_rfl
noncomputable def f57 (n : Nat) (a0 : AV) (H : Ab) (k : KO β) : Option β :=
 p.call 4 (.fn 93 [] []) [a0] H fun t4 H =>
 p.kT t4 H a0 fun t6 H =>
 p.gT t4 H (p.bin .neq t6 sE) fun t7 H =>
 p.pick t4 t7 bF fun t8 =>
 p.kT t8 H a0 fun t10 H =>
 p.hT t8 H (p.call 4 (.fn 94 [] []) [t10, (.sc (.string ⟨#[43, 35]⟩))] H) fun t11 H =>
 p.gT t8 H (p.un .not t11) fun t12 H =>
 p.pick t8 t12 bF fun t13 =>
 p.kT t13 H a0 fun t15 H =>
 p.hT t13 H (p.call 38 (.fn 95 [] []) [t15] H) fun t16 H =>
 p.gT t13 H (p.len t16) fun t17 H =>
 p.gT t13 H (p.bin .leq t17 (si 6)) fun t18 H =>
 p.pick t13 t18 bF fun t19 =>
 k t19 H
theorem Ady : Jr Ajj @f57 := fun p n a0 H k => by kernel_rfl
noncomputable def f56 (n : Nat) (a0 : AV) (H : Ab) (k : KO β) : Option β :=
 p.call 4 (.fn 47 [] []) [a0, i0, (si 2)] H fun t4 H =>
 k t4 H
theorem Adw : Jr Aji @f56 := fun p n a0 H k => by kernel_rfl
noncomputable def f46 (n : Nat) (a0 : AV) (H : Ab) (k : KO β) : Option β :=
 p.box a0 H fun t1 H =>
 p.fadr 0 t1 fun t3 =>
 p.load false 1 t3 H fun t4 =>
 p.call 4 (.fn 57 [] []) [t4] H fun t5 H =>
 p.gT t5 H (p.fadr 1 t1) fun t7 H =>
 p.gT t5 H (p.load false 1 t7 H) fun t8 H =>
 p.gT t5 H (p.len t8) fun t9 H =>
 p.gT t5 H (p.bin .leq t9 (si 40)) fun t10 H =>
 p.pick t5 t10 bF fun t11 =>
 p.gT t11 H (p.fadr 2 t1) fun t13 H =>
 p.gT t11 H (p.load false 1 t13 H) fun t14 H =>
 p.hT t11 H (p.call 4 (.fn 56 [] []) [t14] H) fun t15 H =>
 p.pick t11 t15 bF fun t16 =>
 k t16 H
theorem Adm : Jr Aja @f46 := fun p n a0 H k => by kernel_rfl
noncomputable def f48 (n : Nat) (a0 : AV) (H : Ab) (k : KO β) : Option β :=
 p.call 4 (.fn 47 [] []) [a0, (.sc (.int .i64 0)), (.sc (.int .i64 65535))] H fun t4 H =>
 k t4 H
theorem Ado : Jr Ajc @f48 := fun p n a0 H k => by kernel_rfl
noncomputable def R7 (p : Pr β) (n : Nat)  (k : KO β) : Nat → AV → AV → KO β
 | 0, _, _, _, _ => none
 | m + 1, t5, t6, t7, H => p.bin .lss t7 t6 fun t8 =>
   p.cond t8
   (p.iadr 4 t5 t7 fun t9 =>
   p.load true 4 t9 H fun t10 =>
   p.new [sE, .nl, i0, bF] H fun t4 H =>
   p.store 4 t4 t10 H fun H =>
   p.load true 4 t4 H fun t11 =>
   p.call 4 (.fn 46 [] []) [t11] H fun t12 H =>
   p.un .not t12 fun t13 =>
   p.cond t13
   (k bF H)
   (p.bin .add t7 (si 1) fun t14 =>
   R7 p n  k m t5 t6 t14 H))
   (k bT H)
noncomputable def f91 (n : Nat) (a0 : AV) (H : Ab) (k : KO β) : Option β :=
 p.len a0 fun t6 =>
 R7 p n  k n a0 t6 i0 H
noncomputable def AdS (p : Pr β) (n : Nat)  (k : KO β) (m : Nat) (tm : Tm) (H : Ab) : Option β :=
 D3 15 (fun tm H k => Ak Ar p [] 15 n (cd c91 [1, 0, 1, 0, 0]) tm H k) (E3 0 (Em (fun tm H => Ak Ar p [] 15 n (cd c91 [1, 1]) tm H (Cz Ar p fi91.results k)) (Cz Ar p fi91.results k))) m tm H
theorem AbJ (p : Pr β) (n : Nat)  (k : KO β) (m0 : Nat) : ∀ (t : Nat → AV) (H : Ab), AdS p n  k m0 (tf 15 0 t) H = R7 p n  k m0 (t 5) (t 6) (t 7) H := by
 induction m0 with
 | zero => intros; rfl
 | succ m0 ih =>
  intro t H
  refine Eq.trans (B8 (nt := 15) (m := m0) (g := fun t H => R7 p n  k m0 (t 5) (t 6) (t 7) H) ih rfl) ?_
  kernel_rfl
theorem AfF (p : Pr β) (n : Nat) (a0 : AV) (H : Ab) (k : KO β) : Cf Ar p n fi91 [a0] H k =
 p.len a0 fun t6 =>
 AdS p n  k n (tf 15 0 (ud [(0, a0), (2, bF), (5, a0), (6, t6), (7, i0)] ut)) H := by kernel_rfl
theorem AdT : Jr fi91 @f91 := fun p n a0 H k => by
 rw [AfF]
 simp only [AbJ]
 kernel_rfl
noncomputable def f49 (n : Nat) (a0 : AV) (H : Ab) (k : KO β) : Option β :=
 p.len a0 fun t4 =>
 p.bin .leq t4 (si 6) fun t5 =>
 p.kT t5 H a0 fun t7 H =>
 p.hT t5 H (p.call 4 (.fn 91 [] []) [t7] H) fun t8 H =>
 p.pick t5 t8 bF fun t9 =>
 k t9 H
theorem Adp : Jr Ajd @f49 := fun p n a0 H k => by kernel_rfl
noncomputable def Rv (p : Pr β) (n : Nat)  (k : KO β) : Nat → AV → AV → AV → KO β
 | 0, _, _, _, _, _ => none
 | m + 1, t1, t6, t7, t8, H => p.bin .lss t8 t7 fun t9 =>
   p.cond t9
   (p.iadr 6 t6 t8 fun t11 =>
   p.load true 6 t11 H fun t12 =>
   p.new [i0, sE, .nl, i0, bF, i0] H fun t4 H =>
   p.store 6 t4 t12 H fun H =>
   p.fadr 0 t4 fun t13 =>
   p.load false 1 t13 H fun t14 =>
   p.call 4 (.fn 44 [] []) [t14] H fun t15 H =>
   p.un .not t15 fun t16 =>
   p.gF t16 H (p.fadr 1 t1) fun t18 H =>
   p.gF t16 H (p.load false 1 t18 H) fun t19 H =>
   p.gF t16 H (p.fadr 0 t4) fun t20 H =>
   p.gF t16 H (p.load false 1 t20 H) fun t21 H =>
   p.hF t16 H (p.call 3 (.fn 45 [] []) [t19, t21] H) fun t22 H =>
   p.kF t16 H t8 fun t23 H =>
   p.gF t16 H (p.bin .neq t22 t23) fun t24 H =>
   p.pick t16 bT t24 fun t25 =>
   p.gF t25 H (p.fadr 1 t4) fun t27 H =>
   p.gF t25 H (p.load true 4 t27 H) fun t28 H =>
   p.hF t25 H (p.call 4 (.fn 46 [] []) [t28] H) fun t29 H =>
   p.gF t25 H (p.un .not t29) fun t30 H =>
   p.pick t25 bT t30 fun t31 =>
   p.cond t31
   (k bF H)
   (p.fadr 1 t4 fun t32 =>
   p.fadr 2 t32 fun t33 =>
   p.load false 1 t33 H fun t34 =>
   p.bin .eql t34 i0 fun t35 =>
   p.gF t35 H (p.fadr 1 t4) fun t37 H =>
   p.gF t35 H (p.fadr 2 t37) fun t38 H =>
   p.gF t35 H (p.load false 1 t38 H) fun t39 H =>
   p.gF t35 H (p.bin .eql t39 (si 1)) fun t40 H =>
   p.gF t35 H (p.fadr 5 t4) fun t41 H =>
   p.gF t35 H (p.load false 1 t41 H) fun t42 H =>
   p.gF t35 H (p.bin .eql t42 (si 1)) fun t43 H =>
   p.gF t35 H (p.binB .neq t40 t43) fun t44 H =>
   p.pick t35 bT t44 fun t45 =>
   p.gF t45 H (p.fadr 5 t4) fun t47 H =>
   p.gF t45 H (p.load false 1 t47 H) fun t48 H =>
   p.hF t45 H (p.call 4 (.fn 47 [] []) [t48, (si 1), (si 3)] H) fun t49 H =>
   p.gF t45 H (p.un .not t49) fun t50 H =>
   p.pick t45 bT t50 fun t51 =>
   p.cond t51
   (k bF H)
   (p.bin .add t8 (si 1) fun t52 =>
   Rv p n  k m t1 t6 t7 t52 H)))
   (p.fadr 0 t1 fun t53 =>
   p.load false 1 t53 H fun t54 =>
   p.call 4 (.fn 48 [] []) [t54] H fun t55 H =>
   p.gT t55 H (p.fadr 1 t1) fun t57 H =>
   p.gT t55 H (p.load false 1 t57 H) fun t58 H =>
   p.gT t55 H (p.len t58) fun t59 H =>
   p.gT t55 H (p.bin .leq t59 (si 3)) fun t60 H =>
   p.pick t55 t60 bF fun t61 =>
   p.gT t61 H (p.fadr 2 t1) fun t63 H =>
   p.gT t61 H (p.load false 1 t63 H) fun t64 H =>
   p.hT t61 H (p.call 4 (.fn 49 [] []) [t64] H) fun t65 H =>
   p.pick t61 t65 bF fun t66 =>
   k t66 H)
noncomputable def f10 (n : Nat) (a0 : AV) (H : Ab) (k : KO β) : Option β :=
 p.box a0 H fun t1 H =>
 p.fadr 1 t1 fun t5 =>
 p.load false 1 t5 H fun t6 =>
 p.len t6 fun t7 =>
 Rv p n  k n t1 t6 t7 i0 H
noncomputable def AcD (p : Pr β) (n : Nat)  (k : KO β) (m : Nat) (tm : Tm) (H : Ab) : Option β :=
 D3 67 (fun tm H k => Ak Ar p [] 67 n (cd c10 [1, 0, 1, 0, 0]) tm H k) (E3 0 (Em (fun tm H => Ak Ar p [] 67 n (cd c10 [1, 1]) tm H (Cz Ar p fi10.results k)) (Cz Ar p fi10.results k))) m tm H
theorem Abp (p : Pr β) (n : Nat)  (k : KO β) (m0 : Nat) : ∀ (t : Nat → AV) (H : Ab), AcD p n  k m0 (tf 67 0 t) H = Rv p n  k m0 (t 1) (t 6) (t 7) (t 8) H := by
 induction m0 with
 | zero => intros; rfl
 | succ m0 ih =>
  intro t H
  refine Eq.trans (B8 (nt := 67) (m := m0) (g := fun t H => Rv p n  k m0 (t 1) (t 6) (t 7) (t 8) H) ih rfl) ?_
  kernel_rfl
theorem Afk (p : Pr β) (n : Nat) (a0 : AV) (H : Ab) (k : KO β) : Cf Ar p n fi10 [a0] H k =
 p.box a0 H fun t1 H =>
 p.fadr 1 t1 fun t5 =>
 p.load false 1 t5 H fun t6 =>
 p.len t6 fun t7 =>
 AcD p n  k n (tf 67 0 (ud [(0, a0), (1, t1), (2, bF), (5, t5), (6, t6), (7, t7), (8, i0)] ut)) H := by kernel_rfl
theorem AcE : Jr fi10 @f10 := fun p n a0 H k => by
 rw [Afk]
 simp only [Abp]
 kernel_rfl
noncomputable def f54 (n : Nat) (a0 : AV) (H : Ab) (k : KO β) : Option β :=
 p.box a0 H fun t1 H =>
 p.new Hl H fun t2 H =>
 p.fadr 0 t1 fun t4 =>
 p.load false 1 t4 H fun t5 =>
 p.fill Hl [(0, 1, t5)] fun ct6 =>
 p.new Hl H fun t3 H =>
 p.store 25 t3 (.agg ct6) H fun H =>
 p.fadr 0 t1 fun t7 =>
 p.load false 1 t7 H fun t8 =>
 p.bin .eql t8 (si 1) fun t10 =>
 p.cond t10
 (p.fadr 7 t1 fun t11 =>
 p.load false 1 t11 H fun t12 =>
 p.fadr 8 t1 fun t13 =>
 p.fadr 9 t1 fun t15 =>
 p.fadr 10 t1 fun t17 =>
 p.fadr 11 t1 fun t19 =>
 p.fadr 16 t1 fun t21 =>
 p.fadr 7 t3 fun t23 =>
 p.apart t13 [t3] H
 (p.load false 1 t13 H fun t14 =>
 p.apart t15 [t3] H
 (p.load false 1 t15 H fun t16 =>
 p.apart t17 [t3] H
 (p.load false 1 t17 H fun t18 =>
 p.apart t19 [t3] H
 (p.load false 1 t19 H fun t20 =>
 p.apart t21 [t3] H
 (p.load false 1 t21 H fun t22 =>
 p.same t23 t3
 (p.store 1 t23 t12 H fun H =>
 p.fadr 8 t3 fun t24 =>
 p.same t24 t3
 (p.store 1 t24 t14 H fun H =>
 p.fadr 9 t3 fun t25 =>
 p.same t25 t3
 (p.store 1 t25 t16 H fun H =>
 p.fadr 10 t3 fun t26 =>
 p.same t26 t3
 (p.store 1 t26 t18 H fun H =>
 p.fadr 11 t3 fun t27 =>
 p.same t27 t3
 (p.store 1 t27 t20 H fun H =>
 p.fadr 16 t3 fun t28 =>
 p.store 1 t28 t22 H fun H =>
 p.fadr 11 t1 fun t29 =>
 p.load false 1 t29 H fun t30 =>
 Le (fun (t1 t2 t3 : AV) (H : Ab) => p.fadr 16 t1 fun t43 =>
 p.load false 1 t43 H fun t44 =>
 Le (fun (t1 t2 t3 : AV) (H : Ab) => p.fadr 18 t3 fun t51 =>
 p.load false 1 t51 H fun t52 =>
 p.cond t52
 (p.fadr 19 t1 fun t53 =>
 p.load false 1 t53 H fun t54 =>
 p.fadr 19 t3 fun t55 =>
 p.store 1 t55 t54 H fun H =>
 p.load true 25 t3 H fun t120 =>
 p.store 25 t2 t120 H fun H =>
 p.load true 25 t2 H fun r0 =>
 k r0 H)
 (p.load true 25 t3 H fun t120 =>
 p.store 25 t2 t120 H fun H =>
 p.load true 25 t2 H fun r0 =>
 k r0 H)) fun j2 =>
 p.cond t44
 (p.fadr 17 t1 fun t45 =>
 p.load false 1 t45 H fun t46 =>
 p.fadr 18 t1 fun t47 =>
 p.fadr 17 t3 fun t49 =>
 p.apart t47 [t3] H
 (p.load false 1 t47 H fun t48 =>
 p.same t49 t3
 (p.store 1 t49 t46 H fun H =>
 p.fadr 18 t3 fun t50 =>
 p.store 1 t50 t48 H fun H =>
 j2 t1 t2 t3 H)))
 (j2 t1 t2 t3 H)) fun j1 =>
 p.cond t30
 (p.fadr 12 t1 fun t31 =>
 p.load false 1 t31 H fun t32 =>
 p.fadr 13 t1 fun t33 =>
 p.fadr 14 t1 fun t35 =>
 p.fadr 15 t1 fun t37 =>
 p.fadr 12 t3 fun t39 =>
 p.apart t33 [t3] H
 (p.load false 1 t33 H fun t34 =>
 p.apart t35 [t3] H
 (p.load false 1 t35 H fun t36 =>
 p.apart t37 [t3] H
 (p.load false 1 t37 H fun t38 =>
 p.same t39 t3
 (p.store 1 t39 t32 H fun H =>
 p.fadr 13 t3 fun t40 =>
 p.same t40 t3
 (p.store 1 t40 t34 H fun H =>
 p.fadr 14 t3 fun t41 =>
 p.same t41 t3
 (p.store 1 t41 t36 H fun H =>
 p.fadr 15 t3 fun t42 =>
 p.store 1 t42 t38 H fun H =>
 j1 t1 t2 t3 H)))))))
 (j1 t1 t2 t3 H))))))))))))
 (p.bin .eql t8 (si 2) fun t57 =>
 p.cond t57
 (p.fadr 20 t1 fun t58 =>
 p.load false 1 t58 H fun t59 =>
 p.fadr 21 t1 fun t60 =>
 p.fadr 20 t3 fun t62 =>
 p.apart t60 [t3] H
 (p.load false 1 t60 H fun t61 =>
 p.same t62 t3
 (p.store 1 t62 t59 H fun H =>
 p.fadr 21 t3 fun t63 =>
 p.store 1 t63 t61 H fun H =>
 p.load true 25 t3 H fun t120 =>
 p.store 25 t2 t120 H fun H =>
 p.load true 25 t2 H fun r0 =>
 k r0 H)))
 (p.bin .eql t8 (si 3) fun t65 =>
 p.cond t65
 (p.fadr 2 t1 fun t66 =>
 p.load false 1 t66 H fun t67 =>
 p.fadr 3 t1 fun t68 =>
 p.fadr 5 t1 fun t70 =>
 p.fadr 6 t1 fun t72 =>
 p.fadr 2 t3 fun t74 =>
 p.apart t68 [t3] H
 (p.load false 1 t68 H fun t69 =>
 p.apart t70 [t3] H
 (p.load false 1 t70 H fun t71 =>
 p.apart t72 [t3] H
 (p.load false 1 t72 H fun t73 =>
 p.same t74 t3
 (p.store 1 t74 t67 H fun H =>
 p.fadr 3 t3 fun t75 =>
 p.same t75 t3
 (p.store 1 t75 t69 H fun H =>
 p.fadr 5 t3 fun t76 =>
 p.same t76 t3
 (p.store 1 t76 t71 H fun H =>
 p.fadr 6 t3 fun t77 =>
 p.store 1 t77 t73 H fun H =>
 p.fadr 2 t1 fun t78 =>
 p.load false 1 t78 H fun t79 =>
 p.bin .gtr t79 i0 fun t80 =>
 p.cond t80
 (p.fadr 1 t1 fun t81 =>
 p.load false 1 t81 H fun t82 =>
 p.fadr 4 t1 fun t83 =>
 p.fadr 1 t3 fun t85 =>
 p.apart t83 [t3] H
 (p.load false 1 t83 H fun t84 =>
 p.same t85 t3
 (p.store 1 t85 t82 H fun H =>
 p.fadr 4 t3 fun t86 =>
 p.store 1 t86 t84 H fun H =>
 p.load true 25 t3 H fun t120 =>
 p.store 25 t2 t120 H fun H =>
 p.load true 25 t2 H fun r0 =>
 k r0 H)))
 (p.load true 25 t3 H fun t120 =>
 p.store 25 t2 t120 H fun H =>
 p.load true 25 t2 H fun r0 =>
 k r0 H))))))))
 (p.bin .eql t8 (si 4) fun t88 =>
 Le (fun (t1 t2 t3 t8 t87 : AV) (H : Ab) => p.cond t87
 (p.fadr 4 t1 fun t93 =>
 p.load false 1 t93 H fun t94 =>
 p.fadr 4 t3 fun t95 =>
 p.store 1 t95 t94 H fun H =>
 p.load true 25 t3 H fun t120 =>
 p.store 25 t2 t120 H fun H =>
 p.load true 25 t2 H fun r0 =>
 k r0 H)
 (p.bin .eql t8 (si 8) fun t97 =>
 p.cond t97
 (p.fadr 4 t1 fun t98 =>
 p.load false 1 t98 H fun t99 =>
 p.fadr 22 t1 fun t100 =>
 p.fadr 4 t3 fun t102 =>
 p.apart t100 [t3] H
 (p.load false 1 t100 H fun t101 =>
 p.same t102 t3
 (p.store 1 t102 t99 H fun H =>
 p.fadr 22 t3 fun t103 =>
 p.store 1 t103 t101 H fun H =>
 p.load true 25 t3 H fun t120 =>
 p.store 25 t2 t120 H fun H =>
 p.load true 25 t2 H fun r0 =>
 k r0 H)))
 (p.bin .eql t8 (si 9) fun t105 =>
 p.cond t105
 (p.fadr 4 t1 fun t106 =>
 p.load false 1 t106 H fun t107 =>
 p.fadr 24 t1 fun t108 =>
 p.fadr 4 t3 fun t110 =>
 p.apart t108 [t3] H
 (p.load false 1 t108 H fun t109 =>
 p.same t110 t3
 (p.store 1 t110 t107 H fun H =>
 p.fadr 24 t3 fun t111 =>
 p.store 1 t111 t109 H fun H =>
 p.load true 25 t3 H fun t120 =>
 p.store 25 t2 t120 H fun H =>
 p.load true 25 t2 H fun r0 =>
 k r0 H)))
 (p.bin .eql t8 (si 10) fun t113 =>
 p.cond t113
 (p.fadr 4 t1 fun t114 =>
 p.load false 1 t114 H fun t115 =>
 p.fadr 23 t1 fun t116 =>
 p.fadr 4 t3 fun t118 =>
 p.apart t116 [t3] H
 (p.load false 1 t116 H fun t117 =>
 p.same t118 t3
 (p.store 1 t118 t115 H fun H =>
 p.fadr 23 t3 fun t119 =>
 p.store 1 t119 t117 H fun H =>
 p.load true 25 t3 H fun t120 =>
 p.store 25 t2 t120 H fun H =>
 p.load true 25 t2 H fun r0 =>
 k r0 H)))
 (p.load true 25 t3 H fun t120 =>
 p.store 25 t2 t120 H fun H =>
 p.load true 25 t2 H fun r0 =>
 k r0 H))))) fun j3 =>
 p.cond t88
 (j3 t1 t2 t3 t8 t88 H)
 (p.bin .eql t8 (si 5) fun t89 =>
 p.cond t89
 (j3 t1 t2 t3 t8 t89 H)
 (p.bin .eql t8 (si 6) fun t90 =>
 p.cond t90
 (j3 t1 t2 t3 t8 t90 H)
 (p.bin .eql t8 (si 7) fun t91 =>
 p.cond t91
 (j3 t1 t2 t3 t8 t91 H)
 (p.bin .eql t8 (si 11) fun t92 =>
 j3 t1 t2 t3 t8 t92 H)))))))
theorem Adv : Jr Ajh @f54 := fun p n a0 H k => by kernel_rfl
noncomputable def f69 (n : Nat) (a0 a1 : AV) (H : Ab) (k : KO β) : Option β :=
 p.cvBS a0 H fun t6 =>
 p.cvBS a1 H fun t8 =>
 p.bin .eql t6 t8 fun t9 =>
 k t9 H
theorem AdB : Pi Ajr @f69 := fun p n a0 a1 H k => by kernel_rfl
noncomputable def R3 (p : Pr β) (n : Nat)  (k : KO β) : Nat → AV → AV → AV → KO β
 | 0, _, _, _, _, _ => none
 | m + 1, t0, t1, t12, t13, H => p.bin .lss t13 t12 fun t14 =>
   p.cond t14
   (p.iadr 2 t0 t13 fun t18 =>
   p.load true 2 t18 H fun t19 =>
   p.iadr 2 t1 t13 fun t22 =>
   p.load true 2 t22 H fun t23 =>
   p.binA .neq [1, 0] t19 t23 fun t24 =>
   p.cond t24
   (k bF H)
   (p.bin .add t13 (si 1) fun t25 =>
   R3 p n  k m t0 t1 t12 t25 H))
   (k bT H)
noncomputable def f70 (n : Nat) (a0 a1 : AV) (H : Ab) (k : KO β) : Option β :=
 p.len a0 fun t7 =>
 p.len a1 fun t9 =>
 p.bin .neq t7 t9 fun t10 =>
 p.cond t10
 (k bF H)
 (p.len a0 fun t12 =>
 R3 p n  k n a0 a1 t12 i0 H)
noncomputable def AdC (p : Pr β) (n : Nat)  (k : KO β) (m : Nat) (tm : Tm) (H : Ab) : Option β :=
 D3 26 (fun tm H k => Ak Ar p o70 26 n (cd c70 [1, 1, 0, 1, 0, 0]) tm H k) (E3 0 (Em (fun tm H => Ak Ar p o70 26 n (cd c70 [1, 1, 1]) tm H (Cz Ar p fi70.results k)) (Cz Ar p fi70.results k))) m tm H
theorem AbD (p : Pr β) (n : Nat)  (k : KO β) (m0 : Nat) : ∀ (t : Nat → AV) (H : Ab), AdC p n  k m0 (tf 26 0 t) H = R3 p n  k m0 (t 0) (t 1) (t 12) (t 13) H := by
 induction m0 with
 | zero => intros; rfl
 | succ m0 ih =>
  intro t H
  refine Eq.trans (B8 (nt := 26) (m := m0) (g := fun t H => R3 p n  k m0 (t 0) (t 1) (t 12) (t 13) H) ih rfl) ?_
  kernel_rfl
theorem Af7 (p : Pr β) (n : Nat) (a0 a1 : AV) (H : Ab) (k : KO β) : Cf Ar p n fi70 [a0, a1] H k =
 p.len a0 fun t7 =>
 p.len a1 fun t9 =>
 p.bin .neq t7 t9 fun t10 =>
 p.cond t10
 (k bF H)
 (p.len a0 fun t12 =>
 AdC p n  k n (tf 26 0 (ud [(0, a0), (1, a1), (4, bF), (6, a0), (7, t7), (8, a1), (9, t9), (10, t10), (11, a0), (12, t12), (13, i0)] ut)) H) := by kernel_rfl
theorem AdD : Pi fi70 @f70 := fun p n a0 a1 H k => by
 rw [Af7]
 simp only [AbD]
 kernel_rfl
noncomputable def R4 (p : Pr β) (n : Nat)  (k : KO β) : Nat → AV → AV → AV → KO β
 | 0, _, _, _, _, _ => none
 | m + 1, t0, t1, t12, t13, H => p.bin .lss t13 t12 fun t14 =>
   p.cond t14
   (p.iadr 1 t0 t13 fun t18 =>
   p.load false 1 t18 H fun t19 =>
   p.iadr 1 t1 t13 fun t22 =>
   p.load false 1 t22 H fun t23 =>
   p.bin .neq t19 t23 fun t24 =>
   p.cond t24
   (k bF H)
   (p.bin .add t13 (si 1) fun t25 =>
   R4 p n  k m t0 t1 t12 t25 H))
   (k bT H)
noncomputable def f71 (n : Nat) (a0 a1 : AV) (H : Ab) (k : KO β) : Option β :=
 p.len a0 fun t7 =>
 p.len a1 fun t9 =>
 p.bin .neq t7 t9 fun t10 =>
 p.cond t10
 (k bF H)
 (p.len a0 fun t12 =>
 R4 p n  k n a0 a1 t12 i0 H)
noncomputable def AdE (p : Pr β) (n : Nat)  (k : KO β) (m : Nat) (tm : Tm) (H : Ab) : Option β :=
 D3 26 (fun tm H k => Ak Ar p o71 26 n (cd c71 [1, 1, 0, 1, 0, 0]) tm H k) (E3 0 (Em (fun tm H => Ak Ar p o71 26 n (cd c71 [1, 1, 1]) tm H (Cz Ar p fi71.results k)) (Cz Ar p fi71.results k))) m tm H
theorem AbE (p : Pr β) (n : Nat)  (k : KO β) (m0 : Nat) : ∀ (t : Nat → AV) (H : Ab), AdE p n  k m0 (tf 26 0 t) H = R4 p n  k m0 (t 0) (t 1) (t 12) (t 13) H := by
 induction m0 with
 | zero => intros; rfl
 | succ m0 ih =>
  intro t H
  refine Eq.trans (B8 (nt := 26) (m := m0) (g := fun t H => R4 p n  k m0 (t 0) (t 1) (t 12) (t 13) H) ih rfl) ?_
  kernel_rfl
theorem Af8 (p : Pr β) (n : Nat) (a0 a1 : AV) (H : Ab) (k : KO β) : Cf Ar p n fi71 [a0, a1] H k =
 p.len a0 fun t7 =>
 p.len a1 fun t9 =>
 p.bin .neq t7 t9 fun t10 =>
 p.cond t10
 (k bF H)
 (p.len a0 fun t12 =>
 AdE p n  k n (tf 26 0 (ud [(0, a0), (1, a1), (4, bF), (6, a0), (7, t7), (8, a1), (9, t9), (10, t10), (11, a0), (12, t12), (13, i0)] ut)) H) := by kernel_rfl
theorem AdF : Pi fi71 @f71 := fun p n a0 a1 H k => by
 rw [Af8]
 simp only [AbE]
 kernel_rfl
noncomputable def R5 (p : Pr β) (n : Nat)  (k : KO β) : Nat → AV → AV → AV → KO β
 | 0, _, _, _, _, _ => none
 | m + 1, t0, t1, t12, t13, H => p.bin .lss t13 t12 fun t14 =>
   p.cond t14
   (p.iadr 1 t0 t13 fun t18 =>
   p.load false 1 t18 H fun t19 =>
   p.iadr 1 t1 t13 fun t22 =>
   p.load false 1 t22 H fun t23 =>
   p.bin .neq t19 t23 fun t24 =>
   p.cond t24
   (k bF H)
   (p.bin .add t13 (si 1) fun t25 =>
   R5 p n  k m t0 t1 t12 t25 H))
   (k bT H)
noncomputable def f72 (n : Nat) (a0 a1 : AV) (H : Ab) (k : KO β) : Option β :=
 p.len a0 fun t7 =>
 p.len a1 fun t9 =>
 p.bin .neq t7 t9 fun t10 =>
 p.cond t10
 (k bF H)
 (p.len a0 fun t12 =>
 R5 p n  k n a0 a1 t12 i0 H)
noncomputable def AdG (p : Pr β) (n : Nat)  (k : KO β) (m : Nat) (tm : Tm) (H : Ab) : Option β :=
 D3 26 (fun tm H k => Ak Ar p o72 26 n (cd c72 [1, 1, 0, 1, 0, 0]) tm H k) (E3 0 (Em (fun tm H => Ak Ar p o72 26 n (cd c72 [1, 1, 1]) tm H (Cz Ar p fi72.results k)) (Cz Ar p fi72.results k))) m tm H
theorem AbF (p : Pr β) (n : Nat)  (k : KO β) (m0 : Nat) : ∀ (t : Nat → AV) (H : Ab), AdG p n  k m0 (tf 26 0 t) H = R5 p n  k m0 (t 0) (t 1) (t 12) (t 13) H := by
 induction m0 with
 | zero => intros; rfl
 | succ m0 ih =>
  intro t H
  refine Eq.trans (B8 (nt := 26) (m := m0) (g := fun t H => R5 p n  k m0 (t 0) (t 1) (t 12) (t 13) H) ih rfl) ?_
  kernel_rfl
theorem Af9 (p : Pr β) (n : Nat) (a0 a1 : AV) (H : Ab) (k : KO β) : Cf Ar p n fi72 [a0, a1] H k =
 p.len a0 fun t7 =>
 p.len a1 fun t9 =>
 p.bin .neq t7 t9 fun t10 =>
 p.cond t10
 (k bF H)
 (p.len a0 fun t12 =>
 AdG p n  k n (tf 26 0 (ud [(0, a0), (1, a1), (4, bF), (6, a0), (7, t7), (8, a1), (9, t9), (10, t10), (11, a0), (12, t12), (13, i0)] ut)) H) := by kernel_rfl
theorem AdH : Pi fi72 @f72 := fun p n a0 a1 H k => by
 rw [Af9]
 simp only [AbF]
 kernel_rfl
noncomputable def f20 (n : Nat) (a0 a1 : AV) (H : Ab) (k : KO β) : Option β :=
 p.box a0 H fun t2 H =>
 p.box a1 H fun t3 H =>
 p.fadr 0 t2 fun t9 =>
 p.load false 1 t9 H fun t10 =>
 p.fadr 0 t3 fun t11 =>
 p.load false 1 t11 H fun t12 =>
 p.bin .eql t10 t12 fun t13 =>
 p.gT t13 H (p.fadr 1 t2) fun t15 H =>
 p.gT t13 H (p.load false 1 t15 H) fun t16 H =>
 p.gT t13 H (p.fadr 1 t3) fun t17 H =>
 p.gT t13 H (p.load false 1 t17 H) fun t18 H =>
 p.gT t13 H (p.binB .eql t16 t18) fun t19 H =>
 p.pick t13 t19 bF fun t20 =>
 p.gT t20 H (p.fadr 2 t2) fun t22 H =>
 p.gT t20 H (p.load false 1 t22 H) fun t23 H =>
 p.gT t20 H (p.fadr 2 t3) fun t24 H =>
 p.gT t20 H (p.load false 1 t24 H) fun t25 H =>
 p.gT t20 H (p.bin .eql t23 t25) fun t26 H =>
 p.pick t20 t26 bF fun t27 =>
 p.gT t27 H (p.fadr 3 t2) fun t29 H =>
 p.gT t27 H (p.load false 1 t29 H) fun t30 H =>
 p.gT t27 H (p.fadr 3 t3) fun t31 H =>
 p.gT t27 H (p.load false 1 t31 H) fun t32 H =>
 p.gT t27 H (p.binB .eql t30 t32) fun t33 H =>
 p.pick t27 t33 bF fun t34 =>
 p.gT t34 H (p.fadr 4 t2) fun t36 H =>
 p.gT t34 H (p.load false 1 t36 H) fun t37 H =>
 p.gT t34 H (p.fadr 4 t3) fun t38 H =>
 p.gT t34 H (p.load false 1 t38 H) fun t39 H =>
 p.gT t34 H (p.bin .eql t37 t39) fun t40 H =>
 p.pick t34 t40 bF fun t41 =>
 p.gT t41 H (p.fadr 5 t2) fun t43 H =>
 p.gT t41 H (p.load false 1 t43 H) fun t44 H =>
 p.gT t41 H (p.fadr 5 t3) fun t45 H =>
 p.gT t41 H (p.load false 1 t45 H) fun t46 H =>
 p.gT t41 H (p.bin .eql t44 t46) fun t47 H =>
 p.pick t41 t47 bF fun t48 =>
 p.gT t48 H (p.fadr 6 t2) fun t50 H =>
 p.gT t48 H (p.load false 1 t50 H) fun t51 H =>
 p.gT t48 H (p.fadr 6 t3) fun t52 H =>
 p.gT t48 H (p.load false 1 t52 H) fun t53 H =>
 p.hT t48 H (p.call 4 (.fn 69 [] []) [t51, t53] H) fun t54 H =>
 p.pick t48 t54 bF fun t55 =>
 p.fadr 7 t2 fun t56 =>
 p.load false 1 t56 H fun t57 =>
 p.fadr 7 t3 fun t58 =>
 p.load false 1 t58 H fun t59 =>
 p.bin .eql t57 t59 fun t60 =>
 p.gT t60 H (p.fadr 8 t2) fun t62 H =>
 p.gT t60 H (p.load false 1 t62 H) fun t63 H =>
 p.gT t60 H (p.fadr 8 t3) fun t64 H =>
 p.gT t60 H (p.load false 1 t64 H) fun t65 H =>
 p.gT t60 H (p.bin .eql t63 t65) fun t66 H =>
 p.pick t60 t66 bF fun t67 =>
 p.gT t67 H (p.fadr 9 t2) fun t69 H =>
 p.gT t67 H (p.load false 1 t69 H) fun t70 H =>
 p.gT t67 H (p.fadr 9 t3) fun t71 H =>
 p.gT t67 H (p.load false 1 t71 H) fun t72 H =>
 p.gT t67 H (p.binB .eql t70 t72) fun t73 H =>
 p.pick t67 t73 bF fun t74 =>
 p.gT t74 H (p.fadr 10 t2) fun t76 H =>
 p.gT t74 H (p.load false 1 t76 H) fun t77 H =>
 p.gT t74 H (p.fadr 10 t3) fun t78 H =>
 p.gT t74 H (p.load false 1 t78 H) fun t79 H =>
 p.gT t74 H (p.bin .eql t77 t79) fun t80 H =>
 p.pick t74 t80 bF fun t81 =>
 p.gT t81 H (p.fadr 16 t2) fun t83 H =>
 p.gT t81 H (p.load false 1 t83 H) fun t84 H =>
 p.gT t81 H (p.fadr 16 t3) fun t85 H =>
 p.gT t81 H (p.load false 1 t85 H) fun t86 H =>
 p.gT t81 H (p.binB .eql t84 t86) fun t87 H =>
 p.pick t81 t87 bF fun t88 =>
 p.gT t88 H (p.fadr 17 t2) fun t90 H =>
 p.gT t88 H (p.load false 1 t90 H) fun t91 H =>
 p.gT t88 H (p.fadr 17 t3) fun t92 H =>
 p.gT t88 H (p.load false 1 t92 H) fun t93 H =>
 p.gT t88 H (p.bin .eql t91 t93) fun t94 H =>
 p.pick t88 t94 bF fun t95 =>
 p.gT t95 H (p.fadr 18 t2) fun t97 H =>
 p.gT t95 H (p.load false 1 t97 H) fun t98 H =>
 p.gT t95 H (p.fadr 18 t3) fun t99 H =>
 p.gT t95 H (p.load false 1 t99 H) fun t100 H =>
 p.gT t95 H (p.binB .eql t98 t100) fun t101 H =>
 p.pick t95 t101 bF fun t102 =>
 p.gT t102 H (p.fadr 19 t2) fun t104 H =>
 p.gT t102 H (p.load false 1 t104 H) fun t105 H =>
 p.gT t102 H (p.fadr 19 t3) fun t106 H =>
 p.gT t102 H (p.load false 1 t106 H) fun t107 H =>
 p.hT t102 H (p.call 4 (.fn 69 [] []) [t105, t107] H) fun t108 H =>
 p.pick t102 t108 bF fun t109 =>
 p.fadr 11 t2 fun t110 =>
 p.load false 1 t110 H fun t111 =>
 p.fadr 11 t3 fun t112 =>
 p.load false 1 t112 H fun t113 =>
 p.binB .eql t111 t113 fun t114 =>
 p.gT t114 H (p.fadr 12 t2) fun t116 H =>
 p.gT t114 H (p.load false 1 t116 H) fun t117 H =>
 p.gT t114 H (p.fadr 12 t3) fun t118 H =>
 p.gT t114 H (p.load false 1 t118 H) fun t119 H =>
 p.gT t114 H (p.bin .eql t117 t119) fun t120 H =>
 p.pick t114 t120 bF fun t121 =>
 p.gT t121 H (p.fadr 13 t2) fun t123 H =>
 p.gT t121 H (p.load false 1 t123 H) fun t124 H =>
 p.gT t121 H (p.fadr 13 t3) fun t125 H =>
 p.gT t121 H (p.load false 1 t125 H) fun t126 H =>
 p.hT t121 H (p.call 4 (.fn 69 [] []) [t124, t126] H) fun t127 H =>
 p.pick t121 t127 bF fun t128 =>
 p.gT t128 H (p.fadr 14 t2) fun t130 H =>
 p.gT t128 H (p.load false 1 t130 H) fun t131 H =>
 p.gT t128 H (p.fadr 14 t3) fun t132 H =>
 p.gT t128 H (p.load false 1 t132 H) fun t133 H =>
 p.gT t128 H (p.bin .eql t131 t133) fun t134 H =>
 p.pick t128 t134 bF fun t135 =>
 p.gT t135 H (p.fadr 15 t2) fun t137 H =>
 p.gT t135 H (p.load false 1 t137 H) fun t138 H =>
 p.gT t135 H (p.fadr 15 t3) fun t139 H =>
 p.gT t135 H (p.load false 1 t139 H) fun t140 H =>
 p.gT t135 H (p.binB .eql t138 t140) fun t141 H =>
 p.pick t135 t141 bF fun t142 =>
 p.fadr 22 t2 fun t143 =>
 p.load false 1 t143 H fun t144 =>
 p.fadr 22 t3 fun t145 =>
 p.load false 1 t145 H fun t146 =>
 p.call 4 (.fn 70 [] []) [t144, t146] H fun t147 H =>
 p.gT t147 H (p.fadr 23 t2) fun t149 H =>
 p.gT t147 H (p.load false 1 t149 H) fun t150 H =>
 p.gT t147 H (p.fadr 23 t3) fun t151 H =>
 p.gT t147 H (p.load false 1 t151 H) fun t152 H =>
 p.hT t147 H (p.call 4 (.fn 71 [] []) [t150, t152] H) fun t153 H =>
 p.pick t147 t153 bF fun t154 =>
 p.gT t154 H (p.fadr 24 t2) fun t156 H =>
 p.gT t154 H (p.load false 1 t156 H) fun t157 H =>
 p.gT t154 H (p.fadr 24 t3) fun t158 H =>
 p.gT t154 H (p.load false 1 t158 H) fun t159 H =>
 p.hT t154 H (p.call 4 (.fn 72 [] []) [t157, t159] H) fun t160 H =>
 p.pick t154 t160 bF fun t161 =>
 p.kT t55 H t109 fun t164 H =>
 p.pick t55 t164 bF fun t165 =>
 p.kT t165 H t142 fun t167 H =>
 p.pick t165 t167 bF fun t168 =>
 p.kT t168 H t161 fun t170 H =>
 p.pick t168 t170 bF fun t171 =>
 p.gT t171 H (p.fadr 20 t2) fun t173 H =>
 p.gT t171 H (p.load false 1 t173 H) fun t174 H =>
 p.gT t171 H (p.fadr 20 t3) fun t175 H =>
 p.gT t171 H (p.load false 1 t175 H) fun t176 H =>
 p.gT t171 H (p.bin .eql t174 t176) fun t177 H =>
 p.pick t171 t177 bF fun t178 =>
 p.gT t178 H (p.fadr 21 t2) fun t180 H =>
 p.gT t178 H (p.load false 1 t180 H) fun t181 H =>
 p.gT t178 H (p.fadr 21 t3) fun t182 H =>
 p.gT t178 H (p.load false 1 t182 H) fun t183 H =>
 p.gT t178 H (p.binB .eql t181 t183) fun t184 H =>
 p.pick t178 t184 bF fun t185 =>
 k t185 H
theorem Adb : Pi AiT @f20 := fun p n a0 a1 H k => by kernel_rfl
noncomputable def f55 (n : Nat) (a0 : AV) (H : Ab) (k : KO β) : Option β :=
 p.box a0 H fun t1 H =>
 p.fl 11 t1 1 H fun t5 =>
 p.un .not t5 fun t6 =>
 p.lF t6 H 12 t1 1 fun t9 H =>
 p.hF t6 H (p.ca 4 57 [t9] H) fun t10 H =>
 p.kF t6 H t10 fun t11 H =>
 p.lT t11 H 13 t1 1 fun t13 H =>
 p.gT t11 H (p.len t13) fun t14 H =>
 p.gT t11 H (p.bin .leq t14 (si 40)) fun t15 H =>
 p.gF t6 H (p.pick t11 t15 bF) fun t16 H =>
 p.kF t6 H t16 fun t17 H =>
 p.lT t17 H 14 t1 1 fun t19 H =>
 p.hT t17 H (p.ca 4 56 [t19] H) fun t20 H =>
 p.gF t6 H (p.pick t17 t20 bF) fun t21 H =>
 p.pick t6 bT t21 fun t22 =>
 p.fl 8 t1 1 H fun t24 =>
 p.ca 4 47 [t24, i0, (si 255)] H fun t25 H =>
 p.lT t25 H 7 t1 1 fun t28 H =>
 p.hT t25 H (p.ca 4 93 [t28] H) fun t29 H =>
 p.pick t25 t29 bF fun t30 =>
 p.lT t30 H 10 t1 1 fun t33 H =>
 p.hT t30 H (p.ca 4 48 [t33] H) fun t34 H =>
 p.pick t30 t34 bF fun t35 =>
 p.kT t35 H t22 fun t37 H =>
 p.pick t35 t37 bF fun t38 =>
 p.lT t38 H 17 t1 1 fun t41 H =>
 p.hT t38 H (p.ca 4 93 [t41] H) fun t42 H =>
 p.pick t38 t42 bF fun t43 =>
 p.lT t43 H 19 t1 1 fun t46 H =>
 p.gT t43 H (p.len t46) fun t47 H =>
 p.gT t43 H (p.bin .leq t47 (si 60)) fun t48 H =>
 p.pick t43 t48 bF fun t49 =>
 k t49 H
noncomputable def f119 (n : Nat) (a0 a1 : AV) (H : Ab) (k : KO β) : Option β :=
 p.call 4 (.fn 94 [] []) [a0, (.sc (.string ⟨#[43, 35]⟩))] H fun t6 H =>
 p.un .not t6 fun t7 =>
 p.kF t7 H a0 fun t9 H =>
 p.gF t7 H (p.bin .eql t9 (.sc (.string ⟨#[43]⟩))) fun t10 H =>
 p.pick t7 bT t10 fun t11 =>
 p.kF t11 H a0 fun t13 H =>
 p.gF t11 H (p.bin .eql t13 (.sc (.string ⟨#[35]⟩))) fun t14 H =>
 p.kF t11 H t14 fun t15 H =>
 p.kT t15 H a1 fun t16 H =>
 p.gF t11 H (p.pick t15 t16 bF) fun t17 H =>
 p.pick t11 bT t17 fun t18 =>
 k t18 H
noncomputable def AdW (p : Pr β) (n : Nat)  (k : KO β) : Nat → AV → AV → AV → AV → KO β
 | 0, _, _, _, _, _, _ => none
 | m + 1, t0, t3, t8, t9, t10, H => p.bin .lss t10 t9 fun t11 =>
   p.cond t11
   (p.iadr 1 t8 t10 fun t13 =>
   p.load false 1 t13 H fun t14 =>
   p.len t3 fun t18 =>
   p.bin .sub t18 (si 1) fun t19 =>
   p.bin .eql t10 t19 fun t20 =>
   p.ca 4 119 [t14, t20] H fun t21 H =>
   p.un .not t21 fun t22 =>
   p.cond t22
   (k bF H)
   (p.bin .add t10 (si 1) fun t23 =>
   AdW p n  k m t0 t3 t8 t9 t23 H))
   (p.ca 4 93 [t0] H fun t25 H =>
   p.kT t25 H t0 fun t27 H =>
   p.gT t25 H (p.bin .neq t27 sE) fun t28 H =>
   p.pick t25 t28 bF fun t29 =>
   p.kT t29 H t3 fun t31 H =>
   p.gT t29 H (p.len t31) fun t32 H =>
   p.gT t29 H (p.bin .leq t32 (si 6)) fun t33 H =>
   p.pick t29 t33 bF fun t34 =>
   k t34 H)
noncomputable def f96 (n : Nat) (a0 : AV) (H : Ab) (k : KO β) : Option β :=
 p.call 38 (.fn 95 [] []) [a0] H fun t7 H =>
 p.len t7 fun t9 =>
 AdW p n  k n a0 t7 t7 t9 i0 H
noncomputable def Ad1 (p : Pr β) (n : Nat)  (k : KO β) : Nat → AV → AV → AV → KO β
 | 0, _, _, _, _, _ => none
 | m + 1, t1, t39, t40, t41, H => p.bin .lss t41 t40 fun t42 =>
   p.cond t42
   (p.iadr 1 t39 t41 fun t43 =>
   p.load false 1 t43 H fun t44 =>
   p.ca 4 56 [t44] H fun t46 H =>
   p.un .not t46 fun t47 =>
   p.kT t47 H t44 fun t49 H =>
   p.gT t47 H (p.bin .neq t49 (si 128)) fun t50 H =>
   p.pick t47 t50 bF fun t51 =>
   p.cond t51
   (k bF H)
   (p.bin .add t41 (si 1) fun t52 =>
   Ad1 p n  k m t1 t39 t40 t52 H))
   (p.fadr 22 t1 fun t53 =>
   p.load false 1 t53 H fun t54 =>
   p.len t54 fun t55 =>
   p.fl 23 t1 1 H fun t57 =>
   p.len t57 fun t58 =>
   p.bin .add t55 t58 fun t59 =>
   p.fl 24 t1 1 H fun t61 =>
   p.len t61 fun t62 =>
   p.bin .add t59 t62 fun t63 =>
   p.ca 4 47 [t63, (si 1), (si 4)] H fun t64 H =>
   k t64 H)
noncomputable def Ad0 (p : Pr β) (n : Nat)  (k : KO β) : Nat → AV → AV → AV → KO β
 | 0, _, _, _, _, _ => none
 | m + 1, t1, t28, t29, t30, H => p.bin .lss t30 t29 fun t31 =>
   p.cond t31
   (p.iadr 1 t28 t30 fun t32 =>
   p.load false 1 t32 H fun t33 =>
   p.ca 4 96 [t33] H fun t35 H =>
   p.un .not t35 fun t36 =>
   p.cond t36
   (k bF H)
   (p.bin .add t30 (si 1) fun t37 =>
   Ad0 p n  k m t1 t28 t29 t37 H))
   (p.fadr 24 t1 fun t38 =>
   p.load false 1 t38 H fun t39 =>
   p.len t39 fun t40 =>
   Ad1 p n  k n t1 t39 t40 i0 H)
noncomputable def Adz (p : Pr β) (n : Nat)  (k : KO β) : Nat → AV → AV → AV → KO β
 | 0, _, _, _, _, _ => none
 | m + 1, t1, t10, t11, t12, H => p.bin .lss t12 t11 fun t13 =>
   p.cond t13
   (p.iadr 2 t10 t12 fun t14 =>
   p.load true 2 t14 H fun t15 =>
   p.new [sE, i0] H fun t4 H =>
   p.store 2 t4 t15 H fun H =>
   p.fl 0 t4 1 H fun t17 =>
   p.ca 4 96 [t17] H fun t18 H =>
   p.un .not t18 fun t19 =>
   p.lF t19 H 1 t4 1 fun t22 H =>
   p.hF t19 H (p.ca 4 56 [t22] H) fun t23 H =>
   p.gF t19 H (p.un .not t23) fun t24 H =>
   p.pick t19 bT t24 fun t25 =>
   p.cond t25
   (k bF H)
   (p.bin .add t12 (si 1) fun t26 =>
   Adz p n  k m t1 t10 t11 t26 H))
   (p.fadr 23 t1 fun t27 =>
   p.load false 1 t27 H fun t28 =>
   p.len t28 fun t29 =>
   Ad0 p n  k n t1 t28 t29 i0 H)
noncomputable def f58 (n : Nat) (a0 : AV) (H : Ab) (k : KO β) : Option β :=
 p.box a0 H fun t1 H =>
 p.fl 22 t1 1 H fun t10 =>
 p.len t10 fun t11 =>
 Adz p n  k n t1 t10 t11 i0 H
noncomputable def f12 (n : Nat) (a0 : AV) (H : Ab) (k : KO β) : Option β :=
 p.box a0 H fun t1 H =>
 p.fl 0 t1 1 H fun t4 =>
 p.ca 4 47 [t4, (si 1), (si 14)] H fun t5 H =>
 p.un .not t5 fun t6 =>
 p.gF t6 H (p.load true 25 t1 H) fun t9 H =>
 p.both
 (p.gF t6 H (p.load true 25 t1 H) fun t8 H =>
 p.hF t6 H (p.ca 41 54 [t9] H) fun t10 H =>
 p.hF t6 H (p.ca 4 20 [t8, t10] H) fun t11 H =>
 p.gF t6 H (p.un .not t11) fun t12 H =>
 p.pick t6 bT t12 fun t13 =>
 p.cond t13
 (k bF H)
 (p.fadr 0 t1 fun t14 =>
 p.load false 1 t14 H fun t15 =>
 p.bin .eql t15 (si 1) fun t17 =>
 p.cond t17
 (p.load true 25 t1 H fun t18 =>
 p.ca 4 55 [t18] H fun t19 H =>
 k t19 H)
 (p.bin .eql t15 (si 2) fun t21 =>
 p.cond t21
 (p.fadr 20 t1 fun t22 =>
 p.load false 1 t22 H fun t23 =>
 p.ca 4 47 [t23, i0, (si 5)] H fun t24 H =>
 p.lT t24 H 21 t1 1 fun t27 H =>
 p.gT t24 H (p.un .not t27) fun t28 H =>
 p.kT t24 H t28 fun t29 H =>
 p.lF t29 H 20 t1 1 fun t31 H =>
 p.gF t29 H (p.bin .eql t31 i0) fun t32 H =>
 p.gT t24 H (p.pick t29 bT t32) fun t33 H =>
 p.pick t24 t33 bF fun t34 =>
 k t34 H)
 (p.bin .eql t15 (si 3) fun t36 =>
 p.cond t36
 (p.fadr 2 t1 fun t37 =>
 p.load false 1 t37 H fun t38 =>
 p.ca 4 56 [t38] H fun t39 H =>
 p.lT t39 H 5 t1 1 fun t42 H =>
 p.hT t39 H (p.ca 4 57 [t42] H) fun t43 H =>
 p.pick t39 t43 bF fun t44 =>
 p.lT t44 H 6 t1 1 fun t47 H =>
 p.gT t44 H (p.len t47) fun t48 H =>
 p.gT t44 H (p.bin .leq t48 (si 40)) fun t49 H =>
 p.pick t44 t49 bF fun t50 =>
 p.lT t50 H 2 t1 1 fun t53 H =>
 p.gT t50 H (p.bin .eql t53 i0) fun t54 H =>
 p.kT t50 H t54 fun t55 H =>
 p.lF t55 H 4 t1 1 fun t57 H =>
 p.hF t55 H (p.ca 4 44 [t57] H) fun t58 H =>
 p.gT t50 H (p.pick t55 bT t58) fun t59 H =>
 p.pick t50 t59 bF fun t60 =>
 k t60 H)
 (p.bin .eql t15 (si 4) fun t62 =>
 Le (fun (t1 t15 t61 : AV) (H : Ab) => p.cond t61
 (p.fadr 4 t1 fun t67 =>
 p.load false 1 t67 H fun t68 =>
 p.ca 4 44 [t68] H fun t69 H =>
 k t69 H)
 (p.bin .eql t15 (si 8) fun t71 =>
 Le (fun (t1 t70 : AV) (H : Ab) => p.cond t70
 (p.fadr 4 t1 fun t74 =>
 p.load false 1 t74 H fun t75 =>
 p.ca 4 44 [t75] H fun t76 H =>
 p.gT t76 H (p.load true 25 t1 H) fun t78 H =>
 p.hT t76 H (p.ca 4 58 [t78] H) fun t79 H =>
 p.pick t76 t79 bF fun t80 =>
 k t80 H)
 (k bT H)) fun j2 =>
 p.cond t71
 (j2 t1 t71 H)
 (p.bin .eql t15 (si 9) fun t72 =>
 p.cond t72
 (j2 t1 t72 H)
 (p.bin .eql t15 (si 10) fun t73 =>
 j2 t1 t73 H)))) fun j1 =>
 p.cond t62
 (j1 t1 t15 t62 H)
 (p.bin .eql t15 (si 5) fun t63 =>
 p.cond t63
 (j1 t1 t15 t63 H)
 (p.bin .eql t15 (si 6) fun t64 =>
 p.cond t64
 (j1 t1 t15 t64 H)
 (p.bin .eql t15 (si 7) fun t65 =>
 p.cond t65
 (j1 t1 t15 t65 H)
 (p.bin .eql t15 (si 11) fun t66 =>
 j1 t1 t15 t66 H)))))))))
 (p.hF t6 H (p.ca 41 54 [t9] H) fun t10 H =>
 p.gF t6 H (p.load true 25 t1 H) fun t8 H =>
 p.hF t6 H (p.ca 4 20 [t8, t10] H) fun t11 H =>
 p.gF t6 H (p.un .not t11) fun t12 H =>
 p.pick t6 bT t12 fun t13 =>
 p.cond t13
 (k bF H)
 (p.fadr 0 t1 fun t14 =>
 p.load false 1 t14 H fun t15 =>
 p.bin .eql t15 (si 1) fun t17 =>
 p.cond t17
 (p.load true 25 t1 H fun t18 =>
 p.ca 4 55 [t18] H fun t19 H =>
 k t19 H)
 (p.bin .eql t15 (si 2) fun t21 =>
 p.cond t21
 (p.fadr 20 t1 fun t22 =>
 p.load false 1 t22 H fun t23 =>
 p.ca 4 47 [t23, i0, (si 5)] H fun t24 H =>
 p.lT t24 H 21 t1 1 fun t27 H =>
 p.gT t24 H (p.un .not t27) fun t28 H =>
 p.kT t24 H t28 fun t29 H =>
 p.lF t29 H 20 t1 1 fun t31 H =>
 p.gF t29 H (p.bin .eql t31 i0) fun t32 H =>
 p.gT t24 H (p.pick t29 bT t32) fun t33 H =>
 p.pick t24 t33 bF fun t34 =>
 k t34 H)
 (p.bin .eql t15 (si 3) fun t36 =>
 p.cond t36
 (p.fadr 2 t1 fun t37 =>
 p.load false 1 t37 H fun t38 =>
 p.ca 4 56 [t38] H fun t39 H =>
 p.lT t39 H 5 t1 1 fun t42 H =>
 p.hT t39 H (p.ca 4 57 [t42] H) fun t43 H =>
 p.pick t39 t43 bF fun t44 =>
 p.lT t44 H 6 t1 1 fun t47 H =>
 p.gT t44 H (p.len t47) fun t48 H =>
 p.gT t44 H (p.bin .leq t48 (si 40)) fun t49 H =>
 p.pick t44 t49 bF fun t50 =>
 p.lT t50 H 2 t1 1 fun t53 H =>
 p.gT t50 H (p.bin .eql t53 i0) fun t54 H =>
 p.kT t50 H t54 fun t55 H =>
 p.lF t55 H 4 t1 1 fun t57 H =>
 p.hF t55 H (p.ca 4 44 [t57] H) fun t58 H =>
 p.gT t50 H (p.pick t55 bT t58) fun t59 H =>
 p.pick t50 t59 bF fun t60 =>
 k t60 H)
 (p.bin .eql t15 (si 4) fun t62 =>
 Le (fun (t1 t15 t61 : AV) (H : Ab) => p.cond t61
 (p.fadr 4 t1 fun t67 =>
 p.load false 1 t67 H fun t68 =>
 p.ca 4 44 [t68] H fun t69 H =>
 k t69 H)
 (p.bin .eql t15 (si 8) fun t71 =>
 Le (fun (t1 t70 : AV) (H : Ab) => p.cond t70
 (p.fadr 4 t1 fun t74 =>
 p.load false 1 t74 H fun t75 =>
 p.ca 4 44 [t75] H fun t76 H =>
 p.gT t76 H (p.load true 25 t1 H) fun t78 H =>
 p.hT t76 H (p.ca 4 58 [t78] H) fun t79 H =>
 p.pick t76 t79 bF fun t80 =>
 k t80 H)
 (k bT H)) fun j4 =>
 p.cond t71
 (j4 t1 t71 H)
 (p.bin .eql t15 (si 9) fun t72 =>
 p.cond t72
 (j4 t1 t72 H)
 (p.bin .eql t15 (si 10) fun t73 =>
 j4 t1 t73 H)))) fun j3 =>
 p.cond t62
 (j3 t1 t15 t62 H)
 (p.bin .eql t15 (si 5) fun t63 =>
 p.cond t63
 (j3 t1 t15 t63 H)
 (p.bin .eql t15 (si 6) fun t64 =>
 p.cond t64
 (j3 t1 t15 t64 H)
 (p.bin .eql t15 (si 7) fun t65 =>
 p.cond t65
 (j3 t1 t15 t65 H)
 (p.bin .eql t15 (si 11) fun t66 =>
 j3 t1 t15 t66 H)))))))))
theorem AcP : Jr AiL @f12 := fun p n a0 H k => by kernel_rfl
noncomputable def f42 (n : Nat) (a0 a1 : AV) (H : Ab) (k : KO β) : Option β :=
 p.new Hl H fun t4 H =>
 p.fill Hl [(0, 1, a0), (4, 1, a1)] fun ct8 =>
 p.new Hl H fun t5 H =>
 p.store 25 t5 (.agg ct8) H fun H =>
 p.ca 4 47 [a0, (si 4), (si 7)] H fun t10 H =>
 p.un .not t10 fun t11 =>
 p.kT t11 H a0 fun t13 H =>
 p.gT t11 H (p.bin .neq t13 (si 11)) fun t14 H =>
 p.pick t11 t14 bF fun t15 =>
 p.gF t15 H (p.load true 25 t5 H) fun t17 H =>
 p.hF t15 H (p.ca 4 12 [t17] H) fun t18 H =>
 p.gF t15 H (p.un .not t18) fun t19 H =>
 p.pick t15 bT t19 fun t20 =>
 p.cond t20
 (p.fill Hl [] fun ct21 =>
 p.store 25 t4 (.agg ct21) H fun H =>
 p.load true 25 t4 H fun r0 =>
 k r0 H)
 (p.load true 25 t5 H fun t22 =>
 p.store 25 t4 t22 H fun H =>
 p.load true 25 t4 H fun r0 =>
 k r0 H)
theorem Adh : Pi AiW @f42 := fun p n a0 a1 H k => by kernel_rfl
noncomputable def Pv (p : Pr β) (n : Nat)  (k : KO β) : Nat → AV → AV → AV → KO β
 | 0, _, _, _, _, _ => none
 | m + 1, t3, t7, t8, t9, H => p.bin .lss t9 t8 fun t10 =>
   p.cond t10
   (p.iadr 1 t7 t9 fun t11 =>
   p.load false 1 t11 H fun t12 =>
   p.app 1 1 t3 t12 H fun t15 H =>
   p.bin .add t9 (si 1) fun t16 =>
   Pv p n  k m t15 t7 t8 t16 H)
   (k t3 H)
noncomputable def f88 (n : Nat) (a0 : AV) (H : Ab) (k : KO β) : Option β :=
 p.len a0 fun t8 =>
 Pv p n  k n .nl a0 t8 i0 H
noncomputable def AdN (p : Pr β) (n : Nat)  (k : KO β) (m : Nat) (tm : Tm) (H : Ab) : Option β :=
 D3 18 (fun tm H k => Ak Ar p [] 18 n (cd c88 [1, 1, 0, 1, 0, 0]) tm H k) (E3 0 (Em (fun tm H => Ak Ar p [] 18 n (cd c88 [1, 1, 1]) tm H (Cz Ar p fi88.results k)) (Cz Ar p fi88.results k))) m tm H
theorem AbH (p : Pr β) (n : Nat)  (k : KO β) (m0 : Nat) : ∀ (t : Nat → AV) (H : Ab), AdN p n  k m0 (tf 18 0 t) H = Pv p n  k m0 (t 3) (t 7) (t 8) (t 9) H := by
 induction m0 with
 | zero => intros; rfl
 | succ m0 ih =>
  intro t H
  refine Eq.trans (B8 (nt := 18) (m := m0) (g := fun t H => Pv p n  k m0 (t 3) (t 7) (t 8) (t 9) H) ih rfl) ?_
  kernel_rfl
theorem AfC (p : Pr β) (n : Nat) (a0 : AV) (H : Ab) (k : KO β) : Cf Ar p n fi88 [a0] H k =
 p.len a0 fun t8 =>
 AdN p n  k n (tf 18 0 (ud [(0, a0), (2, .nl), (3, .nl), (6, .nl), (7, a0), (8, t8), (9, i0)] ut)) H := by kernel_rfl
theorem AdO : Jr fi88 @f88 := fun p n a0 H k => by
 rw [AfC]
 simp only [AbH]
 kernel_rfl
noncomputable def f43 (n : Nat) (a0 a1 a2 : AV) (H : Ab) (k : KO β) : Option β :=
 p.box a0 H fun t3 H =>
 p.new Hl H fun t6 H =>
 p.fl 2 t3 1 H fun t9 =>
 p.fl 3 t3 1 H fun t11 =>
 p.fl 0 t3 1 H fun t14 =>
 p.fl 1 t3 1 H fun t16 =>
 p.fill [.nl] [(0, 1, t16)] fun ct17 => p.newSl 1 1 ct17 true H fun t17 H =>
 p.ca 22 88 [t17] H fun t18 H =>
 p.fill Hl [(0, 1, (si 3)), (1, 1, a2), (2, 1, t9), (3, 1, t11), (4, 1, a1), (5, 1, t14), (6, 1, t18)] fun ct19 =>
 p.store 25 t6 (.agg ct19) H fun H =>
 p.load true 25 t6 H fun r0 =>
 k r0 H
theorem Adi : Bd3 AiX @f43 := fun p n a0 a1 a2 H k => by kernel_rfl
noncomputable def Qm (p : Pr β) (n : Nat)  (k : KO β) : Nat → AV → AV → AV → KO β
 | 0, _, _, _, _, _ => none
 | m + 1, t3, t12, t13, t14, H => p.bin .lss t14 t13 fun t15 =>
   p.cond t15
   (p.iadr 6 t12 t14 fun t16 =>
   p.load true 6 t16 H fun t17 =>
   p.new [i0, sE, .nl, i0, bF, i0] H fun t5 H =>
   p.store 6 t5 t17 H fun H =>
   p.fl 5 t5 1 H fun t19 =>
   p.bin .eql t19 (si 3) fun t20 =>
   p.cond t20
   (p.fadr 0 t5 fun t22 =>
   p.load false 1 t22 H fun t23 =>
   p.ca 41 42 [(si 6), t23] H fun t24 H =>
   p.fill Hl [(0, 25, t24)] fun ct25 => p.newSl 1 25 ct25 true H fun t25 H =>
   p.app 25 320 t3 t25 H fun t26 H =>
   p.bin .add t14 (si 1) fun t35 =>
   Qm p n  k m t26 t12 t13 t35 H)
   (p.fadr 1 t5 fun t28 =>
   p.load true 4 t28 H fun t29 =>
   p.fl 0 t5 1 H fun t31 =>
   p.ca 41 43 [t29, t31, bT] H fun t32 H =>
   p.fill Hl [(0, 25, t32)] fun ct33 => p.newSl 1 25 ct33 true H fun t33 H =>
   p.app 25 320 t3 t33 H fun t34 H =>
   p.bin .add t14 (si 1) fun t35 =>
   Qm p n  k m t34 t12 t13 t35 H))
   (k t3 H)
noncomputable def f9 (n : Nat) (a0 : AV) (H : Ab) (k : KO β) : Option β :=
 p.box a0 H fun t1 H =>
 p.load true 3 t1 H fun t7 =>
 p.ca 4 10 [t7] H fun t8 H =>
 p.un .not t8 fun t9 =>
 p.cond t9
 (k .nl H)
 (p.fadr 1 t1 fun t11 =>
 p.load false 1 t11 H fun t12 =>
 p.len t12 fun t13 =>
 Qm p n  k n .nl t12 t13 i0 H)
noncomputable def AgA (p : Pr β) (n : Nat)  (k : KO β) (m : Nat) (tm : Tm) (H : Ab) : Option β :=
 D3 37 (fun tm H k => Ak Ar p [] 37 n (cd c9 [1, 1, 1, 0, 1, 0, 0]) tm H k) (E3 0 (Em (fun tm H => Ak Ar p [] 37 n (cd c9 [1, 1, 1, 1]) tm H (Cz Ar p fi9.results k)) (Cz Ar p fi9.results k))) m tm H
theorem Aec (p : Pr β) (n : Nat)  (k : KO β) (m0 : Nat) : ∀ (t : Nat → AV) (H : Ab), AgA p n  k m0 (tf 37 0 t) H = Qm p n  k m0 (t 3) (t 12) (t 13) (t 14) H := by
 induction m0 with
 | zero => intros; rfl
 | succ m0 ih =>
  intro t H
  refine Eq.trans (B8 (nt := 37) (m := m0) (g := fun t H => Qm p n  k m0 (t 3) (t 12) (t 13) (t 14) H) ih rfl) ?_
  kernel_rfl
theorem Aic (p : Pr β) (n : Nat) (a0 : AV) (H : Ab) (k : KO β) : Cf Ar p n fi9 [a0] H k =
 p.box a0 H fun t1 H =>
 p.load true 3 t1 H fun t7 =>
 p.call 4 (.fn 10 [] []) [t7] H fun t8 H =>
 p.un .not t8 fun t9 =>
 p.cond t9
 (k .nl H)
 (p.fadr 1 t1 fun t11 =>
 p.load false 1 t11 H fun t12 =>
 p.len t12 fun t13 =>
 AgA p n  k n (tf 37 0 (ud [(0, a0), (1, t1), (2, .nl), (3, .nl), (6, .nl), (7, t7), (8, t8), (9, t9), (11, t11), (12, t12), (13, t13), (14, i0)] ut)) H) := by kernel_rfl
theorem AfH : Jr fi9 @f9 := fun p n a0 H k => by
 rw [Aic]
 simp only [Aec]
 kernel_rfl
noncomputable def f13 (n : Nat) (a0 a1 : AV) (H : Ab) (k : KO β) : Option β :=
 p.cvBS a0 H fun t6 =>
 p.cvBS a1 H fun t8 =>
 p.bin .eql t6 t8 fun t9 =>
 k t9 H
theorem AcT : Pi AiN @f13 := fun p n a0 a1 H k => by kernel_rfl
noncomputable def f14 (n : Nat) (a0 : AV) (H : Ab) (k : KO β) : Option β :=
 p.new [i0, .nl, .nl] H fun t2 H =>
 p.ca 71 40 [a0] H fun t9 H =>
 p.ca 27 41 [t9] H fun t11 H =>
 p.new [i0, .nl, .nl] H fun t6 H =>
 p.store 3 t6 t11 H fun H =>
 p.ca 3 59 [t9, (si 5)] H fun t13 H =>
 p.fl 1 t6 1 H fun t15 =>
 p.len t15 fun t16 =>
 p.bin .gtr t16 i0 fun t17 =>
 p.kT t17 H t9 fun t19 H =>
 p.hT t17 H (p.ca 4 60 [t19, (si 4)] H) fun t20 H =>
 p.gT t17 H (p.un .not t20) fun t21 H =>
 p.pick t17 t21 bF fun t22 =>
 Le (fun (t2 t5 t6 t7 : AV) (H : Ab) => p.both
 (p.load true 3 t6 H fun t33 =>
 p.fill [i0, i0, i0, i0, i0, i0, i0, i0] [(0, 1, (si 4)), (1, 1, (si 5)), (2, 1, (si 7)), (3, 1, (si 4)), (4, 1, (si 5)), (5, 1, (si 7)), (6, 1, (si 6)), (7, 1, i0)] fun ct35 => p.newSl 8 1 ct35 true H fun t35 H =>
 p.ca 3 61 [t5, t35] H fun t36 H =>
 p.store 3 t2 t33 H fun H =>
 p.load true 3 t2 H fun r0 =>
 k (Cu [r0, t36, t7]) H)
 (p.fill [i0, i0, i0, i0, i0, i0, i0, i0] [(0, 1, (si 4)), (1, 1, (si 5)), (2, 1, (si 7)), (3, 1, (si 4)), (4, 1, (si 5)), (5, 1, (si 7)), (6, 1, (si 6)), (7, 1, i0)] fun ct35 => p.newSl 8 1 ct35 true H fun t35 H =>
 p.both
 (p.load true 3 t6 H fun t33 =>
 p.ca 3 61 [t5, t35] H fun t36 H =>
 p.store 3 t2 t33 H fun H =>
 p.load true 3 t2 H fun r0 =>
 k (Cu [r0, t36, t7]) H)
 (p.ca 3 61 [t5, t35] H fun t36 H =>
 p.load true 3 t6 H fun t33 =>
 p.store 3 t2 t33 H fun H =>
 p.load true 3 t2 H fun r0 =>
 k (Cu [r0, t36, t7]) H))) fun j1 =>
 p.cond t22
 (p.fadr 1 t6 fun t23 =>
 p.fl 1 t6 1 H fun t27 =>
 p.len t27 fun t28 =>
 p.both
 (p.load false 1 t23 H fun t24 =>
 p.ca 3 59 [t9, t28] H fun t29 H =>
 p.iadr 6 t24 t29 fun t30 =>
 p.fl 0 t30 1 H fun t32 =>
 j1 t2 t9 t6 t32 H)
 (p.ca 3 59 [t9, t28] H fun t29 H =>
 p.load false 1 t23 H fun t24 =>
 p.iadr 6 t24 t29 fun t30 =>
 p.fl 0 t30 1 H fun t32 =>
 j1 t2 t9 t6 t32 H))
 (j1 t2 t9 t6 t13 H)
theorem AcU : Jr AiO @f14 := fun p n a0 H k => by kernel_rfl
noncomputable def f99 (n : Nat) (a0 : AV) (H : Ab) (k : KO β) : Option β :=
 p.box a0 H fun t1 H =>
 p.new [sE, .nl, i0, bF] H fun t2 H =>
 p.fadr 1 t1 fun t3 =>
 p.load false 1 t3 H fun t4 =>
 p.fill [.nl] [(0, 1, t4)] fun ct5 => p.newSl 1 1 ct5 true H fun t5 H =>
 p.call 22 (.fn 88 [] []) [t5] H fun t6 H =>
 p.fadr 1 t1 fun t7 =>
 p.store 1 t7 t6 H fun H =>
 p.load true 4 t1 H fun t8 =>
 p.store 4 t2 t8 H fun H =>
 p.load true 4 t2 H fun r0 =>
 k r0 H
theorem Aeb : Jr Ajy @f99 := fun p n a0 H k => by kernel_rfl
noncomputable def N3 (p : Pr β) (n : Nat)  (k : KO β) : Nat → AV → AV → AV → KO β
 | 0, _, _, _, _, _ => none
 | m + 1, t3, t7, t8, t9, H => p.bin .lss t9 t8 fun t10 =>
   p.cond t10
   (p.iadr 4 t7 t9 fun t11 =>
   p.load true 4 t11 H fun t12 =>
   p.new [sE, .nl, i0, bF] H fun t5 H =>
   p.store 4 t5 t12 H fun H =>
   p.load true 4 t5 H fun t14 =>
   p.call 33 (.fn 99 [] []) [t14] H fun t15 H =>
   p.fill [sE, .nl, i0, bF] [(0, 4, t15)] fun ct16 => p.newSl 1 4 ct16 true H fun t16 H =>
   p.app 4 56 t3 t16 H fun t17 H =>
   p.bin .add t9 (si 1) fun t18 =>
   N3 p n  k m t17 t7 t8 t18 H)
   (k t3 H)
noncomputable def f98 (n : Nat) (a0 : AV) (H : Ab) (k : KO β) : Option β :=
 p.len a0 fun t8 =>
 N3 p n  k n .nl a0 t8 i0 H
noncomputable def AdZ (p : Pr β) (n : Nat)  (k : KO β) (m : Nat) (tm : Tm) (H : Ab) : Option β :=
 D3 20 (fun tm H k => Ak Ar p [] 20 n (cd c98 [1, 1, 0, 1, 0, 0]) tm H k) (E3 0 (Em (fun tm H => Ak Ar p [] 20 n (cd c98 [1, 1, 1]) tm H (Cz Ar p fi98.results k)) (Cz Ar p fi98.results k))) m tm H
theorem AbK (p : Pr β) (n : Nat)  (k : KO β) (m0 : Nat) : ∀ (t : Nat → AV) (H : Ab), AdZ p n  k m0 (tf 20 0 t) H = N3 p n  k m0 (t 3) (t 7) (t 8) (t 9) H := by
 induction m0 with
 | zero => intros; rfl
 | succ m0 ih =>
  intro t H
  refine Eq.trans (B8 (nt := 20) (m := m0) (g := fun t H => N3 p n  k m0 (t 3) (t 7) (t 8) (t 9) H) ih rfl) ?_
  kernel_rfl
theorem AfG (p : Pr β) (n : Nat) (a0 : AV) (H : Ab) (k : KO β) : Cf Ar p n fi98 [a0] H k =
 p.len a0 fun t8 =>
 AdZ p n  k n (tf 20 0 (ud [(0, a0), (2, .nl), (3, .nl), (6, .nl), (7, a0), (8, t8), (9, i0)] ut)) H := by kernel_rfl
theorem Aea : Jr fi98 @f98 := fun p n a0 H k => by
 rw [AfG]
 simp only [AbK]
 kernel_rfl
noncomputable def Pt (p : Pr β) (n : Nat)  (k : KO β) : Nat → AV → AV → AV → AV → KO β
 | 0, _, _, _, _, _, _ => none
 | m + 1, t2, t3, t13, t14, t15, H => p.bin .lss t15 t14 fun t16 =>
   p.cond t16
   (p.iadr 6 t13 t15 fun t17 =>
   p.load true 6 t17 H fun t18 =>
   p.new [i0, sE, .nl, i0, bF, i0] H fun t5 H =>
   p.store 6 t5 t18 H fun H =>
   p.fadr 1 t3 fun t19 =>
   p.load false 1 t19 H fun t20 =>
   p.fadr 0 t5 fun t21 =>
   p.load false 1 t21 H fun t22 =>
   p.fadr 1 t5 fun t23 =>
   p.load true 4 t23 H fun t24 =>
   p.fadr 5 t5 fun t26 =>
   p.load false 1 t26 H fun t27 =>
   p.call 33 (.fn 99 [] []) [t24] H fun t25 H =>
   p.fill [i0, sE, .nl, i0, bF, i0] [(0, 1, t22), (1, 4, t25), (5, 1, t27)] fun ct28 =>
   p.fill [i0, sE, .nl, i0, bF, i0] [(0, 6, (.agg ct28))] fun ct29 => p.newSl 1 6 ct29 true H fun t29 H =>
   p.app 6 72 t20 t29 H fun t30 H =>
   p.fadr 1 t3 fun t31 =>
   p.store 1 t31 t30 H fun H =>
   p.bin .add t15 (si 1) fun t32 =>
   Pt p n  k m t2 t3 t13 t14 t32 H)
   (p.load true 3 t3 H fun t33 =>
   p.store 3 t2 t33 H fun H =>
   p.load true 3 t2 H fun r0 =>
   k r0 H)
noncomputable def f62 (n : Nat) (a0 : AV) (H : Ab) (k : KO β) : Option β :=
 p.box a0 H fun t1 H =>
 p.new [i0, .nl, .nl] H fun t2 H =>
 p.fadr 0 t1 fun t6 =>
 p.load false 1 t6 H fun t7 =>
 p.fadr 2 t1 fun t8 =>
 p.load false 1 t8 H fun t9 =>
 p.both
 (p.call 25 (.fn 98 [] []) [t9] H fun t10 H =>
 p.fill [i0, .nl, .nl] [(0, 1, t7), (2, 1, t10)] fun ct11 =>
 p.new [i0, .nl, .nl] H fun t3 H =>
 p.store 3 t3 (.agg ct11) H fun H =>
 p.fadr 1 t1 fun t12 =>
 p.load false 1 t12 H fun t13 =>
 p.len t13 fun t14 =>
 Pt p n  k n t2 t3 t13 t14 i0 H)
 (p.new [i0, .nl, .nl] H fun t3 H =>
 p.call 25 (.fn 98 [] []) [t9] H fun t10 H =>
 p.fill [i0, .nl, .nl] [(0, 1, t7), (2, 1, t10)] fun ct11 =>
 p.store 3 t3 (.agg ct11) H fun H =>
 p.fadr 1 t1 fun t12 =>
 p.load false 1 t12 H fun t13 =>
 p.len t13 fun t14 =>
 Pt p n  k n t2 t3 t13 t14 i0 H)
noncomputable def Zb (p : Pr β) (n : Nat)  (k : KO β) (m : Nat) (tm : Tm) (H : Ab) : Option β :=
 D3 34 (fun tm H k => Ak Ar p o62 34 n (cd c62 [1, 1, 0, 1, 0, 0]) tm H k) (E3 0 (Em (fun tm H => Ak Ar p o62 34 n (cd c62 [1, 1, 1]) tm H (Cz Ar p fi62.results k)) (Cz Ar p fi62.results k))) m tm H
theorem AbB (p : Pr β) (n : Nat)  (k : KO β) (m0 : Nat) : ∀ (t : Nat → AV) (H : Ab), Zb p n  k m0 (tf 34 0 t) H = Pt p n  k m0 (t 2) (t 3) (t 13) (t 14) (t 15) H := by
 induction m0 with
 | zero => intros; rfl
 | succ m0 ih =>
  intro t H
  refine Eq.trans (B8 (nt := 34) (m := m0) (g := fun t H => Pt p n  k m0 (t 2) (t 3) (t 13) (t 14) (t 15) H) ih rfl) ?_
  kernel_rfl
theorem Af5 (p : Pr β) (n : Nat) (a0 : AV) (H : Ab) (k : KO β) : Cf Ar p n fi62 [a0] H k =
 p.box a0 H fun t1 H =>
 p.new [i0, .nl, .nl] H fun t2 H =>
 p.fadr 0 t1 fun t6 =>
 p.load false 1 t6 H fun t7 =>
 p.fadr 2 t1 fun t8 =>
 p.load false 1 t8 H fun t9 =>
 p.both
 (p.call 25 (.fn 98 [] []) [t9] H fun t10 H =>
 p.fill [i0, .nl, .nl] [(0, 1, t7), (2, 1, t10)] fun ct11 =>
 p.new [i0, .nl, .nl] H fun t3 H =>
 p.store 3 t3 (.agg ct11) H fun H =>
 p.fadr 1 t1 fun t12 =>
 p.load false 1 t12 H fun t13 =>
 p.len t13 fun t14 =>
 Zb p n  k n (tf 34 0 (ud [(0, a0), (1, t1), (2, t2), (3, t3), (6, t6), (7, t7), (8, t8), (9, t9), (10, t10), (11, (.agg ct11)), (12, t12), (13, t13), (14, t14), (15, i0)] ut)) H)
 (p.new [i0, .nl, .nl] H fun t3 H =>
 p.call 25 (.fn 98 [] []) [t9] H fun t10 H =>
 p.fill [i0, .nl, .nl] [(0, 1, t7), (2, 1, t10)] fun ct11 =>
 p.store 3 t3 (.agg ct11) H fun H =>
 p.fadr 1 t1 fun t12 =>
 p.load false 1 t12 H fun t13 =>
 p.len t13 fun t14 =>
 Zb p n  k n (tf 34 0 (ud [(0, a0), (1, t1), (2, t2), (3, t3), (6, t6), (7, t7), (8, t8), (9, t9), (10, t10), (11, (.agg ct11)), (12, t12), (13, t13), (14, t14), (15, i0)] ut)) H) := by kernel_rfl
theorem Ad5 : Jr fi62 @f62 := fun p n a0 H k => by
 rw [Af5]
 simp only [AbB]
 kernel_rfl
noncomputable def f15 (n : Nat) (a0 a1 a2 : AV) (H : Ab) (k : KO β) : Option β :=
 p.box a0 H fun t3 H =>
 p.new [i0, .nl, .nl] H fun t6 H =>
 p.new Hl H fun t7 H =>
 p.load true 3 t3 H fun t12 =>
 p.ca 27 62 [t12] H fun t13 H =>
 p.new [i0, .nl, .nl] H fun t9 H =>
 p.store 3 t9 t13 H fun H =>
 p.fl 1 t3 1 H fun t15 =>
 p.ca 3 45 [t15, a2] H fun t17 H =>
 p.load true 3 t3 H fun t18 =>
 p.ca 4 10 [t18] H fun t19 H =>
 p.un .not t19 fun t20 =>
 p.kF t20 H t17 fun t22 H =>
 p.gF t20 H (p.bin .lss t22 i0) fun t23 H =>
 p.pick t20 bT t23 fun t24 =>
 p.cond t24
 (p.load true 3 t9 H fun t25 =>
 p.fill Hl [] fun ct26 =>
 p.store 3 t6 t25 H fun H =>
 p.store 25 t7 (.agg ct26) H fun H =>
 p.load true 3 t6 H fun r0 =>
 p.load true 25 t7 H fun r1 =>
 k (Cu [r0, r1, bF]) H)
 (p.fadr 1 t3 fun t27 =>
 p.load false 1 t27 H fun t28 =>
 p.iadr 6 t28 t17 fun t30 =>
 p.fl 5 t30 1 H fun t32 =>
 p.bin .eql a1 (si 4) fun t35 =>
 p.kT t35 H t32 fun t37 H =>
 p.gT t35 H (p.bin .eql t37 (si 1)) fun t38 H =>
 p.pick t35 t38 bF fun t39 =>
 Le (fun (t1 t2 t6 t7 t9 t10 t11 t33 : AV) (H : Ab) => p.cond t33
 (p.fadr 1 t9 fun t46 =>
 p.load false 1 t46 H fun t47 =>
 p.bin .add t10 (si 1) fun t50 =>
 p.ca 24 63 [t47, t10, t50] H fun t51 H =>
 p.fs 1 t9 1 t51 H fun H =>
 p.load true 3 t9 H fun t53 =>
 p.fill Hl [] fun ct54 =>
 p.store 3 t6 t53 H fun H =>
 p.store 25 t7 (.agg ct54) H fun H =>
 p.load true 3 t6 H fun r0 =>
 p.load true 25 t7 H fun r1 =>
 k (Cu [r0, r1, bT]) H)
 (p.bin .eql t1 (si 5) fun t57 =>
 p.kT t57 H t11 fun t59 H =>
 p.gT t57 H (p.bin .neq t59 (si 1)) fun t60 H =>
 p.pick t57 t60 bF fun t61 =>
 p.cond t61
 (p.fadr 1 t9 fun t62 =>
 p.load false 1 t62 H fun t63 =>
 p.iadr 6 t63 t10 fun t65 =>
 p.fs 5 t65 1 (si 3) H fun H =>
 p.load true 3 t9 H fun t67 =>
 p.ca 41 42 [(si 6), t2] H fun t69 H =>
 p.store 3 t6 t67 H fun H =>
 p.store 25 t7 t69 H fun H =>
 p.load true 3 t6 H fun r0 =>
 p.load true 25 t7 H fun r1 =>
 k (Cu [r0, r1, bT]) H)
 (p.load true 3 t9 H fun t70 =>
 p.fill Hl [] fun ct71 =>
 p.store 3 t6 t70 H fun H =>
 p.store 25 t7 (.agg ct71) H fun H =>
 p.load true 3 t6 H fun r0 =>
 p.load true 25 t7 H fun r1 =>
 k (Cu [r0, r1, bF]) H))) fun j1 =>
 p.cond t39
 (j1 a1 a2 t6 t7 t9 t17 t32 t39 H)
 (p.bin .eql a1 (si 7) fun t41 =>
 p.kT t41 H t32 fun t43 H =>
 p.gT t41 H (p.bin .eql t43 (si 3)) fun t44 H =>
 p.pick t41 t44 bF fun t45 =>
 j1 a1 a2 t6 t7 t9 t17 t32 t45 H))
theorem AcV : Bd3 AiP @f15 := fun p n a0 a1 a2 H k => by kernel_rfl
noncomputable def f17 (n : Nat) (a0 : AV) (H : Ab) (k : KO β) : Option β :=
 p.new [i0, .nl, .nl] H fun t2 H =>
 p.new [sE, .nl, i0, bF] H fun t3 H =>
 p.ca 71 40 [a0] H fun t7 H =>
 p.ca 27 41 [t7] H fun t9 H =>
 p.new [i0, .nl, .nl] H fun t5 H =>
 p.store 3 t5 t9 H fun H =>
 p.both
 (p.load true 3 t5 H fun t10 =>
 p.ca 33 66 [t7] H fun t12 H =>
 p.store 3 t2 t10 H fun H =>
 p.store 4 t3 t12 H fun H =>
 p.load true 3 t2 H fun r0 =>
 p.load true 4 t3 H fun r1 =>
 k (Cu [r0, r1]) H)
 (p.ca 33 66 [t7] H fun t12 H =>
 p.load true 3 t5 H fun t10 =>
 p.store 3 t2 t10 H fun H =>
 p.store 4 t3 t12 H fun H =>
 p.load true 3 t2 H fun r0 =>
 p.load true 4 t3 H fun r1 =>
 k (Cu [r0, r1]) H)
theorem AcY : Jr AiQ @f17 := fun p n a0 H k => by kernel_rfl
noncomputable def f67 (n : Nat) (a0 a1 : AV) (H : Ab) (k : KO β) : Option β :=
 p.box a1 H fun t3 H =>
 p.call 25 (.fn 98 [] []) [a0] H fun t8 H =>
 p.call 4 (.fn 49 [] []) [a0] H fun t11 H =>
 p.un .not t11 fun t12 =>
 p.gF t12 H (p.load true 4 t3 H) fun t14 H =>
 p.hF t12 H (p.call 4 (.fn 46 [] []) [t14] H) fun t15 H =>
 p.gF t12 H (p.un .not t15) fun t16 H =>
 p.pick t12 bT t16 fun t17 =>
 p.cond t17
 (k (Cu [t8, (si 2)]) H)
 (p.len a0 fun t21 =>
 p.bin .lss t21 (si 6) fun t22 =>
 p.cond t22
 (p.load true 4 t3 H fun t24 =>
 p.call 33 (.fn 99 [] []) [t24] H fun t25 H =>
 p.fill [sE, .nl, i0, bF] [(0, 4, t25)] fun ct26 => p.newSl 1 4 ct26 true H fun t26 H =>
 p.app 4 56 t8 t26 H fun t27 H =>
 k (Cu [t27, i0]) H)
 (p.fadr 2 t3 fun t29 =>
 p.load false 1 t29 H fun t30 =>
 p.bin .eql t30 i0 fun t31 =>
 p.cond t31
 (k (Cu [t8, (si 1)]) H)
 (k (Cu [t8, (si 2)]) H)))
theorem Ad9 : Pi Ajp @f67 := fun p n a0 a1 H k => by kernel_rfl
noncomputable def f18 (n : Nat) (a0 a1 : AV) (H : Ab) (k : KO β) : Option β :=
 p.box a0 H fun t2 H =>
 p.box a1 H fun t3 H =>
 p.new [i0, .nl, .nl] H fun t4 H =>
 p.load true 3 t2 H fun t9 =>
 p.call 27 (.fn 62 [] []) [t9] H fun t10 H =>
 p.new [i0, .nl, .nl] H fun t6 H =>
 p.store 3 t6 t10 H fun H =>
 p.load true 3 t2 H fun t11 =>
 p.call 4 (.fn 10 [] []) [t11] H fun t12 H =>
 p.un .not t12 fun t13 =>
 p.cond t13
 (p.load true 3 t6 H fun t14 =>
 p.store 3 t4 t14 H fun H =>
 p.load true 3 t4 H fun r0 =>
 k (Cu [r0, (si 2)]) H)
 (p.fadr 2 t2 fun t16 =>
 p.load false 1 t16 H fun t17 =>
 p.load true 4 t3 H fun t18 =>
 p.call 90 (.fn 67 [] []) [t17, t18] H fun t19 H =>
 p.extr t19 0 fun t20 =>
 p.extr t19 1 fun t21 =>
 p.fadr 2 t6 fun t23 =>
 p.store 1 t23 t20 H fun H =>
 p.load true 3 t6 H fun t24 =>
 p.store 3 t4 t24 H fun H =>
 p.load true 3 t4 H fun r0 =>
 k (Cu [r0, t21]) H)
theorem AcZ : Pi AiR @f18 := fun p n a0 a1 H k => by kernel_rfl
noncomputable def R0 (p : Pr β) (n : Nat)  (k : KO β) : Nat → AV → AV → AV → KO β
 | 0, _, _, _, _, _ => none
 | m + 1, t0, t3, t4, t5, H => p.len t4 fun t41 =>
   p.bin .lss t5 t41 fun t42 =>
   p.cond t42
   (p.fadr 1 t3 fun t45 =>
   p.load false 1 t45 H fun t46 =>
   p.iadr 6 t46 t5 fun t48 =>
   p.load true 6 t48 H fun t49 =>
   p.new [i0, sE, .nl, i0, bF, i0] H fun t6 H =>
   p.store 6 t6 t49 H fun H =>
   p.iadr 25 t4 t5 fun t52 =>
   p.load true 25 t52 H fun t53 =>
   p.ca 4 12 [t53] H fun t54 H =>
   p.un .not t54 fun t55 =>
   p.kF t55 H t4 fun t57 H =>
   p.kF t55 H t5 fun t58 H =>
   p.gF t55 H (p.iadr 25 t57 t58) fun t59 H =>
   p.lF t55 H 4 t59 1 fun t61 H =>
   p.lF t55 H 0 t6 1 fun t63 H =>
   p.gF t55 H (p.bin .neq t61 t63) fun t64 H =>
   p.pick t55 bT t64 fun t65 =>
   p.kF t65 H t4 fun t67 H =>
   p.kF t65 H t5 fun t68 H =>
   p.gF t65 H (p.iadr 25 t67 t68) fun t69 H =>
   p.lF t65 H 0 t69 1 fun t71 H =>
   p.gF t65 H (p.bin .eql t71 (si 6)) fun t72 H =>
   p.lF t65 H 5 t6 1 fun t74 H =>
   p.gF t65 H (p.bin .eql t74 (si 3)) fun t75 H =>
   p.gF t65 H (p.binB .neq t72 t75) fun t76 H =>
   p.pick t65 bT t76 fun t77 =>
   p.kF t77 H t4 fun t79 H =>
   p.kF t77 H t5 fun t80 H =>
   p.gF t77 H (p.iadr 25 t79 t80) fun t81 H =>
   p.lF t77 H 0 t81 1 fun t83 H =>
   p.gF t77 H (p.bin .eql t83 (si 3)) fun t84 H =>
   p.kF t77 H t84 fun t85 H =>
   p.kT t85 H t4 fun t86 H =>
   p.kT t85 H t5 fun t87 H =>
   p.gT t85 H (p.iadr 25 t86 t87) fun t88 H =>
   p.lT t85 H 1 t88 1 fun t90 H =>
   p.gT t85 H (p.un .not t90) fun t91 H =>
   p.kT t85 H t91 fun t92 H =>
   p.kF t92 H t4 fun t93 H =>
   p.kF t92 H t5 fun t94 H =>
   p.gF t92 H (p.iadr 25 t93 t94) fun t95 H =>
   p.lF t92 H 5 t95 1 fun t97 H =>
   p.gF t92 H (p.fadr 1 t6) fun t98 H =>
   p.lF t92 H 0 t98 1 fun t100 H =>
   p.gF t92 H (p.bin .neq t97 t100) fun t101 H =>
   p.gT t85 H (p.pick t92 bT t101) fun t102 H =>
   p.kT t85 H t102 fun t103 H =>
   p.kF t103 H t4 fun t104 H =>
   p.kF t103 H t5 fun t105 H =>
   p.gF t103 H (p.iadr 25 t104 t105) fun t106 H =>
   p.lF t103 H 6 t106 1 fun t108 H =>
   p.gF t103 H (p.fadr 1 t6) fun t109 H =>
   p.lF t103 H 1 t109 1 fun t111 H =>
   p.hF t103 H (p.ca 4 13 [t108, t111] H) fun t112 H =>
   p.gF t103 H (p.un .not t112) fun t113 H =>
   p.gT t85 H (p.pick t103 bT t113) fun t114 H =>
   p.gF t77 H (p.pick t85 t114 bF) fun t115 H =>
   p.pick t77 bT t115 fun t116 =>
   p.cond t116
   (k bF H)
   (p.bin .add t5 (si 1) fun t44 =>
   R0 p n  k m t0 t3 t4 t44 H))
   (p.ca 43 14 [t0] H fun t119 H =>
   p.extr t119 0 fun t120 =>
   p.extr t119 1 fun t121 =>
   p.extr t119 2 fun t122 =>
   p.new [i0, .nl, .nl] H fun t7 H =>
   p.store 3 t7 t120 H fun H =>
   p.load true 3 t7 H fun t124 =>
   p.ca 45 15 [t124, t121, t122] H fun t127 H =>
   p.extr t127 0 fun t128 =>
   p.extr t127 1 fun t129 =>
   p.extr t127 2 fun t130 =>
   p.new [i0, .nl, .nl] H fun t10 H =>
   p.new Hl H fun t11 H =>
   p.store 3 t10 t128 H fun H =>
   p.store 25 t11 t129 H fun H =>
   p.load true 3 t7 H fun t132 =>
   p.ca 45 16 [t132, t121, t122] H fun t135 H =>
   p.extr t135 0 fun t136 =>
   p.extr t135 1 fun t137 =>
   p.extr t135 2 fun t138 =>
   p.new [i0, .nl, .nl] H fun t13 H =>
   p.new Hl H fun t14 H =>
   p.store 3 t13 t136 H fun H =>
   p.store 25 t14 t137 H fun H =>
   p.ca 47 17 [t0] H fun t141 H =>
   p.extr t141 0 fun t142 =>
   p.extr t141 1 fun t143 =>
   p.new [i0, .nl, .nl] H fun t16 H =>
   p.new [sE, .nl, i0, bF] H fun t17 H =>
   p.store 3 t16 t142 H fun H =>
   p.store 4 t17 t143 H fun H =>
   p.load true 3 t16 H fun t145 =>
   p.load true 4 t17 H fun t146 =>
   p.ca 49 18 [t145, t146] H fun t147 H =>
   p.extr t147 0 fun t148 =>
   p.extr t147 1 fun t149 =>
   p.new [i0, .nl, .nl] H fun t18 H =>
   p.store 3 t18 t148 H fun H =>
   p.load true 3 t16 H fun t151 =>
   p.load true 4 t17 H fun t152 =>
   p.ca 49 19 [t151, t152] H fun t153 H =>
   p.extr t153 0 fun t154 =>
   p.extr t153 1 fun t155 =>
   p.new [i0, .nl, .nl] H fun t20 H =>
   p.store 3 t20 t154 H fun H =>
   p.len t4 fun t157 =>
   p.fl 1 t3 1 H fun t159 =>
   p.len t159 fun t160 =>
   p.bin .eql t157 t160 fun t161 =>
   p.lT t161 H 1 t3 1 fun t164 H =>
   p.gT t161 H (p.len t164) fun t165 H =>
   p.gT t161 H (p.bin .leq t165 (si 3)) fun t166 H =>
   p.pick t161 t166 bF fun t167 =>
   p.kT t167 H t130 fun t169 H =>
   p.kT t167 H t138 fun t170 H =>
   p.gT t167 H (p.binB .eql t169 t170) fun t171 H =>
   p.pick t167 t171 bF fun t172 =>
   p.gT t172 H (p.load true 25 t11 H) fun t174 H =>
   p.gT t172 H (p.load true 25 t14 H) fun t175 H =>
   p.hT t172 H (p.ca 4 20 [t174, t175] H) fun t176 H =>
   p.pick t172 t176 bF fun t177 =>
   p.kT t177 H t149 fun t179 H =>
   p.kT t177 H t155 fun t180 H =>
   p.gT t177 H (p.bin .eql t179 t180) fun t181 H =>
   p.pick t177 t181 bF fun t182 =>
   p.kT t182 H t149 fun t184 H =>
   p.gT t182 H (p.bin .neq t184 i0) fun t185 H =>
   p.kT t182 H t185 fun t186 H =>
   p.gF t186 H (p.load true 3 t18 H) fun t187 H =>
   p.hF t186 H (p.ca 4 10 [t187] H) fun t188 H =>
   p.kF t186 H t188 fun t189 H =>
   p.lT t189 H 2 t18 1 fun t191 H =>
   p.gT t189 H (p.len t191) fun t192 H =>
   p.lT t189 H 2 t16 1 fun t194 H =>
   p.gT t189 H (p.len t194) fun t195 H =>
   p.gT t189 H (p.bin .add t195 (si 1)) fun t196 H =>
   p.gT t189 H (p.bin .eql t192 t196) fun t197 H =>
   p.gF t186 H (p.pick t189 t197 bF) fun t198 H =>
   p.gT t182 H (p.pick t186 bT t198) fun t199 H =>
   p.pick t182 t199 bF fun t200 =>
   k t200 H)
noncomputable def f3 (n : Nat) (a0 : AV) (H : Ab) (k : KO β) : Option β :=
 p.ca 4 7 [a0] H fun t23 H =>
 p.cond t23
 (k bT H)
 (p.ca 27 8 [a0] H fun t25 H =>
 p.new [i0, .nl, .nl] H fun t3 H =>
 p.store 3 t3 t25 H fun H =>
 p.load true 3 t3 H fun t26 =>
 p.ca 29 9 [t26] H fun t27 H =>
 p.load true 3 t3 H fun t28 =>
 p.load true 3 t3 H fun t30 =>
 p.ca 4 10 [t28] H fun t29 H =>
 p.ca 4 11 [t30] H fun t31 H =>
 p.binB .neq t29 t31 fun t32 =>
 p.cond t32
 (k bF H)
 (p.load true 3 t3 H fun t33 =>
 p.ca 4 10 [t33] H fun t34 H =>
 p.un .not t34 fun t35 =>
 p.cond t35
 (p.len t27 fun t37 =>
 p.bin .eql t37 i0 fun t38 =>
 k t38 H)
 (R0 p n  k n a0 t3 t27 i0 H)))
noncomputable def Ag9 (p : Pr β) (n : Nat)  (k : KO β) (m : Nat) (tm : Tm) (H : Ab) : Option β :=
 D3 201 (fun tm H k => Ak Ar p o3 201 n (cd c3 [1, 1, 1, 1, 1, 1, 0, 1, 0, 0]) tm H k) (E3 0 (Em (fun tm H => Ak Ar p o3 201 n (cd c3 [1, 1, 1, 1, 1, 1, 1]) tm H (Cz Ar p fi3.results k)) (Cz Ar p fi3.results k))) m tm H
theorem Add (p : Pr β) (n : Nat)  (k : KO β) (m0 : Nat) : ∀ (t : Nat → AV) (H : Ab), Ag9 p n  k m0 (tf 201 0 t) H = R0 p n  k m0 (t 0) (t 3) (t 4) (t 5) H := by
 induction m0 with
 | zero => intros; rfl
 | succ m0 ih =>
  intro t H
  refine Eq.trans (B8 (nt := 201) (m := m0) (g := fun t H => R0 p n  k m0 (t 0) (t 3) (t 4) (t 5) H) ih rfl) ?_
  kernel_rfl
theorem Ahz (p : Pr β) (n : Nat) (a0 : AV) (H : Ab) (k : KO β) : Cf Ar p n fi3 [a0] H k =
 p.call 4 (.fn 7 [] []) [a0] H fun t23 H =>
 p.cond t23
 (k bT H)
 (p.call 27 (.fn 8 [] []) [a0] H fun t25 H =>
 p.new [i0, .nl, .nl] H fun t3 H =>
 p.store 3 t3 t25 H fun H =>
 p.load true 3 t3 H fun t26 =>
 p.call 29 (.fn 9 [] []) [t26] H fun t27 H =>
 p.load true 3 t3 H fun t28 =>
 p.load true 3 t3 H fun t30 =>
 p.call 4 (.fn 10 [] []) [t28] H fun t29 H =>
 p.call 4 (.fn 11 [] []) [t30] H fun t31 H =>
 p.binB .neq t29 t31 fun t32 =>
 p.cond t32
 (k bF H)
 (p.load true 3 t3 H fun t33 =>
 p.call 4 (.fn 10 [] []) [t33] H fun t34 H =>
 p.un .not t34 fun t35 =>
 p.cond t35
 (p.len t27 fun t37 =>
 p.bin .eql t37 i0 fun t38 =>
 k t38 H)
 (Ag9 p n  k n (tf 201 0 (ud [(0, a0), (2, bF), (3, t3), (4, t27), (5, i0), (22, a0), (23, t23), (24, a0), (25, t25), (26, t26), (27, t27), (28, t28), (29, t29), (30, t30), (31, t31), (32, t32), (33, t33), (34, t34), (35, t35)] ut)) H))) := by kernel_rfl
theorem Af2 : Jr fi3 @f3 := fun p n a0 H k => by
 rw [Ahz]
 simp only [Add]
 kernel_rfl
noncomputable def fss : List (Option E6) := [none, none, none, some fi3, none, none, none, some fi7, some fi8, some fi9, some fi10, some fi11, some AiL, some AiN, some AiO, some AiP, some fi16, some AiQ, some AiR, some AiS, some AiT, none, none, none, none, none, none, none, none, none, none, none, none, none, none, none, none, none, none, some AiU, some fi40, some AiV, some AiW, some AiX, some AiY, some AiZ, some Aja, some Ajb, some Ajc, some Ajd, some Aje, some Ajf, some Ajg, some fi53, some Ajh, some Akk, some Aji, some Ajj, some Akl, some Ajk, some Ajl, some Ajm, some fi62, none, some fi64, some Ajn, some Ajo, some Ajp, some Ajq, some Ajr, some fi70, some fi71, some fi72, none, none, none, none, none, none, none, none, none, some Ajs, none, none, none, some fi86, some Ajt, some fi88, some fi89, some Aju, some fi91, some Ajv, none, none, some Ajw, some Akm, some Ajx, some fi98, some Ajy, some fi100, some AgB, some fi102, some AgC, some AgD, some fi105, none, some AgE, none, none, none, some fi111, some fi112, some fi113, some fi114, some fi115, none, none, none, some AiK, some fi120, some AgF, some AiM, some AgG, some AgH, none, none, none, some fi128, some AgI, some AgJ, some fi131, none, none, none, none, none, none, some AgK, some fi139]
noncomputable def tps : List (Nat × List Nat) := [(43, [27, 3, 3]), (45, [27, 41, 4]), (47, [27, 33]), (49, [27, 3]), (54, [53, 3, 33]), (56, [53, 3]), (61, [53, 4, 3, 3]), (65, [9, 3, 4, 3, 3]), (90, [25, 3]), (100, [25, 33, 4]), (102, [3, 4]), (129, [3, 3, 4]), (139, [138, 4]), (150, [21, 3]), (153, [152, 152])]
noncomputable def E0 : Me := { ti := Ar, tp := fun t => AaF tps t, fs := fun f => (fss[f]?).getD none, ext := fun f => if zby f 93 then some Aal else if zby f 94 then some Wo else if zby f 118 then some Ps else none, hm := fun f => [8, 14, 17, 21, 27, 30, 36, 40, 41, 54, 59, 60, 61, 63, 66, 73, 80, 81, 86, 87, 97, 103, 104, 105, 106, 107, 108, 112, 121, 123, 124, 126, 136, 164, 165, 166, 167, 168].contains f, xk := fun f => if zby f 63 then some (false, 6, 72) else none }
noncomputable def PR (n : Nat) (β : Type) : Pr β := D4 E0 (Di E0 n) β
abbrev Js (j : Nat) (f : (β : Type) → Pr β → Nat → AV → Ab → KO β → Option β) : Prop := ∀ {β : Type} (n : Nat) (a0 : AV) (H : Ab) (k : KO β), Di E0 (n + 1) β j [a0] H k = f β (PR n β) n a0 H k
abbrev Pj (j : Nat) (f : (β : Type) → Pr β → Nat → AV → AV → Ab → KO β → Option β) : Prop := ∀ {β : Type} (n : Nat) (a0 a1 : AV) (H : Ab) (k : KO β), Di E0 (n + 1) β j [a0, a1] H k = f β (PR n β) n a0 a1 H k
abbrev Ce3 (j : Nat) (f : (β : Type) → Pr β → Nat → AV → AV → AV → Ab → KO β → Option β) : Prop := ∀ {β : Type} (n : Nat) (a0 a1 a2 : AV) (H : Ab) (k : KO β), Di E0 (n + 1) β j [a0, a1, a2] H k = f β (PR n β) n a0 a1 a2 H k
theorem AiH : Js 7 @f7 := fun n => AfA (PR n _) n
theorem Ah0 : Js 40 @f40 := fun n => Adf (PR n _) n
theorem AdY : Js 97 @f97 := fun n => AdX (PR n _) n
theorem Za : Pj 59 @f59 := fun n => Ad2 (PR n _) n
theorem AhG : Pj 61 @f61 := fun n => Ad4 (PR n _) n
theorem Afj : Pj 107 @f107 := fun n => Abo (PR n _) n
theorem Aft : Js 123 @f123 := fun n => Ab0 (PR n _) n
theorem Afi : Pj 105 @f105 := fun n => Abn (PR n _) n
theorem AhF : Pj 60 @f60 := fun n => Ad3 (PR n _) n
theorem Afg : Js 103 @f103 := fun n => Abl (PR n _) n
theorem Afm : Pj 112 @f112 := fun n => Abr (PR n _) n
theorem Afe : Js 101 @f101 := fun n => Abj (PR n _) n
theorem Afd : Js 100 @f100 := fun n => Abi (PR n _) n
theorem AhI : Js 64 @f64 := fun n => Ad6 (PR n _) n
theorem Ah9 : Ce3 50 @f50 := fun n => Adq (PR n _) n
theorem Afv : Pj 128 @f128 := fun n => Ab2 (PR n _) n
theorem Afl : Js 111 @f111 := fun n => Abq (PR n _) n
theorem AhR : Js 82 @f82 := fun n => AdI (PR n _) n
theorem Afo : Pj 114 @f114 := fun n => Abu (PR n _) n
theorem Afp : Js 115 @f115 := fun n => Abv (PR n _) n
theorem AhY : Js 92 @f92 := fun n => AdU (PR n _) n
theorem AhA : Js 51 @f51 := fun n => Adr (PR n _) n
theorem AhB : Js 52 @f52 := fun n => Ads (PR n _) n
theorem AhC : Js 53 @f53 := fun n => Adu (PR n _) n
theorem Ahp : Js 11 @f11 := fun n => AcM (PR n _) n
theorem Ahy : Js 39 @f39 := fun n => Adc (PR n _) n
theorem Afw : Js 129 @f129 := fun n => Ab3 (PR n _) n
theorem Afx : Ce3 130 @f130 := fun n => Ab4 (PR n _) n
theorem Af0 : Pj 139 @f139 := fun n => Ab7 (PR n _) n
theorem Afy : Pj 131 @f131 := fun n => Ab5 (PR n _) n
theorem Afn : Js 113 @f113 := fun n => Abt (PR n _) n
theorem Afs : Js 121 @f121 := fun n => Abz (PR n _) n
theorem Afz : Pj 138 @f138 := fun n => Ab6 (PR n _) n
theorem Afr : Pj 120 @f120 := fun n => Aby (PR n _) n
theorem Aff : Js 102 @f102 := fun n => Abk (PR n _) n
theorem AhJ : Pj 65 @f65 := fun n => Ad7 (PR n _) n
theorem Aht : Ce3 16 @f16 := fun n => AcX (PR n _) n
theorem AhM : Pj 68 @f68 := fun n => AdA (PR n _) n
theorem Ahw : Pj 19 @f19 := fun n => Ada (PR n _) n
theorem AhS : Js 86 @f86 := fun n => AdL (PR n _) n
theorem Afu : Js 124 @f124 := fun n => Ab1 (PR n _) n
theorem Afh : Js 104 @f104 := fun n => Abm (PR n _) n
theorem AhK : Js 66 @f66 := fun n => Ad8 (PR n _) n
theorem AhT : Js 87 @f87 := fun n => AdM (PR n _) n
theorem Ah1 : Js 41 @f41 := fun n => Adg (PR n _) n
theorem AiI : Js 8 @f8 := fun n => AfE (PR n _) n
theorem Ah6 : Ce3 47 @f47 := fun n => Adn (PR n _) n
theorem Adk : Js 44 @f44 := fun n => Adj (PR n _) n
theorem AhW : Pj 90 @f90 := fun n => AdR (PR n _) n
theorem AhV : Pj 89 @f89 := fun n => AdQ (PR n _) n
theorem Ah4 : Pj 45 @f45 := fun n => Adl (PR n _) n
theorem AhZ : Js 95 @f95 := fun n => AdV (PR n _) n
theorem AhE : Js 57 @f57 := fun n => Ady (PR n _) n
theorem Adx : Js 56 @f56 := fun n => Adw (PR n _) n
theorem Ah5 : Js 46 @f46 := fun n => Adm (PR n _) n
theorem Ah7 : Js 48 @f48 := fun n => Ado (PR n _) n
theorem AhX : Js 91 @f91 := fun n => AdT (PR n _) n
theorem Ah8 : Js 49 @f49 := fun n => Adp (PR n _) n
theorem Aho : Js 10 @f10 := fun n => AcE (PR n _) n
theorem AhD : Js 54 @f54 := fun n => Adv (PR n _) n
theorem AhN : Pj 69 @f69 := fun n => AdB (PR n _) n
theorem AhO : Pj 70 @f70 := fun n => AdD (PR n _) n
theorem AhP : Pj 71 @f71 := fun n => AdF (PR n _) n
theorem AhQ : Pj 72 @f72 := fun n => AdH (PR n _) n
theorem Ahx : Pj 20 @f20 := fun n => Adb (PR n _) n
theorem AcQ : Js 12 @f12 := fun n => AcP (PR n _) n
theorem Ah2 : Pj 42 @f42 := fun n => Adh (PR n _) n
theorem AhU : Js 88 @f88 := fun n => AdO (PR n _) n
theorem Ah3 : Ce3 43 @f43 := fun n => Adi (PR n _) n
theorem AiJ : Js 9 @f9 := fun n => AfH (PR n _) n
theorem Ahq : Pj 13 @f13 := fun n => AcT (PR n _) n
theorem Ahr : Js 14 @f14 := fun n => AcU (PR n _) n
theorem Aib : Js 99 @f99 := fun n => Aeb (PR n _) n
theorem Aia : Js 98 @f98 := fun n => Aea (PR n _) n
theorem AhH : Js 62 @f62 := fun n => Ad5 (PR n _) n
theorem Ahs : Ce3 15 @f15 := fun n => AcV (PR n _) n
theorem Ahu : Js 17 @f17 := fun n => AcY (PR n _) n
theorem AhL : Pj 67 @f67 := fun n => Ad9 (PR n _) n
theorem Ahv : Pj 18 @f18 := fun n => AcZ (PR n _) n
theorem AiG : Js 3 @f3 := fun n => Af2 (PR n _) n
end
section
open Go Go.Shelf Go.RowKit Go.Lib Go.Proofs
variable {P : Program} {ρ : Ren}
def ItAt (w w' : World) (s : ByteArray) (pos : Nat) : Prop := Below w.heap.size w w' ∧ w'.heap[w.heap.size]? = some (.stringIter s pos)
def Qv (w' : World) (a : Nat) (s : ByteArray) (pos : Nat) : World := { w' with heap := w'.heap.setIfInBounds a (.stringIter s pos) }
theorem Zl (w : World) (s : ByteArray) (pos : Nat) : ItAt w (w.iter s pos) s pos := ⟨(Below.refl _ w).alloc (zak _) _, World.iter_heap w s pos⟩
theorem ItAt.lt {w w' : World} {s : ByteArray} {pos : Nat} (h : ItAt w w' s pos) : w.heap.size < w'.heap.size := by
 have := h.2
 simp only [zaG] at this
 exact this.1
theorem ItAt.set {w w' : World} {s : ByteArray} {pos : Nat} (h : ItAt w w' s pos) (pos' : Nat) : ItAt w (Qv w' w.heap.size s pos') s pos' := by
 refine ⟨h.1.trans ⟨rfl, rfl, rfl, by simp [Qv], fun k hk => ?_⟩, ?_⟩
 ·simp only [Qv]
  rw [zb0 (by omega)]
 ·simp only [Qv]
  rw [Array.getElem?_setIfInBounds_self_of_lt h.lt]
theorem ItAt.below {w w1 w2 : World} {s : ByteArray} {pos : Nat} (h : ItAt w w1 s pos) (hb : Below w1.heap.size w1 w2) : ItAt w w2 s pos :=
 ⟨h.1.trans (hb.mono h.1.size), by rw [hb.block _ h.lt]; exact h.2⟩
theorem Agh {w w' : World} {s : ByteArray} {pos : Nat} (h : ItAt w w' s pos) (hp : pos < s.size) (ty : TypeId) :
  (Instr.next (.pointer (some ⟨w.heap.size, 0, none⟩)) true ty).run P w' = .ok (.tuple #[.bool true, .int .i64 pos, .int .i32 (Utf8.decode s pos).1]) (Qv w' w.heap.size s (pos + (Utf8.decode s pos).2)) := by
 simp only [Instr.next, getObj, setObj, Sem.run_bind, Sem.run, h.2, Result.andThen, hp, if_true]
 simp [goInt, Qv]
theorem Ae3 {w w' : World} {s : ByteArray} {pos : Nat} (h : ItAt w w' s pos) (hp : ¬ pos < s.size) (ty : TypeId) :
  (Instr.next (.pointer (some ⟨w.heap.size, 0, none⟩)) true ty).run P w' = .ok (.tuple #[.bool false]) w' := by
 simp [Instr.next, getObj, Sem.run, h.2, hp]
theorem Agu (s : ByteArray) (pos : Nat) : (Utf8.decode s pos).1 < 55296 ∨ (57343 < (Utf8.decode s pos).1 ∧ (Utf8.decode s pos).1 ≤ 1114111) := by
 rw [← Lib.decodeL_drop, Lib.decodeL_N]
 exact Lib.decodeN_valid _ _ _ _ _ (UInt8.toNat_lt _)
theorem Ago : phB.size = 2 := rfl
set_option maxHeartbeats 8000000 in
set_option maxRecDepth 1000000 in
theorem AeE (L : Lays.n152 P ρ) (r : Nat) (rs : ByteArray) (w : World) (h1 : 128 ≤ r) (hv : r < 55296 ∨ (57343 < r ∧ r ≤ 1114111)) (he : ¬ r = 65533) (hcv : ∀ w, (convert (ρ.t 21) (ρ.t 9) (.int .i32 r)).run P w = .ok (.string rs) w)
  (hs2 : 2 ≤ rs.size) (hs4 : rs.size ≤ 4) (hsl : rs.size = 2 → ∀ h : 1 < rs.size, 128 ≤ (rs[1]'h).toNat) :
  Calls P (ρ.f 152) #[.string phB, .int .i32 r] w fun e w' => e = .returned (.int .i64 (-1)) ∧ Below w.heap.size w w' := by
 have cV : ∀ w, Calls P (ρ.f 119) #[.int .i32 r] w _ := fun w => Any.utf8_ValidRune { L with } r w
 have cI : ∀ s c w, Calls P (ρ.f 137) #[.string s, .int .u8 c] w _ := fun s c w => Any.strings_IndexByte { L with } s c w
 have mixed := L.mixed
 have t3 := L.t3; have a3 := L.a3; have z3 := L.z3; have v3 := L.v3
 have t4 := L.t4; have a4 := L.a4; have z4 := L.z4; have v4 := L.v4
 have t5 := L.t5; have a5 := L.a5; have z5 := L.z5; have v5 := L.v5
 have t9 := L.t9; have a9 := L.a9; have z9 := L.z9; have v9 := L.v9
 have t21 := L.t21; have a21 := L.a21; have z21 := L.z21; have v21 := L.v21
 have e137 : ∀ args w, (callFunc (ρ.f 137) args).run P w = .ok (.enter (ρ.f 137) args) w := enters_of L.f137 (by kernel_rfl) rfl
 have e119 : ∀ args w, (callFunc (ρ.f 119) args).run P w = .ok (.enter (ρ.f 119) args) w := enters_of L.f119 (by kernel_rfl) rfl
 have hge : decide ((0 : Int) ≤ (r : Int)) = true := by simp
 have hlt : decide ((r : Int) < 128) = false := by simp; omega
 have bel : ∀ pos, Below w.heap.size w (w.iter phB pos) := fun pos => (Below.refl _ w).alloc (zak _) _
 have hne : ((r : Int) == 65533) = false := by simp; omega
 have hvr : Lib.validRune (r : Int) = true := by simp [Lib.validRune]; omega
 go_enter L.f152, Body.n152_ntmps ρ
 go_wp2_with (first
  | (go_at_fn (ρ.f 119); refine (cV _).mono ?_; rintro e w' ⟨rfl, hw⟩; rw [hw, hvr])
  | (go_at_fn (ρ.f 137); refine (cI _ _ _).mono ?_; rintro e w' ⟨rfl, hw⟩; rw [hw]))
 go_step3
 go_wp2
 go_loopg [9, 10] 1 (fun g i fl wx => g = 1 ∧ i = .int .i64 ((rs.size : Int) - 1) ∧ fl = .int .i64 0 ∧ wx = w)
 case atStart => exact ⟨rfl, rfl, rfl, rfl⟩
 case round =>
  obtain ⟨-, rfl, rfl, rfl⟩ := hrel
  by_cases h3 : 3 ≤ rs.size
  ·have hlt : decide ((rs.size : Int) - 1 < (phB.size : Int)) = false := by rw [Ago]; simp; omega
   go_wp2
   try rw [Exit.noGoto_ret]
   go_ret
   exact ⟨rfl, Below.refl _ _⟩
  ·have h2 : rs.size = 2 := by omega
   have hi1 : ((rs.size : Int) - 1) = 1 := by omega
   have hi : 1 < rs.size := by omega
   have hp : 1 < phB.size := by decide
   obtain ⟨x, hx⟩ : ∃ x : UInt8, rs[1]'hi = x := ⟨_, rfl⟩
   have hx128 : 128 ≤ x.toNat := by
    rw [← hx]
    exact hsl h2 hi
   have hp1 : phB[1]'hp = 35 := rfl
   have hlt : decide ((1 : Int) < (phB.size : Int)) = true := rfl
   have hne35 : (((35 : UInt8).toNat : Int) != (x.toNat : Int)) = true := by simp; omega
   have hib : Lib.indexByte (List.take (phB.size - 2) (List.drop 2 phB.data.toList)) x = -1 := rfl
   rw [hi1]
   clear hsl hs2 hs4
   go_wp2
   go_step3
   go_wp2
   go_region_o
   all_goals
    go_wp2
    go_region_with_o (go_at_fn (ρ.f 137); refine (cI _ _ _).mono ?_; rintro e w' ⟨rfl, hw⟩; rw [hw])
   all_goals
    go_wp2
    simp only [Exit.inBlock, Exit.then, Exit.noGoto]
    go_ret
    exact ⟨rfl, (Below.refl _ _).drew.drew⟩
set_option maxHeartbeats 8000000 in
set_option maxRecDepth 1000000 in
theorem Agv (L : Lays.n152 P ρ) (r : Nat) (w : World) (h1 : 128 ≤ r) (hv : r < 55296 ∨ (57343 < r ∧ r ≤ 1114111)) :
  Calls P (ρ.f 152) #[.string phB, .int .i32 r] w fun e w' => e = .returned (.int .i64 (-1)) ∧ Below w.heap.size w w' := by
 have cV : ∀ w, Calls P (ρ.f 119) #[.int .i32 r] w _ := fun w => Any.utf8_ValidRune { L with } r w
 have cI : ∀ s c w, Calls P (ρ.f 137) #[.string s, .int .u8 c] w _ := fun s c w => Any.strings_IndexByte { L with } s c w
 have t3 := L.t3; have a3 := L.a3; have z3 := L.z3; have v3 := L.v3
 have t4 := L.t4; have a4 := L.a4; have z4 := L.z4; have v4 := L.v4
 have t5 := L.t5; have a5 := L.a5; have z5 := L.z5; have v5 := L.v5
 have t9 := L.t9; have a9 := L.a9; have z9 := L.z9; have v9 := L.v9
 have t21 := L.t21; have a21 := L.a21; have z21 := L.z21; have v21 := L.v21
 have e137 : ∀ args w, (callFunc (ρ.f 137) args).run P w = .ok (.enter (ρ.f 137) args) w := enters_of L.f137 (by kernel_rfl) rfl
 have e119 : ∀ args w, (callFunc (ρ.f 119) args).run P w = .ok (.enter (ρ.f 119) args) w := enters_of L.f119 (by kernel_rfl) rfl
 have hge : decide ((0 : Int) ≤ (r : Int)) = true := by simp
 have hlt : decide ((r : Int) < 128) = false := by simp; omega
 have bel : ∀ pos, Below w.heap.size w (w.iter phB pos) := fun pos => (Below.refl _ w).alloc (zak _) _
 by_cases he : r = 65533
 ·subst he
  go_enter L.f152, Body.n152_ntmps ρ
  go_wp2
  go_loopg [5, 6] 2 (fun g _ _ wx => ∃ i : Nat, i + g = 2 ∧ wx = w.iter phB i)
  case atStart => exact ⟨0, by omega, rfl⟩
  case round =>
   obtain ⟨i, hig, rfl⟩ := hrel
   cases gk with
   | zero =>
    obtain rfl : i = 2 := by omega
    have hnx := fun ty => run_next_end (P := P) w phB 2 ty (by decide)
    go_wp2
    go_ret
    exact ⟨rfl, bel _⟩
   | succ g =>
    have hi : i < phB.size := by
     show i < 2
     omega
    have hx : (phB[i]'hi).toNat < 64 := by
     have : ∀ q : Fin 2, (phB[q.val]'q.isLt).toNat < 64 := by decide
     exact this ⟨i, hi⟩
    have hnx := fun ty => run_next_ascii (P := P) w phB i ty hi (by omega)
    generalize (phB[i]'hi).toNat = x at hnx hx
    have hxe : ((x : Int) == 65533) = false := by simp; omega
    go_wp2
    go_roundg g
    case measure => omega
    case rel => exact ⟨i + 1, by omega, rfl⟩
 ·obtain ⟨hs2, hs4, hsl⟩ := encode_facts (r : Int) (by simp [Utf8.valid]; omega) (by omega)
  refine AeE L r (Utf8.encode r) w h1 hv he (fun w => run_convert_int_string w _ _ _ _ (by rw [t21]; rfl) t9) hs2 hs4 ?_
  intro h2 hi
  have := hsl (by omega)
  simp only [h2] at this
  exact this
theorem Ahm (l : List UInt8) (h : 128 ≤ (l.getD 0 0).toNat) : 128 ≤ (Lib.decodeL l).1 ∧ ∀ j, j < (Lib.decodeL l).2 → 128 ≤ (l.getD j 0).toNat := by
 rw [Lib.decodeL_N]
 generalize hn : l.length = n
 generalize h0 : (l.getD 0 0).toNat = b0 at h ⊢
 generalize h1 : (l.getD 1 0).toNat = b1
 generalize h2 : (l.getD 2 0).toNat = b2
 generalize h3 : (l.getD 3 0).toNat = b3
 have key : ∀ q, q ≤ 4 → (q = 2 → 128 ≤ b1) → (q = 3 → 128 ≤ b1 ∧ 128 ≤ b2) → (q = 4 → 128 ≤ b1 ∧ 128 ≤ b2 ∧ 128 ≤ b3) → ∀ j, j < q → 128 ≤ (l.getD j 0).toNat := by
  intro q hq k2 k3 k4 j hj
  have : j = 0 ∨ j = 1 ∨ j = 2 ∨ j = 3 := by omega
  rcases this with rfl | rfl | rfl | rfl
  ·rw [h0]; exact h
  ·rw [h1]; omega
  ·rw [h2]; omega
  ·rw [h3]; omega
 unfold Lib.decodeN
 rw [if_neg (by omega)]
 repeat' split
 all_goals
  refine ⟨?_, key _ ?_ ?_ ?_ ?_⟩ <;> simp only <;> omega
def phL (l : List UInt8) : Bool := l.any fun c => c == 43 || c == 35
theorem Xo : ∀ (k : Nat) (l : List UInt8), (∀ j, j < k → 128 ≤ (l.getD j 0).toNat) → phL l = phL (l.drop k)
 | 0, l, _ => rfl
 | k + 1, [], _ => by simp
 | k + 1, b :: l, h => by
  have h0 : 128 ≤ b.toNat := h 0 (by omega)
  have ih := Xo k l fun j hj => h (j + 1) (by omega)
  have e1 : (b == 43) = false := by
   rw [beq_eq_false_iff_ne]
   rintro rfl
   simp at h0
  have e2 : (b == 35) = false := by
   rw [beq_eq_false_iff_ne]
   rintro rfl
   simp at h0
  show (List.any (b :: l) _) = _
  rw [zbg, e1, e2, Bool.or_self, zbq, List.drop_succ_cons]
  exact ih
theorem AeB (l : List UInt8) (hne : l ≠ []) : phL l = (((Lib.decodeL l).1 == 43 || (Lib.decodeL l).1 == 35) || phL (l.drop (Lib.decodeL l).2)) := by
 cases l with
 | nil => exact absurd rfl hne
 | cons b l =>
  by_cases hb : 128 ≤ b.toNat
  ·obtain ⟨h1, h2⟩ := Ahm (b :: l) hb
   have e1 : ((Lib.decodeL (b :: l)).1 == 43) = false := by simp; omega
   have e2 : ((Lib.decodeL (b :: l)).1 == 35) = false := by simp; omega
   rw [e1, e2, Bool.or_self, zbq]
   exact Xo _ _ h2
  ·have e : Lib.decodeL (b :: l) = (b.toNat, 1) := by
    rw [Lib.decodeL_N]
    unfold Lib.decodeN
    rw [if_pos (by simpa using hb)]
    rfl
   rw [e]
   show List.any (b :: l) _ = _
   rw [zbg, List.drop_succ_cons, zaA]
   have e1 : (b == 43) = (b.toNat == 43) := by
    rw [zbi, beq_iff_eq, beq_iff_eq, ← UInt8.toNat_inj]; rfl
   have e2 : (b == 35) = (b.toNat == 35) := by
    rw [zbi, beq_iff_eq, beq_iff_eq, ← UInt8.toNat_inj]; rfl
   rw [e1, e2]
   rfl
theorem AaM (s : ByteArray) : phL s.data.toList = vPH s := Yh _ _ _
theorem AeZ (r : Nat) (h : r < 128) : decide (0 ≤ Lib.indexByte phB.data.toList r.toUInt8) = (r == 43 || r == 35) := by
 have : ∀ q : Fin 128, decide (0 ≤ Lib.indexByte phB.data.toList (q.val).toUInt8) = (q.val == 43 || q.val == 35) := by decide
 exact this ⟨r, h⟩
set_option maxHeartbeats 8000000 in
set_option maxRecDepth 1000000 in
theorem AeG (L : Lays.n153 P ρ) (s : ByteArray) (w : World) (h8 : s.size ≤ 8) :
  Calls P (ρ.f 153) #[.string s, .string phB] w fun e w' => (∃ z : Int, e = .returned (.int .i64 z) ∧ decide (0 ≤ z) = phL s.data.toList) ∧ Below w.heap.size w w' := by
 have cA : ∀ (r : Nat) w, r < 128 → ∃ z : Int, decide (0 ≤ z) = (r == 43 || r == 35) ∧ Calls P (ρ.f 152) #[.string phB, .int .i32 r] w fun e w' => e = .returned (.int .i64 z) ∧ w' = w := fun r w h => ⟨_, AeZ r h, Any.strings_IndexRune_ascii { L with } phB r w (by omega) (by omega)⟩
 have cR : ∀ (r : Nat) w, 128 ≤ r → r < 55296 ∨ (57343 < r ∧ r ≤ 1114111) → Calls P (ρ.f 152) #[.string phB, .int .i32 r] w _ := fun r w h h' => Agv { L with } r w h h'
 have hemp : phB.toList.isEmpty = false := by rw [Lib.toList_data]; rfl
 have hn1 : ((phB.size : Int) == 1) = false := rfl
 have h8z : decide ((8 : Int) < (s.size : Int)) = false := decide_eq_false (by omega)
 have t3 := L.t3; have a3 := L.a3; have z3 := L.z3; have v3 := L.v3
 have t4 := L.t4; have a4 := L.a4; have z4 := L.z4; have v4 := L.v4
 have t5 := L.t5; have a5 := L.a5; have z5 := L.z5; have v5 := L.v5
 have t9 := L.t9; have a9 := L.a9; have z9 := L.z9; have v9 := L.v9
 have t21 := L.t21; have a21 := L.a21; have z21 := L.z21; have v21 := L.v21
 have e152 : ∀ args w, (callFunc (ρ.f 152) args).run P w = .ok (.enter (ρ.f 152) args) w := enters_of L.f152 (by kernel_rfl) rfl
 have e226 : ∀ args w, (callFunc (ρ.f 226) args).run P w = .ok (.enter (ρ.f 226) args) w := enters_of L.f226 (by kernel_rfl) rfl
 go_enter L.f153, Body.n153_ntmps ρ
 go_wp2_with (go_at_fn (ρ.f 226); refine (Any.strings_shouldUseASCIISet { L with } _ _).mono ?_; rintro e w' ⟨rfl, hw⟩; rw [hw, h8z])
 go_loopg [9, 10] s.size (fun g _ _ wx => ∃ pos : Nat, s.size ≤ pos + g ∧ ItAt w wx s pos ∧ phL (s.data.toList.drop pos) = phL s.data.toList)
 case atStart => exact ⟨0, by omega, Zl w s 0, by simp⟩
 case round =>
  obtain ⟨pos, hpg, hit, hph⟩ := hrel
  have HIT : Aside (ItAt w wr s pos) := hit
  have HPH : Aside (phL (s.data.toList.drop pos) = phL s.data.toList) := hph
  by_cases hp : pos < s.size
  ·obtain ⟨g, rfl⟩ : ∃ g, gk = g + 1 := ⟨gk - 1, by omega⟩
   have hnx := fun ty => Agh (P := P) hit hp ty
   have hne : s.data.toList.drop pos ≠ [] := by
    intro h
    have := congrArg List.length h
    simp at this
    omega
   have hst := AeB _ hne
   rw [Lib.decodeL_drop, hph, zaV] at hst
   have hwd : 1 ≤ (Utf8.decode s pos).2 := by rw [← Lib.decodeL_drop s pos]; exact Lib.decodeL_width _
   have hru := Agu s pos
   have HIT2 : Aside (ItAt w (Qv wr w.heap.size s (pos + (Utf8.decode s pos).2)) s (pos + (Utf8.decode s pos).2)) := hit.set _
   clear hit hph
   generalize hr : (Utf8.decode s pos).1 = r at hnx hst hru
   have HST : Aside (phL s.data.toList = ((r == 43 || r == 35) || phL (s.data.toList.drop (pos + (Utf8.decode s pos).2)))) := hst
   clear hst
   by_cases h128 : r < 128
   ·obtain ⟨z, hz, cz⟩ := cA r (Qv wr w.heap.size s (pos + (Utf8.decode s pos).2)) h128
    clear cA
    cases hin : (r == 43 || r == 35)
    ·rw [hin] at hz
     have hlt : ¬ ((0 : Int) ≤ z) := of_decide_eq_false hz
     clear hz
     go_wp2_with (go_at_fn (ρ.f 152); refine cz.mono ?_; rintro e w' ⟨rfl, hw⟩; rw [hw])
     go_roundg g
     case measure => omega
     case rel => exact ⟨_, by omega, HIT2.out, by rw [HST.out, hin, zbq]⟩
    ·rw [hin] at hz
     have hge : (0 : Int) ≤ z := of_decide_eq_true hz
     clear hz
     go_wp2_with (go_at_fn (ρ.f 152); refine cz.mono ?_; rintro e w' ⟨rfl, hw⟩; rw [hw])
     go_ret
     exact ⟨⟨_, rfl, by rw [HST.out, hin, Bool.true_or]; simp⟩, HIT2.out.1⟩
   ·have hin : (r == 43 || r == 35) = false := by simp; omega
    go_wp2_with (go_at_fn (ρ.f 152); refine (cR r _ (by omega) hru).mono ?_; rintro e w' ⟨rfl, hw⟩)
    go_roundg g
    case measure => omega
    case rel => exact ⟨_, by omega, HIT2.out.below hw, by rw [HST.out, hin, zbq]⟩
  ·have hnx := fun ty => Ae3 (P := P) hit hp ty
   have hnil : s.data.toList.drop pos = [] := by
    apply zbe
    simp
    omega
   rw [hnil] at hph
   go_wp2
   go_ret
   exact ⟨⟨_, rfl, by rw [← hph]; rfl⟩, HIT.out.1⟩
theorem Aet (L : Lays.n153 P ρ) (hv116 : ∀ w, (zeroValue (ρ.t 116)).run P w = .ok (.agg (zbz 256 (.bool false))) w) (hi116 : (P.info? (ρ.t 116)).map (·.size) = some 256) (s : ByteArray) (w : World) (hs : s.size < 4294967281) :
  Calls P (ρ.f 153) #[.string s, .string phB] w fun e w' => (∃ z : Int, e = .returned (.int .i64 z) ∧ decide (0 ≤ z) = phL s.data.toList) ∧ Below w.heap.size w w' := by
 by_cases h8 : s.size ≤ 8
 ·exact AeG L s w h8
 ·refine (Any.strings_IndexAny_long L hv116 hi116 s phB w (by decide) (by omega) hs (by decide) ?_).mono fun e w' ⟨h1, h2⟩ => ⟨⟨_, h1, ?_⟩, ?_⟩
  ·intro j b hb
   have : phB.data.toList = [43, 35] := rfl
   rw [this] at hb
   match j, hb with
   | 0, hb => cases hb; decide
   | 1, hb => cases hb; decide
  ·have := Aig s
   rw [AaM, ← this]
   rfl
  ·rw [h2]
   exact ((Below.refl _ _).alloc (zak _) _).alloc (by simp) _
set_option maxHeartbeats 1000000 in
theorem Wj (L : Lays.n150 P ρ) (hv116 : ∀ w, (zeroValue (ρ.t 116)).run P w = .ok (.agg (zbz 256 (.bool false))) w) (hi116 : (P.info? (ρ.t 116)).map (·.size) = some 256) (s : ByteArray) (w : World) (hs : s.size < 4294967281) :
  Calls P (ρ.f 150) #[.string s, .string phB] w fun e w' => e = .returned (.bool (vPH s)) ∧ Below w.heap.size w w' := by
 have c := Aet { L with } hv116 hi116 s w hs
 have t3 := L.t3; have a3 := L.a3; have z3 := L.z3; have v3 := L.v3
 have t4 := L.t4; have a4 := L.a4; have z4 := L.z4; have v4 := L.v4
 have t9 := L.t9; have a9 := L.a9; have z9 := L.z9; have v9 := L.v9
 have e153 : ∀ args w, (callFunc (ρ.f 153) args).run P w = .ok (.enter (ρ.f 153) args) w := enters_of L.f153 (by kernel_rfl) rfl
 go_enter L.f150, Body.n150_ntmps ρ
 go_wp2_with (go_at_fn (ρ.f 153); refine c.mono ?_; rintro e w' ⟨⟨z, rfl, hz⟩, hw⟩)
 go_ret
 refine ⟨?_, hw⟩
 rw [← AaM, ← hz]
 rfl
end
end Go.Proofs.YtdofipeaomgbbaaGreatDoor.Abs
