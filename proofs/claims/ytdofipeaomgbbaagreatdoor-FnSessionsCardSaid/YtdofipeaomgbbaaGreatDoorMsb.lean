/- What the proof needs, part 2: a sound evaluator over trees, the program's functions on it, and what they come to. -/
import Derived.Test.YtdofipeaomgbbaaGreatDoorMsa
import Derived.Lib.SplitLaws
import Derived.Lib.IndexAny
import Derived.Lib.ValidLaws
import Derived.Test.YtdofipeaomgbbaaGreatDoorProg
import Derived.KernelRfl
import Derived.Shelf.Strings.IndexAnyAll
import Derived.Shelf.Small.Utf8
import Derived.Lib.TrimUEq
import Derived.Lib.QuoteLoop
import Derived.Laws.RangeAny
import Derived.Laws.Runes
import Derived.WalkKit
import Derived.WalkMore
import Derived.Below
import Derived.LoopTactic
import Derived.Shelf.RegionOpenPlain
set_option linter.unusedVariables false
set_option linter.unusedSimpArgs false
namespace Go.Proofs.YtdofipeaomgbbaaGreatDoor.Abs
open _root_.List renaming length_singleton → zal, map_cons → za0, drop_zero → za7, range' → zaV, drop_of_length_le → zaW, drop_drop → zbb, any_cons → zbt, map_map → zbH
open _root_.Nat renaming le_refl → zai, add_zero → zaZ, beq → zb4, add_comm → zbD
open _root_.Bool renaming false_eq_true → zan, eq_iff_iff → zaM, false_or → zbp
open _root_.Array renaming getElem?_eq_some_iff → zaE, replicate → zby, getElem?_setIfInBounds_ne → zbz
section
open Go
def lvL : List UInt8 → List UInt8 → List (List UInt8)
 | cur, [] => [cur]
 | cur, b :: l => if b = 47 then cur :: lvL [] l else lvL (cur ++ [b]) l
def ofL (l : List UInt8) : ByteArray := ⟨l.toArray⟩
def Ed (s : ByteArray) : List ByteArray := (lvL [] s.data.toList).map ofL
def O0 (s : ByteArray) (b : UInt8) : Bool := s.data.toList.any fun c => c == b
def vPH (s : ByteArray) : Bool := O0 s 43 || O0 s 35
def Sj : ByteArray := ⟨#[47]⟩
def phB : ByteArray := ⟨#[43, 35]⟩
def L0 (c : List UInt8) : List (List UInt8) → List (List UInt8)
 | [] => [c]
 | h :: t => (c ++ h) :: t
theorem Tj {X : List (List UInt8)} (h : X ≠ []) : L0 [] X = X := by
 cases X with
 | nil => exact absurd rfl h
 | cons h t => rfl
theorem V7 (a b : List UInt8) {X : List (List UInt8)} (h : X ≠ []) : L0 a (L0 b X) = L0 (a ++ b) X := by
 cases X with
 | nil => exact absurd rfl h
 | cons h t => simp [L0]
theorem Pv (sep : List UInt8) (k : Nat) (l : List UInt8) : Lib.splitK sep 0 k l ≠ [] := by
 cases k with
 | zero => simp [Lib.splitK]
 | succ k =>
  unfold Lib.splitK
  split <;> simp
theorem AdT (l : List UInt8) : Lib.index (47 :: l) [47] = 0 := by
 unfold Lib.index
 simp
theorem AdU (b : UInt8) (l : List UInt8) (h : b ≠ 47) : Lib.index (b :: l) [47] = if Lib.index l [47] == -1 then -1 else Lib.index l [47] + 1 := by
 rw [Lib.index]
 rw [if_neg]
 simpa using fun h' => h h'.symm
theorem Su (b : UInt8) (h : b ≠ 47) (k : Nat) (l : List UInt8) : Lib.splitK [47] 0 k (b :: l) = L0 [b] (Lib.splitK [47] 0 k l) := by
 cases k with
 | zero => rfl
 | succ k =>
  have hge := Lib.index_ge l [47]
  unfold Lib.splitK
  rw [AdU b l h]
  by_cases hi : Lib.index l [47] = -1
  ·simp [hi, L0]
  ·have e1 : (Lib.index l [47] == -1) = false := by simpa using hi
   have e2 : (Lib.index l [47] + 1 == -1) = false := by simp; omega
   have e3 : (Lib.index l [47] + 1).toNat = (Lib.index l [47]).toNat + 1 := by omega
   simp only [e1, e2, e3, zan, if_false, L0, zaZ, zal]
   rw [show (Lib.index l [47]).toNat + 1 + 1 = ((Lib.index l [47]).toNat + 1) + 1 from rfl, List.drop_succ_cons, List.take_succ_cons]
   rfl
theorem Pi : ∀ (l cur : List UInt8), lvL cur l = L0 cur (Lib.splitK [47] 0 (Lib.count l [47]) l)
 | [], cur => by
  have e : Lib.count [] [47] = 0 := by rw [Lib.count_one]; rfl
  rw [e]
  simp [lvL, Lib.splitK, L0]
 | b :: l, cur => by
  rw [lvL]
  by_cases h : b = 47
  ·subst h
   rw [if_pos rfl, Pi l [], Lib.count_cons_eq, zbD, Lib.splitK, AdT]
   rw [Tj (Pv _ _ _)]
   simp [L0]
  ·rw [if_neg h, Pi l (cur ++ [b]), Lib.count_cons_ne _ _ _ h, Su b h, V7 _ _ (Pv _ _ _)]
theorem Wt (s : ByteArray) : ofL s.data.toList = s := by
 cases s
 rfl
theorem AfV (l : List ByteArray) : (l.map (·.data.toList)).map ofL = l := by
 rw [zbH]
 conv => rhs; rw [← List.map_id l]
 exact List.map_congr_left fun s _ => Wt s
theorem Ow (s : ByteArray) : Lib.splitB Sj 0 (Lib.countB s Sj) s = Ed s := by
 have h := Lib.splitB_data Sj 0 (Lib.countB s Sj) s
 rw [← AfV (Lib.splitB Sj 0 (Lib.countB s Sj) s), h, Ed, Pi, Tj (Pv _ _ _)]
 rfl
theorem Za (s : ByteArray) : (Ed s).length = Lib.countB s Sj + 1 := by
 rw [← Ow]
 exact Lib.splitB_all Sj (zai _) 0 _ s rfl
theorem N8 (chars : List UInt8) : ∀ l : List UInt8, decide (0 ≤ Lib.indexAny l chars) = l.any fun c => chars.contains c
 | [] => rfl
 | b :: l => by
  have ih := N8 chars l
  have hge := Lib.indexAny_ge chars l
  rw [Lib.indexAny, zbt, ← ih]
  by_cases h : chars.contains b = true
  ·rw [if_pos h, h]
   simp
  ·rw [if_neg h]
   have h' : chars.contains b = false := by simpa using h
   rw [h', zbp]
   by_cases hi : Lib.indexAny l chars = -1
   ·rw [hi]
    rfl
   ·rw [if_neg (by simpa using hi)]
    congr 1
    simp
    omega
theorem Xw {α : Type} (p q : α → Bool) : ∀ l : List α, (l.any fun c => p c || q c) = (l.any p || l.any q)
 | [] => rfl
 | x :: l => by
  rw [zbt, zbt, zbt, Xw p q l]
  cases p x <;> cases q x <;> simp
theorem Ail (s : ByteArray) : Lib.containsAny s.data.toList phB.data.toList = vPH s := by
 unfold Lib.containsAny vPH O0
 rw [N8, ← Xw]
 congr 1
 funext c
 simp [phB]
 rfl
end
section
open Go
def Mk : Nat → List UInt8 → Bool
 | 0, _ => true
 | n + 1, l => if l = [] then true else if (Lib.decodeL l).1 = 65533 ∧ (Lib.decodeL l).2 = 1 then false else if (Lib.decodeL l).1 = 0 then false else Mk n (l.drop (Lib.decodeL l).2)
def D9 (s : ByteArray) : Bool := decide (s.size ≤ 60) && Mk s.size s.data.toList
def Z8 (ty : Nat) (vs : List AV) : Option AV :=
 match vs with
 | [.sc (.string s)] => if s.size ≤ maxLen then some (.sc (.bool (D9 s))) else none
 | _ => none
def Wc (ty : Nat) (vs : List AV) : Option AV :=
 match vs with
 | [.sc (.string s), .sc (.string c)] => if c.data.toList = [43, 35] ∧ s.size < 4294967281 then some (.sc (.bool (vPH s))) else none
 | _ => none
def Pb (ty : Nat) (vs : List AV) : Option AV :=
 match vs with
 | [.sc (.string s), .sc (.string c)] => if ty = 38 ∧ c.data.toList = [47] ∧ s.size < 4294967281 then some (.ro (Ed s).length ((Ed s).map fun x => .sc (.string x))) else none
 | _ => none
end
end Go.Proofs.YtdofipeaomgbbaaGreatDoor.Abs
set_option maxRecDepth 100000
namespace Go.Proofs.YtdofipeaomgbbaaGreatDoor.Abs
open _root_.List renaming length_singleton → zal, map_cons → za0, drop_zero → za7, range' → zaV, drop_of_length_le → zaW, drop_drop → zbb, any_cons → zbt, map_map → zbH
open _root_.Nat renaming le_refl → zai, add_zero → zaZ, beq → zb4, add_comm → zbD
open _root_.Bool renaming false_eq_true → zan, eq_iff_iff → zaM, false_or → zbp
open _root_.Array renaming getElem?_eq_some_iff → zaE, replicate → zby, getElem?_setIfInBounds_ne → zbz
section
open Go
variable {β : Type} (p : Pr β)
noncomputable def tis : List (Option TI) := [none,
 none,
 some ⟨false, false, 1, 8, [(.int .i64 0)], 0, [], some .i64, false, false, [2], false⟩,
 some ⟨false, false, 1, 8, [(.int .i64 0)], 0, [], some .i64, false, false, [3], false⟩,
 some ⟨false, false, 1, 1, [(.bool false)], 0, [], none, false, true, [4], false⟩,
 some ⟨false, false, 1, 1, [(.int .u8 0)], 0, [], some .u8, false, false, [5], false⟩,
 some ⟨false, false, 1, 1, [(.int .u8 0)], 0, [], some .u8, false, false, [6], false⟩,
 none,
 none,
 some ⟨false, false, 1, 16, [(.string ⟨#[]⟩)], 0, [], none, true, false, [9], false⟩,
 some ⟨false, false, 1, 16, [(.string ⟨#[]⟩)], 0, [], none, true, false, [10], false⟩,
 some ⟨false, false, 1, 16, [(.string ⟨#[]⟩)], 0, [], none, true, false, [11], false⟩,
 some ⟨false, false, 1, 8, [(.int .u64 0)], 0, [], some .u64, false, false, [12], false⟩,
 none,
 none,
 none,
 none,
 none,
 none,
 none,
 none,
 some ⟨false, false, 1, 4, [(.int .i32 0)], 0, [], some .i32, false, false, [21], false⟩,
 some ⟨false, true, 1, 24, [(.slice none 0 0)], 5, [], none, false, false, [22], false⟩,
 none,
 some ⟨false, true, 1, 24, [(.slice none 0 0)], 35, [], none, false, false, [24], false⟩,
 some ⟨false, true, 1, 24, [(.slice none 0 0)], 33, [], none, false, false, [25], false⟩,
 none,
 some ⟨true, false, 3, 56, [(.int .i64 0), (.slice none 0 0), (.slice none 0 0)], 0, [(0, 3), (1, 24), (2, 25)], none, false, false, [3, 24, 25], false⟩,
 none,
 some ⟨false, true, 1, 24, [(.slice none 0 0)], 41, [], none, false, false, [29], false⟩,
 none,
 none,
 none,
 some ⟨true, false, 4, 56, [(.string ⟨#[]⟩), (.slice none 0 0), (.int .i64 0), (.bool false)], 0, [(0, 9), (1, 22), (2, 3), (3, 4)], none, false, false, [9, 22, 3, 4], false⟩,
 none,
 some ⟨true, false, 6, 72, [(.int .i64 0), (.string ⟨#[]⟩), (.slice none 0 0), (.int .i64 0), (.bool false), (.int .i64 0)], 0, [(0, 3), (1, 33), (5, 3)], none, false, false, [3, 9, 22, 3, 4, 3], false⟩,
 none,
 some ⟨false, true, 1, 24, [(.slice none 0 0)], 94, [], none, false, false, [37], false⟩,
 some ⟨false, true, 1, 24, [(.slice none 0 0)], 9, [], none, false, false, [38], false⟩,
 some ⟨false, true, 1, 24, [(.slice none 0 0)], 3, [], none, false, false, [39], false⟩,
 none,
 some ⟨true, false, 25, 320, [(.int .i64 0), (.bool false), (.int .i64 0), (.bool false), (.int .i64 0), (.string ⟨#[]⟩), (.slice none 0 0), (.string ⟨#[]⟩), (.int .i64 0), (.bool false), (.int .i64 0), (.bool false), (.string ⟨#[]⟩), (.slice none 0 0), (.int .i64 0), (.bool false), (.bool false), (.string ⟨#[]⟩), (.bool false), (.slice none 0 0), (.int .i64 0), (.bool false), (.slice none 0 0), (.slice none 0 0), (.slice none 0 0)], 0, [(0, 3), (1, 4), (2, 3), (3, 4), (4, 3), (5, 9), (6, 22), (7, 9), (8, 3), (9, 4), (10, 3), (11, 4), (12, 9), (13, 22), (14, 3), (15, 4), (16, 4), (17, 9), (18, 4), (19, 22), (20, 3), (21, 4), (22, 37), (23, 38), (24, 39)], none, false, false, [3, 4, 3, 4, 3, 9, 22, 9, 3, 4, 3, 4, 9, 22, 3, 4, 4, 9, 4, 22, 3, 4, 37, 38, 39], false⟩,
 none,
 none,
 none,
 none,
 none,
 none,
 none,
 none,
 none,
 none,
 none,
 some ⟨true, false, 9, 128, [(.string ⟨#[]⟩), (.int .i64 0), (.bool false), (.int .i64 0), (.int .i64 0), (.int .i64 0), (.slice none 0 0), (.slice none 0 0), (.slice none 0 0)], 0, [(0, 9), (1, 3), (2, 4), (3, 3), (4, 3), (5, 27), (8, 39)], none, false, false, [9, 3, 4, 3, 3, 3, 24, 25, 39], false⟩,
 none,
 none,
 none,
 none,
 none,
 none,
 none,
 none,
 none,
 none,
 none,
 none,
 none,
 none,
 none,
 none,
 none,
 some ⟨false, false, 1, 8, [(.pointer none)], 0, [], none, false, false, [71], false⟩,
 none,
 none,
 none,
 none,
 none,
 none,
 none,
 none,
 none,
 none,
 none,
 none,
 none,
 none,
 none,
 none,
 none,
 none,
 none,
 none,
 none,
 none,
 some ⟨true, false, 2, 24, [(.string ⟨#[]⟩), (.int .i64 0)], 0, [(0, 9), (1, 3)], none, false, false, [9, 3], true⟩,
 none,
 none,
 none,
 none,
 none,
 none,
 none,
 none,
 none,
 none,
 some ⟨true, false, 3, 40, [(.slice none 0 0), (.int .i64 0), (.int .i64 0)], 0, [(0, 22), (1, 3), (2, 3)], none, false, false, [22, 3, 3], false⟩,
 none,
 none,
 none,
 none,
 none,
 none,
 none,
 none,
 none,
 none,
 none,
 none,
 none,
 none,
 some ⟨false, true, 1, 24, [(.slice none 0 0)], 4, [], none, false, false, [120], false⟩,
 none,
 some ⟨false, true, 1, 24, [(.slice none 0 0)], 22, [], none, false, false, [122], false⟩]
noncomputable def Be (f : Func) : Code := match f.body with | some c => c | none => .skip
noncomputable def c7 : Code := Be Tryz.f7
noncomputable def c40 : Code := Be Tryz.f40
noncomputable def c97 : Code := Be Tryz.f97
noncomputable def c59 : Code := Be Tryz.f59
noncomputable def Akb : Code := Be Tryz.f107
noncomputable def c80 : Code := Be Tryz.f80
noncomputable def c60 : Code := Be Tryz.f60
noncomputable def c50 : Code := Be Tryz.f50
noncomputable def Ahh : Code := Be Tryz.f128
noncomputable def Ahb : Code := Be Tryz.f111
noncomputable def c82 : Code := Be Tryz.f82
noncomputable def Ahe : Code := Be Tryz.f114
noncomputable def Ahf : Code := Be Tryz.f115
noncomputable def c92 : Code := Be Tryz.f92
noncomputable def c51 : Code := Be Tryz.f51
noncomputable def c52 : Code := Be Tryz.f52
noncomputable def c53 : Code := Be Tryz.f53
noncomputable def c11 : Code := Be Tryz.f11
noncomputable def c83 : Code := Be Tryz.f83
noncomputable def c32 : Code := Be Tryz.f32
noncomputable def c33 : Code := Be Tryz.f33
noncomputable def AjX : Code := Be Tryz.f101
noncomputable def AgZ : Code := Be Tryz.f100
noncomputable def c64 : Code := Be Tryz.f64
noncomputable def c75 : Code := Be Tryz.f75
noncomputable def Aki : Code := Be Tryz.f125
noncomputable def c61 : Code := Be Tryz.f61
noncomputable def Akg : Code := Be Tryz.f123
noncomputable def Aha : Code := Be Tryz.f105
noncomputable def AjY : Code := Be Tryz.f103
noncomputable def Ahc : Code := Be Tryz.f112
noncomputable def c39 : Code := Be Tryz.f39
noncomputable def Akj : Code := Be Tryz.f129
noncomputable def Akk : Code := Be Tryz.f130
noncomputable def Ahj : Code := Be Tryz.f139
noncomputable def Ahi : Code := Be Tryz.f131
noncomputable def Ahd : Code := Be Tryz.f113
noncomputable def Ake : Code := Be Tryz.f121
noncomputable def Akl : Code := Be Tryz.f138
noncomputable def Q3 : Code := Be Tryz.f120
noncomputable def Akf : Code := Be Tryz.f122
noncomputable def O8 : Code := Be Tryz.f102
noncomputable def c65 : Code := Be Tryz.f65
noncomputable def c16 : Code := Be Tryz.f16
noncomputable def c68 : Code := Be Tryz.f68
noncomputable def c19 : Code := Be Tryz.f19
noncomputable def c86 : Code := Be Tryz.f86
noncomputable def Ahg : Code := Be Tryz.f126
noncomputable def Aka : Code := Be Tryz.f106
noncomputable def Akh : Code := Be Tryz.f124
noncomputable def AjZ : Code := Be Tryz.f104
noncomputable def c66 : Code := Be Tryz.f66
noncomputable def c87 : Code := Be Tryz.f87
noncomputable def c41 : Code := Be Tryz.f41
noncomputable def Akc : Code := Be Tryz.f108
noncomputable def c73 : Code := Be Tryz.f73
noncomputable def c27 : Code := Be Tryz.f27
noncomputable def c88 : Code := Be Tryz.f88
noncomputable def c99 : Code := Be Tryz.f99
noncomputable def c98 : Code := Be Tryz.f98
noncomputable def c62 : Code := Be Tryz.f62
noncomputable def Akd : Code := Be Tryz.f109
noncomputable def c74 : Code := Be Tryz.f74
noncomputable def c76 : Code := Be Tryz.f76
noncomputable def c47 : Code := Be Tryz.f47
noncomputable def c77 : Code := Be Tryz.f77
noncomputable def c44 : Code := Be Tryz.f44
noncomputable def c90 : Code := Be Tryz.f90
noncomputable def c89 : Code := Be Tryz.f89
noncomputable def c45 : Code := Be Tryz.f45
noncomputable def c95 : Code := Be Tryz.f95
noncomputable def c57 : Code := Be Tryz.f57
noncomputable def c56 : Code := Be Tryz.f56
noncomputable def c46 : Code := Be Tryz.f46
noncomputable def c48 : Code := Be Tryz.f48
noncomputable def c91 : Code := Be Tryz.f91
noncomputable def c49 : Code := Be Tryz.f49
noncomputable def c10 : Code := Be Tryz.f10
noncomputable def c78 : Code := Be Tryz.f78
noncomputable def c24 : Code := Be Tryz.f24
noncomputable def c28 : Code := Be Tryz.f28
noncomputable def c29 : Code := Be Tryz.f29
noncomputable def c81 : Code := Be Tryz.f81
noncomputable def c30 : Code := Be Tryz.f30
noncomputable def c31 : Code := Be Tryz.f31
noncomputable def c34 : Code := Be Tryz.f34
noncomputable def c35 : Code := Be Tryz.f35
noncomputable def c5 : Code := Be Tryz.f5
noncomputable def o97 : List (Nat × PI) := [(2, PI.of [0, 1, 2, 3, 4, 5, 6, 7, 8, 9, 10, 11, 12]), (3, PI.of [0, 1, 2, 3, 4, 5, 6, 7, 8, 9]), (4, PI.of [0, 1, 2, 3, 4, 5, 6, 7, 8, 9, 10, 11, 12, 13, 14])]
noncomputable def o11 : List (Nat × PI) := [(9, PI.of [0, 1, 2, 3, 4, 5, 6, 7, 8, 9, 10, 11, 12])]
noncomputable def o83 : List (Nat × PI) := [(4, PI.of [0, 1, 2, 3, 4, 5, 6, 7, 8, 9, 10, 11, 12, 13, 14, 15, 16, 17, 18, 19, 20, 21])]
noncomputable def Aks : List (Nat × PI) := [(1, PI.of [0, 1, 3, 4, 6, 7, 8, 9, 2, 5, 10, 11])]
noncomputable def o64 : List (Nat × PI) := [(1, .one 0 (.one 1 (.one 2 (.one 3 (.two 4 (PI.of [5, 6, 7]) 6 (PI.of [4, 5, 7])))))), (5, PI.of [0, 1, 2, 3, 4, 5, 6, 7, 8, 9, 10, 11, 12, 13, 15, 16, 17, 18, 19, 20, 14, 21, 22, 23, 24, 25])]
noncomputable def Akt : List (Nat × PI) := [(3, PI.of [0, 1, 3, 4, 5, 2, 6, 7, 8, 9])]
noncomputable def Aku : List (Nat × PI) := [(1, PI.of [0, 1, 2, 3, 4, 5, 6, 7, 9, 10, 8, 11, 12, 13])]
noncomputable def Aiv : List (Nat × PI) := [(7, PI.of [0, 1, 2, 3, 4, 5]), (16, PI.of [0, 1, 2, 3, 4, 5, 6])]
noncomputable def R2 : List (Nat × PI) := [(6, PI.of [0, 1, 2, 3, 4, 5, 6, 7, 8, 9, 10]), (11, PI.of [0, 1, 2, 3, 4, 5, 6, 7, 8, 9, 10]), (16, PI.of [0, 1, 2, 3, 4, 5, 6, 7, 8, 9, 10])]
noncomputable def Pj : List (Nat × PI) := [(1, .one 0 (.one 1 (.one 2 (.one 3 (.one 4 (.one 6 (.two 5 (PI.of [7, 8, 9, 10]) 7 (PI.of [5, 8, 9, 10]))))))))]
noncomputable def o16 : List (Nat × PI) := [(10, PI.of [0, 1, 2, 3, 4, 5, 6, 7, 8, 9, 10, 11]), (14, PI.of [0, 1, 2, 3, 4, 5])]
noncomputable def o86 : List (Nat × PI) := [(8, .one 0 (.one 2 (.one 3 (.one 4 (.one 5 (.alt 1 (.two 6 (PI.of [7, 8, 9, 10]) 9 (PI.of [6, 7, 8, 10])) (.alt 6 (PI.of [1, 7, 8, 9, 10]) (.one 9 (.two 1 (PI.of [6, 7, 8, 10]) 6 (PI.of [1, 7, 8, 10])))))))))), (9, .one 1 (.one 4 (.alt 0 (.two 2 (.two 3 (PI.of [5, 6, 7, 8, 9, 10, 11]) 5 (PI.of [3, 6, 7, 8, 9, 10, 11])) 5 (PI.of [2, 3, 6, 7, 8, 9, 10, 11])) (.alt 2 (.alt 0 (.two 3 (PI.of [5, 6, 7, 8, 9, 10, 11]) 5 (PI.of [3, 6, 7, 8, 9, 10, 11])) (.alt 3 (PI.of [0, 5, 6, 7, 8, 9, 10, 11]) (.one 5 (.two 0 (PI.of [3, 6, 7, 8, 9, 10, 11]) 3 (PI.of [0, 6, 7, 8, 9, 10, 11]))))) (.one 5 (.two 0 (PI.of [2, 3, 6, 7, 8, 9, 10, 11]) 2 (.two 0 (PI.of [3, 6, 7, 8, 9, 10, 11]) 3 (PI.of [0, 6, 7, 8, 9, 10, 11])))))))), (13, .one 1 (.two 0 (PI.of [2, 3, 4, 5, 6, 7]) 2 (PI.of [0, 3, 4, 5, 6, 7])))]
noncomputable def o41 : List (Nat × PI) := [(9, .one 0 (.one 2 (.two 1 (PI.of [3, 4, 5, 6, 7]) 3 (.two 1 (PI.of [4, 5, 6, 7]) 4 (PI.of [1, 5, 6, 7]))))), (12, .one 0 (.one 2 (.two 1 (PI.of [3, 4, 5, 6, 7]) 3 (.two 1 (PI.of [4, 5, 6, 7]) 4 (PI.of [1, 5, 6, 7]))))), (15, .one 0 (.one 2 (.two 1 (PI.of [3, 4, 5, 6]) 3 (PI.of [1, 4, 5, 6]))))]
noncomputable def o27 : List (Nat × PI) := [(3, .one 1 (.one 3 (.one 6 (.alt 0 (.alt 2 (.two 4 (.two 5 (PI.of [7, 8, 9, 10, 11, 12]) 7 (PI.of [5, 8, 9, 10, 11, 12])) 7 (PI.of [4, 5, 8, 9, 10, 11, 12])) (.alt 4 (.two 2 (.two 5 (PI.of [7, 8, 9, 10, 11, 12]) 7 (PI.of [5, 8, 9, 10, 11, 12])) 7 (PI.of [2, 5, 8, 9, 10, 11, 12])) (.one 7 (.two 2 (PI.of [4, 5, 8, 9, 10, 11, 12]) 4 (PI.of [2, 5, 8, 9, 10, 11, 12]))))) (.alt 2 (.alt 0 (.two 4 (.two 5 (PI.of [7, 8, 9, 10, 11, 12]) 7 (PI.of [5, 8, 9, 10, 11, 12])) 7 (PI.of [4, 5, 8, 9, 10, 11, 12])) (.alt 4 (.alt 0 (.two 5 (PI.of [7, 8, 9, 10, 11, 12]) 7 (PI.of [5, 8, 9, 10, 11, 12])) (.alt 5 (.two 0 (PI.of [7, 8, 9, 10, 11, 12]) 7 (.two 0 (PI.of [8, 9, 10, 11, 12]) 8 (PI.of [0, 9, 10, 11, 12]))) (.one 7 (.two 0 (PI.of [5, 8, 9, 10, 11, 12]) 5 (.two 0 (PI.of [8, 9, 10, 11, 12]) 8 (PI.of [0, 9, 10, 11, 12])))))) (.one 7 (.two 0 (PI.of [4, 5, 8, 9, 10, 11, 12]) 4 (.two 0 (PI.of [5, 8, 9, 10, 11, 12]) 5 (.two 0 (PI.of [8, 9, 10, 11, 12]) 8 (PI.of [0, 9, 10, 11, 12]))))))) (.alt 4 (.alt 0 (.two 2 (.two 5 (PI.of [7, 8, 9, 10, 11, 12]) 7 (PI.of [5, 8, 9, 10, 11, 12])) 7 (PI.of [2, 5, 8, 9, 10, 11, 12])) (.alt 2 (.alt 0 (.two 5 (PI.of [7, 8, 9, 10, 11, 12]) 7 (PI.of [5, 8, 9, 10, 11, 12])) (.alt 5 (.two 0 (PI.of [7, 8, 9, 10, 11, 12]) 7 (.two 0 (PI.of [8, 9, 10, 11, 12]) 8 (PI.of [0, 9, 10, 11, 12]))) (.one 7 (.two 0 (PI.of [5, 8, 9, 10, 11, 12]) 5 (.two 0 (PI.of [8, 9, 10, 11, 12]) 8 (PI.of [0, 9, 10, 11, 12])))))) (.one 7 (.two 0 (PI.of [2, 5, 8, 9, 10, 11, 12]) 2 (.two 0 (PI.of [5, 8, 9, 10, 11, 12]) 5 (.two 0 (PI.of [8, 9, 10, 11, 12]) 8 (PI.of [0, 9, 10, 11, 12]))))))) (.one 7 (.alt 0 (.two 2 (PI.of [4, 5, 8, 9, 10, 11, 12]) 4 (PI.of [2, 5, 8, 9, 10, 11, 12])) (.alt 2 (.two 0 (PI.of [4, 5, 8, 9, 10, 11, 12]) 4 (.two 0 (PI.of [5, 8, 9, 10, 11, 12]) 5 (.two 0 (PI.of [8, 9, 10, 11, 12]) 8 (PI.of [0, 9, 10, 11, 12])))) (.one 4 (.two 0 (PI.of [2, 5, 8, 9, 10, 11, 12]) 2 (.two 0 (PI.of [5, 8, 9, 10, 11, 12]) 5 (.two 0 (PI.of [8, 9, 10, 11, 12]) 8 (PI.of [0, 9, 10, 11, 12]))))))))))))))]
noncomputable def o62 : List (Nat × PI) := [(1, .one 0 (.one 1 (.one 2 (.one 3 (.two 4 (PI.of [5, 6, 7]) 6 (PI.of [4, 5, 7])))))), (5, PI.of [0, 1, 2, 3, 4, 5, 7, 8, 6, 9, 10, 11, 12, 13])]
noncomputable def o74 : List (Nat × PI) := [(1, PI.of [0, 1, 3, 4, 2, 6, 5, 7, 8, 9])]
noncomputable def o34 : List (Nat × PI) := [(6, PI.of [0, 1, 2, 3, 4, 5, 6, 7, 8])]
noncomputable def o5 : List (Nat × PI) := [(8, PI.of [0, 2, 1, 3, 4, 5, 6, 8, 9, 10, 11, 12, 7, 13, 14, 15, 16])]
noncomputable abbrev fi7 : En := ⟨c7, 6, Tryz.f7.results.toList, []⟩
noncomputable abbrev fi40 : En := ⟨c40, 32, Tryz.f40.results.toList, []⟩
noncomputable abbrev Aju : En := ⟨c97, 58, Tryz.f97.results.toList, o97⟩
noncomputable abbrev Ajc : En := ⟨c59, 31, Tryz.f59.results.toList, []⟩
noncomputable abbrev Ag7 : En := ⟨Akb, 12, Tryz.f107.results.toList, []⟩
noncomputable abbrev Ajn : En := ⟨c80, 6, Tryz.f80.results.toList, []⟩
noncomputable abbrev Ajd : En := ⟨c60, 9, Tryz.f60.results.toList, []⟩
noncomputable abbrev AiX : En := ⟨c50, 15, Tryz.f50.results.toList, []⟩
noncomputable abbrev fi128 : En := ⟨Ahh, 104, Tryz.f128.results.toList, []⟩
noncomputable abbrev fi111 : En := ⟨Ahb, 35, Tryz.f111.results.toList, []⟩
noncomputable abbrev Ajp : En := ⟨c82, 6, Tryz.f82.results.toList, []⟩
noncomputable abbrev fi114 : En := ⟨Ahe, 17, Tryz.f114.results.toList, []⟩
noncomputable abbrev fi115 : En := ⟨Ahf, 33, Tryz.f115.results.toList, []⟩
noncomputable abbrev Ajs : En := ⟨c92, 25, Tryz.f92.results.toList, []⟩
noncomputable abbrev AiY : En := ⟨c51, 17, Tryz.f51.results.toList, []⟩
noncomputable abbrev AiZ : En := ⟨c52, 24, Tryz.f52.results.toList, []⟩
noncomputable abbrev fi53 : En := ⟨c53, 19, Tryz.f53.results.toList, []⟩
noncomputable abbrev fi11 : En := ⟨c11, 71, Tryz.f11.results.toList, o11⟩
noncomputable abbrev fi83 : En := ⟨c83, 35, Tryz.f83.results.toList, o83⟩
noncomputable abbrev AiM : En := ⟨c32, 48, Tryz.f32.results.toList, []⟩
noncomputable abbrev AiN : En := ⟨c33, 23, Tryz.f33.results.toList, []⟩
noncomputable abbrev Ag3 : En := ⟨AjX, 14, Tryz.f101.results.toList, Aks⟩
noncomputable abbrev fi100 : En := ⟨AgZ, 21, Tryz.f100.results.toList, []⟩
noncomputable abbrev fi64 : En := ⟨c64, 44, Tryz.f64.results.toList, o64⟩
noncomputable abbrev Ajk : En := ⟨c75, 15, Tryz.f75.results.toList, []⟩
noncomputable abbrev AgD : En := ⟨Aki, 16, Tryz.f125.results.toList, []⟩
noncomputable abbrev Aje : En := ⟨c61, 12, Tryz.f61.results.toList, []⟩
noncomputable abbrev AgB : En := ⟨Akg, 6, Tryz.f123.results.toList, []⟩
noncomputable abbrev fi105 : En := ⟨Aha, 20, Tryz.f105.results.toList, []⟩
noncomputable abbrev Ag4 : En := ⟨AjY, 14, Tryz.f103.results.toList, []⟩
noncomputable abbrev fi112 : En := ⟨Ahc, 22, Tryz.f112.results.toList, []⟩
noncomputable abbrev AiP : En := ⟨c39, 25, Tryz.f39.results.toList, []⟩
noncomputable abbrev AgE : En := ⟨Akj, 17, Tryz.f129.results.toList, Akt⟩
noncomputable abbrev AgF : En := ⟨Akk, 20, Tryz.f130.results.toList, Aku⟩
noncomputable abbrev fi139 : En := ⟨Ahj, 18, Tryz.f139.results.toList, []⟩
noncomputable abbrev fi131 : En := ⟨Ahi, 31, Tryz.f131.results.toList, []⟩
noncomputable abbrev fi113 : En := ⟨Ahd, 75, Tryz.f113.results.toList, Aiv⟩
noncomputable abbrev AgA : En := ⟨Ake, 120, Tryz.f121.results.toList, []⟩
noncomputable abbrev AgG : En := ⟨Akl, 10, Tryz.f138.results.toList, []⟩
noncomputable abbrev fi120 : En := ⟨Q3, 239, Tryz.f120.results.toList, R2⟩
noncomputable abbrev AiE : En := ⟨Akf, 57, Tryz.f122.results.toList, []⟩
noncomputable abbrev fi102 : En := ⟨O8, 191, Tryz.f102.results.toList, Pj⟩
noncomputable abbrev Ajf : En := ⟨c65, 23, Tryz.f65.results.toList, []⟩
noncomputable abbrev fi16 : En := ⟨c16, 81, Tryz.f16.results.toList, o16⟩
noncomputable abbrev Ajh : En := ⟨c68, 31, Tryz.f68.results.toList, []⟩
noncomputable abbrev AiF : En := ⟨c19, 26, Tryz.f19.results.toList, []⟩
noncomputable abbrev fi86 : En := ⟨c86, 68, Tryz.f86.results.toList, o86⟩
noncomputable abbrev fi126 : En := ⟨Ahg, 22, Tryz.f126.results.toList, []⟩
noncomputable abbrev Ag6 : En := ⟨Aka, 28, Tryz.f106.results.toList, []⟩
noncomputable abbrev AgC : En := ⟨Akh, 10, Tryz.f124.results.toList, []⟩
noncomputable abbrev Ag5 : En := ⟨AjZ, 16, Tryz.f104.results.toList, []⟩
noncomputable abbrev Ajg : En := ⟨c66, 28, Tryz.f66.results.toList, []⟩
noncomputable abbrev Ajq : En := ⟨c87, 14, Tryz.f87.results.toList, []⟩
noncomputable abbrev AiQ : En := ⟨c41, 69, Tryz.f41.results.toList, o41⟩
noncomputable abbrev Ag8 : En := ⟨Akc, 25, Tryz.f108.results.toList, []⟩
noncomputable abbrev Aji : En := ⟨c73, 48, Tryz.f73.results.toList, []⟩
noncomputable abbrev AiH : En := ⟨c27, 21, Tryz.f27.results.toList, o27⟩
noncomputable abbrev fi88 : En := ⟨c88, 18, Tryz.f88.results.toList, []⟩
noncomputable abbrev Ajv : En := ⟨c99, 9, Tryz.f99.results.toList, []⟩
noncomputable abbrev fi98 : En := ⟨c98, 20, Tryz.f98.results.toList, []⟩
noncomputable abbrev fi62 : En := ⟨c62, 34, Tryz.f62.results.toList, o62⟩
noncomputable abbrev Ag9 : En := ⟨Akd, 6, Tryz.f109.results.toList, []⟩
noncomputable abbrev Ajj : En := ⟨c74, 12, Tryz.f74.results.toList, o74⟩
noncomputable abbrev Ajl : En := ⟨c76, 9, Tryz.f76.results.toList, []⟩
noncomputable abbrev AiU : En := ⟨c47, 15, Tryz.f47.results.toList, []⟩
noncomputable abbrev Ajm : En := ⟨c77, 21, Tryz.f77.results.toList, []⟩
noncomputable abbrev AiR : En := ⟨c44, 5, Tryz.f44.results.toList, []⟩
noncomputable abbrev Ajr : En := ⟨c90, 8, Tryz.f90.results.toList, []⟩
noncomputable abbrev fi89 : En := ⟨c89, 19, Tryz.f89.results.toList, []⟩
noncomputable abbrev AiS : En := ⟨c45, 8, Tryz.f45.results.toList, []⟩
noncomputable abbrev Ajt : En := ⟨c95, 5, Tryz.f95.results.toList, []⟩
noncomputable abbrev Ajb : En := ⟨c57, 20, Tryz.f57.results.toList, []⟩
noncomputable abbrev Aja : En := ⟨c56, 5, Tryz.f56.results.toList, []⟩
noncomputable abbrev AiT : En := ⟨c46, 17, Tryz.f46.results.toList, []⟩
noncomputable abbrev AiV : En := ⟨c48, 5, Tryz.f48.results.toList, []⟩
noncomputable abbrev fi91 : En := ⟨c91, 15, Tryz.f91.results.toList, []⟩
noncomputable abbrev AiW : En := ⟨c49, 10, Tryz.f49.results.toList, []⟩
noncomputable abbrev fi10 : En := ⟨c10, 67, Tryz.f10.results.toList, []⟩
noncomputable abbrev fi78 : En := ⟨c78, 32, Tryz.f78.results.toList, []⟩
noncomputable abbrev AiG : En := ⟨c24, 30, Tryz.f24.results.toList, []⟩
noncomputable abbrev AiI : En := ⟨c28, 27, Tryz.f28.results.toList, []⟩
noncomputable abbrev AiJ : En := ⟨c29, 16, Tryz.f29.results.toList, []⟩
noncomputable abbrev Ajo : En := ⟨c81, 6, Tryz.f81.results.toList, []⟩
noncomputable abbrev AiK : En := ⟨c30, 31, Tryz.f30.results.toList, []⟩
noncomputable abbrev AiL : En := ⟨c31, 23, Tryz.f31.results.toList, []⟩
noncomputable abbrev fi34 : En := ⟨c34, 26, Tryz.f34.results.toList, o34⟩
noncomputable abbrev AiO : En := ⟨c35, 17, Tryz.f35.results.toList, []⟩
noncomputable abbrev fi5 : En := ⟨c5, 164, Tryz.f5.results.toList, o5⟩
abbrev uu : AV := .sc undef
noncomputable def tf : Nat → Nat → (Nat → AV) → Tm
 | 0, _, _ => []
 | n + 1, i, t => (i, t i) :: tf n (i + 1) t
noncomputable def ut : Nat → AV := fun _ => uu
noncomputable def ud : List (Nat × AV) → (Nat → AV) → Nat → AV
 | [], t, i => t i
 | (j, v) :: r, t, i => match zb4 j i with
  | true => v
  | false => ud r t i
theorem Xl : ∀ (n i : Nat) (t : Nat → AV), tf n i t = (zaV i n).map fun j => (j, t j)
 | 0, _, _ => rfl
 | n + 1, i, t => by
  rw [tf, Xl n (i + 1) t, List.range'_succ, za0]
theorem Aiu (nt : Nat) (tm : Tm) : nrm nt tm = tf nt 0 (fun i => gt tm i) := by
 rw [Xl, nrm, List.range_eq_range']
theorem B8 {nt m : Nat} {body : Tm → Ab → (Ex → Tm → Ab → Option β) → Option β} {c c' : Ex → Tm → Ab → Option β} {g : (Nat → AV) → Ab → Option β} {tm : Tm} {H : Ab} (h : ∀ t H, Dz nt body c m (tf nt 0 t) H = g t H) (hc : c = c') : Dz nt body c (m + 1) tm H = body tm H (Ei (fun tm H => g (fun i => gt tm i) H) c') := by
 have e : (fun tm H => Dz nt body c m (nrm nt tm) H) = fun tm H => g (fun i => gt tm i) H := by
  funext tm H
  rw [Aiu, h]
 rw [Dz, e, hc]
noncomputable def Aq (t : Nat) : Option TI := (tis[t]?).getD none
noncomputable def cd : Code → List Nat → Code
 | c, [] => c
 | .seq a b, i :: p => cd (if i = 0 then a else b) p
 | .cond _ a b, i :: p => cd (if i = 1 then a else b) p
 | .block _ a, _ :: p => cd a p
 | .loop a, _ :: p => cd a p
 | c, _ => c
abbrev H4 (i : En) (f : (β : Type) → Pr β → Nat → AV → Ab → KO β → Option β) : Prop := ∀ {β : Type} (p : Pr β) (n : Nat) (a0 : AV) (H : Ab) (k : KO β), Cl Aq p n i [a0] H k = f β p n a0 H k
abbrev Tf (i : En) (f : (β : Type) → Pr β → Nat → AV → AV → Ab → KO β → Option β) : Prop := ∀ {β : Type} (p : Pr β) (n : Nat) (a0 a1 : AV) (H : Ab) (k : KO β), Cl Aq p n i [a0, a1] H k = f β p n a0 a1 H k
abbrev Bd3 (i : En) (f : (β : Type) → Pr β → Nat → AV → AV → AV → Ab → KO β → Option β) : Prop := ∀ {β : Type} (p : Pr β) (n : Nat) (a0 a1 a2 : AV) (H : Ab) (k : KO β), Cl Aq p n i [a0, a1, a2] H k = f β p n a0 a1 a2 H k
abbrev Bd4 (i : En) (f : (β : Type) → Pr β → Nat → AV → AV → AV → AV → Ab → KO β → Option β) : Prop := ∀ {β : Type} (p : Pr β) (n : Nat) (a0 a1 a2 a3 : AV) (H : Ab) (k : KO β), Cl Aq p n i [a0, a1, a2, a3] H k = f β p n a0 a1 a2 a3 H k
abbrev Bd5 (i : En) (f : (β : Type) → Pr β → Nat → AV → AV → AV → AV → AV → Ab → KO β → Option β) : Prop := ∀ {β : Type} (p : Pr β) (n : Nat) (a0 a1 a2 a3 a4 : AV) (H : Ab) (k : KO β), Cl Aq p n i [a0, a1, a2, a3, a4] H k = f β p n a0 a1 a2 a3 a4 H k
noncomputable def f7 (n : Nat) (a0 : AV) (H : Ab) (k : KO β) : Option β :=
 p.len a0 fun t4 =>
 p.bin .gtr t4 (si 1048576) fun t5 =>
 k t5 H
theorem Af0 : H4 fi7 @f7 := fun p n a0 H k => by kernel_rfl
noncomputable def Nj (p : Pr β) (n : Nat)  (k : KO β) : Nat → AV → AV → KO β
 | 0, _, _, _, _ => none
 | m + 1, t0, t3, t4, H => p.len t0 fun t10 =>
   p.bin .lss t4 t10 fun t11 =>
   p.kT t11 H t4 fun t13 H =>
   p.gT t11 H (p.bin .lss t13 (si 4000)) fun t14 H =>
   p.pick t11 t14 bF fun t15 =>
   p.cond t15
   (p.bin .mul t3 (si 137) fun t19 =>
   p.iadr 1 t0 t4 fun t22 =>
   p.load false 1 t22 H fun t23 =>
   p.cvI .i64 t23 fun t24 =>
   p.bin .add t19 t24 fun t25 =>
   p.bin .add t25 (si 11) fun t26 =>
   p.bin .and t26 (si 1073741823) fun t27 =>
   p.bin .add t4 (si 1) fun t17 =>
   Nj p n  k m t0 t27 t17 H)
   (p.fill [.nl, i0, i0] [(0, 1, t0), (2, 1, t3)] fun ct30 =>
   p.box (.agg ct30) H fun t31 H =>
   k t31 H)
noncomputable def f40 (n : Nat) (a0 : AV) (H : Ab) (k : KO β) : Option β :=
 p.len a0 fun t6 =>
 p.bin .add (si 128361) t6 fun t7 =>
 Nj p n  k n a0 t7 i0 H
noncomputable def AcQ (p : Pr β) (n : Nat)  (k : KO β) (m : Nat) (tm : Tm) (H : Ab) : Option β :=
 Dz 32 (fun tm H k => Al Aq p [] 32 n (cd c40 [1, 1, 0, 1, 0, 0]) tm H k) (Ew 0 (Ei (fun tm H => Al Aq p [] 32 n (cd c40 [1, 1, 1]) tm H (C9 Aq p fi40.results k)) (C9 Aq p fi40.results k))) m tm H
theorem Abz (p : Pr β) (n : Nat)  (k : KO β) (m0 : Nat) : ∀ (t : Nat → AV) (H : Ab), AcQ p n  k m0 (tf 32 0 t) H = Nj p n  k m0 (t 0) (t 3) (t 4) H := by
 induction m0 with
 | zero => intros; rfl
 | succ m0 ih =>
  intro t H
  refine Eq.trans (B8 (nt := 32) (m := m0) (g := fun t H => Nj p n  k m0 (t 0) (t 3) (t 4) H) ih rfl) ?_
  kernel_rfl
theorem Afu (p : Pr β) (n : Nat) (a0 : AV) (H : Ab) (k : KO β) : Cl Aq p n fi40 [a0] H k =
 p.len a0 fun t6 =>
 p.bin .add (si 128361) t6 fun t7 =>
 AcQ p n  k n (tf 32 0 (ud [(0, a0), (2, (.sc (.pointer none))), (3, t7), (4, i0), (5, a0), (6, t6), (7, t7)] ut)) H := by kernel_rfl
theorem AcR : H4 fi40 @f40 := fun p n a0 H k => by
 rw [Afu]
 simp only [Abz]
 kernel_rfl
noncomputable def f97 (n : Nat) (a0 : AV) (H : Ab) (k : KO β) : Option β :=
 p.nil a0 fun t6 =>
 p.fadr 2 t6 fun t7 =>
 p.load false 1 t7 H fun t8 =>
 p.bin .mul t8 (si 6364136223846793005) fun t9 =>
 p.bin .add t9 (si 1442695040888963407) fun t10 =>
 p.nil a0 fun t11 =>
 p.fadr 2 t11 fun t12 =>
 p.store 1 t12 t10 H fun H =>
 p.nil a0 fun t14 =>
 p.fadr 2 t14 fun t15 =>
 p.load false 1 t15 H fun t16 =>
 p.bin .shr t16 (.sc (.int .u64 33)) fun t17 =>
 p.nil a0 fun t19 =>
 p.fadr 2 t19 fun t20 =>
 p.load false 1 t20 H fun t21 =>
 p.bin .shr t21 (.sc (.int .u64 47)) fun t22 =>
 p.bin .xor t17 t22 fun t23 =>
 p.bin .and t23 (si 255) fun t24 =>
 p.nil a0 fun t26 =>
 p.fadr 1 t26 fun t27 =>
 p.load false 1 t27 H fun t28 =>
 p.nil a0 fun t30 =>
 p.fadr 0 t30 fun t31 =>
 p.load false 1 t31 H fun t32 =>
 p.len t32 fun t33 =>
 p.bin .lss t28 t33 fun t34 =>
 M2 (fun (t3 : AV) (H : Ab) => k t3 H) fun j1 =>
 p.cond t34
 (p.nil a0 fun t37 =>
 p.fadr 0 t37 fun t38 =>
 p.load false 1 t38 H fun t39 =>
 p.nil a0 fun t41 =>
 p.fadr 1 t41 fun t42 =>
 p.load false 1 t42 H fun t43 =>
 p.iadr 1 t39 t43 fun t44 =>
 p.load false 1 t44 H fun t45 =>
 p.cvI .i64 t45 fun t46 =>
 p.bin .add t24 t46 fun t47 =>
 p.bin .and t47 (si 255) fun t48 =>
 p.nil a0 fun t51 =>
 p.fadr 1 t51 fun t52 =>
 p.load false 1 t52 H fun t53 =>
 p.bin .add t53 (si 1) fun t54 =>
 p.nil a0 fun t55 =>
 p.fadr 1 t55 fun t56 =>
 p.store 1 t56 t54 H fun H =>
 j1 t48 H)
 (j1 t24 H)
theorem AdD : H4 Aju @f97 := fun p n a0 H k => by kernel_rfl
noncomputable def f59 (n : Nat) (a0 a1 : AV) (H : Ab) (k : KO β) : Option β :=
 p.bin .leq a1 i0 fun t9 =>
 p.cond t9
 (k i0 H)
 (p.bin .leq a1 (si 256) fun t11 =>
 p.cond t11
 (p.call 3 (.fn 97 [] []) [a0] H fun t13 H =>
 p.bin .rem t13 a1 fun t15 =>
 k t15 H)
 (p.call 3 (.fn 97 [] []) [a0] H fun t17 H =>
 p.call 3 (.fn 97 [] []) [a0] H fun t19 H =>
 p.call 3 (.fn 97 [] []) [a0] H fun t21 H =>
 p.bin .mul t17 (si 65536) fun t23 =>
 p.bin .mul t19 (si 256) fun t25 =>
 p.bin .add t23 t25 fun t26 =>
 p.bin .add t26 t21 fun t28 =>
 p.bin .rem t28 a1 fun t30 =>
 k t30 H))
theorem Adg : Tf Ajc @f59 := fun p n a0 a1 H k => by kernel_rfl
noncomputable def f107 (n : Nat) (a0 a1 : AV) (H : Ab) (k : KO β) : Option β :=
 p.len a1 fun t8 =>
 p.call 3 (.fn 59 [] []) [a0, t8] H fun t9 H =>
 p.iadr 1 a1 t9 fun t10 =>
 p.load false 1 t10 H fun t11 =>
 k t11 H
theorem AaZ : Tf Ag7 @f107 := fun p n a0 a1 H k => by kernel_rfl
noncomputable def f80 (n : Nat) (a0 : AV) (H : Ab) (k : KO β) : Option β :=
 p.fill [sE, sE, sE, sE, sE] [(0, 1, (.sc (.string ⟨#[97, 110, 110]⟩))), (1, 1, (.sc (.string ⟨#[98, 111, 98]⟩))), (2, 1, (.sc (.string ⟨#[99, 105, 100]⟩))), (3, 1, (.sc (.string ⟨#[100, 111, 116]⟩))), (4, 1, (.sc (.string ⟨#[101, 118, 101]⟩)))] fun ct4 => p.newSl 5 1 ct4 true H fun t4 H =>
 p.call 9 (.fn 107 [] []) [a0, t4] H fun t5 H =>
 k t5 H
theorem Adv : H4 Ajn @f80 := fun p n a0 H k => by kernel_rfl
noncomputable def f60 (n : Nat) (a0 a1 : AV) (H : Ab) (k : KO β) : Option β :=
 p.call 3 (.fn 59 [] []) [a0, a1] H fun t7 H =>
 p.bin .eql t7 i0 fun t8 =>
 k t8 H
theorem Adh : Tf Ajd @f60 := fun p n a0 a1 H k => by kernel_rfl
noncomputable def f50 (n : Nat) (a0 a1 a2 : AV) (H : Ab) (k : KO β) : Option β :=
 p.bin .geq a0 a1 fun t9 =>
 p.kT t9 H a0 fun t11 H =>
 p.kT t9 H a2 fun t12 H =>
 p.gT t9 H (p.bin .leq t11 t12) fun t13 H =>
 p.pick t9 t13 bF fun t14 =>
 k t14 H
theorem AcZ : Bd3 AiX @f50 := fun p n a0 a1 a2 H k => by kernel_rfl
noncomputable def Hv (p : Pr β) (n : Nat)  (k : KO β) : Nat → AV → AV → AV → AV → AV → KO β
 | 0, _, _, _, _, _, _, _ => none
 | m + 1, t0, t1, t8, t9, t10, t11, H => p.bin .leq t11 t8 fun t67 =>
   p.cond t67
   (p.bin .add t1 t11 fun t73 =>
   p.iadr 1 t0 t73 fun t74 =>
   p.load false 1 t74 H fun t75 =>
   p.cvI .i64 t75 fun t76 =>
   p.bin .lss t76 (si 128) fun t78 =>
   p.kF t78 H t76 fun t80 H =>
   p.gF t78 H (p.bin .gtr t80 (si 191)) fun t81 H =>
   p.pick t78 bT t81 fun t82 =>
   p.cond t82
   (k (Bu [i0, i0, bF]) H)
   (p.bin .mul t10 (si 64) fun t84 =>
   p.bin .add t84 t76 fun t86 =>
   p.bin .sub t86 (si 128) fun t87 =>
   p.bin .add t11 (si 1) fun t69 =>
   Hv p n  k m t0 t1 t8 t9 t87 t69 H))
   (p.bin .lss t10 t9 fun t90 =>
   p.kF t90 H t10 fun t92 H =>
   p.gF t90 H (p.bin .gtr t92 (si 1114111)) fun t93 H =>
   p.pick t90 bT t93 fun t94 =>
   p.kF t94 H t10 fun t96 H =>
   p.hF t94 H (p.call 4 (.fn 50 [] []) [t96, (si 55296), (si 57343)] H) fun t97 H =>
   p.pick t94 bT t97 fun t98 =>
   p.cond t98
   (k (Bu [i0, i0, bF]) H)
   (p.bin .add t1 (si 1) fun t101 =>
   p.bin .add t101 t8 fun t103 =>
   k (Bu [t10, t103, bT]) H))
noncomputable def f128 (n : Nat) (a0 a1 : AV) (H : Ab) (k : KO β) : Option β :=
 p.bin .lss a1 i0 fun t14 =>
 p.kF t14 H a1 fun t16 H =>
 p.kF t14 H a0 fun t17 H =>
 p.gF t14 H (p.len t17) fun t18 H =>
 p.gF t14 H (p.bin .geq t16 t18) fun t19 H =>
 p.pick t14 bT t19 fun t20 =>
 p.cond t20
 (k (Bu [i0, i0, bF]) H)
 (p.iadr 1 a0 a1 fun t23 =>
 p.load false 1 t23 H fun t24 =>
 p.cvI .i64 t24 fun t25 =>
 p.bin .lss t25 (si 128) fun t27 =>
 p.cond t27
 (p.bin .add a1 (si 1) fun t30 =>
 k (Bu [t25, t30, bT]) H)
 (p.bin .geq t25 (si 192) fun t33 =>
 p.kT t33 H t25 fun t35 H =>
 p.gT t33 H (p.bin .lss t35 (si 224)) fun t36 H =>
 p.pick t33 t36 bF fun t37 =>
 p.cond t37
 (p.bin .and t25 (si 31) fun t39 =>
 p.len a0 fun t60 =>
 p.bin .sub t60 (si 1) fun t61 =>
 p.bin .sub t61 (si 1) fun t63 =>
 p.bin .gtr a1 t63 fun t64 =>
 p.cond t64
 (k (Bu [i0, i0, bF]) H)
 (Hv p n  k n a0 a1 (si 1) (si 128) t39 (si 1) H))
 (p.bin .geq t25 (si 224) fun t42 =>
 p.kT t42 H t25 fun t44 H =>
 p.gT t42 H (p.bin .lss t44 (si 240)) fun t45 H =>
 p.pick t42 t45 bF fun t46 =>
 p.cond t46
 (p.bin .and t25 (si 15) fun t48 =>
 p.len a0 fun t60 =>
 p.bin .sub t60 (si 1) fun t61 =>
 p.bin .sub t61 (si 2) fun t63 =>
 p.bin .gtr a1 t63 fun t64 =>
 p.cond t64
 (k (Bu [i0, i0, bF]) H)
 (Hv p n  k n a0 a1 (si 2) (si 2048) t48 (si 1) H))
 (p.bin .geq t25 (si 240) fun t51 =>
 p.kT t51 H t25 fun t53 H =>
 p.gT t51 H (p.bin .lss t53 (si 248)) fun t54 H =>
 p.pick t51 t54 bF fun t55 =>
 p.cond t55
 (p.bin .and t25 (si 7) fun t57 =>
 p.len a0 fun t60 =>
 p.bin .sub t60 (si 1) fun t61 =>
 p.bin .sub t61 (si 3) fun t63 =>
 p.bin .gtr a1 t63 fun t64 =>
 p.cond t64
 (k (Bu [i0, i0, bF]) H)
 (Hv p n  k n a0 a1 (si 3) (si 65536) t57 (si 1) H))
 (k (Bu [i0, i0, bF]) H)))))
noncomputable def Qq (p : Pr β) (n : Nat)  (k : KO β) (m : Nat) (tm : Tm) (H : Ab) : Option β :=
 Dz 104 (fun tm H k => Al Aq p [] 104 n (cd Ahh [1, 1, 1, 1, 1, 1, 1, 1, 1, 0, 1, 0, 0]) tm H k) (Ew 1 (Ei (fun tm H => Al Aq p [] 104 n (cd Ahh [1, 1, 1, 1, 1, 1, 1, 1, 1, 1]) tm H (C9 Aq p fi128.results k)) (C9 Aq p fi128.results k))) m tm H
theorem Yp (p : Pr β) (n : Nat)  (k : KO β) (m0 : Nat) : ∀ (t : Nat → AV) (H : Ab), Qq p n  k m0 (tf 104 0 t) H = Hv p n  k m0 (t 0) (t 1) (t 8) (t 9) (t 10) (t 11) H := by
 induction m0 with
 | zero => intros; rfl
 | succ m0 ih =>
  intro t H
  refine Eq.trans (B8 (nt := 104) (m := m0) (g := fun t H => Hv p n  k m0 (t 0) (t 1) (t 8) (t 9) (t 10) (t 11) H) ih rfl) ?_
  kernel_rfl
theorem Ac8 (p : Pr β) (n : Nat) (a0 a1 : AV) (H : Ab) (k : KO β) : Cl Aq p n fi128 [a0, a1] H k =
 p.bin .lss a1 i0 fun t14 =>
 p.kF t14 H a1 fun t16 H =>
 p.kF t14 H a0 fun t17 H =>
 p.gF t14 H (p.len t17) fun t18 H =>
 p.gF t14 H (p.bin .geq t16 t18) fun t19 H =>
 p.pick t14 bT t19 fun t20 =>
 p.cond t20
 (k (Bu [i0, i0, bF]) H)
 (p.iadr 1 a0 a1 fun t23 =>
 p.load false 1 t23 H fun t24 =>
 p.cvI .i64 t24 fun t25 =>
 p.bin .lss t25 (si 128) fun t27 =>
 p.cond t27
 (p.bin .add a1 (si 1) fun t30 =>
 k (Bu [t25, t30, bT]) H)
 (p.bin .geq t25 (si 192) fun t33 =>
 p.kT t33 H t25 fun t35 H =>
 p.gT t33 H (p.bin .lss t35 (si 224)) fun t36 H =>
 p.pick t33 t36 bF fun t37 =>
 p.cond t37
 (p.bin .and t25 (si 31) fun t39 =>
 p.len a0 fun t60 =>
 p.bin .sub t60 (si 1) fun t61 =>
 p.bin .sub t61 (si 1) fun t63 =>
 p.bin .gtr a1 t63 fun t64 =>
 p.cond t64
 (k (Bu [i0, i0, bF]) H)
 (Qq p n  k n (tf 104 0 (ud [(0, a0), (1, a1), (4, i0), (5, i0), (6, bF), (7, t25), (8, (si 1)), (9, (si 128)), (10, t39), (11, (si 1)), (13, a1), (14, t14), (15, t14), (16, t16), (17, t17), (18, t18), (19, t19), (20, t20), (21, a0), (22, a1), (23, t23), (24, t24), (25, t25), (26, t25), (27, t27), (31, t37), (32, t25), (33, t33), (34, t33), (35, t35), (36, t36), (37, t37), (38, t25), (39, t39), (58, a1), (59, a0), (60, t60), (61, t61), (62, (si 1)), (63, t63), (64, t64)] ut)) H))
 (p.bin .geq t25 (si 224) fun t42 =>
 p.kT t42 H t25 fun t44 H =>
 p.gT t42 H (p.bin .lss t44 (si 240)) fun t45 H =>
 p.pick t42 t45 bF fun t46 =>
 p.cond t46
 (p.bin .and t25 (si 15) fun t48 =>
 p.len a0 fun t60 =>
 p.bin .sub t60 (si 1) fun t61 =>
 p.bin .sub t61 (si 2) fun t63 =>
 p.bin .gtr a1 t63 fun t64 =>
 p.cond t64
 (k (Bu [i0, i0, bF]) H)
 (Qq p n  k n (tf 104 0 (ud [(0, a0), (1, a1), (4, i0), (5, i0), (6, bF), (7, t25), (8, (si 2)), (9, (si 2048)), (10, t48), (11, (si 1)), (13, a1), (14, t14), (15, t14), (16, t16), (17, t17), (18, t18), (19, t19), (20, t20), (21, a0), (22, a1), (23, t23), (24, t24), (25, t25), (26, t25), (27, t27), (31, t37), (32, t25), (33, t33), (34, t33), (35, t35), (36, t36), (37, t37), (40, t46), (41, t25), (42, t42), (43, t42), (44, t44), (45, t45), (46, t46), (47, t25), (48, t48), (58, a1), (59, a0), (60, t60), (61, t61), (62, (si 2)), (63, t63), (64, t64)] ut)) H))
 (p.bin .geq t25 (si 240) fun t51 =>
 p.kT t51 H t25 fun t53 H =>
 p.gT t51 H (p.bin .lss t53 (si 248)) fun t54 H =>
 p.pick t51 t54 bF fun t55 =>
 p.cond t55
 (p.bin .and t25 (si 7) fun t57 =>
 p.len a0 fun t60 =>
 p.bin .sub t60 (si 1) fun t61 =>
 p.bin .sub t61 (si 3) fun t63 =>
 p.bin .gtr a1 t63 fun t64 =>
 p.cond t64
 (k (Bu [i0, i0, bF]) H)
 (Qq p n  k n (tf 104 0 (ud [(0, a0), (1, a1), (4, i0), (5, i0), (6, bF), (7, t25), (8, (si 3)), (9, (si 65536)), (10, t57), (11, (si 1)), (13, a1), (14, t14), (15, t14), (16, t16), (17, t17), (18, t18), (19, t19), (20, t20), (21, a0), (22, a1), (23, t23), (24, t24), (25, t25), (26, t25), (27, t27), (31, t37), (32, t25), (33, t33), (34, t33), (35, t35), (36, t36), (37, t37), (40, t46), (41, t25), (42, t42), (43, t42), (44, t44), (45, t45), (46, t46), (49, t55), (50, t25), (51, t51), (52, t51), (53, t53), (54, t54), (55, t55), (56, t25), (57, t57), (58, a1), (59, a0), (60, t60), (61, t61), (62, (si 3)), (63, t63), (64, t64)] ut)) H))
 (k (Bu [i0, i0, bF]) H))))) := by kernel_rfl
theorem Abq : Tf fi128 @f128 := fun p n a0 a1 H k => by
 rw [Ac8]
 simp only [Yp]
 kernel_rfl
noncomputable def Mo (p : Pr β) (n : Nat)  (k : KO β) : Nat → AV → AV → KO β
 | 0, _, _, _, _ => none
 | m + 1, t3, t4, t5, H => p.len t3 fun t16 =>
   p.bin .lss t5 t16 fun t17 =>
   p.cond t17
   (p.call 129 (.fn 128 [] []) [t3, t5] H fun t21 H =>
   p.extr t21 0 fun t22 =>
   p.extr t21 1 fun t23 =>
   p.extr t21 2 fun t24 =>
   p.un .not t24 fun t26 =>
   p.kF t26 H t22 fun t28 H =>
   p.gF t26 H (p.bin .eql t28 i0) fun t29 H =>
   p.pick t26 bT t29 fun t30 =>
   p.cond t30
   (k (si (-1)) H)
   (p.bin .add t4 (si 1) fun t33 =>
   Mo p n  k m t3 t33 t23 H))
   (k t4 H)
noncomputable def f111 (n : Nat) (a0 : AV) (H : Ab) (k : KO β) : Option β :=
 p.lenS a0 fun t10 =>
 p.bin .gtr t10 (si 60) fun t11 =>
 p.cond t11
 (k (si (-1)) H)
 (p.cvSB a0 H fun t13 H =>
 Mo p n  k n t13 i0 i0 H)
noncomputable def Aac (p : Pr β) (n : Nat)  (k : KO β) (m : Nat) (tm : Tm) (H : Ab) : Option β :=
 Dz 35 (fun tm H k => Al Aq p [] 35 n (cd Ahb [1, 1, 1, 1, 0, 1, 0, 0]) tm H k) (Ew 0 (Ei (fun tm H => Al Aq p [] 35 n (cd Ahb [1, 1, 1, 1, 1]) tm H (C9 Aq p fi111.results k)) (C9 Aq p fi111.results k))) m tm H
theorem Yi (p : Pr β) (n : Nat)  (k : KO β) (m0 : Nat) : ∀ (t : Nat → AV) (H : Ab), Aac p n  k m0 (tf 35 0 t) H = Mo p n  k m0 (t 3) (t 4) (t 5) H := by
 induction m0 with
 | zero => intros; rfl
 | succ m0 ih =>
  intro t H
  refine Eq.trans (B8 (nt := 35) (m := m0) (g := fun t H => Mo p n  k m0 (t 3) (t 4) (t 5) H) ih rfl) ?_
  kernel_rfl
theorem Acy (p : Pr β) (n : Nat) (a0 : AV) (H : Ab) (k : KO β) : Cl Aq p n fi111 [a0] H k =
 p.lenS a0 fun t10 =>
 p.bin .gtr t10 (si 60) fun t11 =>
 p.cond t11
 (k (si (-1)) H)
 (p.cvSB a0 H fun t13 H =>
 Aac p n  k n (tf 35 0 (ud [(0, a0), (2, i0), (3, t13), (4, i0), (5, i0), (9, a0), (10, t10), (11, t11), (12, a0), (13, t13)] ut)) H) := by kernel_rfl
theorem Abd : H4 fi111 @f111 := fun p n a0 H k => by
 rw [Acy]
 simp only [Yi]
 kernel_rfl
noncomputable def f82 (n : Nat) (a0 : AV) (H : Ab) (k : KO β) : Option β :=
 p.call 3 (.fn 111 [] []) [a0] H fun t4 H =>
 p.bin .geq t4 i0 fun t5 =>
 k t5 H
theorem Adx : H4 Ajp @f82 := fun p n a0 H k => by kernel_rfl
noncomputable def Ld (p : Pr β) (n : Nat)  (k : KO β) : Nat → AV → AV → KO β
 | 0, _, _, _, _ => none
 | m + 1, t0, t1, t5, H => p.lenS t0 fun t8 =>
   p.bin .lss t5 t8 fun t9 =>
   p.cond t9
   (p.idx t0 t5 fun t14 =>
   p.bin .eql t14 t1 fun t16 =>
   p.cond t16
   (k bT H)
   (p.bin .add t5 (si 1) fun t11 =>
   Ld p n  k m t0 t1 t11 H))
   (k bF H)
noncomputable def f114 (n : Nat) (a0 a1 : AV) (H : Ab) (k : KO β) : Option β :=
 Ld p n  k n a0 a1 i0 H
noncomputable def Aaf (p : Pr β) (n : Nat)  (k : KO β) (m : Nat) (tm : Tm) (H : Ab) : Option β :=
 Dz 17 (fun tm H k => Al Aq p [] 17 n (cd Ahe [1, 0, 1, 0, 0]) tm H k) (Ew 0 (Ei (fun tm H => Al Aq p [] 17 n (cd Ahe [1, 1]) tm H (C9 Aq p fi114.results k)) (C9 Aq p fi114.results k))) m tm H
theorem Yl (p : Pr β) (n : Nat)  (k : KO β) (m0 : Nat) : ∀ (t : Nat → AV) (H : Ab), Aaf p n  k m0 (tf 17 0 t) H = Ld p n  k m0 (t 0) (t 1) (t 5) H := by
 induction m0 with
 | zero => intros; rfl
 | succ m0 ih =>
  intro t H
  refine Eq.trans (B8 (nt := 17) (m := m0) (g := fun t H => Ld p n  k m0 (t 0) (t 1) (t 5) H) ih rfl) ?_
  kernel_rfl
theorem Ac1 (p : Pr β) (n : Nat) (a0 a1 : AV) (H : Ab) (k : KO β) : Cl Aq p n fi114 [a0, a1] H k =
 Aaf p n  k n (tf 17 0 (ud [(0, a0), (1, a1), (4, bF), (5, i0)] ut)) H := by kernel_rfl
theorem Abg : Tf fi114 @f114 := fun p n a0 a1 H k => by
 rw [Ac1]
 simp only [Yl]
 kernel_rfl
noncomputable def Ja (p : Pr β) (n : Nat)  (k : KO β) : Nat → AV → AV → AV → KO β
 | 0, _, _, _, _, _ => none
 | m + 1, t0, t3, t4, t5, H => p.lenS t0 fun t9 =>
   p.bin .leq t5 t9 fun t10 =>
   p.cond t10
   (p.lenS t0 fun t15 =>
   p.bin .eql t5 t15 fun t16 =>
   p.kF t16 H t0 fun t18 H =>
   p.kF t16 H t5 fun t19 H =>
   p.gF t16 H (p.idx t18 t19) fun t20 H =>
   p.gF t16 H (p.bin .eql t20 (su 47)) fun t21 H =>
   p.pick t16 bT t21 fun t22 =>
   p.cond t22
   (p.sliceS t0 (some t4) (some t5) fun t27 =>
   p.fill [sE] [(0, 1, t27)] fun ct28 => p.newSl 1 1 ct28 true H fun t28 H =>
   p.app 1 16 t3 t28 H fun t29 H =>
   p.bin .add t5 (si 1) fun t31 =>
   p.bin .add t5 (si 1) fun t12 =>
   Ja p n  k m t0 t29 t31 t12 H)
   (p.bin .add t5 (si 1) fun t12 =>
   Ja p n  k m t0 t3 t4 t12 H))
   (k t3 H)
noncomputable def f115 (n : Nat) (a0 : AV) (H : Ab) (k : KO β) : Option β :=
 Ja p n  k n a0 .nl i0 i0 H
noncomputable def Aag (p : Pr β) (n : Nat)  (k : KO β) (m : Nat) (tm : Tm) (H : Ab) : Option β :=
 Dz 33 (fun tm H k => Al Aq p [] 33 n (cd Ahf [1, 1, 1, 0, 1, 0, 0]) tm H k) (Ew 0 (Ei (fun tm H => Al Aq p [] 33 n (cd Ahf [1, 1, 1, 1]) tm H (C9 Aq p fi115.results k)) (C9 Aq p fi115.results k))) m tm H
theorem Ym (p : Pr β) (n : Nat)  (k : KO β) (m0 : Nat) : ∀ (t : Nat → AV) (H : Ab), Aag p n  k m0 (tf 33 0 t) H = Ja p n  k m0 (t 0) (t 3) (t 4) (t 5) H := by
 induction m0 with
 | zero => intros; rfl
 | succ m0 ih =>
  intro t H
  refine Eq.trans (B8 (nt := 33) (m := m0) (g := fun t H => Ja p n  k m0 (t 0) (t 3) (t 4) (t 5) H) ih rfl) ?_
  kernel_rfl
theorem Ac2 (p : Pr β) (n : Nat) (a0 : AV) (H : Ab) (k : KO β) : Cl Aq p n fi115 [a0] H k =
 Aag p n  k n (tf 33 0 (ud [(0, a0), (2, .nl), (3, .nl), (4, i0), (5, i0), (6, .nl)] ut)) H := by kernel_rfl
theorem Abh : H4 fi115 @f115 := fun p n a0 H k => by
 rw [Ac2]
 simp only [Ym]
 kernel_rfl
noncomputable def f92 (n : Nat) (a0 : AV) (H : Ab) (k : KO β) : Option β :=
 p.call 4 (.fn 82 [] []) [a0] H fun t4 H =>
 p.kT t4 H a0 fun t6 H =>
 p.gT t4 H (p.bin .neq t6 sE) fun t7 H =>
 p.pick t4 t7 bF fun t8 =>
 p.kT t8 H a0 fun t10 H =>
 p.hT t8 H (p.call 4 (.fn 114 [] []) [t10, (su 43)] H) fun t11 H =>
 p.gT t8 H (p.un .not t11) fun t12 H =>
 p.pick t8 t12 bF fun t13 =>
 p.kT t13 H a0 fun t15 H =>
 p.hT t13 H (p.call 4 (.fn 114 [] []) [t15, (su 35)] H) fun t16 H =>
 p.gT t13 H (p.un .not t16) fun t17 H =>
 p.pick t13 t17 bF fun t18 =>
 p.kT t18 H a0 fun t20 H =>
 p.hT t18 H (p.call 38 (.fn 115 [] []) [t20] H) fun t21 H =>
 p.gT t18 H (p.len t21) fun t22 H =>
 p.gT t18 H (p.bin .leq t22 (si 6)) fun t23 H =>
 p.pick t18 t23 bF fun t24 =>
 k t24 H
theorem AdB : H4 Ajs @f92 := fun p n a0 H k => by kernel_rfl
noncomputable def f51 (n : Nat) (a0 : AV) (H : Ab) (k : KO β) : Option β :=
 p.box a0 H fun t1 H =>
 p.fadr 0 t1 fun t3 =>
 p.load false 1 t3 H fun t4 =>
 p.call 4 (.fn 92 [] []) [t4] H fun t5 H =>
 p.gT t5 H (p.fadr 1 t1) fun t7 H =>
 p.gT t5 H (p.load false 1 t7 H) fun t8 H =>
 p.gT t5 H (p.len t8) fun t9 H =>
 p.gT t5 H (p.bin .leq t9 (si 40)) fun t10 H =>
 p.pick t5 t10 bF fun t11 =>
 p.gT t11 H (p.fadr 2 t1) fun t13 H =>
 p.gT t11 H (p.load false 1 t13 H) fun t14 H =>
 p.hT t11 H (p.call 4 (.fn 50 [] []) [t14, i0, (si 2)] H) fun t15 H =>
 p.pick t11 t15 bF fun t16 =>
 k t16 H
theorem Ada : H4 AiY @f51 := fun p n a0 H k => by kernel_rfl
noncomputable def f52 (n : Nat) (a0 : AV) (H : Ab) (k : KO β) : Option β :=
 p.box a0 H fun t1 H =>
 p.fadr 1 t1 fun t3 =>
 p.fadr 2 t3 fun t4 =>
 p.load false 1 t4 H fun t5 =>
 p.bin .eql t5 (si 1) fun t6 =>
 p.cond t6
 (p.fadr 5 t1 fun t7 =>
 p.load false 1 t7 H fun t8 =>
 p.bin .eql t8 (si 1) fun t9 =>
 k t9 H)
 (p.fadr 1 t1 fun t10 =>
 p.fadr 2 t10 fun t11 =>
 p.load false 1 t11 H fun t12 =>
 p.bin .eql t12 (si 2) fun t13 =>
 p.gT t13 H (p.fadr 5 t1) fun t15 H =>
 p.gT t13 H (p.load false 1 t15 H) fun t16 H =>
 p.gT t13 H (p.bin .eql t16 (si 2)) fun t17 H =>
 p.kT t13 H t17 fun t18 H =>
 p.gF t18 H (p.fadr 5 t1) fun t19 H =>
 p.gF t18 H (p.load false 1 t19 H) fun t20 H =>
 p.gF t18 H (p.bin .eql t20 (si 3)) fun t21 H =>
 p.gT t13 H (p.pick t18 bT t21) fun t22 H =>
 p.pick t13 t22 bF fun t23 =>
 k t23 H)
theorem Adb : H4 AiZ @f52 := fun p n a0 H k => by kernel_rfl
noncomputable def Rb (p : Pr β) (n : Nat)  (k : KO β) : Nat → AV → KO β
 | 0, _, _, _ => none
 | m + 1, t0, t3, H => p.len t0 fun t6 =>
   p.bin .lss t3 t6 fun t7 =>
   p.cond t7
   (p.iadr 4 t0 t3 fun t12 =>
   p.load true 4 t12 H fun t13 =>
   p.call 4 (.fn 51 [] []) [t13] H fun t14 H =>
   p.un .not t14 fun t15 =>
   p.cond t15
   (k bF H)
   (p.bin .add t3 (si 1) fun t9 =>
   Rb p n  k m t0 t9 H))
   (p.len t0 fun t17 =>
   p.bin .leq t17 (si 6) fun t18 =>
   k t18 H)
noncomputable def f53 (n : Nat) (a0 : AV) (H : Ab) (k : KO β) : Option β :=
 Rb p n  k n a0 i0 H
noncomputable def Adc (p : Pr β) (n : Nat)  (k : KO β) (m : Nat) (tm : Tm) (H : Ab) : Option β :=
 Dz 19 (fun tm H k => Al Aq p [] 19 n (cd c53 [1, 0, 1, 0, 0]) tm H k) (Ew 0 (Ei (fun tm H => Al Aq p [] 19 n (cd c53 [1, 1]) tm H (C9 Aq p fi53.results k)) (C9 Aq p fi53.results k))) m tm H
theorem Ab0 (p : Pr β) (n : Nat)  (k : KO β) (m0 : Nat) : ∀ (t : Nat → AV) (H : Ab), Adc p n  k m0 (tf 19 0 t) H = Rb p n  k m0 (t 0) (t 3) H := by
 induction m0 with
 | zero => intros; rfl
 | succ m0 ih =>
  intro t H
  refine Eq.trans (B8 (nt := 19) (m := m0) (g := fun t H => Rb p n  k m0 (t 0) (t 3) H) ih rfl) ?_
  kernel_rfl
theorem Afv (p : Pr β) (n : Nat) (a0 : AV) (H : Ab) (k : KO β) : Cl Aq p n fi53 [a0] H k =
 Adc p n  k n (tf 19 0 (ud [(0, a0), (2, bF), (3, i0)] ut)) H := by kernel_rfl
theorem Add : H4 fi53 @f53 := fun p n a0 H k => by
 rw [Afv]
 simp only [Ab0]
 kernel_rfl
noncomputable def Q8 (p : Pr β) (n : Nat) (g0 : AV → KO β) (k : KO β) : Nat → AV → AV → KO β
 | 0, _, _, _, _ => none
 | m + 1, t1, t3, t4, H => p.bin .lss t4 t3 fun t41 =>
   p.cond t41
   (p.fadr 1 t1 fun t44 =>
   p.load false 1 t44 H fun t45 =>
   p.iadr 6 t45 t4 fun t47 =>
   p.fadr 0 t47 fun t48 =>
   p.load false 1 t48 H fun t49 =>
   p.fadr 1 t1 fun t50 =>
   p.load false 1 t50 H fun t51 =>
   p.iadr 6 t51 t3 fun t53 =>
   p.fadr 0 t53 fun t54 =>
   p.load false 1 t54 H fun t55 =>
   p.bin .eql t49 t55 fun t56 =>
   p.cond t56
   (k bF H)
   (p.bin .add t4 (si 1) fun t43 =>
   Q8 p n g0 k m t1 t3 t43 H))
   (p.bin .add t3 (si 1) fun t11 =>
   g0 t1 t11 H)
noncomputable def Nh (p : Pr β) (n : Nat)  (k : KO β) : Nat → AV → KO β
 | 0, _, _, _ => none
 | m + 1, t1, t3, H => p.fadr 1 t1 fun t6 =>
   p.load false 1 t6 H fun t7 =>
   p.len t7 fun t8 =>
   p.bin .lss t3 t8 fun t9 =>
   p.cond t9
   (p.fadr 1 t1 fun t12 =>
   p.load false 1 t12 H fun t13 =>
   p.iadr 6 t13 t3 fun t15 =>
   p.fadr 0 t15 fun t16 =>
   p.load false 1 t16 H fun t17 =>
   p.call 4 (.fn 50 [] []) [t17, (si 1), (si 65535)] H fun t18 H =>
   p.un .not t18 fun t19 =>
   p.gF t19 H (p.fadr 1 t1) fun t21 H =>
   p.gF t19 H (p.load false 1 t21 H) fun t22 H =>
   p.kF t19 H t3 fun t23 H =>
   p.gF t19 H (p.iadr 6 t22 t23) fun t24 H =>
   p.gF t19 H (p.fadr 1 t24) fun t25 H =>
   p.gF t19 H (p.load true 4 t25 H) fun t26 H =>
   p.hF t19 H (p.call 4 (.fn 51 [] []) [t26] H) fun t27 H =>
   p.gF t19 H (p.un .not t27) fun t28 H =>
   p.pick t19 bT t28 fun t29 =>
   p.gF t29 H (p.fadr 1 t1) fun t31 H =>
   p.gF t29 H (p.load false 1 t31 H) fun t32 H =>
   p.kF t29 H t3 fun t33 H =>
   p.gF t29 H (p.iadr 6 t32 t33) fun t34 H =>
   p.gF t29 H (p.load true 6 t34 H) fun t35 H =>
   p.hF t29 H (p.call 4 (.fn 52 [] []) [t35] H) fun t36 H =>
   p.gF t29 H (p.un .not t36) fun t37 H =>
   p.pick t29 bT t37 fun t38 =>
   p.cond t38
   (k bF H)
   (Q8 p n (Nh p n  k m) k n t1 t3 i0 H))
   (p.fadr 0 t1 fun t57 =>
   p.load false 1 t57 H fun t58 =>
   p.call 4 (.fn 50 [] []) [t58, i0, (si 65535)] H fun t59 H =>
   p.gT t59 H (p.fadr 1 t1) fun t61 H =>
   p.gT t59 H (p.load false 1 t61 H) fun t62 H =>
   p.gT t59 H (p.len t62) fun t63 H =>
   p.gT t59 H (p.bin .leq t63 (si 3)) fun t64 H =>
   p.pick t59 t64 bF fun t65 =>
   p.gT t65 H (p.fadr 2 t1) fun t67 H =>
   p.gT t65 H (p.load false 1 t67 H) fun t68 H =>
   p.hT t65 H (p.call 4 (.fn 53 [] []) [t68] H) fun t69 H =>
   p.pick t65 t69 bF fun t70 =>
   k t70 H)
noncomputable def f11 (n : Nat) (a0 : AV) (H : Ab) (k : KO β) : Option β :=
 p.box a0 H fun t1 H =>
 Nh p n  k n t1 i0 H
noncomputable def Ac4 (p : Pr β) (n : Nat) (g0 : AV → KO β) (k : KO β) (m : Nat) (tm : Tm) (H : Ab) : Option β :=
 Dz 71 (fun tm H k => Al Aq p o11 71 n (cd c11 [1, 0, 1, 0, 0, 1, 0, 0, 1, 1, 0, 0]) tm H k) (Ew 2 (Ew 1 (Ei (fun tm H => Al Aq p o11 71 n (cd c11 [1, 0, 1, 0, 0, 1, 1]) tm H (Ei (fun tm H => g0 (gt tm 1) (gt tm 3) H) (Ew 0 (Ei (fun tm H => Al Aq p o11 71 n (cd c11 [1, 1]) tm H (C9 Aq p fi11.results k)) (C9 Aq p fi11.results k))))) (Ei (fun tm H => g0 (gt tm 1) (gt tm 3) H) (Ew 0 (Ei (fun tm H => Al Aq p o11 71 n (cd c11 [1, 1]) tm H (C9 Aq p fi11.results k)) (C9 Aq p fi11.results k))))))) m tm H
noncomputable def Ac3 (p : Pr β) (n : Nat)  (k : KO β) (m : Nat) (tm : Tm) (H : Ab) : Option β :=
 Dz 71 (fun tm H k => Al Aq p o11 71 n (cd c11 [1, 0, 1, 0, 0]) tm H k) (Ew 0 (Ei (fun tm H => Al Aq p o11 71 n (cd c11 [1, 1]) tm H (C9 Aq p fi11.results k)) (C9 Aq p fi11.results k))) m tm H
theorem Abj (p : Pr β) (n : Nat) (g0 : AV → KO β) (k : KO β) (m1 : Nat) : ∀ (t : Nat → AV) (H : Ab), Ac4 p n g0 k m1 (tf 71 0 t) H = Q8 p n g0 k m1 (t 1) (t 3) (t 4) H := by
 induction m1 with
 | zero => intros; rfl
 | succ m1 ih =>
  intro t H
  refine Eq.trans (B8 (nt := 71) (m := m1) (g := fun t H => Q8 p n g0 k m1 (t 1) (t 3) (t 4) H) ih rfl) ?_
  kernel_rfl
theorem Wd (p : Pr β) (n : Nat)  (k : KO β) (m0 : Nat) (t : Nat → AV) (H : Ab) : Al Aq p o11 71 n (cd c11 [1, 0, 1, 0, 0]) (tf 71 0 t) H (Ei (fun tm H => Nh p n  k m0 (gt tm 1) (gt tm 3) H) (Ew 0 (Ei (fun tm H => Al Aq p o11 71 n (cd c11 [1, 1]) tm H (C9 Aq p fi11.results k)) (C9 Aq p fi11.results k)))) =
 p.fadr 1 (t 1) fun t6 =>
 p.load false 1 t6 H fun t7 =>
 p.len t7 fun t8 =>
 p.bin .lss (t 3) t8 fun t9 =>
 p.cond t9
 (p.fadr 1 (t 1) fun t12 =>
 p.load false 1 t12 H fun t13 =>
 p.iadr 6 t13 (t 3) fun t15 =>
 p.fadr 0 t15 fun t16 =>
 p.load false 1 t16 H fun t17 =>
 p.call 4 (.fn 50 [] []) [t17, (si 1), (si 65535)] H fun t18 H =>
 p.un .not t18 fun t19 =>
 p.gF t19 H (p.fadr 1 (t 1)) fun t21 H =>
 p.gF t19 H (p.load false 1 t21 H) fun t22 H =>
 p.kF t19 H (t 3) fun t23 H =>
 p.gF t19 H (p.iadr 6 t22 t23) fun t24 H =>
 p.gF t19 H (p.fadr 1 t24) fun t25 H =>
 p.gF t19 H (p.load true 4 t25 H) fun t26 H =>
 p.hF t19 H (p.call 4 (.fn 51 [] []) [t26] H) fun t27 H =>
 p.gF t19 H (p.un .not t27) fun t28 H =>
 p.pick t19 bT t28 fun t29 =>
 p.gF t29 H (p.fadr 1 (t 1)) fun t31 H =>
 p.gF t29 H (p.load false 1 t31 H) fun t32 H =>
 p.kF t29 H (t 3) fun t33 H =>
 p.gF t29 H (p.iadr 6 t32 t33) fun t34 H =>
 p.gF t29 H (p.load true 6 t34 H) fun t35 H =>
 p.hF t29 H (p.call 4 (.fn 52 [] []) [t35] H) fun t36 H =>
 p.gF t29 H (p.un .not t36) fun t37 H =>
 p.pick t29 bT t37 fun t38 =>
 p.cond t38
 (k bF H)
 (Ac4 p n (Nh p n  k m0) k n (tf 71 0 (ud [(4, i0), (5, (t 3)), (6, t6), (7, t7), (8, t8), (9, t9), (12, t12), (13, t13), (14, (t 3)), (15, t15), (16, t16), (17, t17), (18, t18), (19, t19), (20, t19), (21, t21), (22, t22), (23, t23), (24, t24), (25, t25), (26, t26), (27, t27), (28, t28), (29, t29), (30, t29), (31, t31), (32, t32), (33, t33), (34, t34), (35, t35), (36, t36), (37, t37), (38, t38)] t)) H))
 (p.fadr 0 (t 1) fun t57 =>
 p.load false 1 t57 H fun t58 =>
 p.call 4 (.fn 50 [] []) [t58, i0, (si 65535)] H fun t59 H =>
 p.gT t59 H (p.fadr 1 (t 1)) fun t61 H =>
 p.gT t59 H (p.load false 1 t61 H) fun t62 H =>
 p.gT t59 H (p.len t62) fun t63 H =>
 p.gT t59 H (p.bin .leq t63 (si 3)) fun t64 H =>
 p.pick t59 t64 bF fun t65 =>
 p.gT t65 H (p.fadr 2 (t 1)) fun t67 H =>
 p.gT t65 H (p.load false 1 t67 H) fun t68 H =>
 p.hT t65 H (p.call 4 (.fn 53 [] []) [t68] H) fun t69 H =>
 p.pick t65 t69 bF fun t70 =>
 k t70 H) := by kernel_rfl
theorem Abi (p : Pr β) (n : Nat)  (k : KO β) (m0 : Nat) : ∀ (t : Nat → AV) (H : Ab), Ac3 p n  k m0 (tf 71 0 t) H = Nh p n  k m0 (t 1) (t 3) H := by
 induction m0 with
 | zero => intros; rfl
 | succ m0 ih =>
  intro t H
  refine Eq.trans (B8 (nt := 71) (m := m0) (g := fun t H => Nh p n  k m0 (t 1) (t 3) H) ih rfl) ?_
  refine Eq.trans (Wd p n  k m0 t H) ?_
  simp only [Abj]
  kernel_rfl
theorem Aff (p : Pr β) (n : Nat) (a0 : AV) (H : Ab) (k : KO β) : Cl Aq p n fi11 [a0] H k =
 p.box a0 H fun t1 H =>
 Ac3 p n  k n (tf 71 0 (ud [(0, a0), (1, t1), (2, bF), (3, i0)] ut)) H := by kernel_rfl
theorem Ac5 : H4 fi11 @f11 := fun p n a0 H k => by
 rw [Aff]
 simp only [Abi]
 kernel_rfl
noncomputable def Rd (p : Pr β) (n : Nat)  (k : KO β) : Nat → AV → KO β
 | 0, _, _, _ => none
 | m + 1, t0, t3, H => p.len t0 fun t6 =>
   p.bin .lss t3 t6 fun t7 =>
   p.cond t7
   (p.iadr 1 t0 t3 fun t12 =>
   p.load false 1 t12 H fun t13 =>
   p.call 4 (.fn 50 [] []) [t13, (si 1), (si 65535)] H fun t14 H =>
   p.un .not t14 fun t15 =>
   p.kF t15 H t3 fun t17 H =>
   p.gF t15 H (p.bin .gtr t17 i0) fun t18 H =>
   p.kF t15 H t18 fun t19 H =>
   p.kT t19 H t0 fun t20 H =>
   p.kT t19 H t3 fun t21 H =>
   p.gT t19 H (p.bin .sub t21 (si 1)) fun t22 H =>
   p.gT t19 H (p.iadr 1 t20 t22) fun t23 H =>
   p.gT t19 H (p.load false 1 t23 H) fun t24 H =>
   p.kT t19 H t0 fun t25 H =>
   p.kT t19 H t3 fun t26 H =>
   p.gT t19 H (p.iadr 1 t25 t26) fun t27 H =>
   p.gT t19 H (p.load false 1 t27 H) fun t28 H =>
   p.gT t19 H (p.bin .geq t24 t28) fun t29 H =>
   p.gF t15 H (p.pick t19 t29 bF) fun t30 H =>
   p.pick t15 bT t30 fun t31 =>
   p.cond t31
   (k bF H)
   (p.bin .add t3 (si 1) fun t9 =>
   Rd p n  k m t0 t9 H))
   (p.len t0 fun t33 =>
   p.bin .leq t33 (si 4) fun t34 =>
   k t34 H)
noncomputable def f83 (n : Nat) (a0 : AV) (H : Ab) (k : KO β) : Option β :=
 Rd p n  k n a0 i0 H
noncomputable def Ady (p : Pr β) (n : Nat)  (k : KO β) (m : Nat) (tm : Tm) (H : Ab) : Option β :=
 Dz 35 (fun tm H k => Al Aq p o83 35 n (cd c83 [1, 0, 1, 0, 0]) tm H k) (Ew 0 (Ei (fun tm H => Al Aq p o83 35 n (cd c83 [1, 1]) tm H (C9 Aq p fi83.results k)) (C9 Aq p fi83.results k))) m tm H
theorem Ab4 (p : Pr β) (n : Nat)  (k : KO β) (m0 : Nat) : ∀ (t : Nat → AV) (H : Ab), Ady p n  k m0 (tf 35 0 t) H = Rd p n  k m0 (t 0) (t 3) H := by
 induction m0 with
 | zero => intros; rfl
 | succ m0 ih =>
  intro t H
  refine Eq.trans (B8 (nt := 35) (m := m0) (g := fun t H => Rd p n  k m0 (t 0) (t 3) H) ih rfl) ?_
  kernel_rfl
theorem Af1 (p : Pr β) (n : Nat) (a0 : AV) (H : Ab) (k : KO β) : Cl Aq p n fi83 [a0] H k =
 Ady p n  k n (tf 35 0 (ud [(0, a0), (2, bF), (3, i0)] ut)) H := by kernel_rfl
theorem Adz : H4 fi83 @f83 := fun p n a0 H k => by
 rw [Af1]
 simp only [Ab4]
 kernel_rfl
noncomputable def f32 (n : Nat) (a0 : AV) (H : Ab) (k : KO β) : Option β :=
 p.box a0 H fun t1 H =>
 p.fadr 3 t1 fun t3 =>
 p.load false 1 t3 H fun t4 =>
 p.bin .eql t4 (si (-1)) fun t5 =>
 p.gT t5 H (p.fadr 2 t1) fun t7 H =>
 p.gT t5 H (p.load false 1 t7 H) fun t8 H =>
 p.kT t5 H t8 fun t9 H =>
 p.gF t9 H (p.fadr 4 t1) fun t10 H =>
 p.gF t9 H (p.load false 1 t10 H) fun t11 H =>
 p.gF t9 H (p.bin .neq t11 i0) fun t12 H =>
 p.gT t5 H (p.pick t9 bT t12) fun t13 H =>
 p.pick t5 t13 bF fun t14 =>
 p.cond t14
 (k bF H)
 (p.fadr 0 t1 fun t15 =>
 p.load false 1 t15 H fun t16 =>
 p.call 4 (.fn 82 [] []) [t16] H fun t17 H =>
 p.gT t17 H (p.fadr 0 t1) fun t19 H =>
 p.gT t17 H (p.load false 1 t19 H) fun t20 H =>
 p.gT t17 H (p.bin .neq t20 sE) fun t21 H =>
 p.pick t17 t21 bF fun t22 =>
 p.gT t22 H (p.fadr 1 t1) fun t24 H =>
 p.gT t22 H (p.load false 1 t24 H) fun t25 H =>
 p.gT t22 H (p.bin .geq t25 i0) fun t26 H =>
 p.pick t22 t26 bF fun t27 =>
 p.gT t27 H (p.fadr 3 t1) fun t29 H =>
 p.gT t27 H (p.load false 1 t29 H) fun t30 H =>
 p.hT t27 H (p.call 4 (.fn 50 [] []) [t30, (si (-1)), (si 3)] H) fun t31 H =>
 p.pick t27 t31 bF fun t32 =>
 p.gT t32 H (p.fadr 4 t1) fun t34 H =>
 p.gT t32 H (p.load false 1 t34 H) fun t35 H =>
 p.gT t32 H (p.bin .geq t35 i0) fun t36 H =>
 p.pick t32 t36 bF fun t37 =>
 p.gT t37 H (p.fadr 5 t1) fun t39 H =>
 p.gT t37 H (p.load true 3 t39 H) fun t40 H =>
 p.hT t37 H (p.call 4 (.fn 11 [] []) [t40] H) fun t41 H =>
 p.pick t37 t41 bF fun t42 =>
 p.gT t42 H (p.fadr 8 t1) fun t44 H =>
 p.gT t42 H (p.load false 1 t44 H) fun t45 H =>
 p.hT t42 H (p.call 4 (.fn 83 [] []) [t45] H) fun t46 H =>
 p.pick t42 t46 bF fun t47 =>
 k t47 H)
theorem AcK : H4 AiM @f32 := fun p n a0 H k => by kernel_rfl
noncomputable def f33 (n : Nat) (a0 a1 a2 a3 a4 : AV) (H : Ab) (k : KO β) : Option β :=
 p.new [sE, i0, bF, i0, i0, i0, .nl, .nl, .nl] H fun t10 H =>
 p.fill [sE, i0, bF, i0, i0, i0, .nl, .nl, .nl] [(0, 1, a0), (1, 1, a1), (2, 1, a2), (3, 1, a3), (4, 1, a4)] fun ct17 =>
 p.new [sE, i0, bF, i0, i0, i0, .nl, .nl, .nl] H fun t11 H =>
 p.store 9 t11 (.agg ct17) H fun H =>
 p.load true 9 t11 H fun t18 =>
 p.call 4 (.fn 32 [] []) [t18] H fun t19 H =>
 p.un .not t19 fun t20 =>
 p.cond t20
 (p.fill [sE, i0, bF, i0, i0, i0, .nl, .nl, .nl] [] fun ct21 =>
 p.store 9 t10 (.agg ct21) H fun H =>
 p.load true 9 t10 H fun r0 =>
 k r0 H)
 (p.load true 9 t11 H fun t22 =>
 p.store 9 t10 t22 H fun H =>
 p.load true 9 t10 H fun r0 =>
 k r0 H)
theorem AcL : Bd5 AiN @f33 := fun p n a0 a1 a2 a3 a4 H k => by kernel_rfl
noncomputable def f101 (n : Nat) (a0 : AV) (H : Ab) (k : KO β) : Option β :=
 p.box a0 H fun t1 H =>
 p.new [sE, .nl, i0, bF] H fun t2 H =>
 p.fadr 0 t1 fun t3 =>
 p.load false 1 t3 H fun t4 =>
 p.fadr 1 t1 fun t6 =>
 p.load false 1 t6 H fun t7 =>
 p.fadr 2 t1 fun t9 =>
 p.load false 1 t9 H fun t10 =>
 p.fadr 3 t1 fun t11 =>
 p.load false 1 t11 H fun t12 =>
 p.app 1 1 .nl t7 H fun t8 H =>
 p.fill [sE, .nl, i0, bF] [(0, 1, t4), (1, 1, t8), (2, 1, t10), (3, 1, t12)] fun ct13 =>
 p.store 4 t2 (.agg ct13) H fun H =>
 p.load true 4 t2 H fun r0 =>
 k r0 H
theorem AaT : H4 Ag3 @f101 := fun p n a0 H k => by kernel_rfl
noncomputable def K9 (p : Pr β) (n : Nat)  (k : KO β) : Nat → AV → AV → KO β
 | 0, _, _, _, _ => none
 | m + 1, t0, t3, t4, H => p.len t0 fun t8 =>
   p.bin .lss t4 t8 fun t9 =>
   p.cond t9
   (p.iadr 4 t0 t4 fun t15 =>
   p.load true 4 t15 H fun t16 =>
   p.call 33 (.fn 101 [] []) [t16] H fun t17 H =>
   p.fill [sE, .nl, i0, bF] [(0, 4, t17)] fun ct18 => p.newSl 1 4 ct18 true H fun t18 H =>
   p.app 4 56 t3 t18 H fun t19 H =>
   p.bin .add t4 (si 1) fun t11 =>
   K9 p n  k m t0 t19 t11 H)
   (k t3 H)
noncomputable def f100 (n : Nat) (a0 : AV) (H : Ab) (k : KO β) : Option β :=
 K9 p n  k n a0 .nl i0 H
noncomputable def Aaa (p : Pr β) (n : Nat)  (k : KO β) (m : Nat) (tm : Tm) (H : Ab) : Option β :=
 Dz 21 (fun tm H k => Al Aq p [] 21 n (cd AgZ [1, 1, 0, 1, 0, 0]) tm H k) (Ew 0 (Ei (fun tm H => Al Aq p [] 21 n (cd AgZ [1, 1, 1]) tm H (C9 Aq p fi100.results k)) (C9 Aq p fi100.results k))) m tm H
theorem Yd (p : Pr β) (n : Nat)  (k : KO β) (m0 : Nat) : ∀ (t : Nat → AV) (H : Ab), Aaa p n  k m0 (tf 21 0 t) H = K9 p n  k m0 (t 0) (t 3) (t 4) H := by
 induction m0 with
 | zero => intros; rfl
 | succ m0 ih =>
  intro t H
  refine Eq.trans (B8 (nt := 21) (m := m0) (g := fun t H => K9 p n  k m0 (t 0) (t 3) (t 4) H) ih rfl) ?_
  kernel_rfl
theorem Acs (p : Pr β) (n : Nat) (a0 : AV) (H : Ab) (k : KO β) : Cl Aq p n fi100 [a0] H k =
 Aaa p n  k n (tf 21 0 (ud [(0, a0), (2, .nl), (3, .nl), (4, i0), (5, .nl)] ut)) H := by kernel_rfl
theorem AaS : H4 fi100 @f100 := fun p n a0 H k => by
 rw [Acs]
 simp only [Yd]
 kernel_rfl
noncomputable def Pd (p : Pr β) (n : Nat)  (k : KO β) : Nat → AV → AV → AV → KO β
 | 0, _, _, _, _, _ => none
 | m + 1, t1, t2, t3, t4, H => p.fadr 1 t1 fun t12 =>
   p.load false 1 t12 H fun t13 =>
   p.len t13 fun t14 =>
   p.bin .lss t4 t14 fun t15 =>
   p.cond t15
   (p.fadr 1 t3 fun t18 =>
   p.load false 1 t18 H fun t19 =>
   p.fadr 1 t1 fun t20 =>
   p.load false 1 t20 H fun t21 =>
   p.iadr 6 t21 t4 fun t23 =>
   p.fadr 0 t23 fun t24 =>
   p.load false 1 t24 H fun t25 =>
   p.fadr 1 t1 fun t26 =>
   p.load false 1 t26 H fun t27 =>
   p.iadr 6 t27 t4 fun t29 =>
   p.fadr 1 t29 fun t30 =>
   p.load true 4 t30 H fun t31 =>
   p.fadr 1 t1 fun t33 =>
   p.load false 1 t33 H fun t34 =>
   p.iadr 6 t34 t4 fun t36 =>
   p.fadr 5 t36 fun t37 =>
   p.load false 1 t37 H fun t38 =>
   p.call 33 (.fn 101 [] []) [t31] H fun t32 H =>
   p.fill [i0, sE, .nl, i0, bF, i0] [(0, 1, t25), (1, 4, t32), (5, 1, t38)] fun ct39 =>
   p.fill [i0, sE, .nl, i0, bF, i0] [(0, 6, (.agg ct39))] fun ct40 => p.newSl 1 6 ct40 true H fun t40 H =>
   p.app 6 72 t19 t40 H fun t41 H =>
   p.fadr 1 t3 fun t42 =>
   p.store 1 t42 t41 H fun H =>
   p.bin .add t4 (si 1) fun t17 =>
   Pd p n  k m t1 t2 t3 t17 H)
   (p.load true 3 t3 H fun t43 =>
   p.store 3 t2 t43 H fun H =>
   p.load true 3 t2 H fun r0 =>
   k r0 H)
noncomputable def f64 (n : Nat) (a0 : AV) (H : Ab) (k : KO β) : Option β :=
 p.box a0 H fun t1 H =>
 p.new [i0, .nl, .nl] H fun t2 H =>
 p.fadr 0 t1 fun t5 =>
 p.load false 1 t5 H fun t6 =>
 p.fadr 2 t1 fun t7 =>
 p.load false 1 t7 H fun t8 =>
 p.both
 (p.call 25 (.fn 100 [] []) [t8] H fun t9 H =>
 p.fill [i0, .nl, .nl] [(0, 1, t6), (2, 1, t9)] fun ct10 =>
 p.new [i0, .nl, .nl] H fun t3 H =>
 p.store 3 t3 (.agg ct10) H fun H =>
 Pd p n  k n t1 t2 t3 i0 H)
 (p.new [i0, .nl, .nl] H fun t3 H =>
 p.call 25 (.fn 100 [] []) [t8] H fun t9 H =>
 p.fill [i0, .nl, .nl] [(0, 1, t6), (2, 1, t9)] fun ct10 =>
 p.store 3 t3 (.agg ct10) H fun H =>
 Pd p n  k n t1 t2 t3 i0 H)
noncomputable def Yu (p : Pr β) (n : Nat)  (k : KO β) (m : Nat) (tm : Tm) (H : Ab) : Option β :=
 Dz 44 (fun tm H k => Al Aq p o64 44 n (cd c64 [1, 1, 0, 1, 0, 0]) tm H k) (Ew 0 (Ei (fun tm H => Al Aq p o64 44 n (cd c64 [1, 1, 1]) tm H (C9 Aq p fi64.results k)) (C9 Aq p fi64.results k))) m tm H
theorem Ab2 (p : Pr β) (n : Nat)  (k : KO β) (m0 : Nat) : ∀ (t : Nat → AV) (H : Ab), Yu p n  k m0 (tf 44 0 t) H = Pd p n  k m0 (t 1) (t 2) (t 3) (t 4) H := by
 induction m0 with
 | zero => intros; rfl
 | succ m0 ih =>
  intro t H
  refine Eq.trans (B8 (nt := 44) (m := m0) (g := fun t H => Pd p n  k m0 (t 1) (t 2) (t 3) (t 4) H) ih rfl) ?_
  kernel_rfl
theorem Afy (p : Pr β) (n : Nat) (a0 : AV) (H : Ab) (k : KO β) : Cl Aq p n fi64 [a0] H k =
 p.box a0 H fun t1 H =>
 p.new [i0, .nl, .nl] H fun t2 H =>
 p.fadr 0 t1 fun t5 =>
 p.load false 1 t5 H fun t6 =>
 p.fadr 2 t1 fun t7 =>
 p.load false 1 t7 H fun t8 =>
 p.both
 (p.call 25 (.fn 100 [] []) [t8] H fun t9 H =>
 p.fill [i0, .nl, .nl] [(0, 1, t6), (2, 1, t9)] fun ct10 =>
 p.new [i0, .nl, .nl] H fun t3 H =>
 p.store 3 t3 (.agg ct10) H fun H =>
 Yu p n  k n (tf 44 0 (ud [(0, a0), (1, t1), (2, t2), (3, t3), (4, i0), (5, t5), (6, t6), (7, t7), (8, t8), (9, t9), (10, (.agg ct10))] ut)) H)
 (p.new [i0, .nl, .nl] H fun t3 H =>
 p.call 25 (.fn 100 [] []) [t8] H fun t9 H =>
 p.fill [i0, .nl, .nl] [(0, 1, t6), (2, 1, t9)] fun ct10 =>
 p.store 3 t3 (.agg ct10) H fun H =>
 Yu p n  k n (tf 44 0 (ud [(0, a0), (1, t1), (2, t2), (3, t3), (4, i0), (5, t5), (6, t6), (7, t7), (8, t8), (9, t9), (10, (.agg ct10))] ut)) H) := by kernel_rfl
theorem Adk : H4 fi64 @f64 := fun p n a0 H k => by
 rw [Afy]
 simp only [Ab2]
 kernel_rfl
noncomputable def f75 (n : Nat) (a0 : AV) (H : Ab) (k : KO β) : Option β :=
 p.box a0 H fun t1 H =>
 p.new [sE, i0, bF, i0, i0, i0, .nl, .nl, .nl] H fun t2 H =>
 p.load true 9 t1 H fun t4 =>
 p.new [sE, i0, bF, i0, i0, i0, .nl, .nl, .nl] H fun t3 H =>
 p.store 9 t3 t4 H fun H =>
 p.fadr 5 t1 fun t5 =>
 p.load true 3 t5 H fun t6 =>
 p.call 27 (.fn 64 [] []) [t6] H fun t7 H =>
 p.fadr 5 t3 fun t8 =>
 p.store 3 t8 t7 H fun H =>
 p.fadr 8 t1 fun t10 =>
 p.load false 1 t10 H fun t11 =>
 p.app 1 8 .nl t11 H fun t12 H =>
 p.fadr 8 t3 fun t13 =>
 p.store 1 t13 t12 H fun H =>
 p.load true 9 t3 H fun t14 =>
 p.store 9 t2 t14 H fun H =>
 p.load true 9 t2 H fun r0 =>
 k r0 H
theorem Adq : H4 Ajk @f75 := fun p n a0 H k => by kernel_rfl
noncomputable def f125 (n : Nat) (a0 : AV) (H : Ab) (k : KO β) : Option β :=
 p.box a0 H fun t1 H =>
 p.new [sE, i0, bF, i0, i0, i0, .nl, .nl, .nl] H fun t2 H =>
 p.load true 9 t1 H fun t4 =>
 p.ca 53 75 [t4] H fun t5 H =>
 p.new [sE, i0, bF, i0, i0, i0, .nl, .nl, .nl] H fun t3 H =>
 p.store 9 t3 t5 H fun H =>
 p.load true 9 t1 H fun t6 =>
 p.ca 4 32 [t6] H fun t7 H =>
 p.lT t7 H 2 t1 1 fun t10 H =>
 p.gT t7 H (p.un .not t10) fun t11 H =>
 p.pick t7 t11 bF fun t12 =>
 M2 (fun (t2 t3 : AV) (H : Ab) => p.load true 9 t3 H fun t15 =>
 p.store 9 t2 t15 H fun H =>
 p.load true 9 t2 H fun r0 =>
 k r0 H) fun j1 =>
 p.cond t12
 (p.fadr 3 t3 fun t13 =>
 p.store 1 t13 (si (-1)) H fun H =>
 p.fs 4 t3 1 i0 H fun H =>
 j1 t2 t3 H)
 (j1 t2 t3 H)
theorem Abo : H4 AgD @f125 := fun p n a0 H k => by kernel_rfl
noncomputable def f61 (n : Nat) (a0 a1 : AV) (H : Ab) (k : KO β) : Option β :=
 p.len a1 fun t8 =>
 p.call 3 (.fn 59 [] []) [a0, t8] H fun t9 H =>
 p.iadr 1 a1 t9 fun t10 =>
 p.load false 1 t10 H fun t11 =>
 k t11 H
theorem Adi : Tf Aje @f61 := fun p n a0 a1 H k => by kernel_rfl
noncomputable def f123 (n : Nat) (a0 : AV) (H : Ab) (k : KO β) : Option β :=
 p.fill [sE, sE, sE, sE, sE, sE, sE, sE, sE, sE, sE, sE, sE] [(0, 1, (.sc (.string ⟨#[97]⟩))), (1, 1, (.sc (.string ⟨#[98]⟩))), (2, 1, (.sc (.string ⟨#[97, 47, 98]⟩))), (3, 1, (.sc (.string ⟨#[97, 47, 99]⟩))), (4, 1, (.sc (.string ⟨#[97, 47, 98, 47, 99]⟩))), (5, 1, (.sc (.string ⟨#[97, 47, 98, 47, 99, 47, 100]⟩))), (6, 1, (.sc (.string ⟨#[36, 115]⟩))), (7, 1, (.sc (.string ⟨#[36, 115, 47, 97]⟩))), (8, 1, (.sc (.string ⟨#[47]⟩))), (9, 1, (.sc (.string ⟨#[97, 47]⟩))), (10, 1, (.sc (.string ⟨#[47, 97]⟩))), (11, 1, (.sc (.string ⟨#[98, 47, 98]⟩))), (12, 1, (.sc (.string ⟨#[195, 169, 47, 97]⟩)))] fun ct4 => p.newSl 13 1 ct4 true H fun t4 H =>
 p.call 9 (.fn 107 [] []) [a0, t4] H fun t5 H =>
 k t5 H
theorem Abm : H4 AgB @f123 := fun p n a0 H k => by kernel_rfl
noncomputable def La (p : Pr β) (n : Nat)  (k : KO β) : Nat → AV → AV → AV → KO β
 | 0, _, _, _, _, _ => none
 | m + 1, t0, t1, t5, t6, H => p.bin .lss t6 t1 fun t10 =>
   p.cond t10
   (p.call 3 (.fn 97 [] []) [t0] H fun t15 H =>
   p.cvI .u8 t15 fun t16 =>
   p.fill [(su 0)] [(0, 1, t16)] fun ct17 => p.newSl 1 1 ct17 true H fun t17 H =>
   p.app 1 1 t5 t17 H fun t18 H =>
   p.bin .add t6 (si 1) fun t12 =>
   La p n  k m t0 t1 t18 t12 H)
   (k t5 H)
noncomputable def f105 (n : Nat) (a0 a1 : AV) (H : Ab) (k : KO β) : Option β :=
 La p n  k n a0 a1 .nl i0 H
noncomputable def Aab (p : Pr β) (n : Nat)  (k : KO β) (m : Nat) (tm : Tm) (H : Ab) : Option β :=
 Dz 20 (fun tm H k => Al Aq p [] 20 n (cd Aha [1, 1, 0, 1, 0, 0]) tm H k) (Ew 0 (Ei (fun tm H => Al Aq p [] 20 n (cd Aha [1, 1, 1]) tm H (C9 Aq p fi105.results k)) (C9 Aq p fi105.results k))) m tm H
theorem Yh (p : Pr β) (n : Nat)  (k : KO β) (m0 : Nat) : ∀ (t : Nat → AV) (H : Ab), Aab p n  k m0 (tf 20 0 t) H = La p n  k m0 (t 0) (t 1) (t 5) (t 6) H := by
 induction m0 with
 | zero => intros; rfl
 | succ m0 ih =>
  intro t H
  refine Eq.trans (B8 (nt := 20) (m := m0) (g := fun t H => La p n  k m0 (t 0) (t 1) (t 5) (t 6) H) ih rfl) ?_
  kernel_rfl
theorem Acv (p : Pr β) (n : Nat) (a0 a1 : AV) (H : Ab) (k : KO β) : Cl Aq p n fi105 [a0, a1] H k =
 Aab p n  k n (tf 20 0 (ud [(0, a0), (1, a1), (4, .nl), (5, .nl), (6, i0), (7, .nl)] ut)) H := by kernel_rfl
theorem AaX : Tf fi105 @f105 := fun p n a0 a1 H k => by
 rw [Acv]
 simp only [Yh]
 kernel_rfl
noncomputable def f103 (n : Nat) (a0 : AV) (H : Ab) (k : KO β) : Option β :=
 p.new [sE, .nl, i0, bF] H fun t2 H =>
 p.call 9 (.fn 123 [] []) [a0] H fun t4 H =>
 p.call 3 (.fn 59 [] []) [a0, (si 3)] H fun t7 H =>
 p.call 22 (.fn 105 [] []) [a0, t7] H fun t8 H =>
 p.call 3 (.fn 59 [] []) [a0, (si 3)] H fun t10 H =>
 p.call 4 (.fn 60 [] []) [a0, (si 4)] H fun t12 H =>
 p.fill [sE, .nl, i0, bF] [(0, 1, t4), (1, 1, t8), (2, 1, t10), (3, 1, t12)] fun ct13 =>
 p.store 4 t2 (.agg ct13) H fun H =>
 p.load true 4 t2 H fun r0 =>
 k r0 H
theorem AaV : H4 Ag4 @f103 := fun p n a0 H k => by kernel_rfl
noncomputable def Lb (p : Pr β) (n : Nat)  (k : KO β) : Nat → AV → AV → KO β
 | 0, _, _, _, _ => none
 | m + 1, t0, t5, t6, H => p.bin .gtr t6 i0 fun t13 =>
   p.cond t13
   (p.call 33 (.fn 103 [] []) [t0] H fun t18 H =>
   p.fill [sE, .nl, i0, bF] [(0, 4, t18)] fun ct19 => p.newSl 1 4 ct19 true H fun t19 H =>
   p.app 4 56 t5 t19 H fun t20 H =>
   p.bin .sub t6 (si 1) fun t15 =>
   Lb p n  k m t0 t20 t15 H)
   (k t5 H)
noncomputable def f112 (n : Nat) (a0 a1 : AV) (H : Ab) (k : KO β) : Option β :=
 p.bin .add a1 (si 1) fun t10 =>
 p.call 3 (.fn 59 [] []) [a0, t10] H fun t11 H =>
 Lb p n  k n a0 .nl t11 H
noncomputable def Aad (p : Pr β) (n : Nat)  (k : KO β) (m : Nat) (tm : Tm) (H : Ab) : Option β :=
 Dz 22 (fun tm H k => Al Aq p [] 22 n (cd Ahc [1, 1, 0, 1, 0, 0]) tm H k) (Ew 0 (Ei (fun tm H => Al Aq p [] 22 n (cd Ahc [1, 1, 1]) tm H (C9 Aq p fi112.results k)) (C9 Aq p fi112.results k))) m tm H
theorem Yj (p : Pr β) (n : Nat)  (k : KO β) (m0 : Nat) : ∀ (t : Nat → AV) (H : Ab), Aad p n  k m0 (tf 22 0 t) H = Lb p n  k m0 (t 0) (t 5) (t 6) H := by
 induction m0 with
 | zero => intros; rfl
 | succ m0 ih =>
  intro t H
  refine Eq.trans (B8 (nt := 22) (m := m0) (g := fun t H => Lb p n  k m0 (t 0) (t 5) (t 6) H) ih rfl) ?_
  kernel_rfl
theorem Acz (p : Pr β) (n : Nat) (a0 a1 : AV) (H : Ab) (k : KO β) : Cl Aq p n fi112 [a0, a1] H k =
 p.bin .add a1 (si 1) fun t10 =>
 p.call 3 (.fn 59 [] []) [a0, t10] H fun t11 H =>
 Aad p n  k n (tf 22 0 (ud [(0, a0), (1, a1), (4, .nl), (5, .nl), (6, t11), (7, .nl), (8, a0), (9, a1), (10, t10), (11, t11)] ut)) H := by kernel_rfl
theorem Abe : Tf fi112 @f112 := fun p n a0 a1 H k => by
 rw [Acz]
 simp only [Yj]
 kernel_rfl
noncomputable def f39 (n : Nat) (a0 : AV) (H : Ab) (k : KO β) : Option β :=
 p.box a0 H fun t1 H =>
 p.load true 3 t1 H fun t3 =>
 p.call 4 (.fn 11 [] []) [t3] H fun t4 H =>
 p.gT t4 H (p.fadr 2 t1) fun t6 H =>
 p.gT t4 H (p.load false 1 t6 H) fun t7 H =>
 p.gT t4 H (p.len t7) fun t8 H =>
 p.gT t4 H (p.bin .gtr t8 i0) fun t9 H =>
 p.pick t4 t9 bF fun t10 =>
 p.gT t10 H (p.fadr 2 t1) fun t12 H =>
 p.gT t10 H (p.load false 1 t12 H) fun t13 H =>
 p.gT t10 H (p.iadr 4 t13 i0) fun t14 H =>
 p.gT t10 H (p.fadr 2 t14) fun t15 H =>
 p.gT t10 H (p.load false 1 t15 H) fun t16 H =>
 p.gT t10 H (p.bin .eql t16 i0) fun t17 H =>
 p.kT t10 H t17 fun t18 H =>
 p.gF t18 H (p.fadr 1 t1) fun t19 H =>
 p.gF t18 H (p.load false 1 t19 H) fun t20 H =>
 p.gF t18 H (p.len t20) fun t21 H =>
 p.gF t18 H (p.bin .lss t21 (si 3)) fun t22 H =>
 p.gT t10 H (p.pick t18 bT t22) fun t23 H =>
 p.pick t10 t23 bF fun t24 =>
 k t24 H
theorem AcP : H4 AiP @f39 := fun p n a0 H k => by kernel_rfl
noncomputable def f129 (n : Nat) (a0 : AV) (H : Ab) (k : KO β) : Option β :=
 p.new [sE, .nl, i0, bF] H fun t3 H =>
 p.len a0 fun t6 =>
 p.bin .eql t6 i0 fun t7 =>
 p.cond t7
 (p.fill [sE, .nl, i0, bF] [] fun ct9 =>
 p.store 4 t3 (.agg ct9) H fun H =>
 p.load true 4 t3 H fun r1 =>
 k (Bu [.nl, r1, bF]) H)
 (p.slice 4 a0 (some (si 1)) none fun t11 =>
 p.iadr 4 a0 i0 fun t14 =>
 p.load true 4 t14 H fun t15 =>
 p.call 25 (.fn 100 [] []) [t11] H fun t12 H =>
 p.call 33 (.fn 101 [] []) [t15] H fun t16 H =>
 p.store 4 t3 t16 H fun H =>
 p.load true 4 t3 H fun r1 =>
 k (Bu [t12, r1, bT]) H)
theorem Abr : H4 AgE @f129 := fun p n a0 H k => by kernel_rfl
noncomputable def f130 (n : Nat) (a0 a1 a2 : AV) (H : Ab) (k : KO β) : Option β :=
 p.box a0 H fun t3 H =>
 p.new Qp H fun t6 H =>
 p.fl 2 t3 1 H fun t9 =>
 p.fl 3 t3 1 H fun t11 =>
 p.fl 0 t3 1 H fun t14 =>
 p.fl 1 t3 1 H fun t17 =>
 p.app 1 1 .nl t17 H fun t18 H =>
 p.fill Qp [(0, 1, (si 3)), (1, 1, a2), (2, 1, t9), (3, 1, t11), (4, 1, a1), (5, 1, t14), (6, 1, t18)] fun ct19 =>
 p.store 25 t6 (.agg ct19) H fun H =>
 p.load true 25 t6 H fun r0 =>
 k r0 H
theorem Abt : Bd3 AgF @f130 := fun p n a0 a1 a2 H k => by kernel_rfl
noncomputable def Le (p : Pr β) (n : Nat)  (k : KO β) : Nat → AV → AV → KO β
 | 0, _, _, _, _ => none
 | m + 1, t0, t1, t5, H => p.len t0 fun t8 =>
   p.bin .lss t5 t8 fun t9 =>
   p.cond t9
   (p.iadr 1 t0 t5 fun t14 =>
   p.load false 1 t14 H fun t15 =>
   p.bin .eql t15 t1 fun t17 =>
   p.cond t17
   (k bT H)
   (p.bin .add t5 (si 1) fun t11 =>
   Le p n  k m t0 t1 t11 H))
   (k bF H)
noncomputable def f139 (n : Nat) (a0 a1 : AV) (H : Ab) (k : KO β) : Option β :=
 Le p n  k n a0 a1 i0 H
noncomputable def Aan (p : Pr β) (n : Nat)  (k : KO β) (m : Nat) (tm : Tm) (H : Ab) : Option β :=
 Dz 18 (fun tm H k => Al Aq p [] 18 n (cd Ahj [1, 0, 1, 0, 0]) tm H k) (Ew 0 (Ei (fun tm H => Al Aq p [] 18 n (cd Ahj [1, 1]) tm H (C9 Aq p fi139.results k)) (C9 Aq p fi139.results k))) m tm H
theorem Yr (p : Pr β) (n : Nat)  (k : KO β) (m0 : Nat) : ∀ (t : Nat → AV) (H : Ab), Aan p n  k m0 (tf 18 0 t) H = Le p n  k m0 (t 0) (t 1) (t 5) H := by
 induction m0 with
 | zero => intros; rfl
 | succ m0 ih =>
  intro t H
  refine Eq.trans (B8 (nt := 18) (m := m0) (g := fun t H => Le p n  k m0 (t 0) (t 1) (t 5) H) ih rfl) ?_
  kernel_rfl
theorem AcA (p : Pr β) (n : Nat) (a0 a1 : AV) (H : Ab) (k : KO β) : Cl Aq p n fi139 [a0, a1] H k =
 Aan p n  k n (tf 18 0 (ud [(0, a0), (1, a1), (4, bF), (5, i0)] ut)) H := by kernel_rfl
theorem Abw : Tf fi139 @f139 := fun p n a0 a1 H k => by
 rw [AcA]
 simp only [Yr]
 kernel_rfl
noncomputable def Ka (p : Pr β) (n : Nat)  (k : KO β) : Nat → AV → AV → KO β
 | 0, _, _, _, _ => none
 | m + 1, t1, t6, t7, H => p.len t1 fun t14 =>
   p.bin .leq t7 t14 fun t15 =>
   p.kT t15 H t7 fun t17 H =>
   p.gT t15 H (p.bin .lss t17 (si 65535)) fun t18 H =>
   p.pick t15 t18 bF fun t19 =>
   p.cond t19
   (p.bin .add t6 (si 1) fun t23 =>
   p.bin .gtr t23 (si 65535) fun t25 =>
   M2 (fun (t1 t6 t7 : AV) (H : Ab) => p.call 4 (.fn 139 [] []) [t1, t6] H fun t28 H =>
   p.un .not t28 fun t29 =>
   p.cond t29
   (k (Bu [t6, bT]) H)
   (p.bin .add t7 (si 1) fun t21 =>
   Ka p n  k m t1 t6 t21 H)) fun j1 =>
   p.cond t25
   (j1 t1 (si 1) t7 H)
   (j1 t1 t23 t7 H))
   (k (Bu [i0, bF]) H)
noncomputable def f131 (n : Nat) (a0 a1 : AV) (H : Ab) (k : KO β) : Option β :=
 p.call 4 (.fn 50 [] []) [a0, i0, (si 65535)] H fun t9 H =>
 p.un .not t9 fun t10 =>
 p.cond t10
 (k (Bu [i0, bF]) H)
 (Ka p n  k n a1 a0 i0 H)
noncomputable def Aam (p : Pr β) (n : Nat)  (k : KO β) (m : Nat) (tm : Tm) (H : Ab) : Option β :=
 Dz 31 (fun tm H k => Al Aq p [] 31 n (cd Ahi [1, 1, 1, 0, 1, 0, 0]) tm H k) (Ew 0 (Ei (fun tm H => Al Aq p [] 31 n (cd Ahi [1, 1, 1, 1]) tm H (C9 Aq p fi131.results k)) (C9 Aq p fi131.results k))) m tm H
theorem Yq (p : Pr β) (n : Nat)  (k : KO β) (m0 : Nat) : ∀ (t : Nat → AV) (H : Ab), Aam p n  k m0 (tf 31 0 t) H = Ka p n  k m0 (t 1) (t 6) (t 7) H := by
 induction m0 with
 | zero => intros; rfl
 | succ m0 ih =>
  intro t H
  refine Eq.trans (B8 (nt := 31) (m := m0) (g := fun t H => Ka p n  k m0 (t 1) (t 6) (t 7) H) ih rfl) ?_
  kernel_rfl
theorem Ac9 (p : Pr β) (n : Nat) (a0 a1 : AV) (H : Ab) (k : KO β) : Cl Aq p n fi131 [a0, a1] H k =
 p.call 4 (.fn 50 [] []) [a0, i0, (si 65535)] H fun t9 H =>
 p.un .not t9 fun t10 =>
 p.cond t10
 (k (Bu [i0, bF]) H)
 (Aam p n  k n (tf 31 0 (ud [(0, a0), (1, a1), (4, i0), (5, bF), (6, a0), (7, i0), (8, a0), (9, t9), (10, t10), (11, a0)] ut)) H) := by kernel_rfl
theorem Abu : Tf fi131 @f131 := fun p n a0 a1 H k => by
 rw [Ac9]
 simp only [Yq]
 kernel_rfl
noncomputable def Lc (p : Pr β) (n : Nat)  (k : KO β) : Nat → AV → AV → AV → AV → AV → AV → KO β
 | 0, _, _, _, _, _, _, _, _ => none
 | m + 1, t1, t2, t3, t5, t7, t9, t10, H => p.fadr 1 t1 fun t37 =>
   p.load false 1 t37 H fun t38 =>
   p.len t38 fun t39 =>
   p.bin .lss t10 t39 fun t40 =>
   p.cond t40
   (p.fadr 1 t1 fun t44 =>
   p.load false 1 t44 H fun t45 =>
   p.iadr 6 t45 t10 fun t47 =>
   p.fl 0 t47 1 H fun t49 =>
   p.fill [i0] [(0, 1, t49)] fun ct50 => p.newSl 1 1 ct50 true H fun t50 H =>
   p.app 1 8 t9 t50 H fun t51 H =>
   p.bin .add t10 (si 1) fun t42 =>
   Lc p n  k m t1 t2 t3 t5 t7 t51 t42 H)
   (p.fadr 0 t1 fun t53 =>
   p.load false 1 t53 H fun t54 =>
   p.ca 102 131 [t54, t9] H fun t56 H =>
   p.extr t56 0 fun t57 =>
   p.extr t56 1 fun t58 =>
   p.fs 0 t5 1 t57 H fun H =>
   p.fl 1 t5 1 H fun t62 =>
   p.load true 4 t7 H fun t64 =>
   p.fl 2 t7 1 H fun t66 =>
   p.fill [i0, sE, .nl, i0, bF, i0] [(0, 1, t57), (1, 4, t64), (5, 1, t66)] fun ct67 =>
   p.fill [i0, sE, .nl, i0, bF, i0] [(0, 6, (.agg ct67))] fun ct68 => p.newSl 1 6 ct68 true H fun t68 H =>
   p.app 6 72 t62 t68 H fun t69 H =>
   p.fs 1 t5 1 t69 H fun H =>
   p.load true 3 t5 H fun t71 =>
   p.load true 4 t7 H fun t72 =>
   p.ca 41 130 [t72, t57, bF] H fun t74 H =>
   p.store 3 t2 t71 H fun H =>
   p.store 25 t3 t74 H fun H =>
   p.load true 3 t2 H fun r0 =>
   p.load true 25 t3 H fun r1 =>
   k (Bu [r0, r1, bT]) H)
noncomputable def f113 (n : Nat) (a0 : AV) (H : Ab) (k : KO β) : Option β :=
 p.box a0 H fun t1 H =>
 p.new [i0, .nl, .nl] H fun t2 H =>
 p.new Qp H fun t3 H =>
 p.load true 3 t1 H fun t13 =>
 p.ca 27 64 [t13] H fun t14 H =>
 p.new [i0, .nl, .nl] H fun t5 H =>
 p.store 3 t5 t14 H fun H =>
 p.load true 3 t1 H fun t15 =>
 p.ca 4 39 [t15] H fun t16 H =>
 p.un .not t16 fun t17 =>
 p.cond t17
 (p.load true 3 t5 H fun t18 =>
 p.fill Qp [] fun ct19 =>
 p.store 3 t2 t18 H fun H =>
 p.store 25 t3 (.agg ct19) H fun H =>
 p.load true 3 t2 H fun r0 =>
 p.load true 25 t3 H fun r1 =>
 k (Bu [r0, r1, bF]) H)
 (p.fadr 2 t1 fun t21 =>
 p.load false 1 t21 H fun t22 =>
 p.ca 100 129 [t22] H fun t23 H =>
 p.extr t23 0 fun t24 =>
 p.extr t23 1 fun t25 =>
 p.extr t23 2 fun t26 =>
 p.new [sE, .nl, i0, bF] H fun t7 H =>
 p.store 4 t7 t25 H fun H =>
 p.fs 2 t5 1 t24 H fun H =>
 p.fl 2 t7 1 H fun t30 =>
 p.bin .eql t30 i0 fun t31 =>
 p.cond t31
 (p.load true 3 t5 H fun t32 =>
 p.load true 4 t7 H fun t33 =>
 p.ca 41 130 [t33, i0, bF] H fun t34 H =>
 p.store 3 t2 t32 H fun H =>
 p.store 25 t3 t34 H fun H =>
 p.load true 3 t2 H fun r0 =>
 p.load true 25 t3 H fun r1 =>
 k (Bu [r0, r1, bT]) H)
 (Lc p n  k n t1 t2 t3 t5 t7 .nl i0 H))
noncomputable def Aae (p : Pr β) (n : Nat)  (k : KO β) (m : Nat) (tm : Tm) (H : Ab) : Option β :=
 Dz 75 (fun tm H k => Al Aq p Aiv 75 n (cd Ahd [1, 1, 1, 1, 1, 1, 1, 0, 1, 0, 0]) tm H k) (Ew 0 (Ei (fun tm H => Al Aq p Aiv 75 n (cd Ahd [1, 1, 1, 1, 1, 1, 1, 1]) tm H (C9 Aq p fi113.results k)) (C9 Aq p fi113.results k))) m tm H
theorem Yk (p : Pr β) (n : Nat)  (k : KO β) (m0 : Nat) : ∀ (t : Nat → AV) (H : Ab), Aae p n  k m0 (tf 75 0 t) H = Lc p n  k m0 (t 1) (t 2) (t 3) (t 5) (t 7) (t 9) (t 10) H := by
 induction m0 with
 | zero => intros; rfl
 | succ m0 ih =>
  intro t H
  refine Eq.trans (B8 (nt := 75) (m := m0) (g := fun t H => Lc p n  k m0 (t 1) (t 2) (t 3) (t 5) (t 7) (t 9) (t 10) H) ih rfl) ?_
  kernel_rfl
theorem Ac0 (p : Pr β) (n : Nat) (a0 : AV) (H : Ab) (k : KO β) : Cl Aq p n fi113 [a0] H k =
 p.box a0 H fun t1 H =>
 p.new [i0, .nl, .nl] H fun t2 H =>
 p.new Qp H fun t3 H =>
 p.load true 3 t1 H fun t13 =>
 p.call 27 (.fn 64 [] []) [t13] H fun t14 H =>
 p.new [i0, .nl, .nl] H fun t5 H =>
 p.store 3 t5 t14 H fun H =>
 p.load true 3 t1 H fun t15 =>
 p.call 4 (.fn 39 [] []) [t15] H fun t16 H =>
 p.un .not t16 fun t17 =>
 p.cond t17
 (p.load true 3 t5 H fun t18 =>
 p.fill Qp [] fun ct19 =>
 p.store 3 t2 t18 H fun H =>
 p.store 25 t3 (.agg ct19) H fun H =>
 p.load true 3 t2 H fun r0 =>
 p.load true 25 t3 H fun r1 =>
 k (Bu [r0, r1, bF]) H)
 (p.fadr 2 t1 fun t21 =>
 p.load false 1 t21 H fun t22 =>
 p.call 100 (.fn 129 [] []) [t22] H fun t23 H =>
 p.extr t23 0 fun t24 =>
 p.extr t23 1 fun t25 =>
 p.extr t23 2 fun t26 =>
 p.new [sE, .nl, i0, bF] H fun t7 H =>
 p.store 4 t7 t25 H fun H =>
 p.fadr 2 t5 fun t28 =>
 p.store 1 t28 t24 H fun H =>
 p.fadr 2 t7 fun t29 =>
 p.load false 1 t29 H fun t30 =>
 p.bin .eql t30 i0 fun t31 =>
 p.cond t31
 (p.load true 3 t5 H fun t32 =>
 p.load true 4 t7 H fun t33 =>
 p.call 41 (.fn 130 [] []) [t33, i0, bF] H fun t34 H =>
 p.store 3 t2 t32 H fun H =>
 p.store 25 t3 t34 H fun H =>
 p.load true 3 t2 H fun r0 =>
 p.load true 25 t3 H fun r1 =>
 k (Bu [r0, r1, bT]) H)
 (Aae p n  k n (tf 75 0 (ud [(0, a0), (1, t1), (2, t2), (3, t3), (4, bF), (5, t5), (6, t24), (7, t7), (8, t26), (9, .nl), (10, i0), (13, t13), (14, t14), (15, t15), (16, t16), (17, t17), (20, t23), (21, t21), (22, t22), (23, t23), (24, t24), (25, t25), (26, t26), (27, t24), (28, t28), (29, t29), (30, t30), (31, t31), (35, .nl)] ut)) H)) := by kernel_rfl
theorem Abf : H4 fi113 @f113 := fun p n a0 H k => by
 rw [Ac0]
 simp only [Yk]
 kernel_rfl
noncomputable def f121 (n : Nat) (a0 : AV) (H : Ab) (k : KO β) : Option β :=
 p.box a0 H fun t1 H =>
 p.new Qp H fun t2 H =>
 p.fadr 0 t1 fun t4 =>
 p.load false 1 t4 H fun t5 =>
 p.fill Qp [(0, 1, t5)] fun ct6 =>
 p.new Qp H fun t3 H =>
 p.store 25 t3 (.agg ct6) H fun H =>
 p.fadr 0 t1 fun t7 =>
 p.load false 1 t7 H fun t8 =>
 p.bin .eql t8 (si 1) fun t10 =>
 p.cond t10
 (p.fadr 8 t1 fun t11 =>
 p.load false 1 t11 H fun t12 =>
 p.fadr 8 t3 fun t13 =>
 p.store 1 t13 t12 H fun H =>
 p.fadr 7 t1 fun t14 =>
 p.load false 1 t14 H fun t15 =>
 p.fadr 7 t3 fun t16 =>
 p.store 1 t16 t15 H fun H =>
 p.fadr 9 t1 fun t17 =>
 p.load false 1 t17 H fun t18 =>
 p.fadr 9 t3 fun t19 =>
 p.store 1 t19 t18 H fun H =>
 p.fadr 10 t1 fun t20 =>
 p.load false 1 t20 H fun t21 =>
 p.fadr 10 t3 fun t22 =>
 p.store 1 t22 t21 H fun H =>
 p.fadr 11 t1 fun t23 =>
 p.load false 1 t23 H fun t24 =>
 M2 (fun (t1 t2 t3 : AV) (H : Ab) => p.fadr 16 t1 fun t38 =>
 p.load false 1 t38 H fun t39 =>
 p.cond t39
 (p.fadr 16 t3 fun t40 =>
 p.store 1 t40 bT H fun H =>
 p.fadr 17 t1 fun t41 =>
 p.load false 1 t41 H fun t42 =>
 p.fadr 17 t3 fun t43 =>
 p.store 1 t43 t42 H fun H =>
 p.fadr 18 t1 fun t44 =>
 p.load false 1 t44 H fun t45 =>
 p.cond t45
 (p.fadr 18 t3 fun t46 =>
 p.store 1 t46 bT H fun H =>
 p.fadr 19 t1 fun t47 =>
 p.load false 1 t47 H fun t48 =>
 p.fadr 19 t3 fun t49 =>
 p.store 1 t49 t48 H fun H =>
 p.load true 25 t3 H fun t119 =>
 p.store 25 t2 t119 H fun H =>
 p.load true 25 t2 H fun r0 =>
 k r0 H)
 (p.load true 25 t3 H fun t119 =>
 p.store 25 t2 t119 H fun H =>
 p.load true 25 t2 H fun r0 =>
 k r0 H))
 (p.load true 25 t3 H fun t119 =>
 p.store 25 t2 t119 H fun H =>
 p.load true 25 t2 H fun r0 =>
 k r0 H)) fun j1 =>
 p.cond t24
 (p.fadr 11 t3 fun t25 =>
 p.store 1 t25 bT H fun H =>
 p.fadr 12 t1 fun t26 =>
 p.load false 1 t26 H fun t27 =>
 p.fadr 12 t3 fun t28 =>
 p.store 1 t28 t27 H fun H =>
 p.fadr 13 t1 fun t29 =>
 p.load false 1 t29 H fun t30 =>
 p.fadr 13 t3 fun t31 =>
 p.store 1 t31 t30 H fun H =>
 p.fadr 14 t1 fun t32 =>
 p.load false 1 t32 H fun t33 =>
 p.fadr 14 t3 fun t34 =>
 p.store 1 t34 t33 H fun H =>
 p.fadr 15 t1 fun t35 =>
 p.load false 1 t35 H fun t36 =>
 p.fadr 15 t3 fun t37 =>
 p.store 1 t37 t36 H fun H =>
 j1 t1 t2 t3 H)
 (j1 t1 t2 t3 H))
 (p.bin .eql t8 (si 2) fun t51 =>
 p.cond t51
 (p.fadr 20 t1 fun t52 =>
 p.load false 1 t52 H fun t53 =>
 p.fadr 20 t3 fun t54 =>
 p.store 1 t54 t53 H fun H =>
 p.fadr 21 t1 fun t55 =>
 p.load false 1 t55 H fun t56 =>
 p.gT t56 H (p.fadr 20 t1) fun t58 H =>
 p.gT t56 H (p.load false 1 t58 H) fun t59 H =>
 p.gT t56 H (p.bin .eql t59 i0) fun t60 H =>
 p.pick t56 t60 bF fun t61 =>
 p.fadr 21 t3 fun t62 =>
 p.store 1 t62 t61 H fun H =>
 p.load true 25 t3 H fun t119 =>
 p.store 25 t2 t119 H fun H =>
 p.load true 25 t2 H fun r0 =>
 k r0 H)
 (p.bin .eql t8 (si 3) fun t64 =>
 p.cond t64
 (p.fadr 2 t1 fun t65 =>
 p.load false 1 t65 H fun t66 =>
 p.fadr 2 t3 fun t67 =>
 p.store 1 t67 t66 H fun H =>
 p.fadr 3 t1 fun t68 =>
 p.load false 1 t68 H fun t69 =>
 p.fadr 3 t3 fun t70 =>
 p.store 1 t70 t69 H fun H =>
 p.fadr 5 t1 fun t71 =>
 p.load false 1 t71 H fun t72 =>
 p.fadr 5 t3 fun t73 =>
 p.store 1 t73 t72 H fun H =>
 p.fadr 6 t1 fun t74 =>
 p.load false 1 t74 H fun t75 =>
 p.fadr 6 t3 fun t76 =>
 p.store 1 t76 t75 H fun H =>
 p.fadr 2 t1 fun t77 =>
 p.load false 1 t77 H fun t78 =>
 p.bin .gtr t78 i0 fun t79 =>
 p.cond t79
 (p.fadr 1 t1 fun t80 =>
 p.load false 1 t80 H fun t81 =>
 p.fadr 1 t3 fun t82 =>
 p.store 1 t82 t81 H fun H =>
 p.fadr 4 t1 fun t83 =>
 p.load false 1 t83 H fun t84 =>
 p.fadr 4 t3 fun t85 =>
 p.store 1 t85 t84 H fun H =>
 p.load true 25 t3 H fun t119 =>
 p.store 25 t2 t119 H fun H =>
 p.load true 25 t2 H fun r0 =>
 k r0 H)
 (p.load true 25 t3 H fun t119 =>
 p.store 25 t2 t119 H fun H =>
 p.load true 25 t2 H fun r0 =>
 k r0 H))
 (p.bin .eql t8 (si 4) fun t87 =>
 M2 (fun (t1 t2 t3 t8 t86 : AV) (H : Ab) => p.cond t86
 (p.fadr 4 t1 fun t92 =>
 p.load false 1 t92 H fun t93 =>
 p.fadr 4 t3 fun t94 =>
 p.store 1 t94 t93 H fun H =>
 p.load true 25 t3 H fun t119 =>
 p.store 25 t2 t119 H fun H =>
 p.load true 25 t2 H fun r0 =>
 k r0 H)
 (p.bin .eql t8 (si 8) fun t96 =>
 p.cond t96
 (p.fadr 4 t1 fun t97 =>
 p.load false 1 t97 H fun t98 =>
 p.fadr 4 t3 fun t99 =>
 p.store 1 t99 t98 H fun H =>
 p.fadr 22 t1 fun t100 =>
 p.load false 1 t100 H fun t101 =>
 p.fadr 22 t3 fun t102 =>
 p.store 1 t102 t101 H fun H =>
 p.load true 25 t3 H fun t119 =>
 p.store 25 t2 t119 H fun H =>
 p.load true 25 t2 H fun r0 =>
 k r0 H)
 (p.bin .eql t8 (si 9) fun t104 =>
 p.cond t104
 (p.fadr 4 t1 fun t105 =>
 p.load false 1 t105 H fun t106 =>
 p.fadr 4 t3 fun t107 =>
 p.store 1 t107 t106 H fun H =>
 p.fadr 24 t1 fun t108 =>
 p.load false 1 t108 H fun t109 =>
 p.fadr 24 t3 fun t110 =>
 p.store 1 t110 t109 H fun H =>
 p.load true 25 t3 H fun t119 =>
 p.store 25 t2 t119 H fun H =>
 p.load true 25 t2 H fun r0 =>
 k r0 H)
 (p.bin .eql t8 (si 10) fun t112 =>
 p.cond t112
 (p.fadr 4 t1 fun t113 =>
 p.load false 1 t113 H fun t114 =>
 p.fadr 4 t3 fun t115 =>
 p.store 1 t115 t114 H fun H =>
 p.fadr 23 t1 fun t116 =>
 p.load false 1 t116 H fun t117 =>
 p.fadr 23 t3 fun t118 =>
 p.store 1 t118 t117 H fun H =>
 p.load true 25 t3 H fun t119 =>
 p.store 25 t2 t119 H fun H =>
 p.load true 25 t2 H fun r0 =>
 k r0 H)
 (p.load true 25 t3 H fun t119 =>
 p.store 25 t2 t119 H fun H =>
 p.load true 25 t2 H fun r0 =>
 k r0 H))))) fun j2 =>
 p.cond t87
 (j2 t1 t2 t3 t8 t87 H)
 (p.bin .eql t8 (si 5) fun t88 =>
 p.cond t88
 (j2 t1 t2 t3 t8 t88 H)
 (p.bin .eql t8 (si 6) fun t89 =>
 p.cond t89
 (j2 t1 t2 t3 t8 t89 H)
 (p.bin .eql t8 (si 7) fun t90 =>
 p.cond t90
 (j2 t1 t2 t3 t8 t90 H)
 (p.bin .eql t8 (si 11) fun t91 =>
 j2 t1 t2 t3 t8 t91 H)))))))
theorem Abl : H4 AgA @f121 := fun p n a0 H k => by kernel_rfl
noncomputable def f138 (n : Nat) (a0 a1 : AV) (H : Ab) (k : KO β) : Option β :=
 p.cvBS a0 H fun t6 =>
 p.cvBS a1 H fun t8 =>
 p.bin .eql t6 t8 fun t9 =>
 k t9 H
theorem Abv : Tf AgG @f138 := fun p n a0 a1 H k => by kernel_rfl
noncomputable def J8 (p : Pr β) (n : Nat)  (k : KO β) : Nat → AV → AV → KO β
 | 0, _, _, _, _ => none
 | m + 1, t2, t3, t7, H => p.fadr 24 t2 fun t70 =>
   p.load false 1 t70 H fun t71 =>
   p.len t71 fun t72 =>
   p.bin .lss t7 t72 fun t73 =>
   p.cond t73
   (p.fadr 24 t2 fun t76 =>
   p.load false 1 t76 H fun t77 =>
   p.iadr 1 t77 t7 fun t79 =>
   p.load false 1 t79 H fun t80 =>
   p.fadr 24 t3 fun t81 =>
   p.load false 1 t81 H fun t82 =>
   p.iadr 1 t82 t7 fun t84 =>
   p.load false 1 t84 H fun t85 =>
   p.bin .neq t80 t85 fun t86 =>
   p.cond t86
   (k bF H)
   (p.bin .add t7 (si 1) fun t75 =>
   J8 p n  k m t2 t3 t75 H))
   (p.fadr 0 t2 fun t87 =>
   p.load false 1 t87 H fun t88 =>
   p.fadr 0 t3 fun t89 =>
   p.load false 1 t89 H fun t90 =>
   p.bin .eql t88 t90 fun t91 =>
   p.gT t91 H (p.fadr 1 t2) fun t93 H =>
   p.gT t91 H (p.load false 1 t93 H) fun t94 H =>
   p.gT t91 H (p.fadr 1 t3) fun t95 H =>
   p.gT t91 H (p.load false 1 t95 H) fun t96 H =>
   p.gT t91 H (p.binB .eql t94 t96) fun t97 H =>
   p.pick t91 t97 bF fun t98 =>
   p.gT t98 H (p.fadr 2 t2) fun t100 H =>
   p.gT t98 H (p.load false 1 t100 H) fun t101 H =>
   p.gT t98 H (p.fadr 2 t3) fun t102 H =>
   p.gT t98 H (p.load false 1 t102 H) fun t103 H =>
   p.gT t98 H (p.bin .eql t101 t103) fun t104 H =>
   p.pick t98 t104 bF fun t105 =>
   p.gT t105 H (p.fadr 3 t2) fun t107 H =>
   p.gT t105 H (p.load false 1 t107 H) fun t108 H =>
   p.gT t105 H (p.fadr 3 t3) fun t109 H =>
   p.gT t105 H (p.load false 1 t109 H) fun t110 H =>
   p.gT t105 H (p.binB .eql t108 t110) fun t111 H =>
   p.pick t105 t111 bF fun t112 =>
   p.gT t112 H (p.fadr 4 t2) fun t114 H =>
   p.gT t112 H (p.load false 1 t114 H) fun t115 H =>
   p.gT t112 H (p.fadr 4 t3) fun t116 H =>
   p.gT t112 H (p.load false 1 t116 H) fun t117 H =>
   p.gT t112 H (p.bin .eql t115 t117) fun t118 H =>
   p.pick t112 t118 bF fun t119 =>
   p.gT t119 H (p.fadr 5 t2) fun t121 H =>
   p.gT t119 H (p.load false 1 t121 H) fun t122 H =>
   p.gT t119 H (p.fadr 5 t3) fun t123 H =>
   p.gT t119 H (p.load false 1 t123 H) fun t124 H =>
   p.gT t119 H (p.bin .eql t122 t124) fun t125 H =>
   p.pick t119 t125 bF fun t126 =>
   p.gT t126 H (p.fadr 6 t2) fun t128 H =>
   p.gT t126 H (p.load false 1 t128 H) fun t129 H =>
   p.gT t126 H (p.fadr 6 t3) fun t130 H =>
   p.gT t126 H (p.load false 1 t130 H) fun t131 H =>
   p.hT t126 H (p.call 4 (.fn 138 [] []) [t129, t131] H) fun t132 H =>
   p.pick t126 t132 bF fun t133 =>
   p.gT t133 H (p.fadr 7 t2) fun t135 H =>
   p.gT t133 H (p.load false 1 t135 H) fun t136 H =>
   p.gT t133 H (p.fadr 7 t3) fun t137 H =>
   p.gT t133 H (p.load false 1 t137 H) fun t138 H =>
   p.gT t133 H (p.bin .eql t136 t138) fun t139 H =>
   p.pick t133 t139 bF fun t140 =>
   p.gT t140 H (p.fadr 8 t2) fun t142 H =>
   p.gT t140 H (p.load false 1 t142 H) fun t143 H =>
   p.gT t140 H (p.fadr 8 t3) fun t144 H =>
   p.gT t140 H (p.load false 1 t144 H) fun t145 H =>
   p.gT t140 H (p.bin .eql t143 t145) fun t146 H =>
   p.pick t140 t146 bF fun t147 =>
   p.gT t147 H (p.fadr 9 t2) fun t149 H =>
   p.gT t147 H (p.load false 1 t149 H) fun t150 H =>
   p.gT t147 H (p.fadr 9 t3) fun t151 H =>
   p.gT t147 H (p.load false 1 t151 H) fun t152 H =>
   p.gT t147 H (p.binB .eql t150 t152) fun t153 H =>
   p.pick t147 t153 bF fun t154 =>
   p.gT t154 H (p.fadr 10 t2) fun t156 H =>
   p.gT t154 H (p.load false 1 t156 H) fun t157 H =>
   p.gT t154 H (p.fadr 10 t3) fun t158 H =>
   p.gT t154 H (p.load false 1 t158 H) fun t159 H =>
   p.gT t154 H (p.bin .eql t157 t159) fun t160 H =>
   p.pick t154 t160 bF fun t161 =>
   p.gT t161 H (p.fadr 11 t2) fun t163 H =>
   p.gT t161 H (p.load false 1 t163 H) fun t164 H =>
   p.gT t161 H (p.fadr 11 t3) fun t165 H =>
   p.gT t161 H (p.load false 1 t165 H) fun t166 H =>
   p.gT t161 H (p.binB .eql t164 t166) fun t167 H =>
   p.pick t161 t167 bF fun t168 =>
   p.gT t168 H (p.fadr 12 t2) fun t170 H =>
   p.gT t168 H (p.load false 1 t170 H) fun t171 H =>
   p.gT t168 H (p.fadr 12 t3) fun t172 H =>
   p.gT t168 H (p.load false 1 t172 H) fun t173 H =>
   p.gT t168 H (p.bin .eql t171 t173) fun t174 H =>
   p.pick t168 t174 bF fun t175 =>
   p.gT t175 H (p.fadr 13 t2) fun t177 H =>
   p.gT t175 H (p.load false 1 t177 H) fun t178 H =>
   p.gT t175 H (p.fadr 13 t3) fun t179 H =>
   p.gT t175 H (p.load false 1 t179 H) fun t180 H =>
   p.hT t175 H (p.call 4 (.fn 138 [] []) [t178, t180] H) fun t181 H =>
   p.pick t175 t181 bF fun t182 =>
   p.gT t182 H (p.fadr 14 t2) fun t184 H =>
   p.gT t182 H (p.load false 1 t184 H) fun t185 H =>
   p.gT t182 H (p.fadr 14 t3) fun t186 H =>
   p.gT t182 H (p.load false 1 t186 H) fun t187 H =>
   p.gT t182 H (p.bin .eql t185 t187) fun t188 H =>
   p.pick t182 t188 bF fun t189 =>
   p.gT t189 H (p.fadr 15 t2) fun t191 H =>
   p.gT t189 H (p.load false 1 t191 H) fun t192 H =>
   p.gT t189 H (p.fadr 15 t3) fun t193 H =>
   p.gT t189 H (p.load false 1 t193 H) fun t194 H =>
   p.gT t189 H (p.binB .eql t192 t194) fun t195 H =>
   p.pick t189 t195 bF fun t196 =>
   p.gT t196 H (p.fadr 16 t2) fun t198 H =>
   p.gT t196 H (p.load false 1 t198 H) fun t199 H =>
   p.gT t196 H (p.fadr 16 t3) fun t200 H =>
   p.gT t196 H (p.load false 1 t200 H) fun t201 H =>
   p.gT t196 H (p.binB .eql t199 t201) fun t202 H =>
   p.pick t196 t202 bF fun t203 =>
   p.gT t203 H (p.fadr 17 t2) fun t205 H =>
   p.gT t203 H (p.load false 1 t205 H) fun t206 H =>
   p.gT t203 H (p.fadr 17 t3) fun t207 H =>
   p.gT t203 H (p.load false 1 t207 H) fun t208 H =>
   p.gT t203 H (p.bin .eql t206 t208) fun t209 H =>
   p.pick t203 t209 bF fun t210 =>
   p.gT t210 H (p.fadr 18 t2) fun t212 H =>
   p.gT t210 H (p.load false 1 t212 H) fun t213 H =>
   p.gT t210 H (p.fadr 18 t3) fun t214 H =>
   p.gT t210 H (p.load false 1 t214 H) fun t215 H =>
   p.gT t210 H (p.binB .eql t213 t215) fun t216 H =>
   p.pick t210 t216 bF fun t217 =>
   p.gT t217 H (p.fadr 19 t2) fun t219 H =>
   p.gT t217 H (p.load false 1 t219 H) fun t220 H =>
   p.gT t217 H (p.fadr 19 t3) fun t221 H =>
   p.gT t217 H (p.load false 1 t221 H) fun t222 H =>
   p.hT t217 H (p.call 4 (.fn 138 [] []) [t220, t222] H) fun t223 H =>
   p.pick t217 t223 bF fun t224 =>
   p.gT t224 H (p.fadr 20 t2) fun t226 H =>
   p.gT t224 H (p.load false 1 t226 H) fun t227 H =>
   p.gT t224 H (p.fadr 20 t3) fun t228 H =>
   p.gT t224 H (p.load false 1 t228 H) fun t229 H =>
   p.gT t224 H (p.bin .eql t227 t229) fun t230 H =>
   p.pick t224 t230 bF fun t231 =>
   p.gT t231 H (p.fadr 21 t2) fun t233 H =>
   p.gT t231 H (p.load false 1 t233 H) fun t234 H =>
   p.gT t231 H (p.fadr 21 t3) fun t235 H =>
   p.gT t231 H (p.load false 1 t235 H) fun t236 H =>
   p.gT t231 H (p.binB .eql t234 t236) fun t237 H =>
   p.pick t231 t237 bF fun t238 =>
   k t238 H)
noncomputable def Ik (p : Pr β) (n : Nat)  (k : KO β) : Nat → AV → AV → KO β
 | 0, _, _, _, _ => none
 | m + 1, t2, t3, t6, H => p.fadr 23 t2 fun t52 =>
   p.load false 1 t52 H fun t53 =>
   p.len t53 fun t54 =>
   p.bin .lss t6 t54 fun t55 =>
   p.cond t55
   (p.fadr 23 t2 fun t58 =>
   p.load false 1 t58 H fun t59 =>
   p.iadr 1 t59 t6 fun t61 =>
   p.load false 1 t61 H fun t62 =>
   p.fadr 23 t3 fun t63 =>
   p.load false 1 t63 H fun t64 =>
   p.iadr 1 t64 t6 fun t66 =>
   p.load false 1 t66 H fun t67 =>
   p.bin .neq t62 t67 fun t68 =>
   p.cond t68
   (k bF H)
   (p.bin .add t6 (si 1) fun t57 =>
   Ik p n  k m t2 t3 t57 H))
   (J8 p n  k n t2 t3 i0 H)
noncomputable def Ij (p : Pr β) (n : Nat)  (k : KO β) : Nat → AV → AV → KO β
 | 0, _, _, _, _ => none
 | m + 1, t2, t3, t5, H => p.fadr 22 t2 fun t34 =>
   p.load false 1 t34 H fun t35 =>
   p.len t35 fun t36 =>
   p.bin .lss t5 t36 fun t37 =>
   p.cond t37
   (p.fadr 22 t2 fun t40 =>
   p.load false 1 t40 H fun t41 =>
   p.iadr 2 t41 t5 fun t43 =>
   p.load true 2 t43 H fun t44 =>
   p.fadr 22 t3 fun t45 =>
   p.load false 1 t45 H fun t46 =>
   p.iadr 2 t46 t5 fun t48 =>
   p.load true 2 t48 H fun t49 =>
   p.binA .neq [1, 0] t44 t49 fun t50 =>
   p.cond t50
   (k bF H)
   (p.bin .add t5 (si 1) fun t39 =>
   Ij p n  k m t2 t3 t39 H))
   (Ik p n  k n t2 t3 i0 H)
noncomputable def f120 (n : Nat) (a0 a1 : AV) (H : Ab) (k : KO β) : Option β :=
 p.box a0 H fun t2 H =>
 p.box a1 H fun t3 H =>
 p.fadr 22 t2 fun t8 =>
 p.load false 1 t8 H fun t9 =>
 p.len t9 fun t10 =>
 p.fadr 22 t3 fun t11 =>
 p.load false 1 t11 H fun t12 =>
 p.len t12 fun t13 =>
 p.bin .neq t10 t13 fun t14 =>
 p.gF t14 H (p.fadr 23 t2) fun t16 H =>
 p.gF t14 H (p.load false 1 t16 H) fun t17 H =>
 p.gF t14 H (p.len t17) fun t18 H =>
 p.gF t14 H (p.fadr 23 t3) fun t19 H =>
 p.gF t14 H (p.load false 1 t19 H) fun t20 H =>
 p.gF t14 H (p.len t20) fun t21 H =>
 p.gF t14 H (p.bin .neq t18 t21) fun t22 H =>
 p.pick t14 bT t22 fun t23 =>
 p.gF t23 H (p.fadr 24 t2) fun t25 H =>
 p.gF t23 H (p.load false 1 t25 H) fun t26 H =>
 p.gF t23 H (p.len t26) fun t27 H =>
 p.gF t23 H (p.fadr 24 t3) fun t28 H =>
 p.gF t23 H (p.load false 1 t28 H) fun t29 H =>
 p.gF t23 H (p.len t29) fun t30 H =>
 p.gF t23 H (p.bin .neq t27 t30) fun t31 H =>
 p.pick t23 bT t31 fun t32 =>
 p.cond t32
 (k bF H)
 (Ij p n  k n t2 t3 i0 H)
noncomputable def Aaj (p : Pr β) (n : Nat)  (k : KO β) (m : Nat) (tm : Tm) (H : Ab) : Option β :=
 Dz 239 (fun tm H k => Al Aq p R2 239 n (cd Q3 [1, 1, 1, 1, 0, 1, 0, 0]) tm H k) (Ew 4 (Ei (fun tm H => Al Aq p R2 239 n (cd Q3 [1, 1, 1, 1, 1]) tm H (C9 Aq p fi120.results k)) (C9 Aq p fi120.results k))) m tm H
noncomputable def Aai (p : Pr β) (n : Nat)  (k : KO β) (m : Nat) (tm : Tm) (H : Ab) : Option β :=
 Dz 239 (fun tm H k => Al Aq p R2 239 n (cd Q3 [1, 1, 1, 0, 1, 0, 0]) tm H k) (Ew 2 (Ei (fun tm H => Al Aq p R2 239 n (cd Q3 [1, 1, 1, 1]) tm H (C9 Aq p fi120.results k)) (C9 Aq p fi120.results k))) m tm H
noncomputable def Aah (p : Pr β) (n : Nat)  (k : KO β) (m : Nat) (tm : Tm) (H : Ab) : Option β :=
 Dz 239 (fun tm H k => Al Aq p R2 239 n (cd Q3 [1, 1, 0, 1, 0, 0]) tm H k) (Ew 0 (Ei (fun tm H => Al Aq p R2 239 n (cd Q3 [1, 1, 1]) tm H (C9 Aq p fi120.results k)) (C9 Aq p fi120.results k))) m tm H
theorem Ra (p : Pr β) (n : Nat)  (k : KO β) (m2 : Nat) : ∀ (t : Nat → AV) (H : Ab), Aaj p n  k m2 (tf 239 0 t) H = J8 p n  k m2 (t 2) (t 3) (t 7) H := by
 induction m2 with
 | zero => intros; rfl
 | succ m2 ih =>
  intro t H
  refine Eq.trans (B8 (nt := 239) (m := m2) (g := fun t H => J8 p n  k m2 (t 2) (t 3) (t 7) H) ih rfl) ?_
  kernel_rfl
theorem U0 (p : Pr β) (n : Nat)  (k : KO β) (m1 : Nat) (t : Nat → AV) (H : Ab) : Al Aq p R2 239 n (cd Q3 [1, 1, 1, 0, 1, 0, 0]) (tf 239 0 t) H (Ei (fun tm H => Ik p n  k m1 (gt tm 2) (gt tm 3) (gt tm 6) H) (Ew 2 (Ei (fun tm H => Al Aq p R2 239 n (cd Q3 [1, 1, 1, 1]) tm H (C9 Aq p fi120.results k)) (C9 Aq p fi120.results k)))) =
 p.fadr 23 (t 2) fun t52 =>
 p.load false 1 t52 H fun t53 =>
 p.len t53 fun t54 =>
 p.bin .lss (t 6) t54 fun t55 =>
 p.cond t55
 (p.fadr 23 (t 2) fun t58 =>
 p.load false 1 t58 H fun t59 =>
 p.iadr 1 t59 (t 6) fun t61 =>
 p.load false 1 t61 H fun t62 =>
 p.fadr 23 (t 3) fun t63 =>
 p.load false 1 t63 H fun t64 =>
 p.iadr 1 t64 (t 6) fun t66 =>
 p.load false 1 t66 H fun t67 =>
 p.bin .neq t62 t67 fun t68 =>
 p.cond t68
 (k bF H)
 (p.bin .add (t 6) (si 1) fun t57 =>
 Ik p n  k m1 (t 2) (t 3) t57 H))
 (Aaj p n  k n (tf 239 0 (ud [(7, i0), (51, (t 6)), (52, t52), (53, t53), (54, t54), (55, t55)] t)) H) := by kernel_rfl
theorem Q9 (p : Pr β) (n : Nat)  (k : KO β) (m1 : Nat) : ∀ (t : Nat → AV) (H : Ab), Aai p n  k m1 (tf 239 0 t) H = Ik p n  k m1 (t 2) (t 3) (t 6) H := by
 induction m1 with
 | zero => intros; rfl
 | succ m1 ih =>
  intro t H
  refine Eq.trans (B8 (nt := 239) (m := m1) (g := fun t H => Ik p n  k m1 (t 2) (t 3) (t 6) H) ih rfl) ?_
  refine Eq.trans (U0 p n  k m1 t H) ?_
  simp only [Ra]
  kernel_rfl
theorem Uz (p : Pr β) (n : Nat)  (k : KO β) (m0 : Nat) (t : Nat → AV) (H : Ab) : Al Aq p R2 239 n (cd Q3 [1, 1, 0, 1, 0, 0]) (tf 239 0 t) H (Ei (fun tm H => Ij p n  k m0 (gt tm 2) (gt tm 3) (gt tm 5) H) (Ew 0 (Ei (fun tm H => Al Aq p R2 239 n (cd Q3 [1, 1, 1]) tm H (C9 Aq p fi120.results k)) (C9 Aq p fi120.results k)))) =
 p.fadr 22 (t 2) fun t34 =>
 p.load false 1 t34 H fun t35 =>
 p.len t35 fun t36 =>
 p.bin .lss (t 5) t36 fun t37 =>
 p.cond t37
 (p.fadr 22 (t 2) fun t40 =>
 p.load false 1 t40 H fun t41 =>
 p.iadr 2 t41 (t 5) fun t43 =>
 p.load true 2 t43 H fun t44 =>
 p.fadr 22 (t 3) fun t45 =>
 p.load false 1 t45 H fun t46 =>
 p.iadr 2 t46 (t 5) fun t48 =>
 p.load true 2 t48 H fun t49 =>
 p.binA .neq [1, 0] t44 t49 fun t50 =>
 p.cond t50
 (k bF H)
 (p.bin .add (t 5) (si 1) fun t39 =>
 Ij p n  k m0 (t 2) (t 3) t39 H))
 (Aai p n  k n (tf 239 0 (ud [(6, i0), (33, (t 5)), (34, t34), (35, t35), (36, t36), (37, t37)] t)) H) := by kernel_rfl
theorem Yn (p : Pr β) (n : Nat)  (k : KO β) (m0 : Nat) : ∀ (t : Nat → AV) (H : Ab), Aah p n  k m0 (tf 239 0 t) H = Ij p n  k m0 (t 2) (t 3) (t 5) H := by
 induction m0 with
 | zero => intros; rfl
 | succ m0 ih =>
  intro t H
  refine Eq.trans (B8 (nt := 239) (m := m0) (g := fun t H => Ij p n  k m0 (t 2) (t 3) (t 5) H) ih rfl) ?_
  refine Eq.trans (Uz p n  k m0 t H) ?_
  simp only [Q9]
  kernel_rfl
theorem Ac6 (p : Pr β) (n : Nat) (a0 a1 : AV) (H : Ab) (k : KO β) : Cl Aq p n fi120 [a0, a1] H k =
 p.box a0 H fun t2 H =>
 p.box a1 H fun t3 H =>
 p.fadr 22 t2 fun t8 =>
 p.load false 1 t8 H fun t9 =>
 p.len t9 fun t10 =>
 p.fadr 22 t3 fun t11 =>
 p.load false 1 t11 H fun t12 =>
 p.len t12 fun t13 =>
 p.bin .neq t10 t13 fun t14 =>
 p.gF t14 H (p.fadr 23 t2) fun t16 H =>
 p.gF t14 H (p.load false 1 t16 H) fun t17 H =>
 p.gF t14 H (p.len t17) fun t18 H =>
 p.gF t14 H (p.fadr 23 t3) fun t19 H =>
 p.gF t14 H (p.load false 1 t19 H) fun t20 H =>
 p.gF t14 H (p.len t20) fun t21 H =>
 p.gF t14 H (p.bin .neq t18 t21) fun t22 H =>
 p.pick t14 bT t22 fun t23 =>
 p.gF t23 H (p.fadr 24 t2) fun t25 H =>
 p.gF t23 H (p.load false 1 t25 H) fun t26 H =>
 p.gF t23 H (p.len t26) fun t27 H =>
 p.gF t23 H (p.fadr 24 t3) fun t28 H =>
 p.gF t23 H (p.load false 1 t28 H) fun t29 H =>
 p.gF t23 H (p.len t29) fun t30 H =>
 p.gF t23 H (p.bin .neq t27 t30) fun t31 H =>
 p.pick t23 bT t31 fun t32 =>
 p.cond t32
 (k bF H)
 (Aah p n  k n (tf 239 0 (ud [(0, a0), (1, a1), (2, t2), (3, t3), (4, bF), (5, i0), (8, t8), (9, t9), (10, t10), (11, t11), (12, t12), (13, t13), (14, t14), (15, t14), (16, t16), (17, t17), (18, t18), (19, t19), (20, t20), (21, t21), (22, t22), (23, t23), (24, t23), (25, t25), (26, t26), (27, t27), (28, t28), (29, t29), (30, t30), (31, t31), (32, t32)] ut)) H) := by kernel_rfl
theorem Abk : Tf fi120 @f120 := fun p n a0 a1 H k => by
 rw [Ac6]
 simp only [Ra, Q9, Yn]
 kernel_rfl
noncomputable def Aak (p : Pr β) (n : Nat)  (k : KO β) : Nat → AV → AV → KO β
 | 0, _, _, _, _ => none
 | m + 1, t0, t3, t4, H => p.len t3 fun t9 =>
   p.bin .lss t4 t9 fun t10 =>
   p.cond t10
   (p.iadr 1 t3 t4 fun t15 =>
   p.load false 1 t15 H fun t16 =>
   p.ca 4 114 [t16, (su 43)] H fun t17 H =>
   p.kT t17 H t3 fun t19 H =>
   p.kT t17 H t4 fun t20 H =>
   p.gT t17 H (p.iadr 1 t19 t20) fun t21 H =>
   p.gT t17 H (p.load false 1 t21 H) fun t22 H =>
   p.gT t17 H (p.bin .neq t22 (.sc (.string ⟨#[43]⟩))) fun t23 H =>
   p.pick t17 t23 bF fun t24 =>
   p.kF t24 H t3 fun t26 H =>
   p.kF t24 H t4 fun t27 H =>
   p.gF t24 H (p.iadr 1 t26 t27) fun t28 H =>
   p.gF t24 H (p.load false 1 t28 H) fun t29 H =>
   p.hF t24 H (p.ca 4 114 [t29, (su 35)] H) fun t30 H =>
   p.kF t24 H t30 fun t31 H =>
   p.kT t31 H t3 fun t32 H =>
   p.kT t31 H t4 fun t33 H =>
   p.gT t31 H (p.iadr 1 t32 t33) fun t34 H =>
   p.gT t31 H (p.load false 1 t34 H) fun t35 H =>
   p.gT t31 H (p.bin .neq t35 (.sc (.string ⟨#[35]⟩))) fun t36 H =>
   p.kT t31 H t36 fun t37 H =>
   p.kF t37 H t4 fun t38 H =>
   p.kF t37 H t3 fun t39 H =>
   p.gF t37 H (p.len t39) fun t40 H =>
   p.gF t37 H (p.bin .sub t40 (si 1)) fun t41 H =>
   p.gF t37 H (p.bin .lss t38 t41) fun t42 H =>
   p.gT t31 H (p.pick t37 bT t42) fun t43 H =>
   p.gF t24 H (p.pick t31 t43 bF) fun t44 H =>
   p.pick t24 bT t44 fun t45 =>
   p.cond t45
   (k bF H)
   (p.bin .add t4 (si 1) fun t12 =>
   Aak p n  k m t0 t3 t12 H))
   (p.ca 4 82 [t0] H fun t47 H =>
   p.kT t47 H t0 fun t49 H =>
   p.gT t47 H (p.bin .neq t49 sE) fun t50 H =>
   p.pick t47 t50 bF fun t51 =>
   p.kT t51 H t3 fun t53 H =>
   p.gT t51 H (p.len t53) fun t54 H =>
   p.gT t51 H (p.bin .leq t54 (si 6)) fun t55 H =>
   p.pick t51 t55 bF fun t56 =>
   k t56 H)
noncomputable def f122 (n : Nat) (a0 : AV) (H : Ab) (k : KO β) : Option β :=
 p.call 38 (.fn 115 [] []) [a0] H fun t6 H =>
 Aak p n  k n a0 t6 i0 H
noncomputable def Nv (p : Pr β) (n : Nat)  (k : KO β) : Nat → AV → AV → KO β
 | 0, _, _, _, _ => none
 | m + 1, t1, t3, t4, H => p.fadr 22 t1 fun t105 =>
   p.load false 1 t105 H fun t106 =>
   p.len t106 fun t107 =>
   p.bin .lss t4 t107 fun t108 =>
   p.cond t108
   (p.fadr 22 t1 fun t111 =>
   p.load false 1 t111 H fun t112 =>
   p.iadr 2 t112 t4 fun t114 =>
   p.fl 0 t114 1 H fun t116 =>
   p.ca 4 122 [t116] H fun t117 H =>
   p.un .not t117 fun t118 =>
   p.lF t118 H 22 t1 1 fun t121 H =>
   p.kF t118 H t4 fun t122 H =>
   p.gF t118 H (p.iadr 2 t121 t122) fun t123 H =>
   p.lF t118 H 1 t123 1 fun t125 H =>
   p.hF t118 H (p.ca 4 50 [t125, i0, (si 2)] H) fun t126 H =>
   p.gF t118 H (p.un .not t126) fun t127 H =>
   p.pick t118 bT t127 fun t128 =>
   p.cond t128
   (k bF H)
   (p.bin .add t4 (si 1) fun t110 =>
   Nv p n  k m t1 t3 t110 H))
   (p.gT t3 H (p.fadr 22 t1) fun t131 H =>
   p.gT t3 H (p.load false 1 t131 H) fun t132 H =>
   p.gT t3 H (p.len t132) fun t133 H =>
   p.hT t3 H (p.ca 4 50 [t133, (si 1), (si 4)] H) fun t134 H =>
   p.pick t3 t134 bF fun t135 =>
   k t135 H)
noncomputable def Nw (p : Pr β) (n : Nat)  (k : KO β) : Nat → AV → AV → KO β
 | 0, _, _, _, _ => none
 | m + 1, t1, t3, t5, H => p.fadr 24 t1 fun t139 =>
   p.load false 1 t139 H fun t140 =>
   p.len t140 fun t141 =>
   p.bin .lss t5 t141 fun t142 =>
   p.cond t142
   (p.fadr 24 t1 fun t145 =>
   p.load false 1 t145 H fun t146 =>
   p.iadr 1 t146 t5 fun t148 =>
   p.load false 1 t148 H fun t149 =>
   p.ca 4 50 [t149, i0, (si 2)] H fun t150 H =>
   p.un .not t150 fun t151 =>
   p.lT t151 H 24 t1 1 fun t154 H =>
   p.kT t151 H t5 fun t155 H =>
   p.gT t151 H (p.iadr 1 t154 t155) fun t156 H =>
   p.gT t151 H (p.load false 1 t156 H) fun t157 H =>
   p.gT t151 H (p.bin .neq t157 (si 128)) fun t158 H =>
   p.pick t151 t158 bF fun t159 =>
   p.cond t159
   (k bF H)
   (p.bin .add t5 (si 1) fun t144 =>
   Nw p n  k m t1 t3 t144 H))
   (p.gT t3 H (p.fadr 24 t1) fun t162 H =>
   p.gT t3 H (p.load false 1 t162 H) fun t163 H =>
   p.gT t3 H (p.len t163) fun t164 H =>
   p.hT t3 H (p.ca 4 50 [t164, (si 1), (si 4)] H) fun t165 H =>
   p.pick t3 t165 bF fun t166 =>
   k t166 H)
noncomputable def Nx (p : Pr β) (n : Nat)  (k : KO β) : Nat → AV → AV → KO β
 | 0, _, _, _, _ => none
 | m + 1, t1, t3, t6, H => p.fadr 23 t1 fun t170 =>
   p.load false 1 t170 H fun t171 =>
   p.len t171 fun t172 =>
   p.bin .lss t6 t172 fun t173 =>
   p.cond t173
   (p.fadr 23 t1 fun t176 =>
   p.load false 1 t176 H fun t177 =>
   p.iadr 1 t177 t6 fun t179 =>
   p.load false 1 t179 H fun t180 =>
   p.ca 4 122 [t180] H fun t181 H =>
   p.un .not t181 fun t182 =>
   p.cond t182
   (k bF H)
   (p.bin .add t6 (si 1) fun t175 =>
   Nx p n  k m t1 t3 t175 H))
   (p.gT t3 H (p.fadr 23 t1) fun t185 H =>
   p.gT t3 H (p.load false 1 t185 H) fun t186 H =>
   p.gT t3 H (p.len t186) fun t187 H =>
   p.hT t3 H (p.ca 4 50 [t187, (si 1), (si 4)] H) fun t188 H =>
   p.pick t3 t188 bF fun t189 =>
   k t189 H)
noncomputable def f102 (n : Nat) (a0 : AV) (H : Ab) (k : KO β) : Option β :=
 p.box a0 H fun t1 H =>
 p.fl 0 t1 1 H fun t8 =>
 p.ca 4 50 [t8, (si 1), (si 14)] H fun t9 H =>
 p.un .not t9 fun t10 =>
 p.gF t10 H (p.load true 25 t1 H) fun t13 H =>
 p.both
 (p.gF t10 H (p.load true 25 t1 H) fun t12 H =>
 p.hF t10 H (p.ca 41 121 [t13] H) fun t14 H =>
 p.hF t10 H (p.ca 4 120 [t12, t14] H) fun t15 H =>
 p.gF t10 H (p.un .not t15) fun t16 H =>
 p.pick t10 bT t16 fun t17 =>
 p.cond t17
 (k bF H)
 (p.fadr 4 t1 fun t18 =>
 p.load false 1 t18 H fun t19 =>
 p.ca 4 50 [t19, (si 1), (si 65535)] H fun t20 H =>
 p.fl 0 t1 1 H fun t22 =>
 p.bin .eql t22 (si 1) fun t24 =>
 p.cond t24
 (p.fadr 11 t1 fun t25 =>
 p.load false 1 t25 H fun t26 =>
 p.lT t26 H 12 t1 1 fun t29 H =>
 p.hT t26 H (p.ca 4 92 [t29] H) fun t30 H =>
 p.gT t26 H (p.un .not t30) fun t31 H =>
 p.kT t26 H t31 fun t32 H =>
 p.lF t32 H 13 t1 1 fun t34 H =>
 p.gF t32 H (p.len t34) fun t35 H =>
 p.gF t32 H (p.bin .gtr t35 (si 40)) fun t36 H =>
 p.gT t26 H (p.pick t32 bT t36) fun t37 H =>
 p.kT t26 H t37 fun t38 H =>
 p.lF t38 H 14 t1 1 fun t40 H =>
 p.hF t38 H (p.ca 4 50 [t40, i0, (si 2)] H) fun t41 H =>
 p.gF t38 H (p.un .not t41) fun t42 H =>
 p.gT t26 H (p.pick t38 bT t42) fun t43 H =>
 p.pick t26 t43 bF fun t44 =>
 p.cond t44
 (k bF H)
 (p.fadr 8 t1 fun t45 =>
 p.load false 1 t45 H fun t46 =>
 p.ca 4 50 [t46, i0, (si 255)] H fun t47 H =>
 p.lT t47 H 7 t1 1 fun t50 H =>
 p.hT t47 H (p.ca 4 82 [t50] H) fun t51 H =>
 p.pick t47 t51 bF fun t52 =>
 p.lT t52 H 10 t1 1 fun t55 H =>
 p.hT t52 H (p.ca 4 50 [t55, i0, (si 65535)] H) fun t56 H =>
 p.pick t52 t56 bF fun t57 =>
 p.lT t57 H 17 t1 1 fun t60 H =>
 p.hT t57 H (p.ca 4 82 [t60] H) fun t61 H =>
 p.pick t57 t61 bF fun t62 =>
 p.lT t62 H 19 t1 1 fun t65 H =>
 p.gT t62 H (p.len t65) fun t66 H =>
 p.gT t62 H (p.bin .leq t66 (si 60)) fun t67 H =>
 p.pick t62 t67 bF fun t68 =>
 k t68 H))
 (p.bin .eql t22 (si 2) fun t70 =>
 p.cond t70
 (p.fadr 20 t1 fun t71 =>
 p.load false 1 t71 H fun t72 =>
 p.ca 4 50 [t72, i0, (si 5)] H fun t73 H =>
 k t73 H)
 (p.bin .eql t22 (si 3) fun t75 =>
 p.cond t75
 (p.fadr 2 t1 fun t76 =>
 p.load false 1 t76 H fun t77 =>
 p.ca 4 50 [t77, i0, (si 2)] H fun t78 H =>
 p.lT t78 H 2 t1 1 fun t81 H =>
 p.gT t78 H (p.bin .eql t81 i0) fun t82 H =>
 p.kT t78 H t82 fun t83 H =>
 p.kF t83 H t20 fun t84 H =>
 p.gT t78 H (p.pick t83 bT t84) fun t85 H =>
 p.pick t78 t85 bF fun t86 =>
 p.lT t86 H 5 t1 1 fun t89 H =>
 p.hT t86 H (p.ca 4 92 [t89] H) fun t90 H =>
 p.pick t86 t90 bF fun t91 =>
 p.lT t91 H 6 t1 1 fun t94 H =>
 p.gT t91 H (p.len t94) fun t95 H =>
 p.gT t91 H (p.bin .leq t95 (si 40)) fun t96 H =>
 p.pick t91 t96 bF fun t97 =>
 k t97 H)
 (p.bin .eql t22 (si 12) fun t99 =>
 M2 (fun (t1 t3 t22 t98 : AV) (H : Ab) => p.cond t98
 (k bT H)
 (p.bin .eql t22 (si 8) fun t103 =>
 p.cond t103
 (Nv p n  k n t1 t3 i0 H)
 (p.bin .eql t22 (si 9) fun t137 =>
 p.cond t137
 (Nw p n  k n t1 t3 i0 H)
 (p.bin .eql t22 (si 10) fun t168 =>
 p.cond t168
 (Nx p n  k n t1 t3 i0 H)
 (k t3 H))))) fun j1 =>
 p.cond t99
 (j1 t1 t20 t22 t99 H)
 (p.bin .eql t22 (si 13) fun t100 =>
 p.cond t100
 (j1 t1 t20 t22 t100 H)
 (p.bin .eql t22 (si 14) fun t101 =>
 j1 t1 t20 t22 t101 H)))))))
 (p.hF t10 H (p.ca 41 121 [t13] H) fun t14 H =>
 p.gF t10 H (p.load true 25 t1 H) fun t12 H =>
 p.hF t10 H (p.ca 4 120 [t12, t14] H) fun t15 H =>
 p.gF t10 H (p.un .not t15) fun t16 H =>
 p.pick t10 bT t16 fun t17 =>
 p.cond t17
 (k bF H)
 (p.fadr 4 t1 fun t18 =>
 p.load false 1 t18 H fun t19 =>
 p.ca 4 50 [t19, (si 1), (si 65535)] H fun t20 H =>
 p.fl 0 t1 1 H fun t22 =>
 p.bin .eql t22 (si 1) fun t24 =>
 p.cond t24
 (p.fadr 11 t1 fun t25 =>
 p.load false 1 t25 H fun t26 =>
 p.lT t26 H 12 t1 1 fun t29 H =>
 p.hT t26 H (p.ca 4 92 [t29] H) fun t30 H =>
 p.gT t26 H (p.un .not t30) fun t31 H =>
 p.kT t26 H t31 fun t32 H =>
 p.lF t32 H 13 t1 1 fun t34 H =>
 p.gF t32 H (p.len t34) fun t35 H =>
 p.gF t32 H (p.bin .gtr t35 (si 40)) fun t36 H =>
 p.gT t26 H (p.pick t32 bT t36) fun t37 H =>
 p.kT t26 H t37 fun t38 H =>
 p.lF t38 H 14 t1 1 fun t40 H =>
 p.hF t38 H (p.ca 4 50 [t40, i0, (si 2)] H) fun t41 H =>
 p.gF t38 H (p.un .not t41) fun t42 H =>
 p.gT t26 H (p.pick t38 bT t42) fun t43 H =>
 p.pick t26 t43 bF fun t44 =>
 p.cond t44
 (k bF H)
 (p.fadr 8 t1 fun t45 =>
 p.load false 1 t45 H fun t46 =>
 p.ca 4 50 [t46, i0, (si 255)] H fun t47 H =>
 p.lT t47 H 7 t1 1 fun t50 H =>
 p.hT t47 H (p.ca 4 82 [t50] H) fun t51 H =>
 p.pick t47 t51 bF fun t52 =>
 p.lT t52 H 10 t1 1 fun t55 H =>
 p.hT t52 H (p.ca 4 50 [t55, i0, (si 65535)] H) fun t56 H =>
 p.pick t52 t56 bF fun t57 =>
 p.lT t57 H 17 t1 1 fun t60 H =>
 p.hT t57 H (p.ca 4 82 [t60] H) fun t61 H =>
 p.pick t57 t61 bF fun t62 =>
 p.lT t62 H 19 t1 1 fun t65 H =>
 p.gT t62 H (p.len t65) fun t66 H =>
 p.gT t62 H (p.bin .leq t66 (si 60)) fun t67 H =>
 p.pick t62 t67 bF fun t68 =>
 k t68 H))
 (p.bin .eql t22 (si 2) fun t70 =>
 p.cond t70
 (p.fadr 20 t1 fun t71 =>
 p.load false 1 t71 H fun t72 =>
 p.ca 4 50 [t72, i0, (si 5)] H fun t73 H =>
 k t73 H)
 (p.bin .eql t22 (si 3) fun t75 =>
 p.cond t75
 (p.fadr 2 t1 fun t76 =>
 p.load false 1 t76 H fun t77 =>
 p.ca 4 50 [t77, i0, (si 2)] H fun t78 H =>
 p.lT t78 H 2 t1 1 fun t81 H =>
 p.gT t78 H (p.bin .eql t81 i0) fun t82 H =>
 p.kT t78 H t82 fun t83 H =>
 p.kF t83 H t20 fun t84 H =>
 p.gT t78 H (p.pick t83 bT t84) fun t85 H =>
 p.pick t78 t85 bF fun t86 =>
 p.lT t86 H 5 t1 1 fun t89 H =>
 p.hT t86 H (p.ca 4 92 [t89] H) fun t90 H =>
 p.pick t86 t90 bF fun t91 =>
 p.lT t91 H 6 t1 1 fun t94 H =>
 p.gT t91 H (p.len t94) fun t95 H =>
 p.gT t91 H (p.bin .leq t95 (si 40)) fun t96 H =>
 p.pick t91 t96 bF fun t97 =>
 k t97 H)
 (p.bin .eql t22 (si 12) fun t99 =>
 M2 (fun (t1 t3 t22 t98 : AV) (H : Ab) => p.cond t98
 (k bT H)
 (p.bin .eql t22 (si 8) fun t103 =>
 p.cond t103
 (Nv p n  k n t1 t3 i0 H)
 (p.bin .eql t22 (si 9) fun t137 =>
 p.cond t137
 (Nw p n  k n t1 t3 i0 H)
 (p.bin .eql t22 (si 10) fun t168 =>
 p.cond t168
 (Nx p n  k n t1 t3 i0 H)
 (k t3 H))))) fun j2 =>
 p.cond t99
 (j2 t1 t20 t22 t99 H)
 (p.bin .eql t22 (si 13) fun t100 =>
 p.cond t100
 (j2 t1 t20 t22 t100 H)
 (p.bin .eql t22 (si 14) fun t101 =>
 j2 t1 t20 t22 t101 H)))))))
noncomputable def Uw (p : Pr β) (n : Nat)  (k : KO β) (m : Nat) (tm : Tm) (H : Ab) : Option β :=
 Dz 191 (fun tm H k => Al Aq p Pj 191 n (cd O8 [1, 1, 1, 0, 1, 0, 1, 2, 1, 2, 1, 2, 1, 2, 1, 1, 0, 1, 0, 0]) tm H k) (Ew 1 (Ei (fun tm H => Al Aq p Pj 191 n (cd O8 [1, 1, 1, 0, 1, 0, 1, 2, 1, 2, 1, 2, 1, 2, 1, 1, 1]) tm H (Ew 0 (Ei (fun tm H => Al Aq p Pj 191 n (cd O8 [1, 1, 1, 1]) tm H (C9 Aq p fi102.results k)) (C9 Aq p fi102.results k)))) (Ew 0 (Ei (fun tm H => Al Aq p Pj 191 n (cd O8 [1, 1, 1, 1]) tm H (C9 Aq p fi102.results k)) (C9 Aq p fi102.results k))))) m tm H
noncomputable def Ux (p : Pr β) (n : Nat)  (k : KO β) (m : Nat) (tm : Tm) (H : Ab) : Option β :=
 Dz 191 (fun tm H k => Al Aq p Pj 191 n (cd O8 [1, 1, 1, 0, 1, 0, 1, 2, 1, 2, 1, 2, 1, 2, 1, 2, 1, 1, 0, 1, 0, 0]) tm H k) (Ew 3 (Ei (fun tm H => Al Aq p Pj 191 n (cd O8 [1, 1, 1, 0, 1, 0, 1, 2, 1, 2, 1, 2, 1, 2, 1, 2, 1, 1, 1]) tm H (Ew 0 (Ei (fun tm H => Al Aq p Pj 191 n (cd O8 [1, 1, 1, 1]) tm H (C9 Aq p fi102.results k)) (C9 Aq p fi102.results k)))) (Ew 0 (Ei (fun tm H => Al Aq p Pj 191 n (cd O8 [1, 1, 1, 1]) tm H (C9 Aq p fi102.results k)) (C9 Aq p fi102.results k))))) m tm H
noncomputable def Uy (p : Pr β) (n : Nat)  (k : KO β) (m : Nat) (tm : Tm) (H : Ab) : Option β :=
 Dz 191 (fun tm H k => Al Aq p Pj 191 n (cd O8 [1, 1, 1, 0, 1, 0, 1, 2, 1, 2, 1, 2, 1, 2, 1, 2, 1, 2, 1, 1, 0, 1, 0, 0]) tm H k) (Ew 5 (Ei (fun tm H => Al Aq p Pj 191 n (cd O8 [1, 1, 1, 0, 1, 0, 1, 2, 1, 2, 1, 2, 1, 2, 1, 2, 1, 2, 1, 1, 1]) tm H (Ew 0 (Ei (fun tm H => Al Aq p Pj 191 n (cd O8 [1, 1, 1, 1]) tm H (C9 Aq p fi102.results k)) (C9 Aq p fi102.results k)))) (Ew 0 (Ei (fun tm H => Al Aq p Pj 191 n (cd O8 [1, 1, 1, 1]) tm H (C9 Aq p fi102.results k)) (C9 Aq p fi102.results k))))) m tm H
theorem Ye (p : Pr β) (n : Nat)  (k : KO β) (m0 : Nat) : ∀ (t : Nat → AV) (H : Ab), Uw p n  k m0 (tf 191 0 t) H = Nv p n  k m0 (t 1) (t 3) (t 4) H := by
 induction m0 with
 | zero => intros; rfl
 | succ m0 ih =>
  intro t H
  refine Eq.trans (B8 (nt := 191) (m := m0) (g := fun t H => Nv p n  k m0 (t 1) (t 3) (t 4) H) ih rfl) ?_
  kernel_rfl
theorem Yf (p : Pr β) (n : Nat)  (k : KO β) (m1 : Nat) : ∀ (t : Nat → AV) (H : Ab), Ux p n  k m1 (tf 191 0 t) H = Nw p n  k m1 (t 1) (t 3) (t 5) H := by
 induction m1 with
 | zero => intros; rfl
 | succ m1 ih =>
  intro t H
  refine Eq.trans (B8 (nt := 191) (m := m1) (g := fun t H => Nw p n  k m1 (t 1) (t 3) (t 5) H) ih rfl) ?_
  kernel_rfl
theorem Yg (p : Pr β) (n : Nat)  (k : KO β) (m2 : Nat) : ∀ (t : Nat → AV) (H : Ab), Uy p n  k m2 (tf 191 0 t) H = Nx p n  k m2 (t 1) (t 3) (t 6) H := by
 induction m2 with
 | zero => intros; rfl
 | succ m2 ih =>
  intro t H
  refine Eq.trans (B8 (nt := 191) (m := m2) (g := fun t H => Nx p n  k m2 (t 1) (t 3) (t 6) H) ih rfl) ?_
  kernel_rfl
theorem Acu (p : Pr β) (n : Nat) (a0 : AV) (H : Ab) (k : KO β) : Cl Aq p n fi102 [a0] H k =
 p.box a0 H fun t1 H =>
 p.fadr 0 t1 fun t7 =>
 p.load false 1 t7 H fun t8 =>
 p.call 4 (.fn 50 [] []) [t8, (si 1), (si 14)] H fun t9 H =>
 p.un .not t9 fun t10 =>
 p.gF t10 H (p.load true 25 t1 H) fun t13 H =>
 p.both
 (p.gF t10 H (p.load true 25 t1 H) fun t12 H =>
 p.hF t10 H (p.call 41 (.fn 121 [] []) [t13] H) fun t14 H =>
 p.hF t10 H (p.call 4 (.fn 120 [] []) [t12, t14] H) fun t15 H =>
 p.gF t10 H (p.un .not t15) fun t16 H =>
 p.pick t10 bT t16 fun t17 =>
 p.cond t17
 (k bF H)
 (p.fadr 4 t1 fun t18 =>
 p.load false 1 t18 H fun t19 =>
 p.call 4 (.fn 50 [] []) [t19, (si 1), (si 65535)] H fun t20 H =>
 p.fadr 0 t1 fun t21 =>
 p.load false 1 t21 H fun t22 =>
 p.bin .eql t22 (si 1) fun t24 =>
 p.cond t24
 (p.fadr 11 t1 fun t25 =>
 p.load false 1 t25 H fun t26 =>
 p.gT t26 H (p.fadr 12 t1) fun t28 H =>
 p.gT t26 H (p.load false 1 t28 H) fun t29 H =>
 p.hT t26 H (p.call 4 (.fn 92 [] []) [t29] H) fun t30 H =>
 p.gT t26 H (p.un .not t30) fun t31 H =>
 p.kT t26 H t31 fun t32 H =>
 p.gF t32 H (p.fadr 13 t1) fun t33 H =>
 p.gF t32 H (p.load false 1 t33 H) fun t34 H =>
 p.gF t32 H (p.len t34) fun t35 H =>
 p.gF t32 H (p.bin .gtr t35 (si 40)) fun t36 H =>
 p.gT t26 H (p.pick t32 bT t36) fun t37 H =>
 p.kT t26 H t37 fun t38 H =>
 p.gF t38 H (p.fadr 14 t1) fun t39 H =>
 p.gF t38 H (p.load false 1 t39 H) fun t40 H =>
 p.hF t38 H (p.call 4 (.fn 50 [] []) [t40, i0, (si 2)] H) fun t41 H =>
 p.gF t38 H (p.un .not t41) fun t42 H =>
 p.gT t26 H (p.pick t38 bT t42) fun t43 H =>
 p.pick t26 t43 bF fun t44 =>
 p.cond t44
 (k bF H)
 (p.fadr 8 t1 fun t45 =>
 p.load false 1 t45 H fun t46 =>
 p.call 4 (.fn 50 [] []) [t46, i0, (si 255)] H fun t47 H =>
 p.gT t47 H (p.fadr 7 t1) fun t49 H =>
 p.gT t47 H (p.load false 1 t49 H) fun t50 H =>
 p.hT t47 H (p.call 4 (.fn 82 [] []) [t50] H) fun t51 H =>
 p.pick t47 t51 bF fun t52 =>
 p.gT t52 H (p.fadr 10 t1) fun t54 H =>
 p.gT t52 H (p.load false 1 t54 H) fun t55 H =>
 p.hT t52 H (p.call 4 (.fn 50 [] []) [t55, i0, (si 65535)] H) fun t56 H =>
 p.pick t52 t56 bF fun t57 =>
 p.gT t57 H (p.fadr 17 t1) fun t59 H =>
 p.gT t57 H (p.load false 1 t59 H) fun t60 H =>
 p.hT t57 H (p.call 4 (.fn 82 [] []) [t60] H) fun t61 H =>
 p.pick t57 t61 bF fun t62 =>
 p.gT t62 H (p.fadr 19 t1) fun t64 H =>
 p.gT t62 H (p.load false 1 t64 H) fun t65 H =>
 p.gT t62 H (p.len t65) fun t66 H =>
 p.gT t62 H (p.bin .leq t66 (si 60)) fun t67 H =>
 p.pick t62 t67 bF fun t68 =>
 k t68 H))
 (p.bin .eql t22 (si 2) fun t70 =>
 p.cond t70
 (p.fadr 20 t1 fun t71 =>
 p.load false 1 t71 H fun t72 =>
 p.call 4 (.fn 50 [] []) [t72, i0, (si 5)] H fun t73 H =>
 k t73 H)
 (p.bin .eql t22 (si 3) fun t75 =>
 p.cond t75
 (p.fadr 2 t1 fun t76 =>
 p.load false 1 t76 H fun t77 =>
 p.call 4 (.fn 50 [] []) [t77, i0, (si 2)] H fun t78 H =>
 p.gT t78 H (p.fadr 2 t1) fun t80 H =>
 p.gT t78 H (p.load false 1 t80 H) fun t81 H =>
 p.gT t78 H (p.bin .eql t81 i0) fun t82 H =>
 p.kT t78 H t82 fun t83 H =>
 p.kF t83 H t20 fun t84 H =>
 p.gT t78 H (p.pick t83 bT t84) fun t85 H =>
 p.pick t78 t85 bF fun t86 =>
 p.gT t86 H (p.fadr 5 t1) fun t88 H =>
 p.gT t86 H (p.load false 1 t88 H) fun t89 H =>
 p.hT t86 H (p.call 4 (.fn 92 [] []) [t89] H) fun t90 H =>
 p.pick t86 t90 bF fun t91 =>
 p.gT t91 H (p.fadr 6 t1) fun t93 H =>
 p.gT t91 H (p.load false 1 t93 H) fun t94 H =>
 p.gT t91 H (p.len t94) fun t95 H =>
 p.gT t91 H (p.bin .leq t95 (si 40)) fun t96 H =>
 p.pick t91 t96 bF fun t97 =>
 k t97 H)
 (p.bin .eql t22 (si 12) fun t99 =>
 M2 (fun (t : Nat → AV) (H : Ab) => p.cond (t 98)
 (k bT H)
 (p.bin .eql (t 22) (si 8) fun t103 =>
 p.cond t103
 (Uw p n  k n (tf 191 0 (ud [(4, i0), (102, t103), (103, t103)] t)) H)
 (p.bin .eql (t 22) (si 9) fun t137 =>
 p.cond t137
 (Ux p n  k n (tf 191 0 (ud [(5, i0), (102, t103), (103, t103), (136, t137), (137, t137)] t)) H)
 (p.bin .eql (t 22) (si 10) fun t168 =>
 p.cond t168
 (Uy p n  k n (tf 191 0 (ud [(6, i0), (102, t103), (103, t103), (136, t137), (137, t137), (167, t168), (168, t168)] t)) H)
 (k (t 3) H))))) fun j1 =>
 p.cond t99
 (j1 (ud [(0, a0), (1, t1), (2, bF), (3, t20), (7, t7), (8, t8), (9, t9), (10, t10), (11, t10), (12, t12), (13, t13), (14, t14), (15, t15), (16, t16), (17, t17), (18, t18), (19, t19), (20, t20), (21, t21), (22, t22), (23, t24), (24, t24), (69, t70), (70, t70), (74, t75), (75, t75), (98, t99), (99, t99)] ut) H)
 (p.bin .eql t22 (si 13) fun t100 =>
 p.cond t100
 (j1 (ud [(0, a0), (1, t1), (2, bF), (3, t20), (7, t7), (8, t8), (9, t9), (10, t10), (11, t10), (12, t12), (13, t13), (14, t14), (15, t15), (16, t16), (17, t17), (18, t18), (19, t19), (20, t20), (21, t21), (22, t22), (23, t24), (24, t24), (69, t70), (70, t70), (74, t75), (75, t75), (98, t100), (99, t99), (100, t100)] ut) H)
 (p.bin .eql t22 (si 14) fun t101 =>
 j1 (ud [(0, a0), (1, t1), (2, bF), (3, t20), (7, t7), (8, t8), (9, t9), (10, t10), (11, t10), (12, t12), (13, t13), (14, t14), (15, t15), (16, t16), (17, t17), (18, t18), (19, t19), (20, t20), (21, t21), (22, t22), (23, t24), (24, t24), (69, t70), (70, t70), (74, t75), (75, t75), (98, t101), (99, t99), (100, t100), (101, t101)] ut) H)))))))
 (p.hF t10 H (p.call 41 (.fn 121 [] []) [t13] H) fun t14 H =>
 p.gF t10 H (p.load true 25 t1 H) fun t12 H =>
 p.hF t10 H (p.call 4 (.fn 120 [] []) [t12, t14] H) fun t15 H =>
 p.gF t10 H (p.un .not t15) fun t16 H =>
 p.pick t10 bT t16 fun t17 =>
 p.cond t17
 (k bF H)
 (p.fadr 4 t1 fun t18 =>
 p.load false 1 t18 H fun t19 =>
 p.call 4 (.fn 50 [] []) [t19, (si 1), (si 65535)] H fun t20 H =>
 p.fadr 0 t1 fun t21 =>
 p.load false 1 t21 H fun t22 =>
 p.bin .eql t22 (si 1) fun t24 =>
 p.cond t24
 (p.fadr 11 t1 fun t25 =>
 p.load false 1 t25 H fun t26 =>
 p.gT t26 H (p.fadr 12 t1) fun t28 H =>
 p.gT t26 H (p.load false 1 t28 H) fun t29 H =>
 p.hT t26 H (p.call 4 (.fn 92 [] []) [t29] H) fun t30 H =>
 p.gT t26 H (p.un .not t30) fun t31 H =>
 p.kT t26 H t31 fun t32 H =>
 p.gF t32 H (p.fadr 13 t1) fun t33 H =>
 p.gF t32 H (p.load false 1 t33 H) fun t34 H =>
 p.gF t32 H (p.len t34) fun t35 H =>
 p.gF t32 H (p.bin .gtr t35 (si 40)) fun t36 H =>
 p.gT t26 H (p.pick t32 bT t36) fun t37 H =>
 p.kT t26 H t37 fun t38 H =>
 p.gF t38 H (p.fadr 14 t1) fun t39 H =>
 p.gF t38 H (p.load false 1 t39 H) fun t40 H =>
 p.hF t38 H (p.call 4 (.fn 50 [] []) [t40, i0, (si 2)] H) fun t41 H =>
 p.gF t38 H (p.un .not t41) fun t42 H =>
 p.gT t26 H (p.pick t38 bT t42) fun t43 H =>
 p.pick t26 t43 bF fun t44 =>
 p.cond t44
 (k bF H)
 (p.fadr 8 t1 fun t45 =>
 p.load false 1 t45 H fun t46 =>
 p.call 4 (.fn 50 [] []) [t46, i0, (si 255)] H fun t47 H =>
 p.gT t47 H (p.fadr 7 t1) fun t49 H =>
 p.gT t47 H (p.load false 1 t49 H) fun t50 H =>
 p.hT t47 H (p.call 4 (.fn 82 [] []) [t50] H) fun t51 H =>
 p.pick t47 t51 bF fun t52 =>
 p.gT t52 H (p.fadr 10 t1) fun t54 H =>
 p.gT t52 H (p.load false 1 t54 H) fun t55 H =>
 p.hT t52 H (p.call 4 (.fn 50 [] []) [t55, i0, (si 65535)] H) fun t56 H =>
 p.pick t52 t56 bF fun t57 =>
 p.gT t57 H (p.fadr 17 t1) fun t59 H =>
 p.gT t57 H (p.load false 1 t59 H) fun t60 H =>
 p.hT t57 H (p.call 4 (.fn 82 [] []) [t60] H) fun t61 H =>
 p.pick t57 t61 bF fun t62 =>
 p.gT t62 H (p.fadr 19 t1) fun t64 H =>
 p.gT t62 H (p.load false 1 t64 H) fun t65 H =>
 p.gT t62 H (p.len t65) fun t66 H =>
 p.gT t62 H (p.bin .leq t66 (si 60)) fun t67 H =>
 p.pick t62 t67 bF fun t68 =>
 k t68 H))
 (p.bin .eql t22 (si 2) fun t70 =>
 p.cond t70
 (p.fadr 20 t1 fun t71 =>
 p.load false 1 t71 H fun t72 =>
 p.call 4 (.fn 50 [] []) [t72, i0, (si 5)] H fun t73 H =>
 k t73 H)
 (p.bin .eql t22 (si 3) fun t75 =>
 p.cond t75
 (p.fadr 2 t1 fun t76 =>
 p.load false 1 t76 H fun t77 =>
 p.call 4 (.fn 50 [] []) [t77, i0, (si 2)] H fun t78 H =>
 p.gT t78 H (p.fadr 2 t1) fun t80 H =>
 p.gT t78 H (p.load false 1 t80 H) fun t81 H =>
 p.gT t78 H (p.bin .eql t81 i0) fun t82 H =>
 p.kT t78 H t82 fun t83 H =>
 p.kF t83 H t20 fun t84 H =>
 p.gT t78 H (p.pick t83 bT t84) fun t85 H =>
 p.pick t78 t85 bF fun t86 =>
 p.gT t86 H (p.fadr 5 t1) fun t88 H =>
 p.gT t86 H (p.load false 1 t88 H) fun t89 H =>
 p.hT t86 H (p.call 4 (.fn 92 [] []) [t89] H) fun t90 H =>
 p.pick t86 t90 bF fun t91 =>
 p.gT t91 H (p.fadr 6 t1) fun t93 H =>
 p.gT t91 H (p.load false 1 t93 H) fun t94 H =>
 p.gT t91 H (p.len t94) fun t95 H =>
 p.gT t91 H (p.bin .leq t95 (si 40)) fun t96 H =>
 p.pick t91 t96 bF fun t97 =>
 k t97 H)
 (p.bin .eql t22 (si 12) fun t99 =>
 M2 (fun (t : Nat → AV) (H : Ab) => p.cond (t 98)
 (k bT H)
 (p.bin .eql (t 22) (si 8) fun t103 =>
 p.cond t103
 (Uw p n  k n (tf 191 0 (ud [(4, i0), (102, t103), (103, t103)] t)) H)
 (p.bin .eql (t 22) (si 9) fun t137 =>
 p.cond t137
 (Ux p n  k n (tf 191 0 (ud [(5, i0), (102, t103), (103, t103), (136, t137), (137, t137)] t)) H)
 (p.bin .eql (t 22) (si 10) fun t168 =>
 p.cond t168
 (Uy p n  k n (tf 191 0 (ud [(6, i0), (102, t103), (103, t103), (136, t137), (137, t137), (167, t168), (168, t168)] t)) H)
 (k (t 3) H))))) fun j2 =>
 p.cond t99
 (j2 (ud [(0, a0), (1, t1), (2, bF), (3, t20), (7, t7), (8, t8), (9, t9), (10, t10), (11, t10), (12, t12), (13, t13), (14, t14), (15, t15), (16, t16), (17, t17), (18, t18), (19, t19), (20, t20), (21, t21), (22, t22), (23, t24), (24, t24), (69, t70), (70, t70), (74, t75), (75, t75), (98, t99), (99, t99)] ut) H)
 (p.bin .eql t22 (si 13) fun t100 =>
 p.cond t100
 (j2 (ud [(0, a0), (1, t1), (2, bF), (3, t20), (7, t7), (8, t8), (9, t9), (10, t10), (11, t10), (12, t12), (13, t13), (14, t14), (15, t15), (16, t16), (17, t17), (18, t18), (19, t19), (20, t20), (21, t21), (22, t22), (23, t24), (24, t24), (69, t70), (70, t70), (74, t75), (75, t75), (98, t100), (99, t99), (100, t100)] ut) H)
 (p.bin .eql t22 (si 14) fun t101 =>
 j2 (ud [(0, a0), (1, t1), (2, bF), (3, t20), (7, t7), (8, t8), (9, t9), (10, t10), (11, t10), (12, t12), (13, t13), (14, t14), (15, t15), (16, t16), (17, t17), (18, t18), (19, t19), (20, t20), (21, t21), (22, t22), (23, t24), (24, t24), (69, t70), (70, t70), (74, t75), (75, t75), (98, t101), (99, t99), (100, t100), (101, t101)] ut) H))))))) := by kernel_rfl
theorem AaU : H4 fi102 @f102 := fun p n a0 H k => by
 rw [Acu]
 simp only [Ye, Yf, Yg]
 kernel_rfl
noncomputable def f65 (n : Nat) (a0 a1 : AV) (H : Ab) (k : KO β) : Option β :=
 p.new Qp H fun t4 H =>
 p.fill Qp [(0, 1, a0), (4, 1, a1)] fun ct8 =>
 p.new Qp H fun t5 H =>
 p.store 25 t5 (.agg ct8) H fun H =>
 p.ca 4 50 [a0, (si 4), (si 7)] H fun t10 H =>
 p.un .not t10 fun t11 =>
 p.kT t11 H a0 fun t13 H =>
 p.gT t11 H (p.bin .neq t13 (si 11)) fun t14 H =>
 p.pick t11 t14 bF fun t15 =>
 p.gF t15 H (p.load true 25 t5 H) fun t17 H =>
 p.hF t15 H (p.ca 4 102 [t17] H) fun t18 H =>
 p.gF t15 H (p.un .not t18) fun t19 H =>
 p.pick t15 bT t19 fun t20 =>
 p.cond t20
 (p.fill Qp [] fun ct21 =>
 p.store 25 t4 (.agg ct21) H fun H =>
 p.load true 25 t4 H fun r0 =>
 k r0 H)
 (p.load true 25 t5 H fun t22 =>
 p.store 25 t4 t22 H fun H =>
 p.load true 25 t4 H fun r0 =>
 k r0 H)
theorem Adl : Tf Ajf @f65 := fun p n a0 a1 H k => by kernel_rfl
noncomputable def L5 (p : Pr β) (n : Nat)  (k : KO β) : Nat → AV → AV → AV → AV → AV → AV → KO β
 | 0, _, _, _, _, _, _, _, _ => none
 | m + 1, t1, t2, t3, t6, t7, t9, t10, H => p.fadr 1 t3 fun t20 =>
   p.load false 1 t20 H fun t21 =>
   p.len t21 fun t22 =>
   p.bin .lss t10 t22 fun t23 =>
   p.cond t23
   (p.fadr 1 t3 fun t26 =>
   p.load false 1 t26 H fun t27 =>
   p.iadr 6 t27 t10 fun t29 =>
   p.load true 6 t29 H fun t30 =>
   p.new [i0, sE, .nl, i0, bF, i0] H fun t11 H =>
   p.store 6 t11 t30 H fun H =>
   p.fl 0 t11 1 H fun t32 =>
   p.bin .neq t32 t2 fun t34 =>
   p.cond t34
   (p.bin .add t10 (si 1) fun t25 =>
   L5 p n  k m t1 t2 t3 t6 t7 t9 t25 H)
   (p.bin .eql t1 (si 4) fun t36 =>
   p.lT t36 H 5 t11 1 fun t39 H =>
   p.gT t36 H (p.bin .eql t39 (si 1)) fun t40 H =>
   p.pick t36 t40 bF fun t41 =>
   p.kF t41 H t1 fun t43 H =>
   p.gF t41 H (p.bin .eql t43 (si 7)) fun t44 H =>
   p.kF t41 H t44 fun t45 H =>
   p.lT t45 H 5 t11 1 fun t47 H =>
   p.gT t45 H (p.bin .eql t47 (si 3)) fun t48 H =>
   p.gF t41 H (p.pick t45 t48 bF) fun t49 H =>
   p.pick t41 bT t49 fun t50 =>
   p.cond t50
   (p.fadr 1 t9 fun t51 =>
   p.load false 1 t51 H fun t52 =>
   p.slice 6 t52 none (some t10) fun t54 =>
   p.fl 1 t9 1 H fun t56 =>
   p.bin .add t10 (si 1) fun t58 =>
   p.slice 6 t56 (some t58) none fun t59 =>
   p.app 6 72 t54 t59 H fun t60 H =>
   p.fs 1 t9 1 t60 H fun H =>
   p.load true 3 t9 H fun t62 =>
   p.fill Qp [] fun ct63 =>
   p.store 3 t6 t62 H fun H =>
   p.store 25 t7 (.agg ct63) H fun H =>
   p.load true 3 t6 H fun r0 =>
   p.load true 25 t7 H fun r1 =>
   k (Bu [r0, r1, bT]) H)
   (p.bin .eql t1 (si 5) fun t65 =>
   p.lT t65 H 5 t11 1 fun t68 H =>
   p.gT t65 H (p.bin .neq t68 (si 1)) fun t69 H =>
   p.pick t65 t69 bF fun t70 =>
   p.cond t70
   (p.fadr 1 t9 fun t71 =>
   p.load false 1 t71 H fun t72 =>
   p.iadr 6 t72 t10 fun t74 =>
   p.fs 5 t74 1 (si 3) H fun H =>
   p.load true 3 t9 H fun t76 =>
   p.ca 41 65 [(si 6), t2] H fun t78 H =>
   p.store 3 t6 t76 H fun H =>
   p.store 25 t7 t78 H fun H =>
   p.load true 3 t6 H fun r0 =>
   p.load true 25 t7 H fun r1 =>
   k (Bu [r0, r1, bT]) H)
   (p.bin .add t10 (si 1) fun t25 =>
   L5 p n  k m t1 t2 t3 t6 t7 t9 t25 H))))
   (p.load true 3 t9 H fun t79 =>
   p.fill Qp [] fun ct80 =>
   p.store 3 t6 t79 H fun H =>
   p.store 25 t7 (.agg ct80) H fun H =>
   p.load true 3 t6 H fun r0 =>
   p.load true 25 t7 H fun r1 =>
   k (Bu [r0, r1, bF]) H)
noncomputable def f16 (n : Nat) (a0 a1 a2 : AV) (H : Ab) (k : KO β) : Option β :=
 p.box a0 H fun t3 H =>
 p.new [i0, .nl, .nl] H fun t6 H =>
 p.new Qp H fun t7 H =>
 p.load true 3 t3 H fun t12 =>
 p.ca 27 64 [t12] H fun t13 H =>
 p.new [i0, .nl, .nl] H fun t9 H =>
 p.store 3 t9 t13 H fun H =>
 p.load true 3 t3 H fun t14 =>
 p.ca 4 11 [t14] H fun t15 H =>
 p.un .not t15 fun t16 =>
 p.cond t16
 (p.load true 3 t9 H fun t17 =>
 p.fill Qp [] fun ct18 =>
 p.store 3 t6 t17 H fun H =>
 p.store 25 t7 (.agg ct18) H fun H =>
 p.load true 3 t6 H fun r0 =>
 p.load true 25 t7 H fun r1 =>
 k (Bu [r0, r1, bF]) H)
 (L5 p n  k n a1 a2 t3 t6 t7 t9 i0 H)
noncomputable def AcB (p : Pr β) (n : Nat)  (k : KO β) (m : Nat) (tm : Tm) (H : Ab) : Option β :=
 Dz 81 (fun tm H k => Al Aq p o16 81 n (cd c16 [1, 1, 1, 0, 1, 0, 0]) tm H k) (Ew 0 (Ei (fun tm H => Al Aq p o16 81 n (cd c16 [1, 1, 1, 1]) tm H (C9 Aq p fi16.results k)) (C9 Aq p fi16.results k))) m tm H
theorem Abx (p : Pr β) (n : Nat)  (k : KO β) (m0 : Nat) : ∀ (t : Nat → AV) (H : Ab), AcB p n  k m0 (tf 81 0 t) H = L5 p n  k m0 (t 1) (t 2) (t 3) (t 6) (t 7) (t 9) (t 10) H := by
 induction m0 with
 | zero => intros; rfl
 | succ m0 ih =>
  intro t H
  refine Eq.trans (B8 (nt := 81) (m := m0) (g := fun t H => L5 p n  k m0 (t 1) (t 2) (t 3) (t 6) (t 7) (t 9) (t 10) H) ih rfl) ?_
  kernel_rfl
theorem Afs (p : Pr β) (n : Nat) (a0 a1 a2 : AV) (H : Ab) (k : KO β) : Cl Aq p n fi16 [a0, a1, a2] H k =
 p.box a0 H fun t3 H =>
 p.new [i0, .nl, .nl] H fun t6 H =>
 p.new Qp H fun t7 H =>
 p.load true 3 t3 H fun t12 =>
 p.call 27 (.fn 64 [] []) [t12] H fun t13 H =>
 p.new [i0, .nl, .nl] H fun t9 H =>
 p.store 3 t9 t13 H fun H =>
 p.load true 3 t3 H fun t14 =>
 p.call 4 (.fn 11 [] []) [t14] H fun t15 H =>
 p.un .not t15 fun t16 =>
 p.cond t16
 (p.load true 3 t9 H fun t17 =>
 p.fill Qp [] fun ct18 =>
 p.store 3 t6 t17 H fun H =>
 p.store 25 t7 (.agg ct18) H fun H =>
 p.load true 3 t6 H fun r0 =>
 p.load true 25 t7 H fun r1 =>
 k (Bu [r0, r1, bF]) H)
 (AcB p n  k n (tf 81 0 (ud [(0, a0), (1, a1), (2, a2), (3, t3), (6, t6), (7, t7), (8, bF), (9, t9), (10, i0), (12, t12), (13, t13), (14, t14), (15, t15), (16, t16)] ut)) H) := by kernel_rfl
theorem AcC : Bd3 fi16 @f16 := fun p n a0 a1 a2 H k => by
 rw [Afs]
 simp only [Abx]
 kernel_rfl
noncomputable def f68 (n : Nat) (a0 a1 : AV) (H : Ab) (k : KO β) : Option β :=
 p.box a1 H fun t3 H =>
 p.call 25 (.fn 100 [] []) [a0] H fun t8 H =>
 p.call 4 (.fn 53 [] []) [a0] H fun t10 H =>
 p.un .not t10 fun t11 =>
 p.gF t11 H (p.load true 4 t3 H) fun t13 H =>
 p.hF t11 H (p.call 4 (.fn 51 [] []) [t13] H) fun t14 H =>
 p.gF t11 H (p.un .not t14) fun t15 H =>
 p.pick t11 bT t15 fun t16 =>
 p.cond t16
 (k (Bu [t8, (si 2)]) H)
 (p.len a0 fun t19 =>
 p.bin .eql t19 (si 6) fun t20 =>
 p.cond t20
 (p.fadr 2 t3 fun t21 =>
 p.load false 1 t21 H fun t22 =>
 p.bin .eql t22 i0 fun t23 =>
 p.cond t23
 (k (Bu [t8, (si 1)]) H)
 (k (Bu [t8, (si 2)]) H))
 (p.load true 4 t3 H fun t27 =>
 p.call 33 (.fn 101 [] []) [t27] H fun t28 H =>
 p.fill [sE, .nl, i0, bF] [(0, 4, t28)] fun ct29 => p.newSl 1 4 ct29 true H fun t29 H =>
 p.app 4 56 t8 t29 H fun t30 H =>
 k (Bu [t30, i0]) H))
theorem Adn : Tf Ajh @f68 := fun p n a0 a1 H k => by kernel_rfl
noncomputable def f19 (n : Nat) (a0 a1 : AV) (H : Ab) (k : KO β) : Option β :=
 p.box a0 H fun t2 H =>
 p.box a1 H fun t3 H =>
 p.new [i0, .nl, .nl] H fun t4 H =>
 p.load true 3 t2 H fun t9 =>
 p.call 27 (.fn 64 [] []) [t9] H fun t10 H =>
 p.new [i0, .nl, .nl] H fun t6 H =>
 p.store 3 t6 t10 H fun H =>
 p.load true 3 t2 H fun t11 =>
 p.call 4 (.fn 11 [] []) [t11] H fun t12 H =>
 p.un .not t12 fun t13 =>
 p.cond t13
 (p.load true 3 t6 H fun t14 =>
 p.store 3 t4 t14 H fun H =>
 p.load true 3 t4 H fun r0 =>
 k (Bu [r0, (si 2)]) H)
 (p.fadr 2 t2 fun t16 =>
 p.load false 1 t16 H fun t17 =>
 p.load true 4 t3 H fun t18 =>
 p.call 90 (.fn 68 [] []) [t17, t18] H fun t19 H =>
 p.extr t19 0 fun t20 =>
 p.extr t19 1 fun t21 =>
 p.fadr 2 t6 fun t23 =>
 p.store 1 t23 t20 H fun H =>
 p.load true 3 t6 H fun t24 =>
 p.store 3 t4 t24 H fun H =>
 p.load true 3 t4 H fun r0 =>
 k (Bu [r0, t21]) H)
theorem AcD : Tf AiF @f19 := fun p n a0 a1 H k => by kernel_rfl
end
section
open Go
variable {β : Type} (p : Pr β)
noncomputable def L6 (p : Pr β) (n : Nat)  (k : KO β) : Nat → AV → AV → AV → KO β
 | 0, _, _, _, _, _ => none
 | m + 1, t0, t2, t3, t6, H => p.bin .gtr t6 i0 fun t57 =>
   p.cond t57
   (p.both
   (p.load true 3 t3 H fun t61 =>
   p.call 33 (.fn 103 [] []) [t0] H fun t63 H =>
   p.call 49 (.fn 19 [] []) [t61, t63] H fun t64 H =>
   p.extr t64 0 fun t65 =>
   p.extr t64 1 fun t66 =>
   p.store 3 t3 t65 H fun H =>
   p.bin .sub t6 (si 1) fun t59 =>
   L6 p n  k m t0 t2 t3 t59 H)
   (p.call 33 (.fn 103 [] []) [t0] H fun t63 H =>
   p.load true 3 t3 H fun t61 =>
   p.call 49 (.fn 19 [] []) [t61, t63] H fun t64 H =>
   p.extr t64 0 fun t65 =>
   p.extr t64 1 fun t66 =>
   p.store 3 t3 t65 H fun H =>
   p.bin .sub t6 (si 1) fun t59 =>
   L6 p n  k m t0 t2 t3 t59 H))
   (p.load true 3 t3 H fun t67 =>
   p.store 3 t2 t67 H fun H =>
   p.load true 3 t2 H fun r0 =>
   k r0 H)
noncomputable def Ay (p : Pr β) (n : Nat)  (k : KO β) : Nat → AV → AV → AV → KO β
 | 0, _, _, _, _, _ => none
 | m + 1, t0, t2, t3, t4, H => p.bin .gtr t4 i0 fun t17 =>
   p.cond t17
   (p.load true 3 t3 H fun t21 =>
   p.call 45 (.fn 113 [] []) [t21] H fun t22 H =>
   p.extr t22 0 fun t23 =>
   p.extr t22 1 fun t24 =>
   p.extr t22 2 fun t25 =>
   p.store 3 t3 t23 H fun H =>
   p.fadr 1 t3 fun t26 =>
   p.load false 1 t26 H fun t27 =>
   p.len t27 fun t28 =>
   p.bin .gtr t28 i0 fun t29 =>
   p.kT t29 H t0 fun t31 H =>
   p.hT t29 H (p.call 4 (.fn 60 [] []) [t31, (si 3)] H) fun t32 H =>
   p.pick t29 t32 bF fun t33 =>
   p.cond t33
   (p.fadr 1 t3 fun t34 =>
   p.fadr 1 t3 fun t37 =>
   p.load false 1 t37 H fun t38 =>
   p.len t38 fun t39 =>
   p.both
   (p.load false 1 t34 H fun t35 =>
   p.both
   (p.call 3 (.fn 59 [] []) [t0, t39] H fun t40 H =>
   p.iadr 6 t35 t40 fun t41 =>
   p.load true 6 t41 H fun t42 =>
   p.new [i0, sE, .nl, i0, bF, i0] H fun t5 H =>
   p.store 6 t5 t42 H fun H =>
   p.fadr 0 t5 fun t48 =>
   p.both
   (p.load true 3 t3 H fun t44 =>
   p.both
   (p.fill [i0, i0, i0] [(0, 1, (si 4)), (1, 1, (si 5)), (2, 1, (si 7))] fun ct46 => p.newSl 3 1 ct46 true H fun t46 H =>
   p.both
   (p.call 3 (.fn 61 [] []) [t0, t46] H fun t47 H =>
   p.load false 1 t48 H fun t49 =>
   p.call 45 (.fn 16 [] []) [t44, t47, t49] H fun t50 H =>
   p.extr t50 0 fun t51 =>
   p.extr t50 1 fun t52 =>
   p.extr t50 2 fun t53 =>
   p.store 3 t3 t51 H fun H =>
   p.bin .sub t4 (si 1) fun t19 =>
   Ay p n  k m t0 t2 t3 t19 H)
   (p.load false 1 t48 H fun t49 =>
   p.call 3 (.fn 61 [] []) [t0, t46] H fun t47 H =>
   p.call 45 (.fn 16 [] []) [t44, t47, t49] H fun t50 H =>
   p.extr t50 0 fun t51 =>
   p.extr t50 1 fun t52 =>
   p.extr t50 2 fun t53 =>
   p.store 3 t3 t51 H fun H =>
   p.bin .sub t4 (si 1) fun t19 =>
   Ay p n  k m t0 t2 t3 t19 H))
   (p.load false 1 t48 H fun t49 =>
   p.fill [i0, i0, i0] [(0, 1, (si 4)), (1, 1, (si 5)), (2, 1, (si 7))] fun ct46 => p.newSl 3 1 ct46 true H fun t46 H =>
   p.call 3 (.fn 61 [] []) [t0, t46] H fun t47 H =>
   p.call 45 (.fn 16 [] []) [t44, t47, t49] H fun t50 H =>
   p.extr t50 0 fun t51 =>
   p.extr t50 1 fun t52 =>
   p.extr t50 2 fun t53 =>
   p.store 3 t3 t51 H fun H =>
   p.bin .sub t4 (si 1) fun t19 =>
   Ay p n  k m t0 t2 t3 t19 H))
   (p.both
   (p.fill [i0, i0, i0] [(0, 1, (si 4)), (1, 1, (si 5)), (2, 1, (si 7))] fun ct46 => p.newSl 3 1 ct46 true H fun t46 H =>
   p.both
   (p.load true 3 t3 H fun t44 =>
   p.both
   (p.call 3 (.fn 61 [] []) [t0, t46] H fun t47 H =>
   p.load false 1 t48 H fun t49 =>
   p.call 45 (.fn 16 [] []) [t44, t47, t49] H fun t50 H =>
   p.extr t50 0 fun t51 =>
   p.extr t50 1 fun t52 =>
   p.extr t50 2 fun t53 =>
   p.store 3 t3 t51 H fun H =>
   p.bin .sub t4 (si 1) fun t19 =>
   Ay p n  k m t0 t2 t3 t19 H)
   (p.load false 1 t48 H fun t49 =>
   p.call 3 (.fn 61 [] []) [t0, t46] H fun t47 H =>
   p.call 45 (.fn 16 [] []) [t44, t47, t49] H fun t50 H =>
   p.extr t50 0 fun t51 =>
   p.extr t50 1 fun t52 =>
   p.extr t50 2 fun t53 =>
   p.store 3 t3 t51 H fun H =>
   p.bin .sub t4 (si 1) fun t19 =>
   Ay p n  k m t0 t2 t3 t19 H))
   (p.both
   (p.call 3 (.fn 61 [] []) [t0, t46] H fun t47 H =>
   p.load true 3 t3 H fun t44 =>
   p.load false 1 t48 H fun t49 =>
   p.call 45 (.fn 16 [] []) [t44, t47, t49] H fun t50 H =>
   p.extr t50 0 fun t51 =>
   p.extr t50 1 fun t52 =>
   p.extr t50 2 fun t53 =>
   p.store 3 t3 t51 H fun H =>
   p.bin .sub t4 (si 1) fun t19 =>
   Ay p n  k m t0 t2 t3 t19 H)
   (p.load false 1 t48 H fun t49 =>
   p.both
   (p.load true 3 t3 H fun t44 =>
   p.call 3 (.fn 61 [] []) [t0, t46] H fun t47 H =>
   p.call 45 (.fn 16 [] []) [t44, t47, t49] H fun t50 H =>
   p.extr t50 0 fun t51 =>
   p.extr t50 1 fun t52 =>
   p.extr t50 2 fun t53 =>
   p.store 3 t3 t51 H fun H =>
   p.bin .sub t4 (si 1) fun t19 =>
   Ay p n  k m t0 t2 t3 t19 H)
   (p.call 3 (.fn 61 [] []) [t0, t46] H fun t47 H =>
   p.load true 3 t3 H fun t44 =>
   p.call 45 (.fn 16 [] []) [t44, t47, t49] H fun t50 H =>
   p.extr t50 0 fun t51 =>
   p.extr t50 1 fun t52 =>
   p.extr t50 2 fun t53 =>
   p.store 3 t3 t51 H fun H =>
   p.bin .sub t4 (si 1) fun t19 =>
   Ay p n  k m t0 t2 t3 t19 H))))
   (p.load false 1 t48 H fun t49 =>
   p.both
   (p.load true 3 t3 H fun t44 =>
   p.fill [i0, i0, i0] [(0, 1, (si 4)), (1, 1, (si 5)), (2, 1, (si 7))] fun ct46 => p.newSl 3 1 ct46 true H fun t46 H =>
   p.call 3 (.fn 61 [] []) [t0, t46] H fun t47 H =>
   p.call 45 (.fn 16 [] []) [t44, t47, t49] H fun t50 H =>
   p.extr t50 0 fun t51 =>
   p.extr t50 1 fun t52 =>
   p.extr t50 2 fun t53 =>
   p.store 3 t3 t51 H fun H =>
   p.bin .sub t4 (si 1) fun t19 =>
   Ay p n  k m t0 t2 t3 t19 H)
   (p.fill [i0, i0, i0] [(0, 1, (si 4)), (1, 1, (si 5)), (2, 1, (si 7))] fun ct46 => p.newSl 3 1 ct46 true H fun t46 H =>
   p.both
   (p.load true 3 t3 H fun t44 =>
   p.call 3 (.fn 61 [] []) [t0, t46] H fun t47 H =>
   p.call 45 (.fn 16 [] []) [t44, t47, t49] H fun t50 H =>
   p.extr t50 0 fun t51 =>
   p.extr t50 1 fun t52 =>
   p.extr t50 2 fun t53 =>
   p.store 3 t3 t51 H fun H =>
   p.bin .sub t4 (si 1) fun t19 =>
   Ay p n  k m t0 t2 t3 t19 H)
   (p.call 3 (.fn 61 [] []) [t0, t46] H fun t47 H =>
   p.load true 3 t3 H fun t44 =>
   p.call 45 (.fn 16 [] []) [t44, t47, t49] H fun t50 H =>
   p.extr t50 0 fun t51 =>
   p.extr t50 1 fun t52 =>
   p.extr t50 2 fun t53 =>
   p.store 3 t3 t51 H fun H =>
   p.bin .sub t4 (si 1) fun t19 =>
   Ay p n  k m t0 t2 t3 t19 H)))))
   (p.new [i0, sE, .nl, i0, bF, i0] H fun t5 H =>
   p.call 3 (.fn 59 [] []) [t0, t39] H fun t40 H =>
   p.iadr 6 t35 t40 fun t41 =>
   p.load true 6 t41 H fun t42 =>
   p.store 6 t5 t42 H fun H =>
   p.fadr 0 t5 fun t48 =>
   p.both
   (p.load true 3 t3 H fun t44 =>
   p.both
   (p.fill [i0, i0, i0] [(0, 1, (si 4)), (1, 1, (si 5)), (2, 1, (si 7))] fun ct46 => p.newSl 3 1 ct46 true H fun t46 H =>
   p.both
   (p.call 3 (.fn 61 [] []) [t0, t46] H fun t47 H =>
   p.load false 1 t48 H fun t49 =>
   p.call 45 (.fn 16 [] []) [t44, t47, t49] H fun t50 H =>
   p.extr t50 0 fun t51 =>
   p.extr t50 1 fun t52 =>
   p.extr t50 2 fun t53 =>
   p.store 3 t3 t51 H fun H =>
   p.bin .sub t4 (si 1) fun t19 =>
   Ay p n  k m t0 t2 t3 t19 H)
   (p.load false 1 t48 H fun t49 =>
   p.call 3 (.fn 61 [] []) [t0, t46] H fun t47 H =>
   p.call 45 (.fn 16 [] []) [t44, t47, t49] H fun t50 H =>
   p.extr t50 0 fun t51 =>
   p.extr t50 1 fun t52 =>
   p.extr t50 2 fun t53 =>
   p.store 3 t3 t51 H fun H =>
   p.bin .sub t4 (si 1) fun t19 =>
   Ay p n  k m t0 t2 t3 t19 H))
   (p.load false 1 t48 H fun t49 =>
   p.fill [i0, i0, i0] [(0, 1, (si 4)), (1, 1, (si 5)), (2, 1, (si 7))] fun ct46 => p.newSl 3 1 ct46 true H fun t46 H =>
   p.call 3 (.fn 61 [] []) [t0, t46] H fun t47 H =>
   p.call 45 (.fn 16 [] []) [t44, t47, t49] H fun t50 H =>
   p.extr t50 0 fun t51 =>
   p.extr t50 1 fun t52 =>
   p.extr t50 2 fun t53 =>
   p.store 3 t3 t51 H fun H =>
   p.bin .sub t4 (si 1) fun t19 =>
   Ay p n  k m t0 t2 t3 t19 H))
   (p.both
   (p.fill [i0, i0, i0] [(0, 1, (si 4)), (1, 1, (si 5)), (2, 1, (si 7))] fun ct46 => p.newSl 3 1 ct46 true H fun t46 H =>
   p.both
   (p.load true 3 t3 H fun t44 =>
   p.both
   (p.call 3 (.fn 61 [] []) [t0, t46] H fun t47 H =>
   p.load false 1 t48 H fun t49 =>
   p.call 45 (.fn 16 [] []) [t44, t47, t49] H fun t50 H =>
   p.extr t50 0 fun t51 =>
   p.extr t50 1 fun t52 =>
   p.extr t50 2 fun t53 =>
   p.store 3 t3 t51 H fun H =>
   p.bin .sub t4 (si 1) fun t19 =>
   Ay p n  k m t0 t2 t3 t19 H)
   (p.load false 1 t48 H fun t49 =>
   p.call 3 (.fn 61 [] []) [t0, t46] H fun t47 H =>
   p.call 45 (.fn 16 [] []) [t44, t47, t49] H fun t50 H =>
   p.extr t50 0 fun t51 =>
   p.extr t50 1 fun t52 =>
   p.extr t50 2 fun t53 =>
   p.store 3 t3 t51 H fun H =>
   p.bin .sub t4 (si 1) fun t19 =>
   Ay p n  k m t0 t2 t3 t19 H))
   (p.both
   (p.call 3 (.fn 61 [] []) [t0, t46] H fun t47 H =>
   p.load true 3 t3 H fun t44 =>
   p.load false 1 t48 H fun t49 =>
   p.call 45 (.fn 16 [] []) [t44, t47, t49] H fun t50 H =>
   p.extr t50 0 fun t51 =>
   p.extr t50 1 fun t52 =>
   p.extr t50 2 fun t53 =>
   p.store 3 t3 t51 H fun H =>
   p.bin .sub t4 (si 1) fun t19 =>
   Ay p n  k m t0 t2 t3 t19 H)
   (p.load false 1 t48 H fun t49 =>
   p.both
   (p.load true 3 t3 H fun t44 =>
   p.call 3 (.fn 61 [] []) [t0, t46] H fun t47 H =>
   p.call 45 (.fn 16 [] []) [t44, t47, t49] H fun t50 H =>
   p.extr t50 0 fun t51 =>
   p.extr t50 1 fun t52 =>
   p.extr t50 2 fun t53 =>
   p.store 3 t3 t51 H fun H =>
   p.bin .sub t4 (si 1) fun t19 =>
   Ay p n  k m t0 t2 t3 t19 H)
   (p.call 3 (.fn 61 [] []) [t0, t46] H fun t47 H =>
   p.load true 3 t3 H fun t44 =>
   p.call 45 (.fn 16 [] []) [t44, t47, t49] H fun t50 H =>
   p.extr t50 0 fun t51 =>
   p.extr t50 1 fun t52 =>
   p.extr t50 2 fun t53 =>
   p.store 3 t3 t51 H fun H =>
   p.bin .sub t4 (si 1) fun t19 =>
   Ay p n  k m t0 t2 t3 t19 H))))
   (p.load false 1 t48 H fun t49 =>
   p.both
   (p.load true 3 t3 H fun t44 =>
   p.fill [i0, i0, i0] [(0, 1, (si 4)), (1, 1, (si 5)), (2, 1, (si 7))] fun ct46 => p.newSl 3 1 ct46 true H fun t46 H =>
   p.call 3 (.fn 61 [] []) [t0, t46] H fun t47 H =>
   p.call 45 (.fn 16 [] []) [t44, t47, t49] H fun t50 H =>
   p.extr t50 0 fun t51 =>
   p.extr t50 1 fun t52 =>
   p.extr t50 2 fun t53 =>
   p.store 3 t3 t51 H fun H =>
   p.bin .sub t4 (si 1) fun t19 =>
   Ay p n  k m t0 t2 t3 t19 H)
   (p.fill [i0, i0, i0] [(0, 1, (si 4)), (1, 1, (si 5)), (2, 1, (si 7))] fun ct46 => p.newSl 3 1 ct46 true H fun t46 H =>
   p.both
   (p.load true 3 t3 H fun t44 =>
   p.call 3 (.fn 61 [] []) [t0, t46] H fun t47 H =>
   p.call 45 (.fn 16 [] []) [t44, t47, t49] H fun t50 H =>
   p.extr t50 0 fun t51 =>
   p.extr t50 1 fun t52 =>
   p.extr t50 2 fun t53 =>
   p.store 3 t3 t51 H fun H =>
   p.bin .sub t4 (si 1) fun t19 =>
   Ay p n  k m t0 t2 t3 t19 H)
   (p.call 3 (.fn 61 [] []) [t0, t46] H fun t47 H =>
   p.load true 3 t3 H fun t44 =>
   p.call 45 (.fn 16 [] []) [t44, t47, t49] H fun t50 H =>
   p.extr t50 0 fun t51 =>
   p.extr t50 1 fun t52 =>
   p.extr t50 2 fun t53 =>
   p.store 3 t3 t51 H fun H =>
   p.bin .sub t4 (si 1) fun t19 =>
   Ay p n  k m t0 t2 t3 t19 H))))))
   (p.both
   (p.call 3 (.fn 59 [] []) [t0, t39] H fun t40 H =>
   p.load false 1 t34 H fun t35 =>
   p.iadr 6 t35 t40 fun t41 =>
   p.load true 6 t41 H fun t42 =>
   p.new [i0, sE, .nl, i0, bF, i0] H fun t5 H =>
   p.store 6 t5 t42 H fun H =>
   p.fadr 0 t5 fun t48 =>
   p.both
   (p.load true 3 t3 H fun t44 =>
   p.both
   (p.fill [i0, i0, i0] [(0, 1, (si 4)), (1, 1, (si 5)), (2, 1, (si 7))] fun ct46 => p.newSl 3 1 ct46 true H fun t46 H =>
   p.both
   (p.call 3 (.fn 61 [] []) [t0, t46] H fun t47 H =>
   p.load false 1 t48 H fun t49 =>
   p.call 45 (.fn 16 [] []) [t44, t47, t49] H fun t50 H =>
   p.extr t50 0 fun t51 =>
   p.extr t50 1 fun t52 =>
   p.extr t50 2 fun t53 =>
   p.store 3 t3 t51 H fun H =>
   p.bin .sub t4 (si 1) fun t19 =>
   Ay p n  k m t0 t2 t3 t19 H)
   (p.load false 1 t48 H fun t49 =>
   p.call 3 (.fn 61 [] []) [t0, t46] H fun t47 H =>
   p.call 45 (.fn 16 [] []) [t44, t47, t49] H fun t50 H =>
   p.extr t50 0 fun t51 =>
   p.extr t50 1 fun t52 =>
   p.extr t50 2 fun t53 =>
   p.store 3 t3 t51 H fun H =>
   p.bin .sub t4 (si 1) fun t19 =>
   Ay p n  k m t0 t2 t3 t19 H))
   (p.load false 1 t48 H fun t49 =>
   p.fill [i0, i0, i0] [(0, 1, (si 4)), (1, 1, (si 5)), (2, 1, (si 7))] fun ct46 => p.newSl 3 1 ct46 true H fun t46 H =>
   p.call 3 (.fn 61 [] []) [t0, t46] H fun t47 H =>
   p.call 45 (.fn 16 [] []) [t44, t47, t49] H fun t50 H =>
   p.extr t50 0 fun t51 =>
   p.extr t50 1 fun t52 =>
   p.extr t50 2 fun t53 =>
   p.store 3 t3 t51 H fun H =>
   p.bin .sub t4 (si 1) fun t19 =>
   Ay p n  k m t0 t2 t3 t19 H))
   (p.both
   (p.fill [i0, i0, i0] [(0, 1, (si 4)), (1, 1, (si 5)), (2, 1, (si 7))] fun ct46 => p.newSl 3 1 ct46 true H fun t46 H =>
   p.both
   (p.load true 3 t3 H fun t44 =>
   p.both
   (p.call 3 (.fn 61 [] []) [t0, t46] H fun t47 H =>
   p.load false 1 t48 H fun t49 =>
   p.call 45 (.fn 16 [] []) [t44, t47, t49] H fun t50 H =>
   p.extr t50 0 fun t51 =>
   p.extr t50 1 fun t52 =>
   p.extr t50 2 fun t53 =>
   p.store 3 t3 t51 H fun H =>
   p.bin .sub t4 (si 1) fun t19 =>
   Ay p n  k m t0 t2 t3 t19 H)
   (p.load false 1 t48 H fun t49 =>
   p.call 3 (.fn 61 [] []) [t0, t46] H fun t47 H =>
   p.call 45 (.fn 16 [] []) [t44, t47, t49] H fun t50 H =>
   p.extr t50 0 fun t51 =>
   p.extr t50 1 fun t52 =>
   p.extr t50 2 fun t53 =>
   p.store 3 t3 t51 H fun H =>
   p.bin .sub t4 (si 1) fun t19 =>
   Ay p n  k m t0 t2 t3 t19 H))
   (p.both
   (p.call 3 (.fn 61 [] []) [t0, t46] H fun t47 H =>
   p.load true 3 t3 H fun t44 =>
   p.load false 1 t48 H fun t49 =>
   p.call 45 (.fn 16 [] []) [t44, t47, t49] H fun t50 H =>
   p.extr t50 0 fun t51 =>
   p.extr t50 1 fun t52 =>
   p.extr t50 2 fun t53 =>
   p.store 3 t3 t51 H fun H =>
   p.bin .sub t4 (si 1) fun t19 =>
   Ay p n  k m t0 t2 t3 t19 H)
   (p.load false 1 t48 H fun t49 =>
   p.both
   (p.load true 3 t3 H fun t44 =>
   p.call 3 (.fn 61 [] []) [t0, t46] H fun t47 H =>
   p.call 45 (.fn 16 [] []) [t44, t47, t49] H fun t50 H =>
   p.extr t50 0 fun t51 =>
   p.extr t50 1 fun t52 =>
   p.extr t50 2 fun t53 =>
   p.store 3 t3 t51 H fun H =>
   p.bin .sub t4 (si 1) fun t19 =>
   Ay p n  k m t0 t2 t3 t19 H)
   (p.call 3 (.fn 61 [] []) [t0, t46] H fun t47 H =>
   p.load true 3 t3 H fun t44 =>
   p.call 45 (.fn 16 [] []) [t44, t47, t49] H fun t50 H =>
   p.extr t50 0 fun t51 =>
   p.extr t50 1 fun t52 =>
   p.extr t50 2 fun t53 =>
   p.store 3 t3 t51 H fun H =>
   p.bin .sub t4 (si 1) fun t19 =>
   Ay p n  k m t0 t2 t3 t19 H))))
   (p.load false 1 t48 H fun t49 =>
   p.both
   (p.load true 3 t3 H fun t44 =>
   p.fill [i0, i0, i0] [(0, 1, (si 4)), (1, 1, (si 5)), (2, 1, (si 7))] fun ct46 => p.newSl 3 1 ct46 true H fun t46 H =>
   p.call 3 (.fn 61 [] []) [t0, t46] H fun t47 H =>
   p.call 45 (.fn 16 [] []) [t44, t47, t49] H fun t50 H =>
   p.extr t50 0 fun t51 =>
   p.extr t50 1 fun t52 =>
   p.extr t50 2 fun t53 =>
   p.store 3 t3 t51 H fun H =>
   p.bin .sub t4 (si 1) fun t19 =>
   Ay p n  k m t0 t2 t3 t19 H)
   (p.fill [i0, i0, i0] [(0, 1, (si 4)), (1, 1, (si 5)), (2, 1, (si 7))] fun ct46 => p.newSl 3 1 ct46 true H fun t46 H =>
   p.both
   (p.load true 3 t3 H fun t44 =>
   p.call 3 (.fn 61 [] []) [t0, t46] H fun t47 H =>
   p.call 45 (.fn 16 [] []) [t44, t47, t49] H fun t50 H =>
   p.extr t50 0 fun t51 =>
   p.extr t50 1 fun t52 =>
   p.extr t50 2 fun t53 =>
   p.store 3 t3 t51 H fun H =>
   p.bin .sub t4 (si 1) fun t19 =>
   Ay p n  k m t0 t2 t3 t19 H)
   (p.call 3 (.fn 61 [] []) [t0, t46] H fun t47 H =>
   p.load true 3 t3 H fun t44 =>
   p.call 45 (.fn 16 [] []) [t44, t47, t49] H fun t50 H =>
   p.extr t50 0 fun t51 =>
   p.extr t50 1 fun t52 =>
   p.extr t50 2 fun t53 =>
   p.store 3 t3 t51 H fun H =>
   p.bin .sub t4 (si 1) fun t19 =>
   Ay p n  k m t0 t2 t3 t19 H)))))
   (p.new [i0, sE, .nl, i0, bF, i0] H fun t5 H =>
   p.both
   (p.load false 1 t34 H fun t35 =>
   p.call 3 (.fn 59 [] []) [t0, t39] H fun t40 H =>
   p.iadr 6 t35 t40 fun t41 =>
   p.load true 6 t41 H fun t42 =>
   p.store 6 t5 t42 H fun H =>
   p.fadr 0 t5 fun t48 =>
   p.both
   (p.load true 3 t3 H fun t44 =>
   p.both
   (p.fill [i0, i0, i0] [(0, 1, (si 4)), (1, 1, (si 5)), (2, 1, (si 7))] fun ct46 => p.newSl 3 1 ct46 true H fun t46 H =>
   p.both
   (p.call 3 (.fn 61 [] []) [t0, t46] H fun t47 H =>
   p.load false 1 t48 H fun t49 =>
   p.call 45 (.fn 16 [] []) [t44, t47, t49] H fun t50 H =>
   p.extr t50 0 fun t51 =>
   p.extr t50 1 fun t52 =>
   p.extr t50 2 fun t53 =>
   p.store 3 t3 t51 H fun H =>
   p.bin .sub t4 (si 1) fun t19 =>
   Ay p n  k m t0 t2 t3 t19 H)
   (p.load false 1 t48 H fun t49 =>
   p.call 3 (.fn 61 [] []) [t0, t46] H fun t47 H =>
   p.call 45 (.fn 16 [] []) [t44, t47, t49] H fun t50 H =>
   p.extr t50 0 fun t51 =>
   p.extr t50 1 fun t52 =>
   p.extr t50 2 fun t53 =>
   p.store 3 t3 t51 H fun H =>
   p.bin .sub t4 (si 1) fun t19 =>
   Ay p n  k m t0 t2 t3 t19 H))
   (p.load false 1 t48 H fun t49 =>
   p.fill [i0, i0, i0] [(0, 1, (si 4)), (1, 1, (si 5)), (2, 1, (si 7))] fun ct46 => p.newSl 3 1 ct46 true H fun t46 H =>
   p.call 3 (.fn 61 [] []) [t0, t46] H fun t47 H =>
   p.call 45 (.fn 16 [] []) [t44, t47, t49] H fun t50 H =>
   p.extr t50 0 fun t51 =>
   p.extr t50 1 fun t52 =>
   p.extr t50 2 fun t53 =>
   p.store 3 t3 t51 H fun H =>
   p.bin .sub t4 (si 1) fun t19 =>
   Ay p n  k m t0 t2 t3 t19 H))
   (p.both
   (p.fill [i0, i0, i0] [(0, 1, (si 4)), (1, 1, (si 5)), (2, 1, (si 7))] fun ct46 => p.newSl 3 1 ct46 true H fun t46 H =>
   p.both
   (p.load true 3 t3 H fun t44 =>
   p.both
   (p.call 3 (.fn 61 [] []) [t0, t46] H fun t47 H =>
   p.load false 1 t48 H fun t49 =>
   p.call 45 (.fn 16 [] []) [t44, t47, t49] H fun t50 H =>
   p.extr t50 0 fun t51 =>
   p.extr t50 1 fun t52 =>
   p.extr t50 2 fun t53 =>
   p.store 3 t3 t51 H fun H =>
   p.bin .sub t4 (si 1) fun t19 =>
   Ay p n  k m t0 t2 t3 t19 H)
   (p.load false 1 t48 H fun t49 =>
   p.call 3 (.fn 61 [] []) [t0, t46] H fun t47 H =>
   p.call 45 (.fn 16 [] []) [t44, t47, t49] H fun t50 H =>
   p.extr t50 0 fun t51 =>
   p.extr t50 1 fun t52 =>
   p.extr t50 2 fun t53 =>
   p.store 3 t3 t51 H fun H =>
   p.bin .sub t4 (si 1) fun t19 =>
   Ay p n  k m t0 t2 t3 t19 H))
   (p.both
   (p.call 3 (.fn 61 [] []) [t0, t46] H fun t47 H =>
   p.load true 3 t3 H fun t44 =>
   p.load false 1 t48 H fun t49 =>
   p.call 45 (.fn 16 [] []) [t44, t47, t49] H fun t50 H =>
   p.extr t50 0 fun t51 =>
   p.extr t50 1 fun t52 =>
   p.extr t50 2 fun t53 =>
   p.store 3 t3 t51 H fun H =>
   p.bin .sub t4 (si 1) fun t19 =>
   Ay p n  k m t0 t2 t3 t19 H)
   (p.load false 1 t48 H fun t49 =>
   p.both
   (p.load true 3 t3 H fun t44 =>
   p.call 3 (.fn 61 [] []) [t0, t46] H fun t47 H =>
   p.call 45 (.fn 16 [] []) [t44, t47, t49] H fun t50 H =>
   p.extr t50 0 fun t51 =>
   p.extr t50 1 fun t52 =>
   p.extr t50 2 fun t53 =>
   p.store 3 t3 t51 H fun H =>
   p.bin .sub t4 (si 1) fun t19 =>
   Ay p n  k m t0 t2 t3 t19 H)
   (p.call 3 (.fn 61 [] []) [t0, t46] H fun t47 H =>
   p.load true 3 t3 H fun t44 =>
   p.call 45 (.fn 16 [] []) [t44, t47, t49] H fun t50 H =>
   p.extr t50 0 fun t51 =>
   p.extr t50 1 fun t52 =>
   p.extr t50 2 fun t53 =>
   p.store 3 t3 t51 H fun H =>
   p.bin .sub t4 (si 1) fun t19 =>
   Ay p n  k m t0 t2 t3 t19 H))))
   (p.load false 1 t48 H fun t49 =>
   p.both
   (p.load true 3 t3 H fun t44 =>
   p.fill [i0, i0, i0] [(0, 1, (si 4)), (1, 1, (si 5)), (2, 1, (si 7))] fun ct46 => p.newSl 3 1 ct46 true H fun t46 H =>
   p.call 3 (.fn 61 [] []) [t0, t46] H fun t47 H =>
   p.call 45 (.fn 16 [] []) [t44, t47, t49] H fun t50 H =>
   p.extr t50 0 fun t51 =>
   p.extr t50 1 fun t52 =>
   p.extr t50 2 fun t53 =>
   p.store 3 t3 t51 H fun H =>
   p.bin .sub t4 (si 1) fun t19 =>
   Ay p n  k m t0 t2 t3 t19 H)
   (p.fill [i0, i0, i0] [(0, 1, (si 4)), (1, 1, (si 5)), (2, 1, (si 7))] fun ct46 => p.newSl 3 1 ct46 true H fun t46 H =>
   p.both
   (p.load true 3 t3 H fun t44 =>
   p.call 3 (.fn 61 [] []) [t0, t46] H fun t47 H =>
   p.call 45 (.fn 16 [] []) [t44, t47, t49] H fun t50 H =>
   p.extr t50 0 fun t51 =>
   p.extr t50 1 fun t52 =>
   p.extr t50 2 fun t53 =>
   p.store 3 t3 t51 H fun H =>
   p.bin .sub t4 (si 1) fun t19 =>
   Ay p n  k m t0 t2 t3 t19 H)
   (p.call 3 (.fn 61 [] []) [t0, t46] H fun t47 H =>
   p.load true 3 t3 H fun t44 =>
   p.call 45 (.fn 16 [] []) [t44, t47, t49] H fun t50 H =>
   p.extr t50 0 fun t51 =>
   p.extr t50 1 fun t52 =>
   p.extr t50 2 fun t53 =>
   p.store 3 t3 t51 H fun H =>
   p.bin .sub t4 (si 1) fun t19 =>
   Ay p n  k m t0 t2 t3 t19 H)))))
   (p.call 3 (.fn 59 [] []) [t0, t39] H fun t40 H =>
   p.load false 1 t34 H fun t35 =>
   p.iadr 6 t35 t40 fun t41 =>
   p.load true 6 t41 H fun t42 =>
   p.store 6 t5 t42 H fun H =>
   p.fadr 0 t5 fun t48 =>
   p.both
   (p.load true 3 t3 H fun t44 =>
   p.both
   (p.fill [i0, i0, i0] [(0, 1, (si 4)), (1, 1, (si 5)), (2, 1, (si 7))] fun ct46 => p.newSl 3 1 ct46 true H fun t46 H =>
   p.both
   (p.call 3 (.fn 61 [] []) [t0, t46] H fun t47 H =>
   p.load false 1 t48 H fun t49 =>
   p.call 45 (.fn 16 [] []) [t44, t47, t49] H fun t50 H =>
   p.extr t50 0 fun t51 =>
   p.extr t50 1 fun t52 =>
   p.extr t50 2 fun t53 =>
   p.store 3 t3 t51 H fun H =>
   p.bin .sub t4 (si 1) fun t19 =>
   Ay p n  k m t0 t2 t3 t19 H)
   (p.load false 1 t48 H fun t49 =>
   p.call 3 (.fn 61 [] []) [t0, t46] H fun t47 H =>
   p.call 45 (.fn 16 [] []) [t44, t47, t49] H fun t50 H =>
   p.extr t50 0 fun t51 =>
   p.extr t50 1 fun t52 =>
   p.extr t50 2 fun t53 =>
   p.store 3 t3 t51 H fun H =>
   p.bin .sub t4 (si 1) fun t19 =>
   Ay p n  k m t0 t2 t3 t19 H))
   (p.load false 1 t48 H fun t49 =>
   p.fill [i0, i0, i0] [(0, 1, (si 4)), (1, 1, (si 5)), (2, 1, (si 7))] fun ct46 => p.newSl 3 1 ct46 true H fun t46 H =>
   p.call 3 (.fn 61 [] []) [t0, t46] H fun t47 H =>
   p.call 45 (.fn 16 [] []) [t44, t47, t49] H fun t50 H =>
   p.extr t50 0 fun t51 =>
   p.extr t50 1 fun t52 =>
   p.extr t50 2 fun t53 =>
   p.store 3 t3 t51 H fun H =>
   p.bin .sub t4 (si 1) fun t19 =>
   Ay p n  k m t0 t2 t3 t19 H))
   (p.both
   (p.fill [i0, i0, i0] [(0, 1, (si 4)), (1, 1, (si 5)), (2, 1, (si 7))] fun ct46 => p.newSl 3 1 ct46 true H fun t46 H =>
   p.both
   (p.load true 3 t3 H fun t44 =>
   p.both
   (p.call 3 (.fn 61 [] []) [t0, t46] H fun t47 H =>
   p.load false 1 t48 H fun t49 =>
   p.call 45 (.fn 16 [] []) [t44, t47, t49] H fun t50 H =>
   p.extr t50 0 fun t51 =>
   p.extr t50 1 fun t52 =>
   p.extr t50 2 fun t53 =>
   p.store 3 t3 t51 H fun H =>
   p.bin .sub t4 (si 1) fun t19 =>
   Ay p n  k m t0 t2 t3 t19 H)
   (p.load false 1 t48 H fun t49 =>
   p.call 3 (.fn 61 [] []) [t0, t46] H fun t47 H =>
   p.call 45 (.fn 16 [] []) [t44, t47, t49] H fun t50 H =>
   p.extr t50 0 fun t51 =>
   p.extr t50 1 fun t52 =>
   p.extr t50 2 fun t53 =>
   p.store 3 t3 t51 H fun H =>
   p.bin .sub t4 (si 1) fun t19 =>
   Ay p n  k m t0 t2 t3 t19 H))
   (p.both
   (p.call 3 (.fn 61 [] []) [t0, t46] H fun t47 H =>
   p.load true 3 t3 H fun t44 =>
   p.load false 1 t48 H fun t49 =>
   p.call 45 (.fn 16 [] []) [t44, t47, t49] H fun t50 H =>
   p.extr t50 0 fun t51 =>
   p.extr t50 1 fun t52 =>
   p.extr t50 2 fun t53 =>
   p.store 3 t3 t51 H fun H =>
   p.bin .sub t4 (si 1) fun t19 =>
   Ay p n  k m t0 t2 t3 t19 H)
   (p.load false 1 t48 H fun t49 =>
   p.both
   (p.load true 3 t3 H fun t44 =>
   p.call 3 (.fn 61 [] []) [t0, t46] H fun t47 H =>
   p.call 45 (.fn 16 [] []) [t44, t47, t49] H fun t50 H =>
   p.extr t50 0 fun t51 =>
   p.extr t50 1 fun t52 =>
   p.extr t50 2 fun t53 =>
   p.store 3 t3 t51 H fun H =>
   p.bin .sub t4 (si 1) fun t19 =>
   Ay p n  k m t0 t2 t3 t19 H)
   (p.call 3 (.fn 61 [] []) [t0, t46] H fun t47 H =>
   p.load true 3 t3 H fun t44 =>
   p.call 45 (.fn 16 [] []) [t44, t47, t49] H fun t50 H =>
   p.extr t50 0 fun t51 =>
   p.extr t50 1 fun t52 =>
   p.extr t50 2 fun t53 =>
   p.store 3 t3 t51 H fun H =>
   p.bin .sub t4 (si 1) fun t19 =>
   Ay p n  k m t0 t2 t3 t19 H))))
   (p.load false 1 t48 H fun t49 =>
   p.both
   (p.load true 3 t3 H fun t44 =>
   p.fill [i0, i0, i0] [(0, 1, (si 4)), (1, 1, (si 5)), (2, 1, (si 7))] fun ct46 => p.newSl 3 1 ct46 true H fun t46 H =>
   p.call 3 (.fn 61 [] []) [t0, t46] H fun t47 H =>
   p.call 45 (.fn 16 [] []) [t44, t47, t49] H fun t50 H =>
   p.extr t50 0 fun t51 =>
   p.extr t50 1 fun t52 =>
   p.extr t50 2 fun t53 =>
   p.store 3 t3 t51 H fun H =>
   p.bin .sub t4 (si 1) fun t19 =>
   Ay p n  k m t0 t2 t3 t19 H)
   (p.fill [i0, i0, i0] [(0, 1, (si 4)), (1, 1, (si 5)), (2, 1, (si 7))] fun ct46 => p.newSl 3 1 ct46 true H fun t46 H =>
   p.both
   (p.load true 3 t3 H fun t44 =>
   p.call 3 (.fn 61 [] []) [t0, t46] H fun t47 H =>
   p.call 45 (.fn 16 [] []) [t44, t47, t49] H fun t50 H =>
   p.extr t50 0 fun t51 =>
   p.extr t50 1 fun t52 =>
   p.extr t50 2 fun t53 =>
   p.store 3 t3 t51 H fun H =>
   p.bin .sub t4 (si 1) fun t19 =>
   Ay p n  k m t0 t2 t3 t19 H)
   (p.call 3 (.fn 61 [] []) [t0, t46] H fun t47 H =>
   p.load true 3 t3 H fun t44 =>
   p.call 45 (.fn 16 [] []) [t44, t47, t49] H fun t50 H =>
   p.extr t50 0 fun t51 =>
   p.extr t50 1 fun t52 =>
   p.extr t50 2 fun t53 =>
   p.store 3 t3 t51 H fun H =>
   p.bin .sub t4 (si 1) fun t19 =>
   Ay p n  k m t0 t2 t3 t19 H))))))))
   (p.bin .sub t4 (si 1) fun t19 =>
   Ay p n  k m t0 t2 t3 t19 H))
   (p.call 3 (.fn 59 [] []) [t0, (si 4)] H fun t55 H =>
   L6 p n  k n t0 t2 t3 t55 H)
noncomputable def f86 (n : Nat) (a0 : AV) (H : Ab) (k : KO β) : Option β :=
 p.new [i0, .nl, .nl] H fun t2 H =>
 p.fill [i0, i0, i0, i0, i0] [(0, 1, i0), (1, 1, i0), (2, 1, (si 3)), (3, 1, (si 65534)), (4, 1, (si 65535))] fun ct8 => p.newSl 5 1 ct8 true H fun t8 H =>
 p.call 3 (.fn 61 [] []) [a0, t8] H fun t9 H =>
 p.fill [i0, .nl, .nl] [(0, 1, t9)] fun ct10 =>
 p.new [i0, .nl, .nl] H fun t3 H =>
 p.store 3 t3 (.agg ct10) H fun H =>
 p.call 25 (.fn 112 [] []) [a0, (si 6)] H fun t12 H =>
 p.fadr 2 t3 fun t13 =>
 p.store 1 t13 t12 H fun H =>
 p.call 3 (.fn 59 [] []) [a0, (si 6)] H fun t15 H =>
 Ay p n  k n a0 t2 t3 t15 H
noncomputable def Ad1 (p : Pr β) (n : Nat)  (k : KO β) (m : Nat) (tm : Tm) (H : Ab) : Option β :=
 Dz 68 (fun tm H k => Al Aq p o86 68 n (cd c86 [1, 1, 1, 1, 0, 1, 0, 0]) tm H k) (Ew 2 (Ei (fun tm H => Al Aq p o86 68 n (cd c86 [1, 1, 1, 1, 1]) tm H (C9 Aq p fi86.results k)) (C9 Aq p fi86.results k))) m tm H
noncomputable def Ad0 (p : Pr β) (n : Nat)  (k : KO β) (m : Nat) (tm : Tm) (H : Ab) : Option β :=
 Dz 68 (fun tm H k => Al Aq p o86 68 n (cd c86 [1, 1, 1, 0, 1, 0, 0]) tm H k) (Ew 0 (Ei (fun tm H => Al Aq p o86 68 n (cd c86 [1, 1, 1, 1]) tm H (C9 Aq p fi86.results k)) (C9 Aq p fi86.results k))) m tm H
theorem Tp (p : Pr β) (n : Nat)  (k : KO β) (m1 : Nat) : ∀ (t : Nat → AV) (H : Ab), Ad1 p n  k m1 (tf 68 0 t) H = L6 p n  k m1 (t 0) (t 2) (t 3) (t 6) H := by
 induction m1 with
 | zero => intros; rfl
 | succ m1 ih =>
  intro t H
  refine Eq.trans (B8 (nt := 68) (m := m1) (g := fun t H => L6 p n  k m1 (t 0) (t 2) (t 3) (t 6) H) ih rfl) ?_
  kernel_rfl
theorem We (p : Pr β) (n : Nat)  (k : KO β) (m0 : Nat) (t : Nat → AV) (H : Ab) : Al Aq p o86 68 n (cd c86 [1, 1, 1, 0, 1, 0, 0]) (tf 68 0 t) H (Ei (fun tm H => Ay p n  k m0 (gt tm 0) (gt tm 2) (gt tm 3) (gt tm 4) H) (Ew 0 (Ei (fun tm H => Al Aq p o86 68 n (cd c86 [1, 1, 1, 1]) tm H (C9 Aq p fi86.results k)) (C9 Aq p fi86.results k)))) =
 p.bin .gtr (t 4) i0 fun t17 =>
 p.cond t17
 (p.load true 3 (t 3) H fun t21 =>
 p.call 45 (.fn 113 [] []) [t21] H fun t22 H =>
 p.extr t22 0 fun t23 =>
 p.extr t22 1 fun t24 =>
 p.extr t22 2 fun t25 =>
 p.store 3 (t 3) t23 H fun H =>
 p.fadr 1 (t 3) fun t26 =>
 p.load false 1 t26 H fun t27 =>
 p.len t27 fun t28 =>
 p.bin .gtr t28 i0 fun t29 =>
 p.kT t29 H (t 0) fun t31 H =>
 p.hT t29 H (p.call 4 (.fn 60 [] []) [t31, (si 3)] H) fun t32 H =>
 p.pick t29 t32 bF fun t33 =>
 p.cond t33
 (p.fadr 1 (t 3) fun t34 =>
 p.fadr 1 (t 3) fun t37 =>
 p.load false 1 t37 H fun t38 =>
 p.len t38 fun t39 =>
 p.both
 (p.load false 1 t34 H fun t35 =>
 p.both
 (p.call 3 (.fn 59 [] []) [(t 0), t39] H fun t40 H =>
 p.iadr 6 t35 t40 fun t41 =>
 p.load true 6 t41 H fun t42 =>
 p.new [i0, sE, .nl, i0, bF, i0] H fun t5 H =>
 p.store 6 t5 t42 H fun H =>
 p.fadr 0 t5 fun t48 =>
 p.both
 (p.load true 3 (t 3) H fun t44 =>
 p.both
 (p.fill [i0, i0, i0] [(0, 1, (si 4)), (1, 1, (si 5)), (2, 1, (si 7))] fun ct46 => p.newSl 3 1 ct46 true H fun t46 H =>
 p.both
 (p.call 3 (.fn 61 [] []) [(t 0), t46] H fun t47 H =>
 p.load false 1 t48 H fun t49 =>
 p.call 45 (.fn 16 [] []) [t44, t47, t49] H fun t50 H =>
 p.extr t50 0 fun t51 =>
 p.extr t50 1 fun t52 =>
 p.extr t50 2 fun t53 =>
 p.store 3 (t 3) t51 H fun H =>
 p.bin .sub (t 4) (si 1) fun t19 =>
 Ay p n  k m0 (t 0) (t 2) (t 3) t19 H)
 (p.load false 1 t48 H fun t49 =>
 p.call 3 (.fn 61 [] []) [(t 0), t46] H fun t47 H =>
 p.call 45 (.fn 16 [] []) [t44, t47, t49] H fun t50 H =>
 p.extr t50 0 fun t51 =>
 p.extr t50 1 fun t52 =>
 p.extr t50 2 fun t53 =>
 p.store 3 (t 3) t51 H fun H =>
 p.bin .sub (t 4) (si 1) fun t19 =>
 Ay p n  k m0 (t 0) (t 2) (t 3) t19 H))
 (p.load false 1 t48 H fun t49 =>
 p.fill [i0, i0, i0] [(0, 1, (si 4)), (1, 1, (si 5)), (2, 1, (si 7))] fun ct46 => p.newSl 3 1 ct46 true H fun t46 H =>
 p.call 3 (.fn 61 [] []) [(t 0), t46] H fun t47 H =>
 p.call 45 (.fn 16 [] []) [t44, t47, t49] H fun t50 H =>
 p.extr t50 0 fun t51 =>
 p.extr t50 1 fun t52 =>
 p.extr t50 2 fun t53 =>
 p.store 3 (t 3) t51 H fun H =>
 p.bin .sub (t 4) (si 1) fun t19 =>
 Ay p n  k m0 (t 0) (t 2) (t 3) t19 H))
 (p.both
 (p.fill [i0, i0, i0] [(0, 1, (si 4)), (1, 1, (si 5)), (2, 1, (si 7))] fun ct46 => p.newSl 3 1 ct46 true H fun t46 H =>
 p.both
 (p.load true 3 (t 3) H fun t44 =>
 p.both
 (p.call 3 (.fn 61 [] []) [(t 0), t46] H fun t47 H =>
 p.load false 1 t48 H fun t49 =>
 p.call 45 (.fn 16 [] []) [t44, t47, t49] H fun t50 H =>
 p.extr t50 0 fun t51 =>
 p.extr t50 1 fun t52 =>
 p.extr t50 2 fun t53 =>
 p.store 3 (t 3) t51 H fun H =>
 p.bin .sub (t 4) (si 1) fun t19 =>
 Ay p n  k m0 (t 0) (t 2) (t 3) t19 H)
 (p.load false 1 t48 H fun t49 =>
 p.call 3 (.fn 61 [] []) [(t 0), t46] H fun t47 H =>
 p.call 45 (.fn 16 [] []) [t44, t47, t49] H fun t50 H =>
 p.extr t50 0 fun t51 =>
 p.extr t50 1 fun t52 =>
 p.extr t50 2 fun t53 =>
 p.store 3 (t 3) t51 H fun H =>
 p.bin .sub (t 4) (si 1) fun t19 =>
 Ay p n  k m0 (t 0) (t 2) (t 3) t19 H))
 (p.both
 (p.call 3 (.fn 61 [] []) [(t 0), t46] H fun t47 H =>
 p.load true 3 (t 3) H fun t44 =>
 p.load false 1 t48 H fun t49 =>
 p.call 45 (.fn 16 [] []) [t44, t47, t49] H fun t50 H =>
 p.extr t50 0 fun t51 =>
 p.extr t50 1 fun t52 =>
 p.extr t50 2 fun t53 =>
 p.store 3 (t 3) t51 H fun H =>
 p.bin .sub (t 4) (si 1) fun t19 =>
 Ay p n  k m0 (t 0) (t 2) (t 3) t19 H)
 (p.load false 1 t48 H fun t49 =>
 p.both
 (p.load true 3 (t 3) H fun t44 =>
 p.call 3 (.fn 61 [] []) [(t 0), t46] H fun t47 H =>
 p.call 45 (.fn 16 [] []) [t44, t47, t49] H fun t50 H =>
 p.extr t50 0 fun t51 =>
 p.extr t50 1 fun t52 =>
 p.extr t50 2 fun t53 =>
 p.store 3 (t 3) t51 H fun H =>
 p.bin .sub (t 4) (si 1) fun t19 =>
 Ay p n  k m0 (t 0) (t 2) (t 3) t19 H)
 (p.call 3 (.fn 61 [] []) [(t 0), t46] H fun t47 H =>
 p.load true 3 (t 3) H fun t44 =>
 p.call 45 (.fn 16 [] []) [t44, t47, t49] H fun t50 H =>
 p.extr t50 0 fun t51 =>
 p.extr t50 1 fun t52 =>
 p.extr t50 2 fun t53 =>
 p.store 3 (t 3) t51 H fun H =>
 p.bin .sub (t 4) (si 1) fun t19 =>
 Ay p n  k m0 (t 0) (t 2) (t 3) t19 H))))
 (p.load false 1 t48 H fun t49 =>
 p.both
 (p.load true 3 (t 3) H fun t44 =>
 p.fill [i0, i0, i0] [(0, 1, (si 4)), (1, 1, (si 5)), (2, 1, (si 7))] fun ct46 => p.newSl 3 1 ct46 true H fun t46 H =>
 p.call 3 (.fn 61 [] []) [(t 0), t46] H fun t47 H =>
 p.call 45 (.fn 16 [] []) [t44, t47, t49] H fun t50 H =>
 p.extr t50 0 fun t51 =>
 p.extr t50 1 fun t52 =>
 p.extr t50 2 fun t53 =>
 p.store 3 (t 3) t51 H fun H =>
 p.bin .sub (t 4) (si 1) fun t19 =>
 Ay p n  k m0 (t 0) (t 2) (t 3) t19 H)
 (p.fill [i0, i0, i0] [(0, 1, (si 4)), (1, 1, (si 5)), (2, 1, (si 7))] fun ct46 => p.newSl 3 1 ct46 true H fun t46 H =>
 p.both
 (p.load true 3 (t 3) H fun t44 =>
 p.call 3 (.fn 61 [] []) [(t 0), t46] H fun t47 H =>
 p.call 45 (.fn 16 [] []) [t44, t47, t49] H fun t50 H =>
 p.extr t50 0 fun t51 =>
 p.extr t50 1 fun t52 =>
 p.extr t50 2 fun t53 =>
 p.store 3 (t 3) t51 H fun H =>
 p.bin .sub (t 4) (si 1) fun t19 =>
 Ay p n  k m0 (t 0) (t 2) (t 3) t19 H)
 (p.call 3 (.fn 61 [] []) [(t 0), t46] H fun t47 H =>
 p.load true 3 (t 3) H fun t44 =>
 p.call 45 (.fn 16 [] []) [t44, t47, t49] H fun t50 H =>
 p.extr t50 0 fun t51 =>
 p.extr t50 1 fun t52 =>
 p.extr t50 2 fun t53 =>
 p.store 3 (t 3) t51 H fun H =>
 p.bin .sub (t 4) (si 1) fun t19 =>
 Ay p n  k m0 (t 0) (t 2) (t 3) t19 H)))))
 (p.new [i0, sE, .nl, i0, bF, i0] H fun t5 H =>
 p.call 3 (.fn 59 [] []) [(t 0), t39] H fun t40 H =>
 p.iadr 6 t35 t40 fun t41 =>
 p.load true 6 t41 H fun t42 =>
 p.store 6 t5 t42 H fun H =>
 p.fadr 0 t5 fun t48 =>
 p.both
 (p.load true 3 (t 3) H fun t44 =>
 p.both
 (p.fill [i0, i0, i0] [(0, 1, (si 4)), (1, 1, (si 5)), (2, 1, (si 7))] fun ct46 => p.newSl 3 1 ct46 true H fun t46 H =>
 p.both
 (p.call 3 (.fn 61 [] []) [(t 0), t46] H fun t47 H =>
 p.load false 1 t48 H fun t49 =>
 p.call 45 (.fn 16 [] []) [t44, t47, t49] H fun t50 H =>
 p.extr t50 0 fun t51 =>
 p.extr t50 1 fun t52 =>
 p.extr t50 2 fun t53 =>
 p.store 3 (t 3) t51 H fun H =>
 p.bin .sub (t 4) (si 1) fun t19 =>
 Ay p n  k m0 (t 0) (t 2) (t 3) t19 H)
 (p.load false 1 t48 H fun t49 =>
 p.call 3 (.fn 61 [] []) [(t 0), t46] H fun t47 H =>
 p.call 45 (.fn 16 [] []) [t44, t47, t49] H fun t50 H =>
 p.extr t50 0 fun t51 =>
 p.extr t50 1 fun t52 =>
 p.extr t50 2 fun t53 =>
 p.store 3 (t 3) t51 H fun H =>
 p.bin .sub (t 4) (si 1) fun t19 =>
 Ay p n  k m0 (t 0) (t 2) (t 3) t19 H))
 (p.load false 1 t48 H fun t49 =>
 p.fill [i0, i0, i0] [(0, 1, (si 4)), (1, 1, (si 5)), (2, 1, (si 7))] fun ct46 => p.newSl 3 1 ct46 true H fun t46 H =>
 p.call 3 (.fn 61 [] []) [(t 0), t46] H fun t47 H =>
 p.call 45 (.fn 16 [] []) [t44, t47, t49] H fun t50 H =>
 p.extr t50 0 fun t51 =>
 p.extr t50 1 fun t52 =>
 p.extr t50 2 fun t53 =>
 p.store 3 (t 3) t51 H fun H =>
 p.bin .sub (t 4) (si 1) fun t19 =>
 Ay p n  k m0 (t 0) (t 2) (t 3) t19 H))
 (p.both
 (p.fill [i0, i0, i0] [(0, 1, (si 4)), (1, 1, (si 5)), (2, 1, (si 7))] fun ct46 => p.newSl 3 1 ct46 true H fun t46 H =>
 p.both
 (p.load true 3 (t 3) H fun t44 =>
 p.both
 (p.call 3 (.fn 61 [] []) [(t 0), t46] H fun t47 H =>
 p.load false 1 t48 H fun t49 =>
 p.call 45 (.fn 16 [] []) [t44, t47, t49] H fun t50 H =>
 p.extr t50 0 fun t51 =>
 p.extr t50 1 fun t52 =>
 p.extr t50 2 fun t53 =>
 p.store 3 (t 3) t51 H fun H =>
 p.bin .sub (t 4) (si 1) fun t19 =>
 Ay p n  k m0 (t 0) (t 2) (t 3) t19 H)
 (p.load false 1 t48 H fun t49 =>
 p.call 3 (.fn 61 [] []) [(t 0), t46] H fun t47 H =>
 p.call 45 (.fn 16 [] []) [t44, t47, t49] H fun t50 H =>
 p.extr t50 0 fun t51 =>
 p.extr t50 1 fun t52 =>
 p.extr t50 2 fun t53 =>
 p.store 3 (t 3) t51 H fun H =>
 p.bin .sub (t 4) (si 1) fun t19 =>
 Ay p n  k m0 (t 0) (t 2) (t 3) t19 H))
 (p.both
 (p.call 3 (.fn 61 [] []) [(t 0), t46] H fun t47 H =>
 p.load true 3 (t 3) H fun t44 =>
 p.load false 1 t48 H fun t49 =>
 p.call 45 (.fn 16 [] []) [t44, t47, t49] H fun t50 H =>
 p.extr t50 0 fun t51 =>
 p.extr t50 1 fun t52 =>
 p.extr t50 2 fun t53 =>
 p.store 3 (t 3) t51 H fun H =>
 p.bin .sub (t 4) (si 1) fun t19 =>
 Ay p n  k m0 (t 0) (t 2) (t 3) t19 H)
 (p.load false 1 t48 H fun t49 =>
 p.both
 (p.load true 3 (t 3) H fun t44 =>
 p.call 3 (.fn 61 [] []) [(t 0), t46] H fun t47 H =>
 p.call 45 (.fn 16 [] []) [t44, t47, t49] H fun t50 H =>
 p.extr t50 0 fun t51 =>
 p.extr t50 1 fun t52 =>
 p.extr t50 2 fun t53 =>
 p.store 3 (t 3) t51 H fun H =>
 p.bin .sub (t 4) (si 1) fun t19 =>
 Ay p n  k m0 (t 0) (t 2) (t 3) t19 H)
 (p.call 3 (.fn 61 [] []) [(t 0), t46] H fun t47 H =>
 p.load true 3 (t 3) H fun t44 =>
 p.call 45 (.fn 16 [] []) [t44, t47, t49] H fun t50 H =>
 p.extr t50 0 fun t51 =>
 p.extr t50 1 fun t52 =>
 p.extr t50 2 fun t53 =>
 p.store 3 (t 3) t51 H fun H =>
 p.bin .sub (t 4) (si 1) fun t19 =>
 Ay p n  k m0 (t 0) (t 2) (t 3) t19 H))))
 (p.load false 1 t48 H fun t49 =>
 p.both
 (p.load true 3 (t 3) H fun t44 =>
 p.fill [i0, i0, i0] [(0, 1, (si 4)), (1, 1, (si 5)), (2, 1, (si 7))] fun ct46 => p.newSl 3 1 ct46 true H fun t46 H =>
 p.call 3 (.fn 61 [] []) [(t 0), t46] H fun t47 H =>
 p.call 45 (.fn 16 [] []) [t44, t47, t49] H fun t50 H =>
 p.extr t50 0 fun t51 =>
 p.extr t50 1 fun t52 =>
 p.extr t50 2 fun t53 =>
 p.store 3 (t 3) t51 H fun H =>
 p.bin .sub (t 4) (si 1) fun t19 =>
 Ay p n  k m0 (t 0) (t 2) (t 3) t19 H)
 (p.fill [i0, i0, i0] [(0, 1, (si 4)), (1, 1, (si 5)), (2, 1, (si 7))] fun ct46 => p.newSl 3 1 ct46 true H fun t46 H =>
 p.both
 (p.load true 3 (t 3) H fun t44 =>
 p.call 3 (.fn 61 [] []) [(t 0), t46] H fun t47 H =>
 p.call 45 (.fn 16 [] []) [t44, t47, t49] H fun t50 H =>
 p.extr t50 0 fun t51 =>
 p.extr t50 1 fun t52 =>
 p.extr t50 2 fun t53 =>
 p.store 3 (t 3) t51 H fun H =>
 p.bin .sub (t 4) (si 1) fun t19 =>
 Ay p n  k m0 (t 0) (t 2) (t 3) t19 H)
 (p.call 3 (.fn 61 [] []) [(t 0), t46] H fun t47 H =>
 p.load true 3 (t 3) H fun t44 =>
 p.call 45 (.fn 16 [] []) [t44, t47, t49] H fun t50 H =>
 p.extr t50 0 fun t51 =>
 p.extr t50 1 fun t52 =>
 p.extr t50 2 fun t53 =>
 p.store 3 (t 3) t51 H fun H =>
 p.bin .sub (t 4) (si 1) fun t19 =>
 Ay p n  k m0 (t 0) (t 2) (t 3) t19 H))))))
 (p.both
 (p.call 3 (.fn 59 [] []) [(t 0), t39] H fun t40 H =>
 p.load false 1 t34 H fun t35 =>
 p.iadr 6 t35 t40 fun t41 =>
 p.load true 6 t41 H fun t42 =>
 p.new [i0, sE, .nl, i0, bF, i0] H fun t5 H =>
 p.store 6 t5 t42 H fun H =>
 p.fadr 0 t5 fun t48 =>
 p.both
 (p.load true 3 (t 3) H fun t44 =>
 p.both
 (p.fill [i0, i0, i0] [(0, 1, (si 4)), (1, 1, (si 5)), (2, 1, (si 7))] fun ct46 => p.newSl 3 1 ct46 true H fun t46 H =>
 p.both
 (p.call 3 (.fn 61 [] []) [(t 0), t46] H fun t47 H =>
 p.load false 1 t48 H fun t49 =>
 p.call 45 (.fn 16 [] []) [t44, t47, t49] H fun t50 H =>
 p.extr t50 0 fun t51 =>
 p.extr t50 1 fun t52 =>
 p.extr t50 2 fun t53 =>
 p.store 3 (t 3) t51 H fun H =>
 p.bin .sub (t 4) (si 1) fun t19 =>
 Ay p n  k m0 (t 0) (t 2) (t 3) t19 H)
 (p.load false 1 t48 H fun t49 =>
 p.call 3 (.fn 61 [] []) [(t 0), t46] H fun t47 H =>
 p.call 45 (.fn 16 [] []) [t44, t47, t49] H fun t50 H =>
 p.extr t50 0 fun t51 =>
 p.extr t50 1 fun t52 =>
 p.extr t50 2 fun t53 =>
 p.store 3 (t 3) t51 H fun H =>
 p.bin .sub (t 4) (si 1) fun t19 =>
 Ay p n  k m0 (t 0) (t 2) (t 3) t19 H))
 (p.load false 1 t48 H fun t49 =>
 p.fill [i0, i0, i0] [(0, 1, (si 4)), (1, 1, (si 5)), (2, 1, (si 7))] fun ct46 => p.newSl 3 1 ct46 true H fun t46 H =>
 p.call 3 (.fn 61 [] []) [(t 0), t46] H fun t47 H =>
 p.call 45 (.fn 16 [] []) [t44, t47, t49] H fun t50 H =>
 p.extr t50 0 fun t51 =>
 p.extr t50 1 fun t52 =>
 p.extr t50 2 fun t53 =>
 p.store 3 (t 3) t51 H fun H =>
 p.bin .sub (t 4) (si 1) fun t19 =>
 Ay p n  k m0 (t 0) (t 2) (t 3) t19 H))
 (p.both
 (p.fill [i0, i0, i0] [(0, 1, (si 4)), (1, 1, (si 5)), (2, 1, (si 7))] fun ct46 => p.newSl 3 1 ct46 true H fun t46 H =>
 p.both
 (p.load true 3 (t 3) H fun t44 =>
 p.both
 (p.call 3 (.fn 61 [] []) [(t 0), t46] H fun t47 H =>
 p.load false 1 t48 H fun t49 =>
 p.call 45 (.fn 16 [] []) [t44, t47, t49] H fun t50 H =>
 p.extr t50 0 fun t51 =>
 p.extr t50 1 fun t52 =>
 p.extr t50 2 fun t53 =>
 p.store 3 (t 3) t51 H fun H =>
 p.bin .sub (t 4) (si 1) fun t19 =>
 Ay p n  k m0 (t 0) (t 2) (t 3) t19 H)
 (p.load false 1 t48 H fun t49 =>
 p.call 3 (.fn 61 [] []) [(t 0), t46] H fun t47 H =>
 p.call 45 (.fn 16 [] []) [t44, t47, t49] H fun t50 H =>
 p.extr t50 0 fun t51 =>
 p.extr t50 1 fun t52 =>
 p.extr t50 2 fun t53 =>
 p.store 3 (t 3) t51 H fun H =>
 p.bin .sub (t 4) (si 1) fun t19 =>
 Ay p n  k m0 (t 0) (t 2) (t 3) t19 H))
 (p.both
 (p.call 3 (.fn 61 [] []) [(t 0), t46] H fun t47 H =>
 p.load true 3 (t 3) H fun t44 =>
 p.load false 1 t48 H fun t49 =>
 p.call 45 (.fn 16 [] []) [t44, t47, t49] H fun t50 H =>
 p.extr t50 0 fun t51 =>
 p.extr t50 1 fun t52 =>
 p.extr t50 2 fun t53 =>
 p.store 3 (t 3) t51 H fun H =>
 p.bin .sub (t 4) (si 1) fun t19 =>
 Ay p n  k m0 (t 0) (t 2) (t 3) t19 H)
 (p.load false 1 t48 H fun t49 =>
 p.both
 (p.load true 3 (t 3) H fun t44 =>
 p.call 3 (.fn 61 [] []) [(t 0), t46] H fun t47 H =>
 p.call 45 (.fn 16 [] []) [t44, t47, t49] H fun t50 H =>
 p.extr t50 0 fun t51 =>
 p.extr t50 1 fun t52 =>
 p.extr t50 2 fun t53 =>
 p.store 3 (t 3) t51 H fun H =>
 p.bin .sub (t 4) (si 1) fun t19 =>
 Ay p n  k m0 (t 0) (t 2) (t 3) t19 H)
 (p.call 3 (.fn 61 [] []) [(t 0), t46] H fun t47 H =>
 p.load true 3 (t 3) H fun t44 =>
 p.call 45 (.fn 16 [] []) [t44, t47, t49] H fun t50 H =>
 p.extr t50 0 fun t51 =>
 p.extr t50 1 fun t52 =>
 p.extr t50 2 fun t53 =>
 p.store 3 (t 3) t51 H fun H =>
 p.bin .sub (t 4) (si 1) fun t19 =>
 Ay p n  k m0 (t 0) (t 2) (t 3) t19 H))))
 (p.load false 1 t48 H fun t49 =>
 p.both
 (p.load true 3 (t 3) H fun t44 =>
 p.fill [i0, i0, i0] [(0, 1, (si 4)), (1, 1, (si 5)), (2, 1, (si 7))] fun ct46 => p.newSl 3 1 ct46 true H fun t46 H =>
 p.call 3 (.fn 61 [] []) [(t 0), t46] H fun t47 H =>
 p.call 45 (.fn 16 [] []) [t44, t47, t49] H fun t50 H =>
 p.extr t50 0 fun t51 =>
 p.extr t50 1 fun t52 =>
 p.extr t50 2 fun t53 =>
 p.store 3 (t 3) t51 H fun H =>
 p.bin .sub (t 4) (si 1) fun t19 =>
 Ay p n  k m0 (t 0) (t 2) (t 3) t19 H)
 (p.fill [i0, i0, i0] [(0, 1, (si 4)), (1, 1, (si 5)), (2, 1, (si 7))] fun ct46 => p.newSl 3 1 ct46 true H fun t46 H =>
 p.both
 (p.load true 3 (t 3) H fun t44 =>
 p.call 3 (.fn 61 [] []) [(t 0), t46] H fun t47 H =>
 p.call 45 (.fn 16 [] []) [t44, t47, t49] H fun t50 H =>
 p.extr t50 0 fun t51 =>
 p.extr t50 1 fun t52 =>
 p.extr t50 2 fun t53 =>
 p.store 3 (t 3) t51 H fun H =>
 p.bin .sub (t 4) (si 1) fun t19 =>
 Ay p n  k m0 (t 0) (t 2) (t 3) t19 H)
 (p.call 3 (.fn 61 [] []) [(t 0), t46] H fun t47 H =>
 p.load true 3 (t 3) H fun t44 =>
 p.call 45 (.fn 16 [] []) [t44, t47, t49] H fun t50 H =>
 p.extr t50 0 fun t51 =>
 p.extr t50 1 fun t52 =>
 p.extr t50 2 fun t53 =>
 p.store 3 (t 3) t51 H fun H =>
 p.bin .sub (t 4) (si 1) fun t19 =>
 Ay p n  k m0 (t 0) (t 2) (t 3) t19 H)))))
 (p.new [i0, sE, .nl, i0, bF, i0] H fun t5 H =>
 p.both
 (p.load false 1 t34 H fun t35 =>
 p.call 3 (.fn 59 [] []) [(t 0), t39] H fun t40 H =>
 p.iadr 6 t35 t40 fun t41 =>
 p.load true 6 t41 H fun t42 =>
 p.store 6 t5 t42 H fun H =>
 p.fadr 0 t5 fun t48 =>
 p.both
 (p.load true 3 (t 3) H fun t44 =>
 p.both
 (p.fill [i0, i0, i0] [(0, 1, (si 4)), (1, 1, (si 5)), (2, 1, (si 7))] fun ct46 => p.newSl 3 1 ct46 true H fun t46 H =>
 p.both
 (p.call 3 (.fn 61 [] []) [(t 0), t46] H fun t47 H =>
 p.load false 1 t48 H fun t49 =>
 p.call 45 (.fn 16 [] []) [t44, t47, t49] H fun t50 H =>
 p.extr t50 0 fun t51 =>
 p.extr t50 1 fun t52 =>
 p.extr t50 2 fun t53 =>
 p.store 3 (t 3) t51 H fun H =>
 p.bin .sub (t 4) (si 1) fun t19 =>
 Ay p n  k m0 (t 0) (t 2) (t 3) t19 H)
 (p.load false 1 t48 H fun t49 =>
 p.call 3 (.fn 61 [] []) [(t 0), t46] H fun t47 H =>
 p.call 45 (.fn 16 [] []) [t44, t47, t49] H fun t50 H =>
 p.extr t50 0 fun t51 =>
 p.extr t50 1 fun t52 =>
 p.extr t50 2 fun t53 =>
 p.store 3 (t 3) t51 H fun H =>
 p.bin .sub (t 4) (si 1) fun t19 =>
 Ay p n  k m0 (t 0) (t 2) (t 3) t19 H))
 (p.load false 1 t48 H fun t49 =>
 p.fill [i0, i0, i0] [(0, 1, (si 4)), (1, 1, (si 5)), (2, 1, (si 7))] fun ct46 => p.newSl 3 1 ct46 true H fun t46 H =>
 p.call 3 (.fn 61 [] []) [(t 0), t46] H fun t47 H =>
 p.call 45 (.fn 16 [] []) [t44, t47, t49] H fun t50 H =>
 p.extr t50 0 fun t51 =>
 p.extr t50 1 fun t52 =>
 p.extr t50 2 fun t53 =>
 p.store 3 (t 3) t51 H fun H =>
 p.bin .sub (t 4) (si 1) fun t19 =>
 Ay p n  k m0 (t 0) (t 2) (t 3) t19 H))
 (p.both
 (p.fill [i0, i0, i0] [(0, 1, (si 4)), (1, 1, (si 5)), (2, 1, (si 7))] fun ct46 => p.newSl 3 1 ct46 true H fun t46 H =>
 p.both
 (p.load true 3 (t 3) H fun t44 =>
 p.both
 (p.call 3 (.fn 61 [] []) [(t 0), t46] H fun t47 H =>
 p.load false 1 t48 H fun t49 =>
 p.call 45 (.fn 16 [] []) [t44, t47, t49] H fun t50 H =>
 p.extr t50 0 fun t51 =>
 p.extr t50 1 fun t52 =>
 p.extr t50 2 fun t53 =>
 p.store 3 (t 3) t51 H fun H =>
 p.bin .sub (t 4) (si 1) fun t19 =>
 Ay p n  k m0 (t 0) (t 2) (t 3) t19 H)
 (p.load false 1 t48 H fun t49 =>
 p.call 3 (.fn 61 [] []) [(t 0), t46] H fun t47 H =>
 p.call 45 (.fn 16 [] []) [t44, t47, t49] H fun t50 H =>
 p.extr t50 0 fun t51 =>
 p.extr t50 1 fun t52 =>
 p.extr t50 2 fun t53 =>
 p.store 3 (t 3) t51 H fun H =>
 p.bin .sub (t 4) (si 1) fun t19 =>
 Ay p n  k m0 (t 0) (t 2) (t 3) t19 H))
 (p.both
 (p.call 3 (.fn 61 [] []) [(t 0), t46] H fun t47 H =>
 p.load true 3 (t 3) H fun t44 =>
 p.load false 1 t48 H fun t49 =>
 p.call 45 (.fn 16 [] []) [t44, t47, t49] H fun t50 H =>
 p.extr t50 0 fun t51 =>
 p.extr t50 1 fun t52 =>
 p.extr t50 2 fun t53 =>
 p.store 3 (t 3) t51 H fun H =>
 p.bin .sub (t 4) (si 1) fun t19 =>
 Ay p n  k m0 (t 0) (t 2) (t 3) t19 H)
 (p.load false 1 t48 H fun t49 =>
 p.both
 (p.load true 3 (t 3) H fun t44 =>
 p.call 3 (.fn 61 [] []) [(t 0), t46] H fun t47 H =>
 p.call 45 (.fn 16 [] []) [t44, t47, t49] H fun t50 H =>
 p.extr t50 0 fun t51 =>
 p.extr t50 1 fun t52 =>
 p.extr t50 2 fun t53 =>
 p.store 3 (t 3) t51 H fun H =>
 p.bin .sub (t 4) (si 1) fun t19 =>
 Ay p n  k m0 (t 0) (t 2) (t 3) t19 H)
 (p.call 3 (.fn 61 [] []) [(t 0), t46] H fun t47 H =>
 p.load true 3 (t 3) H fun t44 =>
 p.call 45 (.fn 16 [] []) [t44, t47, t49] H fun t50 H =>
 p.extr t50 0 fun t51 =>
 p.extr t50 1 fun t52 =>
 p.extr t50 2 fun t53 =>
 p.store 3 (t 3) t51 H fun H =>
 p.bin .sub (t 4) (si 1) fun t19 =>
 Ay p n  k m0 (t 0) (t 2) (t 3) t19 H))))
 (p.load false 1 t48 H fun t49 =>
 p.both
 (p.load true 3 (t 3) H fun t44 =>
 p.fill [i0, i0, i0] [(0, 1, (si 4)), (1, 1, (si 5)), (2, 1, (si 7))] fun ct46 => p.newSl 3 1 ct46 true H fun t46 H =>
 p.call 3 (.fn 61 [] []) [(t 0), t46] H fun t47 H =>
 p.call 45 (.fn 16 [] []) [t44, t47, t49] H fun t50 H =>
 p.extr t50 0 fun t51 =>
 p.extr t50 1 fun t52 =>
 p.extr t50 2 fun t53 =>
 p.store 3 (t 3) t51 H fun H =>
 p.bin .sub (t 4) (si 1) fun t19 =>
 Ay p n  k m0 (t 0) (t 2) (t 3) t19 H)
 (p.fill [i0, i0, i0] [(0, 1, (si 4)), (1, 1, (si 5)), (2, 1, (si 7))] fun ct46 => p.newSl 3 1 ct46 true H fun t46 H =>
 p.both
 (p.load true 3 (t 3) H fun t44 =>
 p.call 3 (.fn 61 [] []) [(t 0), t46] H fun t47 H =>
 p.call 45 (.fn 16 [] []) [t44, t47, t49] H fun t50 H =>
 p.extr t50 0 fun t51 =>
 p.extr t50 1 fun t52 =>
 p.extr t50 2 fun t53 =>
 p.store 3 (t 3) t51 H fun H =>
 p.bin .sub (t 4) (si 1) fun t19 =>
 Ay p n  k m0 (t 0) (t 2) (t 3) t19 H)
 (p.call 3 (.fn 61 [] []) [(t 0), t46] H fun t47 H =>
 p.load true 3 (t 3) H fun t44 =>
 p.call 45 (.fn 16 [] []) [t44, t47, t49] H fun t50 H =>
 p.extr t50 0 fun t51 =>
 p.extr t50 1 fun t52 =>
 p.extr t50 2 fun t53 =>
 p.store 3 (t 3) t51 H fun H =>
 p.bin .sub (t 4) (si 1) fun t19 =>
 Ay p n  k m0 (t 0) (t 2) (t 3) t19 H)))))
 (p.call 3 (.fn 59 [] []) [(t 0), t39] H fun t40 H =>
 p.load false 1 t34 H fun t35 =>
 p.iadr 6 t35 t40 fun t41 =>
 p.load true 6 t41 H fun t42 =>
 p.store 6 t5 t42 H fun H =>
 p.fadr 0 t5 fun t48 =>
 p.both
 (p.load true 3 (t 3) H fun t44 =>
 p.both
 (p.fill [i0, i0, i0] [(0, 1, (si 4)), (1, 1, (si 5)), (2, 1, (si 7))] fun ct46 => p.newSl 3 1 ct46 true H fun t46 H =>
 p.both
 (p.call 3 (.fn 61 [] []) [(t 0), t46] H fun t47 H =>
 p.load false 1 t48 H fun t49 =>
 p.call 45 (.fn 16 [] []) [t44, t47, t49] H fun t50 H =>
 p.extr t50 0 fun t51 =>
 p.extr t50 1 fun t52 =>
 p.extr t50 2 fun t53 =>
 p.store 3 (t 3) t51 H fun H =>
 p.bin .sub (t 4) (si 1) fun t19 =>
 Ay p n  k m0 (t 0) (t 2) (t 3) t19 H)
 (p.load false 1 t48 H fun t49 =>
 p.call 3 (.fn 61 [] []) [(t 0), t46] H fun t47 H =>
 p.call 45 (.fn 16 [] []) [t44, t47, t49] H fun t50 H =>
 p.extr t50 0 fun t51 =>
 p.extr t50 1 fun t52 =>
 p.extr t50 2 fun t53 =>
 p.store 3 (t 3) t51 H fun H =>
 p.bin .sub (t 4) (si 1) fun t19 =>
 Ay p n  k m0 (t 0) (t 2) (t 3) t19 H))
 (p.load false 1 t48 H fun t49 =>
 p.fill [i0, i0, i0] [(0, 1, (si 4)), (1, 1, (si 5)), (2, 1, (si 7))] fun ct46 => p.newSl 3 1 ct46 true H fun t46 H =>
 p.call 3 (.fn 61 [] []) [(t 0), t46] H fun t47 H =>
 p.call 45 (.fn 16 [] []) [t44, t47, t49] H fun t50 H =>
 p.extr t50 0 fun t51 =>
 p.extr t50 1 fun t52 =>
 p.extr t50 2 fun t53 =>
 p.store 3 (t 3) t51 H fun H =>
 p.bin .sub (t 4) (si 1) fun t19 =>
 Ay p n  k m0 (t 0) (t 2) (t 3) t19 H))
 (p.both
 (p.fill [i0, i0, i0] [(0, 1, (si 4)), (1, 1, (si 5)), (2, 1, (si 7))] fun ct46 => p.newSl 3 1 ct46 true H fun t46 H =>
 p.both
 (p.load true 3 (t 3) H fun t44 =>
 p.both
 (p.call 3 (.fn 61 [] []) [(t 0), t46] H fun t47 H =>
 p.load false 1 t48 H fun t49 =>
 p.call 45 (.fn 16 [] []) [t44, t47, t49] H fun t50 H =>
 p.extr t50 0 fun t51 =>
 p.extr t50 1 fun t52 =>
 p.extr t50 2 fun t53 =>
 p.store 3 (t 3) t51 H fun H =>
 p.bin .sub (t 4) (si 1) fun t19 =>
 Ay p n  k m0 (t 0) (t 2) (t 3) t19 H)
 (p.load false 1 t48 H fun t49 =>
 p.call 3 (.fn 61 [] []) [(t 0), t46] H fun t47 H =>
 p.call 45 (.fn 16 [] []) [t44, t47, t49] H fun t50 H =>
 p.extr t50 0 fun t51 =>
 p.extr t50 1 fun t52 =>
 p.extr t50 2 fun t53 =>
 p.store 3 (t 3) t51 H fun H =>
 p.bin .sub (t 4) (si 1) fun t19 =>
 Ay p n  k m0 (t 0) (t 2) (t 3) t19 H))
 (p.both
 (p.call 3 (.fn 61 [] []) [(t 0), t46] H fun t47 H =>
 p.load true 3 (t 3) H fun t44 =>
 p.load false 1 t48 H fun t49 =>
 p.call 45 (.fn 16 [] []) [t44, t47, t49] H fun t50 H =>
 p.extr t50 0 fun t51 =>
 p.extr t50 1 fun t52 =>
 p.extr t50 2 fun t53 =>
 p.store 3 (t 3) t51 H fun H =>
 p.bin .sub (t 4) (si 1) fun t19 =>
 Ay p n  k m0 (t 0) (t 2) (t 3) t19 H)
 (p.load false 1 t48 H fun t49 =>
 p.both
 (p.load true 3 (t 3) H fun t44 =>
 p.call 3 (.fn 61 [] []) [(t 0), t46] H fun t47 H =>
 p.call 45 (.fn 16 [] []) [t44, t47, t49] H fun t50 H =>
 p.extr t50 0 fun t51 =>
 p.extr t50 1 fun t52 =>
 p.extr t50 2 fun t53 =>
 p.store 3 (t 3) t51 H fun H =>
 p.bin .sub (t 4) (si 1) fun t19 =>
 Ay p n  k m0 (t 0) (t 2) (t 3) t19 H)
 (p.call 3 (.fn 61 [] []) [(t 0), t46] H fun t47 H =>
 p.load true 3 (t 3) H fun t44 =>
 p.call 45 (.fn 16 [] []) [t44, t47, t49] H fun t50 H =>
 p.extr t50 0 fun t51 =>
 p.extr t50 1 fun t52 =>
 p.extr t50 2 fun t53 =>
 p.store 3 (t 3) t51 H fun H =>
 p.bin .sub (t 4) (si 1) fun t19 =>
 Ay p n  k m0 (t 0) (t 2) (t 3) t19 H))))
 (p.load false 1 t48 H fun t49 =>
 p.both
 (p.load true 3 (t 3) H fun t44 =>
 p.fill [i0, i0, i0] [(0, 1, (si 4)), (1, 1, (si 5)), (2, 1, (si 7))] fun ct46 => p.newSl 3 1 ct46 true H fun t46 H =>
 p.call 3 (.fn 61 [] []) [(t 0), t46] H fun t47 H =>
 p.call 45 (.fn 16 [] []) [t44, t47, t49] H fun t50 H =>
 p.extr t50 0 fun t51 =>
 p.extr t50 1 fun t52 =>
 p.extr t50 2 fun t53 =>
 p.store 3 (t 3) t51 H fun H =>
 p.bin .sub (t 4) (si 1) fun t19 =>
 Ay p n  k m0 (t 0) (t 2) (t 3) t19 H)
 (p.fill [i0, i0, i0] [(0, 1, (si 4)), (1, 1, (si 5)), (2, 1, (si 7))] fun ct46 => p.newSl 3 1 ct46 true H fun t46 H =>
 p.both
 (p.load true 3 (t 3) H fun t44 =>
 p.call 3 (.fn 61 [] []) [(t 0), t46] H fun t47 H =>
 p.call 45 (.fn 16 [] []) [t44, t47, t49] H fun t50 H =>
 p.extr t50 0 fun t51 =>
 p.extr t50 1 fun t52 =>
 p.extr t50 2 fun t53 =>
 p.store 3 (t 3) t51 H fun H =>
 p.bin .sub (t 4) (si 1) fun t19 =>
 Ay p n  k m0 (t 0) (t 2) (t 3) t19 H)
 (p.call 3 (.fn 61 [] []) [(t 0), t46] H fun t47 H =>
 p.load true 3 (t 3) H fun t44 =>
 p.call 45 (.fn 16 [] []) [t44, t47, t49] H fun t50 H =>
 p.extr t50 0 fun t51 =>
 p.extr t50 1 fun t52 =>
 p.extr t50 2 fun t53 =>
 p.store 3 (t 3) t51 H fun H =>
 p.bin .sub (t 4) (si 1) fun t19 =>
 Ay p n  k m0 (t 0) (t 2) (t 3) t19 H))))))))
 (p.bin .sub (t 4) (si 1) fun t19 =>
 Ay p n  k m0 (t 0) (t 2) (t 3) t19 H))
 (p.call 3 (.fn 59 [] []) [(t 0), (si 4)] H fun t55 H =>
 Ad1 p n  k n (tf 68 0 (ud [(6, t55), (16, (t 4)), (17, t17), (54, (t 0)), (55, t55)] t)) H) := by kernel_rfl
theorem Ab5 (p : Pr β) (n : Nat)  (k : KO β) (m0 : Nat) : ∀ (t : Nat → AV) (H : Ab), Ad0 p n  k m0 (tf 68 0 t) H = Ay p n  k m0 (t 0) (t 2) (t 3) (t 4) H := by
 induction m0 with
 | zero => intros; rfl
 | succ m0 ih =>
  intro t H
  refine Eq.trans (B8 (nt := 68) (m := m0) (g := fun t H => Ay p n  k m0 (t 0) (t 2) (t 3) (t 4) H) ih rfl) ?_
  refine Eq.trans (We p n  k m0 t H) ?_
  simp only [Tp]
  kernel_rfl
theorem Af2 (p : Pr β) (n : Nat) (a0 : AV) (H : Ab) (k : KO β) : Cl Aq p n fi86 [a0] H k =
 p.new [i0, .nl, .nl] H fun t2 H =>
 p.fill [i0, i0, i0, i0, i0] [(0, 1, i0), (1, 1, i0), (2, 1, (si 3)), (3, 1, (si 65534)), (4, 1, (si 65535))] fun ct8 => p.newSl 5 1 ct8 true H fun t8 H =>
 p.call 3 (.fn 61 [] []) [a0, t8] H fun t9 H =>
 p.fill [i0, .nl, .nl] [(0, 1, t9)] fun ct10 =>
 p.new [i0, .nl, .nl] H fun t3 H =>
 p.store 3 t3 (.agg ct10) H fun H =>
 p.call 25 (.fn 112 [] []) [a0, (si 6)] H fun t12 H =>
 p.fadr 2 t3 fun t13 =>
 p.store 1 t13 t12 H fun H =>
 p.call 3 (.fn 59 [] []) [a0, (si 6)] H fun t15 H =>
 Ad0 p n  k n (tf 68 0 (ud [(0, a0), (2, t2), (3, t3), (4, t15), (7, a0), (8, t8), (9, t9), (10, (.agg ct10)), (11, a0), (12, t12), (13, t13), (14, a0), (15, t15)] ut)) H := by kernel_rfl
theorem Ad2 : H4 fi86 @f86 := fun p n a0 H k => by
 rw [Af2]
 simp only [Tp, Ab5]
 kernel_rfl
noncomputable def J9 (p : Pr β) (n : Nat)  (k : KO β) : Nat → AV → AV → KO β
 | 0, _, _, _, _ => none
 | m + 1, t0, t3, t4, H => p.bin .lss t4 (si 6) fun t7 =>
   p.kT t7 H t3 fun t9 H =>
   p.gT t7 H (p.len t9) fun t10 H =>
   p.gT t7 H (p.bin .lss t10 (si 4)) fun t11 H =>
   p.pick t7 t11 bF fun t12 =>
   p.cond t12
   (p.call 4 (.fn 60 [] []) [t0, (si 3)] H fun t16 H =>
   p.cond t16
   (p.fill [i0] [(0, 1, t4)] fun ct19 => p.newSl 1 1 ct19 true H fun t19 H =>
   p.app 1 8 t3 t19 H fun t20 H =>
   p.bin .add t4 (si 1) fun t14 =>
   J9 p n  k m t0 t20 t14 H)
   (p.bin .add t4 (si 1) fun t14 =>
   J9 p n  k m t0 t3 t14 H))
   (k t3 H)
noncomputable def f126 (n : Nat) (a0 : AV) (H : Ab) (k : KO β) : Option β :=
 J9 p n  k n a0 .nl (si 1) H
noncomputable def Aal (p : Pr β) (n : Nat)  (k : KO β) (m : Nat) (tm : Tm) (H : Ab) : Option β :=
 Dz 22 (fun tm H k => Al Aq p [] 22 n (cd Ahg [1, 1, 0, 1, 0, 0]) tm H k) (Ew 0 (Ei (fun tm H => Al Aq p [] 22 n (cd Ahg [1, 1, 1]) tm H (C9 Aq p fi126.results k)) (C9 Aq p fi126.results k))) m tm H
theorem Yo (p : Pr β) (n : Nat)  (k : KO β) (m0 : Nat) : ∀ (t : Nat → AV) (H : Ab), Aal p n  k m0 (tf 22 0 t) H = J9 p n  k m0 (t 0) (t 3) (t 4) H := by
 induction m0 with
 | zero => intros; rfl
 | succ m0 ih =>
  intro t H
  refine Eq.trans (B8 (nt := 22) (m := m0) (g := fun t H => J9 p n  k m0 (t 0) (t 3) (t 4) H) ih rfl) ?_
  kernel_rfl
theorem Ac7 (p : Pr β) (n : Nat) (a0 : AV) (H : Ab) (k : KO β) : Cl Aq p n fi126 [a0] H k =
 Aal p n  k n (tf 22 0 (ud [(0, a0), (2, .nl), (3, .nl), (4, (si 1)), (5, .nl)] ut)) H := by kernel_rfl
theorem Abp : H4 fi126 @f126 := fun p n a0 H k => by
 rw [Ac7]
 simp only [Yo]
 kernel_rfl
noncomputable def f106 (n : Nat) (a0 a1 : AV) (H : Ab) (k : KO β) : Option β :=
 p.new [sE, i0, bF, i0, i0, i0, .nl, .nl, .nl] H fun t4 H =>
 p.call 3 (.fn 59 [] []) [a0, (si 5)] H fun t8 H =>
 p.call 4 (.fn 60 [] []) [a0, (si 3)] H fun t10 H =>
 p.call 3 (.fn 59 [] []) [a0, (si 4)] H fun t12 H =>
 p.call 3 (.fn 59 [] []) [a0, (si 4)] H fun t14 H =>
 p.bin .add (si 1) t14 fun t15 =>
 p.call 53 (.fn 33 [] []) [a1, t8, t10, t12, t15] H fun t16 H =>
 p.new [sE, i0, bF, i0, i0, i0, .nl, .nl, .nl] H fun t5 H =>
 p.store 9 t5 t16 H fun H =>
 p.call 4 (.fn 60 [] []) [a0, (si 3)] H fun t18 H =>
 M2 (fun (t0 t4 t5 : AV) (H : Ab) => p.call 27 (.fn 86 [] []) [t0] H fun t22 H =>
 p.fadr 5 t5 fun t23 =>
 p.store 3 t23 t22 H fun H =>
 p.call 39 (.fn 126 [] []) [t0] H fun t25 H =>
 p.fadr 8 t5 fun t26 =>
 p.store 1 t26 t25 H fun H =>
 p.load true 9 t5 H fun t27 =>
 p.store 9 t4 t27 H fun H =>
 p.load true 9 t4 H fun r0 =>
 k r0 H) fun j1 =>
 p.cond t18
 (p.load true 9 t5 H fun t19 =>
 p.call 53 (.fn 125 [] []) [t19] H fun t20 H =>
 p.store 9 t5 t20 H fun H =>
 j1 a0 t4 t5 H)
 (j1 a0 t4 t5 H)
theorem AaY : Tf Ag6 @f106 := fun p n a0 a1 H k => by kernel_rfl
noncomputable def f124 (n : Nat) (a0 : AV) (H : Ab) (k : KO β) : Option β :=
 p.call 4 (.fn 60 [] []) [a0, (si 3)] H fun t4 H =>
 p.cond t4
 (p.call 9 (.fn 123 [] []) [a0] H fun t6 H =>
 k t6 H)
 (p.fill [sE, sE, sE, sE, sE, sE, sE, sE, sE, sE, sE, sE, sE, sE, sE, sE] [(0, 1, (.sc (.string ⟨#[35]⟩))), (1, 1, (.sc (.string ⟨#[43]⟩))), (2, 1, (.sc (.string ⟨#[97, 47, 35]⟩))), (3, 1, (.sc (.string ⟨#[97, 47, 43]⟩))), (4, 1, (.sc (.string ⟨#[43, 47, 98]⟩))), (5, 1, (.sc (.string ⟨#[43, 47, 43]⟩))), (6, 1, (.sc (.string ⟨#[97, 47, 43, 47, 99]⟩))), (7, 1, (.sc (.string ⟨#[97, 47, 98, 47, 35]⟩))), (8, 1, (.sc (.string ⟨#[36, 115, 47, 35]⟩))), (9, 1, (.sc (.string ⟨#[36, 115, 47, 43]⟩))), (10, 1, (.sc (.string ⟨#[43, 47, 35]⟩))), (11, 1, (.sc (.string ⟨#[47, 43]⟩))), (12, 1, (.sc (.string ⟨#[47, 35]⟩))), (13, 1, (.sc (.string ⟨#[97, 47, 43, 47, 35]⟩))), (14, 1, (.sc (.string ⟨#[98, 47, 35]⟩))), (15, 1, (.sc (.string ⟨#[43, 47, 98, 47, 43]⟩)))] fun ct8 => p.newSl 16 1 ct8 true H fun t8 H =>
 p.call 9 (.fn 107 [] []) [a0, t8] H fun t9 H =>
 k t9 H)
theorem Abn : H4 AgC @f124 := fun p n a0 H k => by kernel_rfl
noncomputable def f104 (n : Nat) (a0 : AV) (H : Ab) (k : KO β) : Option β :=
 p.call 3 (.fn 59 [] []) [a0, (si 3)] H fun t4 H =>
 p.bin .eql t4 i0 fun t6 =>
 p.cond t6
 (p.call 9 (.fn 123 [] []) [a0] H fun t8 H =>
 k t8 H)
 (p.bin .eql t4 (si 1) fun t10 =>
 p.cond t10
 (p.call 9 (.fn 124 [] []) [a0] H fun t12 H =>
 k t12 H)
 (p.fill [sE, sE, sE, sE, sE, sE, sE, sE, sE, sE, sE, sE, sE, sE, sE, sE] [(0, 1, sE), (1, 1, (.sc (.string ⟨#[97, 43]⟩))), (2, 1, (.sc (.string ⟨#[97, 47, 98, 43]⟩))), (3, 1, (.sc (.string ⟨#[43, 97]⟩))), (4, 1, (.sc (.string ⟨#[35, 47, 97]⟩))), (5, 1, (.sc (.string ⟨#[97, 35]⟩))), (6, 1, (.sc (.string ⟨#[97, 47, 35, 47, 98]⟩))), (7, 1, (.sc (.string ⟨#[35, 35]⟩))), (8, 1, (.sc (.string ⟨#[43, 43]⟩))), (9, 1, (.sc (.string ⟨#[97, 47, 98, 47, 99, 47, 100, 47, 101, 47, 102]⟩))), (10, 1, (.sc (.string ⟨#[97, 47, 98, 47, 99, 47, 100, 47, 101, 47, 102, 47, 103]⟩))), (11, 1, (.sc (.string ⟨#[47, 47, 47, 47, 47]⟩))), (12, 1, (.sc (.string ⟨#[47, 47, 47, 47, 47, 47]⟩))), (13, 1, (.sc (.string ⟨#[0]⟩))), (14, 1, (.sc (.string ⟨#[255]⟩))), (15, 1, (.sc (.string ⟨#[49, 50, 51, 52, 53, 54, 55, 56, 57, 48, 49, 50, 51, 52, 53, 54, 55, 56, 57, 48, 49, 50, 51, 52, 53, 54, 55, 56, 57, 48, 49, 50, 51, 52, 53, 54, 55, 56, 57, 48, 49, 50, 51, 52, 53, 54, 55, 56, 57, 48, 49, 50, 51, 52, 53, 54, 55, 56, 57, 48, 49]⟩)))] fun ct14 => p.newSl 16 1 ct14 true H fun t14 H =>
 p.call 9 (.fn 107 [] []) [a0, t14] H fun t15 H =>
 k t15 H))
theorem AaW : H4 Ag5 @f104 := fun p n a0 H k => by kernel_rfl
noncomputable def f66 (n : Nat) (a0 : AV) (H : Ab) (k : KO β) : Option β :=
 p.new [sE, .nl, i0, bF] H fun t2 H =>
 p.call 33 (.fn 103 [] []) [a0] H fun t5 H =>
 p.new [sE, .nl, i0, bF] H fun t3 H =>
 p.store 4 t3 t5 H fun H =>
 p.call 3 (.fn 59 [] []) [a0, (si 12)] H fun t7 H =>
 p.bin .eql t7 i0 fun t9 =>
 p.cond t9
 (p.call 9 (.fn 104 [] []) [a0] H fun t11 H =>
 p.fadr 0 t3 fun t12 =>
 p.store 1 t12 t11 H fun H =>
 p.load true 4 t3 H fun t27 =>
 p.store 4 t2 t27 H fun H =>
 p.load true 4 t2 H fun r0 =>
 k r0 H)
 (p.bin .eql t7 (si 1) fun t14 =>
 p.cond t14
 (p.fill [i0, i0] [(0, 1, (si 40)), (1, 1, (si 41))] fun ct17 => p.newSl 2 1 ct17 true H fun t17 H =>
 p.call 3 (.fn 61 [] []) [a0, t17] H fun t18 H =>
 p.call 22 (.fn 105 [] []) [a0, t18] H fun t19 H =>
 p.fadr 1 t3 fun t20 =>
 p.store 1 t20 t19 H fun H =>
 p.load true 4 t3 H fun t27 =>
 p.store 4 t2 t27 H fun H =>
 p.load true 4 t2 H fun r0 =>
 k r0 H)
 (p.bin .eql t7 (si 2) fun t22 =>
 p.cond t22
 (p.fill [i0, i0] [(0, 1, (si (-1))), (1, 1, (si 3))] fun ct24 => p.newSl 2 1 ct24 true H fun t24 H =>
 p.call 3 (.fn 61 [] []) [a0, t24] H fun t25 H =>
 p.fadr 2 t3 fun t26 =>
 p.store 1 t26 t25 H fun H =>
 p.load true 4 t3 H fun t27 =>
 p.store 4 t2 t27 H fun H =>
 p.load true 4 t2 H fun r0 =>
 k r0 H)
 (p.load true 4 t3 H fun t27 =>
 p.store 4 t2 t27 H fun H =>
 p.load true 4 t2 H fun r0 =>
 k r0 H)))
theorem Adm : H4 Ajg @f66 := fun p n a0 H k => by kernel_rfl
noncomputable def f87 (n : Nat) (a0 : AV) (H : Ab) (k : KO β) : Option β :=
 p.call 25 (.fn 112 [] []) [a0, (si 8)] H fun t5 H =>
 p.call 4 (.fn 60 [] []) [a0, (si 4)] H fun t7 H =>
 M2 (fun (t3 : AV) (H : Ab) => k t3 H) fun j1 =>
 p.cond t7
 (p.call 33 (.fn 66 [] []) [a0] H fun t10 H =>
 p.fill [sE, .nl, i0, bF] [(0, 4, t10)] fun ct11 => p.newSl 1 4 ct11 true H fun t11 H =>
 p.app 4 56 t5 t11 H fun t12 H =>
 j1 t12 H)
 (j1 t5 H)
theorem Ad3 : H4 Ajq @f87 := fun p n a0 H k => by kernel_rfl
noncomputable def f41 (n : Nat) (a0 : AV) (H : Ab) (k : KO β) : Option β :=
 p.new [i0, .nl, .nl] H fun t2 H =>
 p.call 27 (.fn 86 [] []) [a0] H fun t5 H =>
 p.new [i0, .nl, .nl] H fun t3 H =>
 p.store 3 t3 t5 H fun H =>
 p.call 3 (.fn 59 [] []) [a0, (si 14)] H fun t7 H =>
 p.bin .eql t7 i0 fun t9 =>
 p.cond t9
 (p.fill [i0, i0] [(0, 1, (si (-1))), (1, 1, (si 65536))] fun ct11 => p.newSl 2 1 ct11 true H fun t11 H =>
 p.call 3 (.fn 61 [] []) [a0, t11] H fun t12 H =>
 p.fadr 0 t3 fun t13 =>
 p.store 1 t13 t12 H fun H =>
 p.load true 3 t3 H fun t68 =>
 p.store 3 t2 t68 H fun H =>
 p.load true 3 t2 H fun r0 =>
 k r0 H)
 (p.bin .eql t7 (si 1) fun t15 =>
 p.cond t15
 (p.call 25 (.fn 87 [] []) [a0] H fun t17 H =>
 p.fadr 2 t3 fun t18 =>
 p.store 1 t18 t17 H fun H =>
 p.load true 3 t3 H fun t68 =>
 p.store 3 t2 t68 H fun H =>
 p.load true 3 t2 H fun r0 =>
 k r0 H)
 (p.bin .eql t7 (si 2) fun t20 =>
 p.cond t20
 (p.fadr 1 t3 fun t21 =>
 p.load false 1 t21 H fun t22 =>
 p.len t22 fun t23 =>
 p.bin .gtr t23 i0 fun t24 =>
 p.cond t24
 (p.fadr 1 t3 fun t25 =>
 p.both
 (p.load false 1 t25 H fun t26 =>
 p.fill [i0, i0, i0, i0] [(0, 1, i0), (1, 1, (si 1)), (2, 1, (si 2)), (3, 1, (si 65536))] fun ct28 => p.newSl 4 1 ct28 true H fun t28 H =>
 p.call 3 (.fn 61 [] []) [a0, t28] H fun t29 H =>
 p.iadr 6 t26 i0 fun t30 =>
 p.fadr 0 t30 fun t31 =>
 p.store 1 t31 t29 H fun H =>
 p.load true 3 t3 H fun t68 =>
 p.store 3 t2 t68 H fun H =>
 p.load true 3 t2 H fun r0 =>
 k r0 H)
 (p.fill [i0, i0, i0, i0] [(0, 1, i0), (1, 1, (si 1)), (2, 1, (si 2)), (3, 1, (si 65536))] fun ct28 => p.newSl 4 1 ct28 true H fun t28 H =>
 p.both
 (p.load false 1 t25 H fun t26 =>
 p.call 3 (.fn 61 [] []) [a0, t28] H fun t29 H =>
 p.iadr 6 t26 i0 fun t30 =>
 p.fadr 0 t30 fun t31 =>
 p.store 1 t31 t29 H fun H =>
 p.load true 3 t3 H fun t68 =>
 p.store 3 t2 t68 H fun H =>
 p.load true 3 t2 H fun r0 =>
 k r0 H)
 (p.call 3 (.fn 61 [] []) [a0, t28] H fun t29 H =>
 p.load false 1 t25 H fun t26 =>
 p.iadr 6 t26 i0 fun t30 =>
 p.fadr 0 t30 fun t31 =>
 p.store 1 t31 t29 H fun H =>
 p.load true 3 t3 H fun t68 =>
 p.store 3 t2 t68 H fun H =>
 p.load true 3 t2 H fun r0 =>
 k r0 H)))
 (p.load true 3 t3 H fun t68 =>
 p.store 3 t2 t68 H fun H =>
 p.load true 3 t2 H fun r0 =>
 k r0 H))
 (p.bin .eql t7 (si 3) fun t33 =>
 p.cond t33
 (p.fadr 1 t3 fun t34 =>
 p.load false 1 t34 H fun t35 =>
 p.len t35 fun t36 =>
 p.bin .gtr t36 i0 fun t37 =>
 p.cond t37
 (p.fadr 1 t3 fun t38 =>
 p.both
 (p.load false 1 t38 H fun t39 =>
 p.fill [i0, i0, i0, i0, i0] [(0, 1, i0), (1, 1, (si 1)), (2, 1, (si 2)), (3, 1, (si 3)), (4, 1, (si 4))] fun ct41 => p.newSl 5 1 ct41 true H fun t41 H =>
 p.call 3 (.fn 61 [] []) [a0, t41] H fun t42 H =>
 p.iadr 6 t39 i0 fun t43 =>
 p.fadr 5 t43 fun t44 =>
 p.store 1 t44 t42 H fun H =>
 p.load true 3 t3 H fun t68 =>
 p.store 3 t2 t68 H fun H =>
 p.load true 3 t2 H fun r0 =>
 k r0 H)
 (p.fill [i0, i0, i0, i0, i0] [(0, 1, i0), (1, 1, (si 1)), (2, 1, (si 2)), (3, 1, (si 3)), (4, 1, (si 4))] fun ct41 => p.newSl 5 1 ct41 true H fun t41 H =>
 p.both
 (p.load false 1 t38 H fun t39 =>
 p.call 3 (.fn 61 [] []) [a0, t41] H fun t42 H =>
 p.iadr 6 t39 i0 fun t43 =>
 p.fadr 5 t43 fun t44 =>
 p.store 1 t44 t42 H fun H =>
 p.load true 3 t3 H fun t68 =>
 p.store 3 t2 t68 H fun H =>
 p.load true 3 t2 H fun r0 =>
 k r0 H)
 (p.call 3 (.fn 61 [] []) [a0, t41] H fun t42 H =>
 p.load false 1 t38 H fun t39 =>
 p.iadr 6 t39 i0 fun t43 =>
 p.fadr 5 t43 fun t44 =>
 p.store 1 t44 t42 H fun H =>
 p.load true 3 t3 H fun t68 =>
 p.store 3 t2 t68 H fun H =>
 p.load true 3 t2 H fun r0 =>
 k r0 H)))
 (p.load true 3 t3 H fun t68 =>
 p.store 3 t2 t68 H fun H =>
 p.load true 3 t2 H fun r0 =>
 k r0 H))
 (p.bin .eql t7 (si 4) fun t46 =>
 p.cond t46
 (p.fadr 1 t3 fun t47 =>
 p.load false 1 t47 H fun t48 =>
 p.len t48 fun t49 =>
 p.bin .gtr t49 i0 fun t50 =>
 p.cond t50
 (p.fadr 1 t3 fun t51 =>
 p.both
 (p.load false 1 t51 H fun t52 =>
 p.call 33 (.fn 66 [] []) [a0] H fun t54 H =>
 p.iadr 6 t52 i0 fun t55 =>
 p.fadr 1 t55 fun t56 =>
 p.store 4 t56 t54 H fun H =>
 p.load true 3 t3 H fun t68 =>
 p.store 3 t2 t68 H fun H =>
 p.load true 3 t2 H fun r0 =>
 k r0 H)
 (p.call 33 (.fn 66 [] []) [a0] H fun t54 H =>
 p.load false 1 t51 H fun t52 =>
 p.iadr 6 t52 i0 fun t55 =>
 p.fadr 1 t55 fun t56 =>
 p.store 4 t56 t54 H fun H =>
 p.load true 3 t3 H fun t68 =>
 p.store 3 t2 t68 H fun H =>
 p.load true 3 t2 H fun r0 =>
 k r0 H))
 (p.load true 3 t3 H fun t68 =>
 p.store 3 t2 t68 H fun H =>
 p.load true 3 t2 H fun r0 =>
 k r0 H))
 (p.bin .eql t7 (si 5) fun t58 =>
 p.cond t58
 (p.fadr 1 t3 fun t59 =>
 p.load false 1 t59 H fun t60 =>
 p.fill [sE, .nl, i0, bF] [(0, 1, (.sc (.string ⟨#[97]⟩))), (2, 1, (si 1))] fun ct61 =>
 p.fill [i0, sE, .nl, i0, bF, i0] [(0, 1, (si 9)), (1, 4, (.agg ct61)), (5, 1, (si 1))] fun ct62 =>
 p.fill [sE, .nl, i0, bF] [(0, 1, (.sc (.string ⟨#[97]⟩))), (2, 1, (si 2))] fun ct63 =>
 p.fill [i0, sE, .nl, i0, bF, i0] [(0, 1, (si 10)), (1, 4, (.agg ct63)), (5, 1, (si 3))] fun ct64 =>
 p.fill [i0, sE, .nl, i0, bF, i0, i0, sE, .nl, i0, bF, i0] [(0, 6, (.agg ct62)), (6, 6, (.agg ct64))] fun ct65 => p.newSl 2 6 ct65 true H fun t65 H =>
 p.app 6 72 t60 t65 H fun t66 H =>
 p.fadr 1 t3 fun t67 =>
 p.store 1 t67 t66 H fun H =>
 p.load true 3 t3 H fun t68 =>
 p.store 3 t2 t68 H fun H =>
 p.load true 3 t2 H fun r0 =>
 k r0 H)
 (p.load true 3 t3 H fun t68 =>
 p.store 3 t2 t68 H fun H =>
 p.load true 3 t2 H fun r0 =>
 k r0 H))))))
theorem AcS : H4 AiQ @f41 := fun p n a0 H k => by kernel_rfl
noncomputable def f108 (n : Nat) (a0 : AV) (H : Ab) (k : KO β) : Option β :=
 p.call 39 (.fn 126 [] []) [a0] H fun t5 H =>
 p.call 3 (.fn 59 [] []) [a0, (si 8)] H fun t7 H =>
 p.bin .eql t7 i0 fun t9 =>
 p.cond t9
 (p.fill [i0, i0, i0, i0] [(0, 1, i0), (1, 1, (si 1)), (2, 1, (si 65535)), (3, 1, (si 65536))] fun ct12 => p.newSl 4 1 ct12 true H fun t12 H =>
 p.call 3 (.fn 61 [] []) [a0, t12] H fun t13 H =>
 p.fill [i0] [(0, 1, t13)] fun ct14 => p.newSl 1 1 ct14 true H fun t14 H =>
 p.app 1 8 t5 t14 H fun t15 H =>
 k t15 H)
 (p.bin .eql t7 (si 1) fun t17 =>
 p.cond t17
 (p.fill [i0, i0, i0, i0] [(0, 1, (si 1)), (1, 1, (si 2)), (2, 1, (si 3)), (3, 1, (si 4))] fun ct18 => p.newSl 4 1 ct18 true H fun t18 H =>
 k t18 H)
 (p.bin .eql t7 (si 2) fun t20 =>
 p.cond t20
 (p.fill [i0, i0, i0, i0, i0] [(0, 1, (si 7)), (1, 1, (si 8)), (2, 1, (si 9)), (3, 1, (si 10)), (4, 1, (si 11))] fun ct22 => p.newSl 5 1 ct22 true H fun t22 H =>
 p.app 1 8 t5 t22 H fun t23 H =>
 k t23 H)
 (k t5 H)))
theorem Aba : H4 Ag8 @f108 := fun p n a0 H k => by kernel_rfl
noncomputable def f73 (n : Nat) (a0 : AV) (H : Ab) (k : KO β) : Option β :=
 p.new [sE, i0, bF, i0, i0, i0, .nl, .nl, .nl] H fun t2 H =>
 p.call 9 (.fn 80 [] []) [a0] H fun t6 H =>
 p.call 53 (.fn 106 [] []) [a0, t6] H fun t7 H =>
 p.new [sE, i0, bF, i0, i0, i0, .nl, .nl, .nl] H fun t3 H =>
 p.store 9 t3 t7 H fun H =>
 p.call 3 (.fn 59 [] []) [a0, (si 18)] H fun t9 H =>
 p.bin .eql t9 i0 fun t11 =>
 p.cond t11
 (p.fill [sE, sE] [(0, 1, sE), (1, 1, (.sc (.string ⟨#[255]⟩)))] fun ct13 => p.newSl 2 1 ct13 true H fun t13 H =>
 p.call 9 (.fn 107 [] []) [a0, t13] H fun t14 H =>
 p.fadr 0 t3 fun t15 =>
 p.store 1 t15 t14 H fun H =>
 p.load true 9 t3 H fun t47 =>
 p.store 9 t2 t47 H fun H =>
 p.load true 9 t2 H fun r0 =>
 k r0 H)
 (p.bin .eql t9 (si 1) fun t17 =>
 p.cond t17
 (p.fadr 1 t3 fun t18 =>
 p.store 1 t18 (si (-1)) H fun H =>
 p.load true 9 t3 H fun t47 =>
 p.store 9 t2 t47 H fun H =>
 p.load true 9 t2 H fun r0 =>
 k r0 H)
 (p.bin .eql t9 (si 2) fun t20 =>
 p.cond t20
 (p.fadr 2 t3 fun t21 =>
 p.load false 1 t21 H fun t22 =>
 p.un .not t22 fun t23 =>
 p.fadr 2 t3 fun t24 =>
 p.store 1 t24 t23 H fun H =>
 p.load true 9 t3 H fun t47 =>
 p.store 9 t2 t47 H fun H =>
 p.load true 9 t2 H fun r0 =>
 k r0 H)
 (p.bin .eql t9 (si 3) fun t26 =>
 p.cond t26
 (p.fill [i0, i0, i0] [(0, 1, (si (-2))), (1, 1, (si (-1))), (2, 1, (si 4))] fun ct28 => p.newSl 3 1 ct28 true H fun t28 H =>
 p.call 3 (.fn 61 [] []) [a0, t28] H fun t29 H =>
 p.fadr 3 t3 fun t30 =>
 p.store 1 t30 t29 H fun H =>
 p.load true 9 t3 H fun t47 =>
 p.store 9 t2 t47 H fun H =>
 p.load true 9 t2 H fun r0 =>
 k r0 H)
 (p.bin .eql t9 (si 4) fun t32 =>
 p.cond t32
 (p.fill [i0, i0] [(0, 1, (si (-1))), (1, 1, i0)] fun ct34 => p.newSl 2 1 ct34 true H fun t34 H =>
 p.call 3 (.fn 61 [] []) [a0, t34] H fun t35 H =>
 p.fadr 4 t3 fun t36 =>
 p.store 1 t36 t35 H fun H =>
 p.load true 9 t3 H fun t47 =>
 p.store 9 t2 t47 H fun H =>
 p.load true 9 t2 H fun r0 =>
 k r0 H)
 (p.bin .eql t9 (si 5) fun t38 =>
 p.cond t38
 (p.call 27 (.fn 41 [] []) [a0] H fun t40 H =>
 p.fadr 5 t3 fun t41 =>
 p.store 3 t41 t40 H fun H =>
 p.load true 9 t3 H fun t47 =>
 p.store 9 t2 t47 H fun H =>
 p.load true 9 t2 H fun r0 =>
 k r0 H)
 (p.bin .eql t9 (si 6) fun t43 =>
 p.cond t43
 (p.call 39 (.fn 108 [] []) [a0] H fun t45 H =>
 p.fadr 8 t3 fun t46 =>
 p.store 1 t46 t45 H fun H =>
 p.load true 9 t3 H fun t47 =>
 p.store 9 t2 t47 H fun H =>
 p.load true 9 t2 H fun r0 =>
 k r0 H)
 (p.load true 9 t3 H fun t47 =>
 p.store 9 t2 t47 H fun H =>
 p.load true 9 t2 H fun r0 =>
 k r0 H)))))))
theorem Ado : H4 Aji @f73 := fun p n a0 H k => by kernel_rfl
noncomputable def f27 (n : Nat) (a0 : AV) (H : Ab) (k : KO β) : Option β :=
 p.new [sE, i0, bF, i0, i0, i0, .nl, .nl, .nl] H fun t2 H =>
 p.ca 71 40 [a0] H fun t9 H =>
 p.ca 53 73 [t9] H fun t11 H =>
 p.new [sE, i0, bF, i0, i0, i0, .nl, .nl, .nl] H fun t7 H =>
 p.store 9 t7 t11 H fun H =>
 p.both
 (p.load true 9 t7 H fun t12 =>
 p.both
 (p.ca 4 60 [t9, (si 2)] H fun t14 H =>
 p.both
 (p.fill [i0, i0, i0, i0, i0, i0] [(0, 1, i0), (1, 1, (si 1)), (2, 1, (si 2)), (3, 1, (si 3)), (4, 1, (si 4)), (5, 1, (si (-1)))] fun ct16 => p.newSl 6 1 ct16 true H fun t16 H =>
 p.both
 (p.ca 3 61 [t9, t16] H fun t17 H =>
 p.fill [i0, i0, i0, i0, i0] [(0, 1, i0), (1, 1, (si 1)), (2, 1, (si 2)), (3, 1, (si 7)), (4, 1, (si (-1)))] fun ct19 => p.newSl 5 1 ct19 true H fun t19 H =>
 p.ca 3 61 [t9, t19] H fun t20 H =>
 p.store 9 t2 t12 H fun H =>
 p.load true 9 t2 H fun r0 =>
 k (Bu [r0, t14, t17, t20]) H)
 (p.fill [i0, i0, i0, i0, i0] [(0, 1, i0), (1, 1, (si 1)), (2, 1, (si 2)), (3, 1, (si 7)), (4, 1, (si (-1)))] fun ct19 => p.newSl 5 1 ct19 true H fun t19 H =>
 p.ca 3 61 [t9, t16] H fun t17 H =>
 p.ca 3 61 [t9, t19] H fun t20 H =>
 p.store 9 t2 t12 H fun H =>
 p.load true 9 t2 H fun r0 =>
 k (Bu [r0, t14, t17, t20]) H))
 (p.fill [i0, i0, i0, i0, i0] [(0, 1, i0), (1, 1, (si 1)), (2, 1, (si 2)), (3, 1, (si 7)), (4, 1, (si (-1)))] fun ct19 => p.newSl 5 1 ct19 true H fun t19 H =>
 p.fill [i0, i0, i0, i0, i0, i0] [(0, 1, i0), (1, 1, (si 1)), (2, 1, (si 2)), (3, 1, (si 3)), (4, 1, (si 4)), (5, 1, (si (-1)))] fun ct16 => p.newSl 6 1 ct16 true H fun t16 H =>
 p.ca 3 61 [t9, t16] H fun t17 H =>
 p.ca 3 61 [t9, t19] H fun t20 H =>
 p.store 9 t2 t12 H fun H =>
 p.load true 9 t2 H fun r0 =>
 k (Bu [r0, t14, t17, t20]) H))
 (p.both
 (p.fill [i0, i0, i0, i0, i0, i0] [(0, 1, i0), (1, 1, (si 1)), (2, 1, (si 2)), (3, 1, (si 3)), (4, 1, (si 4)), (5, 1, (si (-1)))] fun ct16 => p.newSl 6 1 ct16 true H fun t16 H =>
 p.both
 (p.ca 4 60 [t9, (si 2)] H fun t14 H =>
 p.both
 (p.ca 3 61 [t9, t16] H fun t17 H =>
 p.fill [i0, i0, i0, i0, i0] [(0, 1, i0), (1, 1, (si 1)), (2, 1, (si 2)), (3, 1, (si 7)), (4, 1, (si (-1)))] fun ct19 => p.newSl 5 1 ct19 true H fun t19 H =>
 p.ca 3 61 [t9, t19] H fun t20 H =>
 p.store 9 t2 t12 H fun H =>
 p.load true 9 t2 H fun r0 =>
 k (Bu [r0, t14, t17, t20]) H)
 (p.fill [i0, i0, i0, i0, i0] [(0, 1, i0), (1, 1, (si 1)), (2, 1, (si 2)), (3, 1, (si 7)), (4, 1, (si (-1)))] fun ct19 => p.newSl 5 1 ct19 true H fun t19 H =>
 p.ca 3 61 [t9, t16] H fun t17 H =>
 p.ca 3 61 [t9, t19] H fun t20 H =>
 p.store 9 t2 t12 H fun H =>
 p.load true 9 t2 H fun r0 =>
 k (Bu [r0, t14, t17, t20]) H))
 (p.fill [i0, i0, i0, i0, i0] [(0, 1, i0), (1, 1, (si 1)), (2, 1, (si 2)), (3, 1, (si 7)), (4, 1, (si (-1)))] fun ct19 => p.newSl 5 1 ct19 true H fun t19 H =>
 p.ca 4 60 [t9, (si 2)] H fun t14 H =>
 p.ca 3 61 [t9, t16] H fun t17 H =>
 p.ca 3 61 [t9, t19] H fun t20 H =>
 p.store 9 t2 t12 H fun H =>
 p.load true 9 t2 H fun r0 =>
 k (Bu [r0, t14, t17, t20]) H))
 (p.fill [i0, i0, i0, i0, i0] [(0, 1, i0), (1, 1, (si 1)), (2, 1, (si 2)), (3, 1, (si 7)), (4, 1, (si (-1)))] fun ct19 => p.newSl 5 1 ct19 true H fun t19 H =>
 p.both
 (p.ca 4 60 [t9, (si 2)] H fun t14 H =>
 p.fill [i0, i0, i0, i0, i0, i0] [(0, 1, i0), (1, 1, (si 1)), (2, 1, (si 2)), (3, 1, (si 3)), (4, 1, (si 4)), (5, 1, (si (-1)))] fun ct16 => p.newSl 6 1 ct16 true H fun t16 H =>
 p.ca 3 61 [t9, t16] H fun t17 H =>
 p.ca 3 61 [t9, t19] H fun t20 H =>
 p.store 9 t2 t12 H fun H =>
 p.load true 9 t2 H fun r0 =>
 k (Bu [r0, t14, t17, t20]) H)
 (p.fill [i0, i0, i0, i0, i0, i0] [(0, 1, i0), (1, 1, (si 1)), (2, 1, (si 2)), (3, 1, (si 3)), (4, 1, (si 4)), (5, 1, (si (-1)))] fun ct16 => p.newSl 6 1 ct16 true H fun t16 H =>
 p.ca 4 60 [t9, (si 2)] H fun t14 H =>
 p.ca 3 61 [t9, t16] H fun t17 H =>
 p.ca 3 61 [t9, t19] H fun t20 H =>
 p.store 9 t2 t12 H fun H =>
 p.load true 9 t2 H fun r0 =>
 k (Bu [r0, t14, t17, t20]) H))))
 (p.both
 (p.ca 4 60 [t9, (si 2)] H fun t14 H =>
 p.both
 (p.load true 9 t7 H fun t12 =>
 p.both
 (p.fill [i0, i0, i0, i0, i0, i0] [(0, 1, i0), (1, 1, (si 1)), (2, 1, (si 2)), (3, 1, (si 3)), (4, 1, (si 4)), (5, 1, (si (-1)))] fun ct16 => p.newSl 6 1 ct16 true H fun t16 H =>
 p.both
 (p.ca 3 61 [t9, t16] H fun t17 H =>
 p.fill [i0, i0, i0, i0, i0] [(0, 1, i0), (1, 1, (si 1)), (2, 1, (si 2)), (3, 1, (si 7)), (4, 1, (si (-1)))] fun ct19 => p.newSl 5 1 ct19 true H fun t19 H =>
 p.ca 3 61 [t9, t19] H fun t20 H =>
 p.store 9 t2 t12 H fun H =>
 p.load true 9 t2 H fun r0 =>
 k (Bu [r0, t14, t17, t20]) H)
 (p.fill [i0, i0, i0, i0, i0] [(0, 1, i0), (1, 1, (si 1)), (2, 1, (si 2)), (3, 1, (si 7)), (4, 1, (si (-1)))] fun ct19 => p.newSl 5 1 ct19 true H fun t19 H =>
 p.ca 3 61 [t9, t16] H fun t17 H =>
 p.ca 3 61 [t9, t19] H fun t20 H =>
 p.store 9 t2 t12 H fun H =>
 p.load true 9 t2 H fun r0 =>
 k (Bu [r0, t14, t17, t20]) H))
 (p.fill [i0, i0, i0, i0, i0] [(0, 1, i0), (1, 1, (si 1)), (2, 1, (si 2)), (3, 1, (si 7)), (4, 1, (si (-1)))] fun ct19 => p.newSl 5 1 ct19 true H fun t19 H =>
 p.fill [i0, i0, i0, i0, i0, i0] [(0, 1, i0), (1, 1, (si 1)), (2, 1, (si 2)), (3, 1, (si 3)), (4, 1, (si 4)), (5, 1, (si (-1)))] fun ct16 => p.newSl 6 1 ct16 true H fun t16 H =>
 p.ca 3 61 [t9, t16] H fun t17 H =>
 p.ca 3 61 [t9, t19] H fun t20 H =>
 p.store 9 t2 t12 H fun H =>
 p.load true 9 t2 H fun r0 =>
 k (Bu [r0, t14, t17, t20]) H))
 (p.both
 (p.fill [i0, i0, i0, i0, i0, i0] [(0, 1, i0), (1, 1, (si 1)), (2, 1, (si 2)), (3, 1, (si 3)), (4, 1, (si 4)), (5, 1, (si (-1)))] fun ct16 => p.newSl 6 1 ct16 true H fun t16 H =>
 p.both
 (p.load true 9 t7 H fun t12 =>
 p.both
 (p.ca 3 61 [t9, t16] H fun t17 H =>
 p.fill [i0, i0, i0, i0, i0] [(0, 1, i0), (1, 1, (si 1)), (2, 1, (si 2)), (3, 1, (si 7)), (4, 1, (si (-1)))] fun ct19 => p.newSl 5 1 ct19 true H fun t19 H =>
 p.ca 3 61 [t9, t19] H fun t20 H =>
 p.store 9 t2 t12 H fun H =>
 p.load true 9 t2 H fun r0 =>
 k (Bu [r0, t14, t17, t20]) H)
 (p.fill [i0, i0, i0, i0, i0] [(0, 1, i0), (1, 1, (si 1)), (2, 1, (si 2)), (3, 1, (si 7)), (4, 1, (si (-1)))] fun ct19 => p.newSl 5 1 ct19 true H fun t19 H =>
 p.ca 3 61 [t9, t16] H fun t17 H =>
 p.ca 3 61 [t9, t19] H fun t20 H =>
 p.store 9 t2 t12 H fun H =>
 p.load true 9 t2 H fun r0 =>
 k (Bu [r0, t14, t17, t20]) H))
 (p.both
 (p.ca 3 61 [t9, t16] H fun t17 H =>
 p.both
 (p.load true 9 t7 H fun t12 =>
 p.fill [i0, i0, i0, i0, i0] [(0, 1, i0), (1, 1, (si 1)), (2, 1, (si 2)), (3, 1, (si 7)), (4, 1, (si (-1)))] fun ct19 => p.newSl 5 1 ct19 true H fun t19 H =>
 p.ca 3 61 [t9, t19] H fun t20 H =>
 p.store 9 t2 t12 H fun H =>
 p.load true 9 t2 H fun r0 =>
 k (Bu [r0, t14, t17, t20]) H)
 (p.fill [i0, i0, i0, i0, i0] [(0, 1, i0), (1, 1, (si 1)), (2, 1, (si 2)), (3, 1, (si 7)), (4, 1, (si (-1)))] fun ct19 => p.newSl 5 1 ct19 true H fun t19 H =>
 p.both
 (p.load true 9 t7 H fun t12 =>
 p.ca 3 61 [t9, t19] H fun t20 H =>
 p.store 9 t2 t12 H fun H =>
 p.load true 9 t2 H fun r0 =>
 k (Bu [r0, t14, t17, t20]) H)
 (p.ca 3 61 [t9, t19] H fun t20 H =>
 p.load true 9 t7 H fun t12 =>
 p.store 9 t2 t12 H fun H =>
 p.load true 9 t2 H fun r0 =>
 k (Bu [r0, t14, t17, t20]) H)))
 (p.fill [i0, i0, i0, i0, i0] [(0, 1, i0), (1, 1, (si 1)), (2, 1, (si 2)), (3, 1, (si 7)), (4, 1, (si (-1)))] fun ct19 => p.newSl 5 1 ct19 true H fun t19 H =>
 p.both
 (p.load true 9 t7 H fun t12 =>
 p.ca 3 61 [t9, t16] H fun t17 H =>
 p.ca 3 61 [t9, t19] H fun t20 H =>
 p.store 9 t2 t12 H fun H =>
 p.load true 9 t2 H fun r0 =>
 k (Bu [r0, t14, t17, t20]) H)
 (p.ca 3 61 [t9, t16] H fun t17 H =>
 p.both
 (p.load true 9 t7 H fun t12 =>
 p.ca 3 61 [t9, t19] H fun t20 H =>
 p.store 9 t2 t12 H fun H =>
 p.load true 9 t2 H fun r0 =>
 k (Bu [r0, t14, t17, t20]) H)
 (p.ca 3 61 [t9, t19] H fun t20 H =>
 p.load true 9 t7 H fun t12 =>
 p.store 9 t2 t12 H fun H =>
 p.load true 9 t2 H fun r0 =>
 k (Bu [r0, t14, t17, t20]) H)))))
 (p.fill [i0, i0, i0, i0, i0] [(0, 1, i0), (1, 1, (si 1)), (2, 1, (si 2)), (3, 1, (si 7)), (4, 1, (si (-1)))] fun ct19 => p.newSl 5 1 ct19 true H fun t19 H =>
 p.both
 (p.load true 9 t7 H fun t12 =>
 p.fill [i0, i0, i0, i0, i0, i0] [(0, 1, i0), (1, 1, (si 1)), (2, 1, (si 2)), (3, 1, (si 3)), (4, 1, (si 4)), (5, 1, (si (-1)))] fun ct16 => p.newSl 6 1 ct16 true H fun t16 H =>
 p.ca 3 61 [t9, t16] H fun t17 H =>
 p.ca 3 61 [t9, t19] H fun t20 H =>
 p.store 9 t2 t12 H fun H =>
 p.load true 9 t2 H fun r0 =>
 k (Bu [r0, t14, t17, t20]) H)
 (p.fill [i0, i0, i0, i0, i0, i0] [(0, 1, i0), (1, 1, (si 1)), (2, 1, (si 2)), (3, 1, (si 3)), (4, 1, (si 4)), (5, 1, (si (-1)))] fun ct16 => p.newSl 6 1 ct16 true H fun t16 H =>
 p.both
 (p.load true 9 t7 H fun t12 =>
 p.ca 3 61 [t9, t16] H fun t17 H =>
 p.ca 3 61 [t9, t19] H fun t20 H =>
 p.store 9 t2 t12 H fun H =>
 p.load true 9 t2 H fun r0 =>
 k (Bu [r0, t14, t17, t20]) H)
 (p.ca 3 61 [t9, t16] H fun t17 H =>
 p.both
 (p.load true 9 t7 H fun t12 =>
 p.ca 3 61 [t9, t19] H fun t20 H =>
 p.store 9 t2 t12 H fun H =>
 p.load true 9 t2 H fun r0 =>
 k (Bu [r0, t14, t17, t20]) H)
 (p.ca 3 61 [t9, t19] H fun t20 H =>
 p.load true 9 t7 H fun t12 =>
 p.store 9 t2 t12 H fun H =>
 p.load true 9 t2 H fun r0 =>
 k (Bu [r0, t14, t17, t20]) H))))))
 (p.both
 (p.fill [i0, i0, i0, i0, i0, i0] [(0, 1, i0), (1, 1, (si 1)), (2, 1, (si 2)), (3, 1, (si 3)), (4, 1, (si 4)), (5, 1, (si (-1)))] fun ct16 => p.newSl 6 1 ct16 true H fun t16 H =>
 p.both
 (p.load true 9 t7 H fun t12 =>
 p.both
 (p.ca 4 60 [t9, (si 2)] H fun t14 H =>
 p.both
 (p.ca 3 61 [t9, t16] H fun t17 H =>
 p.fill [i0, i0, i0, i0, i0] [(0, 1, i0), (1, 1, (si 1)), (2, 1, (si 2)), (3, 1, (si 7)), (4, 1, (si (-1)))] fun ct19 => p.newSl 5 1 ct19 true H fun t19 H =>
 p.ca 3 61 [t9, t19] H fun t20 H =>
 p.store 9 t2 t12 H fun H =>
 p.load true 9 t2 H fun r0 =>
 k (Bu [r0, t14, t17, t20]) H)
 (p.fill [i0, i0, i0, i0, i0] [(0, 1, i0), (1, 1, (si 1)), (2, 1, (si 2)), (3, 1, (si 7)), (4, 1, (si (-1)))] fun ct19 => p.newSl 5 1 ct19 true H fun t19 H =>
 p.ca 3 61 [t9, t16] H fun t17 H =>
 p.ca 3 61 [t9, t19] H fun t20 H =>
 p.store 9 t2 t12 H fun H =>
 p.load true 9 t2 H fun r0 =>
 k (Bu [r0, t14, t17, t20]) H))
 (p.fill [i0, i0, i0, i0, i0] [(0, 1, i0), (1, 1, (si 1)), (2, 1, (si 2)), (3, 1, (si 7)), (4, 1, (si (-1)))] fun ct19 => p.newSl 5 1 ct19 true H fun t19 H =>
 p.ca 4 60 [t9, (si 2)] H fun t14 H =>
 p.ca 3 61 [t9, t16] H fun t17 H =>
 p.ca 3 61 [t9, t19] H fun t20 H =>
 p.store 9 t2 t12 H fun H =>
 p.load true 9 t2 H fun r0 =>
 k (Bu [r0, t14, t17, t20]) H))
 (p.both
 (p.ca 4 60 [t9, (si 2)] H fun t14 H =>
 p.both
 (p.load true 9 t7 H fun t12 =>
 p.both
 (p.ca 3 61 [t9, t16] H fun t17 H =>
 p.fill [i0, i0, i0, i0, i0] [(0, 1, i0), (1, 1, (si 1)), (2, 1, (si 2)), (3, 1, (si 7)), (4, 1, (si (-1)))] fun ct19 => p.newSl 5 1 ct19 true H fun t19 H =>
 p.ca 3 61 [t9, t19] H fun t20 H =>
 p.store 9 t2 t12 H fun H =>
 p.load true 9 t2 H fun r0 =>
 k (Bu [r0, t14, t17, t20]) H)
 (p.fill [i0, i0, i0, i0, i0] [(0, 1, i0), (1, 1, (si 1)), (2, 1, (si 2)), (3, 1, (si 7)), (4, 1, (si (-1)))] fun ct19 => p.newSl 5 1 ct19 true H fun t19 H =>
 p.ca 3 61 [t9, t16] H fun t17 H =>
 p.ca 3 61 [t9, t19] H fun t20 H =>
 p.store 9 t2 t12 H fun H =>
 p.load true 9 t2 H fun r0 =>
 k (Bu [r0, t14, t17, t20]) H))
 (p.both
 (p.ca 3 61 [t9, t16] H fun t17 H =>
 p.both
 (p.load true 9 t7 H fun t12 =>
 p.fill [i0, i0, i0, i0, i0] [(0, 1, i0), (1, 1, (si 1)), (2, 1, (si 2)), (3, 1, (si 7)), (4, 1, (si (-1)))] fun ct19 => p.newSl 5 1 ct19 true H fun t19 H =>
 p.ca 3 61 [t9, t19] H fun t20 H =>
 p.store 9 t2 t12 H fun H =>
 p.load true 9 t2 H fun r0 =>
 k (Bu [r0, t14, t17, t20]) H)
 (p.fill [i0, i0, i0, i0, i0] [(0, 1, i0), (1, 1, (si 1)), (2, 1, (si 2)), (3, 1, (si 7)), (4, 1, (si (-1)))] fun ct19 => p.newSl 5 1 ct19 true H fun t19 H =>
 p.both
 (p.load true 9 t7 H fun t12 =>
 p.ca 3 61 [t9, t19] H fun t20 H =>
 p.store 9 t2 t12 H fun H =>
 p.load true 9 t2 H fun r0 =>
 k (Bu [r0, t14, t17, t20]) H)
 (p.ca 3 61 [t9, t19] H fun t20 H =>
 p.load true 9 t7 H fun t12 =>
 p.store 9 t2 t12 H fun H =>
 p.load true 9 t2 H fun r0 =>
 k (Bu [r0, t14, t17, t20]) H)))
 (p.fill [i0, i0, i0, i0, i0] [(0, 1, i0), (1, 1, (si 1)), (2, 1, (si 2)), (3, 1, (si 7)), (4, 1, (si (-1)))] fun ct19 => p.newSl 5 1 ct19 true H fun t19 H =>
 p.both
 (p.load true 9 t7 H fun t12 =>
 p.ca 3 61 [t9, t16] H fun t17 H =>
 p.ca 3 61 [t9, t19] H fun t20 H =>
 p.store 9 t2 t12 H fun H =>
 p.load true 9 t2 H fun r0 =>
 k (Bu [r0, t14, t17, t20]) H)
 (p.ca 3 61 [t9, t16] H fun t17 H =>
 p.both
 (p.load true 9 t7 H fun t12 =>
 p.ca 3 61 [t9, t19] H fun t20 H =>
 p.store 9 t2 t12 H fun H =>
 p.load true 9 t2 H fun r0 =>
 k (Bu [r0, t14, t17, t20]) H)
 (p.ca 3 61 [t9, t19] H fun t20 H =>
 p.load true 9 t7 H fun t12 =>
 p.store 9 t2 t12 H fun H =>
 p.load true 9 t2 H fun r0 =>
 k (Bu [r0, t14, t17, t20]) H)))))
 (p.fill [i0, i0, i0, i0, i0] [(0, 1, i0), (1, 1, (si 1)), (2, 1, (si 2)), (3, 1, (si 7)), (4, 1, (si (-1)))] fun ct19 => p.newSl 5 1 ct19 true H fun t19 H =>
 p.both
 (p.load true 9 t7 H fun t12 =>
 p.ca 4 60 [t9, (si 2)] H fun t14 H =>
 p.ca 3 61 [t9, t16] H fun t17 H =>
 p.ca 3 61 [t9, t19] H fun t20 H =>
 p.store 9 t2 t12 H fun H =>
 p.load true 9 t2 H fun r0 =>
 k (Bu [r0, t14, t17, t20]) H)
 (p.ca 4 60 [t9, (si 2)] H fun t14 H =>
 p.both
 (p.load true 9 t7 H fun t12 =>
 p.ca 3 61 [t9, t16] H fun t17 H =>
 p.ca 3 61 [t9, t19] H fun t20 H =>
 p.store 9 t2 t12 H fun H =>
 p.load true 9 t2 H fun r0 =>
 k (Bu [r0, t14, t17, t20]) H)
 (p.ca 3 61 [t9, t16] H fun t17 H =>
 p.both
 (p.load true 9 t7 H fun t12 =>
 p.ca 3 61 [t9, t19] H fun t20 H =>
 p.store 9 t2 t12 H fun H =>
 p.load true 9 t2 H fun r0 =>
 k (Bu [r0, t14, t17, t20]) H)
 (p.ca 3 61 [t9, t19] H fun t20 H =>
 p.load true 9 t7 H fun t12 =>
 p.store 9 t2 t12 H fun H =>
 p.load true 9 t2 H fun r0 =>
 k (Bu [r0, t14, t17, t20]) H))))))
 (p.fill [i0, i0, i0, i0, i0] [(0, 1, i0), (1, 1, (si 1)), (2, 1, (si 2)), (3, 1, (si 7)), (4, 1, (si (-1)))] fun ct19 => p.newSl 5 1 ct19 true H fun t19 H =>
 p.both
 (p.load true 9 t7 H fun t12 =>
 p.both
 (p.ca 4 60 [t9, (si 2)] H fun t14 H =>
 p.fill [i0, i0, i0, i0, i0, i0] [(0, 1, i0), (1, 1, (si 1)), (2, 1, (si 2)), (3, 1, (si 3)), (4, 1, (si 4)), (5, 1, (si (-1)))] fun ct16 => p.newSl 6 1 ct16 true H fun t16 H =>
 p.ca 3 61 [t9, t16] H fun t17 H =>
 p.ca 3 61 [t9, t19] H fun t20 H =>
 p.store 9 t2 t12 H fun H =>
 p.load true 9 t2 H fun r0 =>
 k (Bu [r0, t14, t17, t20]) H)
 (p.fill [i0, i0, i0, i0, i0, i0] [(0, 1, i0), (1, 1, (si 1)), (2, 1, (si 2)), (3, 1, (si 3)), (4, 1, (si 4)), (5, 1, (si (-1)))] fun ct16 => p.newSl 6 1 ct16 true H fun t16 H =>
 p.ca 4 60 [t9, (si 2)] H fun t14 H =>
 p.ca 3 61 [t9, t16] H fun t17 H =>
 p.ca 3 61 [t9, t19] H fun t20 H =>
 p.store 9 t2 t12 H fun H =>
 p.load true 9 t2 H fun r0 =>
 k (Bu [r0, t14, t17, t20]) H))
 (p.both
 (p.ca 4 60 [t9, (si 2)] H fun t14 H =>
 p.both
 (p.load true 9 t7 H fun t12 =>
 p.fill [i0, i0, i0, i0, i0, i0] [(0, 1, i0), (1, 1, (si 1)), (2, 1, (si 2)), (3, 1, (si 3)), (4, 1, (si 4)), (5, 1, (si (-1)))] fun ct16 => p.newSl 6 1 ct16 true H fun t16 H =>
 p.ca 3 61 [t9, t16] H fun t17 H =>
 p.ca 3 61 [t9, t19] H fun t20 H =>
 p.store 9 t2 t12 H fun H =>
 p.load true 9 t2 H fun r0 =>
 k (Bu [r0, t14, t17, t20]) H)
 (p.fill [i0, i0, i0, i0, i0, i0] [(0, 1, i0), (1, 1, (si 1)), (2, 1, (si 2)), (3, 1, (si 3)), (4, 1, (si 4)), (5, 1, (si (-1)))] fun ct16 => p.newSl 6 1 ct16 true H fun t16 H =>
 p.both
 (p.load true 9 t7 H fun t12 =>
 p.ca 3 61 [t9, t16] H fun t17 H =>
 p.ca 3 61 [t9, t19] H fun t20 H =>
 p.store 9 t2 t12 H fun H =>
 p.load true 9 t2 H fun r0 =>
 k (Bu [r0, t14, t17, t20]) H)
 (p.ca 3 61 [t9, t16] H fun t17 H =>
 p.both
 (p.load true 9 t7 H fun t12 =>
 p.ca 3 61 [t9, t19] H fun t20 H =>
 p.store 9 t2 t12 H fun H =>
 p.load true 9 t2 H fun r0 =>
 k (Bu [r0, t14, t17, t20]) H)
 (p.ca 3 61 [t9, t19] H fun t20 H =>
 p.load true 9 t7 H fun t12 =>
 p.store 9 t2 t12 H fun H =>
 p.load true 9 t2 H fun r0 =>
 k (Bu [r0, t14, t17, t20]) H))))
 (p.fill [i0, i0, i0, i0, i0, i0] [(0, 1, i0), (1, 1, (si 1)), (2, 1, (si 2)), (3, 1, (si 3)), (4, 1, (si 4)), (5, 1, (si (-1)))] fun ct16 => p.newSl 6 1 ct16 true H fun t16 H =>
 p.both
 (p.load true 9 t7 H fun t12 =>
 p.ca 4 60 [t9, (si 2)] H fun t14 H =>
 p.ca 3 61 [t9, t16] H fun t17 H =>
 p.ca 3 61 [t9, t19] H fun t20 H =>
 p.store 9 t2 t12 H fun H =>
 p.load true 9 t2 H fun r0 =>
 k (Bu [r0, t14, t17, t20]) H)
 (p.ca 4 60 [t9, (si 2)] H fun t14 H =>
 p.both
 (p.load true 9 t7 H fun t12 =>
 p.ca 3 61 [t9, t16] H fun t17 H =>
 p.ca 3 61 [t9, t19] H fun t20 H =>
 p.store 9 t2 t12 H fun H =>
 p.load true 9 t2 H fun r0 =>
 k (Bu [r0, t14, t17, t20]) H)
 (p.ca 3 61 [t9, t16] H fun t17 H =>
 p.both
 (p.load true 9 t7 H fun t12 =>
 p.ca 3 61 [t9, t19] H fun t20 H =>
 p.store 9 t2 t12 H fun H =>
 p.load true 9 t2 H fun r0 =>
 k (Bu [r0, t14, t17, t20]) H)
 (p.ca 3 61 [t9, t19] H fun t20 H =>
 p.load true 9 t7 H fun t12 =>
 p.store 9 t2 t12 H fun H =>
 p.load true 9 t2 H fun r0 =>
 k (Bu [r0, t14, t17, t20]) H))))))))
theorem AcF : H4 AiH @f27 := fun p n a0 H k => by kernel_rfl
noncomputable def Pe (p : Pr β) (n : Nat)  (k : KO β) : Nat → AV → AV → AV → KO β
 | 0, _, _, _, _, _ => none
 | m + 1, t3, t7, t8, t9, H => p.bin .lss t9 t8 fun t10 =>
   p.cond t10
   (p.iadr 1 t7 t9 fun t11 =>
   p.load false 1 t11 H fun t12 =>
   p.app 1 1 t3 t12 H fun t15 H =>
   p.bin .add t9 (si 1) fun t16 =>
   Pe p n  k m t15 t7 t8 t16 H)
   (k t3 H)
noncomputable def f88 (n : Nat) (a0 : AV) (H : Ab) (k : KO β) : Option β :=
 p.len a0 fun t8 =>
 Pe p n  k n .nl a0 t8 i0 H
noncomputable def Ad4 (p : Pr β) (n : Nat)  (k : KO β) (m : Nat) (tm : Tm) (H : Ab) : Option β :=
 Dz 18 (fun tm H k => Al Aq p [] 18 n (cd c88 [1, 1, 0, 1, 0, 0]) tm H k) (Ew 0 (Ei (fun tm H => Al Aq p [] 18 n (cd c88 [1, 1, 1]) tm H (C9 Aq p fi88.results k)) (C9 Aq p fi88.results k))) m tm H
theorem Ab6 (p : Pr β) (n : Nat)  (k : KO β) (m0 : Nat) : ∀ (t : Nat → AV) (H : Ab), Ad4 p n  k m0 (tf 18 0 t) H = Pe p n  k m0 (t 3) (t 7) (t 8) (t 9) H := by
 induction m0 with
 | zero => intros; rfl
 | succ m0 ih =>
  intro t H
  refine Eq.trans (B8 (nt := 18) (m := m0) (g := fun t H => Pe p n  k m0 (t 3) (t 7) (t 8) (t 9) H) ih rfl) ?_
  kernel_rfl
theorem Af3 (p : Pr β) (n : Nat) (a0 : AV) (H : Ab) (k : KO β) : Cl Aq p n fi88 [a0] H k =
 p.len a0 fun t8 =>
 Ad4 p n  k n (tf 18 0 (ud [(0, a0), (2, .nl), (3, .nl), (6, .nl), (7, a0), (8, t8), (9, i0)] ut)) H := by kernel_rfl
theorem Ad5 : H4 fi88 @f88 := fun p n a0 H k => by
 rw [Af3]
 simp only [Ab6]
 kernel_rfl
noncomputable def f99 (n : Nat) (a0 : AV) (H : Ab) (k : KO β) : Option β :=
 p.box a0 H fun t1 H =>
 p.new [sE, .nl, i0, bF] H fun t2 H =>
 p.fadr 1 t1 fun t3 =>
 p.load false 1 t3 H fun t4 =>
 p.fill [.nl] [(0, 1, t4)] fun ct5 => p.newSl 1 1 ct5 true H fun t5 H =>
 p.call 22 (.fn 88 [] []) [t5] H fun t6 H =>
 p.fadr 1 t1 fun t7 =>
 p.store 1 t7 t6 H fun H =>
 p.load true 4 t1 H fun t8 =>
 p.store 4 t2 t8 H fun H =>
 p.load true 4 t2 H fun r0 =>
 k r0 H
theorem AdH : H4 Ajv @f99 := fun p n a0 H k => by kernel_rfl
noncomputable def Nk (p : Pr β) (n : Nat)  (k : KO β) : Nat → AV → AV → AV → KO β
 | 0, _, _, _, _, _ => none
 | m + 1, t3, t7, t8, t9, H => p.bin .lss t9 t8 fun t10 =>
   p.cond t10
   (p.iadr 4 t7 t9 fun t11 =>
   p.load true 4 t11 H fun t12 =>
   p.new [sE, .nl, i0, bF] H fun t5 H =>
   p.store 4 t5 t12 H fun H =>
   p.load true 4 t5 H fun t14 =>
   p.call 33 (.fn 99 [] []) [t14] H fun t15 H =>
   p.fill [sE, .nl, i0, bF] [(0, 4, t15)] fun ct16 => p.newSl 1 4 ct16 true H fun t16 H =>
   p.app 4 56 t3 t16 H fun t17 H =>
   p.bin .add t9 (si 1) fun t18 =>
   Nk p n  k m t17 t7 t8 t18 H)
   (k t3 H)
noncomputable def f98 (n : Nat) (a0 : AV) (H : Ab) (k : KO β) : Option β :=
 p.len a0 fun t8 =>
 Nk p n  k n .nl a0 t8 i0 H
noncomputable def AdF (p : Pr β) (n : Nat)  (k : KO β) (m : Nat) (tm : Tm) (H : Ab) : Option β :=
 Dz 20 (fun tm H k => Al Aq p [] 20 n (cd c98 [1, 1, 0, 1, 0, 0]) tm H k) (Ew 0 (Ei (fun tm H => Al Aq p [] 20 n (cd c98 [1, 1, 1]) tm H (C9 Aq p fi98.results k)) (C9 Aq p fi98.results k))) m tm H
theorem Ab9 (p : Pr β) (n : Nat)  (k : KO β) (m0 : Nat) : ∀ (t : Nat → AV) (H : Ab), AdF p n  k m0 (tf 20 0 t) H = Nk p n  k m0 (t 3) (t 7) (t 8) (t 9) H := by
 induction m0 with
 | zero => intros; rfl
 | succ m0 ih =>
  intro t H
  refine Eq.trans (B8 (nt := 20) (m := m0) (g := fun t H => Nk p n  k m0 (t 3) (t 7) (t 8) (t 9) H) ih rfl) ?_
  kernel_rfl
theorem Af6 (p : Pr β) (n : Nat) (a0 : AV) (H : Ab) (k : KO β) : Cl Aq p n fi98 [a0] H k =
 p.len a0 fun t8 =>
 AdF p n  k n (tf 20 0 (ud [(0, a0), (2, .nl), (3, .nl), (6, .nl), (7, a0), (8, t8), (9, i0)] ut)) H := by kernel_rfl
theorem AdG : H4 fi98 @f98 := fun p n a0 H k => by
 rw [Af6]
 simp only [Ab9]
 kernel_rfl
noncomputable def Pc (p : Pr β) (n : Nat)  (k : KO β) : Nat → AV → AV → AV → AV → KO β
 | 0, _, _, _, _, _, _ => none
 | m + 1, t2, t3, t13, t14, t15, H => p.bin .lss t15 t14 fun t16 =>
   p.cond t16
   (p.iadr 6 t13 t15 fun t17 =>
   p.load true 6 t17 H fun t18 =>
   p.new [i0, sE, .nl, i0, bF, i0] H fun t5 H =>
   p.store 6 t5 t18 H fun H =>
   p.fadr 1 t3 fun t19 =>
   p.load false 1 t19 H fun t20 =>
   p.fadr 0 t5 fun t21 =>
   p.load false 1 t21 H fun t22 =>
   p.fadr 1 t5 fun t23 =>
   p.load true 4 t23 H fun t24 =>
   p.fadr 5 t5 fun t26 =>
   p.load false 1 t26 H fun t27 =>
   p.call 33 (.fn 99 [] []) [t24] H fun t25 H =>
   p.fill [i0, sE, .nl, i0, bF, i0] [(0, 1, t22), (1, 4, t25), (5, 1, t27)] fun ct28 =>
   p.fill [i0, sE, .nl, i0, bF, i0] [(0, 6, (.agg ct28))] fun ct29 => p.newSl 1 6 ct29 true H fun t29 H =>
   p.app 6 72 t20 t29 H fun t30 H =>
   p.fadr 1 t3 fun t31 =>
   p.store 1 t31 t30 H fun H =>
   p.bin .add t15 (si 1) fun t32 =>
   Pc p n  k m t2 t3 t13 t14 t32 H)
   (p.load true 3 t3 H fun t33 =>
   p.store 3 t2 t33 H fun H =>
   p.load true 3 t2 H fun r0 =>
   k r0 H)
noncomputable def f62 (n : Nat) (a0 : AV) (H : Ab) (k : KO β) : Option β :=
 p.box a0 H fun t1 H =>
 p.new [i0, .nl, .nl] H fun t2 H =>
 p.fadr 0 t1 fun t6 =>
 p.load false 1 t6 H fun t7 =>
 p.fadr 2 t1 fun t8 =>
 p.load false 1 t8 H fun t9 =>
 p.both
 (p.call 25 (.fn 98 [] []) [t9] H fun t10 H =>
 p.fill [i0, .nl, .nl] [(0, 1, t7), (2, 1, t10)] fun ct11 =>
 p.new [i0, .nl, .nl] H fun t3 H =>
 p.store 3 t3 (.agg ct11) H fun H =>
 p.fadr 1 t1 fun t12 =>
 p.load false 1 t12 H fun t13 =>
 p.len t13 fun t14 =>
 Pc p n  k n t2 t3 t13 t14 i0 H)
 (p.new [i0, .nl, .nl] H fun t3 H =>
 p.call 25 (.fn 98 [] []) [t9] H fun t10 H =>
 p.fill [i0, .nl, .nl] [(0, 1, t7), (2, 1, t10)] fun ct11 =>
 p.store 3 t3 (.agg ct11) H fun H =>
 p.fadr 1 t1 fun t12 =>
 p.load false 1 t12 H fun t13 =>
 p.len t13 fun t14 =>
 Pc p n  k n t2 t3 t13 t14 i0 H)
noncomputable def Yt (p : Pr β) (n : Nat)  (k : KO β) (m : Nat) (tm : Tm) (H : Ab) : Option β :=
 Dz 34 (fun tm H k => Al Aq p o62 34 n (cd c62 [1, 1, 0, 1, 0, 0]) tm H k) (Ew 0 (Ei (fun tm H => Al Aq p o62 34 n (cd c62 [1, 1, 1]) tm H (C9 Aq p fi62.results k)) (C9 Aq p fi62.results k))) m tm H
theorem Ab1 (p : Pr β) (n : Nat)  (k : KO β) (m0 : Nat) : ∀ (t : Nat → AV) (H : Ab), Yt p n  k m0 (tf 34 0 t) H = Pc p n  k m0 (t 2) (t 3) (t 13) (t 14) (t 15) H := by
 induction m0 with
 | zero => intros; rfl
 | succ m0 ih =>
  intro t H
  refine Eq.trans (B8 (nt := 34) (m := m0) (g := fun t H => Pc p n  k m0 (t 2) (t 3) (t 13) (t 14) (t 15) H) ih rfl) ?_
  kernel_rfl
theorem Afx (p : Pr β) (n : Nat) (a0 : AV) (H : Ab) (k : KO β) : Cl Aq p n fi62 [a0] H k =
 p.box a0 H fun t1 H =>
 p.new [i0, .nl, .nl] H fun t2 H =>
 p.fadr 0 t1 fun t6 =>
 p.load false 1 t6 H fun t7 =>
 p.fadr 2 t1 fun t8 =>
 p.load false 1 t8 H fun t9 =>
 p.both
 (p.call 25 (.fn 98 [] []) [t9] H fun t10 H =>
 p.fill [i0, .nl, .nl] [(0, 1, t7), (2, 1, t10)] fun ct11 =>
 p.new [i0, .nl, .nl] H fun t3 H =>
 p.store 3 t3 (.agg ct11) H fun H =>
 p.fadr 1 t1 fun t12 =>
 p.load false 1 t12 H fun t13 =>
 p.len t13 fun t14 =>
 Yt p n  k n (tf 34 0 (ud [(0, a0), (1, t1), (2, t2), (3, t3), (6, t6), (7, t7), (8, t8), (9, t9), (10, t10), (11, (.agg ct11)), (12, t12), (13, t13), (14, t14), (15, i0)] ut)) H)
 (p.new [i0, .nl, .nl] H fun t3 H =>
 p.call 25 (.fn 98 [] []) [t9] H fun t10 H =>
 p.fill [i0, .nl, .nl] [(0, 1, t7), (2, 1, t10)] fun ct11 =>
 p.store 3 t3 (.agg ct11) H fun H =>
 p.fadr 1 t1 fun t12 =>
 p.load false 1 t12 H fun t13 =>
 p.len t13 fun t14 =>
 Yt p n  k n (tf 34 0 (ud [(0, a0), (1, t1), (2, t2), (3, t3), (6, t6), (7, t7), (8, t8), (9, t9), (10, t10), (11, (.agg ct11)), (12, t12), (13, t13), (14, t14), (15, i0)] ut)) H) := by kernel_rfl
theorem Adj : H4 fi62 @f62 := fun p n a0 H k => by
 rw [Afx]
 simp only [Ab1]
 kernel_rfl
noncomputable def f109 (n : Nat) (a0 : AV) (H : Ab) (k : KO β) : Option β :=
 p.app 1 8 .nl a0 H fun t5 H =>
 k t5 H
theorem Abb : H4 Ag9 @f109 := fun p n a0 H k => by kernel_rfl
noncomputable def f74 (n : Nat) (a0 : AV) (H : Ab) (k : KO β) : Option β :=
 p.box a0 H fun t1 H =>
 p.new [sE, i0, bF, i0, i0, i0, .nl, .nl, .nl] H fun t2 H =>
 p.fadr 5 t1 fun t3 =>
 p.load true 3 t3 H fun t4 =>
 p.fadr 8 t1 fun t6 =>
 p.load false 1 t6 H fun t7 =>
 p.call 27 (.fn 62 [] []) [t4] H fun t5 H =>
 p.fadr 5 t1 fun t9 =>
 p.call 39 (.fn 109 [] []) [t7] H fun t8 H =>
 p.store 3 t9 t5 H fun H =>
 p.fadr 8 t1 fun t10 =>
 p.store 1 t10 t8 H fun H =>
 p.load true 9 t1 H fun t11 =>
 p.store 9 t2 t11 H fun H =>
 p.load true 9 t2 H fun r0 =>
 k r0 H
theorem Adp : H4 Ajj @f74 := fun p n a0 H k => by kernel_rfl
noncomputable def f76 (n : Nat) (a0 : AV) (H : Ab) (k : KO β) : Option β :=
 p.call 4 (.fn 93 [] []) [a0] H fun t4 H =>
 p.kT t4 H a0 fun t6 H =>
 p.gT t4 H (p.bin .neq t6 sE) fun t7 H =>
 p.pick t4 t7 bF fun t8 =>
 k t8 H
theorem Adr : H4 Ajl @f76 := fun p n a0 H k => by kernel_rfl
noncomputable def f47 (n : Nat) (a0 a1 a2 : AV) (H : Ab) (k : KO β) : Option β :=
 p.bin .geq a0 a1 fun t9 =>
 p.kT t9 H a0 fun t11 H =>
 p.kT t9 H a2 fun t12 H =>
 p.gT t9 H (p.bin .leq t11 t12) fun t13 H =>
 p.pick t9 t13 bF fun t14 =>
 k t14 H
theorem AcW : Bd3 AiU @f47 := fun p n a0 a1 a2 H k => by kernel_rfl
noncomputable def f77 (n : Nat) (a0 a1 a2 : AV) (H : Ab) (k : KO β) : Option β :=
 p.bin .eql a1 (si (-1)) fun t8 =>
 p.cond t8
 (p.un .not a0 fun t10 =>
 p.kT t10 H a2 fun t12 H =>
 p.gT t10 H (p.bin .eql t12 i0) fun t13 H =>
 p.pick t10 t13 bF fun t14 =>
 k t14 H)
 (p.call 4 (.fn 47 [] []) [a1, i0, (si 3)] H fun t16 H =>
 p.kT t16 H a2 fun t18 H =>
 p.gT t16 H (p.bin .geq t18 i0) fun t19 H =>
 p.pick t16 t19 bF fun t20 =>
 k t20 H)
theorem Ads : Bd3 Ajm @f77 := fun p n a0 a1 a2 H k => by kernel_rfl
noncomputable def f44 (n : Nat) (a0 : AV) (H : Ab) (k : KO β) : Option β :=
 p.call 4 (.fn 47 [] []) [a0, (si 1), (si 65535)] H fun t4 H =>
 k t4 H
theorem AcT : H4 AiR @f44 := fun p n a0 H k => by kernel_rfl
noncomputable def f90 (n : Nat) (a0 a1 : AV) (H : Ab) (k : KO β) : Option β :=
 p.box a0 H fun t2 H =>
 p.fadr 0 t2 fun t4 =>
 p.load false 1 t4 H fun t5 =>
 p.load false 1 a1 H fun t6 =>
 p.bin .eql t5 t6 fun t7 =>
 k t7 H
theorem Ad8 : Tf Ajr @f90 := fun p n a0 a1 H k => by kernel_rfl
noncomputable def Re (p : Pr β) (n : Nat)  (k : KO β) : Nat → AV → AV → AV → KO β
 | 0, _, _, _, _, _ => none
 | m + 1, t0, t1, t7, t8, H => p.bin .lss t8 t7 fun t9 =>
   p.cond t9
   (p.iadr 6 t0 t8 fun t14 =>
   p.load true 6 t14 H fun t15 =>
   p.call 4 t1 [t15] H fun t16 H =>
   p.cond t16
   (k t8 H)
   (p.bin .add t8 (si 1) fun t18 =>
   Re p n  k m t0 t1 t7 t18 H))
   (k (si (-1)) H)
noncomputable def f89 (n : Nat) (a0 a1 : AV) (H : Ab) (k : KO β) : Option β :=
 p.len a0 fun t7 =>
 Re p n  k n a0 a1 t7 i0 H
noncomputable def Ad6 (p : Pr β) (n : Nat)  (k : KO β) (m : Nat) (tm : Tm) (H : Ab) : Option β :=
 Dz 19 (fun tm H k => Al Aq p [] 19 n (cd c89 [1, 0, 1, 0, 0]) tm H k) (Ew 0 (Ei (fun tm H => Al Aq p [] 19 n (cd c89 [1, 1]) tm H (C9 Aq p fi89.results k)) (C9 Aq p fi89.results k))) m tm H
theorem Ab7 (p : Pr β) (n : Nat)  (k : KO β) (m0 : Nat) : ∀ (t : Nat → AV) (H : Ab), Ad6 p n  k m0 (tf 19 0 t) H = Re p n  k m0 (t 0) (t 1) (t 7) (t 8) H := by
 induction m0 with
 | zero => intros; rfl
 | succ m0 ih =>
  intro t H
  refine Eq.trans (B8 (nt := 19) (m := m0) (g := fun t H => Re p n  k m0 (t 0) (t 1) (t 7) (t 8) H) ih rfl) ?_
  kernel_rfl
theorem Af4 (p : Pr β) (n : Nat) (a0 a1 : AV) (H : Ab) (k : KO β) : Cl Aq p n fi89 [a0, a1] H k =
 p.len a0 fun t7 =>
 Ad6 p n  k n (tf 19 0 (ud [(0, a0), (1, a1), (4, i0), (6, a0), (7, t7), (8, i0)] ut)) H := by kernel_rfl
theorem Ad7 : Tf fi89 @f89 := fun p n a0 a1 H k => by
 rw [Af4]
 simp only [Ab7]
 kernel_rfl
noncomputable def f45 (n : Nat) (a0 a1 : AV) (H : Ab) (k : KO β) : Option β :=
 p.box a1 H fun t3 H =>
 p.call 3 (.fn 89 [] []) [a0, (.fn 90 [] [t3])] H fun t7 H =>
 k t7 H
theorem AcU : Tf AiS @f45 := fun p n a0 a1 H k => by kernel_rfl
noncomputable def f95 (n : Nat) (a0 : AV) (H : Ab) (k : KO β) : Option β :=
 p.call 38 (.fn 118 [] []) [a0, (.sc (.string ⟨#[47]⟩))] H fun t4 H =>
 k t4 H
theorem AdC : H4 Ajt @f95 := fun p n a0 H k => by kernel_rfl
noncomputable def f57 (n : Nat) (a0 : AV) (H : Ab) (k : KO β) : Option β :=
 p.call 4 (.fn 93 [] []) [a0] H fun t4 H =>
 p.kT t4 H a0 fun t6 H =>
 p.gT t4 H (p.bin .neq t6 sE) fun t7 H =>
 p.pick t4 t7 bF fun t8 =>
 p.kT t8 H a0 fun t10 H =>
 p.hT t8 H (p.call 4 (.fn 94 [] []) [t10, (.sc (.string ⟨#[43, 35]⟩))] H) fun t11 H =>
 p.gT t8 H (p.un .not t11) fun t12 H =>
 p.pick t8 t12 bF fun t13 =>
 p.kT t13 H a0 fun t15 H =>
 p.hT t13 H (p.call 38 (.fn 95 [] []) [t15] H) fun t16 H =>
 p.gT t13 H (p.len t16) fun t17 H =>
 p.gT t13 H (p.bin .leq t17 (si 6)) fun t18 H =>
 p.pick t13 t18 bF fun t19 =>
 k t19 H
theorem Adf : H4 Ajb @f57 := fun p n a0 H k => by kernel_rfl
noncomputable def f56 (n : Nat) (a0 : AV) (H : Ab) (k : KO β) : Option β :=
 p.call 4 (.fn 47 [] []) [a0, i0, (si 2)] H fun t4 H =>
 k t4 H
theorem Ade : H4 Aja @f56 := fun p n a0 H k => by kernel_rfl
noncomputable def f46 (n : Nat) (a0 : AV) (H : Ab) (k : KO β) : Option β :=
 p.box a0 H fun t1 H =>
 p.fadr 0 t1 fun t3 =>
 p.load false 1 t3 H fun t4 =>
 p.call 4 (.fn 57 [] []) [t4] H fun t5 H =>
 p.gT t5 H (p.fadr 1 t1) fun t7 H =>
 p.gT t5 H (p.load false 1 t7 H) fun t8 H =>
 p.gT t5 H (p.len t8) fun t9 H =>
 p.gT t5 H (p.bin .leq t9 (si 40)) fun t10 H =>
 p.pick t5 t10 bF fun t11 =>
 p.gT t11 H (p.fadr 2 t1) fun t13 H =>
 p.gT t11 H (p.load false 1 t13 H) fun t14 H =>
 p.hT t11 H (p.call 4 (.fn 56 [] []) [t14] H) fun t15 H =>
 p.pick t11 t15 bF fun t16 =>
 k t16 H
theorem AcV : H4 AiT @f46 := fun p n a0 H k => by kernel_rfl
noncomputable def f48 (n : Nat) (a0 : AV) (H : Ab) (k : KO β) : Option β :=
 p.call 4 (.fn 47 [] []) [a0, i0, (si 65535)] H fun t4 H =>
 k t4 H
theorem AcX : H4 AiV @f48 := fun p n a0 H k => by kernel_rfl
noncomputable def Rf (p : Pr β) (n : Nat)  (k : KO β) : Nat → AV → AV → KO β
 | 0, _, _, _, _ => none
 | m + 1, t5, t6, t7, H => p.bin .lss t7 t6 fun t8 =>
   p.cond t8
   (p.iadr 4 t5 t7 fun t9 =>
   p.load true 4 t9 H fun t10 =>
   p.new [sE, .nl, i0, bF] H fun t4 H =>
   p.store 4 t4 t10 H fun H =>
   p.load true 4 t4 H fun t11 =>
   p.call 4 (.fn 46 [] []) [t11] H fun t12 H =>
   p.un .not t12 fun t13 =>
   p.cond t13
   (k bF H)
   (p.bin .add t7 (si 1) fun t14 =>
   Rf p n  k m t5 t6 t14 H))
   (k bT H)
noncomputable def f91 (n : Nat) (a0 : AV) (H : Ab) (k : KO β) : Option β :=
 p.len a0 fun t6 =>
 Rf p n  k n a0 t6 i0 H
noncomputable def Ad9 (p : Pr β) (n : Nat)  (k : KO β) (m : Nat) (tm : Tm) (H : Ab) : Option β :=
 Dz 15 (fun tm H k => Al Aq p [] 15 n (cd c91 [1, 0, 1, 0, 0]) tm H k) (Ew 0 (Ei (fun tm H => Al Aq p [] 15 n (cd c91 [1, 1]) tm H (C9 Aq p fi91.results k)) (C9 Aq p fi91.results k))) m tm H
theorem Ab8 (p : Pr β) (n : Nat)  (k : KO β) (m0 : Nat) : ∀ (t : Nat → AV) (H : Ab), Ad9 p n  k m0 (tf 15 0 t) H = Rf p n  k m0 (t 5) (t 6) (t 7) H := by
 induction m0 with
 | zero => intros; rfl
 | succ m0 ih =>
  intro t H
  refine Eq.trans (B8 (nt := 15) (m := m0) (g := fun t H => Rf p n  k m0 (t 5) (t 6) (t 7) H) ih rfl) ?_
  kernel_rfl
theorem Af5 (p : Pr β) (n : Nat) (a0 : AV) (H : Ab) (k : KO β) : Cl Aq p n fi91 [a0] H k =
 p.len a0 fun t6 =>
 Ad9 p n  k n (tf 15 0 (ud [(0, a0), (2, bF), (5, a0), (6, t6), (7, i0)] ut)) H := by kernel_rfl
theorem AdA : H4 fi91 @f91 := fun p n a0 H k => by
 rw [Af5]
 simp only [Ab8]
 kernel_rfl
noncomputable def f49 (n : Nat) (a0 : AV) (H : Ab) (k : KO β) : Option β :=
 p.len a0 fun t4 =>
 p.bin .leq t4 (si 6) fun t5 =>
 p.kT t5 H a0 fun t7 H =>
 p.hT t5 H (p.call 4 (.fn 91 [] []) [t7] H) fun t8 H =>
 p.pick t5 t8 bF fun t9 =>
 k t9 H
theorem AcY : H4 AiW @f49 := fun p n a0 H k => by kernel_rfl
noncomputable def Q7 (p : Pr β) (n : Nat)  (k : KO β) : Nat → AV → AV → AV → KO β
 | 0, _, _, _, _, _ => none
 | m + 1, t1, t6, t7, t8, H => p.bin .lss t8 t7 fun t9 =>
   p.cond t9
   (p.iadr 6 t6 t8 fun t11 =>
   p.load true 6 t11 H fun t12 =>
   p.new [i0, sE, .nl, i0, bF, i0] H fun t4 H =>
   p.store 6 t4 t12 H fun H =>
   p.fadr 0 t4 fun t13 =>
   p.load false 1 t13 H fun t14 =>
   p.call 4 (.fn 44 [] []) [t14] H fun t15 H =>
   p.un .not t15 fun t16 =>
   p.gF t16 H (p.fadr 1 t1) fun t18 H =>
   p.gF t16 H (p.load false 1 t18 H) fun t19 H =>
   p.gF t16 H (p.fadr 0 t4) fun t20 H =>
   p.gF t16 H (p.load false 1 t20 H) fun t21 H =>
   p.hF t16 H (p.call 3 (.fn 45 [] []) [t19, t21] H) fun t22 H =>
   p.kF t16 H t8 fun t23 H =>
   p.gF t16 H (p.bin .neq t22 t23) fun t24 H =>
   p.pick t16 bT t24 fun t25 =>
   p.gF t25 H (p.fadr 1 t4) fun t27 H =>
   p.gF t25 H (p.load true 4 t27 H) fun t28 H =>
   p.hF t25 H (p.call 4 (.fn 46 [] []) [t28] H) fun t29 H =>
   p.gF t25 H (p.un .not t29) fun t30 H =>
   p.pick t25 bT t30 fun t31 =>
   p.cond t31
   (k bF H)
   (p.fadr 1 t4 fun t32 =>
   p.fadr 2 t32 fun t33 =>
   p.load false 1 t33 H fun t34 =>
   p.bin .eql t34 i0 fun t35 =>
   p.gF t35 H (p.fadr 1 t4) fun t37 H =>
   p.gF t35 H (p.fadr 2 t37) fun t38 H =>
   p.gF t35 H (p.load false 1 t38 H) fun t39 H =>
   p.gF t35 H (p.bin .eql t39 (si 1)) fun t40 H =>
   p.gF t35 H (p.fadr 5 t4) fun t41 H =>
   p.gF t35 H (p.load false 1 t41 H) fun t42 H =>
   p.gF t35 H (p.bin .eql t42 (si 1)) fun t43 H =>
   p.gF t35 H (p.binB .neq t40 t43) fun t44 H =>
   p.pick t35 bT t44 fun t45 =>
   p.gF t45 H (p.fadr 5 t4) fun t47 H =>
   p.gF t45 H (p.load false 1 t47 H) fun t48 H =>
   p.hF t45 H (p.call 4 (.fn 47 [] []) [t48, (si 1), (si 3)] H) fun t49 H =>
   p.gF t45 H (p.un .not t49) fun t50 H =>
   p.pick t45 bT t50 fun t51 =>
   p.cond t51
   (k bF H)
   (p.bin .add t8 (si 1) fun t52 =>
   Q7 p n  k m t1 t6 t7 t52 H)))
   (p.fadr 0 t1 fun t53 =>
   p.load false 1 t53 H fun t54 =>
   p.call 4 (.fn 48 [] []) [t54] H fun t55 H =>
   p.gT t55 H (p.fadr 1 t1) fun t57 H =>
   p.gT t55 H (p.load false 1 t57 H) fun t58 H =>
   p.gT t55 H (p.len t58) fun t59 H =>
   p.gT t55 H (p.bin .leq t59 (si 3)) fun t60 H =>
   p.pick t55 t60 bF fun t61 =>
   p.gT t61 H (p.fadr 2 t1) fun t63 H =>
   p.gT t61 H (p.load false 1 t63 H) fun t64 H =>
   p.hT t61 H (p.call 4 (.fn 49 [] []) [t64] H) fun t65 H =>
   p.pick t61 t65 bF fun t66 =>
   k t66 H)
noncomputable def f10 (n : Nat) (a0 : AV) (H : Ab) (k : KO β) : Option β :=
 p.box a0 H fun t1 H =>
 p.fadr 1 t1 fun t5 =>
 p.load false 1 t5 H fun t6 =>
 p.len t6 fun t7 =>
 Q7 p n  k n t1 t6 t7 i0 H
noncomputable def Acw (p : Pr β) (n : Nat)  (k : KO β) (m : Nat) (tm : Tm) (H : Ab) : Option β :=
 Dz 67 (fun tm H k => Al Aq p [] 67 n (cd c10 [1, 0, 1, 0, 0]) tm H k) (Ew 0 (Ei (fun tm H => Al Aq p [] 67 n (cd c10 [1, 1]) tm H (C9 Aq p fi10.results k)) (C9 Aq p fi10.results k))) m tm H
theorem Abc (p : Pr β) (n : Nat)  (k : KO β) (m0 : Nat) : ∀ (t : Nat → AV) (H : Ab), Acw p n  k m0 (tf 67 0 t) H = Q7 p n  k m0 (t 1) (t 6) (t 7) (t 8) H := by
 induction m0 with
 | zero => intros; rfl
 | succ m0 ih =>
  intro t H
  refine Eq.trans (B8 (nt := 67) (m := m0) (g := fun t H => Q7 p n  k m0 (t 1) (t 6) (t 7) (t 8) H) ih rfl) ?_
  kernel_rfl
theorem AeZ (p : Pr β) (n : Nat) (a0 : AV) (H : Ab) (k : KO β) : Cl Aq p n fi10 [a0] H k =
 p.box a0 H fun t1 H =>
 p.fadr 1 t1 fun t5 =>
 p.load false 1 t5 H fun t6 =>
 p.len t6 fun t7 =>
 Acw p n  k n (tf 67 0 (ud [(0, a0), (1, t1), (2, bF), (5, t5), (6, t6), (7, t7), (8, i0)] ut)) H := by kernel_rfl
theorem Acx : H4 fi10 @f10 := fun p n a0 H k => by
 rw [AeZ]
 simp only [Abc]
 kernel_rfl
noncomputable def Rc (p : Pr β) (n : Nat)  (k : KO β) : Nat → AV → AV → AV → KO β
 | 0, _, _, _, _, _ => none
 | m + 1, t0, t5, t6, t7, H => p.bin .lss t7 t6 fun t8 =>
   p.cond t8
   (p.iadr 1 t5 t7 fun t10 =>
   p.load false 1 t10 H fun t11 =>
   p.call 4 (.fn 44 [] []) [t11] H fun t13 H =>
   p.un .not t13 fun t14 =>
   p.kF t14 H t7 fun t16 H =>
   p.gF t14 H (p.bin .gtr t16 i0) fun t17 H =>
   p.kF t14 H t17 fun t18 H =>
   p.kT t18 H t0 fun t19 H =>
   p.kT t18 H t7 fun t20 H =>
   p.gT t18 H (p.bin .sub t20 (si 1)) fun t21 H =>
   p.gT t18 H (p.iadr 1 t19 t21) fun t22 H =>
   p.gT t18 H (p.load false 1 t22 H) fun t23 H =>
   p.kT t18 H t11 fun t24 H =>
   p.gT t18 H (p.bin .geq t23 t24) fun t25 H =>
   p.gF t14 H (p.pick t18 t25 bF) fun t26 H =>
   p.pick t14 bT t26 fun t27 =>
   p.cond t27
   (k bF H)
   (p.bin .add t7 (si 1) fun t28 =>
   Rc p n  k m t0 t5 t6 t28 H))
   (p.len t0 fun t30 =>
   p.bin .leq t30 (si 4) fun t31 =>
   k t31 H)
noncomputable def f78 (n : Nat) (a0 : AV) (H : Ab) (k : KO β) : Option β :=
 p.len a0 fun t6 =>
 Rc p n  k n a0 a0 t6 i0 H
noncomputable def Adt (p : Pr β) (n : Nat)  (k : KO β) (m : Nat) (tm : Tm) (H : Ab) : Option β :=
 Dz 32 (fun tm H k => Al Aq p [] 32 n (cd c78 [1, 0, 1, 0, 0]) tm H k) (Ew 0 (Ei (fun tm H => Al Aq p [] 32 n (cd c78 [1, 1]) tm H (C9 Aq p fi78.results k)) (C9 Aq p fi78.results k))) m tm H
theorem Ab3 (p : Pr β) (n : Nat)  (k : KO β) (m0 : Nat) : ∀ (t : Nat → AV) (H : Ab), Adt p n  k m0 (tf 32 0 t) H = Rc p n  k m0 (t 0) (t 5) (t 6) (t 7) H := by
 induction m0 with
 | zero => intros; rfl
 | succ m0 ih =>
  intro t H
  refine Eq.trans (B8 (nt := 32) (m := m0) (g := fun t H => Rc p n  k m0 (t 0) (t 5) (t 6) (t 7) H) ih rfl) ?_
  kernel_rfl
theorem Afz (p : Pr β) (n : Nat) (a0 : AV) (H : Ab) (k : KO β) : Cl Aq p n fi78 [a0] H k =
 p.len a0 fun t6 =>
 Adt p n  k n (tf 32 0 (ud [(0, a0), (2, bF), (5, a0), (6, t6), (7, i0)] ut)) H := by kernel_rfl
theorem Adu : H4 fi78 @f78 := fun p n a0 H k => by
 rw [Afz]
 simp only [Ab3]
 kernel_rfl
noncomputable def f24 (n : Nat) (a0 : AV) (H : Ab) (k : KO β) : Option β :=
 p.box a0 H fun t1 H =>
 p.fadr 0 t1 fun t3 =>
 p.load false 1 t3 H fun t4 =>
 p.call 4 (.fn 76 [] []) [t4] H fun t5 H =>
 p.gT t5 H (p.fadr 1 t1) fun t7 H =>
 p.gT t5 H (p.load false 1 t7 H) fun t8 H =>
 p.gT t5 H (p.bin .geq t8 i0) fun t9 H =>
 p.pick t5 t9 bF fun t10 =>
 p.gT t10 H (p.fadr 2 t1) fun t12 H =>
 p.gT t10 H (p.load false 1 t12 H) fun t13 H =>
 p.gT t10 H (p.fadr 3 t1) fun t14 H =>
 p.gT t10 H (p.load false 1 t14 H) fun t15 H =>
 p.gT t10 H (p.fadr 4 t1) fun t16 H =>
 p.gT t10 H (p.load false 1 t16 H) fun t17 H =>
 p.hT t10 H (p.call 4 (.fn 77 [] []) [t13, t15, t17] H) fun t18 H =>
 p.pick t10 t18 bF fun t19 =>
 p.gT t19 H (p.fadr 5 t1) fun t21 H =>
 p.gT t19 H (p.load true 3 t21 H) fun t22 H =>
 p.hT t19 H (p.call 4 (.fn 10 [] []) [t22] H) fun t23 H =>
 p.pick t19 t23 bF fun t24 =>
 p.gT t24 H (p.fadr 8 t1) fun t26 H =>
 p.gT t24 H (p.load false 1 t26 H) fun t27 H =>
 p.hT t24 H (p.call 4 (.fn 78 [] []) [t27] H) fun t28 H =>
 p.pick t24 t28 bF fun t29 =>
 k t29 H
theorem AcE : H4 AiG @f24 := fun p n a0 H k => by kernel_rfl
noncomputable def f28 (n : Nat) (a0 a1 a2 a3 : AV) (H : Ab) (k : KO β) : Option β :=
 p.box a0 H fun t4 H =>
 p.new [sE, i0, bF, i0, i0, i0, .nl, .nl, .nl] H fun t8 H =>
 p.load true 9 t4 H fun t10 =>
 p.ca 53 74 [t10] H fun t11 H =>
 p.new [sE, i0, bF, i0, i0, i0, .nl, .nl, .nl] H fun t9 H =>
 p.store 9 t9 t11 H fun H =>
 p.load true 9 t4 H fun t12 =>
 p.ca 4 24 [t12] H fun t13 H =>
 p.kT t13 H a1 fun t15 H =>
 p.kT t13 H a2 fun t16 H =>
 p.kT t13 H a3 fun t17 H =>
 p.hT t13 H (p.ca 4 77 [t15, t16, t17] H) fun t18 H =>
 p.pick t13 t18 bF fun t19 =>
 M2 (fun (t8 t9 : AV) (H : Ab) => p.load true 9 t9 H fun t26 =>
 p.store 9 t8 t26 H fun H =>
 p.load true 9 t8 H fun r0 =>
 k r0 H) fun j1 =>
 p.cond t19
 (p.fadr 2 t9 fun t23 =>
 p.store 1 t23 a1 H fun H =>
 p.fs 3 t9 1 a2 H fun H =>
 p.fs 4 t9 1 a3 H fun H =>
 j1 t8 t9 H)
 (j1 t8 t9 H)
theorem AcG : Bd4 AiI @f28 := fun p n a0 a1 a2 a3 H k => by kernel_rfl
noncomputable def f29 (n : Nat) (a0 : AV) (H : Ab) (k : KO β) : Option β :=
 p.box a0 H fun t1 H =>
 p.new [sE, i0, bF, i0, i0, i0, .nl, .nl, .nl] H fun t2 H =>
 p.load true 9 t1 H fun t4 =>
 p.ca 53 74 [t4] H fun t5 H =>
 p.new [sE, i0, bF, i0, i0, i0, .nl, .nl, .nl] H fun t3 H =>
 p.store 9 t3 t5 H fun H =>
 p.load true 9 t1 H fun t6 =>
 p.ca 4 24 [t6] H fun t7 H =>
 p.lT t7 H 2 t1 1 fun t10 H =>
 p.gT t7 H (p.un .not t10) fun t11 H =>
 p.pick t7 t11 bF fun t12 =>
 M2 (fun (t2 t3 : AV) (H : Ab) => p.load true 9 t3 H fun t15 =>
 p.store 9 t2 t15 H fun H =>
 p.load true 9 t2 H fun r0 =>
 k r0 H) fun j1 =>
 p.cond t12
 (p.fadr 3 t3 fun t13 =>
 p.store 1 t13 (si (-1)) H fun H =>
 p.fs 4 t3 1 i0 H fun H =>
 j1 t2 t3 H)
 (j1 t2 t3 H)
theorem AcH : H4 AiJ @f29 := fun p n a0 H k => by kernel_rfl
noncomputable def f81 (n : Nat) (a0 : AV) (H : Ab) (k : KO β) : Option β :=
 p.fill [sE, sE, sE, sE, sE, sE, sE, sE, sE, sE, sE, sE, sE, sE, sE, sE] [(0, 1, sE), (1, 1, (.sc (.string ⟨#[97]⟩))), (2, 1, (.sc (.string ⟨#[104, 101, 108, 108, 111]⟩))), (3, 1, (.sc (.string ⟨#[195, 169]⟩))), (4, 1, (.sc (.string ⟨#[226, 130, 172]⟩))), (5, 1, (.sc (.string ⟨#[240, 159, 152, 128]⟩))), (6, 1, (.sc (.string ⟨#[97, 47, 98]⟩))), (7, 1, (.sc (.string ⟨#[0]⟩))), (8, 1, (.sc (.string ⟨#[255]⟩))), (9, 1, (.sc (.string ⟨#[192, 128]⟩))), (10, 1, (.sc (.string ⟨#[237, 160, 128]⟩))), (11, 1, (.sc (.string ⟨#[226, 130]⟩))), (12, 1, (.sc (.string ⟨#[244, 144, 128, 128]⟩))), (13, 1, (.sc (.string ⟨#[49, 50, 51, 52, 53, 54, 55, 56, 57, 48, 49, 50, 51, 52, 53, 54, 55, 56, 57, 48, 49, 50, 51, 52, 53, 54, 55, 56, 57, 48, 49, 50, 51, 52, 53, 54, 55, 56, 57, 48, 49, 50, 51, 52, 53, 54, 55, 56, 57, 48, 49, 50, 51, 52, 53, 54, 55, 56, 57, 48]⟩))), (14, 1, (.sc (.string ⟨#[49, 50, 51, 52, 53, 54, 55, 56, 57, 48, 49, 50, 51, 52, 53, 54, 55, 56, 57, 48, 49, 50, 51, 52, 53, 54, 55, 56, 57, 48, 49, 50, 51, 52, 53, 54, 55, 56, 57, 48, 49, 50, 51, 52, 53, 54, 55, 56, 57, 48, 49, 50, 51, 52, 53, 54, 55, 56, 57, 48, 49]⟩))), (15, 1, (.sc (.string ⟨#[120, 223, 191, 121, 224, 160, 128]⟩)))] fun ct4 => p.newSl 16 1 ct4 true H fun t4 H =>
 p.call 9 (.fn 107 [] []) [a0, t4] H fun t5 H =>
 k t5 H
theorem Adw : H4 Ajo @f81 := fun p n a0 H k => by kernel_rfl
noncomputable def f30 (n : Nat) (a0 : AV) (H : Ab) (k : KO β) : Option β :=
 p.ca 71 40 [a0] H fun t11 H =>
 p.ca 9 80 [t11] H fun t13 H =>
 p.ca 4 60 [t11, (si 8)] H fun t15 H =>
 M2 (fun (t7 t8 : AV) (H : Ab) => p.fill [i0, i0, i0, i0, i0] [(0, 1, i0), (1, 1, (si 1)), (2, 1, (si 2)), (3, 1, (si 3)), (4, 1, (si (-1)))] fun ct19 => p.newSl 5 1 ct19 true H fun t19 H =>
 p.ca 3 61 [t7, t19] H fun t20 H =>
 p.ca 4 60 [t7, (si 2)] H fun t24 H =>
 p.fill [i0, i0, i0, i0, i0, i0, i0] [(0, 1, i0), (1, 1, (si 1)), (2, 1, (si 2)), (3, 1, (si 3)), (4, 1, (si 4)), (5, 1, (si (-1))), (6, 1, (si (-2)))] fun ct26 => p.newSl 7 1 ct26 true H fun t26 H =>
 p.ca 3 61 [t7, t26] H fun t27 H =>
 p.fill [i0, i0, i0, i0] [(0, 1, i0), (1, 1, (si 1)), (2, 1, (si 2)), (3, 1, (si (-1)))] fun ct29 => p.newSl 4 1 ct29 true H fun t29 H =>
 p.ca 3 61 [t7, t29] H fun t30 H =>
 k (Bu [t8, t20, t24, t27, t30]) H) fun j1 =>
 p.cond t15
 (p.ca 9 81 [t11] H fun t17 H =>
 j1 t11 t17 H)
 (j1 t11 t13 H)
theorem AcI : H4 AiK @f30 := fun p n a0 H k => by kernel_rfl
noncomputable def f31 (n : Nat) (a0 a1 a2 a3 a4 : AV) (H : Ab) (k : KO β) : Option β :=
 p.new [sE, i0, bF, i0, i0, i0, .nl, .nl, .nl] H fun t10 H =>
 p.fill [sE, i0, bF, i0, i0, i0, .nl, .nl, .nl] [(0, 1, a0), (1, 1, a1), (2, 1, a2), (3, 1, a3), (4, 1, a4)] fun ct17 =>
 p.new [sE, i0, bF, i0, i0, i0, .nl, .nl, .nl] H fun t11 H =>
 p.store 9 t11 (.agg ct17) H fun H =>
 p.load true 9 t11 H fun t18 =>
 p.call 4 (.fn 24 [] []) [t18] H fun t19 H =>
 p.un .not t19 fun t20 =>
 p.cond t20
 (p.fill [sE, i0, bF, i0, i0, i0, .nl, .nl, .nl] [] fun ct21 =>
 p.store 9 t10 (.agg ct21) H fun H =>
 p.load true 9 t10 H fun r0 =>
 k r0 H)
 (p.load true 9 t11 H fun t22 =>
 p.store 9 t10 t22 H fun H =>
 p.load true 9 t10 H fun r0 =>
 k r0 H)
theorem AcJ : Bd5 AiL @f31 := fun p n a0 a1 a2 a3 a4 H k => by kernel_rfl
noncomputable def Ni (p : Pr β) (n : Nat)  (k : KO β) : Nat → AV → AV → KO β
 | 0, _, _, _, _ => none
 | m + 1, t0, t1, t5, H => p.len t0 fun t13 =>
   p.bin .lss t5 t13 fun t14 =>
   p.cond t14
   (p.iadr 1 t0 t5 fun t19 =>
   p.load false 1 t19 H fun t20 =>
   p.iadr 1 t1 t5 fun t23 =>
   p.load false 1 t23 H fun t24 =>
   p.bin .neq t20 t24 fun t25 =>
   p.cond t25
   (k bF H)
   (p.bin .add t5 (si 1) fun t16 =>
   Ni p n  k m t0 t1 t16 H))
   (k bT H)
noncomputable def f34 (n : Nat) (a0 a1 : AV) (H : Ab) (k : KO β) : Option β :=
 p.len a0 fun t7 =>
 p.len a1 fun t9 =>
 p.bin .neq t7 t9 fun t10 =>
 p.cond t10
 (k bF H)
 (Ni p n  k n a0 a1 i0 H)
noncomputable def AcM (p : Pr β) (n : Nat)  (k : KO β) (m : Nat) (tm : Tm) (H : Ab) : Option β :=
 Dz 26 (fun tm H k => Al Aq p o34 26 n (cd c34 [1, 1, 0, 1, 0, 0]) tm H k) (Ew 0 (Ei (fun tm H => Al Aq p o34 26 n (cd c34 [1, 1, 1]) tm H (C9 Aq p fi34.results k)) (C9 Aq p fi34.results k))) m tm H
theorem Aby (p : Pr β) (n : Nat)  (k : KO β) (m0 : Nat) : ∀ (t : Nat → AV) (H : Ab), AcM p n  k m0 (tf 26 0 t) H = Ni p n  k m0 (t 0) (t 1) (t 5) H := by
 induction m0 with
 | zero => intros; rfl
 | succ m0 ih =>
  intro t H
  refine Eq.trans (B8 (nt := 26) (m := m0) (g := fun t H => Ni p n  k m0 (t 0) (t 1) (t 5) H) ih rfl) ?_
  kernel_rfl
theorem Aft (p : Pr β) (n : Nat) (a0 a1 : AV) (H : Ab) (k : KO β) : Cl Aq p n fi34 [a0, a1] H k =
 p.len a0 fun t7 =>
 p.len a1 fun t9 =>
 p.bin .neq t7 t9 fun t10 =>
 p.cond t10
 (k bF H)
 (AcM p n  k n (tf 26 0 (ud [(0, a0), (1, a1), (4, bF), (5, i0), (6, a0), (7, t7), (8, a1), (9, t9), (10, t10)] ut)) H) := by kernel_rfl
theorem AcN : Tf fi34 @f34 := fun p n a0 a1 H k => by
 rw [Aft]
 simp only [Aby]
 kernel_rfl
noncomputable def f35 (n : Nat) (a0 a1 a2 : AV) (H : Ab) (k : KO β) : Option β :=
 p.box a0 H fun t3 H =>
 p.fl 3 t3 1 H fun t8 =>
 p.bin .eql t8 a1 fun t10 =>
 p.lT t10 H 4 t3 1 fun t13 H =>
 p.kT t10 H a2 fun t14 H =>
 p.gT t10 H (p.bin .eql t13 t14) fun t15 H =>
 p.pick t10 t15 bF fun t16 =>
 k t16 H
theorem AcO : Bd3 AiO @f35 := fun p n a0 a1 a2 H k => by kernel_rfl
noncomputable def f5 (n : Nat) (a0 : AV) (H : Ab) (k : KO β) : Option β :=
 p.ca 4 7 [a0] H fun t16 H =>
 p.cond t16
 (k bT H)
 (p.ca 61 27 [a0] H fun t19 H =>
 p.extr t19 0 fun t20 =>
 p.extr t19 1 fun t21 =>
 p.extr t19 2 fun t22 =>
 p.extr t19 3 fun t23 =>
 p.new [sE, i0, bF, i0, i0, i0, .nl, .nl, .nl] H fun t3 H =>
 p.store 9 t3 t20 H fun H =>
 p.load true 9 t3 H fun t24 =>
 p.ca 53 28 [t24, t21, t22, t23] H fun t28 H =>
 p.new [sE, i0, bF, i0, i0, i0, .nl, .nl, .nl] H fun t7 H =>
 p.store 9 t7 t28 H fun H =>
 p.load true 9 t7 H fun t29 =>
 p.ca 53 29 [t29] H fun t30 H =>
 p.new [sE, i0, bF, i0, i0, i0, .nl, .nl, .nl] H fun t8 H =>
 p.store 9 t8 t30 H fun H =>
 p.ca 65 30 [a0] H fun t33 H =>
 p.extr t33 0 fun t34 =>
 p.extr t33 1 fun t35 =>
 p.extr t33 2 fun t36 =>
 p.extr t33 3 fun t37 =>
 p.extr t33 4 fun t38 =>
 p.ca 53 31 [t34, t35, t36, t37, t38] H fun t44 H =>
 p.new [sE, i0, bF, i0, i0, i0, .nl, .nl, .nl] H fun t14 H =>
 p.store 9 t14 t44 H fun H =>
 p.load true 9 t3 H fun t45 =>
 p.load true 9 t3 H fun t47 =>
 p.ca 4 24 [t45] H fun t46 H =>
 p.ca 4 32 [t47] H fun t48 H =>
 p.binB .neq t46 t48 fun t49 =>
 p.gF t49 H (p.load true 9 t14 H) fun t51 H =>
 p.kF t49 H t34 fun t53 H =>
 p.kF t49 H t35 fun t54 H =>
 p.kF t49 H t36 fun t55 H =>
 p.kF t49 H t37 fun t56 H =>
 p.kF t49 H t38 fun t57 H =>
 p.hF t49 H (p.ca 4 24 [t51] H) fun t52 H =>
 p.hF t49 H (p.ca 53 33 [t53, t54, t55, t56, t57] H) fun t58 H =>
 p.hF t49 H (p.ca 4 32 [t58] H) fun t59 H =>
 p.gF t49 H (p.binB .neq t52 t59) fun t60 H =>
 p.pick t49 bT t60 fun t61 =>
 p.cond t61
 (k bF H)
 (p.load true 9 t3 H fun t62 =>
 p.ca 4 24 [t62] H fun t63 H =>
 p.un .not t63 fun t64 =>
 p.cond t64
 (p.fadr 3 t7 fun t65 =>
 p.load false 1 t65 H fun t66 =>
 p.fl 3 t3 1 H fun t68 =>
 p.bin .eql t66 t68 fun t69 =>
 p.lT t69 H 4 t7 1 fun t72 H =>
 p.lT t69 H 4 t3 1 fun t74 H =>
 p.gT t69 H (p.bin .eql t72 t74) fun t75 H =>
 p.pick t69 t75 bF fun t76 =>
 k t76 H)
 (p.load true 9 t7 H fun t77 =>
 p.ca 4 24 [t77] H fun t78 H =>
 p.un .not t78 fun t79 =>
 p.gF t79 H (p.load true 9 t8 H) fun t81 H =>
 p.hF t79 H (p.ca 4 24 [t81] H) fun t82 H =>
 p.gF t79 H (p.un .not t82) fun t83 H =>
 p.pick t79 bT t83 fun t84 =>
 p.lF t84 H 1 t8 1 fun t87 H =>
 p.lF t84 H 1 t3 1 fun t89 H =>
 p.gF t84 H (p.bin .neq t87 t89) fun t90 H =>
 p.pick t84 bT t90 fun t91 =>
 p.gF t91 H (p.fadr 5 t8) fun t93 H =>
 p.lF t91 H 2 t93 1 fun t95 H =>
 p.gF t91 H (p.len t95) fun t96 H =>
 p.gF t91 H (p.fadr 5 t3) fun t97 H =>
 p.lF t91 H 2 t97 1 fun t99 H =>
 p.gF t91 H (p.len t99) fun t100 H =>
 p.gF t91 H (p.bin .neq t96 t100) fun t101 H =>
 p.pick t91 bT t101 fun t102 =>
 p.gF t102 H (p.fadr 5 t8) fun t104 H =>
 p.lF t102 H 1 t104 1 fun t106 H =>
 p.gF t102 H (p.len t106) fun t107 H =>
 p.gF t102 H (p.fadr 5 t3) fun t108 H =>
 p.lF t102 H 1 t108 1 fun t110 H =>
 p.gF t102 H (p.len t110) fun t111 H =>
 p.gF t102 H (p.bin .neq t107 t111) fun t112 H =>
 p.pick t102 bT t112 fun t113 =>
 p.lF t113 H 8 t8 1 fun t116 H =>
 p.lF t113 H 8 t3 1 fun t118 H =>
 p.hF t113 H (p.ca 4 34 [t116, t118] H) fun t119 H =>
 p.gF t113 H (p.un .not t119) fun t120 H =>
 p.pick t113 bT t120 fun t121 =>
 p.cond t121
 (k bF H)
 (p.bin .geq t22 i0 fun t123 =>
 p.kT t123 H t22 fun t125 H =>
 p.gT t123 H (p.bin .leq t125 (si 3)) fun t126 H =>
 p.pick t123 t126 bF fun t127 =>
 p.kT t127 H t23 fun t129 H =>
 p.gT t127 H (p.bin .geq t129 i0) fun t130 H =>
 p.pick t127 t130 bF fun t131 =>
 p.gT t131 H (p.load true 9 t7 H) fun t133 H =>
 p.kT t131 H t22 fun t134 H =>
 p.kT t131 H t23 fun t135 H =>
 p.hT t131 H (p.ca 4 35 [t133, t134, t135] H) fun t136 H =>
 p.gT t131 H (p.un .not t136) fun t137 H =>
 p.kT t131 H t137 fun t138 H =>
 p.lF t138 H 2 t7 1 fun t140 H =>
 p.kF t138 H t21 fun t141 H =>
 p.gF t138 H (p.binB .neq t140 t141) fun t142 H =>
 p.gT t131 H (p.pick t138 bT t142) fun t143 H =>
 p.pick t131 t143 bF fun t144 =>
 p.cond t144
 (k bF H)
 (p.fadr 2 t7 fun t145 =>
 p.load false 1 t145 H fun t146 =>
 p.lT t146 H 3 t8 1 fun t149 H =>
 p.lT t146 H 3 t7 1 fun t151 H =>
 p.gT t146 H (p.bin .eql t149 t151) fun t152 H =>
 p.pick t146 t152 bF fun t153 =>
 p.lF t153 H 2 t7 1 fun t156 H =>
 p.gF t153 H (p.un .not t156) fun t157 H =>
 p.kF t153 H t157 fun t158 H =>
 p.lT t158 H 3 t8 1 fun t160 H =>
 p.gT t158 H (p.bin .eql t160 (si (-1))) fun t161 H =>
 p.gF t153 H (p.pick t158 t161 bF) fun t162 H =>
 p.pick t153 bT t162 fun t163 =>
 k t163 H)))))
theorem Afw : H4 fi5 @f5 := fun p n a0 H k => by kernel_rfl
noncomputable def fss : List (Option En) := [none, none, none, none, none, some fi5, none, some fi7, none, none, some fi10, some fi11, none, none, none, none, some fi16, none, none, some AiF, none, none, none, none, some AiG, none, none, some AiH, some AiI, some AiJ, some AiK, some AiL, some AiM, some AiN, some fi34, some AiO, none, none, none, some AiP, some fi40, some AiQ, none, none, some AiR, some AiS, some AiT, some AiU, some AiV, some AiW, some AiX, some AiY, some AiZ, some fi53, none, none, some Aja, some Ajb, none, some Ajc, some Ajd, some Aje, some fi62, none, some fi64, some Ajf, some Ajg, none, some Ajh, none, none, none, none, some Aji, some Ajj, some Ajk, some Ajl, some Ajm, some fi78, none, some Ajn, some Ajo, some Ajp, some fi83, none, none, some fi86, some Ajq, some fi88, some fi89, some Ajr, some fi91, some Ajs, none, none, some Ajt, none, some Aju, some fi98, some Ajv, some fi100, some Ag3, some fi102, some Ag4, some Ag5, some fi105, some Ag6, some Ag7, some Ag8, some Ag9, none, some fi111, some fi112, some fi113, some fi114, some fi115, none, none, none, none, some fi120, some AgA, some AiE, some AgB, some AgC, some AgD, some fi126, none, some fi128, some AgE, some AgF, some fi131, none, none, none, none, none, none, some AgG, some fi139]
noncomputable def tps : List (Nat × List Nat) := [(43, [27, 3, 3]), (45, [27, 41, 4]), (47, [27, 33]), (49, [27, 3]), (54, [53, 3, 33]), (56, [53, 3]), (61, [53, 4, 3, 3]), (65, [9, 3, 4, 3, 3]), (90, [25, 3]), (100, [25, 33, 4]), (102, [3, 4]), (129, [3, 3, 4]), (139, [138, 4]), (150, [21, 3]), (153, [152, 152])]
noncomputable def E0 : Ls := { ti := Aq, tp := fun t => Aa1 tps t, fs := fun f => (fss[f]?).getD none, ext := fun f => if zb4 f 93 then some Z8 else if zb4 f 94 then some Wc else if zb4 f 118 then some Pb else none, hm := fun f => [8, 14, 17, 21, 27, 30, 36, 40, 41, 54, 59, 60, 61, 66, 73, 80, 81, 86, 87, 97, 103, 104, 105, 106, 107, 108, 112, 121, 123, 124, 126, 136, 164, 165, 166, 167, 168].contains f }
noncomputable def PR (n : Nat) (β : Type) : Pr β := Dx E0 (Dd E0 n) β
abbrev H5 (j : Nat) (f : (β : Type) → Pr β → Nat → AV → Ab → KO β → Option β) : Prop := ∀ {β : Type} (n : Nat) (a0 : AV) (H : Ab) (k : KO β), Dd E0 (n + 1) β j [a0] H k = f β (PR n β) n a0 H k
abbrev Tg (j : Nat) (f : (β : Type) → Pr β → Nat → AV → AV → Ab → KO β → Option β) : Prop := ∀ {β : Type} (n : Nat) (a0 a1 : AV) (H : Ab) (k : KO β), Dd E0 (n + 1) β j [a0, a1] H k = f β (PR n β) n a0 a1 H k
abbrev Ce3 (j : Nat) (f : (β : Type) → Pr β → Nat → AV → AV → AV → Ab → KO β → Option β) : Prop := ∀ {β : Type} (n : Nat) (a0 a1 a2 : AV) (H : Ab) (k : KO β), Dd E0 (n + 1) β j [a0, a1, a2] H k = f β (PR n β) n a0 a1 a2 H k
abbrev Ce4 (j : Nat) (f : (β : Type) → Pr β → Nat → AV → AV → AV → AV → Ab → KO β → Option β) : Prop := ∀ {β : Type} (n : Nat) (a0 a1 a2 a3 : AV) (H : Ab) (k : KO β), Dd E0 (n + 1) β j [a0, a1, a2, a3] H k = f β (PR n β) n a0 a1 a2 a3 H k
abbrev Ce5 (j : Nat) (f : (β : Type) → Pr β → Nat → AV → AV → AV → AV → AV → Ab → KO β → Option β) : Prop := ∀ {β : Type} (n : Nat) (a0 a1 a2 a3 a4 : AV) (H : Ab) (k : KO β), Dd E0 (n + 1) β j [a0, a1, a2, a3, a4] H k = f β (PR n β) n a0 a1 a2 a3 a4 H k
theorem AiD : H5 7 @f7 := fun n => Af0 (PR n _) n
theorem Ah2 : H5 40 @f40 := fun n => AcR (PR n _) n
theorem AdE : H5 97 @f97 := fun n => AdD (PR n _) n
theorem Ys : Tg 59 @f59 := fun n => Adg (PR n _) n
theorem AeW : Tg 107 @f107 := fun n => AaZ (PR n _) n
theorem AhT : H5 80 @f80 := fun n => Adv (PR n _) n
theorem AhG : Tg 60 @f60 := fun n => Adh (PR n _) n
theorem AhA : Ce3 50 @f50 := fun n => AcZ (PR n _) n
theorem Afm : Tg 128 @f128 := fun n => Abq (PR n _) n
theorem Afa : H5 111 @f111 := fun n => Abd (PR n _) n
theorem AhV : H5 82 @f82 := fun n => Adx (PR n _) n
theorem Afd : Tg 114 @f114 := fun n => Abg (PR n _) n
theorem Afe : H5 115 @f115 := fun n => Abh (PR n _) n
theorem Aid : H5 92 @f92 := fun n => AdB (PR n _) n
theorem AhB : H5 51 @f51 := fun n => Ada (PR n _) n
theorem AhC : H5 52 @f52 := fun n => Adb (PR n _) n
theorem AhD : H5 53 @f53 := fun n => Add (PR n _) n
theorem Aho : H5 11 @f11 := fun n => Ac5 (PR n _) n
theorem AhW : H5 83 @f83 := fun n => Adz (PR n _) n
theorem Ahx : H5 32 @f32 := fun n => AcK (PR n _) n
theorem Ahy : Ce5 33 @f33 := fun n => AcL (PR n _) n
theorem AeQ : H5 101 @f101 := fun n => AaT (PR n _) n
theorem AeP : H5 100 @f100 := fun n => AaS (PR n _) n
theorem AhJ : H5 64 @f64 := fun n => Adk (PR n _) n
theorem AhP : H5 75 @f75 := fun n => Adq (PR n _) n
theorem Afk : H5 125 @f125 := fun n => Abo (PR n _) n
theorem AhH : Tg 61 @f61 := fun n => Adi (PR n _) n
theorem Afi : H5 123 @f123 := fun n => Abm (PR n _) n
theorem AeU : Tg 105 @f105 := fun n => AaX (PR n _) n
theorem AeS : H5 103 @f103 := fun n => AaV (PR n _) n
theorem Afb : Tg 112 @f112 := fun n => Abe (PR n _) n
theorem Ah1 : H5 39 @f39 := fun n => AcP (PR n _) n
theorem Afn : H5 129 @f129 := fun n => Abr (PR n _) n
theorem Afo : Ce3 130 @f130 := fun n => Abt (PR n _) n
theorem Afr : Tg 139 @f139 := fun n => Abw (PR n _) n
theorem Afp : Tg 131 @f131 := fun n => Abu (PR n _) n
theorem Afc : H5 113 @f113 := fun n => Abf (PR n _) n
theorem Afh : H5 121 @f121 := fun n => Abl (PR n _) n
theorem Afq : Tg 138 @f138 := fun n => Abv (PR n _) n
theorem Afg : Tg 120 @f120 := fun n => Abk (PR n _) n
theorem AeR : H5 102 @f102 := fun n => AaU (PR n _) n
theorem AhK : Tg 65 @f65 := fun n => Adl (PR n _) n
theorem Ahp : Ce3 16 @f16 := fun n => AcC (PR n _) n
theorem AhM : Tg 68 @f68 := fun n => Adn (PR n _) n
theorem Ahq : Tg 19 @f19 := fun n => AcD (PR n _) n
theorem AhX : H5 86 @f86 := fun n => Ad2 (PR n _) n
theorem Afl : H5 126 @f126 := fun n => Abp (PR n _) n
theorem AeV : Tg 106 @f106 := fun n => AaY (PR n _) n
theorem Afj : H5 124 @f124 := fun n => Abn (PR n _) n
theorem AeT : H5 104 @f104 := fun n => AaW (PR n _) n
theorem AhL : H5 66 @f66 := fun n => Adm (PR n _) n
theorem AhY : H5 87 @f87 := fun n => Ad3 (PR n _) n
theorem Ah3 : H5 41 @f41 := fun n => AcS (PR n _) n
theorem AeX : H5 108 @f108 := fun n => Aba (PR n _) n
theorem AhN : H5 73 @f73 := fun n => Ado (PR n _) n
theorem Ahs : H5 27 @f27 := fun n => AcF (PR n _) n
theorem AhZ : H5 88 @f88 := fun n => Ad5 (PR n _) n
theorem Aig : H5 99 @f99 := fun n => AdH (PR n _) n
theorem Aif : H5 98 @f98 := fun n => AdG (PR n _) n
theorem AhI : H5 62 @f62 := fun n => Adj (PR n _) n
theorem AeY : H5 109 @f109 := fun n => Abb (PR n _) n
theorem AhO : H5 74 @f74 := fun n => Adp (PR n _) n
theorem AhQ : H5 76 @f76 := fun n => Adr (PR n _) n
theorem Ah7 : Ce3 47 @f47 := fun n => AcW (PR n _) n
theorem AhR : Ce3 77 @f77 := fun n => Ads (PR n _) n
theorem Ah4 : H5 44 @f44 := fun n => AcT (PR n _) n
theorem Aib : Tg 90 @f90 := fun n => Ad8 (PR n _) n
theorem Aia : Tg 89 @f89 := fun n => Ad7 (PR n _) n
theorem Ah5 : Tg 45 @f45 := fun n => AcU (PR n _) n
theorem Aie : H5 95 @f95 := fun n => AdC (PR n _) n
theorem AhF : H5 57 @f57 := fun n => Adf (PR n _) n
theorem AhE : H5 56 @f56 := fun n => Ade (PR n _) n
theorem Ah6 : H5 46 @f46 := fun n => AcV (PR n _) n
theorem Ah8 : H5 48 @f48 := fun n => AcX (PR n _) n
theorem Aic : H5 91 @f91 := fun n => AdA (PR n _) n
theorem Ah9 : H5 49 @f49 := fun n => AcY (PR n _) n
theorem Ahn : H5 10 @f10 := fun n => Acx (PR n _) n
theorem AhS : H5 78 @f78 := fun n => Adu (PR n _) n
theorem Ahr : H5 24 @f24 := fun n => AcE (PR n _) n
theorem Aht : Ce4 28 @f28 := fun n => AcG (PR n _) n
theorem Ahu : H5 29 @f29 := fun n => AcH (PR n _) n
theorem AhU : H5 81 @f81 := fun n => Adw (PR n _) n
theorem Ahv : H5 30 @f30 := fun n => AcI (PR n _) n
theorem Ahw : Ce5 31 @f31 := fun n => AcJ (PR n _) n
theorem Ahz : Tg 34 @f34 := fun n => AcN (PR n _) n
theorem Ah0 : Ce3 35 @f35 := fun n => AcO (PR n _) n
theorem AiC : H5 5 @f5 := fun n => Afw (PR n _) n
end
section
open Go Go.Shelf Go.RowKit Go.Lib Go.Proofs
variable {P : Program} {ρ : Ren}
def ItAt (w w' : World) (s : ByteArray) (pos : Nat) : Prop := Below w.heap.size w w' ∧ w'.heap[w.heap.size]? = some (.stringIter s pos)
def Qg (w' : World) (a : Nat) (s : ByteArray) (pos : Nat) : World := { w' with heap := w'.heap.setIfInBounds a (.stringIter s pos) }
theorem Y6 (w : World) (s : ByteArray) (pos : Nat) : ItAt w (w.iter s pos) s pos := ⟨(Below.refl _ w).alloc (zai _) _, World.iter_heap w s pos⟩
theorem ItAt.lt {w w' : World} {s : ByteArray} {pos : Nat} (h : ItAt w w' s pos) : w.heap.size < w'.heap.size := by
 have := h.2
 simp only [zaE] at this
 exact this.1
theorem ItAt.set {w w' : World} {s : ByteArray} {pos : Nat} (h : ItAt w w' s pos) (pos' : Nat) : ItAt w (Qg w' w.heap.size s pos') s pos' := by
 refine ⟨h.1.trans ⟨rfl, rfl, rfl, by simp [Qg], fun k hk => ?_⟩, ?_⟩
 ·simp only [Qg]
  rw [zbz (by omega)]
 ·simp only [Qg]
  rw [Array.getElem?_setIfInBounds_self_of_lt h.lt]
theorem ItAt.below {w w1 w2 : World} {s : ByteArray} {pos : Nat} (h : ItAt w w1 s pos) (hb : Below w1.heap.size w1 w2) : ItAt w w2 s pos :=
 ⟨h.1.trans (hb.mono h.1.size), by rw [hb.block _ h.lt]; exact h.2⟩
theorem AfY {w w' : World} {s : ByteArray} {pos : Nat} (h : ItAt w w' s pos) (hp : pos < s.size) (ty : TypeId) :
  (Instr.next (.pointer (some ⟨w.heap.size, 0, none⟩)) true ty).run P w' = .ok (.tuple #[.bool true, .int .i64 pos, .int .i32 (Utf8.decode s pos).1]) (Qg w' w.heap.size s (pos + (Utf8.decode s pos).2)) := by
 simp only [Instr.next, getObj, setObj, Sem.run_bind, Sem.run, h.2, Result.andThen, hp, if_true]
 simp [goInt, Qg]
theorem Aei {w w' : World} {s : ByteArray} {pos : Nat} (h : ItAt w w' s pos) (hp : ¬ pos < s.size) (ty : TypeId) :
  (Instr.next (.pointer (some ⟨w.heap.size, 0, none⟩)) true ty).run P w' = .ok (.tuple #[.bool false]) w' := by
 simp [Instr.next, getObj, Sem.run, h.2, hp]
theorem Agl (s : ByteArray) (pos : Nat) : (Utf8.decode s pos).1 < 55296 ∨ (57343 < (Utf8.decode s pos).1 ∧ (Utf8.decode s pos).1 ≤ 1114111) := by
 rw [← Lib.decodeL_drop, Lib.decodeL_N]
 exact Lib.decodeN_valid _ _ _ _ _ (UInt8.toNat_lt _)
theorem Agg : phB.size = 2 := rfl
set_option maxHeartbeats 8000000 in
set_option maxRecDepth 1000000 in
theorem Aew (L : Lays.n152 P ρ) (r : Nat) (rs : ByteArray) (w : World) (h1 : 128 ≤ r) (hv : r < 55296 ∨ (57343 < r ∧ r ≤ 1114111)) (he : ¬ r = 65533) (hcv : ∀ w, (convert (ρ.t 21) (ρ.t 9) (.int .i32 r)).run P w = .ok (.string rs) w)
  (hs2 : 2 ≤ rs.size) (hs4 : rs.size ≤ 4) (hsl : rs.size = 2 → ∀ h : 1 < rs.size, 128 ≤ (rs[1]'h).toNat) :
  Calls P (ρ.f 152) #[.string phB, .int .i32 r] w fun e w' => e = .returned (.int .i64 (-1)) ∧ Below w.heap.size w w' := by
 have cV : ∀ w, Calls P (ρ.f 119) #[.int .i32 r] w _ := fun w => Any.utf8_ValidRune { L with } r w
 have cI : ∀ s c w, Calls P (ρ.f 137) #[.string s, .int .u8 c] w _ := fun s c w => Any.strings_IndexByte { L with } s c w
 have mixed := L.mixed
 have t3 := L.t3; have a3 := L.a3; have z3 := L.z3; have v3 := L.v3
 have t4 := L.t4; have a4 := L.a4; have z4 := L.z4; have v4 := L.v4
 have t5 := L.t5; have a5 := L.a5; have z5 := L.z5; have v5 := L.v5
 have t9 := L.t9; have a9 := L.a9; have z9 := L.z9; have v9 := L.v9
 have t21 := L.t21; have a21 := L.a21; have z21 := L.z21; have v21 := L.v21
 have e137 : ∀ args w, (callFunc (ρ.f 137) args).run P w = .ok (.enter (ρ.f 137) args) w := enters_of L.f137 (by kernel_rfl) rfl
 have e119 : ∀ args w, (callFunc (ρ.f 119) args).run P w = .ok (.enter (ρ.f 119) args) w := enters_of L.f119 (by kernel_rfl) rfl
 have hge : decide ((0 : Int) ≤ (r : Int)) = true := by simp
 have hlt : decide ((r : Int) < 128) = false := by simp; omega
 have bel : ∀ pos, Below w.heap.size w (w.iter phB pos) := fun pos => (Below.refl _ w).alloc (zai _) _
 have hne : ((r : Int) == 65533) = false := by simp; omega
 have hvr : Lib.validRune (r : Int) = true := by simp [Lib.validRune]; omega
 go_enter L.f152, Body.n152_ntmps ρ
 go_wp2_with (first
  | (go_at_fn (ρ.f 119); refine (cV _).mono ?_; rintro e w' ⟨rfl, hw⟩; rw [hw, hvr])
  | (go_at_fn (ρ.f 137); refine (cI _ _ _).mono ?_; rintro e w' ⟨rfl, hw⟩; rw [hw]))
 go_step3
 go_wp2
 go_loopg [9, 10] 1 (fun g i fl wx => g = 1 ∧ i = .int .i64 ((rs.size : Int) - 1) ∧ fl = .int .i64 0 ∧ wx = w)
 case atStart => exact ⟨rfl, rfl, rfl, rfl⟩
 case round =>
  obtain ⟨-, rfl, rfl, rfl⟩ := hrel
  by_cases h3 : 3 ≤ rs.size
  ·have hlt : decide ((rs.size : Int) - 1 < (phB.size : Int)) = false := by rw [Agg]; simp; omega
   go_wp2
   try rw [Exit.noGoto_ret]
   go_ret
   exact ⟨rfl, Below.refl _ _⟩
  ·have h2 : rs.size = 2 := by omega
   have hi1 : ((rs.size : Int) - 1) = 1 := by omega
   have hi : 1 < rs.size := by omega
   have hp : 1 < phB.size := by decide
   obtain ⟨x, hx⟩ : ∃ x : UInt8, rs[1]'hi = x := ⟨_, rfl⟩
   have hx128 : 128 ≤ x.toNat := by
    rw [← hx]
    exact hsl h2 hi
   have hp1 : phB[1]'hp = 35 := rfl
   have hlt : decide ((1 : Int) < (phB.size : Int)) = true := rfl
   have hne35 : (((35 : UInt8).toNat : Int) != (x.toNat : Int)) = true := by simp; omega
   have hib : Lib.indexByte (List.take (phB.size - 2) (List.drop 2 phB.data.toList)) x = -1 := rfl
   rw [hi1]
   clear hsl hs2 hs4
   go_wp2
   go_step3
   go_wp2
   go_region_o
   all_goals
    go_wp2
    go_region_with_o (go_at_fn (ρ.f 137); refine (cI _ _ _).mono ?_; rintro e w' ⟨rfl, hw⟩; rw [hw])
   all_goals
    go_wp2
    simp only [Exit.inBlock, Exit.then, Exit.noGoto]
    go_ret
    exact ⟨rfl, (Below.refl _ _).drew.drew⟩
set_option maxHeartbeats 8000000 in
set_option maxRecDepth 1000000 in
theorem Agm (L : Lays.n152 P ρ) (r : Nat) (w : World) (h1 : 128 ≤ r) (hv : r < 55296 ∨ (57343 < r ∧ r ≤ 1114111)) :
  Calls P (ρ.f 152) #[.string phB, .int .i32 r] w fun e w' => e = .returned (.int .i64 (-1)) ∧ Below w.heap.size w w' := by
 have cV : ∀ w, Calls P (ρ.f 119) #[.int .i32 r] w _ := fun w => Any.utf8_ValidRune { L with } r w
 have cI : ∀ s c w, Calls P (ρ.f 137) #[.string s, .int .u8 c] w _ := fun s c w => Any.strings_IndexByte { L with } s c w
 have t3 := L.t3; have a3 := L.a3; have z3 := L.z3; have v3 := L.v3
 have t4 := L.t4; have a4 := L.a4; have z4 := L.z4; have v4 := L.v4
 have t5 := L.t5; have a5 := L.a5; have z5 := L.z5; have v5 := L.v5
 have t9 := L.t9; have a9 := L.a9; have z9 := L.z9; have v9 := L.v9
 have t21 := L.t21; have a21 := L.a21; have z21 := L.z21; have v21 := L.v21
 have e137 : ∀ args w, (callFunc (ρ.f 137) args).run P w = .ok (.enter (ρ.f 137) args) w := enters_of L.f137 (by kernel_rfl) rfl
 have e119 : ∀ args w, (callFunc (ρ.f 119) args).run P w = .ok (.enter (ρ.f 119) args) w := enters_of L.f119 (by kernel_rfl) rfl
 have hge : decide ((0 : Int) ≤ (r : Int)) = true := by simp
 have hlt : decide ((r : Int) < 128) = false := by simp; omega
 have bel : ∀ pos, Below w.heap.size w (w.iter phB pos) := fun pos => (Below.refl _ w).alloc (zai _) _
 by_cases he : r = 65533
 ·subst he
  go_enter L.f152, Body.n152_ntmps ρ
  go_wp2
  go_loopg [5, 6] 2 (fun g _ _ wx => ∃ i : Nat, i + g = 2 ∧ wx = w.iter phB i)
  case atStart => exact ⟨0, by omega, rfl⟩
  case round =>
   obtain ⟨i, hig, rfl⟩ := hrel
   cases gk with
   | zero =>
    obtain rfl : i = 2 := by omega
    have hnx := fun ty => run_next_end (P := P) w phB 2 ty (by decide)
    go_wp2
    go_ret
    exact ⟨rfl, bel _⟩
   | succ g =>
    have hi : i < phB.size := by
     show i < 2
     omega
    have hx : (phB[i]'hi).toNat < 64 := by
     have : ∀ q : Fin 2, (phB[q.val]'q.isLt).toNat < 64 := by decide
     exact this ⟨i, hi⟩
    have hnx := fun ty => run_next_ascii (P := P) w phB i ty hi (by omega)
    generalize (phB[i]'hi).toNat = x at hnx hx
    have hxe : ((x : Int) == 65533) = false := by simp; omega
    go_wp2
    go_roundg g
    case measure => omega
    case rel => exact ⟨i + 1, by omega, rfl⟩
 ·obtain ⟨hs2, hs4, hsl⟩ := encode_facts (r : Int) (by simp [Utf8.valid]; omega) (by omega)
  refine Aew L r (Utf8.encode r) w h1 hv he (fun w => run_convert_int_string w _ _ _ _ (by rw [t21]; rfl) t9) hs2 hs4 ?_
  intro h2 hi
  have := hsl (by omega)
  simp only [h2] at this
  exact this
theorem Ahl (l : List UInt8) (h : 128 ≤ (l.getD 0 0).toNat) : 128 ≤ (Lib.decodeL l).1 ∧ ∀ j, j < (Lib.decodeL l).2 → 128 ≤ (l.getD j 0).toNat := by
 rw [Lib.decodeL_N]
 generalize hn : l.length = n
 generalize h0 : (l.getD 0 0).toNat = b0 at h ⊢
 generalize h1 : (l.getD 1 0).toNat = b1
 generalize h2 : (l.getD 2 0).toNat = b2
 generalize h3 : (l.getD 3 0).toNat = b3
 have key : ∀ q, q ≤ 4 → (q = 2 → 128 ≤ b1) → (q = 3 → 128 ≤ b1 ∧ 128 ≤ b2) → (q = 4 → 128 ≤ b1 ∧ 128 ≤ b2 ∧ 128 ≤ b3) → ∀ j, j < q → 128 ≤ (l.getD j 0).toNat := by
  intro q hq k2 k3 k4 j hj
  have : j = 0 ∨ j = 1 ∨ j = 2 ∨ j = 3 := by omega
  rcases this with rfl | rfl | rfl | rfl
  ·rw [h0]; exact h
  ·rw [h1]; omega
  ·rw [h2]; omega
  ·rw [h3]; omega
 unfold Lib.decodeN
 rw [if_neg (by omega)]
 repeat' split
 all_goals
  refine ⟨?_, key _ ?_ ?_ ?_ ?_⟩ <;> simp only <;> omega
def phL (l : List UInt8) : Bool := l.any fun c => c == 43 || c == 35
theorem W9 : ∀ (k : Nat) (l : List UInt8), (∀ j, j < k → 128 ≤ (l.getD j 0).toNat) → phL l = phL (l.drop k)
 | 0, l, _ => rfl
 | k + 1, [], _ => by simp
 | k + 1, b :: l, h => by
  have h0 : 128 ≤ b.toNat := h 0 (by omega)
  have ih := W9 k l fun j hj => h (j + 1) (by omega)
  have e1 : (b == 43) = false := by
   rw [beq_eq_false_iff_ne]
   rintro rfl
   simp at h0
  have e2 : (b == 35) = false := by
   rw [beq_eq_false_iff_ne]
   rintro rfl
   simp at h0
  show (List.any (b :: l) _) = _
  rw [zbt, e1, e2, Bool.or_self, zbp, List.drop_succ_cons]
  exact ih
theorem Aet (l : List UInt8) (hne : l ≠ []) : phL l = (((Lib.decodeL l).1 == 43 || (Lib.decodeL l).1 == 35) || phL (l.drop (Lib.decodeL l).2)) := by
 cases l with
 | nil => exact absurd rfl hne
 | cons b l =>
  by_cases hb : 128 ≤ b.toNat
  ·obtain ⟨h1, h2⟩ := Ahl (b :: l) hb
   have e1 : ((Lib.decodeL (b :: l)).1 == 43) = false := by simp; omega
   have e2 : ((Lib.decodeL (b :: l)).1 == 35) = false := by simp; omega
   rw [e1, e2, Bool.or_self, zbp]
   exact W9 _ _ h2
  ·have e : Lib.decodeL (b :: l) = (b.toNat, 1) := by
    rw [Lib.decodeL_N]
    unfold Lib.decodeN
    rw [if_pos (by simpa using hb)]
    rfl
   rw [e]
   show List.any (b :: l) _ = _
   rw [zbt, List.drop_succ_cons, za7]
   have e1 : (b == 43) = (b.toNat == 43) := by
    rw [zaM, beq_iff_eq, beq_iff_eq, ← UInt8.toNat_inj]; rfl
   have e2 : (b == 35) = (b.toNat == 35) := by
    rw [zaM, beq_iff_eq, beq_iff_eq, ← UInt8.toNat_inj]; rfl
   rw [e1, e2]
   rfl
theorem Aa7 (s : ByteArray) : phL s.data.toList = vPH s := Xw _ _ _
theorem AeL (r : Nat) (h : r < 128) : decide (0 ≤ Lib.indexByte phB.data.toList r.toUInt8) = (r == 43 || r == 35) := by
 have : ∀ q : Fin 128, decide (0 ≤ Lib.indexByte phB.data.toList (q.val).toUInt8) = (q.val == 43 || q.val == 35) := by decide
 exact this ⟨r, h⟩
set_option maxHeartbeats 8000000 in
set_option maxRecDepth 1000000 in
theorem Aez (L : Lays.n153 P ρ) (s : ByteArray) (w : World) (h8 : s.size ≤ 8) :
  Calls P (ρ.f 153) #[.string s, .string phB] w fun e w' => (∃ z : Int, e = .returned (.int .i64 z) ∧ decide (0 ≤ z) = phL s.data.toList) ∧ Below w.heap.size w w' := by
 have cA : ∀ (r : Nat) w, r < 128 → ∃ z : Int, decide (0 ≤ z) = (r == 43 || r == 35) ∧ Calls P (ρ.f 152) #[.string phB, .int .i32 r] w fun e w' => e = .returned (.int .i64 z) ∧ w' = w := fun r w h => ⟨_, AeL r h, Any.strings_IndexRune_ascii { L with } phB r w (by omega) (by omega)⟩
 have cR : ∀ (r : Nat) w, 128 ≤ r → r < 55296 ∨ (57343 < r ∧ r ≤ 1114111) → Calls P (ρ.f 152) #[.string phB, .int .i32 r] w _ := fun r w h h' => Agm { L with } r w h h'
 have hemp : phB.toList.isEmpty = false := by rw [Lib.toList_data]; rfl
 have hn1 : ((phB.size : Int) == 1) = false := rfl
 have h8z : decide ((8 : Int) < (s.size : Int)) = false := decide_eq_false (by omega)
 have t3 := L.t3; have a3 := L.a3; have z3 := L.z3; have v3 := L.v3
 have t4 := L.t4; have a4 := L.a4; have z4 := L.z4; have v4 := L.v4
 have t5 := L.t5; have a5 := L.a5; have z5 := L.z5; have v5 := L.v5
 have t9 := L.t9; have a9 := L.a9; have z9 := L.z9; have v9 := L.v9
 have t21 := L.t21; have a21 := L.a21; have z21 := L.z21; have v21 := L.v21
 have e152 : ∀ args w, (callFunc (ρ.f 152) args).run P w = .ok (.enter (ρ.f 152) args) w := enters_of L.f152 (by kernel_rfl) rfl
 have e226 : ∀ args w, (callFunc (ρ.f 226) args).run P w = .ok (.enter (ρ.f 226) args) w := enters_of L.f226 (by kernel_rfl) rfl
 go_enter L.f153, Body.n153_ntmps ρ
 go_wp2_with (go_at_fn (ρ.f 226); refine (Any.strings_shouldUseASCIISet { L with } _ _).mono ?_; rintro e w' ⟨rfl, hw⟩; rw [hw, h8z])
 go_loopg [9, 10] s.size (fun g _ _ wx => ∃ pos : Nat, s.size ≤ pos + g ∧ ItAt w wx s pos ∧ phL (s.data.toList.drop pos) = phL s.data.toList)
 case atStart => exact ⟨0, by omega, Y6 w s 0, by simp⟩
 case round =>
  obtain ⟨pos, hpg, hit, hph⟩ := hrel
  have HIT : Aside (ItAt w wr s pos) := hit
  have HPH : Aside (phL (s.data.toList.drop pos) = phL s.data.toList) := hph
  by_cases hp : pos < s.size
  ·obtain ⟨g, rfl⟩ : ∃ g, gk = g + 1 := ⟨gk - 1, by omega⟩
   have hnx := fun ty => AfY (P := P) hit hp ty
   have hne : s.data.toList.drop pos ≠ [] := by
    intro h
    have := congrArg List.length h
    simp at this
    omega
   have hst := Aet _ hne
   rw [Lib.decodeL_drop, hph, zbb] at hst
   have hwd : 1 ≤ (Utf8.decode s pos).2 := by rw [← Lib.decodeL_drop s pos]; exact Lib.decodeL_width _
   have hru := Agl s pos
   have HIT2 : Aside (ItAt w (Qg wr w.heap.size s (pos + (Utf8.decode s pos).2)) s (pos + (Utf8.decode s pos).2)) := hit.set _
   clear hit hph
   generalize hr : (Utf8.decode s pos).1 = r at hnx hst hru
   have HST : Aside (phL s.data.toList = ((r == 43 || r == 35) || phL (s.data.toList.drop (pos + (Utf8.decode s pos).2)))) := hst
   clear hst
   by_cases h128 : r < 128
   ·obtain ⟨z, hz, cz⟩ := cA r (Qg wr w.heap.size s (pos + (Utf8.decode s pos).2)) h128
    clear cA
    cases hin : (r == 43 || r == 35)
    ·rw [hin] at hz
     have hlt : ¬ ((0 : Int) ≤ z) := of_decide_eq_false hz
     clear hz
     go_wp2_with (go_at_fn (ρ.f 152); refine cz.mono ?_; rintro e w' ⟨rfl, hw⟩; rw [hw])
     go_roundg g
     case measure => omega
     case rel => exact ⟨_, by omega, HIT2.out, by rw [HST.out, hin, zbp]⟩
    ·rw [hin] at hz
     have hge : (0 : Int) ≤ z := of_decide_eq_true hz
     clear hz
     go_wp2_with (go_at_fn (ρ.f 152); refine cz.mono ?_; rintro e w' ⟨rfl, hw⟩; rw [hw])
     go_ret
     exact ⟨⟨_, rfl, by rw [HST.out, hin, Bool.true_or]; simp⟩, HIT2.out.1⟩
   ·have hin : (r == 43 || r == 35) = false := by simp; omega
    go_wp2_with (go_at_fn (ρ.f 152); refine (cR r _ (by omega) hru).mono ?_; rintro e w' ⟨rfl, hw⟩)
    go_roundg g
    case measure => omega
    case rel => exact ⟨_, by omega, HIT2.out.below hw, by rw [HST.out, hin, zbp]⟩
  ·have hnx := fun ty => Aei (P := P) hit hp ty
   have hnil : s.data.toList.drop pos = [] := by
    apply zaW
    simp
    omega
   rw [hnil] at hph
   go_wp2
   go_ret
   exact ⟨⟨_, rfl, by rw [← hph]; rfl⟩, HIT.out.1⟩
theorem AdV (L : Lays.n153 P ρ) (hv116 : ∀ w, (zeroValue (ρ.t 116)).run P w = .ok (.agg (zby 256 (.bool false))) w) (hi116 : (P.info? (ρ.t 116)).map (·.size) = some 256) (s : ByteArray) (w : World) (hs : s.size < 4294967281) :
  Calls P (ρ.f 153) #[.string s, .string phB] w fun e w' => (∃ z : Int, e = .returned (.int .i64 z) ∧ decide (0 ≤ z) = phL s.data.toList) ∧ Below w.heap.size w w' := by
 by_cases h8 : s.size ≤ 8
 ·exact Aez L s w h8
 ·refine (Any.strings_IndexAny_long L hv116 hi116 s phB w (by decide) (by omega) hs (by decide) ?_).mono fun e w' ⟨h1, h2⟩ => ⟨⟨_, h1, ?_⟩, ?_⟩
  ·intro j b hb
   have : phB.data.toList = [43, 35] := rfl
   rw [this] at hb
   match j, hb with
   | 0, hb => cases hb; decide
   | 1, hb => cases hb; decide
  ·have := Ail s
   rw [Aa7, ← this]
   rfl
  ·rw [h2]
   exact ((Below.refl _ _).alloc (zai _) _).alloc (by simp) _
set_option maxHeartbeats 1000000 in
theorem V8 (L : Lays.n150 P ρ) (hv116 : ∀ w, (zeroValue (ρ.t 116)).run P w = .ok (.agg (zby 256 (.bool false))) w) (hi116 : (P.info? (ρ.t 116)).map (·.size) = some 256) (s : ByteArray) (w : World) (hs : s.size < 4294967281) :
  Calls P (ρ.f 150) #[.string s, .string phB] w fun e w' => e = .returned (.bool (vPH s)) ∧ Below w.heap.size w w' := by
 have c := AdV { L with } hv116 hi116 s w hs
 have t3 := L.t3; have a3 := L.a3; have z3 := L.z3; have v3 := L.v3
 have t4 := L.t4; have a4 := L.a4; have z4 := L.z4; have v4 := L.v4
 have t9 := L.t9; have a9 := L.a9; have z9 := L.z9; have v9 := L.v9
 have e153 : ∀ args w, (callFunc (ρ.f 153) args).run P w = .ok (.enter (ρ.f 153) args) w := enters_of L.f153 (by kernel_rfl) rfl
 go_enter L.f150, Body.n150_ntmps ρ
 go_wp2_with (go_at_fn (ρ.f 153); refine c.mono ?_; rintro e w' ⟨⟨z, rfl, hz⟩, hw⟩)
 go_ret
 refine ⟨?_, hw⟩
 rw [← Aa7, ← hz]
 rfl
end
end Go.Proofs.YtdofipeaomgbbaaGreatDoor.Abs
