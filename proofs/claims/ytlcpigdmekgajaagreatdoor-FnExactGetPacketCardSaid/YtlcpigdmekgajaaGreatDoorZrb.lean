/- What the proof needs, part 2: a sound evaluator over trees, the program's functions on it, and what they come to. -/
import Derived.Test.YtlcpigdmekgajaaGreatDoorZra
import Derived.Lib.SplitLaws
import Derived.Lib.IndexAny
import Derived.Lib.ValidLaws
import Derived.Test.YtlcpigdmekgajaaGreatDoorProg
import Derived.KernelRfl
import Derived.Shelf.Strings.IndexAnyAll
import Derived.Shelf.Small.Utf8
import Derived.Lib.TrimUEq
import Derived.Lib.QuoteLoop
import Derived.Laws.RangeAny
import Derived.Laws.Runes
import Derived.WalkKit
import Derived.WalkMore
import Derived.Below
import Derived.LoopTactic
import Derived.Shelf.RegionOpenPlain
set_option linter.unusedVariables false
set_option linter.unusedSimpArgs false
namespace Go.Proofs.YtlcpigdmekgajaaGreatDoor.Abs
open _root_.Bool renaming false_eq_true → zaa, false_or → zaB, true_or → zbe, eq_iff_iff → zb8
open _root_.List renaming map_cons → zaq, length_singleton → zas, drop_zero → zaT, drop_drop → zbp, drop_of_length_le → zb5, any_cons → zbB, map_map → zbJ
open _root_.Nat renaming le_refl → zam, add_zero → zaO, beq → zb4, add_comm → zbF
open _root_.Array renaming getElem?_eq_some_iff → za8, replicate → zb0, getElem?_setIfInBounds_ne → zb1
section
open Go
def lvL : List UInt8 → List UInt8 → List (List UInt8)
 | cur, [] => [cur]
 | cur, b :: l => if b = 47 then cur :: lvL [] l else lvL (cur ++ [b]) l
def ofL (l : List UInt8) : ByteArray := ⟨l.toArray⟩
def Bp (s : ByteArray) : List ByteArray := (lvL [] s.data.toList).map ofL
def It (s : ByteArray) (b : UInt8) : Bool := s.data.toList.any fun c => c == b
def vPH (s : ByteArray) : Bool := It s 43 || It s 35
def Wf : ByteArray := ⟨#[47]⟩
def phB : ByteArray := ⟨#[43, 35]⟩
def Ou (c : List UInt8) : List (List UInt8) → List (List UInt8)
 | [] => [c]
 | h :: t => (c ++ h) :: t
theorem Xb {X : List (List UInt8)} (h : X ≠ []) : Ou [] X = X := by
 cases X with
 | nil => exact absurd rfl h
 | cons h t => rfl
theorem Z6 (a b : List UInt8) {X : List (List UInt8)} (h : X ≠ []) : Ou a (Ou b X) = Ou (a ++ b) X := by
 cases X with
 | nil => exact absurd rfl h
 | cons h t => simp [Ou]
theorem S8 (sep : List UInt8) (k : Nat) (l : List UInt8) : Lib.splitK sep 0 k l ≠ [] := by
 cases k with
 | zero => simp [Lib.splitK]
 | succ k =>
  unfold Lib.splitK
  split <;> simp
theorem Agg (l : List UInt8) : Lib.index (47 :: l) [47] = 0 := by
 unfold Lib.index
 simp
theorem Agh (b : UInt8) (l : List UInt8) (h : b ≠ 47) : Lib.index (b :: l) [47] = if Lib.index l [47] == -1 then -1 else Lib.index l [47] + 1 := by
 rw [Lib.index]
 rw [if_neg]
 simpa using fun h' => h h'.symm
theorem Wo (b : UInt8) (h : b ≠ 47) (k : Nat) (l : List UInt8) : Lib.splitK [47] 0 k (b :: l) = Ou [b] (Lib.splitK [47] 0 k l) := by
 cases k with
 | zero => rfl
 | succ k =>
  have hge := Lib.index_ge l [47]
  unfold Lib.splitK
  rw [Agh b l h]
  by_cases hi : Lib.index l [47] = -1
  ·simp [hi, Ou]
  ·have e1 : (Lib.index l [47] == -1) = false := by simpa using hi
   have e2 : (Lib.index l [47] + 1 == -1) = false := by simp; omega
   have e3 : (Lib.index l [47] + 1).toNat = (Lib.index l [47]).toNat + 1 := by omega
   simp only [e1, e2, e3, zaa, if_false, Ou, zaO, zas]
   rw [show (Lib.index l [47]).toNat + 1 + 1 = ((Lib.index l [47]).toNat + 1) + 1 from rfl, List.drop_succ_cons, List.take_succ_cons]
   rfl
theorem Su : ∀ (l cur : List UInt8), lvL cur l = Ou cur (Lib.splitK [47] 0 (Lib.count l [47]) l)
 | [], cur => by
  have e : Lib.count [] [47] = 0 := by rw [Lib.count_one]; rfl
  rw [e]
  simp [lvL, Lib.splitK, Ou]
 | b :: l, cur => by
  rw [lvL]
  by_cases h : b = 47
  ·subst h
   rw [if_pos rfl, Su l [], Lib.count_cons_eq, zbF, Lib.splitK, Agg]
   rw [Xb (S8 _ _ _)]
   simp [Ou]
  ·rw [if_neg h, Su l (cur ++ [b]), Lib.count_cons_ne _ _ _ h, Wo b h, Z6 _ _ (S8 _ _ _)]
theorem Aav (s : ByteArray) : ofL s.data.toList = s := by
 cases s
 rfl
theorem Ai9 (l : List ByteArray) : (l.map (·.data.toList)).map ofL = l := by
 rw [zbJ]
 conv => rhs; rw [← List.map_id l]
 exact List.map_congr_left fun s _ => Aav s
theorem Sb (s : ByteArray) : Lib.splitB Wf 0 (Lib.countB s Wf) s = Bp s := by
 have h := Lib.splitB_data Wf 0 (Lib.countB s Wf) s
 rw [← Ai9 (Lib.splitB Wf 0 (Lib.countB s Wf) s), h, Bp, Su, Xb (S8 _ _ _)]
 rfl
theorem Ab3 (s : ByteArray) : (Bp s).length = Lib.countB s Wf + 1 := by
 rw [← Sb]
 exact Lib.splitB_all Wf (zam _) 0 _ s rfl
theorem Rj (chars : List UInt8) : ∀ l : List UInt8, decide (0 ≤ Lib.indexAny l chars) = l.any fun c => chars.contains c
 | [] => rfl
 | b :: l => by
  have ih := Rj chars l
  have hge := Lib.indexAny_ge chars l
  rw [Lib.indexAny, zbB, ← ih]
  by_cases h : chars.contains b = true
  ·rw [if_pos h, h]
   simp
  ·rw [if_neg h]
   have h' : chars.contains b = false := by simpa using h
   rw [h', zaB]
   by_cases hi : Lib.indexAny l chars = -1
   ·rw [hi]
    rfl
   ·rw [if_neg (by simpa using hi)]
    congr 1
    simp
    omega
theorem AaN {α : Type} (p q : α → Bool) : ∀ l : List α, (l.any fun c => p c || q c) = (l.any p || l.any q)
 | [] => rfl
 | x :: l => by
  rw [zbB, zbB, zbB, AaN p q l]
  cases p x <;> cases q x <;> simp
theorem AkS (s : ByteArray) : Lib.containsAny s.data.toList phB.data.toList = vPH s := by
 unfold Lib.containsAny vPH It
 rw [Rj, ← AaN]
 congr 1
 funext c
 simp [phB]
 rfl
end
section
open Go
def Pj : Nat → List UInt8 → Bool
 | 0, _ => true
 | n + 1, l => if l = [] then true else if (Lib.decodeL l).1 = 65533 ∧ (Lib.decodeL l).2 = 1 then false else if (Lib.decodeL l).1 = 0 then false else Pj n (l.drop (Lib.decodeL l).2)
def Bi (s : ByteArray) : Bool := decide (s.size ≤ 60) && Pj s.size s.data.toList
def Yp (ty : Nat) (vs : List AV) : Option AV :=
 match vs with
 | [.sc (.string s)] => if s.size ≤ maxLen then some (.sc (.bool (Bi s))) else none
 | _ => none
def Uz (ty : Nat) (vs : List AV) : Option AV :=
 match vs with
 | [.sc (.string s), .sc (.string c)] => if c.data.toList = [43, 35] ∧ s.size < 4294967281 then some (.sc (.bool (vPH s))) else none
 | _ => none
def Sl (ty : Nat) (vs : List AV) : Option AV :=
 match vs with
 | [.sc (.string s), .sc (.string c)] => if ty = 56 ∧ c.data.toList = [47] ∧ s.size < 4294967281 then some (.ro (Bp s).length ((Bp s).map fun x => .sc (.string x))) else none
 | _ => none
end
end Go.Proofs.YtlcpigdmekgajaaGreatDoor.Abs
set_option maxRecDepth 100000
namespace Go.Proofs.YtlcpigdmekgajaaGreatDoor.Abs
open _root_.Bool renaming false_eq_true → zaa, false_or → zaB, true_or → zbe, eq_iff_iff → zb8
open _root_.List renaming map_cons → zaq, length_singleton → zas, drop_zero → zaT, drop_drop → zbp, drop_of_length_le → zb5, any_cons → zbB, map_map → zbJ
open _root_.Nat renaming le_refl → zam, add_zero → zaO, beq → zb4, add_comm → zbF
open _root_.Array renaming getElem?_eq_some_iff → za8, replicate → zb0, getElem?_setIfInBounds_ne → zb1
section
open Go
variable {β : Type}
noncomputable def tis : List (Option TI) := [none,
 none,
 some ⟨false, false, 1, 8, [(.int .i64 0)], 0, [], some .i64, false, false, [2], false⟩,
 some ⟨false, false, 1, 8, [(.int .i64 0)], 0, [], some .i64, false, false, [3], false⟩,
 some ⟨false, false, 1, 1, [(.bool false)], 0, [], none, false, true, [4], false⟩,
 some ⟨false, false, 1, 1, [(.int .u8 0)], 0, [], some .u8, false, false, [5], false⟩,
 some ⟨false, false, 1, 1, [(.int .u8 0)], 0, [], some .u8, false, false, [6], false⟩,
 none,
 none,
 some ⟨false, false, 1, 16, [(.string ⟨#[]⟩)], 0, [], none, true, false, [9], false⟩,
 some ⟨false, false, 1, 16, [(.string ⟨#[]⟩)], 0, [], none, true, false, [10], false⟩,
 some ⟨false, false, 1, 16, [(.string ⟨#[]⟩)], 0, [], none, true, false, [11], false⟩,
 some ⟨false, false, 1, 8, [(.int .u64 0)], 0, [], some .u64, false, false, [12], false⟩,
 none,
 none,
 none,
 none,
 none,
 none,
 none,
 none,
 some ⟨false, false, 1, 4, [(.int .i32 0)], 0, [], some .i32, false, false, [21], false⟩,
 some ⟨false, true, 1, 24, [(.slice none 0 0)], 5, [], none, false, false, [22], false⟩,
 none,
 none,
 none,
 none,
 none,
 none,
 none,
 none,
 none,
 none,
 some ⟨false, true, 1, 24, [(.slice none 0 0)], 59, [], none, false, false, [33], false⟩,
 none,
 none,
 none,
 none,
 none,
 none,
 some ⟨false, true, 1, 24, [(.slice none 0 0)], 22, [], none, false, false, [40], false⟩,
 none,
 none,
 none,
 none,
 none,
 none,
 none,
 none,
 none,
 none,
 none,
 none,
 none,
 none,
 some ⟨false, true, 1, 24, [(.slice none 0 0)], 105, [], none, false, false, [55], false⟩,
 some ⟨false, true, 1, 24, [(.slice none 0 0)], 9, [], none, false, false, [56], false⟩,
 some ⟨false, true, 1, 24, [(.slice none 0 0)], 3, [], none, false, false, [57], false⟩,
 none,
 some ⟨true, false, 25, 320, [(.int .i64 0), (.bool false), (.int .i64 0), (.bool false), (.int .i64 0), (.string ⟨#[]⟩), (.slice none 0 0), (.string ⟨#[]⟩), (.int .i64 0), (.bool false), (.int .i64 0), (.bool false), (.string ⟨#[]⟩), (.slice none 0 0), (.int .i64 0), (.bool false), (.bool false), (.string ⟨#[]⟩), (.bool false), (.slice none 0 0), (.int .i64 0), (.bool false), (.slice none 0 0), (.slice none 0 0), (.slice none 0 0)], 0, [(0, 3), (1, 4), (2, 3), (3, 4), (4, 3), (5, 9), (6, 22), (7, 9), (8, 3), (9, 4), (10, 3), (11, 4), (12, 9), (13, 22), (14, 3), (15, 4), (16, 4), (17, 9), (18, 4), (19, 22), (20, 3), (21, 4), (22, 55), (23, 56), (24, 57)], none, false, false, [3, 4, 3, 4, 3, 9, 22, 9, 3, 4, 3, 4, 9, 22, 3, 4, 4, 9, 4, 22, 3, 4, 55, 56, 57], false⟩,
 none,
 none,
 none,
 none,
 none,
 none,
 none,
 none,
 none,
 none,
 none,
 none,
 none,
 none,
 none,
 none,
 none,
 none,
 none,
 none,
 none,
 none,
 none,
 none,
 none,
 none,
 none,
 none,
 none,
 none,
 none,
 none,
 none,
 none,
 none,
 none,
 none,
 none,
 none,
 none,
 none,
 none,
 none,
 none,
 none,
 some ⟨true, false, 2, 24, [(.string ⟨#[]⟩), (.int .i64 0)], 0, [(0, 9), (1, 3)], none, false, false, [9, 3], true⟩,
 none,
 none,
 none,
 none,
 none,
 none,
 none,
 none,
 none,
 none,
 none,
 none,
 none,
 some ⟨true, false, 3, 40, [(.slice none 0 0), (.int .i64 0), (.bool false)], 0, [(0, 22), (1, 3), (2, 4)], none, false, false, [22, 3, 4], false⟩]
noncomputable def Br (f : Func) : Code := match f.body with | some c => c | none => .skip
noncomputable def c32 : Code := Br Tryz.f32
noncomputable def c61 : Code := Br Tryz.f61
noncomputable def c62 : Code := Br Tryz.f62
noncomputable def c88 : Code := Br Tryz.f88
noncomputable def Amx : Code := Br Tryz.f126
noncomputable def c81 : Code := Br Tryz.f81
noncomputable def AjW : Code := Br Tryz.f143
noncomputable def AjP : Code := Br Tryz.f115
noncomputable def c80 : Code := Br Tryz.f80
noncomputable def c87 : Code := Br Tryz.f87
noncomputable def c86 : Code := Br Tryz.f86
noncomputable def c63 : Code := Br Tryz.f63
noncomputable def c90 : Code := Br Tryz.f90
noncomputable def c65 : Code := Br Tryz.f65
noncomputable def c89 : Code := Br Tryz.f89
noncomputable def AjQ : Code := Br Tryz.f127
noncomputable def AjR : Code := Br Tryz.f128
noncomputable def c91 : Code := Br Tryz.f91
noncomputable def c92 : Code := Br Tryz.f92
noncomputable def c64 : Code := Br Tryz.f64
noncomputable def c95 : Code := Br Tryz.f95
noncomputable def c93 : Code := Br Tryz.f93
noncomputable def c94 : Code := Br Tryz.f94
noncomputable def c96 : Code := Br Tryz.f96
noncomputable def c97 : Code := Br Tryz.f97
noncomputable def c66 : Code := Br Tryz.f66
noncomputable def c31 : Code := Br Tryz.f31
noncomputable def c98 : Code := Br Tryz.f98
noncomputable def c67 : Code := Br Tryz.f67
noncomputable def c68 : Code := Br Tryz.f68
noncomputable def Amz : Code := Br Tryz.f130
noncomputable def c77 : Code := Br Tryz.f77
noncomputable def Am6 : Code := Br Tryz.f146
noncomputable def Amy : Code := Br Tryz.f129
noncomputable def Amm : Code := Br Tryz.f101
noncomputable def Aml : Code := Br Tryz.f100
noncomputable def Amn : Code := Br Tryz.f102
noncomputable def c99 : Code := Br Tryz.f99
noncomputable def Am0 : Code := Br Tryz.f131
noncomputable def Als : Code := Br Tryz.f103
noncomputable def c69 : Code := Br Tryz.f69
noncomputable def Amp : Code := Br Tryz.f105
noncomputable def c71 : Code := Br Tryz.f71
noncomputable def AjS : Code := Br Tryz.f132
noncomputable def AjT : Code := Br Tryz.f133
noncomputable def AjU : Code := Br Tryz.f134
noncomputable def Amo : Code := Br Tryz.f104
noncomputable def Am1 : Code := Br Tryz.f137
noncomputable def Ams : Code := Br Tryz.f108
noncomputable def Amr : Code := Br Tryz.f107
noncomputable def Amw : Code := Br Tryz.f118
noncomputable def Amq : Code := Br Tryz.f106
noncomputable def Amt : Code := Br Tryz.f109
noncomputable def Am7 : Code := Br Tryz.f150
noncomputable def AjV : Code := Br Tryz.f138
noncomputable def Uq : Code := Br Tryz.f110
noncomputable def c70 : Code := Br Tryz.f70
noncomputable def Am3 : Code := Br Tryz.f140
noncomputable def Am5 : Code := Br Tryz.f142
noncomputable def Am4 : Code := Br Tryz.f141
noncomputable def Am8 : Code := Br Tryz.f151
noncomputable def Am2 : Code := Br Tryz.f139
noncomputable def Ur : Code := Br Tryz.f111
noncomputable def Amu : Code := Br Tryz.f113
noncomputable def AjO : Code := Br Tryz.f112
noncomputable def c72 : Code := Br Tryz.f72
noncomputable def c33 : Code := Br Tryz.f33
noncomputable def c35 : Code := Br Tryz.f35
noncomputable def Amv : Code := Br Tryz.f114
noncomputable def c73 : Code := Br Tryz.f73
noncomputable def c74 : Code := Br Tryz.f74
noncomputable def c75 : Code := Br Tryz.f75
noncomputable def c34 : Code := Br Tryz.f34
noncomputable def c36 : Code := Br Tryz.f36
noncomputable def c53 : Code := Br Tryz.f53
noncomputable def c54 : Code := Br Tryz.f54
noncomputable def c55 : Code := Br Tryz.f55
noncomputable def c56 : Code := Br Tryz.f56
noncomputable def c37 : Code := Br Tryz.f37
noncomputable def c57 : Code := Br Tryz.f57
noncomputable def c58 : Code := Br Tryz.f58
noncomputable def c59 : Code := Br Tryz.f59
noncomputable def c60 : Code := Br Tryz.f60
noncomputable def c38 : Code := Br Tryz.f38
noncomputable def c6 : Code := Br Tryz.f6
noncomputable def o88 : List (Nat × PI) := [(3, PI.of [0, 1, 2, 3, 4, 5, 6, 7, 8, 9, 10, 11, 12, 13, 14, 15, 16, 17])]
noncomputable def o63 : List (Nat × PI) := [(36, PI.of [0, 1, 2, 3, 4, 5, 6, 7, 8, 9, 10]), (46, PI.of [0, 1, 2, 3, 4, 5, 6, 7, 8, 9, 10, 11, 12])]
noncomputable def o89 : List (Nat × PI) := [(6, PI.of [0, 1, 2, 3, 4, 5, 6, 7, 8, 9, 10]), (11, PI.of [0, 1, 2, 3, 4, 5, 6, 7, 8, 9, 10]), (16, PI.of [0, 1, 2, 3, 4, 5, 6, 7, 8, 9, 10])]
noncomputable def o64 : List (Nat × PI) := [(1, .one 0 (.one 1 (.one 2 (.one 3 (.one 4 (.one 6 (.two 5 (PI.of [7, 8, 9, 10]) 7 (PI.of [5, 8, 9, 10]))))))))]
noncomputable def o66 : List (Nat × PI) := [(7, .one 0 (.one 2 (.one 3 (.one 4 (.two 1 (PI.of [5, 6, 7]) 5 (PI.of [1, 6, 7])))))), (8, PI.of [0, 1, 2, 4, 5, 8, 9, 10, 12, 13, 16, 17, 20, 21, 3, 6, 7, 11, 14, 15, 18, 19, 22, 23, 24, 25, 26, 27]), (9, PI.of [0, 1, 2, 4, 5, 3, 6, 7]), (11, PI.of [0, 1, 2, 4, 5, 3, 6, 7]), (17, PI.of [0, 1, 2, 5, 6, 7, 3, 4, 8, 9, 10]), (19, PI.of [0, 1, 2, 5, 6, 7, 9, 10, 3, 4, 8, 11, 12, 13]), (33, .one 0 (.one 1 (.one 2 (.one 3 (.one 4 (.one 5 (.one 6 (.one 8 (.one 9 (.one 10 (.one 11 (.one 12 (.one 13 (.one 14 (.two 7 (PI.of [15, 16, 17]) 15 (PI.of [7, 16, 17]))))))))))))))))]
noncomputable def o31 : List (Nat × PI) := [(12, .one 0 (.one 1 (.one 2 (.one 3 (.one 4 (.one 5 (.one 6 (.one 7 (.one 8 (.one 9 (.two 10 (PI.of [11, 12]) 11 (PI.of [10, 12])))))))))))), (13, PI.of [0, 1, 2, 3, 4, 6, 7, 8, 9, 10, 5, 11, 12, 13])]
noncomputable def AmI : List (Nat × PI) := [(3, PI.of [0, 1, 2, 3, 4, 5, 6, 7, 8, 9, 10, 11, 12, 13, 14, 15, 16, 17])]
noncomputable def AmH : List (Nat × PI) := [(1, PI.of [0, 1, 2, 3, 4, 5, 6, 7, 8, 9, 10, 11, 12, 13, 14, 15])]
noncomputable def AlX : List (Nat × PI) := [(1, PI.of [0, 1, 2, 3, 4, 5, 6, 7, 8, 9, 10, 11, 12, 13, 14, 15]), (5, PI.of [0, 1, 2, 3, 4, 5, 6, 7, 8, 9, 10, 11, 12])]
noncomputable def AlY : List (Nat × PI) := [(1, PI.of [0, 1, 2, 3, 4, 5, 6, 7, 8, 9, 10, 11, 12, 13, 14, 15])]
noncomputable def AmJ : List (Nat × PI) := [(1, PI.of [0, 1, 2, 3, 4, 5, 6, 7, 8, 9, 10, 11, 12, 13, 14, 15, 16, 17])]
noncomputable def AlZ : List (Nat × PI) := [(0, PI.of [0, 1, 2, 3, 4, 5, 6, 7, 8, 9, 10, 11, 12, 13, 14, 15, 16, 17, 18, 19, 20, 21]), (7, PI.of [0, 1, 2, 3, 4, 5, 6, 7, 8, 9, 10])]
noncomputable def AmF : List (Nat × PI) := [(4, .one 0 (.one 1 (.one 2 (.one 4 (.one 6 (.one 8 (.one 10 (.one 12 (.ld 3 (.ld 5 (.ld 7 (.ld 9 (.ld 11 (.st 13 3 (.one 14 (.st 15 3 (.one 16 (.st 17 3 (.one 18 (.st 19 3 (.one 20 (.st 21 3 (PI.of [22, 23]))))))))))))))))))))))), (6, .one 0 (.one 1 (.one 2 (.one 4 (.one 6 (.one 8 (.ld 3 (.ld 5 (.ld 7 (.st 9 3 (.one 10 (.st 11 3 (.one 12 (.st 13 3 (PI.of [14, 15]))))))))))))))), (8, .one 0 (.one 1 (.one 2 (.one 4 (.ld 3 (.st 5 3 (PI.of [6, 7]))))))), (12, .one 0 (.one 1 (.one 2 (.one 4 (.ld 3 (.st 5 3 (PI.of [6, 7]))))))), (14, .one 0 (.one 1 (.one 2 (.one 4 (.one 6 (.one 8 (.ld 3 (.ld 5 (.ld 7 (.st 9 3 (.one 10 (.st 11 3 (.one 12 (.st 13 3 (PI.of [14, 15]))))))))))))))), (16, .one 0 (.one 1 (.one 2 (.one 4 (.ld 3 (.st 5 3 (PI.of [6, 7]))))))), (24, .one 0 (.one 1 (.one 2 (.one 4 (.ld 3 (.st 5 3 (PI.of [6, 7]))))))), (26, .one 0 (.one 1 (.one 2 (.one 4 (.ld 3 (.st 5 3 (PI.of [6, 7]))))))), (28, .one 0 (.one 1 (.one 2 (.one 4 (.ld 3 (.st 5 3 (PI.of [6, 7])))))))]
noncomputable def AkX : List (Nat × PI) := [(6, PI.of [0, 1, 2, 3, 4, 5, 6, 7, 8])]
noncomputable def AkY : List (Nat × PI) := [(6, PI.of [0, 1, 2, 3, 4, 5, 6, 7, 8])]
noncomputable def AkZ : List (Nat × PI) := [(6, PI.of [0, 1, 2, 3, 4, 5, 6, 7, 8])]
noncomputable def o70 : List (Nat × PI) := [(1, .one 0 (.one 1 (.one 2 (.one 3 (.one 4 (.one 6 (.two 5 (PI.of [7, 8, 9, 10]) 7 (PI.of [5, 8, 9, 10]))))))))]
noncomputable def AmK : List (Nat × PI) := [(1, PI.of [0, 1, 3, 4, 7, 8, 9, 11, 12, 15, 16, 19, 20, 2, 5, 6, 10, 13, 14, 17, 18, 21, 22, 23]), (2, .one 1 (.one 2 (.one 3 (.one 4 (.one 5 (.two 0 (PI.of [6, 7, 8]) 6 (PI.of [0, 7, 8]))))))), (3, PI.of [0, 1, 2, 4, 5, 3, 6, 7]), (5, PI.of [0, 1, 2, 4, 5, 3, 6, 7])]
noncomputable def V3 : List (Nat × PI) := [(6, PI.of [0, 1, 4, 5, 6, 2, 3, 7, 8]), (20, .one 0 (.one 1 (.one 2 (.one 4 (.one 5 (.one 6 (.two 3 (PI.of [7, 8, 9]) 7 (PI.of [3, 8, 9]))))))))]
noncomputable def AmG : List (Nat × PI) := [(4, PI.of [0, 1, 2, 4, 5, 6, 8, 9, 3, 7, 10, 11, 12, 13])]
noncomputable def o33 : List (Nat × PI) := [(12, .one 0 (.one 1 (.one 2 (.one 3 (.one 4 (.one 5 (.one 6 (.one 7 (.one 8 (.one 9 (.two 10 (PI.of [11, 12]) 11 (PI.of [10, 12])))))))))))), (13, PI.of [0, 1, 2, 3, 4, 6, 7, 8, 9, 10, 5, 11, 12, 13])]
noncomputable def o35 : List (Nat × PI) := [(6, PI.of [0, 1, 2, 3, 4, 5, 6, 7, 8])]
noncomputable def o73 : List (Nat × PI) := [(6, PI.of [0, 1, 2, 3, 4, 5, 6, 7, 8, 9])]
noncomputable def o74 : List (Nat × PI) := [(6, PI.of [0, 1, 2, 3, 4, 5, 6, 7, 8])]
noncomputable def o75 : List (Nat × PI) := [(6, PI.of [0, 1, 2, 3, 4, 5, 6, 7, 8])]
noncomputable def o58 : List (Nat × PI) := [(4, PI.of [0, 1, 2, 3, 4, 5, 6, 7])]
noncomputable def o59 : List (Nat × PI) := [(4, PI.of [0, 1, 2, 3, 4, 5, 6])]
noncomputable abbrev fi32 : F1 := ⟨c32, 22, Tryz.f32.results.toList, []⟩
noncomputable abbrev Al0 : F1 := ⟨c61, 37, Tryz.f61.results.toList, []⟩
noncomputable abbrev fi62 : F1 := ⟨c62, 55, Tryz.f62.results.toList, []⟩
noncomputable abbrev AlB : F1 := ⟨c88, 31, Tryz.f88.results.toList, o88⟩
noncomputable abbrev Ajx : F1 := ⟨Amx, 43, Tryz.f126.results.toList, []⟩
noncomputable abbrev Al8 : F1 := ⟨c81, 15, Tryz.f81.results.toList, []⟩
noncomputable abbrev fi143 : F1 := ⟨AjW, 104, Tryz.f143.results.toList, []⟩
noncomputable abbrev fi115 : F1 := ⟨AjP, 35, Tryz.f115.results.toList, []⟩
noncomputable abbrev Al7 : F1 := ⟨c80, 6, Tryz.f80.results.toList, []⟩
noncomputable abbrev AlA : F1 := ⟨c87, 28, Tryz.f87.results.toList, []⟩
noncomputable abbrev Al9 : F1 := ⟨c86, 168, Tryz.f86.results.toList, []⟩
noncomputable abbrev fi63 : F1 := ⟨c63, 186, Tryz.f63.results.toList, o63⟩
noncomputable abbrev AlC : F1 := ⟨c90, 120, Tryz.f90.results.toList, []⟩
noncomputable abbrev Al1 : F1 := ⟨c65, 10, Tryz.f65.results.toList, []⟩
noncomputable abbrev fi89 : F1 := ⟨c89, 239, Tryz.f89.results.toList, o89⟩
noncomputable abbrev fi127 : F1 := ⟨AjQ, 17, Tryz.f127.results.toList, []⟩
noncomputable abbrev fi128 : F1 := ⟨AjR, 33, Tryz.f128.results.toList, []⟩
noncomputable abbrev AlD : F1 := ⟨c91, 25, Tryz.f91.results.toList, []⟩
noncomputable abbrev fi92 : F1 := ⟨c92, 57, Tryz.f92.results.toList, []⟩
noncomputable abbrev fi64 : F1 := ⟨c64, 191, Tryz.f64.results.toList, o64⟩
noncomputable abbrev AlG : F1 := ⟨c95, 17, Tryz.f95.results.toList, []⟩
noncomputable abbrev AlE : F1 := ⟨c93, 17, Tryz.f93.results.toList, []⟩
noncomputable abbrev AlF : F1 := ⟨c94, 7, Tryz.f94.results.toList, []⟩
noncomputable abbrev AlH : F1 := ⟨c96, 17, Tryz.f96.results.toList, []⟩
noncomputable abbrev fi97 : F1 := ⟨c97, 29, Tryz.f97.results.toList, []⟩
noncomputable abbrev fi66 : F1 := ⟨c66, 204, Tryz.f66.results.toList, o66⟩
noncomputable abbrev Alv : F1 := ⟨c31, 70, Tryz.f31.results.toList, o31⟩
noncomputable abbrev AlI : F1 := ⟨c98, 15, Tryz.f98.results.toList, []⟩
noncomputable abbrev Al2 : F1 := ⟨c67, 39, Tryz.f67.results.toList, []⟩
noncomputable abbrev fi68 : F1 := ⟨c68, 52, Tryz.f68.results.toList, []⟩
noncomputable abbrev Ajz : F1 := ⟨Amz, 31, Tryz.f130.results.toList, AmI⟩
noncomputable abbrev fi77 : F1 := ⟨c77, 18, Tryz.f77.results.toList, []⟩
noncomputable abbrev Aj6 : F1 := ⟨Am6, 42, Tryz.f146.results.toList, []⟩
noncomputable abbrev Ajy : F1 := ⟨Amy, 35, Tryz.f129.results.toList, AmH⟩
noncomputable abbrev Ajm : F1 := ⟨Amm, 6, Tryz.f101.results.toList, []⟩
noncomputable abbrev Ajl : F1 := ⟨Aml, 41, Tryz.f100.results.toList, AlX⟩
noncomputable abbrev Ajn : F1 := ⟨Amn, 35, Tryz.f102.results.toList, AlY⟩
noncomputable abbrev AlJ : F1 := ⟨c99, 92, Tryz.f99.results.toList, []⟩
noncomputable abbrev Aj0 : F1 := ⟨Am0, 20, Tryz.f131.results.toList, AmJ⟩
noncomputable abbrev fi103 : F1 := ⟨Als, 83, Tryz.f103.results.toList, AlZ⟩
noncomputable abbrev Al3 : F1 := ⟨c69, 77, Tryz.f69.results.toList, []⟩
noncomputable abbrev Ajp : F1 := ⟨Amp, 121, Tryz.f105.results.toList, AmF⟩
noncomputable abbrev Al5 : F1 := ⟨c71, 10, Tryz.f71.results.toList, []⟩
noncomputable abbrev fi132 : F1 := ⟨AjS, 26, Tryz.f132.results.toList, AkX⟩
noncomputable abbrev fi133 : F1 := ⟨AjT, 26, Tryz.f133.results.toList, AkY⟩
noncomputable abbrev fi134 : F1 := ⟨AjU, 26, Tryz.f134.results.toList, AkZ⟩
noncomputable abbrev Ajo : F1 := ⟨Amo, 186, Tryz.f104.results.toList, []⟩
noncomputable abbrev Aj1 : F1 := ⟨Am1, 5, Tryz.f137.results.toList, []⟩
noncomputable abbrev Ajs : F1 := ⟨Ams, 20, Tryz.f108.results.toList, []⟩
noncomputable abbrev Ajr : F1 := ⟨Amr, 5, Tryz.f107.results.toList, []⟩
noncomputable abbrev Ajw : F1 := ⟨Amw, 5, Tryz.f118.results.toList, []⟩
noncomputable abbrev Ajq : F1 := ⟨Amq, 50, Tryz.f106.results.toList, []⟩
noncomputable abbrev Ajt : F1 := ⟨Amt, 5, Tryz.f109.results.toList, []⟩
noncomputable abbrev Aj7 : F1 := ⟨Am7, 19, Tryz.f150.results.toList, []⟩
noncomputable abbrev fi138 : F1 := ⟨AjV, 35, Tryz.f138.results.toList, []⟩
noncomputable abbrev fi110 : F1 := ⟨Uq, 65, Tryz.f110.results.toList, []⟩
noncomputable abbrev Al4 : F1 := ⟨c70, 81, Tryz.f70.results.toList, o70⟩
noncomputable abbrev Aj3 : F1 := ⟨Am3, 7, Tryz.f140.results.toList, []⟩
noncomputable abbrev Aj5 : F1 := ⟨Am5, 16, Tryz.f142.results.toList, []⟩
noncomputable abbrev Aj4 : F1 := ⟨Am4, 19, Tryz.f141.results.toList, []⟩
noncomputable abbrev Aj8 : F1 := ⟨Am8, 18, Tryz.f151.results.toList, []⟩
noncomputable abbrev Aj2 : F1 := ⟨Am2, 65, Tryz.f139.results.toList, AmK⟩
noncomputable abbrev fi111 : F1 := ⟨Ur, 96, Tryz.f111.results.toList, V3⟩
noncomputable abbrev Aju : F1 := ⟨Amu, 31, Tryz.f113.results.toList, AmG⟩
noncomputable abbrev fi112 : F1 := ⟨AjO, 29, Tryz.f112.results.toList, []⟩
noncomputable abbrev Al6 : F1 := ⟨c72, 19, Tryz.f72.results.toList, []⟩
noncomputable abbrev Alw : F1 := ⟨c33, 73, Tryz.f33.results.toList, o33⟩
noncomputable abbrev fi35 : F1 := ⟨c35, 26, Tryz.f35.results.toList, o35⟩
noncomputable abbrev Ajv : F1 := ⟨Amv, 15, Tryz.f114.results.toList, []⟩
noncomputable abbrev fi73 : F1 := ⟨c73, 27, Tryz.f73.results.toList, o73⟩
noncomputable abbrev fi74 : F1 := ⟨c74, 26, Tryz.f74.results.toList, o74⟩
noncomputable abbrev fi75 : F1 := ⟨c75, 26, Tryz.f75.results.toList, o75⟩
noncomputable abbrev Alx : F1 := ⟨c34, 136, Tryz.f34.results.toList, []⟩
noncomputable abbrev fi36 : F1 := ⟨c36, 20, Tryz.f36.results.toList, []⟩
noncomputable abbrev fi53 : F1 := ⟨c53, 20, Tryz.f53.results.toList, []⟩
noncomputable abbrev fi54 : F1 := ⟨c54, 28, Tryz.f54.results.toList, []⟩
noncomputable abbrev fi55 : F1 := ⟨c55, 20, Tryz.f55.results.toList, []⟩
noncomputable abbrev fi56 : F1 := ⟨c56, 19, Tryz.f56.results.toList, []⟩
noncomputable abbrev Aly : F1 := ⟨c37, 30, Tryz.f37.results.toList, []⟩
noncomputable abbrev fi57 : F1 := ⟨c57, 22, Tryz.f57.results.toList, []⟩
noncomputable abbrev fi58 : F1 := ⟨c58, 32, Tryz.f58.results.toList, o58⟩
noncomputable abbrev fi59 : F1 := ⟨c59, 22, Tryz.f59.results.toList, o59⟩
noncomputable abbrev fi60 : F1 := ⟨c60, 21, Tryz.f60.results.toList, []⟩
noncomputable abbrev Alz : F1 := ⟨c38, 42, Tryz.f38.results.toList, []⟩
noncomputable abbrev fi6 : F1 := ⟨c6, 114, Tryz.f6.results.toList, []⟩
abbrev uu : AV := .sc undef
noncomputable def tf : Nat → Nat → (Nat → AV) → Tm
 | 0, _, _ => []
 | n + 1, i, t => (i, t i) :: tf n (i + 1) t
noncomputable def ut : Nat → AV := fun _ => uu
noncomputable def ud : List (Nat × AV) → (Nat → AV) → Nat → AV
 | [], t, i => t i
 | (j, v) :: r, t, i => match zb4 j i with
  | true => v
  | false => ud r t i
theorem AaG : ∀ (n i : Nat) (t : Nat → AV), tf n i t = (List.range' i n).map fun j => (j, t j)
 | 0, _, _ => rfl
 | n + 1, i, t => by
  rw [tf, AaG n (i + 1) t, List.range'_succ, zaq]
theorem AkW (nt : Nat) (tm : Tm) : nrm nt tm = tf nt 0 (fun i => gt tm i) := by
 rw [AaG, nrm, List.range_eq_range']
theorem Bt {nt m : Nat} {body : Tm → Ad → (Ex → Tm → Ad → Option β) → Option β} {c c' : Ex → Tm → Ad → Option β} {g : (Nat → AV) → Ad → Option β} {tm : Tm} {H : Ad} (h : ∀ t H, D0 nt body c m (tf nt 0 t) H = g t H) (hc : c = c') : D0 nt body c (m + 1) tm H = body tm H (Eo (fun tm H => g (fun i => gt tm i) H) c') := by
 have e : (fun tm H => D0 nt body c m (nrm nt tm) H) = fun tm H => g (fun i => gt tm i) H := by
  funext tm H
  rw [AkW, h]
 rw [D0, e, hc]
noncomputable def Au (t : Nat) : Option TI := (tis[t]?).getD none
noncomputable def cd : Code → List Nat → Code
 | c, [] => c
 | .seq a b, i :: p => cd (if i = 0 then a else b) p
 | .cond _ a b, i :: p => cd (if i = 1 then a else b) p
 | .block _ a, _ :: p => cd a p
 | .loop a, _ :: p => cd a p
 | c, _ => c
abbrev Om (i : F1) (f : (β : Type) → Pr β → Nat → AV → Ad → KO β → Option β) : Prop := ∀ {β : Type} (p : Pr β) (n : Nat) (a0 : AV) (H : Ad) (k : KO β), Cr Au p n i [a0] H k = f β p n a0 H k
abbrev Ll (i : F1) (f : (β : Type) → Pr β → Nat → AV → AV → Ad → KO β → Option β) : Prop := ∀ {β : Type} (p : Pr β) (n : Nat) (a0 a1 : AV) (H : Ad) (k : KO β), Cr Au p n i [a0, a1] H k = f β p n a0 a1 H k
abbrev Bd3 (i : F1) (f : (β : Type) → Pr β → Nat → AV → AV → AV → Ad → KO β → Option β) : Prop := ∀ {β : Type} (p : Pr β) (n : Nat) (a0 a1 a2 : AV) (H : Ad) (k : KO β), Cr Au p n i [a0, a1, a2] H k = f β p n a0 a1 a2 H k
noncomputable def U4 (p : Pr β) (n : Nat)  (k : KO β) : Nat → AV → AV → KO β
 | 0, _, _, _, _ => none
 | m + 1, t0, t3, t4, H => p.len t0 fun t10 =>
   p.bin .lss t4 t10 fun t11 =>
   p.cond t11
   (p.iadr 1 t0 t4 fun t18 =>
   p.load false 1 t18 H fun t19 =>
   p.iadr 1 t3 t4 fun t20 =>
   p.store 1 t20 t19 H fun H =>
   p.bin .add t4 (si 1) fun t13 =>
   U4 p n  k m t0 t3 t13 H)
   (k t3 H)
noncomputable def f32 (p : Pr β) (n : Nat) (a0 : AV) (H : Ad) (k : KO β) : Option β :=
 p.len a0 fun t6 =>
 p.make 1 1 [(su 0)] t6 t6 H fun t7 H =>
 U4 p n  k n a0 t7 i0 H
noncomputable def AeH (p : Pr β) (n : Nat)  (k : KO β) (m : Nat) (tm : Tm) (H : Ad) : Option β :=
 D0 22 (fun tm H k => Al Au p [] 22 n (cd c32 [1, 1, 0, 1, 0, 0]) tm H k) (E7 0 (Eo (fun tm H => Al Au p [] 22 n (cd c32 [1, 1, 1]) tm H (Cu Au p fi32.results k)) (Cu Au p fi32.results k))) m tm H
theorem Adz (p : Pr β) (n : Nat)  (k : KO β) (m0 : Nat) : ∀ (t : Nat → AV) (H : Ad), AeH p n  k m0 (tf 22 0 t) H = U4 p n  k m0 (t 0) (t 3) (t 4) H := by
 induction m0 with
 | zero => intros; rfl
 | succ m0 ih =>
  intro t H
  refine Eq.trans (Bt (nt := 22) (m := m0) (g := fun t H => U4 p n  k m0 (t 0) (t 3) (t 4) H) ih rfl) ?_
  kernel_rfl
theorem AhM (p : Pr β) (n : Nat) (a0 : AV) (H : Ad) (k : KO β) : Cr Au p n fi32 [a0] H k =
 p.len a0 fun t6 =>
 p.make 1 1 [(su 0)] t6 t6 H fun t7 H =>
 AeH p n  k n (tf 22 0 (ud [(0, a0), (2, .nl), (3, t7), (4, i0), (5, a0), (6, t6), (7, t7)] ut)) H := by kernel_rfl
theorem AeI : Om fi32 @f32 := fun p n a0 H k => by
 rw [AhM]
 simp only [Adz]
 kernel_rfl
noncomputable def f61 (p : Pr β) (n : Nat) (a0 : AV) (H : Ad) (k : KO β) : Option β :=
 p.bin .quo a0 (si 16) fun t7 =>
 p.bin .rem a0 (si 16) fun t9 =>
 p.bin .eql t7 i0 fun t12 =>
 E8 (fun (t4 t10 t11 : AV) (H : Ad) => p.cond t11
 (k bF H)
 (p.bin .eql t10 (si 3) fun t15 =>
 p.cond t15
 (p.bin .quo t4 (si 2) fun t17 =>
 p.bin .rem t17 (si 4) fun t18 =>
 p.bin .lss t18 (si 3) fun t20 =>
 p.kT t20 H t18 fun t22 H =>
 p.gT t20 H (p.bin .gtr t22 i0) fun t23 H =>
 p.kT t20 H t23 fun t24 H =>
 p.kF t24 H t4 fun t25 H =>
 p.gF t24 H (p.bin .lss t25 (si 8)) fun t26 H =>
 p.gT t20 H (p.pick t24 bT t26) fun t27 H =>
 p.pick t20 t27 bF fun t28 =>
 k t28 H)
 (p.bin .eql t10 (si 6) fun t30 =>
 E8 (fun (t4 t29 : AV) (H : Ad) => p.cond t29
 (p.bin .eql t4 (si 2) fun t34 =>
 k t34 H)
 (p.bin .eql t4 i0 fun t36 =>
 k t36 H)) fun j2 =>
 p.cond t30
 (j2 t4 t30 H)
 (p.bin .eql t10 (si 8) fun t31 =>
 p.cond t31
 (j2 t4 t31 H)
 (p.bin .eql t10 (si 10) fun t32 =>
 j2 t4 t32 H))))) fun j1 =>
 p.cond t12
 (j1 t9 t7 t12 H)
 (p.bin .eql t7 (si 15) fun t13 =>
 j1 t9 t7 t13 H)
theorem Afh : Om Al0 @f61 := fun p n a0 H k => by kernel_rfl
noncomputable def Qn (p : Pr β) (n : Nat)  (k : KO β) : Nat → AV → AV → AV → KO β
 | 0, _, _, _, _, _ => none
 | m + 1, t0, t1, t7, t8, H => p.bin .lss t8 (si 4) fun t19 =>
   p.cond t19
   (p.bin .add t1 t8 fun t24 =>
   p.len t0 fun t26 =>
   p.bin .geq t24 t26 fun t27 =>
   p.cond t27
   (k (Dn [i0, i0, (si 1)]) H)
   (p.bin .add t1 t8 fun t31 =>
   p.iadr 1 t0 t31 fun t32 =>
   p.load false 1 t32 H fun t33 =>
   p.cvI .i64 t33 fun t34 =>
   p.bin .and t34 (si 127) fun t37 =>
   p.bin .mul (si 7) t8 fun t39 =>
   p.bin .shl t37 t39 fun t40 =>
   p.bin .or t7 t40 fun t41 =>
   p.bin .lss t34 (si 128) fun t43 =>
   p.cond t43
   (p.bin .gtr t8 i0 fun t45 =>
   p.kT t45 H t34 fun t47 H =>
   p.gT t45 H (p.bin .eql t47 i0) fun t48 H =>
   p.pick t45 t48 bF fun t49 =>
   p.cond t49
   (k (Dn [i0, i0, (si 2)]) H)
   (p.bin .add t1 t8 fun t53 =>
   p.bin .add t53 (si 1) fun t54 =>
   k (Dn [t41, t54, i0]) H))
   (p.bin .add t8 (si 1) fun t21 =>
   Qn p n  k m t0 t1 t41 t21 H)))
   (k (Dn [i0, i0, (si 2)]) H)
noncomputable def f62 (p : Pr β) (n : Nat) (a0 a1 : AV) (H : Ad) (k : KO β) : Option β :=
 p.bin .lss a1 i0 fun t11 =>
 p.kF t11 H a1 fun t13 H =>
 p.kF t11 H a0 fun t14 H =>
 p.gF t11 H (p.len t14) fun t15 H =>
 p.gF t11 H (p.bin .gtr t13 t15) fun t16 H =>
 p.pick t11 bT t16 fun t17 =>
 p.cond t17
 (k (Dn [i0, i0, (si 2)]) H)
 (Qn p n  k n a0 a1 i0 i0 H)
noncomputable def Afi (p : Pr β) (n : Nat)  (k : KO β) (m : Nat) (tm : Tm) (H : Ad) : Option β :=
 D0 55 (fun tm H k => Al Au p [] 55 n (cd c62 [1, 1, 1, 0, 1, 0, 0]) tm H k) (E7 0 (Eo (fun tm H => Al Au p [] 55 n (cd c62 [1, 1, 1, 1]) tm H (Cu Au p fi62.results k)) (Cu Au p fi62.results k))) m tm H
theorem AdA (p : Pr β) (n : Nat)  (k : KO β) (m0 : Nat) : ∀ (t : Nat → AV) (H : Ad), Afi p n  k m0 (tf 55 0 t) H = Qn p n  k m0 (t 0) (t 1) (t 7) (t 8) H := by
 induction m0 with
 | zero => intros; rfl
 | succ m0 ih =>
  intro t H
  refine Eq.trans (Bt (nt := 55) (m := m0) (g := fun t H => Qn p n  k m0 (t 0) (t 1) (t 7) (t 8) H) ih rfl) ?_
  kernel_rfl
theorem AhX (p : Pr β) (n : Nat) (a0 a1 : AV) (H : Ad) (k : KO β) : Cr Au p n fi62 [a0, a1] H k =
 p.bin .lss a1 i0 fun t11 =>
 p.kF t11 H a1 fun t13 H =>
 p.kF t11 H a0 fun t14 H =>
 p.gF t11 H (p.len t14) fun t15 H =>
 p.gF t11 H (p.bin .gtr t13 t15) fun t16 H =>
 p.pick t11 bT t16 fun t17 =>
 p.cond t17
 (k (Dn [i0, i0, (si 2)]) H)
 (Afi p n  k n (tf 55 0 (ud [(0, a0), (1, a1), (4, i0), (5, i0), (6, i0), (7, i0), (8, i0), (10, a1), (11, t11), (12, t11), (13, t13), (14, t14), (15, t15), (16, t16), (17, t17)] ut)) H) := by kernel_rfl
theorem Afj : Ll fi62 @f62 := fun p n a0 a1 H k => by
 rw [AhX]
 simp only [AdA]
 kernel_rfl
noncomputable def f88 (p : Pr β) (n : Nat) (a0 a1 : AV) (H : Ad) (k : KO β) : Option β :=
 p.bin .lss a1 i0 fun t8 =>
 p.kF t8 H a1 fun t10 H =>
 p.kF t8 H a0 fun t11 H =>
 p.gF t8 H (p.len t11) fun t12 H =>
 p.gF t8 H (p.bin .sub t12 (si 2)) fun t13 H =>
 p.gF t8 H (p.bin .gtr t10 t13) fun t14 H =>
 p.pick t8 bT t14 fun t15 =>
 p.cond t15
 (k (Dn [i0, i0, bF]) H)
 (p.iadr 1 a0 a1 fun t18 =>
 p.load false 1 t18 H fun t19 =>
 p.cvI .i64 t19 fun t20 =>
 p.bin .mul t20 (si 256) fun t21 =>
 p.bin .add a1 (si 1) fun t24 =>
 p.iadr 1 a0 t24 fun t25 =>
 p.load false 1 t25 H fun t26 =>
 p.cvI .i64 t26 fun t27 =>
 p.bin .add t21 t27 fun t28 =>
 p.bin .add a1 (si 2) fun t30 =>
 k (Dn [t28, t30, bT]) H)
theorem AfC : Ll AlB @f88 := fun p n a0 a1 H k => by kernel_rfl
noncomputable def f126 (p : Pr β) (n : Nat) (a0 a1 : AV) (H : Ad) (k : KO β) : Option β :=
 p.call 110 (.fn 88 [] []) [a0, a1] H fun t13 H =>
 p.extr t13 0 fun t14 =>
 p.extr t13 1 fun t15 =>
 p.extr t13 2 fun t16 =>
 p.un .not t16 fun t18 =>
 p.kF t18 H t14 fun t20 H =>
 p.gF t18 H (p.bin .gtr t20 (si 60)) fun t21 H =>
 p.pick t18 bT t21 fun t22 =>
 p.kF t22 H t14 fun t24 H =>
 p.kF t22 H a0 fun t25 H =>
 p.gF t22 H (p.len t25) fun t26 H =>
 p.kF t22 H t15 fun t27 H =>
 p.gF t22 H (p.bin .sub t26 t27) fun t28 H =>
 p.gF t22 H (p.bin .gtr t24 t28) fun t29 H =>
 p.pick t22 bT t29 fun t30 =>
 p.cond t30
 (k (Dn [.nl, i0, bF]) H)
 (p.bin .add t15 t14 fun t37 =>
 p.slice 1 a0 (some t15) (some t37) fun t38 =>
 p.app 1 1 .nl t38 H fun t39 H =>
 p.bin .add t15 t14 fun t42 =>
 k (Dn [t39, t42, bT]) H)
theorem Adg : Ll Ajx @f126 := fun p n a0 a1 H k => by kernel_rfl
noncomputable def f81 (p : Pr β) (n : Nat) (a0 a1 a2 : AV) (H : Ad) (k : KO β) : Option β :=
 p.bin .geq a0 a1 fun t9 =>
 p.kT t9 H a0 fun t11 H =>
 p.kT t9 H a2 fun t12 H =>
 p.gT t9 H (p.bin .leq t11 t12) fun t13 H =>
 p.pick t9 t13 bF fun t14 =>
 k t14 H
theorem Af9 : Bd3 Al8 @f81 := fun p n a0 a1 a2 H k => by kernel_rfl
noncomputable def Jg (p : Pr β) (n : Nat)  (k : KO β) : Nat → AV → AV → AV → AV → AV → KO β
 | 0, _, _, _, _, _, _, _ => none
 | m + 1, t0, t1, t8, t9, t10, t11, H => p.bin .leq t11 t8 fun t67 =>
   p.cond t67
   (p.bin .add t1 t11 fun t73 =>
   p.iadr 1 t0 t73 fun t74 =>
   p.load false 1 t74 H fun t75 =>
   p.cvI .i64 t75 fun t76 =>
   p.bin .lss t76 (si 128) fun t78 =>
   p.kF t78 H t76 fun t80 H =>
   p.gF t78 H (p.bin .gtr t80 (si 191)) fun t81 H =>
   p.pick t78 bT t81 fun t82 =>
   p.cond t82
   (k (Dn [i0, i0, bF]) H)
   (p.bin .mul t10 (si 64) fun t84 =>
   p.bin .add t84 t76 fun t86 =>
   p.bin .sub t86 (si 128) fun t87 =>
   p.bin .add t11 (si 1) fun t69 =>
   Jg p n  k m t0 t1 t8 t9 t87 t69 H))
   (p.bin .lss t10 t9 fun t90 =>
   p.kF t90 H t10 fun t92 H =>
   p.gF t90 H (p.bin .gtr t92 (si 1114111)) fun t93 H =>
   p.pick t90 bT t93 fun t94 =>
   p.kF t94 H t10 fun t96 H =>
   p.hF t94 H (p.call 4 (.fn 81 [] []) [t96, (si 55296), (si 57343)] H) fun t97 H =>
   p.pick t94 bT t97 fun t98 =>
   p.cond t98
   (k (Dn [i0, i0, bF]) H)
   (p.bin .add t1 (si 1) fun t101 =>
   p.bin .add t101 t8 fun t103 =>
   k (Dn [t10, t103, bT]) H))
noncomputable def f143 (p : Pr β) (n : Nat) (a0 a1 : AV) (H : Ad) (k : KO β) : Option β :=
 p.bin .lss a1 i0 fun t14 =>
 p.kF t14 H a1 fun t16 H =>
 p.kF t14 H a0 fun t17 H =>
 p.gF t14 H (p.len t17) fun t18 H =>
 p.gF t14 H (p.bin .geq t16 t18) fun t19 H =>
 p.pick t14 bT t19 fun t20 =>
 p.cond t20
 (k (Dn [i0, i0, bF]) H)
 (p.iadr 1 a0 a1 fun t23 =>
 p.load false 1 t23 H fun t24 =>
 p.cvI .i64 t24 fun t25 =>
 p.bin .lss t25 (si 128) fun t27 =>
 p.cond t27
 (p.bin .add a1 (si 1) fun t30 =>
 k (Dn [t25, t30, bT]) H)
 (p.bin .geq t25 (si 192) fun t33 =>
 p.kT t33 H t25 fun t35 H =>
 p.gT t33 H (p.bin .lss t35 (si 224)) fun t36 H =>
 p.pick t33 t36 bF fun t37 =>
 p.cond t37
 (p.bin .and t25 (si 31) fun t39 =>
 p.len a0 fun t60 =>
 p.bin .sub t60 (si 1) fun t61 =>
 p.bin .sub t61 (si 1) fun t63 =>
 p.bin .gtr a1 t63 fun t64 =>
 p.cond t64
 (k (Dn [i0, i0, bF]) H)
 (Jg p n  k n a0 a1 (si 1) (si 128) t39 (si 1) H))
 (p.bin .geq t25 (si 224) fun t42 =>
 p.kT t42 H t25 fun t44 H =>
 p.gT t42 H (p.bin .lss t44 (si 240)) fun t45 H =>
 p.pick t42 t45 bF fun t46 =>
 p.cond t46
 (p.bin .and t25 (si 15) fun t48 =>
 p.len a0 fun t60 =>
 p.bin .sub t60 (si 1) fun t61 =>
 p.bin .sub t61 (si 2) fun t63 =>
 p.bin .gtr a1 t63 fun t64 =>
 p.cond t64
 (k (Dn [i0, i0, bF]) H)
 (Jg p n  k n a0 a1 (si 2) (si 2048) t48 (si 1) H))
 (p.bin .geq t25 (si 240) fun t51 =>
 p.kT t51 H t25 fun t53 H =>
 p.gT t51 H (p.bin .lss t53 (si 248)) fun t54 H =>
 p.pick t51 t54 bF fun t55 =>
 p.cond t55
 (p.bin .and t25 (si 7) fun t57 =>
 p.len a0 fun t60 =>
 p.bin .sub t60 (si 1) fun t61 =>
 p.bin .sub t61 (si 3) fun t63 =>
 p.bin .gtr a1 t63 fun t64 =>
 p.cond t64
 (k (Dn [i0, i0, bF]) H)
 (Jg p n  k n a0 a1 (si 3) (si 65536) t57 (si 1) H))
 (k (Dn [i0, i0, bF]) H)))))
noncomputable def Ua (p : Pr β) (n : Nat)  (k : KO β) (m : Nat) (tm : Tm) (H : Ad) : Option β :=
 D0 104 (fun tm H k => Al Au p [] 104 n (cd AjW [1, 1, 1, 1, 1, 1, 1, 1, 1, 0, 1, 0, 0]) tm H k) (E7 1 (Eo (fun tm H => Al Au p [] 104 n (cd AjW [1, 1, 1, 1, 1, 1, 1, 1, 1, 1]) tm H (Cu Au p fi143.results k)) (Cu Au p fi143.results k))) m tm H
theorem Abp (p : Pr β) (n : Nat)  (k : KO β) (m0 : Nat) : ∀ (t : Nat → AV) (H : Ad), Ua p n  k m0 (tf 104 0 t) H = Jg p n  k m0 (t 0) (t 1) (t 8) (t 9) (t 10) (t 11) H := by
 induction m0 with
 | zero => intros; rfl
 | succ m0 ih =>
  intro t H
  refine Eq.trans (Bt (nt := 104) (m := m0) (g := fun t H => Jg p n  k m0 (t 0) (t 1) (t 8) (t 9) (t 10) (t 11) H) ih rfl) ?_
  kernel_rfl
theorem AeF (p : Pr β) (n : Nat) (a0 a1 : AV) (H : Ad) (k : KO β) : Cr Au p n fi143 [a0, a1] H k =
 p.bin .lss a1 i0 fun t14 =>
 p.kF t14 H a1 fun t16 H =>
 p.kF t14 H a0 fun t17 H =>
 p.gF t14 H (p.len t17) fun t18 H =>
 p.gF t14 H (p.bin .geq t16 t18) fun t19 H =>
 p.pick t14 bT t19 fun t20 =>
 p.cond t20
 (k (Dn [i0, i0, bF]) H)
 (p.iadr 1 a0 a1 fun t23 =>
 p.load false 1 t23 H fun t24 =>
 p.cvI .i64 t24 fun t25 =>
 p.bin .lss t25 (si 128) fun t27 =>
 p.cond t27
 (p.bin .add a1 (si 1) fun t30 =>
 k (Dn [t25, t30, bT]) H)
 (p.bin .geq t25 (si 192) fun t33 =>
 p.kT t33 H t25 fun t35 H =>
 p.gT t33 H (p.bin .lss t35 (si 224)) fun t36 H =>
 p.pick t33 t36 bF fun t37 =>
 p.cond t37
 (p.bin .and t25 (si 31) fun t39 =>
 p.len a0 fun t60 =>
 p.bin .sub t60 (si 1) fun t61 =>
 p.bin .sub t61 (si 1) fun t63 =>
 p.bin .gtr a1 t63 fun t64 =>
 p.cond t64
 (k (Dn [i0, i0, bF]) H)
 (Ua p n  k n (tf 104 0 (ud [(0, a0), (1, a1), (4, i0), (5, i0), (6, bF), (7, t25), (8, (si 1)), (9, (si 128)), (10, t39), (11, (si 1)), (13, a1), (14, t14), (15, t14), (16, t16), (17, t17), (18, t18), (19, t19), (20, t20), (21, a0), (22, a1), (23, t23), (24, t24), (25, t25), (26, t25), (27, t27), (31, t37), (32, t25), (33, t33), (34, t33), (35, t35), (36, t36), (37, t37), (38, t25), (39, t39), (58, a1), (59, a0), (60, t60), (61, t61), (62, (si 1)), (63, t63), (64, t64)] ut)) H))
 (p.bin .geq t25 (si 224) fun t42 =>
 p.kT t42 H t25 fun t44 H =>
 p.gT t42 H (p.bin .lss t44 (si 240)) fun t45 H =>
 p.pick t42 t45 bF fun t46 =>
 p.cond t46
 (p.bin .and t25 (si 15) fun t48 =>
 p.len a0 fun t60 =>
 p.bin .sub t60 (si 1) fun t61 =>
 p.bin .sub t61 (si 2) fun t63 =>
 p.bin .gtr a1 t63 fun t64 =>
 p.cond t64
 (k (Dn [i0, i0, bF]) H)
 (Ua p n  k n (tf 104 0 (ud [(0, a0), (1, a1), (4, i0), (5, i0), (6, bF), (7, t25), (8, (si 2)), (9, (si 2048)), (10, t48), (11, (si 1)), (13, a1), (14, t14), (15, t14), (16, t16), (17, t17), (18, t18), (19, t19), (20, t20), (21, a0), (22, a1), (23, t23), (24, t24), (25, t25), (26, t25), (27, t27), (31, t37), (32, t25), (33, t33), (34, t33), (35, t35), (36, t36), (37, t37), (40, t46), (41, t25), (42, t42), (43, t42), (44, t44), (45, t45), (46, t46), (47, t25), (48, t48), (58, a1), (59, a0), (60, t60), (61, t61), (62, (si 2)), (63, t63), (64, t64)] ut)) H))
 (p.bin .geq t25 (si 240) fun t51 =>
 p.kT t51 H t25 fun t53 H =>
 p.gT t51 H (p.bin .lss t53 (si 248)) fun t54 H =>
 p.pick t51 t54 bF fun t55 =>
 p.cond t55
 (p.bin .and t25 (si 7) fun t57 =>
 p.len a0 fun t60 =>
 p.bin .sub t60 (si 1) fun t61 =>
 p.bin .sub t61 (si 3) fun t63 =>
 p.bin .gtr a1 t63 fun t64 =>
 p.cond t64
 (k (Dn [i0, i0, bF]) H)
 (Ua p n  k n (tf 104 0 (ud [(0, a0), (1, a1), (4, i0), (5, i0), (6, bF), (7, t25), (8, (si 3)), (9, (si 65536)), (10, t57), (11, (si 1)), (13, a1), (14, t14), (15, t14), (16, t16), (17, t17), (18, t18), (19, t19), (20, t20), (21, a0), (22, a1), (23, t23), (24, t24), (25, t25), (26, t25), (27, t27), (31, t37), (32, t25), (33, t33), (34, t33), (35, t35), (36, t36), (37, t37), (40, t46), (41, t25), (42, t42), (43, t42), (44, t44), (45, t45), (46, t46), (49, t55), (50, t25), (51, t51), (52, t51), (53, t53), (54, t54), (55, t55), (56, t25), (57, t57), (58, a1), (59, a0), (60, t60), (61, t61), (62, (si 3)), (63, t63), (64, t64)] ut)) H))
 (k (Dn [i0, i0, bF]) H))))) := by kernel_rfl
theorem Adv : Ll fi143 @f143 := fun p n a0 a1 H k => by
 rw [AeF]
 simp only [Abp]
 kernel_rfl
noncomputable def Pu (p : Pr β) (n : Nat)  (k : KO β) : Nat → AV → AV → KO β
 | 0, _, _, _, _ => none
 | m + 1, t3, t4, t5, H => p.len t3 fun t16 =>
   p.bin .lss t5 t16 fun t17 =>
   p.cond t17
   (p.call 110 (.fn 143 [] []) [t3, t5] H fun t21 H =>
   p.extr t21 0 fun t22 =>
   p.extr t21 1 fun t23 =>
   p.extr t21 2 fun t24 =>
   p.un .not t24 fun t26 =>
   p.kF t26 H t22 fun t28 H =>
   p.gF t26 H (p.bin .eql t28 i0) fun t29 H =>
   p.pick t26 bT t29 fun t30 =>
   p.cond t30
   (k (si (-1)) H)
   (p.bin .add t4 (si 1) fun t33 =>
   Pu p n  k m t3 t33 t23 H))
   (k t4 H)
noncomputable def f115 (p : Pr β) (n : Nat) (a0 : AV) (H : Ad) (k : KO β) : Option β :=
 p.lenS a0 fun t10 =>
 p.bin .gtr t10 (si 60) fun t11 =>
 p.cond t11
 (k (si (-1)) H)
 (p.cvSB a0 H fun t13 H =>
 Pu p n  k n t13 i0 i0 H)
noncomputable def Aci (p : Pr β) (n : Nat)  (k : KO β) (m : Nat) (tm : Tm) (H : Ad) : Option β :=
 D0 35 (fun tm H k => Al Au p [] 35 n (cd AjP [1, 1, 1, 1, 0, 1, 0, 0]) tm H k) (E7 0 (Eo (fun tm H => Al Au p [] 35 n (cd AjP [1, 1, 1, 1, 1]) tm H (Cu Au p fi115.results k)) (Cu Au p fi115.results k))) m tm H
theorem Abi (p : Pr β) (n : Nat)  (k : KO β) (m0 : Nat) : ∀ (t : Nat → AV) (H : Ad), Aci p n  k m0 (tf 35 0 t) H = Pu p n  k m0 (t 3) (t 4) (t 5) H := by
 induction m0 with
 | zero => intros; rfl
 | succ m0 ih =>
  intro t H
  refine Eq.trans (Bt (nt := 35) (m := m0) (g := fun t H => Pu p n  k m0 (t 3) (t 4) (t 5) H) ih rfl) ?_
  kernel_rfl
theorem Ae8 (p : Pr β) (n : Nat) (a0 : AV) (H : Ad) (k : KO β) : Cr Au p n fi115 [a0] H k =
 p.lenS a0 fun t10 =>
 p.bin .gtr t10 (si 60) fun t11 =>
 p.cond t11
 (k (si (-1)) H)
 (p.cvSB a0 H fun t13 H =>
 Aci p n  k n (tf 35 0 (ud [(0, a0), (2, i0), (3, t13), (4, i0), (5, i0), (9, a0), (10, t10), (11, t11), (12, a0), (13, t13)] ut)) H) := by kernel_rfl
theorem Ade : Om fi115 @f115 := fun p n a0 H k => by
 rw [Ae8]
 simp only [Abi]
 kernel_rfl
noncomputable def f80 (p : Pr β) (n : Nat) (a0 : AV) (H : Ad) (k : KO β) : Option β :=
 p.call 3 (.fn 115 [] []) [a0] H fun t4 H =>
 p.bin .geq t4 i0 fun t5 =>
 k t5 H
theorem Af8 : Om Al7 @f80 := fun p n a0 H k => by kernel_rfl
noncomputable def f87 (p : Pr β) (n : Nat) (a0 a1 : AV) (H : Ad) (k : KO β) : Option β :=
 p.call 131 (.fn 126 [] []) [a0, a1] H fun t13 H =>
 p.extr t13 0 fun t14 =>
 p.extr t13 1 fun t15 =>
 p.extr t13 2 fun t16 =>
 p.un .not t16 fun t18 =>
 p.kF t18 H t14 fun t20 H =>
 p.gF t18 H (p.cvBS t20 H) fun t21 H =>
 p.hF t18 H (p.call 4 (.fn 80 [] []) [t21] H) fun t22 H =>
 p.gF t18 H (p.un .not t22) fun t23 H =>
 p.pick t18 bT t23 fun t24 =>
 p.cond t24
 (k (Dn [sE, i0, bF]) H)
 (p.cvBS t14 H fun t26 =>
 k (Dn [t26, t15, bT]) H)
theorem AfB : Ll AlA @f87 := fun p n a0 a1 H k => by kernel_rfl
noncomputable def f86 (p : Pr β) (n : Nat) (a0 : AV) (H : Ad) (k : KO β) : Option β :=
 p.new E2 H fun t2 H =>
 p.fill E2 [(0, 1, (si 1))] fun ct26 =>
 p.new E2 H fun t3 H =>
 p.store 25 t3 (.agg ct26) H fun H =>
 p.call 108 (.fn 87 [] []) [a0, i0] H fun t29 H =>
 p.extr t29 0 fun t30 =>
 p.extr t29 1 fun t31 =>
 p.extr t29 2 fun t32 =>
 p.un .not t32 fun t34 =>
 p.kF t34 H t30 fun t36 H =>
 p.gF t34 H (p.bin .neq t36 (.sc (.string ⟨#[77, 81, 84, 84]⟩))) fun t37 H =>
 p.pick t34 bT t37 fun t38 =>
 p.kF t38 H t31 fun t40 H =>
 p.kF t38 H a0 fun t41 H =>
 p.gF t38 H (p.len t41) fun t42 H =>
 p.gF t38 H (p.bin .sub t42 (si 2)) fun t43 H =>
 p.gF t38 H (p.bin .gtr t40 t43) fun t44 H =>
 p.pick t38 bT t44 fun t45 =>
 p.cond t45
 (p.fill E2 [] fun ct46 =>
 p.store 25 t2 (.agg ct46) H fun H =>
 p.load true 25 t2 H fun r0 =>
 k r0 H)
 (p.iadr 1 a0 t31 fun t49 =>
 p.load false 1 t49 H fun t50 =>
 p.cvI .i64 t50 fun t51 =>
 p.fadr 8 t3 fun t52 =>
 p.store 1 t52 t51 H fun H =>
 p.bin .add t31 (si 1) fun t55 =>
 p.iadr 1 a0 t55 fun t56 =>
 p.load false 1 t56 H fun t57 =>
 p.cvI .i64 t57 fun t58 =>
 p.bin .and t58 (si 2) fun t60 =>
 p.bin .gtr t60 i0 fun t61 =>
 p.fadr 9 t3 fun t62 =>
 p.store 1 t62 t61 H fun H =>
 p.bin .and t58 (si 4) fun t64 =>
 p.bin .gtr t64 i0 fun t65 =>
 p.fadr 11 t3 fun t66 =>
 p.store 1 t66 t65 H fun H =>
 p.bin .shr t58 (.sc (.int .u64 3)) fun t68 =>
 p.bin .and t68 (si 3) fun t69 =>
 p.fadr 14 t3 fun t70 =>
 p.store 1 t70 t69 H fun H =>
 p.bin .and t58 (si 32) fun t72 =>
 p.bin .gtr t72 i0 fun t73 =>
 p.fadr 15 t3 fun t74 =>
 p.store 1 t74 t73 H fun H =>
 p.bin .and t58 (si 64) fun t76 =>
 p.bin .gtr t76 i0 fun t77 =>
 p.fadr 18 t3 fun t78 =>
 p.store 1 t78 t77 H fun H =>
 p.bin .and t58 (si 128) fun t80 =>
 p.bin .gtr t80 i0 fun t81 =>
 p.fadr 16 t3 fun t82 =>
 p.store 1 t82 t81 H fun H =>
 p.bin .add t31 (si 2) fun t86 =>
 p.call 110 (.fn 88 [] []) [a0, t86] H fun t87 H =>
 p.extr t87 0 fun t88 =>
 p.extr t87 1 fun t89 =>
 p.extr t87 2 fun t90 =>
 p.fadr 10 t3 fun t92 =>
 p.store 1 t92 t88 H fun H =>
 p.call 108 (.fn 87 [] []) [a0, t89] H fun t96 H =>
 p.extr t96 0 fun t97 =>
 p.extr t96 1 fun t98 =>
 p.extr t96 2 fun t99 =>
 p.fadr 7 t3 fun t101 =>
 p.store 1 t101 t97 H fun H =>
 p.un .not t90 fun t103 =>
 p.kF t103 H t99 fun t105 H =>
 p.gF t103 H (p.un .not t105) fun t106 H =>
 p.pick t103 bT t106 fun t107 =>
 p.cond t107
 (p.fill E2 [] fun ct108 =>
 p.store 25 t2 (.agg ct108) H fun H =>
 p.load true 25 t2 H fun r0 =>
 k r0 H)
 (p.fadr 11 t3 fun t110 =>
 p.load false 1 t110 H fun t111 =>
 E8 (fun (t0 t2 t3 t5 : AV) (H : Ad) => p.fadr 16 t3 fun t138 =>
 p.load false 1 t138 H fun t139 =>
 E8 (fun (t0 t2 t3 t5 : AV) (H : Ad) => p.fadr 18 t3 fun t153 =>
 p.load false 1 t153 H fun t154 =>
 E8 (fun (t2 t3 : AV) (H : Ad) => p.load true 25 t3 H fun t167 =>
 p.store 25 t2 t167 H fun H =>
 p.load true 25 t2 H fun r0 =>
 k r0 H) fun j3 =>
 p.cond t154
 (p.call 131 (.fn 126 [] []) [t0, t5] H fun t158 H =>
 p.extr t158 0 fun t159 =>
 p.extr t158 1 fun t160 =>
 p.extr t158 2 fun t161 =>
 p.un .not t161 fun t163 =>
 p.cond t163
 (p.fill E2 [] fun ct164 =>
 p.store 25 t2 (.agg ct164) H fun H =>
 p.load true 25 t2 H fun r0 =>
 k r0 H)
 (p.fadr 19 t3 fun t166 =>
 p.store 1 t166 t159 H fun H =>
 j3 t2 t3 H))
 (j3 t2 t3 H)) fun j2 =>
 p.cond t139
 (p.call 108 (.fn 87 [] []) [t0, t5] H fun t143 H =>
 p.extr t143 0 fun t144 =>
 p.extr t143 1 fun t145 =>
 p.extr t143 2 fun t146 =>
 p.un .not t146 fun t148 =>
 p.cond t148
 (p.fill E2 [] fun ct149 =>
 p.store 25 t2 (.agg ct149) H fun H =>
 p.load true 25 t2 H fun r0 =>
 k r0 H)
 (p.fadr 17 t3 fun t151 =>
 p.store 1 t151 t144 H fun H =>
 j2 t0 t2 t3 t145 H))
 (j2 t0 t2 t3 t5 H)) fun j1 =>
 p.cond t111
 (p.call 108 (.fn 87 [] []) [a0, t98] H fun t115 H =>
 p.extr t115 0 fun t116 =>
 p.extr t115 1 fun t117 =>
 p.extr t115 2 fun t118 =>
 p.call 131 (.fn 126 [] []) [a0, t117] H fun t122 H =>
 p.extr t122 0 fun t123 =>
 p.extr t122 1 fun t124 =>
 p.extr t122 2 fun t125 =>
 p.un .not t118 fun t127 =>
 p.kF t127 H t125 fun t129 H =>
 p.gF t127 H (p.un .not t129) fun t130 H =>
 p.pick t127 bT t130 fun t131 =>
 p.cond t131
 (p.fill E2 [] fun ct132 =>
 p.store 25 t2 (.agg ct132) H fun H =>
 p.load true 25 t2 H fun r0 =>
 k r0 H)
 (p.fadr 12 t3 fun t134 =>
 p.store 1 t134 t116 H fun H =>
 p.fadr 13 t3 fun t136 =>
 p.store 1 t136 t123 H fun H =>
 j1 a0 t2 t3 t124 H))
 (j1 a0 t2 t3 t98 H)))
theorem AfA : Om Al9 @f86 := fun p n a0 H k => by kernel_rfl
noncomputable def Ow (p : Pr β) (n : Nat)  (k : KO β) : Nat → AV → AV → AV → KO β
 | 0, _, _, _, _, _ => none
 | m + 1, t1, t4, t5, t6, H => p.len t1 fun t134 =>
   p.bin .lss t6 t134 fun t135 =>
   p.gT t135 H (p.fadr 0 t5) fun t137 H =>
   p.gT t135 H (p.load false 1 t137 H) fun t138 H =>
   p.gT t135 H (p.bin .eql t138 (si 8)) fun t139 H =>
   p.kT t135 H t139 fun t140 H =>
   p.gF t140 H (p.fadr 0 t5) fun t141 H =>
   p.gF t140 H (p.load false 1 t141 H) fun t142 H =>
   p.gF t140 H (p.bin .eql t142 (si 10)) fun t143 H =>
   p.gT t135 H (p.pick t140 bT t143) fun t144 H =>
   p.pick t135 t144 bF fun t145 =>
   p.cond t145
   (p.call 108 (.fn 87 [] []) [t1, t6] H fun t149 H =>
   p.extr t149 0 fun t150 =>
   p.extr t149 1 fun t151 =>
   p.extr t149 2 fun t152 =>
   p.un .not t152 fun t154 =>
   p.cond t154
   (p.fill E2 [] fun ct155 =>
   p.store 25 t4 (.agg ct155) H fun H =>
   p.load true 25 t4 H fun r0 =>
   k r0 H)
   (p.fadr 0 t5 fun t157 =>
   p.load false 1 t157 H fun t158 =>
   p.bin .eql t158 (si 10) fun t159 =>
   p.cond t159
   (p.fadr 23 t5 fun t160 =>
   p.load false 1 t160 H fun t161 =>
   p.fill [sE] [(0, 1, t150)] fun ct163 => p.newSl 1 1 ct163 true H fun t163 H =>
   p.app 1 16 t161 t163 H fun t164 H =>
   p.fadr 23 t5 fun t165 =>
   p.store 1 t165 t164 H fun H =>
   Ow p n  k m t1 t4 t5 t151 H)
   (p.len t1 fun t168 =>
   p.bin .eql t151 t168 fun t169 =>
   p.cond t169
   (p.fill E2 [] fun ct170 =>
   p.store 25 t4 (.agg ct170) H fun H =>
   p.load true 25 t4 H fun r0 =>
   k r0 H)
   (p.fadr 22 t5 fun t171 =>
   p.load false 1 t171 H fun t172 =>
   p.iadr 1 t1 t151 fun t176 =>
   p.load false 1 t176 H fun t177 =>
   p.cvI .i64 t177 fun t178 =>
   p.fill [sE, i0] [(0, 1, t150), (1, 1, t178)] fun ct179 =>
   p.fill [sE, i0] [(0, 2, (.agg ct179))] fun ct180 => p.newSl 1 2 ct180 true H fun t180 H =>
   p.app 2 24 t172 t180 H fun t181 H =>
   p.fadr 22 t5 fun t182 =>
   p.store 1 t182 t181 H fun H =>
   p.bin .add t151 (si 1) fun t184 =>
   Ow p n  k m t1 t4 t5 t184 H))))
   (p.load true 25 t5 H fun t185 =>
   p.store 25 t4 t185 H fun H =>
   p.load true 25 t4 H fun r0 =>
   k r0 H)
noncomputable def Ox (p : Pr β) (n : Nat)  (k : KO β) : Nat → AV → AV → AV → AV → KO β
 | 0, _, _, _, _, _, _ => none
 | m + 1, t1, t4, t5, t6, t16, H => p.len t1 fun t118 =>
   p.bin .lss t16 t118 fun t119 =>
   p.cond t119
   (p.fadr 24 t5 fun t122 =>
   p.load false 1 t122 H fun t123 =>
   p.iadr 1 t1 t16 fun t126 =>
   p.load false 1 t126 H fun t127 =>
   p.cvI .i64 t127 fun t128 =>
   p.fill [i0] [(0, 1, t128)] fun ct129 => p.newSl 1 1 ct129 true H fun t129 H =>
   p.app 1 8 t123 t129 H fun t130 H =>
   p.fadr 24 t5 fun t131 =>
   p.store 1 t131 t130 H fun H =>
   p.bin .add t16 (si 1) fun t121 =>
   Ox p n  k m t1 t4 t5 t6 t121 H)
   (Ow p n  k n t1 t4 t5 t6 H)
noncomputable def f63 (p : Pr β) (n : Nat) (a0 a1 : AV) (H : Ad) (k : KO β) : Option β :=
 p.new E2 H fun t4 H =>
 p.bin .quo a0 (si 16) fun t21 =>
 p.fill E2 [(0, 1, t21)] fun ct22 =>
 p.new E2 H fun t5 H =>
 p.store 25 t5 (.agg ct22) H fun H =>
 p.fadr 0 t5 fun t23 =>
 p.load false 1 t23 H fun t24 =>
 p.bin .eql t24 (si 1) fun t25 =>
 p.cond t25
 (p.call 59 (.fn 86 [] []) [a1] H fun t27 H =>
 p.store 25 t4 t27 H fun H =>
 p.load true 25 t4 H fun r0 =>
 k r0 H)
 (p.fadr 0 t5 fun t28 =>
 p.load false 1 t28 H fun t29 =>
 p.bin .eql t29 (si 2) fun t30 =>
 p.kT t30 H a1 fun t32 H =>
 p.gT t30 H (p.len t32) fun t33 H =>
 p.gT t30 H (p.bin .eql t33 (si 2)) fun t34 H =>
 p.pick t30 t34 bF fun t35 =>
 p.cond t35
 (p.iadr 1 a1 i0 fun t37 =>
 p.load false 1 t37 H fun t38 =>
 p.bin .eql t38 (su 1) fun t39 =>
 p.fadr 21 t5 fun t40 =>
 p.store 1 t40 t39 H fun H =>
 p.iadr 1 a1 (si 1) fun t42 =>
 p.load false 1 t42 H fun t43 =>
 p.cvI .i64 t43 fun t44 =>
 p.fadr 20 t5 fun t45 =>
 p.store 1 t45 t44 H fun H =>
 p.load true 25 t5 H fun t46 =>
 p.store 25 t4 t46 H fun H =>
 p.load true 25 t4 H fun r0 =>
 k r0 H)
 (p.fadr 0 t5 fun t47 =>
 p.load false 1 t47 H fun t48 =>
 p.bin .eql t48 (si 3) fun t49 =>
 p.cond t49
 (p.bin .and a0 (si 8) fun t51 =>
 p.bin .gtr t51 i0 fun t52 =>
 p.fadr 1 t5 fun t53 =>
 p.store 1 t53 t52 H fun H =>
 p.bin .shr a0 (.sc (.int .u64 1)) fun t55 =>
 p.bin .and t55 (si 3) fun t56 =>
 p.fadr 2 t5 fun t57 =>
 p.store 1 t57 t56 H fun H =>
 p.bin .and a0 (si 1) fun t59 =>
 p.bin .gtr t59 i0 fun t60 =>
 p.fadr 3 t5 fun t61 =>
 p.store 1 t61 t60 H fun H =>
 p.call 108 (.fn 87 [] []) [a1, i0] H fun t64 H =>
 p.extr t64 0 fun t65 =>
 p.extr t64 1 fun t66 =>
 p.extr t64 2 fun t67 =>
 p.un .not t67 fun t69 =>
 p.cond t69
 (p.fill E2 [] fun ct70 =>
 p.store 25 t4 (.agg ct70) H fun H =>
 p.load true 25 t4 H fun r0 =>
 k r0 H)
 (p.fadr 5 t5 fun t72 =>
 p.store 1 t72 t65 H fun H =>
 p.fadr 2 t5 fun t74 =>
 p.load false 1 t74 H fun t75 =>
 p.bin .gtr t75 i0 fun t76 =>
 E8 (fun (t1 t4 t5 t6 : AV) (H : Ad) => p.slice 1 t1 (some t6) none fun t93 =>
 p.app 1 1 .nl t93 H fun t94 H =>
 p.fadr 6 t5 fun t95 =>
 p.store 1 t95 t94 H fun H =>
 p.load true 25 t5 H fun t96 =>
 p.store 25 t4 t96 H fun H =>
 p.load true 25 t4 H fun r0 =>
 k r0 H) fun j1 =>
 p.cond t76
 (p.call 110 (.fn 88 [] []) [a1, t66] H fun t80 H =>
 p.extr t80 0 fun t81 =>
 p.extr t80 1 fun t82 =>
 p.extr t80 2 fun t83 =>
 p.un .not t83 fun t85 =>
 p.cond t85
 (p.fill E2 [] fun ct86 =>
 p.store 25 t4 (.agg ct86) H fun H =>
 p.load true 25 t4 H fun r0 =>
 k r0 H)
 (p.fadr 4 t5 fun t88 =>
 p.store 1 t88 t81 H fun H =>
 j1 a1 t4 t5 t82 H))
 (j1 a1 t4 t5 t66 H)))
 (p.fadr 0 t5 fun t97 =>
 p.load false 1 t97 H fun t98 =>
 p.bin .lss t98 (si 12) fun t99 =>
 E8 (fun (t1 t4 t5 t6 : AV) (H : Ad) => p.fadr 0 t5 fun t112 =>
 p.load false 1 t112 H fun t113 =>
 p.bin .eql t113 (si 9) fun t114 =>
 E8 (fun (t1 t4 t5 t6 : AV) (H : Ad) => Ow p n  k n t1 t4 t5 t6 H) fun j3 =>
 p.cond t114
 (Ox p n  k n t1 t4 t5 t6 t6 H)
 (j3 t1 t4 t5 t6 H)) fun j2 =>
 p.cond t99
 (p.call 110 (.fn 88 [] []) [a1, i0] H fun t102 H =>
 p.extr t102 0 fun t103 =>
 p.extr t102 1 fun t104 =>
 p.extr t102 2 fun t105 =>
 p.un .not t105 fun t107 =>
 p.cond t107
 (p.fill E2 [] fun ct108 =>
 p.store 25 t4 (.agg ct108) H fun H =>
 p.load true 25 t4 H fun r0 =>
 k r0 H)
 (p.fadr 4 t5 fun t110 =>
 p.store 1 t110 t103 H fun H =>
 j2 a1 t4 t5 t104 H))
 (j2 a1 t4 t5 i0 H))))
noncomputable def Abq (p : Pr β) (n : Nat)  (k : KO β) (m : Nat) (tm : Tm) (H : Ad) : Option β :=
 D0 186 (fun tm H k => Al Au p o63 186 n (cd c63 [1, 1, 1, 1, 1, 1, 1, 1, 0, 0, 0]) tm H k) (E7 2 (Eo (fun tm H => Al Au p o63 186 n (cd c63 [1, 1, 1, 1, 1, 1, 1, 1, 1]) tm H (Cu Au p fi63.results k)) (Cu Au p fi63.results k))) m tm H
noncomputable def Afk (p : Pr β) (n : Nat)  (k : KO β) (m : Nat) (tm : Tm) (H : Ad) : Option β :=
 D0 186 (fun tm H k => Al Au p o63 186 n (cd c63 [1, 1, 1, 1, 1, 1, 1, 0, 1, 1, 1, 0, 0]) tm H k) (E7 0 (Eo (fun tm H => Al Au p o63 186 n (cd c63 [1, 1, 1, 1, 1, 1, 1, 1]) tm H (Cu Au p fi63.results k)) (Cu Au p fi63.results k))) m tm H
theorem Xf (p : Pr β) (n : Nat)  (k : KO β) (m0 : Nat) : ∀ (t : Nat → AV) (H : Ad), Abq p n  k m0 (tf 186 0 t) H = Ow p n  k m0 (t 1) (t 4) (t 5) (t 6) H := by
 induction m0 with
 | zero => intros; rfl
 | succ m0 ih =>
  intro t H
  refine Eq.trans (Bt (nt := 186) (m := m0) (g := fun t H => Ow p n  k m0 (t 1) (t 4) (t 5) (t 6) H) ih rfl) ?_
  kernel_rfl
theorem Aad (p : Pr β) (n : Nat)  (k : KO β) (m1 : Nat) (t : Nat → AV) (H : Ad) : Al Au p o63 186 n (cd c63 [1, 1, 1, 1, 1, 1, 1, 0, 1, 1, 1, 0, 0]) (tf 186 0 t) H (Eo (fun tm H => Ox p n  k m1 (gt tm 1) (gt tm 4) (gt tm 5) (gt tm 6) (gt tm 16) H) (E7 0 (Eo (fun tm H => Al Au p o63 186 n (cd c63 [1, 1, 1, 1, 1, 1, 1, 1]) tm H (Cu Au p fi63.results k)) (Cu Au p fi63.results k)))) =
 p.len (t 1) fun t118 =>
 p.bin .lss (t 16) t118 fun t119 =>
 p.cond t119
 (p.fadr 24 (t 5) fun t122 =>
 p.load false 1 t122 H fun t123 =>
 p.iadr 1 (t 1) (t 16) fun t126 =>
 p.load false 1 t126 H fun t127 =>
 p.cvI .i64 t127 fun t128 =>
 p.fill [i0] [(0, 1, t128)] fun ct129 => p.newSl 1 1 ct129 true H fun t129 H =>
 p.app 1 8 t123 t129 H fun t130 H =>
 p.fadr 24 (t 5) fun t131 =>
 p.store 1 t131 t130 H fun H =>
 p.bin .add (t 16) (si 1) fun t121 =>
 Ox p n  k m1 (t 1) (t 4) (t 5) (t 6) t121 H)
 (Abq p n  k n (tf 186 0 (ud [(116, (t 16)), (117, (t 1)), (118, t118), (119, t119)] t)) H) := by kernel_rfl
theorem AdB (p : Pr β) (n : Nat)  (k : KO β) (m1 : Nat) : ∀ (t : Nat → AV) (H : Ad), Afk p n  k m1 (tf 186 0 t) H = Ox p n  k m1 (t 1) (t 4) (t 5) (t 6) (t 16) H := by
 induction m1 with
 | zero => intros; rfl
 | succ m1 ih =>
  intro t H
  refine Eq.trans (Bt (nt := 186) (m := m1) (g := fun t H => Ox p n  k m1 (t 1) (t 4) (t 5) (t 6) (t 16) H) ih rfl) ?_
  refine Eq.trans (Aad p n  k m1 t H) ?_
  simp only [Xf]
  kernel_rfl
theorem AhY (p : Pr β) (n : Nat) (a0 a1 : AV) (H : Ad) (k : KO β) : Cr Au p n fi63 [a0, a1] H k =
 p.new E2 H fun t4 H =>
 p.bin .quo a0 (si 16) fun t21 =>
 p.fill E2 [(0, 1, t21)] fun ct22 =>
 p.new E2 H fun t5 H =>
 p.store 25 t5 (.agg ct22) H fun H =>
 p.fadr 0 t5 fun t23 =>
 p.load false 1 t23 H fun t24 =>
 p.bin .eql t24 (si 1) fun t25 =>
 p.cond t25
 (p.call 59 (.fn 86 [] []) [a1] H fun t27 H =>
 p.store 25 t4 t27 H fun H =>
 p.load true 25 t4 H fun r0 =>
 k r0 H)
 (p.fadr 0 t5 fun t28 =>
 p.load false 1 t28 H fun t29 =>
 p.bin .eql t29 (si 2) fun t30 =>
 p.kT t30 H a1 fun t32 H =>
 p.gT t30 H (p.len t32) fun t33 H =>
 p.gT t30 H (p.bin .eql t33 (si 2)) fun t34 H =>
 p.pick t30 t34 bF fun t35 =>
 p.cond t35
 (p.iadr 1 a1 i0 fun t37 =>
 p.load false 1 t37 H fun t38 =>
 p.bin .eql t38 (su 1) fun t39 =>
 p.fadr 21 t5 fun t40 =>
 p.store 1 t40 t39 H fun H =>
 p.iadr 1 a1 (si 1) fun t42 =>
 p.load false 1 t42 H fun t43 =>
 p.cvI .i64 t43 fun t44 =>
 p.fadr 20 t5 fun t45 =>
 p.store 1 t45 t44 H fun H =>
 p.load true 25 t5 H fun t46 =>
 p.store 25 t4 t46 H fun H =>
 p.load true 25 t4 H fun r0 =>
 k r0 H)
 (p.fadr 0 t5 fun t47 =>
 p.load false 1 t47 H fun t48 =>
 p.bin .eql t48 (si 3) fun t49 =>
 p.cond t49
 (p.bin .and a0 (si 8) fun t51 =>
 p.bin .gtr t51 i0 fun t52 =>
 p.fadr 1 t5 fun t53 =>
 p.store 1 t53 t52 H fun H =>
 p.bin .shr a0 (.sc (.int .u64 1)) fun t55 =>
 p.bin .and t55 (si 3) fun t56 =>
 p.fadr 2 t5 fun t57 =>
 p.store 1 t57 t56 H fun H =>
 p.bin .and a0 (si 1) fun t59 =>
 p.bin .gtr t59 i0 fun t60 =>
 p.fadr 3 t5 fun t61 =>
 p.store 1 t61 t60 H fun H =>
 p.call 108 (.fn 87 [] []) [a1, i0] H fun t64 H =>
 p.extr t64 0 fun t65 =>
 p.extr t64 1 fun t66 =>
 p.extr t64 2 fun t67 =>
 p.un .not t67 fun t69 =>
 p.cond t69
 (p.fill E2 [] fun ct70 =>
 p.store 25 t4 (.agg ct70) H fun H =>
 p.load true 25 t4 H fun r0 =>
 k r0 H)
 (p.fadr 5 t5 fun t72 =>
 p.store 1 t72 t65 H fun H =>
 p.fadr 2 t5 fun t74 =>
 p.load false 1 t74 H fun t75 =>
 p.bin .gtr t75 i0 fun t76 =>
 E8 (fun (t : Nat → AV) (H : Ad) => p.slice 1 (t 1) (some (t 6)) none fun t93 =>
 p.app 1 1 .nl t93 H fun t94 H =>
 p.fadr 6 (t 5) fun t95 =>
 p.store 1 t95 t94 H fun H =>
 p.load true 25 (t 5) H fun t96 =>
 p.store 25 (t 4) t96 H fun H =>
 p.load true 25 (t 4) H fun r0 =>
 k r0 H) fun j1 =>
 p.cond t76
 (p.call 110 (.fn 88 [] []) [a1, t66] H fun t80 H =>
 p.extr t80 0 fun t81 =>
 p.extr t80 1 fun t82 =>
 p.extr t80 2 fun t83 =>
 p.un .not t83 fun t85 =>
 p.cond t85
 (p.fill E2 [] fun ct86 =>
 p.store 25 t4 (.agg ct86) H fun H =>
 p.load true 25 t4 H fun r0 =>
 k r0 H)
 (p.fadr 4 t5 fun t88 =>
 p.store 1 t88 t81 H fun H =>
 j1 (ud [(0, a0), (1, a1), (4, t4), (5, t5), (6, t82), (7, t65), (8, t66), (9, t67), (10, t81), (11, t82), (12, t83), (20, a0), (21, t21), (22, (.agg ct22)), (23, t23), (24, t24), (25, t25), (28, t28), (29, t29), (30, t30), (31, t30), (32, t32), (33, t33), (34, t34), (35, t35), (47, t47), (48, t48), (49, t49), (50, a0), (51, t51), (52, t52), (53, t53), (54, a0), (55, t55), (56, t56), (57, t57), (58, a0), (59, t59), (60, t60), (61, t61), (62, t64), (63, a1), (64, t64), (65, t65), (66, t66), (67, t67), (68, t67), (69, t69), (71, t65), (72, t72), (73, t66), (74, t74), (75, t75), (76, t76), (77, t80), (78, a1), (79, t66), (80, t80), (81, t81), (82, t82), (83, t83), (84, t83), (85, t85), (87, t81), (88, t88), (89, t82)] ut) H))
 (j1 (ud [(0, a0), (1, a1), (4, t4), (5, t5), (6, t66), (7, t65), (8, t66), (9, t67), (20, a0), (21, t21), (22, (.agg ct22)), (23, t23), (24, t24), (25, t25), (28, t28), (29, t29), (30, t30), (31, t30), (32, t32), (33, t33), (34, t34), (35, t35), (47, t47), (48, t48), (49, t49), (50, a0), (51, t51), (52, t52), (53, t53), (54, a0), (55, t55), (56, t56), (57, t57), (58, a0), (59, t59), (60, t60), (61, t61), (62, t64), (63, a1), (64, t64), (65, t65), (66, t66), (67, t67), (68, t67), (69, t69), (71, t65), (72, t72), (73, t66), (74, t74), (75, t75), (76, t76)] ut) H)))
 (p.fadr 0 t5 fun t97 =>
 p.load false 1 t97 H fun t98 =>
 p.bin .lss t98 (si 12) fun t99 =>
 E8 (fun (t : Nat → AV) (H : Ad) => p.fadr 0 (t 5) fun t112 =>
 p.load false 1 t112 H fun t113 =>
 p.bin .eql t113 (si 9) fun t114 =>
 E8 (fun (t : Nat → AV) (H : Ad) => Abq p n  k n (tf 186 0 t) H) fun j3 =>
 p.cond t114
 (Afk p n  k n (tf 186 0 (ud [(16, (t 6)), (112, t112), (113, t113), (114, t114), (115, (t 6))] t)) H)
 (j3 (ud [(112, t112), (113, t113), (114, t114)] t) H)) fun j2 =>
 p.cond t99
 (p.call 110 (.fn 88 [] []) [a1, i0] H fun t102 H =>
 p.extr t102 0 fun t103 =>
 p.extr t102 1 fun t104 =>
 p.extr t102 2 fun t105 =>
 p.un .not t105 fun t107 =>
 p.cond t107
 (p.fill E2 [] fun ct108 =>
 p.store 25 t4 (.agg ct108) H fun H =>
 p.load true 25 t4 H fun r0 =>
 k r0 H)
 (p.fadr 4 t5 fun t110 =>
 p.store 1 t110 t103 H fun H =>
 j2 (ud [(0, a0), (1, a1), (4, t4), (5, t5), (6, t104), (13, t103), (14, t104), (15, t105), (20, a0), (21, t21), (22, (.agg ct22)), (23, t23), (24, t24), (25, t25), (28, t28), (29, t29), (30, t30), (31, t30), (32, t32), (33, t33), (34, t34), (35, t35), (47, t47), (48, t48), (49, t49), (97, t97), (98, t98), (99, t99), (100, t102), (101, a1), (102, t102), (103, t103), (104, t104), (105, t105), (106, t105), (107, t107), (109, t103), (110, t110), (111, t104)] ut) H))
 (j2 (ud [(0, a0), (1, a1), (4, t4), (5, t5), (6, i0), (20, a0), (21, t21), (22, (.agg ct22)), (23, t23), (24, t24), (25, t25), (28, t28), (29, t29), (30, t30), (31, t30), (32, t32), (33, t33), (34, t34), (35, t35), (47, t47), (48, t48), (49, t49), (97, t97), (98, t98), (99, t99)] ut) H)))) := by kernel_rfl
theorem Afl : Ll fi63 @f63 := fun p n a0 a1 H k => by
 rw [AhY]
 simp only [Xf, AdB]
 kernel_rfl
noncomputable def f90 (p : Pr β) (n : Nat) (a0 : AV) (H : Ad) (k : KO β) : Option β :=
 p.box a0 H fun t1 H =>
 p.new E2 H fun t2 H =>
 p.fadr 0 t1 fun t4 =>
 p.load false 1 t4 H fun t5 =>
 p.fill E2 [(0, 1, t5)] fun ct6 =>
 p.new E2 H fun t3 H =>
 p.store 25 t3 (.agg ct6) H fun H =>
 p.fadr 0 t1 fun t7 =>
 p.load false 1 t7 H fun t8 =>
 p.bin .eql t8 (si 1) fun t10 =>
 p.cond t10
 (p.fadr 8 t1 fun t11 =>
 p.load false 1 t11 H fun t12 =>
 p.fadr 8 t3 fun t13 =>
 p.store 1 t13 t12 H fun H =>
 p.fadr 7 t1 fun t14 =>
 p.load false 1 t14 H fun t15 =>
 p.fadr 7 t3 fun t16 =>
 p.store 1 t16 t15 H fun H =>
 p.fadr 9 t1 fun t17 =>
 p.load false 1 t17 H fun t18 =>
 p.fadr 9 t3 fun t19 =>
 p.store 1 t19 t18 H fun H =>
 p.fadr 10 t1 fun t20 =>
 p.load false 1 t20 H fun t21 =>
 p.fadr 10 t3 fun t22 =>
 p.store 1 t22 t21 H fun H =>
 p.fadr 11 t1 fun t23 =>
 p.load false 1 t23 H fun t24 =>
 E8 (fun (t1 t2 t3 : AV) (H : Ad) => p.fadr 16 t1 fun t38 =>
 p.load false 1 t38 H fun t39 =>
 p.cond t39
 (p.fadr 16 t3 fun t40 =>
 p.store 1 t40 bT H fun H =>
 p.fadr 17 t1 fun t41 =>
 p.load false 1 t41 H fun t42 =>
 p.fadr 17 t3 fun t43 =>
 p.store 1 t43 t42 H fun H =>
 p.fadr 18 t1 fun t44 =>
 p.load false 1 t44 H fun t45 =>
 p.cond t45
 (p.fadr 18 t3 fun t46 =>
 p.store 1 t46 bT H fun H =>
 p.fadr 19 t1 fun t47 =>
 p.load false 1 t47 H fun t48 =>
 p.fadr 19 t3 fun t49 =>
 p.store 1 t49 t48 H fun H =>
 p.load true 25 t3 H fun t119 =>
 p.store 25 t2 t119 H fun H =>
 p.load true 25 t2 H fun r0 =>
 k r0 H)
 (p.load true 25 t3 H fun t119 =>
 p.store 25 t2 t119 H fun H =>
 p.load true 25 t2 H fun r0 =>
 k r0 H))
 (p.load true 25 t3 H fun t119 =>
 p.store 25 t2 t119 H fun H =>
 p.load true 25 t2 H fun r0 =>
 k r0 H)) fun j1 =>
 p.cond t24
 (p.fadr 11 t3 fun t25 =>
 p.store 1 t25 bT H fun H =>
 p.fadr 12 t1 fun t26 =>
 p.load false 1 t26 H fun t27 =>
 p.fadr 12 t3 fun t28 =>
 p.store 1 t28 t27 H fun H =>
 p.fadr 13 t1 fun t29 =>
 p.load false 1 t29 H fun t30 =>
 p.fadr 13 t3 fun t31 =>
 p.store 1 t31 t30 H fun H =>
 p.fadr 14 t1 fun t32 =>
 p.load false 1 t32 H fun t33 =>
 p.fadr 14 t3 fun t34 =>
 p.store 1 t34 t33 H fun H =>
 p.fadr 15 t1 fun t35 =>
 p.load false 1 t35 H fun t36 =>
 p.fadr 15 t3 fun t37 =>
 p.store 1 t37 t36 H fun H =>
 j1 t1 t2 t3 H)
 (j1 t1 t2 t3 H))
 (p.bin .eql t8 (si 2) fun t51 =>
 p.cond t51
 (p.fadr 20 t1 fun t52 =>
 p.load false 1 t52 H fun t53 =>
 p.fadr 20 t3 fun t54 =>
 p.store 1 t54 t53 H fun H =>
 p.fadr 21 t1 fun t55 =>
 p.load false 1 t55 H fun t56 =>
 p.gT t56 H (p.fadr 20 t1) fun t58 H =>
 p.gT t56 H (p.load false 1 t58 H) fun t59 H =>
 p.gT t56 H (p.bin .eql t59 i0) fun t60 H =>
 p.pick t56 t60 bF fun t61 =>
 p.fadr 21 t3 fun t62 =>
 p.store 1 t62 t61 H fun H =>
 p.load true 25 t3 H fun t119 =>
 p.store 25 t2 t119 H fun H =>
 p.load true 25 t2 H fun r0 =>
 k r0 H)
 (p.bin .eql t8 (si 3) fun t64 =>
 p.cond t64
 (p.fadr 2 t1 fun t65 =>
 p.load false 1 t65 H fun t66 =>
 p.fadr 2 t3 fun t67 =>
 p.store 1 t67 t66 H fun H =>
 p.fadr 3 t1 fun t68 =>
 p.load false 1 t68 H fun t69 =>
 p.fadr 3 t3 fun t70 =>
 p.store 1 t70 t69 H fun H =>
 p.fadr 5 t1 fun t71 =>
 p.load false 1 t71 H fun t72 =>
 p.fadr 5 t3 fun t73 =>
 p.store 1 t73 t72 H fun H =>
 p.fadr 6 t1 fun t74 =>
 p.load false 1 t74 H fun t75 =>
 p.fadr 6 t3 fun t76 =>
 p.store 1 t76 t75 H fun H =>
 p.fadr 2 t1 fun t77 =>
 p.load false 1 t77 H fun t78 =>
 p.bin .gtr t78 i0 fun t79 =>
 p.cond t79
 (p.fadr 1 t1 fun t80 =>
 p.load false 1 t80 H fun t81 =>
 p.fadr 1 t3 fun t82 =>
 p.store 1 t82 t81 H fun H =>
 p.fadr 4 t1 fun t83 =>
 p.load false 1 t83 H fun t84 =>
 p.fadr 4 t3 fun t85 =>
 p.store 1 t85 t84 H fun H =>
 p.load true 25 t3 H fun t119 =>
 p.store 25 t2 t119 H fun H =>
 p.load true 25 t2 H fun r0 =>
 k r0 H)
 (p.load true 25 t3 H fun t119 =>
 p.store 25 t2 t119 H fun H =>
 p.load true 25 t2 H fun r0 =>
 k r0 H))
 (p.bin .eql t8 (si 4) fun t87 =>
 E8 (fun (t1 t2 t3 t8 t86 : AV) (H : Ad) => p.cond t86
 (p.fadr 4 t1 fun t92 =>
 p.load false 1 t92 H fun t93 =>
 p.fadr 4 t3 fun t94 =>
 p.store 1 t94 t93 H fun H =>
 p.load true 25 t3 H fun t119 =>
 p.store 25 t2 t119 H fun H =>
 p.load true 25 t2 H fun r0 =>
 k r0 H)
 (p.bin .eql t8 (si 8) fun t96 =>
 p.cond t96
 (p.fadr 4 t1 fun t97 =>
 p.load false 1 t97 H fun t98 =>
 p.fadr 4 t3 fun t99 =>
 p.store 1 t99 t98 H fun H =>
 p.fadr 22 t1 fun t100 =>
 p.load false 1 t100 H fun t101 =>
 p.fadr 22 t3 fun t102 =>
 p.store 1 t102 t101 H fun H =>
 p.load true 25 t3 H fun t119 =>
 p.store 25 t2 t119 H fun H =>
 p.load true 25 t2 H fun r0 =>
 k r0 H)
 (p.bin .eql t8 (si 9) fun t104 =>
 p.cond t104
 (p.fadr 4 t1 fun t105 =>
 p.load false 1 t105 H fun t106 =>
 p.fadr 4 t3 fun t107 =>
 p.store 1 t107 t106 H fun H =>
 p.fadr 24 t1 fun t108 =>
 p.load false 1 t108 H fun t109 =>
 p.fadr 24 t3 fun t110 =>
 p.store 1 t110 t109 H fun H =>
 p.load true 25 t3 H fun t119 =>
 p.store 25 t2 t119 H fun H =>
 p.load true 25 t2 H fun r0 =>
 k r0 H)
 (p.bin .eql t8 (si 10) fun t112 =>
 p.cond t112
 (p.fadr 4 t1 fun t113 =>
 p.load false 1 t113 H fun t114 =>
 p.fadr 4 t3 fun t115 =>
 p.store 1 t115 t114 H fun H =>
 p.fadr 23 t1 fun t116 =>
 p.load false 1 t116 H fun t117 =>
 p.fadr 23 t3 fun t118 =>
 p.store 1 t118 t117 H fun H =>
 p.load true 25 t3 H fun t119 =>
 p.store 25 t2 t119 H fun H =>
 p.load true 25 t2 H fun r0 =>
 k r0 H)
 (p.load true 25 t3 H fun t119 =>
 p.store 25 t2 t119 H fun H =>
 p.load true 25 t2 H fun r0 =>
 k r0 H))))) fun j2 =>
 p.cond t87
 (j2 t1 t2 t3 t8 t87 H)
 (p.bin .eql t8 (si 5) fun t88 =>
 p.cond t88
 (j2 t1 t2 t3 t8 t88 H)
 (p.bin .eql t8 (si 6) fun t89 =>
 p.cond t89
 (j2 t1 t2 t3 t8 t89 H)
 (p.bin .eql t8 (si 7) fun t90 =>
 p.cond t90
 (j2 t1 t2 t3 t8 t90 H)
 (p.bin .eql t8 (si 11) fun t91 =>
 j2 t1 t2 t3 t8 t91 H)))))))
theorem AfH : Om AlC @f90 := fun p n a0 H k => by kernel_rfl
noncomputable def f65 (p : Pr β) (n : Nat) (a0 a1 : AV) (H : Ad) (k : KO β) : Option β :=
 p.cvBS a0 H fun t6 =>
 p.cvBS a1 H fun t8 =>
 p.bin .eql t6 t8 fun t9 =>
 k t9 H
theorem Afn : Ll Al1 @f65 := fun p n a0 a1 H k => by kernel_rfl
noncomputable def Oy (p : Pr β) (n : Nat)  (k : KO β) : Nat → AV → AV → KO β
 | 0, _, _, _, _ => none
 | m + 1, t2, t3, t7, H => p.fadr 24 t2 fun t70 =>
   p.load false 1 t70 H fun t71 =>
   p.len t71 fun t72 =>
   p.bin .lss t7 t72 fun t73 =>
   p.cond t73
   (p.fadr 24 t2 fun t76 =>
   p.load false 1 t76 H fun t77 =>
   p.iadr 1 t77 t7 fun t79 =>
   p.load false 1 t79 H fun t80 =>
   p.fadr 24 t3 fun t81 =>
   p.load false 1 t81 H fun t82 =>
   p.iadr 1 t82 t7 fun t84 =>
   p.load false 1 t84 H fun t85 =>
   p.bin .neq t80 t85 fun t86 =>
   p.cond t86
   (k bF H)
   (p.bin .add t7 (si 1) fun t75 =>
   Oy p n  k m t2 t3 t75 H))
   (p.fadr 0 t2 fun t87 =>
   p.load false 1 t87 H fun t88 =>
   p.fadr 0 t3 fun t89 =>
   p.load false 1 t89 H fun t90 =>
   p.bin .eql t88 t90 fun t91 =>
   p.gT t91 H (p.fadr 1 t2) fun t93 H =>
   p.gT t91 H (p.load false 1 t93 H) fun t94 H =>
   p.gT t91 H (p.fadr 1 t3) fun t95 H =>
   p.gT t91 H (p.load false 1 t95 H) fun t96 H =>
   p.gT t91 H (p.binB .eql t94 t96) fun t97 H =>
   p.pick t91 t97 bF fun t98 =>
   p.gT t98 H (p.fadr 2 t2) fun t100 H =>
   p.gT t98 H (p.load false 1 t100 H) fun t101 H =>
   p.gT t98 H (p.fadr 2 t3) fun t102 H =>
   p.gT t98 H (p.load false 1 t102 H) fun t103 H =>
   p.gT t98 H (p.bin .eql t101 t103) fun t104 H =>
   p.pick t98 t104 bF fun t105 =>
   p.gT t105 H (p.fadr 3 t2) fun t107 H =>
   p.gT t105 H (p.load false 1 t107 H) fun t108 H =>
   p.gT t105 H (p.fadr 3 t3) fun t109 H =>
   p.gT t105 H (p.load false 1 t109 H) fun t110 H =>
   p.gT t105 H (p.binB .eql t108 t110) fun t111 H =>
   p.pick t105 t111 bF fun t112 =>
   p.gT t112 H (p.fadr 4 t2) fun t114 H =>
   p.gT t112 H (p.load false 1 t114 H) fun t115 H =>
   p.gT t112 H (p.fadr 4 t3) fun t116 H =>
   p.gT t112 H (p.load false 1 t116 H) fun t117 H =>
   p.gT t112 H (p.bin .eql t115 t117) fun t118 H =>
   p.pick t112 t118 bF fun t119 =>
   p.gT t119 H (p.fadr 5 t2) fun t121 H =>
   p.gT t119 H (p.load false 1 t121 H) fun t122 H =>
   p.gT t119 H (p.fadr 5 t3) fun t123 H =>
   p.gT t119 H (p.load false 1 t123 H) fun t124 H =>
   p.gT t119 H (p.bin .eql t122 t124) fun t125 H =>
   p.pick t119 t125 bF fun t126 =>
   p.gT t126 H (p.fadr 6 t2) fun t128 H =>
   p.gT t126 H (p.load false 1 t128 H) fun t129 H =>
   p.gT t126 H (p.fadr 6 t3) fun t130 H =>
   p.gT t126 H (p.load false 1 t130 H) fun t131 H =>
   p.hT t126 H (p.call 4 (.fn 65 [] []) [t129, t131] H) fun t132 H =>
   p.pick t126 t132 bF fun t133 =>
   p.gT t133 H (p.fadr 7 t2) fun t135 H =>
   p.gT t133 H (p.load false 1 t135 H) fun t136 H =>
   p.gT t133 H (p.fadr 7 t3) fun t137 H =>
   p.gT t133 H (p.load false 1 t137 H) fun t138 H =>
   p.gT t133 H (p.bin .eql t136 t138) fun t139 H =>
   p.pick t133 t139 bF fun t140 =>
   p.gT t140 H (p.fadr 8 t2) fun t142 H =>
   p.gT t140 H (p.load false 1 t142 H) fun t143 H =>
   p.gT t140 H (p.fadr 8 t3) fun t144 H =>
   p.gT t140 H (p.load false 1 t144 H) fun t145 H =>
   p.gT t140 H (p.bin .eql t143 t145) fun t146 H =>
   p.pick t140 t146 bF fun t147 =>
   p.gT t147 H (p.fadr 9 t2) fun t149 H =>
   p.gT t147 H (p.load false 1 t149 H) fun t150 H =>
   p.gT t147 H (p.fadr 9 t3) fun t151 H =>
   p.gT t147 H (p.load false 1 t151 H) fun t152 H =>
   p.gT t147 H (p.binB .eql t150 t152) fun t153 H =>
   p.pick t147 t153 bF fun t154 =>
   p.gT t154 H (p.fadr 10 t2) fun t156 H =>
   p.gT t154 H (p.load false 1 t156 H) fun t157 H =>
   p.gT t154 H (p.fadr 10 t3) fun t158 H =>
   p.gT t154 H (p.load false 1 t158 H) fun t159 H =>
   p.gT t154 H (p.bin .eql t157 t159) fun t160 H =>
   p.pick t154 t160 bF fun t161 =>
   p.gT t161 H (p.fadr 11 t2) fun t163 H =>
   p.gT t161 H (p.load false 1 t163 H) fun t164 H =>
   p.gT t161 H (p.fadr 11 t3) fun t165 H =>
   p.gT t161 H (p.load false 1 t165 H) fun t166 H =>
   p.gT t161 H (p.binB .eql t164 t166) fun t167 H =>
   p.pick t161 t167 bF fun t168 =>
   p.gT t168 H (p.fadr 12 t2) fun t170 H =>
   p.gT t168 H (p.load false 1 t170 H) fun t171 H =>
   p.gT t168 H (p.fadr 12 t3) fun t172 H =>
   p.gT t168 H (p.load false 1 t172 H) fun t173 H =>
   p.gT t168 H (p.bin .eql t171 t173) fun t174 H =>
   p.pick t168 t174 bF fun t175 =>
   p.gT t175 H (p.fadr 13 t2) fun t177 H =>
   p.gT t175 H (p.load false 1 t177 H) fun t178 H =>
   p.gT t175 H (p.fadr 13 t3) fun t179 H =>
   p.gT t175 H (p.load false 1 t179 H) fun t180 H =>
   p.hT t175 H (p.call 4 (.fn 65 [] []) [t178, t180] H) fun t181 H =>
   p.pick t175 t181 bF fun t182 =>
   p.gT t182 H (p.fadr 14 t2) fun t184 H =>
   p.gT t182 H (p.load false 1 t184 H) fun t185 H =>
   p.gT t182 H (p.fadr 14 t3) fun t186 H =>
   p.gT t182 H (p.load false 1 t186 H) fun t187 H =>
   p.gT t182 H (p.bin .eql t185 t187) fun t188 H =>
   p.pick t182 t188 bF fun t189 =>
   p.gT t189 H (p.fadr 15 t2) fun t191 H =>
   p.gT t189 H (p.load false 1 t191 H) fun t192 H =>
   p.gT t189 H (p.fadr 15 t3) fun t193 H =>
   p.gT t189 H (p.load false 1 t193 H) fun t194 H =>
   p.gT t189 H (p.binB .eql t192 t194) fun t195 H =>
   p.pick t189 t195 bF fun t196 =>
   p.gT t196 H (p.fadr 16 t2) fun t198 H =>
   p.gT t196 H (p.load false 1 t198 H) fun t199 H =>
   p.gT t196 H (p.fadr 16 t3) fun t200 H =>
   p.gT t196 H (p.load false 1 t200 H) fun t201 H =>
   p.gT t196 H (p.binB .eql t199 t201) fun t202 H =>
   p.pick t196 t202 bF fun t203 =>
   p.gT t203 H (p.fadr 17 t2) fun t205 H =>
   p.gT t203 H (p.load false 1 t205 H) fun t206 H =>
   p.gT t203 H (p.fadr 17 t3) fun t207 H =>
   p.gT t203 H (p.load false 1 t207 H) fun t208 H =>
   p.gT t203 H (p.bin .eql t206 t208) fun t209 H =>
   p.pick t203 t209 bF fun t210 =>
   p.gT t210 H (p.fadr 18 t2) fun t212 H =>
   p.gT t210 H (p.load false 1 t212 H) fun t213 H =>
   p.gT t210 H (p.fadr 18 t3) fun t214 H =>
   p.gT t210 H (p.load false 1 t214 H) fun t215 H =>
   p.gT t210 H (p.binB .eql t213 t215) fun t216 H =>
   p.pick t210 t216 bF fun t217 =>
   p.gT t217 H (p.fadr 19 t2) fun t219 H =>
   p.gT t217 H (p.load false 1 t219 H) fun t220 H =>
   p.gT t217 H (p.fadr 19 t3) fun t221 H =>
   p.gT t217 H (p.load false 1 t221 H) fun t222 H =>
   p.hT t217 H (p.call 4 (.fn 65 [] []) [t220, t222] H) fun t223 H =>
   p.pick t217 t223 bF fun t224 =>
   p.gT t224 H (p.fadr 20 t2) fun t226 H =>
   p.gT t224 H (p.load false 1 t226 H) fun t227 H =>
   p.gT t224 H (p.fadr 20 t3) fun t228 H =>
   p.gT t224 H (p.load false 1 t228 H) fun t229 H =>
   p.gT t224 H (p.bin .eql t227 t229) fun t230 H =>
   p.pick t224 t230 bF fun t231 =>
   p.gT t231 H (p.fadr 21 t2) fun t233 H =>
   p.gT t231 H (p.load false 1 t233 H) fun t234 H =>
   p.gT t231 H (p.fadr 21 t3) fun t235 H =>
   p.gT t231 H (p.load false 1 t235 H) fun t236 H =>
   p.gT t231 H (p.binB .eql t234 t236) fun t237 H =>
   p.pick t231 t237 bF fun t238 =>
   k t238 H)
noncomputable def Mn (p : Pr β) (n : Nat)  (k : KO β) : Nat → AV → AV → KO β
 | 0, _, _, _, _ => none
 | m + 1, t2, t3, t6, H => p.fadr 23 t2 fun t52 =>
   p.load false 1 t52 H fun t53 =>
   p.len t53 fun t54 =>
   p.bin .lss t6 t54 fun t55 =>
   p.cond t55
   (p.fadr 23 t2 fun t58 =>
   p.load false 1 t58 H fun t59 =>
   p.iadr 1 t59 t6 fun t61 =>
   p.load false 1 t61 H fun t62 =>
   p.fadr 23 t3 fun t63 =>
   p.load false 1 t63 H fun t64 =>
   p.iadr 1 t64 t6 fun t66 =>
   p.load false 1 t66 H fun t67 =>
   p.bin .neq t62 t67 fun t68 =>
   p.cond t68
   (k bF H)
   (p.bin .add t6 (si 1) fun t57 =>
   Mn p n  k m t2 t3 t57 H))
   (Oy p n  k n t2 t3 i0 H)
noncomputable def Mm (p : Pr β) (n : Nat)  (k : KO β) : Nat → AV → AV → KO β
 | 0, _, _, _, _ => none
 | m + 1, t2, t3, t5, H => p.fadr 22 t2 fun t34 =>
   p.load false 1 t34 H fun t35 =>
   p.len t35 fun t36 =>
   p.bin .lss t5 t36 fun t37 =>
   p.cond t37
   (p.fadr 22 t2 fun t40 =>
   p.load false 1 t40 H fun t41 =>
   p.iadr 2 t41 t5 fun t43 =>
   p.load true 2 t43 H fun t44 =>
   p.fadr 22 t3 fun t45 =>
   p.load false 1 t45 H fun t46 =>
   p.iadr 2 t46 t5 fun t48 =>
   p.load true 2 t48 H fun t49 =>
   p.binA .neq [1, 0] t44 t49 fun t50 =>
   p.cond t50
   (k bF H)
   (p.bin .add t5 (si 1) fun t39 =>
   Mm p n  k m t2 t3 t39 H))
   (Mn p n  k n t2 t3 i0 H)
noncomputable def f89 (p : Pr β) (n : Nat) (a0 a1 : AV) (H : Ad) (k : KO β) : Option β :=
 p.box a0 H fun t2 H =>
 p.box a1 H fun t3 H =>
 p.fadr 22 t2 fun t8 =>
 p.load false 1 t8 H fun t9 =>
 p.len t9 fun t10 =>
 p.fadr 22 t3 fun t11 =>
 p.load false 1 t11 H fun t12 =>
 p.len t12 fun t13 =>
 p.bin .neq t10 t13 fun t14 =>
 p.gF t14 H (p.fadr 23 t2) fun t16 H =>
 p.gF t14 H (p.load false 1 t16 H) fun t17 H =>
 p.gF t14 H (p.len t17) fun t18 H =>
 p.gF t14 H (p.fadr 23 t3) fun t19 H =>
 p.gF t14 H (p.load false 1 t19 H) fun t20 H =>
 p.gF t14 H (p.len t20) fun t21 H =>
 p.gF t14 H (p.bin .neq t18 t21) fun t22 H =>
 p.pick t14 bT t22 fun t23 =>
 p.gF t23 H (p.fadr 24 t2) fun t25 H =>
 p.gF t23 H (p.load false 1 t25 H) fun t26 H =>
 p.gF t23 H (p.len t26) fun t27 H =>
 p.gF t23 H (p.fadr 24 t3) fun t28 H =>
 p.gF t23 H (p.load false 1 t28 H) fun t29 H =>
 p.gF t23 H (p.len t29) fun t30 H =>
 p.gF t23 H (p.bin .neq t27 t30) fun t31 H =>
 p.pick t23 bT t31 fun t32 =>
 p.cond t32
 (k bF H)
 (Mm p n  k n t2 t3 i0 H)
noncomputable def AfF (p : Pr β) (n : Nat)  (k : KO β) (m : Nat) (tm : Tm) (H : Ad) : Option β :=
 D0 239 (fun tm H k => Al Au p o89 239 n (cd c89 [1, 1, 1, 1, 0, 1, 0, 0]) tm H k) (E7 4 (Eo (fun tm H => Al Au p o89 239 n (cd c89 [1, 1, 1, 1, 1]) tm H (Cu Au p fi89.results k)) (Cu Au p fi89.results k))) m tm H
noncomputable def AfE (p : Pr β) (n : Nat)  (k : KO β) (m : Nat) (tm : Tm) (H : Ad) : Option β :=
 D0 239 (fun tm H k => Al Au p o89 239 n (cd c89 [1, 1, 1, 0, 1, 0, 0]) tm H k) (E7 2 (Eo (fun tm H => Al Au p o89 239 n (cd c89 [1, 1, 1, 1]) tm H (Cu Au p fi89.results k)) (Cu Au p fi89.results k))) m tm H
noncomputable def AfD (p : Pr β) (n : Nat)  (k : KO β) (m : Nat) (tm : Tm) (H : Ad) : Option β :=
 D0 239 (fun tm H k => Al Au p o89 239 n (cd c89 [1, 1, 0, 1, 0, 0]) tm H k) (E7 0 (Eo (fun tm H => Al Au p o89 239 n (cd c89 [1, 1, 1]) tm H (Cu Au p fi89.results k)) (Cu Au p fi89.results k))) m tm H
theorem Xj (p : Pr β) (n : Nat)  (k : KO β) (m2 : Nat) : ∀ (t : Nat → AV) (H : Ad), AfF p n  k m2 (tf 239 0 t) H = Oy p n  k m2 (t 2) (t 3) (t 7) H := by
 induction m2 with
 | zero => intros; rfl
 | succ m2 ih =>
  intro t H
  refine Eq.trans (Bt (nt := 239) (m := m2) (g := fun t H => Oy p n  k m2 (t 2) (t 3) (t 7) H) ih rfl) ?_
  kernel_rfl
theorem Aah (p : Pr β) (n : Nat)  (k : KO β) (m1 : Nat) (t : Nat → AV) (H : Ad) : Al Au p o89 239 n (cd c89 [1, 1, 1, 0, 1, 0, 0]) (tf 239 0 t) H (Eo (fun tm H => Mn p n  k m1 (gt tm 2) (gt tm 3) (gt tm 6) H) (E7 2 (Eo (fun tm H => Al Au p o89 239 n (cd c89 [1, 1, 1, 1]) tm H (Cu Au p fi89.results k)) (Cu Au p fi89.results k)))) =
 p.fadr 23 (t 2) fun t52 =>
 p.load false 1 t52 H fun t53 =>
 p.len t53 fun t54 =>
 p.bin .lss (t 6) t54 fun t55 =>
 p.cond t55
 (p.fadr 23 (t 2) fun t58 =>
 p.load false 1 t58 H fun t59 =>
 p.iadr 1 t59 (t 6) fun t61 =>
 p.load false 1 t61 H fun t62 =>
 p.fadr 23 (t 3) fun t63 =>
 p.load false 1 t63 H fun t64 =>
 p.iadr 1 t64 (t 6) fun t66 =>
 p.load false 1 t66 H fun t67 =>
 p.bin .neq t62 t67 fun t68 =>
 p.cond t68
 (k bF H)
 (p.bin .add (t 6) (si 1) fun t57 =>
 Mn p n  k m1 (t 2) (t 3) t57 H))
 (AfF p n  k n (tf 239 0 (ud [(7, i0), (51, (t 6)), (52, t52), (53, t53), (54, t54), (55, t55)] t)) H) := by kernel_rfl
theorem Xi (p : Pr β) (n : Nat)  (k : KO β) (m1 : Nat) : ∀ (t : Nat → AV) (H : Ad), AfE p n  k m1 (tf 239 0 t) H = Mn p n  k m1 (t 2) (t 3) (t 6) H := by
 induction m1 with
 | zero => intros; rfl
 | succ m1 ih =>
  intro t H
  refine Eq.trans (Bt (nt := 239) (m := m1) (g := fun t H => Mn p n  k m1 (t 2) (t 3) (t 6) H) ih rfl) ?_
  refine Eq.trans (Aah p n  k m1 t H) ?_
  simp only [Xj]
  kernel_rfl
theorem Aag (p : Pr β) (n : Nat)  (k : KO β) (m0 : Nat) (t : Nat → AV) (H : Ad) : Al Au p o89 239 n (cd c89 [1, 1, 0, 1, 0, 0]) (tf 239 0 t) H (Eo (fun tm H => Mm p n  k m0 (gt tm 2) (gt tm 3) (gt tm 5) H) (E7 0 (Eo (fun tm H => Al Au p o89 239 n (cd c89 [1, 1, 1]) tm H (Cu Au p fi89.results k)) (Cu Au p fi89.results k)))) =
 p.fadr 22 (t 2) fun t34 =>
 p.load false 1 t34 H fun t35 =>
 p.len t35 fun t36 =>
 p.bin .lss (t 5) t36 fun t37 =>
 p.cond t37
 (p.fadr 22 (t 2) fun t40 =>
 p.load false 1 t40 H fun t41 =>
 p.iadr 2 t41 (t 5) fun t43 =>
 p.load true 2 t43 H fun t44 =>
 p.fadr 22 (t 3) fun t45 =>
 p.load false 1 t45 H fun t46 =>
 p.iadr 2 t46 (t 5) fun t48 =>
 p.load true 2 t48 H fun t49 =>
 p.binA .neq [1, 0] t44 t49 fun t50 =>
 p.cond t50
 (k bF H)
 (p.bin .add (t 5) (si 1) fun t39 =>
 Mm p n  k m0 (t 2) (t 3) t39 H))
 (AfE p n  k n (tf 239 0 (ud [(6, i0), (33, (t 5)), (34, t34), (35, t35), (36, t36), (37, t37)] t)) H) := by kernel_rfl
theorem AdL (p : Pr β) (n : Nat)  (k : KO β) (m0 : Nat) : ∀ (t : Nat → AV) (H : Ad), AfD p n  k m0 (tf 239 0 t) H = Mm p n  k m0 (t 2) (t 3) (t 5) H := by
 induction m0 with
 | zero => intros; rfl
 | succ m0 ih =>
  intro t H
  refine Eq.trans (Bt (nt := 239) (m := m0) (g := fun t H => Mm p n  k m0 (t 2) (t 3) (t 5) H) ih rfl) ?_
  refine Eq.trans (Aag p n  k m0 t H) ?_
  simp only [Xi]
  kernel_rfl
theorem Aih (p : Pr β) (n : Nat) (a0 a1 : AV) (H : Ad) (k : KO β) : Cr Au p n fi89 [a0, a1] H k =
 p.box a0 H fun t2 H =>
 p.box a1 H fun t3 H =>
 p.fadr 22 t2 fun t8 =>
 p.load false 1 t8 H fun t9 =>
 p.len t9 fun t10 =>
 p.fadr 22 t3 fun t11 =>
 p.load false 1 t11 H fun t12 =>
 p.len t12 fun t13 =>
 p.bin .neq t10 t13 fun t14 =>
 p.gF t14 H (p.fadr 23 t2) fun t16 H =>
 p.gF t14 H (p.load false 1 t16 H) fun t17 H =>
 p.gF t14 H (p.len t17) fun t18 H =>
 p.gF t14 H (p.fadr 23 t3) fun t19 H =>
 p.gF t14 H (p.load false 1 t19 H) fun t20 H =>
 p.gF t14 H (p.len t20) fun t21 H =>
 p.gF t14 H (p.bin .neq t18 t21) fun t22 H =>
 p.pick t14 bT t22 fun t23 =>
 p.gF t23 H (p.fadr 24 t2) fun t25 H =>
 p.gF t23 H (p.load false 1 t25 H) fun t26 H =>
 p.gF t23 H (p.len t26) fun t27 H =>
 p.gF t23 H (p.fadr 24 t3) fun t28 H =>
 p.gF t23 H (p.load false 1 t28 H) fun t29 H =>
 p.gF t23 H (p.len t29) fun t30 H =>
 p.gF t23 H (p.bin .neq t27 t30) fun t31 H =>
 p.pick t23 bT t31 fun t32 =>
 p.cond t32
 (k bF H)
 (AfD p n  k n (tf 239 0 (ud [(0, a0), (1, a1), (2, t2), (3, t3), (4, bF), (5, i0), (8, t8), (9, t9), (10, t10), (11, t11), (12, t12), (13, t13), (14, t14), (15, t14), (16, t16), (17, t17), (18, t18), (19, t19), (20, t20), (21, t21), (22, t22), (23, t23), (24, t23), (25, t25), (26, t26), (27, t27), (28, t28), (29, t29), (30, t30), (31, t31), (32, t32)] ut)) H) := by kernel_rfl
theorem AfG : Ll fi89 @f89 := fun p n a0 a1 H k => by
 rw [Aih]
 simp only [Xj, Xi, AdL]
 kernel_rfl
noncomputable def Nr (p : Pr β) (n : Nat)  (k : KO β) : Nat → AV → AV → KO β
 | 0, _, _, _, _ => none
 | m + 1, t0, t1, t5, H => p.lenS t0 fun t8 =>
   p.bin .lss t5 t8 fun t9 =>
   p.cond t9
   (p.idx t0 t5 fun t14 =>
   p.bin .eql t14 t1 fun t16 =>
   p.cond t16
   (k bT H)
   (p.bin .add t5 (si 1) fun t11 =>
   Nr p n  k m t0 t1 t11 H))
   (k bF H)
noncomputable def f127 (p : Pr β) (n : Nat) (a0 a1 : AV) (H : Ad) (k : KO β) : Option β :=
 Nr p n  k n a0 a1 i0 H
noncomputable def Acj (p : Pr β) (n : Nat)  (k : KO β) (m : Nat) (tm : Tm) (H : Ad) : Option β :=
 D0 17 (fun tm H k => Al Au p [] 17 n (cd AjQ [1, 0, 1, 0, 0]) tm H k) (E7 0 (Eo (fun tm H => Al Au p [] 17 n (cd AjQ [1, 1]) tm H (Cu Au p fi127.results k)) (Cu Au p fi127.results k))) m tm H
theorem Abj (p : Pr β) (n : Nat)  (k : KO β) (m0 : Nat) : ∀ (t : Nat → AV) (H : Ad), Acj p n  k m0 (tf 17 0 t) H = Nr p n  k m0 (t 0) (t 1) (t 5) H := by
 induction m0 with
 | zero => intros; rfl
 | succ m0 ih =>
  intro t H
  refine Eq.trans (Bt (nt := 17) (m := m0) (g := fun t H => Nr p n  k m0 (t 0) (t 1) (t 5) H) ih rfl) ?_
  kernel_rfl
theorem Ae9 (p : Pr β) (n : Nat) (a0 a1 : AV) (H : Ad) (k : KO β) : Cr Au p n fi127 [a0, a1] H k =
 Acj p n  k n (tf 17 0 (ud [(0, a0), (1, a1), (4, bF), (5, i0)] ut)) H := by kernel_rfl
theorem Adh : Ll fi127 @f127 := fun p n a0 a1 H k => by
 rw [Ae9]
 simp only [Abj]
 kernel_rfl
noncomputable def K5 (p : Pr β) (n : Nat)  (k : KO β) : Nat → AV → AV → AV → KO β
 | 0, _, _, _, _, _ => none
 | m + 1, t0, t3, t4, t5, H => p.lenS t0 fun t9 =>
   p.bin .leq t5 t9 fun t10 =>
   p.cond t10
   (p.lenS t0 fun t15 =>
   p.bin .eql t5 t15 fun t16 =>
   p.kF t16 H t0 fun t18 H =>
   p.kF t16 H t5 fun t19 H =>
   p.gF t16 H (p.idx t18 t19) fun t20 H =>
   p.gF t16 H (p.bin .eql t20 (su 47)) fun t21 H =>
   p.pick t16 bT t21 fun t22 =>
   p.cond t22
   (p.sliceS t0 (some t4) (some t5) fun t27 =>
   p.fill [sE] [(0, 1, t27)] fun ct28 => p.newSl 1 1 ct28 true H fun t28 H =>
   p.app 1 16 t3 t28 H fun t29 H =>
   p.bin .add t5 (si 1) fun t31 =>
   p.bin .add t5 (si 1) fun t12 =>
   K5 p n  k m t0 t29 t31 t12 H)
   (p.bin .add t5 (si 1) fun t12 =>
   K5 p n  k m t0 t3 t4 t12 H))
   (k t3 H)
noncomputable def f128 (p : Pr β) (n : Nat) (a0 : AV) (H : Ad) (k : KO β) : Option β :=
 K5 p n  k n a0 .nl i0 i0 H
noncomputable def Ack (p : Pr β) (n : Nat)  (k : KO β) (m : Nat) (tm : Tm) (H : Ad) : Option β :=
 D0 33 (fun tm H k => Al Au p [] 33 n (cd AjR [1, 1, 1, 0, 1, 0, 0]) tm H k) (E7 0 (Eo (fun tm H => Al Au p [] 33 n (cd AjR [1, 1, 1, 1]) tm H (Cu Au p fi128.results k)) (Cu Au p fi128.results k))) m tm H
theorem Abk (p : Pr β) (n : Nat)  (k : KO β) (m0 : Nat) : ∀ (t : Nat → AV) (H : Ad), Ack p n  k m0 (tf 33 0 t) H = K5 p n  k m0 (t 0) (t 3) (t 4) (t 5) H := by
 induction m0 with
 | zero => intros; rfl
 | succ m0 ih =>
  intro t H
  refine Eq.trans (Bt (nt := 33) (m := m0) (g := fun t H => K5 p n  k m0 (t 0) (t 3) (t 4) (t 5) H) ih rfl) ?_
  kernel_rfl
theorem AeA (p : Pr β) (n : Nat) (a0 : AV) (H : Ad) (k : KO β) : Cr Au p n fi128 [a0] H k =
 Ack p n  k n (tf 33 0 (ud [(0, a0), (2, .nl), (3, .nl), (4, i0), (5, i0), (6, .nl)] ut)) H := by kernel_rfl
theorem Adi : Om fi128 @f128 := fun p n a0 H k => by
 rw [AeA]
 simp only [Abk]
 kernel_rfl
noncomputable def f91 (p : Pr β) (n : Nat) (a0 : AV) (H : Ad) (k : KO β) : Option β :=
 p.call 4 (.fn 80 [] []) [a0] H fun t4 H =>
 p.kT t4 H a0 fun t6 H =>
 p.gT t4 H (p.bin .neq t6 sE) fun t7 H =>
 p.pick t4 t7 bF fun t8 =>
 p.kT t8 H a0 fun t10 H =>
 p.hT t8 H (p.call 4 (.fn 127 [] []) [t10, (su 43)] H) fun t11 H =>
 p.gT t8 H (p.un .not t11) fun t12 H =>
 p.pick t8 t12 bF fun t13 =>
 p.kT t13 H a0 fun t15 H =>
 p.hT t13 H (p.call 4 (.fn 127 [] []) [t15, (su 35)] H) fun t16 H =>
 p.gT t13 H (p.un .not t16) fun t17 H =>
 p.pick t13 t17 bF fun t18 =>
 p.kT t18 H a0 fun t20 H =>
 p.hT t18 H (p.call 56 (.fn 128 [] []) [t20] H) fun t21 H =>
 p.gT t18 H (p.len t21) fun t22 H =>
 p.gT t18 H (p.bin .leq t22 (si 6)) fun t23 H =>
 p.pick t18 t23 bF fun t24 =>
 k t24 H
theorem AfI : Om AlD @f91 := fun p n a0 H k => by kernel_rfl
noncomputable def Qq (p : Pr β) (n : Nat)  (k : KO β) : Nat → AV → AV → KO β
 | 0, _, _, _, _ => none
 | m + 1, t0, t3, t4, H => p.len t3 fun t9 =>
   p.bin .lss t4 t9 fun t10 =>
   p.cond t10
   (p.iadr 1 t3 t4 fun t15 =>
   p.load false 1 t15 H fun t16 =>
   p.call 4 (.fn 127 [] []) [t16, (su 43)] H fun t17 H =>
   p.kT t17 H t3 fun t19 H =>
   p.kT t17 H t4 fun t20 H =>
   p.gT t17 H (p.iadr 1 t19 t20) fun t21 H =>
   p.gT t17 H (p.load false 1 t21 H) fun t22 H =>
   p.gT t17 H (p.bin .neq t22 (.sc (.string ⟨#[43]⟩))) fun t23 H =>
   p.pick t17 t23 bF fun t24 =>
   p.kF t24 H t3 fun t26 H =>
   p.kF t24 H t4 fun t27 H =>
   p.gF t24 H (p.iadr 1 t26 t27) fun t28 H =>
   p.gF t24 H (p.load false 1 t28 H) fun t29 H =>
   p.hF t24 H (p.call 4 (.fn 127 [] []) [t29, (su 35)] H) fun t30 H =>
   p.kF t24 H t30 fun t31 H =>
   p.kT t31 H t3 fun t32 H =>
   p.kT t31 H t4 fun t33 H =>
   p.gT t31 H (p.iadr 1 t32 t33) fun t34 H =>
   p.gT t31 H (p.load false 1 t34 H) fun t35 H =>
   p.gT t31 H (p.bin .neq t35 (.sc (.string ⟨#[35]⟩))) fun t36 H =>
   p.kT t31 H t36 fun t37 H =>
   p.kF t37 H t4 fun t38 H =>
   p.kF t37 H t3 fun t39 H =>
   p.gF t37 H (p.len t39) fun t40 H =>
   p.gF t37 H (p.bin .sub t40 (si 1)) fun t41 H =>
   p.gF t37 H (p.bin .lss t38 t41) fun t42 H =>
   p.gT t31 H (p.pick t37 bT t42) fun t43 H =>
   p.gF t24 H (p.pick t31 t43 bF) fun t44 H =>
   p.pick t24 bT t44 fun t45 =>
   p.cond t45
   (k bF H)
   (p.bin .add t4 (si 1) fun t12 =>
   Qq p n  k m t0 t3 t12 H))
   (p.call 4 (.fn 80 [] []) [t0] H fun t47 H =>
   p.kT t47 H t0 fun t49 H =>
   p.gT t47 H (p.bin .neq t49 sE) fun t50 H =>
   p.pick t47 t50 bF fun t51 =>
   p.kT t51 H t3 fun t53 H =>
   p.gT t51 H (p.len t53) fun t54 H =>
   p.gT t51 H (p.bin .leq t54 (si 6)) fun t55 H =>
   p.pick t51 t55 bF fun t56 =>
   k t56 H)
noncomputable def f92 (p : Pr β) (n : Nat) (a0 : AV) (H : Ad) (k : KO β) : Option β :=
 p.call 56 (.fn 128 [] []) [a0] H fun t6 H =>
 Qq p n  k n a0 t6 i0 H
noncomputable def AfJ (p : Pr β) (n : Nat)  (k : KO β) (m : Nat) (tm : Tm) (H : Ad) : Option β :=
 D0 57 (fun tm H k => Al Au p [] 57 n (cd c92 [1, 1, 0, 1, 0, 0]) tm H k) (E7 0 (Eo (fun tm H => Al Au p [] 57 n (cd c92 [1, 1, 1]) tm H (Cu Au p fi92.results k)) (Cu Au p fi92.results k))) m tm H
theorem AdM (p : Pr β) (n : Nat)  (k : KO β) (m0 : Nat) : ∀ (t : Nat → AV) (H : Ad), AfJ p n  k m0 (tf 57 0 t) H = Qq p n  k m0 (t 0) (t 3) (t 4) H := by
 induction m0 with
 | zero => intros; rfl
 | succ m0 ih =>
  intro t H
  refine Eq.trans (Bt (nt := 57) (m := m0) (g := fun t H => Qq p n  k m0 (t 0) (t 3) (t 4) H) ih rfl) ?_
  kernel_rfl
theorem Aii (p : Pr β) (n : Nat) (a0 : AV) (H : Ad) (k : KO β) : Cr Au p n fi92 [a0] H k =
 p.call 56 (.fn 128 [] []) [a0] H fun t6 H =>
 AfJ p n  k n (tf 57 0 (ud [(0, a0), (2, bF), (3, t6), (4, i0), (5, a0), (6, t6)] ut)) H := by kernel_rfl
theorem AfK : Om fi92 @f92 := fun p n a0 H k => by
 rw [Aii]
 simp only [AdM]
 kernel_rfl
noncomputable def Lr (p : Pr β) (n : Nat)  (k : KO β) : Nat → AV → AV → KO β
 | 0, _, _, _, _ => none
 | m + 1, t1, t3, t4, H => p.fadr 22 t1 fun t105 =>
   p.load false 1 t105 H fun t106 =>
   p.len t106 fun t107 =>
   p.bin .lss t4 t107 fun t108 =>
   p.cond t108
   (p.fadr 22 t1 fun t111 =>
   p.load false 1 t111 H fun t112 =>
   p.iadr 2 t112 t4 fun t114 =>
   p.fadr 0 t114 fun t115 =>
   p.load false 1 t115 H fun t116 =>
   p.call 4 (.fn 92 [] []) [t116] H fun t117 H =>
   p.un .not t117 fun t118 =>
   p.gF t118 H (p.fadr 22 t1) fun t120 H =>
   p.gF t118 H (p.load false 1 t120 H) fun t121 H =>
   p.kF t118 H t4 fun t122 H =>
   p.gF t118 H (p.iadr 2 t121 t122) fun t123 H =>
   p.gF t118 H (p.fadr 1 t123) fun t124 H =>
   p.gF t118 H (p.load false 1 t124 H) fun t125 H =>
   p.hF t118 H (p.call 4 (.fn 81 [] []) [t125, i0, (si 2)] H) fun t126 H =>
   p.gF t118 H (p.un .not t126) fun t127 H =>
   p.pick t118 bT t127 fun t128 =>
   p.cond t128
   (k bF H)
   (p.bin .add t4 (si 1) fun t110 =>
   Lr p n  k m t1 t3 t110 H))
   (p.gT t3 H (p.fadr 22 t1) fun t131 H =>
   p.gT t3 H (p.load false 1 t131 H) fun t132 H =>
   p.gT t3 H (p.len t132) fun t133 H =>
   p.hT t3 H (p.call 4 (.fn 81 [] []) [t133, (si 1), (si 4)] H) fun t134 H =>
   p.pick t3 t134 bF fun t135 =>
   k t135 H)
noncomputable def Ls (p : Pr β) (n : Nat)  (k : KO β) : Nat → AV → AV → KO β
 | 0, _, _, _, _ => none
 | m + 1, t1, t3, t5, H => p.fadr 24 t1 fun t139 =>
   p.load false 1 t139 H fun t140 =>
   p.len t140 fun t141 =>
   p.bin .lss t5 t141 fun t142 =>
   p.cond t142
   (p.fadr 24 t1 fun t145 =>
   p.load false 1 t145 H fun t146 =>
   p.iadr 1 t146 t5 fun t148 =>
   p.load false 1 t148 H fun t149 =>
   p.call 4 (.fn 81 [] []) [t149, i0, (si 2)] H fun t150 H =>
   p.un .not t150 fun t151 =>
   p.gT t151 H (p.fadr 24 t1) fun t153 H =>
   p.gT t151 H (p.load false 1 t153 H) fun t154 H =>
   p.kT t151 H t5 fun t155 H =>
   p.gT t151 H (p.iadr 1 t154 t155) fun t156 H =>
   p.gT t151 H (p.load false 1 t156 H) fun t157 H =>
   p.gT t151 H (p.bin .neq t157 (si 128)) fun t158 H =>
   p.pick t151 t158 bF fun t159 =>
   p.cond t159
   (k bF H)
   (p.bin .add t5 (si 1) fun t144 =>
   Ls p n  k m t1 t3 t144 H))
   (p.gT t3 H (p.fadr 24 t1) fun t162 H =>
   p.gT t3 H (p.load false 1 t162 H) fun t163 H =>
   p.gT t3 H (p.len t163) fun t164 H =>
   p.hT t3 H (p.call 4 (.fn 81 [] []) [t164, (si 1), (si 4)] H) fun t165 H =>
   p.pick t3 t165 bF fun t166 =>
   k t166 H)
noncomputable def Lt (p : Pr β) (n : Nat)  (k : KO β) : Nat → AV → AV → KO β
 | 0, _, _, _, _ => none
 | m + 1, t1, t3, t6, H => p.fadr 23 t1 fun t170 =>
   p.load false 1 t170 H fun t171 =>
   p.len t171 fun t172 =>
   p.bin .lss t6 t172 fun t173 =>
   p.cond t173
   (p.fadr 23 t1 fun t176 =>
   p.load false 1 t176 H fun t177 =>
   p.iadr 1 t177 t6 fun t179 =>
   p.load false 1 t179 H fun t180 =>
   p.call 4 (.fn 92 [] []) [t180] H fun t181 H =>
   p.un .not t181 fun t182 =>
   p.cond t182
   (k bF H)
   (p.bin .add t6 (si 1) fun t175 =>
   Lt p n  k m t1 t3 t175 H))
   (p.gT t3 H (p.fadr 23 t1) fun t185 H =>
   p.gT t3 H (p.load false 1 t185 H) fun t186 H =>
   p.gT t3 H (p.len t186) fun t187 H =>
   p.hT t3 H (p.call 4 (.fn 81 [] []) [t187, (si 1), (si 4)] H) fun t188 H =>
   p.pick t3 t188 bF fun t189 =>
   k t189 H)
noncomputable def f64 (p : Pr β) (n : Nat) (a0 : AV) (H : Ad) (k : KO β) : Option β :=
 p.box a0 H fun t1 H =>
 p.fadr 0 t1 fun t7 =>
 p.load false 1 t7 H fun t8 =>
 p.call 4 (.fn 81 [] []) [t8, (si 1), (si 14)] H fun t9 H =>
 p.un .not t9 fun t10 =>
 p.gF t10 H (p.load true 25 t1 H) fun t13 H =>
 p.both
 (p.gF t10 H (p.load true 25 t1 H) fun t12 H =>
 p.hF t10 H (p.call 59 (.fn 90 [] []) [t13] H) fun t14 H =>
 p.hF t10 H (p.call 4 (.fn 89 [] []) [t12, t14] H) fun t15 H =>
 p.gF t10 H (p.un .not t15) fun t16 H =>
 p.pick t10 bT t16 fun t17 =>
 p.cond t17
 (k bF H)
 (p.fadr 4 t1 fun t18 =>
 p.load false 1 t18 H fun t19 =>
 p.call 4 (.fn 81 [] []) [t19, (si 1), (si 65535)] H fun t20 H =>
 p.fadr 0 t1 fun t21 =>
 p.load false 1 t21 H fun t22 =>
 p.bin .eql t22 (si 1) fun t24 =>
 p.cond t24
 (p.fadr 11 t1 fun t25 =>
 p.load false 1 t25 H fun t26 =>
 p.gT t26 H (p.fadr 12 t1) fun t28 H =>
 p.gT t26 H (p.load false 1 t28 H) fun t29 H =>
 p.hT t26 H (p.call 4 (.fn 91 [] []) [t29] H) fun t30 H =>
 p.gT t26 H (p.un .not t30) fun t31 H =>
 p.kT t26 H t31 fun t32 H =>
 p.gF t32 H (p.fadr 13 t1) fun t33 H =>
 p.gF t32 H (p.load false 1 t33 H) fun t34 H =>
 p.gF t32 H (p.len t34) fun t35 H =>
 p.gF t32 H (p.bin .gtr t35 (si 40)) fun t36 H =>
 p.gT t26 H (p.pick t32 bT t36) fun t37 H =>
 p.kT t26 H t37 fun t38 H =>
 p.gF t38 H (p.fadr 14 t1) fun t39 H =>
 p.gF t38 H (p.load false 1 t39 H) fun t40 H =>
 p.hF t38 H (p.call 4 (.fn 81 [] []) [t40, i0, (si 2)] H) fun t41 H =>
 p.gF t38 H (p.un .not t41) fun t42 H =>
 p.gT t26 H (p.pick t38 bT t42) fun t43 H =>
 p.pick t26 t43 bF fun t44 =>
 p.cond t44
 (k bF H)
 (p.fadr 8 t1 fun t45 =>
 p.load false 1 t45 H fun t46 =>
 p.call 4 (.fn 81 [] []) [t46, i0, (si 255)] H fun t47 H =>
 p.gT t47 H (p.fadr 7 t1) fun t49 H =>
 p.gT t47 H (p.load false 1 t49 H) fun t50 H =>
 p.hT t47 H (p.call 4 (.fn 80 [] []) [t50] H) fun t51 H =>
 p.pick t47 t51 bF fun t52 =>
 p.gT t52 H (p.fadr 10 t1) fun t54 H =>
 p.gT t52 H (p.load false 1 t54 H) fun t55 H =>
 p.hT t52 H (p.call 4 (.fn 81 [] []) [t55, i0, (si 65535)] H) fun t56 H =>
 p.pick t52 t56 bF fun t57 =>
 p.gT t57 H (p.fadr 17 t1) fun t59 H =>
 p.gT t57 H (p.load false 1 t59 H) fun t60 H =>
 p.hT t57 H (p.call 4 (.fn 80 [] []) [t60] H) fun t61 H =>
 p.pick t57 t61 bF fun t62 =>
 p.gT t62 H (p.fadr 19 t1) fun t64 H =>
 p.gT t62 H (p.load false 1 t64 H) fun t65 H =>
 p.gT t62 H (p.len t65) fun t66 H =>
 p.gT t62 H (p.bin .leq t66 (si 60)) fun t67 H =>
 p.pick t62 t67 bF fun t68 =>
 k t68 H))
 (p.bin .eql t22 (si 2) fun t70 =>
 p.cond t70
 (p.fadr 20 t1 fun t71 =>
 p.load false 1 t71 H fun t72 =>
 p.call 4 (.fn 81 [] []) [t72, i0, (si 5)] H fun t73 H =>
 k t73 H)
 (p.bin .eql t22 (si 3) fun t75 =>
 p.cond t75
 (p.fadr 2 t1 fun t76 =>
 p.load false 1 t76 H fun t77 =>
 p.call 4 (.fn 81 [] []) [t77, i0, (si 2)] H fun t78 H =>
 p.gT t78 H (p.fadr 2 t1) fun t80 H =>
 p.gT t78 H (p.load false 1 t80 H) fun t81 H =>
 p.gT t78 H (p.bin .eql t81 i0) fun t82 H =>
 p.kT t78 H t82 fun t83 H =>
 p.kF t83 H t20 fun t84 H =>
 p.gT t78 H (p.pick t83 bT t84) fun t85 H =>
 p.pick t78 t85 bF fun t86 =>
 p.gT t86 H (p.fadr 5 t1) fun t88 H =>
 p.gT t86 H (p.load false 1 t88 H) fun t89 H =>
 p.hT t86 H (p.call 4 (.fn 91 [] []) [t89] H) fun t90 H =>
 p.pick t86 t90 bF fun t91 =>
 p.gT t91 H (p.fadr 6 t1) fun t93 H =>
 p.gT t91 H (p.load false 1 t93 H) fun t94 H =>
 p.gT t91 H (p.len t94) fun t95 H =>
 p.gT t91 H (p.bin .leq t95 (si 40)) fun t96 H =>
 p.pick t91 t96 bF fun t97 =>
 k t97 H)
 (p.bin .eql t22 (si 12) fun t99 =>
 E8 (fun (t1 t3 t22 t98 : AV) (H : Ad) => p.cond t98
 (k bT H)
 (p.bin .eql t22 (si 8) fun t103 =>
 p.cond t103
 (Lr p n  k n t1 t3 i0 H)
 (p.bin .eql t22 (si 9) fun t137 =>
 p.cond t137
 (Ls p n  k n t1 t3 i0 H)
 (p.bin .eql t22 (si 10) fun t168 =>
 p.cond t168
 (Lt p n  k n t1 t3 i0 H)
 (k t3 H))))) fun j1 =>
 p.cond t99
 (j1 t1 t20 t22 t99 H)
 (p.bin .eql t22 (si 13) fun t100 =>
 p.cond t100
 (j1 t1 t20 t22 t100 H)
 (p.bin .eql t22 (si 14) fun t101 =>
 j1 t1 t20 t22 t101 H)))))))
 (p.hF t10 H (p.call 59 (.fn 90 [] []) [t13] H) fun t14 H =>
 p.gF t10 H (p.load true 25 t1 H) fun t12 H =>
 p.hF t10 H (p.call 4 (.fn 89 [] []) [t12, t14] H) fun t15 H =>
 p.gF t10 H (p.un .not t15) fun t16 H =>
 p.pick t10 bT t16 fun t17 =>
 p.cond t17
 (k bF H)
 (p.fadr 4 t1 fun t18 =>
 p.load false 1 t18 H fun t19 =>
 p.call 4 (.fn 81 [] []) [t19, (si 1), (si 65535)] H fun t20 H =>
 p.fadr 0 t1 fun t21 =>
 p.load false 1 t21 H fun t22 =>
 p.bin .eql t22 (si 1) fun t24 =>
 p.cond t24
 (p.fadr 11 t1 fun t25 =>
 p.load false 1 t25 H fun t26 =>
 p.gT t26 H (p.fadr 12 t1) fun t28 H =>
 p.gT t26 H (p.load false 1 t28 H) fun t29 H =>
 p.hT t26 H (p.call 4 (.fn 91 [] []) [t29] H) fun t30 H =>
 p.gT t26 H (p.un .not t30) fun t31 H =>
 p.kT t26 H t31 fun t32 H =>
 p.gF t32 H (p.fadr 13 t1) fun t33 H =>
 p.gF t32 H (p.load false 1 t33 H) fun t34 H =>
 p.gF t32 H (p.len t34) fun t35 H =>
 p.gF t32 H (p.bin .gtr t35 (si 40)) fun t36 H =>
 p.gT t26 H (p.pick t32 bT t36) fun t37 H =>
 p.kT t26 H t37 fun t38 H =>
 p.gF t38 H (p.fadr 14 t1) fun t39 H =>
 p.gF t38 H (p.load false 1 t39 H) fun t40 H =>
 p.hF t38 H (p.call 4 (.fn 81 [] []) [t40, i0, (si 2)] H) fun t41 H =>
 p.gF t38 H (p.un .not t41) fun t42 H =>
 p.gT t26 H (p.pick t38 bT t42) fun t43 H =>
 p.pick t26 t43 bF fun t44 =>
 p.cond t44
 (k bF H)
 (p.fadr 8 t1 fun t45 =>
 p.load false 1 t45 H fun t46 =>
 p.call 4 (.fn 81 [] []) [t46, i0, (si 255)] H fun t47 H =>
 p.gT t47 H (p.fadr 7 t1) fun t49 H =>
 p.gT t47 H (p.load false 1 t49 H) fun t50 H =>
 p.hT t47 H (p.call 4 (.fn 80 [] []) [t50] H) fun t51 H =>
 p.pick t47 t51 bF fun t52 =>
 p.gT t52 H (p.fadr 10 t1) fun t54 H =>
 p.gT t52 H (p.load false 1 t54 H) fun t55 H =>
 p.hT t52 H (p.call 4 (.fn 81 [] []) [t55, i0, (si 65535)] H) fun t56 H =>
 p.pick t52 t56 bF fun t57 =>
 p.gT t57 H (p.fadr 17 t1) fun t59 H =>
 p.gT t57 H (p.load false 1 t59 H) fun t60 H =>
 p.hT t57 H (p.call 4 (.fn 80 [] []) [t60] H) fun t61 H =>
 p.pick t57 t61 bF fun t62 =>
 p.gT t62 H (p.fadr 19 t1) fun t64 H =>
 p.gT t62 H (p.load false 1 t64 H) fun t65 H =>
 p.gT t62 H (p.len t65) fun t66 H =>
 p.gT t62 H (p.bin .leq t66 (si 60)) fun t67 H =>
 p.pick t62 t67 bF fun t68 =>
 k t68 H))
 (p.bin .eql t22 (si 2) fun t70 =>
 p.cond t70
 (p.fadr 20 t1 fun t71 =>
 p.load false 1 t71 H fun t72 =>
 p.call 4 (.fn 81 [] []) [t72, i0, (si 5)] H fun t73 H =>
 k t73 H)
 (p.bin .eql t22 (si 3) fun t75 =>
 p.cond t75
 (p.fadr 2 t1 fun t76 =>
 p.load false 1 t76 H fun t77 =>
 p.call 4 (.fn 81 [] []) [t77, i0, (si 2)] H fun t78 H =>
 p.gT t78 H (p.fadr 2 t1) fun t80 H =>
 p.gT t78 H (p.load false 1 t80 H) fun t81 H =>
 p.gT t78 H (p.bin .eql t81 i0) fun t82 H =>
 p.kT t78 H t82 fun t83 H =>
 p.kF t83 H t20 fun t84 H =>
 p.gT t78 H (p.pick t83 bT t84) fun t85 H =>
 p.pick t78 t85 bF fun t86 =>
 p.gT t86 H (p.fadr 5 t1) fun t88 H =>
 p.gT t86 H (p.load false 1 t88 H) fun t89 H =>
 p.hT t86 H (p.call 4 (.fn 91 [] []) [t89] H) fun t90 H =>
 p.pick t86 t90 bF fun t91 =>
 p.gT t91 H (p.fadr 6 t1) fun t93 H =>
 p.gT t91 H (p.load false 1 t93 H) fun t94 H =>
 p.gT t91 H (p.len t94) fun t95 H =>
 p.gT t91 H (p.bin .leq t95 (si 40)) fun t96 H =>
 p.pick t91 t96 bF fun t97 =>
 k t97 H)
 (p.bin .eql t22 (si 12) fun t99 =>
 E8 (fun (t1 t3 t22 t98 : AV) (H : Ad) => p.cond t98
 (k bT H)
 (p.bin .eql t22 (si 8) fun t103 =>
 p.cond t103
 (Lr p n  k n t1 t3 i0 H)
 (p.bin .eql t22 (si 9) fun t137 =>
 p.cond t137
 (Ls p n  k n t1 t3 i0 H)
 (p.bin .eql t22 (si 10) fun t168 =>
 p.cond t168
 (Lt p n  k n t1 t3 i0 H)
 (k t3 H))))) fun j2 =>
 p.cond t99
 (j2 t1 t20 t22 t99 H)
 (p.bin .eql t22 (si 13) fun t100 =>
 p.cond t100
 (j2 t1 t20 t22 t100 H)
 (p.bin .eql t22 (si 14) fun t101 =>
 j2 t1 t20 t22 t101 H)))))))
noncomputable def Abr (p : Pr β) (n : Nat)  (k : KO β) (m : Nat) (tm : Tm) (H : Ad) : Option β :=
 D0 191 (fun tm H k => Al Au p o64 191 n (cd c64 [1, 1, 1, 0, 1, 0, 1, 2, 1, 2, 1, 2, 1, 2, 1, 1, 0, 1, 0, 0]) tm H k) (E7 1 (Eo (fun tm H => Al Au p o64 191 n (cd c64 [1, 1, 1, 0, 1, 0, 1, 2, 1, 2, 1, 2, 1, 2, 1, 1, 1]) tm H (E7 0 (Eo (fun tm H => Al Au p o64 191 n (cd c64 [1, 1, 1, 1]) tm H (Cu Au p fi64.results k)) (Cu Au p fi64.results k)))) (E7 0 (Eo (fun tm H => Al Au p o64 191 n (cd c64 [1, 1, 1, 1]) tm H (Cu Au p fi64.results k)) (Cu Au p fi64.results k))))) m tm H
noncomputable def Abt (p : Pr β) (n : Nat)  (k : KO β) (m : Nat) (tm : Tm) (H : Ad) : Option β :=
 D0 191 (fun tm H k => Al Au p o64 191 n (cd c64 [1, 1, 1, 0, 1, 0, 1, 2, 1, 2, 1, 2, 1, 2, 1, 2, 1, 1, 0, 1, 0, 0]) tm H k) (E7 3 (Eo (fun tm H => Al Au p o64 191 n (cd c64 [1, 1, 1, 0, 1, 0, 1, 2, 1, 2, 1, 2, 1, 2, 1, 2, 1, 1, 1]) tm H (E7 0 (Eo (fun tm H => Al Au p o64 191 n (cd c64 [1, 1, 1, 1]) tm H (Cu Au p fi64.results k)) (Cu Au p fi64.results k)))) (E7 0 (Eo (fun tm H => Al Au p o64 191 n (cd c64 [1, 1, 1, 1]) tm H (Cu Au p fi64.results k)) (Cu Au p fi64.results k))))) m tm H
noncomputable def Abu (p : Pr β) (n : Nat)  (k : KO β) (m : Nat) (tm : Tm) (H : Ad) : Option β :=
 D0 191 (fun tm H k => Al Au p o64 191 n (cd c64 [1, 1, 1, 0, 1, 0, 1, 2, 1, 2, 1, 2, 1, 2, 1, 2, 1, 2, 1, 1, 0, 1, 0, 0]) tm H k) (E7 5 (Eo (fun tm H => Al Au p o64 191 n (cd c64 [1, 1, 1, 0, 1, 0, 1, 2, 1, 2, 1, 2, 1, 2, 1, 2, 1, 2, 1, 1, 1]) tm H (E7 0 (Eo (fun tm H => Al Au p o64 191 n (cd c64 [1, 1, 1, 1]) tm H (Cu Au p fi64.results k)) (Cu Au p fi64.results k)))) (E7 0 (Eo (fun tm H => Al Au p o64 191 n (cd c64 [1, 1, 1, 1]) tm H (Cu Au p fi64.results k)) (Cu Au p fi64.results k))))) m tm H
theorem AdC (p : Pr β) (n : Nat)  (k : KO β) (m0 : Nat) : ∀ (t : Nat → AV) (H : Ad), Abr p n  k m0 (tf 191 0 t) H = Lr p n  k m0 (t 1) (t 3) (t 4) H := by
 induction m0 with
 | zero => intros; rfl
 | succ m0 ih =>
  intro t H
  refine Eq.trans (Bt (nt := 191) (m := m0) (g := fun t H => Lr p n  k m0 (t 1) (t 3) (t 4) H) ih rfl) ?_
  kernel_rfl
theorem AdD (p : Pr β) (n : Nat)  (k : KO β) (m1 : Nat) : ∀ (t : Nat → AV) (H : Ad), Abt p n  k m1 (tf 191 0 t) H = Ls p n  k m1 (t 1) (t 3) (t 5) H := by
 induction m1 with
 | zero => intros; rfl
 | succ m1 ih =>
  intro t H
  refine Eq.trans (Bt (nt := 191) (m := m1) (g := fun t H => Ls p n  k m1 (t 1) (t 3) (t 5) H) ih rfl) ?_
  kernel_rfl
theorem AdE (p : Pr β) (n : Nat)  (k : KO β) (m2 : Nat) : ∀ (t : Nat → AV) (H : Ad), Abu p n  k m2 (tf 191 0 t) H = Lt p n  k m2 (t 1) (t 3) (t 6) H := by
 induction m2 with
 | zero => intros; rfl
 | succ m2 ih =>
  intro t H
  refine Eq.trans (Bt (nt := 191) (m := m2) (g := fun t H => Lt p n  k m2 (t 1) (t 3) (t 6) H) ih rfl) ?_
  kernel_rfl
theorem AhZ (p : Pr β) (n : Nat) (a0 : AV) (H : Ad) (k : KO β) : Cr Au p n fi64 [a0] H k =
 p.box a0 H fun t1 H =>
 p.fadr 0 t1 fun t7 =>
 p.load false 1 t7 H fun t8 =>
 p.call 4 (.fn 81 [] []) [t8, (si 1), (si 14)] H fun t9 H =>
 p.un .not t9 fun t10 =>
 p.gF t10 H (p.load true 25 t1 H) fun t13 H =>
 p.both
 (p.gF t10 H (p.load true 25 t1 H) fun t12 H =>
 p.hF t10 H (p.call 59 (.fn 90 [] []) [t13] H) fun t14 H =>
 p.hF t10 H (p.call 4 (.fn 89 [] []) [t12, t14] H) fun t15 H =>
 p.gF t10 H (p.un .not t15) fun t16 H =>
 p.pick t10 bT t16 fun t17 =>
 p.cond t17
 (k bF H)
 (p.fadr 4 t1 fun t18 =>
 p.load false 1 t18 H fun t19 =>
 p.call 4 (.fn 81 [] []) [t19, (si 1), (si 65535)] H fun t20 H =>
 p.fadr 0 t1 fun t21 =>
 p.load false 1 t21 H fun t22 =>
 p.bin .eql t22 (si 1) fun t24 =>
 p.cond t24
 (p.fadr 11 t1 fun t25 =>
 p.load false 1 t25 H fun t26 =>
 p.gT t26 H (p.fadr 12 t1) fun t28 H =>
 p.gT t26 H (p.load false 1 t28 H) fun t29 H =>
 p.hT t26 H (p.call 4 (.fn 91 [] []) [t29] H) fun t30 H =>
 p.gT t26 H (p.un .not t30) fun t31 H =>
 p.kT t26 H t31 fun t32 H =>
 p.gF t32 H (p.fadr 13 t1) fun t33 H =>
 p.gF t32 H (p.load false 1 t33 H) fun t34 H =>
 p.gF t32 H (p.len t34) fun t35 H =>
 p.gF t32 H (p.bin .gtr t35 (si 40)) fun t36 H =>
 p.gT t26 H (p.pick t32 bT t36) fun t37 H =>
 p.kT t26 H t37 fun t38 H =>
 p.gF t38 H (p.fadr 14 t1) fun t39 H =>
 p.gF t38 H (p.load false 1 t39 H) fun t40 H =>
 p.hF t38 H (p.call 4 (.fn 81 [] []) [t40, i0, (si 2)] H) fun t41 H =>
 p.gF t38 H (p.un .not t41) fun t42 H =>
 p.gT t26 H (p.pick t38 bT t42) fun t43 H =>
 p.pick t26 t43 bF fun t44 =>
 p.cond t44
 (k bF H)
 (p.fadr 8 t1 fun t45 =>
 p.load false 1 t45 H fun t46 =>
 p.call 4 (.fn 81 [] []) [t46, i0, (si 255)] H fun t47 H =>
 p.gT t47 H (p.fadr 7 t1) fun t49 H =>
 p.gT t47 H (p.load false 1 t49 H) fun t50 H =>
 p.hT t47 H (p.call 4 (.fn 80 [] []) [t50] H) fun t51 H =>
 p.pick t47 t51 bF fun t52 =>
 p.gT t52 H (p.fadr 10 t1) fun t54 H =>
 p.gT t52 H (p.load false 1 t54 H) fun t55 H =>
 p.hT t52 H (p.call 4 (.fn 81 [] []) [t55, i0, (si 65535)] H) fun t56 H =>
 p.pick t52 t56 bF fun t57 =>
 p.gT t57 H (p.fadr 17 t1) fun t59 H =>
 p.gT t57 H (p.load false 1 t59 H) fun t60 H =>
 p.hT t57 H (p.call 4 (.fn 80 [] []) [t60] H) fun t61 H =>
 p.pick t57 t61 bF fun t62 =>
 p.gT t62 H (p.fadr 19 t1) fun t64 H =>
 p.gT t62 H (p.load false 1 t64 H) fun t65 H =>
 p.gT t62 H (p.len t65) fun t66 H =>
 p.gT t62 H (p.bin .leq t66 (si 60)) fun t67 H =>
 p.pick t62 t67 bF fun t68 =>
 k t68 H))
 (p.bin .eql t22 (si 2) fun t70 =>
 p.cond t70
 (p.fadr 20 t1 fun t71 =>
 p.load false 1 t71 H fun t72 =>
 p.call 4 (.fn 81 [] []) [t72, i0, (si 5)] H fun t73 H =>
 k t73 H)
 (p.bin .eql t22 (si 3) fun t75 =>
 p.cond t75
 (p.fadr 2 t1 fun t76 =>
 p.load false 1 t76 H fun t77 =>
 p.call 4 (.fn 81 [] []) [t77, i0, (si 2)] H fun t78 H =>
 p.gT t78 H (p.fadr 2 t1) fun t80 H =>
 p.gT t78 H (p.load false 1 t80 H) fun t81 H =>
 p.gT t78 H (p.bin .eql t81 i0) fun t82 H =>
 p.kT t78 H t82 fun t83 H =>
 p.kF t83 H t20 fun t84 H =>
 p.gT t78 H (p.pick t83 bT t84) fun t85 H =>
 p.pick t78 t85 bF fun t86 =>
 p.gT t86 H (p.fadr 5 t1) fun t88 H =>
 p.gT t86 H (p.load false 1 t88 H) fun t89 H =>
 p.hT t86 H (p.call 4 (.fn 91 [] []) [t89] H) fun t90 H =>
 p.pick t86 t90 bF fun t91 =>
 p.gT t91 H (p.fadr 6 t1) fun t93 H =>
 p.gT t91 H (p.load false 1 t93 H) fun t94 H =>
 p.gT t91 H (p.len t94) fun t95 H =>
 p.gT t91 H (p.bin .leq t95 (si 40)) fun t96 H =>
 p.pick t91 t96 bF fun t97 =>
 k t97 H)
 (p.bin .eql t22 (si 12) fun t99 =>
 E8 (fun (t : Nat → AV) (H : Ad) => p.cond (t 98)
 (k bT H)
 (p.bin .eql (t 22) (si 8) fun t103 =>
 p.cond t103
 (Abr p n  k n (tf 191 0 (ud [(4, i0), (102, t103), (103, t103)] t)) H)
 (p.bin .eql (t 22) (si 9) fun t137 =>
 p.cond t137
 (Abt p n  k n (tf 191 0 (ud [(5, i0), (102, t103), (103, t103), (136, t137), (137, t137)] t)) H)
 (p.bin .eql (t 22) (si 10) fun t168 =>
 p.cond t168
 (Abu p n  k n (tf 191 0 (ud [(6, i0), (102, t103), (103, t103), (136, t137), (137, t137), (167, t168), (168, t168)] t)) H)
 (k (t 3) H))))) fun j1 =>
 p.cond t99
 (j1 (ud [(0, a0), (1, t1), (2, bF), (3, t20), (7, t7), (8, t8), (9, t9), (10, t10), (11, t10), (12, t12), (13, t13), (14, t14), (15, t15), (16, t16), (17, t17), (18, t18), (19, t19), (20, t20), (21, t21), (22, t22), (23, t24), (24, t24), (69, t70), (70, t70), (74, t75), (75, t75), (98, t99), (99, t99)] ut) H)
 (p.bin .eql t22 (si 13) fun t100 =>
 p.cond t100
 (j1 (ud [(0, a0), (1, t1), (2, bF), (3, t20), (7, t7), (8, t8), (9, t9), (10, t10), (11, t10), (12, t12), (13, t13), (14, t14), (15, t15), (16, t16), (17, t17), (18, t18), (19, t19), (20, t20), (21, t21), (22, t22), (23, t24), (24, t24), (69, t70), (70, t70), (74, t75), (75, t75), (98, t100), (99, t99), (100, t100)] ut) H)
 (p.bin .eql t22 (si 14) fun t101 =>
 j1 (ud [(0, a0), (1, t1), (2, bF), (3, t20), (7, t7), (8, t8), (9, t9), (10, t10), (11, t10), (12, t12), (13, t13), (14, t14), (15, t15), (16, t16), (17, t17), (18, t18), (19, t19), (20, t20), (21, t21), (22, t22), (23, t24), (24, t24), (69, t70), (70, t70), (74, t75), (75, t75), (98, t101), (99, t99), (100, t100), (101, t101)] ut) H)))))))
 (p.hF t10 H (p.call 59 (.fn 90 [] []) [t13] H) fun t14 H =>
 p.gF t10 H (p.load true 25 t1 H) fun t12 H =>
 p.hF t10 H (p.call 4 (.fn 89 [] []) [t12, t14] H) fun t15 H =>
 p.gF t10 H (p.un .not t15) fun t16 H =>
 p.pick t10 bT t16 fun t17 =>
 p.cond t17
 (k bF H)
 (p.fadr 4 t1 fun t18 =>
 p.load false 1 t18 H fun t19 =>
 p.call 4 (.fn 81 [] []) [t19, (si 1), (si 65535)] H fun t20 H =>
 p.fadr 0 t1 fun t21 =>
 p.load false 1 t21 H fun t22 =>
 p.bin .eql t22 (si 1) fun t24 =>
 p.cond t24
 (p.fadr 11 t1 fun t25 =>
 p.load false 1 t25 H fun t26 =>
 p.gT t26 H (p.fadr 12 t1) fun t28 H =>
 p.gT t26 H (p.load false 1 t28 H) fun t29 H =>
 p.hT t26 H (p.call 4 (.fn 91 [] []) [t29] H) fun t30 H =>
 p.gT t26 H (p.un .not t30) fun t31 H =>
 p.kT t26 H t31 fun t32 H =>
 p.gF t32 H (p.fadr 13 t1) fun t33 H =>
 p.gF t32 H (p.load false 1 t33 H) fun t34 H =>
 p.gF t32 H (p.len t34) fun t35 H =>
 p.gF t32 H (p.bin .gtr t35 (si 40)) fun t36 H =>
 p.gT t26 H (p.pick t32 bT t36) fun t37 H =>
 p.kT t26 H t37 fun t38 H =>
 p.gF t38 H (p.fadr 14 t1) fun t39 H =>
 p.gF t38 H (p.load false 1 t39 H) fun t40 H =>
 p.hF t38 H (p.call 4 (.fn 81 [] []) [t40, i0, (si 2)] H) fun t41 H =>
 p.gF t38 H (p.un .not t41) fun t42 H =>
 p.gT t26 H (p.pick t38 bT t42) fun t43 H =>
 p.pick t26 t43 bF fun t44 =>
 p.cond t44
 (k bF H)
 (p.fadr 8 t1 fun t45 =>
 p.load false 1 t45 H fun t46 =>
 p.call 4 (.fn 81 [] []) [t46, i0, (si 255)] H fun t47 H =>
 p.gT t47 H (p.fadr 7 t1) fun t49 H =>
 p.gT t47 H (p.load false 1 t49 H) fun t50 H =>
 p.hT t47 H (p.call 4 (.fn 80 [] []) [t50] H) fun t51 H =>
 p.pick t47 t51 bF fun t52 =>
 p.gT t52 H (p.fadr 10 t1) fun t54 H =>
 p.gT t52 H (p.load false 1 t54 H) fun t55 H =>
 p.hT t52 H (p.call 4 (.fn 81 [] []) [t55, i0, (si 65535)] H) fun t56 H =>
 p.pick t52 t56 bF fun t57 =>
 p.gT t57 H (p.fadr 17 t1) fun t59 H =>
 p.gT t57 H (p.load false 1 t59 H) fun t60 H =>
 p.hT t57 H (p.call 4 (.fn 80 [] []) [t60] H) fun t61 H =>
 p.pick t57 t61 bF fun t62 =>
 p.gT t62 H (p.fadr 19 t1) fun t64 H =>
 p.gT t62 H (p.load false 1 t64 H) fun t65 H =>
 p.gT t62 H (p.len t65) fun t66 H =>
 p.gT t62 H (p.bin .leq t66 (si 60)) fun t67 H =>
 p.pick t62 t67 bF fun t68 =>
 k t68 H))
 (p.bin .eql t22 (si 2) fun t70 =>
 p.cond t70
 (p.fadr 20 t1 fun t71 =>
 p.load false 1 t71 H fun t72 =>
 p.call 4 (.fn 81 [] []) [t72, i0, (si 5)] H fun t73 H =>
 k t73 H)
 (p.bin .eql t22 (si 3) fun t75 =>
 p.cond t75
 (p.fadr 2 t1 fun t76 =>
 p.load false 1 t76 H fun t77 =>
 p.call 4 (.fn 81 [] []) [t77, i0, (si 2)] H fun t78 H =>
 p.gT t78 H (p.fadr 2 t1) fun t80 H =>
 p.gT t78 H (p.load false 1 t80 H) fun t81 H =>
 p.gT t78 H (p.bin .eql t81 i0) fun t82 H =>
 p.kT t78 H t82 fun t83 H =>
 p.kF t83 H t20 fun t84 H =>
 p.gT t78 H (p.pick t83 bT t84) fun t85 H =>
 p.pick t78 t85 bF fun t86 =>
 p.gT t86 H (p.fadr 5 t1) fun t88 H =>
 p.gT t86 H (p.load false 1 t88 H) fun t89 H =>
 p.hT t86 H (p.call 4 (.fn 91 [] []) [t89] H) fun t90 H =>
 p.pick t86 t90 bF fun t91 =>
 p.gT t91 H (p.fadr 6 t1) fun t93 H =>
 p.gT t91 H (p.load false 1 t93 H) fun t94 H =>
 p.gT t91 H (p.len t94) fun t95 H =>
 p.gT t91 H (p.bin .leq t95 (si 40)) fun t96 H =>
 p.pick t91 t96 bF fun t97 =>
 k t97 H)
 (p.bin .eql t22 (si 12) fun t99 =>
 E8 (fun (t : Nat → AV) (H : Ad) => p.cond (t 98)
 (k bT H)
 (p.bin .eql (t 22) (si 8) fun t103 =>
 p.cond t103
 (Abr p n  k n (tf 191 0 (ud [(4, i0), (102, t103), (103, t103)] t)) H)
 (p.bin .eql (t 22) (si 9) fun t137 =>
 p.cond t137
 (Abt p n  k n (tf 191 0 (ud [(5, i0), (102, t103), (103, t103), (136, t137), (137, t137)] t)) H)
 (p.bin .eql (t 22) (si 10) fun t168 =>
 p.cond t168
 (Abu p n  k n (tf 191 0 (ud [(6, i0), (102, t103), (103, t103), (136, t137), (137, t137), (167, t168), (168, t168)] t)) H)
 (k (t 3) H))))) fun j2 =>
 p.cond t99
 (j2 (ud [(0, a0), (1, t1), (2, bF), (3, t20), (7, t7), (8, t8), (9, t9), (10, t10), (11, t10), (12, t12), (13, t13), (14, t14), (15, t15), (16, t16), (17, t17), (18, t18), (19, t19), (20, t20), (21, t21), (22, t22), (23, t24), (24, t24), (69, t70), (70, t70), (74, t75), (75, t75), (98, t99), (99, t99)] ut) H)
 (p.bin .eql t22 (si 13) fun t100 =>
 p.cond t100
 (j2 (ud [(0, a0), (1, t1), (2, bF), (3, t20), (7, t7), (8, t8), (9, t9), (10, t10), (11, t10), (12, t12), (13, t13), (14, t14), (15, t15), (16, t16), (17, t17), (18, t18), (19, t19), (20, t20), (21, t21), (22, t22), (23, t24), (24, t24), (69, t70), (70, t70), (74, t75), (75, t75), (98, t100), (99, t99), (100, t100)] ut) H)
 (p.bin .eql t22 (si 14) fun t101 =>
 j2 (ud [(0, a0), (1, t1), (2, bF), (3, t20), (7, t7), (8, t8), (9, t9), (10, t10), (11, t10), (12, t12), (13, t13), (14, t14), (15, t15), (16, t16), (17, t17), (18, t18), (19, t19), (20, t20), (21, t21), (22, t22), (23, t24), (24, t24), (69, t70), (70, t70), (74, t75), (75, t75), (98, t101), (99, t99), (100, t100), (101, t101)] ut) H))))))) := by kernel_rfl
theorem Afm : Om fi64 @f64 := fun p n a0 H k => by
 rw [AhZ]
 simp only [AdC, AdD, AdE]
 kernel_rfl
noncomputable def f95 (p : Pr β) (n : Nat) (a0 a1 : AV) (H : Ad) (k : KO β) : Option β :=
 p.app 1 1 .nl a0 H fun t7 H =>
 p.bin .shr a1 (.sc (.int .u64 8)) fun t9 =>
 p.bin .and t9 (si 255) fun t10 =>
 p.cvI .u8 t10 fun t11 =>
 p.bin .and a1 (si 255) fun t13 =>
 p.cvI .u8 t13 fun t14 =>
 p.fill [(su 0), (su 0)] [(0, 1, t11), (1, 1, t14)] fun ct15 => p.newSl 2 1 ct15 true H fun t15 H =>
 p.app 1 1 t7 t15 H fun t16 H =>
 k t16 H
theorem AfN : Ll AlG @f95 := fun p n a0 a1 H k => by kernel_rfl
noncomputable def f93 (p : Pr β) (n : Nat) (a0 a1 : AV) (H : Ad) (k : KO β) : Option β :=
 p.call 4 (.fn 80 [] []) [a1] H fun t6 H =>
 p.un .not t6 fun t7 =>
 p.cond t7
 (p.app 1 1 .nl a0 H fun t10 H =>
 k t10 H)
 (p.lenS a1 fun t13 =>
 p.call 22 (.fn 95 [] []) [a0, t13] H fun t14 H =>
 p.appS 1 t14 a1 H fun t16 H =>
 k t16 H)
theorem AfL : Ll AlE @f93 := fun p n a0 a1 H k => by kernel_rfl
noncomputable def f94 (p : Pr β) (n : Nat) (a0 a1 : AV) (H : Ad) (k : KO β) : Option β :=
 p.cond a0
 (k a1 H)
 (k i0 H)
theorem AfM : Ll AlF @f94 := fun p n a0 a1 H k => by kernel_rfl
noncomputable def f96 (p : Pr β) (n : Nat) (a0 a1 : AV) (H : Ad) (k : KO β) : Option β :=
 p.len a1 fun t6 =>
 p.bin .gtr t6 (si 60) fun t7 =>
 p.cond t7
 (p.app 1 1 .nl a0 H fun t10 H =>
 k t10 H)
 (p.len a1 fun t13 =>
 p.call 22 (.fn 95 [] []) [a0, t13] H fun t14 H =>
 p.app 1 1 t14 a1 H fun t16 H =>
 k t16 H)
theorem AfO : Ll AlH @f96 := fun p n a0 a1 H k => by kernel_rfl
noncomputable def Oz (p : Pr β) (n : Nat)  (k : KO β) : Nat → AV → KO β
 | 0, _, _, _ => none
 | m + 1, t1, t5, H => p.bin .gtr t1 (si 127) fun t14 =>
   p.cond t14
   (p.bin .rem t1 (si 128) fun t17 =>
   p.bin .add (si 128) t17 fun t18 =>
   p.cvI .u8 t18 fun t19 =>
   p.fill [(su 0)] [(0, 1, t19)] fun ct20 => p.newSl 1 1 ct20 true H fun t20 H =>
   p.app 1 1 t5 t20 H fun t21 H =>
   p.bin .quo t1 (si 128) fun t23 =>
   Oz p n  k m t23 t21 H)
   (p.cvI .u8 t1 fun t26 =>
   p.fill [(su 0)] [(0, 1, t26)] fun ct27 => p.newSl 1 1 ct27 true H fun t27 H =>
   p.app 1 1 t5 t27 H fun t28 H =>
   k t28 H)
noncomputable def f97 (p : Pr β) (n : Nat) (a0 a1 : AV) (H : Ad) (k : KO β) : Option β :=
 p.app 1 1 .nl a0 H fun t8 H =>
 p.call 4 (.fn 81 [] []) [a1, i0, (si 268435455)] H fun t10 H =>
 p.un .not t10 fun t11 =>
 p.cond t11
 (k t8 H)
 (Oz p n  k n a1 t8 H)
noncomputable def AfP (p : Pr β) (n : Nat)  (k : KO β) (m : Nat) (tm : Tm) (H : Ad) : Option β :=
 D0 29 (fun tm H k => Al Au p [] 29 n (cd c97 [1, 1, 1, 0, 0, 0]) tm H k) (E7 0 (Eo (fun tm H => Al Au p [] 29 n (cd c97 [1, 1, 1, 1]) tm H (Cu Au p fi97.results k)) (Cu Au p fi97.results k))) m tm H
theorem AdN (p : Pr β) (n : Nat)  (k : KO β) (m0 : Nat) : ∀ (t : Nat → AV) (H : Ad), AfP p n  k m0 (tf 29 0 t) H = Oz p n  k m0 (t 1) (t 5) H := by
 induction m0 with
 | zero => intros; rfl
 | succ m0 ih =>
  intro t H
  refine Eq.trans (Bt (nt := 29) (m := m0) (g := fun t H => Oz p n  k m0 (t 1) (t 5) H) ih rfl) ?_
  kernel_rfl
theorem Aij (p : Pr β) (n : Nat) (a0 a1 : AV) (H : Ad) (k : KO β) : Cr Au p n fi97 [a0, a1] H k =
 p.app 1 1 .nl a0 H fun t8 H =>
 p.call 4 (.fn 81 [] []) [a1, i0, (si 268435455)] H fun t10 H =>
 p.un .not t10 fun t11 =>
 p.cond t11
 (k t8 H)
 (AfP p n  k n (tf 29 0 (ud [(0, a0), (1, a1), (4, .nl), (5, t8), (6, .nl), (7, a0), (8, t8), (9, a1), (10, t10), (11, t11)] ut)) H) := by kernel_rfl
theorem AfQ : Ll fi97 @f97 := fun p n a0 a1 H k => by
 rw [Aij]
 simp only [AdN]
 kernel_rfl
noncomputable def Qo (p : Pr β) (n : Nat)  (k : KO β) : Nat → AV → AV → AV → KO β
 | 0, _, _, _, _, _ => none
 | m + 1, t1, t3, t4, t7, H => p.fadr 23 t1 fun t183 =>
   p.load false 1 t183 H fun t184 =>
   p.len t184 fun t185 =>
   p.bin .lss t7 t185 fun t186 =>
   p.cond t186
   (p.fadr 23 t1 fun t190 =>
   p.load false 1 t190 H fun t191 =>
   p.iadr 1 t191 t7 fun t193 =>
   p.load false 1 t193 H fun t194 =>
   p.call 22 (.fn 93 [] []) [t4, t194] H fun t195 H =>
   p.bin .add t7 (si 1) fun t188 =>
   Qo p n  k m t1 t3 t195 t188 H)
   (p.cvI .u8 t3 fun t197 =>
   p.fill [(su 0)] [(0, 1, t197)] fun ct198 => p.newSl 1 1 ct198 true H fun t198 H =>
   p.len t4 fun t200 =>
   p.call 22 (.fn 97 [] []) [t198, t200] H fun t201 H =>
   p.app 1 1 t201 t4 H fun t203 H =>
   k t203 H)
noncomputable def Nu (p : Pr β) (n : Nat)  (k : KO β) : Nat → AV → AV → AV → KO β
 | 0, _, _, _, _, _ => none
 | m + 1, t1, t3, t4, t6, H => p.fadr 24 t1 fun t167 =>
   p.load false 1 t167 H fun t168 =>
   p.len t168 fun t169 =>
   p.bin .lss t6 t169 fun t170 =>
   p.cond t170
   (p.fadr 24 t1 fun t174 =>
   p.load false 1 t174 H fun t175 =>
   p.iadr 1 t175 t6 fun t177 =>
   p.load false 1 t177 H fun t178 =>
   p.cvI .u8 t178 fun t179 =>
   p.fill [(su 0)] [(0, 1, t179)] fun ct180 => p.newSl 1 1 ct180 true H fun t180 H =>
   p.app 1 1 t4 t180 H fun t181 H =>
   p.bin .add t6 (si 1) fun t172 =>
   Nu p n  k m t1 t3 t181 t172 H)
   (Qo p n  k n t1 t3 t4 i0 H)
noncomputable def Nt (p : Pr β) (n : Nat)  (k : KO β) : Nat → AV → AV → AV → KO β
 | 0, _, _, _, _, _ => none
 | m + 1, t1, t3, t4, t5, H => p.fadr 22 t1 fun t143 =>
   p.load false 1 t143 H fun t144 =>
   p.len t144 fun t145 =>
   p.bin .lss t5 t145 fun t146 =>
   p.cond t146
   (p.fadr 22 t1 fun t150 =>
   p.load false 1 t150 H fun t151 =>
   p.iadr 2 t151 t5 fun t153 =>
   p.fadr 0 t153 fun t154 =>
   p.load false 1 t154 H fun t155 =>
   p.fadr 22 t1 fun t157 =>
   p.load false 1 t157 H fun t158 =>
   p.iadr 2 t158 t5 fun t160 =>
   p.fadr 1 t160 fun t161 =>
   p.load false 1 t161 H fun t162 =>
   p.cvI .u8 t162 fun t163 =>
   E8 (fun (t1 t3 t4 t5 : AV) (H : Ad) => p.bin .add t5 (si 1) fun t148 =>
   Nt p n  k m t1 t3 t4 t148 H) fun j1 =>
   p.both
   (p.call 22 (.fn 93 [] []) [t4, t155] H fun t156 H =>
   p.fill [(su 0)] [(0, 1, t163)] fun ct164 => p.newSl 1 1 ct164 true H fun t164 H =>
   p.app 1 1 t156 t164 H fun t165 H =>
   j1 t1 t3 t165 t5 H)
   (p.fill [(su 0)] [(0, 1, t163)] fun ct164 => p.newSl 1 1 ct164 true H fun t164 H =>
   p.call 22 (.fn 93 [] []) [t4, t155] H fun t156 H =>
   p.app 1 1 t156 t164 H fun t165 H =>
   j1 t1 t3 t165 t5 H))
   (Nu p n  k n t1 t3 t4 i0 H)
noncomputable def f66 (p : Pr β) (n : Nat) (a0 : AV) (H : Ad) (k : KO β) : Option β :=
 p.box a0 H fun t1 H =>
 p.load true 25 t1 H fun t8 =>
 p.call 4 (.fn 64 [] []) [t8] H fun t9 H =>
 p.un .not t9 fun t10 =>
 p.cond t10
 (k .nl H)
 (p.fadr 0 t1 fun t12 =>
 p.load false 1 t12 H fun t13 =>
 p.bin .mul (si 16) t13 fun t14 =>
 p.fadr 0 t1 fun t16 =>
 p.load false 1 t16 H fun t17 =>
 p.bin .eql t17 (si 1) fun t19 =>
 E8 (fun (t1 t3 t4 : AV) (H : Ad) => p.fadr 0 t1 fun t130 =>
 p.load false 1 t130 H fun t131 =>
 p.bin .neq t131 (si 3) fun t132 =>
 p.gT t132 H (p.fadr 4 t1) fun t134 H =>
 p.gT t132 H (p.load false 1 t134 H) fun t135 H =>
 p.gT t132 H (p.bin .gtr t135 i0) fun t136 H =>
 p.pick t132 t136 bF fun t137 =>
 E8 (fun (t1 t3 t4 : AV) (H : Ad) => Nt p n  k n t1 t3 t4 i0 H) fun j2 =>
 p.cond t137
 (p.fadr 4 t1 fun t139 =>
 p.load false 1 t139 H fun t140 =>
 p.call 22 (.fn 95 [] []) [t4, t140] H fun t141 H =>
 j2 t1 t3 t141 H)
 (j2 t1 t3 t4 H)) fun j1 =>
 p.cond t19
 (p.fadr 8 t1 fun t22 =>
 p.load false 1 t22 H fun t23 =>
 p.cvI .u8 t23 fun t24 =>
 E8 (fun (t1 t3 t4 : AV) (H : Ad) => p.fadr 9 t1 fun t28 =>
 p.load false 1 t28 H fun t29 =>
 p.fadr 11 t1 fun t31 =>
 p.load false 1 t31 H fun t32 =>
 p.fadr 14 t1 fun t35 =>
 p.load false 1 t35 H fun t36 =>
 p.bin .mul (si 8) t36 fun t37 =>
 p.fadr 15 t1 fun t39 =>
 p.load false 1 t39 H fun t40 =>
 p.fadr 18 t1 fun t43 =>
 p.load false 1 t43 H fun t44 =>
 p.fadr 16 t1 fun t47 =>
 p.load false 1 t47 H fun t48 =>
 p.call 3 (.fn 94 [] []) [t29, (si 2)] H fun t30 H =>
 p.call 3 (.fn 94 [] []) [t32, (si 4)] H fun t33 H =>
 p.bin .add t30 t33 fun t34 =>
 p.bin .add t34 t37 fun t38 =>
 p.call 3 (.fn 94 [] []) [t40, (si 32)] H fun t41 H =>
 p.bin .add t38 t41 fun t42 =>
 p.call 3 (.fn 94 [] []) [t44, (si 64)] H fun t45 H =>
 p.bin .add t42 t45 fun t46 =>
 p.call 3 (.fn 94 [] []) [t48, (si 128)] H fun t49 H =>
 p.bin .add t46 t49 fun t50 =>
 p.cvI .u8 t50 fun t51 =>
 p.fill [(su 0)] [(0, 1, t51)] fun ct52 => p.newSl 1 1 ct52 true H fun t52 H =>
 p.app 1 1 t4 t52 H fun t53 H =>
 p.fadr 10 t1 fun t55 =>
 p.load false 1 t55 H fun t56 =>
 p.fadr 7 t1 fun t58 =>
 p.load false 1 t58 H fun t59 =>
 p.call 22 (.fn 95 [] []) [t53, t56] H fun t57 H =>
 p.call 22 (.fn 93 [] []) [t57, t59] H fun t60 H =>
 p.fadr 11 t1 fun t61 =>
 p.load false 1 t61 H fun t62 =>
 E8 (fun (t1 t3 t4 : AV) (H : Ad) => p.fadr 16 t1 fun t70 =>
 p.load false 1 t70 H fun t71 =>
 E8 (fun (t1 t3 t4 : AV) (H : Ad) => p.fadr 18 t1 fun t76 =>
 p.load false 1 t76 H fun t77 =>
 p.cond t77
 (p.fadr 19 t1 fun t79 =>
 p.load false 1 t79 H fun t80 =>
 p.call 22 (.fn 96 [] []) [t4, t80] H fun t81 H =>
 j1 t1 t3 t81 H)
 (j1 t1 t3 t4 H)) fun j5 =>
 p.cond t71
 (p.fadr 17 t1 fun t73 =>
 p.load false 1 t73 H fun t74 =>
 p.call 22 (.fn 93 [] []) [t4, t74] H fun t75 H =>
 j5 t1 t3 t75 H)
 (j5 t1 t3 t4 H)) fun j4 =>
 p.cond t62
 (p.fadr 12 t1 fun t64 =>
 p.load false 1 t64 H fun t65 =>
 p.fadr 13 t1 fun t67 =>
 p.load false 1 t67 H fun t68 =>
 p.call 22 (.fn 93 [] []) [t60, t65] H fun t66 H =>
 p.call 22 (.fn 96 [] []) [t66, t68] H fun t69 H =>
 j4 t1 t3 t69 H)
 (j4 t1 t3 t60 H)) fun j3 =>
 p.both
 (p.call 22 (.fn 93 [] []) [.nl, (.sc (.string ⟨#[77, 81, 84, 84]⟩))] H fun t21 H =>
 p.fill [(su 0)] [(0, 1, t24)] fun ct25 => p.newSl 1 1 ct25 true H fun t25 H =>
 p.app 1 1 t21 t25 H fun t26 H =>
 j3 t1 t14 t26 H)
 (p.fill [(su 0)] [(0, 1, t24)] fun ct25 => p.newSl 1 1 ct25 true H fun t25 H =>
 p.call 22 (.fn 93 [] []) [.nl, (.sc (.string ⟨#[77, 81, 84, 84]⟩))] H fun t21 H =>
 p.app 1 1 t21 t25 H fun t26 H =>
 j3 t1 t14 t26 H))
 (p.bin .eql t17 (si 2) fun t83 =>
 p.cond t83
 (p.fadr 21 t1 fun t85 =>
 p.load false 1 t85 H fun t86 =>
 p.fadr 20 t1 fun t89 =>
 p.load false 1 t89 H fun t90 =>
 p.cvI .u8 t90 fun t91 =>
 p.call 3 (.fn 94 [] []) [t86, (si 1)] H fun t87 H =>
 p.cvI .u8 t87 fun t88 =>
 p.fill [(su 0), (su 0)] [(0, 1, t88), (1, 1, t91)] fun ct92 => p.newSl 2 1 ct92 true H fun t92 H =>
 p.app 1 1 .nl t92 H fun t93 H =>
 j1 t1 t14 t93 H)
 (p.bin .eql t17 (si 3) fun t95 =>
 p.cond t95
 (p.fadr 1 t1 fun t97 =>
 p.load false 1 t97 H fun t98 =>
 p.fadr 2 t1 fun t101 =>
 p.load false 1 t101 H fun t102 =>
 p.bin .mul (si 2) t102 fun t103 =>
 p.fadr 3 t1 fun t105 =>
 p.load false 1 t105 H fun t106 =>
 p.call 3 (.fn 94 [] []) [t98, (si 8)] H fun t99 H =>
 p.bin .add t14 t99 fun t100 =>
 p.bin .add t100 t103 fun t104 =>
 p.call 3 (.fn 94 [] []) [t106, (si 1)] H fun t107 H =>
 p.bin .add t104 t107 fun t108 =>
 p.fadr 5 t1 fun t110 =>
 p.load false 1 t110 H fun t111 =>
 p.call 22 (.fn 93 [] []) [.nl, t111] H fun t112 H =>
 p.fadr 2 t1 fun t113 =>
 p.load false 1 t113 H fun t114 =>
 p.bin .gtr t114 i0 fun t115 =>
 E8 (fun (t1 t3 t4 : AV) (H : Ad) => p.fadr 6 t1 fun t121 =>
 p.load false 1 t121 H fun t122 =>
 p.app 1 1 t4 t122 H fun t123 H =>
 j1 t1 t3 t123 H) fun j6 =>
 p.cond t115
 (p.fadr 4 t1 fun t117 =>
 p.load false 1 t117 H fun t118 =>
 p.call 22 (.fn 95 [] []) [t112, t118] H fun t119 H =>
 j6 t1 t108 t119 H)
 (j6 t1 t108 t112 H))
 (p.bin .eql t17 (si 6) fun t125 =>
 E8 (fun (t1 t3 t4 t124 : AV) (H : Ad) => p.cond t124
 (p.bin .add t3 (si 2) fun t129 =>
 j1 t1 t129 t4 H)
 (j1 t1 t3 t4 H)) fun j7 =>
 p.cond t125
 (j7 t1 t14 .nl t125 H)
 (p.bin .eql t17 (si 8) fun t126 =>
 p.cond t126
 (j7 t1 t14 .nl t126 H)
 (p.bin .eql t17 (si 10) fun t127 =>
 j7 t1 t14 .nl t127 H))))))
noncomputable def Afq (p : Pr β) (n : Nat)  (k : KO β) (m : Nat) (tm : Tm) (H : Ad) : Option β :=
 D0 204 (fun tm H k => Al Au p o66 204 n (cd c66 [1, 1, 1, 1, 1, 1, 1, 1, 0, 1, 0, 0]) tm H k) (E7 5 (Eo (fun tm H => Al Au p o66 204 n (cd c66 [1, 1, 1, 1, 1, 1, 1, 1, 1]) tm H (Cu Au p fi66.results k)) (Cu Au p fi66.results k))) m tm H
noncomputable def Afp (p : Pr β) (n : Nat)  (k : KO β) (m : Nat) (tm : Tm) (H : Ad) : Option β :=
 D0 204 (fun tm H k => Al Au p o66 204 n (cd c66 [1, 1, 1, 1, 1, 1, 1, 0, 1, 0, 0]) tm H k) (E7 3 (Eo (fun tm H => Al Au p o66 204 n (cd c66 [1, 1, 1, 1, 1, 1, 1, 1]) tm H (Cu Au p fi66.results k)) (Cu Au p fi66.results k))) m tm H
noncomputable def Afo (p : Pr β) (n : Nat)  (k : KO β) (m : Nat) (tm : Tm) (H : Ad) : Option β :=
 D0 204 (fun tm H k => Al Au p o66 204 n (cd c66 [1, 1, 1, 1, 1, 1, 0, 1, 0, 0]) tm H k) (E7 1 (Eo (fun tm H => Al Au p o66 204 n (cd c66 [1, 1, 1, 1, 1, 1, 1]) tm H (Cu Au p fi66.results k)) (Cu Au p fi66.results k))) m tm H
theorem Xh (p : Pr β) (n : Nat)  (k : KO β) (m2 : Nat) : ∀ (t : Nat → AV) (H : Ad), Afq p n  k m2 (tf 204 0 t) H = Qo p n  k m2 (t 1) (t 3) (t 4) (t 7) H := by
 induction m2 with
 | zero => intros; rfl
 | succ m2 ih =>
  intro t H
  refine Eq.trans (Bt (nt := 204) (m := m2) (g := fun t H => Qo p n  k m2 (t 1) (t 3) (t 4) (t 7) H) ih rfl) ?_
  kernel_rfl
theorem Aaf (p : Pr β) (n : Nat)  (k : KO β) (m1 : Nat) (t : Nat → AV) (H : Ad) : Al Au p o66 204 n (cd c66 [1, 1, 1, 1, 1, 1, 1, 0, 1, 0, 0]) (tf 204 0 t) H (Eo (fun tm H => Nu p n  k m1 (gt tm 1) (gt tm 3) (gt tm 4) (gt tm 6) H) (E7 3 (Eo (fun tm H => Al Au p o66 204 n (cd c66 [1, 1, 1, 1, 1, 1, 1, 1]) tm H (Cu Au p fi66.results k)) (Cu Au p fi66.results k)))) =
 p.fadr 24 (t 1) fun t167 =>
 p.load false 1 t167 H fun t168 =>
 p.len t168 fun t169 =>
 p.bin .lss (t 6) t169 fun t170 =>
 p.cond t170
 (p.fadr 24 (t 1) fun t174 =>
 p.load false 1 t174 H fun t175 =>
 p.iadr 1 t175 (t 6) fun t177 =>
 p.load false 1 t177 H fun t178 =>
 p.cvI .u8 t178 fun t179 =>
 p.fill [(su 0)] [(0, 1, t179)] fun ct180 => p.newSl 1 1 ct180 true H fun t180 H =>
 p.app 1 1 (t 4) t180 H fun t181 H =>
 p.bin .add (t 6) (si 1) fun t172 =>
 Nu p n  k m1 (t 1) (t 3) t181 t172 H)
 (Afq p n  k n (tf 204 0 (ud [(7, i0), (166, (t 6)), (167, t167), (168, t168), (169, t169), (170, t170)] t)) H) := by kernel_rfl
theorem Xg (p : Pr β) (n : Nat)  (k : KO β) (m1 : Nat) : ∀ (t : Nat → AV) (H : Ad), Afp p n  k m1 (tf 204 0 t) H = Nu p n  k m1 (t 1) (t 3) (t 4) (t 6) H := by
 induction m1 with
 | zero => intros; rfl
 | succ m1 ih =>
  intro t H
  refine Eq.trans (Bt (nt := 204) (m := m1) (g := fun t H => Nu p n  k m1 (t 1) (t 3) (t 4) (t 6) H) ih rfl) ?_
  refine Eq.trans (Aaf p n  k m1 t H) ?_
  simp only [Xh]
  kernel_rfl
theorem Aae (p : Pr β) (n : Nat)  (k : KO β) (m0 : Nat) (t : Nat → AV) (H : Ad) : Al Au p o66 204 n (cd c66 [1, 1, 1, 1, 1, 1, 0, 1, 0, 0]) (tf 204 0 t) H (Eo (fun tm H => Nt p n  k m0 (gt tm 1) (gt tm 3) (gt tm 4) (gt tm 5) H) (E7 1 (Eo (fun tm H => Al Au p o66 204 n (cd c66 [1, 1, 1, 1, 1, 1, 1]) tm H (Cu Au p fi66.results k)) (Cu Au p fi66.results k)))) =
 p.fadr 22 (t 1) fun t143 =>
 p.load false 1 t143 H fun t144 =>
 p.len t144 fun t145 =>
 p.bin .lss (t 5) t145 fun t146 =>
 p.cond t146
 (p.fadr 22 (t 1) fun t150 =>
 p.load false 1 t150 H fun t151 =>
 p.iadr 2 t151 (t 5) fun t153 =>
 p.fadr 0 t153 fun t154 =>
 p.load false 1 t154 H fun t155 =>
 p.fadr 22 (t 1) fun t157 =>
 p.load false 1 t157 H fun t158 =>
 p.iadr 2 t158 (t 5) fun t160 =>
 p.fadr 1 t160 fun t161 =>
 p.load false 1 t161 H fun t162 =>
 p.cvI .u8 t162 fun t163 =>
 E8 (fun (t : Nat → AV) (H : Ad) => p.bin .add (t 5) (si 1) fun t148 =>
 Nt p n  k m0 (t 1) (t 3) (t 4) t148 H) fun j1 =>
 p.both
 (p.call 22 (.fn 93 [] []) [(t 4), t155] H fun t156 H =>
 p.fill [(su 0)] [(0, 1, t163)] fun ct164 => p.newSl 1 1 ct164 true H fun t164 H =>
 p.app 1 1 t156 t164 H fun t165 H =>
 j1 (ud [(4, t165), (142, (t 5)), (143, t143), (144, t144), (145, t145), (146, t146), (149, (t 4)), (150, t150), (151, t151), (152, (t 5)), (153, t153), (154, t154), (155, t155), (156, t156), (157, t157), (158, t158), (159, (t 5)), (160, t160), (161, t161), (162, t162), (163, t163), (164, t164), (165, t165)] t) H)
 (p.fill [(su 0)] [(0, 1, t163)] fun ct164 => p.newSl 1 1 ct164 true H fun t164 H =>
 p.call 22 (.fn 93 [] []) [(t 4), t155] H fun t156 H =>
 p.app 1 1 t156 t164 H fun t165 H =>
 j1 (ud [(4, t165), (142, (t 5)), (143, t143), (144, t144), (145, t145), (146, t146), (149, (t 4)), (150, t150), (151, t151), (152, (t 5)), (153, t153), (154, t154), (155, t155), (156, t156), (157, t157), (158, t158), (159, (t 5)), (160, t160), (161, t161), (162, t162), (163, t163), (164, t164), (165, t165)] t) H))
 (Afp p n  k n (tf 204 0 (ud [(6, i0), (142, (t 5)), (143, t143), (144, t144), (145, t145), (146, t146)] t)) H) := by kernel_rfl
theorem AdF (p : Pr β) (n : Nat)  (k : KO β) (m0 : Nat) : ∀ (t : Nat → AV) (H : Ad), Afo p n  k m0 (tf 204 0 t) H = Nt p n  k m0 (t 1) (t 3) (t 4) (t 5) H := by
 induction m0 with
 | zero => intros; rfl
 | succ m0 ih =>
  intro t H
  refine Eq.trans (Bt (nt := 204) (m := m0) (g := fun t H => Nt p n  k m0 (t 1) (t 3) (t 4) (t 5) H) ih rfl) ?_
  refine Eq.trans (Aae p n  k m0 t H) ?_
  simp only [Xg]
  kernel_rfl
theorem Aia (p : Pr β) (n : Nat) (a0 : AV) (H : Ad) (k : KO β) : Cr Au p n fi66 [a0] H k =
 p.box a0 H fun t1 H =>
 p.load true 25 t1 H fun t8 =>
 p.call 4 (.fn 64 [] []) [t8] H fun t9 H =>
 p.un .not t9 fun t10 =>
 p.cond t10
 (k .nl H)
 (p.fadr 0 t1 fun t12 =>
 p.load false 1 t12 H fun t13 =>
 p.bin .mul (si 16) t13 fun t14 =>
 p.fadr 0 t1 fun t16 =>
 p.load false 1 t16 H fun t17 =>
 p.bin .eql t17 (si 1) fun t19 =>
 E8 (fun (t : Nat → AV) (H : Ad) => p.fadr 0 (t 1) fun t130 =>
 p.load false 1 t130 H fun t131 =>
 p.bin .neq t131 (si 3) fun t132 =>
 p.gT t132 H (p.fadr 4 (t 1)) fun t134 H =>
 p.gT t132 H (p.load false 1 t134 H) fun t135 H =>
 p.gT t132 H (p.bin .gtr t135 i0) fun t136 H =>
 p.pick t132 t136 bF fun t137 =>
 E8 (fun (t : Nat → AV) (H : Ad) => Afo p n  k n (tf 204 0 (ud [(5, i0)] t)) H) fun j2 =>
 p.cond t137
 (p.fadr 4 (t 1) fun t139 =>
 p.load false 1 t139 H fun t140 =>
 p.call 22 (.fn 95 [] []) [(t 4), t140] H fun t141 H =>
 j2 (ud [(4, t141), (130, t130), (131, t131), (132, t132), (133, t132), (134, t134), (135, t135), (136, t136), (137, t137), (138, (t 4)), (139, t139), (140, t140), (141, t141)] t) H)
 (j2 (ud [(130, t130), (131, t131), (132, t132), (133, t132), (134, t134), (135, t135), (136, t136), (137, t137)] t) H)) fun j1 =>
 p.cond t19
 (p.fadr 8 t1 fun t22 =>
 p.load false 1 t22 H fun t23 =>
 p.cvI .u8 t23 fun t24 =>
 E8 (fun (t : Nat → AV) (H : Ad) => p.fadr 9 (t 1) fun t28 =>
 p.load false 1 t28 H fun t29 =>
 p.fadr 11 (t 1) fun t31 =>
 p.load false 1 t31 H fun t32 =>
 p.fadr 14 (t 1) fun t35 =>
 p.load false 1 t35 H fun t36 =>
 p.bin .mul (si 8) t36 fun t37 =>
 p.fadr 15 (t 1) fun t39 =>
 p.load false 1 t39 H fun t40 =>
 p.fadr 18 (t 1) fun t43 =>
 p.load false 1 t43 H fun t44 =>
 p.fadr 16 (t 1) fun t47 =>
 p.load false 1 t47 H fun t48 =>
 p.call 3 (.fn 94 [] []) [t29, (si 2)] H fun t30 H =>
 p.call 3 (.fn 94 [] []) [t32, (si 4)] H fun t33 H =>
 p.bin .add t30 t33 fun t34 =>
 p.bin .add t34 t37 fun t38 =>
 p.call 3 (.fn 94 [] []) [t40, (si 32)] H fun t41 H =>
 p.bin .add t38 t41 fun t42 =>
 p.call 3 (.fn 94 [] []) [t44, (si 64)] H fun t45 H =>
 p.bin .add t42 t45 fun t46 =>
 p.call 3 (.fn 94 [] []) [t48, (si 128)] H fun t49 H =>
 p.bin .add t46 t49 fun t50 =>
 p.cvI .u8 t50 fun t51 =>
 p.fill [(su 0)] [(0, 1, t51)] fun ct52 => p.newSl 1 1 ct52 true H fun t52 H =>
 p.app 1 1 (t 4) t52 H fun t53 H =>
 p.fadr 10 (t 1) fun t55 =>
 p.load false 1 t55 H fun t56 =>
 p.fadr 7 (t 1) fun t58 =>
 p.load false 1 t58 H fun t59 =>
 p.call 22 (.fn 95 [] []) [t53, t56] H fun t57 H =>
 p.call 22 (.fn 93 [] []) [t57, t59] H fun t60 H =>
 p.fadr 11 (t 1) fun t61 =>
 p.load false 1 t61 H fun t62 =>
 E8 (fun (t : Nat → AV) (H : Ad) => p.fadr 16 (t 1) fun t70 =>
 p.load false 1 t70 H fun t71 =>
 E8 (fun (t : Nat → AV) (H : Ad) => p.fadr 18 (t 1) fun t76 =>
 p.load false 1 t76 H fun t77 =>
 p.cond t77
 (p.fadr 19 (t 1) fun t79 =>
 p.load false 1 t79 H fun t80 =>
 p.call 22 (.fn 96 [] []) [(t 4), t80] H fun t81 H =>
 j1 (ud [(4, t81), (76, t76), (77, t77), (78, (t 4)), (79, t79), (80, t80), (81, t81)] t) H)
 (j1 (ud [(76, t76), (77, t77)] t) H)) fun j5 =>
 p.cond t71
 (p.fadr 17 (t 1) fun t73 =>
 p.load false 1 t73 H fun t74 =>
 p.call 22 (.fn 93 [] []) [(t 4), t74] H fun t75 H =>
 j5 (ud [(4, t75), (70, t70), (71, t71), (72, (t 4)), (73, t73), (74, t74), (75, t75)] t) H)
 (j5 (ud [(70, t70), (71, t71)] t) H)) fun j4 =>
 p.cond t62
 (p.fadr 12 (t 1) fun t64 =>
 p.load false 1 t64 H fun t65 =>
 p.fadr 13 (t 1) fun t67 =>
 p.load false 1 t67 H fun t68 =>
 p.call 22 (.fn 93 [] []) [t60, t65] H fun t66 H =>
 p.call 22 (.fn 96 [] []) [t66, t68] H fun t69 H =>
 j4 (ud [(4, t69), (27, (t 4)), (28, t28), (29, t29), (30, t30), (31, t31), (32, t32), (33, t33), (34, t34), (35, t35), (36, t36), (37, t37), (38, t38), (39, t39), (40, t40), (41, t41), (42, t42), (43, t43), (44, t44), (45, t45), (46, t46), (47, t47), (48, t48), (49, t49), (50, t50), (51, t51), (52, t52), (53, t53), (54, t53), (55, t55), (56, t56), (57, t57), (58, t58), (59, t59), (60, t60), (61, t61), (62, t62), (63, t60), (64, t64), (65, t65), (66, t66), (67, t67), (68, t68), (69, t69)] t) H)
 (j4 (ud [(4, t60), (27, (t 4)), (28, t28), (29, t29), (30, t30), (31, t31), (32, t32), (33, t33), (34, t34), (35, t35), (36, t36), (37, t37), (38, t38), (39, t39), (40, t40), (41, t41), (42, t42), (43, t43), (44, t44), (45, t45), (46, t46), (47, t47), (48, t48), (49, t49), (50, t50), (51, t51), (52, t52), (53, t53), (54, t53), (55, t55), (56, t56), (57, t57), (58, t58), (59, t59), (60, t60), (61, t61), (62, t62)] t) H)) fun j3 =>
 p.both
 (p.call 22 (.fn 93 [] []) [.nl, (.sc (.string ⟨#[77, 81, 84, 84]⟩))] H fun t21 H =>
 p.fill [(su 0)] [(0, 1, t24)] fun ct25 => p.newSl 1 1 ct25 true H fun t25 H =>
 p.app 1 1 t21 t25 H fun t26 H =>
 j3 (ud [(0, a0), (1, t1), (2, .nl), (3, t14), (4, t26), (8, t8), (9, t9), (10, t10), (12, t12), (13, t13), (14, t14), (15, .nl), (16, t16), (17, t17), (18, t19), (19, t19), (20, .nl), (21, t21), (22, t22), (23, t23), (24, t24), (25, t25), (26, t26)] ut) H)
 (p.fill [(su 0)] [(0, 1, t24)] fun ct25 => p.newSl 1 1 ct25 true H fun t25 H =>
 p.call 22 (.fn 93 [] []) [.nl, (.sc (.string ⟨#[77, 81, 84, 84]⟩))] H fun t21 H =>
 p.app 1 1 t21 t25 H fun t26 H =>
 j3 (ud [(0, a0), (1, t1), (2, .nl), (3, t14), (4, t26), (8, t8), (9, t9), (10, t10), (12, t12), (13, t13), (14, t14), (15, .nl), (16, t16), (17, t17), (18, t19), (19, t19), (20, .nl), (21, t21), (22, t22), (23, t23), (24, t24), (25, t25), (26, t26)] ut) H))
 (p.bin .eql t17 (si 2) fun t83 =>
 p.cond t83
 (p.fadr 21 t1 fun t85 =>
 p.load false 1 t85 H fun t86 =>
 p.fadr 20 t1 fun t89 =>
 p.load false 1 t89 H fun t90 =>
 p.cvI .u8 t90 fun t91 =>
 p.call 3 (.fn 94 [] []) [t86, (si 1)] H fun t87 H =>
 p.cvI .u8 t87 fun t88 =>
 p.fill [(su 0), (su 0)] [(0, 1, t88), (1, 1, t91)] fun ct92 => p.newSl 2 1 ct92 true H fun t92 H =>
 p.app 1 1 .nl t92 H fun t93 H =>
 j1 (ud [(0, a0), (1, t1), (2, .nl), (3, t14), (4, t93), (8, t8), (9, t9), (10, t10), (12, t12), (13, t13), (14, t14), (15, .nl), (16, t16), (17, t17), (18, t19), (19, t19), (82, t83), (83, t83), (84, .nl), (85, t85), (86, t86), (87, t87), (88, t88), (89, t89), (90, t90), (91, t91), (92, t92), (93, t93)] ut) H)
 (p.bin .eql t17 (si 3) fun t95 =>
 p.cond t95
 (p.fadr 1 t1 fun t97 =>
 p.load false 1 t97 H fun t98 =>
 p.fadr 2 t1 fun t101 =>
 p.load false 1 t101 H fun t102 =>
 p.bin .mul (si 2) t102 fun t103 =>
 p.fadr 3 t1 fun t105 =>
 p.load false 1 t105 H fun t106 =>
 p.call 3 (.fn 94 [] []) [t98, (si 8)] H fun t99 H =>
 p.bin .add t14 t99 fun t100 =>
 p.bin .add t100 t103 fun t104 =>
 p.call 3 (.fn 94 [] []) [t106, (si 1)] H fun t107 H =>
 p.bin .add t104 t107 fun t108 =>
 p.fadr 5 t1 fun t110 =>
 p.load false 1 t110 H fun t111 =>
 p.call 22 (.fn 93 [] []) [.nl, t111] H fun t112 H =>
 p.fadr 2 t1 fun t113 =>
 p.load false 1 t113 H fun t114 =>
 p.bin .gtr t114 i0 fun t115 =>
 E8 (fun (t : Nat → AV) (H : Ad) => p.fadr 6 (t 1) fun t121 =>
 p.load false 1 t121 H fun t122 =>
 p.app 1 1 (t 4) t122 H fun t123 H =>
 j1 (ud [(4, t123), (120, (t 4)), (121, t121), (122, t122), (123, t123)] t) H) fun j6 =>
 p.cond t115
 (p.fadr 4 t1 fun t117 =>
 p.load false 1 t117 H fun t118 =>
 p.call 22 (.fn 95 [] []) [t112, t118] H fun t119 H =>
 j6 (ud [(0, a0), (1, t1), (2, .nl), (3, t108), (4, t119), (8, t8), (9, t9), (10, t10), (12, t12), (13, t13), (14, t14), (15, .nl), (16, t16), (17, t17), (18, t19), (19, t19), (82, t83), (83, t83), (94, t95), (95, t95), (96, t14), (97, t97), (98, t98), (99, t99), (100, t100), (101, t101), (102, t102), (103, t103), (104, t104), (105, t105), (106, t106), (107, t107), (108, t108), (109, .nl), (110, t110), (111, t111), (112, t112), (113, t113), (114, t114), (115, t115), (116, t112), (117, t117), (118, t118), (119, t119)] ut) H)
 (j6 (ud [(0, a0), (1, t1), (2, .nl), (3, t108), (4, t112), (8, t8), (9, t9), (10, t10), (12, t12), (13, t13), (14, t14), (15, .nl), (16, t16), (17, t17), (18, t19), (19, t19), (82, t83), (83, t83), (94, t95), (95, t95), (96, t14), (97, t97), (98, t98), (99, t99), (100, t100), (101, t101), (102, t102), (103, t103), (104, t104), (105, t105), (106, t106), (107, t107), (108, t108), (109, .nl), (110, t110), (111, t111), (112, t112), (113, t113), (114, t114), (115, t115)] ut) H))
 (p.bin .eql t17 (si 6) fun t125 =>
 E8 (fun (t : Nat → AV) (H : Ad) => p.cond (t 124)
 (p.bin .add (t 3) (si 2) fun t129 =>
 j1 (ud [(3, t129), (128, (t 3)), (129, t129)] t) H)
 (j1 t H)) fun j7 =>
 p.cond t125
 (j7 (ud [(0, a0), (1, t1), (2, .nl), (3, t14), (4, .nl), (8, t8), (9, t9), (10, t10), (12, t12), (13, t13), (14, t14), (15, .nl), (16, t16), (17, t17), (18, t19), (19, t19), (82, t83), (83, t83), (94, t95), (95, t95), (124, t125), (125, t125)] ut) H)
 (p.bin .eql t17 (si 8) fun t126 =>
 p.cond t126
 (j7 (ud [(0, a0), (1, t1), (2, .nl), (3, t14), (4, .nl), (8, t8), (9, t9), (10, t10), (12, t12), (13, t13), (14, t14), (15, .nl), (16, t16), (17, t17), (18, t19), (19, t19), (82, t83), (83, t83), (94, t95), (95, t95), (124, t126), (125, t125), (126, t126)] ut) H)
 (p.bin .eql t17 (si 10) fun t127 =>
 j7 (ud [(0, a0), (1, t1), (2, .nl), (3, t14), (4, .nl), (8, t8), (9, t9), (10, t10), (12, t12), (13, t13), (14, t14), (15, .nl), (16, t16), (17, t17), (18, t19), (19, t19), (82, t83), (83, t83), (94, t95), (95, t95), (124, t127), (125, t125), (126, t126), (127, t127)] ut) H)))))) := by kernel_rfl
theorem Afr : Om fi66 @f66 := fun p n a0 H k => by
 rw [Aia]
 simp only [Xh, Xg, AdF]
 kernel_rfl
noncomputable def f31 (p : Pr β) (n : Nat) (a0 : AV) (H : Ad) (k : KO β) : Option β :=
 p.new E2 H fun t2 H =>
 p.len a0 fun t10 =>
 p.bin .eql t10 i0 fun t11 =>
 p.cond t11
 (p.fill E2 [] fun ct12 =>
 p.store 25 t2 (.agg ct12) H fun H =>
 p.load true 25 t2 H fun r0 =>
 k (Dn [r0, i0, (si 1)]) H)
 (p.iadr 1 a0 i0 fun t14 =>
 p.load false 1 t14 H fun t15 =>
 p.cvI .i64 t15 fun t16 =>
 p.call 4 (.fn 61 [] []) [t16] H fun t17 H =>
 p.un .not t17 fun t18 =>
 p.cond t18
 (p.fill E2 [] fun ct19 =>
 p.store 25 t2 (.agg ct19) H fun H =>
 p.load true 25 t2 H fun r0 =>
 k (Dn [r0, i0, (si 2)]) H)
 (p.call 85 (.fn 62 [] []) [a0, (si 1)] H fun t22 H =>
 p.extr t22 0 fun t23 =>
 p.extr t22 1 fun t24 =>
 p.extr t22 2 fun t25 =>
 p.bin .neq t25 i0 fun t27 =>
 p.cond t27
 (p.fill E2 [] fun ct28 =>
 p.store 25 t2 (.agg ct28) H fun H =>
 p.load true 25 t2 H fun r0 =>
 k (Dn [r0, i0, t25]) H)
 (p.bin .gtr t23 (si 340) fun t31 =>
 p.cond t31
 (p.fill E2 [] fun ct32 =>
 p.store 25 t2 (.agg ct32) H fun H =>
 p.load true 25 t2 H fun r0 =>
 k (Dn [r0, i0, (si 2)]) H)
 (p.len a0 fun t35 =>
 p.bin .sub t35 t24 fun t37 =>
 p.bin .gtr t23 t37 fun t38 =>
 p.cond t38
 (p.fill E2 [] fun ct39 =>
 p.store 25 t2 (.agg ct39) H fun H =>
 p.load true 25 t2 H fun r0 =>
 k (Dn [r0, i0, (si 1)]) H)
 (p.iadr 1 a0 i0 fun t41 =>
 p.load false 1 t41 H fun t42 =>
 p.cvI .i64 t42 fun t43 =>
 p.bin .add t24 t23 fun t48 =>
 p.slice 1 a0 (some t24) (some t48) fun t49 =>
 E8 (fun (t0 t2 t5 t6 t8 : AV) (H : Ad) => p.load true 25 t8 H fun t51 =>
 p.call 4 (.fn 64 [] []) [t51] H fun t52 H =>
 p.un .not t52 fun t53 =>
 p.gF t53 H (p.load true 25 t8 H) fun t55 H =>
 p.kF t53 H t0 fun t57 H =>
 p.kF t53 H t6 fun t58 H =>
 p.kF t53 H t5 fun t59 H =>
 p.gF t53 H (p.bin .add t58 t59) fun t60 H =>
 p.gF t53 H (p.slice 1 t57 none (some t60)) fun t61 H =>
 p.hF t53 H (p.call 22 (.fn 66 [] []) [t55] H) fun t56 H =>
 p.hF t53 H (p.call 4 (.fn 65 [] []) [t56, t61] H) fun t62 H =>
 p.gF t53 H (p.un .not t62) fun t63 H =>
 p.pick t53 bT t63 fun t64 =>
 p.cond t64
 (p.fill E2 [] fun ct65 =>
 p.store 25 t2 (.agg ct65) H fun H =>
 p.load true 25 t2 H fun r0 =>
 k (Dn [r0, i0, (si 2)]) H)
 (p.load true 25 t8 H fun t66 =>
 p.bin .add t6 t5 fun t69 =>
 p.store 25 t2 t66 H fun H =>
 p.load true 25 t2 H fun r0 =>
 k (Dn [r0, t69, i0]) H)) fun j1 =>
 p.both
 (p.call 59 (.fn 63 [] []) [t43, t49] H fun t50 H =>
 p.new E2 H fun t8 H =>
 p.store 25 t8 t50 H fun H =>
 j1 a0 t2 t23 t24 t8 H)
 (p.new E2 H fun t8 H =>
 p.call 59 (.fn 63 [] []) [t43, t49] H fun t50 H =>
 p.store 25 t8 t50 H fun H =>
 j1 a0 t2 t23 t24 t8 H))))))
theorem AeG : Om Alv @f31 := fun p n a0 H k => by kernel_rfl
noncomputable def f98 (p : Pr β) (n : Nat) (a0 a1 a2 : AV) (H : Ad) (k : KO β) : Option β :=
 p.bin .geq a0 a1 fun t9 =>
 p.kT t9 H a0 fun t11 H =>
 p.kT t9 H a2 fun t12 H =>
 p.gT t9 H (p.bin .leq t11 t12) fun t13 H =>
 p.pick t9 t13 bF fun t14 =>
 k t14 H
theorem AfR : Bd3 AlI @f98 := fun p n a0 a1 a2 H k => by kernel_rfl
noncomputable def f67 (p : Pr β) (n : Nat) (a0 : AV) (H : Ad) (k : KO β) : Option β :=
 p.bin .quo a0 (si 16) fun t7 =>
 p.bin .rem a0 (si 16) fun t9 =>
 p.bin .eql t7 (si 3) fun t12 =>
 p.cond t12
 (p.bin .shr t9 (.sc (.int .u64 1)) fun t14 =>
 p.bin .and t14 (si 3) fun t15 =>
 p.bin .neq t15 (si 3) fun t17 =>
 p.kT t17 H t15 fun t19 H =>
 p.gT t17 H (p.bin .gtr t19 i0) fun t20 H =>
 p.kT t17 H t20 fun t21 H =>
 p.kF t21 H t9 fun t22 H =>
 p.gF t21 H (p.bin .and t22 (si 8)) fun t23 H =>
 p.gF t21 H (p.bin .eql t23 i0) fun t24 H =>
 p.gT t17 H (p.pick t21 bT t24) fun t25 H =>
 p.pick t17 t25 bF fun t26 =>
 k t26 H)
 (p.bin .eql t7 (si 6) fun t28 =>
 E8 (fun (t3 t4 t27 : AV) (H : Ad) => p.cond t27
 (p.bin .eql t4 (si 2) fun t32 =>
 k t32 H)
 (p.call 4 (.fn 98 [] []) [t3, (si 1), (si 14)] H fun t34 H =>
 p.kT t34 H t4 fun t36 H =>
 p.gT t34 H (p.bin .eql t36 i0) fun t37 H =>
 p.pick t34 t37 bF fun t38 =>
 k t38 H)) fun j1 =>
 p.cond t28
 (j1 t7 t9 t28 H)
 (p.bin .eql t7 (si 8) fun t29 =>
 p.cond t29
 (j1 t7 t9 t29 H)
 (p.bin .eql t7 (si 10) fun t30 =>
 j1 t7 t9 t30 H)))
theorem Afs : Om Al2 @f67 := fun p n a0 H k => by kernel_rfl
noncomputable def Qp (p : Pr β) (n : Nat)  (k : KO β) : Nat → AV → AV → AV → KO β
 | 0, _, _, _, _, _ => none
 | m + 1, t0, t1, t7, t15, H => p.bin .lss t15 (si 4) fun t16 =>
   p.cond t16
   (p.bin .add t1 t15 fun t20 =>
   p.len t0 fun t22 =>
   p.bin .eql t20 t22 fun t23 =>
   p.cond t23
   (k (Dn [i0, i0, (si 1)]) H)
   (p.bin .add t1 t15 fun t27 =>
   p.iadr 1 t0 t27 fun t28 =>
   p.load false 1 t28 H fun t29 =>
   p.cvI .i64 t29 fun t30 =>
   p.bin .and t30 (si 127) fun t33 =>
   p.bin .mul (si 7) t15 fun t35 =>
   p.bin .shl t33 t35 fun t36 =>
   p.bin .or t7 t36 fun t37 =>
   p.bin .gtr t30 (si 127) fun t39 =>
   p.cond t39
   (p.bin .add t15 (si 1) fun t51 =>
   Qp p n  k m t0 t1 t37 t51 H)
   (p.bin .gtr t15 i0 fun t41 =>
   p.kT t41 H t30 fun t43 H =>
   p.gT t41 H (p.bin .eql t43 i0) fun t44 H =>
   p.pick t41 t44 bF fun t45 =>
   p.cond t45
   (k (Dn [i0, i0, (si 2)]) H)
   (p.bin .add t1 t15 fun t49 =>
   p.bin .add t49 (si 1) fun t50 =>
   k (Dn [t37, t50, i0]) H))))
   (k (Dn [i0, i0, (si 2)]) H)
noncomputable def f68 (p : Pr β) (n : Nat) (a0 a1 : AV) (H : Ad) (k : KO β) : Option β :=
 p.len a0 fun t12 =>
 p.call 4 (.fn 98 [] []) [a1, i0, t12] H fun t13 H =>
 p.un .not t13 fun t14 =>
 p.cond t14
 (k (Dn [i0, i0, (si 2)]) H)
 (Qp p n  k n a0 a1 i0 i0 H)
noncomputable def Aft (p : Pr β) (n : Nat)  (k : KO β) (m : Nat) (tm : Tm) (H : Ad) : Option β :=
 D0 52 (fun tm H k => Al Au p [] 52 n (cd c68 [1, 1, 1, 0, 1, 0, 0]) tm H k) (E7 0 (Eo (fun tm H => Al Au p [] 52 n (cd c68 [1, 1, 1, 1]) tm H (Cu Au p fi68.results k)) (Cu Au p fi68.results k))) m tm H
theorem AdG (p : Pr β) (n : Nat)  (k : KO β) (m0 : Nat) : ∀ (t : Nat → AV) (H : Ad), Aft p n  k m0 (tf 52 0 t) H = Qp p n  k m0 (t 0) (t 1) (t 7) (t 15) H := by
 induction m0 with
 | zero => intros; rfl
 | succ m0 ih =>
  intro t H
  refine Eq.trans (Bt (nt := 52) (m := m0) (g := fun t H => Qp p n  k m0 (t 0) (t 1) (t 7) (t 15) H) ih rfl) ?_
  kernel_rfl
theorem Aib (p : Pr β) (n : Nat) (a0 a1 : AV) (H : Ad) (k : KO β) : Cr Au p n fi68 [a0, a1] H k =
 p.len a0 fun t12 =>
 p.call 4 (.fn 98 [] []) [a1, i0, t12] H fun t13 H =>
 p.un .not t13 fun t14 =>
 p.cond t14
 (k (Dn [i0, i0, (si 2)]) H)
 (Aft p n  k n (tf 52 0 (ud [(0, a0), (1, a1), (4, i0), (5, i0), (6, i0), (7, i0), (10, a1), (11, a0), (12, t12), (13, t13), (14, t14), (15, i0)] ut)) H) := by kernel_rfl
theorem Afu : Ll fi68 @f68 := fun p n a0 a1 H k => by
 rw [Aib]
 simp only [AdG]
 kernel_rfl
noncomputable def f130 (p : Pr β) (n : Nat) (a0 a1 : AV) (H : Ad) (k : KO β) : Option β :=
 p.bin .lss a1 i0 fun t8 =>
 p.kF t8 H a1 fun t10 H =>
 p.kF t8 H a0 fun t11 H =>
 p.gF t8 H (p.len t11) fun t12 H =>
 p.gF t8 H (p.bin .sub t12 (si 2)) fun t13 H =>
 p.gF t8 H (p.bin .gtr t10 t13) fun t14 H =>
 p.pick t8 bT t14 fun t15 =>
 p.cond t15
 (k (Dn [i0, i0, bF]) H)
 (p.iadr 1 a0 a1 fun t18 =>
 p.load false 1 t18 H fun t19 =>
 p.cvI .i64 t19 fun t20 =>
 p.bin .shl t20 (.sc (.int .u64 8)) fun t21 =>
 p.bin .add a1 (si 1) fun t24 =>
 p.iadr 1 a0 t24 fun t25 =>
 p.load false 1 t25 H fun t26 =>
 p.cvI .i64 t26 fun t27 =>
 p.bin .or t21 t27 fun t28 =>
 p.bin .add a1 (si 2) fun t30 =>
 k (Dn [t28, t30, bT]) H)
theorem Adk : Ll Ajz @f130 := fun p n a0 a1 H k => by kernel_rfl
noncomputable def Nv (p : Pr β) (n : Nat)  (k : KO β) : Nat → AV → AV → AV → KO β
 | 0, _, _, _, _, _ => none
 | m + 1, t3, t7, t8, t9, H => p.bin .lss t9 t8 fun t10 =>
   p.cond t10
   (p.iadr 1 t7 t9 fun t11 =>
   p.load false 1 t11 H fun t12 =>
   p.app 1 1 t3 t12 H fun t15 H =>
   p.bin .add t9 (si 1) fun t16 =>
   Nv p n  k m t15 t7 t8 t16 H)
   (k t3 H)
noncomputable def f77 (p : Pr β) (n : Nat) (a0 : AV) (H : Ad) (k : KO β) : Option β :=
 p.len a0 fun t8 =>
 Nv p n  k n .nl a0 t8 i0 H
noncomputable def Af5 (p : Pr β) (n : Nat)  (k : KO β) (m : Nat) (tm : Tm) (H : Ad) : Option β :=
 D0 18 (fun tm H k => Al Au p [] 18 n (cd c77 [1, 1, 0, 1, 0, 0]) tm H k) (E7 0 (Eo (fun tm H => Al Au p [] 18 n (cd c77 [1, 1, 1]) tm H (Cu Au p fi77.results k)) (Cu Au p fi77.results k))) m tm H
theorem AdK (p : Pr β) (n : Nat)  (k : KO β) (m0 : Nat) : ∀ (t : Nat → AV) (H : Ad), Af5 p n  k m0 (tf 18 0 t) H = Nv p n  k m0 (t 3) (t 7) (t 8) (t 9) H := by
 induction m0 with
 | zero => intros; rfl
 | succ m0 ih =>
  intro t H
  refine Eq.trans (Bt (nt := 18) (m := m0) (g := fun t H => Nv p n  k m0 (t 3) (t 7) (t 8) (t 9) H) ih rfl) ?_
  kernel_rfl
theorem Aig (p : Pr β) (n : Nat) (a0 : AV) (H : Ad) (k : KO β) : Cr Au p n fi77 [a0] H k =
 p.len a0 fun t8 =>
 Af5 p n  k n (tf 18 0 (ud [(0, a0), (2, .nl), (3, .nl), (6, .nl), (7, a0), (8, t8), (9, i0)] ut)) H := by kernel_rfl
theorem Af6 : Om fi77 @f77 := fun p n a0 H k => by
 rw [Aig]
 simp only [AdK]
 kernel_rfl
noncomputable def f146 (p : Pr β) (n : Nat) (a0 a1 : AV) (H : Ad) (k : KO β) : Option β :=
 p.call 110 (.fn 130 [] []) [a0, a1] H fun t13 H =>
 p.extr t13 0 fun t14 =>
 p.extr t13 1 fun t15 =>
 p.extr t13 2 fun t16 =>
 p.un .not t16 fun t18 =>
 p.kF t18 H t14 fun t20 H =>
 p.gF t18 H (p.bin .gtr t20 (si 60)) fun t21 H =>
 p.pick t18 bT t21 fun t22 =>
 p.kF t22 H t14 fun t24 H =>
 p.kF t22 H a0 fun t25 H =>
 p.gF t22 H (p.len t25) fun t26 H =>
 p.kF t22 H t15 fun t27 H =>
 p.gF t22 H (p.bin .sub t26 t27) fun t28 H =>
 p.gF t22 H (p.bin .gtr t24 t28) fun t29 H =>
 p.pick t22 bT t29 fun t30 =>
 p.cond t30
 (k (Dn [.nl, i0, bF]) H)
 (p.bin .add t15 t14 fun t35 =>
 p.slice 1 a0 (some t15) (some t35) fun t36 =>
 p.fill [.nl] [(0, 1, t36)] fun ct37 => p.newSl 1 1 ct37 true H fun t37 H =>
 p.call 22 (.fn 77 [] []) [t37] H fun t38 H =>
 p.bin .add t15 t14 fun t41 =>
 k (Dn [t38, t41, bT]) H)
theorem Adw : Ll Aj6 @f146 := fun p n a0 a1 H k => by kernel_rfl
noncomputable def f129 (p : Pr β) (n : Nat) (a0 : AV) (H : Ad) (k : KO β) : Option β :=
 p.nil a0 fun t8 =>
 p.fadr 0 t8 fun t9 =>
 p.load false 1 t9 H fun t10 =>
 p.nil a0 fun t12 =>
 p.fadr 1 t12 fun t13 =>
 p.load false 1 t13 H fun t14 =>
 p.call 131 (.fn 146 [] []) [t10, t14] H fun t15 H =>
 p.extr t15 0 fun t16 =>
 p.extr t15 1 fun t17 =>
 p.extr t15 2 fun t18 =>
 p.nil a0 fun t20 =>
 p.fadr 2 t20 fun t21 =>
 p.load false 1 t21 H fun t22 =>
 p.kF t22 H t18 fun t24 H =>
 p.gF t22 H (p.un .not t24) fun t25 H =>
 p.pick t22 bT t25 fun t26 =>
 p.cond t26
 (p.nil a0 fun t28 =>
 p.fadr 2 t28 fun t29 =>
 p.store 1 t29 bT H fun H =>
 k .nl H)
 (p.nil a0 fun t32 =>
 p.fadr 1 t32 fun t33 =>
 p.store 1 t33 t17 H fun H =>
 k t16 H)
theorem Adj : Om Ajy @f129 := fun p n a0 H k => by kernel_rfl
noncomputable def f101 (p : Pr β) (n : Nat) (a0 : AV) (H : Ad) (k : KO β) : Option β :=
 p.call 22 (.fn 129 [] []) [a0] H fun t4 H =>
 p.cvBS t4 H fun t5 =>
 k t5 H
theorem AcQ : Om Ajm @f101 := fun p n a0 H k => by kernel_rfl
noncomputable def f100 (p : Pr β) (n : Nat) (a0 : AV) (H : Ad) (k : KO β) : Option β :=
 p.nil a0 fun t4 =>
 p.fadr 2 t4 fun t5 =>
 p.load false 1 t5 H fun t6 =>
 p.kF t6 H a0 fun t8 H =>
 p.gF t6 H (p.nil t8) fun t9 H =>
 p.gF t6 H (p.fadr 1 t9) fun t10 H =>
 p.gF t6 H (p.load false 1 t10 H) fun t11 H =>
 p.kF t6 H a0 fun t12 H =>
 p.gF t6 H (p.nil t12) fun t13 H =>
 p.gF t6 H (p.fadr 0 t13) fun t14 H =>
 p.gF t6 H (p.load false 1 t14 H) fun t15 H =>
 p.gF t6 H (p.len t15) fun t16 H =>
 p.gF t6 H (p.bin .geq t11 t16) fun t17 H =>
 p.pick t6 bT t17 fun t18 =>
 p.cond t18
 (p.nil a0 fun t20 =>
 p.fadr 2 t20 fun t21 =>
 p.store 1 t21 bT H fun H =>
 k i0 H)
 (p.nil a0 fun t23 =>
 p.fadr 1 t23 fun t24 =>
 p.load false 1 t24 H fun t25 =>
 p.bin .add t25 (si 1) fun t26 =>
 p.nil a0 fun t27 =>
 p.fadr 1 t27 fun t28 =>
 p.store 1 t28 t26 H fun H =>
 p.nil a0 fun t30 =>
 p.fadr 0 t30 fun t31 =>
 p.load false 1 t31 H fun t32 =>
 p.nil a0 fun t34 =>
 p.fadr 1 t34 fun t35 =>
 p.load false 1 t35 H fun t36 =>
 p.bin .sub t36 (si 1) fun t37 =>
 p.iadr 1 t32 t37 fun t38 =>
 p.load false 1 t38 H fun t39 =>
 p.cvI .i64 t39 fun t40 =>
 k t40 H)
theorem AcP : Om Ajl @f100 := fun p n a0 H k => by kernel_rfl
noncomputable def f102 (p : Pr β) (n : Nat) (a0 : AV) (H : Ad) (k : KO β) : Option β :=
 p.nil a0 fun t8 =>
 p.fadr 0 t8 fun t9 =>
 p.load false 1 t9 H fun t10 =>
 p.nil a0 fun t12 =>
 p.fadr 1 t12 fun t13 =>
 p.load false 1 t13 H fun t14 =>
 p.call 110 (.fn 130 [] []) [t10, t14] H fun t15 H =>
 p.extr t15 0 fun t16 =>
 p.extr t15 1 fun t17 =>
 p.extr t15 2 fun t18 =>
 p.nil a0 fun t20 =>
 p.fadr 2 t20 fun t21 =>
 p.load false 1 t21 H fun t22 =>
 p.kF t22 H t18 fun t24 H =>
 p.gF t22 H (p.un .not t24) fun t25 H =>
 p.pick t22 bT t25 fun t26 =>
 p.cond t26
 (p.nil a0 fun t28 =>
 p.fadr 2 t28 fun t29 =>
 p.store 1 t29 bT H fun H =>
 k i0 H)
 (p.nil a0 fun t32 =>
 p.fadr 1 t32 fun t33 =>
 p.store 1 t33 t17 H fun H =>
 k t16 H)
theorem AcR : Om Ajn @f102 := fun p n a0 H k => by kernel_rfl
noncomputable def f99 (p : Pr β) (n : Nat) (a0 a1 : AV) (H : Ad) (k : KO β) : Option β :=
 p.call 9 (.fn 101 [] []) [a0] H fun t6 H =>
 p.call 3 (.fn 100 [] []) [a0] H fun t9 H =>
 p.nil a1 fun t10 =>
 p.fadr 8 t10 fun t11 =>
 p.store 1 t11 t9 H fun H =>
 p.call 3 (.fn 100 [] []) [a0] H fun t13 H =>
 p.call 3 (.fn 102 [] []) [a0] H fun t16 H =>
 p.nil a1 fun t17 =>
 p.fadr 10 t17 fun t18 =>
 p.store 1 t18 t16 H fun H =>
 p.call 9 (.fn 101 [] []) [a0] H fun t21 H =>
 p.nil a1 fun t22 =>
 p.fadr 7 t22 fun t23 =>
 p.store 1 t23 t21 H fun H =>
 p.bin .and t13 (si 2) fun t29 =>
 p.bin .neq t29 i0 fun t30 =>
 p.bin .and t13 (si 4) fun t32 =>
 p.bin .neq t32 i0 fun t33 =>
 p.bin .and t13 (si 64) fun t35 =>
 p.bin .neq t35 i0 fun t36 =>
 p.bin .and t13 (si 128) fun t38 =>
 p.bin .neq t38 i0 fun t39 =>
 p.nil a1 fun t40 =>
 p.fadr 9 t40 fun t41 =>
 p.store 1 t41 t30 H fun H =>
 p.nil a1 fun t42 =>
 p.fadr 11 t42 fun t43 =>
 p.store 1 t43 t33 H fun H =>
 p.nil a1 fun t44 =>
 p.fadr 18 t44 fun t45 =>
 p.store 1 t45 t36 H fun H =>
 p.nil a1 fun t46 =>
 p.fadr 16 t46 fun t47 =>
 p.store 1 t47 t39 H fun H =>
 p.nil a1 fun t49 =>
 p.fadr 11 t49 fun t50 =>
 p.load false 1 t50 H fun t51 =>
 E8 (fun (t0 t1 : AV) (H : Ad) => p.nil t1 fun t75 =>
 p.fadr 16 t75 fun t76 =>
 p.load false 1 t76 H fun t77 =>
 E8 (fun (t0 t1 : AV) (H : Ad) => p.nil t1 fun t84 =>
 p.fadr 18 t84 fun t85 =>
 p.load false 1 t85 H fun t86 =>
 p.cond t86
 (p.call 22 (.fn 129 [] []) [t0] H fun t89 H =>
 p.nil t1 fun t90 =>
 p.fadr 19 t90 fun t91 =>
 p.store 1 t91 t89 H fun H =>
 k (Dn []) H)
 (k (Dn []) H)) fun j2 =>
 p.cond t77
 (p.call 9 (.fn 101 [] []) [t0] H fun t80 H =>
 p.nil t1 fun t81 =>
 p.fadr 17 t81 fun t82 =>
 p.store 1 t82 t80 H fun H =>
 j2 t0 t1 H)
 (j2 t0 t1 H)) fun j1 =>
 p.cond t51
 (p.bin .shr t13 (.sc (.int .u64 3)) fun t55 =>
 p.bin .and t55 (si 3) fun t56 =>
 p.bin .and t13 (si 32) fun t58 =>
 p.bin .neq t58 i0 fun t59 =>
 p.nil a1 fun t60 =>
 p.fadr 14 t60 fun t61 =>
 p.store 1 t61 t56 H fun H =>
 p.nil a1 fun t62 =>
 p.fadr 15 t62 fun t63 =>
 p.store 1 t63 t59 H fun H =>
 p.call 9 (.fn 101 [] []) [a0] H fun t66 H =>
 p.nil a1 fun t67 =>
 p.fadr 12 t67 fun t68 =>
 p.store 1 t68 t66 H fun H =>
 p.call 22 (.fn 129 [] []) [a0] H fun t71 H =>
 p.nil a1 fun t72 =>
 p.fadr 13 t72 fun t73 =>
 p.store 1 t73 t71 H fun H =>
 j1 a0 a1 H)
 (j1 a0 a1 H)
theorem AfS : Ll AlJ @f99 := fun p n a0 a1 H k => by kernel_rfl
noncomputable def f131 (p : Pr β) (n : Nat) (a0 : AV) (H : Ad) (k : KO β) : Option β :=
 p.nil a0 fun t4 =>
 p.fadr 2 t4 fun t5 =>
 p.load false 1 t5 H fun t6 =>
 p.un .not t6 fun t7 =>
 p.kT t7 H a0 fun t9 H =>
 p.gT t7 H (p.nil t9) fun t10 H =>
 p.gT t7 H (p.fadr 1 t10) fun t11 H =>
 p.gT t7 H (p.load false 1 t11 H) fun t12 H =>
 p.kT t7 H a0 fun t13 H =>
 p.gT t7 H (p.nil t13) fun t14 H =>
 p.gT t7 H (p.fadr 0 t14) fun t15 H =>
 p.gT t7 H (p.load false 1 t15 H) fun t16 H =>
 p.gT t7 H (p.len t16) fun t17 H =>
 p.gT t7 H (p.bin .lss t12 t17) fun t18 H =>
 p.pick t7 t18 bF fun t19 =>
 k t19 H
theorem Adl : Om Aj0 @f131 := fun p n a0 H k => by kernel_rfl
noncomputable def K0 (p : Pr β) (n : Nat)  (k : KO β) : Nat → AV → KO β
 | 0, _, _, _ => none
 | m + 1, t0, t1, H => p.call 4 (.fn 131 [] []) [t0] H fun t8 H =>
   p.kT t8 H t1 fun t10 H =>
   p.gT t8 H (p.nil t10) fun t11 H =>
   p.gT t8 H (p.fadr 22 t11) fun t12 H =>
   p.gT t8 H (p.load false 1 t12 H) fun t13 H =>
   p.gT t8 H (p.len t13) fun t14 H =>
   p.kT t8 H t1 fun t15 H =>
   p.gT t8 H (p.nil t15) fun t16 H =>
   p.gT t8 H (p.fadr 24 t16) fun t17 H =>
   p.gT t8 H (p.load false 1 t17 H) fun t18 H =>
   p.gT t8 H (p.len t18) fun t19 H =>
   p.gT t8 H (p.bin .add t14 t19) fun t20 H =>
   p.kT t8 H t1 fun t21 H =>
   p.gT t8 H (p.nil t21) fun t22 H =>
   p.gT t8 H (p.fadr 23 t22) fun t23 H =>
   p.gT t8 H (p.load false 1 t23 H) fun t24 H =>
   p.gT t8 H (p.len t24) fun t25 H =>
   p.gT t8 H (p.bin .add t20 t25) fun t26 H =>
   p.gT t8 H (p.bin .leq t26 (si 4)) fun t27 H =>
   p.pick t8 t27 bF fun t28 =>
   p.cond t28
   (p.nil t1 fun t30 =>
   p.fadr 0 t30 fun t31 =>
   p.load false 1 t31 H fun t32 =>
   p.bin .eql t32 (si 8) fun t37 =>
   p.cond t37
   (p.fill [sE, i0] [] fun ct38 =>
   p.new [sE, i0] H fun t4 H =>
   p.store 2 t4 (.agg ct38) H fun H =>
   p.call 9 (.fn 101 [] []) [t0] H fun t40 H =>
   p.fadr 0 t4 fun t41 =>
   p.store 1 t41 t40 H fun H =>
   p.call 3 (.fn 100 [] []) [t0] H fun t43 H =>
   p.fadr 1 t4 fun t44 =>
   p.store 1 t44 t43 H fun H =>
   p.nil t1 fun t47 =>
   p.fadr 22 t47 fun t48 =>
   p.load false 1 t48 H fun t49 =>
   p.load true 2 t4 H fun t50 =>
   p.fill [sE, i0] [(0, 2, t50)] fun ct51 => p.newSl 1 2 ct51 true H fun t51 H =>
   p.app 2 24 t49 t51 H fun t52 H =>
   p.nil t1 fun t53 =>
   p.fadr 22 t53 fun t54 =>
   p.store 1 t54 t52 H fun H =>
   K0 p n  k m t0 t1 H)
   (p.bin .eql t32 (si 9) fun t56 =>
   p.cond t56
   (p.call 3 (.fn 100 [] []) [t0] H fun t58 H =>
   p.nil t1 fun t61 =>
   p.fadr 24 t61 fun t62 =>
   p.load false 1 t62 H fun t63 =>
   p.fill [i0] [(0, 1, t58)] fun ct65 => p.newSl 1 1 ct65 true H fun t65 H =>
   p.app 1 8 t63 t65 H fun t66 H =>
   p.nil t1 fun t67 =>
   p.fadr 24 t67 fun t68 =>
   p.store 1 t68 t66 H fun H =>
   K0 p n  k m t0 t1 H)
   (p.bin .eql t32 (si 10) fun t70 =>
   p.cond t70
   (p.call 9 (.fn 101 [] []) [t0] H fun t72 H =>
   p.nil t1 fun t75 =>
   p.fadr 23 t75 fun t76 =>
   p.load false 1 t76 H fun t77 =>
   p.fill [sE] [(0, 1, t72)] fun ct79 => p.newSl 1 1 ct79 true H fun t79 H =>
   p.app 1 16 t77 t79 H fun t80 H =>
   p.nil t1 fun t81 =>
   p.fadr 23 t81 fun t82 =>
   p.store 1 t82 t80 H fun H =>
   K0 p n  k m t0 t1 H)
   (p.nil t0 fun t34 =>
   p.fadr 2 t34 fun t35 =>
   p.store 1 t35 bT H fun H =>
   K0 p n  k m t0 t1 H))))
   (k (Dn []) H)
noncomputable def f103 (p : Pr β) (n : Nat) (a0 a1 : AV) (H : Ad) (k : KO β) : Option β :=
 K0 p n  k n a0 a1 H
noncomputable def Aca (p : Pr β) (n : Nat)  (k : KO β) (m : Nat) (tm : Tm) (H : Ad) : Option β :=
 D0 83 (fun tm H k => Al Au p AlZ 83 n (cd Als [0, 0]) tm H k) (E7 0 (Cu Au p fi103.results k)) m tm H
theorem Abe (p : Pr β) (n : Nat)  (k : KO β) (m0 : Nat) : ∀ (t : Nat → AV) (H : Ad), Aca p n  k m0 (tf 83 0 t) H = K0 p n  k m0 (t 0) (t 1) H := by
 induction m0 with
 | zero => intros; rfl
 | succ m0 ih =>
  intro t H
  refine Eq.trans (Bt (nt := 83) (m := m0) (g := fun t H => K0 p n  k m0 (t 0) (t 1) H) ih rfl) ?_
  kernel_rfl
theorem Ae4 (p : Pr β) (n : Nat) (a0 a1 : AV) (H : Ad) (k : KO β) : Cr Au p n fi103 [a0, a1] H k =
 Aca p n  k n (tf 83 0 (ud [(0, a0), (1, a1)] ut)) H := by kernel_rfl
theorem AcS : Ll fi103 @f103 := fun p n a0 a1 H k => by
 rw [Ae4]
 simp only [Abe]
 kernel_rfl
noncomputable def f69 (p : Pr β) (n : Nat) (a0 a1 : AV) (H : Ad) (k : KO β) : Option β :=
 p.new E2 H fun t4 H =>
 p.fill [.nl, i0, bF] [(0, 1, a1)] fun ct9 =>
 p.box (.agg ct9) H fun t10 H =>
 p.bin .quo a0 (si 16) fun t12 =>
 p.fill E2 [(0, 1, t12)] fun ct13 =>
 p.new E2 H fun t6 H =>
 p.store 25 t6 (.agg ct13) H fun H =>
 p.fadr 0 t6 fun t14 =>
 p.load false 1 t14 H fun t15 =>
 p.bin .eql t15 (si 1) fun t22 =>
 E8 (fun (t4 t6 : AV) (H : Ad) => p.load true 25 t6 H fun t76 =>
 p.store 25 t4 t76 H fun H =>
 p.load true 25 t4 H fun r0 =>
 k r0 H) fun j1 =>
 p.cond t22
 (p.call 0 (.fn 99 [] []) [t10, t6] H fun t24 H =>
 j1 t4 t6 H)
 (p.bin .eql t15 (si 2) fun t26 =>
 p.cond t26
 (p.call 3 (.fn 100 [] []) [t10] H fun t28 H =>
 p.bin .eql t28 (si 1) fun t30 =>
 p.fadr 21 t6 fun t31 =>
 p.store 1 t31 t30 H fun H =>
 p.call 3 (.fn 100 [] []) [t10] H fun t33 H =>
 p.fadr 20 t6 fun t34 =>
 p.store 1 t34 t33 H fun H =>
 j1 t4 t6 H)
 (p.bin .eql t15 (si 3) fun t36 =>
 p.cond t36
 (p.bin .and a0 (si 8) fun t38 =>
 p.bin .neq t38 i0 fun t39 =>
 p.bin .shr a0 (.sc (.int .u64 1)) fun t41 =>
 p.bin .and t41 (si 3) fun t42 =>
 p.bin .and a0 (si 1) fun t44 =>
 p.bin .neq t44 i0 fun t45 =>
 p.fadr 1 t6 fun t46 =>
 p.store 1 t46 t39 H fun H =>
 p.fadr 2 t6 fun t47 =>
 p.store 1 t47 t42 H fun H =>
 p.fadr 3 t6 fun t48 =>
 p.store 1 t48 t45 H fun H =>
 p.call 9 (.fn 101 [] []) [t10] H fun t50 H =>
 p.fadr 5 t6 fun t51 =>
 p.store 1 t51 t50 H fun H =>
 p.fadr 2 t6 fun t52 =>
 p.load false 1 t52 H fun t53 =>
 p.bin .gtr t53 i0 fun t54 =>
 E8 (fun (t1 t4 t5 t6 : AV) (H : Ad) => p.nil t5 fun t59 =>
 p.fadr 2 t59 fun t60 =>
 p.load false 1 t60 H fun t61 =>
 p.un .not t61 fun t62 =>
 p.cond t62
 (p.nil t5 fun t65 =>
 p.fadr 1 t65 fun t66 =>
 p.load false 1 t66 H fun t67 =>
 p.slice 1 t1 (some t67) none fun t68 =>
 p.fill [.nl] [(0, 1, t68)] fun ct69 => p.newSl 1 1 ct69 true H fun t69 H =>
 p.call 22 (.fn 77 [] []) [t69] H fun t70 H =>
 p.fadr 6 t6 fun t71 =>
 p.store 1 t71 t70 H fun H =>
 j1 t4 t6 H)
 (j1 t4 t6 H)) fun j2 =>
 p.cond t54
 (p.call 3 (.fn 102 [] []) [t10] H fun t56 H =>
 p.fadr 4 t6 fun t57 =>
 p.store 1 t57 t56 H fun H =>
 j2 a1 t4 t10 t6 H)
 (j2 a1 t4 t10 t6 H))
 (p.bin .eql t15 (si 12) fun t73 =>
 E8 (fun (t4 t5 t6 t72 : AV) (H : Ad) => p.cond t72
 (j1 t4 t6 H)
 (p.call 3 (.fn 102 [] []) [t5] H fun t17 H =>
 p.fadr 4 t6 fun t18 =>
 p.store 1 t18 t17 H fun H =>
 p.call 0 (.fn 103 [] []) [t5, t6] H fun t20 H =>
 j1 t4 t6 H)) fun j3 =>
 p.cond t73
 (j3 t4 t10 t6 t73 H)
 (p.bin .eql t15 (si 13) fun t74 =>
 p.cond t74
 (j3 t4 t10 t6 t74 H)
 (p.bin .eql t15 (si 14) fun t75 =>
 j3 t4 t10 t6 t75 H)))))
theorem Afv : Ll Al3 @f69 := fun p n a0 a1 H k => by kernel_rfl
end
section
open Go
variable {β : Type}
noncomputable def f105 (p : Pr β) (n : Nat) (a0 : AV) (H : Ad) (k : KO β) : Option β :=
 p.box a0 H fun t1 H =>
 p.new E2 H fun t2 H =>
 p.fadr 0 t1 fun t4 =>
 p.load false 1 t4 H fun t5 =>
 p.fill E2 [(0, 1, t5)] fun ct6 =>
 p.new E2 H fun t3 H =>
 p.store 25 t3 (.agg ct6) H fun H =>
 p.fadr 0 t1 fun t7 =>
 p.load false 1 t7 H fun t8 =>
 p.bin .eql t8 (si 1) fun t10 =>
 p.cond t10
 (p.fadr 7 t1 fun t11 =>
 p.load false 1 t11 H fun t12 =>
 p.fadr 8 t1 fun t13 =>
 p.fadr 9 t1 fun t15 =>
 p.fadr 10 t1 fun t17 =>
 p.fadr 11 t1 fun t19 =>
 p.fadr 16 t1 fun t21 =>
 p.fadr 7 t3 fun t23 =>
 p.apart t13 [t3] H
 (p.load false 1 t13 H fun t14 =>
 p.apart t15 [t3] H
 (p.load false 1 t15 H fun t16 =>
 p.apart t17 [t3] H
 (p.load false 1 t17 H fun t18 =>
 p.apart t19 [t3] H
 (p.load false 1 t19 H fun t20 =>
 p.apart t21 [t3] H
 (p.load false 1 t21 H fun t22 =>
 p.same t23 t3
 (p.store 1 t23 t12 H fun H =>
 p.fadr 8 t3 fun t24 =>
 p.same t24 t3
 (p.store 1 t24 t14 H fun H =>
 p.fadr 9 t3 fun t25 =>
 p.same t25 t3
 (p.store 1 t25 t16 H fun H =>
 p.fadr 10 t3 fun t26 =>
 p.same t26 t3
 (p.store 1 t26 t18 H fun H =>
 p.fadr 11 t3 fun t27 =>
 p.same t27 t3
 (p.store 1 t27 t20 H fun H =>
 p.fadr 16 t3 fun t28 =>
 p.store 1 t28 t22 H fun H =>
 p.fadr 11 t1 fun t29 =>
 p.load false 1 t29 H fun t30 =>
 E8 (fun (t1 t2 t3 : AV) (H : Ad) => p.fadr 16 t1 fun t43 =>
 p.load false 1 t43 H fun t44 =>
 E8 (fun (t1 t2 t3 : AV) (H : Ad) => p.fadr 18 t3 fun t51 =>
 p.load false 1 t51 H fun t52 =>
 p.cond t52
 (p.fadr 19 t1 fun t53 =>
 p.load false 1 t53 H fun t54 =>
 p.fadr 19 t3 fun t55 =>
 p.store 1 t55 t54 H fun H =>
 p.load true 25 t3 H fun t120 =>
 p.store 25 t2 t120 H fun H =>
 p.load true 25 t2 H fun r0 =>
 k r0 H)
 (p.load true 25 t3 H fun t120 =>
 p.store 25 t2 t120 H fun H =>
 p.load true 25 t2 H fun r0 =>
 k r0 H)) fun j2 =>
 p.cond t44
 (p.fadr 17 t1 fun t45 =>
 p.load false 1 t45 H fun t46 =>
 p.fadr 18 t1 fun t47 =>
 p.fadr 17 t3 fun t49 =>
 p.apart t47 [t3] H
 (p.load false 1 t47 H fun t48 =>
 p.same t49 t3
 (p.store 1 t49 t46 H fun H =>
 p.fadr 18 t3 fun t50 =>
 p.store 1 t50 t48 H fun H =>
 j2 t1 t2 t3 H)))
 (j2 t1 t2 t3 H)) fun j1 =>
 p.cond t30
 (p.fadr 12 t1 fun t31 =>
 p.load false 1 t31 H fun t32 =>
 p.fadr 13 t1 fun t33 =>
 p.fadr 14 t1 fun t35 =>
 p.fadr 15 t1 fun t37 =>
 p.fadr 12 t3 fun t39 =>
 p.apart t33 [t3] H
 (p.load false 1 t33 H fun t34 =>
 p.apart t35 [t3] H
 (p.load false 1 t35 H fun t36 =>
 p.apart t37 [t3] H
 (p.load false 1 t37 H fun t38 =>
 p.same t39 t3
 (p.store 1 t39 t32 H fun H =>
 p.fadr 13 t3 fun t40 =>
 p.same t40 t3
 (p.store 1 t40 t34 H fun H =>
 p.fadr 14 t3 fun t41 =>
 p.same t41 t3
 (p.store 1 t41 t36 H fun H =>
 p.fadr 15 t3 fun t42 =>
 p.store 1 t42 t38 H fun H =>
 j1 t1 t2 t3 H)))))))
 (j1 t1 t2 t3 H))))))))))))
 (p.bin .eql t8 (si 2) fun t57 =>
 p.cond t57
 (p.fadr 20 t1 fun t58 =>
 p.load false 1 t58 H fun t59 =>
 p.fadr 21 t1 fun t60 =>
 p.fadr 20 t3 fun t62 =>
 p.apart t60 [t3] H
 (p.load false 1 t60 H fun t61 =>
 p.same t62 t3
 (p.store 1 t62 t59 H fun H =>
 p.fadr 21 t3 fun t63 =>
 p.store 1 t63 t61 H fun H =>
 p.load true 25 t3 H fun t120 =>
 p.store 25 t2 t120 H fun H =>
 p.load true 25 t2 H fun r0 =>
 k r0 H)))
 (p.bin .eql t8 (si 3) fun t65 =>
 p.cond t65
 (p.fadr 2 t1 fun t66 =>
 p.load false 1 t66 H fun t67 =>
 p.fadr 3 t1 fun t68 =>
 p.fadr 5 t1 fun t70 =>
 p.fadr 6 t1 fun t72 =>
 p.fadr 2 t3 fun t74 =>
 p.apart t68 [t3] H
 (p.load false 1 t68 H fun t69 =>
 p.apart t70 [t3] H
 (p.load false 1 t70 H fun t71 =>
 p.apart t72 [t3] H
 (p.load false 1 t72 H fun t73 =>
 p.same t74 t3
 (p.store 1 t74 t67 H fun H =>
 p.fadr 3 t3 fun t75 =>
 p.same t75 t3
 (p.store 1 t75 t69 H fun H =>
 p.fadr 5 t3 fun t76 =>
 p.same t76 t3
 (p.store 1 t76 t71 H fun H =>
 p.fadr 6 t3 fun t77 =>
 p.store 1 t77 t73 H fun H =>
 p.fadr 2 t1 fun t78 =>
 p.load false 1 t78 H fun t79 =>
 p.bin .gtr t79 i0 fun t80 =>
 p.cond t80
 (p.fadr 1 t1 fun t81 =>
 p.load false 1 t81 H fun t82 =>
 p.fadr 4 t1 fun t83 =>
 p.fadr 1 t3 fun t85 =>
 p.apart t83 [t3] H
 (p.load false 1 t83 H fun t84 =>
 p.same t85 t3
 (p.store 1 t85 t82 H fun H =>
 p.fadr 4 t3 fun t86 =>
 p.store 1 t86 t84 H fun H =>
 p.load true 25 t3 H fun t120 =>
 p.store 25 t2 t120 H fun H =>
 p.load true 25 t2 H fun r0 =>
 k r0 H)))
 (p.load true 25 t3 H fun t120 =>
 p.store 25 t2 t120 H fun H =>
 p.load true 25 t2 H fun r0 =>
 k r0 H))))))))
 (p.bin .eql t8 (si 4) fun t88 =>
 E8 (fun (t1 t2 t3 t8 t87 : AV) (H : Ad) => p.cond t87
 (p.fadr 4 t1 fun t93 =>
 p.load false 1 t93 H fun t94 =>
 p.fadr 4 t3 fun t95 =>
 p.store 1 t95 t94 H fun H =>
 p.load true 25 t3 H fun t120 =>
 p.store 25 t2 t120 H fun H =>
 p.load true 25 t2 H fun r0 =>
 k r0 H)
 (p.bin .eql t8 (si 8) fun t97 =>
 p.cond t97
 (p.fadr 4 t1 fun t98 =>
 p.load false 1 t98 H fun t99 =>
 p.fadr 22 t1 fun t100 =>
 p.fadr 4 t3 fun t102 =>
 p.apart t100 [t3] H
 (p.load false 1 t100 H fun t101 =>
 p.same t102 t3
 (p.store 1 t102 t99 H fun H =>
 p.fadr 22 t3 fun t103 =>
 p.store 1 t103 t101 H fun H =>
 p.load true 25 t3 H fun t120 =>
 p.store 25 t2 t120 H fun H =>
 p.load true 25 t2 H fun r0 =>
 k r0 H)))
 (p.bin .eql t8 (si 9) fun t105 =>
 p.cond t105
 (p.fadr 4 t1 fun t106 =>
 p.load false 1 t106 H fun t107 =>
 p.fadr 24 t1 fun t108 =>
 p.fadr 4 t3 fun t110 =>
 p.apart t108 [t3] H
 (p.load false 1 t108 H fun t109 =>
 p.same t110 t3
 (p.store 1 t110 t107 H fun H =>
 p.fadr 24 t3 fun t111 =>
 p.store 1 t111 t109 H fun H =>
 p.load true 25 t3 H fun t120 =>
 p.store 25 t2 t120 H fun H =>
 p.load true 25 t2 H fun r0 =>
 k r0 H)))
 (p.bin .eql t8 (si 10) fun t113 =>
 p.cond t113
 (p.fadr 4 t1 fun t114 =>
 p.load false 1 t114 H fun t115 =>
 p.fadr 23 t1 fun t116 =>
 p.fadr 4 t3 fun t118 =>
 p.apart t116 [t3] H
 (p.load false 1 t116 H fun t117 =>
 p.same t118 t3
 (p.store 1 t118 t115 H fun H =>
 p.fadr 23 t3 fun t119 =>
 p.store 1 t119 t117 H fun H =>
 p.load true 25 t3 H fun t120 =>
 p.store 25 t2 t120 H fun H =>
 p.load true 25 t2 H fun r0 =>
 k r0 H)))
 (p.load true 25 t3 H fun t120 =>
 p.store 25 t2 t120 H fun H =>
 p.load true 25 t2 H fun r0 =>
 k r0 H))))) fun j3 =>
 p.cond t88
 (j3 t1 t2 t3 t8 t88 H)
 (p.bin .eql t8 (si 5) fun t89 =>
 p.cond t89
 (j3 t1 t2 t3 t8 t89 H)
 (p.bin .eql t8 (si 6) fun t90 =>
 p.cond t90
 (j3 t1 t2 t3 t8 t90 H)
 (p.bin .eql t8 (si 7) fun t91 =>
 p.cond t91
 (j3 t1 t2 t3 t8 t91 H)
 (p.bin .eql t8 (si 11) fun t92 =>
 j3 t1 t2 t3 t8 t92 H)))))))
theorem AcU : Om Ajp @f105 := fun p n a0 H k => by kernel_rfl
noncomputable def f71 (p : Pr β) (n : Nat) (a0 a1 : AV) (H : Ad) (k : KO β) : Option β :=
 p.cvBS a0 H fun t6 =>
 p.cvBS a1 H fun t8 =>
 p.bin .eql t6 t8 fun t9 =>
 k t9 H
theorem Afx : Ll Al5 @f71 := fun p n a0 a1 H k => by kernel_rfl
noncomputable def Q9 (p : Pr β) (n : Nat)  (k : KO β) : Nat → AV → AV → AV → KO β
 | 0, _, _, _, _, _ => none
 | m + 1, t0, t1, t12, t13, H => p.bin .lss t13 t12 fun t14 =>
   p.cond t14
   (p.iadr 2 t0 t13 fun t18 =>
   p.load true 2 t18 H fun t19 =>
   p.iadr 2 t1 t13 fun t22 =>
   p.load true 2 t22 H fun t23 =>
   p.binA .neq [1, 0] t19 t23 fun t24 =>
   p.cond t24
   (k bF H)
   (p.bin .add t13 (si 1) fun t25 =>
   Q9 p n  k m t0 t1 t12 t25 H))
   (k bT H)
noncomputable def f132 (p : Pr β) (n : Nat) (a0 a1 : AV) (H : Ad) (k : KO β) : Option β :=
 p.len a0 fun t7 =>
 p.len a1 fun t9 =>
 p.bin .neq t7 t9 fun t10 =>
 p.cond t10
 (k bF H)
 (p.len a0 fun t12 =>
 Q9 p n  k n a0 a1 t12 i0 H)
noncomputable def Acl (p : Pr β) (n : Nat)  (k : KO β) (m : Nat) (tm : Tm) (H : Ad) : Option β :=
 D0 26 (fun tm H k => Al Au p AkX 26 n (cd AjS [1, 1, 0, 1, 0, 0]) tm H k) (E7 0 (Eo (fun tm H => Al Au p AkX 26 n (cd AjS [1, 1, 1]) tm H (Cu Au p fi132.results k)) (Cu Au p fi132.results k))) m tm H
theorem Abl (p : Pr β) (n : Nat)  (k : KO β) (m0 : Nat) : ∀ (t : Nat → AV) (H : Ad), Acl p n  k m0 (tf 26 0 t) H = Q9 p n  k m0 (t 0) (t 1) (t 12) (t 13) H := by
 induction m0 with
 | zero => intros; rfl
 | succ m0 ih =>
  intro t H
  refine Eq.trans (Bt (nt := 26) (m := m0) (g := fun t H => Q9 p n  k m0 (t 0) (t 1) (t 12) (t 13) H) ih rfl) ?_
  kernel_rfl
theorem AeB (p : Pr β) (n : Nat) (a0 a1 : AV) (H : Ad) (k : KO β) : Cr Au p n fi132 [a0, a1] H k =
 p.len a0 fun t7 =>
 p.len a1 fun t9 =>
 p.bin .neq t7 t9 fun t10 =>
 p.cond t10
 (k bF H)
 (p.len a0 fun t12 =>
 Acl p n  k n (tf 26 0 (ud [(0, a0), (1, a1), (4, bF), (6, a0), (7, t7), (8, a1), (9, t9), (10, t10), (11, a0), (12, t12), (13, i0)] ut)) H) := by kernel_rfl
theorem Adm : Ll fi132 @f132 := fun p n a0 a1 H k => by
 rw [AeB]
 simp only [Abl]
 kernel_rfl
noncomputable def Ra (p : Pr β) (n : Nat)  (k : KO β) : Nat → AV → AV → AV → KO β
 | 0, _, _, _, _, _ => none
 | m + 1, t0, t1, t12, t13, H => p.bin .lss t13 t12 fun t14 =>
   p.cond t14
   (p.iadr 1 t0 t13 fun t18 =>
   p.load false 1 t18 H fun t19 =>
   p.iadr 1 t1 t13 fun t22 =>
   p.load false 1 t22 H fun t23 =>
   p.bin .neq t19 t23 fun t24 =>
   p.cond t24
   (k bF H)
   (p.bin .add t13 (si 1) fun t25 =>
   Ra p n  k m t0 t1 t12 t25 H))
   (k bT H)
noncomputable def f133 (p : Pr β) (n : Nat) (a0 a1 : AV) (H : Ad) (k : KO β) : Option β :=
 p.len a0 fun t7 =>
 p.len a1 fun t9 =>
 p.bin .neq t7 t9 fun t10 =>
 p.cond t10
 (k bF H)
 (p.len a0 fun t12 =>
 Ra p n  k n a0 a1 t12 i0 H)
noncomputable def Acm (p : Pr β) (n : Nat)  (k : KO β) (m : Nat) (tm : Tm) (H : Ad) : Option β :=
 D0 26 (fun tm H k => Al Au p AkY 26 n (cd AjT [1, 1, 0, 1, 0, 0]) tm H k) (E7 0 (Eo (fun tm H => Al Au p AkY 26 n (cd AjT [1, 1, 1]) tm H (Cu Au p fi133.results k)) (Cu Au p fi133.results k))) m tm H
theorem Abm (p : Pr β) (n : Nat)  (k : KO β) (m0 : Nat) : ∀ (t : Nat → AV) (H : Ad), Acm p n  k m0 (tf 26 0 t) H = Ra p n  k m0 (t 0) (t 1) (t 12) (t 13) H := by
 induction m0 with
 | zero => intros; rfl
 | succ m0 ih =>
  intro t H
  refine Eq.trans (Bt (nt := 26) (m := m0) (g := fun t H => Ra p n  k m0 (t 0) (t 1) (t 12) (t 13) H) ih rfl) ?_
  kernel_rfl
theorem AeC (p : Pr β) (n : Nat) (a0 a1 : AV) (H : Ad) (k : KO β) : Cr Au p n fi133 [a0, a1] H k =
 p.len a0 fun t7 =>
 p.len a1 fun t9 =>
 p.bin .neq t7 t9 fun t10 =>
 p.cond t10
 (k bF H)
 (p.len a0 fun t12 =>
 Acm p n  k n (tf 26 0 (ud [(0, a0), (1, a1), (4, bF), (6, a0), (7, t7), (8, a1), (9, t9), (10, t10), (11, a0), (12, t12), (13, i0)] ut)) H) := by kernel_rfl
theorem Adn : Ll fi133 @f133 := fun p n a0 a1 H k => by
 rw [AeC]
 simp only [Abm]
 kernel_rfl
noncomputable def Rb (p : Pr β) (n : Nat)  (k : KO β) : Nat → AV → AV → AV → KO β
 | 0, _, _, _, _, _ => none
 | m + 1, t0, t1, t12, t13, H => p.bin .lss t13 t12 fun t14 =>
   p.cond t14
   (p.iadr 1 t0 t13 fun t18 =>
   p.load false 1 t18 H fun t19 =>
   p.iadr 1 t1 t13 fun t22 =>
   p.load false 1 t22 H fun t23 =>
   p.bin .neq t19 t23 fun t24 =>
   p.cond t24
   (k bF H)
   (p.bin .add t13 (si 1) fun t25 =>
   Rb p n  k m t0 t1 t12 t25 H))
   (k bT H)
noncomputable def f134 (p : Pr β) (n : Nat) (a0 a1 : AV) (H : Ad) (k : KO β) : Option β :=
 p.len a0 fun t7 =>
 p.len a1 fun t9 =>
 p.bin .neq t7 t9 fun t10 =>
 p.cond t10
 (k bF H)
 (p.len a0 fun t12 =>
 Rb p n  k n a0 a1 t12 i0 H)
noncomputable def Acn (p : Pr β) (n : Nat)  (k : KO β) (m : Nat) (tm : Tm) (H : Ad) : Option β :=
 D0 26 (fun tm H k => Al Au p AkZ 26 n (cd AjU [1, 1, 0, 1, 0, 0]) tm H k) (E7 0 (Eo (fun tm H => Al Au p AkZ 26 n (cd AjU [1, 1, 1]) tm H (Cu Au p fi134.results k)) (Cu Au p fi134.results k))) m tm H
theorem Abn (p : Pr β) (n : Nat)  (k : KO β) (m0 : Nat) : ∀ (t : Nat → AV) (H : Ad), Acn p n  k m0 (tf 26 0 t) H = Rb p n  k m0 (t 0) (t 1) (t 12) (t 13) H := by
 induction m0 with
 | zero => intros; rfl
 | succ m0 ih =>
  intro t H
  refine Eq.trans (Bt (nt := 26) (m := m0) (g := fun t H => Rb p n  k m0 (t 0) (t 1) (t 12) (t 13) H) ih rfl) ?_
  kernel_rfl
theorem AeD (p : Pr β) (n : Nat) (a0 a1 : AV) (H : Ad) (k : KO β) : Cr Au p n fi134 [a0, a1] H k =
 p.len a0 fun t7 =>
 p.len a1 fun t9 =>
 p.bin .neq t7 t9 fun t10 =>
 p.cond t10
 (k bF H)
 (p.len a0 fun t12 =>
 Acn p n  k n (tf 26 0 (ud [(0, a0), (1, a1), (4, bF), (6, a0), (7, t7), (8, a1), (9, t9), (10, t10), (11, a0), (12, t12), (13, i0)] ut)) H) := by kernel_rfl
theorem Ado : Ll fi134 @f134 := fun p n a0 a1 H k => by
 rw [AeD]
 simp only [Abn]
 kernel_rfl
noncomputable def f104 (p : Pr β) (n : Nat) (a0 a1 : AV) (H : Ad) (k : KO β) : Option β :=
 p.box a0 H fun t2 H =>
 p.box a1 H fun t3 H =>
 p.fadr 0 t2 fun t9 =>
 p.load false 1 t9 H fun t10 =>
 p.fadr 0 t3 fun t11 =>
 p.load false 1 t11 H fun t12 =>
 p.bin .eql t10 t12 fun t13 =>
 p.gT t13 H (p.fadr 1 t2) fun t15 H =>
 p.gT t13 H (p.load false 1 t15 H) fun t16 H =>
 p.gT t13 H (p.fadr 1 t3) fun t17 H =>
 p.gT t13 H (p.load false 1 t17 H) fun t18 H =>
 p.gT t13 H (p.binB .eql t16 t18) fun t19 H =>
 p.pick t13 t19 bF fun t20 =>
 p.gT t20 H (p.fadr 2 t2) fun t22 H =>
 p.gT t20 H (p.load false 1 t22 H) fun t23 H =>
 p.gT t20 H (p.fadr 2 t3) fun t24 H =>
 p.gT t20 H (p.load false 1 t24 H) fun t25 H =>
 p.gT t20 H (p.bin .eql t23 t25) fun t26 H =>
 p.pick t20 t26 bF fun t27 =>
 p.gT t27 H (p.fadr 3 t2) fun t29 H =>
 p.gT t27 H (p.load false 1 t29 H) fun t30 H =>
 p.gT t27 H (p.fadr 3 t3) fun t31 H =>
 p.gT t27 H (p.load false 1 t31 H) fun t32 H =>
 p.gT t27 H (p.binB .eql t30 t32) fun t33 H =>
 p.pick t27 t33 bF fun t34 =>
 p.gT t34 H (p.fadr 4 t2) fun t36 H =>
 p.gT t34 H (p.load false 1 t36 H) fun t37 H =>
 p.gT t34 H (p.fadr 4 t3) fun t38 H =>
 p.gT t34 H (p.load false 1 t38 H) fun t39 H =>
 p.gT t34 H (p.bin .eql t37 t39) fun t40 H =>
 p.pick t34 t40 bF fun t41 =>
 p.gT t41 H (p.fadr 5 t2) fun t43 H =>
 p.gT t41 H (p.load false 1 t43 H) fun t44 H =>
 p.gT t41 H (p.fadr 5 t3) fun t45 H =>
 p.gT t41 H (p.load false 1 t45 H) fun t46 H =>
 p.gT t41 H (p.bin .eql t44 t46) fun t47 H =>
 p.pick t41 t47 bF fun t48 =>
 p.gT t48 H (p.fadr 6 t2) fun t50 H =>
 p.gT t48 H (p.load false 1 t50 H) fun t51 H =>
 p.gT t48 H (p.fadr 6 t3) fun t52 H =>
 p.gT t48 H (p.load false 1 t52 H) fun t53 H =>
 p.hT t48 H (p.call 4 (.fn 71 [] []) [t51, t53] H) fun t54 H =>
 p.pick t48 t54 bF fun t55 =>
 p.fadr 7 t2 fun t56 =>
 p.load false 1 t56 H fun t57 =>
 p.fadr 7 t3 fun t58 =>
 p.load false 1 t58 H fun t59 =>
 p.bin .eql t57 t59 fun t60 =>
 p.gT t60 H (p.fadr 8 t2) fun t62 H =>
 p.gT t60 H (p.load false 1 t62 H) fun t63 H =>
 p.gT t60 H (p.fadr 8 t3) fun t64 H =>
 p.gT t60 H (p.load false 1 t64 H) fun t65 H =>
 p.gT t60 H (p.bin .eql t63 t65) fun t66 H =>
 p.pick t60 t66 bF fun t67 =>
 p.gT t67 H (p.fadr 9 t2) fun t69 H =>
 p.gT t67 H (p.load false 1 t69 H) fun t70 H =>
 p.gT t67 H (p.fadr 9 t3) fun t71 H =>
 p.gT t67 H (p.load false 1 t71 H) fun t72 H =>
 p.gT t67 H (p.binB .eql t70 t72) fun t73 H =>
 p.pick t67 t73 bF fun t74 =>
 p.gT t74 H (p.fadr 10 t2) fun t76 H =>
 p.gT t74 H (p.load false 1 t76 H) fun t77 H =>
 p.gT t74 H (p.fadr 10 t3) fun t78 H =>
 p.gT t74 H (p.load false 1 t78 H) fun t79 H =>
 p.gT t74 H (p.bin .eql t77 t79) fun t80 H =>
 p.pick t74 t80 bF fun t81 =>
 p.gT t81 H (p.fadr 16 t2) fun t83 H =>
 p.gT t81 H (p.load false 1 t83 H) fun t84 H =>
 p.gT t81 H (p.fadr 16 t3) fun t85 H =>
 p.gT t81 H (p.load false 1 t85 H) fun t86 H =>
 p.gT t81 H (p.binB .eql t84 t86) fun t87 H =>
 p.pick t81 t87 bF fun t88 =>
 p.gT t88 H (p.fadr 17 t2) fun t90 H =>
 p.gT t88 H (p.load false 1 t90 H) fun t91 H =>
 p.gT t88 H (p.fadr 17 t3) fun t92 H =>
 p.gT t88 H (p.load false 1 t92 H) fun t93 H =>
 p.gT t88 H (p.bin .eql t91 t93) fun t94 H =>
 p.pick t88 t94 bF fun t95 =>
 p.gT t95 H (p.fadr 18 t2) fun t97 H =>
 p.gT t95 H (p.load false 1 t97 H) fun t98 H =>
 p.gT t95 H (p.fadr 18 t3) fun t99 H =>
 p.gT t95 H (p.load false 1 t99 H) fun t100 H =>
 p.gT t95 H (p.binB .eql t98 t100) fun t101 H =>
 p.pick t95 t101 bF fun t102 =>
 p.gT t102 H (p.fadr 19 t2) fun t104 H =>
 p.gT t102 H (p.load false 1 t104 H) fun t105 H =>
 p.gT t102 H (p.fadr 19 t3) fun t106 H =>
 p.gT t102 H (p.load false 1 t106 H) fun t107 H =>
 p.hT t102 H (p.call 4 (.fn 71 [] []) [t105, t107] H) fun t108 H =>
 p.pick t102 t108 bF fun t109 =>
 p.fadr 11 t2 fun t110 =>
 p.load false 1 t110 H fun t111 =>
 p.fadr 11 t3 fun t112 =>
 p.load false 1 t112 H fun t113 =>
 p.binB .eql t111 t113 fun t114 =>
 p.gT t114 H (p.fadr 12 t2) fun t116 H =>
 p.gT t114 H (p.load false 1 t116 H) fun t117 H =>
 p.gT t114 H (p.fadr 12 t3) fun t118 H =>
 p.gT t114 H (p.load false 1 t118 H) fun t119 H =>
 p.gT t114 H (p.bin .eql t117 t119) fun t120 H =>
 p.pick t114 t120 bF fun t121 =>
 p.gT t121 H (p.fadr 13 t2) fun t123 H =>
 p.gT t121 H (p.load false 1 t123 H) fun t124 H =>
 p.gT t121 H (p.fadr 13 t3) fun t125 H =>
 p.gT t121 H (p.load false 1 t125 H) fun t126 H =>
 p.hT t121 H (p.call 4 (.fn 71 [] []) [t124, t126] H) fun t127 H =>
 p.pick t121 t127 bF fun t128 =>
 p.gT t128 H (p.fadr 14 t2) fun t130 H =>
 p.gT t128 H (p.load false 1 t130 H) fun t131 H =>
 p.gT t128 H (p.fadr 14 t3) fun t132 H =>
 p.gT t128 H (p.load false 1 t132 H) fun t133 H =>
 p.gT t128 H (p.bin .eql t131 t133) fun t134 H =>
 p.pick t128 t134 bF fun t135 =>
 p.gT t135 H (p.fadr 15 t2) fun t137 H =>
 p.gT t135 H (p.load false 1 t137 H) fun t138 H =>
 p.gT t135 H (p.fadr 15 t3) fun t139 H =>
 p.gT t135 H (p.load false 1 t139 H) fun t140 H =>
 p.gT t135 H (p.binB .eql t138 t140) fun t141 H =>
 p.pick t135 t141 bF fun t142 =>
 p.fadr 22 t2 fun t143 =>
 p.load false 1 t143 H fun t144 =>
 p.fadr 22 t3 fun t145 =>
 p.load false 1 t145 H fun t146 =>
 p.call 4 (.fn 132 [] []) [t144, t146] H fun t147 H =>
 p.gT t147 H (p.fadr 23 t2) fun t149 H =>
 p.gT t147 H (p.load false 1 t149 H) fun t150 H =>
 p.gT t147 H (p.fadr 23 t3) fun t151 H =>
 p.gT t147 H (p.load false 1 t151 H) fun t152 H =>
 p.hT t147 H (p.call 4 (.fn 133 [] []) [t150, t152] H) fun t153 H =>
 p.pick t147 t153 bF fun t154 =>
 p.gT t154 H (p.fadr 24 t2) fun t156 H =>
 p.gT t154 H (p.load false 1 t156 H) fun t157 H =>
 p.gT t154 H (p.fadr 24 t3) fun t158 H =>
 p.gT t154 H (p.load false 1 t158 H) fun t159 H =>
 p.hT t154 H (p.call 4 (.fn 134 [] []) [t157, t159] H) fun t160 H =>
 p.pick t154 t160 bF fun t161 =>
 p.kT t55 H t109 fun t164 H =>
 p.pick t55 t164 bF fun t165 =>
 p.kT t165 H t142 fun t167 H =>
 p.pick t165 t167 bF fun t168 =>
 p.kT t168 H t161 fun t170 H =>
 p.pick t168 t170 bF fun t171 =>
 p.gT t171 H (p.fadr 20 t2) fun t173 H =>
 p.gT t171 H (p.load false 1 t173 H) fun t174 H =>
 p.gT t171 H (p.fadr 20 t3) fun t175 H =>
 p.gT t171 H (p.load false 1 t175 H) fun t176 H =>
 p.gT t171 H (p.bin .eql t174 t176) fun t177 H =>
 p.pick t171 t177 bF fun t178 =>
 p.gT t178 H (p.fadr 21 t2) fun t180 H =>
 p.gT t178 H (p.load false 1 t180 H) fun t181 H =>
 p.gT t178 H (p.fadr 21 t3) fun t182 H =>
 p.gT t178 H (p.load false 1 t182 H) fun t183 H =>
 p.gT t178 H (p.binB .eql t181 t183) fun t184 H =>
 p.pick t178 t184 bF fun t185 =>
 k t185 H
theorem AcT : Ll Ajo @f104 := fun p n a0 a1 H k => by kernel_rfl
noncomputable def f137 (p : Pr β) (n : Nat) (a0 : AV) (H : Ad) (k : KO β) : Option β :=
 p.call 56 (.fn 149 [] []) [a0, (.sc (.string ⟨#[47]⟩))] H fun t4 H =>
 k t4 H
theorem Adp : Om Aj1 @f137 := fun p n a0 H k => by kernel_rfl
noncomputable def f108 (p : Pr β) (n : Nat) (a0 : AV) (H : Ad) (k : KO β) : Option β :=
 p.call 4 (.fn 135 [] []) [a0] H fun t4 H =>
 p.kT t4 H a0 fun t6 H =>
 p.gT t4 H (p.bin .neq t6 sE) fun t7 H =>
 p.pick t4 t7 bF fun t8 =>
 p.kT t8 H a0 fun t10 H =>
 p.hT t8 H (p.call 4 (.fn 136 [] []) [t10, (.sc (.string ⟨#[43, 35]⟩))] H) fun t11 H =>
 p.gT t8 H (p.un .not t11) fun t12 H =>
 p.pick t8 t12 bF fun t13 =>
 p.kT t13 H a0 fun t15 H =>
 p.hT t13 H (p.call 56 (.fn 137 [] []) [t15] H) fun t16 H =>
 p.gT t13 H (p.len t16) fun t17 H =>
 p.gT t13 H (p.bin .leq t17 (si 6)) fun t18 H =>
 p.pick t13 t18 bF fun t19 =>
 k t19 H
theorem AcX : Om Ajs @f108 := fun p n a0 H k => by kernel_rfl
noncomputable def f107 (p : Pr β) (n : Nat) (a0 : AV) (H : Ad) (k : KO β) : Option β :=
 p.call 4 (.fn 98 [] []) [a0, i0, (si 2)] H fun t4 H =>
 k t4 H
theorem AcW : Om Ajr @f107 := fun p n a0 H k => by kernel_rfl
noncomputable def f118 (p : Pr β) (n : Nat) (a0 : AV) (H : Ad) (k : KO β) : Option β :=
 p.call 4 (.fn 98 [] []) [a0, i0, (si 65535)] H fun t4 H =>
 k t4 H
theorem Adf : Om Ajw @f118 := fun p n a0 H k => by kernel_rfl
noncomputable def f106 (p : Pr β) (n : Nat) (a0 : AV) (H : Ad) (k : KO β) : Option β :=
 p.box a0 H fun t1 H =>
 p.fadr 11 t1 fun t4 =>
 p.load false 1 t4 H fun t5 =>
 p.un .not t5 fun t6 =>
 p.gF t6 H (p.fadr 12 t1) fun t8 H =>
 p.gF t6 H (p.load false 1 t8 H) fun t9 H =>
 p.hF t6 H (p.call 4 (.fn 108 [] []) [t9] H) fun t10 H =>
 p.kF t6 H t10 fun t11 H =>
 p.gT t11 H (p.fadr 13 t1) fun t12 H =>
 p.gT t11 H (p.load false 1 t12 H) fun t13 H =>
 p.gT t11 H (p.len t13) fun t14 H =>
 p.gT t11 H (p.bin .leq t14 (si 40)) fun t15 H =>
 p.gF t6 H (p.pick t11 t15 bF) fun t16 H =>
 p.kF t6 H t16 fun t17 H =>
 p.gT t17 H (p.fadr 14 t1) fun t18 H =>
 p.gT t17 H (p.load false 1 t18 H) fun t19 H =>
 p.hT t17 H (p.call 4 (.fn 107 [] []) [t19] H) fun t20 H =>
 p.gF t6 H (p.pick t17 t20 bF) fun t21 H =>
 p.pick t6 bT t21 fun t22 =>
 p.fadr 8 t1 fun t23 =>
 p.load false 1 t23 H fun t24 =>
 p.call 4 (.fn 98 [] []) [t24, i0, (si 255)] H fun t25 H =>
 p.gT t25 H (p.fadr 7 t1) fun t27 H =>
 p.gT t25 H (p.load false 1 t27 H) fun t28 H =>
 p.hT t25 H (p.call 4 (.fn 135 [] []) [t28] H) fun t29 H =>
 p.pick t25 t29 bF fun t30 =>
 p.gT t30 H (p.fadr 10 t1) fun t32 H =>
 p.gT t30 H (p.load false 1 t32 H) fun t33 H =>
 p.hT t30 H (p.call 4 (.fn 118 [] []) [t33] H) fun t34 H =>
 p.pick t30 t34 bF fun t35 =>
 p.kT t35 H t22 fun t37 H =>
 p.pick t35 t37 bF fun t38 =>
 p.gT t38 H (p.fadr 17 t1) fun t40 H =>
 p.gT t38 H (p.load false 1 t40 H) fun t41 H =>
 p.hT t38 H (p.call 4 (.fn 135 [] []) [t41] H) fun t42 H =>
 p.pick t38 t42 bF fun t43 =>
 p.gT t43 H (p.fadr 19 t1) fun t45 H =>
 p.gT t43 H (p.load false 1 t45 H) fun t46 H =>
 p.gT t43 H (p.len t46) fun t47 H =>
 p.gT t43 H (p.bin .leq t47 (si 60)) fun t48 H =>
 p.pick t43 t48 bF fun t49 =>
 k t49 H
theorem AcV : Om Ajq @f106 := fun p n a0 H k => by kernel_rfl
noncomputable def f109 (p : Pr β) (n : Nat) (a0 : AV) (H : Ad) (k : KO β) : Option β :=
 p.call 4 (.fn 98 [] []) [a0, (si 1), (si 65535)] H fun t4 H =>
 k t4 H
theorem AcY : Om Ajt @f109 := fun p n a0 H k => by kernel_rfl
noncomputable def f150 (p : Pr β) (n : Nat) (a0 a1 : AV) (H : Ad) (k : KO β) : Option β :=
 p.call 4 (.fn 136 [] []) [a0, (.sc (.string ⟨#[43, 35]⟩))] H fun t6 H =>
 p.un .not t6 fun t7 =>
 p.kF t7 H a0 fun t9 H =>
 p.gF t7 H (p.bin .eql t9 (.sc (.string ⟨#[43]⟩))) fun t10 H =>
 p.pick t7 bT t10 fun t11 =>
 p.kF t11 H a0 fun t13 H =>
 p.gF t11 H (p.bin .eql t13 (.sc (.string ⟨#[35]⟩))) fun t14 H =>
 p.kF t11 H t14 fun t15 H =>
 p.kT t15 H a1 fun t16 H =>
 p.gF t11 H (p.pick t15 t16 bF) fun t17 H =>
 p.pick t11 bT t17 fun t18 =>
 k t18 H
theorem Adx : Ll Aj7 @f150 := fun p n a0 a1 H k => by kernel_rfl
noncomputable def Ns (p : Pr β) (n : Nat)  (k : KO β) : Nat → AV → AV → AV → AV → KO β
 | 0, _, _, _, _, _, _ => none
 | m + 1, t0, t3, t8, t9, t10, H => p.bin .lss t10 t9 fun t11 =>
   p.cond t11
   (p.iadr 1 t8 t10 fun t13 =>
   p.load false 1 t13 H fun t14 =>
   p.len t3 fun t18 =>
   p.bin .sub t18 (si 1) fun t19 =>
   p.bin .eql t10 t19 fun t20 =>
   p.call 4 (.fn 150 [] []) [t14, t20] H fun t21 H =>
   p.un .not t21 fun t22 =>
   p.cond t22
   (k bF H)
   (p.bin .add t10 (si 1) fun t23 =>
   Ns p n  k m t0 t3 t8 t9 t23 H))
   (p.call 4 (.fn 135 [] []) [t0] H fun t25 H =>
   p.kT t25 H t0 fun t27 H =>
   p.gT t25 H (p.bin .neq t27 sE) fun t28 H =>
   p.pick t25 t28 bF fun t29 =>
   p.kT t29 H t3 fun t31 H =>
   p.gT t29 H (p.len t31) fun t32 H =>
   p.gT t29 H (p.bin .leq t32 (si 6)) fun t33 H =>
   p.pick t29 t33 bF fun t34 =>
   k t34 H)
noncomputable def f138 (p : Pr β) (n : Nat) (a0 : AV) (H : Ad) (k : KO β) : Option β :=
 p.call 56 (.fn 137 [] []) [a0] H fun t7 H =>
 p.len t7 fun t9 =>
 Ns p n  k n a0 t7 t7 t9 i0 H
noncomputable def Aco (p : Pr β) (n : Nat)  (k : KO β) (m : Nat) (tm : Tm) (H : Ad) : Option β :=
 D0 35 (fun tm H k => Al Au p [] 35 n (cd AjV [1, 1, 0, 1, 0, 0]) tm H k) (E7 0 (Eo (fun tm H => Al Au p [] 35 n (cd AjV [1, 1, 1]) tm H (Cu Au p fi138.results k)) (Cu Au p fi138.results k))) m tm H
theorem Abo (p : Pr β) (n : Nat)  (k : KO β) (m0 : Nat) : ∀ (t : Nat → AV) (H : Ad), Aco p n  k m0 (tf 35 0 t) H = Ns p n  k m0 (t 0) (t 3) (t 8) (t 9) (t 10) H := by
 induction m0 with
 | zero => intros; rfl
 | succ m0 ih =>
  intro t H
  refine Eq.trans (Bt (nt := 35) (m := m0) (g := fun t H => Ns p n  k m0 (t 0) (t 3) (t 8) (t 9) (t 10) H) ih rfl) ?_
  kernel_rfl
theorem AeE (p : Pr β) (n : Nat) (a0 : AV) (H : Ad) (k : KO β) : Cr Au p n fi138 [a0] H k =
 p.call 56 (.fn 137 [] []) [a0] H fun t7 H =>
 p.len t7 fun t9 =>
 Aco p n  k n (tf 35 0 (ud [(0, a0), (2, bF), (3, t7), (6, a0), (7, t7), (8, t7), (9, t9), (10, i0)] ut)) H := by kernel_rfl
theorem Adq : Om fi138 @f138 := fun p n a0 H k => by
 rw [AeE]
 simp only [Abo]
 kernel_rfl
noncomputable def Np (p : Pr β) (n : Nat)  (k : KO β) : Nat → AV → AV → AV → KO β
 | 0, _, _, _, _, _ => none
 | m + 1, t1, t39, t40, t41, H => p.bin .lss t41 t40 fun t42 =>
   p.cond t42
   (p.iadr 1 t39 t41 fun t43 =>
   p.load false 1 t43 H fun t44 =>
   p.call 4 (.fn 107 [] []) [t44] H fun t46 H =>
   p.un .not t46 fun t47 =>
   p.kT t47 H t44 fun t49 H =>
   p.gT t47 H (p.bin .neq t49 (si 128)) fun t50 H =>
   p.pick t47 t50 bF fun t51 =>
   p.cond t51
   (k bF H)
   (p.bin .add t41 (si 1) fun t52 =>
   Np p n  k m t1 t39 t40 t52 H))
   (p.fadr 22 t1 fun t53 =>
   p.load false 1 t53 H fun t54 =>
   p.len t54 fun t55 =>
   p.fadr 23 t1 fun t56 =>
   p.load false 1 t56 H fun t57 =>
   p.len t57 fun t58 =>
   p.bin .add t55 t58 fun t59 =>
   p.fadr 24 t1 fun t60 =>
   p.load false 1 t60 H fun t61 =>
   p.len t61 fun t62 =>
   p.bin .add t59 t62 fun t63 =>
   p.call 4 (.fn 98 [] []) [t63, (si 1), (si 4)] H fun t64 H =>
   k t64 H)
noncomputable def K2 (p : Pr β) (n : Nat)  (k : KO β) : Nat → AV → AV → AV → KO β
 | 0, _, _, _, _, _ => none
 | m + 1, t1, t28, t29, t30, H => p.bin .lss t30 t29 fun t31 =>
   p.cond t31
   (p.iadr 1 t28 t30 fun t32 =>
   p.load false 1 t32 H fun t33 =>
   p.call 4 (.fn 138 [] []) [t33] H fun t35 H =>
   p.un .not t35 fun t36 =>
   p.cond t36
   (k bF H)
   (p.bin .add t30 (si 1) fun t37 =>
   K2 p n  k m t1 t28 t29 t37 H))
   (p.fadr 24 t1 fun t38 =>
   p.load false 1 t38 H fun t39 =>
   p.len t39 fun t40 =>
   Np p n  k n t1 t39 t40 i0 H)
noncomputable def K1 (p : Pr β) (n : Nat)  (k : KO β) : Nat → AV → AV → AV → KO β
 | 0, _, _, _, _, _ => none
 | m + 1, t1, t10, t11, t12, H => p.bin .lss t12 t11 fun t13 =>
   p.cond t13
   (p.iadr 2 t10 t12 fun t14 =>
   p.load true 2 t14 H fun t15 =>
   p.new [sE, i0] H fun t4 H =>
   p.store 2 t4 t15 H fun H =>
   p.fadr 0 t4 fun t16 =>
   p.load false 1 t16 H fun t17 =>
   p.call 4 (.fn 138 [] []) [t17] H fun t18 H =>
   p.un .not t18 fun t19 =>
   p.gF t19 H (p.fadr 1 t4) fun t21 H =>
   p.gF t19 H (p.load false 1 t21 H) fun t22 H =>
   p.hF t19 H (p.call 4 (.fn 107 [] []) [t22] H) fun t23 H =>
   p.gF t19 H (p.un .not t23) fun t24 H =>
   p.pick t19 bT t24 fun t25 =>
   p.cond t25
   (k bF H)
   (p.bin .add t12 (si 1) fun t26 =>
   K1 p n  k m t1 t10 t11 t26 H))
   (p.fadr 23 t1 fun t27 =>
   p.load false 1 t27 H fun t28 =>
   p.len t28 fun t29 =>
   K2 p n  k n t1 t28 t29 i0 H)
noncomputable def f110 (p : Pr β) (n : Nat) (a0 : AV) (H : Ad) (k : KO β) : Option β :=
 p.box a0 H fun t1 H =>
 p.fadr 22 t1 fun t9 =>
 p.load false 1 t9 H fun t10 =>
 p.len t10 fun t11 =>
 K1 p n  k n t1 t10 t11 i0 H
noncomputable def Acd (p : Pr β) (n : Nat)  (k : KO β) (m : Nat) (tm : Tm) (H : Ad) : Option β :=
 D0 65 (fun tm H k => Al Au p [] 65 n (cd Uq [1, 1, 1, 0, 1, 0, 0]) tm H k) (E7 4 (Eo (fun tm H => Al Au p [] 65 n (cd Uq [1, 1, 1, 1]) tm H (Cu Au p fi110.results k)) (Cu Au p fi110.results k))) m tm H
noncomputable def Acc (p : Pr β) (n : Nat)  (k : KO β) (m : Nat) (tm : Tm) (H : Ad) : Option β :=
 D0 65 (fun tm H k => Al Au p [] 65 n (cd Uq [1, 1, 0, 1, 0, 0]) tm H k) (E7 2 (Eo (fun tm H => Al Au p [] 65 n (cd Uq [1, 1, 1]) tm H (Cu Au p fi110.results k)) (Cu Au p fi110.results k))) m tm H
noncomputable def Acb (p : Pr β) (n : Nat)  (k : KO β) (m : Nat) (tm : Tm) (H : Ad) : Option β :=
 D0 65 (fun tm H k => Al Au p [] 65 n (cd Uq [1, 0, 1, 0, 0]) tm H k) (E7 0 (Eo (fun tm H => Al Au p [] 65 n (cd Uq [1, 1]) tm H (Cu Au p fi110.results k)) (Cu Au p fi110.results k))) m tm H
theorem U1 (p : Pr β) (n : Nat)  (k : KO β) (m2 : Nat) : ∀ (t : Nat → AV) (H : Ad), Acd p n  k m2 (tf 65 0 t) H = Np p n  k m2 (t 1) (t 39) (t 40) (t 41) H := by
 induction m2 with
 | zero => intros; rfl
 | succ m2 ih =>
  intro t H
  refine Eq.trans (Bt (nt := 65) (m := m2) (g := fun t H => Np p n  k m2 (t 1) (t 39) (t 40) (t 41) H) ih rfl) ?_
  kernel_rfl
theorem Yr (p : Pr β) (n : Nat)  (k : KO β) (m1 : Nat) (t : Nat → AV) (H : Ad) : Al Au p [] 65 n (cd Uq [1, 1, 0, 1, 0, 0]) (tf 65 0 t) H (Eo (fun tm H => K2 p n  k m1 (gt tm 1) (gt tm 28) (gt tm 29) (gt tm 30) H) (E7 2 (Eo (fun tm H => Al Au p [] 65 n (cd Uq [1, 1, 1]) tm H (Cu Au p fi110.results k)) (Cu Au p fi110.results k)))) =
 p.bin .lss (t 30) (t 29) fun t31 =>
 p.cond t31
 (p.iadr 1 (t 28) (t 30) fun t32 =>
 p.load false 1 t32 H fun t33 =>
 p.call 4 (.fn 138 [] []) [t33] H fun t35 H =>
 p.un .not t35 fun t36 =>
 p.cond t36
 (k bF H)
 (p.bin .add (t 30) (si 1) fun t37 =>
 K2 p n  k m1 (t 1) (t 28) (t 29) t37 H))
 (p.fadr 24 (t 1) fun t38 =>
 p.load false 1 t38 H fun t39 =>
 p.len t39 fun t40 =>
 Acd p n  k n (tf 65 0 (ud [(31, t31), (38, t38), (39, t39), (40, t40), (41, i0)] t)) H) := by kernel_rfl
theorem U0 (p : Pr β) (n : Nat)  (k : KO β) (m1 : Nat) : ∀ (t : Nat → AV) (H : Ad), Acc p n  k m1 (tf 65 0 t) H = K2 p n  k m1 (t 1) (t 28) (t 29) (t 30) H := by
 induction m1 with
 | zero => intros; rfl
 | succ m1 ih =>
  intro t H
  refine Eq.trans (Bt (nt := 65) (m := m1) (g := fun t H => K2 p n  k m1 (t 1) (t 28) (t 29) (t 30) H) ih rfl) ?_
  refine Eq.trans (Yr p n  k m1 t H) ?_
  simp only [U1]
  kernel_rfl
theorem Yq (p : Pr β) (n : Nat)  (k : KO β) (m0 : Nat) (t : Nat → AV) (H : Ad) : Al Au p [] 65 n (cd Uq [1, 0, 1, 0, 0]) (tf 65 0 t) H (Eo (fun tm H => K1 p n  k m0 (gt tm 1) (gt tm 10) (gt tm 11) (gt tm 12) H) (E7 0 (Eo (fun tm H => Al Au p [] 65 n (cd Uq [1, 1]) tm H (Cu Au p fi110.results k)) (Cu Au p fi110.results k)))) =
 p.bin .lss (t 12) (t 11) fun t13 =>
 p.cond t13
 (p.iadr 2 (t 10) (t 12) fun t14 =>
 p.load true 2 t14 H fun t15 =>
 p.new [sE, i0] H fun t4 H =>
 p.store 2 t4 t15 H fun H =>
 p.fadr 0 t4 fun t16 =>
 p.load false 1 t16 H fun t17 =>
 p.call 4 (.fn 138 [] []) [t17] H fun t18 H =>
 p.un .not t18 fun t19 =>
 p.gF t19 H (p.fadr 1 t4) fun t21 H =>
 p.gF t19 H (p.load false 1 t21 H) fun t22 H =>
 p.hF t19 H (p.call 4 (.fn 107 [] []) [t22] H) fun t23 H =>
 p.gF t19 H (p.un .not t23) fun t24 H =>
 p.pick t19 bT t24 fun t25 =>
 p.cond t25
 (k bF H)
 (p.bin .add (t 12) (si 1) fun t26 =>
 K1 p n  k m0 (t 1) (t 10) (t 11) t26 H))
 (p.fadr 23 (t 1) fun t27 =>
 p.load false 1 t27 H fun t28 =>
 p.len t28 fun t29 =>
 Acc p n  k n (tf 65 0 (ud [(13, t13), (27, t27), (28, t28), (29, t29), (30, i0)] t)) H) := by kernel_rfl
theorem Abf (p : Pr β) (n : Nat)  (k : KO β) (m0 : Nat) : ∀ (t : Nat → AV) (H : Ad), Acb p n  k m0 (tf 65 0 t) H = K1 p n  k m0 (t 1) (t 10) (t 11) (t 12) H := by
 induction m0 with
 | zero => intros; rfl
 | succ m0 ih =>
  intro t H
  refine Eq.trans (Bt (nt := 65) (m := m0) (g := fun t H => K1 p n  k m0 (t 1) (t 10) (t 11) (t 12) H) ih rfl) ?_
  refine Eq.trans (Yq p n  k m0 t H) ?_
  simp only [U0]
  kernel_rfl
theorem Ae5 (p : Pr β) (n : Nat) (a0 : AV) (H : Ad) (k : KO β) : Cr Au p n fi110 [a0] H k =
 p.box a0 H fun t1 H =>
 p.fadr 22 t1 fun t9 =>
 p.load false 1 t9 H fun t10 =>
 p.len t10 fun t11 =>
 Acb p n  k n (tf 65 0 (ud [(0, a0), (1, t1), (2, bF), (9, t9), (10, t10), (11, t11), (12, i0)] ut)) H := by kernel_rfl
theorem AcZ : Om fi110 @f110 := fun p n a0 H k => by
 rw [Ae5]
 simp only [U1, U0, Abf]
 kernel_rfl
noncomputable def f70 (p : Pr β) (n : Nat) (a0 : AV) (H : Ad) (k : KO β) : Option β :=
 p.box a0 H fun t1 H =>
 p.fadr 0 t1 fun t3 =>
 p.load false 1 t3 H fun t4 =>
 p.call 4 (.fn 98 [] []) [t4, (si 1), (si 14)] H fun t5 H =>
 p.un .not t5 fun t6 =>
 p.gF t6 H (p.load true 25 t1 H) fun t9 H =>
 p.both
 (p.gF t6 H (p.load true 25 t1 H) fun t8 H =>
 p.hF t6 H (p.call 59 (.fn 105 [] []) [t9] H) fun t10 H =>
 p.hF t6 H (p.call 4 (.fn 104 [] []) [t8, t10] H) fun t11 H =>
 p.gF t6 H (p.un .not t11) fun t12 H =>
 p.pick t6 bT t12 fun t13 =>
 p.cond t13
 (k bF H)
 (p.fadr 0 t1 fun t14 =>
 p.load false 1 t14 H fun t15 =>
 p.bin .eql t15 (si 1) fun t17 =>
 p.cond t17
 (p.load true 25 t1 H fun t18 =>
 p.call 4 (.fn 106 [] []) [t18] H fun t19 H =>
 k t19 H)
 (p.bin .eql t15 (si 2) fun t21 =>
 p.cond t21
 (p.fadr 20 t1 fun t22 =>
 p.load false 1 t22 H fun t23 =>
 p.call 4 (.fn 98 [] []) [t23, i0, (si 5)] H fun t24 H =>
 p.gT t24 H (p.fadr 21 t1) fun t26 H =>
 p.gT t24 H (p.load false 1 t26 H) fun t27 H =>
 p.gT t24 H (p.un .not t27) fun t28 H =>
 p.kT t24 H t28 fun t29 H =>
 p.gF t29 H (p.fadr 20 t1) fun t30 H =>
 p.gF t29 H (p.load false 1 t30 H) fun t31 H =>
 p.gF t29 H (p.bin .eql t31 i0) fun t32 H =>
 p.gT t24 H (p.pick t29 bT t32) fun t33 H =>
 p.pick t24 t33 bF fun t34 =>
 k t34 H)
 (p.bin .eql t15 (si 3) fun t36 =>
 p.cond t36
 (p.fadr 2 t1 fun t37 =>
 p.load false 1 t37 H fun t38 =>
 p.call 4 (.fn 107 [] []) [t38] H fun t39 H =>
 p.gT t39 H (p.fadr 5 t1) fun t41 H =>
 p.gT t39 H (p.load false 1 t41 H) fun t42 H =>
 p.hT t39 H (p.call 4 (.fn 108 [] []) [t42] H) fun t43 H =>
 p.pick t39 t43 bF fun t44 =>
 p.gT t44 H (p.fadr 6 t1) fun t46 H =>
 p.gT t44 H (p.load false 1 t46 H) fun t47 H =>
 p.gT t44 H (p.len t47) fun t48 H =>
 p.gT t44 H (p.bin .leq t48 (si 40)) fun t49 H =>
 p.pick t44 t49 bF fun t50 =>
 p.gT t50 H (p.fadr 2 t1) fun t52 H =>
 p.gT t50 H (p.load false 1 t52 H) fun t53 H =>
 p.gT t50 H (p.bin .eql t53 i0) fun t54 H =>
 p.kT t50 H t54 fun t55 H =>
 p.gF t55 H (p.fadr 4 t1) fun t56 H =>
 p.gF t55 H (p.load false 1 t56 H) fun t57 H =>
 p.hF t55 H (p.call 4 (.fn 109 [] []) [t57] H) fun t58 H =>
 p.gT t50 H (p.pick t55 bT t58) fun t59 H =>
 p.pick t50 t59 bF fun t60 =>
 k t60 H)
 (p.bin .eql t15 (si 4) fun t62 =>
 E8 (fun (t1 t15 t61 : AV) (H : Ad) => p.cond t61
 (p.fadr 4 t1 fun t67 =>
 p.load false 1 t67 H fun t68 =>
 p.call 4 (.fn 109 [] []) [t68] H fun t69 H =>
 k t69 H)
 (p.bin .eql t15 (si 8) fun t71 =>
 E8 (fun (t1 t70 : AV) (H : Ad) => p.cond t70
 (p.fadr 4 t1 fun t74 =>
 p.load false 1 t74 H fun t75 =>
 p.call 4 (.fn 109 [] []) [t75] H fun t76 H =>
 p.gT t76 H (p.load true 25 t1 H) fun t78 H =>
 p.hT t76 H (p.call 4 (.fn 110 [] []) [t78] H) fun t79 H =>
 p.pick t76 t79 bF fun t80 =>
 k t80 H)
 (k bT H)) fun j2 =>
 p.cond t71
 (j2 t1 t71 H)
 (p.bin .eql t15 (si 9) fun t72 =>
 p.cond t72
 (j2 t1 t72 H)
 (p.bin .eql t15 (si 10) fun t73 =>
 j2 t1 t73 H)))) fun j1 =>
 p.cond t62
 (j1 t1 t15 t62 H)
 (p.bin .eql t15 (si 5) fun t63 =>
 p.cond t63
 (j1 t1 t15 t63 H)
 (p.bin .eql t15 (si 6) fun t64 =>
 p.cond t64
 (j1 t1 t15 t64 H)
 (p.bin .eql t15 (si 7) fun t65 =>
 p.cond t65
 (j1 t1 t15 t65 H)
 (p.bin .eql t15 (si 11) fun t66 =>
 j1 t1 t15 t66 H)))))))))
 (p.hF t6 H (p.call 59 (.fn 105 [] []) [t9] H) fun t10 H =>
 p.gF t6 H (p.load true 25 t1 H) fun t8 H =>
 p.hF t6 H (p.call 4 (.fn 104 [] []) [t8, t10] H) fun t11 H =>
 p.gF t6 H (p.un .not t11) fun t12 H =>
 p.pick t6 bT t12 fun t13 =>
 p.cond t13
 (k bF H)
 (p.fadr 0 t1 fun t14 =>
 p.load false 1 t14 H fun t15 =>
 p.bin .eql t15 (si 1) fun t17 =>
 p.cond t17
 (p.load true 25 t1 H fun t18 =>
 p.call 4 (.fn 106 [] []) [t18] H fun t19 H =>
 k t19 H)
 (p.bin .eql t15 (si 2) fun t21 =>
 p.cond t21
 (p.fadr 20 t1 fun t22 =>
 p.load false 1 t22 H fun t23 =>
 p.call 4 (.fn 98 [] []) [t23, i0, (si 5)] H fun t24 H =>
 p.gT t24 H (p.fadr 21 t1) fun t26 H =>
 p.gT t24 H (p.load false 1 t26 H) fun t27 H =>
 p.gT t24 H (p.un .not t27) fun t28 H =>
 p.kT t24 H t28 fun t29 H =>
 p.gF t29 H (p.fadr 20 t1) fun t30 H =>
 p.gF t29 H (p.load false 1 t30 H) fun t31 H =>
 p.gF t29 H (p.bin .eql t31 i0) fun t32 H =>
 p.gT t24 H (p.pick t29 bT t32) fun t33 H =>
 p.pick t24 t33 bF fun t34 =>
 k t34 H)
 (p.bin .eql t15 (si 3) fun t36 =>
 p.cond t36
 (p.fadr 2 t1 fun t37 =>
 p.load false 1 t37 H fun t38 =>
 p.call 4 (.fn 107 [] []) [t38] H fun t39 H =>
 p.gT t39 H (p.fadr 5 t1) fun t41 H =>
 p.gT t39 H (p.load false 1 t41 H) fun t42 H =>
 p.hT t39 H (p.call 4 (.fn 108 [] []) [t42] H) fun t43 H =>
 p.pick t39 t43 bF fun t44 =>
 p.gT t44 H (p.fadr 6 t1) fun t46 H =>
 p.gT t44 H (p.load false 1 t46 H) fun t47 H =>
 p.gT t44 H (p.len t47) fun t48 H =>
 p.gT t44 H (p.bin .leq t48 (si 40)) fun t49 H =>
 p.pick t44 t49 bF fun t50 =>
 p.gT t50 H (p.fadr 2 t1) fun t52 H =>
 p.gT t50 H (p.load false 1 t52 H) fun t53 H =>
 p.gT t50 H (p.bin .eql t53 i0) fun t54 H =>
 p.kT t50 H t54 fun t55 H =>
 p.gF t55 H (p.fadr 4 t1) fun t56 H =>
 p.gF t55 H (p.load false 1 t56 H) fun t57 H =>
 p.hF t55 H (p.call 4 (.fn 109 [] []) [t57] H) fun t58 H =>
 p.gT t50 H (p.pick t55 bT t58) fun t59 H =>
 p.pick t50 t59 bF fun t60 =>
 k t60 H)
 (p.bin .eql t15 (si 4) fun t62 =>
 E8 (fun (t1 t15 t61 : AV) (H : Ad) => p.cond t61
 (p.fadr 4 t1 fun t67 =>
 p.load false 1 t67 H fun t68 =>
 p.call 4 (.fn 109 [] []) [t68] H fun t69 H =>
 k t69 H)
 (p.bin .eql t15 (si 8) fun t71 =>
 E8 (fun (t1 t70 : AV) (H : Ad) => p.cond t70
 (p.fadr 4 t1 fun t74 =>
 p.load false 1 t74 H fun t75 =>
 p.call 4 (.fn 109 [] []) [t75] H fun t76 H =>
 p.gT t76 H (p.load true 25 t1 H) fun t78 H =>
 p.hT t76 H (p.call 4 (.fn 110 [] []) [t78] H) fun t79 H =>
 p.pick t76 t79 bF fun t80 =>
 k t80 H)
 (k bT H)) fun j4 =>
 p.cond t71
 (j4 t1 t71 H)
 (p.bin .eql t15 (si 9) fun t72 =>
 p.cond t72
 (j4 t1 t72 H)
 (p.bin .eql t15 (si 10) fun t73 =>
 j4 t1 t73 H)))) fun j3 =>
 p.cond t62
 (j3 t1 t15 t62 H)
 (p.bin .eql t15 (si 5) fun t63 =>
 p.cond t63
 (j3 t1 t15 t63 H)
 (p.bin .eql t15 (si 6) fun t64 =>
 p.cond t64
 (j3 t1 t15 t64 H)
 (p.bin .eql t15 (si 7) fun t65 =>
 p.cond t65
 (j3 t1 t15 t65 H)
 (p.bin .eql t15 (si 11) fun t66 =>
 j3 t1 t15 t66 H)))))))))
theorem Afw : Om Al4 @f70 := fun p n a0 H k => by kernel_rfl
noncomputable def f140 (p : Pr β) (n : Nat) (a0 a1 : AV) (H : Ad) (k : KO β) : Option β :=
 p.cond a0
 (k a1 H)
 (k i0 H)
theorem Ads : Ll Aj3 @f140 := fun p n a0 a1 H k => by kernel_rfl
noncomputable def f142 (p : Pr β) (n : Nat) (a0 a1 : AV) (H : Ad) (k : KO β) : Option β :=
 p.bin .shr a1 (.sc (.int .u64 8)) fun t7 =>
 p.bin .and t7 (si 255) fun t8 =>
 p.cvI .u8 t8 fun t9 =>
 p.bin .and a1 (si 255) fun t11 =>
 p.cvI .u8 t11 fun t12 =>
 p.fill [(su 0), (su 0)] [(0, 1, t9), (1, 1, t12)] fun ct13 => p.newSl 2 1 ct13 true H fun t13 H =>
 p.fill [.nl, .nl] [(0, 1, a0), (1, 1, t13)] fun ct14 => p.newSl 2 1 ct14 true H fun t14 H =>
 p.call 22 (.fn 77 [] []) [t14] H fun t15 H =>
 k t15 H
theorem Adu : Ll Aj5 @f142 := fun p n a0 a1 H k => by kernel_rfl
noncomputable def f141 (p : Pr β) (n : Nat) (a0 a1 : AV) (H : Ad) (k : KO β) : Option β :=
 p.call 4 (.fn 135 [] []) [a1] H fun t6 H =>
 p.un .not t6 fun t7 =>
 p.cond t7
 (p.fill [.nl] [(0, 1, a0)] fun ct9 => p.newSl 1 1 ct9 true H fun t9 H =>
 p.call 22 (.fn 77 [] []) [t9] H fun t10 H =>
 k t10 H)
 (p.lenS a1 fun t13 =>
 p.call 22 (.fn 142 [] []) [a0, t13] H fun t14 H =>
 p.cvSB a1 H fun t16 H =>
 p.fill [.nl, .nl] [(0, 1, t14), (1, 1, t16)] fun ct17 => p.newSl 2 1 ct17 true H fun t17 H =>
 p.call 22 (.fn 77 [] []) [t17] H fun t18 H =>
 k t18 H)
theorem Adt : Ll Aj4 @f141 := fun p n a0 a1 H k => by kernel_rfl
noncomputable def f151 (p : Pr β) (n : Nat) (a0 a1 : AV) (H : Ad) (k : KO β) : Option β :=
 p.len a1 fun t6 =>
 p.bin .gtr t6 (si 60) fun t7 =>
 p.cond t7
 (p.fill [.nl] [(0, 1, a0)] fun ct9 => p.newSl 1 1 ct9 true H fun t9 H =>
 p.call 22 (.fn 77 [] []) [t9] H fun t10 H =>
 k t10 H)
 (p.len a1 fun t13 =>
 p.call 22 (.fn 142 [] []) [a0, t13] H fun t14 H =>
 p.fill [.nl, .nl] [(0, 1, t14), (1, 1, a1)] fun ct16 => p.newSl 2 1 ct16 true H fun t16 H =>
 p.call 22 (.fn 77 [] []) [t16] H fun t17 H =>
 k t17 H)
theorem Ady : Ll Aj8 @f151 := fun p n a0 a1 H k => by kernel_rfl
noncomputable def f139 (p : Pr β) (n : Nat) (a0 : AV) (H : Ad) (k : KO β) : Option β :=
 p.box a0 H fun t1 H =>
 p.fadr 9 t1 fun t5 =>
 p.load false 1 t5 H fun t6 =>
 p.fadr 11 t1 fun t8 =>
 p.load false 1 t8 H fun t9 =>
 p.fadr 14 t1 fun t12 =>
 p.load false 1 t12 H fun t13 =>
 p.bin .mul (si 8) t13 fun t14 =>
 p.fadr 15 t1 fun t16 =>
 p.load false 1 t16 H fun t17 =>
 p.fadr 18 t1 fun t20 =>
 p.load false 1 t20 H fun t21 =>
 p.fadr 16 t1 fun t24 =>
 p.load false 1 t24 H fun t25 =>
 p.call 3 (.fn 140 [] []) [t6, (si 2)] H fun t7 H =>
 p.call 3 (.fn 140 [] []) [t9, (si 4)] H fun t10 H =>
 p.bin .add t7 t10 fun t11 =>
 p.bin .add t11 t14 fun t15 =>
 p.call 3 (.fn 140 [] []) [t17, (si 32)] H fun t18 H =>
 p.bin .add t15 t18 fun t19 =>
 p.call 3 (.fn 140 [] []) [t21, (si 64)] H fun t22 H =>
 p.bin .add t19 t22 fun t23 =>
 p.call 3 (.fn 140 [] []) [t25, (si 128)] H fun t26 H =>
 p.bin .add t23 t26 fun t27 =>
 p.fadr 8 t1 fun t29 =>
 p.load false 1 t29 H fun t30 =>
 p.cvI .u8 t30 fun t31 =>
 p.cvI .u8 t27 fun t33 =>
 E8 (fun (t1 t4 : AV) (H : Ad) => p.fadr 10 t1 fun t37 =>
 p.load false 1 t37 H fun t38 =>
 p.fadr 7 t1 fun t40 =>
 p.load false 1 t40 H fun t41 =>
 p.call 22 (.fn 142 [] []) [t4, t38] H fun t39 H =>
 p.call 22 (.fn 141 [] []) [t39, t41] H fun t42 H =>
 p.fadr 11 t1 fun t43 =>
 p.load false 1 t43 H fun t44 =>
 E8 (fun (t1 t4 : AV) (H : Ad) => p.fadr 16 t1 fun t52 =>
 p.load false 1 t52 H fun t53 =>
 E8 (fun (t1 t4 : AV) (H : Ad) => p.fadr 18 t1 fun t58 =>
 p.load false 1 t58 H fun t59 =>
 E8 (fun (t4 : AV) (H : Ad) => k t4 H) fun j4 =>
 p.cond t59
 (p.fadr 19 t1 fun t61 =>
 p.load false 1 t61 H fun t62 =>
 p.call 22 (.fn 151 [] []) [t4, t62] H fun t63 H =>
 j4 t63 H)
 (j4 t4 H)) fun j3 =>
 p.cond t53
 (p.fadr 17 t1 fun t55 =>
 p.load false 1 t55 H fun t56 =>
 p.call 22 (.fn 141 [] []) [t4, t56] H fun t57 H =>
 j3 t1 t57 H)
 (j3 t1 t4 H)) fun j2 =>
 p.cond t44
 (p.fadr 12 t1 fun t46 =>
 p.load false 1 t46 H fun t47 =>
 p.fadr 13 t1 fun t49 =>
 p.load false 1 t49 H fun t50 =>
 p.call 22 (.fn 141 [] []) [t42, t47] H fun t48 H =>
 p.call 22 (.fn 151 [] []) [t48, t50] H fun t51 H =>
 j2 t1 t51 H)
 (j2 t1 t42 H)) fun j1 =>
 p.both
 (p.call 22 (.fn 141 [] []) [.nl, (.sc (.string ⟨#[77, 81, 84, 84]⟩))] H fun t28 H =>
 p.fill [(su 0), (su 0)] [(0, 1, t31), (1, 1, t33)] fun ct34 => p.newSl 2 1 ct34 true H fun t34 H =>
 p.app 1 1 t28 t34 H fun t35 H =>
 j1 t1 t35 H)
 (p.fill [(su 0), (su 0)] [(0, 1, t31), (1, 1, t33)] fun ct34 => p.newSl 2 1 ct34 true H fun t34 H =>
 p.call 22 (.fn 141 [] []) [.nl, (.sc (.string ⟨#[77, 81, 84, 84]⟩))] H fun t28 H =>
 p.app 1 1 t28 t34 H fun t35 H =>
 j1 t1 t35 H)
theorem Adr : Om Aj2 @f139 := fun p n a0 H k => by kernel_rfl
noncomputable def Nq (p : Pr β) (n : Nat)  (k : KO β) : Nat → AV → AV → AV → KO β
 | 0, _, _, _, _, _ => none
 | m + 1, t3, t85, t86, t87, H => p.bin .lss t87 t86 fun t88 =>
   p.cond t88
   (p.iadr 1 t85 t87 fun t89 =>
   p.load false 1 t89 H fun t90 =>
   p.call 22 (.fn 141 [] []) [t3, t90] H fun t93 H =>
   p.bin .add t87 (si 1) fun t94 =>
   Nq p n  k m t93 t85 t86 t94 H)
   (k t3 H)
noncomputable def K4 (p : Pr β) (n : Nat)  (k : KO β) : Nat → AV → AV → AV → AV → KO β
 | 0, _, _, _, _, _, _ => none
 | m + 1, t1, t3, t72, t73, t74, H => p.bin .lss t74 t73 fun t75 =>
   p.cond t75
   (p.iadr 1 t72 t74 fun t76 =>
   p.load false 1 t76 H fun t77 =>
   p.cvI .u8 t77 fun t80 =>
   p.fill [(su 0)] [(0, 1, t80)] fun ct81 => p.newSl 1 1 ct81 true H fun t81 H =>
   p.app 1 1 t3 t81 H fun t82 H =>
   p.bin .add t74 (si 1) fun t83 =>
   K4 p n  k m t1 t82 t72 t73 t83 H)
   (p.fadr 23 t1 fun t84 =>
   p.load false 1 t84 H fun t85 =>
   p.len t85 fun t86 =>
   Nq p n  k n t3 t85 t86 i0 H)
noncomputable def K3 (p : Pr β) (n : Nat)  (k : KO β) : Nat → AV → AV → AV → AV → KO β
 | 0, _, _, _, _, _, _ => none
 | m + 1, t1, t3, t55, t56, t57, H => p.bin .lss t57 t56 fun t58 =>
   p.cond t58
   (p.iadr 2 t55 t57 fun t59 =>
   p.load true 2 t59 H fun t60 =>
   p.new [sE, i0] H fun t5 H =>
   p.store 2 t5 t60 H fun H =>
   p.fadr 0 t5 fun t62 =>
   p.load false 1 t62 H fun t63 =>
   p.fadr 1 t5 fun t65 =>
   p.load false 1 t65 H fun t66 =>
   p.cvI .u8 t66 fun t67 =>
   E8 (fun (t1 t3 t55 t56 t57 : AV) (H : Ad) => p.bin .add t57 (si 1) fun t70 =>
   K3 p n  k m t1 t3 t55 t56 t70 H) fun j1 =>
   p.both
   (p.call 22 (.fn 141 [] []) [t3, t63] H fun t64 H =>
   p.fill [(su 0)] [(0, 1, t67)] fun ct68 => p.newSl 1 1 ct68 true H fun t68 H =>
   p.app 1 1 t64 t68 H fun t69 H =>
   j1 t1 t69 t55 t56 t57 H)
   (p.fill [(su 0)] [(0, 1, t67)] fun ct68 => p.newSl 1 1 ct68 true H fun t68 H =>
   p.call 22 (.fn 141 [] []) [t3, t63] H fun t64 H =>
   p.app 1 1 t64 t68 H fun t69 H =>
   j1 t1 t69 t55 t56 t57 H))
   (p.fadr 24 t1 fun t71 =>
   p.load false 1 t71 H fun t72 =>
   p.len t72 fun t73 =>
   K4 p n  k n t1 t3 t72 t73 i0 H)
noncomputable def f111 (p : Pr β) (n : Nat) (a0 : AV) (H : Ad) (k : KO β) : Option β :=
 p.box a0 H fun t1 H =>
 p.fadr 0 t1 fun t11 =>
 p.load false 1 t11 H fun t12 =>
 p.bin .eql t12 (si 1) fun t14 =>
 E8 (fun (t1 t3 : AV) (H : Ad) => p.fadr 4 t1 fun t51 =>
 p.load false 1 t51 H fun t52 =>
 p.call 22 (.fn 142 [] []) [t3, t52] H fun t53 H =>
 p.fadr 22 t1 fun t54 =>
 p.load false 1 t54 H fun t55 =>
 p.len t55 fun t56 =>
 K3 p n  k n t1 t53 t55 t56 i0 H) fun j1 =>
 p.cond t14
 (p.load true 25 t1 H fun t15 =>
 p.call 22 (.fn 139 [] []) [t15] H fun t16 H =>
 k t16 H)
 (p.bin .eql t12 (si 2) fun t18 =>
 p.cond t18
 (p.fadr 21 t1 fun t19 =>
 p.load false 1 t19 H fun t20 =>
 p.fadr 20 t1 fun t23 =>
 p.load false 1 t23 H fun t24 =>
 p.cvI .u8 t24 fun t25 =>
 p.call 3 (.fn 140 [] []) [t20, (si 1)] H fun t21 H =>
 p.cvI .u8 t21 fun t22 =>
 p.fill [(su 0), (su 0)] [(0, 1, t22), (1, 1, t25)] fun ct26 => p.newSl 2 1 ct26 true H fun t26 H =>
 k t26 H)
 (p.bin .eql t12 (si 3) fun t28 =>
 p.cond t28
 (p.fadr 5 t1 fun t30 =>
 p.load false 1 t30 H fun t31 =>
 p.call 22 (.fn 141 [] []) [.nl, t31] H fun t32 H =>
 p.fadr 2 t1 fun t33 =>
 p.load false 1 t33 H fun t34 =>
 p.bin .gtr t34 i0 fun t35 =>
 E8 (fun (t1 t3 : AV) (H : Ad) => p.fadr 6 t1 fun t41 =>
 p.load false 1 t41 H fun t42 =>
 p.fill [.nl, .nl] [(0, 1, t3), (1, 1, t42)] fun ct43 => p.newSl 2 1 ct43 true H fun t43 H =>
 p.call 22 (.fn 77 [] []) [t43] H fun t44 H =>
 k t44 H) fun j2 =>
 p.cond t35
 (p.fadr 4 t1 fun t37 =>
 p.load false 1 t37 H fun t38 =>
 p.call 22 (.fn 142 [] []) [t32, t38] H fun t39 H =>
 j2 t1 t39 H)
 (j2 t1 t32 H))
 (p.bin .eql t12 (si 12) fun t46 =>
 E8 (fun (t1 t3 t45 : AV) (H : Ad) => p.cond t45
 (k t3 H)
 (j1 t1 t3 H)) fun j3 =>
 p.cond t46
 (j3 t1 .nl t46 H)
 (p.bin .eql t12 (si 13) fun t47 =>
 p.cond t47
 (j3 t1 .nl t47 H)
 (p.bin .eql t12 (si 14) fun t48 =>
 j3 t1 .nl t48 H)))))
noncomputable def Acg (p : Pr β) (n : Nat)  (k : KO β) (m : Nat) (tm : Tm) (H : Ad) : Option β :=
 D0 96 (fun tm H k => Al Au p V3 96 n (cd Ur [1, 1, 1, 1, 1, 1, 0, 1, 0, 0]) tm H k) (E7 5 (Eo (fun tm H => Al Au p V3 96 n (cd Ur [1, 1, 1, 1, 1, 1, 1]) tm H (Cu Au p fi111.results k)) (Cu Au p fi111.results k))) m tm H
noncomputable def Acf (p : Pr β) (n : Nat)  (k : KO β) (m : Nat) (tm : Tm) (H : Ad) : Option β :=
 D0 96 (fun tm H k => Al Au p V3 96 n (cd Ur [1, 1, 1, 1, 1, 0, 1, 0, 0]) tm H k) (E7 3 (Eo (fun tm H => Al Au p V3 96 n (cd Ur [1, 1, 1, 1, 1, 1]) tm H (Cu Au p fi111.results k)) (Cu Au p fi111.results k))) m tm H
noncomputable def Ace (p : Pr β) (n : Nat)  (k : KO β) (m : Nat) (tm : Tm) (H : Ad) : Option β :=
 D0 96 (fun tm H k => Al Au p V3 96 n (cd Ur [1, 1, 1, 1, 0, 1, 0, 0]) tm H k) (E7 1 (Eo (fun tm H => Al Au p V3 96 n (cd Ur [1, 1, 1, 1, 1]) tm H (Cu Au p fi111.results k)) (Cu Au p fi111.results k))) m tm H
theorem U3 (p : Pr β) (n : Nat)  (k : KO β) (m2 : Nat) : ∀ (t : Nat → AV) (H : Ad), Acg p n  k m2 (tf 96 0 t) H = Nq p n  k m2 (t 3) (t 85) (t 86) (t 87) H := by
 induction m2 with
 | zero => intros; rfl
 | succ m2 ih =>
  intro t H
  refine Eq.trans (Bt (nt := 96) (m := m2) (g := fun t H => Nq p n  k m2 (t 3) (t 85) (t 86) (t 87) H) ih rfl) ?_
  kernel_rfl
theorem Yt (p : Pr β) (n : Nat)  (k : KO β) (m1 : Nat) (t : Nat → AV) (H : Ad) : Al Au p V3 96 n (cd Ur [1, 1, 1, 1, 1, 0, 1, 0, 0]) (tf 96 0 t) H (Eo (fun tm H => K4 p n  k m1 (gt tm 1) (gt tm 3) (gt tm 72) (gt tm 73) (gt tm 74) H) (E7 3 (Eo (fun tm H => Al Au p V3 96 n (cd Ur [1, 1, 1, 1, 1, 1]) tm H (Cu Au p fi111.results k)) (Cu Au p fi111.results k)))) =
 p.bin .lss (t 74) (t 73) fun t75 =>
 p.cond t75
 (p.iadr 1 (t 72) (t 74) fun t76 =>
 p.load false 1 t76 H fun t77 =>
 p.cvI .u8 t77 fun t80 =>
 p.fill [(su 0)] [(0, 1, t80)] fun ct81 => p.newSl 1 1 ct81 true H fun t81 H =>
 p.app 1 1 (t 3) t81 H fun t82 H =>
 p.bin .add (t 74) (si 1) fun t83 =>
 K4 p n  k m1 (t 1) t82 (t 72) (t 73) t83 H)
 (p.fadr 23 (t 1) fun t84 =>
 p.load false 1 t84 H fun t85 =>
 p.len t85 fun t86 =>
 Acg p n  k n (tf 96 0 (ud [(75, t75), (84, t84), (85, t85), (86, t86), (87, i0)] t)) H) := by kernel_rfl
theorem U2 (p : Pr β) (n : Nat)  (k : KO β) (m1 : Nat) : ∀ (t : Nat → AV) (H : Ad), Acf p n  k m1 (tf 96 0 t) H = K4 p n  k m1 (t 1) (t 3) (t 72) (t 73) (t 74) H := by
 induction m1 with
 | zero => intros; rfl
 | succ m1 ih =>
  intro t H
  refine Eq.trans (Bt (nt := 96) (m := m1) (g := fun t H => K4 p n  k m1 (t 1) (t 3) (t 72) (t 73) (t 74) H) ih rfl) ?_
  refine Eq.trans (Yt p n  k m1 t H) ?_
  simp only [U3]
  kernel_rfl
theorem Ys (p : Pr β) (n : Nat)  (k : KO β) (m0 : Nat) (t : Nat → AV) (H : Ad) : Al Au p V3 96 n (cd Ur [1, 1, 1, 1, 0, 1, 0, 0]) (tf 96 0 t) H (Eo (fun tm H => K3 p n  k m0 (gt tm 1) (gt tm 3) (gt tm 55) (gt tm 56) (gt tm 57) H) (E7 1 (Eo (fun tm H => Al Au p V3 96 n (cd Ur [1, 1, 1, 1, 1]) tm H (Cu Au p fi111.results k)) (Cu Au p fi111.results k)))) =
 p.bin .lss (t 57) (t 56) fun t58 =>
 p.cond t58
 (p.iadr 2 (t 55) (t 57) fun t59 =>
 p.load true 2 t59 H fun t60 =>
 p.new [sE, i0] H fun t5 H =>
 p.store 2 t5 t60 H fun H =>
 p.fadr 0 t5 fun t62 =>
 p.load false 1 t62 H fun t63 =>
 p.fadr 1 t5 fun t65 =>
 p.load false 1 t65 H fun t66 =>
 p.cvI .u8 t66 fun t67 =>
 E8 (fun (t : Nat → AV) (H : Ad) => p.bin .add (t 57) (si 1) fun t70 =>
 K3 p n  k m0 (t 1) (t 3) (t 55) (t 56) t70 H) fun j1 =>
 p.both
 (p.call 22 (.fn 141 [] []) [(t 3), t63] H fun t64 H =>
 p.fill [(su 0)] [(0, 1, t67)] fun ct68 => p.newSl 1 1 ct68 true H fun t68 H =>
 p.app 1 1 t64 t68 H fun t69 H =>
 j1 (ud [(3, t69), (5, t5), (58, t58), (59, t59), (60, t60), (61, (t 3)), (62, t62), (63, t63), (64, t64), (65, t65), (66, t66), (67, t67), (68, t68), (69, t69)] t) H)
 (p.fill [(su 0)] [(0, 1, t67)] fun ct68 => p.newSl 1 1 ct68 true H fun t68 H =>
 p.call 22 (.fn 141 [] []) [(t 3), t63] H fun t64 H =>
 p.app 1 1 t64 t68 H fun t69 H =>
 j1 (ud [(3, t69), (5, t5), (58, t58), (59, t59), (60, t60), (61, (t 3)), (62, t62), (63, t63), (64, t64), (65, t65), (66, t66), (67, t67), (68, t68), (69, t69)] t) H))
 (p.fadr 24 (t 1) fun t71 =>
 p.load false 1 t71 H fun t72 =>
 p.len t72 fun t73 =>
 Acf p n  k n (tf 96 0 (ud [(58, t58), (71, t71), (72, t72), (73, t73), (74, i0)] t)) H) := by kernel_rfl
theorem Abg (p : Pr β) (n : Nat)  (k : KO β) (m0 : Nat) : ∀ (t : Nat → AV) (H : Ad), Ace p n  k m0 (tf 96 0 t) H = K3 p n  k m0 (t 1) (t 3) (t 55) (t 56) (t 57) H := by
 induction m0 with
 | zero => intros; rfl
 | succ m0 ih =>
  intro t H
  refine Eq.trans (Bt (nt := 96) (m := m0) (g := fun t H => K3 p n  k m0 (t 1) (t 3) (t 55) (t 56) (t 57) H) ih rfl) ?_
  refine Eq.trans (Ys p n  k m0 t H) ?_
  simp only [U2]
  kernel_rfl
theorem Ae6 (p : Pr β) (n : Nat) (a0 : AV) (H : Ad) (k : KO β) : Cr Au p n fi111 [a0] H k =
 p.box a0 H fun t1 H =>
 p.fadr 0 t1 fun t11 =>
 p.load false 1 t11 H fun t12 =>
 p.bin .eql t12 (si 1) fun t14 =>
 E8 (fun (t : Nat → AV) (H : Ad) => p.fadr 4 (t 1) fun t51 =>
 p.load false 1 t51 H fun t52 =>
 p.call 22 (.fn 142 [] []) [(t 3), t52] H fun t53 H =>
 p.fadr 22 (t 1) fun t54 =>
 p.load false 1 t54 H fun t55 =>
 p.len t55 fun t56 =>
 Ace p n  k n (tf 96 0 (ud [(3, t53), (50, (t 3)), (51, t51), (52, t52), (53, t53), (54, t54), (55, t55), (56, t56), (57, i0)] t)) H) fun j1 =>
 p.cond t14
 (p.load true 25 t1 H fun t15 =>
 p.call 22 (.fn 139 [] []) [t15] H fun t16 H =>
 k t16 H)
 (p.bin .eql t12 (si 2) fun t18 =>
 p.cond t18
 (p.fadr 21 t1 fun t19 =>
 p.load false 1 t19 H fun t20 =>
 p.fadr 20 t1 fun t23 =>
 p.load false 1 t23 H fun t24 =>
 p.cvI .u8 t24 fun t25 =>
 p.call 3 (.fn 140 [] []) [t20, (si 1)] H fun t21 H =>
 p.cvI .u8 t21 fun t22 =>
 p.fill [(su 0), (su 0)] [(0, 1, t22), (1, 1, t25)] fun ct26 => p.newSl 2 1 ct26 true H fun t26 H =>
 k t26 H)
 (p.bin .eql t12 (si 3) fun t28 =>
 p.cond t28
 (p.fadr 5 t1 fun t30 =>
 p.load false 1 t30 H fun t31 =>
 p.call 22 (.fn 141 [] []) [.nl, t31] H fun t32 H =>
 p.fadr 2 t1 fun t33 =>
 p.load false 1 t33 H fun t34 =>
 p.bin .gtr t34 i0 fun t35 =>
 E8 (fun (t : Nat → AV) (H : Ad) => p.fadr 6 (t 1) fun t41 =>
 p.load false 1 t41 H fun t42 =>
 p.fill [.nl, .nl] [(0, 1, (t 3)), (1, 1, t42)] fun ct43 => p.newSl 2 1 ct43 true H fun t43 H =>
 p.call 22 (.fn 77 [] []) [t43] H fun t44 H =>
 k t44 H) fun j2 =>
 p.cond t35
 (p.fadr 4 t1 fun t37 =>
 p.load false 1 t37 H fun t38 =>
 p.call 22 (.fn 142 [] []) [t32, t38] H fun t39 H =>
 j2 (ud [(0, a0), (1, t1), (2, .nl), (3, t39), (10, .nl), (11, t11), (12, t12), (13, t14), (14, t14), (17, t18), (18, t18), (27, t28), (28, t28), (29, .nl), (30, t30), (31, t31), (32, t32), (33, t33), (34, t34), (35, t35), (36, t32), (37, t37), (38, t38), (39, t39)] ut) H)
 (j2 (ud [(0, a0), (1, t1), (2, .nl), (3, t32), (10, .nl), (11, t11), (12, t12), (13, t14), (14, t14), (17, t18), (18, t18), (27, t28), (28, t28), (29, .nl), (30, t30), (31, t31), (32, t32), (33, t33), (34, t34), (35, t35)] ut) H))
 (p.bin .eql t12 (si 12) fun t46 =>
 E8 (fun (t : Nat → AV) (H : Ad) => p.cond (t 45)
 (k (t 3) H)
 (j1 t H)) fun j3 =>
 p.cond t46
 (j3 (ud [(0, a0), (1, t1), (2, .nl), (3, .nl), (10, .nl), (11, t11), (12, t12), (13, t14), (14, t14), (17, t18), (18, t18), (27, t28), (28, t28), (45, t46), (46, t46)] ut) H)
 (p.bin .eql t12 (si 13) fun t47 =>
 p.cond t47
 (j3 (ud [(0, a0), (1, t1), (2, .nl), (3, .nl), (10, .nl), (11, t11), (12, t12), (13, t14), (14, t14), (17, t18), (18, t18), (27, t28), (28, t28), (45, t47), (46, t46), (47, t47)] ut) H)
 (p.bin .eql t12 (si 14) fun t48 =>
 j3 (ud [(0, a0), (1, t1), (2, .nl), (3, .nl), (10, .nl), (11, t11), (12, t12), (13, t14), (14, t14), (17, t18), (18, t18), (27, t28), (28, t28), (45, t48), (46, t46), (47, t47), (48, t48)] ut) H))))) := by kernel_rfl
theorem Ada : Om fi111 @f111 := fun p n a0 H k => by
 rw [Ae6]
 simp only [U3, U2, Abg]
 kernel_rfl
noncomputable def f113 (p : Pr β) (n : Nat) (a0 : AV) (H : Ad) (k : KO β) : Option β :=
 p.box a0 H fun t1 H =>
 p.fadr 0 t1 fun t4 =>
 p.load false 1 t4 H fun t5 =>
 p.bin .mul (si 16) t5 fun t6 =>
 p.fadr 0 t1 fun t7 =>
 p.load false 1 t7 H fun t8 =>
 p.bin .eql t8 (si 3) fun t10 =>
 p.cond t10
 (p.fadr 1 t1 fun t12 =>
 p.load false 1 t12 H fun t13 =>
 p.fadr 2 t1 fun t15 =>
 p.load false 1 t15 H fun t16 =>
 p.bin .mul (si 2) t16 fun t17 =>
 p.fadr 3 t1 fun t19 =>
 p.load false 1 t19 H fun t20 =>
 p.call 3 (.fn 140 [] []) [t13, (si 8)] H fun t14 H =>
 p.bin .add t14 t17 fun t18 =>
 p.call 3 (.fn 140 [] []) [t20, (si 1)] H fun t21 H =>
 p.bin .add t18 t21 fun t22 =>
 p.bin .add t6 t22 fun t23 =>
 k t23 H)
 (p.bin .eql t8 (si 6) fun t25 =>
 E8 (fun (t3 t24 : AV) (H : Ad) => p.cond t24
 (p.bin .add t3 (si 2) fun t29 =>
 k t29 H)
 (k t3 H)) fun j1 =>
 p.cond t25
 (j1 t6 t25 H)
 (p.bin .eql t8 (si 8) fun t26 =>
 p.cond t26
 (j1 t6 t26 H)
 (p.bin .eql t8 (si 10) fun t27 =>
 j1 t6 t27 H)))
theorem Adc : Om Aju @f113 := fun p n a0 H k => by kernel_rfl
noncomputable def Mh (p : Pr β) (n : Nat)  (k : KO β) : Nat → AV → KO β
 | 0, _, _, _ => none
 | m + 1, t1, t5, H => p.bin .gtr t1 (si 127) fun t14 =>
   p.cond t14
   (p.bin .rem t1 (si 128) fun t17 =>
   p.bin .add t17 (si 128) fun t18 =>
   p.cvI .u8 t18 fun t19 =>
   p.fill [(su 0)] [(0, 1, t19)] fun ct20 => p.newSl 1 1 ct20 true H fun t20 H =>
   p.app 1 1 t5 t20 H fun t21 H =>
   p.bin .quo t1 (si 128) fun t23 =>
   Mh p n  k m t23 t21 H)
   (p.cvI .u8 t1 fun t26 =>
   p.fill [(su 0)] [(0, 1, t26)] fun ct27 => p.newSl 1 1 ct27 true H fun t27 H =>
   p.app 1 1 t5 t27 H fun t28 H =>
   k t28 H)
noncomputable def f112 (p : Pr β) (n : Nat) (a0 a1 : AV) (H : Ad) (k : KO β) : Option β :=
 p.fill [.nl] [(0, 1, a0)] fun ct7 => p.newSl 1 1 ct7 true H fun t7 H =>
 p.call 22 (.fn 77 [] []) [t7] H fun t8 H =>
 p.call 4 (.fn 98 [] []) [a1, i0, (si 268435455)] H fun t10 H =>
 p.un .not t10 fun t11 =>
 p.cond t11
 (k t8 H)
 (Mh p n  k n a1 t8 H)
noncomputable def Ach (p : Pr β) (n : Nat)  (k : KO β) (m : Nat) (tm : Tm) (H : Ad) : Option β :=
 D0 29 (fun tm H k => Al Au p [] 29 n (cd AjO [1, 1, 1, 0, 0, 0]) tm H k) (E7 0 (Eo (fun tm H => Al Au p [] 29 n (cd AjO [1, 1, 1, 1]) tm H (Cu Au p fi112.results k)) (Cu Au p fi112.results k))) m tm H
theorem Abh (p : Pr β) (n : Nat)  (k : KO β) (m0 : Nat) : ∀ (t : Nat → AV) (H : Ad), Ach p n  k m0 (tf 29 0 t) H = Mh p n  k m0 (t 1) (t 5) H := by
 induction m0 with
 | zero => intros; rfl
 | succ m0 ih =>
  intro t H
  refine Eq.trans (Bt (nt := 29) (m := m0) (g := fun t H => Mh p n  k m0 (t 1) (t 5) H) ih rfl) ?_
  kernel_rfl
theorem Ae7 (p : Pr β) (n : Nat) (a0 a1 : AV) (H : Ad) (k : KO β) : Cr Au p n fi112 [a0, a1] H k =
 p.fill [.nl] [(0, 1, a0)] fun ct7 => p.newSl 1 1 ct7 true H fun t7 H =>
 p.call 22 (.fn 77 [] []) [t7] H fun t8 H =>
 p.call 4 (.fn 98 [] []) [a1, i0, (si 268435455)] H fun t10 H =>
 p.un .not t10 fun t11 =>
 p.cond t11
 (k t8 H)
 (Ach p n  k n (tf 29 0 (ud [(0, a0), (1, a1), (4, .nl), (5, t8), (6, a0), (7, t7), (8, t8), (9, a1), (10, t10), (11, t11)] ut)) H) := by kernel_rfl
theorem Adb : Ll fi112 @f112 := fun p n a0 a1 H k => by
 rw [Ae7]
 simp only [Abh]
 kernel_rfl
noncomputable def f72 (p : Pr β) (n : Nat) (a0 : AV) (H : Ad) (k : KO β) : Option β :=
 p.box a0 H fun t1 H =>
 p.load true 25 t1 H fun t4 =>
 p.call 4 (.fn 70 [] []) [t4] H fun t5 H =>
 p.un .not t5 fun t6 =>
 p.cond t6
 (k .nl H)
 (p.load true 25 t1 H fun t7 =>
 p.call 22 (.fn 111 [] []) [t7] H fun t8 H =>
 p.load true 25 t1 H fun t9 =>
 p.call 3 (.fn 113 [] []) [t9] H fun t10 H =>
 p.cvI .u8 t10 fun t11 =>
 p.fill [(su 0)] [(0, 1, t11)] fun ct12 => p.newSl 1 1 ct12 true H fun t12 H =>
 p.len t8 fun t14 =>
 p.call 22 (.fn 112 [] []) [t12, t14] H fun t15 H =>
 p.fill [.nl, .nl] [(0, 1, t15), (1, 1, t8)] fun ct17 => p.newSl 2 1 ct17 true H fun t17 H =>
 p.call 22 (.fn 77 [] []) [t17] H fun t18 H =>
 k t18 H)
theorem Afy : Om Al6 @f72 := fun p n a0 H k => by kernel_rfl
noncomputable def f33 (p : Pr β) (n : Nat) (a0 : AV) (H : Ad) (k : KO β) : Option β :=
 p.new E2 H fun t2 H =>
 p.len a0 fun t10 =>
 p.bin .eql t10 i0 fun t11 =>
 p.cond t11
 (p.fill E2 [] fun ct12 =>
 p.store 25 t2 (.agg ct12) H fun H =>
 p.load true 25 t2 H fun r0 =>
 k (Dn [r0, i0, (si 1)]) H)
 (p.iadr 1 a0 i0 fun t14 =>
 p.load false 1 t14 H fun t15 =>
 p.cvI .i64 t15 fun t16 =>
 p.call 4 (.fn 67 [] []) [t16] H fun t17 H =>
 p.un .not t17 fun t18 =>
 p.cond t18
 (p.fill E2 [] fun ct19 =>
 p.store 25 t2 (.agg ct19) H fun H =>
 p.load true 25 t2 H fun r0 =>
 k (Dn [r0, i0, (si 2)]) H)
 (p.call 85 (.fn 68 [] []) [a0, (si 1)] H fun t22 H =>
 p.extr t22 0 fun t23 =>
 p.extr t22 1 fun t24 =>
 p.extr t22 2 fun t25 =>
 p.bin .neq t25 i0 fun t28 =>
 p.cond t28
 (p.fill E2 [] fun ct29 =>
 p.store 25 t2 (.agg ct29) H fun H =>
 p.load true 25 t2 H fun r0 =>
 k (Dn [r0, i0, t25]) H)
 (p.bin .gtr t23 (si 340) fun t33 =>
 p.cond t33
 (p.fill E2 [] fun ct34 =>
 p.store 25 t2 (.agg ct34) H fun H =>
 p.load true 25 t2 H fun r0 =>
 k (Dn [r0, i0, (si 2)]) H)
 (p.len a0 fun t38 =>
 p.bin .sub t38 t24 fun t40 =>
 p.bin .gtr t23 t40 fun t41 =>
 p.cond t41
 (p.fill E2 [] fun ct42 =>
 p.store 25 t2 (.agg ct42) H fun H =>
 p.load true 25 t2 H fun r0 =>
 k (Dn [r0, i0, (si 1)]) H)
 (p.iadr 1 a0 i0 fun t44 =>
 p.load false 1 t44 H fun t45 =>
 p.cvI .i64 t45 fun t46 =>
 p.bin .add t24 t23 fun t51 =>
 p.slice 1 a0 (some t24) (some t51) fun t52 =>
 E8 (fun (t0 t2 t5 t6 t8 : AV) (H : Ad) => p.load true 25 t8 H fun t54 =>
 p.call 4 (.fn 70 [] []) [t54] H fun t55 H =>
 p.un .not t55 fun t56 =>
 p.gF t56 H (p.load true 25 t8 H) fun t58 H =>
 p.kF t56 H t0 fun t60 H =>
 p.kF t56 H t6 fun t61 H =>
 p.kF t56 H t5 fun t62 H =>
 p.gF t56 H (p.bin .add t61 t62) fun t63 H =>
 p.gF t56 H (p.slice 1 t60 none (some t63)) fun t64 H =>
 p.hF t56 H (p.call 22 (.fn 72 [] []) [t58] H) fun t59 H =>
 p.hF t56 H (p.call 4 (.fn 71 [] []) [t59, t64] H) fun t65 H =>
 p.gF t56 H (p.un .not t65) fun t66 H =>
 p.pick t56 bT t66 fun t67 =>
 p.cond t67
 (p.fill E2 [] fun ct68 =>
 p.store 25 t2 (.agg ct68) H fun H =>
 p.load true 25 t2 H fun r0 =>
 k (Dn [r0, i0, (si 2)]) H)
 (p.load true 25 t8 H fun t69 =>
 p.bin .add t6 t5 fun t72 =>
 p.store 25 t2 t69 H fun H =>
 p.load true 25 t2 H fun r0 =>
 k (Dn [r0, t72, i0]) H)) fun j1 =>
 p.both
 (p.call 59 (.fn 69 [] []) [t46, t52] H fun t53 H =>
 p.new E2 H fun t8 H =>
 p.store 25 t8 t53 H fun H =>
 j1 a0 t2 t23 t24 t8 H)
 (p.new E2 H fun t8 H =>
 p.call 59 (.fn 69 [] []) [t46, t52] H fun t53 H =>
 p.store 25 t8 t53 H fun H =>
 j1 a0 t2 t23 t24 t8 H))))))
theorem AeJ : Om Alw @f33 := fun p n a0 H k => by kernel_rfl
noncomputable def U5 (p : Pr β) (n : Nat)  (k : KO β) : Nat → AV → AV → KO β
 | 0, _, _, _, _ => none
 | m + 1, t0, t1, t5, H => p.len t0 fun t13 =>
   p.bin .lss t5 t13 fun t14 =>
   p.cond t14
   (p.iadr 1 t0 t5 fun t19 =>
   p.load false 1 t19 H fun t20 =>
   p.iadr 1 t1 t5 fun t23 =>
   p.load false 1 t23 H fun t24 =>
   p.bin .neq t20 t24 fun t25 =>
   p.cond t25
   (k bF H)
   (p.bin .add t5 (si 1) fun t16 =>
   U5 p n  k m t0 t1 t16 H))
   (k bT H)
noncomputable def f35 (p : Pr β) (n : Nat) (a0 a1 : AV) (H : Ad) (k : KO β) : Option β :=
 p.len a0 fun t7 =>
 p.len a1 fun t9 =>
 p.bin .neq t7 t9 fun t10 =>
 p.cond t10
 (k bF H)
 (U5 p n  k n a0 a1 i0 H)
noncomputable def AeL (p : Pr β) (n : Nat)  (k : KO β) (m : Nat) (tm : Tm) (H : Ad) : Option β :=
 D0 26 (fun tm H k => Al Au p o35 26 n (cd c35 [1, 1, 0, 1, 0, 0]) tm H k) (E7 0 (Eo (fun tm H => Al Au p o35 26 n (cd c35 [1, 1, 1]) tm H (Cu Au p fi35.results k)) (Cu Au p fi35.results k))) m tm H
theorem Ad0 (p : Pr β) (n : Nat)  (k : KO β) (m0 : Nat) : ∀ (t : Nat → AV) (H : Ad), AeL p n  k m0 (tf 26 0 t) H = U5 p n  k m0 (t 0) (t 1) (t 5) H := by
 induction m0 with
 | zero => intros; rfl
 | succ m0 ih =>
  intro t H
  refine Eq.trans (Bt (nt := 26) (m := m0) (g := fun t H => U5 p n  k m0 (t 0) (t 1) (t 5) H) ih rfl) ?_
  kernel_rfl
theorem AhN (p : Pr β) (n : Nat) (a0 a1 : AV) (H : Ad) (k : KO β) : Cr Au p n fi35 [a0, a1] H k =
 p.len a0 fun t7 =>
 p.len a1 fun t9 =>
 p.bin .neq t7 t9 fun t10 =>
 p.cond t10
 (k bF H)
 (AeL p n  k n (tf 26 0 (ud [(0, a0), (1, a1), (4, bF), (5, i0), (6, a0), (7, t7), (8, a1), (9, t9), (10, t10)] ut)) H) := by kernel_rfl
theorem AeM : Ll fi35 @f35 := fun p n a0 a1 H k => by
 rw [AhN]
 simp only [Ad0]
 kernel_rfl
noncomputable def f114 (p : Pr β) (n : Nat) (a0 a1 : AV) (H : Ad) (k : KO β) : Option β :=
 p.box a0 H fun t2 H =>
 p.box a1 H fun t3 H =>
 p.fadr 0 t2 fun t5 =>
 p.load false 1 t5 H fun t6 =>
 p.fadr 0 t3 fun t7 =>
 p.load false 1 t7 H fun t8 =>
 p.bin .neq t6 t8 fun t9 =>
 p.cond t9
 (k bF H)
 (p.fadr 1 t2 fun t10 =>
 p.load false 1 t10 H fun t11 =>
 p.fadr 1 t3 fun t12 =>
 p.load false 1 t12 H fun t13 =>
 p.bin .neq t11 t13 fun t14 =>
 p.cond t14
 (k bF H)
 (k bT H))
theorem Add : Ll Ajv @f114 := fun p n a0 a1 H k => by kernel_rfl
noncomputable def Vf (p : Pr β) (n : Nat)  (k : KO β) : Nat → AV → AV → KO β
 | 0, _, _, _, _ => none
 | m + 1, t0, t1, t5, H => p.len t0 fun t13 =>
   p.bin .lss t5 t13 fun t14 =>
   p.cond t14
   (p.iadr 2 t0 t5 fun t19 =>
   p.load true 2 t19 H fun t20 =>
   p.iadr 2 t1 t5 fun t23 =>
   p.load true 2 t23 H fun t24 =>
   p.call 4 (.fn 114 [] []) [t20, t24] H fun t25 H =>
   p.un .not t25 fun t26 =>
   p.cond t26
   (k bF H)
   (p.bin .add t5 (si 1) fun t16 =>
   Vf p n  k m t0 t1 t16 H))
   (k bT H)
noncomputable def f73 (p : Pr β) (n : Nat) (a0 a1 : AV) (H : Ad) (k : KO β) : Option β :=
 p.len a0 fun t7 =>
 p.len a1 fun t9 =>
 p.bin .neq t7 t9 fun t10 =>
 p.cond t10
 (k bF H)
 (Vf p n  k n a0 a1 i0 H)
noncomputable def Afz (p : Pr β) (n : Nat)  (k : KO β) (m : Nat) (tm : Tm) (H : Ad) : Option β :=
 D0 27 (fun tm H k => Al Au p o73 27 n (cd c73 [1, 1, 0, 1, 0, 0]) tm H k) (E7 0 (Eo (fun tm H => Al Au p o73 27 n (cd c73 [1, 1, 1]) tm H (Cu Au p fi73.results k)) (Cu Au p fi73.results k))) m tm H
theorem AdH (p : Pr β) (n : Nat)  (k : KO β) (m0 : Nat) : ∀ (t : Nat → AV) (H : Ad), Afz p n  k m0 (tf 27 0 t) H = Vf p n  k m0 (t 0) (t 1) (t 5) H := by
 induction m0 with
 | zero => intros; rfl
 | succ m0 ih =>
  intro t H
  refine Eq.trans (Bt (nt := 27) (m := m0) (g := fun t H => Vf p n  k m0 (t 0) (t 1) (t 5) H) ih rfl) ?_
  kernel_rfl
theorem Aid (p : Pr β) (n : Nat) (a0 a1 : AV) (H : Ad) (k : KO β) : Cr Au p n fi73 [a0, a1] H k =
 p.len a0 fun t7 =>
 p.len a1 fun t9 =>
 p.bin .neq t7 t9 fun t10 =>
 p.cond t10
 (k bF H)
 (Afz p n  k n (tf 27 0 (ud [(0, a0), (1, a1), (4, bF), (5, i0), (6, a0), (7, t7), (8, a1), (9, t9), (10, t10)] ut)) H) := by kernel_rfl
theorem Af0 : Ll fi73 @f73 := fun p n a0 a1 H k => by
 rw [Aid]
 simp only [AdH]
 kernel_rfl
noncomputable def Vg (p : Pr β) (n : Nat)  (k : KO β) : Nat → AV → AV → KO β
 | 0, _, _, _, _ => none
 | m + 1, t0, t1, t5, H => p.len t0 fun t13 =>
   p.bin .lss t5 t13 fun t14 =>
   p.cond t14
   (p.iadr 1 t0 t5 fun t19 =>
   p.load false 1 t19 H fun t20 =>
   p.iadr 1 t1 t5 fun t23 =>
   p.load false 1 t23 H fun t24 =>
   p.bin .neq t20 t24 fun t25 =>
   p.cond t25
   (k bF H)
   (p.bin .add t5 (si 1) fun t16 =>
   Vg p n  k m t0 t1 t16 H))
   (k bT H)
noncomputable def f74 (p : Pr β) (n : Nat) (a0 a1 : AV) (H : Ad) (k : KO β) : Option β :=
 p.len a0 fun t7 =>
 p.len a1 fun t9 =>
 p.bin .neq t7 t9 fun t10 =>
 p.cond t10
 (k bF H)
 (Vg p n  k n a0 a1 i0 H)
noncomputable def Af1 (p : Pr β) (n : Nat)  (k : KO β) (m : Nat) (tm : Tm) (H : Ad) : Option β :=
 D0 26 (fun tm H k => Al Au p o74 26 n (cd c74 [1, 1, 0, 1, 0, 0]) tm H k) (E7 0 (Eo (fun tm H => Al Au p o74 26 n (cd c74 [1, 1, 1]) tm H (Cu Au p fi74.results k)) (Cu Au p fi74.results k))) m tm H
theorem AdI (p : Pr β) (n : Nat)  (k : KO β) (m0 : Nat) : ∀ (t : Nat → AV) (H : Ad), Af1 p n  k m0 (tf 26 0 t) H = Vg p n  k m0 (t 0) (t 1) (t 5) H := by
 induction m0 with
 | zero => intros; rfl
 | succ m0 ih =>
  intro t H
  refine Eq.trans (Bt (nt := 26) (m := m0) (g := fun t H => Vg p n  k m0 (t 0) (t 1) (t 5) H) ih rfl) ?_
  kernel_rfl
theorem Aie (p : Pr β) (n : Nat) (a0 a1 : AV) (H : Ad) (k : KO β) : Cr Au p n fi74 [a0, a1] H k =
 p.len a0 fun t7 =>
 p.len a1 fun t9 =>
 p.bin .neq t7 t9 fun t10 =>
 p.cond t10
 (k bF H)
 (Af1 p n  k n (tf 26 0 (ud [(0, a0), (1, a1), (4, bF), (5, i0), (6, a0), (7, t7), (8, a1), (9, t9), (10, t10)] ut)) H) := by kernel_rfl
theorem Af2 : Ll fi74 @f74 := fun p n a0 a1 H k => by
 rw [Aie]
 simp only [AdI]
 kernel_rfl
noncomputable def Vh (p : Pr β) (n : Nat)  (k : KO β) : Nat → AV → AV → KO β
 | 0, _, _, _, _ => none
 | m + 1, t0, t1, t5, H => p.len t0 fun t13 =>
   p.bin .lss t5 t13 fun t14 =>
   p.cond t14
   (p.iadr 1 t0 t5 fun t19 =>
   p.load false 1 t19 H fun t20 =>
   p.iadr 1 t1 t5 fun t23 =>
   p.load false 1 t23 H fun t24 =>
   p.bin .neq t20 t24 fun t25 =>
   p.cond t25
   (k bF H)
   (p.bin .add t5 (si 1) fun t16 =>
   Vh p n  k m t0 t1 t16 H))
   (k bT H)
noncomputable def f75 (p : Pr β) (n : Nat) (a0 a1 : AV) (H : Ad) (k : KO β) : Option β :=
 p.len a0 fun t7 =>
 p.len a1 fun t9 =>
 p.bin .neq t7 t9 fun t10 =>
 p.cond t10
 (k bF H)
 (Vh p n  k n a0 a1 i0 H)
noncomputable def Af3 (p : Pr β) (n : Nat)  (k : KO β) (m : Nat) (tm : Tm) (H : Ad) : Option β :=
 D0 26 (fun tm H k => Al Au p o75 26 n (cd c75 [1, 1, 0, 1, 0, 0]) tm H k) (E7 0 (Eo (fun tm H => Al Au p o75 26 n (cd c75 [1, 1, 1]) tm H (Cu Au p fi75.results k)) (Cu Au p fi75.results k))) m tm H
theorem AdJ (p : Pr β) (n : Nat)  (k : KO β) (m0 : Nat) : ∀ (t : Nat → AV) (H : Ad), Af3 p n  k m0 (tf 26 0 t) H = Vh p n  k m0 (t 0) (t 1) (t 5) H := by
 induction m0 with
 | zero => intros; rfl
 | succ m0 ih =>
  intro t H
  refine Eq.trans (Bt (nt := 26) (m := m0) (g := fun t H => Vh p n  k m0 (t 0) (t 1) (t 5) H) ih rfl) ?_
  kernel_rfl
theorem Aif (p : Pr β) (n : Nat) (a0 a1 : AV) (H : Ad) (k : KO β) : Cr Au p n fi75 [a0, a1] H k =
 p.len a0 fun t7 =>
 p.len a1 fun t9 =>
 p.bin .neq t7 t9 fun t10 =>
 p.cond t10
 (k bF H)
 (Af3 p n  k n (tf 26 0 (ud [(0, a0), (1, a1), (4, bF), (5, i0), (6, a0), (7, t7), (8, a1), (9, t9), (10, t10)] ut)) H) := by kernel_rfl
theorem Af4 : Ll fi75 @f75 := fun p n a0 a1 H k => by
 rw [Aif]
 simp only [AdJ]
 kernel_rfl
noncomputable def f34 (p : Pr β) (n : Nat) (a0 a1 : AV) (H : Ad) (k : KO β) : Option β :=
 p.box a0 H fun t2 H =>
 p.box a1 H fun t3 H =>
 p.fadr 0 t2 fun t5 =>
 p.load false 1 t5 H fun t6 =>
 p.fadr 0 t3 fun t7 =>
 p.load false 1 t7 H fun t8 =>
 p.bin .neq t6 t8 fun t9 =>
 p.cond t9
 (k bF H)
 (p.fadr 1 t2 fun t10 =>
 p.load false 1 t10 H fun t11 =>
 p.fadr 1 t3 fun t12 =>
 p.load false 1 t12 H fun t13 =>
 p.binB .neq t11 t13 fun t14 =>
 p.cond t14
 (k bF H)
 (p.fadr 2 t2 fun t15 =>
 p.load false 1 t15 H fun t16 =>
 p.fadr 2 t3 fun t17 =>
 p.load false 1 t17 H fun t18 =>
 p.bin .neq t16 t18 fun t19 =>
 p.cond t19
 (k bF H)
 (p.fadr 3 t2 fun t20 =>
 p.load false 1 t20 H fun t21 =>
 p.fadr 3 t3 fun t22 =>
 p.load false 1 t22 H fun t23 =>
 p.binB .neq t21 t23 fun t24 =>
 p.cond t24
 (k bF H)
 (p.fadr 4 t2 fun t25 =>
 p.load false 1 t25 H fun t26 =>
 p.fadr 4 t3 fun t27 =>
 p.load false 1 t27 H fun t28 =>
 p.bin .neq t26 t28 fun t29 =>
 p.cond t29
 (k bF H)
 (p.fadr 5 t2 fun t30 =>
 p.load false 1 t30 H fun t31 =>
 p.fadr 5 t3 fun t32 =>
 p.load false 1 t32 H fun t33 =>
 p.bin .neq t31 t33 fun t34 =>
 p.cond t34
 (k bF H)
 (p.fadr 6 t2 fun t35 =>
 p.load false 1 t35 H fun t36 =>
 p.fadr 6 t3 fun t37 =>
 p.load false 1 t37 H fun t38 =>
 p.call 4 (.fn 35 [] []) [t36, t38] H fun t39 H =>
 p.un .not t39 fun t40 =>
 p.cond t40
 (k bF H)
 (p.fadr 7 t2 fun t41 =>
 p.load false 1 t41 H fun t42 =>
 p.fadr 7 t3 fun t43 =>
 p.load false 1 t43 H fun t44 =>
 p.bin .neq t42 t44 fun t45 =>
 p.cond t45
 (k bF H)
 (p.fadr 8 t2 fun t46 =>
 p.load false 1 t46 H fun t47 =>
 p.fadr 8 t3 fun t48 =>
 p.load false 1 t48 H fun t49 =>
 p.bin .neq t47 t49 fun t50 =>
 p.cond t50
 (k bF H)
 (p.fadr 9 t2 fun t51 =>
 p.load false 1 t51 H fun t52 =>
 p.fadr 9 t3 fun t53 =>
 p.load false 1 t53 H fun t54 =>
 p.binB .neq t52 t54 fun t55 =>
 p.cond t55
 (k bF H)
 (p.fadr 10 t2 fun t56 =>
 p.load false 1 t56 H fun t57 =>
 p.fadr 10 t3 fun t58 =>
 p.load false 1 t58 H fun t59 =>
 p.bin .neq t57 t59 fun t60 =>
 p.cond t60
 (k bF H)
 (p.fadr 11 t2 fun t61 =>
 p.load false 1 t61 H fun t62 =>
 p.fadr 11 t3 fun t63 =>
 p.load false 1 t63 H fun t64 =>
 p.binB .neq t62 t64 fun t65 =>
 p.cond t65
 (k bF H)
 (p.fadr 12 t2 fun t66 =>
 p.load false 1 t66 H fun t67 =>
 p.fadr 12 t3 fun t68 =>
 p.load false 1 t68 H fun t69 =>
 p.bin .neq t67 t69 fun t70 =>
 p.cond t70
 (k bF H)
 (p.fadr 13 t2 fun t71 =>
 p.load false 1 t71 H fun t72 =>
 p.fadr 13 t3 fun t73 =>
 p.load false 1 t73 H fun t74 =>
 p.call 4 (.fn 35 [] []) [t72, t74] H fun t75 H =>
 p.un .not t75 fun t76 =>
 p.cond t76
 (k bF H)
 (p.fadr 14 t2 fun t77 =>
 p.load false 1 t77 H fun t78 =>
 p.fadr 14 t3 fun t79 =>
 p.load false 1 t79 H fun t80 =>
 p.bin .neq t78 t80 fun t81 =>
 p.cond t81
 (k bF H)
 (p.fadr 15 t2 fun t82 =>
 p.load false 1 t82 H fun t83 =>
 p.fadr 15 t3 fun t84 =>
 p.load false 1 t84 H fun t85 =>
 p.binB .neq t83 t85 fun t86 =>
 p.cond t86
 (k bF H)
 (p.fadr 16 t2 fun t87 =>
 p.load false 1 t87 H fun t88 =>
 p.fadr 16 t3 fun t89 =>
 p.load false 1 t89 H fun t90 =>
 p.binB .neq t88 t90 fun t91 =>
 p.cond t91
 (k bF H)
 (p.fadr 17 t2 fun t92 =>
 p.load false 1 t92 H fun t93 =>
 p.fadr 17 t3 fun t94 =>
 p.load false 1 t94 H fun t95 =>
 p.bin .neq t93 t95 fun t96 =>
 p.cond t96
 (k bF H)
 (p.fadr 18 t2 fun t97 =>
 p.load false 1 t97 H fun t98 =>
 p.fadr 18 t3 fun t99 =>
 p.load false 1 t99 H fun t100 =>
 p.binB .neq t98 t100 fun t101 =>
 p.cond t101
 (k bF H)
 (p.fadr 19 t2 fun t102 =>
 p.load false 1 t102 H fun t103 =>
 p.fadr 19 t3 fun t104 =>
 p.load false 1 t104 H fun t105 =>
 p.call 4 (.fn 35 [] []) [t103, t105] H fun t106 H =>
 p.un .not t106 fun t107 =>
 p.cond t107
 (k bF H)
 (p.fadr 20 t2 fun t108 =>
 p.load false 1 t108 H fun t109 =>
 p.fadr 20 t3 fun t110 =>
 p.load false 1 t110 H fun t111 =>
 p.bin .neq t109 t111 fun t112 =>
 p.cond t112
 (k bF H)
 (p.fadr 21 t2 fun t113 =>
 p.load false 1 t113 H fun t114 =>
 p.fadr 21 t3 fun t115 =>
 p.load false 1 t115 H fun t116 =>
 p.binB .neq t114 t116 fun t117 =>
 p.cond t117
 (k bF H)
 (p.fadr 22 t2 fun t118 =>
 p.load false 1 t118 H fun t119 =>
 p.fadr 22 t3 fun t120 =>
 p.load false 1 t120 H fun t121 =>
 p.call 4 (.fn 73 [] []) [t119, t121] H fun t122 H =>
 p.un .not t122 fun t123 =>
 p.cond t123
 (k bF H)
 (p.fadr 23 t2 fun t124 =>
 p.load false 1 t124 H fun t125 =>
 p.fadr 23 t3 fun t126 =>
 p.load false 1 t126 H fun t127 =>
 p.call 4 (.fn 74 [] []) [t125, t127] H fun t128 H =>
 p.un .not t128 fun t129 =>
 p.cond t129
 (k bF H)
 (p.fadr 24 t2 fun t130 =>
 p.load false 1 t130 H fun t131 =>
 p.fadr 24 t3 fun t132 =>
 p.load false 1 t132 H fun t133 =>
 p.call 4 (.fn 75 [] []) [t131, t133] H fun t134 H =>
 p.un .not t134 fun t135 =>
 p.cond t135
 (k bF H)
 (k bT H)))))))))))))))))))))))))
theorem AeK : Ll Alx @f34 := fun p n a0 a1 H k => by kernel_rfl
noncomputable def U6 (p : Pr β) (n : Nat)  (k : KO β) : Nat → AV → AV → KO β
 | 0, _, _, _, _ => none
 | m + 1, t0, t1, t5, H => p.len t0 fun t8 =>
   p.bin .lss t5 t8 fun t9 =>
   p.cond t9
   (p.cvI .u8 t1 fun t15 =>
   p.iadr 1 t0 t5 fun t16 =>
   p.store 1 t16 t15 H fun H =>
   p.bin .add t1 (si 1) fun t18 =>
   p.bin .add t5 (si 1) fun t11 =>
   U6 p n  k m t0 t18 t11 H)
   (k t1 H)
noncomputable def f36 (p : Pr β) (n : Nat) (a0 a1 : AV) (H : Ad) (k : KO β) : Option β :=
 U6 p n  k n a0 a1 i0 H
noncomputable def AeN (p : Pr β) (n : Nat)  (k : KO β) (m : Nat) (tm : Tm) (H : Ad) : Option β :=
 D0 20 (fun tm H k => Al Au p [] 20 n (cd c36 [1, 0, 1, 0, 0]) tm H k) (E7 0 (Eo (fun tm H => Al Au p [] 20 n (cd c36 [1, 1]) tm H (Cu Au p fi36.results k)) (Cu Au p fi36.results k))) m tm H
theorem Ad1 (p : Pr β) (n : Nat)  (k : KO β) (m0 : Nat) : ∀ (t : Nat → AV) (H : Ad), AeN p n  k m0 (tf 20 0 t) H = U6 p n  k m0 (t 0) (t 1) (t 5) H := by
 induction m0 with
 | zero => intros; rfl
 | succ m0 ih =>
  intro t H
  refine Eq.trans (Bt (nt := 20) (m := m0) (g := fun t H => U6 p n  k m0 (t 0) (t 1) (t 5) H) ih rfl) ?_
  kernel_rfl
theorem AhO (p : Pr β) (n : Nat) (a0 a1 : AV) (H : Ad) (k : KO β) : Cr Au p n fi36 [a0, a1] H k =
 AeN p n  k n (tf 20 0 (ud [(0, a0), (1, a1), (4, i0), (5, i0)] ut)) H := by kernel_rfl
theorem AeO : Ll fi36 @f36 := fun p n a0 a1 H k => by
 rw [AhO]
 simp only [Ad1]
 kernel_rfl
noncomputable def U7 (p : Pr β) (n : Nat)  (k : KO β) : Nat → AV → KO β
 | 0, _, _, _ => none
 | m + 1, t0, t3, H => p.bin .gtr t0 i0 fun t7 =>
   p.cond t7
   (p.bin .rem t0 (si 10) fun t9 =>
   p.bin .add (si 48) t9 fun t10 =>
   p.cvI .u8 t10 fun t11 =>
   p.fill [(su 0)] [(0, 1, t11)] fun ct12 => p.newSl 1 1 ct12 true H fun t12 H =>
   p.cvBS t12 H fun t13 =>
   p.bin .add t13 t3 fun t15 =>
   p.bin .quo t0 (si 10) fun t17 =>
   U7 p n  k m t17 t15 H)
   (p.bin .add (.sc (.string ⟨#[109]⟩)) t3 fun t19 =>
   k t19 H)
noncomputable def f53 (p : Pr β) (n : Nat) (a0 : AV) (H : Ad) (k : KO β) : Option β :=
 p.bin .leq a0 i0 fun t5 =>
 p.cond t5
 (k (.sc (.string ⟨#[109, 48]⟩)) H)
 (U7 p n  k n a0 sE H)
noncomputable def AeR (p : Pr β) (n : Nat)  (k : KO β) (m : Nat) (tm : Tm) (H : Ad) : Option β :=
 D0 20 (fun tm H k => Al Au p [] 20 n (cd c53 [1, 1, 1, 0, 0, 0]) tm H k) (E7 0 (Eo (fun tm H => Al Au p [] 20 n (cd c53 [1, 1, 1, 1]) tm H (Cu Au p fi53.results k)) (Cu Au p fi53.results k))) m tm H
theorem Ad2 (p : Pr β) (n : Nat)  (k : KO β) (m0 : Nat) : ∀ (t : Nat → AV) (H : Ad), AeR p n  k m0 (tf 20 0 t) H = U7 p n  k m0 (t 0) (t 3) H := by
 induction m0 with
 | zero => intros; rfl
 | succ m0 ih =>
  intro t H
  refine Eq.trans (Bt (nt := 20) (m := m0) (g := fun t H => U7 p n  k m0 (t 0) (t 3) H) ih rfl) ?_
  kernel_rfl
theorem AhP (p : Pr β) (n : Nat) (a0 : AV) (H : Ad) (k : KO β) : Cr Au p n fi53 [a0] H k =
 p.bin .leq a0 i0 fun t5 =>
 p.cond t5
 (k (.sc (.string ⟨#[109, 48]⟩)) H)
 (AeR p n  k n (tf 20 0 (ud [(0, a0), (2, sE), (3, sE), (4, a0), (5, t5)] ut)) H) := by kernel_rfl
theorem AeS : Om fi53 @f53 := fun p n a0 H k => by
 rw [AhP]
 simp only [Ad2]
 kernel_rfl
noncomputable def U8 (p : Pr β) (n : Nat)  (k : KO β) : Nat → AV → AV → KO β
 | 0, _, _, _, _ => none
 | m + 1, t0, t1, t5, H => p.len t0 fun t8 =>
   p.bin .lss t5 t8 fun t9 =>
   p.cond t9
   (p.call 9 (.fn 53 [] []) [t1] H fun t15 H =>
   p.iadr 2 t0 t5 fun t16 =>
   p.fadr 0 t16 fun t17 =>
   p.store 1 t17 t15 H fun H =>
   p.bin .add t1 (si 1) fun t19 =>
   p.iadr 2 t0 t5 fun t23 =>
   p.fadr 1 t23 fun t24 =>
   p.store 1 t24 t19 H fun H =>
   p.bin .add t19 (si 1) fun t26 =>
   p.bin .add t5 (si 1) fun t11 =>
   U8 p n  k m t0 t26 t11 H)
   (k t1 H)
noncomputable def f54 (p : Pr β) (n : Nat) (a0 a1 : AV) (H : Ad) (k : KO β) : Option β :=
 U8 p n  k n a0 a1 i0 H
noncomputable def AeT (p : Pr β) (n : Nat)  (k : KO β) (m : Nat) (tm : Tm) (H : Ad) : Option β :=
 D0 28 (fun tm H k => Al Au p [] 28 n (cd c54 [1, 0, 1, 0, 0]) tm H k) (E7 0 (Eo (fun tm H => Al Au p [] 28 n (cd c54 [1, 1]) tm H (Cu Au p fi54.results k)) (Cu Au p fi54.results k))) m tm H
theorem Ad3 (p : Pr β) (n : Nat)  (k : KO β) (m0 : Nat) : ∀ (t : Nat → AV) (H : Ad), AeT p n  k m0 (tf 28 0 t) H = U8 p n  k m0 (t 0) (t 1) (t 5) H := by
 induction m0 with
 | zero => intros; rfl
 | succ m0 ih =>
  intro t H
  refine Eq.trans (Bt (nt := 28) (m := m0) (g := fun t H => U8 p n  k m0 (t 0) (t 1) (t 5) H) ih rfl) ?_
  kernel_rfl
theorem AhQ (p : Pr β) (n : Nat) (a0 a1 : AV) (H : Ad) (k : KO β) : Cr Au p n fi54 [a0, a1] H k =
 AeT p n  k n (tf 28 0 (ud [(0, a0), (1, a1), (4, i0), (5, i0)] ut)) H := by kernel_rfl
theorem AeU : Ll fi54 @f54 := fun p n a0 a1 H k => by
 rw [AhQ]
 simp only [Ad3]
 kernel_rfl
noncomputable def U9 (p : Pr β) (n : Nat)  (k : KO β) : Nat → AV → AV → KO β
 | 0, _, _, _, _ => none
 | m + 1, t0, t1, t5, H => p.len t0 fun t8 =>
   p.bin .lss t5 t8 fun t9 =>
   p.cond t9
   (p.call 9 (.fn 53 [] []) [t1] H fun t15 H =>
   p.iadr 1 t0 t5 fun t16 =>
   p.store 1 t16 t15 H fun H =>
   p.bin .add t1 (si 1) fun t18 =>
   p.bin .add t5 (si 1) fun t11 =>
   U9 p n  k m t0 t18 t11 H)
   (k t1 H)
noncomputable def f55 (p : Pr β) (n : Nat) (a0 a1 : AV) (H : Ad) (k : KO β) : Option β :=
 U9 p n  k n a0 a1 i0 H
noncomputable def AeV (p : Pr β) (n : Nat)  (k : KO β) (m : Nat) (tm : Tm) (H : Ad) : Option β :=
 D0 20 (fun tm H k => Al Au p [] 20 n (cd c55 [1, 0, 1, 0, 0]) tm H k) (E7 0 (Eo (fun tm H => Al Au p [] 20 n (cd c55 [1, 1]) tm H (Cu Au p fi55.results k)) (Cu Au p fi55.results k))) m tm H
theorem Ad4 (p : Pr β) (n : Nat)  (k : KO β) (m0 : Nat) : ∀ (t : Nat → AV) (H : Ad), AeV p n  k m0 (tf 20 0 t) H = U9 p n  k m0 (t 0) (t 1) (t 5) H := by
 induction m0 with
 | zero => intros; rfl
 | succ m0 ih =>
  intro t H
  refine Eq.trans (Bt (nt := 20) (m := m0) (g := fun t H => U9 p n  k m0 (t 0) (t 1) (t 5) H) ih rfl) ?_
  kernel_rfl
theorem AhR (p : Pr β) (n : Nat) (a0 a1 : AV) (H : Ad) (k : KO β) : Cr Au p n fi55 [a0, a1] H k =
 AeV p n  k n (tf 20 0 (ud [(0, a0), (1, a1), (4, i0), (5, i0)] ut)) H := by kernel_rfl
theorem AeW : Ll fi55 @f55 := fun p n a0 a1 H k => by
 rw [AhR]
 simp only [Ad4]
 kernel_rfl
noncomputable def Va (p : Pr β) (n : Nat)  (k : KO β) : Nat → AV → AV → KO β
 | 0, _, _, _, _ => none
 | m + 1, t0, t1, t5, H => p.len t0 fun t8 =>
   p.bin .lss t5 t8 fun t9 =>
   p.cond t9
   (p.iadr 1 t0 t5 fun t15 =>
   p.store 1 t15 t1 H fun H =>
   p.bin .add t1 (si 1) fun t17 =>
   p.bin .add t5 (si 1) fun t11 =>
   Va p n  k m t0 t17 t11 H)
   (k t1 H)
noncomputable def f56 (p : Pr β) (n : Nat) (a0 a1 : AV) (H : Ad) (k : KO β) : Option β :=
 Va p n  k n a0 a1 i0 H
noncomputable def AeX (p : Pr β) (n : Nat)  (k : KO β) (m : Nat) (tm : Tm) (H : Ad) : Option β :=
 D0 19 (fun tm H k => Al Au p [] 19 n (cd c56 [1, 0, 1, 0, 0]) tm H k) (E7 0 (Eo (fun tm H => Al Au p [] 19 n (cd c56 [1, 1]) tm H (Cu Au p fi56.results k)) (Cu Au p fi56.results k))) m tm H
theorem Ad5 (p : Pr β) (n : Nat)  (k : KO β) (m0 : Nat) : ∀ (t : Nat → AV) (H : Ad), AeX p n  k m0 (tf 19 0 t) H = Va p n  k m0 (t 0) (t 1) (t 5) H := by
 induction m0 with
 | zero => intros; rfl
 | succ m0 ih =>
  intro t H
  refine Eq.trans (Bt (nt := 19) (m := m0) (g := fun t H => Va p n  k m0 (t 0) (t 1) (t 5) H) ih rfl) ?_
  kernel_rfl
theorem AhS (p : Pr β) (n : Nat) (a0 a1 : AV) (H : Ad) (k : KO β) : Cr Au p n fi56 [a0, a1] H k =
 AeX p n  k n (tf 19 0 (ud [(0, a0), (1, a1), (4, i0), (5, i0)] ut)) H := by kernel_rfl
theorem AeY : Ll fi56 @f56 := fun p n a0 a1 H k => by
 rw [AhS]
 simp only [Ad5]
 kernel_rfl
noncomputable def f37 (p : Pr β) (n : Nat) (a0 a1 : AV) (H : Ad) (k : KO β) : Option β :=
 p.box a0 H fun t2 H =>
 p.fadr 6 t2 fun t5 =>
 p.load false 1 t5 H fun t6 =>
 p.call 3 (.fn 36 [] []) [t6, a1] H fun t8 H =>
 p.fadr 13 t2 fun t9 =>
 p.load false 1 t9 H fun t10 =>
 p.call 3 (.fn 36 [] []) [t10, t8] H fun t12 H =>
 p.fadr 19 t2 fun t13 =>
 p.load false 1 t13 H fun t14 =>
 p.call 3 (.fn 36 [] []) [t14, t12] H fun t16 H =>
 p.fadr 22 t2 fun t17 =>
 p.load false 1 t17 H fun t18 =>
 p.call 3 (.fn 54 [] []) [t18, t16] H fun t20 H =>
 p.fadr 23 t2 fun t21 =>
 p.load false 1 t21 H fun t22 =>
 p.call 3 (.fn 55 [] []) [t22, t20] H fun t24 H =>
 p.fadr 24 t2 fun t25 =>
 p.load false 1 t25 H fun t26 =>
 p.call 3 (.fn 56 [] []) [t26, t24] H fun t28 H =>
 k t28 H
theorem AeP : Ll Aly @f37 := fun p n a0 a1 H k => by kernel_rfl
noncomputable def Vb (p : Pr β) (n : Nat)  (k : KO β) : Nat → AV → AV → KO β
 | 0, _, _, _, _ => none
 | m + 1, t0, t1, t5, H => p.len t0 fun t8 =>
   p.bin .lss t5 t8 fun t9 =>
   p.cond t9
   (p.iadr 1 t0 t5 fun t14 =>
   p.load false 1 t14 H fun t15 =>
   p.cvI .u8 t1 fun t17 =>
   p.bin .neq t15 t17 fun t18 =>
   p.cond t18
   (k (si (-1)) H)
   (p.bin .add t1 (si 1) fun t20 =>
   p.bin .add t5 (si 1) fun t11 =>
   Vb p n  k m t0 t20 t11 H))
   (k t1 H)
noncomputable def f57 (p : Pr β) (n : Nat) (a0 a1 : AV) (H : Ad) (k : KO β) : Option β :=
 Vb p n  k n a0 a1 i0 H
noncomputable def AeZ (p : Pr β) (n : Nat)  (k : KO β) (m : Nat) (tm : Tm) (H : Ad) : Option β :=
 D0 22 (fun tm H k => Al Au p [] 22 n (cd c57 [1, 0, 1, 0, 0]) tm H k) (E7 0 (Eo (fun tm H => Al Au p [] 22 n (cd c57 [1, 1]) tm H (Cu Au p fi57.results k)) (Cu Au p fi57.results k))) m tm H
theorem Ad6 (p : Pr β) (n : Nat)  (k : KO β) (m0 : Nat) : ∀ (t : Nat → AV) (H : Ad), AeZ p n  k m0 (tf 22 0 t) H = Vb p n  k m0 (t 0) (t 1) (t 5) H := by
 induction m0 with
 | zero => intros; rfl
 | succ m0 ih =>
  intro t H
  refine Eq.trans (Bt (nt := 22) (m := m0) (g := fun t H => Vb p n  k m0 (t 0) (t 1) (t 5) H) ih rfl) ?_
  kernel_rfl
theorem AhT (p : Pr β) (n : Nat) (a0 a1 : AV) (H : Ad) (k : KO β) : Cr Au p n fi57 [a0, a1] H k =
 AeZ p n  k n (tf 22 0 (ud [(0, a0), (1, a1), (4, i0), (5, i0)] ut)) H := by kernel_rfl
theorem Afa : Ll fi57 @f57 := fun p n a0 a1 H k => by
 rw [AhT]
 simp only [Ad6]
 kernel_rfl
noncomputable def Vc (p : Pr β) (n : Nat)  (k : KO β) : Nat → AV → AV → KO β
 | 0, _, _, _, _ => none
 | m + 1, t0, t1, t5, H => p.len t0 fun t8 =>
   p.bin .lss t5 t8 fun t9 =>
   p.cond t9
   (p.iadr 2 t0 t5 fun t14 =>
   p.fadr 0 t14 fun t15 =>
   p.load false 1 t15 H fun t16 =>
   p.call 9 (.fn 53 [] []) [t1] H fun t18 H =>
   p.bin .neq t16 t18 fun t19 =>
   p.cond t19
   (k (si (-1)) H)
   (p.bin .add t1 (si 1) fun t21 =>
   p.iadr 2 t0 t5 fun t24 =>
   p.fadr 1 t24 fun t25 =>
   p.load false 1 t25 H fun t26 =>
   p.bin .neq t26 t21 fun t28 =>
   p.cond t28
   (k (si (-1)) H)
   (p.bin .add t21 (si 1) fun t30 =>
   p.bin .add t5 (si 1) fun t11 =>
   Vc p n  k m t0 t30 t11 H)))
   (k t1 H)
noncomputable def f58 (p : Pr β) (n : Nat) (a0 a1 : AV) (H : Ad) (k : KO β) : Option β :=
 Vc p n  k n a0 a1 i0 H
noncomputable def Afb (p : Pr β) (n : Nat)  (k : KO β) (m : Nat) (tm : Tm) (H : Ad) : Option β :=
 D0 32 (fun tm H k => Al Au p o58 32 n (cd c58 [1, 0, 1, 0, 0]) tm H k) (E7 0 (Eo (fun tm H => Al Au p o58 32 n (cd c58 [1, 1]) tm H (Cu Au p fi58.results k)) (Cu Au p fi58.results k))) m tm H
theorem Ad7 (p : Pr β) (n : Nat)  (k : KO β) (m0 : Nat) : ∀ (t : Nat → AV) (H : Ad), Afb p n  k m0 (tf 32 0 t) H = Vc p n  k m0 (t 0) (t 1) (t 5) H := by
 induction m0 with
 | zero => intros; rfl
 | succ m0 ih =>
  intro t H
  refine Eq.trans (Bt (nt := 32) (m := m0) (g := fun t H => Vc p n  k m0 (t 0) (t 1) (t 5) H) ih rfl) ?_
  kernel_rfl
theorem AhU (p : Pr β) (n : Nat) (a0 a1 : AV) (H : Ad) (k : KO β) : Cr Au p n fi58 [a0, a1] H k =
 Afb p n  k n (tf 32 0 (ud [(0, a0), (1, a1), (4, i0), (5, i0)] ut)) H := by kernel_rfl
theorem Afc : Ll fi58 @f58 := fun p n a0 a1 H k => by
 rw [AhU]
 simp only [Ad7]
 kernel_rfl
noncomputable def Vd (p : Pr β) (n : Nat)  (k : KO β) : Nat → AV → AV → KO β
 | 0, _, _, _, _ => none
 | m + 1, t0, t1, t5, H => p.len t0 fun t8 =>
   p.bin .lss t5 t8 fun t9 =>
   p.cond t9
   (p.iadr 1 t0 t5 fun t14 =>
   p.load false 1 t14 H fun t15 =>
   p.call 9 (.fn 53 [] []) [t1] H fun t17 H =>
   p.bin .neq t15 t17 fun t18 =>
   p.cond t18
   (k (si (-1)) H)
   (p.bin .add t1 (si 1) fun t20 =>
   p.bin .add t5 (si 1) fun t11 =>
   Vd p n  k m t0 t20 t11 H))
   (k t1 H)
noncomputable def f59 (p : Pr β) (n : Nat) (a0 a1 : AV) (H : Ad) (k : KO β) : Option β :=
 Vd p n  k n a0 a1 i0 H
noncomputable def Afd (p : Pr β) (n : Nat)  (k : KO β) (m : Nat) (tm : Tm) (H : Ad) : Option β :=
 D0 22 (fun tm H k => Al Au p o59 22 n (cd c59 [1, 0, 1, 0, 0]) tm H k) (E7 0 (Eo (fun tm H => Al Au p o59 22 n (cd c59 [1, 1]) tm H (Cu Au p fi59.results k)) (Cu Au p fi59.results k))) m tm H
theorem Ad8 (p : Pr β) (n : Nat)  (k : KO β) (m0 : Nat) : ∀ (t : Nat → AV) (H : Ad), Afd p n  k m0 (tf 22 0 t) H = Vd p n  k m0 (t 0) (t 1) (t 5) H := by
 induction m0 with
 | zero => intros; rfl
 | succ m0 ih =>
  intro t H
  refine Eq.trans (Bt (nt := 22) (m := m0) (g := fun t H => Vd p n  k m0 (t 0) (t 1) (t 5) H) ih rfl) ?_
  kernel_rfl
theorem AhV (p : Pr β) (n : Nat) (a0 a1 : AV) (H : Ad) (k : KO β) : Cr Au p n fi59 [a0, a1] H k =
 Afd p n  k n (tf 22 0 (ud [(0, a0), (1, a1), (4, i0), (5, i0)] ut)) H := by kernel_rfl
theorem Afe : Ll fi59 @f59 := fun p n a0 a1 H k => by
 rw [AhV]
 simp only [Ad8]
 kernel_rfl
noncomputable def Ve (p : Pr β) (n : Nat)  (k : KO β) : Nat → AV → AV → KO β
 | 0, _, _, _, _ => none
 | m + 1, t0, t1, t5, H => p.len t0 fun t8 =>
   p.bin .lss t5 t8 fun t9 =>
   p.cond t9
   (p.iadr 1 t0 t5 fun t14 =>
   p.load false 1 t14 H fun t15 =>
   p.bin .neq t15 t1 fun t17 =>
   p.cond t17
   (k (si (-1)) H)
   (p.bin .add t1 (si 1) fun t19 =>
   p.bin .add t5 (si 1) fun t11 =>
   Ve p n  k m t0 t19 t11 H))
   (k t1 H)
noncomputable def f60 (p : Pr β) (n : Nat) (a0 a1 : AV) (H : Ad) (k : KO β) : Option β :=
 Ve p n  k n a0 a1 i0 H
noncomputable def Aff (p : Pr β) (n : Nat)  (k : KO β) (m : Nat) (tm : Tm) (H : Ad) : Option β :=
 D0 21 (fun tm H k => Al Au p [] 21 n (cd c60 [1, 0, 1, 0, 0]) tm H k) (E7 0 (Eo (fun tm H => Al Au p [] 21 n (cd c60 [1, 1]) tm H (Cu Au p fi60.results k)) (Cu Au p fi60.results k))) m tm H
theorem Ad9 (p : Pr β) (n : Nat)  (k : KO β) (m0 : Nat) : ∀ (t : Nat → AV) (H : Ad), Aff p n  k m0 (tf 21 0 t) H = Ve p n  k m0 (t 0) (t 1) (t 5) H := by
 induction m0 with
 | zero => intros; rfl
 | succ m0 ih =>
  intro t H
  refine Eq.trans (Bt (nt := 21) (m := m0) (g := fun t H => Ve p n  k m0 (t 0) (t 1) (t 5) H) ih rfl) ?_
  kernel_rfl
theorem AhW (p : Pr β) (n : Nat) (a0 a1 : AV) (H : Ad) (k : KO β) : Cr Au p n fi60 [a0, a1] H k =
 Aff p n  k n (tf 21 0 (ud [(0, a0), (1, a1), (4, i0), (5, i0)] ut)) H := by kernel_rfl
theorem Afg : Ll fi60 @f60 := fun p n a0 a1 H k => by
 rw [AhW]
 simp only [Ad9]
 kernel_rfl
noncomputable def f38 (p : Pr β) (n : Nat) (a0 a1 : AV) (H : Ad) (k : KO β) : Option β :=
 p.box a0 H fun t2 H =>
 p.fadr 6 t2 fun t5 =>
 p.load false 1 t5 H fun t6 =>
 p.call 3 (.fn 57 [] []) [t6, a1] H fun t8 H =>
 p.bin .lss t8 i0 fun t10 =>
 p.cond t10
 (k (si (-1)) H)
 (p.fadr 13 t2 fun t11 =>
 p.load false 1 t11 H fun t12 =>
 p.call 3 (.fn 57 [] []) [t12, t8] H fun t14 H =>
 p.bin .lss t14 i0 fun t16 =>
 p.cond t16
 (k (si (-1)) H)
 (p.fadr 19 t2 fun t17 =>
 p.load false 1 t17 H fun t18 =>
 p.call 3 (.fn 57 [] []) [t18, t14] H fun t20 H =>
 p.bin .lss t20 i0 fun t22 =>
 p.cond t22
 (k (si (-1)) H)
 (p.fadr 22 t2 fun t23 =>
 p.load false 1 t23 H fun t24 =>
 p.call 3 (.fn 58 [] []) [t24, t20] H fun t26 H =>
 p.bin .lss t26 i0 fun t28 =>
 p.cond t28
 (k (si (-1)) H)
 (p.fadr 23 t2 fun t29 =>
 p.load false 1 t29 H fun t30 =>
 p.call 3 (.fn 59 [] []) [t30, t26] H fun t32 H =>
 p.bin .lss t32 i0 fun t34 =>
 p.cond t34
 (k (si (-1)) H)
 (p.fadr 24 t2 fun t35 =>
 p.load false 1 t35 H fun t36 =>
 p.call 3 (.fn 60 [] []) [t36, t32] H fun t38 H =>
 p.bin .lss t38 i0 fun t40 =>
 p.cond t40
 (k (si (-1)) H)
 (k t38 H))))))
theorem AeQ : Ll Alz @f38 := fun p n a0 a1 H k => by kernel_rfl
noncomputable def f6 (p : Pr β) (n : Nat) (a0 : AV) (H : Ad) (k : KO β) : Option β :=
 p.len a0 fun t17 =>
 p.bin .gtr t17 (si 1048576) fun t18 =>
 p.cond t18
 (k bT H)
 (p.call 22 (.fn 32 [] []) [a0] H fun t21 H =>
 p.call 60 (.fn 31 [] []) [t21] H fun t22 H =>
 p.extr t22 0 fun t23 =>
 p.extr t22 1 fun t24 =>
 p.extr t22 2 fun t25 =>
 p.new E2 H fun t3 H =>
 p.store 25 t3 t23 H fun H =>
 p.call 22 (.fn 32 [] []) [a0] H fun t27 H =>
 p.call 60 (.fn 33 [] []) [t27] H fun t30 H =>
 p.extr t30 0 fun t31 =>
 p.extr t30 1 fun t32 =>
 p.extr t30 2 fun t33 =>
 p.new E2 H fun t7 H =>
 p.store 25 t7 t31 H fun H =>
 p.load true 25 t7 H fun t34 =>
 p.load true 25 t3 H fun t35 =>
 p.call 4 (.fn 34 [] []) [t34, t35] H fun t36 H =>
 p.un .not t36 fun t37 =>
 p.kF t37 H t32 fun t39 H =>
 p.kF t37 H t24 fun t40 H =>
 p.gF t37 H (p.bin .neq t39 t40) fun t41 H =>
 p.pick t37 bT t41 fun t42 =>
 p.kF t42 H t33 fun t44 H =>
 p.kF t42 H t25 fun t45 H =>
 p.gF t42 H (p.bin .neq t44 t45) fun t46 H =>
 p.pick t42 bT t46 fun t47 =>
 p.cond t47
 (k bF H)
 (p.call 22 (.fn 32 [] []) [a0] H fun t50 H =>
 p.call 4 (.fn 35 [] []) [t27, t50] H fun t51 H =>
 p.un .not t51 fun t52 =>
 p.cond t52
 (k bF H)
 (p.call 3 (.fn 36 [] []) [t27, (si 1)] H fun t55 H =>
 p.bin .lss t55 i0 fun t57 =>
 p.gF t57 H (p.load true 25 t7 H) fun t59 H =>
 p.gF t57 H (p.load true 25 t3 H) fun t60 H =>
 p.hF t57 H (p.call 4 (.fn 34 [] []) [t59, t60] H) fun t61 H =>
 p.gF t57 H (p.un .not t61) fun t62 H =>
 p.pick t57 bT t62 fun t63 =>
 p.kF t63 H t32 fun t65 H =>
 p.kF t63 H t24 fun t66 H =>
 p.gF t63 H (p.bin .neq t65 t66) fun t67 H =>
 p.pick t63 bT t67 fun t68 =>
 p.kF t68 H t33 fun t70 H =>
 p.kF t68 H t25 fun t71 H =>
 p.gF t68 H (p.bin .neq t70 t71) fun t72 H =>
 p.pick t68 bT t72 fun t73 =>
 p.cond t73
 (k bF H)
 (p.load true 25 t7 H fun t74 =>
 p.call 3 (.fn 37 [] []) [t74, (si 1)] H fun t76 H =>
 p.load true 25 t7 H fun t77 =>
 p.call 3 (.fn 38 [] []) [t77, (si 1)] H fun t79 H =>
 p.bin .lss t79 i0 fun t81 =>
 p.cond t81
 (k bF H)
 (p.bin .neq t79 t76 fun t84 =>
 p.cond t84
 (k bF H)
 (p.call 22 (.fn 32 [] []) [a0] H fun t87 H =>
 p.call 60 (.fn 33 [] []) [t87] H fun t88 H =>
 p.extr t88 0 fun t89 =>
 p.extr t88 1 fun t90 =>
 p.extr t88 2 fun t91 =>
 p.new E2 H fun t13 H =>
 p.store 25 t13 t89 H fun H =>
 p.load true 25 t13 H fun t92 =>
 p.load true 25 t3 H fun t93 =>
 p.call 4 (.fn 34 [] []) [t92, t93] H fun t94 H =>
 p.un .not t94 fun t95 =>
 p.kF t95 H t90 fun t97 H =>
 p.kF t95 H t24 fun t98 H =>
 p.gF t95 H (p.bin .neq t97 t98) fun t99 H =>
 p.pick t95 bT t99 fun t100 =>
 p.kF t100 H t91 fun t102 H =>
 p.kF t100 H t25 fun t103 H =>
 p.gF t100 H (p.bin .neq t102 t103) fun t104 H =>
 p.pick t100 bT t104 fun t105 =>
 p.cond t105
 (k bF H)
 (p.load true 25 t7 H fun t106 =>
 p.call 3 (.fn 38 [] []) [t106, (si 1)] H fun t108 H =>
 p.bin .lss t108 i0 fun t110 =>
 p.cond t110
 (k bF H)
 (p.bin .neq t108 t76 fun t113 =>
 p.cond t113
 (k bF H)
 (k bT H)))))))))
theorem Aic : Om fi6 @f6 := fun p n a0 H k => by kernel_rfl
noncomputable def fss : List (Option F1) := [none, none, none, none, none, none, some fi6, none, none, none, none, none, none, none, none, none, none, none, none, none, none, none, none, none, none, none, none, none, none, none, none, some Alv, some fi32, some Alw, some Alx, some fi35, some fi36, some Aly, some Alz, none, none, none, none, none, none, none, none, none, none, none, none, none, none, some fi53, some fi54, some fi55, some fi56, some fi57, some fi58, some fi59, some fi60, some Al0, some fi62, some fi63, some fi64, some Al1, some fi66, some Al2, some fi68, some Al3, some Al4, some Al5, some Al6, some fi73, some fi74, some fi75, none, some fi77, none, none, some Al7, some Al8, none, none, none, none, some Al9, some AlA, some AlB, some fi89, some AlC, some AlD, some fi92, some AlE, some AlF, some AlG, some AlH, some fi97, some AlI, some AlJ, some Ajl, some Ajm, some Ajn, some fi103, some Ajo, some Ajp, some Ajq, some Ajr, some Ajs, some Ajt, some fi110, some fi111, some fi112, some Aju, some Ajv, some fi115, none, none, some Ajw, none, none, none, none, none, none, none, some Ajx, some fi127, some fi128, some Ajy, some Ajz, some Aj0, some fi132, some fi133, some fi134, none, none, some Aj1, some fi138, some Aj2, some Aj3, some Aj4, some Aj5, some fi143, none, none, some Aj6, none, none, none, some Aj7, some Aj8]
noncomputable def tps : List (Nat × List Nat) := [(43, [32, 33]), (60, [59, 3, 3]), (68, [33, 3]), (85, [3, 3, 3]), (93, [33, 3, 3]), (108, [9, 3, 4]), (110, [3, 3, 4]), (131, [22, 3, 4]), (152, [151, 4]), (162, [21, 3]), (165, [164, 164])]
noncomputable def E0 : Ok := { ti := Au, tp := fun t => Ac0 tps t, fs := fun f => (fss[f]?).getD none, ext := fun f => if zb4 f 135 then some Yp else if zb4 f 136 then some Uz else if zb4 f 149 then some Sl else none, hm := fun f => [24, 25, 26, 36, 37, 54, 55, 56, 90, 99, 100, 101, 102, 103, 105, 129, 131, 156, 182, 183, 184, 185, 186].contains f }
noncomputable def PR (n : Nat) (β : Type) : Pr β := E3 E0 (Ej E0 n) β
abbrev On (j : Nat) (f : (β : Type) → Pr β → Nat → AV → Ad → KO β → Option β) : Prop := ∀ {β : Type} (n : Nat) (a0 : AV) (H : Ad) (k : KO β), Ej E0 (n + 1) β j [a0] H k = f β (PR n β) n a0 H k
abbrev Lm (j : Nat) (f : (β : Type) → Pr β → Nat → AV → AV → Ad → KO β → Option β) : Prop := ∀ {β : Type} (n : Nat) (a0 a1 : AV) (H : Ad) (k : KO β), Ej E0 (n + 1) β j [a0, a1] H k = f β (PR n β) n a0 a1 H k
abbrev Ce3 (j : Nat) (f : (β : Type) → Pr β → Nat → AV → AV → AV → Ad → KO β → Option β) : Prop := ∀ {β : Type} (n : Nat) (a0 a1 a2 : AV) (H : Ad) (k : KO β), Ej E0 (n + 1) β j [a0, a1, a2] H k = f β (PR n β) n a0 a1 a2 H k
theorem Akb : On 32 @f32 := fun n => AeI (PR n _) n
theorem Akq : On 61 @f61 := fun n => Afh (PR n _) n
theorem Akr : Lm 62 @f62 := fun n => Afj (PR n _) n
theorem Ak9 : Lm 88 @f88 := fun n => AfC (PR n _) n
theorem Ah3 : Lm 126 @f126 := fun n => Adg (PR n _) n
theorem Ak6 : Ce3 81 @f81 := fun n => Af9 (PR n _) n
theorem AhI : Lm 143 @f143 := fun n => Adv (PR n _) n
theorem Ah1 : On 115 @f115 := fun n => Ade (PR n _) n
theorem Ak5 : On 80 @f80 := fun n => Af8 (PR n _) n
theorem Ak8 : Lm 87 @f87 := fun n => AfB (PR n _) n
theorem Ak7 : On 86 @f86 := fun n => AfA (PR n _) n
theorem Aks : Lm 63 @f63 := fun n => Afl (PR n _) n
theorem AkB : On 90 @f90 := fun n => AfH (PR n _) n
theorem Aku : Lm 65 @f65 := fun n => Afn (PR n _) n
theorem AkA : Lm 89 @f89 := fun n => AfG (PR n _) n
theorem Ah4 : Lm 127 @f127 := fun n => Adh (PR n _) n
theorem Ah5 : On 128 @f128 := fun n => Adi (PR n _) n
theorem AkC : On 91 @f91 := fun n => AfI (PR n _) n
theorem AkD : On 92 @f92 := fun n => AfK (PR n _) n
theorem Akt : On 64 @f64 := fun n => Afm (PR n _) n
theorem AkG : Lm 95 @f95 := fun n => AfN (PR n _) n
theorem AkE : Lm 93 @f93 := fun n => AfL (PR n _) n
theorem AkF : Lm 94 @f94 := fun n => AfM (PR n _) n
theorem AkH : Lm 96 @f96 := fun n => AfO (PR n _) n
theorem AkI : Lm 97 @f97 := fun n => AfQ (PR n _) n
theorem Akv : On 66 @f66 := fun n => Afr (PR n _) n
theorem Aka : On 31 @f31 := fun n => AeG (PR n _) n
theorem AkJ : Ce3 98 @f98 := fun n => AfR (PR n _) n
theorem Akw : On 67 @f67 := fun n => Afs (PR n _) n
theorem Akx : Lm 68 @f68 := fun n => Afu (PR n _) n
theorem Ah7 : Lm 130 @f130 := fun n => Adk (PR n _) n
theorem Af7 : On 77 @f77 := fun n => Af6 (PR n _) n
theorem AhJ : Lm 146 @f146 := fun n => Adw (PR n _) n
theorem Ah6 : On 129 @f129 := fun n => Adj (PR n _) n
theorem Mg : On 101 @f101 := fun n => AcQ (PR n _) n
theorem Ahn : On 100 @f100 := fun n => AcP (PR n _) n
theorem Aho : On 102 @f102 := fun n => AcR (PR n _) n
theorem AkK : Lm 99 @f99 := fun n => AfS (PR n _) n
theorem Ah8 : On 131 @f131 := fun n => Adl (PR n _) n
theorem Ahp : Lm 103 @f103 := fun n => AcS (PR n _) n
theorem Aky : Lm 69 @f69 := fun n => Afv (PR n _) n
theorem Ahr : On 105 @f105 := fun n => AcU (PR n _) n
theorem Ak0 : Lm 71 @f71 := fun n => Afx (PR n _) n
theorem Ah9 : Lm 132 @f132 := fun n => Adm (PR n _) n
theorem AhA : Lm 133 @f133 := fun n => Adn (PR n _) n
theorem AhB : Lm 134 @f134 := fun n => Ado (PR n _) n
theorem Ahq : Lm 104 @f104 := fun n => AcT (PR n _) n
theorem AhC : On 137 @f137 := fun n => Adp (PR n _) n
theorem Ahu : On 108 @f108 := fun n => AcX (PR n _) n
theorem Aht : On 107 @f107 := fun n => AcW (PR n _) n
theorem Ah2 : On 118 @f118 := fun n => Adf (PR n _) n
theorem Ahs : On 106 @f106 := fun n => AcV (PR n _) n
theorem Ahv : On 109 @f109 := fun n => AcY (PR n _) n
theorem AhK : Lm 150 @f150 := fun n => Adx (PR n _) n
theorem AhD : On 138 @f138 := fun n => Adq (PR n _) n
theorem Ahw : On 110 @f110 := fun n => AcZ (PR n _) n
theorem Akz : On 70 @f70 := fun n => Afw (PR n _) n
theorem AhF : Lm 140 @f140 := fun n => Ads (PR n _) n
theorem AhH : Lm 142 @f142 := fun n => Adu (PR n _) n
theorem AhG : Lm 141 @f141 := fun n => Adt (PR n _) n
theorem AhL : Lm 151 @f151 := fun n => Ady (PR n _) n
theorem AhE : On 139 @f139 := fun n => Adr (PR n _) n
theorem Ahx : On 111 @f111 := fun n => Ada (PR n _) n
theorem Ahz : On 113 @f113 := fun n => Adc (PR n _) n
theorem Ahy : Lm 112 @f112 := fun n => Adb (PR n _) n
theorem Ak1 : On 72 @f72 := fun n => Afy (PR n _) n
theorem Akc : On 33 @f33 := fun n => AeJ (PR n _) n
theorem Ake : Lm 35 @f35 := fun n => AeM (PR n _) n
theorem Ah0 : Lm 114 @f114 := fun n => Add (PR n _) n
theorem Ak2 : Lm 73 @f73 := fun n => Af0 (PR n _) n
theorem Ak3 : Lm 74 @f74 := fun n => Af2 (PR n _) n
theorem Ak4 : Lm 75 @f75 := fun n => Af4 (PR n _) n
theorem Akd : Lm 34 @f34 := fun n => AeK (PR n _) n
theorem Akf : Lm 36 @f36 := fun n => AeO (PR n _) n
theorem Aki : On 53 @f53 := fun n => AeS (PR n _) n
theorem Akj : Lm 54 @f54 := fun n => AeU (PR n _) n
theorem Akk : Lm 55 @f55 := fun n => AeW (PR n _) n
theorem Akl : Lm 56 @f56 := fun n => AeY (PR n _) n
theorem Akg : Lm 37 @f37 := fun n => AeP (PR n _) n
theorem Akm : Lm 57 @f57 := fun n => Afa (PR n _) n
theorem Akn : Lm 58 @f58 := fun n => Afc (PR n _) n
theorem Ako : Lm 59 @f59 := fun n => Afe (PR n _) n
theorem Akp : Lm 60 @f60 := fun n => Afg (PR n _) n
theorem Akh : Lm 38 @f38 := fun n => AeQ (PR n _) n
theorem Alu : On 6 @f6 := fun n => Aic (PR n _) n
end
section
open Go Go.Shelf Go.RowKit Go.Lib Go.Proofs
variable {P : Program} {ρ : Ren}
def ItAt (w w' : World) (s : ByteArray) (pos : Nat) : Prop := Below w.heap.size w w' ∧ w'.heap[w.heap.size]? = some (.stringIter s pos)
def Tz (w' : World) (a : Nat) (s : ByteArray) (pos : Nat) : World := { w' with heap := w'.heap.setIfInBounds a (.stringIter s pos) }
theorem Ab1 (w : World) (s : ByteArray) (pos : Nat) : ItAt w (w.iter s pos) s pos := ⟨(Below.refl _ w).alloc (zam _) _, World.iter_heap w s pos⟩
theorem ItAt.lt {w w' : World} {s : ByteArray} {pos : Nat} (h : ItAt w w' s pos) : w.heap.size < w'.heap.size := by
 have := h.2
 simp only [za8] at this
 exact this.1
theorem ItAt.set {w w' : World} {s : ByteArray} {pos : Nat} (h : ItAt w w' s pos) (pos' : Nat) : ItAt w (Tz w' w.heap.size s pos') s pos' := by
 refine ⟨h.1.trans ⟨rfl, rfl, rfl, by simp [Tz], fun k hk => ?_⟩, ?_⟩
 ·simp only [Tz]
  rw [zb1 (by omega)]
 ·simp only [Tz]
  rw [Array.getElem?_setIfInBounds_self_of_lt h.lt]
theorem ItAt.below {w w1 w2 : World} {s : ByteArray} {pos : Nat} (h : ItAt w w1 s pos) (hb : Below w1.heap.size w1 w2) : ItAt w w2 s pos :=
 ⟨h.1.trans (hb.mono h.1.size), by rw [hb.block _ h.lt]; exact h.2⟩
theorem AiB {w w' : World} {s : ByteArray} {pos : Nat} (h : ItAt w w' s pos) (hp : pos < s.size) (ty : TypeId) :
  (Instr.next (.pointer (some ⟨w.heap.size, 0, none⟩)) true ty).run P w' = .ok (.tuple #[.bool true, .int .i64 pos, .int .i32 (Utf8.decode s pos).1]) (Tz w' w.heap.size s (pos + (Utf8.decode s pos).2)) := by
 simp only [Instr.next, getObj, setObj, Sem.run_bind, Sem.run, h.2, Result.andThen, hp, if_true]
 simp [goInt, Tz]
theorem Agw {w w' : World} {s : ByteArray} {pos : Nat} (h : ItAt w w' s pos) (hp : ¬ pos < s.size) (ty : TypeId) :
  (Instr.next (.pointer (some ⟨w.heap.size, 0, none⟩)) true ty).run P w' = .ok (.tuple #[.bool false]) w' := by
 simp [Instr.next, getObj, Sem.run, h.2, hp]
theorem AiS (s : ByteArray) (pos : Nat) : (Utf8.decode s pos).1 < 55296 ∨ (57343 < (Utf8.decode s pos).1 ∧ (Utf8.decode s pos).1 ≤ 1114111) := by
 rw [← Lib.decodeL_drop, Lib.decodeL_N]
 exact Lib.decodeN_valid _ _ _ _ _ (UInt8.toNat_lt _)
theorem AiK : phB.size = 2 := rfl
set_option maxHeartbeats 8000000 in
set_option maxRecDepth 1000000 in
theorem AgB (L : Lays.n152 P ρ) (r : Nat) (rs : ByteArray) (w : World) (h1 : 128 ≤ r) (hv : r < 55296 ∨ (57343 < r ∧ r ≤ 1114111)) (he : ¬ r = 65533) (hcv : ∀ w, (convert (ρ.t 21) (ρ.t 9) (.int .i32 r)).run P w = .ok (.string rs) w)
  (hs2 : 2 ≤ rs.size) (hs4 : rs.size ≤ 4) (hsl : rs.size = 2 → ∀ h : 1 < rs.size, 128 ≤ (rs[1]'h).toNat) :
  Calls P (ρ.f 152) #[.string phB, .int .i32 r] w fun e w' => e = .returned (.int .i64 (-1)) ∧ Below w.heap.size w w' := by
 have cV : ∀ w, Calls P (ρ.f 119) #[.int .i32 r] w _ := fun w => Any.utf8_ValidRune { L with } r w
 have cI : ∀ s c w, Calls P (ρ.f 137) #[.string s, .int .u8 c] w _ := fun s c w => Any.strings_IndexByte { L with } s c w
 have mixed := L.mixed
 have t3 := L.t3; have a3 := L.a3; have z3 := L.z3; have v3 := L.v3
 have t4 := L.t4; have a4 := L.a4; have z4 := L.z4; have v4 := L.v4
 have t5 := L.t5; have a5 := L.a5; have z5 := L.z5; have v5 := L.v5
 have t9 := L.t9; have a9 := L.a9; have z9 := L.z9; have v9 := L.v9
 have t21 := L.t21; have a21 := L.a21; have z21 := L.z21; have v21 := L.v21
 have e137 : ∀ args w, (callFunc (ρ.f 137) args).run P w = .ok (.enter (ρ.f 137) args) w := enters_of L.f137 (by kernel_rfl) rfl
 have e119 : ∀ args w, (callFunc (ρ.f 119) args).run P w = .ok (.enter (ρ.f 119) args) w := enters_of L.f119 (by kernel_rfl) rfl
 have hge : decide ((0 : Int) ≤ (r : Int)) = true := by simp
 have hlt : decide ((r : Int) < 128) = false := by simp; omega
 have bel : ∀ pos, Below w.heap.size w (w.iter phB pos) := fun pos => (Below.refl _ w).alloc (zam _) _
 have hne : ((r : Int) == 65533) = false := by simp; omega
 have hvr : Lib.validRune (r : Int) = true := by simp [Lib.validRune]; omega
 go_enter L.f152, Body.n152_ntmps ρ
 go_wp2_with (first
  | (go_at_fn (ρ.f 119); refine (cV _).mono ?_; rintro e w' ⟨rfl, hw⟩; rw [hw, hvr])
  | (go_at_fn (ρ.f 137); refine (cI _ _ _).mono ?_; rintro e w' ⟨rfl, hw⟩; rw [hw]))
 go_step3
 go_wp2
 go_loopg [9, 10] 1 (fun g i fl wx => g = 1 ∧ i = .int .i64 ((rs.size : Int) - 1) ∧ fl = .int .i64 0 ∧ wx = w)
 case atStart => exact ⟨rfl, rfl, rfl, rfl⟩
 case round =>
  obtain ⟨-, rfl, rfl, rfl⟩ := hrel
  by_cases h3 : 3 ≤ rs.size
  ·have hlt : decide ((rs.size : Int) - 1 < (phB.size : Int)) = false := by rw [AiK]; simp; omega
   go_wp2
   try rw [Exit.noGoto_ret]
   go_ret
   exact ⟨rfl, Below.refl _ _⟩
  ·have h2 : rs.size = 2 := by omega
   have hi1 : ((rs.size : Int) - 1) = 1 := by omega
   have hi : 1 < rs.size := by omega
   have hp : 1 < phB.size := by decide
   obtain ⟨x, hx⟩ : ∃ x : UInt8, rs[1]'hi = x := ⟨_, rfl⟩
   have hx128 : 128 ≤ x.toNat := by
    rw [← hx]
    exact hsl h2 hi
   have hp1 : phB[1]'hp = 35 := rfl
   have hlt : decide ((1 : Int) < (phB.size : Int)) = true := rfl
   have hne35 : (((35 : UInt8).toNat : Int) != (x.toNat : Int)) = true := by simp; omega
   have hib : Lib.indexByte (List.take (phB.size - 2) (List.drop 2 phB.data.toList)) x = -1 := rfl
   rw [hi1]
   clear hsl hs2 hs4
   go_wp2
   go_step3
   go_wp2
   go_region_o
   all_goals
    go_wp2
    go_region_with_o (go_at_fn (ρ.f 137); refine (cI _ _ _).mono ?_; rintro e w' ⟨rfl, hw⟩; rw [hw])
   all_goals
    go_wp2
    simp only [Exit.inBlock, Exit.then, Exit.noGoto]
    go_ret
    exact ⟨rfl, (Below.refl _ _).drew.drew⟩
set_option maxHeartbeats 8000000 in
set_option maxRecDepth 1000000 in
theorem AiT (L : Lays.n152 P ρ) (r : Nat) (w : World) (h1 : 128 ≤ r) (hv : r < 55296 ∨ (57343 < r ∧ r ≤ 1114111)) :
  Calls P (ρ.f 152) #[.string phB, .int .i32 r] w fun e w' => e = .returned (.int .i64 (-1)) ∧ Below w.heap.size w w' := by
 have cV : ∀ w, Calls P (ρ.f 119) #[.int .i32 r] w _ := fun w => Any.utf8_ValidRune { L with } r w
 have cI : ∀ s c w, Calls P (ρ.f 137) #[.string s, .int .u8 c] w _ := fun s c w => Any.strings_IndexByte { L with } s c w
 have t3 := L.t3; have a3 := L.a3; have z3 := L.z3; have v3 := L.v3
 have t4 := L.t4; have a4 := L.a4; have z4 := L.z4; have v4 := L.v4
 have t5 := L.t5; have a5 := L.a5; have z5 := L.z5; have v5 := L.v5
 have t9 := L.t9; have a9 := L.a9; have z9 := L.z9; have v9 := L.v9
 have t21 := L.t21; have a21 := L.a21; have z21 := L.z21; have v21 := L.v21
 have e137 : ∀ args w, (callFunc (ρ.f 137) args).run P w = .ok (.enter (ρ.f 137) args) w := enters_of L.f137 (by kernel_rfl) rfl
 have e119 : ∀ args w, (callFunc (ρ.f 119) args).run P w = .ok (.enter (ρ.f 119) args) w := enters_of L.f119 (by kernel_rfl) rfl
 have hge : decide ((0 : Int) ≤ (r : Int)) = true := by simp
 have hlt : decide ((r : Int) < 128) = false := by simp; omega
 have bel : ∀ pos, Below w.heap.size w (w.iter phB pos) := fun pos => (Below.refl _ w).alloc (zam _) _
 by_cases he : r = 65533
 ·subst he
  go_enter L.f152, Body.n152_ntmps ρ
  go_wp2
  go_loopg [5, 6] 2 (fun g _ _ wx => ∃ i : Nat, i + g = 2 ∧ wx = w.iter phB i)
  case atStart => exact ⟨0, by omega, rfl⟩
  case round =>
   obtain ⟨i, hig, rfl⟩ := hrel
   cases gk with
   | zero =>
    obtain rfl : i = 2 := by omega
    have hnx := fun ty => run_next_end (P := P) w phB 2 ty (by decide)
    go_wp2
    go_ret
    exact ⟨rfl, bel _⟩
   | succ g =>
    have hi : i < phB.size := by
     show i < 2
     omega
    have hx : (phB[i]'hi).toNat < 64 := by
     have : ∀ q : Fin 2, (phB[q.val]'q.isLt).toNat < 64 := by decide
     exact this ⟨i, hi⟩
    have hnx := fun ty => run_next_ascii (P := P) w phB i ty hi (by omega)
    generalize (phB[i]'hi).toNat = x at hnx hx
    have hxe : ((x : Int) == 65533) = false := by simp; omega
    go_wp2
    go_roundg g
    case measure => omega
    case rel => exact ⟨i + 1, by omega, rfl⟩
 ·obtain ⟨hs2, hs4, hsl⟩ := encode_facts (r : Int) (by simp [Utf8.valid]; omega) (by omega)
  refine AgB L r (Utf8.encode r) w h1 hv he (fun w => run_convert_int_string w _ _ _ _ (by rw [t21]; rfl) t9) hs2 hs4 ?_
  intro h2 hi
  have := hsl (by omega)
  simp only [h2] at this
  exact this
theorem AjY (l : List UInt8) (h : 128 ≤ (l.getD 0 0).toNat) : 128 ≤ (Lib.decodeL l).1 ∧ ∀ j, j < (Lib.decodeL l).2 → 128 ≤ (l.getD j 0).toNat := by
 rw [Lib.decodeL_N]
 generalize hn : l.length = n
 generalize h0 : (l.getD 0 0).toNat = b0 at h ⊢
 generalize h1 : (l.getD 1 0).toNat = b1
 generalize h2 : (l.getD 2 0).toNat = b2
 generalize h3 : (l.getD 3 0).toNat = b3
 have key : ∀ q, q ≤ 4 → (q = 2 → 128 ≤ b1) → (q = 3 → 128 ≤ b1 ∧ 128 ≤ b2) → (q = 4 → 128 ≤ b1 ∧ 128 ≤ b2 ∧ 128 ≤ b3) → ∀ j, j < q → 128 ≤ (l.getD j 0).toNat := by
  intro q hq k2 k3 k4 j hj
  have : j = 0 ∨ j = 1 ∨ j = 2 ∨ j = 3 := by omega
  rcases this with rfl | rfl | rfl | rfl
  ·rw [h0]; exact h
  ·rw [h1]; omega
  ·rw [h2]; omega
  ·rw [h3]; omega
 unfold Lib.decodeN
 rw [if_neg (by omega)]
 repeat' split
 all_goals
  refine ⟨?_, key _ ?_ ?_ ?_ ?_⟩ <;> simp only <;> omega
def phL (l : List UInt8) : Bool := l.any fun c => c == 43 || c == 35
theorem Aa5 : ∀ (k : Nat) (l : List UInt8), (∀ j, j < k → 128 ≤ (l.getD j 0).toNat) → phL l = phL (l.drop k)
 | 0, l, _ => rfl
 | k + 1, [], _ => by simp
 | k + 1, b :: l, h => by
  have h0 : 128 ≤ b.toNat := h 0 (by omega)
  have ih := Aa5 k l fun j hj => h (j + 1) (by omega)
  have e1 : (b == 43) = false := by
   rw [beq_eq_false_iff_ne]
   rintro rfl
   simp at h0
  have e2 : (b == 35) = false := by
   rw [beq_eq_false_iff_ne]
   rintro rfl
   simp at h0
  show (List.any (b :: l) _) = _
  rw [zbB, e1, e2, Bool.or_self, zaB, List.drop_succ_cons]
  exact ih
theorem Ag3 (l : List UInt8) (hne : l ≠ []) : phL l = (((Lib.decodeL l).1 == 43 || (Lib.decodeL l).1 == 35) || phL (l.drop (Lib.decodeL l).2)) := by
 cases l with
 | nil => exact absurd rfl hne
 | cons b l =>
  by_cases hb : 128 ≤ b.toNat
  ·obtain ⟨h1, h2⟩ := AjY (b :: l) hb
   have e1 : ((Lib.decodeL (b :: l)).1 == 43) = false := by simp; omega
   have e2 : ((Lib.decodeL (b :: l)).1 == 35) = false := by simp; omega
   rw [e1, e2, Bool.or_self, zaB]
   exact Aa5 _ _ h2
  ·have e : Lib.decodeL (b :: l) = (b.toNat, 1) := by
    rw [Lib.decodeL_N]
    unfold Lib.decodeN
    rw [if_pos (by simpa using hb)]
    rfl
   rw [e]
   show List.any (b :: l) _ = _
   rw [zbB, List.drop_succ_cons, zaT]
   have e1 : (b == 43) = (b.toNat == 43) := by
    rw [zb8, beq_iff_eq, beq_iff_eq, ← UInt8.toNat_inj]; rfl
   have e2 : (b == 35) = (b.toNat == 35) := by
    rw [zb8, beq_iff_eq, beq_iff_eq, ← UInt8.toNat_inj]; rfl
   rw [e1, e2]
   rfl
theorem Ac2 (s : ByteArray) : phL s.data.toList = vPH s := AaN _ _ _
theorem Ahg (r : Nat) (h : r < 128) : decide (0 ≤ Lib.indexByte phB.data.toList r.toUInt8) = (r == 43 || r == 35) := by
 have : ∀ q : Fin 128, decide (0 ≤ Lib.indexByte phB.data.toList (q.val).toUInt8) = (q.val == 43 || q.val == 35) := by decide
 exact this ⟨r, h⟩
set_option maxHeartbeats 8000000 in
set_option maxRecDepth 1000000 in
theorem AgE (L : Lays.n153 P ρ) (s : ByteArray) (w : World) (h8 : s.size ≤ 8) :
  Calls P (ρ.f 153) #[.string s, .string phB] w fun e w' => (∃ z : Int, e = .returned (.int .i64 z) ∧ decide (0 ≤ z) = phL s.data.toList) ∧ Below w.heap.size w w' := by
 have cA : ∀ (r : Nat) w, r < 128 → ∃ z : Int, decide (0 ≤ z) = (r == 43 || r == 35) ∧ Calls P (ρ.f 152) #[.string phB, .int .i32 r] w fun e w' => e = .returned (.int .i64 z) ∧ w' = w := fun r w h => ⟨_, Ahg r h, Any.strings_IndexRune_ascii { L with } phB r w (by omega) (by omega)⟩
 have cR : ∀ (r : Nat) w, 128 ≤ r → r < 55296 ∨ (57343 < r ∧ r ≤ 1114111) → Calls P (ρ.f 152) #[.string phB, .int .i32 r] w _ := fun r w h h' => AiT { L with } r w h h'
 have hemp : phB.toList.isEmpty = false := by rw [Lib.toList_data]; rfl
 have hn1 : ((phB.size : Int) == 1) = false := rfl
 have h8z : decide ((8 : Int) < (s.size : Int)) = false := decide_eq_false (by omega)
 have t3 := L.t3; have a3 := L.a3; have z3 := L.z3; have v3 := L.v3
 have t4 := L.t4; have a4 := L.a4; have z4 := L.z4; have v4 := L.v4
 have t5 := L.t5; have a5 := L.a5; have z5 := L.z5; have v5 := L.v5
 have t9 := L.t9; have a9 := L.a9; have z9 := L.z9; have v9 := L.v9
 have t21 := L.t21; have a21 := L.a21; have z21 := L.z21; have v21 := L.v21
 have e152 : ∀ args w, (callFunc (ρ.f 152) args).run P w = .ok (.enter (ρ.f 152) args) w := enters_of L.f152 (by kernel_rfl) rfl
 have e226 : ∀ args w, (callFunc (ρ.f 226) args).run P w = .ok (.enter (ρ.f 226) args) w := enters_of L.f226 (by kernel_rfl) rfl
 go_enter L.f153, Body.n153_ntmps ρ
 go_wp2_with (go_at_fn (ρ.f 226); refine (Any.strings_shouldUseASCIISet { L with } _ _).mono ?_; rintro e w' ⟨rfl, hw⟩; rw [hw, h8z])
 go_loopg [9, 10] s.size (fun g _ _ wx => ∃ pos : Nat, s.size ≤ pos + g ∧ ItAt w wx s pos ∧ phL (s.data.toList.drop pos) = phL s.data.toList)
 case atStart => exact ⟨0, by omega, Ab1 w s 0, by simp⟩
 case round =>
  obtain ⟨pos, hpg, hit, hph⟩ := hrel
  have HIT : Aside (ItAt w wr s pos) := hit
  have HPH : Aside (phL (s.data.toList.drop pos) = phL s.data.toList) := hph
  by_cases hp : pos < s.size
  ·obtain ⟨g, rfl⟩ : ∃ g, gk = g + 1 := ⟨gk - 1, by omega⟩
   have hnx := fun ty => AiB (P := P) hit hp ty
   have hne : s.data.toList.drop pos ≠ [] := by
    intro h
    have := congrArg List.length h
    simp at this
    omega
   have hst := Ag3 _ hne
   rw [Lib.decodeL_drop, hph, zbp] at hst
   have hwd : 1 ≤ (Utf8.decode s pos).2 := by rw [← Lib.decodeL_drop s pos]; exact Lib.decodeL_width _
   have hru := AiS s pos
   have HIT2 : Aside (ItAt w (Tz wr w.heap.size s (pos + (Utf8.decode s pos).2)) s (pos + (Utf8.decode s pos).2)) := hit.set _
   clear hit hph
   generalize hr : (Utf8.decode s pos).1 = r at hnx hst hru
   have HST : Aside (phL s.data.toList = ((r == 43 || r == 35) || phL (s.data.toList.drop (pos + (Utf8.decode s pos).2)))) := hst
   clear hst
   by_cases h128 : r < 128
   ·obtain ⟨z, hz, cz⟩ := cA r (Tz wr w.heap.size s (pos + (Utf8.decode s pos).2)) h128
    clear cA
    cases hin : (r == 43 || r == 35)
    ·rw [hin] at hz
     have hlt : ¬ ((0 : Int) ≤ z) := of_decide_eq_false hz
     clear hz
     go_wp2_with (go_at_fn (ρ.f 152); refine cz.mono ?_; rintro e w' ⟨rfl, hw⟩; rw [hw])
     go_roundg g
     case measure => omega
     case rel => exact ⟨_, by omega, HIT2.out, by rw [HST.out, hin, zaB]⟩
    ·rw [hin] at hz
     have hge : (0 : Int) ≤ z := of_decide_eq_true hz
     clear hz
     go_wp2_with (go_at_fn (ρ.f 152); refine cz.mono ?_; rintro e w' ⟨rfl, hw⟩; rw [hw])
     go_ret
     exact ⟨⟨_, rfl, by rw [HST.out, hin, zbe]; simp⟩, HIT2.out.1⟩
   ·have hin : (r == 43 || r == 35) = false := by simp; omega
    go_wp2_with (go_at_fn (ρ.f 152); refine (cR r _ (by omega) hru).mono ?_; rintro e w' ⟨rfl, hw⟩)
    go_roundg g
    case measure => omega
    case rel => exact ⟨_, by omega, HIT2.out.below hw, by rw [HST.out, hin, zaB]⟩
  ·have hnx := fun ty => Agw (P := P) hit hp ty
   have hnil : s.data.toList.drop pos = [] := by
    apply zb5
    simp
    omega
   rw [hnil] at hph
   go_wp2
   go_ret
   exact ⟨⟨_, rfl, by rw [← hph]; rfl⟩, HIT.out.1⟩
theorem Agi (L : Lays.n153 P ρ) (hv116 : ∀ w, (zeroValue (ρ.t 116)).run P w = .ok (.agg (zb0 256 (.bool false))) w) (hi116 : (P.info? (ρ.t 116)).map (·.size) = some 256) (s : ByteArray) (w : World) (hs : s.size < 4294967281) :
  Calls P (ρ.f 153) #[.string s, .string phB] w fun e w' => (∃ z : Int, e = .returned (.int .i64 z) ∧ decide (0 ≤ z) = phL s.data.toList) ∧ Below w.heap.size w w' := by
 by_cases h8 : s.size ≤ 8
 ·exact AgE L s w h8
 ·refine (Any.strings_IndexAny_long L hv116 hi116 s phB w (by decide) (by omega) hs (by decide) ?_).mono fun e w' ⟨h1, h2⟩ => ⟨⟨_, h1, ?_⟩, ?_⟩
  ·intro j b hb
   have : phB.data.toList = [43, 35] := rfl
   rw [this] at hb
   match j, hb with
   | 0, hb => cases hb; decide
   | 1, hb => cases hb; decide
  ·have := AkS s
   rw [Ac2, ← this]
   rfl
  ·rw [h2]
   exact ((Below.refl _ _).alloc (zam _) _).alloc (by simp) _
set_option maxHeartbeats 1000000 in
theorem Z7 (L : Lays.n150 P ρ) (hv116 : ∀ w, (zeroValue (ρ.t 116)).run P w = .ok (.agg (zb0 256 (.bool false))) w) (hi116 : (P.info? (ρ.t 116)).map (·.size) = some 256) (s : ByteArray) (w : World) (hs : s.size < 4294967281) :
  Calls P (ρ.f 150) #[.string s, .string phB] w fun e w' => e = .returned (.bool (vPH s)) ∧ Below w.heap.size w w' := by
 have c := Agi { L with } hv116 hi116 s w hs
 have t3 := L.t3; have a3 := L.a3; have z3 := L.z3; have v3 := L.v3
 have t4 := L.t4; have a4 := L.a4; have z4 := L.z4; have v4 := L.v4
 have t9 := L.t9; have a9 := L.a9; have z9 := L.z9; have v9 := L.v9
 have e153 : ∀ args w, (callFunc (ρ.f 153) args).run P w = .ok (.enter (ρ.f 153) args) w := enters_of L.f153 (by kernel_rfl) rfl
 go_enter L.f150, Body.n150_ntmps ρ
 go_wp2_with (go_at_fn (ρ.f 153); refine c.mono ?_; rintro e w' ⟨⟨z, rfl, hz⟩, hw⟩)
 go_ret
 refine ⟨?_, hw⟩
 rw [← Ac2, ← hz]
 rfl
end
end Go.Proofs.YtlcpigdmekgajaaGreatDoor.Abs
