/- What the proof needs, part 2: a sound evaluator over trees, the program's functions on it, and what they come to. -/
import Derived.Test.YtlcpigdmekgajaaGreatDoorMoa
import Derived.Lib.SplitLaws
import Derived.Lib.IndexAny
import Derived.Lib.ValidLaws
import Derived.Test.YtlcpigdmekgajaaGreatDoorProg
import Derived.KernelRfl
set_option linter.unusedVariables false
set_option linter.unusedSimpArgs false
namespace Go.Proofs.YtlcpigdmekgajaaGreatDoor.Abs
open _root_.Bool renaming false_eq_true → zaa, false_or → zaC
open _root_.List renaming length_singleton → zaq, map_cons → zat, any_cons → zbB, map_map → zbK
open _root_.Nat renaming le_refl → zap, add_zero → zba, beq → zb7, add_comm → zbE
section
open Go
def lvL : List UInt8 → List UInt8 → List (List UInt8)
 | cur, [] => [cur]
 | cur, b :: l => if b = 47 then cur :: lvL [] l else lvL (cur ++ [b]) l
def ofL (l : List UInt8) : ByteArray := ⟨l.toArray⟩
def Bm (s : ByteArray) : List ByteArray := (lvL [] s.data.toList).map ofL
def I1 (s : ByteArray) (b : UInt8) : Bool := s.data.toList.any fun c => c == b
def vPH (s : ByteArray) : Bool := I1 s 43 || I1 s 35
def W1 : ByteArray := ⟨#[47]⟩
def phB : ByteArray := ⟨#[43, 35]⟩
def Pm (c : List UInt8) : List (List UInt8) → List (List UInt8)
 | [] => [c]
 | h :: t => (c ++ h) :: t
theorem Xx {X : List (List UInt8)} (h : X ≠ []) : Pm [] X = X := by
 cases X with
 | nil => exact absurd rfl h
 | cons h t => rfl
theorem Aar (a b : List UInt8) {X : List (List UInt8)} (h : X ≠ []) : Pm a (Pm b X) = Pm (a ++ b) X := by
 cases X with
 | nil => exact absurd rfl h
 | cons h t => simp [Pm]
theorem Tu (sep : List UInt8) (k : Nat) (l : List UInt8) : Lib.splitK sep 0 k l ≠ [] := by
 cases k with
 | zero => simp [Lib.splitK]
 | succ k =>
  unfold Lib.splitK
  split <;> simp
theorem AgX (l : List UInt8) : Lib.index (47 :: l) [47] = 0 := by
 unfold Lib.index
 simp
theorem AgY (b : UInt8) (l : List UInt8) (h : b ≠ 47) : Lib.index (b :: l) [47] = if Lib.index l [47] == -1 then -1 else Lib.index l [47] + 1 := by
 rw [Lib.index]
 rw [if_neg]
 simpa using fun h' => h h'.symm
theorem W8 (b : UInt8) (h : b ≠ 47) (k : Nat) (l : List UInt8) : Lib.splitK [47] 0 k (b :: l) = Pm [b] (Lib.splitK [47] 0 k l) := by
 cases k with
 | zero => rfl
 | succ k =>
  have hge := Lib.index_ge l [47]
  unfold Lib.splitK
  rw [AgY b l h]
  by_cases hi : Lib.index l [47] = -1
  ·simp [hi, Pm]
  ·have e1 : (Lib.index l [47] == -1) = false := by simpa using hi
   have e2 : (Lib.index l [47] + 1 == -1) = false := by simp; omega
   have e3 : (Lib.index l [47] + 1).toNat = (Lib.index l [47]).toNat + 1 := by omega
   simp only [e1, e2, e3, zaa, if_false, Pm, zba, zaq]
   rw [show (Lib.index l [47]).toNat + 1 + 1 = ((Lib.index l [47]).toNat + 1) + 1 from rfl, List.drop_succ_cons, List.take_succ_cons]
   rfl
theorem Tk : ∀ (l cur : List UInt8), lvL cur l = Pm cur (Lib.splitK [47] 0 (Lib.count l [47]) l)
 | [], cur => by
  have e : Lib.count [] [47] = 0 := by rw [Lib.count_one]; rfl
  rw [e]
  simp [lvL, Lib.splitK, Pm]
 | b :: l, cur => by
  rw [lvL]
  by_cases h : b = 47
  ·subst h
   rw [if_pos rfl, Tk l [], Lib.count_cons_eq, zbE, Lib.splitK, AgX]
   rw [Xx (Tu _ _ _)]
   simp [Pm]
  ·rw [if_neg h, Tk l (cur ++ [b]), Lib.count_cons_ne _ _ _ h, W8 b h, Aar _ _ (Tu _ _ _)]
theorem AaG (s : ByteArray) : ofL s.data.toList = s := by
 cases s
 rfl
theorem AjC (l : List ByteArray) : (l.map (·.data.toList)).map ofL = l := by
 rw [zbK]
 conv => rhs; rw [← List.map_id l]
 exact List.map_congr_left fun s _ => AaG s
theorem S8 (s : ByteArray) : Lib.splitB W1 0 (Lib.countB s W1) s = Bm s := by
 have h := Lib.splitB_data W1 0 (Lib.countB s W1) s
 rw [← AjC (Lib.splitB W1 0 (Lib.countB s W1) s), h, Bm, Tk, Xx (Tu _ _ _)]
 rfl
theorem AbU (s : ByteArray) : (Bm s).length = Lib.countB s W1 + 1 := by
 rw [← S8]
 exact Lib.splitB_all W1 (zap _) 0 _ s rfl
theorem Si (chars : List UInt8) : ∀ l : List UInt8, decide (0 ≤ Lib.indexAny l chars) = l.any fun c => chars.contains c
 | [] => rfl
 | b :: l => by
  have ih := Si chars l
  have hge := Lib.indexAny_ge chars l
  rw [Lib.indexAny, zbB, ← ih]
  by_cases h : chars.contains b = true
  ·rw [if_pos h, h]
   simp
  ·rw [if_neg h]
   have h' : chars.contains b = false := by simpa using h
   rw [h', zaC]
   by_cases hi : Lib.indexAny l chars = -1
   ·rw [hi]
    rfl
   ·rw [if_neg (by simpa using hi)]
    congr 1
    simp
    omega
theorem Abl {α : Type} (p q : α → Bool) : ∀ l : List α, (l.any fun c => p c || q c) = (l.any p || l.any q)
 | [] => rfl
 | x :: l => by
  rw [zbB, zbB, zbB, Abl p q l]
  cases p x <;> cases q x <;> simp
theorem Amn (s : ByteArray) : Lib.containsAny s.data.toList phB.data.toList = vPH s := by
 unfold Lib.containsAny vPH I1
 rw [Si, ← Abl]
 congr 1
 funext c
 simp [phB]
 rfl
end
section
open Go
def Qc : Nat → List UInt8 → Bool
 | 0, _ => true
 | n + 1, l => if l = [] then true else if (Lib.decodeL l).1 = 65533 ∧ (Lib.decodeL l).2 = 1 then false else if (Lib.decodeL l).1 = 0 then false else Qc n (l.drop (Lib.decodeL l).2)
def Bd (s : ByteArray) : Bool := decide (s.size ≤ 60) && Qc s.size s.data.toList
def Ze (ty : Nat) (vs : List AV) : Option AV :=
 match vs with
 | [.sc (.string s)] => if s.size ≤ maxLen then some (.sc (.bool (Bd s))) else none
 | _ => none
def Vl (ty : Nat) (vs : List AV) : Option AV :=
 match vs with
 | [.sc (.string s), .sc (.string c)] => if c.data.toList = [43, 35] ∧ s.size < 4294967281 then some (.sc (.bool (vPH s))) else none
 | _ => none
def Tg (ty : Nat) (vs : List AV) : Option AV :=
 match vs with
 | [.sc (.string s), .sc (.string c)] => if ty = 56 ∧ c.data.toList = [47] ∧ s.size < 4294967281 then some (.ro (Bm s).length ((Bm s).map fun x => .sc (.string x))) else none
 | _ => none
end
end Go.Proofs.YtlcpigdmekgajaaGreatDoor.Abs
set_option maxRecDepth 100000
namespace Go.Proofs.YtlcpigdmekgajaaGreatDoor.Abs
open _root_.Bool renaming false_eq_true → zaa, false_or → zaC
open _root_.List renaming length_singleton → zaq, map_cons → zat, any_cons → zbB, map_map → zbK
open _root_.Nat renaming le_refl → zap, add_zero → zba, beq → zb7, add_comm → zbE
section
open Go
variable {β : Type} (p : Pr β)
noncomputable def tis : List (Option TI) := [none,
 none,
 some ⟨false, false, 1, 8, [(.int .i64 0)], 0, [], some .i64, false, false, [2], false⟩,
 some ⟨false, false, 1, 8, [(.int .i64 0)], 0, [], some .i64, false, false, [3], false⟩,
 some ⟨false, false, 1, 1, [(.bool false)], 0, [], none, false, true, [4], false⟩,
 some ⟨false, false, 1, 1, [(.int .u8 0)], 0, [], some .u8, false, false, [5], false⟩,
 some ⟨false, false, 1, 1, [(.int .u8 0)], 0, [], some .u8, false, false, [6], false⟩,
 none,
 none,
 some ⟨false, false, 1, 16, [(.string ⟨#[]⟩)], 0, [], none, true, false, [9], false⟩,
 some ⟨false, false, 1, 16, [(.string ⟨#[]⟩)], 0, [], none, true, false, [10], false⟩,
 some ⟨false, false, 1, 16, [(.string ⟨#[]⟩)], 0, [], none, true, false, [11], false⟩,
 some ⟨false, false, 1, 8, [(.int .u64 0)], 0, [], some .u64, false, false, [12], false⟩,
 none,
 none,
 none,
 none,
 none,
 none,
 none,
 none,
 some ⟨false, false, 1, 4, [(.int .i32 0)], 0, [], some .i32, false, false, [21], false⟩,
 some ⟨false, true, 1, 24, [(.slice none 0 0)], 5, [], none, false, false, [22], false⟩,
 none,
 some ⟨true, false, 2, 32, [(.slice none 0 0), (.bool false)], 0, [(0, 22), (1, 4)], none, false, false, [22, 4], false⟩,
 some ⟨false, true, 1, 24, [(.slice none 0 0)], 102, [], none, false, false, [25], false⟩,
 none,
 some ⟨true, false, 4, 56, [(.string ⟨#[]⟩), (.slice none 0 0), (.int .i64 0), (.bool false)], 0, [(0, 9), (1, 22), (2, 3), (3, 4)], none, false, false, [9, 22, 3, 4], false⟩,
 none,
 some ⟨true, false, 16, 208, [(.bool false), (.int .i64 0), (.slice none 0 0), (.bool false), (.slice none 0 0), (.bool false), (.string ⟨#[]⟩), (.int .i64 0), (.int .i64 0), (.bool false), (.string ⟨#[]⟩), (.slice none 0 0), (.int .i64 0), (.bool false), (.bool false), (.slice none 0 0)], 0, [(0, 4), (1, 3), (2, 24), (4, 25), (5, 4), (6, 9), (7, 3), (8, 3), (9, 4), (10, 27), (14, 4), (15, 22)], none, false, false, [4, 3, 22, 4, 25, 4, 9, 3, 3, 4, 9, 22, 3, 4, 4, 22], false⟩,
 none,
 none,
 some ⟨true, false, 2, 32, [(.slice none 0 0), (.bool false)], 0, [(0, 22), (1, 4)], none, false, false, [22, 4], false⟩,
 some ⟨false, true, 1, 24, [(.slice none 0 0)], 59, [], none, false, false, [33], false⟩,
 some ⟨true, false, 4, 56, [(.string ⟨#[]⟩), (.slice none 0 0), (.int .i64 0), (.bool false)], 0, [(0, 9), (1, 22), (2, 3), (3, 4)], none, false, false, [9, 22, 3, 4], false⟩,
 none,
 some ⟨true, false, 16, 208, [(.bool false), (.int .i64 0), (.slice none 0 0), (.bool false), (.slice none 0 0), (.bool false), (.string ⟨#[]⟩), (.int .i64 0), (.int .i64 0), (.bool false), (.string ⟨#[]⟩), (.slice none 0 0), (.int .i64 0), (.bool false), (.bool false), (.slice none 0 0)], 0, [(0, 4), (1, 3), (2, 32), (4, 33), (5, 4), (6, 9), (7, 3), (8, 3), (9, 4), (10, 34), (14, 4), (15, 22)], none, false, false, [4, 3, 22, 4, 33, 4, 9, 3, 3, 4, 9, 22, 3, 4, 4, 22], false⟩,
 none,
 none,
 none,
 some ⟨false, true, 1, 24, [(.slice none 0 0)], 22, [], none, false, false, [40], false⟩,
 none,
 none,
 none,
 none,
 none,
 none,
 none,
 none,
 none,
 none,
 none,
 none,
 none,
 none,
 some ⟨false, true, 1, 24, [(.slice none 0 0)], 105, [], none, false, false, [55], false⟩,
 some ⟨false, true, 1, 24, [(.slice none 0 0)], 9, [], none, false, false, [56], false⟩,
 some ⟨false, true, 1, 24, [(.slice none 0 0)], 3, [], none, false, false, [57], false⟩,
 none,
 some ⟨true, false, 25, 320, [(.int .i64 0), (.bool false), (.int .i64 0), (.bool false), (.int .i64 0), (.string ⟨#[]⟩), (.slice none 0 0), (.string ⟨#[]⟩), (.int .i64 0), (.bool false), (.int .i64 0), (.bool false), (.string ⟨#[]⟩), (.slice none 0 0), (.int .i64 0), (.bool false), (.bool false), (.string ⟨#[]⟩), (.bool false), (.slice none 0 0), (.int .i64 0), (.bool false), (.slice none 0 0), (.slice none 0 0), (.slice none 0 0)], 0, [(0, 3), (1, 4), (2, 3), (3, 4), (4, 3), (5, 9), (6, 22), (7, 9), (8, 3), (9, 4), (10, 3), (11, 4), (12, 9), (13, 22), (14, 3), (15, 4), (16, 4), (17, 9), (18, 4), (19, 22), (20, 3), (21, 4), (22, 55), (23, 56), (24, 57)], none, false, false, [3, 4, 3, 4, 3, 9, 22, 9, 3, 4, 3, 4, 9, 22, 3, 4, 4, 9, 4, 22, 3, 4, 55, 56, 57], false⟩,
 none,
 none,
 none,
 none,
 none,
 none,
 none,
 none,
 none,
 none,
 none,
 none,
 none,
 none,
 none,
 none,
 none,
 none,
 none,
 none,
 none,
 none,
 none,
 none,
 none,
 none,
 none,
 none,
 none,
 none,
 none,
 none,
 none,
 none,
 none,
 none,
 none,
 none,
 none,
 none,
 some ⟨false, true, 1, 24, [(.slice none 0 0)], 139, [], none, false, false, [100], false⟩,
 none,
 some ⟨true, false, 25, 320, [(.int .i64 0), (.bool false), (.int .i64 0), (.bool false), (.int .i64 0), (.string ⟨#[]⟩), (.slice none 0 0), (.string ⟨#[]⟩), (.int .i64 0), (.bool false), (.int .i64 0), (.bool false), (.string ⟨#[]⟩), (.slice none 0 0), (.int .i64 0), (.bool false), (.bool false), (.string ⟨#[]⟩), (.bool false), (.slice none 0 0), (.int .i64 0), (.bool false), (.slice none 0 0), (.slice none 0 0), (.slice none 0 0)], 0, [(0, 3), (1, 4), (2, 3), (3, 4), (4, 3), (5, 9), (6, 22), (7, 9), (8, 3), (9, 4), (10, 3), (11, 4), (12, 9), (13, 22), (14, 3), (15, 4), (16, 4), (17, 9), (18, 4), (19, 22), (20, 3), (21, 4), (22, 100), (23, 56), (24, 57)], none, false, false, [3, 4, 3, 4, 3, 9, 22, 9, 3, 4, 3, 4, 9, 22, 3, 4, 4, 9, 4, 22, 3, 4, 100, 56, 57], false⟩,
 none,
 none,
 some ⟨true, false, 2, 24, [(.string ⟨#[]⟩), (.int .i64 0)], 0, [(0, 9), (1, 3)], none, false, false, [9, 3], true⟩,
 none,
 none,
 none,
 none,
 none,
 none,
 none,
 none,
 none,
 none,
 none,
 none,
 none,
 some ⟨true, false, 3, 40, [(.slice none 0 0), (.int .i64 0), (.bool false)], 0, [(0, 22), (1, 3), (2, 4)], none, false, false, [22, 3, 4], false⟩,
 none,
 none,
 none,
 none,
 none,
 none,
 none,
 none,
 none,
 none,
 none,
 none,
 none,
 none,
 none,
 none,
 none,
 none,
 none,
 some ⟨true, false, 2, 24, [(.string ⟨#[]⟩), (.int .i64 0)], 0, [(0, 9), (1, 3)], none, false, false, [9, 3], false⟩]
noncomputable def A6 (f : Func) : Code := match f.body with | some c => c | none => .skip
noncomputable def c47 : Code := A6 Tryz.f47
noncomputable def c15 : Code := A6 Tryz.f15
noncomputable def Aoz : Code := A6 Tryz.f144
noncomputable def AkR : Code := A6 Tryz.f120
noncomputable def AkS : Code := A6 Tryz.f121
noncomputable def Aop : Code := A6 Tryz.f122
noncomputable def c84 : Code := A6 Tryz.f84
noncomputable def c45 : Code := A6 Tryz.f45
noncomputable def c46 : Code := A6 Tryz.f46
noncomputable def c10 : Code := A6 Tryz.f10
noncomputable def c32 : Code := A6 Tryz.f32
noncomputable def c18 : Code := A6 Tryz.f18
noncomputable def Ao0 : Code := A6 Tryz.f145
noncomputable def AkT : Code := A6 Tryz.f123
noncomputable def AkU : Code := A6 Tryz.f124
noncomputable def AkV : Code := A6 Tryz.f125
noncomputable def c85 : Code := A6 Tryz.f85
noncomputable def c48 : Code := A6 Tryz.f48
noncomputable def c49 : Code := A6 Tryz.f49
noncomputable def c12 : Code := A6 Tryz.f12
noncomputable def c78 : Code := A6 Tryz.f78
noncomputable def c81 : Code := A6 Tryz.f81
noncomputable def c90 : Code := A6 Tryz.f90
noncomputable def c65 : Code := A6 Tryz.f65
noncomputable def c89 : Code := A6 Tryz.f89
noncomputable def Alc : Code := A6 Tryz.f143
noncomputable def AkQ : Code := A6 Tryz.f115
noncomputable def c80 : Code := A6 Tryz.f80
noncomputable def AkW : Code := A6 Tryz.f127
noncomputable def AkX : Code := A6 Tryz.f128
noncomputable def c91 : Code := A6 Tryz.f91
noncomputable def c92 : Code := A6 Tryz.f92
noncomputable def c64 : Code := A6 Tryz.f64
noncomputable def c61 : Code := A6 Tryz.f61
noncomputable def c62 : Code := A6 Tryz.f62
noncomputable def c88 : Code := A6 Tryz.f88
noncomputable def Aoq : Code := A6 Tryz.f126
noncomputable def c87 : Code := A6 Tryz.f87
noncomputable def c86 : Code := A6 Tryz.f86
noncomputable def c63 : Code := A6 Tryz.f63
noncomputable def c95 : Code := A6 Tryz.f95
noncomputable def c93 : Code := A6 Tryz.f93
noncomputable def c94 : Code := A6 Tryz.f94
noncomputable def c96 : Code := A6 Tryz.f96
noncomputable def c97 : Code := A6 Tryz.f97
noncomputable def c66 : Code := A6 Tryz.f66
noncomputable def c31 : Code := A6 Tryz.f31
noncomputable def c29 : Code := A6 Tryz.f29
noncomputable def c79 : Code := A6 Tryz.f79
noncomputable def c43 : Code := A6 Tryz.f43
noncomputable def c71 : Code := A6 Tryz.f71
noncomputable def Aol : Code := A6 Tryz.f116
noncomputable def Aom : Code := A6 Tryz.f117
noncomputable def c98 : Code := A6 Tryz.f98
noncomputable def Aon : Code := A6 Tryz.f118
noncomputable def Aou : Code := A6 Tryz.f137
noncomputable def Aoh : Code := A6 Tryz.f108
noncomputable def Aog : Code := A6 Tryz.f107
noncomputable def Aoo : Code := A6 Tryz.f119
noncomputable def c83 : Code := A6 Tryz.f83
noncomputable def c82 : Code := A6 Tryz.f82
noncomputable def Aoe : Code := A6 Tryz.f105
noncomputable def AkY : Code := A6 Tryz.f132
noncomputable def AkZ : Code := A6 Tryz.f133
noncomputable def Ala : Code := A6 Tryz.f134
noncomputable def Aod : Code := A6 Tryz.f104
noncomputable def Aof : Code := A6 Tryz.f106
noncomputable def Aoi : Code := A6 Tryz.f109
noncomputable def Ao2 : Code := A6 Tryz.f150
noncomputable def Alb : Code := A6 Tryz.f138
noncomputable def Va : Code := A6 Tryz.f110
noncomputable def c70 : Code := A6 Tryz.f70
noncomputable def c67 : Code := A6 Tryz.f67
noncomputable def c68 : Code := A6 Tryz.f68
noncomputable def Aos : Code := A6 Tryz.f130
noncomputable def c77 : Code := A6 Tryz.f77
noncomputable def Ao1 : Code := A6 Tryz.f146
noncomputable def Aor : Code := A6 Tryz.f129
noncomputable def Aob : Code := A6 Tryz.f101
noncomputable def Aoa : Code := A6 Tryz.f100
noncomputable def Aoc : Code := A6 Tryz.f102
noncomputable def c99 : Code := A6 Tryz.f99
noncomputable def Aot : Code := A6 Tryz.f131
noncomputable def AmJ : Code := A6 Tryz.f103
noncomputable def c69 : Code := A6 Tryz.f69
noncomputable def Aow : Code := A6 Tryz.f140
noncomputable def Aoy : Code := A6 Tryz.f142
noncomputable def Aox : Code := A6 Tryz.f141
noncomputable def Ao3 : Code := A6 Tryz.f151
noncomputable def Aov : Code := A6 Tryz.f139
noncomputable def Vb : Code := A6 Tryz.f111
noncomputable def Aoj : Code := A6 Tryz.f113
noncomputable def AkP : Code := A6 Tryz.f112
noncomputable def c72 : Code := A6 Tryz.f72
noncomputable def c33 : Code := A6 Tryz.f33
noncomputable def c30 : Code := A6 Tryz.f30
noncomputable def c44 : Code := A6 Tryz.f44
noncomputable def c35 : Code := A6 Tryz.f35
noncomputable def c21 : Code := A6 Tryz.f21
noncomputable def Aok : Code := A6 Tryz.f114
noncomputable def c73 : Code := A6 Tryz.f73
noncomputable def c74 : Code := A6 Tryz.f74
noncomputable def c75 : Code := A6 Tryz.f75
noncomputable def c34 : Code := A6 Tryz.f34
noncomputable def c22 : Code := A6 Tryz.f22
noncomputable def c50 : Code := A6 Tryz.f50
noncomputable def c14 : Code := A6 Tryz.f14
noncomputable def c9 : Code := A6 Tryz.f9
noncomputable def c11 : Code := A6 Tryz.f11
noncomputable def c13 : Code := A6 Tryz.f13
noncomputable def c3 : Code := A6 Tryz.f3
noncomputable def o89 : List (Nat × PI) := [(6, PI.of [0, 1, 2, 3, 4, 5, 6, 7, 8, 9, 10]), (11, PI.of [0, 1, 2, 3, 4, 5, 6, 7, 8, 9, 10]), (16, PI.of [0, 1, 2, 3, 4, 5, 6, 7, 8, 9, 10])]
noncomputable def o64 : List (Nat × PI) := [(1, .one 0 (.one 1 (.one 2 (.one 3 (.one 4 (.one 6 (.two 5 (PI.of [7, 8, 9, 10]) 7 (PI.of [5, 8, 9, 10]))))))))]
noncomputable def o88 : List (Nat × PI) := [(3, PI.of [0, 1, 2, 3, 4, 5, 6, 7, 8, 9, 10, 11, 12, 13, 14, 15, 16, 17])]
noncomputable def o63 : List (Nat × PI) := [(36, PI.of [0, 1, 2, 3, 4, 5, 6, 7, 8, 9, 10]), (46, PI.of [0, 1, 2, 3, 4, 5, 6, 7, 8, 9, 10, 11, 12])]
noncomputable def o66 : List (Nat × PI) := [(7, .one 0 (.one 2 (.one 3 (.one 4 (.two 1 (PI.of [5, 6, 7]) 5 (PI.of [1, 6, 7])))))), (8, PI.of [0, 1, 2, 4, 5, 8, 9, 10, 12, 13, 16, 17, 20, 21, 3, 6, 7, 11, 14, 15, 18, 19, 22, 23, 24, 25, 26, 27]), (9, PI.of [0, 1, 2, 4, 5, 3, 6, 7]), (11, PI.of [0, 1, 2, 4, 5, 3, 6, 7]), (17, PI.of [0, 1, 2, 5, 6, 7, 3, 4, 8, 9, 10]), (19, PI.of [0, 1, 2, 5, 6, 7, 9, 10, 3, 4, 8, 11, 12, 13]), (33, .one 0 (.one 1 (.one 2 (.one 3 (.one 4 (.one 5 (.one 6 (.one 8 (.one 9 (.one 10 (.one 11 (.one 12 (.one 13 (.one 14 (.two 7 (PI.of [15, 16, 17]) 15 (PI.of [7, 16, 17]))))))))))))))))]
noncomputable def o31 : List (Nat × PI) := [(12, .one 0 (.one 1 (.one 2 (.one 3 (.one 4 (.one 5 (.one 6 (.one 7 (.one 8 (.one 9 (.two 10 (PI.of [11, 12]) 11 (PI.of [10, 12])))))))))))), (13, PI.of [0, 1, 2, 3, 4, 6, 7, 8, 9, 10, 5, 11, 12, 13])]
noncomputable def AoA : List (Nat × PI) := [(4, .one 0 (.one 1 (.one 2 (.one 4 (.one 6 (.one 8 (.one 10 (.one 12 (.ld 3 (.ld 5 (.ld 7 (.ld 9 (.ld 11 (.st 13 3 (.one 14 (.st 15 3 (.one 16 (.st 17 3 (.one 18 (.st 19 3 (.one 20 (.st 21 3 (PI.of [22, 23]))))))))))))))))))))))), (6, .one 0 (.one 1 (.one 2 (.one 4 (.one 6 (.one 8 (.ld 3 (.ld 5 (.ld 7 (.st 9 3 (.one 10 (.st 11 3 (.one 12 (.st 13 3 (PI.of [14, 15]))))))))))))))), (8, .one 0 (.one 1 (.one 2 (.one 4 (.ld 3 (.st 5 3 (PI.of [6, 7]))))))), (12, .one 0 (.one 1 (.one 2 (.one 4 (.ld 3 (.st 5 3 (PI.of [6, 7]))))))), (14, .one 0 (.one 1 (.one 2 (.one 4 (.one 6 (.one 8 (.ld 3 (.ld 5 (.ld 7 (.st 9 3 (.one 10 (.st 11 3 (.one 12 (.st 13 3 (PI.of [14, 15]))))))))))))))), (16, .one 0 (.one 1 (.one 2 (.one 4 (.ld 3 (.st 5 3 (PI.of [6, 7]))))))), (24, .one 0 (.one 1 (.one 2 (.one 4 (.ld 3 (.st 5 3 (PI.of [6, 7]))))))), (26, .one 0 (.one 1 (.one 2 (.one 4 (.ld 3 (.st 5 3 (PI.of [6, 7]))))))), (28, .one 0 (.one 1 (.one 2 (.one 4 (.ld 3 (.st 5 3 (PI.of [6, 7])))))))]
noncomputable def Amu : List (Nat × PI) := [(6, PI.of [0, 1, 2, 3, 4, 5, 6, 7, 8])]
noncomputable def Amv : List (Nat × PI) := [(6, PI.of [0, 1, 2, 3, 4, 5, 6, 7, 8])]
noncomputable def Amw : List (Nat × PI) := [(6, PI.of [0, 1, 2, 3, 4, 5, 6, 7, 8])]
noncomputable def o70 : List (Nat × PI) := [(1, .one 0 (.one 1 (.one 2 (.one 3 (.one 4 (.one 6 (.two 5 (PI.of [7, 8, 9, 10]) 7 (PI.of [5, 8, 9, 10]))))))))]
noncomputable def AoD : List (Nat × PI) := [(3, PI.of [0, 1, 2, 3, 4, 5, 6, 7, 8, 9, 10, 11, 12, 13, 14, 15, 16, 17])]
noncomputable def AoC : List (Nat × PI) := [(1, PI.of [0, 1, 2, 3, 4, 5, 6, 7, 8, 9, 10, 11, 12, 13, 14, 15])]
noncomputable def Ao8 : List (Nat × PI) := [(1, PI.of [0, 1, 2, 3, 4, 5, 6, 7, 8, 9, 10, 11, 12, 13, 14, 15]), (5, PI.of [0, 1, 2, 3, 4, 5, 6, 7, 8, 9, 10, 11, 12])]
noncomputable def Ao9 : List (Nat × PI) := [(1, PI.of [0, 1, 2, 3, 4, 5, 6, 7, 8, 9, 10, 11, 12, 13, 14, 15])]
noncomputable def AoE : List (Nat × PI) := [(1, PI.of [0, 1, 2, 3, 4, 5, 6, 7, 8, 9, 10, 11, 12, 13, 14, 15, 16, 17])]
noncomputable def AnI : List (Nat × PI) := [(0, PI.of [0, 1, 2, 3, 4, 5, 6, 7, 8, 9, 10, 11, 12, 13, 14, 15, 16, 17, 18, 19, 20, 21]), (7, PI.of [0, 1, 2, 3, 4, 5, 6, 7, 8, 9, 10])]
noncomputable def AoF : List (Nat × PI) := [(1, PI.of [0, 1, 3, 4, 7, 8, 9, 11, 12, 15, 16, 19, 20, 2, 5, 6, 10, 13, 14, 17, 18, 21, 22, 23]), (2, .one 1 (.one 2 (.one 3 (.one 4 (.one 5 (.two 0 (PI.of [6, 7, 8]) 6 (PI.of [0, 7, 8]))))))), (3, PI.of [0, 1, 2, 4, 5, 3, 6, 7]), (5, PI.of [0, 1, 2, 4, 5, 3, 6, 7])]
noncomputable def Wj : List (Nat × PI) := [(6, PI.of [0, 1, 4, 5, 6, 2, 3, 7, 8]), (20, .one 0 (.one 1 (.one 2 (.one 4 (.one 5 (.one 6 (.two 3 (PI.of [7, 8, 9]) 7 (PI.of [3, 8, 9]))))))))]
noncomputable def AoB : List (Nat × PI) := [(4, PI.of [0, 1, 2, 4, 5, 6, 8, 9, 3, 7, 10, 11, 12, 13])]
noncomputable def o33 : List (Nat × PI) := [(12, .one 0 (.one 1 (.one 2 (.one 3 (.one 4 (.one 5 (.one 6 (.one 7 (.one 8 (.one 9 (.two 10 (PI.of [11, 12]) 11 (PI.of [10, 12])))))))))))), (13, PI.of [0, 1, 2, 3, 4, 6, 7, 8, 9, 10, 5, 11, 12, 13])]
noncomputable def o35 : List (Nat × PI) := [(6, PI.of [0, 1, 2, 3, 4, 5, 6, 7, 8])]
noncomputable def o73 : List (Nat × PI) := [(6, PI.of [0, 1, 2, 3, 4, 5, 6, 7, 8, 9])]
noncomputable def o74 : List (Nat × PI) := [(6, PI.of [0, 1, 2, 3, 4, 5, 6, 7, 8])]
noncomputable def o75 : List (Nat × PI) := [(6, PI.of [0, 1, 2, 3, 4, 5, 6, 7, 8])]
noncomputable def o22 : List (Nat × PI) := [(6, PI.of [0, 1, 2, 3, 4, 5, 6, 7, 8, 9])]
noncomputable def o9 : List (Nat × PI) := [(10, PI.of [0, 1, 2, 3, 4])]
noncomputable def o3 : List (Nat × PI) := [(10, PI.of [0, 1, 2, 3, 4])]
noncomputable abbrev Ana : E3 := ⟨c47, 12, Tryz.f47.results.toList, []⟩
noncomputable abbrev AmR : E3 := ⟨c15, 12, Tryz.f15.results.toList, []⟩
noncomputable abbrev Ak6 : E3 := ⟨Aoz, 13, Tryz.f144.results.toList, []⟩
noncomputable abbrev fi120 : E3 := ⟨AkR, 27, Tryz.f120.results.toList, []⟩
noncomputable abbrev fi121 : E3 := ⟨AkS, 28, Tryz.f121.results.toList, []⟩
noncomputable abbrev Akw : E3 := ⟨Aop, 12, Tryz.f122.results.toList, []⟩
noncomputable abbrev Anq : E3 := ⟨c84, 70, Tryz.f84.results.toList, []⟩
noncomputable abbrev fi45 : E3 := ⟨c45, 27, Tryz.f45.results.toList, []⟩
noncomputable abbrev AmZ : E3 := ⟨c46, 19, Tryz.f46.results.toList, []⟩
noncomputable abbrev AmM : E3 := ⟨c10, 37, Tryz.f10.results.toList, []⟩
noncomputable abbrev fi32 : E3 := ⟨c32, 22, Tryz.f32.results.toList, []⟩
noncomputable abbrev AmS : E3 := ⟨c18, 12, Tryz.f18.results.toList, []⟩
noncomputable abbrev Ak7 : E3 := ⟨Ao0, 11, Tryz.f145.results.toList, []⟩
noncomputable abbrev fi123 : E3 := ⟨AkT, 23, Tryz.f123.results.toList, []⟩
noncomputable abbrev fi124 : E3 := ⟨AkU, 22, Tryz.f124.results.toList, []⟩
noncomputable abbrev fi125 : E3 := ⟨AkV, 22, Tryz.f125.results.toList, []⟩
noncomputable abbrev Anr : E3 := ⟨c85, 86, Tryz.f85.results.toList, []⟩
noncomputable abbrev fi48 : E3 := ⟨c48, 23, Tryz.f48.results.toList, []⟩
noncomputable abbrev Anb : E3 := ⟨c49, 18, Tryz.f49.results.toList, []⟩
noncomputable abbrev AmO : E3 := ⟨c12, 45, Tryz.f12.results.toList, []⟩
noncomputable abbrev Ank : E3 := ⟨c78, 22, Tryz.f78.results.toList, []⟩
noncomputable abbrev Ann : E3 := ⟨c81, 15, Tryz.f81.results.toList, []⟩
noncomputable abbrev Anv : E3 := ⟨c90, 120, Tryz.f90.results.toList, []⟩
noncomputable abbrev Ane : E3 := ⟨c65, 10, Tryz.f65.results.toList, []⟩
noncomputable abbrev fi89 : E3 := ⟨c89, 239, Tryz.f89.results.toList, o89⟩
noncomputable abbrev fi143 : E3 := ⟨Alc, 104, Tryz.f143.results.toList, []⟩
noncomputable abbrev fi115 : E3 := ⟨AkQ, 35, Tryz.f115.results.toList, []⟩
noncomputable abbrev Anm : E3 := ⟨c80, 6, Tryz.f80.results.toList, []⟩
noncomputable abbrev fi127 : E3 := ⟨AkW, 17, Tryz.f127.results.toList, []⟩
noncomputable abbrev fi128 : E3 := ⟨AkX, 33, Tryz.f128.results.toList, []⟩
noncomputable abbrev Anw : E3 := ⟨c91, 25, Tryz.f91.results.toList, []⟩
noncomputable abbrev fi92 : E3 := ⟨c92, 57, Tryz.f92.results.toList, []⟩
noncomputable abbrev fi64 : E3 := ⟨c64, 191, Tryz.f64.results.toList, o64⟩
noncomputable abbrev And : E3 := ⟨c61, 37, Tryz.f61.results.toList, []⟩
noncomputable abbrev fi62 : E3 := ⟨c62, 55, Tryz.f62.results.toList, []⟩
noncomputable abbrev Anu : E3 := ⟨c88, 31, Tryz.f88.results.toList, o88⟩
noncomputable abbrev Akx : E3 := ⟨Aoq, 43, Tryz.f126.results.toList, []⟩
noncomputable abbrev Ant : E3 := ⟨c87, 28, Tryz.f87.results.toList, []⟩
noncomputable abbrev Ans : E3 := ⟨c86, 168, Tryz.f86.results.toList, []⟩
noncomputable abbrev fi63 : E3 := ⟨c63, 186, Tryz.f63.results.toList, o63⟩
noncomputable abbrev An0 : E3 := ⟨c95, 17, Tryz.f95.results.toList, []⟩
noncomputable abbrev Anx : E3 := ⟨c93, 17, Tryz.f93.results.toList, []⟩
noncomputable abbrev Anz : E3 := ⟨c94, 7, Tryz.f94.results.toList, []⟩
noncomputable abbrev An1 : E3 := ⟨c96, 17, Tryz.f96.results.toList, []⟩
noncomputable abbrev fi97 : E3 := ⟨c97, 29, Tryz.f97.results.toList, []⟩
noncomputable abbrev fi66 : E3 := ⟨c66, 204, Tryz.f66.results.toList, o66⟩
noncomputable abbrev AmW : E3 := ⟨c31, 70, Tryz.f31.results.toList, o31⟩
noncomputable abbrev AmU : E3 := ⟨c29, 24, Tryz.f29.results.toList, []⟩
noncomputable abbrev Anl : E3 := ⟨c79, 17, Tryz.f79.results.toList, []⟩
noncomputable abbrev fi43 : E3 := ⟨c43, 157, Tryz.f43.results.toList, []⟩
noncomputable abbrev Ani : E3 := ⟨c71, 10, Tryz.f71.results.toList, []⟩
noncomputable abbrev Aks : E3 := ⟨Aol, 31, Tryz.f116.results.toList, []⟩
noncomputable abbrev Akt : E3 := ⟨Aom, 9, Tryz.f117.results.toList, []⟩
noncomputable abbrev An2 : E3 := ⟨c98, 15, Tryz.f98.results.toList, []⟩
noncomputable abbrev Aku : E3 := ⟨Aon, 5, Tryz.f118.results.toList, []⟩
noncomputable abbrev Ak1 : E3 := ⟨Aou, 5, Tryz.f137.results.toList, []⟩
noncomputable abbrev Ako : E3 := ⟨Aoh, 20, Tryz.f108.results.toList, []⟩
noncomputable abbrev Akn : E3 := ⟨Aog, 5, Tryz.f107.results.toList, []⟩
noncomputable abbrev Akv : E3 := ⟨Aoo, 17, Tryz.f119.results.toList, []⟩
noncomputable abbrev Anp : E3 := ⟨c83, 53, Tryz.f83.results.toList, []⟩
noncomputable abbrev Ano : E3 := ⟨c82, 52, Tryz.f82.results.toList, []⟩
noncomputable abbrev Akl : E3 := ⟨Aoe, 121, Tryz.f105.results.toList, AoA⟩
noncomputable abbrev fi132 : E3 := ⟨AkY, 26, Tryz.f132.results.toList, Amu⟩
noncomputable abbrev fi133 : E3 := ⟨AkZ, 26, Tryz.f133.results.toList, Amv⟩
noncomputable abbrev fi134 : E3 := ⟨Ala, 26, Tryz.f134.results.toList, Amw⟩
noncomputable abbrev Akk : E3 := ⟨Aod, 186, Tryz.f104.results.toList, []⟩
noncomputable abbrev Akm : E3 := ⟨Aof, 50, Tryz.f106.results.toList, []⟩
noncomputable abbrev Akp : E3 := ⟨Aoi, 5, Tryz.f109.results.toList, []⟩
noncomputable abbrev Ak9 : E3 := ⟨Ao2, 19, Tryz.f150.results.toList, []⟩
noncomputable abbrev fi138 : E3 := ⟨Alb, 35, Tryz.f138.results.toList, []⟩
noncomputable abbrev fi110 : E3 := ⟨Va, 65, Tryz.f110.results.toList, []⟩
noncomputable abbrev Anh : E3 := ⟨c70, 81, Tryz.f70.results.toList, o70⟩
noncomputable abbrev Anf : E3 := ⟨c67, 39, Tryz.f67.results.toList, []⟩
noncomputable abbrev fi68 : E3 := ⟨c68, 52, Tryz.f68.results.toList, []⟩
noncomputable abbrev Akz : E3 := ⟨Aos, 31, Tryz.f130.results.toList, AoD⟩
noncomputable abbrev fi77 : E3 := ⟨c77, 18, Tryz.f77.results.toList, []⟩
noncomputable abbrev Ak8 : E3 := ⟨Ao1, 42, Tryz.f146.results.toList, []⟩
noncomputable abbrev Aky : E3 := ⟨Aor, 35, Tryz.f129.results.toList, AoC⟩
noncomputable abbrev Aki : E3 := ⟨Aob, 6, Tryz.f101.results.toList, []⟩
noncomputable abbrev Akh : E3 := ⟨Aoa, 41, Tryz.f100.results.toList, Ao8⟩
noncomputable abbrev Akj : E3 := ⟨Aoc, 35, Tryz.f102.results.toList, Ao9⟩
noncomputable abbrev An3 : E3 := ⟨c99, 92, Tryz.f99.results.toList, []⟩
noncomputable abbrev Ak0 : E3 := ⟨Aot, 20, Tryz.f131.results.toList, AoE⟩
noncomputable abbrev fi103 : E3 := ⟨AmJ, 83, Tryz.f103.results.toList, AnI⟩
noncomputable abbrev Ang : E3 := ⟨c69, 77, Tryz.f69.results.toList, []⟩
noncomputable abbrev Ak3 : E3 := ⟨Aow, 7, Tryz.f140.results.toList, []⟩
noncomputable abbrev Ak5 : E3 := ⟨Aoy, 16, Tryz.f142.results.toList, []⟩
noncomputable abbrev Ak4 : E3 := ⟨Aox, 19, Tryz.f141.results.toList, []⟩
noncomputable abbrev AkA : E3 := ⟨Ao3, 18, Tryz.f151.results.toList, []⟩
noncomputable abbrev Ak2 : E3 := ⟨Aov, 65, Tryz.f139.results.toList, AoF⟩
noncomputable abbrev fi111 : E3 := ⟨Vb, 96, Tryz.f111.results.toList, Wj⟩
noncomputable abbrev Akq : E3 := ⟨Aoj, 31, Tryz.f113.results.toList, AoB⟩
noncomputable abbrev fi112 : E3 := ⟨AkP, 29, Tryz.f112.results.toList, []⟩
noncomputable abbrev Anj : E3 := ⟨c72, 19, Tryz.f72.results.toList, []⟩
noncomputable abbrev AmX : E3 := ⟨c33, 73, Tryz.f33.results.toList, o33⟩
noncomputable abbrev AmV : E3 := ⟨c30, 26, Tryz.f30.results.toList, []⟩
noncomputable abbrev fi44 : E3 := ⟨c44, 44, Tryz.f44.results.toList, []⟩
noncomputable abbrev fi35 : E3 := ⟨c35, 26, Tryz.f35.results.toList, o35⟩
noncomputable abbrev AmT : E3 := ⟨c21, 16, Tryz.f21.results.toList, []⟩
noncomputable abbrev Akr : E3 := ⟨Aok, 15, Tryz.f114.results.toList, []⟩
noncomputable abbrev fi73 : E3 := ⟨c73, 27, Tryz.f73.results.toList, o73⟩
noncomputable abbrev fi74 : E3 := ⟨c74, 26, Tryz.f74.results.toList, o74⟩
noncomputable abbrev fi75 : E3 := ⟨c75, 26, Tryz.f75.results.toList, o75⟩
noncomputable abbrev AmY : E3 := ⟨c34, 136, Tryz.f34.results.toList, []⟩
noncomputable abbrev fi22 : E3 := ⟨c22, 27, Tryz.f22.results.toList, o22⟩
noncomputable abbrev Anc : E3 := ⟨c50, 26, Tryz.f50.results.toList, []⟩
noncomputable abbrev AmQ : E3 := ⟨c14, 69, Tryz.f14.results.toList, []⟩
noncomputable abbrev fi9 : E3 := ⟨c9, 27, Tryz.f9.results.toList, o9⟩
noncomputable abbrev AmN : E3 := ⟨c11, 33, Tryz.f11.results.toList, []⟩
noncomputable abbrev AmP : E3 := ⟨c13, 33, Tryz.f13.results.toList, []⟩
noncomputable abbrev fi3 : E3 := ⟨c3, 31, Tryz.f3.results.toList, o3⟩
abbrev uu : AV := .sc undef
noncomputable def tf : Nat → Nat → (Nat → AV) → Tm
 | 0, _, _ => []
 | n + 1, i, t => (i, t i) :: tf n (i + 1) t
noncomputable def ut : Nat → AV := fun _ => uu
noncomputable def ud : List (Nat × AV) → (Nat → AV) → Nat → AV
 | [], t, i => t i
 | (j, v) :: r, t, i => match zb7 j i with
  | true => v
  | false => ud r t i
theorem Abb : ∀ (n i : Nat) (t : Nat → AV), tf n i t = (List.range' i n).map fun j => (j, t j)
 | 0, _, _ => rfl
 | n + 1, i, t => by
  rw [tf, Abb n (i + 1) t, List.range'_succ, zat]
theorem Amt (nt : Nat) (tm : Tm) : nrm nt tm = tf nt 0 (fun i => gt tm i) := by
 rw [Abb, nrm, List.range_eq_range']
theorem Bq {nt m : Nat} {body : Tm → Ac → (Ex → Tm → Ac → Option β) → Option β} {c c' : Ex → Tm → Ac → Option β} {g : (Nat → AV) → Ac → Option β} {tm : Tm} {H : Ac} (h : ∀ t H, Dw nt body c m (tf nt 0 t) H = g t H) (hc : c = c') : Dw nt body c (m + 1) tm H = body tm H (Eg (fun tm H => g (fun i => gt tm i) H) c') := by
 have e : (fun tm H => Dw nt body c m (nrm nt tm) H) = fun tm H => g (fun i => gt tm i) H := by
  funext tm H
  rw [Amt, h]
 rw [Dw, e, hc]
noncomputable def As (t : Nat) : Option TI := (tis[t]?).getD none
noncomputable def cd : Code → List Nat → Code
 | c, [] => c
 | .seq a b, i :: p => cd (if i = 0 then a else b) p
 | .cond _ a b, i :: p => cd (if i = 1 then a else b) p
 | .block _ a, _ :: p => cd a p
 | .loop a, _ :: p => cd a p
 | c, _ => c
abbrev Kv (i : E3) (f : (β : Type) → Pr β → Nat → AV → Ac → KO β → Option β) : Prop := ∀ {β : Type} (p : Pr β) (n : Nat) (a0 : AV) (H : Ac) (k : KO β), Cj As p n i [a0] H k = f β p n a0 H k
abbrev Kb (i : E3) (f : (β : Type) → Pr β → Nat → AV → AV → Ac → KO β → Option β) : Prop := ∀ {β : Type} (p : Pr β) (n : Nat) (a0 a1 : AV) (H : Ac) (k : KO β), Cj As p n i [a0, a1] H k = f β p n a0 a1 H k
abbrev Bd3 (i : E3) (f : (β : Type) → Pr β → Nat → AV → AV → AV → Ac → KO β → Option β) : Prop := ∀ {β : Type} (p : Pr β) (n : Nat) (a0 a1 a2 : AV) (H : Ac) (k : KO β), Cj As p n i [a0, a1, a2] H k = f β p n a0 a1 a2 H k
noncomputable def f47 (n : Nat) (a0 a1 : AV) (H : Ac) (k : KO β) : Option β :=
 p.len a0 fun t7 =>
 p.bin .sub a1 t7 fun t8 =>
 p.bin .lss t8 i0 fun t10 =>
 p.cond t10
 (k (si (-1)) H)
 (k t8 H)
theorem AfP : Kb Ana @f47 := fun p n a0 a1 H k => by kernel_rfl
noncomputable def f15 (n : Nat) (a0 a1 : AV) (H : Ac) (k : KO β) : Option β :=
 p.box a0 H fun t2 H =>
 p.fadr 0 t2 fun t5 =>
 p.load false 1 t5 H fun t6 =>
 p.call 3 (.fn 47 [] []) [t6, a1] H fun t8 H =>
 p.bin .lss t8 i0 fun t10 =>
 p.cond t10
 (k (si (-1)) H)
 (k t8 H)
theorem Af4 : Kb AmR @f15 := fun p n a0 a1 H k => by kernel_rfl
noncomputable def f144 (n : Nat) (a0 a1 : AV) (H : Ac) (k : KO β) : Option β :=
 p.box a0 H fun t2 H =>
 p.fadr 0 t2 fun t6 =>
 p.load false 1 t6 H fun t7 =>
 p.lenS t7 fun t8 =>
 p.bin .sub a1 t8 fun t9 =>
 p.bin .lss t9 i0 fun t11 =>
 p.cond t11
 (k (si (-1)) H)
 (k t9 H)
theorem Aec : Kb Ak6 @f144 := fun p n a0 a1 H k => by kernel_rfl
noncomputable def R3 (p : Pr β) (n : Nat)  (k : KO β) : Nat → AV → AV → KO β
 | 0, _, _, _, _ => none
 | m + 1, t0, t1, t5, H => p.len t0 fun t14 =>
   p.bin .lss t5 t14 fun t15 =>
   p.cond t15
   (p.iadr 2 t0 t5 fun t20 =>
   p.load true 2 t20 H fun t21 =>
   p.call 3 (.fn 144 [] []) [t21, t1] H fun t23 H =>
   p.bin .lss t23 i0 fun t25 =>
   p.cond t25
   (k (si (-1)) H)
   (p.bin .add t5 (si 1) fun t17 =>
   R3 p n  k m t0 t23 t17 H))
   (k t1 H)
noncomputable def f120 (n : Nat) (a0 a1 : AV) (H : Ac) (k : KO β) : Option β :=
 p.len a0 fun t8 =>
 p.bin .sub a1 t8 fun t9 =>
 p.bin .lss t9 i0 fun t11 =>
 p.cond t11
 (k (si (-1)) H)
 (R3 p n  k n a0 t9 i0 H)
noncomputable def AcA (p : Pr β) (n : Nat)  (k : KO β) (m : Nat) (tm : Tm) (H : Ac) : Option β :=
 Dw 27 (fun tm H k => Ak As p [] 27 n (cd AkR [1, 1, 1, 0, 1, 0, 0]) tm H k) (Ez 0 (Eg (fun tm H => Ak As p [] 27 n (cd AkR [1, 1, 1, 1]) tm H (Cp As p fi120.results k)) (Cp As p fi120.results k))) m tm H
theorem Ab6 (p : Pr β) (n : Nat)  (k : KO β) (m0 : Nat) : ∀ (t : Nat → AV) (H : Ac), AcA p n  k m0 (tf 27 0 t) H = R3 p n  k m0 (t 0) (t 1) (t 5) H := by
 induction m0 with
 | zero => intros; rfl
 | succ m0 ih =>
  intro t H
  refine Eq.trans (Bq (nt := 27) (m := m0) (g := fun t H => R3 p n  k m0 (t 0) (t 1) (t 5) H) ih rfl) ?_
  kernel_rfl
theorem Afp (p : Pr β) (n : Nat) (a0 a1 : AV) (H : Ac) (k : KO β) : Cj As p n fi120 [a0, a1] H k =
 p.len a0 fun t8 =>
 p.bin .sub a1 t8 fun t9 =>
 p.bin .lss t9 i0 fun t11 =>
 p.cond t11
 (k (si (-1)) H)
 (AcA p n  k n (tf 27 0 (ud [(0, a0), (1, t9), (4, i0), (5, i0), (6, a1), (7, a0), (8, t8), (9, t9), (10, t9), (11, t11)] ut)) H) := by kernel_rfl
theorem AdG : Kb fi120 @f120 := fun p n a0 a1 H k => by
 rw [Afp]
 simp only [Ab6]
 kernel_rfl
noncomputable def Og (p : Pr β) (n : Nat)  (k : KO β) : Nat → AV → AV → KO β
 | 0, _, _, _, _ => none
 | m + 1, t0, t1, t5, H => p.len t0 fun t14 =>
   p.bin .lss t5 t14 fun t15 =>
   p.cond t15
   (p.iadr 1 t0 t5 fun t21 =>
   p.load false 1 t21 H fun t22 =>
   p.lenS t22 fun t23 =>
   p.bin .sub t1 t23 fun t24 =>
   p.bin .lss t24 i0 fun t26 =>
   p.cond t26
   (k (si (-1)) H)
   (p.bin .add t5 (si 1) fun t17 =>
   Og p n  k m t0 t24 t17 H))
   (k t1 H)
noncomputable def f121 (n : Nat) (a0 a1 : AV) (H : Ac) (k : KO β) : Option β :=
 p.len a0 fun t8 =>
 p.bin .sub a1 t8 fun t9 =>
 p.bin .lss t9 i0 fun t11 =>
 p.cond t11
 (k (si (-1)) H)
 (Og p n  k n a0 t9 i0 H)
noncomputable def AcB (p : Pr β) (n : Nat)  (k : KO β) (m : Nat) (tm : Tm) (H : Ac) : Option β :=
 Dw 28 (fun tm H k => Ak As p [] 28 n (cd AkS [1, 1, 1, 0, 1, 0, 0]) tm H k) (Ez 0 (Eg (fun tm H => Ak As p [] 28 n (cd AkS [1, 1, 1, 1]) tm H (Cp As p fi121.results k)) (Cp As p fi121.results k))) m tm H
theorem Ab7 (p : Pr β) (n : Nat)  (k : KO β) (m0 : Nat) : ∀ (t : Nat → AV) (H : Ac), AcB p n  k m0 (tf 28 0 t) H = Og p n  k m0 (t 0) (t 1) (t 5) H := by
 induction m0 with
 | zero => intros; rfl
 | succ m0 ih =>
  intro t H
  refine Eq.trans (Bq (nt := 28) (m := m0) (g := fun t H => Og p n  k m0 (t 0) (t 1) (t 5) H) ih rfl) ?_
  kernel_rfl
theorem Afq (p : Pr β) (n : Nat) (a0 a1 : AV) (H : Ac) (k : KO β) : Cj As p n fi121 [a0, a1] H k =
 p.len a0 fun t8 =>
 p.bin .sub a1 t8 fun t9 =>
 p.bin .lss t9 i0 fun t11 =>
 p.cond t11
 (k (si (-1)) H)
 (AcB p n  k n (tf 28 0 (ud [(0, a0), (1, t9), (4, i0), (5, i0), (6, a1), (7, a0), (8, t8), (9, t9), (10, t9), (11, t11)] ut)) H) := by kernel_rfl
theorem AdH : Kb fi121 @f121 := fun p n a0 a1 H k => by
 rw [Afq]
 simp only [Ab7]
 kernel_rfl
noncomputable def f122 (n : Nat) (a0 a1 : AV) (H : Ac) (k : KO β) : Option β :=
 p.len a0 fun t7 =>
 p.bin .sub a1 t7 fun t8 =>
 p.bin .lss t8 i0 fun t10 =>
 p.cond t10
 (k (si (-1)) H)
 (k t8 H)
theorem AdI : Kb Akw @f122 := fun p n a0 a1 H k => by kernel_rfl
noncomputable def f84 (n : Nat) (a0 a1 : AV) (H : Ac) (k : KO β) : Option β :=
 p.box a0 H fun t2 H =>
 p.fadr 5 t2 fun t6 =>
 p.load false 1 t6 H fun t7 =>
 p.lenS t7 fun t8 =>
 p.bin .sub a1 t8 fun t9 =>
 p.bin .lss t9 i0 fun t11 =>
 p.cond t11
 (k (si (-1)) H)
 (p.fadr 6 t2 fun t12 =>
 p.load false 1 t12 H fun t13 =>
 p.call 3 (.fn 47 [] []) [t13, t9] H fun t15 H =>
 p.bin .lss t15 i0 fun t17 =>
 p.cond t17
 (k (si (-1)) H)
 (p.fadr 7 t2 fun t19 =>
 p.load false 1 t19 H fun t20 =>
 p.lenS t20 fun t21 =>
 p.bin .sub t15 t21 fun t22 =>
 p.bin .lss t22 i0 fun t24 =>
 p.cond t24
 (k (si (-1)) H)
 (p.fadr 12 t2 fun t26 =>
 p.load false 1 t26 H fun t27 =>
 p.lenS t27 fun t28 =>
 p.bin .sub t22 t28 fun t29 =>
 p.bin .lss t29 i0 fun t31 =>
 p.cond t31
 (k (si (-1)) H)
 (p.fadr 13 t2 fun t32 =>
 p.load false 1 t32 H fun t33 =>
 p.call 3 (.fn 47 [] []) [t33, t29] H fun t35 H =>
 p.bin .lss t35 i0 fun t37 =>
 p.cond t37
 (k (si (-1)) H)
 (p.fadr 17 t2 fun t39 =>
 p.load false 1 t39 H fun t40 =>
 p.lenS t40 fun t41 =>
 p.bin .sub t35 t41 fun t42 =>
 p.bin .lss t42 i0 fun t44 =>
 p.cond t44
 (k (si (-1)) H)
 (p.fadr 19 t2 fun t45 =>
 p.load false 1 t45 H fun t46 =>
 p.call 3 (.fn 47 [] []) [t46, t42] H fun t48 H =>
 p.bin .lss t48 i0 fun t50 =>
 p.cond t50
 (k (si (-1)) H)
 (p.fadr 22 t2 fun t51 =>
 p.load false 1 t51 H fun t52 =>
 p.call 3 (.fn 120 [] []) [t52, t48] H fun t54 H =>
 p.bin .lss t54 i0 fun t56 =>
 p.cond t56
 (k (si (-1)) H)
 (p.fadr 23 t2 fun t57 =>
 p.load false 1 t57 H fun t58 =>
 p.call 3 (.fn 121 [] []) [t58, t54] H fun t60 H =>
 p.bin .lss t60 i0 fun t62 =>
 p.cond t62
 (k (si (-1)) H)
 (p.fadr 24 t2 fun t63 =>
 p.load false 1 t63 H fun t64 =>
 p.call 3 (.fn 122 [] []) [t64, t60] H fun t66 H =>
 p.bin .lss t66 i0 fun t68 =>
 p.cond t68
 (k (si (-1)) H)
 (k t66 H))))))))))
theorem Ag1 : Kb Anq @f84 := fun p n a0 a1 H k => by kernel_rfl
noncomputable def Vt (p : Pr β) (n : Nat)  (k : KO β) : Nat → AV → AV → KO β
 | 0, _, _, _, _ => none
 | m + 1, t0, t1, t5, H => p.len t0 fun t14 =>
   p.bin .lss t5 t14 fun t15 =>
   p.cond t15
   (p.iadr 25 t0 t5 fun t20 =>
   p.load true 25 t20 H fun t21 =>
   p.call 3 (.fn 84 [] []) [t21, t1] H fun t23 H =>
   p.bin .lss t23 i0 fun t25 =>
   p.cond t25
   (k (si (-1)) H)
   (p.bin .add t5 (si 1) fun t17 =>
   Vt p n  k m t0 t23 t17 H))
   (k t1 H)
noncomputable def f45 (n : Nat) (a0 a1 : AV) (H : Ac) (k : KO β) : Option β :=
 p.len a0 fun t8 =>
 p.bin .sub a1 t8 fun t9 =>
 p.bin .lss t9 i0 fun t11 =>
 p.cond t11
 (k (si (-1)) H)
 (Vt p n  k n a0 t9 i0 H)
noncomputable def AfM (p : Pr β) (n : Nat)  (k : KO β) (m : Nat) (tm : Tm) (H : Ac) : Option β :=
 Dw 27 (fun tm H k => Ak As p [] 27 n (cd c45 [1, 1, 1, 0, 1, 0, 0]) tm H k) (Ez 0 (Eg (fun tm H => Ak As p [] 27 n (cd c45 [1, 1, 1, 1]) tm H (Cp As p fi45.results k)) (Cp As p fi45.results k))) m tm H
theorem Aem (p : Pr β) (n : Nat)  (k : KO β) (m0 : Nat) : ∀ (t : Nat → AV) (H : Ac), AfM p n  k m0 (tf 27 0 t) H = Vt p n  k m0 (t 0) (t 1) (t 5) H := by
 induction m0 with
 | zero => intros; rfl
 | succ m0 ih =>
  intro t H
  refine Eq.trans (Bq (nt := 27) (m := m0) (g := fun t H => Vt p n  k m0 (t 0) (t 1) (t 5) H) ih rfl) ?_
  kernel_rfl
theorem Ajd (p : Pr β) (n : Nat) (a0 a1 : AV) (H : Ac) (k : KO β) : Cj As p n fi45 [a0, a1] H k =
 p.len a0 fun t8 =>
 p.bin .sub a1 t8 fun t9 =>
 p.bin .lss t9 i0 fun t11 =>
 p.cond t11
 (k (si (-1)) H)
 (AfM p n  k n (tf 27 0 (ud [(0, a0), (1, t9), (4, i0), (5, i0), (6, a1), (7, a0), (8, t8), (9, t9), (10, t9), (11, t11)] ut)) H) := by kernel_rfl
theorem AfN : Kb fi45 @f45 := fun p n a0 a1 H k => by
 rw [Ajd]
 simp only [Aem]
 kernel_rfl
noncomputable def f46 (n : Nat) (a0 a1 : AV) (H : Ac) (k : KO β) : Option β :=
 p.box a0 H fun t2 H =>
 p.fadr 0 t2 fun t6 =>
 p.load false 1 t6 H fun t7 =>
 p.lenS t7 fun t8 =>
 p.bin .sub a1 t8 fun t9 =>
 p.bin .lss t9 i0 fun t11 =>
 p.cond t11
 (k (si (-1)) H)
 (p.fadr 1 t2 fun t12 =>
 p.load false 1 t12 H fun t13 =>
 p.call 3 (.fn 47 [] []) [t13, t9] H fun t15 H =>
 p.bin .lss t15 i0 fun t17 =>
 p.cond t17
 (k (si (-1)) H)
 (k t15 H))
theorem AfO : Kb AmZ @f46 := fun p n a0 a1 H k => by kernel_rfl
noncomputable def f10 (n : Nat) (a0 a1 : AV) (H : Ac) (k : KO β) : Option β :=
 p.box a0 H fun t2 H =>
 p.fadr 2 t2 fun t5 =>
 p.load true 2 t5 H fun t6 =>
 p.call 3 (.fn 15 [] []) [t6, a1] H fun t8 H =>
 p.bin .lss t8 i0 fun t10 =>
 p.cond t10
 (k (si (-1)) H)
 (p.fadr 4 t2 fun t11 =>
 p.load false 1 t11 H fun t12 =>
 p.call 3 (.fn 45 [] []) [t12, t8] H fun t14 H =>
 p.bin .lss t14 i0 fun t16 =>
 p.cond t16
 (k (si (-1)) H)
 (p.fadr 6 t2 fun t18 =>
 p.load false 1 t18 H fun t19 =>
 p.lenS t19 fun t20 =>
 p.bin .sub t14 t20 fun t21 =>
 p.bin .lss t21 i0 fun t23 =>
 p.cond t23
 (k (si (-1)) H)
 (p.fadr 10 t2 fun t24 =>
 p.load true 4 t24 H fun t25 =>
 p.call 3 (.fn 46 [] []) [t25, t21] H fun t27 H =>
 p.bin .lss t27 i0 fun t29 =>
 p.cond t29
 (k (si (-1)) H)
 (p.fadr 15 t2 fun t30 =>
 p.load false 1 t30 H fun t31 =>
 p.call 3 (.fn 47 [] []) [t31, t27] H fun t33 H =>
 p.bin .lss t33 i0 fun t35 =>
 p.cond t35
 (k (si (-1)) H)
 (k t33 H)))))
theorem Afj : Kb AmM @f10 := fun p n a0 a1 H k => by kernel_rfl
noncomputable def Vr (p : Pr β) (n : Nat)  (k : KO β) : Nat → AV → AV → KO β
 | 0, _, _, _, _ => none
 | m + 1, t0, t3, t4, H => p.len t0 fun t10 =>
   p.bin .lss t4 t10 fun t11 =>
   p.cond t11
   (p.iadr 1 t0 t4 fun t18 =>
   p.load false 1 t18 H fun t19 =>
   p.iadr 1 t3 t4 fun t20 =>
   p.store 1 t20 t19 H fun H =>
   p.bin .add t4 (si 1) fun t13 =>
   Vr p n  k m t0 t3 t13 H)
   (k t3 H)
noncomputable def f32 (n : Nat) (a0 : AV) (H : Ac) (k : KO β) : Option β :=
 p.len a0 fun t6 =>
 p.make 1 1 [(su 0)] t6 t6 H fun t7 H =>
 Vr p n  k n a0 t7 i0 H
noncomputable def AfC (p : Pr β) (n : Nat)  (k : KO β) (m : Nat) (tm : Tm) (H : Ac) : Option β :=
 Dw 22 (fun tm H k => Ak As p [] 22 n (cd c32 [1, 1, 0, 1, 0, 0]) tm H k) (Ez 0 (Eg (fun tm H => Ak As p [] 22 n (cd c32 [1, 1, 1]) tm H (Cp As p fi32.results k)) (Cp As p fi32.results k))) m tm H
theorem Aei (p : Pr β) (n : Nat)  (k : KO β) (m0 : Nat) : ∀ (t : Nat → AV) (H : Ac), AfC p n  k m0 (tf 22 0 t) H = Vr p n  k m0 (t 0) (t 3) (t 4) H := by
 induction m0 with
 | zero => intros; rfl
 | succ m0 ih =>
  intro t H
  refine Eq.trans (Bq (nt := 22) (m := m0) (g := fun t H => Vr p n  k m0 (t 0) (t 3) (t 4) H) ih rfl) ?_
  kernel_rfl
theorem AiY (p : Pr β) (n : Nat) (a0 : AV) (H : Ac) (k : KO β) : Cj As p n fi32 [a0] H k =
 p.len a0 fun t6 =>
 p.make 1 1 [(su 0)] t6 t6 H fun t7 H =>
 AfC p n  k n (tf 22 0 (ud [(0, a0), (2, .nl), (3, t7), (4, i0), (5, a0), (6, t6), (7, t7)] ut)) H := by kernel_rfl
theorem AfD : Kv fi32 @f32 := fun p n a0 H k => by
 rw [AiY]
 simp only [Aei]
 kernel_rfl
noncomputable def f18 (n : Nat) (a0 : AV) (H : Ac) (k : KO β) : Option β :=
 p.box a0 H fun t1 H =>
 p.new [.nl, bF] H fun t2 H =>
 p.new [.nl, bF] H fun t3 H =>
 p.fadr 0 t1 fun t4 =>
 p.load false 1 t4 H fun t5 =>
 p.call 22 (.fn 32 [] []) [t5] H fun t6 H =>
 p.fadr 0 t3 fun t7 =>
 p.store 1 t7 t6 H fun H =>
 p.fadr 1 t1 fun t8 =>
 p.load false 1 t8 H fun t9 =>
 p.fadr 1 t3 fun t10 =>
 p.store 1 t10 t9 H fun H =>
 p.load true 2 t3 H fun t11 =>
 p.store 2 t2 t11 H fun H =>
 p.load true 2 t2 H fun r0 =>
 k r0 H
theorem Af5 : Kv AmS @f18 := fun p n a0 H k => by kernel_rfl
noncomputable def f145 (n : Nat) (a0 : AV) (H : Ac) (k : KO β) : Option β :=
 p.box a0 H fun t1 H =>
 p.new [sE, i0] H fun t2 H =>
 p.new [sE, i0] H fun t3 H =>
 p.fadr 0 t1 fun t4 =>
 p.load false 1 t4 H fun t5 =>
 p.fadr 0 t3 fun t6 =>
 p.store 1 t6 t5 H fun H =>
 p.fadr 1 t1 fun t7 =>
 p.load false 1 t7 H fun t8 =>
 p.fadr 1 t3 fun t9 =>
 p.store 1 t9 t8 H fun H =>
 p.load true 2 t3 H fun t10 =>
 p.store 2 t2 t10 H fun H =>
 p.load true 2 t2 H fun r0 =>
 k r0 H
theorem Aed : Kv Ak7 @f145 := fun p n a0 H k => by kernel_rfl
noncomputable def R4 (p : Pr β) (n : Nat)  (k : KO β) : Nat → AV → AV → KO β
 | 0, _, _, _, _ => none
 | m + 1, t0, t3, t4, H => p.len t0 fun t10 =>
   p.bin .lss t4 t10 fun t11 =>
   p.cond t11
   (p.iadr 2 t0 t4 fun t18 =>
   p.load true 2 t18 H fun t19 =>
   p.call 105 (.fn 145 [] []) [t19] H fun t20 H =>
   p.iadr 2 t3 t4 fun t21 =>
   p.store 2 t21 t20 H fun H =>
   p.bin .add t4 (si 1) fun t13 =>
   R4 p n  k m t0 t3 t13 H)
   (k t3 H)
noncomputable def f123 (n : Nat) (a0 : AV) (H : Ac) (k : KO β) : Option β :=
 p.len a0 fun t6 =>
 p.make 2 24 [sE, i0] t6 t6 H fun t7 H =>
 R4 p n  k n a0 t7 i0 H
noncomputable def AcC (p : Pr β) (n : Nat)  (k : KO β) (m : Nat) (tm : Tm) (H : Ac) : Option β :=
 Dw 23 (fun tm H k => Ak As p [] 23 n (cd AkT [1, 1, 0, 1, 0, 0]) tm H k) (Ez 0 (Eg (fun tm H => Ak As p [] 23 n (cd AkT [1, 1, 1]) tm H (Cp As p fi123.results k)) (Cp As p fi123.results k))) m tm H
theorem Ab8 (p : Pr β) (n : Nat)  (k : KO β) (m0 : Nat) : ∀ (t : Nat → AV) (H : Ac), AcC p n  k m0 (tf 23 0 t) H = R4 p n  k m0 (t 0) (t 3) (t 4) H := by
 induction m0 with
 | zero => intros; rfl
 | succ m0 ih =>
  intro t H
  refine Eq.trans (Bq (nt := 23) (m := m0) (g := fun t H => R4 p n  k m0 (t 0) (t 3) (t 4) H) ih rfl) ?_
  kernel_rfl
theorem Afr (p : Pr β) (n : Nat) (a0 : AV) (H : Ac) (k : KO β) : Cj As p n fi123 [a0] H k =
 p.len a0 fun t6 =>
 p.make 2 24 [sE, i0] t6 t6 H fun t7 H =>
 AcC p n  k n (tf 23 0 (ud [(0, a0), (2, .nl), (3, t7), (4, i0), (5, a0), (6, t6), (7, t7)] ut)) H := by kernel_rfl
theorem AdJ : Kv fi123 @f123 := fun p n a0 H k => by
 rw [Afr]
 simp only [Ab8]
 kernel_rfl
noncomputable def R5 (p : Pr β) (n : Nat)  (k : KO β) : Nat → AV → AV → KO β
 | 0, _, _, _, _ => none
 | m + 1, t0, t3, t4, H => p.len t0 fun t10 =>
   p.bin .lss t4 t10 fun t11 =>
   p.cond t11
   (p.iadr 1 t0 t4 fun t18 =>
   p.load false 1 t18 H fun t19 =>
   p.iadr 1 t3 t4 fun t20 =>
   p.store 1 t20 t19 H fun H =>
   p.bin .add t4 (si 1) fun t13 =>
   R5 p n  k m t0 t3 t13 H)
   (k t3 H)
noncomputable def f124 (n : Nat) (a0 : AV) (H : Ac) (k : KO β) : Option β :=
 p.len a0 fun t6 =>
 p.make 1 16 [sE] t6 t6 H fun t7 H =>
 R5 p n  k n a0 t7 i0 H
noncomputable def AcD (p : Pr β) (n : Nat)  (k : KO β) (m : Nat) (tm : Tm) (H : Ac) : Option β :=
 Dw 22 (fun tm H k => Ak As p [] 22 n (cd AkU [1, 1, 0, 1, 0, 0]) tm H k) (Ez 0 (Eg (fun tm H => Ak As p [] 22 n (cd AkU [1, 1, 1]) tm H (Cp As p fi124.results k)) (Cp As p fi124.results k))) m tm H
theorem Ab9 (p : Pr β) (n : Nat)  (k : KO β) (m0 : Nat) : ∀ (t : Nat → AV) (H : Ac), AcD p n  k m0 (tf 22 0 t) H = R5 p n  k m0 (t 0) (t 3) (t 4) H := by
 induction m0 with
 | zero => intros; rfl
 | succ m0 ih =>
  intro t H
  refine Eq.trans (Bq (nt := 22) (m := m0) (g := fun t H => R5 p n  k m0 (t 0) (t 3) (t 4) H) ih rfl) ?_
  kernel_rfl
theorem Afs (p : Pr β) (n : Nat) (a0 : AV) (H : Ac) (k : KO β) : Cj As p n fi124 [a0] H k =
 p.len a0 fun t6 =>
 p.make 1 16 [sE] t6 t6 H fun t7 H =>
 AcD p n  k n (tf 22 0 (ud [(0, a0), (2, .nl), (3, t7), (4, i0), (5, a0), (6, t6), (7, t7)] ut)) H := by kernel_rfl
theorem AdK : Kv fi124 @f124 := fun p n a0 H k => by
 rw [Afs]
 simp only [Ab9]
 kernel_rfl
noncomputable def R6 (p : Pr β) (n : Nat)  (k : KO β) : Nat → AV → AV → KO β
 | 0, _, _, _, _ => none
 | m + 1, t0, t3, t4, H => p.len t0 fun t10 =>
   p.bin .lss t4 t10 fun t11 =>
   p.cond t11
   (p.iadr 1 t0 t4 fun t18 =>
   p.load false 1 t18 H fun t19 =>
   p.iadr 1 t3 t4 fun t20 =>
   p.store 1 t20 t19 H fun H =>
   p.bin .add t4 (si 1) fun t13 =>
   R6 p n  k m t0 t3 t13 H)
   (k t3 H)
noncomputable def f125 (n : Nat) (a0 : AV) (H : Ac) (k : KO β) : Option β :=
 p.len a0 fun t6 =>
 p.make 1 8 [i0] t6 t6 H fun t7 H =>
 R6 p n  k n a0 t7 i0 H
noncomputable def AcE (p : Pr β) (n : Nat)  (k : KO β) (m : Nat) (tm : Tm) (H : Ac) : Option β :=
 Dw 22 (fun tm H k => Ak As p [] 22 n (cd AkV [1, 1, 0, 1, 0, 0]) tm H k) (Ez 0 (Eg (fun tm H => Ak As p [] 22 n (cd AkV [1, 1, 1]) tm H (Cp As p fi125.results k)) (Cp As p fi125.results k))) m tm H
theorem AbA (p : Pr β) (n : Nat)  (k : KO β) (m0 : Nat) : ∀ (t : Nat → AV) (H : Ac), AcE p n  k m0 (tf 22 0 t) H = R6 p n  k m0 (t 0) (t 3) (t 4) H := by
 induction m0 with
 | zero => intros; rfl
 | succ m0 ih =>
  intro t H
  refine Eq.trans (Bq (nt := 22) (m := m0) (g := fun t H => R6 p n  k m0 (t 0) (t 3) (t 4) H) ih rfl) ?_
  kernel_rfl
theorem Aft (p : Pr β) (n : Nat) (a0 : AV) (H : Ac) (k : KO β) : Cj As p n fi125 [a0] H k =
 p.len a0 fun t6 =>
 p.make 1 8 [i0] t6 t6 H fun t7 H =>
 AcE p n  k n (tf 22 0 (ud [(0, a0), (2, .nl), (3, t7), (4, i0), (5, a0), (6, t6), (7, t7)] ut)) H := by kernel_rfl
theorem AdL : Kv fi125 @f125 := fun p n a0 H k => by
 rw [Aft]
 simp only [AbA]
 kernel_rfl
noncomputable def f85 (n : Nat) (a0 : AV) (H : Ac) (k : KO β) : Option β :=
 p.box a0 H fun t1 H =>
 p.new Ep H fun t2 H =>
 p.new Ep H fun t3 H =>
 p.fadr 0 t1 fun t4 =>
 p.load false 1 t4 H fun t5 =>
 p.fadr 0 t3 fun t6 =>
 p.store 1 t6 t5 H fun H =>
 p.fadr 1 t1 fun t7 =>
 p.load false 1 t7 H fun t8 =>
 p.fadr 1 t3 fun t9 =>
 p.store 1 t9 t8 H fun H =>
 p.fadr 2 t1 fun t10 =>
 p.load false 1 t10 H fun t11 =>
 p.fadr 2 t3 fun t12 =>
 p.store 1 t12 t11 H fun H =>
 p.fadr 3 t1 fun t13 =>
 p.load false 1 t13 H fun t14 =>
 p.fadr 3 t3 fun t15 =>
 p.store 1 t15 t14 H fun H =>
 p.fadr 4 t1 fun t16 =>
 p.load false 1 t16 H fun t17 =>
 p.fadr 4 t3 fun t18 =>
 p.store 1 t18 t17 H fun H =>
 p.fadr 5 t1 fun t19 =>
 p.load false 1 t19 H fun t20 =>
 p.fadr 5 t3 fun t21 =>
 p.store 1 t21 t20 H fun H =>
 p.fadr 6 t1 fun t22 =>
 p.load false 1 t22 H fun t23 =>
 p.call 22 (.fn 32 [] []) [t23] H fun t24 H =>
 p.fadr 6 t3 fun t25 =>
 p.store 1 t25 t24 H fun H =>
 p.fadr 7 t1 fun t26 =>
 p.load false 1 t26 H fun t27 =>
 p.fadr 7 t3 fun t28 =>
 p.store 1 t28 t27 H fun H =>
 p.fadr 8 t1 fun t29 =>
 p.load false 1 t29 H fun t30 =>
 p.fadr 8 t3 fun t31 =>
 p.store 1 t31 t30 H fun H =>
 p.fadr 9 t1 fun t32 =>
 p.load false 1 t32 H fun t33 =>
 p.fadr 9 t3 fun t34 =>
 p.store 1 t34 t33 H fun H =>
 p.fadr 10 t1 fun t35 =>
 p.load false 1 t35 H fun t36 =>
 p.fadr 10 t3 fun t37 =>
 p.store 1 t37 t36 H fun H =>
 p.fadr 11 t1 fun t38 =>
 p.load false 1 t38 H fun t39 =>
 p.fadr 11 t3 fun t40 =>
 p.store 1 t40 t39 H fun H =>
 p.fadr 12 t1 fun t41 =>
 p.load false 1 t41 H fun t42 =>
 p.fadr 12 t3 fun t43 =>
 p.store 1 t43 t42 H fun H =>
 p.fadr 13 t1 fun t44 =>
 p.load false 1 t44 H fun t45 =>
 p.call 22 (.fn 32 [] []) [t45] H fun t46 H =>
 p.fadr 13 t3 fun t47 =>
 p.store 1 t47 t46 H fun H =>
 p.fadr 14 t1 fun t48 =>
 p.load false 1 t48 H fun t49 =>
 p.fadr 14 t3 fun t50 =>
 p.store 1 t50 t49 H fun H =>
 p.fadr 15 t1 fun t51 =>
 p.load false 1 t51 H fun t52 =>
 p.fadr 15 t3 fun t53 =>
 p.store 1 t53 t52 H fun H =>
 p.fadr 16 t1 fun t54 =>
 p.load false 1 t54 H fun t55 =>
 p.fadr 16 t3 fun t56 =>
 p.store 1 t56 t55 H fun H =>
 p.fadr 17 t1 fun t57 =>
 p.load false 1 t57 H fun t58 =>
 p.fadr 17 t3 fun t59 =>
 p.store 1 t59 t58 H fun H =>
 p.fadr 18 t1 fun t60 =>
 p.load false 1 t60 H fun t61 =>
 p.fadr 18 t3 fun t62 =>
 p.store 1 t62 t61 H fun H =>
 p.fadr 19 t1 fun t63 =>
 p.load false 1 t63 H fun t64 =>
 p.call 22 (.fn 32 [] []) [t64] H fun t65 H =>
 p.fadr 19 t3 fun t66 =>
 p.store 1 t66 t65 H fun H =>
 p.fadr 20 t1 fun t67 =>
 p.load false 1 t67 H fun t68 =>
 p.fadr 20 t3 fun t69 =>
 p.store 1 t69 t68 H fun H =>
 p.fadr 21 t1 fun t70 =>
 p.load false 1 t70 H fun t71 =>
 p.fadr 21 t3 fun t72 =>
 p.store 1 t72 t71 H fun H =>
 p.fadr 22 t1 fun t73 =>
 p.load false 1 t73 H fun t74 =>
 p.call 55 (.fn 123 [] []) [t74] H fun t75 H =>
 p.fadr 22 t3 fun t76 =>
 p.store 1 t76 t75 H fun H =>
 p.fadr 23 t1 fun t77 =>
 p.load false 1 t77 H fun t78 =>
 p.call 56 (.fn 124 [] []) [t78] H fun t79 H =>
 p.fadr 23 t3 fun t80 =>
 p.store 1 t80 t79 H fun H =>
 p.fadr 24 t1 fun t81 =>
 p.load false 1 t81 H fun t82 =>
 p.call 57 (.fn 125 [] []) [t82] H fun t83 H =>
 p.fadr 24 t3 fun t84 =>
 p.store 1 t84 t83 H fun H =>
 p.load true 25 t3 H fun t85 =>
 p.store 25 t2 t85 H fun H =>
 p.load true 25 t2 H fun r0 =>
 k r0 H
theorem Ag2 : Kv Anr @f85 := fun p n a0 H k => by kernel_rfl
noncomputable def Vu (p : Pr β) (n : Nat)  (k : KO β) : Nat → AV → AV → KO β
 | 0, _, _, _, _ => none
 | m + 1, t0, t3, t4, H => p.len t0 fun t10 =>
   p.bin .lss t4 t10 fun t11 =>
   p.cond t11
   (p.iadr 25 t0 t4 fun t18 =>
   p.load true 25 t18 H fun t19 =>
   p.call 59 (.fn 85 [] []) [t19] H fun t20 H =>
   p.iadr 25 t3 t4 fun t21 =>
   p.store 25 t21 t20 H fun H =>
   p.bin .add t4 (si 1) fun t13 =>
   Vu p n  k m t0 t3 t13 H)
   (k t3 H)
noncomputable def f48 (n : Nat) (a0 : AV) (H : Ac) (k : KO β) : Option β :=
 p.len a0 fun t6 =>
 p.make 25 320 Ep t6 t6 H fun t7 H =>
 Vu p n  k n a0 t7 i0 H
noncomputable def AfQ (p : Pr β) (n : Nat)  (k : KO β) (m : Nat) (tm : Tm) (H : Ac) : Option β :=
 Dw 23 (fun tm H k => Ak As p [] 23 n (cd c48 [1, 1, 0, 1, 0, 0]) tm H k) (Ez 0 (Eg (fun tm H => Ak As p [] 23 n (cd c48 [1, 1, 1]) tm H (Cp As p fi48.results k)) (Cp As p fi48.results k))) m tm H
theorem Aen (p : Pr β) (n : Nat)  (k : KO β) (m0 : Nat) : ∀ (t : Nat → AV) (H : Ac), AfQ p n  k m0 (tf 23 0 t) H = Vu p n  k m0 (t 0) (t 3) (t 4) H := by
 induction m0 with
 | zero => intros; rfl
 | succ m0 ih =>
  intro t H
  refine Eq.trans (Bq (nt := 23) (m := m0) (g := fun t H => Vu p n  k m0 (t 0) (t 3) (t 4) H) ih rfl) ?_
  kernel_rfl
theorem Aje (p : Pr β) (n : Nat) (a0 : AV) (H : Ac) (k : KO β) : Cj As p n fi48 [a0] H k =
 p.len a0 fun t6 =>
 p.make 25 320 Ep t6 t6 H fun t7 H =>
 AfQ p n  k n (tf 23 0 (ud [(0, a0), (2, .nl), (3, t7), (4, i0), (5, a0), (6, t6), (7, t7)] ut)) H := by kernel_rfl
theorem AfR : Kv fi48 @f48 := fun p n a0 H k => by
 rw [Aje]
 simp only [Aen]
 kernel_rfl
noncomputable def f49 (n : Nat) (a0 : AV) (H : Ac) (k : KO β) : Option β :=
 p.box a0 H fun t1 H =>
 p.new [sE, .nl, i0, bF] H fun t2 H =>
 p.new [sE, .nl, i0, bF] H fun t3 H =>
 p.fadr 0 t1 fun t4 =>
 p.load false 1 t4 H fun t5 =>
 p.fadr 0 t3 fun t6 =>
 p.store 1 t6 t5 H fun H =>
 p.fadr 1 t1 fun t7 =>
 p.load false 1 t7 H fun t8 =>
 p.call 22 (.fn 32 [] []) [t8] H fun t9 H =>
 p.fadr 1 t3 fun t10 =>
 p.store 1 t10 t9 H fun H =>
 p.fadr 2 t1 fun t11 =>
 p.load false 1 t11 H fun t12 =>
 p.fadr 2 t3 fun t13 =>
 p.store 1 t13 t12 H fun H =>
 p.fadr 3 t1 fun t14 =>
 p.load false 1 t14 H fun t15 =>
 p.fadr 3 t3 fun t16 =>
 p.store 1 t16 t15 H fun H =>
 p.load true 4 t3 H fun t17 =>
 p.store 4 t2 t17 H fun H =>
 p.load true 4 t2 H fun r0 =>
 k r0 H
theorem AfS : Kv Anb @f49 := fun p n a0 H k => by kernel_rfl
noncomputable def f12 (n : Nat) (a0 : AV) (H : Ac) (k : KO β) : Option β :=
 p.box a0 H fun t1 H =>
 p.new [bF, i0, .nl, bF, .nl, bF, sE, i0, i0, bF, sE, .nl, i0, bF, bF, .nl] H fun t2 H =>
 p.new [bF, i0, .nl, bF, .nl, bF, sE, i0, i0, bF, sE, .nl, i0, bF, bF, .nl] H fun t3 H =>
 p.fadr 0 t1 fun t4 =>
 p.load false 1 t4 H fun t5 =>
 p.fadr 0 t3 fun t6 =>
 p.store 1 t6 t5 H fun H =>
 p.fadr 1 t1 fun t7 =>
 p.load false 1 t7 H fun t8 =>
 p.fadr 1 t3 fun t9 =>
 p.store 1 t9 t8 H fun H =>
 p.fadr 2 t1 fun t10 =>
 p.load true 2 t10 H fun t11 =>
 p.call 32 (.fn 18 [] []) [t11] H fun t12 H =>
 p.fadr 2 t3 fun t13 =>
 p.store 2 t13 t12 H fun H =>
 p.fadr 4 t1 fun t14 =>
 p.load false 1 t14 H fun t15 =>
 p.call 33 (.fn 48 [] []) [t15] H fun t16 H =>
 p.fadr 4 t3 fun t17 =>
 p.store 1 t17 t16 H fun H =>
 p.fadr 5 t1 fun t18 =>
 p.load false 1 t18 H fun t19 =>
 p.fadr 5 t3 fun t20 =>
 p.store 1 t20 t19 H fun H =>
 p.fadr 6 t1 fun t21 =>
 p.load false 1 t21 H fun t22 =>
 p.fadr 6 t3 fun t23 =>
 p.store 1 t23 t22 H fun H =>
 p.fadr 7 t1 fun t24 =>
 p.load false 1 t24 H fun t25 =>
 p.fadr 7 t3 fun t26 =>
 p.store 1 t26 t25 H fun H =>
 p.fadr 8 t1 fun t27 =>
 p.load false 1 t27 H fun t28 =>
 p.fadr 8 t3 fun t29 =>
 p.store 1 t29 t28 H fun H =>
 p.fadr 9 t1 fun t30 =>
 p.load false 1 t30 H fun t31 =>
 p.fadr 9 t3 fun t32 =>
 p.store 1 t32 t31 H fun H =>
 p.fadr 10 t1 fun t33 =>
 p.load true 4 t33 H fun t34 =>
 p.call 34 (.fn 49 [] []) [t34] H fun t35 H =>
 p.fadr 10 t3 fun t36 =>
 p.store 4 t36 t35 H fun H =>
 p.fadr 14 t1 fun t37 =>
 p.load false 1 t37 H fun t38 =>
 p.fadr 14 t3 fun t39 =>
 p.store 1 t39 t38 H fun H =>
 p.fadr 15 t1 fun t40 =>
 p.load false 1 t40 H fun t41 =>
 p.call 22 (.fn 32 [] []) [t41] H fun t42 H =>
 p.fadr 15 t3 fun t43 =>
 p.store 1 t43 t42 H fun H =>
 p.load true 16 t3 H fun t44 =>
 p.store 16 t2 t44 H fun H =>
 p.load true 16 t2 H fun r0 =>
 k r0 H
theorem Afw : Kv AmO @f12 := fun p n a0 H k => by kernel_rfl
noncomputable def f78 (n : Nat) (a0 : AV) (H : Ac) (k : KO β) : Option β :=
 p.box a0 H fun t1 H =>
 p.fl 0 t1 1 H fun t4 =>
 p.bin .eql t4 sE fun t5 =>
 p.lT t5 H 1 t1 1 fun t8 H =>
 p.gT t5 H (p.len t8) fun t9 H =>
 p.gT t5 H (p.bin .eql t9 i0) fun t10 H =>
 p.pick t5 t10 bF fun t11 =>
 p.lT t11 H 2 t1 1 fun t14 H =>
 p.gT t11 H (p.bin .eql t14 i0) fun t15 H =>
 p.pick t11 t15 bF fun t16 =>
 p.lT t16 H 3 t1 1 fun t19 H =>
 p.gT t16 H (p.un .not t19) fun t20 H =>
 p.pick t16 t20 bF fun t21 =>
 k t21 H
theorem Agv : Kv Ank @f78 := fun p n a0 H k => by kernel_rfl
noncomputable def f81 (n : Nat) (a0 a1 a2 : AV) (H : Ac) (k : KO β) : Option β :=
 p.bin .geq a0 a1 fun t9 =>
 p.kT t9 H a0 fun t11 H =>
 p.kT t9 H a2 fun t12 H =>
 p.gT t9 H (p.bin .leq t11 t12) fun t13 H =>
 p.pick t9 t13 bF fun t14 =>
 k t14 H
theorem Agy : Bd3 Ann @f81 := fun p n a0 a1 a2 H k => by kernel_rfl
noncomputable def f90 (n : Nat) (a0 : AV) (H : Ac) (k : KO β) : Option β :=
 p.box a0 H fun t1 H =>
 p.new Ep H fun t2 H =>
 p.fadr 0 t1 fun t4 =>
 p.load false 1 t4 H fun t5 =>
 p.fill Ep [(0, 1, t5)] fun ct6 =>
 p.new Ep H fun t3 H =>
 p.store 25 t3 (.agg ct6) H fun H =>
 p.fadr 0 t1 fun t7 =>
 p.load false 1 t7 H fun t8 =>
 p.bin .eql t8 (si 1) fun t10 =>
 p.cond t10
 (p.fadr 8 t1 fun t11 =>
 p.load false 1 t11 H fun t12 =>
 p.fadr 8 t3 fun t13 =>
 p.store 1 t13 t12 H fun H =>
 p.fadr 7 t1 fun t14 =>
 p.load false 1 t14 H fun t15 =>
 p.fadr 7 t3 fun t16 =>
 p.store 1 t16 t15 H fun H =>
 p.fadr 9 t1 fun t17 =>
 p.load false 1 t17 H fun t18 =>
 p.fadr 9 t3 fun t19 =>
 p.store 1 t19 t18 H fun H =>
 p.fadr 10 t1 fun t20 =>
 p.load false 1 t20 H fun t21 =>
 p.fadr 10 t3 fun t22 =>
 p.store 1 t22 t21 H fun H =>
 p.fadr 11 t1 fun t23 =>
 p.load false 1 t23 H fun t24 =>
 E1 (fun (t1 t2 t3 : AV) (H : Ac) => p.fadr 16 t1 fun t38 =>
 p.load false 1 t38 H fun t39 =>
 p.cond t39
 (p.fadr 16 t3 fun t40 =>
 p.store 1 t40 bT H fun H =>
 p.fadr 17 t1 fun t41 =>
 p.load false 1 t41 H fun t42 =>
 p.fadr 17 t3 fun t43 =>
 p.store 1 t43 t42 H fun H =>
 p.fadr 18 t1 fun t44 =>
 p.load false 1 t44 H fun t45 =>
 p.cond t45
 (p.fadr 18 t3 fun t46 =>
 p.store 1 t46 bT H fun H =>
 p.fadr 19 t1 fun t47 =>
 p.load false 1 t47 H fun t48 =>
 p.fadr 19 t3 fun t49 =>
 p.store 1 t49 t48 H fun H =>
 p.load true 25 t3 H fun t119 =>
 p.store 25 t2 t119 H fun H =>
 p.load true 25 t2 H fun r0 =>
 k r0 H)
 (p.load true 25 t3 H fun t119 =>
 p.store 25 t2 t119 H fun H =>
 p.load true 25 t2 H fun r0 =>
 k r0 H))
 (p.load true 25 t3 H fun t119 =>
 p.store 25 t2 t119 H fun H =>
 p.load true 25 t2 H fun r0 =>
 k r0 H)) fun j1 =>
 p.cond t24
 (p.fadr 11 t3 fun t25 =>
 p.store 1 t25 bT H fun H =>
 p.fadr 12 t1 fun t26 =>
 p.load false 1 t26 H fun t27 =>
 p.fadr 12 t3 fun t28 =>
 p.store 1 t28 t27 H fun H =>
 p.fadr 13 t1 fun t29 =>
 p.load false 1 t29 H fun t30 =>
 p.fadr 13 t3 fun t31 =>
 p.store 1 t31 t30 H fun H =>
 p.fadr 14 t1 fun t32 =>
 p.load false 1 t32 H fun t33 =>
 p.fadr 14 t3 fun t34 =>
 p.store 1 t34 t33 H fun H =>
 p.fadr 15 t1 fun t35 =>
 p.load false 1 t35 H fun t36 =>
 p.fadr 15 t3 fun t37 =>
 p.store 1 t37 t36 H fun H =>
 j1 t1 t2 t3 H)
 (j1 t1 t2 t3 H))
 (p.bin .eql t8 (si 2) fun t51 =>
 p.cond t51
 (p.fadr 20 t1 fun t52 =>
 p.load false 1 t52 H fun t53 =>
 p.fadr 20 t3 fun t54 =>
 p.store 1 t54 t53 H fun H =>
 p.fadr 21 t1 fun t55 =>
 p.load false 1 t55 H fun t56 =>
 p.gT t56 H (p.fadr 20 t1) fun t58 H =>
 p.gT t56 H (p.load false 1 t58 H) fun t59 H =>
 p.gT t56 H (p.bin .eql t59 i0) fun t60 H =>
 p.pick t56 t60 bF fun t61 =>
 p.fadr 21 t3 fun t62 =>
 p.store 1 t62 t61 H fun H =>
 p.load true 25 t3 H fun t119 =>
 p.store 25 t2 t119 H fun H =>
 p.load true 25 t2 H fun r0 =>
 k r0 H)
 (p.bin .eql t8 (si 3) fun t64 =>
 p.cond t64
 (p.fadr 2 t1 fun t65 =>
 p.load false 1 t65 H fun t66 =>
 p.fadr 2 t3 fun t67 =>
 p.store 1 t67 t66 H fun H =>
 p.fadr 3 t1 fun t68 =>
 p.load false 1 t68 H fun t69 =>
 p.fadr 3 t3 fun t70 =>
 p.store 1 t70 t69 H fun H =>
 p.fadr 5 t1 fun t71 =>
 p.load false 1 t71 H fun t72 =>
 p.fadr 5 t3 fun t73 =>
 p.store 1 t73 t72 H fun H =>
 p.fadr 6 t1 fun t74 =>
 p.load false 1 t74 H fun t75 =>
 p.fadr 6 t3 fun t76 =>
 p.store 1 t76 t75 H fun H =>
 p.fadr 2 t1 fun t77 =>
 p.load false 1 t77 H fun t78 =>
 p.bin .gtr t78 i0 fun t79 =>
 p.cond t79
 (p.fadr 1 t1 fun t80 =>
 p.load false 1 t80 H fun t81 =>
 p.fadr 1 t3 fun t82 =>
 p.store 1 t82 t81 H fun H =>
 p.fadr 4 t1 fun t83 =>
 p.load false 1 t83 H fun t84 =>
 p.fadr 4 t3 fun t85 =>
 p.store 1 t85 t84 H fun H =>
 p.load true 25 t3 H fun t119 =>
 p.store 25 t2 t119 H fun H =>
 p.load true 25 t2 H fun r0 =>
 k r0 H)
 (p.load true 25 t3 H fun t119 =>
 p.store 25 t2 t119 H fun H =>
 p.load true 25 t2 H fun r0 =>
 k r0 H))
 (p.bin .eql t8 (si 4) fun t87 =>
 E1 (fun (t1 t2 t3 t8 t86 : AV) (H : Ac) => p.cond t86
 (p.fadr 4 t1 fun t92 =>
 p.load false 1 t92 H fun t93 =>
 p.fadr 4 t3 fun t94 =>
 p.store 1 t94 t93 H fun H =>
 p.load true 25 t3 H fun t119 =>
 p.store 25 t2 t119 H fun H =>
 p.load true 25 t2 H fun r0 =>
 k r0 H)
 (p.bin .eql t8 (si 8) fun t96 =>
 p.cond t96
 (p.fadr 4 t1 fun t97 =>
 p.load false 1 t97 H fun t98 =>
 p.fadr 4 t3 fun t99 =>
 p.store 1 t99 t98 H fun H =>
 p.fadr 22 t1 fun t100 =>
 p.load false 1 t100 H fun t101 =>
 p.fadr 22 t3 fun t102 =>
 p.store 1 t102 t101 H fun H =>
 p.load true 25 t3 H fun t119 =>
 p.store 25 t2 t119 H fun H =>
 p.load true 25 t2 H fun r0 =>
 k r0 H)
 (p.bin .eql t8 (si 9) fun t104 =>
 p.cond t104
 (p.fadr 4 t1 fun t105 =>
 p.load false 1 t105 H fun t106 =>
 p.fadr 4 t3 fun t107 =>
 p.store 1 t107 t106 H fun H =>
 p.fadr 24 t1 fun t108 =>
 p.load false 1 t108 H fun t109 =>
 p.fadr 24 t3 fun t110 =>
 p.store 1 t110 t109 H fun H =>
 p.load true 25 t3 H fun t119 =>
 p.store 25 t2 t119 H fun H =>
 p.load true 25 t2 H fun r0 =>
 k r0 H)
 (p.bin .eql t8 (si 10) fun t112 =>
 p.cond t112
 (p.fadr 4 t1 fun t113 =>
 p.load false 1 t113 H fun t114 =>
 p.fadr 4 t3 fun t115 =>
 p.store 1 t115 t114 H fun H =>
 p.fadr 23 t1 fun t116 =>
 p.load false 1 t116 H fun t117 =>
 p.fadr 23 t3 fun t118 =>
 p.store 1 t118 t117 H fun H =>
 p.load true 25 t3 H fun t119 =>
 p.store 25 t2 t119 H fun H =>
 p.load true 25 t2 H fun r0 =>
 k r0 H)
 (p.load true 25 t3 H fun t119 =>
 p.store 25 t2 t119 H fun H =>
 p.load true 25 t2 H fun r0 =>
 k r0 H))))) fun j2 =>
 p.cond t87
 (j2 t1 t2 t3 t8 t87 H)
 (p.bin .eql t8 (si 5) fun t88 =>
 p.cond t88
 (j2 t1 t2 t3 t8 t88 H)
 (p.bin .eql t8 (si 6) fun t89 =>
 p.cond t89
 (j2 t1 t2 t3 t8 t89 H)
 (p.bin .eql t8 (si 7) fun t90 =>
 p.cond t90
 (j2 t1 t2 t3 t8 t90 H)
 (p.bin .eql t8 (si 11) fun t91 =>
 j2 t1 t2 t3 t8 t91 H)))))))
theorem AgA : Kv Anv @f90 := fun p n a0 H k => by kernel_rfl
noncomputable def f65 (n : Nat) (a0 a1 : AV) (H : Ac) (k : KO β) : Option β :=
 p.cvBS a0 H fun t6 =>
 p.cvBS a1 H fun t8 =>
 p.bin .eql t6 t8 fun t9 =>
 k t9 H
theorem Aga : Kb Ane @f65 := fun p n a0 a1 H k => by kernel_rfl
noncomputable def Pq (p : Pr β) (n : Nat)  (k : KO β) : Nat → AV → AV → KO β
 | 0, _, _, _, _ => none
 | m + 1, t2, t3, t7, H => p.fadr 24 t2 fun t70 =>
   p.load false 1 t70 H fun t71 =>
   p.len t71 fun t72 =>
   p.bin .lss t7 t72 fun t73 =>
   p.cond t73
   (p.fadr 24 t2 fun t76 =>
   p.load false 1 t76 H fun t77 =>
   p.iadr 1 t77 t7 fun t79 =>
   p.load false 1 t79 H fun t80 =>
   p.fadr 24 t3 fun t81 =>
   p.load false 1 t81 H fun t82 =>
   p.iadr 1 t82 t7 fun t84 =>
   p.load false 1 t84 H fun t85 =>
   p.bin .neq t80 t85 fun t86 =>
   p.cond t86
   (k bF H)
   (p.bin .add t7 (si 1) fun t75 =>
   Pq p n  k m t2 t3 t75 H))
   (p.fadr 0 t2 fun t87 =>
   p.load false 1 t87 H fun t88 =>
   p.fadr 0 t3 fun t89 =>
   p.load false 1 t89 H fun t90 =>
   p.bin .eql t88 t90 fun t91 =>
   p.gT t91 H (p.fadr 1 t2) fun t93 H =>
   p.gT t91 H (p.load false 1 t93 H) fun t94 H =>
   p.gT t91 H (p.fadr 1 t3) fun t95 H =>
   p.gT t91 H (p.load false 1 t95 H) fun t96 H =>
   p.gT t91 H (p.binB .eql t94 t96) fun t97 H =>
   p.pick t91 t97 bF fun t98 =>
   p.gT t98 H (p.fadr 2 t2) fun t100 H =>
   p.gT t98 H (p.load false 1 t100 H) fun t101 H =>
   p.gT t98 H (p.fadr 2 t3) fun t102 H =>
   p.gT t98 H (p.load false 1 t102 H) fun t103 H =>
   p.gT t98 H (p.bin .eql t101 t103) fun t104 H =>
   p.pick t98 t104 bF fun t105 =>
   p.gT t105 H (p.fadr 3 t2) fun t107 H =>
   p.gT t105 H (p.load false 1 t107 H) fun t108 H =>
   p.gT t105 H (p.fadr 3 t3) fun t109 H =>
   p.gT t105 H (p.load false 1 t109 H) fun t110 H =>
   p.gT t105 H (p.binB .eql t108 t110) fun t111 H =>
   p.pick t105 t111 bF fun t112 =>
   p.gT t112 H (p.fadr 4 t2) fun t114 H =>
   p.gT t112 H (p.load false 1 t114 H) fun t115 H =>
   p.gT t112 H (p.fadr 4 t3) fun t116 H =>
   p.gT t112 H (p.load false 1 t116 H) fun t117 H =>
   p.gT t112 H (p.bin .eql t115 t117) fun t118 H =>
   p.pick t112 t118 bF fun t119 =>
   p.gT t119 H (p.fadr 5 t2) fun t121 H =>
   p.gT t119 H (p.load false 1 t121 H) fun t122 H =>
   p.gT t119 H (p.fadr 5 t3) fun t123 H =>
   p.gT t119 H (p.load false 1 t123 H) fun t124 H =>
   p.gT t119 H (p.bin .eql t122 t124) fun t125 H =>
   p.pick t119 t125 bF fun t126 =>
   p.gT t126 H (p.fadr 6 t2) fun t128 H =>
   p.gT t126 H (p.load false 1 t128 H) fun t129 H =>
   p.gT t126 H (p.fadr 6 t3) fun t130 H =>
   p.gT t126 H (p.load false 1 t130 H) fun t131 H =>
   p.hT t126 H (p.call 4 (.fn 65 [] []) [t129, t131] H) fun t132 H =>
   p.pick t126 t132 bF fun t133 =>
   p.gT t133 H (p.fadr 7 t2) fun t135 H =>
   p.gT t133 H (p.load false 1 t135 H) fun t136 H =>
   p.gT t133 H (p.fadr 7 t3) fun t137 H =>
   p.gT t133 H (p.load false 1 t137 H) fun t138 H =>
   p.gT t133 H (p.bin .eql t136 t138) fun t139 H =>
   p.pick t133 t139 bF fun t140 =>
   p.gT t140 H (p.fadr 8 t2) fun t142 H =>
   p.gT t140 H (p.load false 1 t142 H) fun t143 H =>
   p.gT t140 H (p.fadr 8 t3) fun t144 H =>
   p.gT t140 H (p.load false 1 t144 H) fun t145 H =>
   p.gT t140 H (p.bin .eql t143 t145) fun t146 H =>
   p.pick t140 t146 bF fun t147 =>
   p.gT t147 H (p.fadr 9 t2) fun t149 H =>
   p.gT t147 H (p.load false 1 t149 H) fun t150 H =>
   p.gT t147 H (p.fadr 9 t3) fun t151 H =>
   p.gT t147 H (p.load false 1 t151 H) fun t152 H =>
   p.gT t147 H (p.binB .eql t150 t152) fun t153 H =>
   p.pick t147 t153 bF fun t154 =>
   p.gT t154 H (p.fadr 10 t2) fun t156 H =>
   p.gT t154 H (p.load false 1 t156 H) fun t157 H =>
   p.gT t154 H (p.fadr 10 t3) fun t158 H =>
   p.gT t154 H (p.load false 1 t158 H) fun t159 H =>
   p.gT t154 H (p.bin .eql t157 t159) fun t160 H =>
   p.pick t154 t160 bF fun t161 =>
   p.gT t161 H (p.fadr 11 t2) fun t163 H =>
   p.gT t161 H (p.load false 1 t163 H) fun t164 H =>
   p.gT t161 H (p.fadr 11 t3) fun t165 H =>
   p.gT t161 H (p.load false 1 t165 H) fun t166 H =>
   p.gT t161 H (p.binB .eql t164 t166) fun t167 H =>
   p.pick t161 t167 bF fun t168 =>
   p.gT t168 H (p.fadr 12 t2) fun t170 H =>
   p.gT t168 H (p.load false 1 t170 H) fun t171 H =>
   p.gT t168 H (p.fadr 12 t3) fun t172 H =>
   p.gT t168 H (p.load false 1 t172 H) fun t173 H =>
   p.gT t168 H (p.bin .eql t171 t173) fun t174 H =>
   p.pick t168 t174 bF fun t175 =>
   p.gT t175 H (p.fadr 13 t2) fun t177 H =>
   p.gT t175 H (p.load false 1 t177 H) fun t178 H =>
   p.gT t175 H (p.fadr 13 t3) fun t179 H =>
   p.gT t175 H (p.load false 1 t179 H) fun t180 H =>
   p.hT t175 H (p.call 4 (.fn 65 [] []) [t178, t180] H) fun t181 H =>
   p.pick t175 t181 bF fun t182 =>
   p.gT t182 H (p.fadr 14 t2) fun t184 H =>
   p.gT t182 H (p.load false 1 t184 H) fun t185 H =>
   p.gT t182 H (p.fadr 14 t3) fun t186 H =>
   p.gT t182 H (p.load false 1 t186 H) fun t187 H =>
   p.gT t182 H (p.bin .eql t185 t187) fun t188 H =>
   p.pick t182 t188 bF fun t189 =>
   p.gT t189 H (p.fadr 15 t2) fun t191 H =>
   p.gT t189 H (p.load false 1 t191 H) fun t192 H =>
   p.gT t189 H (p.fadr 15 t3) fun t193 H =>
   p.gT t189 H (p.load false 1 t193 H) fun t194 H =>
   p.gT t189 H (p.binB .eql t192 t194) fun t195 H =>
   p.pick t189 t195 bF fun t196 =>
   p.gT t196 H (p.fadr 16 t2) fun t198 H =>
   p.gT t196 H (p.load false 1 t198 H) fun t199 H =>
   p.gT t196 H (p.fadr 16 t3) fun t200 H =>
   p.gT t196 H (p.load false 1 t200 H) fun t201 H =>
   p.gT t196 H (p.binB .eql t199 t201) fun t202 H =>
   p.pick t196 t202 bF fun t203 =>
   p.gT t203 H (p.fadr 17 t2) fun t205 H =>
   p.gT t203 H (p.load false 1 t205 H) fun t206 H =>
   p.gT t203 H (p.fadr 17 t3) fun t207 H =>
   p.gT t203 H (p.load false 1 t207 H) fun t208 H =>
   p.gT t203 H (p.bin .eql t206 t208) fun t209 H =>
   p.pick t203 t209 bF fun t210 =>
   p.gT t210 H (p.fadr 18 t2) fun t212 H =>
   p.gT t210 H (p.load false 1 t212 H) fun t213 H =>
   p.gT t210 H (p.fadr 18 t3) fun t214 H =>
   p.gT t210 H (p.load false 1 t214 H) fun t215 H =>
   p.gT t210 H (p.binB .eql t213 t215) fun t216 H =>
   p.pick t210 t216 bF fun t217 =>
   p.gT t217 H (p.fadr 19 t2) fun t219 H =>
   p.gT t217 H (p.load false 1 t219 H) fun t220 H =>
   p.gT t217 H (p.fadr 19 t3) fun t221 H =>
   p.gT t217 H (p.load false 1 t221 H) fun t222 H =>
   p.hT t217 H (p.call 4 (.fn 65 [] []) [t220, t222] H) fun t223 H =>
   p.pick t217 t223 bF fun t224 =>
   p.gT t224 H (p.fadr 20 t2) fun t226 H =>
   p.gT t224 H (p.load false 1 t226 H) fun t227 H =>
   p.gT t224 H (p.fadr 20 t3) fun t228 H =>
   p.gT t224 H (p.load false 1 t228 H) fun t229 H =>
   p.gT t224 H (p.bin .eql t227 t229) fun t230 H =>
   p.pick t224 t230 bF fun t231 =>
   p.gT t231 H (p.fadr 21 t2) fun t233 H =>
   p.gT t231 H (p.load false 1 t233 H) fun t234 H =>
   p.gT t231 H (p.fadr 21 t3) fun t235 H =>
   p.gT t231 H (p.load false 1 t235 H) fun t236 H =>
   p.gT t231 H (p.binB .eql t234 t236) fun t237 H =>
   p.pick t231 t237 bF fun t238 =>
   k t238 H)
noncomputable def Nb (p : Pr β) (n : Nat)  (k : KO β) : Nat → AV → AV → KO β
 | 0, _, _, _, _ => none
 | m + 1, t2, t3, t6, H => p.fadr 23 t2 fun t52 =>
   p.load false 1 t52 H fun t53 =>
   p.len t53 fun t54 =>
   p.bin .lss t6 t54 fun t55 =>
   p.cond t55
   (p.fadr 23 t2 fun t58 =>
   p.load false 1 t58 H fun t59 =>
   p.iadr 1 t59 t6 fun t61 =>
   p.load false 1 t61 H fun t62 =>
   p.fadr 23 t3 fun t63 =>
   p.load false 1 t63 H fun t64 =>
   p.iadr 1 t64 t6 fun t66 =>
   p.load false 1 t66 H fun t67 =>
   p.bin .neq t62 t67 fun t68 =>
   p.cond t68
   (k bF H)
   (p.bin .add t6 (si 1) fun t57 =>
   Nb p n  k m t2 t3 t57 H))
   (Pq p n  k n t2 t3 i0 H)
noncomputable def Na (p : Pr β) (n : Nat)  (k : KO β) : Nat → AV → AV → KO β
 | 0, _, _, _, _ => none
 | m + 1, t2, t3, t5, H => p.fadr 22 t2 fun t34 =>
   p.load false 1 t34 H fun t35 =>
   p.len t35 fun t36 =>
   p.bin .lss t5 t36 fun t37 =>
   p.cond t37
   (p.fadr 22 t2 fun t40 =>
   p.load false 1 t40 H fun t41 =>
   p.iadr 2 t41 t5 fun t43 =>
   p.load true 2 t43 H fun t44 =>
   p.fadr 22 t3 fun t45 =>
   p.load false 1 t45 H fun t46 =>
   p.iadr 2 t46 t5 fun t48 =>
   p.load true 2 t48 H fun t49 =>
   p.binA .neq [1, 0] t44 t49 fun t50 =>
   p.cond t50
   (k bF H)
   (p.bin .add t5 (si 1) fun t39 =>
   Na p n  k m t2 t3 t39 H))
   (Nb p n  k n t2 t3 i0 H)
noncomputable def f89 (n : Nat) (a0 a1 : AV) (H : Ac) (k : KO β) : Option β :=
 p.box a0 H fun t2 H =>
 p.box a1 H fun t3 H =>
 p.fadr 22 t2 fun t8 =>
 p.load false 1 t8 H fun t9 =>
 p.len t9 fun t10 =>
 p.fadr 22 t3 fun t11 =>
 p.load false 1 t11 H fun t12 =>
 p.len t12 fun t13 =>
 p.bin .neq t10 t13 fun t14 =>
 p.gF t14 H (p.fadr 23 t2) fun t16 H =>
 p.gF t14 H (p.load false 1 t16 H) fun t17 H =>
 p.gF t14 H (p.len t17) fun t18 H =>
 p.gF t14 H (p.fadr 23 t3) fun t19 H =>
 p.gF t14 H (p.load false 1 t19 H) fun t20 H =>
 p.gF t14 H (p.len t20) fun t21 H =>
 p.gF t14 H (p.bin .neq t18 t21) fun t22 H =>
 p.pick t14 bT t22 fun t23 =>
 p.gF t23 H (p.fadr 24 t2) fun t25 H =>
 p.gF t23 H (p.load false 1 t25 H) fun t26 H =>
 p.gF t23 H (p.len t26) fun t27 H =>
 p.gF t23 H (p.fadr 24 t3) fun t28 H =>
 p.gF t23 H (p.load false 1 t28 H) fun t29 H =>
 p.gF t23 H (p.len t29) fun t30 H =>
 p.gF t23 H (p.bin .neq t27 t30) fun t31 H =>
 p.pick t23 bT t31 fun t32 =>
 p.cond t32
 (k bF H)
 (Na p n  k n t2 t3 i0 H)
noncomputable def Ag8 (p : Pr β) (n : Nat)  (k : KO β) (m : Nat) (tm : Tm) (H : Ac) : Option β :=
 Dw 239 (fun tm H k => Ak As p o89 239 n (cd c89 [1, 1, 1, 1, 0, 1, 0, 0]) tm H k) (Ez 4 (Eg (fun tm H => Ak As p o89 239 n (cd c89 [1, 1, 1, 1, 1]) tm H (Cp As p fi89.results k)) (Cp As p fi89.results k))) m tm H
noncomputable def Ag7 (p : Pr β) (n : Nat)  (k : KO β) (m : Nat) (tm : Tm) (H : Ac) : Option β :=
 Dw 239 (fun tm H k => Ak As p o89 239 n (cd c89 [1, 1, 1, 0, 1, 0, 0]) tm H k) (Ez 2 (Eg (fun tm H => Ak As p o89 239 n (cd c89 [1, 1, 1, 1]) tm H (Cp As p fi89.results k)) (Cp As p fi89.results k))) m tm H
noncomputable def Ag6 (p : Pr β) (n : Nat)  (k : KO β) (m : Nat) (tm : Tm) (H : Ac) : Option β :=
 Dw 239 (fun tm H k => Ak As p o89 239 n (cd c89 [1, 1, 0, 1, 0, 0]) tm H k) (Ez 0 (Eg (fun tm H => Ak As p o89 239 n (cd c89 [1, 1, 1]) tm H (Cp As p fi89.results k)) (Cp As p fi89.results k))) m tm H
theorem X8 (p : Pr β) (n : Nat)  (k : KO β) (m2 : Nat) : ∀ (t : Nat → AV) (H : Ac), Ag8 p n  k m2 (tf 239 0 t) H = Pq p n  k m2 (t 2) (t 3) (t 7) H := by
 induction m2 with
 | zero => intros; rfl
 | succ m2 ih =>
  intro t H
  refine Eq.trans (Bq (nt := 239) (m := m2) (g := fun t H => Pq p n  k m2 (t 2) (t 3) (t 7) H) ih rfl) ?_
  kernel_rfl
theorem Aa3 (p : Pr β) (n : Nat)  (k : KO β) (m1 : Nat) (t : Nat → AV) (H : Ac) : Ak As p o89 239 n (cd c89 [1, 1, 1, 0, 1, 0, 0]) (tf 239 0 t) H (Eg (fun tm H => Nb p n  k m1 (gt tm 2) (gt tm 3) (gt tm 6) H) (Ez 2 (Eg (fun tm H => Ak As p o89 239 n (cd c89 [1, 1, 1, 1]) tm H (Cp As p fi89.results k)) (Cp As p fi89.results k)))) =
 p.fadr 23 (t 2) fun t52 =>
 p.load false 1 t52 H fun t53 =>
 p.len t53 fun t54 =>
 p.bin .lss (t 6) t54 fun t55 =>
 p.cond t55
 (p.fadr 23 (t 2) fun t58 =>
 p.load false 1 t58 H fun t59 =>
 p.iadr 1 t59 (t 6) fun t61 =>
 p.load false 1 t61 H fun t62 =>
 p.fadr 23 (t 3) fun t63 =>
 p.load false 1 t63 H fun t64 =>
 p.iadr 1 t64 (t 6) fun t66 =>
 p.load false 1 t66 H fun t67 =>
 p.bin .neq t62 t67 fun t68 =>
 p.cond t68
 (k bF H)
 (p.bin .add (t 6) (si 1) fun t57 =>
 Nb p n  k m1 (t 2) (t 3) t57 H))
 (Ag8 p n  k n (tf 239 0 (ud [(7, i0), (51, (t 6)), (52, t52), (53, t53), (54, t54), (55, t55)] t)) H) := by kernel_rfl
theorem X7 (p : Pr β) (n : Nat)  (k : KO β) (m1 : Nat) : ∀ (t : Nat → AV) (H : Ac), Ag7 p n  k m1 (tf 239 0 t) H = Nb p n  k m1 (t 2) (t 3) (t 6) H := by
 induction m1 with
 | zero => intros; rfl
 | succ m1 ih =>
  intro t H
  refine Eq.trans (Bq (nt := 239) (m := m1) (g := fun t H => Nb p n  k m1 (t 2) (t 3) (t 6) H) ih rfl) ?_
  refine Eq.trans (Aa3 p n  k m1 t H) ?_
  simp only [X8]
  kernel_rfl
theorem Aa2 (p : Pr β) (n : Nat)  (k : KO β) (m0 : Nat) (t : Nat → AV) (H : Ac) : Ak As p o89 239 n (cd c89 [1, 1, 0, 1, 0, 0]) (tf 239 0 t) H (Eg (fun tm H => Na p n  k m0 (gt tm 2) (gt tm 3) (gt tm 5) H) (Ez 0 (Eg (fun tm H => Ak As p o89 239 n (cd c89 [1, 1, 1]) tm H (Cp As p fi89.results k)) (Cp As p fi89.results k)))) =
 p.fadr 22 (t 2) fun t34 =>
 p.load false 1 t34 H fun t35 =>
 p.len t35 fun t36 =>
 p.bin .lss (t 5) t36 fun t37 =>
 p.cond t37
 (p.fadr 22 (t 2) fun t40 =>
 p.load false 1 t40 H fun t41 =>
 p.iadr 2 t41 (t 5) fun t43 =>
 p.load true 2 t43 H fun t44 =>
 p.fadr 22 (t 3) fun t45 =>
 p.load false 1 t45 H fun t46 =>
 p.iadr 2 t46 (t 5) fun t48 =>
 p.load true 2 t48 H fun t49 =>
 p.binA .neq [1, 0] t44 t49 fun t50 =>
 p.cond t50
 (k bF H)
 (p.bin .add (t 5) (si 1) fun t39 =>
 Na p n  k m0 (t 2) (t 3) t39 H))
 (Ag7 p n  k n (tf 239 0 (ud [(6, i0), (33, (t 5)), (34, t34), (35, t35), (36, t36), (37, t37)] t)) H) := by kernel_rfl
theorem Aez (p : Pr β) (n : Nat)  (k : KO β) (m0 : Nat) : ∀ (t : Nat → AV) (H : Ac), Ag6 p n  k m0 (tf 239 0 t) H = Na p n  k m0 (t 2) (t 3) (t 5) H := by
 induction m0 with
 | zero => intros; rfl
 | succ m0 ih =>
  intro t H
  refine Eq.trans (Bq (nt := 239) (m := m0) (g := fun t H => Na p n  k m0 (t 2) (t 3) (t 5) H) ih rfl) ?_
  refine Eq.trans (Aa2 p n  k m0 t H) ?_
  simp only [X7]
  kernel_rfl
theorem Ajo (p : Pr β) (n : Nat) (a0 a1 : AV) (H : Ac) (k : KO β) : Cj As p n fi89 [a0, a1] H k =
 p.box a0 H fun t2 H =>
 p.box a1 H fun t3 H =>
 p.fadr 22 t2 fun t8 =>
 p.load false 1 t8 H fun t9 =>
 p.len t9 fun t10 =>
 p.fadr 22 t3 fun t11 =>
 p.load false 1 t11 H fun t12 =>
 p.len t12 fun t13 =>
 p.bin .neq t10 t13 fun t14 =>
 p.gF t14 H (p.fadr 23 t2) fun t16 H =>
 p.gF t14 H (p.load false 1 t16 H) fun t17 H =>
 p.gF t14 H (p.len t17) fun t18 H =>
 p.gF t14 H (p.fadr 23 t3) fun t19 H =>
 p.gF t14 H (p.load false 1 t19 H) fun t20 H =>
 p.gF t14 H (p.len t20) fun t21 H =>
 p.gF t14 H (p.bin .neq t18 t21) fun t22 H =>
 p.pick t14 bT t22 fun t23 =>
 p.gF t23 H (p.fadr 24 t2) fun t25 H =>
 p.gF t23 H (p.load false 1 t25 H) fun t26 H =>
 p.gF t23 H (p.len t26) fun t27 H =>
 p.gF t23 H (p.fadr 24 t3) fun t28 H =>
 p.gF t23 H (p.load false 1 t28 H) fun t29 H =>
 p.gF t23 H (p.len t29) fun t30 H =>
 p.gF t23 H (p.bin .neq t27 t30) fun t31 H =>
 p.pick t23 bT t31 fun t32 =>
 p.cond t32
 (k bF H)
 (Ag6 p n  k n (tf 239 0 (ud [(0, a0), (1, a1), (2, t2), (3, t3), (4, bF), (5, i0), (8, t8), (9, t9), (10, t10), (11, t11), (12, t12), (13, t13), (14, t14), (15, t14), (16, t16), (17, t17), (18, t18), (19, t19), (20, t20), (21, t21), (22, t22), (23, t23), (24, t23), (25, t25), (26, t26), (27, t27), (28, t28), (29, t29), (30, t30), (31, t31), (32, t32)] ut)) H) := by kernel_rfl
theorem Ag9 : Kb fi89 @f89 := fun p n a0 a1 H k => by
 rw [Ajo]
 simp only [X8, X7, Aez]
 kernel_rfl
noncomputable def Jq (p : Pr β) (n : Nat)  (k : KO β) : Nat → AV → AV → AV → AV → AV → KO β
 | 0, _, _, _, _, _, _, _ => none
 | m + 1, t0, t1, t8, t9, t10, t11, H => p.bin .leq t11 t8 fun t67 =>
   p.cond t67
   (p.bin .add t1 t11 fun t73 =>
   p.iadr 1 t0 t73 fun t74 =>
   p.load false 1 t74 H fun t75 =>
   p.cvI .i64 t75 fun t76 =>
   p.bin .lss t76 (si 128) fun t78 =>
   p.kF t78 H t76 fun t80 H =>
   p.gF t78 H (p.bin .gtr t80 (si 191)) fun t81 H =>
   p.pick t78 bT t81 fun t82 =>
   p.cond t82
   (k (Dk [i0, i0, bF]) H)
   (p.bin .mul t10 (si 64) fun t84 =>
   p.bin .add t84 t76 fun t86 =>
   p.bin .sub t86 (si 128) fun t87 =>
   p.bin .add t11 (si 1) fun t69 =>
   Jq p n  k m t0 t1 t8 t9 t87 t69 H))
   (p.bin .lss t10 t9 fun t90 =>
   p.kF t90 H t10 fun t92 H =>
   p.gF t90 H (p.bin .gtr t92 (si 1114111)) fun t93 H =>
   p.pick t90 bT t93 fun t94 =>
   p.kF t94 H t10 fun t96 H =>
   p.hF t94 H (p.call 4 (.fn 81 [] []) [t96, (si 55296), (si 57343)] H) fun t97 H =>
   p.pick t94 bT t97 fun t98 =>
   p.cond t98
   (k (Dk [i0, i0, bF]) H)
   (p.bin .add t1 (si 1) fun t101 =>
   p.bin .add t101 t8 fun t103 =>
   k (Dk [t10, t103, bT]) H))
noncomputable def f143 (n : Nat) (a0 a1 : AV) (H : Ac) (k : KO β) : Option β :=
 p.bin .lss a1 i0 fun t14 =>
 p.kF t14 H a1 fun t16 H =>
 p.kF t14 H a0 fun t17 H =>
 p.gF t14 H (p.len t17) fun t18 H =>
 p.gF t14 H (p.bin .geq t16 t18) fun t19 H =>
 p.pick t14 bT t19 fun t20 =>
 p.cond t20
 (k (Dk [i0, i0, bF]) H)
 (p.iadr 1 a0 a1 fun t23 =>
 p.load false 1 t23 H fun t24 =>
 p.cvI .i64 t24 fun t25 =>
 p.bin .lss t25 (si 128) fun t27 =>
 p.cond t27
 (p.bin .add a1 (si 1) fun t30 =>
 k (Dk [t25, t30, bT]) H)
 (p.bin .geq t25 (si 192) fun t33 =>
 p.kT t33 H t25 fun t35 H =>
 p.gT t33 H (p.bin .lss t35 (si 224)) fun t36 H =>
 p.pick t33 t36 bF fun t37 =>
 p.cond t37
 (p.bin .and t25 (si 31) fun t39 =>
 p.len a0 fun t60 =>
 p.bin .sub t60 (si 1) fun t61 =>
 p.bin .sub t61 (si 1) fun t63 =>
 p.bin .gtr a1 t63 fun t64 =>
 p.cond t64
 (k (Dk [i0, i0, bF]) H)
 (Jq p n  k n a0 a1 (si 1) (si 128) t39 (si 1) H))
 (p.bin .geq t25 (si 224) fun t42 =>
 p.kT t42 H t25 fun t44 H =>
 p.gT t42 H (p.bin .lss t44 (si 240)) fun t45 H =>
 p.pick t42 t45 bF fun t46 =>
 p.cond t46
 (p.bin .and t25 (si 15) fun t48 =>
 p.len a0 fun t60 =>
 p.bin .sub t60 (si 1) fun t61 =>
 p.bin .sub t61 (si 2) fun t63 =>
 p.bin .gtr a1 t63 fun t64 =>
 p.cond t64
 (k (Dk [i0, i0, bF]) H)
 (Jq p n  k n a0 a1 (si 2) (si 2048) t48 (si 1) H))
 (p.bin .geq t25 (si 240) fun t51 =>
 p.kT t51 H t25 fun t53 H =>
 p.gT t51 H (p.bin .lss t53 (si 248)) fun t54 H =>
 p.pick t51 t54 bF fun t55 =>
 p.cond t55
 (p.bin .and t25 (si 7) fun t57 =>
 p.len a0 fun t60 =>
 p.bin .sub t60 (si 1) fun t61 =>
 p.bin .sub t61 (si 3) fun t63 =>
 p.bin .gtr a1 t63 fun t64 =>
 p.cond t64
 (k (Dk [i0, i0, bF]) H)
 (Jq p n  k n a0 a1 (si 3) (si 65536) t57 (si 1) H))
 (k (Dk [i0, i0, bF]) H)))))
noncomputable def Uu (p : Pr β) (n : Nat)  (k : KO β) (m : Nat) (tm : Tm) (H : Ac) : Option β :=
 Dw 104 (fun tm H k => Ak As p [] 104 n (cd Alc [1, 1, 1, 1, 1, 1, 1, 1, 1, 0, 1, 0, 0]) tm H k) (Ez 1 (Eg (fun tm H => Ak As p [] 104 n (cd Alc [1, 1, 1, 1, 1, 1, 1, 1, 1, 1]) tm H (Cp As p fi143.results k)) (Cp As p fi143.results k))) m tm H
theorem AbH (p : Pr β) (n : Nat)  (k : KO β) (m0 : Nat) : ∀ (t : Nat → AV) (H : Ac), Uu p n  k m0 (tf 104 0 t) H = Jq p n  k m0 (t 0) (t 1) (t 8) (t 9) (t 10) (t 11) H := by
 induction m0 with
 | zero => intros; rfl
 | succ m0 ih =>
  intro t H
  refine Eq.trans (Bq (nt := 104) (m := m0) (g := fun t H => Jq p n  k m0 (t 0) (t 1) (t 8) (t 9) (t 10) (t 11) H) ih rfl) ?_
  kernel_rfl
theorem Af2 (p : Pr β) (n : Nat) (a0 a1 : AV) (H : Ac) (k : KO β) : Cj As p n fi143 [a0, a1] H k =
 p.bin .lss a1 i0 fun t14 =>
 p.kF t14 H a1 fun t16 H =>
 p.kF t14 H a0 fun t17 H =>
 p.gF t14 H (p.len t17) fun t18 H =>
 p.gF t14 H (p.bin .geq t16 t18) fun t19 H =>
 p.pick t14 bT t19 fun t20 =>
 p.cond t20
 (k (Dk [i0, i0, bF]) H)
 (p.iadr 1 a0 a1 fun t23 =>
 p.load false 1 t23 H fun t24 =>
 p.cvI .i64 t24 fun t25 =>
 p.bin .lss t25 (si 128) fun t27 =>
 p.cond t27
 (p.bin .add a1 (si 1) fun t30 =>
 k (Dk [t25, t30, bT]) H)
 (p.bin .geq t25 (si 192) fun t33 =>
 p.kT t33 H t25 fun t35 H =>
 p.gT t33 H (p.bin .lss t35 (si 224)) fun t36 H =>
 p.pick t33 t36 bF fun t37 =>
 p.cond t37
 (p.bin .and t25 (si 31) fun t39 =>
 p.len a0 fun t60 =>
 p.bin .sub t60 (si 1) fun t61 =>
 p.bin .sub t61 (si 1) fun t63 =>
 p.bin .gtr a1 t63 fun t64 =>
 p.cond t64
 (k (Dk [i0, i0, bF]) H)
 (Uu p n  k n (tf 104 0 (ud [(0, a0), (1, a1), (4, i0), (5, i0), (6, bF), (7, t25), (8, (si 1)), (9, (si 128)), (10, t39), (11, (si 1)), (13, a1), (14, t14), (15, t14), (16, t16), (17, t17), (18, t18), (19, t19), (20, t20), (21, a0), (22, a1), (23, t23), (24, t24), (25, t25), (26, t25), (27, t27), (31, t37), (32, t25), (33, t33), (34, t33), (35, t35), (36, t36), (37, t37), (38, t25), (39, t39), (58, a1), (59, a0), (60, t60), (61, t61), (62, (si 1)), (63, t63), (64, t64)] ut)) H))
 (p.bin .geq t25 (si 224) fun t42 =>
 p.kT t42 H t25 fun t44 H =>
 p.gT t42 H (p.bin .lss t44 (si 240)) fun t45 H =>
 p.pick t42 t45 bF fun t46 =>
 p.cond t46
 (p.bin .and t25 (si 15) fun t48 =>
 p.len a0 fun t60 =>
 p.bin .sub t60 (si 1) fun t61 =>
 p.bin .sub t61 (si 2) fun t63 =>
 p.bin .gtr a1 t63 fun t64 =>
 p.cond t64
 (k (Dk [i0, i0, bF]) H)
 (Uu p n  k n (tf 104 0 (ud [(0, a0), (1, a1), (4, i0), (5, i0), (6, bF), (7, t25), (8, (si 2)), (9, (si 2048)), (10, t48), (11, (si 1)), (13, a1), (14, t14), (15, t14), (16, t16), (17, t17), (18, t18), (19, t19), (20, t20), (21, a0), (22, a1), (23, t23), (24, t24), (25, t25), (26, t25), (27, t27), (31, t37), (32, t25), (33, t33), (34, t33), (35, t35), (36, t36), (37, t37), (40, t46), (41, t25), (42, t42), (43, t42), (44, t44), (45, t45), (46, t46), (47, t25), (48, t48), (58, a1), (59, a0), (60, t60), (61, t61), (62, (si 2)), (63, t63), (64, t64)] ut)) H))
 (p.bin .geq t25 (si 240) fun t51 =>
 p.kT t51 H t25 fun t53 H =>
 p.gT t51 H (p.bin .lss t53 (si 248)) fun t54 H =>
 p.pick t51 t54 bF fun t55 =>
 p.cond t55
 (p.bin .and t25 (si 7) fun t57 =>
 p.len a0 fun t60 =>
 p.bin .sub t60 (si 1) fun t61 =>
 p.bin .sub t61 (si 3) fun t63 =>
 p.bin .gtr a1 t63 fun t64 =>
 p.cond t64
 (k (Dk [i0, i0, bF]) H)
 (Uu p n  k n (tf 104 0 (ud [(0, a0), (1, a1), (4, i0), (5, i0), (6, bF), (7, t25), (8, (si 3)), (9, (si 65536)), (10, t57), (11, (si 1)), (13, a1), (14, t14), (15, t14), (16, t16), (17, t17), (18, t18), (19, t19), (20, t20), (21, a0), (22, a1), (23, t23), (24, t24), (25, t25), (26, t25), (27, t27), (31, t37), (32, t25), (33, t33), (34, t33), (35, t35), (36, t36), (37, t37), (40, t46), (41, t25), (42, t42), (43, t42), (44, t44), (45, t45), (46, t46), (49, t55), (50, t25), (51, t51), (52, t51), (53, t53), (54, t54), (55, t55), (56, t25), (57, t57), (58, a1), (59, a0), (60, t60), (61, t61), (62, (si 3)), (63, t63), (64, t64)] ut)) H))
 (k (Dk [i0, i0, bF]) H))))) := by kernel_rfl
theorem Aeb : Kb fi143 @f143 := fun p n a0 a1 H k => by
 rw [Af2]
 simp only [AbH]
 kernel_rfl
noncomputable def Qi (p : Pr β) (n : Nat)  (k : KO β) : Nat → AV → AV → KO β
 | 0, _, _, _, _ => none
 | m + 1, t3, t4, t5, H => p.len t3 fun t16 =>
   p.bin .lss t5 t16 fun t17 =>
   p.cond t17
   (p.call 110 (.fn 143 [] []) [t3, t5] H fun t21 H =>
   p.extr t21 0 fun t22 =>
   p.extr t21 1 fun t23 =>
   p.extr t21 2 fun t24 =>
   p.un .not t24 fun t26 =>
   p.kF t26 H t22 fun t28 H =>
   p.gF t26 H (p.bin .eql t28 i0) fun t29 H =>
   p.pick t26 bT t29 fun t30 =>
   p.cond t30
   (k (si (-1)) H)
   (p.bin .add t4 (si 1) fun t33 =>
   Qi p n  k m t3 t33 t23 H))
   (k t4 H)
noncomputable def f115 (n : Nat) (a0 : AV) (H : Ac) (k : KO β) : Option β :=
 p.lenS a0 fun t10 =>
 p.bin .gtr t10 (si 60) fun t11 =>
 p.cond t11
 (k (si (-1)) H)
 (p.cvSB a0 H fun t13 H =>
 Qi p n  k n t13 i0 i0 H)
noncomputable def Ac9 (p : Pr β) (n : Nat)  (k : KO β) (m : Nat) (tm : Tm) (H : Ac) : Option β :=
 Dw 35 (fun tm H k => Ak As p [] 35 n (cd AkQ [1, 1, 1, 1, 0, 1, 0, 0]) tm H k) (Ez 0 (Eg (fun tm H => Ak As p [] 35 n (cd AkQ [1, 1, 1, 1, 1]) tm H (Cp As p fi115.results k)) (Cp As p fi115.results k))) m tm H
theorem Ab5 (p : Pr β) (n : Nat)  (k : KO β) (m0 : Nat) : ∀ (t : Nat → AV) (H : Ac), Ac9 p n  k m0 (tf 35 0 t) H = Qi p n  k m0 (t 3) (t 4) (t 5) H := by
 induction m0 with
 | zero => intros; rfl
 | succ m0 ih =>
  intro t H
  refine Eq.trans (Bq (nt := 35) (m := m0) (g := fun t H => Qi p n  k m0 (t 3) (t 4) (t 5) H) ih rfl) ?_
  kernel_rfl
theorem Afn (p : Pr β) (n : Nat) (a0 : AV) (H : Ac) (k : KO β) : Cj As p n fi115 [a0] H k =
 p.lenS a0 fun t10 =>
 p.bin .gtr t10 (si 60) fun t11 =>
 p.cond t11
 (k (si (-1)) H)
 (p.cvSB a0 H fun t13 H =>
 Ac9 p n  k n (tf 35 0 (ud [(0, a0), (2, i0), (3, t13), (4, i0), (5, i0), (9, a0), (10, t10), (11, t11), (12, a0), (13, t13)] ut)) H) := by kernel_rfl
theorem AdB : Kv fi115 @f115 := fun p n a0 H k => by
 rw [Afn]
 simp only [Ab5]
 kernel_rfl
noncomputable def f80 (n : Nat) (a0 : AV) (H : Ac) (k : KO β) : Option β :=
 p.call 3 (.fn 115 [] []) [a0] H fun t4 H =>
 p.bin .geq t4 i0 fun t5 =>
 k t5 H
theorem Agx : Kv Anm @f80 := fun p n a0 H k => by kernel_rfl
noncomputable def Oh (p : Pr β) (n : Nat)  (k : KO β) : Nat → AV → AV → KO β
 | 0, _, _, _, _ => none
 | m + 1, t0, t1, t5, H => p.lenS t0 fun t8 =>
   p.bin .lss t5 t8 fun t9 =>
   p.cond t9
   (p.idx t0 t5 fun t14 =>
   p.bin .eql t14 t1 fun t16 =>
   p.cond t16
   (k bT H)
   (p.bin .add t5 (si 1) fun t11 =>
   Oh p n  k m t0 t1 t11 H))
   (k bF H)
noncomputable def f127 (n : Nat) (a0 a1 : AV) (H : Ac) (k : KO β) : Option β :=
 Oh p n  k n a0 a1 i0 H
noncomputable def AcF (p : Pr β) (n : Nat)  (k : KO β) (m : Nat) (tm : Tm) (H : Ac) : Option β :=
 Dw 17 (fun tm H k => Ak As p [] 17 n (cd AkW [1, 0, 1, 0, 0]) tm H k) (Ez 0 (Eg (fun tm H => Ak As p [] 17 n (cd AkW [1, 1]) tm H (Cp As p fi127.results k)) (Cp As p fi127.results k))) m tm H
theorem AbB (p : Pr β) (n : Nat)  (k : KO β) (m0 : Nat) : ∀ (t : Nat → AV) (H : Ac), AcF p n  k m0 (tf 17 0 t) H = Oh p n  k m0 (t 0) (t 1) (t 5) H := by
 induction m0 with
 | zero => intros; rfl
 | succ m0 ih =>
  intro t H
  refine Eq.trans (Bq (nt := 17) (m := m0) (g := fun t H => Oh p n  k m0 (t 0) (t 1) (t 5) H) ih rfl) ?_
  kernel_rfl
theorem Afu (p : Pr β) (n : Nat) (a0 a1 : AV) (H : Ac) (k : KO β) : Cj As p n fi127 [a0, a1] H k =
 AcF p n  k n (tf 17 0 (ud [(0, a0), (1, a1), (4, bF), (5, i0)] ut)) H := by kernel_rfl
theorem AdN : Kb fi127 @f127 := fun p n a0 a1 H k => by
 rw [Afu]
 simp only [AbB]
 kernel_rfl
noncomputable def Lp (p : Pr β) (n : Nat)  (k : KO β) : Nat → AV → AV → AV → KO β
 | 0, _, _, _, _, _ => none
 | m + 1, t0, t3, t4, t5, H => p.lenS t0 fun t9 =>
   p.bin .leq t5 t9 fun t10 =>
   p.cond t10
   (p.lenS t0 fun t15 =>
   p.bin .eql t5 t15 fun t16 =>
   p.kF t16 H t0 fun t18 H =>
   p.kF t16 H t5 fun t19 H =>
   p.gF t16 H (p.idx t18 t19) fun t20 H =>
   p.gF t16 H (p.bin .eql t20 (su 47)) fun t21 H =>
   p.pick t16 bT t21 fun t22 =>
   p.cond t22
   (p.sliceS t0 (some t4) (some t5) fun t27 =>
   p.fill [sE] [(0, 1, t27)] fun ct28 => p.newSl 1 1 ct28 true H fun t28 H =>
   p.app 1 16 t3 t28 H fun t29 H =>
   p.bin .add t5 (si 1) fun t31 =>
   p.bin .add t5 (si 1) fun t12 =>
   Lp p n  k m t0 t29 t31 t12 H)
   (p.bin .add t5 (si 1) fun t12 =>
   Lp p n  k m t0 t3 t4 t12 H))
   (k t3 H)
noncomputable def f128 (n : Nat) (a0 : AV) (H : Ac) (k : KO β) : Option β :=
 Lp p n  k n a0 .nl i0 i0 H
noncomputable def AcG (p : Pr β) (n : Nat)  (k : KO β) (m : Nat) (tm : Tm) (H : Ac) : Option β :=
 Dw 33 (fun tm H k => Ak As p [] 33 n (cd AkX [1, 1, 1, 0, 1, 0, 0]) tm H k) (Ez 0 (Eg (fun tm H => Ak As p [] 33 n (cd AkX [1, 1, 1, 1]) tm H (Cp As p fi128.results k)) (Cp As p fi128.results k))) m tm H
theorem AbC (p : Pr β) (n : Nat)  (k : KO β) (m0 : Nat) : ∀ (t : Nat → AV) (H : Ac), AcG p n  k m0 (tf 33 0 t) H = Lp p n  k m0 (t 0) (t 3) (t 4) (t 5) H := by
 induction m0 with
 | zero => intros; rfl
 | succ m0 ih =>
  intro t H
  refine Eq.trans (Bq (nt := 33) (m := m0) (g := fun t H => Lp p n  k m0 (t 0) (t 3) (t 4) (t 5) H) ih rfl) ?_
  kernel_rfl
theorem Afv (p : Pr β) (n : Nat) (a0 : AV) (H : Ac) (k : KO β) : Cj As p n fi128 [a0] H k =
 AcG p n  k n (tf 33 0 (ud [(0, a0), (2, .nl), (3, .nl), (4, i0), (5, i0), (6, .nl)] ut)) H := by kernel_rfl
theorem AdO : Kv fi128 @f128 := fun p n a0 H k => by
 rw [Afv]
 simp only [AbC]
 kernel_rfl
noncomputable def f91 (n : Nat) (a0 : AV) (H : Ac) (k : KO β) : Option β :=
 p.call 4 (.fn 80 [] []) [a0] H fun t4 H =>
 p.kT t4 H a0 fun t6 H =>
 p.gT t4 H (p.bin .neq t6 sE) fun t7 H =>
 p.pick t4 t7 bF fun t8 =>
 p.kT t8 H a0 fun t10 H =>
 p.hT t8 H (p.call 4 (.fn 127 [] []) [t10, (su 43)] H) fun t11 H =>
 p.gT t8 H (p.un .not t11) fun t12 H =>
 p.pick t8 t12 bF fun t13 =>
 p.kT t13 H a0 fun t15 H =>
 p.hT t13 H (p.call 4 (.fn 127 [] []) [t15, (su 35)] H) fun t16 H =>
 p.gT t13 H (p.un .not t16) fun t17 H =>
 p.pick t13 t17 bF fun t18 =>
 p.kT t18 H a0 fun t20 H =>
 p.hT t18 H (p.call 56 (.fn 128 [] []) [t20] H) fun t21 H =>
 p.gT t18 H (p.len t21) fun t22 H =>
 p.gT t18 H (p.bin .leq t22 (si 6)) fun t23 H =>
 p.pick t18 t23 bF fun t24 =>
 k t24 H
theorem AgB : Kv Anw @f91 := fun p n a0 H k => by kernel_rfl
noncomputable def Rj (p : Pr β) (n : Nat)  (k : KO β) : Nat → AV → AV → KO β
 | 0, _, _, _, _ => none
 | m + 1, t0, t3, t4, H => p.len t3 fun t9 =>
   p.bin .lss t4 t9 fun t10 =>
   p.cond t10
   (p.iadr 1 t3 t4 fun t15 =>
   p.load false 1 t15 H fun t16 =>
   p.ca 4 127 [t16, (su 43)] H fun t17 H =>
   p.kT t17 H t3 fun t19 H =>
   p.kT t17 H t4 fun t20 H =>
   p.gT t17 H (p.iadr 1 t19 t20) fun t21 H =>
   p.gT t17 H (p.load false 1 t21 H) fun t22 H =>
   p.gT t17 H (p.bin .neq t22 (.sc (.string ⟨#[43]⟩))) fun t23 H =>
   p.pick t17 t23 bF fun t24 =>
   p.kF t24 H t3 fun t26 H =>
   p.kF t24 H t4 fun t27 H =>
   p.gF t24 H (p.iadr 1 t26 t27) fun t28 H =>
   p.gF t24 H (p.load false 1 t28 H) fun t29 H =>
   p.hF t24 H (p.ca 4 127 [t29, (su 35)] H) fun t30 H =>
   p.kF t24 H t30 fun t31 H =>
   p.kT t31 H t3 fun t32 H =>
   p.kT t31 H t4 fun t33 H =>
   p.gT t31 H (p.iadr 1 t32 t33) fun t34 H =>
   p.gT t31 H (p.load false 1 t34 H) fun t35 H =>
   p.gT t31 H (p.bin .neq t35 (.sc (.string ⟨#[35]⟩))) fun t36 H =>
   p.kT t31 H t36 fun t37 H =>
   p.kF t37 H t4 fun t38 H =>
   p.kF t37 H t3 fun t39 H =>
   p.gF t37 H (p.len t39) fun t40 H =>
   p.gF t37 H (p.bin .sub t40 (si 1)) fun t41 H =>
   p.gF t37 H (p.bin .lss t38 t41) fun t42 H =>
   p.gT t31 H (p.pick t37 bT t42) fun t43 H =>
   p.gF t24 H (p.pick t31 t43 bF) fun t44 H =>
   p.pick t24 bT t44 fun t45 =>
   p.cond t45
   (k bF H)
   (p.bin .add t4 (si 1) fun t12 =>
   Rj p n  k m t0 t3 t12 H))
   (p.ca 4 80 [t0] H fun t47 H =>
   p.kT t47 H t0 fun t49 H =>
   p.gT t47 H (p.bin .neq t49 sE) fun t50 H =>
   p.pick t47 t50 bF fun t51 =>
   p.kT t51 H t3 fun t53 H =>
   p.gT t51 H (p.len t53) fun t54 H =>
   p.gT t51 H (p.bin .leq t54 (si 6)) fun t55 H =>
   p.pick t51 t55 bF fun t56 =>
   k t56 H)
noncomputable def f92 (n : Nat) (a0 : AV) (H : Ac) (k : KO β) : Option β :=
 p.call 56 (.fn 128 [] []) [a0] H fun t6 H =>
 Rj p n  k n a0 t6 i0 H
noncomputable def AgC (p : Pr β) (n : Nat)  (k : KO β) (m : Nat) (tm : Tm) (H : Ac) : Option β :=
 Dw 57 (fun tm H k => Ak As p [] 57 n (cd c92 [1, 1, 0, 1, 0, 0]) tm H k) (Ez 0 (Eg (fun tm H => Ak As p [] 57 n (cd c92 [1, 1, 1]) tm H (Cp As p fi92.results k)) (Cp As p fi92.results k))) m tm H
theorem Ae0 (p : Pr β) (n : Nat)  (k : KO β) (m0 : Nat) : ∀ (t : Nat → AV) (H : Ac), AgC p n  k m0 (tf 57 0 t) H = Rj p n  k m0 (t 0) (t 3) (t 4) H := by
 induction m0 with
 | zero => intros; rfl
 | succ m0 ih =>
  intro t H
  refine Eq.trans (Bq (nt := 57) (m := m0) (g := fun t H => Rj p n  k m0 (t 0) (t 3) (t 4) H) ih rfl) ?_
  kernel_rfl
theorem Ajp (p : Pr β) (n : Nat) (a0 : AV) (H : Ac) (k : KO β) : Cj As p n fi92 [a0] H k =
 p.call 56 (.fn 128 [] []) [a0] H fun t6 H =>
 AgC p n  k n (tf 57 0 (ud [(0, a0), (2, bF), (3, t6), (4, i0), (5, a0), (6, t6)] ut)) H := by kernel_rfl
theorem AgD : Kv fi92 @f92 := fun p n a0 H k => by
 rw [Ajp]
 simp only [Ae0]
 kernel_rfl
noncomputable def Mj (p : Pr β) (n : Nat)  (k : KO β) : Nat → AV → AV → KO β
 | 0, _, _, _, _ => none
 | m + 1, t1, t3, t4, H => p.fadr 22 t1 fun t105 =>
   p.load false 1 t105 H fun t106 =>
   p.len t106 fun t107 =>
   p.bin .lss t4 t107 fun t108 =>
   p.cond t108
   (p.fadr 22 t1 fun t111 =>
   p.load false 1 t111 H fun t112 =>
   p.iadr 2 t112 t4 fun t114 =>
   p.fl 0 t114 1 H fun t116 =>
   p.ca 4 92 [t116] H fun t117 H =>
   p.un .not t117 fun t118 =>
   p.lF t118 H 22 t1 1 fun t121 H =>
   p.kF t118 H t4 fun t122 H =>
   p.gF t118 H (p.iadr 2 t121 t122) fun t123 H =>
   p.lF t118 H 1 t123 1 fun t125 H =>
   p.hF t118 H (p.ca 4 81 [t125, i0, (si 2)] H) fun t126 H =>
   p.gF t118 H (p.un .not t126) fun t127 H =>
   p.pick t118 bT t127 fun t128 =>
   p.cond t128
   (k bF H)
   (p.bin .add t4 (si 1) fun t110 =>
   Mj p n  k m t1 t3 t110 H))
   (p.gT t3 H (p.fadr 22 t1) fun t131 H =>
   p.gT t3 H (p.load false 1 t131 H) fun t132 H =>
   p.gT t3 H (p.len t132) fun t133 H =>
   p.hT t3 H (p.ca 4 81 [t133, (si 1), (si 4)] H) fun t134 H =>
   p.pick t3 t134 bF fun t135 =>
   k t135 H)
noncomputable def Mk (p : Pr β) (n : Nat)  (k : KO β) : Nat → AV → AV → KO β
 | 0, _, _, _, _ => none
 | m + 1, t1, t3, t5, H => p.fadr 24 t1 fun t139 =>
   p.load false 1 t139 H fun t140 =>
   p.len t140 fun t141 =>
   p.bin .lss t5 t141 fun t142 =>
   p.cond t142
   (p.fadr 24 t1 fun t145 =>
   p.load false 1 t145 H fun t146 =>
   p.iadr 1 t146 t5 fun t148 =>
   p.load false 1 t148 H fun t149 =>
   p.ca 4 81 [t149, i0, (si 2)] H fun t150 H =>
   p.un .not t150 fun t151 =>
   p.lT t151 H 24 t1 1 fun t154 H =>
   p.kT t151 H t5 fun t155 H =>
   p.gT t151 H (p.iadr 1 t154 t155) fun t156 H =>
   p.gT t151 H (p.load false 1 t156 H) fun t157 H =>
   p.gT t151 H (p.bin .neq t157 (si 128)) fun t158 H =>
   p.pick t151 t158 bF fun t159 =>
   p.cond t159
   (k bF H)
   (p.bin .add t5 (si 1) fun t144 =>
   Mk p n  k m t1 t3 t144 H))
   (p.gT t3 H (p.fadr 24 t1) fun t162 H =>
   p.gT t3 H (p.load false 1 t162 H) fun t163 H =>
   p.gT t3 H (p.len t163) fun t164 H =>
   p.hT t3 H (p.ca 4 81 [t164, (si 1), (si 4)] H) fun t165 H =>
   p.pick t3 t165 bF fun t166 =>
   k t166 H)
noncomputable def Ml (p : Pr β) (n : Nat)  (k : KO β) : Nat → AV → AV → KO β
 | 0, _, _, _, _ => none
 | m + 1, t1, t3, t6, H => p.fadr 23 t1 fun t170 =>
   p.load false 1 t170 H fun t171 =>
   p.len t171 fun t172 =>
   p.bin .lss t6 t172 fun t173 =>
   p.cond t173
   (p.fadr 23 t1 fun t176 =>
   p.load false 1 t176 H fun t177 =>
   p.iadr 1 t177 t6 fun t179 =>
   p.load false 1 t179 H fun t180 =>
   p.ca 4 92 [t180] H fun t181 H =>
   p.un .not t181 fun t182 =>
   p.cond t182
   (k bF H)
   (p.bin .add t6 (si 1) fun t175 =>
   Ml p n  k m t1 t3 t175 H))
   (p.gT t3 H (p.fadr 23 t1) fun t185 H =>
   p.gT t3 H (p.load false 1 t185 H) fun t186 H =>
   p.gT t3 H (p.len t186) fun t187 H =>
   p.hT t3 H (p.ca 4 81 [t187, (si 1), (si 4)] H) fun t188 H =>
   p.pick t3 t188 bF fun t189 =>
   k t189 H)
noncomputable def f64 (n : Nat) (a0 : AV) (H : Ac) (k : KO β) : Option β :=
 p.box a0 H fun t1 H =>
 p.fl 0 t1 1 H fun t8 =>
 p.ca 4 81 [t8, (si 1), (si 14)] H fun t9 H =>
 p.un .not t9 fun t10 =>
 p.gF t10 H (p.load true 25 t1 H) fun t13 H =>
 p.both
 (p.gF t10 H (p.load true 25 t1 H) fun t12 H =>
 p.hF t10 H (p.ca 59 90 [t13] H) fun t14 H =>
 p.hF t10 H (p.ca 4 89 [t12, t14] H) fun t15 H =>
 p.gF t10 H (p.un .not t15) fun t16 H =>
 p.pick t10 bT t16 fun t17 =>
 p.cond t17
 (k bF H)
 (p.fadr 4 t1 fun t18 =>
 p.load false 1 t18 H fun t19 =>
 p.ca 4 81 [t19, (si 1), (si 65535)] H fun t20 H =>
 p.fl 0 t1 1 H fun t22 =>
 p.bin .eql t22 (si 1) fun t24 =>
 p.cond t24
 (p.fadr 11 t1 fun t25 =>
 p.load false 1 t25 H fun t26 =>
 p.lT t26 H 12 t1 1 fun t29 H =>
 p.hT t26 H (p.ca 4 91 [t29] H) fun t30 H =>
 p.gT t26 H (p.un .not t30) fun t31 H =>
 p.kT t26 H t31 fun t32 H =>
 p.lF t32 H 13 t1 1 fun t34 H =>
 p.gF t32 H (p.len t34) fun t35 H =>
 p.gF t32 H (p.bin .gtr t35 (si 40)) fun t36 H =>
 p.gT t26 H (p.pick t32 bT t36) fun t37 H =>
 p.kT t26 H t37 fun t38 H =>
 p.lF t38 H 14 t1 1 fun t40 H =>
 p.hF t38 H (p.ca 4 81 [t40, i0, (si 2)] H) fun t41 H =>
 p.gF t38 H (p.un .not t41) fun t42 H =>
 p.gT t26 H (p.pick t38 bT t42) fun t43 H =>
 p.pick t26 t43 bF fun t44 =>
 p.cond t44
 (k bF H)
 (p.fadr 8 t1 fun t45 =>
 p.load false 1 t45 H fun t46 =>
 p.ca 4 81 [t46, i0, (si 255)] H fun t47 H =>
 p.lT t47 H 7 t1 1 fun t50 H =>
 p.hT t47 H (p.ca 4 80 [t50] H) fun t51 H =>
 p.pick t47 t51 bF fun t52 =>
 p.lT t52 H 10 t1 1 fun t55 H =>
 p.hT t52 H (p.ca 4 81 [t55, i0, (si 65535)] H) fun t56 H =>
 p.pick t52 t56 bF fun t57 =>
 p.lT t57 H 17 t1 1 fun t60 H =>
 p.hT t57 H (p.ca 4 80 [t60] H) fun t61 H =>
 p.pick t57 t61 bF fun t62 =>
 p.lT t62 H 19 t1 1 fun t65 H =>
 p.gT t62 H (p.len t65) fun t66 H =>
 p.gT t62 H (p.bin .leq t66 (si 60)) fun t67 H =>
 p.pick t62 t67 bF fun t68 =>
 k t68 H))
 (p.bin .eql t22 (si 2) fun t70 =>
 p.cond t70
 (p.fadr 20 t1 fun t71 =>
 p.load false 1 t71 H fun t72 =>
 p.ca 4 81 [t72, i0, (si 5)] H fun t73 H =>
 k t73 H)
 (p.bin .eql t22 (si 3) fun t75 =>
 p.cond t75
 (p.fadr 2 t1 fun t76 =>
 p.load false 1 t76 H fun t77 =>
 p.ca 4 81 [t77, i0, (si 2)] H fun t78 H =>
 p.lT t78 H 2 t1 1 fun t81 H =>
 p.gT t78 H (p.bin .eql t81 i0) fun t82 H =>
 p.kT t78 H t82 fun t83 H =>
 p.kF t83 H t20 fun t84 H =>
 p.gT t78 H (p.pick t83 bT t84) fun t85 H =>
 p.pick t78 t85 bF fun t86 =>
 p.lT t86 H 5 t1 1 fun t89 H =>
 p.hT t86 H (p.ca 4 91 [t89] H) fun t90 H =>
 p.pick t86 t90 bF fun t91 =>
 p.lT t91 H 6 t1 1 fun t94 H =>
 p.gT t91 H (p.len t94) fun t95 H =>
 p.gT t91 H (p.bin .leq t95 (si 40)) fun t96 H =>
 p.pick t91 t96 bF fun t97 =>
 k t97 H)
 (p.bin .eql t22 (si 12) fun t99 =>
 E1 (fun (t1 t3 t22 t98 : AV) (H : Ac) => p.cond t98
 (k bT H)
 (p.bin .eql t22 (si 8) fun t103 =>
 p.cond t103
 (Mj p n  k n t1 t3 i0 H)
 (p.bin .eql t22 (si 9) fun t137 =>
 p.cond t137
 (Mk p n  k n t1 t3 i0 H)
 (p.bin .eql t22 (si 10) fun t168 =>
 p.cond t168
 (Ml p n  k n t1 t3 i0 H)
 (k t3 H))))) fun j1 =>
 p.cond t99
 (j1 t1 t20 t22 t99 H)
 (p.bin .eql t22 (si 13) fun t100 =>
 p.cond t100
 (j1 t1 t20 t22 t100 H)
 (p.bin .eql t22 (si 14) fun t101 =>
 j1 t1 t20 t22 t101 H)))))))
 (p.hF t10 H (p.ca 59 90 [t13] H) fun t14 H =>
 p.gF t10 H (p.load true 25 t1 H) fun t12 H =>
 p.hF t10 H (p.ca 4 89 [t12, t14] H) fun t15 H =>
 p.gF t10 H (p.un .not t15) fun t16 H =>
 p.pick t10 bT t16 fun t17 =>
 p.cond t17
 (k bF H)
 (p.fadr 4 t1 fun t18 =>
 p.load false 1 t18 H fun t19 =>
 p.ca 4 81 [t19, (si 1), (si 65535)] H fun t20 H =>
 p.fl 0 t1 1 H fun t22 =>
 p.bin .eql t22 (si 1) fun t24 =>
 p.cond t24
 (p.fadr 11 t1 fun t25 =>
 p.load false 1 t25 H fun t26 =>
 p.lT t26 H 12 t1 1 fun t29 H =>
 p.hT t26 H (p.ca 4 91 [t29] H) fun t30 H =>
 p.gT t26 H (p.un .not t30) fun t31 H =>
 p.kT t26 H t31 fun t32 H =>
 p.lF t32 H 13 t1 1 fun t34 H =>
 p.gF t32 H (p.len t34) fun t35 H =>
 p.gF t32 H (p.bin .gtr t35 (si 40)) fun t36 H =>
 p.gT t26 H (p.pick t32 bT t36) fun t37 H =>
 p.kT t26 H t37 fun t38 H =>
 p.lF t38 H 14 t1 1 fun t40 H =>
 p.hF t38 H (p.ca 4 81 [t40, i0, (si 2)] H) fun t41 H =>
 p.gF t38 H (p.un .not t41) fun t42 H =>
 p.gT t26 H (p.pick t38 bT t42) fun t43 H =>
 p.pick t26 t43 bF fun t44 =>
 p.cond t44
 (k bF H)
 (p.fadr 8 t1 fun t45 =>
 p.load false 1 t45 H fun t46 =>
 p.ca 4 81 [t46, i0, (si 255)] H fun t47 H =>
 p.lT t47 H 7 t1 1 fun t50 H =>
 p.hT t47 H (p.ca 4 80 [t50] H) fun t51 H =>
 p.pick t47 t51 bF fun t52 =>
 p.lT t52 H 10 t1 1 fun t55 H =>
 p.hT t52 H (p.ca 4 81 [t55, i0, (si 65535)] H) fun t56 H =>
 p.pick t52 t56 bF fun t57 =>
 p.lT t57 H 17 t1 1 fun t60 H =>
 p.hT t57 H (p.ca 4 80 [t60] H) fun t61 H =>
 p.pick t57 t61 bF fun t62 =>
 p.lT t62 H 19 t1 1 fun t65 H =>
 p.gT t62 H (p.len t65) fun t66 H =>
 p.gT t62 H (p.bin .leq t66 (si 60)) fun t67 H =>
 p.pick t62 t67 bF fun t68 =>
 k t68 H))
 (p.bin .eql t22 (si 2) fun t70 =>
 p.cond t70
 (p.fadr 20 t1 fun t71 =>
 p.load false 1 t71 H fun t72 =>
 p.ca 4 81 [t72, i0, (si 5)] H fun t73 H =>
 k t73 H)
 (p.bin .eql t22 (si 3) fun t75 =>
 p.cond t75
 (p.fadr 2 t1 fun t76 =>
 p.load false 1 t76 H fun t77 =>
 p.ca 4 81 [t77, i0, (si 2)] H fun t78 H =>
 p.lT t78 H 2 t1 1 fun t81 H =>
 p.gT t78 H (p.bin .eql t81 i0) fun t82 H =>
 p.kT t78 H t82 fun t83 H =>
 p.kF t83 H t20 fun t84 H =>
 p.gT t78 H (p.pick t83 bT t84) fun t85 H =>
 p.pick t78 t85 bF fun t86 =>
 p.lT t86 H 5 t1 1 fun t89 H =>
 p.hT t86 H (p.ca 4 91 [t89] H) fun t90 H =>
 p.pick t86 t90 bF fun t91 =>
 p.lT t91 H 6 t1 1 fun t94 H =>
 p.gT t91 H (p.len t94) fun t95 H =>
 p.gT t91 H (p.bin .leq t95 (si 40)) fun t96 H =>
 p.pick t91 t96 bF fun t97 =>
 k t97 H)
 (p.bin .eql t22 (si 12) fun t99 =>
 E1 (fun (t1 t3 t22 t98 : AV) (H : Ac) => p.cond t98
 (k bT H)
 (p.bin .eql t22 (si 8) fun t103 =>
 p.cond t103
 (Mj p n  k n t1 t3 i0 H)
 (p.bin .eql t22 (si 9) fun t137 =>
 p.cond t137
 (Mk p n  k n t1 t3 i0 H)
 (p.bin .eql t22 (si 10) fun t168 =>
 p.cond t168
 (Ml p n  k n t1 t3 i0 H)
 (k t3 H))))) fun j2 =>
 p.cond t99
 (j2 t1 t20 t22 t99 H)
 (p.bin .eql t22 (si 13) fun t100 =>
 p.cond t100
 (j2 t1 t20 t22 t100 H)
 (p.bin .eql t22 (si 14) fun t101 =>
 j2 t1 t20 t22 t101 H)))))))
noncomputable def AbJ (p : Pr β) (n : Nat)  (k : KO β) (m : Nat) (tm : Tm) (H : Ac) : Option β :=
 Dw 191 (fun tm H k => Ak As p o64 191 n (cd c64 [1, 1, 1, 0, 1, 0, 1, 2, 1, 2, 1, 2, 1, 2, 1, 1, 0, 1, 0, 0]) tm H k) (Ez 1 (Eg (fun tm H => Ak As p o64 191 n (cd c64 [1, 1, 1, 0, 1, 0, 1, 2, 1, 2, 1, 2, 1, 2, 1, 1, 1]) tm H (Ez 0 (Eg (fun tm H => Ak As p o64 191 n (cd c64 [1, 1, 1, 1]) tm H (Cp As p fi64.results k)) (Cp As p fi64.results k)))) (Ez 0 (Eg (fun tm H => Ak As p o64 191 n (cd c64 [1, 1, 1, 1]) tm H (Cp As p fi64.results k)) (Cp As p fi64.results k))))) m tm H
noncomputable def AbK (p : Pr β) (n : Nat)  (k : KO β) (m : Nat) (tm : Tm) (H : Ac) : Option β :=
 Dw 191 (fun tm H k => Ak As p o64 191 n (cd c64 [1, 1, 1, 0, 1, 0, 1, 2, 1, 2, 1, 2, 1, 2, 1, 2, 1, 1, 0, 1, 0, 0]) tm H k) (Ez 3 (Eg (fun tm H => Ak As p o64 191 n (cd c64 [1, 1, 1, 0, 1, 0, 1, 2, 1, 2, 1, 2, 1, 2, 1, 2, 1, 1, 1]) tm H (Ez 0 (Eg (fun tm H => Ak As p o64 191 n (cd c64 [1, 1, 1, 1]) tm H (Cp As p fi64.results k)) (Cp As p fi64.results k)))) (Ez 0 (Eg (fun tm H => Ak As p o64 191 n (cd c64 [1, 1, 1, 1]) tm H (Cp As p fi64.results k)) (Cp As p fi64.results k))))) m tm H
noncomputable def AbL (p : Pr β) (n : Nat)  (k : KO β) (m : Nat) (tm : Tm) (H : Ac) : Option β :=
 Dw 191 (fun tm H k => Ak As p o64 191 n (cd c64 [1, 1, 1, 0, 1, 0, 1, 2, 1, 2, 1, 2, 1, 2, 1, 2, 1, 2, 1, 1, 0, 1, 0, 0]) tm H k) (Ez 5 (Eg (fun tm H => Ak As p o64 191 n (cd c64 [1, 1, 1, 0, 1, 0, 1, 2, 1, 2, 1, 2, 1, 2, 1, 2, 1, 2, 1, 1, 1]) tm H (Ez 0 (Eg (fun tm H => Ak As p o64 191 n (cd c64 [1, 1, 1, 1]) tm H (Cp As p fi64.results k)) (Cp As p fi64.results k)))) (Ez 0 (Eg (fun tm H => Ak As p o64 191 n (cd c64 [1, 1, 1, 1]) tm H (Cp As p fi64.results k)) (Cp As p fi64.results k))))) m tm H
theorem Aeq (p : Pr β) (n : Nat)  (k : KO β) (m0 : Nat) : ∀ (t : Nat → AV) (H : Ac), AbJ p n  k m0 (tf 191 0 t) H = Mj p n  k m0 (t 1) (t 3) (t 4) H := by
 induction m0 with
 | zero => intros; rfl
 | succ m0 ih =>
  intro t H
  refine Eq.trans (Bq (nt := 191) (m := m0) (g := fun t H => Mj p n  k m0 (t 1) (t 3) (t 4) H) ih rfl) ?_
  kernel_rfl
theorem Aer (p : Pr β) (n : Nat)  (k : KO β) (m1 : Nat) : ∀ (t : Nat → AV) (H : Ac), AbK p n  k m1 (tf 191 0 t) H = Mk p n  k m1 (t 1) (t 3) (t 5) H := by
 induction m1 with
 | zero => intros; rfl
 | succ m1 ih =>
  intro t H
  refine Eq.trans (Bq (nt := 191) (m := m1) (g := fun t H => Mk p n  k m1 (t 1) (t 3) (t 5) H) ih rfl) ?_
  kernel_rfl
theorem Aes (p : Pr β) (n : Nat)  (k : KO β) (m2 : Nat) : ∀ (t : Nat → AV) (H : Ac), AbL p n  k m2 (tf 191 0 t) H = Ml p n  k m2 (t 1) (t 3) (t 6) H := by
 induction m2 with
 | zero => intros; rfl
 | succ m2 ih =>
  intro t H
  refine Eq.trans (Bq (nt := 191) (m := m2) (g := fun t H => Ml p n  k m2 (t 1) (t 3) (t 6) H) ih rfl) ?_
  kernel_rfl
theorem Ajh (p : Pr β) (n : Nat) (a0 : AV) (H : Ac) (k : KO β) : Cj As p n fi64 [a0] H k =
 p.box a0 H fun t1 H =>
 p.fadr 0 t1 fun t7 =>
 p.load false 1 t7 H fun t8 =>
 p.call 4 (.fn 81 [] []) [t8, (si 1), (si 14)] H fun t9 H =>
 p.un .not t9 fun t10 =>
 p.gF t10 H (p.load true 25 t1 H) fun t13 H =>
 p.both
 (p.gF t10 H (p.load true 25 t1 H) fun t12 H =>
 p.hF t10 H (p.call 59 (.fn 90 [] []) [t13] H) fun t14 H =>
 p.hF t10 H (p.call 4 (.fn 89 [] []) [t12, t14] H) fun t15 H =>
 p.gF t10 H (p.un .not t15) fun t16 H =>
 p.pick t10 bT t16 fun t17 =>
 p.cond t17
 (k bF H)
 (p.fadr 4 t1 fun t18 =>
 p.load false 1 t18 H fun t19 =>
 p.call 4 (.fn 81 [] []) [t19, (si 1), (si 65535)] H fun t20 H =>
 p.fadr 0 t1 fun t21 =>
 p.load false 1 t21 H fun t22 =>
 p.bin .eql t22 (si 1) fun t24 =>
 p.cond t24
 (p.fadr 11 t1 fun t25 =>
 p.load false 1 t25 H fun t26 =>
 p.gT t26 H (p.fadr 12 t1) fun t28 H =>
 p.gT t26 H (p.load false 1 t28 H) fun t29 H =>
 p.hT t26 H (p.call 4 (.fn 91 [] []) [t29] H) fun t30 H =>
 p.gT t26 H (p.un .not t30) fun t31 H =>
 p.kT t26 H t31 fun t32 H =>
 p.gF t32 H (p.fadr 13 t1) fun t33 H =>
 p.gF t32 H (p.load false 1 t33 H) fun t34 H =>
 p.gF t32 H (p.len t34) fun t35 H =>
 p.gF t32 H (p.bin .gtr t35 (si 40)) fun t36 H =>
 p.gT t26 H (p.pick t32 bT t36) fun t37 H =>
 p.kT t26 H t37 fun t38 H =>
 p.gF t38 H (p.fadr 14 t1) fun t39 H =>
 p.gF t38 H (p.load false 1 t39 H) fun t40 H =>
 p.hF t38 H (p.call 4 (.fn 81 [] []) [t40, i0, (si 2)] H) fun t41 H =>
 p.gF t38 H (p.un .not t41) fun t42 H =>
 p.gT t26 H (p.pick t38 bT t42) fun t43 H =>
 p.pick t26 t43 bF fun t44 =>
 p.cond t44
 (k bF H)
 (p.fadr 8 t1 fun t45 =>
 p.load false 1 t45 H fun t46 =>
 p.call 4 (.fn 81 [] []) [t46, i0, (si 255)] H fun t47 H =>
 p.gT t47 H (p.fadr 7 t1) fun t49 H =>
 p.gT t47 H (p.load false 1 t49 H) fun t50 H =>
 p.hT t47 H (p.call 4 (.fn 80 [] []) [t50] H) fun t51 H =>
 p.pick t47 t51 bF fun t52 =>
 p.gT t52 H (p.fadr 10 t1) fun t54 H =>
 p.gT t52 H (p.load false 1 t54 H) fun t55 H =>
 p.hT t52 H (p.call 4 (.fn 81 [] []) [t55, i0, (si 65535)] H) fun t56 H =>
 p.pick t52 t56 bF fun t57 =>
 p.gT t57 H (p.fadr 17 t1) fun t59 H =>
 p.gT t57 H (p.load false 1 t59 H) fun t60 H =>
 p.hT t57 H (p.call 4 (.fn 80 [] []) [t60] H) fun t61 H =>
 p.pick t57 t61 bF fun t62 =>
 p.gT t62 H (p.fadr 19 t1) fun t64 H =>
 p.gT t62 H (p.load false 1 t64 H) fun t65 H =>
 p.gT t62 H (p.len t65) fun t66 H =>
 p.gT t62 H (p.bin .leq t66 (si 60)) fun t67 H =>
 p.pick t62 t67 bF fun t68 =>
 k t68 H))
 (p.bin .eql t22 (si 2) fun t70 =>
 p.cond t70
 (p.fadr 20 t1 fun t71 =>
 p.load false 1 t71 H fun t72 =>
 p.call 4 (.fn 81 [] []) [t72, i0, (si 5)] H fun t73 H =>
 k t73 H)
 (p.bin .eql t22 (si 3) fun t75 =>
 p.cond t75
 (p.fadr 2 t1 fun t76 =>
 p.load false 1 t76 H fun t77 =>
 p.call 4 (.fn 81 [] []) [t77, i0, (si 2)] H fun t78 H =>
 p.gT t78 H (p.fadr 2 t1) fun t80 H =>
 p.gT t78 H (p.load false 1 t80 H) fun t81 H =>
 p.gT t78 H (p.bin .eql t81 i0) fun t82 H =>
 p.kT t78 H t82 fun t83 H =>
 p.kF t83 H t20 fun t84 H =>
 p.gT t78 H (p.pick t83 bT t84) fun t85 H =>
 p.pick t78 t85 bF fun t86 =>
 p.gT t86 H (p.fadr 5 t1) fun t88 H =>
 p.gT t86 H (p.load false 1 t88 H) fun t89 H =>
 p.hT t86 H (p.call 4 (.fn 91 [] []) [t89] H) fun t90 H =>
 p.pick t86 t90 bF fun t91 =>
 p.gT t91 H (p.fadr 6 t1) fun t93 H =>
 p.gT t91 H (p.load false 1 t93 H) fun t94 H =>
 p.gT t91 H (p.len t94) fun t95 H =>
 p.gT t91 H (p.bin .leq t95 (si 40)) fun t96 H =>
 p.pick t91 t96 bF fun t97 =>
 k t97 H)
 (p.bin .eql t22 (si 12) fun t99 =>
 E1 (fun (t : Nat → AV) (H : Ac) => p.cond (t 98)
 (k bT H)
 (p.bin .eql (t 22) (si 8) fun t103 =>
 p.cond t103
 (AbJ p n  k n (tf 191 0 (ud [(4, i0), (102, t103), (103, t103)] t)) H)
 (p.bin .eql (t 22) (si 9) fun t137 =>
 p.cond t137
 (AbK p n  k n (tf 191 0 (ud [(5, i0), (102, t103), (103, t103), (136, t137), (137, t137)] t)) H)
 (p.bin .eql (t 22) (si 10) fun t168 =>
 p.cond t168
 (AbL p n  k n (tf 191 0 (ud [(6, i0), (102, t103), (103, t103), (136, t137), (137, t137), (167, t168), (168, t168)] t)) H)
 (k (t 3) H))))) fun j1 =>
 p.cond t99
 (j1 (ud [(0, a0), (1, t1), (2, bF), (3, t20), (7, t7), (8, t8), (9, t9), (10, t10), (11, t10), (12, t12), (13, t13), (14, t14), (15, t15), (16, t16), (17, t17), (18, t18), (19, t19), (20, t20), (21, t21), (22, t22), (23, t24), (24, t24), (69, t70), (70, t70), (74, t75), (75, t75), (98, t99), (99, t99)] ut) H)
 (p.bin .eql t22 (si 13) fun t100 =>
 p.cond t100
 (j1 (ud [(0, a0), (1, t1), (2, bF), (3, t20), (7, t7), (8, t8), (9, t9), (10, t10), (11, t10), (12, t12), (13, t13), (14, t14), (15, t15), (16, t16), (17, t17), (18, t18), (19, t19), (20, t20), (21, t21), (22, t22), (23, t24), (24, t24), (69, t70), (70, t70), (74, t75), (75, t75), (98, t100), (99, t99), (100, t100)] ut) H)
 (p.bin .eql t22 (si 14) fun t101 =>
 j1 (ud [(0, a0), (1, t1), (2, bF), (3, t20), (7, t7), (8, t8), (9, t9), (10, t10), (11, t10), (12, t12), (13, t13), (14, t14), (15, t15), (16, t16), (17, t17), (18, t18), (19, t19), (20, t20), (21, t21), (22, t22), (23, t24), (24, t24), (69, t70), (70, t70), (74, t75), (75, t75), (98, t101), (99, t99), (100, t100), (101, t101)] ut) H)))))))
 (p.hF t10 H (p.call 59 (.fn 90 [] []) [t13] H) fun t14 H =>
 p.gF t10 H (p.load true 25 t1 H) fun t12 H =>
 p.hF t10 H (p.call 4 (.fn 89 [] []) [t12, t14] H) fun t15 H =>
 p.gF t10 H (p.un .not t15) fun t16 H =>
 p.pick t10 bT t16 fun t17 =>
 p.cond t17
 (k bF H)
 (p.fadr 4 t1 fun t18 =>
 p.load false 1 t18 H fun t19 =>
 p.call 4 (.fn 81 [] []) [t19, (si 1), (si 65535)] H fun t20 H =>
 p.fadr 0 t1 fun t21 =>
 p.load false 1 t21 H fun t22 =>
 p.bin .eql t22 (si 1) fun t24 =>
 p.cond t24
 (p.fadr 11 t1 fun t25 =>
 p.load false 1 t25 H fun t26 =>
 p.gT t26 H (p.fadr 12 t1) fun t28 H =>
 p.gT t26 H (p.load false 1 t28 H) fun t29 H =>
 p.hT t26 H (p.call 4 (.fn 91 [] []) [t29] H) fun t30 H =>
 p.gT t26 H (p.un .not t30) fun t31 H =>
 p.kT t26 H t31 fun t32 H =>
 p.gF t32 H (p.fadr 13 t1) fun t33 H =>
 p.gF t32 H (p.load false 1 t33 H) fun t34 H =>
 p.gF t32 H (p.len t34) fun t35 H =>
 p.gF t32 H (p.bin .gtr t35 (si 40)) fun t36 H =>
 p.gT t26 H (p.pick t32 bT t36) fun t37 H =>
 p.kT t26 H t37 fun t38 H =>
 p.gF t38 H (p.fadr 14 t1) fun t39 H =>
 p.gF t38 H (p.load false 1 t39 H) fun t40 H =>
 p.hF t38 H (p.call 4 (.fn 81 [] []) [t40, i0, (si 2)] H) fun t41 H =>
 p.gF t38 H (p.un .not t41) fun t42 H =>
 p.gT t26 H (p.pick t38 bT t42) fun t43 H =>
 p.pick t26 t43 bF fun t44 =>
 p.cond t44
 (k bF H)
 (p.fadr 8 t1 fun t45 =>
 p.load false 1 t45 H fun t46 =>
 p.call 4 (.fn 81 [] []) [t46, i0, (si 255)] H fun t47 H =>
 p.gT t47 H (p.fadr 7 t1) fun t49 H =>
 p.gT t47 H (p.load false 1 t49 H) fun t50 H =>
 p.hT t47 H (p.call 4 (.fn 80 [] []) [t50] H) fun t51 H =>
 p.pick t47 t51 bF fun t52 =>
 p.gT t52 H (p.fadr 10 t1) fun t54 H =>
 p.gT t52 H (p.load false 1 t54 H) fun t55 H =>
 p.hT t52 H (p.call 4 (.fn 81 [] []) [t55, i0, (si 65535)] H) fun t56 H =>
 p.pick t52 t56 bF fun t57 =>
 p.gT t57 H (p.fadr 17 t1) fun t59 H =>
 p.gT t57 H (p.load false 1 t59 H) fun t60 H =>
 p.hT t57 H (p.call 4 (.fn 80 [] []) [t60] H) fun t61 H =>
 p.pick t57 t61 bF fun t62 =>
 p.gT t62 H (p.fadr 19 t1) fun t64 H =>
 p.gT t62 H (p.load false 1 t64 H) fun t65 H =>
 p.gT t62 H (p.len t65) fun t66 H =>
 p.gT t62 H (p.bin .leq t66 (si 60)) fun t67 H =>
 p.pick t62 t67 bF fun t68 =>
 k t68 H))
 (p.bin .eql t22 (si 2) fun t70 =>
 p.cond t70
 (p.fadr 20 t1 fun t71 =>
 p.load false 1 t71 H fun t72 =>
 p.call 4 (.fn 81 [] []) [t72, i0, (si 5)] H fun t73 H =>
 k t73 H)
 (p.bin .eql t22 (si 3) fun t75 =>
 p.cond t75
 (p.fadr 2 t1 fun t76 =>
 p.load false 1 t76 H fun t77 =>
 p.call 4 (.fn 81 [] []) [t77, i0, (si 2)] H fun t78 H =>
 p.gT t78 H (p.fadr 2 t1) fun t80 H =>
 p.gT t78 H (p.load false 1 t80 H) fun t81 H =>
 p.gT t78 H (p.bin .eql t81 i0) fun t82 H =>
 p.kT t78 H t82 fun t83 H =>
 p.kF t83 H t20 fun t84 H =>
 p.gT t78 H (p.pick t83 bT t84) fun t85 H =>
 p.pick t78 t85 bF fun t86 =>
 p.gT t86 H (p.fadr 5 t1) fun t88 H =>
 p.gT t86 H (p.load false 1 t88 H) fun t89 H =>
 p.hT t86 H (p.call 4 (.fn 91 [] []) [t89] H) fun t90 H =>
 p.pick t86 t90 bF fun t91 =>
 p.gT t91 H (p.fadr 6 t1) fun t93 H =>
 p.gT t91 H (p.load false 1 t93 H) fun t94 H =>
 p.gT t91 H (p.len t94) fun t95 H =>
 p.gT t91 H (p.bin .leq t95 (si 40)) fun t96 H =>
 p.pick t91 t96 bF fun t97 =>
 k t97 H)
 (p.bin .eql t22 (si 12) fun t99 =>
 E1 (fun (t : Nat → AV) (H : Ac) => p.cond (t 98)
 (k bT H)
 (p.bin .eql (t 22) (si 8) fun t103 =>
 p.cond t103
 (AbJ p n  k n (tf 191 0 (ud [(4, i0), (102, t103), (103, t103)] t)) H)
 (p.bin .eql (t 22) (si 9) fun t137 =>
 p.cond t137
 (AbK p n  k n (tf 191 0 (ud [(5, i0), (102, t103), (103, t103), (136, t137), (137, t137)] t)) H)
 (p.bin .eql (t 22) (si 10) fun t168 =>
 p.cond t168
 (AbL p n  k n (tf 191 0 (ud [(6, i0), (102, t103), (103, t103), (136, t137), (137, t137), (167, t168), (168, t168)] t)) H)
 (k (t 3) H))))) fun j2 =>
 p.cond t99
 (j2 (ud [(0, a0), (1, t1), (2, bF), (3, t20), (7, t7), (8, t8), (9, t9), (10, t10), (11, t10), (12, t12), (13, t13), (14, t14), (15, t15), (16, t16), (17, t17), (18, t18), (19, t19), (20, t20), (21, t21), (22, t22), (23, t24), (24, t24), (69, t70), (70, t70), (74, t75), (75, t75), (98, t99), (99, t99)] ut) H)
 (p.bin .eql t22 (si 13) fun t100 =>
 p.cond t100
 (j2 (ud [(0, a0), (1, t1), (2, bF), (3, t20), (7, t7), (8, t8), (9, t9), (10, t10), (11, t10), (12, t12), (13, t13), (14, t14), (15, t15), (16, t16), (17, t17), (18, t18), (19, t19), (20, t20), (21, t21), (22, t22), (23, t24), (24, t24), (69, t70), (70, t70), (74, t75), (75, t75), (98, t100), (99, t99), (100, t100)] ut) H)
 (p.bin .eql t22 (si 14) fun t101 =>
 j2 (ud [(0, a0), (1, t1), (2, bF), (3, t20), (7, t7), (8, t8), (9, t9), (10, t10), (11, t10), (12, t12), (13, t13), (14, t14), (15, t15), (16, t16), (17, t17), (18, t18), (19, t19), (20, t20), (21, t21), (22, t22), (23, t24), (24, t24), (69, t70), (70, t70), (74, t75), (75, t75), (98, t101), (99, t99), (100, t100), (101, t101)] ut) H))))))) := by kernel_rfl
theorem AfZ : Kv fi64 @f64 := fun p n a0 H k => by
 rw [Ajh]
 simp only [Aeq, Aer, Aes]
 kernel_rfl
noncomputable def f61 (n : Nat) (a0 : AV) (H : Ac) (k : KO β) : Option β :=
 p.bin .quo a0 (si 16) fun t7 =>
 p.bin .rem a0 (si 16) fun t9 =>
 p.bin .eql t7 i0 fun t12 =>
 E1 (fun (t4 t10 t11 : AV) (H : Ac) => p.cond t11
 (k bF H)
 (p.bin .eql t10 (si 3) fun t15 =>
 p.cond t15
 (p.bin .quo t4 (si 2) fun t17 =>
 p.bin .rem t17 (si 4) fun t18 =>
 p.bin .lss t18 (si 3) fun t20 =>
 p.kT t20 H t18 fun t22 H =>
 p.gT t20 H (p.bin .gtr t22 i0) fun t23 H =>
 p.kT t20 H t23 fun t24 H =>
 p.kF t24 H t4 fun t25 H =>
 p.gF t24 H (p.bin .lss t25 (si 8)) fun t26 H =>
 p.gT t20 H (p.pick t24 bT t26) fun t27 H =>
 p.pick t20 t27 bF fun t28 =>
 k t28 H)
 (p.bin .eql t10 (si 6) fun t30 =>
 E1 (fun (t4 t29 : AV) (H : Ac) => p.cond t29
 (p.bin .eql t4 (si 2) fun t34 =>
 k t34 H)
 (p.bin .eql t4 i0 fun t36 =>
 k t36 H)) fun j2 =>
 p.cond t30
 (j2 t4 t30 H)
 (p.bin .eql t10 (si 8) fun t31 =>
 p.cond t31
 (j2 t4 t31 H)
 (p.bin .eql t10 (si 10) fun t32 =>
 j2 t4 t32 H))))) fun j1 =>
 p.cond t12
 (j1 t9 t7 t12 H)
 (p.bin .eql t7 (si 15) fun t13 =>
 j1 t9 t7 t13 H)
theorem AfU : Kv And @f61 := fun p n a0 H k => by kernel_rfl
noncomputable def Rg (p : Pr β) (n : Nat)  (k : KO β) : Nat → AV → AV → AV → KO β
 | 0, _, _, _, _, _ => none
 | m + 1, t0, t1, t7, t8, H => p.bin .lss t8 (si 4) fun t19 =>
   p.cond t19
   (p.bin .add t1 t8 fun t24 =>
   p.len t0 fun t26 =>
   p.bin .geq t24 t26 fun t27 =>
   p.cond t27
   (k (Dk [i0, i0, (si 1)]) H)
   (p.bin .add t1 t8 fun t31 =>
   p.iadr 1 t0 t31 fun t32 =>
   p.load false 1 t32 H fun t33 =>
   p.cvI .i64 t33 fun t34 =>
   p.bin .and t34 (si 127) fun t37 =>
   p.bin .mul (si 7) t8 fun t39 =>
   p.bin .shl t37 t39 fun t40 =>
   p.bin .or t7 t40 fun t41 =>
   p.bin .lss t34 (si 128) fun t43 =>
   p.cond t43
   (p.bin .gtr t8 i0 fun t45 =>
   p.kT t45 H t34 fun t47 H =>
   p.gT t45 H (p.bin .eql t47 i0) fun t48 H =>
   p.pick t45 t48 bF fun t49 =>
   p.cond t49
   (k (Dk [i0, i0, (si 2)]) H)
   (p.bin .add t1 t8 fun t53 =>
   p.bin .add t53 (si 1) fun t54 =>
   k (Dk [t41, t54, i0]) H))
   (p.bin .add t8 (si 1) fun t21 =>
   Rg p n  k m t0 t1 t41 t21 H)))
   (k (Dk [i0, i0, (si 2)]) H)
noncomputable def f62 (n : Nat) (a0 a1 : AV) (H : Ac) (k : KO β) : Option β :=
 p.bin .lss a1 i0 fun t11 =>
 p.kF t11 H a1 fun t13 H =>
 p.kF t11 H a0 fun t14 H =>
 p.gF t11 H (p.len t14) fun t15 H =>
 p.gF t11 H (p.bin .gtr t13 t15) fun t16 H =>
 p.pick t11 bT t16 fun t17 =>
 p.cond t17
 (k (Dk [i0, i0, (si 2)]) H)
 (Rg p n  k n a0 a1 i0 i0 H)
noncomputable def AfV (p : Pr β) (n : Nat)  (k : KO β) (m : Nat) (tm : Tm) (H : Ac) : Option β :=
 Dw 55 (fun tm H k => Ak As p [] 55 n (cd c62 [1, 1, 1, 0, 1, 0, 0]) tm H k) (Ez 0 (Eg (fun tm H => Ak As p [] 55 n (cd c62 [1, 1, 1, 1]) tm H (Cp As p fi62.results k)) (Cp As p fi62.results k))) m tm H
theorem Aeo (p : Pr β) (n : Nat)  (k : KO β) (m0 : Nat) : ∀ (t : Nat → AV) (H : Ac), AfV p n  k m0 (tf 55 0 t) H = Rg p n  k m0 (t 0) (t 1) (t 7) (t 8) H := by
 induction m0 with
 | zero => intros; rfl
 | succ m0 ih =>
  intro t H
  refine Eq.trans (Bq (nt := 55) (m := m0) (g := fun t H => Rg p n  k m0 (t 0) (t 1) (t 7) (t 8) H) ih rfl) ?_
  kernel_rfl
theorem Ajf (p : Pr β) (n : Nat) (a0 a1 : AV) (H : Ac) (k : KO β) : Cj As p n fi62 [a0, a1] H k =
 p.bin .lss a1 i0 fun t11 =>
 p.kF t11 H a1 fun t13 H =>
 p.kF t11 H a0 fun t14 H =>
 p.gF t11 H (p.len t14) fun t15 H =>
 p.gF t11 H (p.bin .gtr t13 t15) fun t16 H =>
 p.pick t11 bT t16 fun t17 =>
 p.cond t17
 (k (Dk [i0, i0, (si 2)]) H)
 (AfV p n  k n (tf 55 0 (ud [(0, a0), (1, a1), (4, i0), (5, i0), (6, i0), (7, i0), (8, i0), (10, a1), (11, t11), (12, t11), (13, t13), (14, t14), (15, t15), (16, t16), (17, t17)] ut)) H) := by kernel_rfl
theorem AfW : Kb fi62 @f62 := fun p n a0 a1 H k => by
 rw [Ajf]
 simp only [Aeo]
 kernel_rfl
noncomputable def f88 (n : Nat) (a0 a1 : AV) (H : Ac) (k : KO β) : Option β :=
 p.bin .lss a1 i0 fun t8 =>
 p.kF t8 H a1 fun t10 H =>
 p.kF t8 H a0 fun t11 H =>
 p.gF t8 H (p.len t11) fun t12 H =>
 p.gF t8 H (p.bin .sub t12 (si 2)) fun t13 H =>
 p.gF t8 H (p.bin .gtr t10 t13) fun t14 H =>
 p.pick t8 bT t14 fun t15 =>
 p.cond t15
 (k (Dk [i0, i0, bF]) H)
 (p.iadr 1 a0 a1 fun t18 =>
 p.load false 1 t18 H fun t19 =>
 p.cvI .i64 t19 fun t20 =>
 p.bin .mul t20 (si 256) fun t21 =>
 p.bin .add a1 (si 1) fun t24 =>
 p.iadr 1 a0 t24 fun t25 =>
 p.load false 1 t25 H fun t26 =>
 p.cvI .i64 t26 fun t27 =>
 p.bin .add t21 t27 fun t28 =>
 p.bin .add a1 (si 2) fun t30 =>
 k (Dk [t28, t30, bT]) H)
theorem Ag5 : Kb Anu @f88 := fun p n a0 a1 H k => by kernel_rfl
noncomputable def f126 (n : Nat) (a0 a1 : AV) (H : Ac) (k : KO β) : Option β :=
 p.ca 110 88 [a0, a1] H fun t13 H =>
 p.extr t13 0 fun t14 =>
 p.extr t13 1 fun t15 =>
 p.extr t13 2 fun t16 =>
 p.un .not t16 fun t18 =>
 p.kF t18 H t14 fun t20 H =>
 p.gF t18 H (p.bin .gtr t20 (si 60)) fun t21 H =>
 p.pick t18 bT t21 fun t22 =>
 p.kF t22 H t14 fun t24 H =>
 p.kF t22 H a0 fun t25 H =>
 p.gF t22 H (p.len t25) fun t26 H =>
 p.kF t22 H t15 fun t27 H =>
 p.gF t22 H (p.bin .sub t26 t27) fun t28 H =>
 p.gF t22 H (p.bin .gtr t24 t28) fun t29 H =>
 p.pick t22 bT t29 fun t30 =>
 p.cond t30
 (k (Dk [.nl, i0, bF]) H)
 (p.bin .add t15 t14 fun t37 =>
 p.slice 1 a0 (some t15) (some t37) fun t38 =>
 p.app 1 1 .nl t38 H fun t39 H =>
 p.bin .add t15 t14 fun t42 =>
 k (Dk [t39, t42, bT]) H)
theorem AdM : Kb Akx @f126 := fun p n a0 a1 H k => by kernel_rfl
noncomputable def f87 (n : Nat) (a0 a1 : AV) (H : Ac) (k : KO β) : Option β :=
 p.ca 131 126 [a0, a1] H fun t13 H =>
 p.extr t13 0 fun t14 =>
 p.extr t13 1 fun t15 =>
 p.extr t13 2 fun t16 =>
 p.un .not t16 fun t18 =>
 p.kF t18 H t14 fun t20 H =>
 p.gF t18 H (p.cvBS t20 H) fun t21 H =>
 p.hF t18 H (p.ca 4 80 [t21] H) fun t22 H =>
 p.gF t18 H (p.un .not t22) fun t23 H =>
 p.pick t18 bT t23 fun t24 =>
 p.cond t24
 (k (Dk [sE, i0, bF]) H)
 (p.cvBS t14 H fun t26 =>
 k (Dk [t26, t15, bT]) H)
theorem Ag4 : Kb Ant @f87 := fun p n a0 a1 H k => by kernel_rfl
noncomputable def f86 (n : Nat) (a0 : AV) (H : Ac) (k : KO β) : Option β :=
 p.new Ep H fun t2 H =>
 p.fill Ep [(0, 1, (si 1))] fun ct26 =>
 p.new Ep H fun t3 H =>
 p.store 25 t3 (.agg ct26) H fun H =>
 p.ca 108 87 [a0, i0] H fun t29 H =>
 p.extr t29 0 fun t30 =>
 p.extr t29 1 fun t31 =>
 p.extr t29 2 fun t32 =>
 p.un .not t32 fun t34 =>
 p.kF t34 H t30 fun t36 H =>
 p.gF t34 H (p.bin .neq t36 (.sc (.string ⟨#[77, 81, 84, 84]⟩))) fun t37 H =>
 p.pick t34 bT t37 fun t38 =>
 p.kF t38 H t31 fun t40 H =>
 p.kF t38 H a0 fun t41 H =>
 p.gF t38 H (p.len t41) fun t42 H =>
 p.gF t38 H (p.bin .sub t42 (si 2)) fun t43 H =>
 p.gF t38 H (p.bin .gtr t40 t43) fun t44 H =>
 p.pick t38 bT t44 fun t45 =>
 p.cond t45
 (p.fill Ep [] fun ct46 =>
 p.store 25 t2 (.agg ct46) H fun H =>
 p.load true 25 t2 H fun r0 =>
 k r0 H)
 (p.iadr 1 a0 t31 fun t49 =>
 p.load false 1 t49 H fun t50 =>
 p.cvI .i64 t50 fun t51 =>
 p.fs 8 t3 1 t51 H fun H =>
 p.bin .add t31 (si 1) fun t55 =>
 p.iadr 1 a0 t55 fun t56 =>
 p.load false 1 t56 H fun t57 =>
 p.cvI .i64 t57 fun t58 =>
 p.bin .and t58 (si 2) fun t60 =>
 p.bin .gtr t60 i0 fun t61 =>
 p.fs 9 t3 1 t61 H fun H =>
 p.bin .and t58 (si 4) fun t64 =>
 p.bin .gtr t64 i0 fun t65 =>
 p.fs 11 t3 1 t65 H fun H =>
 p.bin .shr t58 (.sc (.int .u64 3)) fun t68 =>
 p.bin .and t68 (si 3) fun t69 =>
 p.fs 14 t3 1 t69 H fun H =>
 p.bin .and t58 (si 32) fun t72 =>
 p.bin .gtr t72 i0 fun t73 =>
 p.fs 15 t3 1 t73 H fun H =>
 p.bin .and t58 (si 64) fun t76 =>
 p.bin .gtr t76 i0 fun t77 =>
 p.fs 18 t3 1 t77 H fun H =>
 p.bin .and t58 (si 128) fun t80 =>
 p.bin .gtr t80 i0 fun t81 =>
 p.fs 16 t3 1 t81 H fun H =>
 p.bin .add t31 (si 2) fun t86 =>
 p.ca 110 88 [a0, t86] H fun t87 H =>
 p.extr t87 0 fun t88 =>
 p.extr t87 1 fun t89 =>
 p.extr t87 2 fun t90 =>
 p.fs 10 t3 1 t88 H fun H =>
 p.ca 108 87 [a0, t89] H fun t96 H =>
 p.extr t96 0 fun t97 =>
 p.extr t96 1 fun t98 =>
 p.extr t96 2 fun t99 =>
 p.fs 7 t3 1 t97 H fun H =>
 p.un .not t90 fun t103 =>
 p.kF t103 H t99 fun t105 H =>
 p.gF t103 H (p.un .not t105) fun t106 H =>
 p.pick t103 bT t106 fun t107 =>
 p.cond t107
 (p.fill Ep [] fun ct108 =>
 p.store 25 t2 (.agg ct108) H fun H =>
 p.load true 25 t2 H fun r0 =>
 k r0 H)
 (p.fadr 11 t3 fun t110 =>
 p.load false 1 t110 H fun t111 =>
 E1 (fun (t0 t2 t3 t5 : AV) (H : Ac) => p.fadr 16 t3 fun t138 =>
 p.load false 1 t138 H fun t139 =>
 E1 (fun (t0 t2 t3 t5 : AV) (H : Ac) => p.fadr 18 t3 fun t153 =>
 p.load false 1 t153 H fun t154 =>
 E1 (fun (t2 t3 : AV) (H : Ac) => p.load true 25 t3 H fun t167 =>
 p.store 25 t2 t167 H fun H =>
 p.load true 25 t2 H fun r0 =>
 k r0 H) fun j3 =>
 p.cond t154
 (p.ca 131 126 [t0, t5] H fun t158 H =>
 p.extr t158 0 fun t159 =>
 p.extr t158 1 fun t160 =>
 p.extr t158 2 fun t161 =>
 p.un .not t161 fun t163 =>
 p.cond t163
 (p.fill Ep [] fun ct164 =>
 p.store 25 t2 (.agg ct164) H fun H =>
 p.load true 25 t2 H fun r0 =>
 k r0 H)
 (p.fadr 19 t3 fun t166 =>
 p.store 1 t166 t159 H fun H =>
 j3 t2 t3 H))
 (j3 t2 t3 H)) fun j2 =>
 p.cond t139
 (p.ca 108 87 [t0, t5] H fun t143 H =>
 p.extr t143 0 fun t144 =>
 p.extr t143 1 fun t145 =>
 p.extr t143 2 fun t146 =>
 p.un .not t146 fun t148 =>
 p.cond t148
 (p.fill Ep [] fun ct149 =>
 p.store 25 t2 (.agg ct149) H fun H =>
 p.load true 25 t2 H fun r0 =>
 k r0 H)
 (p.fadr 17 t3 fun t151 =>
 p.store 1 t151 t144 H fun H =>
 j2 t0 t2 t3 t145 H))
 (j2 t0 t2 t3 t5 H)) fun j1 =>
 p.cond t111
 (p.ca 108 87 [a0, t98] H fun t115 H =>
 p.extr t115 0 fun t116 =>
 p.extr t115 1 fun t117 =>
 p.extr t115 2 fun t118 =>
 p.ca 131 126 [a0, t117] H fun t122 H =>
 p.extr t122 0 fun t123 =>
 p.extr t122 1 fun t124 =>
 p.extr t122 2 fun t125 =>
 p.un .not t118 fun t127 =>
 p.kF t127 H t125 fun t129 H =>
 p.gF t127 H (p.un .not t129) fun t130 H =>
 p.pick t127 bT t130 fun t131 =>
 p.cond t131
 (p.fill Ep [] fun ct132 =>
 p.store 25 t2 (.agg ct132) H fun H =>
 p.load true 25 t2 H fun r0 =>
 k r0 H)
 (p.fadr 12 t3 fun t134 =>
 p.store 1 t134 t116 H fun H =>
 p.fs 13 t3 1 t123 H fun H =>
 j1 a0 t2 t3 t124 H))
 (j1 a0 t2 t3 t98 H)))
theorem Ag3 : Kv Ans @f86 := fun p n a0 H k => by kernel_rfl
noncomputable def Po (p : Pr β) (n : Nat)  (k : KO β) : Nat → AV → AV → AV → KO β
 | 0, _, _, _, _, _ => none
 | m + 1, t1, t4, t5, t6, H => p.len t1 fun t134 =>
   p.bin .lss t6 t134 fun t135 =>
   p.lT t135 H 0 t5 1 fun t138 H =>
   p.gT t135 H (p.bin .eql t138 (si 8)) fun t139 H =>
   p.kT t135 H t139 fun t140 H =>
   p.lF t140 H 0 t5 1 fun t142 H =>
   p.gF t140 H (p.bin .eql t142 (si 10)) fun t143 H =>
   p.gT t135 H (p.pick t140 bT t143) fun t144 H =>
   p.pick t135 t144 bF fun t145 =>
   p.cond t145
   (p.ca 108 87 [t1, t6] H fun t149 H =>
   p.extr t149 0 fun t150 =>
   p.extr t149 1 fun t151 =>
   p.extr t149 2 fun t152 =>
   p.un .not t152 fun t154 =>
   p.cond t154
   (p.fill Ep [] fun ct155 =>
   p.store 25 t4 (.agg ct155) H fun H =>
   p.load true 25 t4 H fun r0 =>
   k r0 H)
   (p.fadr 0 t5 fun t157 =>
   p.load false 1 t157 H fun t158 =>
   p.bin .eql t158 (si 10) fun t159 =>
   p.cond t159
   (p.fadr 23 t5 fun t160 =>
   p.load false 1 t160 H fun t161 =>
   p.fill [sE] [(0, 1, t150)] fun ct163 => p.newSl 1 1 ct163 true H fun t163 H =>
   p.app 1 16 t161 t163 H fun t164 H =>
   p.fs 23 t5 1 t164 H fun H =>
   Po p n  k m t1 t4 t5 t151 H)
   (p.len t1 fun t168 =>
   p.bin .eql t151 t168 fun t169 =>
   p.cond t169
   (p.fill Ep [] fun ct170 =>
   p.store 25 t4 (.agg ct170) H fun H =>
   p.load true 25 t4 H fun r0 =>
   k r0 H)
   (p.fadr 22 t5 fun t171 =>
   p.load false 1 t171 H fun t172 =>
   p.iadr 1 t1 t151 fun t176 =>
   p.load false 1 t176 H fun t177 =>
   p.cvI .i64 t177 fun t178 =>
   p.fill [sE, i0] [(0, 1, t150), (1, 1, t178)] fun ct179 =>
   p.fill [sE, i0] [(0, 2, (.agg ct179))] fun ct180 => p.newSl 1 2 ct180 true H fun t180 H =>
   p.app 2 24 t172 t180 H fun t181 H =>
   p.fs 22 t5 1 t181 H fun H =>
   p.bin .add t151 (si 1) fun t184 =>
   Po p n  k m t1 t4 t5 t184 H))))
   (p.load true 25 t5 H fun t185 =>
   p.store 25 t4 t185 H fun H =>
   p.load true 25 t4 H fun r0 =>
   k r0 H)
noncomputable def Pp (p : Pr β) (n : Nat)  (k : KO β) : Nat → AV → AV → AV → AV → KO β
 | 0, _, _, _, _, _, _ => none
 | m + 1, t1, t4, t5, t6, t16, H => p.len t1 fun t118 =>
   p.bin .lss t16 t118 fun t119 =>
   p.cond t119
   (p.fadr 24 t5 fun t122 =>
   p.load false 1 t122 H fun t123 =>
   p.iadr 1 t1 t16 fun t126 =>
   p.load false 1 t126 H fun t127 =>
   p.cvI .i64 t127 fun t128 =>
   p.fill [i0] [(0, 1, t128)] fun ct129 => p.newSl 1 1 ct129 true H fun t129 H =>
   p.app 1 8 t123 t129 H fun t130 H =>
   p.fs 24 t5 1 t130 H fun H =>
   p.bin .add t16 (si 1) fun t121 =>
   Pp p n  k m t1 t4 t5 t6 t121 H)
   (Po p n  k n t1 t4 t5 t6 H)
noncomputable def f63 (n : Nat) (a0 a1 : AV) (H : Ac) (k : KO β) : Option β :=
 p.new Ep H fun t4 H =>
 p.bin .quo a0 (si 16) fun t21 =>
 p.fill Ep [(0, 1, t21)] fun ct22 =>
 p.new Ep H fun t5 H =>
 p.store 25 t5 (.agg ct22) H fun H =>
 p.fl 0 t5 1 H fun t24 =>
 p.bin .eql t24 (si 1) fun t25 =>
 p.cond t25
 (p.ca 59 86 [a1] H fun t27 H =>
 p.store 25 t4 t27 H fun H =>
 p.load true 25 t4 H fun r0 =>
 k r0 H)
 (p.fadr 0 t5 fun t28 =>
 p.load false 1 t28 H fun t29 =>
 p.bin .eql t29 (si 2) fun t30 =>
 p.kT t30 H a1 fun t32 H =>
 p.gT t30 H (p.len t32) fun t33 H =>
 p.gT t30 H (p.bin .eql t33 (si 2)) fun t34 H =>
 p.pick t30 t34 bF fun t35 =>
 p.cond t35
 (p.iadr 1 a1 i0 fun t37 =>
 p.load false 1 t37 H fun t38 =>
 p.bin .eql t38 (su 1) fun t39 =>
 p.fs 21 t5 1 t39 H fun H =>
 p.iadr 1 a1 (si 1) fun t42 =>
 p.load false 1 t42 H fun t43 =>
 p.cvI .i64 t43 fun t44 =>
 p.fs 20 t5 1 t44 H fun H =>
 p.load true 25 t5 H fun t46 =>
 p.store 25 t4 t46 H fun H =>
 p.load true 25 t4 H fun r0 =>
 k r0 H)
 (p.fadr 0 t5 fun t47 =>
 p.load false 1 t47 H fun t48 =>
 p.bin .eql t48 (si 3) fun t49 =>
 p.cond t49
 (p.bin .and a0 (si 8) fun t51 =>
 p.bin .gtr t51 i0 fun t52 =>
 p.fs 1 t5 1 t52 H fun H =>
 p.bin .shr a0 (.sc (.int .u64 1)) fun t55 =>
 p.bin .and t55 (si 3) fun t56 =>
 p.fs 2 t5 1 t56 H fun H =>
 p.bin .and a0 (si 1) fun t59 =>
 p.bin .gtr t59 i0 fun t60 =>
 p.fs 3 t5 1 t60 H fun H =>
 p.ca 108 87 [a1, i0] H fun t64 H =>
 p.extr t64 0 fun t65 =>
 p.extr t64 1 fun t66 =>
 p.extr t64 2 fun t67 =>
 p.un .not t67 fun t69 =>
 p.cond t69
 (p.fill Ep [] fun ct70 =>
 p.store 25 t4 (.agg ct70) H fun H =>
 p.load true 25 t4 H fun r0 =>
 k r0 H)
 (p.fadr 5 t5 fun t72 =>
 p.store 1 t72 t65 H fun H =>
 p.fl 2 t5 1 H fun t75 =>
 p.bin .gtr t75 i0 fun t76 =>
 E1 (fun (t1 t4 t5 t6 : AV) (H : Ac) => p.slice 1 t1 (some t6) none fun t93 =>
 p.app 1 1 .nl t93 H fun t94 H =>
 p.fs 6 t5 1 t94 H fun H =>
 p.load true 25 t5 H fun t96 =>
 p.store 25 t4 t96 H fun H =>
 p.load true 25 t4 H fun r0 =>
 k r0 H) fun j1 =>
 p.cond t76
 (p.ca 110 88 [a1, t66] H fun t80 H =>
 p.extr t80 0 fun t81 =>
 p.extr t80 1 fun t82 =>
 p.extr t80 2 fun t83 =>
 p.un .not t83 fun t85 =>
 p.cond t85
 (p.fill Ep [] fun ct86 =>
 p.store 25 t4 (.agg ct86) H fun H =>
 p.load true 25 t4 H fun r0 =>
 k r0 H)
 (p.fadr 4 t5 fun t88 =>
 p.store 1 t88 t81 H fun H =>
 j1 a1 t4 t5 t82 H))
 (j1 a1 t4 t5 t66 H)))
 (p.fadr 0 t5 fun t97 =>
 p.load false 1 t97 H fun t98 =>
 p.bin .lss t98 (si 12) fun t99 =>
 E1 (fun (t1 t4 t5 t6 : AV) (H : Ac) => p.fadr 0 t5 fun t112 =>
 p.load false 1 t112 H fun t113 =>
 p.bin .eql t113 (si 9) fun t114 =>
 E1 (fun (t1 t4 t5 t6 : AV) (H : Ac) => Po p n  k n t1 t4 t5 t6 H) fun j3 =>
 p.cond t114
 (Pp p n  k n t1 t4 t5 t6 t6 H)
 (j3 t1 t4 t5 t6 H)) fun j2 =>
 p.cond t99
 (p.ca 110 88 [a1, i0] H fun t102 H =>
 p.extr t102 0 fun t103 =>
 p.extr t102 1 fun t104 =>
 p.extr t102 2 fun t105 =>
 p.un .not t105 fun t107 =>
 p.cond t107
 (p.fill Ep [] fun ct108 =>
 p.store 25 t4 (.agg ct108) H fun H =>
 p.load true 25 t4 H fun r0 =>
 k r0 H)
 (p.fadr 4 t5 fun t110 =>
 p.store 1 t110 t103 H fun H =>
 j2 a1 t4 t5 t104 H))
 (j2 a1 t4 t5 i0 H))))
noncomputable def AbI (p : Pr β) (n : Nat)  (k : KO β) (m : Nat) (tm : Tm) (H : Ac) : Option β :=
 Dw 186 (fun tm H k => Ak As p o63 186 n (cd c63 [1, 1, 1, 1, 1, 1, 1, 1, 0, 0, 0]) tm H k) (Ez 2 (Eg (fun tm H => Ak As p o63 186 n (cd c63 [1, 1, 1, 1, 1, 1, 1, 1, 1]) tm H (Cp As p fi63.results k)) (Cp As p fi63.results k))) m tm H
noncomputable def AfX (p : Pr β) (n : Nat)  (k : KO β) (m : Nat) (tm : Tm) (H : Ac) : Option β :=
 Dw 186 (fun tm H k => Ak As p o63 186 n (cd c63 [1, 1, 1, 1, 1, 1, 1, 0, 1, 1, 1, 0, 0]) tm H k) (Ez 0 (Eg (fun tm H => Ak As p o63 186 n (cd c63 [1, 1, 1, 1, 1, 1, 1, 1]) tm H (Cp As p fi63.results k)) (Cp As p fi63.results k))) m tm H
theorem X2 (p : Pr β) (n : Nat)  (k : KO β) (m0 : Nat) : ∀ (t : Nat → AV) (H : Ac), AbI p n  k m0 (tf 186 0 t) H = Po p n  k m0 (t 1) (t 4) (t 5) (t 6) H := by
 induction m0 with
 | zero => intros; rfl
 | succ m0 ih =>
  intro t H
  refine Eq.trans (Bq (nt := 186) (m := m0) (g := fun t H => Po p n  k m0 (t 1) (t 4) (t 5) (t 6) H) ih rfl) ?_
  kernel_rfl
theorem Aaz (p : Pr β) (n : Nat)  (k : KO β) (m1 : Nat) (t : Nat → AV) (H : Ac) : Ak As p o63 186 n (cd c63 [1, 1, 1, 1, 1, 1, 1, 0, 1, 1, 1, 0, 0]) (tf 186 0 t) H (Eg (fun tm H => Pp p n  k m1 (gt tm 1) (gt tm 4) (gt tm 5) (gt tm 6) (gt tm 16) H) (Ez 0 (Eg (fun tm H => Ak As p o63 186 n (cd c63 [1, 1, 1, 1, 1, 1, 1, 1]) tm H (Cp As p fi63.results k)) (Cp As p fi63.results k)))) =
 p.len (t 1) fun t118 =>
 p.bin .lss (t 16) t118 fun t119 =>
 p.cond t119
 (p.fadr 24 (t 5) fun t122 =>
 p.load false 1 t122 H fun t123 =>
 p.iadr 1 (t 1) (t 16) fun t126 =>
 p.load false 1 t126 H fun t127 =>
 p.cvI .i64 t127 fun t128 =>
 p.fill [i0] [(0, 1, t128)] fun ct129 => p.newSl 1 1 ct129 true H fun t129 H =>
 p.app 1 8 t123 t129 H fun t130 H =>
 p.fadr 24 (t 5) fun t131 =>
 p.store 1 t131 t130 H fun H =>
 p.bin .add (t 16) (si 1) fun t121 =>
 Pp p n  k m1 (t 1) (t 4) (t 5) (t 6) t121 H)
 (AbI p n  k n (tf 186 0 (ud [(116, (t 16)), (117, (t 1)), (118, t118), (119, t119)] t)) H) := by kernel_rfl
theorem Aep (p : Pr β) (n : Nat)  (k : KO β) (m1 : Nat) : ∀ (t : Nat → AV) (H : Ac), AfX p n  k m1 (tf 186 0 t) H = Pp p n  k m1 (t 1) (t 4) (t 5) (t 6) (t 16) H := by
 induction m1 with
 | zero => intros; rfl
 | succ m1 ih =>
  intro t H
  refine Eq.trans (Bq (nt := 186) (m := m1) (g := fun t H => Pp p n  k m1 (t 1) (t 4) (t 5) (t 6) (t 16) H) ih rfl) ?_
  refine Eq.trans (Aaz p n  k m1 t H) ?_
  simp only [X2]
  kernel_rfl
theorem Ajg (p : Pr β) (n : Nat) (a0 a1 : AV) (H : Ac) (k : KO β) : Cj As p n fi63 [a0, a1] H k =
 p.new Ep H fun t4 H =>
 p.bin .quo a0 (si 16) fun t21 =>
 p.fill Ep [(0, 1, t21)] fun ct22 =>
 p.new Ep H fun t5 H =>
 p.store 25 t5 (.agg ct22) H fun H =>
 p.fadr 0 t5 fun t23 =>
 p.load false 1 t23 H fun t24 =>
 p.bin .eql t24 (si 1) fun t25 =>
 p.cond t25
 (p.call 59 (.fn 86 [] []) [a1] H fun t27 H =>
 p.store 25 t4 t27 H fun H =>
 p.load true 25 t4 H fun r0 =>
 k r0 H)
 (p.fadr 0 t5 fun t28 =>
 p.load false 1 t28 H fun t29 =>
 p.bin .eql t29 (si 2) fun t30 =>
 p.kT t30 H a1 fun t32 H =>
 p.gT t30 H (p.len t32) fun t33 H =>
 p.gT t30 H (p.bin .eql t33 (si 2)) fun t34 H =>
 p.pick t30 t34 bF fun t35 =>
 p.cond t35
 (p.iadr 1 a1 i0 fun t37 =>
 p.load false 1 t37 H fun t38 =>
 p.bin .eql t38 (su 1) fun t39 =>
 p.fadr 21 t5 fun t40 =>
 p.store 1 t40 t39 H fun H =>
 p.iadr 1 a1 (si 1) fun t42 =>
 p.load false 1 t42 H fun t43 =>
 p.cvI .i64 t43 fun t44 =>
 p.fadr 20 t5 fun t45 =>
 p.store 1 t45 t44 H fun H =>
 p.load true 25 t5 H fun t46 =>
 p.store 25 t4 t46 H fun H =>
 p.load true 25 t4 H fun r0 =>
 k r0 H)
 (p.fadr 0 t5 fun t47 =>
 p.load false 1 t47 H fun t48 =>
 p.bin .eql t48 (si 3) fun t49 =>
 p.cond t49
 (p.bin .and a0 (si 8) fun t51 =>
 p.bin .gtr t51 i0 fun t52 =>
 p.fadr 1 t5 fun t53 =>
 p.store 1 t53 t52 H fun H =>
 p.bin .shr a0 (.sc (.int .u64 1)) fun t55 =>
 p.bin .and t55 (si 3) fun t56 =>
 p.fadr 2 t5 fun t57 =>
 p.store 1 t57 t56 H fun H =>
 p.bin .and a0 (si 1) fun t59 =>
 p.bin .gtr t59 i0 fun t60 =>
 p.fadr 3 t5 fun t61 =>
 p.store 1 t61 t60 H fun H =>
 p.call 108 (.fn 87 [] []) [a1, i0] H fun t64 H =>
 p.extr t64 0 fun t65 =>
 p.extr t64 1 fun t66 =>
 p.extr t64 2 fun t67 =>
 p.un .not t67 fun t69 =>
 p.cond t69
 (p.fill Ep [] fun ct70 =>
 p.store 25 t4 (.agg ct70) H fun H =>
 p.load true 25 t4 H fun r0 =>
 k r0 H)
 (p.fadr 5 t5 fun t72 =>
 p.store 1 t72 t65 H fun H =>
 p.fadr 2 t5 fun t74 =>
 p.load false 1 t74 H fun t75 =>
 p.bin .gtr t75 i0 fun t76 =>
 E1 (fun (t : Nat → AV) (H : Ac) => p.slice 1 (t 1) (some (t 6)) none fun t93 =>
 p.app 1 1 .nl t93 H fun t94 H =>
 p.fadr 6 (t 5) fun t95 =>
 p.store 1 t95 t94 H fun H =>
 p.load true 25 (t 5) H fun t96 =>
 p.store 25 (t 4) t96 H fun H =>
 p.load true 25 (t 4) H fun r0 =>
 k r0 H) fun j1 =>
 p.cond t76
 (p.call 110 (.fn 88 [] []) [a1, t66] H fun t80 H =>
 p.extr t80 0 fun t81 =>
 p.extr t80 1 fun t82 =>
 p.extr t80 2 fun t83 =>
 p.un .not t83 fun t85 =>
 p.cond t85
 (p.fill Ep [] fun ct86 =>
 p.store 25 t4 (.agg ct86) H fun H =>
 p.load true 25 t4 H fun r0 =>
 k r0 H)
 (p.fadr 4 t5 fun t88 =>
 p.store 1 t88 t81 H fun H =>
 j1 (ud [(0, a0), (1, a1), (4, t4), (5, t5), (6, t82), (7, t65), (8, t66), (9, t67), (10, t81), (11, t82), (12, t83), (20, a0), (21, t21), (22, (.agg ct22)), (23, t23), (24, t24), (25, t25), (28, t28), (29, t29), (30, t30), (31, t30), (32, t32), (33, t33), (34, t34), (35, t35), (47, t47), (48, t48), (49, t49), (50, a0), (51, t51), (52, t52), (53, t53), (54, a0), (55, t55), (56, t56), (57, t57), (58, a0), (59, t59), (60, t60), (61, t61), (62, t64), (63, a1), (64, t64), (65, t65), (66, t66), (67, t67), (68, t67), (69, t69), (71, t65), (72, t72), (73, t66), (74, t74), (75, t75), (76, t76), (77, t80), (78, a1), (79, t66), (80, t80), (81, t81), (82, t82), (83, t83), (84, t83), (85, t85), (87, t81), (88, t88), (89, t82)] ut) H))
 (j1 (ud [(0, a0), (1, a1), (4, t4), (5, t5), (6, t66), (7, t65), (8, t66), (9, t67), (20, a0), (21, t21), (22, (.agg ct22)), (23, t23), (24, t24), (25, t25), (28, t28), (29, t29), (30, t30), (31, t30), (32, t32), (33, t33), (34, t34), (35, t35), (47, t47), (48, t48), (49, t49), (50, a0), (51, t51), (52, t52), (53, t53), (54, a0), (55, t55), (56, t56), (57, t57), (58, a0), (59, t59), (60, t60), (61, t61), (62, t64), (63, a1), (64, t64), (65, t65), (66, t66), (67, t67), (68, t67), (69, t69), (71, t65), (72, t72), (73, t66), (74, t74), (75, t75), (76, t76)] ut) H)))
 (p.fadr 0 t5 fun t97 =>
 p.load false 1 t97 H fun t98 =>
 p.bin .lss t98 (si 12) fun t99 =>
 E1 (fun (t : Nat → AV) (H : Ac) => p.fadr 0 (t 5) fun t112 =>
 p.load false 1 t112 H fun t113 =>
 p.bin .eql t113 (si 9) fun t114 =>
 E1 (fun (t : Nat → AV) (H : Ac) => AbI p n  k n (tf 186 0 t) H) fun j3 =>
 p.cond t114
 (AfX p n  k n (tf 186 0 (ud [(16, (t 6)), (112, t112), (113, t113), (114, t114), (115, (t 6))] t)) H)
 (j3 (ud [(112, t112), (113, t113), (114, t114)] t) H)) fun j2 =>
 p.cond t99
 (p.call 110 (.fn 88 [] []) [a1, i0] H fun t102 H =>
 p.extr t102 0 fun t103 =>
 p.extr t102 1 fun t104 =>
 p.extr t102 2 fun t105 =>
 p.un .not t105 fun t107 =>
 p.cond t107
 (p.fill Ep [] fun ct108 =>
 p.store 25 t4 (.agg ct108) H fun H =>
 p.load true 25 t4 H fun r0 =>
 k r0 H)
 (p.fadr 4 t5 fun t110 =>
 p.store 1 t110 t103 H fun H =>
 j2 (ud [(0, a0), (1, a1), (4, t4), (5, t5), (6, t104), (13, t103), (14, t104), (15, t105), (20, a0), (21, t21), (22, (.agg ct22)), (23, t23), (24, t24), (25, t25), (28, t28), (29, t29), (30, t30), (31, t30), (32, t32), (33, t33), (34, t34), (35, t35), (47, t47), (48, t48), (49, t49), (97, t97), (98, t98), (99, t99), (100, t102), (101, a1), (102, t102), (103, t103), (104, t104), (105, t105), (106, t105), (107, t107), (109, t103), (110, t110), (111, t104)] ut) H))
 (j2 (ud [(0, a0), (1, a1), (4, t4), (5, t5), (6, i0), (20, a0), (21, t21), (22, (.agg ct22)), (23, t23), (24, t24), (25, t25), (28, t28), (29, t29), (30, t30), (31, t30), (32, t32), (33, t33), (34, t34), (35, t35), (47, t47), (48, t48), (49, t49), (97, t97), (98, t98), (99, t99)] ut) H)))) := by kernel_rfl
theorem AfY : Kb fi63 @f63 := fun p n a0 a1 H k => by
 rw [Ajg]
 simp only [X2, Aep]
 kernel_rfl
noncomputable def f95 (n : Nat) (a0 a1 : AV) (H : Ac) (k : KO β) : Option β :=
 p.app 1 1 .nl a0 H fun t7 H =>
 p.bin .shr a1 (.sc (.int .u64 8)) fun t9 =>
 p.bin .and t9 (si 255) fun t10 =>
 p.cvI .u8 t10 fun t11 =>
 p.bin .and a1 (si 255) fun t13 =>
 p.cvI .u8 t13 fun t14 =>
 p.fill [(su 0), (su 0)] [(0, 1, t11), (1, 1, t14)] fun ct15 => p.newSl 2 1 ct15 true H fun t15 H =>
 p.app 1 1 t7 t15 H fun t16 H =>
 k t16 H
theorem AgG : Kb An0 @f95 := fun p n a0 a1 H k => by kernel_rfl
noncomputable def f93 (n : Nat) (a0 a1 : AV) (H : Ac) (k : KO β) : Option β :=
 p.ca 4 80 [a1] H fun t6 H =>
 p.un .not t6 fun t7 =>
 p.cond t7
 (p.app 1 1 .nl a0 H fun t10 H =>
 k t10 H)
 (p.lenS a1 fun t13 =>
 p.ca 22 95 [a0, t13] H fun t14 H =>
 p.appS 1 t14 a1 H fun t16 H =>
 k t16 H)
theorem AgE : Kb Anx @f93 := fun p n a0 a1 H k => by kernel_rfl
noncomputable def f94 (n : Nat) (a0 a1 : AV) (H : Ac) (k : KO β) : Option β :=
 p.cond a0
 (k a1 H)
 (k i0 H)
theorem AgF : Kb Anz @f94 := fun p n a0 a1 H k => by kernel_rfl
noncomputable def f96 (n : Nat) (a0 a1 : AV) (H : Ac) (k : KO β) : Option β :=
 p.len a1 fun t6 =>
 p.bin .gtr t6 (si 60) fun t7 =>
 p.cond t7
 (p.app 1 1 .nl a0 H fun t10 H =>
 k t10 H)
 (p.len a1 fun t13 =>
 p.ca 22 95 [a0, t13] H fun t14 H =>
 p.app 1 1 t14 a1 H fun t16 H =>
 k t16 H)
theorem AgH : Kb An1 @f96 := fun p n a0 a1 H k => by kernel_rfl
noncomputable def Ps (p : Pr β) (n : Nat)  (k : KO β) : Nat → AV → KO β
 | 0, _, _, _ => none
 | m + 1, t1, t5, H => p.bin .gtr t1 (si 127) fun t14 =>
   p.cond t14
   (p.bin .rem t1 (si 128) fun t17 =>
   p.bin .add (si 128) t17 fun t18 =>
   p.cvI .u8 t18 fun t19 =>
   p.fill [(su 0)] [(0, 1, t19)] fun ct20 => p.newSl 1 1 ct20 true H fun t20 H =>
   p.app 1 1 t5 t20 H fun t21 H =>
   p.bin .quo t1 (si 128) fun t23 =>
   Ps p n  k m t23 t21 H)
   (p.cvI .u8 t1 fun t26 =>
   p.fill [(su 0)] [(0, 1, t26)] fun ct27 => p.newSl 1 1 ct27 true H fun t27 H =>
   p.app 1 1 t5 t27 H fun t28 H =>
   k t28 H)
noncomputable def f97 (n : Nat) (a0 a1 : AV) (H : Ac) (k : KO β) : Option β :=
 p.app 1 1 .nl a0 H fun t8 H =>
 p.ca 4 81 [a1, i0, (si 268435455)] H fun t10 H =>
 p.un .not t10 fun t11 =>
 p.cond t11
 (k t8 H)
 (Ps p n  k n a1 t8 H)
noncomputable def AgI (p : Pr β) (n : Nat)  (k : KO β) (m : Nat) (tm : Tm) (H : Ac) : Option β :=
 Dw 29 (fun tm H k => Ak As p [] 29 n (cd c97 [1, 1, 1, 0, 0, 0]) tm H k) (Ez 0 (Eg (fun tm H => Ak As p [] 29 n (cd c97 [1, 1, 1, 1]) tm H (Cp As p fi97.results k)) (Cp As p fi97.results k))) m tm H
theorem Ae1 (p : Pr β) (n : Nat)  (k : KO β) (m0 : Nat) : ∀ (t : Nat → AV) (H : Ac), AgI p n  k m0 (tf 29 0 t) H = Ps p n  k m0 (t 1) (t 5) H := by
 induction m0 with
 | zero => intros; rfl
 | succ m0 ih =>
  intro t H
  refine Eq.trans (Bq (nt := 29) (m := m0) (g := fun t H => Ps p n  k m0 (t 1) (t 5) H) ih rfl) ?_
  kernel_rfl
theorem Ajq (p : Pr β) (n : Nat) (a0 a1 : AV) (H : Ac) (k : KO β) : Cj As p n fi97 [a0, a1] H k =
 p.app 1 1 .nl a0 H fun t8 H =>
 p.call 4 (.fn 81 [] []) [a1, i0, (si 268435455)] H fun t10 H =>
 p.un .not t10 fun t11 =>
 p.cond t11
 (k t8 H)
 (AgI p n  k n (tf 29 0 (ud [(0, a0), (1, a1), (4, .nl), (5, t8), (6, .nl), (7, a0), (8, t8), (9, a1), (10, t10), (11, t11)] ut)) H) := by kernel_rfl
theorem AgJ : Kb fi97 @f97 := fun p n a0 a1 H k => by
 rw [Ajq]
 simp only [Ae1]
 kernel_rfl
end
end Go.Proofs.YtlcpigdmekgajaaGreatDoor.Abs
